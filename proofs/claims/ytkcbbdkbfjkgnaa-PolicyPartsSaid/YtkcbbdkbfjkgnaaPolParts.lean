/- The walk of the law PolicyParts. -/
import Derived.Test.YtkcbbdkbfjkgnaaPolMay
import Derived.Deep.RegionHeld3
import Derived.Deep.DeepCutAuto
namespace Go.Proofs.Ytkcbbdkbfjkgnaa
open Go.RowKit
set_option linter.unusedSimpArgs false

set_option maxHeartbeats 1000000 in
theorem policyParts_bad (rs : List Int) (p a b : Int) (w : World) (hl : rs.length = 8) (ho : okConf rs = false) :
    Calls Try.prog 5 #[.agg (confCells rs), .int .i64 p, .int .i64 a, .int .i64 b] w (Yes w) := by
  have hcs : (confCells rs).size = 8 := by rw [conf_size, hl]
  have HC := check_any rs
  rw [ho] at HC
  have HC := hide fun w => HC w hl
  clear hl ho
  go_enter Try.func5, Try.ntmps5
  go_wp2_with fail
  rw [agg8 _ hcs]
  refine ((unhid_ HC) _).mono ?_
  rintro e w1 ⟨rfl, rfl⟩
  go_wp2_with fail
  refine (awake_any _).mono ?_
  rintro e w1 ⟨rfl, hbw⟩
  go_wp2
  go_ret
  exact yes_mk rfl ((((Below.refl _ _).alloc (Nat.le_refl _) _).alloc (by simp) _).trans (hbw.mono (by simp; omega)))

theorem below_more {B : Nat} {W w' : World} (h : Below B W w') (hB : B ≤ W.heap.size) (o : Obj) : Below B W (w'.alloc o) := h.alloc (Nat.le_trans hB h.size) o

theorem below_W {w W v : World} {a b : Obj} (hW : W = (w.alloc a).alloc b) (h : Below (w.heap.size + 1) W v) : Below w.heap.size w v := by
  subst hW
  exact (((Below.refl _ _).alloc (Nat.le_refl _) _).alloc (by simp) _).trans (h.mono (by omega))

/-- none of the sources is refused -/
def clearAll (r : Int) (l : List Int) : Bool := l.all fun s => bits .and .i64 r (bitsN [s]) == 0
theorem clearAll_step (r : Int) (l : List Int) (j : Nat) (h : j < l.length) : clearAll r (l.take (j + 1)) = (clearAll r (l.take j) && (bits .and .i64 r (bitsN [l[j]]) == 0)) := by
  rw [clearAll, List.take_succ_eq_append_getElem h, List.all_append]
  simp [clearAll]
theorem sel_mem (x : Nat) (j : Nat) (h : j < (selTo x 8).length) : ∃ m : Nat, (selTo x 8)[j] = (m : Int) ∧ m < 8 := by
  have := List.getElem_mem h
  unfold selTo at this
  obtain ⟨m, hm, e⟩ := List.mem_map.1 this
  rw [List.mem_filter, List.mem_range] at hm
  exact ⟨m, e.symm, hm.1⟩
theorem sel_bits (x : Nat) : ∀ sl, selTo x 8 = sl → ∀ j (h : j < sl.length), ∃ m : Nat, sl[j] = (m : Int) ∧ m < 8 := by
  rintro sl rfl j h
  exact sel_mem x j h
theorem bits_single (m : Nat) (h : m < 8) : bitsN [(m : Int)] = ((2 ^ m : Nat) : Int) ∧ goodAll [(m : Int)] = true := by
  have hg : good (m : Int) = true := by rw [good_iff]; omega
  simp [bitsN, goodAll, hg, orN]
theorem clearAll_sel (r : Int) (x : Nat) (hx : x < 256) : clearAll r (selTo x 8) = (bits .and .i64 r x == 0) := by
  rw [and_sel_zero r x hx, clearAll, selTo, List.all_map]
  apply Bool.eq_iff_iff.2
  rw [List.all_eq_true, List.all_eq_true]
  have key : ∀ s ∈ (List.range 8).filter (bitAt x), ((fun s => bits .and .i64 r (bitsN [s]) == 0) ∘ Int.ofNat) s = !(natOf r).testBit s := by
    intro s hs
    rw [List.mem_filter, List.mem_range] at hs
    show (bits .and .i64 r (bitsN [(s : Int)]) == 0) = _
    rw [(bits_single s hs.1).1, and_pow_zero r s hs.1]
  exact ⟨fun h s hs => (key s hs) ▸ h s hs, fun h s hs => (key s hs).symm ▸ h s hs⟩

set_option maxHeartbeats 1000000 in
theorem policyParts_good (rs : List Int) (p a b : Int) (w : World) (hl : rs.length = 8) (ho : okConf rs = true) :
    Calls Try.prog 5 #[.agg (confCells rs), .int .i64 p, .int .i64 a, .int .i64 b] w (Yes w) := by
  have hcs : (confCells rs).size = 8 := by rw [conf_size, hl]
  have HC := check_any rs
  rw [ho] at HC
  have HC := hide fun w => HC w hl
  have HL := Lib.hid hl
  clear hl ho
  have k0 := Int.emod_nonneg p (by omega : (8 : Int) ≠ 0)
  have k1 := Int.emod_lt_of_pos p (by omega : (0 : Int) < 8)
  obtain ⟨k, hk⟩ := Int.eq_ofNat_of_zero_le k0
  rw [hk] at k1
  have x0 := Int.emod_nonneg a (by omega : (256 : Int) ≠ 0)
  have x1 := Int.emod_lt_of_pos a (by omega : (0 : Int) < 256)
  obtain ⟨x, hx⟩ := Int.eq_ofNat_of_zero_le x0
  rw [hx] at x1
  have y0 := Int.emod_nonneg b (by omega : (256 : Int) ≠ 0)
  have y1 := Int.emod_lt_of_pos b (by omega : (0 : Int) < 256)
  obtain ⟨y, hy⟩ := Int.eq_ofNat_of_zero_le y0
  rw [hy] at y1
  have P1 := place_any p 8
  have P2 := place_any a 256
  have P3 := place_any b 256
  rw [hk] at P1
  rw [hx] at P2
  rw [hy] at P3
  have P1 := hide fun w => P1 w (by omega) (by omega)
  have P2 := hide fun w => P2 w (by omega) (by omega)
  have P3 := hide fun w => P3 w (by omega) (by omega)
  clear k0 x0 y0 hk hx hy
  have hk8 : k < 8 := by omega
  have hkl : k < rs.length := by rw [HL.out]; exact hk8
  have HM : Hid (∀ (z : Int) (w : World), Calls Try.prog 12 #[.agg (confCells rs), .int .i64 k, .int .i64 z] w fun e w' => e = .returned (.bool (bits .and .i64 rs[k] z == 0)) ∧ w.alloc (.cells (confCells rs) 33) = w') := fun z w => may_val rs k z _ HL.out hk8 rfl w
  have e0 : (bits .and .i64 rs[k] 0 == 0) = true := by rw [beq_iff_eq, bits_and_zero, show natOf 0 = 0 from by decide, Nat.and_zero]
  obtain ⟨mx, e1⟩ : ∃ mx, (bits .and .i64 rs[k] x == 0) = mx := ⟨_, rfl⟩
  obtain ⟨my, e2⟩ : ∃ my, (bits .and .i64 rs[k] y == 0) = my := ⟨_, rfl⟩
  have e3 : (bits .and .i64 rs[k] (bits .or .i64 x y) == 0) = (mx && my) := by rw [and_or_zero rs[k] x y (by omega) (by omega), e1, e2]
  obtain ⟨W, hW⟩ : ∃ W, W = (w.alloc (.cells (confCells rs) 33)).alloc (.cells (confCells rs) 33) := ⟨_, rfl⟩
  have hB : Below w.heap.size w W := by rw [hW]; exact ((Below.refl _ _).alloc (Nat.le_refl _) _).alloc (by simp) _
  have hBW : w.heap.size + 1 ≤ W.heap.size := by rw [hW]; simp
  have hC : ∀ j (hj : j < 8), W.cell? ⟨w.heap.size, j, none⟩ = some ((confCells rs)[j]'(by omega)) := by
    intro j hj
    rw [hW, World.cell?_alloc_past _ _ _ (by simp), World.cell?_alloc_new, Array.getElem?_eq_getElem (by omega)]
  have hkeep : Hid (∀ w', Below (w.heap.size + 1) W w' → (Below (w.heap.size + 1) W w' ∧ w'.cell? ⟨w.heap.size, 0, none⟩ = some ((confCells rs)[0]) ∧ w'.cell? ⟨w.heap.size, 1, none⟩ = some ((confCells rs)[1]) ∧ w'.cell? ⟨w.heap.size, 2, none⟩ = some ((confCells rs)[2]) ∧ w'.cell? ⟨w.heap.size, 3, none⟩ = some ((confCells rs)[3]) ∧ w'.cell? ⟨w.heap.size, 4, none⟩ = some ((confCells rs)[4]) ∧ w'.cell? ⟨w.heap.size, 5, none⟩ = some ((confCells rs)[5]) ∧ w'.cell? ⟨w.heap.size, 6, none⟩ = some ((confCells rs)[6]) ∧ w'.cell? ⟨w.heap.size, 7, none⟩ = some ((confCells rs)[7]))) := fun w' hq =>
    ⟨hq, (hq.cell (by simp)).trans (hC 0 (by omega)), (hq.cell (by simp)).trans (hC 1 (by omega)), (hq.cell (by simp)).trans (hC 2 (by omega)), (hq.cell (by simp)).trans (hC 3 (by omega)), (hq.cell (by simp)).trans (hC 4 (by omega)), (hq.cell (by simp)).trans (hC 5 (by omega)), (hq.cell (by simp)).trans (hC 6 (by omega)), (hq.cell (by simp)).trans (hC 7 (by omega))⟩
  clear hC
  have HW := Lib.hid hW
  clear hW
  go_enter Try.func5, Try.ntmps5
  go_wp2_with fail
  rw [agg8 _ hcs]
  refine ((unhid_ HC) _).mono ?_
  rintro e w1 ⟨rfl, rfl⟩
  go_wp2_with fail
  refine ((unhid_ P1) _).mono ?_
  rintro e w1 ⟨rfl, rfl⟩
  go_wp2_with fail
  refine ((unhid_ P2) _).mono ?_
  rintro e w1 ⟨rfl, rfl⟩
  go_wp2_with fail
  refine ((unhid_ P3) _).mono ?_
  rintro e w1 ⟨rfl, rfl⟩
  go_upto_region 5 with fail
  rw [← HW.out]
  go_cut [49] (fun s49 wx => s49 = .bool false ∧ Below (w.heap.size + 1) W wx)
  case first =>
    cases mx
    · rw [Bool.false_and] at e3
      refine wp_region_held_drew (S := (fun w' => Below (w.heap.size + 1) W w' ∧ w'.cell? ⟨w.heap.size, 0, none⟩ = some ((confCells rs)[0]) ∧ w'.cell? ⟨w.heap.size, 1, none⟩ = some ((confCells rs)[1]) ∧ w'.cell? ⟨w.heap.size, 2, none⟩ = some ((confCells rs)[2]) ∧ w'.cell? ⟨w.heap.size, 3, none⟩ = some ((confCells rs)[3]) ∧ w'.cell? ⟨w.heap.size, 4, none⟩ = some ((confCells rs)[4]) ∧ w'.cell? ⟨w.heap.size, 5, none⟩ = some ((confCells rs)[5]) ∧ w'.cell? ⟨w.heap.size, 6, none⟩ = some ((confCells rs)[6]) ∧ w'.cell? ⟨w.heap.size, 7, none⟩ = some ((confCells rs)[7]))) (by kernel_rfl) ?_ (fun hHeld => ?_)
      · ((try dsimp only); refine hkeep.out _ ?_; repeat (first | exact Below.refl _ _ | exact hHeld.1 | assumption | apply Below.drew | (refine below_more ?_ hBW _)))
      refine wpAnyH_take (i := 0) (oi := ({ dst := some 27, op := Op.load 33 (Operand.tmp 4), type := 33, pos := _, after := #[], guard := none })) (v := ?_) rfl (by kernel_rfl) (by kernel_rfl) (by kernel_rfl) (fun _ _ _ h => h) (Or.inl ⟨by rfl, ?_⟩) (by assumption) ?_
      rotate_left
      · (intro wq hSw; (try dsimp only at hSw); go_simp; try with_reducible rfl)
      try simp only [Act.put, List.setIfInBounds_toArray, List.set_cons_zero, List.set_cons_succ]
      refine wpAnyH_take (i := 1) (oi := ({ dst := some 28, op := Op.move (Operand.tmp 9), type := 3, pos := _, after := #[], guard := none })) (v := ?_) rfl (by kernel_rfl) (by kernel_rfl) (by kernel_rfl) (fun _ _ _ h => h) (Or.inl ⟨by rfl, ?_⟩) (by assumption) ?_
      rotate_left
      · (intro wq hSw; (try dsimp only at hSw); go_simp; try with_reducible rfl)
      try simp only [Act.put, List.setIfInBounds_toArray, List.set_cons_zero, List.set_cons_succ]
      refine wpAnyH_take (i := 2) (oi := ({ dst := some 29, op := Op.move (Operand.tmp 10), type := 3, pos := _, after := #[], guard := none })) (v := ?_) rfl (by kernel_rfl) (by kernel_rfl) (by kernel_rfl) (fun _ _ _ h => h) (Or.inl ⟨by rfl, ?_⟩) (by assumption) ?_
      rotate_left
      · (intro wq hSw; (try dsimp only at hSw); go_simp; try with_reducible rfl)
      try simp only [Act.put, List.setIfInBounds_toArray, List.set_cons_zero, List.set_cons_succ]
      refine wpAnyH_take (i := 3) (oi := ({ dst := some 30, op := Op.move (Operand.tmp 11), type := 3, pos := _, after := #[], guard := none })) (v := ?_) rfl (by kernel_rfl) (by kernel_rfl) (by kernel_rfl) (fun _ _ _ h => h) (Or.inl ⟨by rfl, ?_⟩) (by assumption) ?_
      rotate_left
      · (intro wq hSw; (try dsimp only at hSw); go_simp; try with_reducible rfl)
      try simp only [Act.put, List.setIfInBounds_toArray, List.set_cons_zero, List.set_cons_succ]
      refine wpAnyH_take (i := 4) (oi := ({ dst := some 31, op := Op.binOp BinOp.or 3 (Operand.tmp 29) (Operand.tmp 30) 3, type := 3, pos := _, after := #[{ on := 2, ground := Ground.data }, { on := 3, ground := Ground.data }], guard := none })) (v := ?_) rfl (by kernel_rfl) (by kernel_rfl) (by kernel_rfl) (fun _ _ _ h => h) (Or.inl ⟨by rfl, ?_⟩) (by assumption) ?_
      rotate_left
      · (intro wq hSw; (try dsimp only at hSw); go_simp; try with_reducible rfl)
      try simp only [Act.put, List.setIfInBounds_toArray, List.set_cons_zero, List.set_cons_succ]
      refine wpAnyH_take (i := 6) (oi := ({ dst := some 33, op := Op.load 33 (Operand.tmp 4), type := 33, pos := _, after := #[], guard := none })) (v := ?_) rfl (by kernel_rfl) (by kernel_rfl) (by kernel_rfl) (fun _ _ _ h => h) (Or.inl ⟨by rfl, ?_⟩) (by assumption) ?_
      rotate_left
      · (intro wq hSw; (try dsimp only at hSw); go_simp; try with_reducible rfl)
      try simp only [Act.put, List.setIfInBounds_toArray, List.set_cons_zero, List.set_cons_succ]
      refine wpAnyH_take (i := 7) (oi := ({ dst := some 34, op := Op.move (Operand.tmp 9), type := 3, pos := _, after := #[], guard := none })) (v := ?_) rfl (by kernel_rfl) (by kernel_rfl) (by kernel_rfl) (fun _ _ _ h => h) (Or.inl ⟨by rfl, ?_⟩) (by assumption) ?_
      rotate_left
      · (intro wq hSw; (try dsimp only at hSw); go_simp; try with_reducible rfl)
      try simp only [Act.put, List.setIfInBounds_toArray, List.set_cons_zero, List.set_cons_succ]
      refine wpAnyH_take (i := 8) (oi := ({ dst := some 35, op := Op.move (Operand.tmp 10), type := 3, pos := _, after := #[], guard := none })) (v := ?_) rfl (by kernel_rfl) (by kernel_rfl) (by kernel_rfl) (fun _ _ _ h => h) (Or.inl ⟨by rfl, ?_⟩) (by assumption) ?_
      rotate_left
      · (intro wq hSw; (try dsimp only at hSw); go_simp; try with_reducible rfl)
      try simp only [Act.put, List.setIfInBounds_toArray, List.set_cons_zero, List.set_cons_succ]
      refine wpAnyH_ready (rs := [5]) (by kernel_rfl) (by simp) ?_
      refine AllReadyH.cons (o := ({ dst := some 32, op := Op.call { callee := Callee.value (Operand.func 12), args := #[Operand.tmp 27, Operand.tmp 28, Operand.tmp 31], argTypes := #[33, 3, 3] }, type := 4, pos := _, after := #[{ on := 0, ground := Ground.data }, { on := 1, ground := Ground.data }, { on := 4, ground := Ground.data }], guard := none })) rfl (fun K hK => ?_) AllReadyH.nil
      go_simp
      ((try rw [agg8 _ hcs]); refine ((unhid_ HM) _ _).mono ?_; rintro e w' ⟨he, rfl⟩; simp only [e0, e1, e2, e3] at he; subst he)
      refine hK.out _ _ ?_ (fun hHeld => ?_)
      · ((try dsimp only); refine hkeep.out _ ?_; repeat (first | exact Below.refl _ _ | exact hHeld.1 | assumption | apply Below.drew | (refine below_more ?_ hBW _)))
      clear hK K
      try simp only [Act.put, List.setIfInBounds_toArray, List.set_cons_zero, List.set_cons_succ]
      refine wpAnyH_ready (rs := [9]) (by kernel_rfl) (by simp) ?_
      refine AllReadyH.cons (o := ({ dst := some 36, op := Op.call { callee := Callee.value (Operand.func 12), args := #[Operand.tmp 33, Operand.tmp 34, Operand.tmp 35], argTypes := #[33, 3, 3] }, type := 4, pos := _, after := #[{ on := 6, ground := Ground.data }, { on := 7, ground := Ground.data }, { on := 8, ground := Ground.data }, { on := 5, ground := Ground.chain }], guard := none })) rfl (fun K hK => ?_) AllReadyH.nil
      go_simp
      ((try rw [agg8 _ hcs]); refine ((unhid_ HM) _ _).mono ?_; rintro e w' ⟨he, rfl⟩; simp only [e0, e1, e2, e3] at he; subst he)
      refine hK.out _ _ ?_ (fun hHeld => ?_)
      · ((try dsimp only); refine hkeep.out _ ?_; repeat (first | exact Below.refl _ _ | exact hHeld.1 | assumption | apply Below.drew | (refine below_more ?_ hBW _)))
      clear hK K
      try simp only [Act.put, List.setIfInBounds_toArray, List.set_cons_zero, List.set_cons_succ]
      refine wpAnyH_take (i := 10) (oi := ({ dst := some 37, op := Op.move (Operand.tmp 36), type := 4, pos := _, after := #[{ on := 9, ground := Ground.data }, { on := 9, ground := Ground.chain }], guard := none })) (v := ?_) rfl (by kernel_rfl) (by kernel_rfl) (by kernel_rfl) (fun _ _ _ h => h) (Or.inl ⟨by rfl, ?_⟩) (by assumption) ?_
      rotate_left
      · (intro wq hSw; (try dsimp only at hSw); go_simp; try with_reducible rfl)
      try simp only [Act.put, List.setIfInBounds_toArray, List.set_cons_zero, List.set_cons_succ]
      refine wpAnyH_take (i := 11) (oi := ({ dst := some 38, op := Op.load 33 (Operand.tmp 4), type := 33, pos := _, after := #[{ on := 10, ground := Ground.guard }], guard := some (10, true) })) (v := undef) rfl (by kernel_rfl) (by kernel_rfl) (by kernel_rfl) (fun _ _ _ h => h) (Or.inr ⟨by rfl, rfl⟩) (by assumption) ?_
      try simp only [Act.put, List.setIfInBounds_toArray, List.set_cons_zero, List.set_cons_succ]
      refine wpAnyH_take (i := 12) (oi := ({ dst := some 39, op := Op.move (Operand.tmp 9), type := 3, pos := _, after := #[{ on := 10, ground := Ground.guard }], guard := some (10, true) })) (v := undef) rfl (by kernel_rfl) (by kernel_rfl) (by kernel_rfl) (fun _ _ _ h => h) (Or.inr ⟨by rfl, rfl⟩) (by assumption) ?_
      try simp only [Act.put, List.setIfInBounds_toArray, List.set_cons_zero, List.set_cons_succ]
      refine wpAnyH_take (i := 13) (oi := ({ dst := some 40, op := Op.move (Operand.tmp 11), type := 3, pos := _, after := #[{ on := 10, ground := Ground.guard }], guard := some (10, true) })) (v := undef) rfl (by kernel_rfl) (by kernel_rfl) (by kernel_rfl) (fun _ _ _ h => h) (Or.inr ⟨by rfl, rfl⟩) (by assumption) ?_
      try simp only [Act.put, List.setIfInBounds_toArray, List.set_cons_zero, List.set_cons_succ]
      refine wpAnyH_take (i := 14) (oi := ({ dst := some 41, op := Op.call { callee := Callee.value (Operand.func 12), args := #[Operand.tmp 38, Operand.tmp 39, Operand.tmp 40], argTypes := #[33, 3, 3] }, type := 4, pos := _, after := #[{ on := 11, ground := Ground.data }, { on := 12, ground := Ground.data }, { on := 13, ground := Ground.data }, { on := 10, ground := Ground.chain }, { on := 10, ground := Ground.guard }], guard := some (10, true) })) (v := undef) rfl (by kernel_rfl) (by kernel_rfl) (by kernel_rfl) (fun _ _ _ h => h) (Or.inr ⟨by rfl, rfl⟩) (by assumption) ?_
      try simp only [Act.put, List.setIfInBounds_toArray, List.set_cons_zero, List.set_cons_succ]
      refine wpAnyH_take (i := 15) (oi := ({ dst := some 42, op := Op.pick (Operand.tmp 37) (Operand.tmp 41) (Operand.const (Value.bool false)), type := 4, pos := _, after := #[{ on := 10, ground := Ground.data }, { on := 14, ground := Ground.data }], guard := none })) (v := ?_) rfl (by kernel_rfl) (by kernel_rfl) (by kernel_rfl) (fun _ _ _ h => h) (Or.inl ⟨by rfl, ?_⟩) (by assumption) ?_
      rotate_left
      · (intro wq hSw; (try dsimp only at hSw); go_simp; try with_reducible rfl)
      try simp only [Act.put, List.setIfInBounds_toArray, List.set_cons_zero, List.set_cons_succ]
      refine wpAnyH_take (i := 16) (oi := ({ dst := some 43, op := Op.binOp BinOp.neq 4 (Operand.tmp 32) (Operand.tmp 42) 4, type := 4, pos := _, after := #[{ on := 5, ground := Ground.data }, { on := 15, ground := Ground.data }], guard := none })) (v := ?_) rfl (by kernel_rfl) (by kernel_rfl) (by kernel_rfl) (fun _ _ _ h => h) (Or.inl ⟨by rfl, ?_⟩) (by assumption) ?_
      rotate_left
      · (intro wq hSw; (try dsimp only at hSw); go_simp; try with_reducible rfl)
      try simp only [Act.put, List.setIfInBounds_toArray, List.set_cons_zero, List.set_cons_succ]
      refine wpAnyH_take (i := 17) (oi := ({ dst := some 44, op := Op.move (Operand.tmp 43), type := 4, pos := _, after := #[{ on := 16, ground := Ground.data }, { on := 14, ground := Ground.chain }], guard := none })) (v := ?_) rfl (by kernel_rfl) (by kernel_rfl) (by kernel_rfl) (fun _ _ _ h => h) (Or.inl ⟨by rfl, ?_⟩) (by assumption) ?_
      rotate_left
      · (intro wq hSw; (try dsimp only at hSw); go_simp; try with_reducible rfl)
      try simp only [Act.put, List.setIfInBounds_toArray, List.set_cons_zero, List.set_cons_succ]
      refine wpAnyH_take (i := 18) (oi := ({ dst := some 45, op := Op.load 33 (Operand.tmp 4), type := 33, pos := _, after := #[{ on := 17, ground := Ground.guard }], guard := some (17, false) })) (v := ?_) rfl (by kernel_rfl) (by kernel_rfl) (by kernel_rfl) (fun _ _ _ h => h) (Or.inl ⟨by rfl, ?_⟩) (by assumption) ?_
      rotate_left
      · (intro wq hSw; (try dsimp only at hSw); go_simp; try with_reducible rfl)
      try simp only [Act.put, List.setIfInBounds_toArray, List.set_cons_zero, List.set_cons_succ]
      refine wpAnyH_take (i := 19) (oi := ({ dst := some 46, op := Op.move (Operand.tmp 9), type := 3, pos := _, after := #[{ on := 17, ground := Ground.guard }], guard := some (17, false) })) (v := ?_) rfl (by kernel_rfl) (by kernel_rfl) (by kernel_rfl) (fun _ _ _ h => h) (Or.inl ⟨by rfl, ?_⟩) (by assumption) ?_
      rotate_left
      · (intro wq hSw; (try dsimp only at hSw); go_simp; try with_reducible rfl)
      try simp only [Act.put, List.setIfInBounds_toArray, List.set_cons_zero, List.set_cons_succ]
      refine wpAnyH_ready (rs := [20]) (by kernel_rfl) (by simp) ?_
      refine AllReadyH.cons (o := ({ dst := some 47, op := Op.call { callee := Callee.value (Operand.func 12), args := #[Operand.tmp 45, Operand.tmp 46, Operand.const (Value.int IntKind.i64 0)], argTypes := #[33, 3, 3] }, type := 4, pos := _, after := #[{ on := 18, ground := Ground.data }, { on := 19, ground := Ground.data }, { on := 17, ground := Ground.chain }, { on := 17, ground := Ground.guard }], guard := some (17, false) })) rfl (fun K hK => ?_) AllReadyH.nil
      go_simp
      ((try rw [agg8 _ hcs]); refine ((unhid_ HM) _ _).mono ?_; rintro e w' ⟨he, rfl⟩; simp only [e0, e1, e2, e3] at he; subst he)
      refine hK.out _ _ ?_ (fun hHeld => ?_)
      · ((try dsimp only); refine hkeep.out _ ?_; repeat (first | exact Below.refl _ _ | exact hHeld.1 | assumption | apply Below.drew | (refine below_more ?_ hBW _)))
      clear hK K
      try simp only [Act.put, List.setIfInBounds_toArray, List.set_cons_zero, List.set_cons_succ]
      refine wpAnyH_take (i := 21) (oi := ({ dst := some 48, op := Op.unOp UnOp.not 4 (Operand.tmp 47), type := 4, pos := _, after := #[{ on := 20, ground := Ground.data }, { on := 17, ground := Ground.guard }], guard := some (17, false) })) (v := ?_) rfl (by kernel_rfl) (by kernel_rfl) (by kernel_rfl) (fun _ _ _ h => h) (Or.inl ⟨by rfl, ?_⟩) (by assumption) ?_
      rotate_left
      · (intro wq hSw; (try dsimp only at hSw); go_simp; try with_reducible rfl)
      try simp only [Act.put, List.setIfInBounds_toArray, List.set_cons_zero, List.set_cons_succ]
      refine wpAnyH_take (i := 22) (oi := ({ dst := some 49, op := Op.pick (Operand.tmp 44) (Operand.const (Value.bool true)) (Operand.tmp 48), type := 4, pos := _, after := #[{ on := 17, ground := Ground.data }, { on := 21, ground := Ground.data }], guard := none })) (v := ?_) rfl (by kernel_rfl) (by kernel_rfl) (by kernel_rfl) (fun _ _ _ h => h) (Or.inl ⟨by rfl, ?_⟩) (by assumption) ?_
      rotate_left
      · (intro wq hSw; (try dsimp only at hSw); go_simp; try with_reducible rfl)
      try simp only [Act.put, List.setIfInBounds_toArray, List.set_cons_zero, List.set_cons_succ]
      refine wpAnyH_done (by kernel_rfl) ?_ _
      go_wp2_with fail
      go_meet
      exact ⟨rfl, hHeld.1⟩
    · cases my
      all_goals
        simp only [Bool.true_and] at e3
        refine wp_region_held_drew (S := (fun w' => Below (w.heap.size + 1) W w' ∧ w'.cell? ⟨w.heap.size, 0, none⟩ = some ((confCells rs)[0]) ∧ w'.cell? ⟨w.heap.size, 1, none⟩ = some ((confCells rs)[1]) ∧ w'.cell? ⟨w.heap.size, 2, none⟩ = some ((confCells rs)[2]) ∧ w'.cell? ⟨w.heap.size, 3, none⟩ = some ((confCells rs)[3]) ∧ w'.cell? ⟨w.heap.size, 4, none⟩ = some ((confCells rs)[4]) ∧ w'.cell? ⟨w.heap.size, 5, none⟩ = some ((confCells rs)[5]) ∧ w'.cell? ⟨w.heap.size, 6, none⟩ = some ((confCells rs)[6]) ∧ w'.cell? ⟨w.heap.size, 7, none⟩ = some ((confCells rs)[7]))) (by kernel_rfl) ?_ (fun hHeld => ?_)
        · ((try dsimp only); refine hkeep.out _ ?_; repeat (first | exact Below.refl _ _ | exact hHeld.1 | assumption | apply Below.drew | (refine below_more ?_ hBW _)))
        refine wpAnyH_take (i := 0) (oi := ({ dst := some 27, op := Op.load 33 (Operand.tmp 4), type := 33, pos := _, after := #[], guard := none })) (v := ?_) rfl (by kernel_rfl) (by kernel_rfl) (by kernel_rfl) (fun _ _ _ h => h) (Or.inl ⟨by rfl, ?_⟩) (by assumption) ?_
        rotate_left
        · (intro wq hSw; (try dsimp only at hSw); go_simp; try with_reducible rfl)
        try simp only [Act.put, List.setIfInBounds_toArray, List.set_cons_zero, List.set_cons_succ]
        refine wpAnyH_take (i := 1) (oi := ({ dst := some 28, op := Op.move (Operand.tmp 9), type := 3, pos := _, after := #[], guard := none })) (v := ?_) rfl (by kernel_rfl) (by kernel_rfl) (by kernel_rfl) (fun _ _ _ h => h) (Or.inl ⟨by rfl, ?_⟩) (by assumption) ?_
        rotate_left
        · (intro wq hSw; (try dsimp only at hSw); go_simp; try with_reducible rfl)
        try simp only [Act.put, List.setIfInBounds_toArray, List.set_cons_zero, List.set_cons_succ]
        refine wpAnyH_take (i := 2) (oi := ({ dst := some 29, op := Op.move (Operand.tmp 10), type := 3, pos := _, after := #[], guard := none })) (v := ?_) rfl (by kernel_rfl) (by kernel_rfl) (by kernel_rfl) (fun _ _ _ h => h) (Or.inl ⟨by rfl, ?_⟩) (by assumption) ?_
        rotate_left
        · (intro wq hSw; (try dsimp only at hSw); go_simp; try with_reducible rfl)
        try simp only [Act.put, List.setIfInBounds_toArray, List.set_cons_zero, List.set_cons_succ]
        refine wpAnyH_take (i := 3) (oi := ({ dst := some 30, op := Op.move (Operand.tmp 11), type := 3, pos := _, after := #[], guard := none })) (v := ?_) rfl (by kernel_rfl) (by kernel_rfl) (by kernel_rfl) (fun _ _ _ h => h) (Or.inl ⟨by rfl, ?_⟩) (by assumption) ?_
        rotate_left
        · (intro wq hSw; (try dsimp only at hSw); go_simp; try with_reducible rfl)
        try simp only [Act.put, List.setIfInBounds_toArray, List.set_cons_zero, List.set_cons_succ]
        refine wpAnyH_take (i := 4) (oi := ({ dst := some 31, op := Op.binOp BinOp.or 3 (Operand.tmp 29) (Operand.tmp 30) 3, type := 3, pos := _, after := #[{ on := 2, ground := Ground.data }, { on := 3, ground := Ground.data }], guard := none })) (v := ?_) rfl (by kernel_rfl) (by kernel_rfl) (by kernel_rfl) (fun _ _ _ h => h) (Or.inl ⟨by rfl, ?_⟩) (by assumption) ?_
        rotate_left
        · (intro wq hSw; (try dsimp only at hSw); go_simp; try with_reducible rfl)
        try simp only [Act.put, List.setIfInBounds_toArray, List.set_cons_zero, List.set_cons_succ]
        refine wpAnyH_take (i := 6) (oi := ({ dst := some 33, op := Op.load 33 (Operand.tmp 4), type := 33, pos := _, after := #[], guard := none })) (v := ?_) rfl (by kernel_rfl) (by kernel_rfl) (by kernel_rfl) (fun _ _ _ h => h) (Or.inl ⟨by rfl, ?_⟩) (by assumption) ?_
        rotate_left
        · (intro wq hSw; (try dsimp only at hSw); go_simp; try with_reducible rfl)
        try simp only [Act.put, List.setIfInBounds_toArray, List.set_cons_zero, List.set_cons_succ]
        refine wpAnyH_take (i := 7) (oi := ({ dst := some 34, op := Op.move (Operand.tmp 9), type := 3, pos := _, after := #[], guard := none })) (v := ?_) rfl (by kernel_rfl) (by kernel_rfl) (by kernel_rfl) (fun _ _ _ h => h) (Or.inl ⟨by rfl, ?_⟩) (by assumption) ?_
        rotate_left
        · (intro wq hSw; (try dsimp only at hSw); go_simp; try with_reducible rfl)
        try simp only [Act.put, List.setIfInBounds_toArray, List.set_cons_zero, List.set_cons_succ]
        refine wpAnyH_take (i := 8) (oi := ({ dst := some 35, op := Op.move (Operand.tmp 10), type := 3, pos := _, after := #[], guard := none })) (v := ?_) rfl (by kernel_rfl) (by kernel_rfl) (by kernel_rfl) (fun _ _ _ h => h) (Or.inl ⟨by rfl, ?_⟩) (by assumption) ?_
        rotate_left
        · (intro wq hSw; (try dsimp only at hSw); go_simp; try with_reducible rfl)
        try simp only [Act.put, List.setIfInBounds_toArray, List.set_cons_zero, List.set_cons_succ]
        refine wpAnyH_ready (rs := [5]) (by kernel_rfl) (by simp) ?_
        refine AllReadyH.cons (o := ({ dst := some 32, op := Op.call { callee := Callee.value (Operand.func 12), args := #[Operand.tmp 27, Operand.tmp 28, Operand.tmp 31], argTypes := #[33, 3, 3] }, type := 4, pos := _, after := #[{ on := 0, ground := Ground.data }, { on := 1, ground := Ground.data }, { on := 4, ground := Ground.data }], guard := none })) rfl (fun K hK => ?_) AllReadyH.nil
        go_simp
        ((try rw [agg8 _ hcs]); refine ((unhid_ HM) _ _).mono ?_; rintro e w' ⟨he, rfl⟩; simp only [e0, e1, e2, e3] at he; subst he)
        refine hK.out _ _ ?_ (fun hHeld => ?_)
        · ((try dsimp only); refine hkeep.out _ ?_; repeat (first | exact Below.refl _ _ | exact hHeld.1 | assumption | apply Below.drew | (refine below_more ?_ hBW _)))
        clear hK K
        try simp only [Act.put, List.setIfInBounds_toArray, List.set_cons_zero, List.set_cons_succ]
        refine wpAnyH_ready (rs := [9]) (by kernel_rfl) (by simp) ?_
        refine AllReadyH.cons (o := ({ dst := some 36, op := Op.call { callee := Callee.value (Operand.func 12), args := #[Operand.tmp 33, Operand.tmp 34, Operand.tmp 35], argTypes := #[33, 3, 3] }, type := 4, pos := _, after := #[{ on := 6, ground := Ground.data }, { on := 7, ground := Ground.data }, { on := 8, ground := Ground.data }, { on := 5, ground := Ground.chain }], guard := none })) rfl (fun K hK => ?_) AllReadyH.nil
        go_simp
        ((try rw [agg8 _ hcs]); refine ((unhid_ HM) _ _).mono ?_; rintro e w' ⟨he, rfl⟩; simp only [e0, e1, e2, e3] at he; subst he)
        refine hK.out _ _ ?_ (fun hHeld => ?_)
        · ((try dsimp only); refine hkeep.out _ ?_; repeat (first | exact Below.refl _ _ | exact hHeld.1 | assumption | apply Below.drew | (refine below_more ?_ hBW _)))
        clear hK K
        try simp only [Act.put, List.setIfInBounds_toArray, List.set_cons_zero, List.set_cons_succ]
        refine wpAnyH_take (i := 10) (oi := ({ dst := some 37, op := Op.move (Operand.tmp 36), type := 4, pos := _, after := #[{ on := 9, ground := Ground.data }, { on := 9, ground := Ground.chain }], guard := none })) (v := ?_) rfl (by kernel_rfl) (by kernel_rfl) (by kernel_rfl) (fun _ _ _ h => h) (Or.inl ⟨by rfl, ?_⟩) (by assumption) ?_
        rotate_left
        · (intro wq hSw; (try dsimp only at hSw); go_simp; try with_reducible rfl)
        try simp only [Act.put, List.setIfInBounds_toArray, List.set_cons_zero, List.set_cons_succ]
        refine wpAnyH_take (i := 11) (oi := ({ dst := some 38, op := Op.load 33 (Operand.tmp 4), type := 33, pos := _, after := #[{ on := 10, ground := Ground.guard }], guard := some (10, true) })) (v := ?_) rfl (by kernel_rfl) (by kernel_rfl) (by kernel_rfl) (fun _ _ _ h => h) (Or.inl ⟨by rfl, ?_⟩) (by assumption) ?_
        rotate_left
        · (intro wq hSw; (try dsimp only at hSw); go_simp; try with_reducible rfl)
        try simp only [Act.put, List.setIfInBounds_toArray, List.set_cons_zero, List.set_cons_succ]
        refine wpAnyH_take (i := 12) (oi := ({ dst := some 39, op := Op.move (Operand.tmp 9), type := 3, pos := _, after := #[{ on := 10, ground := Ground.guard }], guard := some (10, true) })) (v := ?_) rfl (by kernel_rfl) (by kernel_rfl) (by kernel_rfl) (fun _ _ _ h => h) (Or.inl ⟨by rfl, ?_⟩) (by assumption) ?_
        rotate_left
        · (intro wq hSw; (try dsimp only at hSw); go_simp; try with_reducible rfl)
        try simp only [Act.put, List.setIfInBounds_toArray, List.set_cons_zero, List.set_cons_succ]
        refine wpAnyH_take (i := 13) (oi := ({ dst := some 40, op := Op.move (Operand.tmp 11), type := 3, pos := _, after := #[{ on := 10, ground := Ground.guard }], guard := some (10, true) })) (v := ?_) rfl (by kernel_rfl) (by kernel_rfl) (by kernel_rfl) (fun _ _ _ h => h) (Or.inl ⟨by rfl, ?_⟩) (by assumption) ?_
        rotate_left
        · (intro wq hSw; (try dsimp only at hSw); go_simp; try with_reducible rfl)
        try simp only [Act.put, List.setIfInBounds_toArray, List.set_cons_zero, List.set_cons_succ]
        refine wpAnyH_ready (rs := [14]) (by kernel_rfl) (by simp) ?_
        refine AllReadyH.cons (o := ({ dst := some 41, op := Op.call { callee := Callee.value (Operand.func 12), args := #[Operand.tmp 38, Operand.tmp 39, Operand.tmp 40], argTypes := #[33, 3, 3] }, type := 4, pos := _, after := #[{ on := 11, ground := Ground.data }, { on := 12, ground := Ground.data }, { on := 13, ground := Ground.data }, { on := 10, ground := Ground.chain }, { on := 10, ground := Ground.guard }], guard := some (10, true) })) rfl (fun K hK => ?_) AllReadyH.nil
        go_simp
        ((try rw [agg8 _ hcs]); refine ((unhid_ HM) _ _).mono ?_; rintro e w' ⟨he, rfl⟩; simp only [e0, e1, e2, e3] at he; subst he)
        refine hK.out _ _ ?_ (fun hHeld => ?_)
        · ((try dsimp only); refine hkeep.out _ ?_; repeat (first | exact Below.refl _ _ | exact hHeld.1 | assumption | apply Below.drew | (refine below_more ?_ hBW _)))
        clear hK K
        try simp only [Act.put, List.setIfInBounds_toArray, List.set_cons_zero, List.set_cons_succ]
        refine wpAnyH_take (i := 15) (oi := ({ dst := some 42, op := Op.pick (Operand.tmp 37) (Operand.tmp 41) (Operand.const (Value.bool false)), type := 4, pos := _, after := #[{ on := 10, ground := Ground.data }, { on := 14, ground := Ground.data }], guard := none })) (v := ?_) rfl (by kernel_rfl) (by kernel_rfl) (by kernel_rfl) (fun _ _ _ h => h) (Or.inl ⟨by rfl, ?_⟩) (by assumption) ?_
        rotate_left
        · (intro wq hSw; (try dsimp only at hSw); go_simp; try with_reducible rfl)
        try simp only [Act.put, List.setIfInBounds_toArray, List.set_cons_zero, List.set_cons_succ]
        refine wpAnyH_take (i := 16) (oi := ({ dst := some 43, op := Op.binOp BinOp.neq 4 (Operand.tmp 32) (Operand.tmp 42) 4, type := 4, pos := _, after := #[{ on := 5, ground := Ground.data }, { on := 15, ground := Ground.data }], guard := none })) (v := ?_) rfl (by kernel_rfl) (by kernel_rfl) (by kernel_rfl) (fun _ _ _ h => h) (Or.inl ⟨by rfl, ?_⟩) (by assumption) ?_
        rotate_left
        · (intro wq hSw; (try dsimp only at hSw); go_simp; try with_reducible rfl)
        try simp only [Act.put, List.setIfInBounds_toArray, List.set_cons_zero, List.set_cons_succ]
        refine wpAnyH_take (i := 17) (oi := ({ dst := some 44, op := Op.move (Operand.tmp 43), type := 4, pos := _, after := #[{ on := 16, ground := Ground.data }, { on := 14, ground := Ground.chain }], guard := none })) (v := ?_) rfl (by kernel_rfl) (by kernel_rfl) (by kernel_rfl) (fun _ _ _ h => h) (Or.inl ⟨by rfl, ?_⟩) (by assumption) ?_
        rotate_left
        · (intro wq hSw; (try dsimp only at hSw); go_simp; try with_reducible rfl)
        try simp only [Act.put, List.setIfInBounds_toArray, List.set_cons_zero, List.set_cons_succ]
        refine wpAnyH_take (i := 18) (oi := ({ dst := some 45, op := Op.load 33 (Operand.tmp 4), type := 33, pos := _, after := #[{ on := 17, ground := Ground.guard }], guard := some (17, false) })) (v := ?_) rfl (by kernel_rfl) (by kernel_rfl) (by kernel_rfl) (fun _ _ _ h => h) (Or.inl ⟨by rfl, ?_⟩) (by assumption) ?_
        rotate_left
        · (intro wq hSw; (try dsimp only at hSw); go_simp; try with_reducible rfl)
        try simp only [Act.put, List.setIfInBounds_toArray, List.set_cons_zero, List.set_cons_succ]
        refine wpAnyH_take (i := 19) (oi := ({ dst := some 46, op := Op.move (Operand.tmp 9), type := 3, pos := _, after := #[{ on := 17, ground := Ground.guard }], guard := some (17, false) })) (v := ?_) rfl (by kernel_rfl) (by kernel_rfl) (by kernel_rfl) (fun _ _ _ h => h) (Or.inl ⟨by rfl, ?_⟩) (by assumption) ?_
        rotate_left
        · (intro wq hSw; (try dsimp only at hSw); go_simp; try with_reducible rfl)
        try simp only [Act.put, List.setIfInBounds_toArray, List.set_cons_zero, List.set_cons_succ]
        refine wpAnyH_ready (rs := [20]) (by kernel_rfl) (by simp) ?_
        refine AllReadyH.cons (o := ({ dst := some 47, op := Op.call { callee := Callee.value (Operand.func 12), args := #[Operand.tmp 45, Operand.tmp 46, Operand.const (Value.int IntKind.i64 0)], argTypes := #[33, 3, 3] }, type := 4, pos := _, after := #[{ on := 18, ground := Ground.data }, { on := 19, ground := Ground.data }, { on := 17, ground := Ground.chain }, { on := 17, ground := Ground.guard }], guard := some (17, false) })) rfl (fun K hK => ?_) AllReadyH.nil
        go_simp
        ((try rw [agg8 _ hcs]); refine ((unhid_ HM) _ _).mono ?_; rintro e w' ⟨he, rfl⟩; simp only [e0, e1, e2, e3] at he; subst he)
        refine hK.out _ _ ?_ (fun hHeld => ?_)
        · ((try dsimp only); refine hkeep.out _ ?_; repeat (first | exact Below.refl _ _ | exact hHeld.1 | assumption | apply Below.drew | (refine below_more ?_ hBW _)))
        clear hK K
        try simp only [Act.put, List.setIfInBounds_toArray, List.set_cons_zero, List.set_cons_succ]
        refine wpAnyH_take (i := 21) (oi := ({ dst := some 48, op := Op.unOp UnOp.not 4 (Operand.tmp 47), type := 4, pos := _, after := #[{ on := 20, ground := Ground.data }, { on := 17, ground := Ground.guard }], guard := some (17, false) })) (v := ?_) rfl (by kernel_rfl) (by kernel_rfl) (by kernel_rfl) (fun _ _ _ h => h) (Or.inl ⟨by rfl, ?_⟩) (by assumption) ?_
        rotate_left
        · (intro wq hSw; (try dsimp only at hSw); go_simp; try with_reducible rfl)
        try simp only [Act.put, List.setIfInBounds_toArray, List.set_cons_zero, List.set_cons_succ]
        refine wpAnyH_take (i := 22) (oi := ({ dst := some 49, op := Op.pick (Operand.tmp 44) (Operand.const (Value.bool true)) (Operand.tmp 48), type := 4, pos := _, after := #[{ on := 17, ground := Ground.data }, { on := 21, ground := Ground.data }], guard := none })) (v := ?_) rfl (by kernel_rfl) (by kernel_rfl) (by kernel_rfl) (fun _ _ _ h => h) (Or.inl ⟨by rfl, ?_⟩) (by assumption) ?_
        rotate_left
        · (intro wq hSw; (try dsimp only at hSw); go_simp; try with_reducible rfl)
        try simp only [Act.put, List.setIfInBounds_toArray, List.set_cons_zero, List.set_cons_succ]
        refine wpAnyH_done (by kernel_rfl) ?_ _
        go_wp2_with fail
        go_meet
        exact ⟨rfl, hHeld.1⟩
  case rest =>
    obtain ⟨rfl, hbx⟩ := hcut
    have hbw := below_W HW.out hbx
    have hszx := hbx.size
    have HS := Lib.hid (and_sel_zero rs[k] x (by omega))
    have HB8 := hide (sel_bits x)
    go_wp2_with fail
    refine (list_any (x : Int) _).mono ?_
    rintro e wl ⟨A, c, rfl, hown, hbl⟩
    have hszl := hbl.size
    have hrl := RI.of_own hown
    have hlen := selTo_le x 8
    have hbwl := hbw.trans (hbl.mono hbw.size)
    have hbxl := hbx.trans (hbl.mono (Nat.le_trans hBW hszx))
    generalize hsl : selTo x 8 = sl at *
    have HSL := Lib.hid hsl
    clear hsl hown hbl
    go_wp2_with fail
    go_loopw [13, 14, 15, 16] (fun b i _ _ wr => ∃ j : Nat, j ≤ sl.length ∧ i = .int .i64 j ∧ b = .bool (clearAll rs[k] (sl.take j)) ∧ Below wl.heap.size wl wr) (fun _ i _ _ _ => sl.length - (intOf i).toNat)
    case atStart => exact ⟨0, Nat.zero_le _, rfl, rfl, Below.refl _ _⟩
    case round =>
      obtain ⟨j, hj, rfl, rfl, hbr⟩ := hrel
      have hszr := hbr.size
      have hq := hkeep.out _ (hbxl.trans (hbr.mono (Nat.le_trans hBW (Nat.le_trans hszx hszl))))
      obtain ⟨_, c0, c1, c2, c3, c4, c5, c6, c7⟩ := hq
      by_cases hlt : j < sl.length
      · obtain ⟨ad, rfl, hcj⟩ := RI.at_ (Reads.below hrl hbr) hlt
        obtain ⟨m, hm, hm8⟩ := unhid_ HB8 sl rfl j hlt
        have hst := Lib.hid (clearAll_step rs[k] sl j hlt)
        have hone := bits_any (wr.heap.size + 1) (some ⟨wr.heap.size, 0, none⟩) 1 1 [sl[j]] (wr.alloc (.cells #[.int .i64 sl[j]] 3)) (Reads.one _ _ _) (by omega)
        have hb1 := bits_single m hm8
        rw [hm] at hone hcj
        rw [hb1.1, hb1.2] at hone
        have HO := hide hone
        have hst2 : Hid (clearAll rs[k] (sl.take (j + 1)) = (clearAll rs[k] (sl.take j) && (bits .and .i64 rs[k] ((2 ^ m : Nat) : Int) == 0))) := by rw [hst.out, hm, hb1.1]; exact rfl
        clear hone hb1 hst hm
        have hszw : w.heap.size < wr.heap.size := by omega
        cases hca : clearAll rs[k] (sl.take j)
        · rw [hca, Bool.false_and] at hst2
          clear hca
          go_wp2_with fail
          refine (unhid_ HO).mono ?_
          rintro e w' ⟨rfl, rfl⟩
          go_wp2_with fail
          go_roundw
          case rel => exact ⟨j + 1, by omega, by go_num, by rw [hst2.out], hbr.alloc hszr _⟩
          case measure => simp [intOf]; omega
        · rw [hca, Bool.true_and] at hst2
          clear hca
          go_wp2_with fail
          refine (unhid_ HO).mono ?_
          rintro e w' ⟨rfl, rfl⟩
          go_wp2_with fail
          (try rw [agg8 _ hcs])
          refine ((unhid_ HM) _ _).mono ?_
          rintro e w' ⟨rfl, rfl⟩
          go_wp2_with fail
          go_roundw
          case rel => exact ⟨j + 1, by omega, by go_num, by rw [hst2.out]; simp, (hbr.alloc hszr _).alloc (by simp; omega) _⟩
          case measure => simp [intOf]; omega
      · have hfin : clearAll rs[k] (sl.take j) = mx := by
          rw [List.take_of_length_le (by omega), ← HSL.out, clearAll_sel _ _ (by omega), e1]
        have HF := Lib.hid hfin
        clear hfin
        have hszw : w.heap.size < wr.heap.size := by omega
        rw [HF.out]
        go_wp2_with fail
        (try rw [agg8 _ hcs])
        refine ((unhid_ HM) _ _).mono ?_
        rintro e w' ⟨rfl, rfl⟩
        have em : (mx == (bits .and .i64 rs[k] (x : Int) == 0)) = true := by rw [e1]; simp
        go_wp2_with fail
        refine (awake_any _).mono ?_
        rintro e w' ⟨rfl, hbz⟩
        go_wp2
        go_ret
        exact yes_mk rfl (((hbwl.trans (hbr.mono hbwl.size)).alloc (by omega) _).trans (hbz.mono (by simp; omega)))

theorem policyParts_any (rs : List Int) (p a b : Int) (w : World) (hl : rs.length = 8) :
    Calls Try.prog 5 #[.agg (confCells rs), .int .i64 p, .int .i64 a, .int .i64 b] w (Yes w) := by
  cases h : okConf rs
  · exact policyParts_bad rs p a b w hl h
  · exact policyParts_good rs p a b w hl h
end Go.Proofs.Ytkcbbdkbfjkgnaa
