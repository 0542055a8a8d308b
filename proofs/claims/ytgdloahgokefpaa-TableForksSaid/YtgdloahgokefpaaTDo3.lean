/- The walks of the law's do for SetNode and SetBuf. -/
import Derived.Test.YtgdloahgokefpaaTDo2
namespace Go.Proofs.Ytgdloahgokefpaa
open Go.RowKit
set_option linter.unusedSimpArgs false

theorem IsR.setN {w : World} {g : Nat} {r : Nat → RpV} (h : IsR w g r) {k : Nat} {n : Int} : IsR (w.setCell ⟨g, k * 39 + 2, none⟩ (.int .i64 n)) g (setP r k { r k with n := n }) := by
  refine h.setC (vs := [.int .i64 n]) (c := 2) rfl (by simp) fun j hj => ?_
  rw [putAt_cons, putAt_nil]
  show (if j = 2 then _ else (r k).cell j) = _
  rw [RpV.cell, RpV.cell]
  by_cases h0 : j = 2
  · subst h0; rfl
  · by_cases h1 : j = 0
    · subst h1; rfl
    · by_cases h2 : j = 1
      · subst h2; rfl
      · simp only [h0, h1, h2, if_false]

set_option maxRecDepth 100000 in
set_option maxHeartbeats 2000000 in
theorem do2_any (w : World) (B gt gr : Nat) (t : TbV) (r : Nat → RpV) (x : OpV) (hb : Bo w B gt gr t r) (hk : x.k % 10 = 2) :
    Calls Try.prog 20 #[.pointer (some ⟨gt, 0, none⟩), .pointer (some ⟨gr, 0, none⟩), x.val] w (DoT B gt gr t x w) := by
  unfold OpV.val
  have hal : Below w.heap.size w (w.alloc (.cells #[.int .i64 x.k, .int .i64 x.p, .int .i64 x.n, .int .i64 x.m, .int .i64 x.f.k, .int .i64 x.f.t, .int .i64 x.f.a, .bool x.f.w, .slice x.A x.xs.length x.c] 61)) := (Below.refl _ _).alloc (Nat.le_refl _) _
  have hbx := Blk.new w 61 #[.int .i64 x.k, .int .i64 x.p, .int .i64 x.n, .int .i64 x.m, .int .i64 x.f.k, .int .i64 x.f.t, .int .i64 x.f.a, .bool x.f.w, .slice x.A x.xs.length x.c]
  have hgt := hb.T.1.lt
  have hgr := hb.R.lt
  have hne := hb.ne
  obtain ⟨wb, hwb⟩ : ∃ wb, wb = w.alloc (.cells #[.int .i64 x.k, .int .i64 x.p, .int .i64 x.n, .int .i64 x.m, .int .i64 x.f.k, .int .i64 x.f.t, .int .i64 x.f.a, .bool x.f.w, .slice x.A x.xs.length x.c] 61) := ⟨_, rfl⟩
  have hsz : w.heap.size < wb.heap.size := by rw [hwb]; simp
  rw [← hwb] at hal hbx
  have hB2 := hb.below hal
  have hpl := place_any x.k 10 wb (by omega) (by omega)
  rw [hk] at hpl
  have HPL := hide hpl
  have HBX := hide hbx
  have HAL := hide hal
  have HBO := hide hB2
  have HWB := Lib.hid hwb
  have HK := Lib.hid hk
  have c0 : wb.cell? ⟨w.heap.size, 0, none⟩ = some (.int .i64 x.k) := (hbx).cell 0
  have c1 : wb.cell? ⟨w.heap.size, 1, none⟩ = some (.int .i64 x.p) := (hbx).cell 1
  have c2 : wb.cell? ⟨w.heap.size, 2, none⟩ = some (.int .i64 x.n) := (hbx).cell 2
  clear hal hbx hwb hb hB2 hpl hk
  go_enter Try.func20, Try.ntmps20
  go_upto_region 1 with (fail)
  rw [← HWB.out]
  go_wp2_with fail
  refine (unhid_ HPL).mono ?_
  rintro e w' ⟨rfl, rfl⟩
  have his := is_any wb gr r x.p (unhid_ HBO).R
  rw [(unhid_ HBO).M.is] at his
  have HIS := hide his
  clear his
  go_wp2_with fail
  refine (unhid_ HIS).mono ?_
  rintro e w' ⟨rfl, rfl⟩
  have hC := setNode_any wb B gt t x.p x.n (unhid_ HBO).T
  cases hh : t.has x.p with
  | false =>
    have HC := hide hC
    have hr2 : rsetN r x.p x.n = r := by unfold rsetN; rw [(unhid_ HBO).M.is, hh]; rfl
    have HR2 := Lib.hid hr2
    have HH := Lib.hid hh
    clear hC hr2 hh
    go_wp2_with fail
    refine (unhid_ HC).mono ?_
    rintro e w1 ⟨rfl, hT1, ho1⟩
    rw [HH.out]
    have HT1 := hide hT1
    have HO1 := hide ho1
    clear hT1 ho1 HC
    go_wp2
    go_ret
    obtain ⟨m1, m2⟩ := (unhid_ HBO).M.setN (unhid_ HBO).I x.p x.n
    rw [HR2.out] at m1
    exact ⟨rfl, (Only.of_below (unhid_ HAL) _).trans ((unhid_ HO1).two (Only.refl _ _)), _, _, (unhid_ HBO).mk2 (unhid_ HT1) ((unhid_ HBO).R1 (unhid_ HO1)) m1 m2 (unhid_ HO1) (Only.refl _ _), fun _ => Fr.setN _ _ _⟩
  | true =>
    obtain ⟨k, hk, hk1, hk13, _⟩ := TbV.has_nat hh
    have hp : x.p.toNat = k := by rw [hk, Int.toNat_natCast]
    rw [hk] at c1
    have hkI : (k : Int) < 13 := by omega
    have d := (unhid_ HBO).R.cell (k := k) (c := 2) hk13 (by omega)
    have f : wb.frozen? ⟨gr, k * 39 + 2, none⟩ = false := (unhid_ HBO).R.frozen _
    have HH := Lib.hid hh
    have HKK := Lib.hid hk
    have HKP := Lib.hid hp
    clear hC hh hk hp
    have ho2 : Only [gr] wb (wb.drew.setCell ⟨gr, k * 39 + 2, none⟩ (.int .i64 x.n)) := (Only.refl [gr] wb).drew.setCell (p := ⟨gr, k * 39 + 2, none⟩) (.inl (by simp)) _
    have hbx2 := ho2.blk (unhid_ HBX) (by simp; omega)
    have e1 : (wb.drew.setCell ⟨gr, k * 39 + 2, none⟩ (.int .i64 x.n)).cell? ⟨w.heap.size, 1, none⟩ = some (.int .i64 k) := by rw [← HKK.out]; exact hbx2.cell 1
    have e2 : (wb.drew.setCell ⟨gr, k * 39 + 2, none⟩ (.int .i64 x.n)).cell? ⟨w.heap.size, 2, none⟩ = some (.int .i64 x.n) := hbx2.cell 2
    have hT2 : IsT (wb.drew.setCell ⟨gr, k * 39 + 2, none⟩ (.int .i64 x.n)) B gt t := (unhid_ HBO).T.only ho2 (by simp; exact (unhid_ HBO).ne) (fun q hq => by simp at hq; subst hq; exact .inl (unhid_ HBO).rB)
    have hR2 : IsR (wb.drew.setCell ⟨gr, k * 39 + 2, none⟩ (.int .i64 x.n)) gr (setP r k { r k with n := x.n }) := IsR.setN (w := wb.drew) (unhid_ HBO).R
    have HT2 := hide hT2
    have HR2 := hide hR2
    have HO2 := hide ho2
    clear hT2 hR2 ho2 hbx2
    go_upto_region 11 with (fail)
    refine wp_region_held_drew (S := (fun W => W.cell? ⟨w.heap.size, 1, none⟩ = some (.int .i64 k) ∧ W.cell? ⟨w.heap.size, 2, none⟩ = some (.int .i64 x.n))) (by kernel_rfl) ?_ (fun hHeld => ?_)
    · exact ⟨c1, c2⟩
    refine wpAnyH_take (i := 0) (oi := ({ dst := some 80, op := Op.move (Operand.tmp 1), type := 51, pos := _, after := #[], guard := none })) (v := ?_) rfl (by kernel_rfl) (by kernel_rfl) (by kernel_rfl) (fun _ _ _ h => h) (Or.inl ⟨by rfl, ?_⟩) (by assumption) ?_
    rotate_left
    · (intro wq hSw; (try dsimp only at hSw); go_simp; try with_reducible rfl)
    try simp only [Act.put, List.setIfInBounds_toArray, List.set_cons_zero, List.set_cons_succ]
    refine wpAnyH_take (i := 1) (oi := ({ dst := some 81, op := Op.fieldAddr 61 (Operand.tmp 5) 1, type := 0, pos := _, after := #[], guard := none })) (v := ?_) rfl (by kernel_rfl) (by kernel_rfl) (by kernel_rfl) (fun _ _ _ h => h) (Or.inl ⟨by rfl, ?_⟩) (by assumption) ?_
    rotate_left
    · (intro wq hSw; (try dsimp only at hSw); go_simp; try with_reducible rfl)
    try simp only [Act.put, List.setIfInBounds_toArray, List.set_cons_zero, List.set_cons_succ]
    refine wpAnyH_take (i := 2) (oi := ({ dst := some 82, op := Op.load 3 (Operand.tmp 81), type := 3, pos := _, after := #[{ on := 1, ground := Ground.data }], guard := none })) (v := ?_) rfl (by kernel_rfl) (by kernel_rfl) (by kernel_rfl) (fun _ _ _ h => h) (Or.inl ⟨by rfl, ?_⟩) (by assumption) ?_
    rotate_left
    · (intro wq hSw; (try dsimp only at hSw); go_simp; try with_reducible rfl)
    try simp only [Act.put, List.setIfInBounds_toArray, List.set_cons_zero, List.set_cons_succ]
    refine wpAnyH_take (i := 3) (oi := ({ dst := some 83, op := Op.fieldAddr 61 (Operand.tmp 5) 2, type := 0, pos := _, after := #[], guard := none })) (v := ?_) rfl (by kernel_rfl) (by kernel_rfl) (by kernel_rfl) (fun _ _ _ h => h) (Or.inl ⟨by rfl, ?_⟩) (by assumption) ?_
    rotate_left
    · (intro wq hSw; (try dsimp only at hSw); go_simp; try with_reducible rfl)
    try simp only [Act.put, List.setIfInBounds_toArray, List.set_cons_zero, List.set_cons_succ]
    refine wpAnyH_take (i := 4) (oi := ({ dst := some 84, op := Op.load 3 (Operand.tmp 83), type := 3, pos := _, after := #[{ on := 3, ground := Ground.data }], guard := none })) (v := ?_) rfl (by kernel_rfl) (by kernel_rfl) (by kernel_rfl) (fun _ _ _ h => h) (Or.inl ⟨by rfl, ?_⟩) (by assumption) ?_
    rotate_left
    · (intro wq hSw; (try dsimp only at hSw); go_simp; try with_reducible rfl)
    try simp only [Act.put, List.setIfInBounds_toArray, List.set_cons_zero, List.set_cons_succ]
    refine wpAnyH_take (i := 5) (oi := ({ dst := some 85, op := Op.nilCheck (Operand.tmp 80), type := 0, pos := _, after := #[{ on := 0, ground := Ground.data }], guard := none })) (v := ?_) rfl (by kernel_rfl) (by kernel_rfl) (by kernel_rfl) (fun _ _ _ h => h) (Or.inl ⟨by rfl, ?_⟩) (by assumption) ?_
    rotate_left
    · (intro wq hSw; (try dsimp only at hSw); go_simp; try with_reducible rfl)
    try simp only [Act.put, List.setIfInBounds_toArray, List.set_cons_zero, List.set_cons_succ]
    refine wpAnyH_take (i := 6) (oi := ({ dst := some 86, op := Op.fieldAddr 59 (Operand.tmp 85) 0, type := 0, pos := _, after := #[{ on := 5, ground := Ground.data }], guard := none })) (v := ?_) rfl (by kernel_rfl) (by kernel_rfl) (by kernel_rfl) (fun _ _ _ h => h) (Or.inl ⟨by rfl, ?_⟩) (by assumption) ?_
    rotate_left
    · (intro wq hSw; (try dsimp only at hSw); go_simp; try with_reducible rfl)
    try simp only [Act.put, List.setIfInBounds_toArray, List.set_cons_zero, List.set_cons_succ]
    refine wpAnyH_take (i := 7) (oi := ({ dst := some 87, op := Op.indexAddr 57 (Operand.tmp 86) (Operand.tmp 82), type := 0, pos := _, after := #[{ on := 6, ground := Ground.data }, { on := 2, ground := Ground.data }, { on := 0, ground := Ground.phase }, { on := 1, ground := Ground.phase }, { on := 2, ground := Ground.phase }, { on := 3, ground := Ground.phase }, { on := 4, ground := Ground.phase }], guard := none })) (v := ?_) rfl (by kernel_rfl) (by kernel_rfl) (by kernel_rfl) (fun _ _ _ h => h) (Or.inl ⟨by rfl, ?_⟩) (by assumption) ?_
    rotate_left
    · (intro wq hSw; (try dsimp only at hSw); go_simp; try with_reducible rfl)
    try simp only [Act.put, List.setIfInBounds_toArray, List.set_cons_zero, List.set_cons_succ]
    refine wpAnyH_take (i := 8) (oi := ({ dst := some 88, op := Op.fieldAddr 56 (Operand.tmp 87) 2, type := 0, pos := _, after := #[{ on := 7, ground := Ground.data }, { on := 0, ground := Ground.phase }, { on := 1, ground := Ground.phase }, { on := 2, ground := Ground.phase }, { on := 3, ground := Ground.phase }, { on := 4, ground := Ground.phase }], guard := none })) (v := ?_) rfl (by kernel_rfl) (by kernel_rfl) (by kernel_rfl) (fun _ _ _ h => h) (Or.inl ⟨by rfl, ?_⟩) (by assumption) ?_
    rotate_left
    · (intro wq hSw; (try dsimp only at hSw); go_simp; try with_reducible rfl)
    try simp only [Act.put, List.setIfInBounds_toArray, List.set_cons_zero, List.set_cons_succ]
    refine wpAnyH_ready (rs := [9]) (by kernel_rfl) (by simp) ?_
    refine AllReadyH.cons (o := ({ dst := none, op := Op.store 3 (Operand.tmp 88) (Operand.tmp 84), type := 0, pos := _, after := #[{ on := 8, ground := Ground.data }, { on := 4, ground := Ground.data }, { on := 0, ground := Ground.phase }, { on := 1, ground := Ground.phase }, { on := 2, ground := Ground.phase }, { on := 3, ground := Ground.phase }, { on := 4, ground := Ground.phase }], guard := none })) rfl (fun K hK => ?_) AllReadyH.nil
    go_simp
    skip
    refine hK.out _ _ ?_ (fun hHeld => ?_)
    · exact ⟨e1, e2⟩
    clear hK K
    try simp only [Act.put, List.setIfInBounds_toArray, List.set_cons_zero, List.set_cons_succ]
    refine wpAnyH_done (by kernel_rfl) ?_ _
    clear d f c1 c2
    obtain ⟨w2, hw2⟩ : ∃ w2, w2 = (wb.setCell ⟨gr, k * 39 + 2, none⟩ (.int .i64 x.n)).drew := ⟨_, rfl⟩
    have hw3 : w2 = wb.drew.setCell ⟨gr, k * 39 + 2, none⟩ (.int .i64 x.n) := hw2
    rw [← hw2]
    rw [← hw3] at e1 e2 HT2 HR2 HO2
    have hC := setNode_any w2 B gt t k x.n (unhid_ HT2)
    have HC := hide hC
    clear hC hw2 hw3
    go_wp2_with fail
    refine (unhid_ HC).mono ?_
    rintro e w1 ⟨rfl, hT1, ho1⟩
    rw [← HKK.out, HH.out]
    have HT1 := hide hT1
    have HO1 := hide ho1
    clear hT1 ho1 HC
    go_wp2
    go_ret
    obtain ⟨m1, m2⟩ := (unhid_ HBO).M.setN (unhid_ HBO).I x.p x.n
    have hr2 : rsetN r x.p x.n = setP r k { r k with n := x.n } := by unfold rsetN; rw [(unhid_ HBO).M.is, HH.out, HKP.out]; rfl
    rw [hr2] at m1
    refine ⟨rfl, (Only.of_below (unhid_ HAL) _).trans (((unhid_ HO2).more (by simp)).trans ((unhid_ HO1).more (by simp))), t.setN x.p x.n, _, ⟨?_, (unhid_ HO1).blk (unhid_ HR2) (by simp; exact fun e => (unhid_ HBO).ne e.symm), m1, m2, (unhid_ HBO).rB, (unhid_ HBO).ne, Nat.le_trans (unhid_ HBO).sz (Nat.le_trans (unhid_ HO2).size (unhid_ HO1).size)⟩, fun _ => Fr.setN _ _ _⟩
    rw [HKK.out]
    exact unhid_ HT1
end Go.Proofs.Ytgdloahgokefpaa
