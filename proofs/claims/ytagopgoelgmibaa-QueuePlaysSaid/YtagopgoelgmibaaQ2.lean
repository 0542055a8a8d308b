/- The walks of Queue.Get and Queue.Put. -/
import Derived.Test.YtagopgoelgmibaaQ
import Derived.Deep.DeepCutAuto
import Derived.IntWalk
namespace Go.Proofs.Ytagopgoelgmibaa
open Go.RowKit
set_option linter.unusedSimpArgs false

theorem splice_one (L : List Int) (p : Nat) (z : Int) (h : p < L.length) : splice L p [z] = L.set p z := by
  unfold splice
  rw [List.set_eq_take_append_cons_drop, if_pos h]
  rfl
theorem run_clear_one (w : World) (ty : TypeId) (rb at_ c : Nat) (ring : List Int) (h : Blk w rb 5 (By ring)) (hat : at_ < ring.length) :
    (Builtin.clear_ #[28] ty #[.slice (some ⟨rb, at_, none⟩) 1 c]).run Try.prog w = .ok (.tuple #[]) (w.setRow rb (By (ring.set at_ 0))) := by
  obtain ⟨i0, hi, hz0, hz1, hz2⟩ := info_parts info_u8
  have hst := run_storeCells_at Try.prog rb at_ 5 [Value.int .u8 0] 0 (By ring) w h (by simp [By]; omega) (by simp [Value.oneCell'])
  have e : ((By ring).toList.take (at_ + 0) ++ [Value.int .u8 0] ++ (By ring).toList.drop (at_ + 0 + 1)).toArray = By (ring.set at_ 0) := by
    rw [By_toList, ← splice_one ring at_ 0 hat]
    simp [By, splice]
  have hst2 : (storeCells ⟨rb, at_, none⟩ [Value.int .u8 0] 0).run Try.prog w = .ok () (w.setRow rb (By (ring.set at_ 0))) := by rw [hst, ← e]; rfl
  have hzc : (Builtin.zeroCells (Value.int .u8 0).cells 1).toList = [Value.int .u8 0] := by simp [Builtin.zeroCells, Value.cells]
  simp [Builtin.clear_, run_underlying Try.underlying28, zeroValue, typeInfo, hi, hz0, hzc, hst2]

theorem step_clear_By {ops : Array Oper} {o : Oper} {a : Act} {w : World} {K : Act → World → Prop} {Q : Exit → Act → World → Prop} {E : Prop} (hgd : o.guard = none) (d : Operand) (ho : o.op = .call { callee := .builtin .clear, args := #[d], argTypes := #[28] })
    (rb at_ c : Nat) (ring : List Int) (hd : a.eval d = .slice (some ⟨rb, at_, none⟩) 1 c) (h : Blk w rb 5 (By ring)) (hat : at_ < ring.length)
    (hk : K (a.put o.dst (.tuple #[])) (w.setRow rb (By (ring.set at_ 0)))) : if Region.wanted o (yielded ops a.tmps) = true then Oper.wp Try.prog o a w K Q else E := by
  have hw : Region.wanted o (yielded ops a.tmps) = true := by simp [Region.wanted, hgd]
  rw [if_pos hw]
  have hrun := run_clear_one w o.type rb at_ c ring h hat
  unfold Oper.wp
  simp [execOp, ho, resolve, invoke, builtin, hd, hrun, Result.andThen]
  exact hk

/-- what Get leaves -/
def GotQ (g rb cap m : Nat) (B : List Int) (w : World) (e : Ending) (w' : World) : Prop :=
  e = .returned (.slice (some ⟨w.heap.size, 0, none⟩) m m) ∧ IsQ w' g rb cap (B.drop m) ∧ Blk w' w.heap.size 5 (By B) ∧ Only [g, rb] w w' ∧ w'.heap.size = w.heap.size + 1

theorem bytes_any (w : World) (g rb cap : Nat) (B : List Int) (h : IsQ w g rb cap B) :
    Calls Try.prog 17 #[.pointer (some ⟨g, 0, none⟩)] w (TellQ B w) := by
  rcases Nat.eq_zero_or_pos B.length with h0 | h0
  · obtain rfl : B = [] := List.eq_nil_of_length_eq_zero h0
    exact bytes_none w g rb cap h
  · exact bytes_some w g rb cap B h0 h

/-- the queue in the midst of a Get: its length is still that ahead -/
def MidQ (g rb cap L : Nat) (B : List Int) (w0 w : World) : Prop :=
  ∃ (ring : List Int) (at_ : Nat), Blk w g 43 #[.slice (some ⟨rb, 0, none⟩) cap cap, .int .i64 at_, .int .i64 L] ∧ Blk w rb 5 (By ring) ∧ ring.length = cap ∧ (at_ < cap ∨ at_ = 0) ∧ Holds_ ring at_ B ∧ Only [g, rb] w0 w ∧ w.heap.size = w0.heap.size

theorem MidQ.step {g rb cap L k at_ : Nat} {B ring : List Int} {w0 wr : World} (hne : g ≠ rb) (h1 : Blk wr g 43 #[.slice (some ⟨rb, 0, none⟩) cap cap, .int .i64 at_, .int .i64 L]) (h2 : Blk wr rb 5 (By ring)) (h3 : ring.length = cap)
    (hat : at_ < cap) (h5 : Holds_ ring at_ (B.drop k)) (hk : k < B.length) (hB : B.length ≤ cap) (h6 : Only [g, rb] w0 wr) (h7 : wr.heap.size = w0.heap.size) :
    MidQ g rb cap L (B.drop (k + 1)) w0 (((wr.drew.setRow rb (By (ring.set at_ 0))).setCell ⟨g, 1, none⟩ (.int .i64 (((at_ : Int) + 1) % (cap : Int)))).drew) := by
  subst h3
  rw [List.drop_eq_getElem_cons hk] at h5
  have hv : (((at_ : Int) + 1) % (ring.length : Int)) = (((at_ + 1) % ring.length : Nat) : Int) := by simp
  rw [hv]
  refine ⟨ring.set at_ 0, (at_ + 1) % ring.length, ?_, ?_, by simp, .inl (Nat.mod_lt _ (by omega)), h5.drop_ hat (by rw [List.length_drop]; omega) 0, ?_, ?_⟩
  · have := ((Blk.setRow_far (Blk.drew h1) hne (By (ring.set at_ 0))).set_ 1 (.int .i64 (((at_ + 1) % ring.length : Nat) : Int)))
    exact this
  · exact ((Blk.setRow (Blk.drew h2) (By (ring.set at_ 0))).far (p := ⟨g, 1, none⟩) (fun e => hne e.symm) _)
  · exact ((h6.drew.setRow (.inl (by simp)) _).setCell (.inl (by simp)) _).drew
  · simp [World.setRow, World.setCell, h7]

theorem MidQ.start {g rb cap : Nat} {B : List Int} {w W0 : World} {q : Nat} (h : IsQ w g rb cap B) (hW : W0 = (w.alloc (.cells (By B) 5)).drewN q) : MidQ g rb cap B.length (B.drop 0) W0 W0 := by
  subst hW
  obtain ⟨ring, at_, h1, h2, h3, h4, h5, h6, h7⟩ := h
  exact ⟨ring, at_, (h1.alloc _).drewN q, (h2.alloc _).drewN q, h3, h5, by rw [List.drop_zero]; exact h7, Only.refl _ _, rfl⟩
theorem MidQ.end_ {g rb cap m : Nat} {B : List Int} {w W0 wr : World} {q : Nat} (hne : g ≠ rb) (hW : W0 = (w.alloc (.cells (By B) 5)).drewN q) (hlt : g < w.heap.size ∧ rb < w.heap.size) (hm : m ≤ B.length) (hB : B.length ≤ cap ∧ cap ≤ 65536) (h : MidQ g rb cap B.length (B.drop m) W0 wr) :
    GotQ g rb cap m B w (.returned (.slice (some ⟨w.heap.size, 0, none⟩) m m)) (wr.setCell ⟨g, 2, none⟩ (.int .i64 ((B.length : Int) - m))) := by
  obtain ⟨ring, at_, h1, h2, h3, h4, h5, h6, h7⟩ := h
  have h0 : Only [g, rb] w W0 := by rw [hW]; exact ((Only.refl _ _).alloc _).drewN _
  have hb : Blk W0 w.heap.size 5 (By B) := by rw [hW]; exact Blk.drewN (Blk.new w 5 (By B)) q
  have hsz : W0.heap.size = w.heap.size + 1 := by rw [hW]; simp
  have hnew : w.heap.size ∉ [g, rb] := by simp; omega
  refine ⟨rfl, ⟨ring, at_, ?_, ?_, h3, ?_, h4, hB.2, h5⟩, ?_, ?_, ?_⟩
  · have := h1.set_ 2 (.int .i64 ((B.length : Int) - m))
    rw [show ((B.drop m).length : Int) = (B.length : Int) - m from by rw [List.length_drop]; omega]
    exact this
  · exact h2.far (p := ⟨g, 2, none⟩) (fun e => hne e.symm) _
  · rw [List.length_drop]; omega
  · exact (h6.blk hb hnew).far (p := ⟨g, 2, none⟩) (by simp; omega) _
  · exact (h0.trans h6).setCell (.inl (by simp)) _
  · simp [World.setCell, h7, hsz]

set_option maxHeartbeats 1000000 in
theorem get_any (w : World) (g rb cap : Nat) (B : List Int) (n : Int) (m : Nat) (hm : (m : Int) = max 0 (min n B.length)) (h : IsQ w g rb cap B) :
    Calls Try.prog 13 #[.pointer (some ⟨g, 0, none⟩), .int .i64 n] w (GotQ g rb cap m B w) := by
  have hgl := h.lt
  have hne := h.ne
  have hle := h.le
  have HB := hide (bytes_any w g rb cap B h)
  have hmle : m ≤ B.length := by omega
  have HM := Lib.hid hm
  have HH := hide h
  clear hm h
  go_enter Try.func13, Try.ntmps13
  go_wp2_with fail
  refine (unhid_ HB).mono ?_
  rintro e W0 ⟨rfl, q, hW0⟩
  have HW0 := Lib.hid hW0
  clear hW0
  go_upto_region 2 with fail
  go_cut [1] (fun s1 wx => s1 = .int .i64 (m : Int) ∧ wx = W0)
  case first =>
    go_wp2_with fail
    all_goals
      go_meet
      exact ⟨by have := HM.out; congr 1; omega, rfl⟩
  case rest =>
    obtain ⟨rfl, hwx⟩ := hcut
    have hwx2 := hwx.symm
    subst hwx2
    go_wp2_with fail
    obtain ⟨L, hL⟩ : ∃ L, L = B.length := ⟨_, rfl⟩
    have HL := Lib.hid hL
    go_loopw [6] (fun i wr => ∃ k : Nat, k ≤ m ∧ i = .int .i64 k ∧ MidQ g rb cap B.length (B.drop k) W0 wr) (fun i _ => m - (intOf i).toNat)
    case atStart => exact ⟨0, Nat.zero_le _, rfl, MidQ.start (unhid_ HH) HW0.out⟩
    case round =>
      obtain ⟨k, hk, rfl, hmid⟩ := hrel
      by_cases hlt : k < m
      · obtain ⟨ring, at_, h1, h2, h3, h4, h5, h6, h7⟩ := hmid
        have c0 : wr.cell? ⟨g, 0, none⟩ = some (.slice (some ⟨rb, 0, none⟩) cap cap) := h1.cell 0
        have c1 : wr.cell? ⟨g, 1, none⟩ = some (.int .i64 at_) := h1.cell 1
        have hatc : at_ < cap := by omega
        have hatle : at_ ≤ cap := by omega
        have hatne : ¬ cap = at_ := by omega
        have hati : (at_ : Int) + 1 ≤ (cap : Int) := by omega
        have hwr : IntKind.i64.wrap ((at_ : Int) + 1) = (at_ : Int) + 1 := IntWalk.i64_in _ (by omega)
        have hat0 : (0 : Int) ≤ (at_ : Int) + 1 := by omega
        have hcap0 : ¬ cap = 0 := by omega
        have hatr : at_ < ring.length := by omega
        have b2 := h2
        have H1 := hide h1
        have H3 := Lib.hid h3
        have H6 := hide h6
        have H2 := hide h2
        have H5 := hide h5
        have H7 := hide h7
        clear h1 h2 h3 h5 h6 h7
        go_wp2
        refine wp_region_held_drew (S := (fun w' => w'.cell? ⟨g, 0, none⟩ = some (.slice (some ⟨rb, 0, none⟩) cap cap) ∧ w'.cell? ⟨g, 1, none⟩ = some (.int .i64 at_))) (by kernel_rfl) ?_ (fun hHeld => ?_)
        · exact ⟨c0, c1⟩
        refine wpAnyH_take (i := 0) (oi := ({ dst := some 19, op := Op.move (Operand.tmp 0), type := 24, pos := _, after := #[], guard := none })) (v := ?_) rfl (by kernel_rfl) (by kernel_rfl) (by kernel_rfl) (fun _ _ _ h => h) (Or.inl ⟨by rfl, ?_⟩) (by assumption) ?_
        rotate_left
        · (intro wq hSw; (try dsimp only at hSw); go_simp; try with_reducible rfl)
        try simp only [Act.put, List.setIfInBounds_toArray, List.set_cons_zero, List.set_cons_succ]
        refine wpAnyH_take (i := 1) (oi := ({ dst := some 20, op := Op.nilCheck (Operand.tmp 19), type := 0, pos := _, after := #[{ on := 0, ground := Ground.data }], guard := none })) (v := ?_) rfl (by kernel_rfl) (by kernel_rfl) (by kernel_rfl) (fun _ _ _ h => h) (Or.inl ⟨by rfl, ?_⟩) (by assumption) ?_
        rotate_left
        · (intro wq hSw; (try dsimp only at hSw); go_simp; try with_reducible rfl)
        try simp only [Act.put, List.setIfInBounds_toArray, List.set_cons_zero, List.set_cons_succ]
        refine wpAnyH_take (i := 2) (oi := ({ dst := some 21, op := Op.fieldAddr 43 (Operand.tmp 20) 0, type := 0, pos := _, after := #[{ on := 1, ground := Ground.data }], guard := none })) (v := ?_) rfl (by kernel_rfl) (by kernel_rfl) (by kernel_rfl) (fun _ _ _ h => h) (Or.inl ⟨by rfl, ?_⟩) (by assumption) ?_
        rotate_left
        · (intro wq hSw; (try dsimp only at hSw); go_simp; try with_reducible rfl)
        try simp only [Act.put, List.setIfInBounds_toArray, List.set_cons_zero, List.set_cons_succ]
        refine wpAnyH_take (i := 3) (oi := ({ dst := some 22, op := Op.load 28 (Operand.tmp 21), type := 28, pos := _, after := #[{ on := 2, ground := Ground.data }], guard := none })) (v := ?_) rfl (by kernel_rfl) (by kernel_rfl) (by kernel_rfl) (fun _ _ _ h => h) (Or.inl ⟨by rfl, ?_⟩) (by assumption) ?_
        rotate_left
        · (intro wq hSw; (try dsimp only at hSw); go_simp; try with_reducible rfl)
        try simp only [Act.put, List.setIfInBounds_toArray, List.set_cons_zero, List.set_cons_succ]
        refine wpAnyH_take (i := 4) (oi := ({ dst := some 23, op := Op.move (Operand.tmp 0), type := 24, pos := _, after := #[], guard := none })) (v := ?_) rfl (by kernel_rfl) (by kernel_rfl) (by kernel_rfl) (fun _ _ _ h => h) (Or.inl ⟨by rfl, ?_⟩) (by assumption) ?_
        rotate_left
        · (intro wq hSw; (try dsimp only at hSw); go_simp; try with_reducible rfl)
        try simp only [Act.put, List.setIfInBounds_toArray, List.set_cons_zero, List.set_cons_succ]
        refine wpAnyH_take (i := 5) (oi := ({ dst := some 24, op := Op.nilCheck (Operand.tmp 23), type := 0, pos := _, after := #[{ on := 4, ground := Ground.data }], guard := none })) (v := ?_) rfl (by kernel_rfl) (by kernel_rfl) (by kernel_rfl) (fun _ _ _ h => h) (Or.inl ⟨by rfl, ?_⟩) (by assumption) ?_
        rotate_left
        · (intro wq hSw; (try dsimp only at hSw); go_simp; try with_reducible rfl)
        try simp only [Act.put, List.setIfInBounds_toArray, List.set_cons_zero, List.set_cons_succ]
        refine wpAnyH_take (i := 6) (oi := ({ dst := some 25, op := Op.fieldAddr 43 (Operand.tmp 24) 1, type := 0, pos := _, after := #[{ on := 5, ground := Ground.data }], guard := none })) (v := ?_) rfl (by kernel_rfl) (by kernel_rfl) (by kernel_rfl) (fun _ _ _ h => h) (Or.inl ⟨by rfl, ?_⟩) (by assumption) ?_
        rotate_left
        · (intro wq hSw; (try dsimp only at hSw); go_simp; try with_reducible rfl)
        try simp only [Act.put, List.setIfInBounds_toArray, List.set_cons_zero, List.set_cons_succ]
        refine wpAnyH_take (i := 7) (oi := ({ dst := some 26, op := Op.load 3 (Operand.tmp 25), type := 3, pos := _, after := #[{ on := 6, ground := Ground.data }], guard := none })) (v := ?_) rfl (by kernel_rfl) (by kernel_rfl) (by kernel_rfl) (fun _ _ _ h => h) (Or.inl ⟨by rfl, ?_⟩) (by assumption) ?_
        rotate_left
        · (intro wq hSw; (try dsimp only at hSw); go_simp; try with_reducible rfl)
        try simp only [Act.put, List.setIfInBounds_toArray, List.set_cons_zero, List.set_cons_succ]
        refine wpAnyH_take (i := 8) (oi := ({ dst := some 27, op := Op.move (Operand.tmp 0), type := 24, pos := _, after := #[], guard := none })) (v := ?_) rfl (by kernel_rfl) (by kernel_rfl) (by kernel_rfl) (fun _ _ _ h => h) (Or.inl ⟨by rfl, ?_⟩) (by assumption) ?_
        rotate_left
        · (intro wq hSw; (try dsimp only at hSw); go_simp; try with_reducible rfl)
        try simp only [Act.put, List.setIfInBounds_toArray, List.set_cons_zero, List.set_cons_succ]
        refine wpAnyH_take (i := 9) (oi := ({ dst := some 28, op := Op.nilCheck (Operand.tmp 27), type := 0, pos := _, after := #[{ on := 8, ground := Ground.data }], guard := none })) (v := ?_) rfl (by kernel_rfl) (by kernel_rfl) (by kernel_rfl) (fun _ _ _ h => h) (Or.inl ⟨by rfl, ?_⟩) (by assumption) ?_
        rotate_left
        · (intro wq hSw; (try dsimp only at hSw); go_simp; try with_reducible rfl)
        try simp only [Act.put, List.setIfInBounds_toArray, List.set_cons_zero, List.set_cons_succ]
        refine wpAnyH_take (i := 10) (oi := ({ dst := some 29, op := Op.fieldAddr 43 (Operand.tmp 28) 1, type := 0, pos := _, after := #[{ on := 9, ground := Ground.data }], guard := none })) (v := ?_) rfl (by kernel_rfl) (by kernel_rfl) (by kernel_rfl) (fun _ _ _ h => h) (Or.inl ⟨by rfl, ?_⟩) (by assumption) ?_
        rotate_left
        · (intro wq hSw; (try dsimp only at hSw); go_simp; try with_reducible rfl)
        try simp only [Act.put, List.setIfInBounds_toArray, List.set_cons_zero, List.set_cons_succ]
        refine wpAnyH_take (i := 11) (oi := ({ dst := some 30, op := Op.load 3 (Operand.tmp 29), type := 3, pos := _, after := #[{ on := 10, ground := Ground.data }], guard := none })) (v := ?_) rfl (by kernel_rfl) (by kernel_rfl) (by kernel_rfl) (fun _ _ _ h => h) (Or.inl ⟨by rfl, ?_⟩) (by assumption) ?_
        rotate_left
        · (intro wq hSw; (try dsimp only at hSw); go_simp; try with_reducible rfl)
        try simp only [Act.put, List.setIfInBounds_toArray, List.set_cons_zero, List.set_cons_succ]
        refine wpAnyH_take (i := 12) (oi := ({ dst := some 31, op := Op.binOp BinOp.add 3 (Operand.tmp 30) (Operand.const (Value.int IntKind.i64 1)) 3, type := 3, pos := _, after := #[{ on := 11, ground := Ground.data }], guard := none })) (v := ?_) rfl (by kernel_rfl) (by kernel_rfl) (by kernel_rfl) (fun _ _ _ h => h) (Or.inl ⟨by rfl, ?_⟩) (by assumption) ?_
        rotate_left
        · (intro wq hSw; (try dsimp only at hSw); go_simp; try with_reducible rfl)
        try simp only [Act.put, List.setIfInBounds_toArray, List.set_cons_zero, List.set_cons_succ]
        refine wpAnyH_take (i := 13) (oi := ({ dst := some 32, op := Op.slice 28 (Operand.tmp 22) (some (Operand.tmp 26)) (some (Operand.tmp 31)) none, type := 28, pos := _, after := #[{ on := 3, ground := Ground.data }, { on := 7, ground := Ground.data }, { on := 12, ground := Ground.data }], guard := none })) (v := ?_) rfl (by kernel_rfl) (by kernel_rfl) (by kernel_rfl) (fun _ _ _ h => h) (Or.inl ⟨by rfl, ?_⟩) (by assumption) ?_
        rotate_left
        · (intro wq hSw; (try dsimp only at hSw); go_simp; try with_reducible rfl)
        try simp only [Act.put, List.setIfInBounds_toArray, List.set_cons_zero, List.set_cons_succ]
        refine wpAnyH_ready (rs := [14]) (by kernel_rfl) (by simp) ?_
        refine AllReadyH.cons (o := ({ dst := none, op := Op.call { callee := Callee.builtin Builtin.clear, args := #[Operand.tmp 32], argTypes := #[28] }, type := 0, pos := _, after := #[{ on := 13, ground := Ground.data }], guard := none })) rfl (fun K hK => ?_) AllReadyH.nil
        refine step_clear_By rfl (.tmp 32) rfl rb at_ (cap - at_) ring rfl b2 hatr ?_
        refine hK.out _ _ ?_ (fun hHeld => ?_)
        · exact ⟨(cell_setRow_far _ _ _ _ hne).trans c0, (cell_setRow_far _ _ _ _ hne).trans c1⟩
        clear hK K
        try simp only [Act.put, List.setIfInBounds_toArray, List.set_cons_zero, List.set_cons_succ]
        refine wpAnyH_done (by kernel_rfl) ?_ _
        clear b2 c0 c1
        have d0 : (wr.drew.setRow rb (By (ring.set at_ 0))).cell? ⟨g, 0, none⟩ = some (.slice (some ⟨rb, 0, none⟩) cap cap) := (cell_setRow_far _ _ _ _ hne).trans ((unhid_ H1).cell 0)
        have d1 : (wr.drew.setRow rb (By (ring.set at_ 0))).cell? ⟨g, 1, none⟩ = some (.int .i64 at_) := (cell_setRow_far _ _ _ _ hne).trans ((unhid_ H1).cell 1)
        have d3 : (wr.drew.setRow rb (By (ring.set at_ 0))).frozen? ⟨g, 1, none⟩ = false := Blk.frozen (Blk.setRow_far (Blk.drew (unhid_ H1)) hne _) 1
        generalize hWx : wr.drew.setRow rb (By (ring.set at_ 0)) = wx at *
        have HWx := Lib.hid hWx
        clear hWx
        go_wp2
        refine wp_region_held_drew (S := (fun w' => w'.cell? ⟨g, 0, none⟩ = some (.slice (some ⟨rb, 0, none⟩) cap cap))) (by kernel_rfl) ?_ (fun hHeld => ?_)
        · first | exact d0 | (simp only [World.cell?_drew] ; exact d0) | exact (World.cell?_setCell_other _ _ _ _ (by simp)).trans d0
        refine wpAnyH_take (i := 0) (oi := ({ dst := some 33, op := Op.move (Operand.tmp 0), type := 24, pos := _, after := #[], guard := none })) (v := ?_) rfl (by kernel_rfl) (by kernel_rfl) (by kernel_rfl) (fun _ _ _ h => h) (Or.inl ⟨by rfl, ?_⟩) (by assumption) ?_
        rotate_left
        · (intro wq hSw; (try dsimp only at hSw); go_simp; try with_reducible rfl)
        try simp only [Act.put, List.setIfInBounds_toArray, List.set_cons_zero, List.set_cons_succ]
        refine wpAnyH_take (i := 1) (oi := ({ dst := some 34, op := Op.move (Operand.tmp 0), type := 24, pos := _, after := #[], guard := none })) (v := ?_) rfl (by kernel_rfl) (by kernel_rfl) (by kernel_rfl) (fun _ _ _ h => h) (Or.inl ⟨by rfl, ?_⟩) (by assumption) ?_
        rotate_left
        · (intro wq hSw; (try dsimp only at hSw); go_simp; try with_reducible rfl)
        try simp only [Act.put, List.setIfInBounds_toArray, List.set_cons_zero, List.set_cons_succ]
        refine wpAnyH_take (i := 2) (oi := ({ dst := some 35, op := Op.nilCheck (Operand.tmp 34), type := 0, pos := _, after := #[{ on := 1, ground := Ground.data }], guard := none })) (v := ?_) rfl (by kernel_rfl) (by kernel_rfl) (by kernel_rfl) (fun _ _ _ h => h) (Or.inl ⟨by rfl, ?_⟩) (by assumption) ?_
        rotate_left
        · (intro wq hSw; (try dsimp only at hSw); go_simp; try with_reducible rfl)
        try simp only [Act.put, List.setIfInBounds_toArray, List.set_cons_zero, List.set_cons_succ]
        refine wpAnyH_take (i := 3) (oi := ({ dst := some 36, op := Op.fieldAddr 43 (Operand.tmp 35) 1, type := 0, pos := _, after := #[{ on := 2, ground := Ground.data }], guard := none })) (v := ?_) rfl (by kernel_rfl) (by kernel_rfl) (by kernel_rfl) (fun _ _ _ h => h) (Or.inl ⟨by rfl, ?_⟩) (by assumption) ?_
        rotate_left
        · (intro wq hSw; (try dsimp only at hSw); go_simp; try with_reducible rfl)
        try simp only [Act.put, List.setIfInBounds_toArray, List.set_cons_zero, List.set_cons_succ]
        refine wpAnyH_take (i := 6) (oi := ({ dst := some 39, op := Op.move (Operand.tmp 0), type := 24, pos := _, after := #[], guard := none })) (v := ?_) rfl (by kernel_rfl) (by kernel_rfl) (by kernel_rfl) (fun _ _ _ h => h) (Or.inl ⟨by rfl, ?_⟩) (by assumption) ?_
        rotate_left
        · (intro wq hSw; (try dsimp only at hSw); go_simp; try with_reducible rfl)
        try simp only [Act.put, List.setIfInBounds_toArray, List.set_cons_zero, List.set_cons_succ]
        refine wpAnyH_take (i := 7) (oi := ({ dst := some 40, op := Op.nilCheck (Operand.tmp 39), type := 0, pos := _, after := #[{ on := 6, ground := Ground.data }], guard := none })) (v := ?_) rfl (by kernel_rfl) (by kernel_rfl) (by kernel_rfl) (fun _ _ _ h => h) (Or.inl ⟨by rfl, ?_⟩) (by assumption) ?_
        rotate_left
        · (intro wq hSw; (try dsimp only at hSw); go_simp; try with_reducible rfl)
        try simp only [Act.put, List.setIfInBounds_toArray, List.set_cons_zero, List.set_cons_succ]
        refine wpAnyH_take (i := 8) (oi := ({ dst := some 41, op := Op.fieldAddr 43 (Operand.tmp 40) 0, type := 0, pos := _, after := #[{ on := 7, ground := Ground.data }], guard := none })) (v := ?_) rfl (by kernel_rfl) (by kernel_rfl) (by kernel_rfl) (fun _ _ _ h => h) (Or.inl ⟨by rfl, ?_⟩) (by assumption) ?_
        rotate_left
        · (intro wq hSw; (try dsimp only at hSw); go_simp; try with_reducible rfl)
        try simp only [Act.put, List.setIfInBounds_toArray, List.set_cons_zero, List.set_cons_succ]
        refine wpAnyH_take (i := 9) (oi := ({ dst := some 42, op := Op.load 28 (Operand.tmp 41), type := 28, pos := _, after := #[{ on := 8, ground := Ground.data }], guard := none })) (v := ?_) rfl (by kernel_rfl) (by kernel_rfl) (by kernel_rfl) (fun _ _ _ h => h) (Or.inl ⟨by rfl, ?_⟩) (by assumption) ?_
        rotate_left
        · (intro wq hSw; (try dsimp only at hSw); go_simp; try with_reducible rfl)
        try simp only [Act.put, List.setIfInBounds_toArray, List.set_cons_zero, List.set_cons_succ]
        refine wpAnyH_take (i := 10) (oi := ({ dst := some 43, op := Op.call { callee := Callee.builtin Builtin.len, args := #[Operand.tmp 42], argTypes := #[28] }, type := 3, pos := _, after := #[{ on := 9, ground := Ground.data }], guard := none })) (v := ?_) rfl (by kernel_rfl) (by kernel_rfl) (by kernel_rfl) (fun _ _ _ h => h) (Or.inl ⟨by rfl, ?_⟩) (by assumption) ?_
        rotate_left
        · (intro wq hSw; (try dsimp only at hSw); go_simp; try with_reducible rfl)
        try simp only [Act.put, List.setIfInBounds_toArray, List.set_cons_zero, List.set_cons_succ]
        refine wpAnyH_ready (rs := [4]) (by kernel_rfl) (by simp) ?_
        refine AllReadyH.cons (o := ({ dst := some 37, op := Op.load 3 (Operand.tmp 36), type := 3, pos := _, after := #[{ on := 3, ground := Ground.data }], guard := none })) rfl (fun K hK => ?_) AllReadyH.nil
        go_simp
        skip
        refine hK.out _ _ ?_ (fun hHeld => ?_)
        · first | exact d0 | (simp only [World.cell?_drew] ; exact d0) | exact (World.cell?_setCell_other _ _ _ _ (by simp)).trans d0
        clear hK K
        try simp only [Act.put, List.setIfInBounds_toArray, List.set_cons_zero, List.set_cons_succ]
        refine wpAnyH_take (i := 5) (oi := ({ dst := some 38, op := Op.binOp BinOp.add 3 (Operand.tmp 37) (Operand.const (Value.int IntKind.i64 1)) 3, type := 3, pos := _, after := #[{ on := 4, ground := Ground.data }], guard := none })) (v := ?_) rfl (by kernel_rfl) (by kernel_rfl) (by kernel_rfl) (fun _ _ _ h => h) (Or.inl ⟨by rfl, ?_⟩) (by assumption) ?_
        rotate_left
        · (intro wq hSw; (try dsimp only at hSw); go_simp; try with_reducible rfl)
        try simp only [Act.put, List.setIfInBounds_toArray, List.set_cons_zero, List.set_cons_succ]
        refine wpAnyH_take (i := 11) (oi := ({ dst := some 44, op := Op.binOp BinOp.rem 3 (Operand.tmp 38) (Operand.tmp 43) 3, type := 3, pos := _, after := #[{ on := 5, ground := Ground.data }, { on := 10, ground := Ground.data }], guard := none })) (v := ?_) rfl (by kernel_rfl) (by kernel_rfl) (by kernel_rfl) (fun _ _ _ h => h) (Or.inl ⟨by rfl, ?_⟩) (by assumption) ?_
        rotate_left
        · (intro wq hSw; (try dsimp only at hSw); go_simp; try with_reducible rfl)
        try simp only [Act.put, List.setIfInBounds_toArray, List.set_cons_zero, List.set_cons_succ]
        refine wpAnyH_take (i := 12) (oi := ({ dst := some 45, op := Op.nilCheck (Operand.tmp 33), type := 0, pos := _, after := #[{ on := 0, ground := Ground.data }, { on := 0, ground := Ground.phase }, { on := 1, ground := Ground.phase }, { on := 2, ground := Ground.phase }, { on := 3, ground := Ground.phase }, { on := 4, ground := Ground.phase }, { on := 5, ground := Ground.phase }, { on := 6, ground := Ground.phase }, { on := 7, ground := Ground.phase }, { on := 8, ground := Ground.phase }, { on := 9, ground := Ground.phase }, { on := 10, ground := Ground.phase }, { on := 11, ground := Ground.phase }], guard := none })) (v := ?_) rfl (by kernel_rfl) (by kernel_rfl) (by kernel_rfl) (fun _ _ _ h => h) (Or.inl ⟨by rfl, ?_⟩) (by assumption) ?_
        rotate_left
        · (intro wq hSw; (try dsimp only at hSw); go_simp; try with_reducible rfl)
        try simp only [Act.put, List.setIfInBounds_toArray, List.set_cons_zero, List.set_cons_succ]
        refine wpAnyH_take (i := 13) (oi := ({ dst := some 46, op := Op.fieldAddr 43 (Operand.tmp 45) 1, type := 0, pos := _, after := #[{ on := 12, ground := Ground.data }, { on := 0, ground := Ground.phase }, { on := 1, ground := Ground.phase }, { on := 2, ground := Ground.phase }, { on := 3, ground := Ground.phase }, { on := 4, ground := Ground.phase }, { on := 5, ground := Ground.phase }, { on := 6, ground := Ground.phase }, { on := 7, ground := Ground.phase }, { on := 8, ground := Ground.phase }, { on := 9, ground := Ground.phase }, { on := 10, ground := Ground.phase }, { on := 11, ground := Ground.phase }], guard := none })) (v := ?_) rfl (by kernel_rfl) (by kernel_rfl) (by kernel_rfl) (fun _ _ _ h => h) (Or.inl ⟨by rfl, ?_⟩) (by assumption) ?_
        rotate_left
        · (intro wq hSw; (try dsimp only at hSw); go_simp; try with_reducible rfl)
        try simp only [Act.put, List.setIfInBounds_toArray, List.set_cons_zero, List.set_cons_succ]
        refine wpAnyH_ready (rs := [14]) (by kernel_rfl) (by simp) ?_
        refine AllReadyH.cons (o := ({ dst := none, op := Op.store 3 (Operand.tmp 46) (Operand.tmp 44), type := 0, pos := _, after := #[{ on := 13, ground := Ground.data }, { on := 11, ground := Ground.data }, { on := 0, ground := Ground.phase }, { on := 1, ground := Ground.phase }, { on := 2, ground := Ground.phase }, { on := 3, ground := Ground.phase }, { on := 4, ground := Ground.phase }, { on := 5, ground := Ground.phase }, { on := 6, ground := Ground.phase }, { on := 7, ground := Ground.phase }, { on := 8, ground := Ground.phase }, { on := 9, ground := Ground.phase }, { on := 10, ground := Ground.phase }, { on := 11, ground := Ground.phase }], guard := none })) rfl (fun K hK => ?_) AllReadyH.nil
        go_simp
        skip
        refine hK.out _ _ ?_ (fun hHeld => ?_)
        · first | exact d0 | (simp only [World.cell?_drew] ; exact d0) | exact (World.cell?_setCell_other _ _ _ _ (by simp)).trans d0
        clear hK K
        try simp only [Act.put, List.setIfInBounds_toArray, List.set_cons_zero, List.set_cons_succ]
        refine wpAnyH_done (by kernel_rfl) ?_ _
        go_wp2
        go_roundw
        case rel => exact ⟨k + 1, by omega, by go_num, by rw [← HWx.out]; exact MidQ.step hne (unhid_ H1) (unhid_ H2) H3.out hatc (unhid_ H5) (by omega) hle.1 (unhid_ H6) (unhid_ H7)⟩
        case measure => simp [intOf]; omega
      · obtain rfl : k = m := by omega
        have HMid := hide hmid
        obtain ⟨ring, at_, h1, h2, h3, h4, h5, h6, h7⟩ := hmid
        have c2 : wr.cell? ⟨g, 2, none⟩ = some (.int .i64 B.length) := h1.cell 2
        have f2 : wr.frozen? ⟨g, 2, none⟩ = false := h1.frozen 2
        clear h1 h2 h3 h4 h5 h6 h7
        go_wp2
        go_ret
        exact MidQ.end_ hne HW0.out hgl hmle hle (unhid_ HMid)
end Go.Proofs.Ytagopgoelgmibaa
