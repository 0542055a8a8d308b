/- The walk of Queue.Put. -/
import Derived.Test.YtagopgoelgmibaaQ2
namespace Go.Proofs.Ytagopgoelgmibaa
open Go.RowKit
set_option linter.unusedSimpArgs false

/-- what Put leaves -/
def PutQ (g rb cap k : Nat) (B xs : List Int) (w : World) (e : Ending) (w' : World) : Prop :=
  e = .returned (.int .i64 k) ∧ IsQ w' g rb cap (B ++ xs.take k) ∧ Only [g, rb] w w' ∧ w'.heap.size = w.heap.size

theorem put_step {g rb cap L P at_ j m : Nat} {B xs X ring : List Int} {wr : World} (hne : g ≠ rb) (h1 : Blk wr g 43 #[.slice (some ⟨rb, 0, none⟩) cap cap, .int .i64 at_, .int .i64 L]) (h2 : Blk wr rb 5 (By ring)) (h3 : ring.length = cap)
    (h4 : L + m ≤ cap) (h5 : at_ < cap ∨ at_ = 0) (h6 : cap ≤ 65536) (h7 : Holds_ ring at_ (B ++ xs.take j)) (hL : L = (B ++ xs.take j).length) (hP : P = (at_ + L) % cap) (hX : X = (xs.drop j).take m) (hm : X.length = m) (hfit : P + m ≤ cap) :
    IsQ ((wr.drew.setRow rb (By (splice ring P X))).setCell ⟨g, 2, none⟩ (.int .i64 ((L : Int) + m))) g rb cap (B ++ xs.take (j + m)) := by
  subst h3
  have e : B ++ xs.take (j + m) = (B ++ xs.take j) ++ X := by rw [List.take_add, hX, List.append_assoc]
  refine ⟨splice ring P X, at_, ?_, ?_, length_splice _ _ _ (by omega), ?_, h5, h6, ?_⟩
  · have := (Blk.setRow_far (Blk.drew h1) hne (By (splice ring P X))).set_ 2 (.int .i64 ((L : Int) + m))
    rw [show (((B ++ xs.take (j + m)).length : Nat) : Int) = (L : Int) + m from by rw [e, List.length_append, ← hL, hm]; omega]
    exact this
  · exact (Blk.setRow (Blk.drew h2) (By (splice ring P X))).far (p := ⟨g, 2, none⟩) (fun e => hne e.symm) _
  · rw [e, List.length_append, ← hL, hm]; omega
  · rw [e]
    exact h7.put (by rw [← hL]; exact hP) (by omega) (by rw [← hL, hm]; exact h4)

set_option maxHeartbeats 2000000 in
theorem put_any (w : World) (g rb cap SB : Nat) (B xs : List Int) (A : Option Addr) (n c k : Nat) (hk : k = min n (cap - B.length)) (h : IsQ w g rb cap B) (hr : Reads w SB 1 A n (xs.map (Value.int .u8))) (hnc : n ≤ c) (hn : n ≤ 100000) (hSB : SB ≤ w.heap.size)
    (hA : ∀ ad, A = some ad → ad.block ∉ [g, rb]) :
    Calls Try.prog 11 #[.pointer (some ⟨g, 0, none⟩), .slice A n c] w (PutQ g rb cap k B xs w) := by
  have hne := h.ne
  have hle := h.le
  have HR := hide (room_any w g rb cap B h)
  have hxl : xs.length = n := by have := hr.1; simpa using this
  have HXL := Lib.hid hxl
  have HK := Lib.hid hk
  have hkn : k ≤ n := by omega
  have HH := hide h
  clear hk h hxl
  go_enter Try.func11, Try.ntmps11
  go_upto_region 1 with fail
  go_cut [5] (fun s5 wx => s5 = .int .i64 (k : Int) ∧ ∃ q, wx = w.drewN q)
  case first =>
    go_wp2_with fail
    refine (unhid_ HR).mono ?_
    rintro e wx ⟨rfl, q, rfl⟩
    go_wp2_with fail
    all_goals
      go_meet
      exact ⟨by have := HK.out; congr 1; omega, q, rfl⟩
  case rest =>
    obtain ⟨rfl, q, hwx⟩ := hcut
    have hstart := hwx
    have HW := Lib.hid hwx
    clear hwx hstart
    go_wp2_with fail
    go_loopw [7, 8] (fun i _ wr => ∃ j : Nat, j ≤ k ∧ i = .int .i64 j ∧ IsQ wr g rb cap (B ++ xs.take j) ∧ Only [g, rb] w wr ∧ wr.heap.size = w.heap.size) (fun i _ _ => k - (intOf i).toNat)
    case atStart => exact ⟨0, Nat.zero_le _, rfl, by rw [HW.out]; simpa using (unhid_ HH).drewN q, by rw [HW.out]; exact (Only.refl _ _).drewN q, by rw [HW.out]; rfl⟩
    case round =>
      obtain ⟨j, hj, rfl, hq, ho, hsz⟩ := hrel
      by_cases hlt : j < k
      · have hn0 : 0 < n := by omega
        obtain ⟨ad, hAe, _, _⟩ := hr.2 hn0
        subst hAe
        have hadb := hA ad rfl
        have hr2 : Reads wr SB 1 (some ad) n (xs.map (Value.int .u8)) := ho.reads hr hSB (fun x hx => by cases hx; exact hadb)
        obtain ⟨ring, at_, h1, h2, h3, h4, h5, h6, h7⟩ := hq
        obtain ⟨L, hL⟩ : ∃ L, L = (B ++ xs.take j).length := ⟨_, rfl⟩
        rw [← hL] at h1 h4
        have hLv : L = B.length + j := by rw [hL, List.length_append, List.length_take, HXL.out]; omega
        have c0 : wr.cell? ⟨g, 0, none⟩ = some (.slice (some ⟨rb, 0, none⟩) cap cap) := h1.cell 0
        have c1 : wr.cell? ⟨g, 1, none⟩ = some (.int .i64 at_) := h1.cell 1
        have c2 : wr.cell? ⟨g, 2, none⟩ = some (.int .i64 L) := h1.cell 2
        have hkb := HK.out
        have hcap0 : ¬ cap = 0 := by omega
        have hLc : L < cap := by omega
        obtain ⟨P, hP⟩ : ∃ P, P = (at_ + L) % cap := ⟨_, rfl⟩
        have hPc : P < cap := by rw [hP]; exact Nat.mod_lt _ (by omega)
        have hPi : ((at_ : Int) + (L : Int)) % (cap : Int) = (P : Int) := by rw [hP]; simp
        have hPt : ((at_ : Int) + (L : Int)).tmod (cap : Int) = (P : Int) := by rw [Int.tmod_eq_emod_of_nonneg (by omega)]; exact hPi
        have hsum0 : (0 : Int) ≤ (at_ : Int) + (L : Int) := by omega
        have hsumw : IntKind.i64.wrap ((at_ : Int) + (L : Int)) = (at_ : Int) + (L : Int) := IntWalk.i64_in _ (by omega)
        have hPle : P ≤ cap := by omega
        have hPne : ¬ cap = P := by omega
        have hcj : ¬ c = j := by omega
        have hjk : j ≤ k := by omega
        have hkc : k ≤ c := by omega
        obtain ⟨m, hm⟩ : ∃ m, m = min (cap - P) (k - j) := ⟨_, rfl⟩
        have rX0 := (hr2.cut (k := j) (cap := c) (by omega) hnc).take (k := m) (by omega)
        rw [if_neg hcj, Nat.mul_one, Nat.mul_one, ← List.map_drop, ← List.map_take] at rX0
        obtain ⟨X, hXe⟩ : ∃ X, X = (xs.drop j).take m := ⟨_, rfl⟩
        have hXl : X.length = m := by rw [hXe, List.length_take, List.length_drop, HXL.out]; omega
        rw [← hXe] at rX0
        have rX : Reads wr SB 1 (some (ad.add j)) X.length (X.map (Value.int .u8)) := by rw [hXl]; exact rX0
        have hX := Lib.hid hXl
        have hM := Lib.hid hm
        have hmk : (X.length : Int) ≤ (k : Int) - (j : Int) := by omega
        have hm0 : 0 < X.length := by omega
        have hLm : L + X.length ≤ cap := by omega
        have HS := hide (fun (q1 : P + m ≤ cap) => put_step hne h1 h2 h3 (by omega : L + m ≤ cap) h5 h6 h7 hL hP hXe hXl q1)
        have HPm : Hid (P + m ≤ cap) := by rw [hm]; exact (by omega : P + min (cap - P) (k - j) ≤ cap)
        have b2 := h2
        have H3 := Lib.hid h3
        have H1 := hide h1
        have f2 : wr.frozen? ⟨g, 2, none⟩ = false := h1.frozen 2
        clear h1 h2 h3 h4 h5 h6 h7 hL hP hXe hXl hm rX0 hr2 hkb hLv
        go_wp2
        refine wp_region_held_drew (S := (fun w' => w'.cell? ⟨g, 0, none⟩ = some (.slice (some ⟨rb, 0, none⟩) cap cap) ∧ w'.cell? ⟨g, 1, none⟩ = some (.int .i64 at_) ∧ w'.cell? ⟨g, 2, none⟩ = some (.int .i64 L))) (by kernel_rfl) ?_ (fun hHeld => ?_)
        · exact ⟨c0, c1, c2⟩
        refine wpAnyH_take (i := 0) (oi := ({ dst := some 18, op := Op.move (Operand.tmp 0), type := 24, pos := _, after := #[], guard := none })) (v := ?_) rfl (by kernel_rfl) (by kernel_rfl) (by kernel_rfl) (fun _ _ _ h => h) (Or.inl ⟨by rfl, ?_⟩) (by assumption) ?_
        rotate_left
        · (intro wq hSw; (try dsimp only at hSw); go_simp; try with_reducible rfl)
        try simp only [Act.put, List.setIfInBounds_toArray, List.set_cons_zero, List.set_cons_succ]
        refine wpAnyH_take (i := 1) (oi := ({ dst := some 19, op := Op.nilCheck (Operand.tmp 18), type := 0, pos := _, after := #[{ on := 0, ground := Ground.data }], guard := none })) (v := ?_) rfl (by kernel_rfl) (by kernel_rfl) (by kernel_rfl) (fun _ _ _ h => h) (Or.inl ⟨by rfl, ?_⟩) (by assumption) ?_
        rotate_left
        · (intro wq hSw; (try dsimp only at hSw); go_simp; try with_reducible rfl)
        try simp only [Act.put, List.setIfInBounds_toArray, List.set_cons_zero, List.set_cons_succ]
        refine wpAnyH_take (i := 2) (oi := ({ dst := some 20, op := Op.fieldAddr 43 (Operand.tmp 19) 0, type := 0, pos := _, after := #[{ on := 1, ground := Ground.data }], guard := none })) (v := ?_) rfl (by kernel_rfl) (by kernel_rfl) (by kernel_rfl) (fun _ _ _ h => h) (Or.inl ⟨by rfl, ?_⟩) (by assumption) ?_
        rotate_left
        · (intro wq hSw; (try dsimp only at hSw); go_simp; try with_reducible rfl)
        try simp only [Act.put, List.setIfInBounds_toArray, List.set_cons_zero, List.set_cons_succ]
        refine wpAnyH_take (i := 3) (oi := ({ dst := some 21, op := Op.load 28 (Operand.tmp 20), type := 28, pos := _, after := #[{ on := 2, ground := Ground.data }], guard := none })) (v := ?_) rfl (by kernel_rfl) (by kernel_rfl) (by kernel_rfl) (fun _ _ _ h => h) (Or.inl ⟨by rfl, ?_⟩) (by assumption) ?_
        rotate_left
        · (intro wq hSw; (try dsimp only at hSw); go_simp; try with_reducible rfl)
        try simp only [Act.put, List.setIfInBounds_toArray, List.set_cons_zero, List.set_cons_succ]
        refine wpAnyH_take (i := 4) (oi := ({ dst := some 22, op := Op.move (Operand.tmp 0), type := 24, pos := _, after := #[], guard := none })) (v := ?_) rfl (by kernel_rfl) (by kernel_rfl) (by kernel_rfl) (fun _ _ _ h => h) (Or.inl ⟨by rfl, ?_⟩) (by assumption) ?_
        rotate_left
        · (intro wq hSw; (try dsimp only at hSw); go_simp; try with_reducible rfl)
        try simp only [Act.put, List.setIfInBounds_toArray, List.set_cons_zero, List.set_cons_succ]
        refine wpAnyH_take (i := 5) (oi := ({ dst := some 23, op := Op.nilCheck (Operand.tmp 22), type := 0, pos := _, after := #[{ on := 4, ground := Ground.data }], guard := none })) (v := ?_) rfl (by kernel_rfl) (by kernel_rfl) (by kernel_rfl) (fun _ _ _ h => h) (Or.inl ⟨by rfl, ?_⟩) (by assumption) ?_
        rotate_left
        · (intro wq hSw; (try dsimp only at hSw); go_simp; try with_reducible rfl)
        try simp only [Act.put, List.setIfInBounds_toArray, List.set_cons_zero, List.set_cons_succ]
        refine wpAnyH_take (i := 6) (oi := ({ dst := some 24, op := Op.fieldAddr 43 (Operand.tmp 23) 1, type := 0, pos := _, after := #[{ on := 5, ground := Ground.data }], guard := none })) (v := ?_) rfl (by kernel_rfl) (by kernel_rfl) (by kernel_rfl) (fun _ _ _ h => h) (Or.inl ⟨by rfl, ?_⟩) (by assumption) ?_
        rotate_left
        · (intro wq hSw; (try dsimp only at hSw); go_simp; try with_reducible rfl)
        try simp only [Act.put, List.setIfInBounds_toArray, List.set_cons_zero, List.set_cons_succ]
        refine wpAnyH_take (i := 7) (oi := ({ dst := some 25, op := Op.load 3 (Operand.tmp 24), type := 3, pos := _, after := #[{ on := 6, ground := Ground.data }], guard := none })) (v := ?_) rfl (by kernel_rfl) (by kernel_rfl) (by kernel_rfl) (fun _ _ _ h => h) (Or.inl ⟨by rfl, ?_⟩) (by assumption) ?_
        rotate_left
        · (intro wq hSw; (try dsimp only at hSw); go_simp; try with_reducible rfl)
        try simp only [Act.put, List.setIfInBounds_toArray, List.set_cons_zero, List.set_cons_succ]
        refine wpAnyH_take (i := 8) (oi := ({ dst := some 26, op := Op.move (Operand.tmp 0), type := 24, pos := _, after := #[], guard := none })) (v := ?_) rfl (by kernel_rfl) (by kernel_rfl) (by kernel_rfl) (fun _ _ _ h => h) (Or.inl ⟨by rfl, ?_⟩) (by assumption) ?_
        rotate_left
        · (intro wq hSw; (try dsimp only at hSw); go_simp; try with_reducible rfl)
        try simp only [Act.put, List.setIfInBounds_toArray, List.set_cons_zero, List.set_cons_succ]
        refine wpAnyH_take (i := 9) (oi := ({ dst := some 27, op := Op.nilCheck (Operand.tmp 26), type := 0, pos := _, after := #[{ on := 8, ground := Ground.data }], guard := none })) (v := ?_) rfl (by kernel_rfl) (by kernel_rfl) (by kernel_rfl) (fun _ _ _ h => h) (Or.inl ⟨by rfl, ?_⟩) (by assumption) ?_
        rotate_left
        · (intro wq hSw; (try dsimp only at hSw); go_simp; try with_reducible rfl)
        try simp only [Act.put, List.setIfInBounds_toArray, List.set_cons_zero, List.set_cons_succ]
        refine wpAnyH_take (i := 10) (oi := ({ dst := some 28, op := Op.fieldAddr 43 (Operand.tmp 27) 2, type := 0, pos := _, after := #[{ on := 9, ground := Ground.data }], guard := none })) (v := ?_) rfl (by kernel_rfl) (by kernel_rfl) (by kernel_rfl) (fun _ _ _ h => h) (Or.inl ⟨by rfl, ?_⟩) (by assumption) ?_
        rotate_left
        · (intro wq hSw; (try dsimp only at hSw); go_simp; try with_reducible rfl)
        try simp only [Act.put, List.setIfInBounds_toArray, List.set_cons_zero, List.set_cons_succ]
        refine wpAnyH_take (i := 11) (oi := ({ dst := some 29, op := Op.load 3 (Operand.tmp 28), type := 3, pos := _, after := #[{ on := 10, ground := Ground.data }], guard := none })) (v := ?_) rfl (by kernel_rfl) (by kernel_rfl) (by kernel_rfl) (fun _ _ _ h => h) (Or.inl ⟨by rfl, ?_⟩) (by assumption) ?_
        rotate_left
        · (intro wq hSw; (try dsimp only at hSw); go_simp; try with_reducible rfl)
        try simp only [Act.put, List.setIfInBounds_toArray, List.set_cons_zero, List.set_cons_succ]
        refine wpAnyH_take (i := 12) (oi := ({ dst := some 30, op := Op.binOp BinOp.add 3 (Operand.tmp 25) (Operand.tmp 29) 3, type := 3, pos := _, after := #[{ on := 7, ground := Ground.data }, { on := 11, ground := Ground.data }], guard := none })) (v := ?_) rfl (by kernel_rfl) (by kernel_rfl) (by kernel_rfl) (fun _ _ _ h => h) (Or.inl ⟨by rfl, ?_⟩) (by assumption) ?_
        rotate_left
        · (intro wq hSw; (try dsimp only at hSw); go_simp; try with_reducible rfl)
        try simp only [Act.put, List.setIfInBounds_toArray, List.set_cons_zero, List.set_cons_succ]
        refine wpAnyH_take (i := 13) (oi := ({ dst := some 31, op := Op.move (Operand.tmp 0), type := 24, pos := _, after := #[], guard := none })) (v := ?_) rfl (by kernel_rfl) (by kernel_rfl) (by kernel_rfl) (fun _ _ _ h => h) (Or.inl ⟨by rfl, ?_⟩) (by assumption) ?_
        rotate_left
        · (intro wq hSw; (try dsimp only at hSw); go_simp; try with_reducible rfl)
        try simp only [Act.put, List.setIfInBounds_toArray, List.set_cons_zero, List.set_cons_succ]
        refine wpAnyH_take (i := 14) (oi := ({ dst := some 32, op := Op.nilCheck (Operand.tmp 31), type := 0, pos := _, after := #[{ on := 13, ground := Ground.data }], guard := none })) (v := ?_) rfl (by kernel_rfl) (by kernel_rfl) (by kernel_rfl) (fun _ _ _ h => h) (Or.inl ⟨by rfl, ?_⟩) (by assumption) ?_
        rotate_left
        · (intro wq hSw; (try dsimp only at hSw); go_simp; try with_reducible rfl)
        try simp only [Act.put, List.setIfInBounds_toArray, List.set_cons_zero, List.set_cons_succ]
        refine wpAnyH_take (i := 15) (oi := ({ dst := some 33, op := Op.fieldAddr 43 (Operand.tmp 32) 0, type := 0, pos := _, after := #[{ on := 14, ground := Ground.data }], guard := none })) (v := ?_) rfl (by kernel_rfl) (by kernel_rfl) (by kernel_rfl) (fun _ _ _ h => h) (Or.inl ⟨by rfl, ?_⟩) (by assumption) ?_
        rotate_left
        · (intro wq hSw; (try dsimp only at hSw); go_simp; try with_reducible rfl)
        try simp only [Act.put, List.setIfInBounds_toArray, List.set_cons_zero, List.set_cons_succ]
        refine wpAnyH_take (i := 16) (oi := ({ dst := some 34, op := Op.load 28 (Operand.tmp 33), type := 28, pos := _, after := #[{ on := 15, ground := Ground.data }], guard := none })) (v := ?_) rfl (by kernel_rfl) (by kernel_rfl) (by kernel_rfl) (fun _ _ _ h => h) (Or.inl ⟨by rfl, ?_⟩) (by assumption) ?_
        rotate_left
        · (intro wq hSw; (try dsimp only at hSw); go_simp; try with_reducible rfl)
        try simp only [Act.put, List.setIfInBounds_toArray, List.set_cons_zero, List.set_cons_succ]
        refine wpAnyH_take (i := 17) (oi := ({ dst := some 35, op := Op.call { callee := Callee.builtin Builtin.len, args := #[Operand.tmp 34], argTypes := #[28] }, type := 3, pos := _, after := #[{ on := 16, ground := Ground.data }], guard := none })) (v := ?_) rfl (by kernel_rfl) (by kernel_rfl) (by kernel_rfl) (fun _ _ _ h => h) (Or.inl ⟨by rfl, ?_⟩) (by assumption) ?_
        rotate_left
        · (intro wq hSw; (try dsimp only at hSw); go_simp; try with_reducible rfl)
        try simp only [Act.put, List.setIfInBounds_toArray, List.set_cons_zero, List.set_cons_succ]
        refine wpAnyH_take (i := 18) (oi := ({ dst := some 36, op := Op.binOp BinOp.rem 3 (Operand.tmp 30) (Operand.tmp 35) 3, type := 3, pos := _, after := #[{ on := 12, ground := Ground.data }, { on := 17, ground := Ground.data }], guard := none })) (v := ?_) rfl (by kernel_rfl) (by kernel_rfl) (by kernel_rfl) (fun _ _ _ h => h) (Or.inl ⟨by rfl, ?_⟩) (by assumption) ?_
        rotate_left
        · (intro wq hSw; (try dsimp only at hSw); go_simp; try with_reducible rfl)
        try simp only [Act.put, List.setIfInBounds_toArray, List.set_cons_zero, List.set_cons_succ]
        refine wpAnyH_take (i := 19) (oi := ({ dst := some 37, op := Op.slice 28 (Operand.tmp 21) (some (Operand.tmp 36)) none none, type := 28, pos := _, after := #[{ on := 3, ground := Ground.data }, { on := 18, ground := Ground.data }], guard := none })) (v := ?_) rfl (by kernel_rfl) (by kernel_rfl) (by kernel_rfl) (fun _ _ _ h => h) (Or.inl ⟨by rfl, ?_⟩) (by assumption) ?_
        rotate_left
        · (intro wq hSw; (try dsimp only at hSw); go_simp; try with_reducible rfl)
        try simp only [Act.put, List.setIfInBounds_toArray, List.set_cons_zero, List.set_cons_succ]
        refine wpAnyH_take (i := 20) (oi := ({ dst := some 38, op := Op.move (Operand.tmp 1), type := 28, pos := _, after := #[], guard := none })) (v := ?_) rfl (by kernel_rfl) (by kernel_rfl) (by kernel_rfl) (fun _ _ _ h => h) (Or.inl ⟨by rfl, ?_⟩) (by assumption) ?_
        rotate_left
        · (intro wq hSw; (try dsimp only at hSw); go_simp; try with_reducible rfl)
        try simp only [Act.put, List.setIfInBounds_toArray, List.set_cons_zero, List.set_cons_succ]
        refine wpAnyH_take (i := 21) (oi := ({ dst := some 39, op := Op.move (Operand.tmp 7), type := 3, pos := _, after := #[], guard := none })) (v := ?_) rfl (by kernel_rfl) (by kernel_rfl) (by kernel_rfl) (fun _ _ _ h => h) (Or.inl ⟨by rfl, ?_⟩) (by assumption) ?_
        rotate_left
        · (intro wq hSw; (try dsimp only at hSw); go_simp; try with_reducible rfl)
        try simp only [Act.put, List.setIfInBounds_toArray, List.set_cons_zero, List.set_cons_succ]
        refine wpAnyH_take (i := 22) (oi := ({ dst := some 40, op := Op.move (Operand.tmp 6), type := 3, pos := _, after := #[], guard := none })) (v := ?_) rfl (by kernel_rfl) (by kernel_rfl) (by kernel_rfl) (fun _ _ _ h => h) (Or.inl ⟨by rfl, ?_⟩) (by assumption) ?_
        rotate_left
        · (intro wq hSw; (try dsimp only at hSw); go_simp; try with_reducible rfl)
        try simp only [Act.put, List.setIfInBounds_toArray, List.set_cons_zero, List.set_cons_succ]
        refine wpAnyH_take (i := 23) (oi := ({ dst := some 41, op := Op.slice 28 (Operand.tmp 38) (some (Operand.tmp 39)) (some (Operand.tmp 40)) none, type := 28, pos := _, after := #[{ on := 20, ground := Ground.data }, { on := 21, ground := Ground.data }, { on := 22, ground := Ground.data }], guard := none })) (v := ?_) rfl (by kernel_rfl) (by kernel_rfl) (by kernel_rfl) (fun _ _ _ h => h) (Or.inl ⟨by rfl, ?_⟩) (by assumption) ?_
        rotate_left
        · (intro wq hSw; (try dsimp only at hSw); go_simp; try with_reducible rfl)
        try simp only [Act.put, List.setIfInBounds_toArray, List.set_cons_zero, List.set_cons_succ]
        refine wpAnyH_ready (rs := [24]) (by kernel_rfl) (by simp) ?_
        refine AllReadyH.cons (o := ({ dst := some 42, op := Op.call { callee := Callee.builtin Builtin.copy, args := #[Operand.tmp 37, Operand.tmp 41], argTypes := #[28, 28] }, type := 3, pos := _, after := #[{ on := 19, ground := Ground.data }, { on := 23, ground := Ground.data }], guard := none })) rfl (fun K hK => ?_) AllReadyH.nil
        refine step_copy_By rfl (.tmp 37) (.tmp 41) rfl _ _ _ _ _ _ rfl rfl rb P SB ring X b2 ?hn4 ?hdp4 ?hsrc4 ?hfit4 ?_
        case hn4 => (have h1 := hX.out; have h2 := hM.out; omega)
        case hdp4 => exact fun _ => rfl
        case hsrc4 => exact rX
        case hfit4 => (have h1 := hX.out; have h2 := hM.out; have h3 := H3.out; omega)
        refine hK.out _ _ ?_ (fun hHeld => ?_)
        · exact ⟨(cell_setRow_far _ _ _ _ hne).trans c0, (cell_setRow_far _ _ _ _ hne).trans c1, (cell_setRow_far _ _ _ _ hne).trans c2⟩
        clear hK K
        try simp only [Act.put, List.setIfInBounds_toArray, List.set_cons_zero, List.set_cons_succ]
        refine wpAnyH_take (i := 25) (oi := ({ dst := some 8, op := Op.assign (Operand.tmp 42), type := 3, pos := _, after := #[{ on := 24, ground := Ground.data }, { on := 24, ground := Ground.chain }, { on := 0, ground := Ground.phase }, { on := 1, ground := Ground.phase }, { on := 2, ground := Ground.phase }, { on := 3, ground := Ground.phase }, { on := 4, ground := Ground.phase }, { on := 5, ground := Ground.phase }, { on := 6, ground := Ground.phase }, { on := 7, ground := Ground.phase }, { on := 8, ground := Ground.phase }, { on := 9, ground := Ground.phase }, { on := 10, ground := Ground.phase }, { on := 11, ground := Ground.phase }, { on := 12, ground := Ground.phase }, { on := 13, ground := Ground.phase }, { on := 14, ground := Ground.phase }, { on := 15, ground := Ground.phase }, { on := 16, ground := Ground.phase }, { on := 17, ground := Ground.phase }, { on := 18, ground := Ground.phase }, { on := 19, ground := Ground.phase }, { on := 20, ground := Ground.phase }, { on := 21, ground := Ground.phase }, { on := 22, ground := Ground.phase }, { on := 23, ground := Ground.phase }, { on := 24, ground := Ground.phase }], guard := none })) (v := ?_) rfl (by kernel_rfl) (by kernel_rfl) (by kernel_rfl) (fun _ _ _ h => h) (Or.inl ⟨by rfl, ?_⟩) (by assumption) ?_
        rotate_left
        · (intro wq hSw; (try dsimp only at hSw); go_simp; try with_reducible rfl)
        try simp only [Act.put, List.setIfInBounds_toArray, List.set_cons_zero, List.set_cons_succ]
        refine wpAnyH_done (by kernel_rfl) ?_ _
        have d2 : (wr.drew.setRow rb (By (splice ring P X))).cell? ⟨g, 2, none⟩ = some (.int .i64 L) := (cell_setRow_far _ _ _ _ hne).trans c2
        have d3 : (wr.drew.setRow rb (By (splice ring P X))).frozen? ⟨g, 2, none⟩ = false := Blk.frozen (Blk.setRow_far (Blk.drew (unhid_ H1)) hne _) 2
        generalize hWx : wr.drew.setRow rb (By (splice ring P X)) = wx at *
        have HWx := Lib.hid hWx
        clear hWx b2 c0 c1 c2 f2 rX
        go_wp2
        go_roundw
        case rel =>
          refine ⟨j + X.length, by omega, by go_num, ?_, ?_, ?_⟩
          · have hs := unhid_ HS HPm.out
            rw [← hX.out] at hs
            exact hs
          · rw [← HWx.out]
            exact ((ho.drew).setRow (.inl (by simp)) _).setCell (.inl (by simp)) _
          · rw [← HWx.out]
            simp [World.setRow, World.setCell, hsz]
        case measure => simp [intOf]; omega
      · obtain rfl : j = k := by omega
        have HQ := hide hq
        have HO := hide ho
        have HSZ := Lib.hid hsz
        clear hq ho hsz
        go_wp2
        go_ret
        exact ⟨rfl, unhid_ HQ, unhid_ HO, HSZ.out⟩
end Go.Proofs.Ytagopgoelgmibaa
