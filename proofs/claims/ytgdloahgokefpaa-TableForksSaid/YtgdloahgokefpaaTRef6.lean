/- The walks of Table.SetBuf and of the document's SetBuf. -/
import Derived.Test.YtgdloahgokefpaaTRef5
namespace Go.Proofs.Ytgdloahgokefpaa
open Go.RowKit
set_option linter.unusedSimpArgs false

def bufErr (h : Bool) (b : Int) (n : Nat) : Int := if h = false then 12 else if b < 0 ∨ 4 ≤ b then 1 else if 256 < n then 14 else 0
theorem bufErr_zero {h : Bool} {b : Int} {n : Nat} (e : bufErr h b n = 0) : h = true ∧ (∃ i : Nat, b = i ∧ i < 4) ∧ n ≤ 256 := by
  unfold bufErr at e
  cases h
  · simp at e
  · simp only [Bool.true_eq_false, if_false] at e
    by_cases h1 : b < 0 ∨ 4 ≤ b
    · rw [if_pos h1] at e; cases e
    · rw [if_neg h1] at e
      by_cases h2 : 256 < n
      · rw [if_pos h2] at e; cases e
      · exact ⟨rfl, ⟨b.toNat, by omega, by omega⟩, by omega⟩
def RBuf (r : Nat → RpV) (g : Nat) (p b : Int) (xs : List Int) (w : World) (e : Ending) (w' : World) : Prop :=
  e = .returned (.int .i64 (bufErr (ris r p) b xs.length)) ∧ Only [g] w w' ∧ ((bufErr (ris r p) b xs.length ≠ 0 ∧ IsR w' g r) ∨ (bufErr (ris r p) b xs.length = 0 ∧ IsR w' g (setP r p.toNat ((r p.toNat).setBuf b.toNat (strOfNums xs)))))
theorem IsR.setBuf {w : World} {g : Nat} {r : Nat → RpV} (h : IsR w g r) {k i : Nat} {s : ByteArray} (hi : i < 4) : IsR (w.setCell ⟨g, k * 39 + 3 + i, none⟩ (.string s)) g (setP r k ((r k).setBuf i s)) := by
  refine h.setC (vs := [.string s]) (c := 3 + i) (by omega) (by simp; omega) fun j hj => ?_
  rw [putAt_cons, putAt_nil]
  show (if j = 3 + i then _ else (r k).cell j) = _
  rw [RpV.cell, RpV.cell]
  simp only [RpV.setBuf]
  by_cases h1 : j = 3 + i
  · subst h1
    rw [if_pos rfl, if_neg (by omega), if_neg (by omega), if_neg (by omega), if_pos (by omega), if_pos (by omega)]
  · rw [if_neg h1]
    by_cases h7 : j < 7
    · simp only [h7, if_true]
      by_cases h3 : j < 3
      · match j, h3 with
        | 0, _ => rfl
        | 1, _ => rfl
        | 2, _ => rfl
      · rw [if_neg (by omega : ¬ j - 3 = i)]
    · simp only [h7, if_false]

set_option maxHeartbeats 2000000 in
theorem rbuf_any (w : World) (g : Nat) (r : Nat → RpV) (p b : Int) (B : Nat) (A : Option Addr) (c : Nat) (xs : List Int) (h : IsR w g r) (hr : Reads w B 1 A xs.length (xs.map (Value.int .u8))) (hA : 0 < xs.length → ∀ ad, A = some ad → ad.block ∉ [g]) (hB : B ≤ w.heap.size) (hl : xs.length ≤ maxLen) :
    Calls Try.prog 30 #[.pointer (some ⟨g, 0, none⟩), .int .i64 p, .int .i64 b, .slice A xs.length c] w (RBuf r g p b xs w) := by
  unfold maxLen at hl
  have HH := hide (is_any w g r p h)
  have H := hide h
  have HR := hide hr
  clear h hr
  go_enter Try.func30, Try.ntmps30
  go_wp2_with fail
  refine (unhid_ HH).mono ?_
  rintro e w' ⟨rfl, rfl⟩
  have HE : Hid (∀ er, bufErr (ris r p) b xs.length = er → er ≠ 0 → RBuf r g p b xs w (.returned (.int .i64 er)) w) := by
    rintro er h1 h2
    exact ⟨by rw [h1], Only.refl _ _, .inl ⟨by rw [h1]; exact h2, unhid_ H⟩⟩
  cases hh : ris r p with
  | false =>
    go_wp2
    go_ret
    exact (unhid_ HE) 12 (by rw [hh]; rfl) (by decide)
  | true =>
    by_cases hb : 0 ≤ b ∧ b < 4
    · obtain ⟨i, rfl⟩ := Int.eq_ofNat_of_zero_le hb.1
      have hi4 : i < 4 := by omega
      have hiI : (i : Int) < 4 := by omega
      clear hb
      by_cases hn : xs.length ≤ 256
      · obtain ⟨k, rfl, _, hk, _⟩ := ris_nat hh
        have hkI : (k : Int) < 13 := by omega
        have e0 : bufErr (ris r (k : Int)) (i : Int) xs.length = 0 := by
          rw [hh]
          simp only [bufErr, Bool.true_eq_false, if_false]
          rw [if_neg (by omega), if_neg (by omega)]
        have d := (unhid_ H).cell (k := k) (c := 3 + i) hk (by omega)
        rw [show k * 39 + (3 + i) = k * 39 + 3 + i from by omega] at d
        have f : w.frozen? ⟨g, k * 39 + 3 + i, none⟩ = false := (unhid_ H).frozen _
        have E0 := Lib.hid e0
        have hnI : (xs.length : Int) ≤ 256 := by omega
        have hcv' : ∀ W : World, Only [g] w W → (convert 39 9 (.slice A xs.length c)).run Try.prog W = .ok (.string (strOfNums xs)) W := fun W hW => by
          rcases Nat.eq_zero_or_pos xs.length with h0 | h0
          · obtain rfl := List.eq_nil_of_length_eq_zero h0
            exact conv_zero W A c
          · exact conv_any (hW.reads (unhid_ HR) hB (hA h0))
        clear hh e0
        go_upto_region 7 with (fail)
        refine wp_region_held_drew (S := (fun W => (convert 39 9 (.slice A xs.length c)).run Try.prog W = .ok (.string (strOfNums xs)) W)) (by kernel_rfl) ?_ (fun hHeld => ?_)
        · exact hcv' _ (Only.refl [g] w).drew
        refine wpAnyH_take (i := 0) (oi := ({ dst := some 25, op := Op.move (Operand.tmp 0), type := 51, pos := _, after := #[], guard := none })) (v := ?_) rfl (by kernel_rfl) (by kernel_rfl) (by kernel_rfl) (fun _ _ _ h => h) (Or.inl ⟨by rfl, ?_⟩) (by assumption) ?_
        rotate_left
        · (intro wq hSw; (try dsimp only at hSw); go_simp; try with_reducible rfl)
        try simp only [Act.put, List.setIfInBounds_toArray, List.set_cons_zero, List.set_cons_succ]
        refine wpAnyH_take (i := 1) (oi := ({ dst := some 26, op := Op.move (Operand.tmp 1), type := 3, pos := _, after := #[], guard := none })) (v := ?_) rfl (by kernel_rfl) (by kernel_rfl) (by kernel_rfl) (fun _ _ _ h => h) (Or.inl ⟨by rfl, ?_⟩) (by assumption) ?_
        rotate_left
        · (intro wq hSw; (try dsimp only at hSw); go_simp; try with_reducible rfl)
        try simp only [Act.put, List.setIfInBounds_toArray, List.set_cons_zero, List.set_cons_succ]
        refine wpAnyH_take (i := 2) (oi := ({ dst := some 27, op := Op.move (Operand.tmp 2), type := 3, pos := _, after := #[], guard := none })) (v := ?_) rfl (by kernel_rfl) (by kernel_rfl) (by kernel_rfl) (fun _ _ _ h => h) (Or.inl ⟨by rfl, ?_⟩) (by assumption) ?_
        rotate_left
        · (intro wq hSw; (try dsimp only at hSw); go_simp; try with_reducible rfl)
        try simp only [Act.put, List.setIfInBounds_toArray, List.set_cons_zero, List.set_cons_succ]
        refine wpAnyH_take (i := 3) (oi := ({ dst := some 28, op := Op.move (Operand.tmp 3), type := 39, pos := _, after := #[], guard := none })) (v := ?_) rfl (by kernel_rfl) (by kernel_rfl) (by kernel_rfl) (fun _ _ _ h => h) (Or.inl ⟨by rfl, ?_⟩) (by assumption) ?_
        rotate_left
        · (intro wq hSw; (try dsimp only at hSw); go_simp; try with_reducible rfl)
        try simp only [Act.put, List.setIfInBounds_toArray, List.set_cons_zero, List.set_cons_succ]
        refine wpAnyH_take (i := 4) (oi := ({ dst := some 29, op := Op.convert 39 9 (Operand.tmp 28), type := 9, pos := _, after := #[{ on := 3, ground := Ground.data }], guard := none })) (v := ?_) rfl (by kernel_rfl) (by kernel_rfl) (by kernel_rfl) (fun _ _ _ h => h) (Or.inl ⟨by rfl, ?_⟩) (by assumption) ?_
        rotate_left
        · (intro wq hSw; (try dsimp only at hSw); go_simp; try with_reducible rfl)
        try simp only [Act.put, List.setIfInBounds_toArray, List.set_cons_zero, List.set_cons_succ]
        refine wpAnyH_take (i := 5) (oi := ({ dst := some 30, op := Op.nilCheck (Operand.tmp 25), type := 0, pos := _, after := #[{ on := 0, ground := Ground.data }], guard := none })) (v := ?_) rfl (by kernel_rfl) (by kernel_rfl) (by kernel_rfl) (fun _ _ _ h => h) (Or.inl ⟨by rfl, ?_⟩) (by assumption) ?_
        rotate_left
        · (intro wq hSw; (try dsimp only at hSw); go_simp; try with_reducible rfl)
        try simp only [Act.put, List.setIfInBounds_toArray, List.set_cons_zero, List.set_cons_succ]
        refine wpAnyH_take (i := 6) (oi := ({ dst := some 31, op := Op.fieldAddr 59 (Operand.tmp 30) 0, type := 0, pos := _, after := #[{ on := 5, ground := Ground.data }], guard := none })) (v := ?_) rfl (by kernel_rfl) (by kernel_rfl) (by kernel_rfl) (fun _ _ _ h => h) (Or.inl ⟨by rfl, ?_⟩) (by assumption) ?_
        rotate_left
        · (intro wq hSw; (try dsimp only at hSw); go_simp; try with_reducible rfl)
        try simp only [Act.put, List.setIfInBounds_toArray, List.set_cons_zero, List.set_cons_succ]
        refine wpAnyH_take (i := 7) (oi := ({ dst := some 32, op := Op.indexAddr 57 (Operand.tmp 31) (Operand.tmp 26), type := 0, pos := _, after := #[{ on := 6, ground := Ground.data }, { on := 1, ground := Ground.data }], guard := none })) (v := ?_) rfl (by kernel_rfl) (by kernel_rfl) (by kernel_rfl) (fun _ _ _ h => h) (Or.inl ⟨by rfl, ?_⟩) (by assumption) ?_
        rotate_left
        · (intro wq hSw; (try dsimp only at hSw); go_simp; try with_reducible rfl)
        try simp only [Act.put, List.setIfInBounds_toArray, List.set_cons_zero, List.set_cons_succ]
        refine wpAnyH_take (i := 8) (oi := ({ dst := some 33, op := Op.fieldAddr 56 (Operand.tmp 32) 3, type := 0, pos := _, after := #[{ on := 7, ground := Ground.data }], guard := none })) (v := ?_) rfl (by kernel_rfl) (by kernel_rfl) (by kernel_rfl) (fun _ _ _ h => h) (Or.inl ⟨by rfl, ?_⟩) (by assumption) ?_
        rotate_left
        · (intro wq hSw; (try dsimp only at hSw); go_simp; try with_reducible rfl)
        try simp only [Act.put, List.setIfInBounds_toArray, List.set_cons_zero, List.set_cons_succ]
        refine wpAnyH_take (i := 9) (oi := ({ dst := some 34, op := Op.indexAddr 52 (Operand.tmp 33) (Operand.tmp 27), type := 0, pos := _, after := #[{ on := 8, ground := Ground.data }, { on := 2, ground := Ground.data }, { on := 0, ground := Ground.phase }, { on := 1, ground := Ground.phase }, { on := 2, ground := Ground.phase }, { on := 3, ground := Ground.phase }, { on := 4, ground := Ground.phase }], guard := none })) (v := ?_) rfl (by kernel_rfl) (by kernel_rfl) (by kernel_rfl) (fun _ _ _ h => h) (Or.inl ⟨by rfl, ?_⟩) (by assumption) ?_
        rotate_left
        · (intro wq hSw; (try dsimp only at hSw); go_simp; try with_reducible rfl)
        try simp only [Act.put, List.setIfInBounds_toArray, List.set_cons_zero, List.set_cons_succ]
        refine wpAnyH_ready (rs := [10]) (by kernel_rfl) (by simp) ?_
        refine AllReadyH.cons (o := ({ dst := none, op := Op.store 9 (Operand.tmp 34) (Operand.tmp 29), type := 0, pos := _, after := #[{ on := 9, ground := Ground.data }, { on := 4, ground := Ground.data }, { on := 0, ground := Ground.phase }, { on := 1, ground := Ground.phase }, { on := 2, ground := Ground.phase }, { on := 3, ground := Ground.phase }, { on := 4, ground := Ground.phase }], guard := none })) rfl (fun K hK => ?_) AllReadyH.nil
        go_simp
        skip
        refine hK.out _ _ ?_ (fun hHeld => ?_)
        · exact hcv' _ ((Only.refl [g] w).drew.setCell (p := ⟨g, k * 39 + 3 + i, none⟩) (.inl (by simp)) _)
        clear hK K
        try simp only [Act.put, List.setIfInBounds_toArray, List.set_cons_zero, List.set_cons_succ]
        refine wpAnyH_done (by kernel_rfl) ?_ _
        clear hcv' d f
        go_wp2
        go_ret
        refine ⟨by rw [E0.out]; rfl, (Only.refl [g] w).drew.setCell (p := ⟨g, k * 39 + 3 + i, none⟩) (.inl (by simp)) _, .inr ⟨E0.out, ?_⟩⟩
        rw [Int.toNat_natCast, Int.toNat_natCast]
        exact IsR.setBuf (w := w.drew) (unhid_ H) hi4
      · have e14 : bufErr (ris r p) (i : Int) xs.length = 14 := by
          rw [hh]
          simp only [bufErr, Bool.true_eq_false, if_false]
          rw [if_neg (by omega), if_pos (by omega)]
        have E14 := Lib.hid e14
        have hnI : (256 : Int) < (xs.length : Int) := by omega
        clear hh e14
        go_wp2
        go_ret
        exact (unhid_ HE) 14 E14.out (by decide)
    · have e1 : bufErr (ris r p) b xs.length = 1 := by
        rw [hh]
        simp only [bufErr, Bool.true_eq_false, if_false]
        rw [if_pos (by omega)]
      have E1 := Lib.hid e1
      have hbad : b < 0 ∨ (0 ≤ b ∧ 4 ≤ b) := by omega
      clear hh e1 hb
      rcases hbad with h | ⟨h, h'⟩
      all_goals
        go_wp2
        go_ret
        exact (unhid_ HE) 1 E1.out (by decide)

/-- what SetBuf leaves -/
def BufT (t : TbV) (base g : Nat) (p b : Int) (xs : List Int) (w : World) (e : Ending) (w' : World) : Prop :=
  e = .returned (.int .i64 (bufErr (t.has p) b xs.length)) ∧ Only [g] w w' ∧ ((bufErr (t.has p) b xs.length ≠ 0 ∧ IsT w' base g t) ∨ (bufErr (t.has p) b xs.length = 0 ∧ ∃ y : BufV, y.xs = xs ∧ y.ok w' w.heap.size ∧ IsT w' base g (t.setPr p.toNat ((t.p p.toNat).setBuf b.toNat y))))
theorem IsT.setBuf {w : World} {base g : Nat} {t : TbV} (h : IsT w base g t) {k i : Nat} {y : BufV} (hk : k < 13) (hi : i < 4) (hy : y.ok w base) : IsT (w.setCell ⟨g, k * 38 + 2 + i, none⟩ y.val) base g (t.setPr k ((t.p k).setBuf i y)) := by
  refine h.setC (vs := [y.val]) (c := 2 + i) hk (by omega) (by simp; omega) (fun j hj => ?_) fun j hj => ?_
  · rw [putAt_cons, putAt_nil]
    exact cell_setBuf hi j hj
  · simp only [PrV.setBuf]
    split
    · exact hy
    · exact h.2.2 k j hk hj

set_option maxHeartbeats 2000000 in
theorem buf_any (w : World) (base g : Nat) (t : TbV) (p b : Int) (B : Nat) (A : Option Addr) (c : Nat) (xs : List Int) (h : IsT w base g t) (hbase : base ≤ w.heap.size) (hr : Reads w B 1 A xs.length (xs.map (Value.int .u8))) (hl : xs.length ≤ maxLen) :
    Calls Try.prog 29 #[.pointer (some ⟨g, 0, none⟩), .int .i64 p, .int .i64 b, .slice A xs.length c] w (BufT t base g p b xs w) := by
  unfold maxLen at hl
  have HH := hide (has_any w base g t p h)
  have H := hide h
  have HR := hide hr
  clear h hr
  go_enter Try.func29, Try.ntmps29
  go_wp2_with fail
  refine (unhid_ HH).mono ?_
  rintro e w' ⟨rfl, rfl⟩
  have HE : Hid (∀ er, bufErr (t.has p) b xs.length = er → er ≠ 0 → BufT t base g p b xs w (.returned (.int .i64 er)) w) := by
    rintro er h1 h2
    exact ⟨by rw [h1], Only.refl _ _, .inl ⟨by rw [h1]; exact h2, unhid_ H⟩⟩
  cases hh : t.has p with
  | false =>
    go_wp2
    go_ret
    exact (unhid_ HE) 12 (by rw [hh]; rfl) (by decide)
  | true =>
    by_cases hb : 0 ≤ b ∧ b < 4
    · obtain ⟨i, rfl⟩ := Int.eq_ofNat_of_zero_le hb.1
      have hi4 : i < 4 := by omega
      have hiI : (i : Int) < 4 := by omega
      clear hb
      by_cases hn : xs.length ≤ 256
      · obtain ⟨k, rfl, _, hk, _⟩ := TbV.has_nat hh
        have hkI : (k : Int) < 13 := by omega
        have e0 : bufErr (t.has (k : Int)) (i : Int) xs.length = 0 := by
          rw [hh]
          simp only [bufErr, Bool.true_eq_false, if_false]
          rw [if_neg (by omega), if_neg (by omega)]
        have E0 := Lib.hid e0
        have hnI : (xs.length : Int) ≤ 256 := by omega
        have hglt := (unhid_ H).1.lt
        clear hh e0
        go_upto_region 7 with (fail)
        refine wp_region_held_drew (S := (fun _ => True)) (by kernel_rfl) ?_ (fun hHeld => ?_)
        · trivial
        refine wpAnyH_take (i := 0) (oi := ({ dst := some 25, op := Op.move (Operand.tmp 0), type := 23, pos := _, after := #[], guard := none })) (v := ?_) rfl (by kernel_rfl) (by kernel_rfl) (by kernel_rfl) (fun _ _ _ h => h) (Or.inl ⟨by rfl, ?_⟩) (by assumption) ?_
        rotate_left
        · (intro wq hSw; (try dsimp only at hSw); go_simp; try with_reducible rfl)
        try simp only [Act.put, List.setIfInBounds_toArray, List.set_cons_zero, List.set_cons_succ]
        refine wpAnyH_take (i := 1) (oi := ({ dst := some 26, op := Op.move (Operand.tmp 1), type := 3, pos := _, after := #[], guard := none })) (v := ?_) rfl (by kernel_rfl) (by kernel_rfl) (by kernel_rfl) (fun _ _ _ h => h) (Or.inl ⟨by rfl, ?_⟩) (by assumption) ?_
        rotate_left
        · (intro wq hSw; (try dsimp only at hSw); go_simp; try with_reducible rfl)
        try simp only [Act.put, List.setIfInBounds_toArray, List.set_cons_zero, List.set_cons_succ]
        refine wpAnyH_take (i := 2) (oi := ({ dst := some 27, op := Op.move (Operand.tmp 2), type := 3, pos := _, after := #[], guard := none })) (v := ?_) rfl (by kernel_rfl) (by kernel_rfl) (by kernel_rfl) (fun _ _ _ h => h) (Or.inl ⟨by rfl, ?_⟩) (by assumption) ?_
        rotate_left
        · (intro wq hSw; (try dsimp only at hSw); go_simp; try with_reducible rfl)
        try simp only [Act.put, List.setIfInBounds_toArray, List.set_cons_zero, List.set_cons_succ]
        refine wpAnyH_take (i := 3) (oi := ({ dst := some 28, op := Op.move (Operand.tmp 3), type := 39, pos := _, after := #[], guard := none })) (v := ?_) rfl (by kernel_rfl) (by kernel_rfl) (by kernel_rfl) (fun _ _ _ h => h) (Or.inl ⟨by rfl, ?_⟩) (by assumption) ?_
        rotate_left
        · (intro wq hSw; (try dsimp only at hSw); go_simp; try with_reducible rfl)
        try simp only [Act.put, List.setIfInBounds_toArray, List.set_cons_zero, List.set_cons_succ]
        refine wpAnyH_take (i := 5) (oi := ({ dst := some 30, op := Op.nilCheck (Operand.tmp 25), type := 0, pos := _, after := #[{ on := 0, ground := Ground.data }], guard := none })) (v := ?_) rfl (by kernel_rfl) (by kernel_rfl) (by kernel_rfl) (fun _ _ _ h => h) (Or.inl ⟨by rfl, ?_⟩) (by assumption) ?_
        rotate_left
        · (intro wq hSw; (try dsimp only at hSw); go_simp; try with_reducible rfl)
        try simp only [Act.put, List.setIfInBounds_toArray, List.set_cons_zero, List.set_cons_succ]
        refine wpAnyH_take (i := 6) (oi := ({ dst := some 31, op := Op.fieldAddr 68 (Operand.tmp 30) 0, type := 0, pos := _, after := #[{ on := 5, ground := Ground.data }], guard := none })) (v := ?_) rfl (by kernel_rfl) (by kernel_rfl) (by kernel_rfl) (fun _ _ _ h => h) (Or.inl ⟨by rfl, ?_⟩) (by assumption) ?_
        rotate_left
        · (intro wq hSw; (try dsimp only at hSw); go_simp; try with_reducible rfl)
        try simp only [Act.put, List.setIfInBounds_toArray, List.set_cons_zero, List.set_cons_succ]
        refine wpAnyH_take (i := 7) (oi := ({ dst := some 32, op := Op.indexAddr 66 (Operand.tmp 31) (Operand.tmp 26), type := 0, pos := _, after := #[{ on := 6, ground := Ground.data }, { on := 1, ground := Ground.data }], guard := none })) (v := ?_) rfl (by kernel_rfl) (by kernel_rfl) (by kernel_rfl) (fun _ _ _ h => h) (Or.inl ⟨by rfl, ?_⟩) (by assumption) ?_
        rotate_left
        · (intro wq hSw; (try dsimp only at hSw); go_simp; try with_reducible rfl)
        try simp only [Act.put, List.setIfInBounds_toArray, List.set_cons_zero, List.set_cons_succ]
        refine wpAnyH_take (i := 8) (oi := ({ dst := some 33, op := Op.fieldAddr 43 (Operand.tmp 32) 2, type := 0, pos := _, after := #[{ on := 7, ground := Ground.data }], guard := none })) (v := ?_) rfl (by kernel_rfl) (by kernel_rfl) (by kernel_rfl) (fun _ _ _ h => h) (Or.inl ⟨by rfl, ?_⟩) (by assumption) ?_
        rotate_left
        · (intro wq hSw; (try dsimp only at hSw); go_simp; try with_reducible rfl)
        try simp only [Act.put, List.setIfInBounds_toArray, List.set_cons_zero, List.set_cons_succ]
        refine wpAnyH_ready (rs := [4]) (by kernel_rfl) (by simp) ?_
        refine AllReadyH.cons (o := ({ dst := some 29, op := Op.call { callee := Callee.builtin Builtin.append, args := #[Operand.const (Value.slice none 0 0), Operand.tmp 28], argTypes := #[39, 39] }, type := 39, pos := _, after := #[{ on := 3, ground := Ground.data }], guard := none })) rfl (fun K hK => ?_) AllReadyH.nil
        refine step_append_any rfl (.const (.slice none 0 0)) (.tmp 28) rfl w.heap.size (.slice none 0 0) 0 [] rfl (World.ownsRow_nil _ _ _ _) B A xs.length c (xs.map (Value.int .u8)) rfl (unhid_ HR) (By_one xs) (by omega) (Nat.le_refl _) ?_
        intro v1 w1 hown1 hg1 hat1
        simp only [Nat.zero_add, List.nil_append] at hown1
        obtain ⟨A1, c1, rfl⟩ := own_slice hown1
        have hb1 : Below w.heap.size w w1 := (Only.below (Only.refl [] w).drew (by simp) (Nat.le_refl _)).grown hg1 (Nat.le_refl _) (by simp [Value.ownBlock])
        have hT1 : IsT w1 base g t := (unhid_ H).below hb1
        have d := hT1.cell (p := k) (j := 2 + i) hk (by omega)
        rw [show 38 * k + (2 + i) = k * 38 + 2 + i from by omega] at d
        have f : w1.frozen? ⟨g, k * 38 + 2 + i, none⟩ = false := hT1.1.frozen _
        have HT1 := hide hT1
        have HB1 := hide hb1
        have HOWN := hide hown1
        clear hT1 hb1 hown1 hg1 hat1
        refine hK.out _ _ ?_ (fun hHeld => ?_)
        · trivial
        clear hK K
        try simp only [Act.put, List.setIfInBounds_toArray, List.set_cons_zero, List.set_cons_succ]
        refine wpAnyH_take (i := 9) (oi := ({ dst := some 34, op := Op.indexAddr 40 (Operand.tmp 33) (Operand.tmp 27), type := 0, pos := _, after := #[{ on := 8, ground := Ground.data }, { on := 2, ground := Ground.data }, { on := 0, ground := Ground.phase }, { on := 1, ground := Ground.phase }, { on := 2, ground := Ground.phase }, { on := 3, ground := Ground.phase }, { on := 4, ground := Ground.phase }], guard := none })) (v := ?_) rfl (by kernel_rfl) (by kernel_rfl) (by kernel_rfl) (fun _ _ _ h => h) (Or.inl ⟨by rfl, ?_⟩) (by assumption) ?_
        rotate_left
        · (intro wq hSw; (try dsimp only at hSw); go_simp; try with_reducible rfl)
        try simp only [Act.put, List.setIfInBounds_toArray, List.set_cons_zero, List.set_cons_succ]
        refine wpAnyH_ready (rs := [10]) (by kernel_rfl) (by simp) ?_
        refine AllReadyH.cons (o := ({ dst := none, op := Op.store 39 (Operand.tmp 34) (Operand.tmp 29), type := 0, pos := _, after := #[{ on := 9, ground := Ground.data }, { on := 4, ground := Ground.data }, { on := 4, ground := Ground.chain }, { on := 0, ground := Ground.phase }, { on := 1, ground := Ground.phase }, { on := 2, ground := Ground.phase }, { on := 3, ground := Ground.phase }, { on := 4, ground := Ground.phase }], guard := none })) rfl (fun K hK => ?_) AllReadyH.nil
        go_simp
        skip
        refine hK.out _ _ ?_ (fun hHeld => ?_)
        · trivial
        clear hK K
        try simp only [Act.put, List.setIfInBounds_toArray, List.set_cons_zero, List.set_cons_succ]
        refine wpAnyH_done (by kernel_rfl) ?_ _
        clear d f
        go_wp2
        go_ret
        have hlen : xs.length ≤ 100000 := by omega
        refine ⟨by rw [E0.out]; rfl, (Only.of_below (unhid_ HB1) [g]).setCell (p := ⟨g, k * 38 + 2 + i, none⟩) (.inl (by simp)) _, .inr ⟨E0.out, ⟨A1, c1, xs⟩, rfl, ⟨ownsRow_setCell_below (unhid_ HOWN) (a := ⟨g, k * 38 + 2 + i, none⟩) hglt _, hlen⟩, ?_⟩⟩
        rw [Int.toNat_natCast, Int.toNat_natCast]
        exact (unhid_ HT1).setBuf (y := ⟨A1, c1, xs⟩) hk hi4 ⟨own_base (unhid_ HOWN) hbase, hlen⟩
      · have e14 : bufErr (t.has p) (i : Int) xs.length = 14 := by
          rw [hh]
          simp only [bufErr, Bool.true_eq_false, if_false]
          rw [if_neg (by omega), if_pos (by omega)]
        have E14 := Lib.hid e14
        have hnI : (256 : Int) < (xs.length : Int) := by omega
        clear hh e14
        go_wp2
        go_ret
        exact (unhid_ HE) 14 E14.out (by decide)
    · have e1 : bufErr (t.has p) b xs.length = 1 := by
        rw [hh]
        simp only [bufErr, Bool.true_eq_false, if_false]
        rw [if_pos (by omega)]
      have E1 := Lib.hid e1
      have hbad : b < 0 ∨ (0 ≤ b ∧ 4 ≤ b) := by omega
      clear hh e1 hb
      rcases hbad with h | ⟨h, h'⟩
      all_goals
        go_wp2
        go_ret
        exact (unhid_ HE) 1 E1.out (by decide)
end Go.Proofs.Ytgdloahgokefpaa
