/- The walk of the law TableUses. -/
import Derived.Test.YtgdloahgokefpaaTabAw
import Derived.Test.YtgdloahgokefpaaPlace
namespace Go.Proofs.Ytgdloahgokefpaa
open Go.RowKit
set_option linter.unusedSimpArgs false

/-- two ends of pipe 4, or none -/
def ends (r w : Bool) : Nat → FdV := fun i => if i = 0 ∧ r = true then ⟨3, 4, 0, false⟩ else if i = 1 ∧ w = true then ⟨3, 4, 0, true⟩ else FdV.zero
def inn (n p : Nat) : Bool := decide (1 ≤ p) && decide (p ≤ n)
/-- processes 1 .. n, with such ends -/
def PipeSt (t : TbV) (n : Nat) (R W : Nat → Bool) : Prop := (∀ p, p < 13 → t.th p = inn n p) ∧ ∀ p, p < 13 → t.F p = ends (inn n p && R p) (inn n p && W p)
theorem cnt_ends (r w : Bool) : cntR (ends r w) 3 4 8 = (if r = true then 1 else 0) ∧ cntW (ends r w) 3 4 8 = (if w = true then 1 else 0) ∧ cntR (ends r w) 3 5 8 = 0 ∧ cntW (ends r w) 3 5 8 = 0 := by
  cases r <;> cases w <;> decide +kernel
def tally (n : Nat) (R : Nat → Bool) : Nat → Nat
  | 0 => 0
  | k + 1 => tally n R k + (if (inn n k && R k) = true then 1 else 0)
theorem reads_succF (F : Nat → Nat → FdV) (kind thing : Int) (k : Nat) : readsF F kind thing (k + 1) = readsF F kind thing k + cntR (F k) kind thing 8 := by
  simp [readsF, List.range_succ]
theorem writes_succF (F : Nat → Nat → FdV) (kind thing : Int) (k : Nat) : writesF F kind thing (k + 1) = writesF F kind thing k + cntW (F k) kind thing 8 := by
  simp [writesF, List.range_succ]
theorem PipeSt.tallies {t : TbV} {n : Nat} {R W : Nat → Bool} (h : PipeSt t n R W) : ∀ k, k ≤ 13 → t.reads 3 4 k = tally n R k ∧ t.writes 3 4 k = tally n W k ∧ t.reads 3 5 k = 0 ∧ t.writes 3 5 k = 0
  | 0, _ => ⟨rfl, rfl, rfl, rfl⟩
  | k + 1, hk => by
    obtain ⟨h1, h2, h3, h4⟩ := PipeSt.tallies h k (by omega)
    obtain ⟨c1, c2, c3, c4⟩ := cnt_ends (inn n k && R k) (inn n k && W k)
    have e := h.2 k (by omega)
    simp only [reads_F, writes_F] at *
    rw [reads_succF, writes_succF, reads_succF, writes_succF, e, c1, c2, c3, c4, h1, h2, h3, h4]
    exact ⟨rfl, rfl, rfl, rfl⟩
/-- what the law counts: k from 1 to n -/
theorem tally_one (n : Nat) (R : Nat → Bool) : tally n R 1 = 0 := rfl
theorem tally_step {n k : Nat} {R : Nat → Bool} (h1 : 1 ≤ k) (h2 : k ≤ n) : tally n R (k + 1) = tally n R k + (if R k = true then 1 else 0) := by
  show tally n R k + _ = _
  congr 2
  simp [inn, h1, h2]
theorem tally_past {n : Nat} (R : Nat → Bool) : ∀ k, n + 1 ≤ k → tally n R k = tally n R (n + 1)
  | 0, h => absurd h (by omega)
  | k + 1, h => by
    rcases Nat.lt_or_ge k (n + 1) with h1 | h1
    · obtain rfl : k = n := by omega
      rfl
    · show tally n R k + _ = _
      rw [tally_past R k h1]
      simp [inn, show ¬ k ≤ n by omega]
theorem tally_le (n : Nat) (R : Nat → Bool) : ∀ k, tally n R k ≤ k
  | 0 => Nat.le_refl _
  | k + 1 => by
    have := tally_le n R k
    show tally n R k + _ ≤ _
    split <;> omega
theorem PipeSt.free {t : TbV} {n : Nat} (hn : n < 12) {R W : Nat → Bool} (h : PipeSt t n R W) : t.slot = some (n + 1) :=
  find_range _ 13 (n + 1) (by omega) (by rw [h.1 _ (by omega)]; simp [inn]) fun j hj => by
    rw [h.1 j (by omega)]
    simp [inn]
    omega
theorem PipeSt.has {t : TbV} {n : Nat} (hn : n ≤ 12) {R W : Nat → Bool} (h : PipeSt t n R W) {p : Nat} (h1 : 1 ≤ p) (h2 : p ≤ n) : t.has (p : Int) = true := by
  unfold TbV.has
  rw [Int.toNat_natCast, h.1 p (by omega)]
  simp [inn]
  omega
def yes_ : Nat → Bool := fun _ => true
/-- a process more, from the first one -/
theorem PipeSt.fork {t : TbV} {n : Nat} (h1 : 1 ≤ n) (h : PipeSt t n yes_ yes_) {x : PrV} (hx : x.f = t.F 1) : PipeSt (t.put (n + 1) x) (n + 1) yes_ yes_ := by
  refine ⟨fun p hp => ?_, fun p hp => ?_⟩
  · rw [th_put]
    show (if p = n + 1 then true else t.th p) = _
    by_cases e : p = n + 1
    · rw [if_pos e]; simp [inn, e]
    · rw [if_neg e, h.1 p hp]
      unfold inn
      congr 1
      simp only [decide_eq_decide]
      omega
  · rw [F_put]
    show (if p = n + 1 then x.f else t.F p) = _
    by_cases e : p = n + 1
    · rw [if_pos e, hx, h.2 1 (by omega)]
      simp [inn, e, h1, yes_]
    · rw [if_neg e, h.2 p hp]
      have : inn n p = inn (n + 1) p := by
        unfold inn
        congr 1
        simp only [decide_eq_decide]
        omega
      rw [this]
theorem ends_zero (r w : Bool) : (decide (ends r w 0 = FdV.zero) = !r) ∧ (decide (ends r w 1 = FdV.zero) = !w) := by
  cases r <;> cases w <;> decide
/-- an end is closed -/
theorem PipeSt.closeR {t : TbV} {n p : Nat} (hn : n ≤ 12) {R W : Nat → Bool} (h : PipeSt t n R W) (h1 : 1 ≤ p) (h2 : p ≤ n) : PipeSt (t.close p (0 : Nat)) n (fun j => if j = p then false else R j) W := by
  have hh := h.has hn h1 h2
  have hi : inn n p = true := by simp [inn, h1, h2]
  have hok : t.fdOk (p : Int) ((0 : Nat) : Int) = R p := by
    have e : (t.p p).f = ends (inn n p && R p) (inn n p && W p) := h.2 p (by omega)
    unfold TbV.fdOk
    rw [Int.toNat_natCast, Int.toNat_natCast, e, (ends_zero _ _).1, hi]
    simp
  have hth : (t.close (p : Int) ((0 : Nat) : Int)).th = t.th := by unfold TbV.close; split <;> rfl
  refine ⟨fun q hq => by rw [hth]; exact h.1 q hq, fun q hq => ?_⟩
  unfold TbV.close
  rw [hh, hok]
  have e := h.2 q hq
  cases hR : R p with
  | false =>
    show t.F q = _
    rw [e]
    congr 1
    by_cases c : q = p
    · subst c; simp [hR]
    · simp [c]
  | true =>
    show (t.setFd (p : Int).toNat ((0 : Nat) : Int).toNat FdV.zero).F q = _
    rw [F_setFd, Int.toNat_natCast, Int.toNat_natCast]
    show (if q = p then _ else t.F q) = _
    by_cases c : q = p
    · subst c
      rw [if_pos rfl, e, hi]
      funext j
      simp only [ends, Bool.true_and, if_true]
      by_cases j0 : j = 0
      · subst j0; simp
      · simp [j0]
    · rw [if_neg c, e]
      simp [c]
theorem PipeSt.closeW {t : TbV} {n p : Nat} (hn : n ≤ 12) {R W : Nat → Bool} (h : PipeSt t n R W) (h1 : 1 ≤ p) (h2 : p ≤ n) : PipeSt (t.close p (1 : Nat)) n R (fun j => if j = p then false else W j) := by
  have hh := h.has hn h1 h2
  have hi : inn n p = true := by simp [inn, h1, h2]
  have hok : t.fdOk (p : Int) ((1 : Nat) : Int) = W p := by
    have e : (t.p p).f = ends (inn n p && R p) (inn n p && W p) := h.2 p (by omega)
    unfold TbV.fdOk
    rw [Int.toNat_natCast, Int.toNat_natCast, e, (ends_zero _ _).2, hi]
    simp
  have hth : (t.close (p : Int) ((1 : Nat) : Int)).th = t.th := by unfold TbV.close; split <;> rfl
  refine ⟨fun q hq => by rw [hth]; exact h.1 q hq, fun q hq => ?_⟩
  unfold TbV.close
  rw [hh, hok]
  have e := h.2 q hq
  cases hW : W p with
  | false =>
    show t.F q = _
    rw [e]
    congr 1
    by_cases c : q = p
    · subst c; simp [hW]
    · simp [c]
  | true =>
    show (t.setFd (p : Int).toNat ((1 : Nat) : Int).toNat FdV.zero).F q = _
    rw [F_setFd, Int.toNat_natCast, Int.toNat_natCast]
    show (if q = p then _ else t.F q) = _
    by_cases c : q = p
    · subst c
      rw [if_pos rfl, e, hi]
      funext j
      simp only [ends, Bool.true_and, if_true]
      by_cases j1 : j = 1
      · subst j1; simp
      · simp [j1]
    · rw [if_neg c, e]
      simp [c]
end Go.Proofs.Ytgdloahgokefpaa
