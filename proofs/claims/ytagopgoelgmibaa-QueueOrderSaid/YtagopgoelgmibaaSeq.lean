/- Plain laws on bytes in a row, and how a slice is filled with them. Conditions: none. -/
import Derived.Test.YtagopgoelgmibaaQ4
import Derived.Test.YtagopgoelgmibaaPlace
namespace Go.Proofs.Ytagopgoelgmibaa
open Go.RowKit
set_option linter.unusedSimpArgs false

/-- cnt bytes in a row, from first on -/
def seqB (first cnt : Nat) : List Int := (List.range cnt).map fun t => (((first + t) % 256 : Nat) : Int)
theorem seqB_length (f c : Nat) : (seqB f c).length = c := by simp [seqB]
theorem seqB_at (f c j : Nat) (h : j < (seqB f c).length) : (seqB f c)[j] = (((f + j) % 256 : Nat) : Int) := by simp [seqB]
theorem seqB_app (f c k a : Nat) (h : k ≤ a) : seqB f c ++ (seqB (f + c) a).take k = seqB f (c + k) := by
  apply List.ext_getElem?
  intro i
  rw [List.getElem?_append, seqB_length]
  by_cases h1 : i < c
  · rw [if_pos h1, List.getElem?_eq_getElem (by rw [seqB_length]; omega), List.getElem?_eq_getElem (by rw [seqB_length]; omega), seqB_at, seqB_at]
  · rw [if_neg h1, List.getElem?_take]
    by_cases h2 : i - c < k
    · rw [if_pos h2, List.getElem?_eq_getElem (by rw [seqB_length]; omega), List.getElem?_eq_getElem (by rw [seqB_length]; omega), seqB_at, seqB_at]
      rw [show f + c + (i - c) = f + i from by omega]
    · rw [if_neg h2, List.getElem?_eq_none (by rw [seqB_length]; omega)]
theorem seqB_drop (f c k : Nat) : (seqB f c).drop k = seqB (f + k) (c - k) := by
  apply List.ext_getElem?
  intro i
  rw [List.getElem?_drop]
  by_cases h : k + i < c
  · rw [List.getElem?_eq_getElem (by rw [seqB_length]; omega), List.getElem?_eq_getElem (by rw [seqB_length]; omega), seqB_at, seqB_at]
    rw [show f + (k + i) = f + k + i from by omega]
  · rw [List.getElem?_eq_none (by rw [seqB_length]; omega), List.getElem?_eq_none (by rw [seqB_length]; omega)]
/-- the first k of a bytes are laid -/
def fillB (f a k : Nat) : List Int := seqB f k ++ zeros (a - k)
theorem fillB_length (f a k : Nat) (h : k ≤ a) : (fillB f a k).length = a := by simp [fillB, seqB_length, zeros_length]; omega
theorem fillB_zero (f a : Nat) : fillB f a 0 = zeros a := by simp [fillB, seqB]
theorem fillB_full (f a : Nat) : fillB f a a = seqB f a := by simp [fillB, zeros]
theorem fillB_step (f a k : Nat) (h : k < a) : (fillB f a k).set k (((f + k) % 256 : Nat) : Int) = fillB f a (k + 1) := by
  unfold fillB
  rw [List.set_append_right _ _ (by rw [seqB_length]; omega), seqB_length, Nat.sub_self, show a - k = (a - (k + 1)) + 1 from by omega]
  simp [zeros, List.replicate_succ, seqB, List.range_succ]
theorem By_set (L : List Int) (k : Nat) (v : Int) : (By L).setIfInBounds k (.int .u8 v) = By (L.set k v) := by
  simp [By, List.map_set]

theorem fill_step {wr : World} {x F A t : Nat} {v : Int} (h : Blk wr x 5 (By (fillB F A t))) (ht : t < A) (hv : v = (((F + t) % 256 : Nat) : Int)) : Blk (wr.setCell ⟨x, t, none⟩ (.int .u8 v)) x 5 (By (fillB F A (t + 1))) := by
  have := h.set_ t (.int .u8 v)
  rw [By_set, hv, fillB_step _ _ _ ht, ← hv] at this
  exact this

end Go.Proofs.Ytagopgoelgmibaa
