/- Plain laws on the bits of 64-bit integers: a bit by shift and mask, and when a label and a refusal have none in common. -/
import Derived.Test.YtkcbbdkbfjkgnaaMem
namespace Go.Proofs.Ytkcbbdkbfjkgnaa
open Go.RowKit

def bitAt (label : Int) (s : Nat) : Bool := bits .and .i64 (label / 2 ^ s) 1 == 1
/-- the bits as a natural number -/
def natOf (x : Int) : Nat := (x % 18446744073709551616).toNat
theorem natOf_eq (x : Int) : (natOf x : Int) = x % 18446744073709551616 := by unfold natOf; omega
theorem natOf_lt (x : Int) : natOf x < 2 ^ 64 := by unfold natOf; omega
theorem ofInt_natOf (x : Int) : (BitVec.ofInt 64 x).toNat = natOf x := by rw [BitVec.toNat_ofInt, natOf, show ((2 ^ 64 : Nat) : Int) = 18446744073709551616 from rfl]
theorem bits_and (x y : Int) : bits .and .i64 x y = wrap64 ((natOf x &&& natOf y : Nat) : Int) := by
  show IntKind.i64.wrap ((BitVec.ofInt 64 x &&& BitVec.ofInt 64 y).toNat : Int) = _
  rw [BitVec.toNat_and, ofInt_natOf, ofInt_natOf, IntKind.wrap_i64, wrap64]
theorem bits_and_one (z : Int) : bits .and .i64 z 1 = z % 2 := by
  have h : natOf z &&& natOf 1 = natOf z % 2 := by rw [show natOf 1 = 1 from by decide]; exact nat_mask1 _
  have := natOf_eq z
  rw [bits_and, h]
  unfold wrap64
  omega
theorem bits_and_zero (x y : Int) : bits .and .i64 x y = 0 ↔ natOf x &&& natOf y = 0 := by
  have h : natOf x &&& natOf y < 2 ^ 64 := Nat.and_lt_two_pow _ (natOf_lt y)
  rw [bits_and]
  generalize natOf x &&& natOf y = n at *
  unfold wrap64
  omega
theorem bitAt_mod (x : Int) (s : Nat) : bitAt x s = decide (x / 2 ^ s % 2 = 1) := by
  unfold bitAt
  rw [bits_and_one, Bool.eq_iff_iff]
  simp
theorem bitAt_nat (x : Int) (s : Nat) (hs : s < 64) : bitAt x s = (natOf x).testBit s := by
  rw [bitAt_mod, Nat.testBit_eq_decide_div_mod_eq, Bool.eq_iff_iff, decide_eq_true_iff, decide_eq_true_iff]
  obtain ⟨q, hq⟩ : ∃ q : Int, x = (natOf x : Int) + 18446744073709551616 * q := ⟨x / 18446744073709551616, by rw [natOf_eq]; omega⟩
  have h64 : (18446744073709551616 : Int) = 2 ^ s * (2 * 2 ^ (63 - s)) := by
    rw [show (2 : Int) * 2 ^ (63 - s) = 2 ^ (64 - s) from by rw [show 64 - s = (63 - s) + 1 from by omega, Int.pow_succ]; omega, ← Int.pow_add, show s + (64 - s) = 64 from by omega]
    rfl
  have hpos : (0 : Int) < 2 ^ s := Int.pow_pos (by omega)
  have hd : x / 2 ^ s = (natOf x : Int) / 2 ^ s + 2 * (2 ^ (63 - s) * q) := by
    have e : x = (natOf x : Int) + 2 ^ s * (2 * (2 ^ (63 - s) * q)) := by
      rw [← Int.mul_assoc 2, ← Int.mul_assoc, ← h64]; exact hq
    conv => lhs; rw [e]
    rw [Int.add_mul_ediv_left _ _ (by omega)]
  have hn : ((natOf x / 2 ^ s : Nat) : Int) = (natOf x : Int) / 2 ^ s := by simp
  rw [hd, ← hn]
  omega
theorem neg_bit (x : Int) (h1 : -9223372036854775808 ≤ x) (h2 : x ≤ 9223372036854775807) : x < 0 ↔ (natOf x).testBit 63 = true := by
  rw [Nat.testBit_eq_decide_div_mod_eq, decide_eq_true_iff]
  have h := natOf_eq x
  rw [show 2 ^ 63 = 9223372036854775808 from rfl]
  omega

/-- no bit below s is on in both -/
def clearTo (x y : Int) (s : Nat) : Bool := (List.range s).all fun t => !(bitAt y t && bitAt x t)
theorem clearTo_succ (x y : Int) (s : Nat) : clearTo x y (s + 1) = (clearTo x y s && !(bitAt y s && bitAt x s)) := by
  simp [clearTo, List.range_succ, List.all_append]
theorem clearTo_mono (x y : Int) (s t : Nat) (h : s ≤ t) (hf : clearTo x y s = false) : clearTo x y t = false := by
  induction t with
  | zero => obtain rfl : s = 0 := by omega
            exact hf
  | succ t ih =>
    rcases Nat.lt_or_ge s (t + 1) with h' | h'
    · rw [clearTo_succ, ih (by omega)]; rfl
    · obtain rfl : s = t + 1 := by omega
      exact hf
theorem clearTo_iff (x y : Int) (s : Nat) : clearTo x y s = true ↔ ∀ t, t < s → ¬ (bitAt y t = true ∧ bitAt x t = true) := by
  rw [clearTo, List.all_eq_true]
  constructor
  · intro h t ht hb
    have := h t (List.mem_range.2 ht)
    simp [hb.1, hb.2] at this
  · intro h t ht
    have := h t (List.mem_range.1 ht)
    cases ha : bitAt y t <;> cases hb : bitAt x t <;> simp_all
theorem and_zero_iff (x y : Int) (x1 : -9223372036854775808 ≤ x) (x2 : x ≤ 9223372036854775807) (y1 : -9223372036854775808 ≤ y) (y2 : y ≤ 9223372036854775807) :
    (bits .and .i64 x y == 0) = (clearTo x y 63 && !(decide (y < 0) && decide (x < 0))) := by
  rw [Bool.eq_iff_iff, beq_iff_eq, bits_and_zero, Bool.and_eq_true, clearTo_iff]
  have hx := neg_bit x x1 x2
  have hy := neg_bit y y1 y2
  constructor
  · intro h
    have hb : ∀ i, ¬ ((natOf x).testBit i = true ∧ (natOf y).testBit i = true) := by
      intro i hi
      have := congrArg (fun n => n.testBit i) h
      simp [Nat.testBit_and, hi.1, hi.2] at this
    refine ⟨fun t ht hbt => hb t ?_, ?_⟩
    · rw [bitAt_nat _ _ (by omega), bitAt_nat _ _ (by omega)] at hbt
      exact ⟨hbt.2, hbt.1⟩
    · simp only [Bool.not_eq_true', Bool.and_eq_false_iff, decide_eq_false_iff_not]
      by_cases hxn : x < 0
      · exact .inl fun hyn => hb 63 ⟨hx.1 hxn, hy.1 hyn⟩
      · exact .inr hxn
  · rintro ⟨h1, h2⟩
    apply Nat.eq_of_testBit_eq
    intro i
    rw [Nat.testBit_and, Nat.zero_testBit, Bool.and_eq_false_iff]
    rcases Nat.lt_trichotomy i 63 with hi | hi | hi
    · have := h1 i hi
      rw [bitAt_nat _ _ (by omega), bitAt_nat _ _ (by omega)] at this
      cases ha : (natOf x).testBit i
      · exact .inl rfl
      · cases hb : (natOf y).testBit i
        · exact .inr rfl
        · exact absurd ⟨hb, ha⟩ this
    · subst hi
      simp only [Bool.not_eq_true', Bool.and_eq_false_iff, decide_eq_false_iff_not] at h2
      rcases h2 with h2 | h2
      · right
        cases hb : (natOf y).testBit 63
        · rfl
        · exact absurd (hy.2 hb) h2
      · left
        cases hb : (natOf x).testBit 63
        · rfl
        · exact absurd (hx.2 hb) h2
    · left
      exact Nat.testBit_lt_two_pow (Nat.lt_of_lt_of_le (natOf_lt x) (Nat.pow_le_pow_right (by omega) (by omega)))

theorem natOf_nat (n : Nat) (h : n < 9223372036854775808) : natOf (n : Int) = n := by unfold natOf; omega
theorem and_zero_bits (a b : Nat) : a &&& b = 0 ↔ ∀ i, ¬ (a.testBit i = true ∧ b.testBit i = true) := by
  constructor
  · intro h i hi
    have := congrArg (fun n => n.testBit i) h
    simp [Nat.testBit_and, hi.1, hi.2] at this
  · intro h
    apply Nat.eq_of_testBit_eq
    intro i
    have := h i
    rw [Nat.testBit_and, Nat.zero_testBit]
    cases ha : a.testBit i <;> cases hb : b.testBit i <;> simp_all
theorem and_or_zero (r : Int) (x y : Nat) (hx : x < 256) (hy : y < 256) :
    (bits .and .i64 r (bits .or .i64 x y) == 0) = ((bits .and .i64 r x == 0) && (bits .and .i64 r y == 0)) := by
  have hxy : x ||| y < 2 ^ 8 := Nat.or_lt_two_pow hx hy
  rw [i64_or_nat x y (by omega) (by omega), Bool.eq_iff_iff, beq_iff_eq, Bool.and_eq_true, beq_iff_eq, beq_iff_eq, bits_and_zero, bits_and_zero, bits_and_zero, natOf_nat _ (by omega), natOf_nat _ (by omega), natOf_nat _ (by omega), and_zero_bits, and_zero_bits, and_zero_bits]
  constructor
  · intro h
    exact ⟨fun i hi => h i ⟨hi.1, by rw [Nat.testBit_or, hi.2]; rfl⟩, fun i hi => h i ⟨hi.1, by rw [Nat.testBit_or, hi.2]; simp⟩⟩
  · rintro ⟨h1, h2⟩ i ⟨ha, hb⟩
    rw [Nat.testBit_or, Bool.or_eq_true] at hb
    rcases hb with hb | hb
    · exact h1 i ⟨ha, hb⟩
    · exact h2 i ⟨ha, hb⟩
theorem and_pow_zero (r : Int) (s : Nat) (hs : s < 8) : (bits .and .i64 r ((2 ^ s : Nat) : Int) == 0) = !(natOf r).testBit s := by
  have hp : 2 ^ s < 9223372036854775808 := by
    calc 2 ^ s ≤ 2 ^ 8 := Nat.pow_le_pow_right (by omega) (by omega)
      _ < 9223372036854775808 := by omega
  rw [Bool.eq_iff_iff, beq_iff_eq, bits_and_zero, natOf_nat _ hp, and_zero_bits]
  constructor
  · intro h
    have := h s
    rw [Nat.testBit_two_pow] at this
    cases hb : (natOf r).testBit s <;> simp_all
  · rintro h i ⟨ha, hb⟩
    rw [Nat.testBit_two_pow, decide_eq_true_iff] at hb
    subst hb
    simp [ha] at h
theorem and_sel_zero (r : Int) (x : Nat) (hx : x < 256) : (bits .and .i64 r x == 0) = ((List.range 8).filter (bitAt x)).all fun s => !(natOf r).testBit s := by
  rw [Bool.eq_iff_iff, beq_iff_eq, bits_and_zero, natOf_nat _ (by omega), and_zero_bits, List.all_eq_true]
  constructor
  · intro h s hs
    rw [List.mem_filter, List.mem_range] at hs
    rw [bitAt_nat _ _ (by omega), natOf_nat _ (by omega)] at hs
    have := h s
    cases hb : (natOf r).testBit s <;> simp_all
  · rintro h i ⟨ha, hb⟩
    by_cases hi : i < 8
    · have := h i (by rw [List.mem_filter, List.mem_range, bitAt_nat _ _ (by omega), natOf_nat _ (by omega)]; exact ⟨hi, hb⟩)
      simp [ha] at this
    · rw [Nat.testBit_lt_two_pow (Nat.lt_of_lt_of_le hx (show 2 ^ 8 ≤ 2 ^ i from Nat.pow_le_pow_right (by omega) (by omega)))] at hb
      cases hb
end Go.Proofs.Ytkcbbdkbfjkgnaa
