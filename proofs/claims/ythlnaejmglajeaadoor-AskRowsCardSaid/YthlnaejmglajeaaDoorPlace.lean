/- The walk of pedigreelaw00.Place: the remainder from 0 to n - 1, for n from 1 to a million. -/
import Derived.Test.YthlnaejmglajeaaDoorMem
namespace Go.Proofs.YthlnaejmglajeaaDoor
open Go.RowKit

set_option maxHeartbeats 400000 in
theorem place_any (v n : Int) (w : World) (hn : 0 < n) (hn2 : n ≤ 1000000) :
    Calls Tryd.prog 16 #[.int .i64 v, .int .i64 n] w fun e w' => e = .returned (.int .i64 (v % n)) ∧ w = w' := by
  have e1 := tmod_neg v n hn
  have e2 := tmod_pos v n hn
  have b1 := Int.emod_nonneg v (by omega : n ≠ 0)
  have b2 := Int.emod_lt_of_pos v hn
  have E1 : Hid (v.tmod n < 0 → v.tmod n + n = v % n) := e1
  have E2 : Hid (0 ≤ v.tmod n → v.tmod n = v % n) := e2
  have b3 : v.tmod n < n := by
    by_cases h : v.tmod n < 0
    · omega
    · rw [e2 (by omega)]; exact b2
  have b4 : -n ≤ v.tmod n := by
    by_cases h : v.tmod n < 0
    · have := e1 h; omega
    · omega
  clear e1 e2
  go_enter Tryd.func16, Tryd.ntmps16
  go_wp2
  · have h : v.tmod n < 0 := by assumption
    go_ret
    exact ⟨ret_int (E1.out h), rfl⟩
  · have h : 0 ≤ v.tmod n := by assumption
    go_ret
    exact ⟨ret_int (E2.out h), rfl⟩

/-- the remainder as a natural number -/
theorem place_nat (v n : Int) (hn : 0 < n) (hn2 : n ≤ 1000000) : ∃ k : Nat, (k : Int) < n ∧ v % n = k ∧ ∀ w : World, Calls Tryd.prog 16 #[.int .i64 v, .int .i64 n] w fun e w' => e = .returned (.int .i64 k) ∧ w = w' := by
  obtain ⟨k, hk⟩ := Int.eq_ofNat_of_zero_le (Int.emod_nonneg v (by omega : n ≠ 0))
  refine ⟨k, by have := Int.emod_lt_of_pos v hn; omega, hk, fun w => ?_⟩
  have := place_any v n w hn hn2
  rwa [hk] at this
end Go.Proofs.YthlnaejmglajeaaDoor
