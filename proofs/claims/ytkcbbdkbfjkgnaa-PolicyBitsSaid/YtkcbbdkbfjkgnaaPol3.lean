/- The walks of List, Check, May. -/
import Derived.Test.YtkcbbdkbfjkgnaaPol2
import Derived.Test.YtkcbbdkbfjkgnaaBits
namespace Go.Proofs.Ytkcbbdkbfjkgnaa
open Go.RowKit

def selTo (label : Int) (k : Nat) : List Int := ((List.range k).filter (bitAt label)).map Int.ofNat
theorem selTo_yes (label : Int) (k : Nat) (h : bitAt label k = true) : selTo label (k + 1) = selTo label k ++ [(k : Int)] := by
  simp [selTo, List.range_succ, List.filter_append, h]
theorem selTo_no (label : Int) (k : Nat) (h : bitAt label k = false) : selTo label (k + 1) = selTo label k := by
  simp [selTo, List.range_succ, List.filter_append, h]
theorem selTo_le (label : Int) (k : Nat) : (selTo label k).length ≤ k := by
  have := List.length_filter_le (bitAt label) (List.range k)
  simpa [selTo] using this

set_option maxHeartbeats 400000 in
theorem list_any (label : Int) (w : World) :
    Calls Try.prog 10 #[.int .i64 label] w (NewInts (selTo label 8) w) := by
  obtain ⟨i0, hi0, hz0, hz1, hz2⟩ := info_parts info_int
  go_enter Try.func10, Try.ntmps10
  go_wp2
  go_loopw [3, 5] (fun v i wr => ∃ k : Nat, k ≤ 8 ∧ i = .int .i64 k ∧ wr.ownsRow w.heap.size 3 1 v (selTo label k).length ((selTo label k).map (Value.int .i64)) ∧ Below w.heap.size w wr) (fun _ i _ => 8 - (intOf i).toNat)
  case atStart => exact ⟨0, Nat.zero_le _, rfl, World.ownsRow_nil _ _ _ _, Below.refl _ _⟩
  case round =>
    obtain ⟨k, hk, rfl, hown, hb⟩ := hrel
    have hsl := selTo_le label k
    by_cases hlt : k < 8
    · by_cases hbit : bitAt label k = true
      · have hx : (bits .and .i64 (label / 2 ^ k) 1 == 1) = true := hbit
        have hs := selTo_yes label k hbit
        have HS := Lib.hid hs
        clear hs
        go_wp2_with (at_builtin; refine wpList_append_any _ rfl _ _ _ rfl w.heap.size 3 i0 _ 1 8 Try.underlying22 hi0 hz0 hz1 hz2 rfl (by omega) _ _ _ rfl (hown.alloc _) (wr.heap.size + 1) (some ⟨wr.heap.size, 0, none⟩) 1 1 [.int .i64 k] rfl (Reads.one _ _ _) (by simp [Value.oneCell']) (by simp only [maxLen]; omega) (by omega) (by have := hb.size; simp; omega) ?_; intro v1 w1 hown1 hg1 hat1)
        go_roundw
        case rel => exact ⟨k + 1, by omega, by go_num, by rw [HS.out]; simpa using hown1, (hb.alloc hb.size _).grown hg1 (by have := hb.size; simp; omega) (fun g hg => (hown.lt g hg).1)⟩
        case measure => simp [intOf]; omega
      · have hbn : bitAt label k = false := by simpa using hbit
        have hx : (bits .and .i64 (label / 2 ^ k) 1 == 1) = false := hbn
        have HS := Lib.hid (selTo_no label k hbn)
        clear hbn hbit
        go_wp2
        go_roundw
        case rel => exact ⟨k + 1, by omega, by go_num, by rw [HS.out]; exact hown, hb⟩
        case measure => simp [intOf]; omega
    · obtain rfl : k = 8 := by omega
      go_wp2
      go_ret
      exact NewInts.mk rfl hown hb
end Go.Proofs.Ytkcbbdkbfjkgnaa
