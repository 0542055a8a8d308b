/- The walk of Table.Procs. -/
import Derived.Test.YtgdloahgokefpaaTab6
namespace Go.Proofs.Ytgdloahgokefpaa
open Go.RowKit
set_option linter.unusedSimpArgs false

def TbV.procsTo (t : TbV) (k : Nat) : List Int := ((List.range k).filter fun (p : Nat) => t.has (p : Int)).map Int.ofNat
theorem procsTo_yes {t : TbV} {k : Nat} (h : t.has (k : Int) = true) : t.procsTo (k + 1) = t.procsTo k ++ [(k : Int)] := by
  simp [TbV.procsTo, List.range_succ, List.filter_append, h]
theorem procsTo_no {t : TbV} {k : Nat} (h : t.has (k : Int) = false) : t.procsTo (k + 1) = t.procsTo k := by
  simp [TbV.procsTo, List.range_succ, List.filter_append, h]
theorem procsTo_le (t : TbV) (k : Nat) : (t.procsTo k).length ≤ k := by
  have := List.length_filter_le (fun p : Nat => t.has (p : Int)) (List.range k)
  simpa [TbV.procsTo] using this
/-- a new row of ints -/
def NewInts (xs : List Int) (w : World) (e : Ending) (w' : World) : Prop :=
  ∃ v, e = .returned v ∧ w'.ownsRow w.heap.size 3 1 v xs.length (xs.map (Value.int .i64)) ∧ Below w.heap.size w w'
theorem info_int : (Try.prog.info? 3).map (fun i => (i.zero, i.size, i.bytes)) = some (some (.int .i64 0), 1, 8) := by kernel_rfl

set_option maxHeartbeats 1000000 in
theorem procs_any (w : World) (base g : Nat) (t : TbV) (h : IsT w base g t) :
    Calls Try.prog 17 #[.pointer (some ⟨g, 0, none⟩)] w (NewInts (t.procsTo 13) w) := by
  obtain ⟨i0, hi0, hz0, hz1, hz2⟩ := info_parts info_int
  have H := hide h
  clear h
  go_enter Try.func17, Try.ntmps17
  go_wp2
  go_loopw [3, 4, 5] (fun v _ i wr => ∃ k : Nat, k ≤ 13 ∧ i = .int .i64 k ∧ wr.ownsRow w.heap.size 3 1 v (t.procsTo k).length ((t.procsTo k).map (Value.int .i64)) ∧ Below w.heap.size w wr) (fun _ _ i _ => 13 - (intOf i).toNat)
  case atStart => exact ⟨0, Nat.zero_le _, rfl, World.ownsRow_nil _ _ _ _, Below.refl _ _⟩
  case round =>
    obtain ⟨k, hk, rfl, hown, hb⟩ := hrel
    have hsl := procsTo_le t k
    by_cases hlt : k < 13
    · have HH := hide (has_any wr base g t k ((unhid_ H).below hb))
      cases hh : t.has (k : Int) with
      | true =>
        have HS := Lib.hid (procsTo_yes hh)
        rw [hh] at HH
        clear hh
        go_wp2_with (first | (go_at_call 22; refine (unhid_ HH).mono ?_; rintro e w' ⟨rfl, rfl⟩) | (at_builtin; refine wpList_append_any _ rfl _ _ _ rfl w.heap.size 3 i0 _ 1 8 Try.underlying22 hi0 hz0 hz1 hz2 rfl (by omega) _ _ _ rfl (hown.alloc _) (wr.heap.size + 1) (some ⟨wr.heap.size, 0, none⟩) 1 1 [.int .i64 k] rfl (Reads.one _ _ _) (by simp [Value.oneCell']) (by simp only [maxLen]; omega) (by omega) (by have := hb.size; simp; omega) ?_; intro v1 w1 hown1 hg1 hat1))
        go_roundw
        case rel => exact ⟨k + 1, by omega, by go_num, by rw [HS.out]; simpa using hown1, (hb.alloc hb.size _).grown hg1 (by have := hb.size; simp; omega) (fun g hg => (hown.lt g hg).1)⟩
        case measure => simp [intOf]; omega
      | false =>
        have HS := Lib.hid (procsTo_no hh)
        rw [hh] at HH
        clear hh
        go_wp2_with fail
        refine (unhid_ HH).mono ?_
        rintro e w' ⟨rfl, rfl⟩
        go_wp2
        go_roundw
        case rel => exact ⟨k + 1, by omega, by go_num, by rw [HS.out]; exact hown, hb⟩
        case measure => simp [intOf]; omega
    · obtain rfl : k = 13 := by omega
      go_wp2
      go_ret
      exact ⟨_, rfl, hown, hb⟩
end Go.Proofs.Ytgdloahgokefpaa
