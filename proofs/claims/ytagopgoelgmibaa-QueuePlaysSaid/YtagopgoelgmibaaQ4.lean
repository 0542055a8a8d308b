/- The walk of the law's awake: the document's example of a queue answers true. -/
import Derived.Test.YtagopgoelgmibaaQ3
namespace Go.Proofs.Ytagopgoelgmibaa
open Go.RowKit
set_option linter.unusedSimpArgs false

/-- true, and nothing that was there has turned -/
def Yes (w : World) (e : Ending) (w' : World) : Prop := e = .returned (.bool true) ∧ Below w.heap.size w w'
theorem yes_mk {b : Bool} {w w' : World} (h : b = true) (hb : Below w.heap.size w w') : Yes w (.returned (.bool b)) w' := by subst h; exact ⟨rfl, hb⟩

set_option maxHeartbeats 1000000 in
theorem awake_any (w : World) : Calls Try.prog 9 #[] w (Yes w) := by
  go_enter Try.func9, Try.ntmps9
  go_wp2_with fail
  refine (new_any _ 3).mono ?_
  rintro e w1 ⟨rfl, hq1, hb1, hs1⟩
  have hq1 : IsQ w1 (w.heap.size + 1) w.heap.size 3 [] := hq1
  have HQ1 := hide hq1
  have HS1 := Lib.hid hs1
  clear hq1 hs1
  have kc := fun (w : World) (C : Array Value) (n c : Nat) => Lib.run_convert_bytes_const (P := Try.prog) w 28 5 C n c Try.underlying28 Try.underlying5
  go_wp2_with fail
  have hl1 := (unhid_ HQ1).lt
  refine (put_any _ (w.heap.size + 1) w.heap.size 3 (w1.heap.size + 1) [] [97, 98, 99, 100] _ _ _ 3 rfl ((unhid_ HQ1).only ((Only.refl [] _).alloc _) (by simp) (by simp)) (Reads.mark w1 _ [97, 98, 99, 100] _) (by simp) (by simp) (by simp) (fun ad e => by cases e; simp; omega)).mono ?_
  rintro e w2 ⟨rfl, hq2, ho2, hs2⟩
  have hq2 : IsQ w2 (w.heap.size + 1) w.heap.size 3 [97, 98, 99] := hq2
  have HQ2 := hide hq2
  have HS2 := Lib.hid hs2
  clear hq2 hs2 kc
  go_wp2_with fail
  refine (get_any _ (w.heap.size + 1) w.heap.size 3 [97, 98, 99] 2 2 (by decide) (unhid_ HQ2)).mono ?_
  rintro e w3 ⟨rfl, hq3, hb3, ho3, hs3⟩
  have hcv := conv_blk (n := 2) (c := 2) hb3 (by simp)
  have hq3 : IsQ w3 (w.heap.size + 1) w.heap.size 3 [99] := hq3
  have HQ3 := hide hq3
  have HS3 := Lib.hid hs3
  clear hq3 hs3 hb3
  have hst : ((strOfNums [97, 98]).toList == [97, 98]) = true := by decide +kernel
  go_wp2_with fail
  refine (len_any _ _ _ _ _ (unhid_ HQ3)).mono ?_
  rintro e w' ⟨rfl, rfl⟩
  go_wp2_with fail
  refine (room_any _ _ _ _ _ (unhid_ HQ3)).mono ?_
  rintro e w' ⟨rfl, q, rfl⟩
  go_wp2
  go_ret
  have hsz := HS1.out
  have h1 : Below w.heap.size w w2 := (hb1.alloc hb1.size _).trans (ho2.below (fun k hk => by simp at hk; omega) (by simp; omega))
  exact yes_mk rfl (belowN (h1.trans (ho3.below (fun k hk => by simp at hk; omega) h1.size)) q)
end Go.Proofs.Ytagopgoelgmibaa
