/- The walk of the law's awake: the document's example answers true. -/
import Derived.Test.YtkcbbdkbfjkgnaaPol4
namespace Go.Proofs.Ytkcbbdkbfjkgnaa
open Go.RowKit

theorem RI.lit (w : World) (xs : List Int) (t : TypeId) : RI (w.alloc (.cells (xs.map (Value.int .i64)).toArray t)) (w.heap.size + 1) (some ⟨w.heap.size, 0, none⟩) xs.length xs := by
  refine ⟨by simp, fun _ => ⟨_, rfl, by simp, fun j v hv => ?_⟩⟩
  rw [Addr.add_lit, World.cell?_alloc_new]
  simpa using hv

theorem sel9 : selTo 9 8 = [0, 3] := by decide +kernel
theorem bits03 : bitsN [0, 3] = 9 ∧ goodAll [0, 3] = true := by decide +kernel

/-- true, and nothing that was there has turned -/
def Yes (w : World) (e : Ending) (w' : World) : Prop := e = .returned (.bool true) ∧ Below w.heap.size w w'

theorem yes_mk {b : Bool} {w w' : World} (h : b = true) (hb : Below w.heap.size w w') : Yes w (.returned (.bool b)) w' := by subst h; exact ⟨rfl, hb⟩
theorem and0 : (bits .and .i64 0 255 == 0) = true := by decide +kernel

set_option maxHeartbeats 400000 in
theorem awake_any (w : World) : Calls Try.prog 6 #[] w (Yes w) := by
  have hb := bits_any _ _ _ 2 _ _ (RI.lit w [0, 3] 3) (by decide)
  rw [bits03.1, bits03.2] at hb
  have HB := hide hb
  have hl := fun w => list_any 9 w
  rw [sel9] at hl
  have HL := hide hl
  clear hb hl
  go_enter Try.func6, Try.ntmps6
  go_wp2_with fail
  refine (unhid_ HB).mono ?_
  rintro e w' ⟨rfl, rfl⟩
  go_wp2_with fail
  refine (unhid_ HL _).mono ?_
  rintro e w1 ⟨A1, c1, rfl, ho1, hb1⟩
  have hr1 := RI.of_own ho1
  go_wp2_with fail
  refine (same_any _ _ _ _ _ _ _ _ [0, 3] [0, 3] _ (Reads.alloc hr1 (Nat.le_refl _) _) (RI.lit _ [0, 3] 3) (by decide) (by decide)).mono ?_
  rintro e w2 ⟨rfl, q, rfl⟩
  go_wp2_with fail
  refine (may_in [0, 0, 0, 0, 0, 0, 0, 0] 0 255 _ rfl (by omega)).mono ?_
  rintro e w3 ⟨rfl, rfl⟩
  go_wp2
  go_ret
  have h1 : Below w.heap.size w w1 := (((Below.refl _ _).alloc (Nat.le_refl _) _).trans (hb1.mono (by simp)))
  exact yes_mk and0 ((belowN (h1.alloc h1.size _) q).alloc (by have := h1.size; simp; omega) _)
end Go.Proofs.Ytkcbbdkbfjkgnaa
