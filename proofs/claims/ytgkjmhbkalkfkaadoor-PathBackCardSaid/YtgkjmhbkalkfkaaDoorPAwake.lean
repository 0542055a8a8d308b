/- The walk of the law's awake. -/
import Derived.Test.YtgkjmhbkalkfkaaDoorPJoin
namespace Go.Proofs.YtgkjmhbkalkfkaaDoor
open Go.RowKit
set_option linter.unusedSimpArgs false

/-- true, and nothing that was there has turned -/
def Yes (w : World) (e : Ending) (w' : World) : Prop := e = .returned (.bool true) ∧ Below w.heap.size w w'
theorem yes_mk {b : Bool} {w w' : World} (h : b = true) (hb : Below w.heap.size w w') : Yes w (.returned (.bool b)) w' := by subst h; exact ⟨rfl, hb⟩
def exA : ByteArray := ⟨#[47, 97, 47, 47, 98, 47]⟩
theorem ex_split : splitP exA = some [⟨#[97]⟩, ⟨#[98]⟩] := by decide +kernel

set_option maxHeartbeats 2000000 in
theorem awake_any (w : World) (m : Int) (hm : w.cell? ⟨0, 0, none⟩ = some (.int .i64 m)) : Calls Tryd.prog 8 #[] w (Yes w) := by
  have HS := hide (split_any exA m w hm (by decide))
  clear hm
  go_enter Tryd.func8, Tryd.ntmps8
  go_wp2_with fail
  refine (unhid_ HS).mono ?_
  rintro e w1 ⟨hb1, hor⟩
  obtain ⟨A, c, rfl, hown⟩ : ∃ A c, e = .returned (.tuple #[.slice A 2 c, .bool true]) ∧ w1.ownsRow w.heap.size 9 1 (.slice A 2 c) 2 [.string ⟨#[97]⟩, .string ⟨#[98]⟩] := by
    rcases hor with ⟨h, _⟩ | ⟨A, c, l, h, _, he, ho⟩
    · rw [ex_split] at h; cases h
    · rw [ex_split] at h
      injection h with h
      subst h
      exact ⟨A, c, he, ho⟩
  obtain ⟨g, _, hg, rfl, hnc, hcell⟩ := own_cells (xs := [⟨#[97]⟩, ⟨#[98]⟩]) hown (by decide)
  have c1 : w1.cell? ⟨g, 1, none⟩ = some (.string ⟨#[98]⟩) := hcell 1 _ rfl
  have HJ := hide (join_any w1 _ c _ [⟨#[97]⟩, ⟨#[98]⟩] hown (by decide) (by decide))
  have HJ0 := hide (fun W : World => join_any W 0 0 none [] (World.ownsRow_nil _ _ _ _) (by decide) (by decide))
  have HB1 := hide hb1
  clear hown hcell hb1 hor HS
  go_wp2_with fail
  refine (unhid_ HJ).mono ?_
  rintro e w2 ⟨rfl, hb2⟩
  rw [show joinP [⟨#[97]⟩, ⟨#[98]⟩] = ⟨#[47, 97, 47, 98]⟩ from by decide +kernel]
  have hb12 : Below w.heap.size w w2 := (unhid_ HB1).trans (hb2.mono (unhid_ HB1).size)
  have HB12 := hide hb12
  clear hb2 hb12 HJ c1
  go_wp2_with fail
  refine ((unhid_ HJ0) _).mono ?_
  rintro e w3 ⟨rfl, hb3⟩
  rw [show joinP [] = ⟨#[47]⟩ from by decide +kernel]
  go_wp2
  go_ret
  exact yes_mk rfl ((unhid_ HB12).trans (hb3.mono (unhid_ HB12).size))
end Go.Proofs.YtgkjmhbkalkfkaaDoor
