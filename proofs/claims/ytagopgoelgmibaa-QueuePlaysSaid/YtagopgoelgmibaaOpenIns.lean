/- A slice of rows of bytes that came in. Conditions: none. -/
import Derived.Test.YtagopgoelgmibaaQBuf
import Derived.Test.YtagopgoelgmibaaOpen
import Derived.Deep.Slices
namespace Go.Proofs.Ytagopgoelgmibaa
open Go.ChangeShapes Go.WideShapes Go.ChangeAt Go.RowKit Go.Deep

theorem open_ins {H : Type} {enc : TypeId × Value → H} {P : Program} {w : World} {t e b : TypeId} (ht : P.underlying t = some (.slice e)) (he : P.underlying e = some (.slice b)) (hb : P.underlying b = some (.int .u8)) (ce : P.cellsOf e = 1) (cb : P.cellsOf b = 1)
    {A : Option Addr} {n c : Nat} {d : DataW H} {p : List MemPlace} (h : DataW.Trod enc P w 0 (fun _ => true) true t (.slice A n c) d p) : Ins w w.heap.size A n := by
  obtain ⟨fuel, hf⟩ := h
  intro i hi
  rcases open_slice1 ht ce hf with ⟨hcs, _⟩ | ⟨a, len, cap, m, n1, V, D, Pl, hcs, _, hl, _, hm, _, hx⟩
  · simp [Value.cells] at hcs
    omega
  · simp [Value.cells] at hcs
    obtain ⟨rfl, rfl, rfl⟩ := hcs
    obtain ⟨hcell, htr⟩ := hx i (by rw [hm]; simp; omega)
    have hblk := block_lt_of_cell hcell
    rw [block_of_add] at hblk
    obtain ⟨A', n', c', hV⟩ : ∃ A' n' c', V i = .slice A' n' c' := by
      rcases open_slice he htr with ⟨h1, _⟩ | ⟨a', len', cap', _, _, _, _, h1, _⟩
      · exact ⟨_, _, _, (List.cons.inj h1).1⟩
      · exact ⟨_, _, _, (List.cons.inj h1).1⟩
    rw [hV] at hcell htr
    obtain ⟨xs, hr, hnc, hcm, _⟩ := open_row (H := H) (enc := enc) .u8 he hb cb (A := A') (n := n') (c := c') (d := D i) (p := Pl i) ⟨n1, by simpa [Value.cells] using htr⟩
    exact ⟨a, A', n', c', xs, rfl, hcell, hblk, hr, hnc, hcm⟩
end Go.Proofs.Ytagopgoelgmibaa
