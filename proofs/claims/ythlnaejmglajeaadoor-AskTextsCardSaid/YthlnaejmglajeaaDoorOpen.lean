/- How the arguments of a law are read: a slice of integers, an array of integers. Conditions: none. -/
import Derived.Test.YthlnaejmglajeaaDoorMem
import Derived.ProofKit
import Derived.OpenShut
import Derived.ShutString
import Derived.ChangeOld
import Derived.Lib.SmallJoins
namespace Go.Proofs.YthlnaejmglajeaaDoor
open Go.ChangeShapes Go.WideShapes Go.ChangeAt Go.RowKit

theorem own : ownKnob Tryd.prog.godebug = none := by kernel_rfl
theorem laidOut : laidOutB Tryd.prog = true := by kernel_rfl

/-- a slice of integers that came in: it reads as a list, in cells below the heap's size -/
theorem open_row {H : Type} {enc : TypeId × Value → H} {P : Program} {w : World} {t e : TypeId} (k : IntKind) (ht : P.underlying t = some (.slice e)) (he : P.underlying e = some (.int k)) (hC : P.cellsOf e = 1)
    {A : Option Addr} {n c : Nat} {d : DataW H} {p : List MemPlace} (h : DataW.Trod enc P w 0 (fun _ => true) true t (.slice A n c) d p) :
    ∃ xs : List Int, Reads w w.heap.size 1 A n (xs.map (Value.int k)) ∧ n ≤ c ∧ c ≤ maxLen ∧ ∀ x ∈ xs, (Lit.int k x).wf = true := by
  obtain ⟨fuel, hf⟩ := h
  rcases open_ints ht he hC hf with ⟨hcs, _⟩ | ⟨x, l, c', zs, hcs, _, hl, hm, hz, hp, hcell, hwz⟩
  · simp [Value.cells] at hcs
    obtain ⟨rfl, rfl, rfl⟩ := hcs
    exact ⟨[], ⟨by simp, fun h => absurd h (by omega)⟩, Nat.le_refl _, Nat.zero_le _, fun x hx => by cases hx⟩
  · simp [Value.cells] at hcs
    obtain ⟨rfl, rfl, rfl⟩ := hcs
    have hz' : zs.length = c := by simpa using hz
    refine ⟨zs.take n, ⟨by simp; omega, fun hn => ⟨x, rfl, ?_, ?_⟩⟩, hl, hm, fun y hy => hwz y (List.mem_of_mem_take hy)⟩
    · have := block_lt_of_cell (hcell 0 (by omega))
      rwa [block_of_add] at this
    · intro j u hu
      rw [List.getElem?_map, List.getElem?_take] at hu
      split at hu
      · rename_i hj
        rw [List.getElem?_eq_getElem (by omega)] at hu
        simp only [Option.map_some, Option.some.injEq] at hu
        rw [hcell j (by omega), ← hu]
        simp [List.getD_eq_getElem?_getD, List.getElem?_eq_getElem (show j < zs.length by omega)]
      · simp at hu

/-- cells that read as an array of n integers are n integers -/
theorem ints_of_array {H : Type} {enc : TypeId × Value → H} {P : Program} {w : World} {base : Nat} {spare : Nat → Bool} {held : Bool} {fuel : Nat} {t e : TypeId} {n : Nat} {k : IntKind} {cs : List Value} {x : DataW H × List MemPlace}
    (ht : P.underlying t = some (.array n e)) (he : P.underlying e = some (.int k)) (hC : P.cellsOf e = 1) (hT : P.cellsOf t = n) (h : DataW.trod enc P w base spare held fuel t cs = some x) :
    ∃ rs : List Int, cs = rs.map (Value.int k) ∧ rs.length = n ∧ ∀ y ∈ rs, (Lit.int k y).wf = true := by
  obtain ⟨xs, m, _, _, hl, hxs, hi⟩ := DataW.trod_array ht h
  rw [hC] at hi
  rw [hT] at hl
  have hcell : ∀ i (hin : i < cs.length), ∃ z, cs[i] = .int k z ∧ (Lit.int k z).wf = true := by
    intro i hin
    have h1 := hi i (by omega)
    rw [Nat.mul_one, List.drop_eq_getElem_cons hin, List.getElem?_eq_getElem (by omega), List.take_succ_cons, List.take_zero] at h1
    obtain ⟨z, hz, _, hw⟩ := DataW.trod_int he h1
    exact ⟨z, (List.cons.inj hz).1, hw⟩
  refine ⟨cs.map fun v => intOf v, ?_, by simpa using hl, ?_⟩
  · rw [List.map_map]
    conv => lhs; rw [← List.map_id cs]
    apply List.map_congr_left
    intro v hv
    obtain ⟨i, hin, rfl⟩ := List.getElem_of_mem hv
    obtain ⟨z, hz, _⟩ := hcell i hin
    simp [hz, intOf]
  · intro y hy
    obtain ⟨v, hv, rfl⟩ := List.mem_map.1 hy
    obtain ⟨i, hin, rfl⟩ := List.getElem_of_mem hv
    obtain ⟨z, hz, hw⟩ := hcell i hin
    simpa [hz, intOf] using hw
end Go.Proofs.YthlnaejmglajeaaDoor
