/- A slice of calls that came in. Conditions: none. -/
import Derived.Test.YtgdloahgokefpaaTDo
import Derived.Test.YtgdloahgokefpaaOpen
import Derived.Deep.Slices
namespace Go.Proofs.Ytgdloahgokefpaa
open Go.ChangeShapes Go.WideShapes Go.ChangeAt Go.RowKit Go.Deep

/-- element i of a slice of calls -/
def OpAt (w : World) (B : Nat) (A : Option Addr) (i : Nat) : Prop :=
  ∃ (ad : Addr) (x : OpV), A = some ad ∧ ad.block < B ∧ (∀ j, j < 9 → w.cell? ((ad.add (i * 9)).add j) = x.blk[j]?) ∧ Reads w B 1 x.A x.xs.length (x.xs.map (Value.int .u8)) ∧ x.xs.length ≤ x.c ∧ x.c ≤ maxLen
def OpsR (w : World) (B : Nat) (A : Option Addr) (n : Nat) : Prop := ∀ i, i < n → OpAt w B A i
theorem OpAt.below {w w' : World} {B i : Nat} {A : Option Addr} (h : OpAt w B A i) (hb : Below B w w') : OpAt w' B A i := by
  obtain ⟨ad, x, h1, h2, h3, h4, h5⟩ := h
  refine ⟨ad, x, h1, h2, fun j hj => ?_, h4.below hb, h5⟩
  rw [← h3 j hj]
  exact hb.cell (by rw [block_of_add, block_of_add]; exact h2)
theorem OpsR.below {w w' : World} {B n : Nat} {A : Option Addr} (h : OpsR w B A n) (hb : Below B w w') : OpsR w' B A n := fun i hi => (h i hi).below hb

theorem cells_op : Try.prog.cellsOf 61 = 9 := by kernel_rfl
theorem cells_fd : Try.prog.cellsOf 30 = 4 := by kernel_rfl
theorem cells_int : Try.prog.cellsOf 3 = 1 := by kernel_rfl
theorem cells_bool : Try.prog.cellsOf 4 = 1 := by kernel_rfl
theorem cells_bytes : Try.prog.cellsOf 39 = 1 := by kernel_rfl
theorem cells_byte : Try.prog.cellsOf 5 = 1 := by kernel_rfl

theorem op_of_cells {H : Type} {enc : TypeId × Value → H} {w : World} {fuel : Nat} {cs : List Value} {d : DataW H × List MemPlace} (h : DataW.trod enc Try.prog w 0 (fun _ => true) true fuel 61 cs = some d) :
    ∃ x : OpV, cs = x.blk.toList ∧ Reads w w.heap.size 1 x.A x.xs.length (x.xs.map (Value.int .u8)) ∧ x.xs.length ≤ x.c ∧ x.c ≤ maxLen := by
  obtain ⟨xs, n, _, _, hl, hlen, hg⟩ := DataW.trod_struct Try.underlying61 h
  rw [cells_op] at hl
  match cs, hl with
  | [c0, c1, c2, c3, c4, c5, c6, c7, c8], _ =>
    have len6 : xs.length = 6 := hlen
    match xs, len6 with
    | [x0, x1, x2, x3, x4, x5], _ =>
      have h0' : DataW.trod enc Try.prog w 0 (fun _ => true) true n 3 (([c0, c1, c2, c3, c4, c5, c6, c7, c8].drop 0).take (Try.prog.cellsOf 3)) = some x0 := hg 0 _ rfl
      rw [cells_int] at h0'
      have h0 : DataW.trod enc Try.prog w 0 (fun _ => true) true n 3 [c0] = some x0 := h0'
      have h1' : DataW.trod enc Try.prog w 0 (fun _ => true) true n 3 (([c0, c1, c2, c3, c4, c5, c6, c7, c8].drop 1).take (Try.prog.cellsOf 3)) = some x1 := hg 1 _ rfl
      rw [cells_int] at h1'
      have h1 : DataW.trod enc Try.prog w 0 (fun _ => true) true n 3 [c1] = some x1 := h1'
      have h2' : DataW.trod enc Try.prog w 0 (fun _ => true) true n 3 (([c0, c1, c2, c3, c4, c5, c6, c7, c8].drop 2).take (Try.prog.cellsOf 3)) = some x2 := hg 2 _ rfl
      rw [cells_int] at h2'
      have h2 : DataW.trod enc Try.prog w 0 (fun _ => true) true n 3 [c2] = some x2 := h2'
      have h3' : DataW.trod enc Try.prog w 0 (fun _ => true) true n 3 (([c0, c1, c2, c3, c4, c5, c6, c7, c8].drop 3).take (Try.prog.cellsOf 3)) = some x3 := hg 3 _ rfl
      rw [cells_int] at h3'
      have h3 : DataW.trod enc Try.prog w 0 (fun _ => true) true n 3 [c3] = some x3 := h3'
      have h4' : DataW.trod enc Try.prog w 0 (fun _ => true) true n 30 (([c0, c1, c2, c3, c4, c5, c6, c7, c8].drop 4).take (Try.prog.cellsOf 30)) = some x4 := hg 4 _ rfl
      rw [cells_fd] at h4'
      have h4 : DataW.trod enc Try.prog w 0 (fun _ => true) true n 30 [c4, c5, c6, c7] = some x4 := h4'
      have h5' : DataW.trod enc Try.prog w 0 (fun _ => true) true n 39 (([c0, c1, c2, c3, c4, c5, c6, c7, c8].drop 8).take (Try.prog.cellsOf 39)) = some x5 := hg 5 _ rfl
      rw [cells_bytes] at h5'
      have h5 : DataW.trod enc Try.prog w 0 (fun _ => true) true n 39 [c8] = some x5 := h5'
      obtain ⟨k, e0, _, _⟩ := DataW.trod_int Try.underlying3 h0
      obtain ⟨p, e1, _, _⟩ := DataW.trod_int Try.underlying3 h1
      obtain ⟨nn, e2, _, _⟩ := DataW.trod_int Try.underlying3 h2
      obtain ⟨m, e3, _, _⟩ := DataW.trod_int Try.underlying3 h3
      obtain ⟨ys, n2, _, _, hl2, hlen2, hg2⟩ := DataW.trod_struct Try.underlying30 h4
      have len4 : ys.length = 4 := hlen2
      match ys, len4 with
      | [y0, y1, y2, y3], _ =>
        have g0' : DataW.trod enc Try.prog w 0 (fun _ => true) true n2 3 (([c4, c5, c6, c7].drop 0).take (Try.prog.cellsOf 3)) = some y0 := hg2 0 _ rfl
        rw [cells_int] at g0'
        have g0 : DataW.trod enc Try.prog w 0 (fun _ => true) true n2 3 [c4] = some y0 := g0'
        have g1' : DataW.trod enc Try.prog w 0 (fun _ => true) true n2 3 (([c4, c5, c6, c7].drop 1).take (Try.prog.cellsOf 3)) = some y1 := hg2 1 _ rfl
        rw [cells_int] at g1'
        have g1 : DataW.trod enc Try.prog w 0 (fun _ => true) true n2 3 [c5] = some y1 := g1'
        have g2' : DataW.trod enc Try.prog w 0 (fun _ => true) true n2 3 (([c4, c5, c6, c7].drop 2).take (Try.prog.cellsOf 3)) = some y2 := hg2 2 _ rfl
        rw [cells_int] at g2'
        have g2 : DataW.trod enc Try.prog w 0 (fun _ => true) true n2 3 [c6] = some y2 := g2'
        have g3' : DataW.trod enc Try.prog w 0 (fun _ => true) true n2 4 (([c4, c5, c6, c7].drop 3).take (Try.prog.cellsOf 4)) = some y3 := hg2 3 _ rfl
        rw [cells_bool] at g3'
        have g3 : DataW.trod enc Try.prog w 0 (fun _ => true) true n2 4 [c7] = some y3 := g3'
        obtain ⟨fk, e4, _, _⟩ := DataW.trod_int Try.underlying3 g0
        obtain ⟨ft, e5, _, _⟩ := DataW.trod_int Try.underlying3 g1
        obtain ⟨fa, e6, _, _⟩ := DataW.trod_int Try.underlying3 g2
        obtain ⟨fw, e7, _⟩ := DataW.trod_bool Try.underlying4 g3
        obtain ⟨A', n', c', hV⟩ : ∃ A' n' c', c8 = .slice A' n' c' := by
          rcases open_slice Try.underlying39 h5 with ⟨q1, _⟩ | ⟨a', len', cap', _, _, _, _, q1, _⟩
          · exact ⟨_, _, _, (List.cons.inj q1).1⟩
          · exact ⟨_, _, _, (List.cons.inj q1).1⟩
        subst hV
        obtain ⟨bs, hr, hnc, hcm, _⟩ := open_row (H := H) (enc := enc) (P := Try.prog) (w := w) .u8 Try.underlying39 Try.underlying5 cells_byte (A := A') (n := n') (c := c') (d := x5.1) (p := x5.2) ⟨n, by simpa [Value.cells] using h5⟩
        obtain rfl : bs.length = n' := by have := hr.1; simpa using this
        refine ⟨⟨k, p, nn, m, ⟨fk, ft, fa, fw⟩, A', c', bs⟩, ?_, hr, hnc, hcm⟩
        simp only [OpV.blk]
        simp at e0 e1 e2 e3 e4 e5 e6 e7
        rw [e0, e1, e2, e3, e4, e5, e6, e7]
theorem open_ops {H : Type} {enc : TypeId × Value → H} {w : World} {A : Option Addr} {n c : Nat} {d : DataW H} {p : List MemPlace} (h : DataW.Trod enc Try.prog w 0 (fun _ => true) true 50 (.slice A n c) d p) : OpsR w w.heap.size A n := by
  obtain ⟨fuel, hf⟩ := h
  intro i hi
  rcases open_slice Try.underlying50 hf with ⟨hcs, _⟩ | ⟨a, len, cap, m, n1, D, Pl, hcs, _, hl, _, hm, _, hx⟩
  · simp [Value.cells] at hcs
    omega
  · simp [Value.cells] at hcs
    obtain ⟨rfl, rfl, rfl⟩ := hcs
    obtain ⟨cs', h1, h2⟩ := hx i (by rw [hm]; simp; omega)
    rw [cells_op] at h1
    obtain ⟨_, hlen, hcell⟩ := World.cells?_some h1
    obtain ⟨x, rfl, hr, hnc, hcm⟩ := op_of_cells h2
    have hblk : a.block < w.heap.size := by
      have := block_lt_of_cell (hcell 0 (by omega))
      rwa [block_of_add, block_of_add] at this
    exact ⟨a, x, rfl, hblk, fun j hj => by rw [hcell j hj, Array.getElem?_toList], hr, hnc, hcm⟩
end Go.Proofs.Ytgdloahgokefpaa
