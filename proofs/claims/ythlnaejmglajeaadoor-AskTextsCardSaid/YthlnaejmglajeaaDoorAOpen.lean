/- A question that came in is a tree in memory. Conditions: none. -/
import Derived.Test.YthlnaejmglajeaaDoorATree
import Derived.Test.YthlnaejmglajeaaDoorOpen
import Derived.Deep.Slices
namespace Go.Proofs.YthlnaejmglajeaaDoor
open Go.ChangeShapes Go.WideShapes Go.ChangeAt Go.RowKit Go.Deep

theorem cells_step : Tryd.prog.cellsOf 24 = 3 := by kernel_rfl
theorem cells_intA : Tryd.prog.cellsOf 3 = 1 := by kernel_rfl
theorem cells_steps : Tryd.prog.cellsOf 22 = 1 := by kernel_rfl

theorem add_zero0 (p : Addr) : p.add 0 = p := by unfold Addr.add; exact if_pos rfl
set_option maxRecDepth 100000 in
set_option maxHeartbeats 1000000 in
theorem step_of_cells {H : Type} {enc : TypeId × Value → H} {w : World} : ∀ (fuel : Nat) (cs : List Value) (d : DataW H × List MemPlace), DataW.trod enc Tryd.prog w 0 (fun _ => true) true fuel 24 cs = some d →
    ∃ (q : QT) (A : Option Addr) (c : Nat), cs = [.int .i64 q.op, .int .i64 q.n, .slice A q.kids.length c] ∧ RQ w 0 w.heap.size q A c := by
  intro fuel
  induction fuel using Nat.strongRecOn with
  | ind fuel ih =>
    intro cs d h
    obtain ⟨xs, n, hfn, _, hl, hlen, hg⟩ := DataW.trod_struct Tryd.underlying24 h
    rw [cells_step] at hl
    match cs, hl with
    | [c0, c1, c2], _ =>
      have len3 : xs.length = 3 := hlen
      match xs, len3 with
      | [x0, x1, x2], _ =>
        have h0' : DataW.trod enc Tryd.prog w 0 (fun _ => true) true n 3 (([c0, c1, c2].drop 0).take (Tryd.prog.cellsOf 3)) = some x0 := hg 0 _ rfl
        rw [cells_intA] at h0'
        have h0 : DataW.trod enc Tryd.prog w 0 (fun _ => true) true n 3 [c0] = some x0 := h0'
        have h1' : DataW.trod enc Tryd.prog w 0 (fun _ => true) true n 3 (([c0, c1, c2].drop 1).take (Tryd.prog.cellsOf 3)) = some x1 := hg 1 _ rfl
        rw [cells_intA] at h1'
        have h1 : DataW.trod enc Tryd.prog w 0 (fun _ => true) true n 3 [c1] = some x1 := h1'
        have h2' : DataW.trod enc Tryd.prog w 0 (fun _ => true) true n 22 (([c0, c1, c2].drop 2).take (Tryd.prog.cellsOf 22)) = some x2 := hg 2 _ rfl
        rw [cells_steps] at h2'
        have h2 : DataW.trod enc Tryd.prog w 0 (fun _ => true) true n 22 [c2] = some x2 := h2'
        obtain ⟨o, e0, _, _⟩ := DataW.trod_int Tryd.underlying3 h0
        obtain ⟨nn, e1, _, _⟩ := DataW.trod_int Tryd.underlying3 h1
        simp only [List.cons.injEq, and_true] at e0 e1
        subst e0 e1
        rcases DataW.trod_slice Tryd.underlying22 h2 with ⟨q1, _⟩ | ⟨a, len, cap, elems, rest, n1, hf1, q1, _, hb, hll, hm, hlen', hel, _⟩
        · simp only [List.cons.injEq, and_true] at q1
          subst q1
          exact ⟨.mk o nn [], none, 0, rfl, RQ.leaf w 0 _ o nn none 0 (Nat.zero_le _)⟩
        · simp only [List.cons.injEq, and_true] at q1
          subst q1
          have hi : ∀ i, ∃ (q : QT) (A : Option Addr) (c : Nat), i < len → At3 w (a.add (i * 3)) q A c ∧ RQ w 0 w.heap.size q A c ∧ a.block < w.heap.size := fun i => by
            by_cases hlt : i < len
            · have hx := hel i hlt
              rw [cells_step] at hx
              obtain ⟨e', he'⟩ : ∃ e', elems[i]? = some e' := ⟨_, List.getElem?_eq_getElem (by omega)⟩
              rw [he'] at hx
              obtain ⟨cs', hc1, hc2⟩ := Option.bind_eq_some_iff.1 hx
              obtain ⟨_, hcl, hcell⟩ := World.cells?_some hc1
              obtain ⟨q, A, c, rfl, hrq⟩ := ih n1 (by omega) cs' e' hc2
              have g0 : w.cell? ((a.add (i * 3)).add 0) = some (.int .i64 q.op) := hcell 0 (by omega)
              have g1 : w.cell? ((a.add (i * 3)).add 1) = some (.int .i64 q.n) := hcell 1 (by omega)
              have g2 : w.cell? ((a.add (i * 3)).add 2) = some (.slice A q.kids.length c) := hcell 2 (by omega)
              rw [add_zero0] at g0
              have hblk := block_lt_of_cell g0
              rw [block_of_add] at hblk
              exact ⟨q, A, c, fun _ => ⟨⟨g0, g1, g2⟩, hrq, hblk⟩⟩
            · exact ⟨.mk 0 0 [], none, 0, fun h => absurd h hlt⟩
          obtain ⟨qf, hi⟩ := Classical.skolem.1 hi
          obtain ⟨Af, hi⟩ := Classical.skolem.1 hi
          obtain ⟨cf, hi⟩ := Classical.skolem.1 hi
          have hx : ∀ i x, ((List.range len).map qf)[i]? = some x → i < len ∧ x = qf i := fun i x hx => by
            rw [List.getElem?_map] at hx
            cases hr : (List.range len)[i]? with
            | none => rw [hr] at hx; cases hx
            | some j =>
              rw [hr] at hx
              have hlt : i < len := by have := (List.getElem?_eq_some_iff.1 hr).1; simpa using this
              rw [List.getElem?_range hlt] at hr
              injection hr with hr
              subst hr
              exact ⟨hlt, by simpa using hx.symm⟩
          refine ⟨.mk o nn ((List.range len).map qf), some a, cap, by simp [QT.op, QT.n, QT.kids], .mk o nn _ _ cap Af cf (by simpa using hll) hm (fun h => ⟨a, rfl, Nat.zero_le _, (hi 0 (by simpa using h)).2.2, fun i x hx' => ?_⟩) (fun i x hx' => ?_)⟩
          · obtain ⟨hlt, rfl⟩ := hx i x hx'
            exact (hi i hlt).1
          · obtain ⟨hlt, rfl⟩ := hx i x hx'
            exact (hi i hlt).2.1
/-- a question that came in -/
theorem open_step {H : Type} {enc : TypeId × Value → H} {w : World} {v : Value} {d : DataW H} {p : List MemPlace} (h : DataW.Trod enc Tryd.prog w 0 (fun _ => true) true 24 v d p) :
    ∃ (q : QT) (A : Option Addr) (c : Nat), v.cells.toList = [.int .i64 q.op, .int .i64 q.n, .slice A q.kids.length c] ∧ RQ w 0 w.heap.size q A c := by
  obtain ⟨fuel, hf⟩ := h
  exact step_of_cells fuel _ _ hf
end Go.Proofs.YthlnaejmglajeaaDoor
