/- A tree of steps in blocks of a kind; a step's box; the answer of a part of the parser. -/
import Derived.Test.YthlnaejmglajeaaDoorANum2
namespace Go.Proofs.YthlnaejmglajeaaDoor
open Go.RowKit
set_option linter.unusedSimpArgs false
set_option linter.unusedVariables false

/-- the kids of a question lie at A, all in blocks of P -/
inductive RP (w : World) (P : Nat → Prop) : QT → Option Addr → Nat → Prop
  | mk (o n : Int) (ks : List QT) (A : Option Addr) (c : Nat) (As : Nat → Option Addr) (cs : Nat → Nat) (hc : ks.length ≤ c) (hm : c ≤ maxLen)
      (hA : 0 < ks.length → ∃ ad, A = some ad ∧ P ad.block ∧ ∀ i x, ks[i]? = some x → At3 w (ad.add (i * 3)) x (As i) (cs i))
      (hk : ∀ i x, ks[i]? = some x → RP w P x (As i) (cs i)) : RP w P (.mk o n ks) A c
theorem RP.keep {w w' : World} {P P' : Nat → Prop} {q : QT} {A : Option Addr} {c : Nat} (h : RP w P q A c) (hb : ∀ b, P b → b < w.heap.size → w'.heap[b]? = w.heap[b]? ∧ P' b) : RP w' P' q A c := by
  induction h with
  | mk o n ks A c As cs hc hm hA hk ih =>
    refine .mk o n ks A c As cs hc hm (fun h => ?_) ih
    obtain ⟨ad, e, h1, h3⟩ := hA h
    have hlt : ad.block < w.heap.size := by
      have := cell_bound (h3 0 _ (List.getElem?_eq_getElem h)).1
      rwa [block_of_add] at this
    exact ⟨ad, e, (hb _ h1 hlt).2, fun i x hx => (h3 i x hx).keep (by rw [block_of_add]; exact (hb _ h1 hlt).1)⟩
theorem RP.rq {w : World} {P : Nat → Prop} {q : QT} {A : Option Addr} {c : Nat} (h : RP w P q A c) : RQ w 0 w.heap.size q A c := by
  induction h with
  | mk o n ks A c As cs hc hm hA hk ih =>
    refine .mk o n ks A c As cs hc hm (fun h => ?_) ih
    obtain ⟨ad, e, h1, h3⟩ := hA h
    refine ⟨ad, e, Nat.zero_le _, ?_, h3⟩
    have := cell_bound (h3 0 _ (List.getElem?_eq_getElem h)).1
    rwa [block_of_add] at this
theorem RP.leaf (w : World) (P : Nat → Prop) (o n : Int) (A : Option Addr) (c : Nat) (hc : c ≤ maxLen) : RP w P (.mk o n []) A c :=
  .mk o n [] A c (fun _ => none) (fun _ => 0) (Nat.zero_le _) hc (fun h => absurd h (Nat.lt_irrefl _)) (fun i x hx => by simp at hx)
/-- new blocks only -/
def newB (w : World) (b : Nat) : Prop := w.heap.size ≤ b
/-- the answer of a part of the parser: a question in new blocks -/
def QRes (g : Nat) (s : ByteArray) (r : QT × St) (w : World) (e : Ending) (w' : World) : Prop :=
  ∃ A c, e = .returned (.agg #[.int .i64 r.1.op, .int .i64 r.1.n, .slice A r.1.kids.length c]) ∧ RP w' (newB w) r.1 A c ∧ PS w' g s r.2 ∧ Only [g] w w'

theorem results_cell {P : Program} {fn : Func} {tmps : Array Value} {a : Nat} {t : TypeId} {p : Addr} {v : Value} {w : World} (hf : fn.results = #[.cell a t]) (hp : tmps.getD a undef = .pointer (some p)) (hr : (loadVar t p).run P w = .ok v w) : (results fn tmps).run P w = .ok v w := by
  have hp' : tmps[a]?.getD undef = .pointer (some p) := by simpa using hp
  simp [results, hf, hp', asAddr, hr, Sem.run_bind]
abbrev stepT : TypeId := 24
theorem load3 {w : World} {b : Nat} {v0 v1 v2 : Value} (h : Blk w b stepT #[v0, v1, v2]) : (loadVar stepT ⟨b, 0, none⟩).run Tryd.prog w = .ok (.agg #[v0, v1, v2]) w := by
  have c0 := h.cell 0
  have c1 := h.cell 1
  have c2 := h.cell 2
  simp only [List.getElem?_toArray, List.getElem?_cons_zero, List.getElem?_cons_succ] at c0 c1 c2
  simp [go_sem, c0, c1, c2, stepT]
theorem set3 {w : World} {b : Nat} {v0 v1 v2 u0 u1 u2 : Value} (h : Blk w b stepT #[v0, v1, v2]) :
    Blk (((w.setCell ⟨b, 0, none⟩ u0).setCell ⟨b, 1, none⟩ u1).setCell ⟨b, 2, none⟩ u2) b stepT #[u0, u1, u2] := ((h.set_ 0 u0).set_ 1 u1).set_ 2 u2
theorem only3 (w : World) (b : Nat) (u0 u1 u2 : Value) : Only [b] w (((w.setCell ⟨b, 0, none⟩ u0).setCell ⟨b, 1, none⟩ u1).setCell ⟨b, 2, none⟩ u2) :=
  (((Only.refl [b] w).setCell (.inl (by simp)) _).setCell (.inl (by simp)) _).setCell (.inl (by simp)) _
end Go.Proofs.YthlnaejmglajeaaDoor
