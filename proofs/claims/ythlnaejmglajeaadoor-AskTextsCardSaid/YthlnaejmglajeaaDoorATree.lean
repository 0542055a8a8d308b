/- Questions in memory: a tree of steps that lies in blocks from B0 to B. Conditions: none. -/
import Derived.Test.YthlnaejmglajeaaDoorASpec
import Derived.Test.YthlnaejmglajeaaDoorRing
namespace Go.Proofs.YthlnaejmglajeaaDoor
open Go.RowKit

/-- the three cells of a step at an address -/
def At3 (w : World) (p : Addr) (x : QT) (A : Option Addr) (c : Nat) : Prop :=
  w.cell? p = some (.int .i64 x.op) ∧ w.cell? (p.add 1) = some (.int .i64 x.n) ∧ w.cell? (p.add 2) = some (.slice A x.kids.length c)
/-- the kids of a question lie at A -/
inductive RQ (w : World) (B0 B : Nat) : QT → Option Addr → Nat → Prop
  | mk (o n : Int) (ks : List QT) (A : Option Addr) (c : Nat) (As : Nat → Option Addr) (cs : Nat → Nat) (hc : ks.length ≤ c) (hm : c ≤ maxLen)
      (hA : 0 < ks.length → ∃ ad, A = some ad ∧ B0 ≤ ad.block ∧ ad.block < B ∧ ∀ i x, ks[i]? = some x → At3 w (ad.add (i * 3)) x (As i) (cs i))
      (hk : ∀ i x, ks[i]? = some x → RQ w B0 B x (As i) (cs i)) : RQ w B0 B (.mk o n ks) A c

theorem At3.keep {w w' : World} {p : Addr} {x : QT} {A : Option Addr} {c : Nat} (h : At3 w p x A c) (hb : w'.heap[p.block]? = w.heap[p.block]?) : At3 w' p x A c := by
  obtain ⟨h1, h2, h3⟩ := h
  exact ⟨(World.cell?_of_block hb).trans h1, (World.cell?_of_block (by rw [block_of_add]; exact hb)).trans h2, (World.cell?_of_block (by rw [block_of_add]; exact hb)).trans h3⟩
theorem RQ.keep {w w' : World} {B0 B : Nat} {q : QT} {A : Option Addr} {c : Nat} (h : RQ w B0 B q A c) (hb : ∀ b, B0 ≤ b → b < B → w'.heap[b]? = w.heap[b]?) : RQ w' B0 B q A c := by
  induction h with
  | mk o n ks A c As cs hc hm hA hk ih =>
    refine .mk o n ks A c As cs hc hm (fun h => ?_) ih
    obtain ⟨ad, e, h1, h2, h3⟩ := hA h
    exact ⟨ad, e, h1, h2, fun i x hx => (h3 i x hx).keep (by rw [block_of_add]; exact hb _ h1 h2)⟩
theorem RQ.more {w : World} {B0 B B0' B' : Nat} {q : QT} {A : Option Addr} {c : Nat} (h : RQ w B0 B q A c) (h0 : B0' ≤ B0) (h1 : B ≤ B') : RQ w B0' B' q A c := by
  induction h with
  | mk o n ks A c As cs hc hm hA hk ih =>
    refine .mk o n ks A c As cs hc hm (fun h => ?_) ih
    obtain ⟨ad, e, h1, h2, h3⟩ := hA h
    exact ⟨ad, e, by omega, by omega, h3⟩
theorem RQ.belowW {w w' : World} {B0 B : Nat} {q : QT} {A : Option Addr} {c : Nat} (h : RQ w B0 B q A c) (hb : Below B w w') : RQ w' B0 B q A c := h.keep fun b _ h2 => hb.block b h2
theorem RQ.only {w w' : World} {B0 B : Nat} {q : QT} {A : Option Addr} {c : Nat} {S : List Nat} (h : RQ w B0 B q A c) (hb : Only S w w') (hB : B ≤ w.heap.size) (hS : ∀ k ∈ S, k < B0 ∨ B ≤ k) : RQ w' B0 B q A c :=
  h.keep fun b h1 h2 => hb.block b (by omega) fun hm => by have := hS b hm; omega
theorem RQ.drewN {w : World} {B0 B : Nat} {q : QT} {A : Option Addr} {c : Nat} (h : RQ w B0 B q A c) (k : Nat) : RQ (w.drewN k) B0 B q A c := h.keep fun _ _ _ => rfl
theorem RQ.cap {w : World} {B0 B : Nat} {q : QT} {A : Option Addr} {c : Nat} (h : RQ w B0 B q A c) : q.kids.length ≤ c ∧ c ≤ maxLen := by
  cases h with
  | mk o n ks A c As cs hc hm hA hk => exact ⟨hc, hm⟩
/-- kid i -/
theorem RQ.kid {w : World} {B0 B : Nat} {q : QT} {A : Option Addr} {c : Nat} (h : RQ w B0 B q A c) {i : Nat} (hi : i < q.kids.length) :
    ∃ ad Ai ci, A = some ad ∧ B0 ≤ ad.block ∧ ad.block < B ∧ At3 w (ad.add (i * 3)) q.kids[i] Ai ci ∧ RQ w B0 B q.kids[i] Ai ci := by
  cases h with
  | mk o n ks A c As cs hc hm hA hk =>
    have hi' : i < ks.length := hi
    obtain ⟨ad, e, h1, h2, h3⟩ := hA (by omega)
    have hx : ks[i]? = some ks[i] := List.getElem?_eq_getElem hi'
    exact ⟨ad, As i, cs i, e, h1, h2, h3 i _ hx, hk i _ hx⟩
theorem RQ.leaf (w : World) (B0 B : Nat) (o n : Int) (A : Option Addr) (c : Nat) (hc : c ≤ maxLen) : RQ w B0 B (.mk o n []) A c :=
  .mk o n [] A c (fun _ => none) (fun _ => 0) (Nat.zero_le _) hc (fun h => absurd h (Nat.lt_irrefl _)) (fun i x hx => by simp at hx)
theorem RQ.same {w : World} {B0 B : Nat} {q : QT} {A : Option Addr} {c : Nat} (h : RQ w B0 B q A c) (o n : Int) : RQ w B0 B (.mk o n q.kids) A c := by
  cases h with
  | mk o' n' ks A c As cs hc hm hA hk => exact .mk o n ks A c As cs hc hm hA hk
def QT.val (q : QT) (A : Option Addr) (c : Nat) : Value := .agg #[.int .i64 q.op, .int .i64 q.n, .slice A q.kids.length c]
theorem cell_bound {w : World} {p : Addr} {v : Value} (h : w.cell? p = some v) : p.block < w.heap.size := block_lt_of_cell h
end Go.Proofs.YthlnaejmglajeaaDoor
