/- A buffer of bytes that the law owns, and rows of bytes that came in. -/
import Derived.Test.YtagopgoelgmibaaRefQ2
import Derived.Test.YtagopgoelgmibaaQ4
import Derived.Test.YtagopgoelgmibaaInts
namespace Go.Proofs.Ytagopgoelgmibaa
open Go.RowKit
set_option linter.unusedSimpArgs false

/-- n bytes in a block of their own, from base on -/
def Buf (w : World) (base : Nat) (A : Option Addr) (n : Nat) : Prop :=
  n = 0 ∨ ∃ (g : Nat) (cur : Array Value), A = some ⟨g, 0, none⟩ ∧ base ≤ g ∧ Blk w g 5 cur ∧ ∀ j < n, ∃ y, cur[j]? = some (.int .u8 y)
theorem Buf.of_own {w : World} {base n c : Nat} {A : Option Addr} {xs : List Int} (h : w.ownsRow base 5 1 (.slice A n c) n (xs.map (Value.int .u8))) : Buf w base A n := by
  rcases h.2 with ⟨_, h0⟩ | ⟨g, cap, cur, hv, hb, hh, _, _, _, ht⟩
  · exact .inl h0
  · injection hv with h2
    refine .inr ⟨g, cur, h2, hb, hh, fun j hj => ?_⟩
    have hl : xs.length = n := by have := h.1; simpa using this
    have h3 : (cur.toList.take (n * 1))[j]? = (xs.map (Value.int .u8))[j]? := by rw [ht]
    rw [List.getElem?_take, if_pos (by omega), List.getElem?_map, List.getElem?_eq_getElem (show j < xs.length by omega), Array.getElem?_toList] at h3
    exact ⟨_, h3⟩
theorem Buf.of_blk {w : World} {base g n : Nat} {xs : List Int} (h : Blk w g 5 (By xs)) (hb : base ≤ g) (hn : n ≤ xs.length) : Buf w base (some ⟨g, 0, none⟩) n :=
  .inr ⟨g, By xs, rfl, hb, h, fun j hj => ⟨_, By_at _ _ (by omega)⟩⟩
theorem Buf.at_ {w : World} {base n t : Nat} {A : Option Addr} (h : Buf w base A n) (ht : t < n) : ∃ g y, A = some ⟨g, 0, none⟩ ∧ base ≤ g ∧ w.cell? ⟨g, t, none⟩ = some (.int .u8 y) ∧ w.frozen? ⟨g, t, none⟩ = false := by
  rcases h with h0 | ⟨g, cur, hA, hb, hh, hc⟩
  · omega
  · obtain ⟨y, hy⟩ := hc t ht
    exact ⟨g, y, hA, hb, (hh.cell t).trans hy, hh.frozen t⟩
theorem Buf.put {w : World} {base g n t : Nat} (h : Buf w base (some ⟨g, 0, none⟩) n) (z : Int) : Buf (w.setCell ⟨g, t, none⟩ (.int .u8 z)) base (some ⟨g, 0, none⟩) n := by
  rcases h with h0 | ⟨g', cur, hA, hb, hh, hc⟩
  · exact .inl h0
  · injection hA with hA
    injection hA with hA
    subst hA
    refine .inr ⟨g, _, rfl, hb, hh.set_ t _, fun j hj => ?_⟩
    rw [Array.getElem?_setIfInBounds]
    split
    · rename_i e
      subst e
      obtain ⟨y, hy⟩ := hc t hj
      rw [if_pos (Array.getElem?_eq_some_iff.1 hy).1]
      exact ⟨z, rfl⟩
    · exact hc j hj
theorem Buf.only {w w' : World} {base n : Nat} {A : Option Addr} {S : List Nat} (h : Buf w base A n) (ho : Only S w w') (hS : ∀ k ∈ S, k < base) : Buf w' base A n := by
  rcases h with h0 | ⟨g, cur, hA, hb, hh, hc⟩
  · exact .inl h0
  · exact .inr ⟨g, cur, hA, hb, ho.blk hh (fun hm => by have := hS g hm; omega), hc⟩

/-- the rows of bytes that came in -/
def Ins (w : World) (B : Nat) (A : Option Addr) (n : Nat) : Prop :=
  ∀ i < n, ∃ (ad : Addr) (A' : Option Addr) (n' c' : Nat) (xs : List Int), A = some ad ∧ w.cell? (ad.add i) = some (.slice A' n' c') ∧ ad.block < B ∧ Reads w B 1 A' n' (xs.map (Value.int .u8)) ∧ n' ≤ c' ∧ c' ≤ maxLen
theorem Ins.below {w w' : World} {B n : Nat} {A : Option Addr} (h : Ins w B A n) (hb : Below B w w') : Ins w' B A n := by
  intro i hi
  obtain ⟨ad, A', n', c', xs, h1, h2, h3, h4, h5⟩ := h i hi
  exact ⟨ad, A', n', c', xs, h1, (hb.cell (by rw [block_of_add]; exact h3)).trans h2, h3, h4.below hb, h5⟩
end Go.Proofs.Ytagopgoelgmibaa
