/- A slice of ints that reads as a list. Conditions: none. -/
import Derived.Test.YtgdloahgokefpaaMem
namespace Go.Proofs.Ytgdloahgokefpaa
open Go.RowKit

/-- the slice of ints reads as xs -/
def RI (w : World) (B : Nat) (A : Option Addr) (n : Nat) (xs : List Int) : Prop := Reads w B 1 A n (xs.map (Value.int .i64))
theorem RI.len {w : World} {B n : Nat} {A : Option Addr} {xs : List Int} (h : RI w B A n xs) : xs.length = n := by have := h.1; simpa using this
theorem RI.at_ {w : World} {B n k : Nat} {A : Option Addr} {xs : List Int} (h : RI w B A n xs) (hk : k < xs.length) : ∃ ad, A = some ad ∧ w.cell? (ad.add k) = some (.int .i64 xs[k]) := by
  obtain ⟨ad, u, e, _, hx, hc⟩ := Reads.at_ h (k := k) (by rw [← h.len]; exact hk)
  refine ⟨ad, e, ?_⟩
  rw [List.getElem?_map, List.getElem?_eq_getElem hk] at hx
  simp only [Option.map_some, Option.some.injEq] at hx
  rw [hc, ← hx]
theorem RI.below {w w' : World} {B n : Nat} {A : Option Addr} {xs : List Int} (h : RI w B A n xs) (hb : Below B w w') : RI w' B A n xs := Reads.below h hb
end Go.Proofs.Ytgdloahgokefpaa
