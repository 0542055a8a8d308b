/- The walk of pedigreelaw00.Bytes (a copy of bytes), and how bytes become a string. Conditions: at most a million bytes. -/
import Derived.Test.YtagopgoelgmibaaQ4
namespace Go.Proofs.Ytagopgoelgmibaa
open Go.RowKit
set_option linter.unusedSimpArgs false

theorem conv_zero (w : World) (A : Option Addr) (c : Nat) : (convert 28 9 (.slice A 0 c)).run Try.prog w = .ok (.string (strOfNums [])) w := by
  cases A with
  | none => exact run_convert_bytes_nil w 28 5 Try.underlying28 Try.underlying5 0 c _ Try.underlying9
  | some ad =>
    rw [run_convert_bytes_string w 28 9 5 _ _ _ Try.underlying28 Try.underlying5 Try.underlying9]
    simp [Conv.bytesToString, loadCells, loadCellsFrom]
    rfl
theorem conv_any {w : World} {SB n c : Nat} {A : Option Addr} {xs : List Int} (h : Reads w SB 1 A n (xs.map (Value.int .u8))) :
    (convert 28 9 (.slice A n c)).run Try.prog w = .ok (.string (strOfNums xs)) w := by
  rcases Nat.eq_zero_or_pos n with h0 | h0
  · subst h0
    have hl : xs.length = 0 := by have := h.1; simpa using this
    obtain rfl : xs = [] := List.eq_nil_of_length_eq_zero hl
    exact conv_zero w A c
  · refine conv_reads h fun ad hA => ?_
    have hl : xs.length = n := by have := h.1; simpa using this
    obtain ⟨ad', e, _, hc⟩ := h.2 h0
    obtain rfl : ad = ad' := by rw [hA] at e; exact Option.some.inj e
    have h1 := hc 0 (.int .u8 xs[0]) (by rw [List.getElem?_map, List.getElem?_eq_getElem (by omega)]; rfl)
    have h2 := World.cell?_spot h1
    simpa [Addr.add] using h2
theorem str_app (x y : List Int) : strOfNums (x ++ y) = strOfNums x ++ strOfNums y := by
  apply ByteArray.ext
  simp [strOfNums, ByteArray.append]

theorem Reads.takeB {w : World} {B n k : Nat} {A : Option Addr} {xs : List Int} (h : Reads w B 1 A n (xs.map (Value.int .u8))) (hk : k ≤ n) : Reads w B 1 A k ((xs.take k).map (Value.int .u8)) := by
  have := h.take hk
  rwa [Nat.mul_one, ← List.map_take] at this

/-- a new slice of bytes that reads as xs -/
def NewBytes (xs : List Int) (w : World) (e : Ending) (w' : World) : Prop :=
  ∃ A c, e = .returned (.slice A xs.length c) ∧ w'.ownsRow w.heap.size 5 1 (.slice A xs.length c) xs.length (xs.map (Value.int .u8)) ∧ Below w.heap.size w w'
theorem NewBytes.mk {xs : List Int} {w w' : World} {v : Value} {n : Nat} (hn : n = xs.length) (h : w'.ownsRow w.heap.size 5 1 v n (xs.map (Value.int .u8))) (hb : Below w.heap.size w w') : NewBytes xs w (.returned v) w' := by
  subst hn
  obtain ⟨A, c, rfl⟩ := own_slice h
  exact ⟨A, c, rfl, h, hb⟩

set_option maxHeartbeats 400000 in
theorem copy_any (B : Nat) (A : Option Addr) (n c : Nat) (xs : List Int) (w : World) (hr : Reads w B 1 A n (xs.map (Value.int .u8))) (hn : n ≤ 1000000) :
    Calls Try.prog 10 #[.slice A n c] w (NewBytes xs w) := by
  obtain ⟨i0, hi0, hz0, hz1, hz2⟩ := info_parts info_u8
  have hl : n = xs.length := by have := hr.1; simpa using this.symm
  subst hl
  go_enter Try.func10, Try.ntmps10
  go_wp2_with (at_builtin; refine wpList_append_any _ rfl _ _ _ rfl w.heap.size 5 i0 _ 1 1 Try.underlying28 hi0 hz0 hz1 hz2 rfl (by omega) (.slice none 0 0) 0 [] rfl (World.ownsRow_nil _ _ _ _) B A xs.length c (xs.map (Value.int .u8)) rfl hr (By_one xs) (by simp only [maxLen]; omega) (by omega) (Nat.le_refl _) ?_; intro v1 w1 hown1 hg1 hat1)
  go_ret
  exact NewBytes.mk (by simp) hown1 ((Below.refl _ _).grown hg1 (Nat.le_refl _) (by simp [Value.ownBlock]))

/-- what is handed to Put lies in a block of its own -/
theorem own_apart {w : World} {base : Nat} {e : TypeId} {n c : Nat} {A : Option Addr} {xs : List Value} {S : List Nat} (h : w.ownsRow base e 1 (.slice A n c) n xs) (hS : ∀ k ∈ S, k < base) : ∀ ad, A = some ad → ad.block ∉ S := by
  rintro ad rfl hm
  have h1 := hS _ hm
  rcases h.2 with ⟨hv, _⟩ | ⟨g, cap, cur, hv, hb, _⟩
  · cases hv
  · have : ad.block = g := by injection hv with h2; injection h2 with h3; rw [h3]
    omega
theorem own_cap {w : World} {base : Nat} {e : TypeId} {n c : Nat} {A : Option Addr} {xs : List Value} (h : w.ownsRow base e 1 (.slice A n c) n xs) : n ≤ c := by
  rcases h.2 with ⟨hv, rfl⟩ | ⟨g, cap, cur, hv, _, _, hnc, _⟩
  · exact Nat.zero_le _
  · injection hv with _ _ h3
    omega
end Go.Proofs.Ytagopgoelgmibaa
