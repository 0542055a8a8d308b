/- The walks of path.Join, Under. -/
import Derived.Test.YtgkjmhbkalkfkaaDoorPSplit
namespace Go.Proofs.YtgkjmhbkalkfkaaDoor
open Go.RowKit
set_option linter.unusedSimpArgs false

def joinL (xs : List ByteArray) : List UInt8 := Lib.join (xs.map (·.data.toList)) [47]
def joinP (xs : List ByteArray) : ByteArray := slash ++ ⟨(joinL xs).toArray⟩
theorem own_cells {w : World} {base c : Nat} {A : Option Addr} {xs : List ByteArray} (h : w.ownsRow base 9 1 (.slice A xs.length c) xs.length (xs.map Value.string)) (hp : 0 < xs.length) :
    ∃ g, base ≤ g ∧ g < w.heap.size ∧ A = some ⟨g, 0, none⟩ ∧ xs.length ≤ c ∧ ∀ (j : Nat) x, xs[j]? = some x → w.cell? ⟨g, 0 + j, none⟩ = some (.string x) := by
  have hr := RS.of_own h
  rcases h.2 with ⟨_, h2⟩ | ⟨g', cap, cur, hv, hb, hh, hnc, _⟩
  · omega
  · injection hv with h1 h2 h3
    refine ⟨g', hb, (Array.getElem?_eq_some_iff.1 hh).1, h1, by omega, fun j x hx => ?_⟩
    have hj : j < xs.length := (List.getElem?_eq_some_iff.1 hx).1
    obtain ⟨ad, e, hc⟩ := hr.at_ hj
    rw [h1] at e
    injection e with e
    subst e
    have e2 : xs[j] = x := (List.getElem?_eq_some_iff.1 hx).2
    rw [e2] at hc
    rw [Nat.zero_add]
    rcases Nat.eq_zero_or_pos j with h0 | h0
    · subst h0; exact hc
    · have e3 : (⟨g', 0, none⟩ : Addr).add j = ⟨g', j, none⟩ := by simp [Addr.add]; omega
      rw [e3] at hc
      exact hc

set_option maxHeartbeats 1000000 in
theorem join_any (w : World) (base c : Nat) (A : Option Addr) (xs : List ByteArray) (h : w.ownsRow base 9 1 (.slice A xs.length c) xs.length (xs.map Value.string)) (hn : xs.length ≤ 1000000) (hlen : (joinL xs).length ≤ 1000000) :
    Calls Tryd.prog 12 #[.slice A xs.length c] w fun e w' => e = .returned (.string (joinP xs)) ∧ Below w.heap.size w w' := by
  have hadd : ∀ W : World, (Op.stringOp .add slash ⟨(joinL xs).toArray⟩).run Tryd.prog W = .ok (.string (joinP xs)) W := fun W => run_string_add W _ _ (by decide) (by simp [ByteArray.size]; omega)
  rcases Nat.eq_zero_or_pos xs.length with h0 | h0
  · obtain rfl := List.eq_nil_of_length_eq_zero h0
    have HJ := hide (Tryd.strings_Join_none A c slash w)
    clear h
    go_enter Tryd.func12, Tryd.ntmps12
    go_wp2_with fail
    refine (unhid_ HJ).mono ?_
    rintro e w' ⟨rfl, hw'⟩
    obtain rfl := hw'.symm
    go_wp2
    go_ret
    exact ⟨rfl, Below.refl _ _⟩
  · obtain ⟨g, _, hg, rfl, hnc, hcell⟩ := own_cells h h0
    have HJ := hide (Tryd.strings_Join g 0 c xs slash w hcell hg (by omega) hnc (by show (joinL xs).length ≤ _; omega))
    clear h hcell
    go_enter Tryd.func12, Tryd.ntmps12
    go_wp2_with fail
    refine (unhid_ HJ).mono ?_
    rintro e w' ⟨rfl, hb⟩
    rw [show Lib.join (xs.map (·.data.toList)) slash.data.toList = joinL xs from rfl]
    go_wp2
    go_ret
    exact ⟨rfl, hb⟩

def underP (xs ys : List ByteArray) : Bool := decide (ys.length ≤ xs.length) && decide (xs.take ys.length = ys)
set_option maxHeartbeats 1000000 in
theorem under_any (w : World) (b1 c : Nat) (A : Option Addr) (xs : List ByteArray) (b2 d : Nat) (B : Option Addr) (ys : List ByteArray) (hx : w.ownsRow b1 9 1 (.slice A xs.length c) xs.length (xs.map Value.string)) (hy : w.ownsRow b2 9 1 (.slice B ys.length d) ys.length (ys.map Value.string)) (hn : xs.length ≤ 1000000) (hm : ys.length ≤ 1000000) :
    Calls Tryd.prog 16 #[.slice A xs.length c, .slice B ys.length d] w fun e w' => e = .returned (.bool (underP xs ys)) ∧ ∃ q, w' = w.drewN q := by
  by_cases hle : ys.length ≤ xs.length
  · have hu : underP xs ys = decide (xs.take ys.length = ys) := by simp [underP, hle]
    have HU := Lib.hid hu
    have hleI : (ys.length : Int) ≤ (xs.length : Int) := by omega
    have hd : decide ((ys.length : Int) ≤ (xs.length : Int)) = true := by simp; omega
    have hc : xs.length ≤ c := by
      rcases hx.2 with ⟨h1, h2⟩ | ⟨g', cap, cur, hv, hb, hh, hnc, _⟩
      · omega
      · injection hv with _ _ h3; omega
    clear hu
    rcases Nat.eq_zero_or_pos ys.length with h0 | h0
    · obtain rfl := List.eq_nil_of_length_eq_zero h0
      have HE := hide (fun a1 => Tryd.slices_Equal_string_empty a1 B c 0 d w (by omega))
      clear hx hy
      go_enter Tryd.func16, Tryd.ntmps16
      go_wp2_with fail
      refine ((unhid_ HE) _).mono ?_
      rintro e w' ⟨rfl, hw'⟩
      obtain rfl := hw'.symm
      go_wp2
      go_ret
      exact ⟨by rw [HU.out]; rfl, 0, rfl⟩
    · obtain ⟨g, _, hg, rfl, hnc, hcell⟩ := own_cells hx (by omega)
      obtain ⟨g2, _, hg2, rfl, hnc2, hcell2⟩ := own_cells hy h0
      have hE := Tryd.slices_Equal_string g 0 ys.length c g2 0 ys.length d xs ys w hle (Nat.le_refl _) (by omega) (by omega) (fun j hj => hcell j _ (by rw [List.getD_eq_getElem?_getD, List.getElem?_eq_getElem hj]; rfl)) (fun j hj => hcell2 j _ (by rw [List.getD_eq_getElem?_getD, List.getElem?_eq_getElem hj]; rfl))
      rw [List.take_length] at hE
      have HE := hide hE
      clear hx hy hcell hcell2 hE
      go_enter Tryd.func16, Tryd.ntmps16
      go_wp2_with fail
      refine (unhid_ HE).mono ?_
      rintro e w' ⟨rfl, q, rfl⟩
      go_wp2
      go_ret
      exact ⟨by rw [HU.out]; rfl, q, rfl⟩
  · have hu : underP xs ys = false := by simp [underP, hle]
    have HU := Lib.hid hu
    have hd : decide ((ys.length : Int) ≤ (xs.length : Int)) = false := by simp; omega
    have hleI : (xs.length : Int) < (ys.length : Int) := by omega
    clear hu hx hy
    go_enter Tryd.func16, Tryd.ntmps16
    go_wp2
    go_ret
    exact ⟨by rw [HU.out]; rfl, 0, rfl⟩
end Go.Proofs.YtgkjmhbkalkfkaaDoor
