/- The walks of ask's alone, holds, Check. -/
import Derived.Test.YthlnaejmglajeaaDoorATree
import Derived.StillTailTactics
import Derived.BigQuiet
import Derived.Deep.QuietTactic
import Derived.Deep.DeepCutAuto
namespace Go.Proofs.YthlnaejmglajeaaDoor
open Go.RowKit
set_option linter.unusedSimpArgs false
set_option linter.unusedVariables false

def BoolB (b : Bool) (w : World) (e : Ending) (w' : World) : Prop := e = .returned (.bool b) ∧ Below w.heap.size w w'
theorem boolB_mk {a b : Bool} (h : a = b) {w w' : World} (hb : Below w.heap.size w w') : BoolB b w (.returned (.bool a)) w' := by subst h; exact ⟨rfl, hb⟩

set_option maxHeartbeats 1000000 in
theorem kidop_any (w : World) (o n o' : Int) (A : Option Addr) (k c g : Nat) (hg : g < w.heap.size) (hc : w.cell? ⟨g, 0, none⟩ = some (.int .i64 o')) :
    Calls Tryd.prog 33 #[.agg #[.int .i64 o, .int .i64 n, .slice A k c], .pointer (some ⟨g, 0, none⟩)] w (BoolB (o == o') w) := by
  have hne : g ≠ w.heap.size := by omega
  go_enter Tryd.func33, Tryd.ntmps33
  go_wp2
  go_ret
  exact ⟨rfl, (Below.refl _ _).alloc (Nat.le_refl _) _⟩

/-- the facts of kid i in a later world -/
theorem RQ.at_ {w : World} {B0 B : Nat} {q : QT} {A : Option Addr} {c : Nat} (h : RQ w B0 B q A c) {i : Nat} (hi : i < q.kids.length) :
    ∃ (ad : Addr) (x : QT) (Ai : Option Addr) (ci : Nat), A = some ad ∧ q.kids[i]? = some x ∧ (ad.add (i * 3)).block < B ∧ w.cell? (ad.add (i * 3)) = some (.int .i64 x.op) ∧ w.cell? ⟨(ad.add (i * 3)).block, (ad.add (i * 3)).off + 1, none⟩ = some (.int .i64 x.n) ∧
      w.cell? ⟨(ad.add (i * 3)).block, (ad.add (i * 3)).off + 2, none⟩ = some (.slice Ai x.kids.length ci) ∧ RQ w B0 B x Ai ci := by
  obtain ⟨ad, Ai, ci, e, h1, h2, ⟨h3, h4, h5⟩, h6⟩ := h.kid hi
  exact ⟨ad, _, Ai, ci, e, List.getElem?_eq_getElem hi, by rw [block_of_add]; exact h2, h3, h4, h5, h6⟩
def noneTo (ks : List QT) (o : Int) (k : Nat) : Prop := ∀ j x, j < k → ks[j]? = some x → (x.op == o) = false
theorem noneTo.step {ks : List QT} {o : Int} {k : Nat} {x : QT} (h : noneTo ks o k) (hx : ks[k]? = some x) (hn : (x.op == o) = false) : noneTo ks o (k + 1) := by
  intro j y hj hy
  rcases Nat.lt_or_ge j k with h' | h'
  · exact h j y h' hy
  · obtain rfl : j = k := by omega
    rw [hx] at hy
    injection hy with hy
    subst hy
    exact hn
theorem noneTo.all {ks : List QT} {o : Int} (h : noneTo ks o ks.length) : (ks.any fun x => x.op == o) = false := by
  rw [List.any_eq_false]
  intro x hx
  obtain ⟨j, hj⟩ := List.getElem?_of_mem hx
  have := h j x ((List.getElem?_eq_some_iff.1 hj).1) hj
  simpa using this
theorem any_of {ks : List QT} {o : Int} {k : Nat} {x : QT} (hx : ks[k]? = some x) (hn : (x.op == o) = true) : (ks.any fun x => x.op == o) = true := by
  rw [List.any_eq_true]
  exact ⟨x, List.mem_of_getElem? hx, hn⟩
/-- what IndexFunc answers -/
def IdxT (b : Bool) (w : World) (e : Ending) (w' : World) : Prop := ∃ j : Int, decide (0 ≤ j) = b ∧ -1 ≤ j ∧ e = .returned (.int .i64 j) ∧ Below w.heap.size w w'

set_option maxHeartbeats 1000000 in
theorem index_any (w : World) (B0 B : Nat) (q : QT) (A : Option Addr) (c g : Nat) (o' : Int) (hq : RQ w B0 B q A c) (hB : B ≤ w.heap.size) (hg : g < w.heap.size) (hc : w.cell? ⟨g, 0, none⟩ = some (.int .i64 o')) :
    Calls Tryd.prog 41 #[.slice A q.kids.length c, .func (.func 33) #[] #[.pointer (some ⟨g, 0, none⟩)]] w (IdxT (q.kids.any fun x => x.op == o') w) := by
  have HQ := hide hq
  have hcap := hq.cap
  unfold maxLen at hcap
  have hlc := hcap.1
  have hcm := hcap.2
  obtain ⟨ks, hks⟩ : ∃ ks, ks = q.kids := ⟨_, rfl⟩
  have HKS := Lib.hid hks
  have HC := Lib.hid hc
  rw [← hks] at hlc ⊢
  clear hq hcap hks hc
  go_enter Tryd.func41, Tryd.ntmps41
  go_wp2_with fail
  go_loopw [5, 8] (fun _ i wr => ∃ k : Nat, k ≤ ks.length ∧ i = .int .i64 k ∧ noneTo ks o' k ∧ Below w.heap.size w wr) (fun _ i _ => ks.length - (intOf i).toNat)
  case atStart => exact ⟨0, Nat.zero_le _, rfl, fun _ _ h => absurd h (Nat.not_lt_zero _), Below.refl _ _⟩
  case round =>
    obtain ⟨k, hk, rfl, hno, hbq⟩ := hrel
    have HNO := hide hno
    have HBQ := hide hbq
    have hsz := hbq.size
    by_cases hlt : k < ks.length
    · obtain ⟨ad, x, Ai, ci, rfl, hx, _, c0, c1, c2, _⟩ := ((unhid_ HQ).belowW (hbq.mono hB)).at_ (i := k) (by rw [← HKS.out]; exact hlt)
      rw [← HKS.out] at hx
      have hkI : (k : Int) < ks.length := by omega
      have hg2 : g < wr.heap.size := by omega
      have HCK := hide (fun (A : Option Addr) (a b : Nat) => kidop_any wr x.op x.n o' A a b g hg2 ((hbq.cell (p := ⟨g, 0, none⟩) hg).trans HC.out))
      have HX := Lib.hid hx
      obtain ⟨b, hb⟩ : ∃ b, (x.op == o') = b := ⟨_, rfl⟩
      rw [hb] at HCK
      have HB := Lib.hid hb
      clear hno hbq hx hb
      go_wp2_with fail
      refine (unhid_ HCK _ _ _).mono ?_
      rintro e w' ⟨rfl, hb'⟩
      have HB' := hide ((unhid_ HBQ).trans (hb'.mono hsz))
      clear hb'
      cases b with
      | true =>
        have HA := Lib.hid (any_of HX.out HB.out)
        go_wp2
        go_ret
        exact ⟨_, by rw [HA.out]; simp, by omega, rfl, unhid_ HB'⟩
      | false =>
        have HS := hide ((unhid_ HNO).step HX.out HB.out)
        go_wp2
        go_roundw
        case rel => exact ⟨k + 1, by omega, by go_num, unhid_ HS, unhid_ HB'⟩
        case measure => simp [intOf]; omega
    · obtain rfl : k = ks.length := by omega
      have HA := Lib.hid hno.all
      clear hno hbq
      go_wp2
      go_ret
      exact ⟨_, by rw [HA.out]; rfl, by omega, rfl, unhid_ HBQ⟩
set_option maxHeartbeats 1000000 in
theorem contains_any (w : World) (B0 B : Nat) (q : QT) (A : Option Addr) (c g : Nat) (o' : Int) (hq : RQ w B0 B q A c) (hB : B ≤ w.heap.size) (hg : g < w.heap.size) (hc : w.cell? ⟨g, 0, none⟩ = some (.int .i64 o')) :
    Calls Tryd.prog 32 #[.slice A q.kids.length c, .func (.func 33) #[] #[.pointer (some ⟨g, 0, none⟩)]] w (BoolB (q.kids.any fun x => x.op == o') w) := by
  have HI := hide (index_any w B0 B q A c g o' hq hB hg hc)
  clear hq hc
  go_enter Tryd.func32, Tryd.ntmps32
  go_wp2_with fail
  refine (unhid_ HI).mono ?_
  rintro e w' ⟨j, hj, hj1, rfl, hb⟩
  have HB := hide hb
  have HJ := Lib.hid hj
  obtain ⟨b, hb2⟩ : ∃ b, decide (0 ≤ j) = b := ⟨_, rfl⟩
  have HB2 := Lib.hid hb2
  clear hb hj
  go_wp2
  go_ret
  exact boolB_mk (HB2.out.symm.trans HJ.out) (unhid_ HB)
end Go.Proofs.YthlnaejmglajeaaDoor
