/- The walk of SameInts: the comparison of two slices of ints, of at most a million elements. -/
import Derived.Test.YtgdloahgokefpaaTDo4
import Derived.StillTailTactics
import Derived.BigQuiet
import Derived.Deep.QuietTactic
namespace Go.Proofs.Ytgdloahgokefpaa
open Go.RowKit
set_option linter.unusedSimpArgs false

theorem eq_snoc_false (xs ys : List Int) (k : Nat) (h1 : k < xs.length) (h2 : k < ys.length) (h : (xs[k] == ys[k]) = false) : false = decide (xs = ys) := by
  rw [eq_comm, decide_eq_false_iff_not]
  rintro rfl
  simp at h
theorem eq_all (xs ys : List Int) (hl : xs.length = ys.length) (h : ∀ j (_ : j < xs.length) (_ : j < ys.length), xs[j] = ys[j]) : true = decide (xs = ys) := by
  rw [eq_comm, decide_eq_true_iff]
  exact List.ext_getElem hl fun i h1 h2 => h i h1 h2
def EqTo (xs ys : List Int) (k : Nat) : Prop := ∀ j (_ : j < xs.length) (_ : j < ys.length), j < k → xs[j] = ys[j]
theorem EqTo.step {xs ys : List Int} {k : Nat} (h : EqTo xs ys k) (h1 : k < xs.length) (h2 : k < ys.length) (he : xs[k] = ys[k]) : EqTo xs ys (k + 1) := by
  intro j a b hj
  rcases Nat.lt_or_ge j k with h' | h'
  · exact h j a b h'
  · obtain rfl : j = k := by omega
    exact he

/-- only draws -/
def Quiet (v : Value) (w : World) (e : Ending) (w' : World) : Prop := e = .returned v ∧ ∃ n, w' = w.drewN n
theorem quiet_mk {v : Value} {w : World} (n : Nat) : Quiet v w (.returned v) (w.drewN n) := ⟨rfl, n, rfl⟩
theorem quiet_bool {a b : Bool} (h : a = b) {w : World} (n : Nat) : Quiet (.bool b) w (.returned (.bool a)) (w.drewN n) := by subst h; exact quiet_mk n
theorem quiet_ret {a b : Bool} (h : a = b) {w w' : World} (hw : ∃ n, w' = w.drewN n) : Quiet (.bool b) w (.returned (.bool a)) w' := by subst h; exact ⟨rfl, hw⟩
theorem quiet_bool0 {a b : Bool} (h : a = b) {w : World} : Quiet (.bool b) w (.returned (.bool a)) w := by subst h; exact quiet_mk 0

set_option maxHeartbeats 400000 in
theorem sameInts_any (B B' : Nat) (A A' : Option Addr) (n c m d : Nat) (xs ys : List Int) (w : World) (hx : RI w B A n xs) (hy : RI w B' A' m ys) (hn : n ≤ 1000000) (hm : m ≤ 1000000) :
    Calls Try.prog 37 #[.slice A n c, .slice A' m d] w (Quiet (.bool (decide (xs = ys))) w) := by
  obtain rfl := hx.len
  obtain rfl := hy.len
  by_cases hl : xs.length = ys.length
  · have hl1 : ((xs.length : Int) != (ys.length : Int)) = false := by simp [hl]
    have HL := Lib.hid hl
    clear hl
    go_enter Try.func37, Try.ntmps37
    go_wp2
    go_loopw [5] (fun i wr => ∃ k : Nat, k ≤ xs.length ∧ i = .int .i64 k ∧ EqTo xs ys k ∧ ∃ q, wr = w.drewN q) (fun i _ => xs.length - (intOf i).toNat)
    case atStart => exact ⟨0, Nat.zero_le _, rfl, fun _ _ _ h => absurd h (by omega), 0, rfl⟩
    case round =>
      obtain ⟨k, hk, rfl, heq, q, rfl⟩ := hrel
      by_cases hlt : k < xs.length
      · have hlt2 : k < ys.length := by rw [← HL.out]; exact hlt
        obtain ⟨a1, rfl, c1⟩ := hx.at_ hlt
        obtain ⟨a2, rfl, c2⟩ := hy.at_ hlt2
        have HE := hide heq
        clear heq
        by_cases he : xs[k] = ys[k]
        · have he1 : (xs[k] != ys[k]) = false := by simp [he]
          have HS := hide (EqTo.step (unhid_ HE) hlt hlt2 he)
          clear he
          go_wp2
          go_quiet (fail)
          go_wp2
          go_roundw
          case rel => exact ⟨k + 1, by omega, by go_num, unhid_ HS, _, rfl⟩
          case measure => simp [intOf]; omega
        · have he1 : (xs[k] != ys[k]) = true := by simp [he]
          have HF := Lib.hid (eq_snoc_false xs ys k hlt hlt2 (by simp [he]))
          clear he
          go_wp2
          go_quiet (fail)
          go_wp2
          go_ret
          exact quiet_ret HF.out ⟨_, World.drewN_drewN _ _ _⟩
      · have HF := Lib.hid (eq_all xs ys HL.out fun j h1 h2 => heq j h1 h2 (by omega))
        clear heq
        go_wp2
        go_ret
        exact quiet_bool HF.out _
  · have hl1 : ((xs.length : Int) != (ys.length : Int)) = true := by simp; omega
    have HL := Lib.hid (show false = decide (xs = ys) by rw [eq_comm, decide_eq_false_iff_not]; rintro rfl; exact hl rfl)
    clear hl
    go_enter Try.func37, Try.ntmps37
    go_wp2
    go_ret
    exact quiet_bool0 HL.out
end Go.Proofs.Ytgdloahgokefpaa
