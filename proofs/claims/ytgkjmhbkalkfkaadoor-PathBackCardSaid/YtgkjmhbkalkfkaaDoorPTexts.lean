/- Rows of texts: a slice of strings that reads as a list; the walks of SameTexts and Texts. At most a million texts. -/
import Derived.Test.YtgkjmhbkalkfkaaDoorPName
import Derived.Test.YtgkjmhbkalkfkaaDoorRing
import Derived.StillTailTactics
import Derived.BigQuiet
import Derived.Deep.QuietTactic
namespace Go.Proofs.YtgkjmhbkalkfkaaDoor
open Go.RowKit
set_option linter.unusedSimpArgs false

theorem own_only {w w' : World} {base : Nat} {e : TypeId} {size n : Nat} {v : Value} {xs : List Value} {S : List Nat} (h : w.ownsRow base e size v n xs) (ho : Only S w w') (hS : ∀ k ∈ S, k < base ∨ w.heap.size ≤ k) : w'.ownsRow base e size v n xs := by
  refine ⟨h.1, ?_⟩
  rcases h.2 with h2 | ⟨g, cap, cur, hv, hb, hh, r⟩
  · exact .inl h2
  · have hg := (Array.getElem?_eq_some_iff.1 hh).1
    exact .inr ⟨g, cap, cur, hv, hb, (ho.block g hg (fun hm => by have := hS g hm; omega)).trans hh, r⟩
theorem own_base {w : World} {base base' : Nat} {e : TypeId} {size n : Nat} {v : Value} {xs : List Value} (h : w.ownsRow base e size v n xs) (hb : base' ≤ base) : w.ownsRow base' e size v n xs := by
  refine ⟨h.1, ?_⟩
  rcases h.2 with h2 | ⟨g, cap, cur, hv, hg, r⟩
  · exact .inl h2
  · exact .inr ⟨g, cap, cur, hv, Nat.le_trans hb hg, r⟩
theorem toList_inj {a b : ByteArray} (h : a.toList = b.toList) : a = b := by
  rw [ByteArray.toList_eq, ByteArray.toList_eq] at h
  apply ByteArray.ext
  exact Array.ext' h
/-- the slice of strings reads as xs -/
def RS (w : World) (B : Nat) (A : Option Addr) (n : Nat) (xs : List ByteArray) : Prop := Reads w B 1 A n (xs.map Value.string)
theorem RS.len {w : World} {B n : Nat} {A : Option Addr} {xs : List ByteArray} (h : RS w B A n xs) : xs.length = n := by have := h.1; simpa using this
theorem RS.at_ {w : World} {B n k : Nat} {A : Option Addr} {xs : List ByteArray} (h : RS w B A n xs) (hk : k < xs.length) : ∃ ad, A = some ad ∧ w.cell? (ad.add k) = some (.string xs[k]) := by
  obtain ⟨ad, u, e, _, hx, hc⟩ := Reads.at_ h (k := k) (by rw [← h.len]; exact hk)
  refine ⟨ad, e, ?_⟩
  rw [List.getElem?_map, List.getElem?_eq_getElem hk] at hx
  simp only [Option.map_some, Option.some.injEq] at hx
  rw [hc, ← hx]
theorem RS.below {w w' : World} {B n : Nat} {A : Option Addr} {xs : List ByteArray} (h : RS w B A n xs) (hb : Below B w w') : RS w' B A n xs := Reads.below h hb
theorem RS.of_own {w : World} {base c : Nat} {A : Option Addr} {xs : List ByteArray} (h : w.ownsRow base 9 1 (.slice A xs.length c) xs.length (xs.map Value.string)) : RS w w.heap.size A xs.length xs := Reads.of_own h

theorem eq_snoc_false (xs ys : List ByteArray) (k : Nat) (h1 : k < xs.length) (h2 : k < ys.length) (h : ¬ xs[k] = ys[k]) : false = decide (xs = ys) := by
  rw [eq_comm, decide_eq_false_iff_not]
  rintro rfl
  exact h rfl
theorem eq_all (xs ys : List ByteArray) (hl : xs.length = ys.length) (h : ∀ j (_ : j < xs.length) (_ : j < ys.length), xs[j] = ys[j]) : true = decide (xs = ys) := by
  rw [eq_comm, decide_eq_true_iff]
  exact List.ext_getElem hl fun i h1 h2 => h i h1 h2
def EqTo (xs ys : List ByteArray) (k : Nat) : Prop := ∀ j (_ : j < xs.length) (_ : j < ys.length), j < k → xs[j] = ys[j]
theorem EqTo.step {xs ys : List ByteArray} {k : Nat} (h : EqTo xs ys k) (h1 : k < xs.length) (h2 : k < ys.length) (he : xs[k] = ys[k]) : EqTo xs ys (k + 1) := by
  intro j a b hj
  rcases Nat.lt_or_ge j k with h' | h'
  · exact h j a b h'
  · obtain rfl : j = k := by omega
    exact he

/-- only draws -/
def Quiet (v : Value) (w : World) (e : Ending) (w' : World) : Prop := e = .returned v ∧ ∃ n, w' = w.drewN n
theorem quiet_mk {v : Value} {w : World} (n : Nat) : Quiet v w (.returned v) (w.drewN n) := ⟨rfl, n, rfl⟩
theorem quiet_bool {a b : Bool} (h : a = b) {w : World} (n : Nat) : Quiet (.bool b) w (.returned (.bool a)) (w.drewN n) := by subst h; exact quiet_mk n
theorem quiet_ret {a b : Bool} (h : a = b) {w w' : World} (hw : ∃ n, w' = w.drewN n) : Quiet (.bool b) w (.returned (.bool a)) w' := by subst h; exact ⟨rfl, hw⟩
theorem quiet_bool0 {a b : Bool} (h : a = b) {w : World} : Quiet (.bool b) w (.returned (.bool a)) w := by subst h; exact quiet_mk 0

set_option maxHeartbeats 400000 in
theorem sameTexts_any (B B' : Nat) (A A' : Option Addr) (n c m d : Nat) (xs ys : List ByteArray) (w : World) (hx : RS w B A n xs) (hy : RS w B' A' m ys) (hn : n ≤ 1000000) (hm : m ≤ 1000000) :
    Calls Tryd.prog 11 #[.slice A n c, .slice A' m d] w (Quiet (.bool (decide (xs = ys))) w) := by
  obtain rfl := hx.len
  obtain rfl := hy.len
  by_cases hl : xs.length = ys.length
  · have hl1 : ((xs.length : Int) != (ys.length : Int)) = false := by simp [hl]
    have HL := Lib.hid hl
    clear hl
    go_enter Tryd.func11, Tryd.ntmps11
    go_wp2
    go_loopw [5] (fun i wr => ∃ k : Nat, k ≤ xs.length ∧ i = .int .i64 k ∧ EqTo xs ys k ∧ ∃ q, wr = w.drewN q) (fun i _ => xs.length - (intOf i).toNat)
    case atStart => exact ⟨0, Nat.zero_le _, rfl, fun _ _ _ h => absurd h (by omega), 0, rfl⟩
    case round =>
      obtain ⟨k, hk, rfl, heq, q, rfl⟩ := hrel
      by_cases hlt : k < xs.length
      · have hlt2 : k < ys.length := by rw [← HL.out]; exact hlt
        obtain ⟨a1, rfl, c1⟩ := hx.at_ hlt
        obtain ⟨a2, rfl, c2⟩ := hy.at_ hlt2
        have HE := hide heq
        clear heq
        by_cases he : xs[k] = ys[k]
        · have he1 : (xs[k].toList == ys[k].toList) = true := by rw [he]; simp
          have HS := hide (EqTo.step (unhid_ HE) hlt hlt2 he)
          clear he
          go_wp2
          go_quiet (fail)
          go_wp2
          go_roundw
          case rel => exact ⟨k + 1, by omega, by go_num, unhid_ HS, _, rfl⟩
          case measure => simp [intOf]; omega
        · have he1 : (xs[k].toList == ys[k].toList) = false := by rw [beq_eq_false_iff_ne]; exact fun e => he (toList_inj e)
          have HF := Lib.hid (eq_snoc_false xs ys k hlt hlt2 he)
          clear he
          go_wp2
          go_quiet (fail)
          go_wp2
          go_ret
          exact quiet_ret HF.out ⟨_, World.drewN_drewN _ _ _⟩
      · have HF := Lib.hid (eq_all xs ys HL.out fun j h1 h2 => heq j h1 h2 (by omega))
        clear heq
        go_wp2
        go_ret
        exact quiet_bool HF.out _
  · have hl1 : ((xs.length : Int) != (ys.length : Int)) = true := by simp; omega
    have HL := Lib.hid (show false = decide (xs = ys) by rw [eq_comm, decide_eq_false_iff_not]; rintro rfl; exact hl rfl)
    clear hl
    go_enter Tryd.func11, Tryd.ntmps11
    go_wp2
    go_ret
    exact quiet_bool0 HL.out

theorem info_str : (Tryd.prog.info? 9).map (fun i => (i.zero, i.size, i.bytes)) = some (some (.string ByteArray.empty), 1, 16) := by kernel_rfl
theorem one_str (xs : List ByteArray) : ∀ u ∈ xs.map Value.string, u.oneCell' = true := by
  intro u hu
  obtain ⟨x, _, rfl⟩ := List.mem_map.1 hu
  rfl
/-- a new row of texts -/
def NewTexts (xs : List ByteArray) (w : World) (e : Ending) (w' : World) : Prop :=
  ∃ A c, e = .returned (.slice A xs.length c) ∧ w'.ownsRow w.heap.size 9 1 (.slice A xs.length c) xs.length (xs.map Value.string) ∧ Below w.heap.size w w'

set_option maxHeartbeats 400000 in
theorem texts_any (B : Nat) (A : Option Addr) (n c : Nat) (xs : List ByteArray) (w : World) (hr : RS w B A n xs) (hn : n ≤ 1000000) :
    Calls Tryd.prog 13 #[.slice A n c] w (NewTexts xs w) := by
  obtain ⟨i0, hi0, hz0, hz1, hz2⟩ := info_parts info_str
  obtain rfl := hr.len
  go_enter Tryd.func13, Tryd.ntmps13
  go_wp2_with (at_builtin; refine wpList_append_any _ rfl _ _ _ rfl w.heap.size 9 i0 _ 1 16 Tryd.underlying23 hi0 hz0 hz1 hz2 rfl (by omega) (.slice none 0 0) 0 [] rfl (World.ownsRow_nil _ _ _ _) B A xs.length c (xs.map Value.string) rfl hr (one_str xs) (by simp only [maxLen]; omega) (by omega) (Nat.le_refl _) ?_; intro v1 w1 hown1 hg1 hat1)
  go_ret
  simp only [Nat.zero_add, List.nil_append] at hown1
  obtain ⟨A1, c1, rfl⟩ := own_slice hown1
  exact ⟨A1, c1, rfl, hown1, (Below.refl _ _).grown hg1 (Nat.le_refl _) (by simp [Value.ownBlock])⟩
end Go.Proofs.YtgkjmhbkalkfkaaDoor
