/- The walks of package policy's functions and of the law's helpers: what each returns, for slices of at most a million elements. -/
import Derived.Test.YtkcbbdkbfjkgnaaMem
namespace Go.Proofs.Ytkcbbdkbfjkgnaa
open Go.RowKit

/-! plain: sources and bits -/
def good (x : Int) : Bool := decide (0 ≤ x) && decide (x < 8)
def goodAll (xs : List Int) : Bool := xs.all good
def orN (xs : List Int) : Nat := xs.foldl (fun a x => a ||| 2 ^ x.toNat) 0
def bitsN (xs : List Int) : Int := if goodAll xs then (orN xs : Int) else 0

theorem orN_snoc (xs : List Int) (x : Int) : orN (xs ++ [x]) = orN xs ||| 2 ^ x.toNat := by simp [orN]
theorem goodAll_snoc (xs : List Int) (x : Int) : goodAll (xs ++ [x]) = (goodAll xs && good x) := by simp [goodAll]
theorem good_iff (x : Int) : good x = true ↔ 0 ≤ x ∧ x < 8 := by simp [good]
theorem pow_lt (x : Int) (h : good x = true) : 2 ^ x.toNat < 256 := by
  rw [good_iff] at h
  have : x.toNat ≤ 7 := by omega
  calc 2 ^ x.toNat ≤ 2 ^ 7 := Nat.pow_le_pow_right (by omega) this
    _ < 256 := by omega
theorem fold_lt (xs : List Int) (a : Nat) (ha : a < 256) (h : goodAll xs = true) : xs.foldl (fun a x => a ||| 2 ^ x.toNat) a < 256 := by
  induction xs generalizing a with
  | nil => exact ha
  | cons x r ih =>
    simp only [goodAll, List.all_cons, Bool.and_eq_true] at h
    exact ih _ (Nat.or_lt_two_pow (n := 8) ha (pow_lt x h.1)) h.2
theorem orN_lt (xs : List Int) (h : goodAll xs = true) : orN xs < 256 := fold_lt xs 0 (by omega) h
theorem wrap_pow (x : Int) (h : good x = true) : wrap64 (2 ^ x.toNat) = ((2 ^ x.toNat : Nat) : Int) := by
  have h1 := pow_lt x h
  have e : (2 : Int) ^ x.toNat = ((2 ^ x.toNat : Nat) : Int) := by simp
  rw [e]
  generalize 2 ^ x.toNat = n at *
  unfold wrap64
  omega
theorem take_snoc {α : Type} (l : List α) (k : Nat) (h : k < l.length) : l.take (k + 1) = l.take k ++ [l[k]] := by
  rw [List.take_succ_eq_append_getElem h]
theorem or_step (xs : List Int) (k : Nat) (hk : k < xs.length) (h : goodAll (xs.take k) = true) (hx : good xs[k] = true) :
    bits .or .i64 (orN (xs.take k)) (wrap64 (2 ^ xs[k].toNat)) = (orN (xs.take (k + 1)) : Int) := by
  have h1 := orN_lt _ h
  have h2 := pow_lt _ hx
  rw [wrap_pow _ hx, i64_or_nat _ _ (by omega) (by omega), take_snoc xs k hk, orN_snoc]
theorem good_step (xs : List Int) (k : Nat) (hk : k < xs.length) (h : goodAll (xs.take k) = true) (hx : good xs[k] = true) : goodAll (xs.take (k + 1)) = true := by
  rw [take_snoc xs k hk, goodAll_snoc, h, hx]; rfl
theorem good_not (xs : List Int) (k : Nat) (hk : k < xs.length) (hx : good xs[k] = false) : goodAll xs = false := by
  rw [goodAll, List.all_eq_false]
  exact ⟨xs[k], List.getElem_mem _, by simp [hx]⟩

/-- the slice of ints reads as xs -/
def RI (w : World) (B : Nat) (A : Option Addr) (n : Nat) (xs : List Int) : Prop := Reads w B 1 A n (xs.map (Value.int .i64))
theorem RI.len {w : World} {B n : Nat} {A : Option Addr} {xs : List Int} (h : RI w B A n xs) : xs.length = n := by have := h.1; simpa using this
theorem RI.at_ {w : World} {B n k : Nat} {A : Option Addr} {xs : List Int} (h : RI w B A n xs) (hk : k < xs.length) : ∃ ad, A = some ad ∧ w.cell? (ad.add k) = some (.int .i64 xs[k]) := by
  obtain ⟨ad, u, e, _, hx, hc⟩ := Reads.at_ h (k := k) (by rw [← h.len]; exact hk)
  refine ⟨ad, e, ?_⟩
  rw [List.getElem?_map, List.getElem?_eq_getElem hk] at hx
  simp only [Option.map_some, Option.some.injEq] at hx
  rw [hc, ← hx]

theorem ret_bits {xs : List Int} {b : Bool} {v : Int} (h1 : v = bitsN xs) (h2 : b = goodAll xs) : Ending.returned (.tuple #[.int .i64 v, .bool b]) = .returned (.tuple #[.int .i64 (bitsN xs), .bool (goodAll xs)]) := by rw [h1, h2]
theorem bits_full (xs : List Int) (k : Nat) (hk : ¬ k < xs.length) (h : goodAll (xs.take k) = true) : (orN (xs.take k) : Int) = bitsN xs ∧ true = goodAll xs := by
  rw [List.take_of_length_le (by omega)] at h ⊢
  simp [bitsN, h]
theorem bits_bad (xs : List Int) (h : goodAll xs = false) : (0 : Int) = bitsN xs ∧ false = goodAll xs := by simp [bitsN, h]

set_option maxHeartbeats 400000 in
theorem place_any (v n : Int) (w : World) (hn : 0 < n) (hn2 : n ≤ 1000000) :
    Calls Try.prog 13 #[.int .i64 v, .int .i64 n] w fun e w' => e = .returned (.int .i64 (v % n)) ∧ w = w' := by
  have e1 := tmod_neg v n hn
  have e2 := tmod_pos v n hn
  have b1 := Int.emod_nonneg v (by omega : n ≠ 0)
  have b2 := Int.emod_lt_of_pos v hn
  have E1 : Hid (v.tmod n < 0 → v.tmod n + n = v % n) := e1
  have E2 : Hid (0 ≤ v.tmod n → v.tmod n = v % n) := e2
  have b3 : v.tmod n < n := by
    by_cases h : v.tmod n < 0
    · omega
    · rw [e2 (by omega)]; exact b2
  have b4 : -n ≤ v.tmod n := by
    by_cases h : v.tmod n < 0
    · have := e1 h; omega
    · omega
  clear e1 e2
  go_enter Try.func13, Try.ntmps13
  go_wp2
  · have h : v.tmod n < 0 := by assumption
    go_ret
    exact ⟨ret_int (E1.out h), rfl⟩
  · have h : 0 ≤ v.tmod n := by assumption
    go_ret
    exact ⟨ret_int (E2.out h), rfl⟩

set_option maxHeartbeats 400000 in
theorem bits_any (B : Nat) (A : Option Addr) (n c : Nat) (xs : List Int) (w : World) (hr : RI w B A n xs) (hn : n ≤ 1000000) :
    Calls Try.prog 7 #[.slice A n c] w fun e w' => e = .returned (.tuple #[.int .i64 (bitsN xs), .bool (goodAll xs)]) ∧ w = w' := by
  obtain rfl := hr.len
  go_enter Try.func7, Try.ntmps7
  go_wp2
  go_loop [4, 9] (fun t i => ∃ k : Nat, k ≤ xs.length ∧ i = .int .i64 k ∧ t = .int .i64 (orN (xs.take k)) ∧ goodAll (xs.take k) = true) (fun _ i => xs.length - (intOf i).toNat)
  case atStart => exact ⟨0, Nat.zero_le _, rfl, rfl, rfl⟩
  case round =>
    obtain ⟨k, hk, rfl, rfl, hg⟩ := hrel
    have HG := Lib.hid hg
    clear hg
    by_cases hlt : k < xs.length
    · obtain ⟨ad, rfl, hc⟩ := hr.at_ hlt
      by_cases hgx : good xs[k] = true
      · have hs := or_step xs k hlt HG.out hgx
        have HS : Hid (bits .or .i64 (orN (xs.take k)) (wrap64 (2 ^ xs[k].toNat)) = (orN (xs.take (k + 1)) : Int)) := hs
        have HN := Lib.hid (good_step xs k hlt HG.out hgx)
        rw [good_iff] at hgx
        obtain ⟨g1, g2⟩ := hgx
        clear hs
        go_wp2
        go_round
        case rel => exact ⟨k + 1, by omega, by go_num, by rw [HS.out], HN.out⟩
        case measure => simp [intOf]; omega
      · have hb : good xs[k] = false := by simpa using hgx
        have HB := Lib.hid (bits_bad xs (good_not xs k hlt hb))
        have hor : xs[k] < 0 ∨ 8 ≤ xs[k] := by
          rw [good_iff] at hgx; omega
        clear hb hgx
        rcases hor with h | h
        · go_wp2
          go_ret2
          exact ⟨ret_bits HB.out.1 HB.out.2, rfl⟩
        · have h0 : ¬ xs[k] < 0 := by omega
          go_wp2
          go_ret2
          exact ⟨ret_bits HB.out.1 HB.out.2, rfl⟩
    · have HF := Lib.hid (bits_full xs k hlt HG.out)
      go_wp2
      go_ret2
      exact ⟨ret_bits HF.out.1 HF.out.2, rfl⟩
end Go.Proofs.Ytkcbbdkbfjkgnaa
