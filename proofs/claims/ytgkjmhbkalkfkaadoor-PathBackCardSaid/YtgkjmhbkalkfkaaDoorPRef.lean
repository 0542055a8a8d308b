/- The walks of the document's Join and Under. -/
import Derived.Test.YtgkjmhbkalkfkaaDoorPAwake
import Derived.BigQuiet
namespace Go.Proofs.YtgkjmhbkalkfkaaDoor
open Go.RowKit
set_option linter.unusedSimpArgs false

def jstep (k : Nat) (s x : ByteArray) : ByteArray := (if 0 < k then s ++ slash else s) ++ x
def jfold : ByteArray → Nat → List ByteArray → ByteArray
  | s, _, [] => s
  | s, k, x :: xs => jfold (jstep k s x) (k + 1) xs
theorem jfold_snoc : ∀ (xs : List ByteArray) (s : ByteArray) (k : Nat) (x : ByteArray), jfold s k (xs ++ [x]) = jstep (k + xs.length) (jfold s k xs) x
  | [], _, _, _ => rfl
  | y :: ys, s, k, x => by
    rw [List.cons_append, jfold, jfold_snoc ys, jfold, List.length_cons]
    congr 1
    omega
def jto (xs : List ByteArray) (k : Nat) : ByteArray := jfold slash 0 (xs.take k)
theorem jto_step {xs : List ByteArray} {k : Nat} (h : k < xs.length) : jto xs (k + 1) = jstep k (jto xs k) xs[k] := by
  rw [jto, List.take_add_one, List.getElem?_eq_getElem h]
  simp only [Option.toList_some]
  rw [jfold_snoc, List.length_take, Nat.min_eq_left (by omega), Nat.zero_add]
  rfl
theorem jfold_data : ∀ (xs : List ByteArray) (s : ByteArray) (k : Nat), 0 < k → (jfold s k xs).data.toList = s.data.toList ++ Lib.joinTail [47] (xs.map (·.data.toList))
  | [], s, _, _ => by simp [jfold, Lib.joinTail]
  | x :: xs, s, k, h => by
    rw [jfold, jfold_data xs _ _ (by omega), jstep, if_pos h]
    simp [Lib.joinTail, slash]
theorem data_inj {a b : ByteArray} (h : a.data.toList = b.data.toList) : a = b := by
  cases a; cases b
  simp only at h
  rw [Array.toList_inj.1 h]
theorem jto_all (xs : List ByteArray) : jto xs xs.length = joinP xs := by
  rw [jto, List.take_length]
  refine data_inj ?_
  cases xs with
  | nil => simp [jfold, joinP, joinL, Lib.join, List.intercalate]
  | cons x r =>
    rw [jfold, jfold_data _ _ _ (by omega), joinP, joinL, List.map_cons, Lib.join_cons, jstep, if_neg (by omega)]
    simp
theorem jto_size (xs : List ByteArray) (hx : ∀ x ∈ xs, x.size ≤ 2000) : ∀ k, k ≤ xs.length → (jto xs k).size ≤ 1 + k * 2001
  | 0, _ => by simp [jto, jfold, slash, ByteArray.size]
  | k + 1, h => by
    have ih := jto_size xs hx k (by omega)
    have h1 : (xs[k]'(by omega)).size ≤ 2000 := hx _ (List.getElem_mem _)
    rw [jto_step (by omega), jstep, ByteArray.size_append]
    have hs : slash.size = 1 := rfl
    by_cases h0 : 0 < k
    · rw [if_pos h0, ByteArray.size_append]; omega
    · rw [if_neg h0]; omega

set_option maxHeartbeats 1000000 in
theorem rjoin_any (B : Nat) (A : Option Addr) (n c : Nat) (xs : List ByteArray) (w : World) (hr : RS w B A n xs) (hn : n ≤ 1000) (hx : ∀ x ∈ xs, x.size ≤ 2000) :
    Calls Tryd.prog 14 #[.slice A n c] w fun e w' => e = .returned (.string (joinP xs)) ∧ w' = w := by
  obtain rfl := hr.len
  have HSZ := hide (jto_size xs hx)
  have HX := hide hx
  clear hx
  go_enter Tryd.func14, Tryd.ntmps14
  go_wp2
  go_loop [3, 4] (fun s3 s4 => ∃ k : Nat, k ≤ xs.length ∧ s4 = .int .i64 k ∧ s3 = .string (jto xs k)) (fun _ s4 => xs.length - (intOf s4).toNat)
  case atStart => exact ⟨0, Nat.zero_le _, rfl, rfl⟩
  case round =>
    obtain ⟨k, hk, rfl, rfl⟩ := hrel
    by_cases hlt : k < xs.length
    · obtain ⟨ad, rfl, c1⟩ := hr.at_ hlt
      have hs1 := unhid_ HSZ k hk
      have hs2 := unhid_ HX xs[k] (List.getElem_mem _)
      have hst := jto_step hlt
      obtain ⟨R2, hR2⟩ : ∃ R2, R2 = jto xs (k + 1) := ⟨_, rfl⟩
      obtain ⟨R, hR⟩ : ∃ R, R = jto xs k := ⟨_, rfl⟩
      rw [← hR, ← hR2] at hst
      rw [← hR] at hs1 ⊢
      obtain ⟨x, hx⟩ : ∃ x, x = xs[k] := ⟨_, rfl⟩
      rw [← hx] at hs2 c1 hst
      have hss : slash.size = 1 := rfl
      rcases Nat.eq_zero_or_pos k with h0 | h0
      · subst h0
        have c0 : w.cell? ad = some (.string x) := by rw [← c1, show ad.add 0 = ad from rfl]
        rw [jstep, if_neg (by omega)] at hst
        have a1 : ∀ W : World, (Op.stringOp .add R x).run Tryd.prog W = .ok (.string R2) W := fun W => by rw [hst]; exact run_string_add W _ _ (by omega) (by omega)
        have HR2 := Lib.hid hR2
        clear hR2 hR hst hx
        go_wp2
        go_round
        case rel => exact ⟨1, by omega, rfl, by rw [HR2.out]⟩
        case measure => simp [intOf]; omega
      · rw [jstep, if_pos h0] at hst
        have hsz3 : (R ++ slash).size = R.size + 1 := by rw [ByteArray.size_append, hss]
        obtain ⟨R3, hR3⟩ : ∃ R3, R3 = R ++ slash := ⟨_, rfl⟩
        have a1 : ∀ W : World, (Op.stringOp .add R slash).run Tryd.prog W = .ok (.string R3) W := fun W => by rw [hR3]; exact run_string_add W _ _ (by omega) (by omega)
        rw [← hR3] at hst hsz3
        have a2 : ∀ W : World, (Op.stringOp .add R3 x).run Tryd.prog W = .ok (.string R2) W := fun W => by rw [hst]; exact run_string_add W _ _ (by omega) (by omega)
        have hkI : (0 : Int) < k := by omega
        have HR2 := Lib.hid hR2
        unfold slash at a1
        clear hR2 hR hst hx hR3 h0
        go_wp2
        go_round
        case rel => exact ⟨k + 1, by omega, by go_num, by rw [HR2.out]⟩
        case measure => simp [intOf]; omega
    · obtain rfl : k = xs.length := by omega
      have hj := jto_all xs
      rw [hj]
      clear hlt hj
      go_wp2
      go_ret
      exact ⟨rfl, rfl⟩

theorem under_false {xs ys : List ByteArray} {k : Nat} (h1 : k < xs.length) (h2 : k < ys.length) (h : ¬ xs[k] = ys[k]) : false = underP xs ys := by
  rw [underP, eq_comm, Bool.and_eq_false_iff]
  refine .inr (decide_eq_false fun e => h ?_)
  have := congrArg (·[k]?) e
  simp only [List.getElem?_take, if_pos h2, List.getElem?_eq_getElem h1, List.getElem?_eq_getElem h2] at this
  exact Option.some.inj this
theorem under_true {xs ys : List ByteArray} (hl : ys.length ≤ xs.length) (h : ∀ j (_ : j < xs.length) (_ : j < ys.length), xs[j] = ys[j]) : true = underP xs ys := by
  rw [underP, eq_comm, Bool.and_eq_true]
  refine ⟨decide_eq_true hl, decide_eq_true (List.ext_getElem (by rw [List.length_take]; omega) fun i h1 h2 => ?_)⟩
  rw [List.getElem_take]
  exact h i (by omega) h2

set_option maxHeartbeats 1000000 in
theorem runder_any (B B' : Nat) (A A' : Option Addr) (n c m d : Nat) (xs ys : List ByteArray) (w : World) (hx : RS w B A n xs) (hy : RS w B' A' m ys) (hn : n ≤ 1000000) (hm : m ≤ 1000000) :
    Calls Tryd.prog 18 #[.slice A n c, .slice A' m d] w (Quiet (.bool (underP xs ys)) w) := by
  obtain rfl := hx.len
  obtain rfl := hy.len
  by_cases hl : xs.length < ys.length
  · have hlI : (xs.length : Int) < ys.length := by omega
    have HL := Lib.hid (show false = underP xs ys by rw [underP, eq_comm, Bool.and_eq_false_iff]; exact .inl (decide_eq_false (by omega)))
    go_enter Tryd.func18, Tryd.ntmps18
    go_wp2
    go_ret
    exact quiet_bool0 HL.out
  · have hlI : ¬ (xs.length : Int) < ys.length := by omega
    go_enter Tryd.func18, Tryd.ntmps18
    go_wp2
    go_loopw [5] (fun i wr => ∃ k : Nat, k ≤ ys.length ∧ i = .int .i64 k ∧ EqTo xs ys k ∧ ∃ q, wr = w.drewN q) (fun i _ => ys.length - (intOf i).toNat)
    case atStart => exact ⟨0, Nat.zero_le _, rfl, fun _ _ _ h => absurd h (by omega), 0, rfl⟩
    case round =>
      obtain ⟨k, hk, rfl, heq, q, rfl⟩ := hrel
      by_cases hlt2 : k < ys.length
      · have hlt : k < xs.length := by omega
        obtain ⟨a1, rfl, c1⟩ := hx.at_ hlt
        obtain ⟨a2, rfl, c2⟩ := hy.at_ hlt2
        have HE := hide heq
        clear heq
        by_cases he : xs[k] = ys[k]
        · have he1 : (xs[k].toList == ys[k].toList) = true := by rw [he]; simp
          have HS := hide (EqTo.step (unhid_ HE) hlt hlt2 he)
          clear he
          go_wp2
          go_quiet (fail)
          go_wp2
          go_roundw
          case rel => exact ⟨k + 1, by omega, by go_num, unhid_ HS, _, rfl⟩
          case measure => simp [intOf]; omega
        · have he1 : (xs[k].toList == ys[k].toList) = false := by rw [beq_eq_false_iff_ne]; exact fun e => he (toList_inj e)
          have HF := Lib.hid (under_false hlt hlt2 he)
          clear he
          go_wp2
          go_quiet (fail)
          go_wp2
          go_ret
          exact quiet_ret HF.out ⟨_, World.drewN_drewN _ _ _⟩
      · have HF := Lib.hid (under_true (xs := xs) (ys := ys) (by omega) fun j h1 h2 => heq j h1 h2 (by omega))
        clear heq
        go_wp2
        go_ret
        exact quiet_bool HF.out _
end Go.Proofs.YtgkjmhbkalkfkaaDoor
