/- Numerals of at most two letters: how Atoi ends at a word of the parser's. -/
import Derived.Test.YthlnaejmglajeaaDoorATakes
namespace Go.Proofs.YthlnaejmglajeaaDoor
open Go.RowKit
set_option linter.unusedSimpArgs false
set_option linter.unusedVariables false

/-- Atoi at a short word: a number less than 100 whose digits tell whether the word is as it should be, or no number -/
def chkN (T : List UInt8) : Bool :=
  match Lib.atoiAll T with
  | .ok v => decide (0 ≤ v) && (decide (v < 100) && (numOk T == if Lib.decDigits v.toNat == T then some v.toNat else none))
  | _ => numOk T == none
theorem chk_0 : chkN [] = true := by decide +kernel
theorem chk_1 : ∀ a : Fin 256, chkN [UInt8.ofNat a] = true := by decide +kernel
theorem chk_2 : ∀ a b : Fin 10, chkN [UInt8.ofNat (48 + a), UInt8.ofNat (48 + b)] = true := by decide +kernel
theorem chk_3 : ∀ a b : Fin 26, chkN [UInt8.ofNat (97 + a), UInt8.ofNat (97 + b)] = true := by decide +kernel
theorem run_cls (c : Nat) : ∀ (l : List UInt8), ∀ x ∈ l.take (runLen c l), cls x = c
  | [], x, h => by simp at h
  | b :: l, x, h => by
    rw [runLen] at h
    by_cases hb : cls b = c
    · rw [if_pos hb, List.take_succ_cons] at h
      rcases List.mem_cons.1 h with rfl | h
      · exact hb
      · exact run_cls c l x h
    · rw [if_neg hb] at h; simp at h
theorem skip_head : ∀ (r : List UInt8), skipB r = [] ∨ ∃ b l, skipB r = b :: l ∧ cls b ≠ 3
  | [] => .inl rfl
  | b :: l => by
    by_cases h : cls b = 3
    · rw [skip_blank h]; exact skip_head l
    · rw [skip_other h]; exact .inr ⟨b, l, rfl, h⟩
theorem tok_shape (r : List UInt8) : tok r = [] ∨ ∃ b t, tok r = b :: t ∧ cls b ≠ 3 ∧ (cls b = 0 → t = []) ∧ ∀ x ∈ t, cls x = cls b := by
  rcases skip_head r with h | ⟨b, l, h, hb⟩
  · exact .inl (by rw [tok, h]; rfl)
  · rw [tok, h, tokLen]
    by_cases h0 : cls b = 0
    · rw [if_pos h0]
      exact .inr ⟨b, [], rfl, hb, fun _ => rfl, fun x hx => by cases hx⟩
    · rw [if_neg h0, List.take_succ_cons]
      exact .inr ⟨b, _, rfl, hb, fun h => absurd h h0, run_cls _ l⟩
theorem u8_of (a : UInt8) : UInt8.ofNat a.toNat = a := by simp
theorem cls_2 {b : UInt8} (h : cls b = 2) : 48 ≤ b.toNat ∧ b.toNat ≤ 57 := by
  unfold cls at h
  split at h
  · cases h
  · split at h
    · assumption
    · split at h <;> cases h
theorem cls_1 {b : UInt8} (h : cls b = 1) : 97 ≤ b.toNat ∧ b.toNat ≤ 122 := by
  unfold cls at h
  split at h
  · assumption
  · split at h
    · cases h
    · split at h <;> cases h
theorem chk_tok (r : List UInt8) (h : (tok r).length ≤ 2) : chkN (tok r) = true := by
  rcases tok_shape r with e | ⟨b, t, e, h3, h0, hx⟩
  · rw [e]; exact chk_0
  · rw [e] at h ⊢
    match t, h, h0, hx with
    | [], _, _, _ =>
      have := chk_1 ⟨b.toNat, b.toNat_lt⟩
      simp only [u8_of] at this
      exact this
    | [d], _, h0, hx =>
      have hd := hx d (by simp)
      have hc := cls_lt b
      by_cases c0 : cls b = 0
      · exact absurd (h0 c0) (by simp)
      · by_cases c1 : cls b = 1
        · obtain ⟨g1, g2⟩ := cls_1 c1
          obtain ⟨g3, g4⟩ := cls_1 (hd.trans c1)
          have := chk_3 ⟨b.toNat - 97, by omega⟩ ⟨d.toNat - 97, by omega⟩
          simp only [show 97 + (b.toNat - 97) = b.toNat from by omega, show 97 + (d.toNat - 97) = d.toNat from by omega, u8_of] at this
          exact this
        · have c2 : cls b = 2 := by omega
          obtain ⟨g1, g2⟩ := cls_2 c2
          obtain ⟨g3, g4⟩ := cls_2 (hd.trans c2)
          have := chk_2 ⟨b.toNat - 48, by omega⟩ ⟨d.toNat - 48, by omega⟩
          simp only [show 48 + (b.toNat - 48) = b.toNat from by omega, show 48 + (d.toNat - 48) = d.toNat from by omega, u8_of] at this
          exact this
    | _ :: _ :: _, h, _, _ => simp at h
theorem numOk_long {T : List UInt8} (h : 2 < T.length) : numOk T = none := by
  match T, h with
  | [], h => simp at h
  | [a], h => simp at h
  | [a, b], h => simp at h
  | a :: b :: c :: l, _ => rfl
/-- what the walk asks: at a number -/
theorem num_ok {r : List UInt8} {v : Int} (h : Lib.atoiAll (tok r) = .ok v) (hl : (tok r).length ≤ 2) : ∃ i : Nat, v = i ∧ i < 100 ∧ numOk (tok r) = if Lib.decDigits i == tok r then some i else none := by
  have := chk_tok r hl
  rw [chkN, h] at this
  simp only [Bool.and_eq_true, decide_eq_true_iff, beq_iff_eq] at this
  obtain ⟨h1, h2, h3⟩ := this
  obtain ⟨i, rfl⟩ := Int.eq_ofNat_of_zero_le h1
  exact ⟨i, rfl, by omega, by simpa using h3⟩
theorem num_no {r : List UInt8} (h : ∀ v, Lib.atoiAll (tok r) ≠ .ok v) : numOk (tok r) = none := by
  rcases Nat.lt_or_ge 2 (tok r).length with hl | hl
  · exact numOk_long hl
  · have := chk_tok r hl
    rw [chkN] at this
    split at this
    · rename_i v hv
      exact absurd hv (h v)
    · simpa using this
end Go.Proofs.YthlnaejmglajeaaDoor
