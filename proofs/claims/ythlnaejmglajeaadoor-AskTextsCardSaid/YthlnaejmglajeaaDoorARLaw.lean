/- The reference's look, in plain words, and that it answers as Check does. -/
import Derived.Test.YthlnaejmglajeaaDoorACheck3
namespace Go.Proofs.YthlnaejmglajeaaDoor

/-- may a question be, but for its kids' kinds? -/
def okR : QT → Bool
  | .mk o n ks =>
    if o = 1 ∨ o = 2 ∨ o = 8 then ks.length == 0 && n == 0
    else if o = 3 then ks.length == 0 && decide (1 ≤ n) && decide (n ≤ 5)
    else if o = 4 then ks.length == 0 && decide (0 ≤ n) && decide (n < 8)
    else if o = 5 then ks.length == 1 && n == 0
    else if o = 6 ∨ o = 7 then decide (2 ≤ ks.length) && n == 0
    else false
def kidR (o : Int) (k : QT) : Bool := k.op != o || o == 5
mutual
def lookF : QT → Int → Int → Int × Bool
  | .mk o n ks, m, d => if 40 < m + 1 ∨ 12 < d then (m + 1, false) else if okR (.mk o n ks) then lookL o ks (m + 1) (d + 1) else (m + 1, false)
def lookL (o : Int) : List QT → Int → Int → Int × Bool
  | [], m, _ => (m, true)
  | k :: ks, m, d => if (lookF k m d).2 && kidR o k then lookL o ks (lookF k m d).1 d else ((lookF k m d).1, false)
end
theorem lookF_mk (o n : Int) (ks : List QT) (m d : Int) : lookF (.mk o n ks) m d = if 40 < m + 1 ∨ 12 < d then (m + 1, false) else if okR (.mk o n ks) then lookL o ks (m + 1) (d + 1) else (m + 1, false) := by rw [lookF]
theorem lookL_nil (o m d : Int) : lookL o [] m d = (m, true) := by rw [lookL]
theorem lookL_cons (o : Int) (k : QT) (ks : List QT) (m d : Int) : lookL o (k :: ks) m d = if (lookF k m d).2 && kidR o k then lookL o ks (lookF k m d).1 d else ((lookF k m d).1, false) := by rw [lookL]
theorem alone_ok (o n : Int) (ks : List QT) : aloneF (.mk o n ks) = (okR (.mk o n ks) && ks.all (kidR o)) := by
  by_cases h1 : o = 1 ∨ o = 2 ∨ o = 8
  · rw [aloneF, okR, if_pos h1, if_pos h1]
    cases ks <;> simp
  · by_cases h3 : o = 3
    · rw [aloneF, okR, if_neg h1, if_neg h1, if_pos h3, if_pos h3]
      cases ks <;> simp
    · by_cases h4 : o = 4
      · rw [aloneF, okR, if_neg h1, if_neg h1, if_neg h3, if_neg h3, if_pos h4, if_pos h4]
        cases ks <;> simp
      · by_cases h5 : o = 5
        · subst h5
          have ha : ks.all (kidR 5) = true := by rw [List.all_eq_true]; intro x _; simp [kidR]
          rw [aloneF, okR, ha, if_neg h1, if_neg h1, if_neg h3, if_neg h3, if_neg h4, if_neg h4, if_pos rfl, if_pos rfl, Bool.and_true, Bool.and_comm]
        · by_cases h6 : o = 6 ∨ o = 7
          · have ha : ks.all (kidR o) = !(ks.any fun k => k.op == o) := by
              rw [List.not_any_eq_all_not]
              congr 1
              funext k
              simp [kidR, h5, bne]
            rw [aloneF, okR, ha, if_neg h1, if_neg h1, if_neg h3, if_neg h3, if_neg h4, if_neg h4, if_neg h5, if_neg h5, if_pos h6, if_pos h6]
            cases (n == 0) <;> cases (decide (2 ≤ ks.length)) <;> simp
          · rw [aloneF, okR, if_neg h1, if_neg h1, if_neg h3, if_neg h3, if_neg h4, if_neg h4, if_neg h5, if_neg h5, if_neg h6, if_neg h6]
            rfl
mutual
theorem look_holds : ∀ (q : QT) (m d : Int), (lookF q m d).2 = (holdsF q (40 - m) d).2 ∧ ((lookF q m d).2 = true → (lookF q m d).1 = 40 - (holdsF q (40 - m) d).1)
  | .mk o n ks, m, d => by
    have ih := lookL_holds o ks (m + 1) (d + 1)
    rw [show 40 - (m + 1) = 40 - m - 1 from by omega] at ih
    rw [lookF_mk, holdsF_mk, alone_ok]
    by_cases h1 : 40 < m + 1 ∨ 12 < d
    · rw [if_pos h1, if_pos (by rcases h1 with h | h; exact .inl (by omega); exact .inr (.inl h))]
      exact ⟨rfl, fun h => by cases h⟩
    · rw [if_neg h1]
      cases hok : okR (.mk o n ks) with
      | false =>
        rw [if_neg (by decide), if_pos (.inr (.inr rfl))]
        exact ⟨rfl, fun h => by cases h⟩
      | true =>
        rw [if_pos rfl, Bool.true_and]
        cases hal : ks.all (kidR o) with
        | false =>
          rw [hal, Bool.and_false] at ih
          rw [if_pos (.inr (.inr rfl))]
          exact ⟨ih.1, fun h => by rw [ih.1] at h; cases h⟩
        | true =>
          rw [hal, Bool.and_true] at ih
          rw [if_neg (by rintro (h | h | h); exact h1 (.inl (by omega)); exact h1 (.inr h); cases h)]
          exact ih
theorem lookL_holds : ∀ (o : Int) (ks : List QT) (m d : Int), (lookL o ks m d).2 = ((holdsL ks (40 - m) d).2 && ks.all (kidR o)) ∧ ((lookL o ks m d).2 = true → (lookL o ks m d).1 = 40 - (holdsL ks (40 - m) d).1)
  | o, [], m, d => by
    rw [lookL_nil, holdsL_nil]
    exact ⟨rfl, fun _ => by simp only []; omega⟩
  | o, k :: ks, m, d => by
    have h1 := look_holds k m d
    rw [lookL_cons, holdsL_cons, List.all_cons]
    cases hk : (lookF k m d).2 with
    | false =>
      rw [hk] at h1
      rw [← h1.1]
      exact ⟨rfl, fun h => by cases h⟩
    | true =>
      rw [hk] at h1
      have h2 := h1.2 rfl
      have ih := lookL_holds o ks (lookF k m d).1 d
      rw [show 40 - (lookF k m d).1 = (holdsF k (40 - m) d).1 from by omega] at ih
      rw [← h1.1, if_pos rfl, Bool.true_and]
      cases hkr : kidR o k with
      | false => exact ⟨by simp, fun h => by cases h⟩
      | true =>
        rw [if_pos rfl, Bool.true_and]
        exact ih
end
theorem look_check (q : QT) : (lookF q 0 1).2 = checkF q := (look_holds q 0 1).1
end Go.Proofs.YthlnaejmglajeaaDoor
