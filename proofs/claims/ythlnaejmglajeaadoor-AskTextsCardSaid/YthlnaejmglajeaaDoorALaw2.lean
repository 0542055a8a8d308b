/- Plain laws: a question's words, parsed, are the question: by its size. -/
import Derived.Test.YthlnaejmglajeaaDoorALaw
namespace Go.Proofs.YthlnaejmglajeaaDoor
open Go.RowKit
set_option linter.unusedSimpArgs false
set_option linter.unusedVariables false

mutual
def toksQ : QT → List (List UInt8)
  | .mk o n ks =>
    if o = 1 then [wUp] else if o = 2 then [wDown] else if o = 8 then [wLive]
    else if o = 3 then [wKind, [40], dig2 n, [41]] else if o = 4 then [wLabel, [40], dig2 n, [41]]
    else if o = 5 then starToks ks
    else if o = 7 then (thenToks ks).drop 1
    else (orToks ks).drop 1
def starToks : List QT → List (List UInt8)
  | [] => [[42]]
  | k :: _ => (if k.op = 6 ∨ k.op = 7 then [40] :: (toksQ k ++ [[41]]) else toksQ k) ++ [[42]]
def thenToks : List QT → List (List UInt8)
  | [] => []
  | k :: ks => [59] :: ((if k.op = 6 then [40] :: (toksQ k ++ [[41]]) else toksQ k) ++ thenToks ks)
def orToks : List QT → List (List UInt8)
  | [] => []
  | k :: ks => [124] :: (toksQ k ++ orToks ks)
end
def kt7 (k : QT) : List (List UInt8) := if k.op = 6 then [40] :: (toksQ k ++ [[41]]) else toksQ k
theorem thenToks_eq : ∀ ks : List QT, thenToks ks = signed [59] kt7 ks
  | [] => by rw [thenToks]; rfl
  | k :: ks => by rw [thenToks, thenToks_eq ks]; simp [signed, kt7]
theorem orToks_eq : ∀ ks : List QT, orToks ks = signed [124] toksQ ks
  | [] => by rw [orToks]; rfl
  | k :: ks => by rw [orToks, orToks_eq ks]; simp [signed]
theorem toks_7 (n : Int) (k : QT) (ks : List QT) : toksQ (.mk 7 n (k :: ks)) = kt7 k ++ signed [59] kt7 ks := by
  have e : toksQ (.mk 7 n (k :: ks)) = (thenToks (k :: ks)).drop 1 := by rw [toksQ]; rfl
  rw [e, thenToks_eq]
  simp [signed]
theorem toks_6 (n : Int) (k : QT) (ks : List QT) : toksQ (.mk 6 n (k :: ks)) = toksQ k ++ signed [124] toksQ ks := by
  have e : toksQ (.mk 6 n (k :: ks)) = (orToks (k :: ks)).drop 1 := by rw [toksQ]; rfl
  rw [e, orToks_eq]
  simp [signed]
theorem toks_5 (n : Int) (k : QT) (ks : List QT) : toksQ (.mk 5 n (k :: ks)) = (if k.op = 6 ∨ k.op = 7 then [40] :: (toksQ k ++ [[41]]) else toksQ k) ++ [[42]] := by
  have e : toksQ (.mk 5 n (k :: ks)) = starToks (k :: ks) := by rw [toksQ]; rfl
  rw [e, starToks]
theorem num_dig : ∀ i : Nat, i < 10 → numOk (dig2 i) = some i := by decide +kernel
/-- what alone says, with the number and the kids -/
theorem alone_more {o n : Int} {ks : List QT} (h : aloneF (.mk o n ks) = true) : ((o = 1 ∨ o = 2 ∨ o = 8) ∧ n = 0 ∧ ks = []) ∨ (o = 3 ∧ 1 ≤ n ∧ n ≤ 5 ∧ ks = []) ∨ (o = 4 ∧ 0 ≤ n ∧ n < 8 ∧ ks = []) ∨ (o = 5 ∧ n = 0 ∧ ∃ k, ks = [k]) ∨ ((o = 6 ∨ o = 7) ∧ n = 0 ∧ (∃ k0 k1 l, ks = k0 :: k1 :: l) ∧ ∀ k ∈ ks, k.op ≠ o) := by
  rw [aloneF] at h
  split at h
  · rename_i h1
    simp only [Bool.and_eq_true, beq_iff_eq] at h
    exact .inl ⟨h1, h.1, List.eq_nil_of_length_eq_zero h.2⟩
  · split at h
    · rename_i h1
      simp only [Bool.and_eq_true, beq_iff_eq, decide_eq_true_iff] at h
      exact .inr (.inl ⟨h1, h.1.1, h.1.2, List.eq_nil_of_length_eq_zero h.2⟩)
    · split at h
      · rename_i h1
        simp only [Bool.and_eq_true, beq_iff_eq, decide_eq_true_iff] at h
        exact .inr (.inr (.inl ⟨h1, h.1.1, h.1.2, List.eq_nil_of_length_eq_zero h.2⟩))
      · split at h
        · rename_i h1
          simp only [Bool.and_eq_true, beq_iff_eq] at h
          exact .inr (.inr (.inr (.inl ⟨h1, h.1, List.length_eq_one_iff.1 h.2⟩)))
        · split at h
          · rename_i h1
            simp only [Bool.and_eq_true, beq_iff_eq, decide_eq_true_iff, Bool.not_eq_true', List.any_eq_false] at h
            refine .inr (.inr (.inr (.inr ⟨h1, h.1.1, ?_, fun k hk => ?_⟩)))
            · match ks, h.1.2 with
              | [], h => simp at h
              | [_], h => simp at h
              | k0 :: k1 :: l, _ => exact ⟨k0, k1, l, rfl⟩
            · have := h.2 k hk
              simpa using this
          · cases h
def PLaw (N : Nat) : Prop := ∀ q, szQ q ≤ N → allA q = true → ∀ f, szQ q ≤ f →
  ((q.op ≠ 6 ∧ q.op ≠ 7) → ∀ st ts, G st (toksQ q ++ ts) → SR (orF f) st q ts) ∧
  (q.op ≠ 6 → ∀ st ts, (∀ b ∈ [[42], [59]], ts.head? ≠ some b) → G st (toksQ q ++ ts) → ∃ st', listF [59] 7 (starF (orF f)) st = (q, st') ∧ G st' ts) ∧
  (∀ st ts, (∀ b ∈ [[42], [59], [124]], ts.head? ≠ some b) → G st (toksQ q ++ ts) → ∃ st', orF (f + 1) st = (q, st') ∧ G st' ts)
theorem paren_sr {N : Nat} (ih : PLaw N) {k : QT} (hk : szQ k ≤ N) (ha : allA k = true) {f : Nat} (hf : szQ k + 1 ≤ f) {st : St} {ts : List (List UInt8)} (h : G st ([40] :: (toksQ k ++ [[41]]) ++ ts)) : SR (orF f) st k ts := by
  refine sr_of_one (one_par_law _ (us := toksQ k ++ [41] :: ts) (by simpa using h) fun st1 h1 => ?_)
  obtain ⟨f', rfl⟩ : ∃ f', f = f' + 1 := ⟨f - 1, by omega⟩
  exact ((ih k hk ha f' (by omega)).2.2) st1 ([41] :: ts) (by intro b hb; simp at hb; rcases hb with rfl | rfl | rfl <;> exact hd_ne (by decide)) h1
theorem starlen (f : Nat) : ∀ st, (starF (orF f) st).2.r.length ≤ st.r.length := fun st => starF_len _ (orF_len f) st
theorem pLaw : ∀ N, PLaw N
  | 0 => by
    intro q h
    obtain ⟨o, n, ks⟩ := q
    rw [szQ_mk] at h
    omega
  | N + 1 => by
    have ih := pLaw N
    intro q hsz ha f hf
    obtain ⟨o, n, ks⟩ := q
    have ha' := ha
    rw [allA_mk, Bool.and_eq_true] at ha'
    obtain ⟨hal, hkids⟩ := ha'
    have hm := alone_more hal
    rw [szQ_mk] at hsz hf
    have hkid : ∀ k ∈ ks, szQ k ≤ N ∧ allA k = true ∧ szQ k + 1 ≤ f := fun k hk => by
      have := szL_mem hk
      exact ⟨by omega, allL_mem hkids hk, by omega⟩
    have part1 : (o ≠ 6 ∧ o ≠ 7) → ∀ st ts, G st (toksQ (.mk o n ks) ++ ts) → SR (orF f) st (.mk o n ks) ts := by
      intro ho st ts h
      rcases hm with ⟨rfl | rfl | rfl, rfl, rfl⟩ | ⟨rfl, h1, h2, rfl⟩ | ⟨rfl, h1, h2, rfl⟩ | ⟨rfl, rfl, k, rfl⟩ | ⟨h6, _⟩
      · exact sr_of_one (one_up_law _ (by rw [toksQ] at h; exact h))
      · exact sr_of_one (one_down_law _ (by rw [toksQ] at h; exact h))
      · exact sr_of_one (one_live_law _ (by rw [toksQ] at h; exact h))
      · obtain ⟨i, rfl⟩ := Int.eq_ofNat_of_zero_le (show 0 ≤ n by omega)
        exact sr_of_one (one_kind_law _ (num_dig i (by omega)) (by rw [toksQ] at h; exact h))
      · obtain ⟨i, rfl⟩ := Int.eq_ofNat_of_zero_le (show 0 ≤ n by omega)
        exact sr_of_one (one_label_law _ (num_dig i (by omega)) (by rw [toksQ] at h; exact h))
      · rw [toks_5, List.append_assoc] at h
        obtain ⟨hk1, hk2, hk3⟩ := hkid k (by simp)
        refine sr_star ?_
        by_cases hop : k.op = 6 ∨ k.op = 7
        · rw [if_pos hop] at h
          exact paren_sr ih hk1 hk2 hk3 h
        · rw [if_neg hop] at h
          exact ((ih k hk1 hk2 f (by omega)).1 ⟨fun e => hop (.inl e), fun e => hop (.inr e)⟩) st _ h
      · rcases h6 with h6 | h6
        · exact absurd h6 ho.1
        · exact absurd h6 ho.2
    have part2 : o ≠ 6 → ∀ st ts, (∀ b ∈ [[42], [59]], ts.head? ≠ some b) → G st (toksQ (.mk o n ks) ++ ts) → ∃ st', listF [59] 7 (starF (orF f)) st = (.mk o n ks, st') ∧ G st' ts := by
      intro ho st ts hb h
      by_cases h7 : o = 7
      · rcases hm with ⟨h1 | h1 | h1, _⟩ | ⟨h1, _⟩ | ⟨h1, _⟩ | ⟨h1, _⟩ | ⟨_, rfl, ⟨k0, k1, l, rfl⟩, hops⟩
        · omega
        · omega
        · omega
        · omega
        · omega
        · omega
        · subst h7
          rw [toks_7, List.append_assoc] at h
          have hk : ∀ x ∈ k0 :: k1 :: l, ∀ st ts, (∀ b ∈ [[42]], ts.head? ≠ some b) → G st (kt7 x ++ ts) → ∃ st', starF (orF f) st = (x, st') ∧ G st' ts := by
            intro x hx st ts hb h
            obtain ⟨hx1, hx2, hx3⟩ := hkid x hx
            refine sr_end ?_ (hb [42] (by simp))
            by_cases h6 : x.op = 6
            · rw [kt7, if_pos h6] at h
              exact paren_sr ih hx1 hx2 hx3 h
            · rw [kt7, if_neg h6] at h
              exact ((ih x hx1 hx2 f (by omega)).1 ⟨h6, hops x hx⟩) st ts h
          obtain ⟨st', e, h'⟩ := list_law (op := 7) (by decide) (starlen f) (by decide) k0 (k1 :: l) st ts hk (fun b hbb => hb b (by simp at hbb; simp [hbb])) (hb [59] (by simp)) h
          exact ⟨st', e, h'⟩
      · have hk : ∀ x ∈ [QT.mk o n ks], ∀ st ts, (∀ b ∈ [[42]], ts.head? ≠ some b) → G st (toksQ x ++ ts) → ∃ st', starF (orF f) st = (x, st') ∧ G st' ts := by
          intro x hx st ts hb h
          obtain rfl := List.mem_singleton.1 hx
          exact sr_end (part1 ⟨ho, h7⟩ st ts h) (hb [42] (by simp))
        obtain ⟨st', e, h'⟩ := list_law (op := 7) (sign := [59]) (by decide) (starlen f) (by decide) (.mk o n ks) [] st ts hk (fun b hbb => hb b (by simp at hbb; simp [hbb])) (hb [59] (by simp)) h
        exact ⟨st', e, h'⟩
    refine ⟨part1, part2, fun st ts hb h => ?_⟩
    rw [orF]
    have hlen : ∀ st, (listF [59] 7 (starF (orF f)) st).2.r.length ≤ st.r.length := fun st => listF_len _ _ _ (starlen f) st
    by_cases h6 : o = 6
    · rcases hm with ⟨h1 | h1 | h1, _⟩ | ⟨h1, _⟩ | ⟨h1, _⟩ | ⟨h1, _⟩ | ⟨_, rfl, ⟨k0, k1, l, rfl⟩, hops⟩
      · omega
      · omega
      · omega
      · omega
      · omega
      · omega
      · subst h6
        rw [toks_6, List.append_assoc] at h
        have hk : ∀ x ∈ k0 :: k1 :: l, ∀ st ts, (∀ b ∈ [[42], [59]], ts.head? ≠ some b) → G st (toksQ x ++ ts) → ∃ st', listF [59] 7 (starF (orF f)) st = (x, st') ∧ G st' ts := by
          intro x hx st ts hb h
          obtain ⟨hx1, hx2, hx3⟩ := hkid x hx
          exact ((ih x hx1 hx2 f (by omega)).2.1 (hops x hx)) st ts hb h
        obtain ⟨st', e, h'⟩ := list_law (op := 6) (by decide) hlen (by decide) k0 (k1 :: l) st ts hk (fun b hbb => hb b (by simp at hbb; rcases hbb with rfl | rfl <;> simp)) (hb [124] (by simp)) h
        exact ⟨st', e, h'⟩
    · have hk : ∀ x ∈ [QT.mk o n ks], ∀ st ts, (∀ b ∈ [[42], [59]], ts.head? ≠ some b) → G st (toksQ x ++ ts) → ∃ st', listF [59] 7 (starF (orF f)) st = (x, st') ∧ G st' ts := by
        intro x hx st ts hb h
        obtain rfl := List.mem_singleton.1 hx
        exact part2 h6 st ts hb h
      obtain ⟨st', e, h'⟩ := list_law (op := 6) (sign := [124]) (by decide) hlen (by decide) (.mk o n ks) [] st ts hk (fun b hbb => hb b (by simp at hbb; rcases hbb with rfl | rfl <;> simp)) (hb [124] (by simp)) h
      exact ⟨st', e, h'⟩
end Go.Proofs.YthlnaejmglajeaaDoor
