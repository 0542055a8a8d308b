/- Plain laws: a question's words, parsed, are the question. -/
import Derived.Test.YthlnaejmglajeaaDoorAOr
namespace Go.Proofs.YthlnaejmglajeaaDoor
open Go.RowKit
set_option linter.unusedSimpArgs false
set_option linter.unusedVariables false

/-- what is left reads as these words and signs -/
def Lx : List UInt8 → List (List UInt8) → Prop
  | r, [] => skipB r = []
  | r, t :: ts => tok r = t ∧ t ≠ [] ∧ Lx ((skipB r).drop t.length) ts
theorem skipB_skipB (r : List UInt8) : skipB (skipB r) = skipB r := by
  rcases skip_head r with h | ⟨b, l, h, hb⟩
  · rw [h]; rfl
  · rw [h, skip_other hb]
theorem tok_skipB (r : List UInt8) : tok (skipB r) = tok r := by rw [tok, skipB_skipB, tok]
theorem Lx.skip {r : List UInt8} {ts : List (List UInt8)} (h : Lx r ts) : Lx (skipB r) ts := by
  cases ts with
  | nil => rw [Lx] at h ⊢; rw [skipB_skipB, h]
  | cons t ts => rw [Lx] at h ⊢; rw [tok_skipB, skipB_skipB]; exact h
theorem tok_of_nil {r : List UInt8} (h : skipB r = []) : tok r = [] := by rw [tok, h]; rfl
def G (st : St) (ts : List (List UInt8)) : Prop := st.bad = false ∧ Lx st.r ts
theorem takes_yes {w : List UInt8} {st : St} {ts : List (List UInt8)} (h : G st (w :: ts)) : takesB w st = true ∧ G (takesS w st) ts := by
  obtain ⟨r, bad⟩ := st
  obtain ⟨hb, h1, h2, h3⟩ := h
  have hb : bad = false := hb
  subst hb
  have h1 : tok r = w := h1
  have hB : takesB w ⟨r, false⟩ = true := by rw [takesB_ok h2, beq_iff_eq]; exact h1
  refine ⟨hB, ?_⟩
  rw [takesS_ok h2, if_pos (by rw [beq_iff_eq]; exact h1)]
  exact ⟨rfl, h3⟩
theorem takes_no {w : List UInt8} {st : St} {ts : List (List UInt8)} (h : G st ts) (hw : w ≠ []) (hn : ts.head? ≠ some w) : takesB w st = false ∧ G (takesS w st) ts := by
  obtain ⟨r, bad⟩ := st
  obtain ⟨hb, hl⟩ := h
  have hb : bad = false := hb
  subst hb
  have hl : Lx r ts := hl
  have hne : (tok r == w) = false := by
    rw [beq_eq_false_iff_ne]
    intro e
    cases ts with
    | nil => exact hw (e.symm.trans (tok_of_nil hl))
    | cons t ts => exact hn (by rw [List.head?_cons, ← hl.1, e])
  refine ⟨by rw [takesB_ok hw, hne], ?_⟩
  rw [takesS_ok hw, if_neg (by rw [hne]; decide)]
  exact ⟨rfl, hl.skip⟩
theorem must_yes {w : List UInt8} {st : St} {ts : List (List UInt8)} (h : G st (w :: ts)) : G (mustS w st) ts := by
  have := takes_yes h
  rw [mustS, if_pos this.1]
  exact this.2
theorem num_yes {d : List UInt8} {st : St} {ts : List (List UInt8)} {n : Nat} (h : G st ([40] :: d :: [41] :: ts)) (hd : numOk d = some n) : ∃ st', numF st = ((n : Int), st') ∧ G st' ts := by
  have h1 := must_yes h
  obtain ⟨hb, ht, hne, hl⟩ := h1
  have ht : tok (mustS [40] st).r = d := ht
  refine ⟨_, ?_, must_yes (w := [41]) (st := ⟨(skipB (mustS [40] st).r).drop d.length, false⟩) ⟨rfl, hl⟩⟩
  rw [numF, if_neg (by rw [hb]; decide), ht, hd]

theorem hd_ne {a b : List UInt8} {l : List (List UInt8)} (h : a ≠ b) : (a :: l).head? ≠ some b := fun e => h (Option.some.inj e)
theorem one_up_law (or : St → QT × St) {st : St} {ts : List (List UInt8)} (h : G st (wUp :: ts)) : ∃ st', oneF or st = (.mk 1 0 [], st') ∧ G st' ts := by
  have h1 := takes_yes h
  exact ⟨_, by rw [oneF, if_pos h1.1], h1.2⟩
theorem one_down_law (or : St → QT × St) {st : St} {ts : List (List UInt8)} (h : G st (wDown :: ts)) : ∃ st', oneF or st = (.mk 2 0 [], st') ∧ G st' ts := by
  have h1 := takes_no (w := wUp) h (by decide) (hd_ne (by decide))
  have h2 := takes_yes h1.2
  exact ⟨_, by rw [oneF, if_neg (by rw [h1.1]; decide), oneD, if_pos h2.1], h2.2⟩
theorem one_live_law (or : St → QT × St) {st : St} {ts : List (List UInt8)} (h : G st (wLive :: ts)) : ∃ st', oneF or st = (.mk 8 0 [], st') ∧ G st' ts := by
  have h1 := takes_no (w := wUp) h (by decide) (hd_ne (by decide))
  have h2 := takes_no (w := wDown) h1.2 (by decide) (hd_ne (by decide))
  have h3 := takes_yes h2.2
  exact ⟨_, by rw [oneF, if_neg (by rw [h1.1]; decide), oneD, if_neg (by rw [h2.1]; decide), oneV, if_pos h3.1], h3.2⟩
theorem one_kind_law (or : St → QT × St) {st : St} {ts : List (List UInt8)} {d : List UInt8} {n : Nat} (hd : numOk d = some n) (h : G st (wKind :: [40] :: d :: [41] :: ts)) : ∃ st', oneF or st = (.mk 3 n [], st') ∧ G st' ts := by
  have h1 := takes_no (w := wUp) h (by decide) (hd_ne (by decide))
  have h2 := takes_no (w := wDown) h1.2 (by decide) (hd_ne (by decide))
  have h3 := takes_no (w := wLive) h2.2 (by decide) (hd_ne (by decide))
  have h4 := takes_yes h3.2
  obtain ⟨st', e, h5⟩ := num_yes h4.2 hd
  exact ⟨st', by rw [oneF, if_neg (by rw [h1.1]; decide), oneD, if_neg (by rw [h2.1]; decide), oneV, if_neg (by rw [h3.1]; decide), oneK, if_pos h4.1, e], h5⟩
theorem one_label_law (or : St → QT × St) {st : St} {ts : List (List UInt8)} {d : List UInt8} {n : Nat} (hd : numOk d = some n) (h : G st (wLabel :: [40] :: d :: [41] :: ts)) : ∃ st', oneF or st = (.mk 4 n [], st') ∧ G st' ts := by
  have h1 := takes_no (w := wUp) h (by decide) (hd_ne (by decide))
  have h2 := takes_no (w := wDown) h1.2 (by decide) (hd_ne (by decide))
  have h3 := takes_no (w := wLive) h2.2 (by decide) (hd_ne (by decide))
  have h4 := takes_no (w := wKind) h3.2 (by decide) (hd_ne (by decide))
  have h5 := takes_yes h4.2
  obtain ⟨st', e, h6⟩ := num_yes h5.2 hd
  exact ⟨st', by rw [oneF, if_neg (by rw [h1.1]; decide), oneD, if_neg (by rw [h2.1]; decide), oneV, if_neg (by rw [h3.1]; decide), oneK, if_neg (by rw [h4.1]; decide), oneL, if_pos h5.1, e], h6⟩
theorem one_par_law (or : St → QT × St) {st : St} {us ts : List (List UInt8)} {q : QT} (h : G st ([40] :: us)) (hor : ∀ st1, G st1 us → ∃ st2, or st1 = (q, st2) ∧ G st2 ([41] :: ts)) : ∃ st', oneF or st = (q, st') ∧ G st' ts := by
  have h1 := takes_no (w := wUp) h (by decide) (hd_ne (by decide))
  have h2 := takes_no (w := wDown) h1.2 (by decide) (hd_ne (by decide))
  have h3 := takes_no (w := wLive) h2.2 (by decide) (hd_ne (by decide))
  have h4 := takes_no (w := wKind) h3.2 (by decide) (hd_ne (by decide))
  have h5 := takes_no (w := wLabel) h4.2 (by decide) (hd_ne (by decide))
  have h6 := must_yes h5.2
  obtain ⟨st2, e, h7⟩ := hor _ h6
  refine ⟨_, ?_, must_yes h7⟩
  rw [oneF, if_neg (by rw [h1.1]; decide), oneD, if_neg (by rw [h2.1]; decide), oneV, if_neg (by rw [h3.1]; decide), oneK, if_neg (by rw [h4.1]; decide), oneL, if_neg (by rw [h5.1]; decide), oneP, if_neg (by rw [h6.1]; decide), e]

/-- behind q in a star's loop -/
def SR (or : St → QT × St) (st : St) (q : QT) (ts : List (List UInt8)) : Prop := ∃ F st', starF or st = starLoop F q st' ∧ G st' ts ∧ st'.r.length < F
theorem sr_of_one {or : St → QT × St} {st : St} {q : QT} {ts : List (List UInt8)} (h : ∃ st', oneF or st = (q, st') ∧ G st' ts) : SR or st q ts := by
  obtain ⟨st', e, h⟩ := h
  exact ⟨st'.r.length + 1, st', by rw [starF, e], h, Nat.lt_succ_self _⟩
theorem sr_star {or : St → QT × St} {st : St} {q : QT} {ts : List (List UInt8)} (h : SR or st q ([42] :: ts)) : SR or st (.mk 5 0 [q]) ts := by
  obtain ⟨F, st', e, h, hF⟩ := h
  have h1 := takes_yes h
  have h2 := takes_len h1.1
  cases F with
  | zero => omega
  | succ F =>
    refine ⟨F, _, ?_, h1.2, by have e1 : ([42] : List UInt8).length = 1 := rfl; omega⟩
    rw [e, starLoop, if_pos h1.1]
theorem sr_end {or : St → QT × St} {st : St} {q : QT} {ts : List (List UInt8)} (h : SR or st q ts) (hn : ts.head? ≠ some [42]) : ∃ st', starF or st = (q, st') ∧ G st' ts := by
  obtain ⟨F, st', e, h, hF⟩ := h
  have h1 := takes_no (w := [42]) h (by decide) hn
  cases F with
  | zero => omega
  | succ F => exact ⟨_, by rw [e, starLoop, if_neg (by rw [h1.1]; decide)], h1.2⟩

/-- kids' words, each behind a sign -/
def signed (sign : List UInt8) (kt : QT → List (List UInt8)) (ks : List QT) : List (List UInt8) := ks.flatMap fun k => sign :: kt k
theorem loop_law {sign : List UInt8} {part : St → QT × St} {kt : QT → List (List UInt8)} {bad : List (List UInt8)} (hs : sign ≠ []) (hlen : ∀ st, (part st).2.r.length ≤ st.r.length) (hsb : sign ∉ bad) :
    ∀ (ks : List QT) (l : List QT) (F : Nat) (st : St) (ts : List (List UInt8)), (∀ k ∈ ks, ∀ st ts, (∀ b ∈ bad, ts.head? ≠ some b) → G st (kt k ++ ts) → ∃ st', part st = (k, st') ∧ G st' ts) → (∀ b ∈ bad, ts.head? ≠ some b) → ts.head? ≠ some sign → G st (signed sign kt ks ++ ts) → st.r.length < F →
      ∃ st', listLoop sign part F l st = (l ++ ks, st') ∧ G st' ts
  | [], l, F, st, ts, hk, hb, hn, h, hF => by
    have h1 := takes_no (w := sign) (show G st ts from h) hs hn
    cases F with
    | zero => omega
    | succ F => exact ⟨_, by rw [listLoop, if_neg (by rw [h1.1]; decide), List.append_nil], h1.2⟩
  | k :: ks, l, F, st, ts, hk, hb, hn, h, hF => by
    have h' : G st (sign :: (kt k ++ (signed sign kt ks ++ ts))) := by
      have e : signed sign kt (k :: ks) ++ ts = sign :: (kt k ++ (signed sign kt ks ++ ts)) := by simp [signed]
      rwa [e] at h
    have h1 := takes_yes h'
    have h2 := takes_len h1.1
    have hsl : 1 ≤ sign.length := by cases sign with
      | nil => exact absurd rfl hs
      | cons a l => simp
    obtain ⟨st', e, h3⟩ := hk k (by simp) _ (signed sign kt ks ++ ts) (fun b hbb => by
      cases ks with
      | nil => exact hb b hbb
      | cons k2 ks2 =>
        have e : (signed sign kt (k2 :: ks2) ++ ts).head? = some sign := by simp [signed]
        rw [e]
        intro he
        exact hsb (Option.some.inj he ▸ hbb)) h1.2
    cases F with
    | zero => omega
    | succ F =>
      have h4 := hlen (takesS sign st)
      rw [e] at h4
      obtain ⟨st'', e2, h5⟩ := loop_law hs hlen hsb ks (l ++ [k]) F st' ts (fun k hk' => hk k (by simp [hk'])) hb hn h3 (by simp only [] at h4; omega)
      refine ⟨st'', ?_, h5⟩
      rw [listLoop, if_pos h1.1, e, e2, List.append_assoc]
      rfl
theorem list_law {sign : List UInt8} {op : Int} {part : St → QT × St} {kt : QT → List (List UInt8)} {bad : List (List UInt8)} (hs : sign ≠ []) (hlen : ∀ st, (part st).2.r.length ≤ st.r.length) (hsb : sign ∉ bad)
    (k : QT) (ks : List QT) (st : St) (ts : List (List UInt8)) (hk : ∀ x ∈ k :: ks, ∀ st ts, (∀ b ∈ bad, ts.head? ≠ some b) → G st (kt x ++ ts) → ∃ st', part st = (x, st') ∧ G st' ts) (hb : ∀ b ∈ bad, ts.head? ≠ some b) (hn : ts.head? ≠ some sign) (h : G st (kt k ++ (signed sign kt ks ++ ts))) :
    ∃ st', listF sign op part st = (rowOf op (k :: ks), st') ∧ G st' ts := by
  obtain ⟨st', e, h3⟩ := hk k (by simp) st (signed sign kt ks ++ ts) (fun b hbb => by
    cases ks with
    | nil => exact hb b hbb
    | cons k2 ks2 =>
      have e : (signed sign kt (k2 :: ks2) ++ ts).head? = some sign := by simp [signed]
      rw [e]
      intro he
      exact hsb (Option.some.inj he ▸ hbb)) h
  obtain ⟨st'', e2, h5⟩ := loop_law hs hlen hsb ks [k] (st'.r.length + 1) st' ts (fun x hx => hk x (by simp [hx])) hb hn h3 (Nat.lt_succ_self _)
  refine ⟨st'', ?_, h5⟩
  rw [listF, e, e2]
  rfl
end Go.Proofs.YthlnaejmglajeaaDoor
