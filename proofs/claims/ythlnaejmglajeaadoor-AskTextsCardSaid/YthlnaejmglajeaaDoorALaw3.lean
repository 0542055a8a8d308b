/- Plain laws: a question's text reads as its words, blanks behind signs or not; the text is parsed into the question. -/
import Derived.Test.YthlnaejmglajeaaDoorALaw2
namespace Go.Proofs.YthlnaejmglajeaaDoor
open Go.RowKit
set_option linter.unusedSimpArgs false
set_option linter.unusedVariables false

def signB (b : UInt8) : Bool := b == 40 || (b == 41 || (b == 124 || (b == 59 || b == 42)))
theorem sign_cls {b : UInt8} (h : signB b = true) : cls b = 0 := by
  simp only [signB, Bool.or_eq_true, beq_iff_eq] at h
  rcases h with rfl | rfl | rfl | rfl | rfl <;> rfl
theorem not_sign {b : UInt8} (h : cls b ≠ 0) : signB b = false := by
  cases hs : signB b with
  | false => rfl
  | true => exact absurd (sign_cls hs) h
def isSign (t : List UInt8) : Prop := ∃ b, t = [b] ∧ signB b = true
def isRun (t : List UInt8) : Prop := ∃ c, (c = 1 ∨ c = 2) ∧ t ≠ [] ∧ ∀ x ∈ t, cls x = c
def begins (ts : List (List UInt8)) : Prop := ts = [] ∨ ∃ u us, ts = u :: us ∧ isSign u
def GoodT : List (List UInt8) → Prop
  | [] => True
  | t :: ts => (isSign t ∨ (isRun t ∧ begins ts)) ∧ GoodT ts
theorem good_append : ∀ {a b : List (List UInt8)}, GoodT a → GoodT b → begins b → GoodT (a ++ b)
  | [], b, _, hb, _ => hb
  | t :: ts, b, ha, hb, hs => by
    rw [List.cons_append, GoodT]
    rw [GoodT] at ha
    refine ⟨?_, good_append ha.2 hb hs⟩
    rcases ha.1 with h | ⟨h, h2⟩
    · exact .inl h
    · refine .inr ⟨h, ?_⟩
      rcases h2 with rfl | ⟨u, us, rfl, hu⟩
      · exact hs
      · exact .inr ⟨u, us ++ b, rfl, hu⟩
theorem good_sign {b : UInt8} (h : signB b = true) {ts : List (List UInt8)} (ht : GoodT ts) : GoodT ([b] :: ts) := ⟨.inl ⟨b, rfl, h⟩, ht⟩
theorem begins_sign {b : UInt8} (h : signB b = true) (ts : List (List UInt8)) : begins ([b] :: ts) := .inr ⟨[b], ts, rfl, b, rfl, h⟩
theorem run_word {t : List UInt8} (h : t ≠ [] ∧ (t.all fun x => cls x == 1) = true) : isRun t := ⟨1, .inl rfl, h.1, fun x hx => by have := List.all_eq_true.1 h.2 x hx; simpa using this⟩
theorem run_dig : ∀ i : Nat, i < 10 → (dig2 i ≠ [] ∧ ((dig2 i).all fun x => cls x == 2) = true) := by decide +kernel
theorem isrun_dig {i : Nat} (h : i < 10) : isRun (dig2 i) := ⟨2, .inr rfl, (run_dig i h).1, fun x hx => by have := List.all_eq_true.1 (run_dig i h).2 x hx; simpa using this⟩
theorem good_word {t : List UInt8} (h : isRun t) : GoodT [t] := ⟨.inr ⟨h, .inl rfl⟩, trivial⟩
theorem good_num {w d : List UInt8} (h : isRun w) (hd : isRun d) : GoodT [w, [40], d, [41]] :=
  ⟨.inr ⟨h, begins_sign rfl _⟩, good_sign rfl ⟨.inr ⟨hd, begins_sign rfl _⟩, good_sign rfl trivial⟩⟩
theorem good_par {ts : List (List UInt8)} (h : GoodT ts) : GoodT ([40] :: (ts ++ [[41]])) := good_sign rfl (good_append h (good_sign rfl trivial) (begins_sign rfl _))
theorem then_begins (ks : List QT) : begins (thenToks ks) := by
  cases ks with
  | nil => exact .inl (by rw [thenToks])
  | cons k ks => rw [thenToks]; exact begins_sign rfl _
theorem or_begins (ks : List QT) : begins (orToks ks) := by
  cases ks with
  | nil => exact .inl (by rw [orToks])
  | cons k ks => rw [orToks]; exact begins_sign rfl _
theorem good_drop {ts : List (List UInt8)} (h : GoodT ts) : GoodT (ts.drop 1) := by
  cases ts with
  | nil => exact h
  | cons t ts => exact h.2
mutual
theorem good_toks : ∀ q : QT, allA q = true → GoodT (toksQ q)
  | .mk o n ks, h => by
    rw [allA_mk, Bool.and_eq_true] at h
    have h1 := good_star ks h.2
    have h2 := good_then ks h.2
    have h3 := good_or ks h.2
    rcases alone_more h.1 with ⟨rfl | rfl | rfl, rfl, rfl⟩ | ⟨rfl, g1, g2, rfl⟩ | ⟨rfl, g1, g2, rfl⟩ | ⟨rfl, rfl, k, rfl⟩ | ⟨rfl | rfl, _⟩
    · rw [toksQ]; exact good_word (run_word (by decide))
    · rw [toksQ]; exact good_word (run_word (by decide))
    · rw [toksQ]; exact good_word (run_word (by decide))
    · obtain ⟨i, rfl⟩ := Int.eq_ofNat_of_zero_le (show 0 ≤ n by omega)
      rw [toksQ]; exact good_num (run_word (by decide)) (isrun_dig (by omega))
    · obtain ⟨i, rfl⟩ := Int.eq_ofNat_of_zero_le (show 0 ≤ n by omega)
      rw [toksQ]; exact good_num (run_word (by decide)) (isrun_dig (by omega))
    · rw [toksQ]; exact h1
    · rw [toksQ]; exact good_drop h3
    · rw [toksQ]; exact good_drop h2
theorem good_star : ∀ ks : List QT, allL ks = true → GoodT (starToks ks)
  | [], _ => by rw [starToks]; exact good_sign rfl trivial
  | k :: ks, h => by
    rw [allL_cons, Bool.and_eq_true] at h
    have hk := good_toks k h.1
    rw [starToks]
    refine good_append ?_ (good_sign rfl trivial) (begins_sign rfl _)
    split
    · exact good_par hk
    · exact hk
theorem good_then : ∀ ks : List QT, allL ks = true → GoodT (thenToks ks)
  | [], _ => by rw [thenToks]; trivial
  | k :: ks, h => by
    rw [allL_cons, Bool.and_eq_true] at h
    have hk := good_toks k h.1
    rw [thenToks]
    refine good_sign rfl (good_append ?_ (good_then ks h.2) (then_begins ks))
    split
    · exact good_par hk
    · exact hk
theorem good_or : ∀ ks : List QT, allL ks = true → GoodT (orToks ks)
  | [], _ => by rw [orToks]; trivial
  | k :: ks, h => by
    rw [allL_cons, Bool.and_eq_true] at h
    rw [orToks]
    exact good_sign rfl (good_append (good_toks k h.1) (good_or ks h.2) (or_begins ks))
end
theorem flat_par (ts : List (List UInt8)) : ([40] :: (ts ++ [[41]])).flatten = parens ts.flatten := by simp [parens]
theorem join_drop (c : UInt8) (xs : List (List UInt8)) : Lib.join xs [c] = (Lib.joinTail [c] xs).drop 1 := by
  cases xs with
  | nil => rfl
  | cons x r => rw [Lib.join_cons]; simp [Lib.joinTail]
mutual
theorem flat_toks : ∀ q : QT, (toksQ q).flatten = textF q
  | .mk o n ks => by
    have h1 := flat_star ks
    have h2 := flat_then ks
    have h3 := flat_or ks
    have hd : ∀ ts : List (List UInt8), (∀ t us, ts = t :: us → t.length = 1) → (ts.drop 1).flatten = ts.flatten.drop 1 := by
      intro ts ht
      cases ts with
      | nil => rfl
      | cons t us =>
        have := ht t us rfl
        match t, this with
        | [a], _ => simp
    rw [textF_mk, toksQ]
    split
    · simp
    · split
      · simp
      · split
        · simp
        · split
          · simp [parens]
          · split
            · simp [parens]
            · split
              · exact h1
              · split
                · rw [hd _ (fun t us e => by cases ks with
                    | nil => rw [thenToks] at e; cases e
                    | cons k ks => rw [thenToks] at e; injection e with e1 _; rw [← e1]; rfl), h2, join_drop]
                · rw [hd _ (fun t us e => by cases ks with
                    | nil => rw [orToks] at e; cases e
                    | cons k ks => rw [orToks] at e; injection e with e1 _; rw [← e1]; rfl), h3, join_drop]
theorem flat_star : ∀ ks : List QT, (starToks ks).flatten = starText ks
  | [] => by rw [starToks, starText_nil]; rfl
  | k :: ks => by
    have hk := flat_toks k
    rw [starToks, starText_cons, List.flatten_append]
    congr 1
    split
    · rw [flat_par, hk]
    · exact hk
theorem flat_then : ∀ ks : List QT, (thenToks ks).flatten = Lib.joinTail [59] (thenTexts ks)
  | [] => by rw [thenToks, thenTexts_nil]; rfl
  | k :: ks => by
    have hk := flat_toks k
    have ih := flat_then ks
    rw [thenToks, thenTexts_cons, List.flatten_cons, List.flatten_append, ih]
    have e : Lib.joinTail [59] ((if k.op = 6 then parens (textF k) else textF k) :: thenTexts ks) = [59] ++ ((if k.op = 6 then parens (textF k) else textF k) ++ Lib.joinTail [59] (thenTexts ks)) := by simp [Lib.joinTail]
    rw [e]
    congr 2
    split
    · rw [flat_par, hk]
    · exact hk
theorem flat_or : ∀ ks : List QT, (orToks ks).flatten = Lib.joinTail [124] (orTexts ks)
  | [] => by rw [orToks, orTexts_nil]; rfl
  | k :: ks => by
    have hk := flat_toks k
    have ih := flat_or ks
    rw [orToks, orTexts_cons, List.flatten_cons, List.flatten_append, ih, hk]
    simp [Lib.joinTail]
end
theorem lx_sign {b : UInt8} (h : signB b = true) {X : List UInt8} {ts : List (List UInt8)} (hl : Lx X ts) : Lx (b :: X) ([b] :: ts) := by
  have hc := sign_cls h
  have hs : skipB (b :: X) = b :: X := skip_other (by omega)
  refine ⟨?_, by simp, ?_⟩
  · rw [tok, hs, tokLen, if_pos hc]; rfl
  · rw [hs]; exact hl
theorem run_len (c : Nat) : ∀ (t X : List UInt8), (∀ x ∈ t, cls x = c) → (X = [] ∨ ∃ b l, X = b :: l ∧ cls b ≠ c) → runLen c (t ++ X) = t.length
  | [], X, _, hX => by
    rcases hX with rfl | ⟨b, l, rfl, hb⟩
    · rfl
    · rw [List.nil_append, runLen, if_neg hb]; rfl
  | a :: t, X, ht, hX => by
    rw [List.cons_append, runLen, if_pos (ht a (by simp)), run_len c t X (fun x hx => ht x (by simp [hx])) hX]
    rfl
theorem lx_run {t X : List UInt8} {ts : List (List UInt8)} {c : Nat} (hc : c = 1 ∨ c = 2) (h0 : t ≠ []) (ht : ∀ x ∈ t, cls x = c) (hX : X = [] ∨ ∃ b l, X = b :: l ∧ cls b ≠ c) (hl : Lx X ts) : Lx (t ++ X) (t :: ts) := by
  cases t with
  | nil => exact absurd rfl h0
  | cons a t =>
    have ha := ht a (by simp)
    have hs : skipB (a :: t ++ X) = a :: (t ++ X) := skip_other (by omega)
    have hr := run_len c t X (fun x hx => ht x (by simp [hx])) hX
    refine ⟨?_, by simp, ?_⟩
    · rw [tok, hs, tokLen, if_neg (by omega), ha, hr, List.take_succ_cons]
      simp
    · rw [hs]
      simpa using hl
theorem lx_blanks {X : List UInt8} {ts : List (List UInt8)} (hl : Lx X ts) : ∀ k, Lx (List.replicate k 32 ++ X) ts
  | 0 => hl
  | k + 1 => by
    have ih := lx_blanks hl k
    have hs : skipB (32 :: (List.replicate k 32 ++ X)) = skipB (List.replicate k 32 ++ X) := skip_blank (by decide)
    rw [List.replicate_succ, List.cons_append]
    cases ts with
    | nil => rw [Lx] at ih ⊢; rw [hs, ih]
    | cons t ts => rw [Lx] at ih ⊢; rw [tok, hs]; exact ih
/-- blanks behind each sign, so many as its place says -/
def spread (n : Nat → Nat) : Nat → List UInt8 → List UInt8
  | _, [] => []
  | i, b :: l => b :: ((if signB b then List.replicate (n i) 32 else []) ++ spread n (i + 1) l)
theorem spread_run (n : Nat → Nat) : ∀ (t l : List UInt8) (i : Nat), (∀ x ∈ t, signB x = false) → spread n i (t ++ l) = t ++ spread n (i + t.length) l
  | [], l, i, _ => rfl
  | a :: t, l, i, h => by
    rw [List.cons_append, spread, h a (by simp), spread_run n t l (i + 1) (fun x hx => h x (by simp [hx]))]
    simp only [List.cons_append, List.length_cons]
    rw [show i + 1 + t.length = i + (t.length + 1) from by omega]
    simp
theorem lx_spread (n : Nat → Nat) (e : List UInt8) (es : List (List UInt8)) (he : Lx e es) (heh : e = [] ∨ ∃ b l, e = b :: l ∧ cls b ≠ 1 ∧ cls b ≠ 2) : ∀ (ts : List (List UInt8)) (i : Nat), GoodT ts → Lx (spread n i ts.flatten ++ e) (ts ++ es)
  | [], i, _ => he
  | t :: ts, i, h => by
    rw [GoodT] at h
    rcases h.1 with ⟨b, rfl, hb⟩ | ⟨⟨c, hc, h0, ht⟩, hbeg⟩
    · have ih := lx_spread n e es he heh ts (i + 1) h.2
      rw [List.flatten_cons, List.singleton_append, spread, if_pos hb, List.cons_append, List.cons_append, List.append_assoc]
      exact lx_sign hb (lx_blanks ih _)
    · have ih := lx_spread n e es he heh ts (i + t.length) h.2
      rw [List.flatten_cons, spread_run n t _ i (fun x hx => not_sign (by rw [ht x hx]; omega)), List.append_assoc, List.cons_append]
      refine lx_run hc h0 ht ?_ ih
      rcases hbeg with rfl | ⟨u, us, rfl, b, rfl, hb⟩
      · rcases heh with rfl | ⟨b, l, rfl, h1, h2⟩
        · exact .inl rfl
        · exact .inr ⟨b, l, rfl, by rcases hc with rfl | rfl <;> assumption⟩
      · refine .inr ⟨b, ((if signB b then List.replicate (n (i + t.length)) 32 else []) ++ spread n (i + t.length + 1) us.flatten) ++ e, ?_, by have := sign_cls hb; omega⟩
        rw [List.flatten_cons, List.singleton_append, spread]
        rfl
theorem spread_zero : ∀ (l : List UInt8) (i : Nat), spread (fun _ => 0) i l = l
  | [], _ => rfl
  | b :: l, i => by rw [spread, spread_zero l]; simp
theorem lx_text {q : QT} (h : allA q = true) : Lx (textF q) (toksQ q) := by
  have := lx_spread (fun _ => 0) [] [] rfl (.inl rfl) (toksQ q) 0 (good_toks q h)
  rwa [spread_zero, flat_toks, List.append_nil, List.append_nil] at this
theorem lx_len : ∀ (ts : List (List UInt8)) (r : List UInt8), Lx r ts → ts.length ≤ r.length
  | [], r, _ => Nat.zero_le _
  | t :: ts, r, h => by
    obtain ⟨h1, h2, h3⟩ := h
    have ih := lx_len ts _ h3
    have hs := skipB_len r
    have ht := tok_len r
    rw [h1] at ht
    have : 1 ≤ t.length := by cases t with
      | nil => exact absurd rfl h2
      | cons a l => simp
    rw [List.length_drop] at ih
    rw [List.length_cons]
    omega
theorem one_le_sz (q : QT) : 1 ≤ szQ q := by obtain ⟨o, n, ks⟩ := q; rw [szQ_mk]; omega
mutual
theorem toks_sz : ∀ q : QT, allA q = true → szQ q ≤ (toksQ q).length
  | .mk o n ks, h => by
    rw [allA_mk, Bool.and_eq_true] at h
    have h1 := star_sz ks h.2
    have h2 := then_sz ks h.2
    have h3 := or_sz ks h.2
    rw [szQ_mk]
    rcases alone_more h.1 with ⟨rfl | rfl | rfl, rfl, rfl⟩ | ⟨rfl, g1, g2, rfl⟩ | ⟨rfl, g1, g2, rfl⟩ | ⟨rfl, rfl, k, rfl⟩ | ⟨rfl | rfl, rfl, ⟨k0, k1, l, rfl⟩, _⟩
    · rw [toksQ, szL]; simp
    · rw [toksQ, szL]; simp
    · rw [toksQ, szL]; simp
    · rw [toksQ, szL]; simp
    · rw [toksQ, szL]; simp
    · rw [toksQ]
      have := h1 (by simp)
      simp only [] at this ⊢
      exact this
    · rw [toksQ]
      show _ ≤ ((orToks (k0 :: k1 :: l)).drop 1).length
      rw [List.length_drop]
      simp only [List.length_cons] at h3
      omega
    · rw [toksQ]
      show _ ≤ ((thenToks (k0 :: k1 :: l)).drop 1).length
      rw [List.length_drop]
      simp only [List.length_cons] at h2
      omega
theorem star_sz : ∀ ks : List QT, allL ks = true → ks.length = 1 → szL ks + 1 ≤ (starToks ks).length
  | [], _, h => by cases h
  | [k], h, _ => by
    rw [allL_cons, Bool.and_eq_true] at h
    have := toks_sz k h.1
    rw [starToks, szL_cons, szL, List.length_append]
    split
    · simp only [List.length_cons, List.length_append, List.length_nil]; omega
    · simp only [List.length_cons, List.length_nil]; omega
  | _ :: _ :: _, _, h => by simp at h
theorem then_sz : ∀ ks : List QT, allL ks = true → szL ks + ks.length ≤ (thenToks ks).length
  | [], _ => by rw [szL]; exact Nat.zero_le _
  | k :: ks, h => by
    rw [allL_cons, Bool.and_eq_true] at h
    have h1 := toks_sz k h.1
    have h2 := then_sz ks h.2
    rw [thenToks, szL_cons, List.length_cons, List.length_cons, List.length_append]
    split
    · simp only [List.length_cons, List.length_append, List.length_nil]; omega
    · omega
theorem or_sz : ∀ ks : List QT, allL ks = true → szL ks + ks.length ≤ (orToks ks).length
  | [], _ => by rw [szL]; exact Nat.zero_le _
  | k :: ks, h => by
    rw [allL_cons, Bool.and_eq_true] at h
    have h1 := toks_sz k h.1
    have h2 := or_sz ks h.2
    rw [orToks, szL_cons, List.length_cons, List.length_cons, List.length_append]
    omega
end
theorem parse_of {s : List UInt8} {q : QT} {f : Nat} (hs : s.length ≤ 200) (hc : checkF q = true) (h : ∃ st', orF (s.length + 1) ⟨s, false⟩ = (q, st') ∧ G st' []) : parseF s = (q, 0, 0) := by
  obtain ⟨st', e, hb, hl⟩ := h
  rw [parseF, if_neg (by omega), e, if_neg (by rw [hb]; decide), if_neg (by rw [show skipB st'.r = [] from hl]; simp), if_pos hc]
/-- the words of a question are parsed into it -/
theorem parse_law {s : List UInt8} {q : QT} (hs : s.length ≤ 200) (hc : checkF q = true) (h : Lx s (toksQ q)) : parseF s = (q, 0, 0) := by
  have ha := (check_all hc).1
  have h1 := lx_len _ _ h
  have h2 := toks_sz q ha
  exact parse_of (f := 0) hs hc (((pLaw (szQ q) q (Nat.le_refl _) ha s.length (by omega)).2.2) ⟨s, false⟩ [] (by simp) ⟨rfl, by rw [List.append_nil]; exact h⟩)
/-- in parentheses, too -/
theorem parse_par {s : List UInt8} {q : QT} (hs : s.length ≤ 200) (hc : checkF q = true) (h : Lx s ([40] :: (toksQ q ++ [[41]]))) : parseF s = (q, 0, 0) := by
  have ha := (check_all hc).1
  have h1 := lx_len _ _ h
  have h2 := toks_sz q ha
  simp only [List.length_cons, List.length_append, List.length_nil] at h1
  refine parse_of (f := 0) hs hc ?_
  rw [orF]
  obtain ⟨f, hf⟩ : ∃ f, f = s.length := ⟨_, rfl⟩
  have hg : G ⟨s, false⟩ (([40] :: (toksQ q ++ [[41]])) ++ []) := ⟨rfl, by rw [List.append_nil]; exact h⟩
  have hstar : ∀ st ts, (∀ b ∈ [[42]], ts.head? ≠ some b) → G st (([40] :: (toksQ q ++ [[41]])) ++ ts) → ∃ st', starF (orF s.length) st = (q, st') ∧ G st' ts := fun st ts hb hg => sr_end (paren_sr (pLaw (szQ q)) (Nat.le_refl _) ha (by omega) hg) (hb [42] (by simp))
  have hthen : ∀ st ts, (∀ b ∈ [[42], [59]], ts.head? ≠ some b) → G st (([40] :: (toksQ q ++ [[41]])) ++ ts) → ∃ st', listF [59] 7 (starF (orF s.length)) st = (q, st') ∧ G st' ts := fun st ts hb hg => by
    obtain ⟨st', e, h'⟩ := list_law (op := 7) (sign := [59]) (bad := [[42]]) (kt := fun _ => [40] :: (toksQ q ++ [[41]])) (by decide) (starlen s.length) (by decide) q [] st ts (fun x hx => by obtain rfl := List.mem_singleton.1 hx; exact hstar) (fun b hbb => hb b (by simp at hbb; simp [hbb])) (hb [59] (by simp)) hg
    exact ⟨st', e, h'⟩
  obtain ⟨st', e, h'⟩ := list_law (op := 6) (sign := [124]) (bad := [[42], [59]]) (kt := fun _ => [40] :: (toksQ q ++ [[41]])) (by decide) (fun st => listF_len _ _ _ (starlen s.length) st) (by decide) q [] ⟨s, false⟩ [] (fun x hx => by obtain rfl := List.mem_singleton.1 hx; exact hthen) (by simp) (by simp) hg
  exact ⟨st', e, h'⟩
end Go.Proofs.YthlnaejmglajeaaDoor
