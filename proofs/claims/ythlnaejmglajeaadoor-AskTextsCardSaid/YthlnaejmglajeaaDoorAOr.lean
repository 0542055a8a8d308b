/- The walks of the parser's then, or. -/
import Derived.Test.YthlnaejmglajeaaDoorAList
namespace Go.Proofs.YthlnaejmglajeaaDoor
open Go.RowKit
set_option linter.unusedSimpArgs false
set_option linter.unusedVariables false

theorem mustS_ok {t : List UInt8} {st : St} (h : (mustS t st).bad = false) : (mustS t st).r.length + t.length ≤ st.r.length := by
  have h' := h
  rw [mustS] at h' ⊢
  cases hb : takesB t st with
  | true => rw [if_pos rfl]; exact takes_len hb
  | false => rw [hb, if_neg (by decide)] at h'; cases h'
theorem numF_len (st : St) : (numF st).2.r.length ≤ st.r.length := by
  have h1 := mustS_len (t := [40]) st
  have h2 := skipB_len (mustS [40] st).r
  rw [numF]
  split
  · exact h1
  · split
    · have h3 := mustS_len (t := [41]) ⟨(skipB (mustS [40] st).r).drop (tok (mustS [40] st).r).length, false⟩
      simp only [List.length_drop] at h3 ⊢
      omega
    · simp only []
      omega
theorem oneF_len (or : St → QT × St) (hor : ∀ st, (or st).2.r.length ≤ st.r.length) (st : St) : (oneF or st).2.r.length ≤ st.r.length := by
  have t1 := takesS_len wUp st
  have t2 := takesS_len wDown (takesS wUp st)
  have t3 := takesS_len wLive (takesS wDown (takesS wUp st))
  have t4 := takesS_len wKind (takesS wLive (takesS wDown (takesS wUp st)))
  have t5 := takesS_len wLabel (takesS wKind (takesS wLive (takesS wDown (takesS wUp st))))
  have n4 := numF_len (takesS wKind (takesS wLive (takesS wDown (takesS wUp st))))
  have n5 := numF_len (takesS wLabel (takesS wKind (takesS wLive (takesS wDown (takesS wUp st)))))
  rw [oneF]
  split
  · exact t1
  · rw [oneD]
    split
    · simp only []; omega
    · rw [oneV]
      split
      · simp only []; omega
      · rw [oneK]
        split
        · simp only []; omega
        · rw [oneL]
          split
          · simp only []; omega
          · obtain ⟨s5, hs5⟩ : ∃ x, x = takesS wLabel (takesS wKind (takesS wLive (takesS wDown (takesS wUp st)))) := ⟨_, rfl⟩
            rw [← hs5] at t5 ⊢
            have m1 := mustS_len (t := [40]) s5
            rw [oneP]
            split
            · simp only []; omega
            · have m2 := hor (mustS [40] s5)
              have m3 := mustS_len (t := [41]) (or (mustS [40] s5)).2
              simp only []
              omega
theorem starLoop_len : ∀ (f : Nat) (q : QT) (st : St), (starLoop f q st).2.r.length ≤ st.r.length
  | 0, _, _ => Nat.le_refl _
  | f + 1, q, st => by
    have h := takesS_len [42] st
    rw [starLoop]
    split
    · exact Nat.le_trans (starLoop_len f _ _) h
    · exact h
theorem starF_len (or : St → QT × St) (hor : ∀ st, (or st).2.r.length ≤ st.r.length) (st : St) : (starF or st).2.r.length ≤ st.r.length := Nat.le_trans (starLoop_len _ _ _) (oneF_len or hor st)
theorem listLoop_len (sign : List UInt8) (part : St → QT × St) (hp : ∀ st, (part st).2.r.length ≤ st.r.length) : ∀ (f : Nat) (l : List QT) (st : St), (listLoop sign part f l st).2.r.length ≤ st.r.length
  | 0, _, _ => Nat.le_refl _
  | f + 1, l, st => by
    have h := takesS_len sign st
    rw [listLoop]
    split
    · have := hp (takesS sign st)
      have := listLoop_len sign part hp f (l ++ [(part (takesS sign st)).1]) (part (takesS sign st)).2
      omega
    · exact h
theorem listF_len (sign : List UInt8) (op : Int) (part : St → QT × St) (hp : ∀ st, (part st).2.r.length ≤ st.r.length) (st : St) : (listF sign op part st).2.r.length ≤ st.r.length := by
  rw [listF]
  exact Nat.le_trans (listLoop_len sign part hp _ _ _) (hp st)
theorem orF_len : ∀ (f : Nat) (st : St), (orF f st).2.r.length ≤ st.r.length
  | 0, _ => Nat.le_refl _
  | f + 1, st => by
    rw [orF]
    exact listF_len _ _ _ (fun st => listF_len _ _ _ (fun st => starF_len _ (orF_len f) st) st) st

theorem qres_wrap {g : Nat} {s : ByteArray} {r : QT × St} {w w1 : World} {A : Option Addr} {c : Nat} (hgw : g < w.heap.size)
    (hrp : RP w1 (newB (w.alloc (.cells #[.int .i64 0, .int .i64 0, .slice none 0 0] stepT))) r.1 A c) (hp : PS w1 g s r.2) (ho : Only [g] (w.alloc (.cells #[.int .i64 0, .int .i64 0, .slice none 0 0] stepT)) w1) :
    QRes g s r w (.returned (.agg #[.int .i64 r.1.op, .int .i64 r.1.n, .slice A r.1.kids.length c])) (((w1.setCell ⟨w.heap.size, 0, none⟩ (.int .i64 r.1.op)).setCell ⟨w.heap.size, 1, none⟩ (.int .i64 r.1.n)).setCell ⟨w.heap.size, 2, none⟩ (.slice A r.1.kids.length c)) := by
  have hon := only3 w1 w.heap.size (.int .i64 r.1.op) (.int .i64 r.1.n) (.slice A r.1.kids.length c)
  refine ⟨A, c, rfl, hrp.keep fun b hb hlt => ?_, hp.only hon (by simp; omega), only_box ho hon rfl⟩
  have hb' : w.heap.size + 1 ≤ b := by
    have : (w.alloc (.cells #[.int .i64 0, .int .i64 0, .slice none 0 0] stepT)).heap.size ≤ b := hb
    simpa using this
  refine ⟨hon.block b hlt (by simp; omega), ?_⟩
  show w.heap.size ≤ b
  omega

set_option maxHeartbeats 2000000 in
theorem then_any (or : St → QT × St) (hor : ∀ st, (or st).2.r.length ≤ st.r.length) (w : World) (g : Nat) (s : ByteArray) (st : St) (hp : PS w g s st) (hs : s.size ≤ 200)
    (hstar : ∀ w1 st1, PS w1 g s st1 → Only [g] w w1 → st1.r.length ≤ st.r.length → Calls Tryd.prog 40 #[.pointer (some ⟨g, 0, none⟩)] w1 (QRes g s (starF or st1) w1)) :
    Calls Tryd.prog 30 #[.pointer (some ⟨g, 0, none⟩)] w (QRes g s (listF [59] 7 (starF or) st) w) := by
  have hp0 := hp.belowW ((Below.refl _ _).alloc (Nat.le_refl _) (.cells #[.int .i64 0, .int .i64 0, .slice none 0 0] stepT))
  have ho0 := ((Only.refl [g] w).alloc (.cells #[.int .i64 0, .int .i64 0, .slice none 0 0] stepT))
  have HL := hide (list_star (starF or) [59] (by simp) (by decide) 7 _ g s st hp0 hs (starF_len or hor) (fun w1 st1 h1 h2 h3 => hstar w1 st1 h1 (ho0.trans h2) h3))
  have hgw := ps_lt hp
  obtain ⟨R, hR⟩ : ∃ R, R = listF [59] 7 (starF or) st := ⟨_, rfl⟩
  rw [← hR] at HL ⊢
  clear hp hp0 ho0 hstar hR
  go_enter Tryd.func30, Tryd.ntmps30
  go_wp2_with fail
  refine (unhid_ HL).mono ?_
  rintro e w1 ⟨A, c, rfl, hrp, hp1, ho1⟩
  have hz := ho1.blk (zbox w) (by simp; omega)
  obtain ⟨c0, c1, c2⟩ := box_facts hz
  have f0 := hz.frozen 0
  have f1 := hz.frozen 1
  have f2 := hz.frozen 2
  have HZ := hide hz
  have HQ := hide (qres_wrap hgw hrp hp1 ho1)
  clear hz hrp hp1 ho1 HL
  go_wp2_with fail
  exact bodyPost_ret (v := .agg #[.int .i64 R.1.op, .int .i64 R.1.n, .slice A R.1.kids.length c]) (results_cell Tryd.results30 rfl (load3 (set3 (unhid_ HZ)))) rfl (unhid_ HQ)

set_option maxHeartbeats 2000000 in
theorem or_any (g : Nat) (s : ByteArray) (hs : s.size ≤ 200) (hg1 : 4 ≠ g) (hg2 : 5 ≠ g) : ∀ (f : Nat) (w : World) (st : St), PS w g s st → EV w → st.r.length < f →
    Calls Tryd.prog 22 #[.pointer (some ⟨g, 0, none⟩)] w (QRes g s (orF f st) w) := by
  intro f
  induction f with
  | zero => intro w st _ _ h; omega
  | succ f ih =>
    intro w st hp hv hf
    have hkeep : ∀ w1, Only [g] w w1 → EV w1 := fun w1 h => hv.only h (by simpa using hg1) (by simpa using hg2)
    have hone : ∀ w1 st1, PS w1 g s st1 → Only [g] w w1 → st1.r.length ≤ st.r.length → Calls Tryd.prog 46 #[.pointer (some ⟨g, 0, none⟩)] w1 (QRes g s (oneF (orF f) st1) w1) := by
      intro w1 st1 h1 h2 h3
      refine one_any (orF f) w1 g s st1 h1 hs (hkeep w1 h2) hg1 hg2 fun hb w2 h4 h5 => ih w2 _ h4 h5 ?_
      have t1 := takesS_len wUp st1
      have t2 := takesS_len wDown (takesS wUp st1)
      have t3 := takesS_len wLive (takesS wDown (takesS wUp st1))
      have t4 := takesS_len wKind (takesS wLive (takesS wDown (takesS wUp st1)))
      have t5 := takesS_len wLabel (takesS wKind (takesS wLive (takesS wDown (takesS wUp st1))))
      have t6 := mustS_ok hb
      have e1 : ([40] : List UInt8).length = 1 := rfl
      omega
    have hstar : ∀ w1 st1, PS w1 g s st1 → Only [g] w w1 → st1.r.length ≤ st.r.length → Calls Tryd.prog 40 #[.pointer (some ⟨g, 0, none⟩)] w1 (QRes g s (starF (orF f) st1) w1) :=
      fun w1 st1 h1 h2 h3 => star_any (orF f) w1 g s st1 h1 hs fun w2 h4 h5 => hone w2 st1 h4 (h2.trans h5) h3
    have hthen : ∀ w1 st1, PS w1 g s st1 → Only [g] w w1 → st1.r.length ≤ st.r.length → Calls Tryd.prog 30 #[.pointer (some ⟨g, 0, none⟩)] w1 (QRes g s (listF [59] 7 (starF (orF f)) st1) w1) :=
      fun w1 st1 h1 h2 h3 => then_any (orF f) (orF_len f) w1 g s st1 h1 hs fun w2 st2 h4 h5 h6 => hstar w2 st2 h4 (h2.trans h5) (Nat.le_trans h6 h3)
    have hp0 := hp.belowW ((Below.refl _ _).alloc (Nat.le_refl _) (.cells #[.int .i64 0, .int .i64 0, .slice none 0 0] stepT))
    have ho0 := ((Only.refl [g] w).alloc (.cells #[.int .i64 0, .int .i64 0, .slice none 0 0] stepT))
    have HL := hide (list_then (listF [59] 7 (starF (orF f))) [124] (by simp) (by decide) 6 _ g s st hp0 hs (fun st => listF_len _ _ _ (starF_len _ (orF_len f)) st) (fun w1 st1 h1 h2 h3 => hthen w1 st1 h1 (ho0.trans h2) h3))
    have hgw := ps_lt hp
    have hrw : orF (f + 1) st = listF [124] 6 (listF [59] 7 (starF (orF f))) st := by rw [orF]
    rw [← hrw] at HL
    obtain ⟨R, hR⟩ : ∃ R, R = orF (f + 1) st := ⟨_, rfl⟩
    rw [← hR] at HL ⊢
    clear hp hp0 ho0 hstar hthen hone hkeep ih hrw hR hv
    go_enter Tryd.func22, Tryd.ntmps22
    go_wp2_with fail
    refine (unhid_ HL).mono ?_
    rintro e w1 ⟨A, c, rfl, hrp, hp1, ho1⟩
    have hz := ho1.blk (zbox w) (by simp; omega)
    obtain ⟨c0, c1, c2⟩ := box_facts hz
    have f0 := hz.frozen 0
    have f1 := hz.frozen 1
    have f2 := hz.frozen 2
    have HZ := hide hz
    have HQ := hide (qres_wrap hgw hrp hp1 ho1)
    clear hz hrp hp1 ho1 HL
    go_wp2_with fail
    exact bodyPost_ret (v := .agg #[.int .i64 R.1.op, .int .i64 R.1.n, .slice A R.1.kids.length c]) (results_cell Tryd.results22 rfl (load3 (set3 (unhid_ HZ)))) rfl (unhid_ HQ)
end Go.Proofs.YthlnaejmglajeaaDoor
