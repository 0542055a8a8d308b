/- The walk of the parser's number. -/
import Derived.Test.YthlnaejmglajeaaDoorANum
namespace Go.Proofs.YthlnaejmglajeaaDoor
open Go.RowKit
set_option linter.unusedSimpArgs false
set_option linter.unusedVariables false

/-- what the library's two errors are, in a world -/
def EV (w : World) : Prop := ∃ tp p tp' p', w.cell? ⟨4, 0, none⟩ = some (.iface tp p) ∧ w.cell? ⟨5, 0, none⟩ = some (.iface tp' p')
theorem EV.only {w w' : World} {S : List Nat} (h : EV w) (ho : Only S w w') (h1 : 4 ∉ S) (h2 : 5 ∉ S) : EV w' := by
  obtain ⟨tp, p, tp', p', e1, e2⟩ := h
  exact ⟨tp, p, tp', p', (World.cell?_of_block (ho.block _ (cell_bound e1) h1)).trans e1, (World.cell?_of_block (ho.block _ (cell_bound e2) h2)).trans e2⟩
theorem EV.belowW {w w' : World} (h : EV w) (ho : Below w.heap.size w w') : EV w' := h.only (Only.of_below ho []) (by simp) (by simp)
theorem EV.lt {w : World} (h : EV w) : 4 < w.heap.size ∧ 5 < w.heap.size := by
  obtain ⟨tp, p, tp', p', e1, e2⟩ := h
  exact ⟨cell_bound e1, cell_bound e2⟩
/-- how Atoi ends -/
def AtoiT (T : List UInt8) (w : World) (e : Ending) (w' : World) : Prop :=
  Below w.heap.size w w' ∧ ((∃ v, Lib.atoiAll T = .ok v ∧ e = .returned (.tuple #[.int .i64 v, .nilIface])) ∨ ((∀ v, Lib.atoiAll T ≠ .ok v) ∧ ∃ v tp p, e = .returned (.tuple #[.int .i64 v, .iface tp p])))
theorem atoi_any (T : List UInt8) (hT : T.length ≤ 1000) (w : World) (hv : EV w) : Calls Tryd.prog 60 #[.string (bytesB T)] w (AtoiT T w) := by
  obtain ⟨tp, p, tp', p', e1, e2⟩ := hv
  have hs : (bytesB T).size ≤ 1000 := by rw [size_bytesB]; exact hT
  cases h : Lib.atoiAll T with
  | ok v =>
    refine (Any.strconv_Atoi_ok Tryd.laysC172 (bytesB T) (by omega) v h w).mono ?_
    rintro e w' ⟨rfl, hw⟩
    refine ⟨?_, .inl ⟨v, h, rfl⟩⟩
    rcases hw with rfl | ⟨t, rfl⟩
    · exact Below.refl _ _
    · exact Lib.bytesWorld_below _ _ _
  | range =>
    refine (Any.strconv_Atoi_range Tryd.laysC172 (bytesB T) (by omega) h _ w e2 (Or.inr ⟨_, _, rfl⟩)).mono ?_
    rintro e w' ⟨N, rfl, _, _, hb⟩
    exact ⟨hb, .inr ⟨(fun v hv => by rw [h] at hv; cases hv), _, _, _, rfl⟩⟩
  | _ =>
    refine (Any.strconv_Atoi_syntax Tryd.laysC172 (bytesB T) (by omega) h _ w e1 (Or.inr ⟨_, _, rfl⟩)).mono ?_
    rintro e w' ⟨N, rfl, _, _, hb⟩
    exact ⟨hb, .inr ⟨(fun v hv => by rw [h] at hv; cases hv), _, _, _, rfl⟩⟩

def NumT (g : Nat) (s : ByteArray) (r : Int × St) (w : World) (e : Ending) (w' : World) : Prop := e = .returned (.int .i64 r.1) ∧ PS w' g s r.2 ∧ Only [g] w w'
theorem numT_mk {g : Nat} {s : ByteArray} {r : Int × St} {n : Int} {st : St} {w w' : World} (hr : r = (n, st)) (h1 : PS w' g s st) (h2 : Only [g] w w') : NumT g s r w (.returned (.int .i64 n)) w' := by subst hr; exact ⟨rfl, h1, h2⟩
theorem tok_len (r : List UInt8) : (tok r).length ≤ (skipB r).length := by rw [tok, List.length_take]; exact Nat.min_le_right _ _
theorem mustS_len {t : List UInt8} (st : St) : (mustS t st).r.length ≤ st.r.length := by
  have hs : ∀ r : List UInt8, (skipB r).length ≤ r.length := by
    intro r
    induction r with
    | nil => exact Nat.le_refl _
    | cons b l ih =>
      rw [skipB]
      split
      · simp only [List.length_cons]; omega
      · exact Nat.le_refl _
  have ht : (takesS t st).r.length ≤ st.r.length := by
    rw [takesS]
    split
    · exact Nat.le_refl _
    · split
      · have := hs st.r; simp only [List.length_drop]; omega
      · exact hs st.r
  rw [mustS]
  split
  · exact ht
  · exact Nat.le_trans (hs _) ht

set_option maxHeartbeats 2000000 in
theorem number_any (w : World) (g : Nat) (s : ByteArray) (st : St) (hp : PS w g s st) (hs : s.size ≤ 200) (hv : EV w) (hg1 : 4 ≠ g) (hg2 : 5 ≠ g) :
    Calls Tryd.prog 53 #[.pointer (some ⟨g, 0, none⟩)] w (NumT g s (numF st) w) := by
  have HM := hide (must_any [40] (by simp) (by decide) w g s st hp hs)
  have hnf : numF st = if (mustS [40] st).bad then (0, mustS [40] st)
    else match numOk (tok (mustS [40] st).r) with
      | some n => ((n : Int), mustS [41] ⟨(skipB (mustS [40] st).r).drop (tok (mustS [40] st).r).length, false⟩)
      | none => (0, ⟨skipB (mustS [40] st).r, true⟩) := rfl
  obtain ⟨st1, hst⟩ : ∃ st1, mustS [40] st = st1 := ⟨_, rfl⟩
  rw [hst] at HM hnf
  obtain ⟨r1, bad⟩ := st1
  have HV := hide (fun (w1 : World) (h : Only [g] w w1) => hv.only h (by simpa using hg1) (by simpa using hg2))
  cases bad with
  | true =>
    have HNF := Lib.hid (hnf.trans (if_pos rfl))
    clear hp hst hnf
    go_enter Tryd.func53, Tryd.ntmps53
    go_wp2_with fail
    refine (unhid_ HM).mono ?_
    rintro e w1 ⟨rfl, hp1, ho1⟩
    have hp1' := hp1
    obtain ⟨k, hk, hd, hb⟩ := hp1'
    have c2 := hb.cell 2
    simp only [List.getElem?_toArray, List.getElem?_cons_zero, List.getElem?_cons_succ] at c2
    have HP1 := hide hp1
    have HO1 := hide ho1
    clear hp1 ho1 hb hk hd HM
    go_wp2
    go_ret
    exact numT_mk HNF.out (unhid_ HP1) (unhid_ HO1)
  | false =>
    have hnf2 : numF st = match numOk (tok r1) with
      | some n => ((n : Int), mustS [41] ⟨(skipB r1).drop (tok r1).length, false⟩)
      | none => (0, ⟨skipB r1, true⟩) := hnf
    have HNF := Lib.hid hnf2
    have HL := hide (fun (w1 : World) (h : PS w1 g s ⟨r1, false⟩) => look_any w1 g s ⟨r1, false⟩ h hs)
    have HMU := hide (fun (w1 : World) (h : PS w1 g s ⟨(skipB r1).drop (tok r1).length, false⟩) => must_any [41] (by simp) (by decide) w1 g s ⟨(skipB r1).drop (tok r1).length, false⟩ h hs)
    clear hp hst hnf hnf2
    go_enter Tryd.func53, Tryd.ntmps53
    go_wp2_with fail
    refine (unhid_ HM).mono ?_
    rintro e w1 ⟨rfl, hp1, ho1⟩
    have hp1' := hp1
    obtain ⟨k, hk, hd, hb⟩ := hp1'
    have c2 := hb.cell 2
    simp only [List.getElem?_toArray, List.getElem?_cons_zero, List.getElem?_cons_succ] at c2
    have HP1 := hide hp1
    have HO1 := hide ho1
    clear hp1 ho1 hb hk hd HM
    go_wp2_with fail
    refine ((unhid_ HL) w1 (unhid_ HP1)).mono ?_
    rintro e w2 ⟨rfl, hp2, ho2⟩
    have HO2 := hide ((unhid_ HO1).trans ho2)
    obtain ⟨k, hk, hd, hb⟩ := hp2
    have hk : k + (skipB r1).length = s.size := hk
    have hd : s.data.toList.drop k = skipB r1 := hd
    have htl : (tok r1).length ≤ 200 := by have := tok_len r1; omega
    have HAT := hide (atoi_any (tok r1) (by omega) w2 ((unhid_ HV) w2 (unhid_ HO2)))
    have hks : k ≤ 200 := by omega
    have htk : (tok r1).length ≤ (skipB r1).length := tok_len r1
    have hsz : (bytesB (tok r1)).size = (tok r1).length := size_bytesB _
    obtain ⟨T, hT⟩ : ∃ T, T = bytesB (tok r1) := ⟨_, rfl⟩
    rw [← hT] at HAT hsz ⊢
    have hszI : T.size ≤ 200 := by omega
    have HT := Lib.hid hT
    have HSZ := Lib.hid hsz
    have HBK := hide hb
    have HKK := Lib.hid hk
    have HDD := Lib.hid hd
    clear hb hk hd ho2 c2 HO1 HP1 hT hsz HL
    go_wp2_with fail
    refine (unhid_ HAT).mono ?_
    rintro e w3 ⟨hb3, hor⟩
    have HO3 := hide ((unhid_ HO2).trans (Only.of_below hb3 [g]))
    have hbk3 := (unhid_ HBK).below hb3 (unhid_ HBK).lt
    have c1 := hbk3.cell 1
    have f1 := hbk3.frozen 1
    have f2 := hbk3.frozen 2
    have c2 := hbk3.cell 2
    simp only [List.getElem?_toArray, List.getElem?_cons_zero, List.getElem?_cons_succ] at c1 c2
    have HBK3 := hide hbk3
    clear hb3 hbk3 HAT HBK HO2
    rcases hor with ⟨v, hok, rfl⟩ | ⟨hno, v, tp, p, rfl⟩
    · by_cases hl : 2 < (tok r1).length
      · have hlI : (2 : Int) < (T.size : Int) := by have := HSZ.out; omega
        have hnf := HNF.out
        rw [numOk_long hl] at hnf
        have HN := Lib.hid hnf
        clear hok hl hnf
        go_wp2
        go_ret
        exact numT_mk HN.out ⟨k, HKK.out, HDD.out, (unhid_ HBK3).set_ 2 _⟩ ((unhid_ HO3).setCell (.inl (by simp)) _)
      · have hlI : (T.size : Int) ≤ 2 := by have := HSZ.out; omega
        obtain ⟨i, rfl, hi, hnum⟩ := num_ok hok (by omega)
        have HI := hide (Tryd.strconv_Itoa_small i hi)
        have e1 : ((⟨(Lib.decDigits i).toArray⟩ : ByteArray).toList == T.toList) = (Lib.decDigits i == tok r1) := by
          rw [HT.out, toList_bytesB]
          rw [show (⟨(Lib.decDigits i).toArray⟩ : ByteArray) = bytesB (Lib.decDigits i) from rfl, toList_bytesB]
        obtain ⟨b, hb⟩ : ∃ b, (Lib.decDigits i == tok r1) = b := ⟨_, rfl⟩
        rw [hb] at e1 hnum
        have hnf := HNF.out
        rw [hnum] at hnf
        obtain ⟨D, hD⟩ : ∃ D, D = (⟨(Lib.decDigits i).toArray⟩ : ByteArray) := ⟨_, rfl⟩
        rw [← hD] at HI e1
        have HN := Lib.hid hnf
        clear hok hl hnf hnum hb hD
        cases b with
        | false =>
          go_wp2_with fail
          refine ((unhid_ HI) _).mono ?_
          rintro e w' ⟨rfl, rfl⟩
          go_wp2
          go_ret
          exact numT_mk HN.out ⟨k, HKK.out, HDD.out, (unhid_ HBK3).set_ 2 _⟩ ((unhid_ HO3).setCell (.inl (by simp)) _)
        | true =>
          go_wp2_with fail
          refine ((unhid_ HI) _).mono ?_
          rintro e w' ⟨rfl, rfl⟩
          go_wp2_with fail
          have hbk4 := (unhid_ HBK3).set_ 1 (.int .i64 ((k : Int) + (T.size : Int)))
          have hps4 : PS (w'.setCell ⟨g, 1, none⟩ (.int .i64 ((k : Int) + (T.size : Int)))) g s ⟨(skipB r1).drop (tok r1).length, false⟩ := by
            refine ⟨k + (tok r1).length, ?_, ?_, ?_⟩
            · show k + (tok r1).length + ((skipB r1).drop (tok r1).length).length = s.size
              rw [List.length_drop, ← HKK.out]
              omega
            · show s.data.toList.drop (k + (tok r1).length) = (skipB r1).drop (tok r1).length
              rw [← HDD.out, List.drop_drop]
            · rw [show ((k : Int) + (T.size : Int)) = ((k + (tok r1).length : Nat) : Int) from by have := HSZ.out; omega] at hbk4 ⊢
              exact hbk4
          have HO4 := hide ((unhid_ HO3).setCell (p := ⟨g, 1, none⟩) (.inl (by simp)) (.int .i64 ((k : Int) + (T.size : Int))))
          refine ((unhid_ HMU) _ hps4).mono ?_
          rintro e w5 ⟨rfl, hp5, ho5⟩
          have HP5 := hide hp5
          have HO5 := hide ((unhid_ HO4).trans ho5)
          clear hp5 ho5 hbk4 hps4 c1 c2 f1 f2
          go_wp2
          go_ret
          exact numT_mk HN.out (unhid_ HP5) (unhid_ HO5)
    · have hnf := HNF.out
      rw [num_no hno] at hnf
      have HN := Lib.hid hnf
      clear hno hnf
      go_wp2
      go_ret
      exact numT_mk HN.out ⟨k, HKK.out, HDD.out, (unhid_ HBK3).set_ 2 _⟩ ((unhid_ HO3).setCell (.inl (by simp)) _)
end Go.Proofs.YthlnaejmglajeaaDoor
