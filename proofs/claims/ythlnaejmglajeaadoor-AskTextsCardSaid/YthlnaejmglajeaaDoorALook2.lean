/- The walk of the parser's look. -/
import Derived.Test.YthlnaejmglajeaaDoorALook
import Derived.Deep.QuietTactic
namespace Go.Proofs.YthlnaejmglajeaaDoor
open Go.RowKit
set_option linter.unusedSimpArgs false
set_option linter.unusedVariables false

def atOf (g : Nat) (w : World) : Nat := (intOf ((w.cell? ⟨g, 1, none⟩).getD undef)).toNat
/-- what look answers -/
def LookT (g : Nat) (s : ByteArray) (st : St) (w : World) (e : Ending) (w' : World) : Prop := e = .returned (.string (bytesB (tok st.r))) ∧ PS w' g s ⟨skipB st.r, st.bad⟩ ∧ Only [g] w w'
theorem lookT_mk {g : Nat} {s : ByteArray} {st : St} {w w' : World} {x : ByteArray} (h : x = bytesB (tok st.r)) (h1 : PS w' g s ⟨skipB st.r, st.bad⟩) (h2 : Only [g] w w') : LookT g s st w (.returned (.string x)) w' := by subst h; exact ⟨rfl, h1, h2⟩
theorem skip_blank {b : UInt8} {l : List UInt8} (h : cls b = 3) : skipB (b :: l) = skipB l := by rw [skipB, if_pos h]
theorem skip_other {b : UInt8} {l : List UInt8} (h : ¬ cls b = 3) : skipB (b :: l) = b :: l := by rw [skipB, if_neg h]
theorem drop_cons {s : ByteArray} {k : Nat} (hk : k < s.size) : s.data.toList.drop k = s[k] :: s.data.toList.drop (k + 1) := by
  rw [List.drop_eq_getElem_cons (by rw [sizeB]; exact hk)]
  rfl
theorem drop_none {s : ByteArray} {k : Nat} (hk : s.size ≤ k) : s.data.toList.drop k = [] := List.drop_of_length_le (by rw [sizeB]; exact hk)
theorem extract_tok (s : ByteArray) (k j : Nat) : s.extract k j = bytesB ((s.data.toList.drop k).take (j - k)) := by
  rw [← bytesB_data (s.extract k j), Lib.extract_data]
theorem atOf_blk {w : World} {g k : Nat} {t : TypeId} {a c : Value} (h : Blk w g t #[a, .int .i64 (k : Int), c]) : atOf g w = k := by
  rw [atOf, h.cell 1]
  simp [intOf]
theorem cls_lt (b : UInt8) : cls b ≤ 3 := by unfold cls; split <;> (try split) <;> (try split) <;> omega

set_option maxRecDepth 100000 in
set_option maxHeartbeats 600000 in
theorem look_any (w : World) (g : Nat) (s : ByteArray) (st : St) (hp : PS w g s st) (hs : s.size ≤ 200) :
    Calls Tryd.prog 23 #[.pointer (some ⟨g, 0, none⟩)] w (LookT g s st w) := by
  obtain ⟨r, bad⟩ := st
  have HP := hide hp
  have HCLS := hide (fun (j : Nat) (h : j < s.size) (W : World) => class_any s[j] W)
  clear hp
  go_enter Tryd.func23, Tryd.ntmps23
  go_wp2
  refine wp_scope_jumps 0 (fun a' w' => ∃ (u5 u6 u7 u8 u9 u10 u11 u12 u13 u14 u15 u16 u17 u18 u19 u20 u21 u22 u23 u24 u25 u26 u27 u28 u29 u30 u31 u32 u33 u34 : Value) (r' : List UInt8), a' = { tmps := #[.pointer (some ⟨g, 0, none⟩), undef, .string ByteArray.empty, .int .i64 0, undef, u5, u6, u7, u8, u9, u10, u11, u12, u13, u14, u15, u16, u17, u18, u19, u20, u21, u22, u23, u24, u25, u26, u27, u28, u29, u30, u31, u32, u33, u34, undef, undef, undef, undef, undef, undef, undef, undef, undef, undef, undef, undef, undef, undef, undef, undef, undef, undef, undef, undef, undef, undef, undef, undef, undef, undef, undef, undef, undef, undef, undef, undef, undef, undef, undef, undef, undef, undef, undef, undef, undef, undef, undef, undef, undef, undef, undef, undef, undef, undef, undef, undef, undef, undef, undef, undef, undef], defers := [] } ∧ skipB r' = skipB r ∧ PS w' g s ⟨r', bad⟩ ∧ Only [g] w w') (fun _ w' => s.size - atOf g w') rfl ?_ ?_
  · obtain ⟨k, hk, hd, hb⟩ := unhid_ HP
    obtain ⟨r1, hr1⟩ : ∃ r1, r1 = r := ⟨_, rfl⟩
    have HSK := Lib.hid (show skipB r1 = skipB r by rw [hr1])
    have hk : k + r.length = s.size := hk
    have hd : s.data.toList.drop k = r := hd
    rw [← hr1] at hk hd
    clear hr1
    have HB := hide hb
    have HO := hide (Only.refl [g] w)
    have c0 := hb.cell 0
    have c1 := hb.cell 1
    have f1 := hb.frozen 1
    simp only [List.getElem?_toArray, List.getElem?_cons_zero, List.getElem?_cons_succ] at c0 c1
    clear hb
    go_wp2
    go_step3
    have hk2 : k ≤ s.size := by omega
    have hkI : (k : Int) ≤ s.size := by omega
    by_cases hlt : k < s.size
    · have hltI : (k : Int) < s.size := by omega
      have hdc := drop_cons hlt
      rw [hd] at hdc
      have HCL := hide ((unhid_ HCLS) k hlt)
      have HR := Lib.hid hdc
      obtain ⟨m, hm⟩ : ∃ m, m = cls s[k] := ⟨_, rfl⟩
      have hm3 := cls_lt s[k]
      rw [← hm] at HCL hm3
      have hl1 : k + 1 + (s.data.toList.drop (k + 1)).length = s.size := by rw [List.length_drop, sizeB]; omega
      have HL1 := Lib.hid hl1
      have HD := Lib.hid hd
      have HMC := Lib.hid hm
      by_cases h3 : m = 3
      · have e3 : ((m : Int) == 3) = true := by simp [h3]
        have HSK2 := Lib.hid (show skipB r1 = skipB (s.data.toList.drop (k + 1)) by rw [hdc, skip_blank (by rw [← hm]; exact h3)])
        clear hdc hm h3 hd hk hl1
        go_wp2_with fail
        go_quiet ((go_at_call 31; exact Calls.quiet_of_same ((unhid_ HCL) _)))
        go_wp2
        go_step3
        have hbj : Blk ((w.drewN nq).setCell ⟨g, 1, none⟩ (.int .i64 ((k + 1 : Nat) : Int))) g 47 #[.string s, .int .i64 ((k + 1 : Nat) : Int), .bool bad] := ((unhid_ HB).drewN nq).set_ 1 _
        have hoj : Only [g] w ((w.drewN nq).setCell ⟨g, 1, none⟩ (.int .i64 ((k + 1 : Nat) : Int))) := ((unhid_ HO).drewN nq).setCell (.inl (by simp)) _
        rw [show ((k : Int) + 1) = ((k + 1 : Nat) : Int) from by omega]
        exact ⟨rfl, _, _, _, _, _, _, _, _, _, _, _, _, _, _, _, _, _, _, _, _, _, _, _, _, _, _, _, _, _, _, s.data.toList.drop (k + 1), rfl, by rw [← HSK2.out, HSK.out], ⟨k + 1, HL1.out, rfl, hbj⟩, hoj⟩
      · have e3 : ((m : Int) == 3) = false := by rw [beq_eq_false_iff_ne]; omega
        have HSK2 := Lib.hid (show skipB r = r1 by rw [← HSK.out, hdc, skip_other (by rw [← hm]; exact h3)])
        have e4 : ((k : Int) == (s.size : Int)) = false := by rw [beq_eq_false_iff_ne]; omega
        have htl : tokLen r1 = if m = 0 then 1 else runLen m (s.data.toList.drop (k + 1)) + 1 := by rw [hdc, tokLen, ← hm]
        have HTL := Lib.hid htl
        have HKL := Lib.hid hk
        clear hdc h3 hd hk hl1 htl
        rw [hm] at HCL
        go_wp2_with fail
        go_quiet ((go_at_call 31; exact Calls.quiet_of_same ((unhid_ HCL) _)))
        obtain ⟨wa, hwa⟩ : ∃ wa, wa = w.drewN nq := ⟨_, rfl⟩
        have hbwa : Blk wa g 47 #[.string s, .int .i64 k, .bool bad] := by rw [hwa]; exact (unhid_ HB).drewN nq
        have HOwa := hide (show Only [g] w wa by rw [hwa]; exact (unhid_ HO).drewN nq)
        rw [← hwa]
        clear hwa HB HO c0 c1 f1
        have HB := hide hbwa
        have HO := HOwa
        have c0 := hbwa.cell 0
        have c1 := hbwa.cell 1
        have f1 := hbwa.frozen 1
        simp only [List.getElem?_toArray, List.getElem?_cons_zero, List.getElem?_cons_succ] at c0 c1
        clear hbwa HOwa
        rw [← hm, e3]
        go_wp2_with fail
        go_quiet (fail)
        obtain ⟨wb, hwb⟩ : ∃ wb, wb = wa.drewN nq := ⟨_, rfl⟩
        have hbwb : Blk wb g 47 #[.string s, .int .i64 k, .bool bad] := by rw [hwb]; exact (unhid_ HB).drewN nq
        have HOwb := hide (show Only [g] w wb by rw [hwb]; exact (unhid_ HO).drewN nq)
        rw [← hwb]
        clear hwb HB HO c0 c1 f1
        have HB := hide hbwb
        have HO := HOwb
        have c0 := hbwb.cell 0
        have c1 := hbwb.cell 1
        have f1 := hbwb.frozen 1
        simp only [List.getElem?_toArray, List.getElem?_cons_zero, List.getElem?_cons_succ] at c0 c1
        clear hbwb HOwb
        go_wp2_with fail
        go_quiet ((go_at_call 31; exact Calls.quiet_of_same ((unhid_ HCL) _)))
        obtain ⟨wc, hwc⟩ : ∃ wc, wc = wb.drewN nq := ⟨_, rfl⟩
        have hbwc : Blk wc g 47 #[.string s, .int .i64 k, .bool bad] := by rw [hwc]; exact (unhid_ HB).drewN nq
        have HOwc := hide (show Only [g] w wc by rw [hwc]; exact (unhid_ HO).drewN nq)
        rw [← hwc]
        clear hwc HB HO c0 c1 f1
        have HB := hide hbwc
        have HO := HOwc
        have c0 := hbwc.cell 0
        have c1 := hbwc.cell 1
        have f1 := hbwc.frozen 1
        simp only [List.getElem?_toArray, List.getElem?_cons_zero, List.getElem?_cons_succ] at c0 c1
        clear hbwc HOwc
        rw [← hm]
        clear hm
        have HPS := hide (show PS wc g s ⟨skipB r, bad⟩ from ⟨k, by rw [HSK2.out]; exact HKL.out, by rw [HSK2.out]; exact HD.out, unhid_ HB⟩)
        by_cases h0 : m = 0
        · have e0 : ((m : Int) != 0) = false := by simp [h0]
          have HT := Lib.hid (show s.extract k (k + 1) = bytesB (tok r) by rw [extract_tok, HD.out, tok, HSK2.out, HTL.out, if_pos h0, Nat.add_sub_cancel_left])
          clear h0
          go_wp2_with fail
          go_quiet (fail)
          go_wp2
          simp only [Exit.jump]
          go_ret
          exact lookT_mk HT.out ((unhid_ HPS).only ((Only.refl [] _).drewN nq) (by simp)) ((unhid_ HO).drewN nq)
        · have e0 : ((m : Int) != 0) = true := by rw [bne_iff_ne]; omega
          have HTL2 := Lib.hid (HTL.out.trans (if_neg h0))
          clear h0
          go_wp2_with fail
          clear e0 e3 e4
          go_loop [3] (fun e => ∃ j : Nat, k + 1 ≤ j ∧ j ≤ s.size ∧ e = .int .i64 j ∧ runLen m (s.data.toList.drop (k + 1)) = (j - (k + 1)) + runLen m (s.data.toList.drop j)) (fun e => s.size - (intOf e).toNat)
          case atStart => exact ⟨k + 1, Nat.le_refl _, hlt, by go_num, by omega⟩
          case round =>
            obtain ⟨j, hj1, hj2, rfl, hrun⟩ := hrel
            have HRUN := Lib.hid hrun
            by_cases hjl : j < s.size
            · have hjI : (j : Int) < s.size := by omega
              have hdj := drop_cons hjl
              have HCJ := hide ((unhid_ HCLS) j hjl)
              obtain ⟨x, hx⟩ : ∃ x, x = cls s[j] := ⟨_, rfl⟩
              rw [← hx] at HCJ
              have HX := Lib.hid hx
              have HDJ := Lib.hid hdj
              clear hrun hdj hx
              by_cases hxm : x = m
              · have exm : ((x : Int) == (m : Int)) = true := by simp [hxm]
                have HR2 := Lib.hid (show runLen m (s.data.toList.drop (k + 1)) = (j + 1 - (k + 1)) + runLen m (s.data.toList.drop (j + 1)) by
                  rw [HRUN.out, HDJ.out, runLen, if_pos (by rw [← HX.out]; exact hxm)]
                  omega)
                clear hxm
                go_wp2_with fail
                refine ((unhid_ HCJ) _).mono ?_
                rintro e w' ⟨rfl, hw'⟩
                obtain rfl := hw'.symm
                go_wp2
                go_round
                case rel => exact ⟨j + 1, by omega, by omega, by go_num, HR2.out⟩
                case measure => simp [intOf]; omega
              · have exm : ((x : Int) == (m : Int)) = false := by rw [beq_eq_false_iff_ne]; omega
                have HT := Lib.hid (show s.extract k j = bytesB (tok r) by
                  rw [extract_tok, HD.out, tok, HSK2.out, HTL2.out, HRUN.out, HDJ.out, runLen, if_neg (by rw [← HX.out]; exact hxm)]
                  rw [show j - k = j - (k + 1) + 0 + 1 from by omega])
                clear hxm
                go_wp2_with fail
                refine ((unhid_ HCJ) _).mono ?_
                rintro e w' ⟨rfl, hw'⟩
                obtain rfl := hw'.symm
                go_wp2_with fail
                go_quiet (fail)
                go_wp2
                simp only [Exit.jump]
                go_ret
                exact lookT_mk HT.out ((unhid_ HPS).only ((Only.refl [] _).drewN nq) (by simp)) ((unhid_ HO).drewN nq)
            · have hje : j = s.size := by omega
              have hge : ¬ (j : Int) < s.size := by omega
              have HT := Lib.hid (show s.extract k j = bytesB (tok r) by
                rw [extract_tok, HD.out, tok, HSK2.out, HTL2.out, hrun, drop_none (by omega), runLen]
                rw [show j - k = j - (k + 1) + 0 + 1 from by omega])
              have hjI : (j : Int) ≤ s.size := by omega
              clear hrun hje
              go_wp2_with fail
              go_quiet (fail)
              go_wp2
              simp only [Exit.jump]
              go_ret
              exact lookT_mk HT.out ((unhid_ HPS).only ((Only.refl [] _).drewN nq) (by simp)) ((unhid_ HO).drewN nq)
    · have hke : k = s.size := by omega
      have hge : ¬ (k : Int) < s.size := by omega
      have e4 : ((k : Int) == (s.size : Int)) = true := by rw [beq_iff_eq]; omega
      have hr0 : r1 = [] := by rw [← hd]; exact drop_none (by omega)
      have HSK2 := Lib.hid (show skipB r = [] by rw [← HSK.out, hr0]; rfl)
      have HT := Lib.hid (show ByteArray.empty = bytesB (tok r) by rw [tok, HSK2.out]; rfl)
      have HD := Lib.hid (hd.trans hr0)
      have HKE := Lib.hid hke
      clear hd hk hke hr0
      go_wp2_with fail
      go_quiet (fail)
      obtain ⟨wa, hwa⟩ : ∃ wa, wa = w.drewN nq := ⟨_, rfl⟩
      have hbwa : Blk wa g 47 #[.string s, .int .i64 k, .bool bad] := by rw [hwa]; exact (unhid_ HB).drewN nq
      have HOwa := hide (show Only [g] w wa by rw [hwa]; exact (unhid_ HO).drewN nq)
      rw [← hwa]
      clear hwa HB HO c0 c1 f1
      have HB := hide hbwa
      have HO := HOwa
      have c0 := hbwa.cell 0
      have c1 := hbwa.cell 1
      have f1 := hbwa.frozen 1
      simp only [List.getElem?_toArray, List.getElem?_cons_zero, List.getElem?_cons_succ] at c0 c1
      clear hbwa HOwa
      go_wp2_with fail
      go_quiet (fail)
      obtain ⟨wb, hwb⟩ : ∃ wb, wb = wa.drewN nq := ⟨_, rfl⟩
      have hbwb : Blk wb g 47 #[.string s, .int .i64 k, .bool bad] := by rw [hwb]; exact (unhid_ HB).drewN nq
      have HOwb := hide (show Only [g] w wb by rw [hwb]; exact (unhid_ HO).drewN nq)
      rw [← hwb]
      clear hwb HB HO c0 c1 f1
      have HB := hide hbwb
      have HO := HOwb
      have c0 := hbwb.cell 0
      have c1 := hbwb.cell 1
      have f1 := hbwb.frozen 1
      simp only [List.getElem?_toArray, List.getElem?_cons_zero, List.getElem?_cons_succ] at c0 c1
      clear hbwb HOwb
      go_wp2_with fail
      simp only [Exit.jump]
      go_ret
      exact lookT_mk HT.out ⟨k, by rw [HSK2.out]; exact HKE.out, by rw [HSK2.out]; exact HD.out, unhid_ HB⟩ (unhid_ HO)
  · rintro a' wr ⟨u5, u6, u7, u8, u9, u10, u11, u12, u13, u14, u15, u16, u17, u18, u19, u20, u21, u22, u23, u24, u25, u26, u27, u28, u29, u30, u31, u32, u33, u34, r1, rfl, hsk, ⟨k, hk, hd, hb⟩, ho⟩
    have HSK := Lib.hid hsk
    have hk : k + r1.length = s.size := hk
    have hd : s.data.toList.drop k = r1 := hd
    have HB := hide hb
    have HO := hide ho
    have HMU := Lib.hid (atOf_blk hb)
    have c0 := hb.cell 0
    have c1 := hb.cell 1
    have f1 := hb.frozen 1
    simp only [List.getElem?_toArray, List.getElem?_cons_zero, List.getElem?_cons_succ] at c0 c1
    clear hb ho hsk
    have hk2 : k ≤ s.size := by omega
    have hkI : (k : Int) ≤ s.size := by omega
    by_cases hlt : k < s.size
    · have hltI : (k : Int) < s.size := by omega
      have hdc := drop_cons hlt
      rw [hd] at hdc
      have HCL := hide ((unhid_ HCLS) k hlt)
      have HR := Lib.hid hdc
      obtain ⟨m, hm⟩ : ∃ m, m = cls s[k] := ⟨_, rfl⟩
      have hm3 := cls_lt s[k]
      rw [← hm] at HCL hm3
      have hl1 : k + 1 + (s.data.toList.drop (k + 1)).length = s.size := by rw [List.length_drop, sizeB]; omega
      have HL1 := Lib.hid hl1
      have HD := Lib.hid hd
      have HMC := Lib.hid hm
      by_cases h3 : m = 3
      · have e3 : ((m : Int) == 3) = true := by simp [h3]
        have HSK2 := Lib.hid (show skipB r1 = skipB (s.data.toList.drop (k + 1)) by rw [hdc, skip_blank (by rw [← hm]; exact h3)])
        clear hdc hm h3 hd hk hl1
        go_wp2_with fail
        go_quiet ((go_at_call 31; exact Calls.quiet_of_same ((unhid_ HCL) _)))
        go_wp2
        go_step3
        have hbj : Blk ((wr.drewN nq).setCell ⟨g, 1, none⟩ (.int .i64 ((k + 1 : Nat) : Int))) g 47 #[.string s, .int .i64 ((k + 1 : Nat) : Int), .bool bad] := ((unhid_ HB).drewN nq).set_ 1 _
        have hoj : Only [g] w ((wr.drewN nq).setCell ⟨g, 1, none⟩ (.int .i64 ((k + 1 : Nat) : Int))) := ((unhid_ HO).drewN nq).setCell (.inl (by simp)) _
        rw [show ((k : Int) + 1) = ((k + 1 : Nat) : Int) from by omega]
        exact ⟨rfl, ⟨_, _, _, _, _, _, _, _, _, _, _, _, _, _, _, _, _, _, _, _, _, _, _, _, _, _, _, _, _, _, s.data.toList.drop (k + 1), rfl, by rw [← HSK2.out, HSK.out], ⟨k + 1, HL1.out, rfl, hbj⟩, hoj⟩, by rw [atOf_blk hbj, HMU.out]; omega⟩
      · have e3 : ((m : Int) == 3) = false := by rw [beq_eq_false_iff_ne]; omega
        have HSK2 := Lib.hid (show skipB r = r1 by rw [← HSK.out, hdc, skip_other (by rw [← hm]; exact h3)])
        have e4 : ((k : Int) == (s.size : Int)) = false := by rw [beq_eq_false_iff_ne]; omega
        have htl : tokLen r1 = if m = 0 then 1 else runLen m (s.data.toList.drop (k + 1)) + 1 := by rw [hdc, tokLen, ← hm]
        have HTL := Lib.hid htl
        have HKL := Lib.hid hk
        clear hdc h3 hd hk hl1 htl
        rw [hm] at HCL
        go_wp2_with fail
        go_quiet ((go_at_call 31; exact Calls.quiet_of_same ((unhid_ HCL) _)))
        obtain ⟨wa, hwa⟩ : ∃ wa, wa = wr.drewN nq := ⟨_, rfl⟩
        have hbwa : Blk wa g 47 #[.string s, .int .i64 k, .bool bad] := by rw [hwa]; exact (unhid_ HB).drewN nq
        have HOwa := hide (show Only [g] w wa by rw [hwa]; exact (unhid_ HO).drewN nq)
        rw [← hwa]
        clear hwa HB HO c0 c1 f1
        have HB := hide hbwa
        have HO := HOwa
        have c0 := hbwa.cell 0
        have c1 := hbwa.cell 1
        have f1 := hbwa.frozen 1
        simp only [List.getElem?_toArray, List.getElem?_cons_zero, List.getElem?_cons_succ] at c0 c1
        clear hbwa HOwa
        rw [← hm, e3]
        go_wp2_with fail
        go_quiet (fail)
        obtain ⟨wb, hwb⟩ : ∃ wb, wb = wa.drewN nq := ⟨_, rfl⟩
        have hbwb : Blk wb g 47 #[.string s, .int .i64 k, .bool bad] := by rw [hwb]; exact (unhid_ HB).drewN nq
        have HOwb := hide (show Only [g] w wb by rw [hwb]; exact (unhid_ HO).drewN nq)
        rw [← hwb]
        clear hwb HB HO c0 c1 f1
        have HB := hide hbwb
        have HO := HOwb
        have c0 := hbwb.cell 0
        have c1 := hbwb.cell 1
        have f1 := hbwb.frozen 1
        simp only [List.getElem?_toArray, List.getElem?_cons_zero, List.getElem?_cons_succ] at c0 c1
        clear hbwb HOwb
        go_wp2_with fail
        go_quiet ((go_at_call 31; exact Calls.quiet_of_same ((unhid_ HCL) _)))
        obtain ⟨wc, hwc⟩ : ∃ wc, wc = wb.drewN nq := ⟨_, rfl⟩
        have hbwc : Blk wc g 47 #[.string s, .int .i64 k, .bool bad] := by rw [hwc]; exact (unhid_ HB).drewN nq
        have HOwc := hide (show Only [g] w wc by rw [hwc]; exact (unhid_ HO).drewN nq)
        rw [← hwc]
        clear hwc HB HO c0 c1 f1
        have HB := hide hbwc
        have HO := HOwc
        have c0 := hbwc.cell 0
        have c1 := hbwc.cell 1
        have f1 := hbwc.frozen 1
        simp only [List.getElem?_toArray, List.getElem?_cons_zero, List.getElem?_cons_succ] at c0 c1
        clear hbwc HOwc
        rw [← hm]
        clear hm
        have HPS := hide (show PS wc g s ⟨skipB r, bad⟩ from ⟨k, by rw [HSK2.out]; exact HKL.out, by rw [HSK2.out]; exact HD.out, unhid_ HB⟩)
        by_cases h0 : m = 0
        · have e0 : ((m : Int) != 0) = false := by simp [h0]
          have HT := Lib.hid (show s.extract k (k + 1) = bytesB (tok r) by rw [extract_tok, HD.out, tok, HSK2.out, HTL.out, if_pos h0, Nat.add_sub_cancel_left])
          clear h0
          go_wp2_with fail
          go_quiet (fail)
          go_wp2
          simp only [Exit.jump]
          go_ret
          exact lookT_mk HT.out ((unhid_ HPS).only ((Only.refl [] _).drewN nq) (by simp)) ((unhid_ HO).drewN nq)
        · have e0 : ((m : Int) != 0) = true := by rw [bne_iff_ne]; omega
          have HTL2 := Lib.hid (HTL.out.trans (if_neg h0))
          clear h0
          go_wp2_with fail
          clear e0 e3 e4
          go_loop [3] (fun e => ∃ j : Nat, k + 1 ≤ j ∧ j ≤ s.size ∧ e = .int .i64 j ∧ runLen m (s.data.toList.drop (k + 1)) = (j - (k + 1)) + runLen m (s.data.toList.drop j)) (fun e => s.size - (intOf e).toNat)
          case atStart => exact ⟨k + 1, Nat.le_refl _, hlt, by go_num, by omega⟩
          case round =>
            obtain ⟨j, hj1, hj2, rfl, hrun⟩ := hrel
            have HRUN := Lib.hid hrun
            by_cases hjl : j < s.size
            · have hjI : (j : Int) < s.size := by omega
              have hdj := drop_cons hjl
              have HCJ := hide ((unhid_ HCLS) j hjl)
              obtain ⟨x, hx⟩ : ∃ x, x = cls s[j] := ⟨_, rfl⟩
              rw [← hx] at HCJ
              have HX := Lib.hid hx
              have HDJ := Lib.hid hdj
              clear hrun hdj hx
              by_cases hxm : x = m
              · have exm : ((x : Int) == (m : Int)) = true := by simp [hxm]
                have HR2 := Lib.hid (show runLen m (s.data.toList.drop (k + 1)) = (j + 1 - (k + 1)) + runLen m (s.data.toList.drop (j + 1)) by
                  rw [HRUN.out, HDJ.out, runLen, if_pos (by rw [← HX.out]; exact hxm)]
                  omega)
                clear hxm
                go_wp2_with fail
                refine ((unhid_ HCJ) _).mono ?_
                rintro e w' ⟨rfl, hw'⟩
                obtain rfl := hw'.symm
                go_wp2
                go_round
                case rel => exact ⟨j + 1, by omega, by omega, by go_num, HR2.out⟩
                case measure => simp [intOf]; omega
              · have exm : ((x : Int) == (m : Int)) = false := by rw [beq_eq_false_iff_ne]; omega
                have HT := Lib.hid (show s.extract k j = bytesB (tok r) by
                  rw [extract_tok, HD.out, tok, HSK2.out, HTL2.out, HRUN.out, HDJ.out, runLen, if_neg (by rw [← HX.out]; exact hxm)]
                  rw [show j - k = j - (k + 1) + 0 + 1 from by omega])
                clear hxm
                go_wp2_with fail
                refine ((unhid_ HCJ) _).mono ?_
                rintro e w' ⟨rfl, hw'⟩
                obtain rfl := hw'.symm
                go_wp2_with fail
                go_quiet (fail)
                go_wp2
                simp only [Exit.jump]
                go_ret
                exact lookT_mk HT.out ((unhid_ HPS).only ((Only.refl [] _).drewN nq) (by simp)) ((unhid_ HO).drewN nq)
            · have hje : j = s.size := by omega
              have hge : ¬ (j : Int) < s.size := by omega
              have HT := Lib.hid (show s.extract k j = bytesB (tok r) by
                rw [extract_tok, HD.out, tok, HSK2.out, HTL2.out, hrun, drop_none (by omega), runLen]
                rw [show j - k = j - (k + 1) + 0 + 1 from by omega])
              have hjI : (j : Int) ≤ s.size := by omega
              clear hrun hje
              go_wp2_with fail
              go_quiet (fail)
              go_wp2
              simp only [Exit.jump]
              go_ret
              exact lookT_mk HT.out ((unhid_ HPS).only ((Only.refl [] _).drewN nq) (by simp)) ((unhid_ HO).drewN nq)
    · have hke : k = s.size := by omega
      have hge : ¬ (k : Int) < s.size := by omega
      have e4 : ((k : Int) == (s.size : Int)) = true := by rw [beq_iff_eq]; omega
      have hr0 : r1 = [] := by rw [← hd]; exact drop_none (by omega)
      have HSK2 := Lib.hid (show skipB r = [] by rw [← HSK.out, hr0]; rfl)
      have HT := Lib.hid (show ByteArray.empty = bytesB (tok r) by rw [tok, HSK2.out]; rfl)
      have HD := Lib.hid (hd.trans hr0)
      have HKE := Lib.hid hke
      clear hd hk hke hr0
      go_wp2_with fail
      go_quiet (fail)
      obtain ⟨wa, hwa⟩ : ∃ wa, wa = wr.drewN nq := ⟨_, rfl⟩
      have hbwa : Blk wa g 47 #[.string s, .int .i64 k, .bool bad] := by rw [hwa]; exact (unhid_ HB).drewN nq
      have HOwa := hide (show Only [g] w wa by rw [hwa]; exact (unhid_ HO).drewN nq)
      rw [← hwa]
      clear hwa HB HO c0 c1 f1
      have HB := hide hbwa
      have HO := HOwa
      have c0 := hbwa.cell 0
      have c1 := hbwa.cell 1
      have f1 := hbwa.frozen 1
      simp only [List.getElem?_toArray, List.getElem?_cons_zero, List.getElem?_cons_succ] at c0 c1
      clear hbwa HOwa
      go_wp2_with fail
      go_quiet (fail)
      obtain ⟨wb, hwb⟩ : ∃ wb, wb = wa.drewN nq := ⟨_, rfl⟩
      have hbwb : Blk wb g 47 #[.string s, .int .i64 k, .bool bad] := by rw [hwb]; exact (unhid_ HB).drewN nq
      have HOwb := hide (show Only [g] w wb by rw [hwb]; exact (unhid_ HO).drewN nq)
      rw [← hwb]
      clear hwb HB HO c0 c1 f1
      have HB := hide hbwb
      have HO := HOwb
      have c0 := hbwb.cell 0
      have c1 := hbwb.cell 1
      have f1 := hbwb.frozen 1
      simp only [List.getElem?_toArray, List.getElem?_cons_zero, List.getElem?_cons_succ] at c0 c1
      clear hbwb HOwb
      go_wp2_with fail
      simp only [Exit.jump]
      go_ret
      exact lookT_mk HT.out ⟨k, by rw [HSK2.out]; exact HKE.out, by rw [HSK2.out]; exact HD.out, unhid_ HB⟩ (unhid_ HO)
end Go.Proofs.YthlnaejmglajeaaDoor
