/- The walks of the parser's takes, must. -/
import Derived.Test.YthlnaejmglajeaaDoorALook2
namespace Go.Proofs.YthlnaejmglajeaaDoor
open Go.RowKit
set_option linter.unusedSimpArgs false
set_option linter.unusedVariables false

def TakesT (g : Nat) (s : ByteArray) (b : Bool) (st : St) (w : World) (e : Ending) (w' : World) : Prop := e = .returned (.bool b) ∧ PS w' g s st ∧ Only [g] w w'
theorem takesT_mk {g : Nat} {s : ByteArray} {b b' : Bool} {st st' : St} {w w' : World} (h : b' = b) (hs : st' = st) (h1 : PS w' g s st') (h2 : Only [g] w w') : TakesT g s b st w (.returned (.bool b')) w' := by subst h hs; exact ⟨rfl, h1, h2⟩
theorem toList_bytesB (l : List UInt8) : (bytesB l).toList = l := by rw [ByteArray.toList_eq]; rfl
theorem takesB_bad (t r : List UInt8) : takesB t ⟨r, true⟩ = false := rfl
theorem takesS_bad (t r : List UInt8) : takesS t ⟨r, true⟩ = ⟨r, true⟩ := rfl
theorem takesB_ok {t : List UInt8} (ht : t ≠ []) (r : List UInt8) : takesB t ⟨r, false⟩ = (tok r == t) := by
  have : (t == []) = false := by cases t with
    | nil => exact absurd rfl ht
    | cons a l => rfl
  simp [takesB, this]
theorem takesS_ok {t : List UInt8} (ht : t ≠ []) (r : List UInt8) : takesS t ⟨r, false⟩ = if tok r == t then ⟨(skipB r).drop t.length, false⟩ else ⟨skipB r, false⟩ := by
  rw [takesS, takesB_ok ht]
  simp

set_option maxHeartbeats 1000000 in
theorem takes_any (t : List UInt8) (ht : t ≠ []) (htl : t.length ≤ 10) (w : World) (g : Nat) (s : ByteArray) (st : St) (hp : PS w g s st) (hs : s.size ≤ 200) :
    Calls Tryd.prog 39 #[.pointer (some ⟨g, 0, none⟩), .string (bytesB t)] w (TakesT g s (takesB t st) (takesS t st) w) := by
  obtain ⟨r, bad⟩ := st
  cases bad with
  | true =>
    have hp' := hp
    obtain ⟨k, hk, hd, hb⟩ := hp'
    have c2 := hb.cell 2
    simp only [List.getElem?_toArray, List.getElem?_cons_zero, List.getElem?_cons_succ] at c2
    have HP := hide hp
    clear hp hb hk hd
    go_enter Tryd.func39, Tryd.ntmps39
    go_wp2
    go_ret
    exact takesT_mk (takesB_bad t r).symm (takesS_bad t r).symm (unhid_ HP) (Only.refl _ _)
  | false =>
    have HL := hide (look_any w g s ⟨r, false⟩ hp hs)
    have hb1 := takesB_ok ht r
    have hs1 := takesS_ok ht r
    obtain ⟨b, hb⟩ : ∃ b, (tok r == t) = b := ⟨_, rfl⟩
    rw [hb] at hb1 hs1
    have e1 : ((bytesB (tok r)).toList == (bytesB t).toList) = b := by rw [toList_bytesB, toList_bytesB, hb]
    have e2 : ((bytesB t).toList == []) = false := by
      rw [toList_bytesB]
      cases t with
      | nil => exact absurd rfl ht
      | cons a l => rfl
    have hsz : (bytesB t).size = t.length := size_bytesB t
    obtain ⟨T, hT⟩ : ∃ T, T = bytesB t := ⟨_, rfl⟩
    obtain ⟨K, hK⟩ : ∃ K, K = bytesB (tok r) := ⟨_, rfl⟩
    rw [← hT] at e1 e2 hsz ⊢
    have hszI : T.size ≤ 10 := by omega
    rw [← hK] at e1
    obtain ⟨k0, hk0, _, hb0⟩ := hp
    have c2 := hb0.cell 2
    simp only [List.getElem?_toArray, List.getElem?_cons_zero, List.getElem?_cons_succ] at c2
    have HB1 := Lib.hid hb1
    have HS1 := Lib.hid hs1
    have HSZ := Lib.hid hsz
    have HB := Lib.hid hb
    have HK := Lib.hid hK
    clear hb1 hs1 hT hK hk0 hb0 hsz hb
    cases b with
    | false =>
      go_enter Tryd.func39, Tryd.ntmps39
      go_wp2_with fail
      refine (unhid_ HL).mono ?_
      rintro e w1 ⟨rfl, hp1, ho1⟩
      rw [← HK.out]
      have HP1 := hide hp1
      have HO1 := hide ho1
      clear hp1 ho1 HL c2
      go_wp2
      go_ret
      exact takesT_mk HB1.out.symm (by rw [HS1.out]; rfl) (unhid_ HP1) (unhid_ HO1)
    | true =>
      go_enter Tryd.func39, Tryd.ntmps39
      go_wp2_with fail
      refine (unhid_ HL).mono ?_
      rintro e w1 ⟨rfl, hp1, ho1⟩
      rw [← HK.out]
      obtain ⟨k, hk, hd, hb⟩ := hp1
      have hk : k + (skipB r).length = s.size := hk
      have hd : s.data.toList.drop k = skipB r := hd
      have hle : t.length ≤ (skipB r).length := by
        have h1 : tok r = t := by simpa using HB.out
        rw [← h1, tok, List.length_take]
        exact Nat.min_le_right _ _
      have c1 := hb.cell 1
      have f1 := hb.frozen 1
      simp only [List.getElem?_toArray, List.getElem?_cons_zero, List.getElem?_cons_succ] at c1
      have hks : k ≤ 200 := by omega
      have HO1 := hide ho1
      have HBK := hide hb
      have HKK := Lib.hid hk
      have HDD := Lib.hid hd
      clear hb ho1 HL c2 hk hd
      go_wp2
      go_ret
      refine takesT_mk HB1.out.symm HS1.out.symm ⟨k + t.length, ?_, ?_, ?_⟩ ((unhid_ HO1).setCell (.inl (by simp)) _)
      · show k + t.length + ((skipB r).drop t.length).length = s.size
        rw [List.length_drop, ← HKK.out]
        omega
      · show s.data.toList.drop (k + t.length) = (skipB r).drop t.length
        rw [← HDD.out, List.drop_drop]
      · have h := (unhid_ HBK).set_ 1 (.int .i64 ((k : Int) + (T.size : Int)))
        rw [show ((k : Int) + (T.size : Int)) = ((k + t.length : Nat) : Int) from by have := HSZ.out; omega] at h ⊢
        exact h

/-- what must answers: nothing -/
def MustT (g : Nat) (s : ByteArray) (st : St) (w : World) (e : Ending) (w' : World) : Prop := e = .returned (.tuple #[]) ∧ PS w' g s st ∧ Only [g] w w'
theorem mustT_mk {g : Nat} {s : ByteArray} {st st' : St} {w w' : World} (hs : st' = st) (h1 : PS w' g s st') (h2 : Only [g] w w') : MustT g s st w (.returned (.tuple #[])) w' := by subst hs; exact ⟨rfl, h1, h2⟩
set_option maxHeartbeats 1000000 in
theorem must_any (t : List UInt8) (ht : t ≠ []) (htl : t.length ≤ 10) (w : World) (g : Nat) (s : ByteArray) (st : St) (hp : PS w g s st) (hs : s.size ≤ 200) :
    Calls Tryd.prog 54 #[.pointer (some ⟨g, 0, none⟩), .string (bytesB t)] w (MustT g s (mustS t st) w) := by
  have HT := hide (takes_any t ht htl w g s st hp hs)
  have hm : mustS t st = if takesB t st then takesS t st else ⟨skipB (takesS t st).r, true⟩ := rfl
  obtain ⟨b, hb⟩ : ∃ b, takesB t st = b := ⟨_, rfl⟩
  obtain ⟨st1, hst⟩ : ∃ st1, takesS t st = st1 := ⟨_, rfl⟩
  rw [hb, hst] at HT hm
  have HM := Lib.hid hm
  have HL := hide (fun (w1 : World) (h : PS w1 g s st1) => look_any w1 g s st1 h hs)
  clear hp hb hst hm
  obtain ⟨T, hT⟩ : ∃ T, T = bytesB t := ⟨_, rfl⟩
  rw [← hT] at HT ⊢
  clear hT
  cases b with
  | true =>
    go_enter Tryd.func54, Tryd.ntmps54
    go_wp2_with fail
    refine (unhid_ HT).mono ?_
    rintro e w1 ⟨rfl, hp1, ho1⟩
    have HP1 := hide hp1
    have HO1 := hide ho1
    clear hp1 ho1 HT
    go_wp2
    go_end0
    exact mustT_mk HM.out.symm (unhid_ HP1) (unhid_ HO1)
  | false =>
    go_enter Tryd.func54, Tryd.ntmps54
    go_wp2_with fail
    refine (unhid_ HT).mono ?_
    rintro e w1 ⟨rfl, hp1, ho1⟩
    have HP1 := hide hp1
    have HO1 := hide ho1
    clear hp1 ho1 HT
    go_wp2_with fail
    refine ((unhid_ HL) w1 (unhid_ HP1)).mono ?_
    rintro e w2 ⟨rfl, hp2, ho2⟩
    obtain ⟨k, hk, hd, hb⟩ := hp2
    have f2 := hb.frozen 2
    have c2 := hb.cell 2
    simp only [List.getElem?_toArray, List.getElem?_cons_zero, List.getElem?_cons_succ] at c2
    have HBK := hide hb
    have HKK := Lib.hid hk
    have HDD := Lib.hid hd
    have HO2 := hide ((unhid_ HO1).trans ho2)
    clear ho2 hb hk hd
    go_wp2
    go_end0
    exact mustT_mk HM.out.symm ⟨k, HKK.out, HDD.out, (unhid_ HBK).set_ 2 _⟩ ((unhid_ HO2).setCell (.inl (by simp)) _)
end Go.Proofs.YthlnaejmglajeaaDoor
