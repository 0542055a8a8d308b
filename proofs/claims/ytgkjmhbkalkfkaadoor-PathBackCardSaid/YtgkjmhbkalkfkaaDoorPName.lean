/- The walks of dir.Name and of the document's Name: what is a name. -/
import Derived.Test.YtgkjmhbkalkfkaaDoorMem
import Derived.Deep.DeepCutAuto
namespace Go.Proofs.YtgkjmhbkalkfkaaDoor
open Go.RowKit
set_option linter.unusedSimpArgs false

/-- may a byte be in a name? -/
def chOk (b : Int) : Bool := (decide (97 ≤ b) && decide (b ≤ 122)) || ((decide (48 ≤ b) && decide (b ≤ 57)) || (decide (b = 46) || (decide (b = 95) || decide (b = 45))))
/-- the first k bytes may be in a name -/
def chTo (s : ByteArray) (k : Nat) : Prop := ∀ j (h : j < s.size), j < k → chOk (s[j].toNat : Int) = true
/-- is it a name? -/
def nameOk (s : ByteArray) : Bool := decide (1 ≤ s.size) && (decide (s.size ≤ 20) && (!(s.toList == [46]) && (!(s.toList == [46, 46]) && (List.range s.size).all fun j => chOk ((s.data.toList.getD j 0).toNat : Int))))
theorem chTo.all {s : ByteArray} (h : chTo s s.size) : ((List.range s.size).all fun j => chOk ((s.data.toList.getD j 0).toNat : Int)) = true := by
  rw [List.all_eq_true]
  intro j hj
  have hj' := List.mem_range.1 hj
  have := h j hj' hj'
  have e : s.data.toList.getD j 0 = s[j] := by
    rw [List.getD_eq_getElem?_getD, List.getElem?_eq_getElem (by simpa using hj')]
    rfl
  rw [e]
  exact this
theorem chTo.none {s : ByteArray} {j : Nat} (hj : j < s.size) (h : chOk (s[j].toNat : Int) = false) : ((List.range s.size).all fun j => chOk ((s.data.toList.getD j 0).toNat : Int)) = false := by
  rw [List.all_eq_false]
  refine ⟨j, List.mem_range.2 hj, ?_⟩
  have e : s.data.toList.getD j 0 = s[j] := by
    rw [List.getD_eq_getElem?_getD, List.getElem?_eq_getElem (by simpa using hj)]
    rfl
  rw [e, h]
  simp
theorem chTo.step {s : ByteArray} {k : Nat} (h : chTo s k) (hk : k < s.size) (hc : chOk (s[k].toNat : Int) = true) : chTo s (k + 1) := by
  intro j hj hjk
  rcases Nat.lt_or_ge j k with h1 | h1
  · exact h j hj h1
  · obtain rfl : j = k := by omega
    exact hc

set_option maxHeartbeats 4000000 in
theorem name_any (s : ByteArray) (w : World) :
    Calls Tryd.prog 21 #[.string s] w fun e w' => e = .returned (.bool (nameOk s)) ∧ w' = w := by
  by_cases h1 : 1 ≤ s.size ∧ s.size ≤ 20
  · obtain ⟨h1, h2⟩ := h1
    have hnm : nameOk s = (!(s.toList == [46]) && (!(s.toList == [46, 46]) && (List.range s.size).all fun j => chOk ((s.data.toList.getD j 0).toNat : Int))) := by simp [nameOk, h1, h2]
    obtain ⟨e1, he1⟩ : ∃ b, (s.toList == [46]) = b := ⟨_, rfl⟩
    obtain ⟨e2, he2⟩ : ∃ b, (s.toList == [46, 46]) = b := ⟨_, rfl⟩
    rw [he1, he2] at hnm
    have HN := Lib.hid hnm
    have h1I : (1 : Int) ≤ (s.size : Int) := by omega
    have h2I : (s.size : Int) ≤ 20 := by omega
    clear hnm
    go_enter Tryd.func21, Tryd.ntmps21
    cases e1
    · cases e2
      · go_wp2
        go_loop [3, 4, 23] (fun _ _ si => ∃ k : Nat, k ≤ s.size ∧ si = .int .i64 k ∧ chTo s k) (fun _ _ si => s.size - (intOf si).toNat)
        case atStart => exact ⟨0, Nat.zero_le _, rfl, fun _ _ h => absurd h (Nat.not_lt_zero _)⟩
        case round =>
          obtain ⟨k, hk, rfl, hto⟩ := hrel
          have HTO := hide hto
          clear hto
          by_cases hlt : k < s.size
          · have hkI : (k : Int) < s.size := by omega
            go_upto_region 7 with (fail)
            have hcb : (s[k].toNat : Int) ≤ 255 ∧ (0 : Int) ≤ (s[k].toNat : Int) := ⟨by have := s[k].toNat_lt; omega, by omega⟩
            obtain ⟨c, hc⟩ : ∃ c : Int, c = (s[k].toNat : Int) := ⟨_, rfl⟩
            rw [← hc] at hcb ⊢
            have HC := Lib.hid hc
            clear hc
            go_cut [54] (fun sc wx => sc = .bool (!chOk c) ∧ wx = w)
            case first =>
              rcases (show c < 48 ∨ (48 ≤ c ∧ c ≤ 57) ∨ (57 < c ∧ c < 97) ∨ (97 ≤ c ∧ c ≤ 122) ∨ 122 < c by omega) with r | ⟨r, r'⟩ | ⟨r, r'⟩ | ⟨r, r'⟩ | r
              · skip
                by_cases q46 : c = 46
                · have h46 : (c != 46) = false := by simp [q46]
                  have hh : chOk c = true := by rw [q46]; rfl
                  have H := Lib.hid hh
                  have h46' : (c == 46) = true := by simp [q46]
                  clear hh q46
                  go_wp2
                  go_meet
                  exact ⟨by rw [H.out]; first | rfl | (congr 1; simp; omega), rfl⟩
                · by_cases q95 : c = 95
                  · have h46 : (c != 46) = true := by simp [q46]
                    have h46' : (c == 46) = false := by simp [q46]
                    have h95 : (c != 95) = false := by simp [q95]
                    have h95' : (c == 95) = true := by simp [q95]
                    have hh : chOk c = true := by rw [q95]; rfl
                    have H := Lib.hid hh
                    clear hh q46 q95
                    go_wp2
                    go_meet
                    exact ⟨by rw [H.out]; first | rfl | (congr 1; simp; omega), rfl⟩
                  · by_cases q45 : c = 45
                    · have h46 : (c != 46) = true := by simp [q46]
                      have h46' : (c == 46) = false := by simp [q46]
                      have h95 : (c != 95) = true := by simp [q95]
                      have h95' : (c == 95) = false := by simp [q95]
                      have h45 : (c != 45) = false := by simp [q45]
                      have h45' : (c == 45) = true := by simp [q45]
                      have hh : chOk c = true := by rw [q45]; rfl
                      have H := Lib.hid hh
                      clear hh q46 q95 q45
                      go_wp2
                      go_meet
                      exact ⟨by rw [H.out]; first | rfl | (congr 1; simp; omega), rfl⟩
                    · have h46 : (c != 46) = true := by simp [q46]
                      have h46' : (c == 46) = false := by simp [q46]
                      have h95 : (c != 95) = true := by simp [q95]
                      have h95' : (c == 95) = false := by simp [q95]
                      have h45 : (c != 45) = true := by simp [q45]
                      have h45' : (c == 45) = false := by simp [q45]
                      have hh : chOk c = false := by unfold chOk; simp [q46, q95, q45]; omega
                      have H := Lib.hid hh
                      clear hh q46 q95 q45
                      go_wp2
                      go_meet
                      exact ⟨by rw [H.out]; first | rfl | (congr 1; simp; omega), rfl⟩
              · have hh : chOk c = true := by unfold chOk; simp; omega
                have H := Lib.hid hh
                clear hh
                go_wp2
                go_meet
                exact ⟨by rw [H.out]; first | rfl | (congr 1; simp; omega), rfl⟩
              · skip
                by_cases q46 : c = 46
                · have h46 : (c != 46) = false := by simp [q46]
                  have hh : chOk c = true := by rw [q46]; rfl
                  have H := Lib.hid hh
                  have h46' : (c == 46) = true := by simp [q46]
                  clear hh q46
                  go_wp2
                  go_meet
                  exact ⟨by rw [H.out]; first | rfl | (congr 1; simp; omega), rfl⟩
                · by_cases q95 : c = 95
                  · have h46 : (c != 46) = true := by simp [q46]
                    have h46' : (c == 46) = false := by simp [q46]
                    have h95 : (c != 95) = false := by simp [q95]
                    have h95' : (c == 95) = true := by simp [q95]
                    have hh : chOk c = true := by rw [q95]; rfl
                    have H := Lib.hid hh
                    clear hh q46 q95
                    go_wp2
                    go_meet
                    exact ⟨by rw [H.out]; first | rfl | (congr 1; simp; omega), rfl⟩
                  · by_cases q45 : c = 45
                    · have h46 : (c != 46) = true := by simp [q46]
                      have h46' : (c == 46) = false := by simp [q46]
                      have h95 : (c != 95) = true := by simp [q95]
                      have h95' : (c == 95) = false := by simp [q95]
                      have h45 : (c != 45) = false := by simp [q45]
                      have h45' : (c == 45) = true := by simp [q45]
                      have hh : chOk c = true := by rw [q45]; rfl
                      have H := Lib.hid hh
                      clear hh q46 q95 q45
                      go_wp2
                      go_meet
                      exact ⟨by rw [H.out]; first | rfl | (congr 1; simp; omega), rfl⟩
                    · have h46 : (c != 46) = true := by simp [q46]
                      have h46' : (c == 46) = false := by simp [q46]
                      have h95 : (c != 95) = true := by simp [q95]
                      have h95' : (c == 95) = false := by simp [q95]
                      have h45 : (c != 45) = true := by simp [q45]
                      have h45' : (c == 45) = false := by simp [q45]
                      have hh : chOk c = false := by unfold chOk; simp [q46, q95, q45]; omega
                      have H := Lib.hid hh
                      clear hh q46 q95 q45
                      go_wp2
                      go_meet
                      exact ⟨by rw [H.out]; first | rfl | (congr 1; simp; omega), rfl⟩
              · have hh : chOk c = true := by unfold chOk; simp; omega
                have H := Lib.hid hh
                clear hh
                go_wp2
                go_meet
                exact ⟨by rw [H.out]; first | rfl | (congr 1; simp; omega), rfl⟩
              · skip
                by_cases q46 : c = 46
                · have h46 : (c != 46) = false := by simp [q46]
                  have hh : chOk c = true := by rw [q46]; rfl
                  have H := Lib.hid hh
                  have h46' : (c == 46) = true := by simp [q46]
                  clear hh q46
                  go_wp2
                  go_meet
                  exact ⟨by rw [H.out]; first | rfl | (congr 1; simp; omega), rfl⟩
                · by_cases q95 : c = 95
                  · have h46 : (c != 46) = true := by simp [q46]
                    have h46' : (c == 46) = false := by simp [q46]
                    have h95 : (c != 95) = false := by simp [q95]
                    have h95' : (c == 95) = true := by simp [q95]
                    have hh : chOk c = true := by rw [q95]; rfl
                    have H := Lib.hid hh
                    clear hh q46 q95
                    go_wp2
                    go_meet
                    exact ⟨by rw [H.out]; first | rfl | (congr 1; simp; omega), rfl⟩
                  · by_cases q45 : c = 45
                    · have h46 : (c != 46) = true := by simp [q46]
                      have h46' : (c == 46) = false := by simp [q46]
                      have h95 : (c != 95) = true := by simp [q95]
                      have h95' : (c == 95) = false := by simp [q95]
                      have h45 : (c != 45) = false := by simp [q45]
                      have h45' : (c == 45) = true := by simp [q45]
                      have hh : chOk c = true := by rw [q45]; rfl
                      have H := Lib.hid hh
                      clear hh q46 q95 q45
                      go_wp2
                      go_meet
                      exact ⟨by rw [H.out]; first | rfl | (congr 1; simp; omega), rfl⟩
                    · have h46 : (c != 46) = true := by simp [q46]
                      have h46' : (c == 46) = false := by simp [q46]
                      have h95 : (c != 95) = true := by simp [q95]
                      have h95' : (c == 95) = false := by simp [q95]
                      have h45 : (c != 45) = true := by simp [q45]
                      have h45' : (c == 45) = false := by simp [q45]
                      have hh : chOk c = false := by unfold chOk; simp [q46, q95, q45]; omega
                      have H := Lib.hid hh
                      clear hh q46 q95 q45
                      go_wp2
                      go_meet
                      exact ⟨by rw [H.out]; first | rfl | (congr 1; simp; omega), rfl⟩
            case rest =>
              obtain ⟨rfl, hwx⟩ := hcut
              have hwx2 := hwx.symm
              subst hwx2
              cases hok : chOk c with
              | true =>
                have hst := (unhid_ HTO).step hlt (by rw [← HC.out]; exact hok)
                have HST := hide hst
                clear hst hok
                go_wp2
                go_round
                case rel => exact ⟨k + 1, by omega, by go_num, unhid_ HST⟩
                case measure => simp [intOf]; omega
              | false =>
                have hno := chTo.none hlt (by rw [← HC.out]; exact hok)
                have HNO := Lib.hid hno
                clear hno hok
                go_wp2
                go_ret
                exact ⟨by rw [HN.out, HNO.out]; rfl, rfl⟩
          · obtain rfl : k = s.size := by omega
            have hall := (unhid_ HTO).all
            have HALL := Lib.hid hall
            clear hall
            go_wp2
            go_ret
            exact ⟨by rw [HN.out, HALL.out]; rfl, rfl⟩
      · go_wp2
        go_ret
        exact ⟨by rw [HN.out]; rfl, rfl⟩
    · go_wp2
      go_ret
      exact ⟨by rw [HN.out]; rfl, rfl⟩
  · have hnm : nameOk s = false := by
      unfold nameOk
      simp
      intro h2 h3
      omega
    have hbad : (s.size : Int) < 1 ∨ ((1 : Int) ≤ s.size ∧ (20 : Int) < s.size) := by omega
    have HN := Lib.hid hnm
    clear hnm h1
    rcases hbad with h | ⟨h, h'⟩
    all_goals
      go_enter Tryd.func21, Tryd.ntmps21
      go_wp2
      go_ret
      exact ⟨by rw [HN.out]; rfl, rfl⟩

set_option maxHeartbeats 4000000 in
theorem rname_any (s : ByteArray) (w : World) :
    Calls Tryd.prog 22 #[.string s] w fun e w' => e = .returned (.bool (nameOk s)) ∧ w' = w := by
  by_cases h1 : 1 ≤ s.size ∧ s.size ≤ 20
  · obtain ⟨h1, h2⟩ := h1
    have hnm : nameOk s = (!(s.toList == [46]) && (!(s.toList == [46, 46]) && (List.range s.size).all fun j => chOk ((s.data.toList.getD j 0).toNat : Int))) := by simp [nameOk, h1, h2]
    obtain ⟨e1, he1⟩ : ∃ b, (s.toList == [46]) = b := ⟨_, rfl⟩
    obtain ⟨e2, he2⟩ : ∃ b, (s.toList == [46, 46]) = b := ⟨_, rfl⟩
    rw [he1, he2] at hnm
    have HN := Lib.hid hnm
    have h1I : (1 : Int) ≤ (s.size : Int) := by omega
    have h2I : (s.size : Int) ≤ 20 := by omega
    clear hnm
    go_enter Tryd.func22, Tryd.ntmps22
    cases e1
    · cases e2
      · go_wp2
        go_loop [3, 4] (fun si _ => ∃ k : Nat, k ≤ s.size ∧ si = .int .i64 k ∧ chTo s k) (fun si _ => s.size - (intOf si).toNat)
        case atStart => exact ⟨0, Nat.zero_le _, rfl, fun _ _ h => absurd h (Nat.not_lt_zero _)⟩
        case round =>
          obtain ⟨k, hk, rfl, hto⟩ := hrel
          have HTO := hide hto
          clear hto
          by_cases hlt : k < s.size
          · have hkI : (k : Int) < s.size := by omega
            go_upto_region 7 with (fail)
            have hcb : (s[k].toNat : Int) ≤ 255 ∧ (0 : Int) ≤ (s[k].toNat : Int) := ⟨by have := s[k].toNat_lt; omega, by omega⟩
            obtain ⟨c, hc⟩ : ∃ c : Int, c = (s[k].toNat : Int) := ⟨_, rfl⟩
            rw [← hc] at hcb ⊢
            have HC := Lib.hid hc
            clear hc
            go_cut [56] (fun sc wx => sc = .bool (!chOk c) ∧ wx = w)
            case first =>
              rcases (show c < 48 ∨ (48 ≤ c ∧ c ≤ 57) ∨ (57 < c ∧ c < 97) ∨ (97 ≤ c ∧ c ≤ 122) ∨ 122 < c by omega) with r | ⟨r, r'⟩ | ⟨r, r'⟩ | ⟨r, r'⟩ | r
              · skip
                by_cases q46 : c = 46
                · have h46 : (c != 46) = false := by simp [q46]
                  have hh : chOk c = true := by rw [q46]; rfl
                  have H := Lib.hid hh
                  have h46' : (c == 46) = true := by simp [q46]
                  clear hh q46
                  go_wp2
                  go_meet
                  exact ⟨by rw [H.out]; first | rfl | (congr 1; simp; omega), rfl⟩
                · by_cases q95 : c = 95
                  · have h46 : (c != 46) = true := by simp [q46]
                    have h46' : (c == 46) = false := by simp [q46]
                    have h95 : (c != 95) = false := by simp [q95]
                    have h95' : (c == 95) = true := by simp [q95]
                    have hh : chOk c = true := by rw [q95]; rfl
                    have H := Lib.hid hh
                    clear hh q46 q95
                    go_wp2
                    go_meet
                    exact ⟨by rw [H.out]; first | rfl | (congr 1; simp; omega), rfl⟩
                  · by_cases q45 : c = 45
                    · have h46 : (c != 46) = true := by simp [q46]
                      have h46' : (c == 46) = false := by simp [q46]
                      have h95 : (c != 95) = true := by simp [q95]
                      have h95' : (c == 95) = false := by simp [q95]
                      have h45 : (c != 45) = false := by simp [q45]
                      have h45' : (c == 45) = true := by simp [q45]
                      have hh : chOk c = true := by rw [q45]; rfl
                      have H := Lib.hid hh
                      clear hh q46 q95 q45
                      go_wp2
                      go_meet
                      exact ⟨by rw [H.out]; first | rfl | (congr 1; simp; omega), rfl⟩
                    · have h46 : (c != 46) = true := by simp [q46]
                      have h46' : (c == 46) = false := by simp [q46]
                      have h95 : (c != 95) = true := by simp [q95]
                      have h95' : (c == 95) = false := by simp [q95]
                      have h45 : (c != 45) = true := by simp [q45]
                      have h45' : (c == 45) = false := by simp [q45]
                      have hh : chOk c = false := by unfold chOk; simp [q46, q95, q45]; omega
                      have H := Lib.hid hh
                      clear hh q46 q95 q45
                      go_wp2
                      go_meet
                      exact ⟨by rw [H.out]; first | rfl | (congr 1; simp; omega), rfl⟩
              · have hh : chOk c = true := by unfold chOk; simp; omega
                have H := Lib.hid hh
                clear hh
                go_wp2
                go_meet
                exact ⟨by rw [H.out]; first | rfl | (congr 1; simp; omega), rfl⟩
              · skip
                by_cases q46 : c = 46
                · have h46 : (c != 46) = false := by simp [q46]
                  have hh : chOk c = true := by rw [q46]; rfl
                  have H := Lib.hid hh
                  have h46' : (c == 46) = true := by simp [q46]
                  clear hh q46
                  go_wp2
                  go_meet
                  exact ⟨by rw [H.out]; first | rfl | (congr 1; simp; omega), rfl⟩
                · by_cases q95 : c = 95
                  · have h46 : (c != 46) = true := by simp [q46]
                    have h46' : (c == 46) = false := by simp [q46]
                    have h95 : (c != 95) = false := by simp [q95]
                    have h95' : (c == 95) = true := by simp [q95]
                    have hh : chOk c = true := by rw [q95]; rfl
                    have H := Lib.hid hh
                    clear hh q46 q95
                    go_wp2
                    go_meet
                    exact ⟨by rw [H.out]; first | rfl | (congr 1; simp; omega), rfl⟩
                  · by_cases q45 : c = 45
                    · have h46 : (c != 46) = true := by simp [q46]
                      have h46' : (c == 46) = false := by simp [q46]
                      have h95 : (c != 95) = true := by simp [q95]
                      have h95' : (c == 95) = false := by simp [q95]
                      have h45 : (c != 45) = false := by simp [q45]
                      have h45' : (c == 45) = true := by simp [q45]
                      have hh : chOk c = true := by rw [q45]; rfl
                      have H := Lib.hid hh
                      clear hh q46 q95 q45
                      go_wp2
                      go_meet
                      exact ⟨by rw [H.out]; first | rfl | (congr 1; simp; omega), rfl⟩
                    · have h46 : (c != 46) = true := by simp [q46]
                      have h46' : (c == 46) = false := by simp [q46]
                      have h95 : (c != 95) = true := by simp [q95]
                      have h95' : (c == 95) = false := by simp [q95]
                      have h45 : (c != 45) = true := by simp [q45]
                      have h45' : (c == 45) = false := by simp [q45]
                      have hh : chOk c = false := by unfold chOk; simp [q46, q95, q45]; omega
                      have H := Lib.hid hh
                      clear hh q46 q95 q45
                      go_wp2
                      go_meet
                      exact ⟨by rw [H.out]; first | rfl | (congr 1; simp; omega), rfl⟩
              · have hh : chOk c = true := by unfold chOk; simp; omega
                have H := Lib.hid hh
                clear hh
                go_wp2
                go_meet
                exact ⟨by rw [H.out]; first | rfl | (congr 1; simp; omega), rfl⟩
              · skip
                by_cases q46 : c = 46
                · have h46 : (c != 46) = false := by simp [q46]
                  have hh : chOk c = true := by rw [q46]; rfl
                  have H := Lib.hid hh
                  have h46' : (c == 46) = true := by simp [q46]
                  clear hh q46
                  go_wp2
                  go_meet
                  exact ⟨by rw [H.out]; first | rfl | (congr 1; simp; omega), rfl⟩
                · by_cases q95 : c = 95
                  · have h46 : (c != 46) = true := by simp [q46]
                    have h46' : (c == 46) = false := by simp [q46]
                    have h95 : (c != 95) = false := by simp [q95]
                    have h95' : (c == 95) = true := by simp [q95]
                    have hh : chOk c = true := by rw [q95]; rfl
                    have H := Lib.hid hh
                    clear hh q46 q95
                    go_wp2
                    go_meet
                    exact ⟨by rw [H.out]; first | rfl | (congr 1; simp; omega), rfl⟩
                  · by_cases q45 : c = 45
                    · have h46 : (c != 46) = true := by simp [q46]
                      have h46' : (c == 46) = false := by simp [q46]
                      have h95 : (c != 95) = true := by simp [q95]
                      have h95' : (c == 95) = false := by simp [q95]
                      have h45 : (c != 45) = false := by simp [q45]
                      have h45' : (c == 45) = true := by simp [q45]
                      have hh : chOk c = true := by rw [q45]; rfl
                      have H := Lib.hid hh
                      clear hh q46 q95 q45
                      go_wp2
                      go_meet
                      exact ⟨by rw [H.out]; first | rfl | (congr 1; simp; omega), rfl⟩
                    · have h46 : (c != 46) = true := by simp [q46]
                      have h46' : (c == 46) = false := by simp [q46]
                      have h95 : (c != 95) = true := by simp [q95]
                      have h95' : (c == 95) = false := by simp [q95]
                      have h45 : (c != 45) = true := by simp [q45]
                      have h45' : (c == 45) = false := by simp [q45]
                      have hh : chOk c = false := by unfold chOk; simp [q46, q95, q45]; omega
                      have H := Lib.hid hh
                      clear hh q46 q95 q45
                      go_wp2
                      go_meet
                      exact ⟨by rw [H.out]; first | rfl | (congr 1; simp; omega), rfl⟩
            case rest =>
              obtain ⟨rfl, hwx⟩ := hcut
              have hwx2 := hwx.symm
              subst hwx2
              cases hok : chOk c with
              | true =>
                have hst := (unhid_ HTO).step hlt (by rw [← HC.out]; exact hok)
                have HST := hide hst
                clear hst hok
                go_wp2
                go_round
                case rel => exact ⟨k + 1, by omega, by go_num, unhid_ HST⟩
                case measure => simp [intOf]; omega
              | false =>
                have hno := chTo.none hlt (by rw [← HC.out]; exact hok)
                have HNO := Lib.hid hno
                clear hno hok
                go_wp2
                go_ret
                exact ⟨by rw [HN.out, HNO.out]; rfl, rfl⟩
          · obtain rfl : k = s.size := by omega
            have hall := (unhid_ HTO).all
            have HALL := Lib.hid hall
            clear hall
            go_wp2
            go_ret
            exact ⟨by rw [HN.out, HALL.out]; rfl, rfl⟩
      · go_wp2
        go_ret
        exact ⟨by rw [HN.out]; rfl, rfl⟩
    · go_wp2
      go_ret
      exact ⟨by rw [HN.out]; rfl, rfl⟩
  · have hnm : nameOk s = false := by
      unfold nameOk
      simp
      intro h2 h3
      omega
    have hbad : (s.size : Int) < 1 ∨ ((1 : Int) ≤ s.size ∧ (20 : Int) < s.size) := by omega
    have HN := Lib.hid hnm
    clear hnm h1
    rcases hbad with h | ⟨h, h'⟩
    all_goals
      go_enter Tryd.func22, Tryd.ntmps22
      go_wp2
      go_ret
      exact ⟨by rw [HN.out]; rfl, rfl⟩

end Go.Proofs.YtgkjmhbkalkfkaaDoor
