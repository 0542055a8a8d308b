/- The walk of the law PathSlashes. -/
import Derived.Test.YtgkjmhbkalkfkaaDoorPSplits
import Derived.Test.YtgkjmhbkalkfkaaDoorPlace
namespace Go.Proofs.YtgkjmhbkalkfkaaDoor
open Go.RowKit
set_option linter.unusedSimpArgs false
set_option linter.unusedVariables false

def sl2 : ByteArray := ⟨#[47, 47]⟩
/-- what holds of the text with more slashes when k bytes are behind, c slashes among them -/
def SlK (s : ByteArray) (pl k : Nat) (T : ByteArray) (c : Nat) : Prop :=
  scanS T.data.toList = scanS (s.data.toList.take k) ∧ T.size = k + (if pl < c then 2 else 0) ∧ (0 < k → Lib.hasPrefix T.data.toList [47] = true) ∧ c ≤ k
theorem SlK.start (s : ByteArray) (pl : Nat) : SlK s pl 0 ByteArray.empty 0 := ⟨rfl, rfl, fun h => absurd h (by omega), Nat.le_refl _⟩
theorem extract_one {s : ByteArray} {k : Nat} (hk : k < s.size) : s.extract k (k + 1) = ⟨#[s[k]]⟩ := by
  refine data_inj' ?_
  rw [Lib.extract_data, Nat.add_sub_cancel_left, List.drop_eq_getElem_cons (by rw [sizeB]; exact hk), List.take_succ_cons, List.take_zero]
  rfl
theorem prefix_append {T x : ByteArray} (h : Lib.hasPrefix T.data.toList [47] = true) : Lib.hasPrefix (T ++ x).data.toList [47] = true := by
  rw [ByteArray.data_append, Array.toList_append]
  cases hd : T.data.toList with
  | nil => rw [hd] at h; simp [Lib.hasPrefix, List.isPrefixOf] at h
  | cons b l => rw [hd] at h; simpa [Lib.hasPrefix, List.isPrefixOf] using h
theorem data_app (a b : ByteArray) : (a ++ b).data.toList = a.data.toList ++ b.data.toList := by rw [ByteArray.data_append, Array.toList_append]
theorem empty_of_size {T : ByteArray} (h : T.size = 0) : T = ByteArray.empty := by
  refine data_inj' ?_
  have := sizeB T
  rw [h] at this
  rw [List.eq_nil_of_length_eq_zero this]
  rfl
theorem SlK.pre {s : ByteArray} {pl k : Nat} {T : ByteArray} {c : Nat} (h : SlK s pl k T c) (hk : k < s.size) (h0 : s[0] = 47) : Lib.hasPrefix (T ++ s.extract k (k + 1)).data.toList [47] = true := by
  rcases Nat.eq_zero_or_pos k with h' | h'
  · subst h'
    have hc : c = 0 := by have := h.2.2.2; omega
    have hT : T = ByteArray.empty := empty_of_size (by rw [h.2.1, hc]; rfl)
    rw [hT, extract_one hk, h0]
    decide +kernel
  · exact prefix_append (h.2.2.1 h')
theorem SlK.other {s : ByteArray} {pl k : Nat} {T : ByteArray} {c : Nat} (h : SlK s pl k T c) (hk : k < s.size) (h0 : s[0] = 47) (hb : ¬ s[k] = 47) : SlK s pl (k + 1) (T ++ s.extract k (k + 1)) c := by
  refine ⟨?_, ?_, fun _ => h.pre hk h0, by have := h.2.2.2; omega⟩
  · rw [data_app, extract_one hk, scan_next hk, ← h.1, ← scanS_snoc]
  · rw [ByteArray.size_append, h.2.1, extract_one hk, show (⟨#[s[k]]⟩ : ByteArray).size = 1 from rfl]
    omega
theorem SlK.sl_step {s : ByteArray} {pl k : Nat} {T : ByteArray} {c : Nat} (h : SlK s pl k T c) (hk : k < s.size) (h0 : s[0] = 47) (hb : s[k] = 47) (hc : ¬ c = pl) : SlK s pl (k + 1) (T ++ s.extract k (k + 1)) (c + 1) := by
  refine ⟨?_, ?_, fun _ => h.pre hk h0, by have := h.2.2.2; omega⟩
  · rw [data_app, extract_one hk, scan_next hk, ← h.1, ← scanS_snoc]
  · rw [ByteArray.size_append, h.2.1, extract_one hk, show (⟨#[s[k]]⟩ : ByteArray).size = 1 from rfl]
    split <;> split <;> omega
theorem SlK.more {s : ByteArray} {pl k : Nat} {T : ByteArray} {c : Nat} (h : SlK s pl k T c) (hk : k < s.size) (h0 : s[0] = 47) (hb : s[k] = 47) (hc : c = pl) : SlK s pl (k + 1) (T ++ s.extract k (k + 1) ++ sl2) (c + 1) := by
  refine ⟨?_, ?_, fun _ => prefix_append (h.pre hk h0), by have := h.2.2.2; omega⟩
  · have e := scan_slashes T.data.toList []
    rw [List.append_nil, List.append_nil] at e
    rw [data_app, data_app, extract_one hk, scan_next hk, ← h.1, ← scanS_snoc, hb, List.append_assoc]
    exact e
  · rw [ByteArray.size_append, ByteArray.size_append, h.2.1, extract_one hk, show (⟨#[s[k]]⟩ : ByteArray).size = 1 from rfl, show sl2.size = 2 from rfl]
    split <;> split <;> omega
theorem SlK.size_le {s : ByteArray} {pl k : Nat} {T : ByteArray} {c : Nat} (h : SlK s pl k T c) : T.size ≤ k + 2 := by
  rw [h.2.1]
  split <;> omega
theorem SlK.ends {s : ByteArray} {pl : Nat} {T : ByteArray} {c : Nat} (h : SlK s pl s.size T c) (h1 : 1 ≤ s.size) (h2 : s.size ≤ 110) {l : List ByteArray} (hl : splitP s = some l) : splitP (T ++ slash) = some l := by
  obtain ⟨_, hg, hn⟩ := splitP_some hl
  have e : namesS (T ++ slash).data.toList = l := by
    rw [data_app, show slash.data.toList = [47] from rfl, names_slash, namesS, h.1, List.take_of_length_le (by rw [sizeB]; omega), hn]
    rfl
  have hs := h.size_le
  have hz : (T ++ slash).size ≤ 120 := by
    rw [ByteArray.size_append, show slash.size = 1 from rfl]
    omega
  rw [splitP_eq, e, if_pos ⟨⟨hz, prefix_append (h.2.2.1 (by omega))⟩, hg⟩]
theorem head_of_some {s : ByteArray} {l : List ByteArray} (h : splitP s = some l) (h1 : 1 ≤ s.size) : s[0] = 47 := by
  refine Classical.byContradiction fun hb => ?_
  rw [split_none_head h1 hb] at h
  cases h

set_option maxHeartbeats 4000000 in
theorem pathSlashes_any (s : ByteArray) (at_ : Int) (w : World) (m : Int) (hm : w.cell? ⟨0, 0, none⟩ = some (.int .i64 m)) (h63 : s.size ≤ 9223372036854775807) :
    Calls Tryd.prog 4 #[.string s, .int .i64 at_] w (Yes w) := by
  have HM := Lib.hid hm
  have HAW := hide (fun (w1 : World) (hb : Below w.heap.size w w1) => awake_at hm hb)
  by_cases h2 : 1 ≤ s.size ∧ s.size ≤ 110
  · obtain ⟨h1, h2⟩ := h2
    have d1 : decide ((s.size : Int) < 1) = false := by simp; omega
    have d2 : decide ((110 : Int) < (s.size : Int)) = false := by simp; omega
    have HSP := hide (split_any s m w hm h63)
    obtain ⟨pl, hpl, _, hplace⟩ := place_nat at_ 5 (by omega) (by omega)
    have HPL := hide hplace
    clear hm hplace
    go_enter Tryd.func4, Tryd.ntmps4
    go_wp2_with fail
    refine (unhid_ HSP).mono ?_
    rintro e w1 ⟨hb1, hor⟩
    have HB1 := hide hb1
    clear HSP hb1
    rcases hor with ⟨hnone, rfl⟩ | ⟨A1, c1, l, hsome, hl8, rfl, hown1⟩
    · clear hnone
      go_wp2_with fail
      refine ((unhid_ HAW) _ (unhid_ HB1)).mono ?_
      rintro e w4 ⟨rfl, hb4⟩
      go_wp2
      go_ret
      exact ⟨rfl, hb4⟩
    · have h0 := head_of_some hsome h1
      have H0 := Lib.hid h0
      have HN := Lib.hid hsome
      have HOWN1 := hide hown1
      clear hsome hown1 h0
      go_wp2_with fail
      go_loop [7, 8, 9] (fun st sn si => ∃ (k : Nat) (T : ByteArray) (c : Nat), k ≤ s.size ∧ si = .int .i64 k ∧ st = .string T ∧ sn = .int .i64 c ∧ SlK s pl k T c) (fun _ _ si => s.size - (intOf si).toNat)
      case atStart => exact ⟨0, _, 0, Nat.zero_le _, rfl, rfl, rfl, SlK.start s pl⟩
      case round =>
        obtain ⟨k, T, c, hk, rfl, rfl, rfl, hsl⟩ := hrel
        have hts := hsl.size_le
        have hck := hsl.2.2.2
        by_cases hlt : k < s.size
        · have hltI : (k : Int) < s.size := by omega
          have hxs : (s.extract k (k + 1)).size ≤ 1 := by rw [ByteArray.size_extract]; omega
          have hts2 : (T ++ s.extract k (k + 1)).size ≤ k + 3 := by rw [ByteArray.size_append]; omega
          have a1 : ∀ W : World, (Op.stringOp .add T (s.extract k (k + 1))).run Tryd.prog W = .ok (.string (T ++ s.extract k (k + 1))) W := fun W => run_string_add W _ _ (by omega) (by omega)
          by_cases hb : s[k] = 47
          · have hcb : ((s[k].toNat : Int) == 47) = true := by rw [hb]; rfl
            by_cases hcp : c = pl
            · have HS := hide (hsl.more hlt H0.out hb hcp)
              have hcp1 : ((c : Int) == (pl : Int)) = true := by rw [hcp]; simp
              have a2 : ∀ W : World, (Op.stringOp .add (T ++ s.extract k (k + 1)) ⟨#[47, 47]⟩).run Tryd.prog W = .ok (.string (T ++ s.extract k (k + 1) ++ sl2)) W := fun W => run_string_add W _ _ (by omega) (by show 2 ≤ _; omega)
              clear hsl hb hcp
              go_wp2_with fail
              refine ((unhid_ HPL) _).mono ?_
              rintro e w' ⟨rfl, rfl⟩
              go_wp2
              go_round
              case rel => exact ⟨k + 1, _, c + 1, by omega, by go_num, rfl, by go_num, unhid_ HS⟩
              case measure => simp [intOf]; omega
            · have HS := hide (hsl.sl_step hlt H0.out hb hcp)
              have hcp1 : ((c : Int) == (pl : Int)) = false := by rw [beq_eq_false_iff_ne]; omega
              clear hsl hb hcp
              go_wp2_with fail
              refine ((unhid_ HPL) _).mono ?_
              rintro e w' ⟨rfl, rfl⟩
              go_wp2
              go_round
              case rel => exact ⟨k + 1, _, c + 1, by omega, by go_num, rfl, by go_num, unhid_ HS⟩
              case measure => simp [intOf]; omega
          · have hcb : ((s[k].toNat : Int) == 47) = false := by
              rw [beq_eq_false_iff_ne]
              intro e
              exact hb (UInt8.toNat_inj.1 (by have : (47 : UInt8).toNat = 47 := rfl; omega))
            have HS := hide (hsl.other hlt H0.out hb)
            clear hsl hb
            go_wp2
            go_round
            case rel => exact ⟨k + 1, _, c, by omega, by go_num, rfl, rfl, unhid_ HS⟩
            case measure => simp [intOf]; omega
        · obtain rfl : k = s.size := by omega
          have HEN := Lib.hid (hsl.ends h1 h2 HN.out)
          have a1 : ∀ W : World, (Op.stringOp .add T ⟨#[47]⟩).run Tryd.prog W = .ok (.string (T ++ slash)) W := fun W => run_string_add W _ _ (by omega) (by show 1 ≤ _; omega)
          obtain ⟨T2, hT2⟩ : ∃ T2, T2 = T ++ slash := ⟨_, rfl⟩
          have hen := HEN.out
          rw [← hT2] at a1 hen
          have hT2s : T2.size ≤ 1000 := by rw [hT2, ByteArray.size_append, show slash.size = 1 from rfl]; omega
          have HEN2 := Lib.hid hen
          have HSP := hide (split_any T2 m w1 (max_of' HM.out (unhid_ HB1)) (by omega))
          clear HEN hen hT2 hsl
          go_wp2_with fail
          refine (unhid_ HSP).mono ?_
          rintro e w6 ⟨hb6, hor⟩
          obtain ⟨A6, c6, rfl, hown6⟩ : ∃ A6 c6, e = .returned (.tuple #[.slice A6 l.length c6, .bool true]) ∧ w6.ownsRow w1.heap.size 9 1 (.slice A6 l.length c6) l.length (l.map Value.string) := by
            rcases hor with ⟨h, _⟩ | ⟨A, c, l', h, _, he, ho⟩
            · rw [HEN2.out] at h; cases h
            · rw [HEN2.out] at h
              injection h with h
              subst h
              exact ⟨A, c, he, ho⟩
          have HB6 := hide ((unhid_ HB1).trans (hb6.mono (unhid_ HB1).size))
          have hownm6 := own_only (unhid_ HOWN1) (Only.of_below hb6 []) (by simp)
          have HST := hide (sameTexts_any _ _ A1 A6 l.length c1 l.length c6 l l w6 (RS.of_own hownm6) (RS.of_own hown6) (by omega) (by omega))
          clear hor hb6 hownm6 hown6 HB1 HOWN1 HSP
          go_wp2_with fail
          refine (unhid_ HST).mono ?_
          rintro e w8 ⟨rfl, q8, rfl⟩
          simp only [decide_true]
          have HB8 := hide (belowN (unhid_ HB6) q8)
          clear HST HB6
          go_wp2_with fail
          refine ((unhid_ HAW) _ (unhid_ HB8)).mono ?_
          rintro e w9 ⟨rfl, hb9⟩
          go_wp2
          go_ret
          exact ⟨rfl, hb9⟩
  · have hbad : (s.size : Int) < 1 ∨ ((1 : Int) ≤ s.size ∧ (110 : Int) < s.size) := by omega
    clear hm h2
    rcases hbad with h | ⟨h, h'⟩
    all_goals
      go_enter Tryd.func4, Tryd.ntmps4
      go_wp2_with fail
      refine ((unhid_ HAW) _ (Below.refl _ _)).mono ?_
      rintro e w9 ⟨rfl, hb9⟩
      go_wp2
      go_ret
      exact ⟨rfl, hb9⟩
end Go.Proofs.YtgkjmhbkalkfkaaDoor
