/- The walk of the document's Split. -/
import Derived.Test.YtgkjmhbkalkfkaaDoorPLaw
namespace Go.Proofs.YtgkjmhbkalkfkaaDoor
open Go.RowKit
set_option linter.unusedSimpArgs false
set_option linter.unusedVariables false

theorem split_none_head {s : ByteArray} (h : 1 ≤ s.size) (hb : ¬ s[0] = 47) : splitP s = none := by
  rw [splitP_eq, if_neg]
  rintro ⟨⟨_, hp⟩, _⟩
  obtain ⟨⟨l⟩⟩ := s
  cases l with
  | nil => exact absurd h (by decide)
  | cons b l =>
    simp only [Lib.hasPrefix, List.isPrefixOf, Bool.and_true, beq_iff_eq] at hp
    exact hb hp.symm
theorem split_head {s : ByteArray} (h : 1 ≤ s.size) (h2 : s.size ≤ 120) (hb : s[0] = 47) : splitP s = if goodNames (namesS s.data.toList) = true then some (namesS s.data.toList) else none := by
  rw [splitP_eq]
  have hp : Lib.hasPrefix s.data.toList [47] = true := by
    obtain ⟨⟨l⟩⟩ := s
    cases l with
    | nil => exact absurd h (by decide)
    | cons b l =>
      simp only [Lib.hasPrefix, List.isPrefixOf, Bool.and_true, beq_iff_eq]
      exact hb.symm
  simp only [h2, hp, true_and, and_self]
theorem scan_first {s : ByteArray} (h : 1 ≤ s.size) (hb : s[0] = 47) : scanS (s.data.toList.take 1) = ([], ByteArray.empty) := by
  obtain ⟨⟨l⟩⟩ := s
  cases l with
  | nil => exact absurd h (by decide)
  | cons b l =>
    obtain rfl : b = 47 := hb
    simp only [List.take_succ_cons, List.take_zero]
    decide +kernel
theorem scan_next {s : ByteArray} {k : Nat} (h : k < s.size) : scanS (s.data.toList.take (k + 1)) = stepS (scanS (s.data.toList.take k)) s[k] := by
  rw [← scanS_snoc, List.take_succ_eq_append_getElem (by rw [sizeB]; exact h)]
  rfl
theorem fin_prefix : ∀ (l : List UInt8) (p : List ByteArray × ByteArray) (x : ByteArray), x ∈ p.1 → x ∈ fin (l.foldl stepS p)
  | [], p, x, h => by
    rw [List.foldl_nil, fin]
    split
    · exact h
    · exact List.mem_append_left _ h
  | b :: l, p, x, h => by
    rw [List.foldl_cons]
    refine fin_prefix l _ x ?_
    rw [stepS]
    split
    · exact fin_prefix [] p x h
    · exact h
theorem bad_names {l : List UInt8} {k : Nat} {x : ByteArray} (h : x ∈ (scanS (l.take k)).1) (hx : nameOk x = false) : goodNames (namesS l) = false := by
  rw [goodNames, Bool.and_eq_false_iff]
  refine .inl ?_
  rw [List.all_eq_false]
  refine ⟨x, ?_, by simp [hx]⟩
  have := fin_prefix (l.drop k) _ x h
  rw [scanS, ← List.foldl_append, List.take_append_drop] at this
  exact this
theorem bad_last {l : List UInt8} {x : ByteArray} (h : x ∈ namesS l) (hx : nameOk x = false) : goodNames (namesS l) = false := by
  rw [goodNames, Bool.and_eq_false_iff]
  refine .inl ?_
  rw [List.all_eq_false]
  exact ⟨x, h, by simp [hx]⟩

/-- what holds of the names and the word when k bytes are behind -/
def AtK (s : ByteArray) (k : Nat) (acc : List ByteArray) (cur : ByteArray) : Prop :=
  (∀ x ∈ acc, nameOk x = true) ∧ (k ≤ s.size → scanS (s.data.toList.take k) = (acc, cur)) ∧ (s.size < k → namesS s.data.toList = acc) ∧ acc.length ≤ k ∧ cur.size ≤ k
theorem AtK.start {s : ByteArray} (h : scanS (s.data.toList.take 1) = ([], ByteArray.empty)) (hs : 1 ≤ s.size) : AtK s 1 [] ByteArray.empty :=
  ⟨fun _ h => (by cases h), fun _ => h, fun h => absurd h (by omega), Nat.zero_le _, Nat.zero_le _⟩
theorem AtK.more {s : ByteArray} {k : Nat} {acc : List ByteArray} {cur : ByteArray} (h : AtK s k acc cur) (hk : k < s.size) (hb : ¬ s[k] = 47) : AtK s (k + 1) acc (cur ++ s.extract k (k + 1)) := by
  obtain ⟨h1, h2, _, h4, h5⟩ := h
  have e : s.extract k (k + 1) = ⟨#[s[k]]⟩ := by
    refine data_inj' ?_
    rw [Lib.extract_data, Nat.add_sub_cancel_left, List.drop_eq_getElem_cons (by rw [sizeB]; exact hk), List.take_succ_cons, List.take_zero]
    rfl
  refine ⟨h1, fun _ => ?_, fun h => absurd h (by omega), by omega, ?_⟩
  · rw [scan_next hk, h2 (by omega), stepS, if_neg hb, e]
  · rw [ByteArray.size_append, e]
    show cur.size + 1 ≤ _
    omega
theorem namesS_of {s : ByteArray} {k : Nat} {acc : List ByteArray} {cur : ByteArray} (h : AtK s k acc cur) (hk : k = s.size) : namesS s.data.toList = fin (acc, cur) := by
  have := h.2.1 (by omega)
  rw [List.take_of_length_le (by rw [sizeB]; omega)] at this
  rw [namesS, this]
theorem AtK.skip {s : ByteArray} {k : Nat} {acc : List ByteArray} {cur : ByteArray} (h : AtK s k acc cur) (hk : k ≤ s.size) (hb : (hk : k < s.size) → s[k] = 47) (hn : isNil cur = true) : AtK s (k + 1) acc ByteArray.empty := by
  have hf : fin (acc, cur) = acc := by rw [fin, if_pos hn]
  refine ⟨h.1, fun h' => ?_, fun h' => ?_, by have := h.2.2.2.1; omega, Nat.zero_le _⟩
  · rw [scan_next (by omega), h.2.1 (by omega), stepS, if_pos (hb (by omega)), hf]
  · rw [namesS_of h (by omega), hf]
theorem AtK.word {s : ByteArray} {k : Nat} {acc : List ByteArray} {cur : ByteArray} (h : AtK s k acc cur) (hk : k ≤ s.size) (hb : (hk : k < s.size) → s[k] = 47) (hn : isNil cur = false) (hok : nameOk cur = true) : AtK s (k + 1) (acc ++ [cur]) ByteArray.empty := by
  have hf : fin (acc, cur) = acc ++ [cur] := by rw [fin, if_neg (by simp [hn])]
  refine ⟨fun x hx => ?_, fun h' => ?_, fun h' => ?_, by have := h.2.2.2.1; simp; omega, Nat.zero_le _⟩
  · rcases List.mem_append.1 hx with hx | hx
    · exact h.1 x hx
    · obtain rfl := List.mem_singleton.1 hx
      exact hok
  · rw [scan_next (by omega), h.2.1 (by omega), stepS, if_pos (hb (by omega)), hf]
  · rw [namesS_of h (by omega), hf]
theorem AtK.bad {s : ByteArray} {k : Nat} {acc : List ByteArray} {cur : ByteArray} (h : AtK s k acc cur) (hk : k ≤ s.size) (hb : (hk : k < s.size) → s[k] = 47) (hn : isNil cur = false) (hok : nameOk cur = false) : goodNames (namesS s.data.toList) = false := by
  have hf : fin (acc, cur) = acc ++ [cur] := by rw [fin, if_neg (by simp [hn])]
  rcases Nat.lt_or_ge k s.size with h' | h'
  · refine bad_names (k := k + 1) (x := cur) ?_ hok
    rw [scan_next h', h.2.1 (by omega), stepS, if_pos (hb h'), hf]
    simp
  · refine bad_last (x := cur) ?_ hok
    rw [namesS_of h (by omega), hf]
    simp
theorem AtK.ends {s : ByteArray} {acc : List ByteArray} {cur : ByteArray} (h : AtK s (s.size + 1) acc cur) : namesS s.data.toList = acc ∧ goodNames acc = decide (acc.length ≤ 8) := by
  refine ⟨h.2.2.1 (by omega), ?_⟩
  rw [goodNames, List.all_eq_true.2 h.1, Bool.true_and]

set_option maxHeartbeats 4000000 in
theorem rsplit_any (s : ByteArray) (w : World) (h63 : s.size ≤ 9223372036854775807) :
    Calls Tryd.prog 10 #[.string s] w (SplitT s w) := by
  obtain ⟨i0, hi0, hz0, hz1, hz2⟩ := info_parts info_str
  have hI0 := Lib.hid hi0
  clear hi0
  by_cases h0 : 1 ≤ s.size ∧ s.size ≤ 120
  · obtain ⟨h1, h120⟩ := h0
    have d1 : decide ((s.size : Int) < 1) = false := by simp; omega
    have d2 : decide ((120 : Int) < (s.size : Int)) = false := by simp; omega
    by_cases hb : s[0] = 47
    · have HSP := Lib.hid (split_head h1 h120 hb)
      have HSC := hide (AtK.start (scan_first h1 hb) h1)
      have hc : ((s[0].toNat : Int) != 47) = false := by rw [hb]; rfl
      clear hb
      go_enter Tryd.func10, Tryd.ntmps10
      go_wp2_with fail
      go_loopw [4, 5, 6] (fun v sw si wr => ∃ (k : Nat) (acc : List ByteArray) (cur : ByteArray), 1 ≤ k ∧ k ≤ s.size + 1 ∧ si = .int .i64 k ∧ sw = .string cur ∧ wr.ownsRow w.heap.size 9 1 v acc.length (acc.map Value.string) ∧ Below w.heap.size w wr ∧ AtK s k acc cur) (fun _ _ si _ => s.size + 1 - (intOf si).toNat)
      case atStart => exact ⟨1, [], _, Nat.le_refl _, by omega, rfl, rfl, World.ownsRow_nil _ _ _ _, Below.refl _ _, unhid_ HSC⟩
      case round =>
        obtain ⟨k, acc, cur, hk1, hk, rfl, rfl, hown, hbq, hat⟩ := hrel
        have HOWN := hide hown
        have HBQ := hide hbq
        have HAT := hide hat
        have hzq := hbq.size
        have hacc := hat.2.2.2.1
        have hcur := hat.2.2.2.2
        by_cases hle : k ≤ s.size
        · have hleI : (k : Int) ≤ s.size := by omega
          by_cases hmore : ∃ h : k < s.size, ¬ s[k] = 47
          · obtain ⟨hlt, hb⟩ := hmore
            have hltI : (k : Int) < s.size := by omega
            have HM := hide (hat.more hlt hb)
            have hcb : ((s[k].toNat : Int) != 47) = true := by
              rw [bne_iff_ne]
              intro e
              exact hb (UInt8.toNat_inj.1 (by have : (47 : UInt8).toNat = 47 := rfl; omega))
            have hxs : (s.extract k (k + 1)).size ≤ 1 := by rw [ByteArray.size_extract]; omega
            have a1 : ∀ W : World, (Op.stringOp .add cur (s.extract k (k + 1))).run Tryd.prog W = .ok (.string (cur ++ s.extract k (k + 1))) W := fun W => run_string_add W _ _ (by omega) (by omega)
            clear hown hbq hat hb
            go_wp2
            go_roundw
            case rel => exact ⟨k + 1, acc, _, by omega, by omega, by go_num, rfl, unhid_ HOWN, unhid_ HBQ, unhid_ HM⟩
            case measure => simp [intOf]; omega
          · have hend : (h : k < s.size) → s[k] = 47 := fun h => Classical.byContradiction fun h' => hmore ⟨h, h'⟩
            obtain ⟨z, hz⟩ : ∃ b, (cur.toList == []) = b := ⟨_, rfl⟩
            have hiz : isNil cur = z := hz
            have HNM := hide (rname_any cur wr)
            obtain ⟨nm, hnm⟩ : ∃ b, nameOk cur = b := ⟨_, rfl⟩
            rw [hnm] at HNM
            have hside : (k < s.size ∧ ∃ h : k < s.size, ((s[k].toNat : Int) != 47) = false) ∨ ¬ k < s.size := by
              by_cases h : k < s.size
              · exact .inl ⟨h, h, by rw [hend h]; rfl⟩
              · exact .inr h
            cases z with
            | true =>
              have HM := hide (hat.skip hle hend hiz)
              clear hown hbq hat hiz hnm hend hmore
              rcases hside with ⟨hlt, _, hcb⟩ | hge
              · have hltI : (k : Int) < s.size := by omega
                go_wp2
                go_roundw
                case rel => exact ⟨k + 1, acc, _, by omega, by omega, by go_num, rfl, unhid_ HOWN, unhid_ HBQ, unhid_ HM⟩
                case measure => simp [intOf]; omega
              · have hge2 : ¬ (k : Int) < s.size := by omega
                go_wp2
                go_roundw
                case rel => exact ⟨k + 1, acc, _, by omega, by omega, by go_num, rfl, unhid_ HOWN, unhid_ HBQ, unhid_ HM⟩
                case measure => simp [intOf]; omega
            | false =>
              cases nm with
              | false =>
                have HB := Lib.hid (hat.bad hle hend hiz hnm)
                clear hown hbq hat hiz hnm hend hmore
                have hfin : splitP s = none := by rw [HSP.out, HB.out]; rfl
                have HF := Lib.hid hfin
                clear hfin
                rcases hside with ⟨hlt, _, hcb⟩ | hge
                · have hltI : (k : Int) < s.size := by omega
                  go_wp2_with fail
                  refine (unhid_ HNM).mono ?_
                  rintro e w' ⟨rfl, rfl⟩
                  go_wp2
                  go_ret2
                  exact ⟨unhid_ HBQ, .inl ⟨HF.out, rfl⟩⟩
                · have hge2 : ¬ (k : Int) < s.size := by omega
                  go_wp2_with fail
                  refine (unhid_ HNM).mono ?_
                  rintro e w' ⟨rfl, rfl⟩
                  go_wp2
                  go_ret2
                  exact ⟨unhid_ HBQ, .inl ⟨HF.out, rfl⟩⟩
              | true =>
                obtain ⟨A4, c4, rfl⟩ := own_slice (unhid_ HOWN)
                have HM := hide (hat.word hle hend hiz hnm)
                have hown2 := unhid_ HOWN
                clear hown hbq hat hiz hnm hend hmore
                rcases hside with ⟨hlt, _, hcb⟩ | hge
                · have hltI : (k : Int) < s.size := by omega
                  go_wp2_with (first | (go_at_call 22; refine (unhid_ HNM).mono ?_; rintro e w' ⟨rfl, hw'⟩; obtain rfl := hw'.symm) | (at_builtin; refine wpList_append_any _ rfl _ _ _ rfl w.heap.size 9 i0 _ 1 16 Tryd.underlying23 hI0.out hz0 hz1 hz2 rfl (by omega) _ _ _ rfl (hown2.alloc _) (wr.heap.size + 1) (some ⟨wr.heap.size, 0, none⟩) 1 1 [.string cur] rfl (Reads.one _ _ _) (by simp [Value.oneCell']) (by simp only [maxLen]; omega) (by omega) (by simp; omega) ?_; intro v1 w3 hown3 hg3 hat3))
                  go_roundw
                  case rel => exact ⟨k + 1, acc ++ [cur], _, by omega, by omega, by go_num, rfl, by simpa using hown3, ((unhid_ HBQ).alloc (by omega) _).grown hg3 (by simp; omega) (fun g hg => (hown2.lt g hg).1), unhid_ HM⟩
                  case measure => simp [intOf]; omega
                · have hge2 : ¬ (k : Int) < s.size := by omega
                  go_wp2_with (first | (go_at_call 22; refine (unhid_ HNM).mono ?_; rintro e w' ⟨rfl, hw'⟩; obtain rfl := hw'.symm) | (at_builtin; refine wpList_append_any _ rfl _ _ _ rfl w.heap.size 9 i0 _ 1 16 Tryd.underlying23 hI0.out hz0 hz1 hz2 rfl (by omega) _ _ _ rfl (hown2.alloc _) (wr.heap.size + 1) (some ⟨wr.heap.size, 0, none⟩) 1 1 [.string cur] rfl (Reads.one _ _ _) (by simp [Value.oneCell']) (by simp only [maxLen]; omega) (by omega) (by simp; omega) ?_; intro v1 w3 hown3 hg3 hat3))
                  go_roundw
                  case rel => exact ⟨k + 1, acc ++ [cur], _, by omega, by omega, by go_num, rfl, by simpa using hown3, ((unhid_ HBQ).alloc (by omega) _).grown hg3 (by simp; omega) (fun g hg => (hown2.lt g hg).1), unhid_ HM⟩
                  case measure => simp [intOf]; omega
        · obtain rfl : k = s.size + 1 := by omega
          obtain ⟨A4, c4, rfl⟩ := own_slice hown
          obtain ⟨hn, hg⟩ := hat.ends
          have hgt : ¬ ((s.size + 1 : Nat) : Int) ≤ s.size := by omega
          by_cases h8 : acc.length ≤ 8
          · have d3 : decide ((8 : Int) < (acc.length : Int)) = false := by simp; omega
            have hfin : splitP s = some acc := by rw [HSP.out, hn, hg, if_pos (by simpa using h8)]
            have HF := Lib.hid hfin
            clear hown hbq hat hn hg hfin
            go_wp2
            go_ret2
            exact ⟨unhid_ HBQ, .inr ⟨A4, c4, acc, HF.out, h8, rfl, unhid_ HOWN⟩⟩
          · have d3 : decide ((8 : Int) < (acc.length : Int)) = true := by simp; omega
            have hfin : splitP s = none := by rw [HSP.out, hn, hg, if_neg (by simpa using h8)]
            have HF := Lib.hid hfin
            clear hown hbq hat hn hg hfin
            go_wp2
            go_ret2
            exact ⟨unhid_ HBQ, .inl ⟨HF.out, rfl⟩⟩
    · have HS := Lib.hid (split_none_head h1 hb)
      have hc : ((s[0].toNat : Int) != 47) = true := by
        rw [bne_iff_ne]
        intro e
        exact hb (UInt8.toNat_inj.1 (by have : (47 : UInt8).toNat = 47 := rfl; omega))
      clear hb
      go_enter Tryd.func10, Tryd.ntmps10
      go_wp2
      go_ret2
      exact ⟨Below.refl _ _, .inl ⟨HS.out, rfl⟩⟩
  · have hs : splitP s = none := by
      rw [splitP_eq, if_neg]
      rintro ⟨⟨h1, h2⟩, _⟩
      refine h0 ⟨?_, h1⟩
      have h3 := sizeB s
      cases hd : s.data.toList with
      | nil => rw [hd] at h2; simp [Lib.hasPrefix, List.isPrefixOf] at h2
      | cons b l => rw [hd, List.length_cons] at h3; omega
    have HS := Lib.hid hs
    have hbad : (s.size : Int) < 1 ∨ ((1 : Int) ≤ s.size ∧ (120 : Int) < s.size) := by omega
    clear hs h0
    rcases hbad with h | ⟨h, h'⟩
    all_goals
      go_enter Tryd.func10, Tryd.ntmps10
      go_wp2
      go_ret2
      exact ⟨Below.refl _ _, .inl ⟨HS.out, rfl⟩⟩
end Go.Proofs.YtgkjmhbkalkfkaaDoor
