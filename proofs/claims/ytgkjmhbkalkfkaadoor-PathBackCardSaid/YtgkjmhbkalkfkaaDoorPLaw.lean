/- Plain laws: the names of a text by a scan; Split's answer by the scan; joined names are split into themselves. -/
import Derived.Test.YtgkjmhbkalkfkaaDoorPJoin
namespace Go.Proofs.YtgkjmhbkalkfkaaDoor
open Go.RowKit

def bytesB (l : List UInt8) : ByteArray := ⟨l.toArray⟩
theorem bytesB_data (x : ByteArray) : bytesB x.data.toList = x := by cases x; rfl
theorem data_bytesB (l : List UInt8) : (bytesB l).data.toList = l := rfl
theorem data_inj' {a b : ByteArray} (h : a.data.toList = b.data.toList) : a = b := by rw [← bytesB_data a, h, bytesB_data]
theorem sizeB (x : ByteArray) : x.data.toList.length = x.size := by cases x; rfl
theorem size_bytesB (l : List UInt8) : (bytesB l).size = l.length := by rw [← sizeB, data_bytesB]
theorem isNil_iff (x : ByteArray) : isNil x = true ↔ x = ByteArray.empty := by
  rw [isNil, ByteArray.toList_eq, beq_iff_eq]
  constructor
  · intro h; exact data_inj' h
  · rintro rfl; rfl

/-- the names that are whole, and the one that is being read -/
def fin (p : List ByteArray × ByteArray) : List ByteArray := if isNil p.2 = true then p.1 else p.1 ++ [p.2]
def stepS (p : List ByteArray × ByteArray) (b : UInt8) : List ByteArray × ByteArray := if b = 47 then (fin p, ByteArray.empty) else (p.1, p.2 ++ ⟨#[b]⟩)
def scanS (l : List UInt8) : List ByteArray × ByteArray := l.foldl stepS ([], ByteArray.empty)
def namesS (l : List UInt8) : List ByteArray := fin (scanS l)
theorem scanS_snoc (l : List UInt8) (b : UInt8) : scanS (l ++ [b]) = stepS (scanS l) b := by simp [scanS]
theorem fin_empty (a : List ByteArray) : fin (a, ByteArray.empty) = a := by rw [fin, if_pos ((isNil_iff _).2 rfl)]
theorem scan_slashes (l r : List UInt8) : scanS (l ++ [47, 47, 47] ++ r) = scanS (l ++ [47] ++ r) := by
  simp only [scanS, List.foldl_append, List.foldl_cons, List.foldl_nil]
  rw [show ∀ p, stepS (stepS (stepS p 47) 47) 47 = stepS p 47 from fun p => by simp [stepS, fin_empty]]
theorem names_slash (l : List UInt8) : namesS (l ++ [47]) = namesS l := by rw [namesS, scanS_snoc, stepS, if_pos rfl, fin_empty]; rfl

/-- pieces between slashes, the first one begun -/
def cutF (cur : ByteArray) : List UInt8 → List ByteArray
  | [] => [cur]
  | b :: l => if b = 47 then cur :: cutF ByteArray.empty l else cutF (cur ++ ⟨#[b]⟩) l
theorem fin_scan : ∀ (l : List UInt8) (a : List ByteArray) (cur : ByteArray), fin (l.foldl stepS (a, cur)) = a ++ (cutF cur l).filter fun x => !isNil x
  | [], a, cur => by
    rw [List.foldl_nil, fin, cutF, List.filter_cons]
    cases h : isNil cur <;> simp
  | b :: l, a, cur => by
    rw [List.foldl_cons, cutF, stepS]
    by_cases hb : b = 47
    · rw [if_pos hb, if_pos hb, fin_scan l, List.filter_cons, fin]
      cases h : isNil cur <;> simp
    · rw [if_neg hb, if_neg hb, fin_scan l]
/-- on lists -/
def cutL (cur : List UInt8) : List UInt8 → List (List UInt8)
  | [] => [cur]
  | b :: l => if b = 47 then cur :: cutL [] l else cutL (cur ++ [b]) l
theorem cutF_data : ∀ (l : List UInt8) (cur : ByteArray), (cutF cur l).map (·.data.toList) = cutL cur.data.toList l
  | [], cur => rfl
  | b :: l, cur => by
    rw [cutF, cutL]
    by_cases hb : b = 47
    · rw [if_pos hb, if_pos hb, List.map_cons, cutF_data l]; rfl
    · rw [if_neg hb, if_neg hb, cutF_data l]; simp
theorem cutL_head : ∀ (l cur : List UInt8), ∃ x xs, cutL [] l = x :: xs ∧ cutL cur l = (cur ++ x) :: xs
  | [], cur => ⟨[], [], rfl, by simp [cutL]⟩
  | b :: l, cur => by
    by_cases hb : b = 47
    · exact ⟨[], cutL [] l, by rw [cutL, if_pos hb], by rw [cutL, if_pos hb]; simp⟩
    · obtain ⟨x, xs, h1, h2⟩ := cutL_head l ([] ++ [b])
      obtain ⟨x', xs', h1', h2'⟩ := cutL_head l (cur ++ [b])
      rw [h1] at h1'
      injection h1' with e1 e2
      subst e1 e2
      exact ⟨[b] ++ x, xs, by rw [cutL, if_neg hb, h2]; rfl, by rw [cutL, if_neg hb, h2']; simp⟩
theorem cutL_cons {b : UInt8} (hb : b ≠ 47) {l x : List UInt8} {xs : List (List UInt8)} (h : cutL [] l = x :: xs) : cutL [] (b :: l) = (b :: x) :: xs := by
  obtain ⟨x', xs', h1, h2⟩ := cutL_head l ([] ++ [b])
  rw [h] at h1
  injection h1 with e1 e2
  subst e1 e2
  rw [cutL, if_neg hb, h2]
  rfl
theorem splitK_cut : ∀ (l : List UInt8), Lib.splitK [47] 0 (Lib.count l [47]) l = cutL [] l
  | [] => by rw [Lib.count_miss (by simp [Lib.index])]; rfl
  | b :: l => by
    by_cases hb : b = 47
    · subst hb
      have hix : Lib.index (47 :: l) [47] = ((0 : Nat) : Int) := by rw [Lib.index]; simp [List.isPrefixOf]
      rw [Lib.count_cons_eq, Nat.add_comm, Lib.splitK, if_neg (by rw [hix]; decide), hix, cutL, if_pos rfl]
      simp only [Int.toNat_natCast, Nat.zero_add, List.take_zero, List.length_cons, List.length_nil, List.drop_succ_cons, List.drop_zero]
      rw [splitK_cut l]
    · have ih := splitK_cut l
      have hp : ([47] : List UInt8).isPrefixOf (b :: l) = false := by simp [List.isPrefixOf, Ne.symm hb]
      have hix : Lib.index (b :: l) [47] = if Lib.index l [47] == -1 then -1 else Lib.index l [47] + 1 := by rw [Lib.index, hp]; simp
      rw [Lib.count_cons_ne b 47 l hb]
      by_cases hm : Lib.index l [47] = -1
      · rw [Lib.count_miss hm] at ih ⊢
        rw [Lib.splitK] at ih ⊢
        exact (cutL_cons hb ih.symm).symm
      · have hge := Lib.index_ge l [47]
        obtain ⟨j, hj⟩ : ∃ j : Nat, Lib.index l [47] = j := ⟨(Lib.index l [47]).toNat, by omega⟩
        have hix' : Lib.index (b :: l) [47] = ((j + 1 : Nat) : Int) := by rw [hix, if_neg (fun e => hm (beq_iff_eq.1 e)), hj]; rfl
        rw [Lib.count_hit (by simp) hj, Nat.add_comm] at ih ⊢
        rw [Lib.splitK, if_neg (by rw [hj]; simp), hj] at ih
        rw [Lib.splitK, if_neg (by rw [hix']; simp; omega), hix']
        have h2 := (cutL_cons hb ih.symm).symm
        simp only [Int.toNat_natCast, List.length_cons, List.length_nil] at h2 ⊢
        rw [show j + 1 + (0 + 1) = (j + (0 + 1)) + 1 from by omega, List.drop_succ_cons, show j + 1 + 0 = (j + 0) + 1 from rfl, List.take_succ_cons]
        exact h2
theorem pieces_cut (s : ByteArray) : pieces s = cutF ByteArray.empty s.data.toList := by
  have h1 : (pieces s).map (·.data.toList) = (cutF ByteArray.empty s.data.toList).map (·.data.toList) := by
    rw [cutF_data, pieces, Lib.splitB_data]
    exact splitK_cut s.data.toList
  have h2 := congrArg (List.map bytesB) h1
  simp only [List.map_map] at h2
  rw [show (bytesB ∘ fun x : ByteArray => x.data.toList) = id from funext bytesB_data, List.map_id, List.map_id] at h2
  exact h2
def goodNames (l : List ByteArray) : Bool := l.all nameOk && decide (l.length ≤ 8)
theorem foldP_eq : ∀ (xs acc : List ByteArray), acc.length ≤ 8 →
    foldP acc xs = if (xs.filter fun x => !isNil x).all nameOk = true ∧ acc.length + (xs.filter fun x => !isNil x).length ≤ 8 then some (acc ++ xs.filter fun x => !isNil x) else none
  | [], acc, h => by simp [foldP, h]
  | x :: xs, acc, h => by
    rw [List.filter_cons]
    cases hn : isNil x with
    | true => rw [foldP_nil hn, foldP_eq xs acc h]; simp
    | false =>
      simp only [Bool.not_false, if_true, List.all_cons, List.length_cons, Bool.and_eq_true]
      by_cases hok : nameOk x = true
      · by_cases h8 : acc.length < 8
        · rw [foldP_ok hn hok h8, foldP_eq xs _ (by simp; omega)]
          simp only [List.length_append, List.length_cons, List.length_nil, hok, true_and, List.append_assoc, List.singleton_append]
          rw [show acc.length + (0 + 1) + (xs.filter fun x => !isNil x).length = acc.length + ((xs.filter fun x => !isNil x).length + 1) from by omega]
        · rw [foldP_bad hn (.inr (by omega)), if_neg (by omega)]
      · rw [foldP_bad hn (.inl (by simpa using hok)), if_neg (fun h => hok h.1.1)]
theorem names_pieces (s : ByteArray) : (pieces s).filter (fun x => !isNil x) = namesS s.data.toList := by
  rw [pieces_cut, namesS, scanS, fin_scan]
  rfl
theorem splitP_eq (s : ByteArray) : splitP s = if (s.size ≤ 120 ∧ Lib.hasPrefix s.data.toList [47] = true) ∧ goodNames (namesS s.data.toList) = true then some (namesS s.data.toList) else none := by
  rw [splitP]
  by_cases h : s.size ≤ 120 ∧ Lib.hasPrefix s.data.toList [47] = true
  · rw [if_pos h, foldP_eq _ _ (by simp), names_pieces]
    simp only [goodNames, Bool.and_eq_true, decide_eq_true_iff, List.length_nil, Nat.zero_add, List.nil_append, h, true_and, and_self]
  · rw [if_neg h, if_neg (fun h' => h h'.1)]

/-- no slash in a name -/
theorem name_noslash {x : ByteArray} (h : nameOk x = true) : ∀ b ∈ x.data.toList, b ≠ 47 := by
  rintro b hb rfl
  simp only [nameOk, Bool.and_eq_true] at h
  have h1 := h.2.2.2.2
  rw [List.all_eq_true] at h1
  obtain ⟨j, hj, he⟩ := List.getElem_of_mem hb
  have h2 := h1 j (List.mem_range.2 (by simpa using hj))
  rw [List.getD_eq_getElem?_getD, List.getElem?_eq_getElem hj, he] at h2
  revert h2
  decide
theorem name_notnil {x : ByteArray} (h : nameOk x = true) : isNil x = false := by
  cases hn : isNil x with
  | false => rfl
  | true =>
    rw [(isNil_iff x).1 hn] at h
    revert h
    decide
theorem name_size {x : ByteArray} (h : nameOk x = true) : 1 ≤ x.size ∧ x.size ≤ 20 := by
  simp only [nameOk, Bool.and_eq_true, decide_eq_true_iff] at h
  exact ⟨h.1, h.2.1⟩
theorem scan_word : ∀ (l : List UInt8) (a : List ByteArray) (cur : ByteArray), (∀ b ∈ l, b ≠ 47) → l.foldl stepS (a, cur) = (a, cur ++ bytesB l)
  | [], a, cur, _ => by
    simp only [List.foldl_nil, Prod.mk.injEq, true_and]
    exact data_inj' (by simp [bytesB])
  | b :: l, a, cur, h => by
    rw [List.foldl_cons, stepS, if_neg (h b (by simp)), scan_word l _ _ (fun b' hb => h b' (by simp [hb]))]
    congr 1
    exact data_inj' (by simp [bytesB])
theorem scan_tail : ∀ (xs : List ByteArray) (p : List ByteArray × ByteArray), (∀ x ∈ xs, nameOk x = true) → fin ((Lib.joinTail [47] (xs.map (·.data.toList))).foldl stepS p) = fin p ++ xs
  | [], p, _ => by simp [Lib.joinTail]
  | x :: xs, p, h => by
    have hx := h x (by simp)
    have e : Lib.joinTail [47] ((x :: xs).map (·.data.toList)) = 47 :: (x.data.toList ++ Lib.joinTail [47] (xs.map (·.data.toList))) := by simp [Lib.joinTail]
    have hc : ByteArray.empty ++ bytesB x.data.toList = x := data_inj' (by simp [bytesB])
    rw [e, List.foldl_cons, stepS, if_pos rfl, List.foldl_append, scan_word _ _ _ (name_noslash hx), hc, scan_tail xs _ (fun y hy => h y (by simp [hy])), fin, if_neg (by rw [name_notnil hx]; decide)]
    simp
theorem joinP_data (xs : List ByteArray) (h : xs ≠ []) : (joinP xs).data.toList = Lib.joinTail [47] (xs.map (·.data.toList)) := by
  cases xs with
  | nil => exact absurd rfl h
  | cons x r =>
    rw [joinP, joinL, List.map_cons, Lib.join_cons]
    simp [slash, Lib.joinTail]
theorem names_join (xs : List ByteArray) (h : ∀ x ∈ xs, nameOk x = true) : namesS (joinP xs).data.toList = xs := by
  by_cases h0 : xs = []
  · subst h0; decide +kernel
  · rw [joinP_data xs h0, namesS, scanS, scan_tail xs _ h, fin_empty]
    rfl
def wt (xs : List ByteArray) : Nat := (xs.map fun x => x.size + 1).sum
theorem joinP_size (xs : List ByteArray) : (joinP xs).size ≤ 1 + wt xs := by
  by_cases h0 : xs = []
  · subst h0; decide +kernel
  · have h1 : (joinP xs).size = (joinP xs).data.toList.length := (sizeB _).symm
    rw [h1, joinP_data xs h0]
    have : ∀ ys : List ByteArray, (Lib.joinTail [47] (ys.map (·.data.toList))).length = wt ys := by
      intro ys
      induction ys with
      | nil => rfl
      | cons y ys ih =>
        have e : Lib.joinTail [47] ((y :: ys).map (·.data.toList)) = 47 :: (y.data.toList ++ Lib.joinTail [47] (ys.map (·.data.toList))) := by simp [Lib.joinTail]
        have hs : y.data.toList.length = y.size := sizeB y
        rw [e, List.length_cons, List.length_append, ih, hs, wt, wt, List.map_cons, List.sum_cons]
        omega
    rw [this]
    omega
theorem joinP_size' (xs : List ByteArray) (h : xs ≠ []) : (joinP xs).size = wt xs := by
  have h1 : (joinP xs).size = (joinP xs).data.toList.length := (sizeB _).symm
  rw [h1, joinP_data xs h]
  clear h h1
  induction xs with
  | nil => rfl
  | cons y ys ih =>
    have e : Lib.joinTail [47] ((y :: ys).map (·.data.toList)) = 47 :: (y.data.toList ++ Lib.joinTail [47] (ys.map (·.data.toList))) := by simp [Lib.joinTail]
    have hs : y.data.toList.length = y.size := sizeB y
    rw [e, List.length_cons, List.length_append, ih, hs, wt, wt, List.map_cons, List.sum_cons]
    omega
theorem joinP_head (xs : List ByteArray) : Lib.hasPrefix (joinP xs).data.toList [47] = true := by
  rw [joinP]
  simp [slash, Lib.hasPrefix, List.isPrefixOf]
theorem joinL_length (xs : List ByteArray) : (joinL xs).length ≤ (joinP xs).size := by
  rw [joinP, ByteArray.size_append, show (⟨(joinL xs).toArray⟩ : ByteArray).size = (joinL xs).length from size_bytesB _]
  omega
/-- names that may be, joined, are split into themselves -/
theorem split_join (xs : List ByteArray) (h : goodNames xs = true) (hw : wt xs ≤ 119) : splitP (joinP xs) = some xs := by
  have h' := h
  rw [goodNames, Bool.and_eq_true, List.all_eq_true] at h'
  have hs := joinP_size xs
  rw [splitP_eq, names_join xs h'.1, if_pos ⟨⟨by omega, joinP_head xs⟩, h⟩]
theorem wt_append (a b : List ByteArray) : wt (a ++ b) = wt a + wt b := by simp only [wt, List.map_append, List.sum_append]
theorem wt_one (x : ByteArray) : wt [x] = x.size + 1 := by simp only [wt, List.map_cons, List.map_nil, List.sum_cons, List.sum_nil]; omega
theorem wt_fin (p : List ByteArray × ByteArray) : wt (fin p) ≤ wt p.1 + p.2.size + 1 := by
  rw [fin]
  split
  · omega
  · rw [wt_append, wt_one]
    omega
theorem wt_step (p : List ByteArray × ByteArray) (b : UInt8) : wt (stepS p b).1 + (stepS p b).2.size ≤ wt p.1 + p.2.size + 1 := by
  rw [stepS]
  by_cases hb : b = 47
  · rw [if_pos hb]
    have := wt_fin p
    have hz : ByteArray.empty.size = 0 := rfl
    simp only [hz]
    omega
  · rw [if_neg hb, ByteArray.size_append]
    show wt p.1 + (p.2.size + 1) ≤ _
    omega
theorem wt_scan : ∀ (l : List UInt8) (p : List ByteArray × ByteArray), wt (l.foldl stepS p).1 + (l.foldl stepS p).2.size ≤ wt p.1 + p.2.size + l.length
  | [], p => by simp
  | b :: l, p => by
    have h1 := wt_scan l (stepS p b)
    have h2 := wt_step p b
    rw [List.foldl_cons, List.length_cons]
    omega
theorem wt_names {l : List UInt8} (h : Lib.hasPrefix l [47] = true) : wt (namesS l) ≤ l.length := by
  cases l with
  | nil => simp [Lib.hasPrefix, List.isPrefixOf] at h
  | cons b l =>
    have hb : b = 47 := by
      simp only [Lib.hasPrefix, List.isPrefixOf, Bool.and_true, beq_iff_eq] at h
      exact h.symm
    subst hb
    have h1 := wt_scan l ([], ByteArray.empty)
    have h2 := wt_fin (l.foldl stepS ([], ByteArray.empty))
    rw [namesS, scanS, List.foldl_cons, stepS, if_pos rfl, fin_empty, List.length_cons]
    have h0 : wt ([] : List ByteArray) = 0 := rfl
    have hz : ByteArray.empty.size = 0 := rfl
    rw [h0, hz] at h1
    omega
theorem splitP_some {s : ByteArray} {l : List ByteArray} (h : splitP s = some l) : (s.size ≤ 120 ∧ Lib.hasPrefix s.data.toList [47] = true) ∧ goodNames l = true ∧ l = namesS s.data.toList := by
  rw [splitP_eq] at h
  split at h
  · rename_i hc
    injection h with h
    subst h
    exact ⟨hc.1, hc.2, rfl⟩
  · cases h
theorem split_again {s : ByteArray} {l : List ByteArray} (h : splitP s = some l) : splitP (joinP l) = some l := by
  obtain ⟨⟨hs, hp⟩, hg, hl⟩ := splitP_some h
  have hw : wt l ≤ 120 := by
    rw [hl]
    have h1 := wt_names hp
    have h2 : s.data.toList.length = s.size := sizeB s
    omega
  by_cases h0 : l = []
  · subst h0; exact split_join [] rfl (by decide +kernel)
  · have hg' := hg
    rw [goodNames, Bool.and_eq_true, List.all_eq_true] at hg'
    have h1 := joinP_size' l h0
    rw [splitP_eq, names_join l hg'.1, if_pos ⟨⟨by omega, joinP_head l⟩, hg⟩]
end Go.Proofs.YtgkjmhbkalkfkaaDoor
