/- Rows of the call's own: rows of texts; texts' sizes; a question that may be is small, and each part may be by itself. -/
import Derived.Test.YthlnaejmglajeaaDoorASame
import Derived.Test.YthlnaejmglajeaaDoorAShelf
namespace Go.Proofs.YthlnaejmglajeaaDoor
open Go.RowKit
set_option linter.unusedSimpArgs false
set_option linter.unusedVariables false

theorem own_only {w w' : World} {base : Nat} {e : TypeId} {size n : Nat} {v : Value} {xs : List Value} {S : List Nat} (h : w.ownsRow base e size v n xs) (ho : Only S w w') (hS : ∀ k ∈ S, k < base ∨ w.heap.size ≤ k) : w'.ownsRow base e size v n xs := by
  refine ⟨h.1, ?_⟩
  rcases h.2 with h2 | ⟨g, cap, cur, hv, hb, hh, r⟩
  · exact .inl h2
  · have hg := (Array.getElem?_eq_some_iff.1 hh).1
    exact .inr ⟨g, cap, cur, hv, hb, (ho.block g hg (fun hm => by have := hS g hm; omega)).trans hh, r⟩
theorem own_base {w : World} {base base' : Nat} {e : TypeId} {size n : Nat} {v : Value} {xs : List Value} (h : w.ownsRow base e size v n xs) (hb : base' ≤ base) : w.ownsRow base' e size v n xs := by
  refine ⟨h.1, ?_⟩
  rcases h.2 with h2 | ⟨g, cap, cur, hv, hg, r⟩
  · exact .inl h2
  · exact .inr ⟨g, cap, cur, hv, Nat.le_trans hb hg, r⟩
theorem info_str : (Tryd.prog.info? 9).map (fun i => (i.zero, i.size, i.bytes)) = some (some (.string ByteArray.empty), 1, 16) := by kernel_rfl
theorem one_str (xs : List ByteArray) : ∀ u ∈ xs.map Value.string, u.oneCell' = true := by
  intro u hu
  obtain ⟨x, _, rfl⟩ := List.mem_map.1 hu
  rfl
theorem own_cells {w : World} {base c : Nat} {A : Option Addr} {xs : List ByteArray} (h : w.ownsRow base 9 1 (.slice A xs.length c) xs.length (xs.map Value.string)) (hp : 0 < xs.length) :
    ∃ g, base ≤ g ∧ g < w.heap.size ∧ A = some ⟨g, 0, none⟩ ∧ xs.length ≤ c ∧ ∀ (j : Nat) x, xs[j]? = some x → w.cell? ⟨g, 0 + j, none⟩ = some (.string x) := by
  rcases h.2 with ⟨_, h2⟩ | ⟨g', cap, cur, hv, hb, hh, hnc, _⟩
  · omega
  · injection hv with h1 h2 h3
    subst h1 h3
    refine ⟨g', hb, (Array.getElem?_eq_some_iff.1 hh).1, rfl, by omega, fun j x hx => ?_⟩
    have hj : j < xs.length := (List.getElem?_eq_some_iff.1 hx).1
    rw [Nat.zero_add, h.cellAt j (by omega), List.getElem?_map, hx]
    rfl
def bytesB (l : List UInt8) : ByteArray := ⟨l.toArray⟩
theorem sizeB (x : ByteArray) : x.data.toList.length = x.size := by cases x; rfl
theorem size_bytesB (l : List UInt8) : (bytesB l).size = l.length := by rw [← sizeB]; rfl
theorem bytesB_data (x : ByteArray) : bytesB x.data.toList = x := by cases x; rfl
theorem bytesB_append (a b : List UInt8) : bytesB a ++ bytesB b = bytesB (a ++ b) := by
  rw [← bytesB_data (bytesB a ++ bytesB b)]
  congr 1
theorem run_add_l (W : World) (a b : List UInt8) (h1 : a.length ≤ 100000) (h2 : b.length ≤ 100000) : (Op.stringOp .add (bytesB a) (bytesB b)).run Tryd.prog W = .ok (.string (bytesB (a ++ b))) W := by
  have := run_string_add (P := Tryd.prog) W (bytesB a) (bytesB b) (by rw [size_bytesB]; omega) (by rw [size_bytesB]; omega)
  rwa [bytesB_append] at this
theorem digits2 : ∀ i : Nat, i < 100 → Lib.decDigits i = dig2 i := by decide +kernel
theorem dig2_len (n : Int) : (dig2 n).length ≤ 2 := by unfold dig2; split <;> simp

mutual
def allA : QT → Bool
  | .mk o n ks => aloneF (.mk o n ks) && allL ks
def allL : List QT → Bool
  | [] => true
  | k :: ks => allA k && allL ks
end
theorem allA_mk (o n : Int) (ks : List QT) : allA (.mk o n ks) = (aloneF (.mk o n ks) && allL ks) := by rw [allA]
theorem allL_cons (k : QT) (ks : List QT) : allL (k :: ks) = (allA k && allL ks) := by rw [allL]
theorem allL_mem : ∀ {ks : List QT} {x : QT}, allL ks = true → x ∈ ks → allA x = true
  | k :: ks, x, h, hx => by
    rw [allL_cons, Bool.and_eq_true] at h
    rcases List.mem_cons.1 hx with rfl | hx
    · exact h.1
    · exact allL_mem h.2 hx
mutual
theorem holdsF_all : ∀ (q : QT) (left at_ : Int), (holdsF q left at_).2 = true → allA q = true ∧ (holdsF q left at_).1 = left - szQ q
  | .mk o n ks, left, at_, h => by
    rw [holdsF_mk] at h ⊢
    split at h
    · cases h
    · rename_i hc
      rw [if_neg hc]
      have := holdsL_all ks (left - 1) (at_ + 1) h
      have ha : aloneF (.mk o n ks) = true := by
        cases hx : aloneF (.mk o n ks) with
        | true => rfl
        | false => exact absurd (.inr (.inr hx)) hc
      rw [allA_mk, ha, this.1, this.2, szQ_mk]
      exact ⟨rfl, by omega⟩
theorem holdsL_all : ∀ (ks : List QT) (left at_ : Int), (holdsL ks left at_).2 = true → allL ks = true ∧ (holdsL ks left at_).1 = left - szL ks
  | [], left, at_, h => by rw [holdsL_nil]; exact ⟨by rw [allL], by rw [szL]; simp⟩
  | k :: ks, left, at_, h => by
    rw [holdsL_cons] at h ⊢
    split at h
    · rename_i hb
      have h1 := holdsF_all k left at_ hb
      have h2 := holdsL_all ks _ at_ h
      rw [if_pos hb, allL_cons, h1.1, h2.1, h2.2, h1.2, szL_cons]
      exact ⟨rfl, by omega⟩
    · cases h
end
theorem check_all {q : QT} (h : checkF q = true) : allA q = true ∧ szQ q ≤ 40 := by
  have h1 := holdsF_all q 40 1 h
  have h2 := (holdsF_bd q 40 1 (by omega)).2.2 h
  exact ⟨h1.1, by omega⟩
theorem parens_len (l : List UInt8) : (parens l).length = l.length + 2 := by simp [parens]
/-- the letters of all texts, and one each -/
def lensT (xs : List (List UInt8)) : Nat := (xs.map fun x => x.length + 1).sum
theorem lensT_cons (x : List UInt8) (xs : List (List UInt8)) : lensT (x :: xs) = x.length + 1 + lensT xs := by simp only [lensT, List.map_cons, List.sum_cons]
theorem join_lensT : ∀ (xs : List (List UInt8)) (c : UInt8), (Lib.join xs [c]).length ≤ lensT xs
  | [], c => Nat.zero_le _
  | [x], c => by rw [Lib.join_one, lensT_cons]; omega
  | x :: y :: r, c => by
    have ih := join_lensT (y :: r) c
    have e : Lib.join (x :: y :: r) [c] = x ++ c :: Lib.join (y :: r) [c] := by
      rw [Lib.join_cons, Lib.join_cons]
      simp [Lib.joinTail]
    rw [e, lensT_cons, List.length_append, List.length_cons]
    omega
theorem textF_mk (o n : Int) (ks : List QT) : textF (.mk o n ks) = if o = 1 then wUp else if o = 2 then wDown else if o = 8 then wLive
    else if o = 3 then wKind ++ parens (dig2 n) else if o = 4 then wLabel ++ parens (dig2 n)
    else if o = 5 then starText ks
    else if o = 7 then Lib.join (thenTexts ks) [59]
    else Lib.join (orTexts ks) [124] := by rw [textF]
theorem starText_cons (k : QT) (ks : List QT) : starText (k :: ks) = (if k.op = 6 ∨ k.op = 7 then parens (textF k) else textF k) ++ [42] := by rw [starText]
theorem thenTexts_cons (k : QT) (ks : List QT) : thenTexts (k :: ks) = (if k.op = 6 then parens (textF k) else textF k) :: thenTexts ks := by rw [thenTexts]
theorem orTexts_cons (k : QT) (ks : List QT) : orTexts (k :: ks) = textF k :: orTexts ks := by rw [orTexts]
theorem starText_nil : starText [] = [42] := by rw [starText]
theorem thenTexts_nil : thenTexts [] = [] := by rw [thenTexts]
theorem orTexts_nil : orTexts [] = [] := by rw [orTexts]
mutual
theorem textF_len : ∀ q : QT, (textF q).length + 3 ≤ 12 * szQ q
  | .mk o n ks => by
    have h1 := dig2_len n
    have h2 := starText_len ks
    have h3 := thenTexts_len ks
    have h4 := orTexts_len ks
    have h5 := join_lensT (thenTexts ks) 59
    have h6 := join_lensT (orTexts ks) 124
    rw [textF_mk, szQ_mk]
    split
    · simp [wUp]; omega
    · split
      · simp [wDown]; omega
      · split
        · simp [wLive]; omega
        · split
          · simp only [List.length_append, parens_len, show wKind.length = 4 from rfl]; omega
          · split
            · simp only [List.length_append, parens_len, show wLabel.length = 5 from rfl]; omega
            · split
              · omega
              · split
                · omega
                · omega
theorem starText_len : ∀ ks : List QT, (starText ks).length + 3 ≤ 12 * szL ks + 12
  | [] => by rw [starText_nil]; simp
  | k :: ks => by
    have h := textF_len k
    rw [starText_cons, szL_cons, List.length_append]
    split
    · rw [parens_len]; simp only [List.length_cons, List.length_nil]; omega
    · simp only [List.length_cons, List.length_nil]; omega
theorem thenTexts_len : ∀ ks : List QT, lensT (thenTexts ks) ≤ 12 * szL ks
  | [] => by rw [thenTexts_nil]; exact Nat.zero_le _
  | k :: ks => by
    have h := textF_len k
    have h2 := thenTexts_len ks
    rw [thenTexts_cons, lensT_cons, szL_cons]
    split
    · rw [parens_len]; omega
    · omega
theorem orTexts_len : ∀ ks : List QT, lensT (orTexts ks) ≤ 12 * szL ks
  | [] => by rw [orTexts_nil]; exact Nat.zero_le _
  | k :: ks => by
    have h := textF_len k
    have h2 := orTexts_len ks
    rw [orTexts_cons, lensT_cons, szL_cons]
    omega
end
theorem alone_op {o n : Int} {ks : List QT} (h : aloneF (.mk o n ks) = true) : (o = 1 ∨ o = 2 ∨ o = 8) ∨ (o = 3 ∧ 1 ≤ n ∧ n ≤ 5) ∨ (o = 4 ∧ 0 ≤ n ∧ n < 8) ∨ (o = 5 ∧ ks.length = 1) ∨ ((o = 6 ∨ o = 7) ∧ 2 ≤ ks.length) := by
  rw [aloneF] at h
  split at h
  · rename_i h1; exact .inl h1
  · split at h
    · rename_i h1; simp at h; exact .inr (.inl ⟨h1, h.1⟩)
    · split at h
      · rename_i h1; simp at h; exact .inr (.inr (.inl ⟨h1, h.1⟩))
      · split at h
        · rename_i h1; simp at h; exact .inr (.inr (.inr (.inl ⟨h1, h.2⟩)))
        · split at h
          · rename_i h1; simp only [Bool.and_eq_true, decide_eq_true_iff] at h; exact .inr (.inr (.inr (.inr ⟨h1, h.1.2⟩)))
          · cases h
end Go.Proofs.YthlnaejmglajeaaDoor
