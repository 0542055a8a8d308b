/- The walk of the law AskRows. -/
import Derived.Test.YthlnaejmglajeaaDoorAAwake
import Derived.Test.YthlnaejmglajeaaDoorALaw3
import Derived.Test.YthlnaejmglajeaaDoorPlace
import Derived.Deep.RegionLaw
import Derived.Laws.IdiomCopy
namespace Go.Proofs.YthlnaejmglajeaaDoor
open Go.RowKit
set_option linter.unusedSimpArgs false
set_option linter.unusedVariables false

def wordR : Nat → List UInt8
  | 0 => [117, 112]
  | 1 => [100, 111, 119, 110]
  | _ => [108, 105, 118, 101]
def opR : Nat → Int
  | 0 => 1
  | 1 => 2
  | _ => 8
def kvR (k : Nat) : KV := ⟨.mk (opR k) 0 [], none, 0⟩
/-- the text so far -/
def textR (sign : List UInt8) : List Nat → List UInt8
  | [] => []
  | k :: l => wordR k ++ l.flatMap fun j => sign ++ wordR j
theorem textR_snoc (sign : List UInt8) (l : List Nat) (k : Nat) : textR sign (l ++ [k]) = textR sign l ++ (if l = [] then wordR k else sign ++ wordR k) := by
  cases l with
  | nil => simp [textR]
  | cons a l => simp [textR]
/-- what the rounds keep -/
def RowsR (w : World) (n : Nat) (sign : List UInt8) (op : Int) (s11 s13 : Value) (wr : World) : Prop :=
  ∃ (l : List Nat) (v : Value), (∀ k ∈ l, k < 3) ∧ l.length ≤ n ∧ l.length ≤ 20 ∧ s13 = .int .i64 l.length ∧ s11 = .string (bytesB (textR sign l)) ∧
    wr.ownsRow (w.heap.size + 3) stepT 3 v l.length (rowCells (l.map kvR)) ∧ w.heap.size + 3 ≤ wr.heap.size ∧
    Blk wr w.heap.size 37 #[.string ⟨#[117, 112]⟩, .string ⟨#[100, 111, 119, 110]⟩, .string ⟨#[108, 105, 118, 101]⟩] ∧
    Blk wr (w.heap.size + 1) 38 #[.int .i64 1, .int .i64 2, .int .i64 8] ∧
    Blk wr (w.heap.size + 2) stepT #[.int .i64 op, .int .i64 0, v] ∧ Below w.heap.size w wr

theorem step_append_step {ops : Array Oper} {o : Oper} {a : Act} {w : World} {K : Act → World → Prop} {Q : Exit → Act → World → Prop} {E : Prop} (hgd : o.guard = none) (s x : Operand)
    (ho : o.op = .call { callee := .builtin .append, args := #[s, x], argTypes := #[22, 22] })
    (base : Nat) (v : Value) (n : Nat) (xs : List Value) (hs : a.eval s = v) (hown : w.ownsRow base stepT 3 v n xs)
    (B : Nat) (A : Option Addr) (m c : Nat) (news : List Value) (hx : a.eval x = .slice A m c) (hr : Reads w B 3 A m news) (h1 : ∀ u ∈ news, u.oneCell' = true)
    (h63 : n + m ≤ 1000000) (hbase : base ≤ w.heap.size)
    (h : ∀ v' w', w'.ownsRow base stepT 3 v' (n + m) (xs ++ news) → w.grownBy w' v.ownBlock → (v'.ownBlock = v.ownBlock ∨ v'.ownBlock = some w.heap.size) → K (a.put o.dst v') w') :
    if Region.wanted o (yielded ops a.tmps) = true then Oper.wp Tryd.prog o a w K Q else E := by
  obtain ⟨i0, hi0, hz0, hz1, hz2⟩ := info_parts info_step
  have hw : Region.wanted o (yielded ops a.tmps) = true := by simp [Region.wanted, hgd]
  rw [if_pos hw]
  exact wp_append_any w s x 22 ho base stepT i0 _ 3 40 Tryd.underlying22 hi0 hz0 hz1 hz2 rfl (by omega) v n xs hs hown B A m c news hx hr h1 (by simp only [maxLen]; omega) (by omega) hbase h

theorem textR_len {sign : List UInt8} (hs : sign.length = 1) : ∀ l : List Nat, (∀ k ∈ l, k < 3) → (textR sign l).length ≤ 5 * l.length := by
  have hw : ∀ k : Nat, (wordR k).length ≤ 4 := by
    intro k
    match k with
    | 0 => decide
    | 1 => decide
    | _ + 2 => exact Nat.le_refl 4
  have hf : ∀ l : List Nat, (l.flatMap fun j => sign ++ wordR j).length ≤ 5 * l.length := by
    intro l
    induction l with
    | nil => simp
    | cons a l ih =>
      have := hw a
      simp only [List.flatMap_cons, List.length_append, List.length_cons]
      omega
  intro l _
  cases l with
  | nil => simp [textR]
  | cons a l =>
    have := hw a
    have := hf l
    simp only [textR, List.length_append, List.length_cons]
    omega

/-- one round more -/
theorem rows_step {w wr w1 : World} {n m k : Nat} {sign : List UInt8} {l : List Nat} {op : Int} {T : ByteArray} {Av A1 : Option Addr} {cv c1 : Nat} {cs : Array Value}
    (hk : k < 3) (hl : ∀ j ∈ l, j < 3) (hm : m = l.length) (hn : m < n) (h20 : m < 20) (hsz : w.heap.size + 3 ≤ wr.heap.size)
    (hown0 : wr.ownsRow (w.heap.size + 3) stepT 3 (.slice Av m cv) m (rowCells (l.map kvR)))
    (hb0 : Blk wr w.heap.size 37 #[.string ⟨#[117, 112]⟩, .string ⟨#[100, 111, 119, 110]⟩, .string ⟨#[108, 105, 118, 101]⟩])
    (hb1 : Blk wr (w.heap.size + 1) 38 #[.int .i64 1, .int .i64 2, .int .i64 8])
    (hb2 : Blk wr (w.heap.size + 2) stepT #[.int .i64 op, .int .i64 0, .slice Av m cv]) (hbel : Below w.heap.size w wr)
    (hown1 : w1.ownsRow (w.heap.size + 3) stepT 3 (.slice A1 (m + 1) c1) (m + 1) (rowCells (l.map kvR) ++ [.int .i64 (opR k), .int .i64 0, .slice none 0 0]))
    (hg : (wr.drew.alloc (.cells cs stepT)).grownBy w1 (Value.slice Av m cv).ownBlock) (hT : T = bytesB (textR sign (l ++ [k]))) :
    RowsR w n sign op (.string T) (.int .i64 ((m : Int) + 1)) (w1.setCell ⟨w.heap.size + 1 + 1, 2, none⟩ (.slice A1 (m + 1) c1)) := by
  have hne : ∀ b, b < w.heap.size + 3 → some b ≠ (Value.slice Av m cv).ownBlock := fun b hb e => own_ne hown0 hb e.symm
  have k0 := ((hb0.drew).alloc (.cells cs stepT)).grown hg (hne _ (by omega))
  have k1 := ((hb1.drew).alloc (.cells cs stepT)).grown hg (hne _ (by omega))
  have k2 := ((hb2.drew).alloc (.cells cs stepT)).grown hg (hne _ (by omega))
  have hbl := ((hbel.drew).alloc (by show w.heap.size ≤ wr.heap.size; omega) (.cells cs stepT)).grown hg (by simp only [World.size_alloc]; show w.heap.size ≤ wr.heap.size + 1; omega) (fun b hb => by
    rcases Nat.lt_or_ge b w.heap.size with h | h
    · exact absurd hb.symm (hne b (by omega))
    · exact h)
  have hs1 : w.heap.size + 3 ≤ w1.heap.size := by
    have := hg.size
    simp only [World.size_alloc] at this
    have h2 : wr.drew.heap.size = wr.heap.size := rfl
    omega
  refine ⟨l ++ [k], .slice A1 (m + 1) c1, ?_, ?_, ?_, ?_, by rw [hT], ?_, ?_, k0.far (by show w.heap.size ≠ w.heap.size + 1 + 1; omega) _, k1.far (by show w.heap.size + 1 ≠ w.heap.size + 1 + 1; omega) _, ?_, hbl.setCell (by show w.heap.size ≤ w.heap.size + 1 + 1; omega) _⟩
  · intro j hj
    rcases List.mem_append.1 hj with h | h
    · exact hl j h
    · obtain rfl := List.mem_singleton.1 h
      exact hk
  · simp; omega
  · simp; omega
  · simp [hm]
  · have hlen : (l ++ [k]).length = m + 1 := by simp [hm]
    rw [hlen]
    have hc : rowCells ((l ++ [k]).map kvR) = rowCells (l.map kvR) ++ [.int .i64 (opR k), .int .i64 0, .slice none 0 0] := by
      rw [List.map_append, rowCells_append]
      rfl
    rw [hc]
    exact own_only hown1 ((Only.refl [w.heap.size + 2] w1).setCell (.inl (by simp)) _) (fun b hb => .inl (by simp at hb; omega))
  · simpa [World.setCell] using hs1
  · have := k2.set_ 2 (.slice A1 (m + 1) c1)
    simpa using this

def leafR (k : Nat) : QT := .mk (opR k) 0 []
theorem opR_cases (k : Nat) : opR k = 1 ∨ opR k = 2 ∨ opR k = 8 := by
  match k with
  | 0 => exact .inl rfl
  | 1 => exact .inr (.inl rfl)
  | _ + 2 => exact .inr (.inr rfl)
theorem leaf_text (k : Nat) : textF (leafR k) = wordR k := by
  match k with
  | 0 => decide +kernel
  | 1 => decide +kernel
  | n + 2 => show textF (.mk 8 0 []) = [108, 105, 118, 101]; decide +kernel
theorem star_text (k : Nat) : textF (.mk 5 0 [leafR k]) = wordR k ++ [42] := by
  match k with
  | 0 => decide +kernel
  | 1 => decide +kernel
  | n + 2 => show textF (.mk 5 0 [.mk 8 0 []]) = [108, 105, 118, 101] ++ [42]; decide +kernel
theorem leaf_holds (k : Nat) (left at_ : Int) (h1 : 1 ≤ left) (h2 : at_ ≤ 12) : holdsF (leafR k) left at_ = (left - 1, true) := by
  have ha : aloneF (leafR k) = true := by
    rcases opR_cases k with h | h | h <;> simp [leafR, aloneF, h]
  rw [leafR, holdsF, if_neg (by rw [← leafR, ha]; simp; omega)]
  rfl
theorem star_holds (k : Nat) (left at_ : Int) (h1 : 2 ≤ left) (h2 : at_ ≤ 11) : holdsF (.mk 5 0 [leafR k]) left at_ = (left - 2, true) := by
  have ha : aloneF (.mk 5 0 [leafR k]) = true := by simp [aloneF]
  rw [holdsF, if_neg (by rw [ha]; simp; omega), holdsL, leaf_holds k _ _ (by omega) (by omega)]
  simp only [if_true]
  rw [holdsL]
  simp only [Prod.mk.injEq, and_true]
  omega
theorem leaves_holds : ∀ (l : List Nat) (ks : List QT) (left at_ : Int), (l.length : Int) ≤ left → at_ ≤ 12 → holdsL (l.map leafR ++ ks) left at_ = holdsL ks (left - l.length) at_
  | [], ks, left, at_, _, _ => by simp
  | k :: l, ks, left, at_, h1, h2 => by
    simp only [List.length_cons] at h1
    rw [List.map_cons, List.cons_append, holdsL, leaf_holds k _ _ (by omega) h2]
    simp only [if_true]
    rw [leaves_holds l ks _ _ (by omega) h2]
    simp only [List.length_cons]
    congr 1
    omega
theorem rows_check {op : Int} (hop : op = 6 ∨ op = 7) {l : List Nat} (h2 : 2 ≤ l.length) (h20 : l.length ≤ 20) : checkF (.mk op 0 (l.map leafR)) = true := by
  have hany : ((l.map leafR).any fun k => k.op == op) = false := by
    rw [List.any_eq_false]
    intro x hx
    obtain ⟨k, _, rfl⟩ := List.mem_map.1 hx
    rcases opR_cases k with h | h | h <;> rcases hop with rfl | rfl <;> simp [leafR, QT.op, h]
  have ha : aloneF (.mk op 0 (l.map leafR)) = true := by
    rcases hop with rfl | rfl <;> simp [aloneF, hany, h2]
  rw [checkF, holdsF, if_neg (by rw [ha]; simp)]
  have := leaves_holds l [] (40 - 1) (1 + 1) (by omega) (by omega)
  rw [List.append_nil] at this
  rw [this, holdsL]
theorem rows_check_star {op : Int} (hop : op = 6 ∨ op = 7) {l : List Nat} {k : Nat} (h2 : 1 ≤ l.length) (h20 : l.length ≤ 19) : checkF (.mk op 0 (l.map leafR ++ [QT.mk 5 0 [leafR k]])) = true := by
  have hany : ((l.map leafR ++ [QT.mk 5 0 [leafR k]]).any fun k => k.op == op) = false := by
    rw [List.any_eq_false]
    intro x hx
    rcases List.mem_append.1 hx with hx | hx
    · obtain ⟨k, _, rfl⟩ := List.mem_map.1 hx
      rcases opR_cases k with h | h | h <;> rcases hop with rfl | rfl <;> simp [leafR, QT.op, h]
    · obtain rfl := List.mem_singleton.1 hx
      rcases hop with rfl | rfl <;> simp [QT.op]
  have ha : aloneF (.mk op 0 (l.map leafR ++ [QT.mk 5 0 [leafR k]])) = true := by
    have hl : 2 ≤ (l.map leafR ++ [QT.mk 5 0 [leafR k]]).length := by simp; omega
    rcases hop with rfl | rfl <;> simp only [aloneF, hany, hl] <;> simp
  rw [checkF, holdsF, if_neg (by rw [ha]; simp), leaves_holds l _ _ _ (by omega) (by omega), holdsL, star_holds k _ _ (by omega) (by omega)]
  simp only [if_true]
  rw [holdsL]
theorem thens_leaves (l : List Nat) (ks : List QT) : thenTexts (l.map leafR ++ ks) = l.map wordR ++ thenTexts ks := by
  induction l with
  | nil => rfl
  | cons k l ih =>
    have h6 : ¬ (leafR k).op = 6 := by rcases opR_cases k with h | h | h <;> simp [leafR, QT.op, h]
    rw [List.map_cons, List.cons_append, thenTexts, if_neg h6, leaf_text, ih]
    rfl
theorem ors_leaves (l : List Nat) (ks : List QT) : orTexts (l.map leafR ++ ks) = l.map wordR ++ orTexts ks := by
  induction l with
  | nil => rfl
  | cons k l ih =>
    rw [List.map_cons, List.cons_append, orTexts, leaf_text, ih]
    rfl

theorem textR_join (c : UInt8) (l : List Nat) : textR [c] l = (Lib.joinTail [c] (l.map wordR)).drop 1 := by
  cases l with
  | nil => rfl
  | cons k l =>
    simp only [textR, Lib.joinTail, List.map_cons, List.flatten_cons, List.cons_append, List.nil_append, List.drop_succ_cons, List.drop_zero, List.map_map, List.flatMap_def]
    rfl
theorem tail_snoc (c : UInt8) (l : List Nat) (k : Nat) : (Lib.joinTail [c] (l.map wordR ++ [wordR k ++ [42]])).drop 1 = textR [c] (l ++ [k]) ++ [42] := by
  rw [textR_join, List.map_append, Lib.joinTail, Lib.joinTail, List.map_append, List.map_append, List.flatten_append, List.flatten_append]
  cases l with
  | nil => simp
  | cons a l => simp
theorem rows_text {op : Int} {c : UInt8} (hop : (op = 7 ∧ c = 59) ∨ (op = 6 ∧ c = 124)) (l : List Nat) : textF (.mk op 0 (l.map leafR)) = textR [c] l := by
  have h1 := thens_leaves l []
  have h2 := ors_leaves l []
  rw [List.append_nil] at h1 h2
  rcases hop with ⟨rfl, rfl⟩ | ⟨rfl, rfl⟩
  · rw [textF]
    simp (config := { decide := true }) only [if_true, if_false]
    rw [h1, thenTexts, List.append_nil, join_drop, textR_join]
  · rw [textF]
    simp (config := { decide := true }) only [if_true, if_false]
    rw [h2, orTexts, List.append_nil, join_drop, textR_join]
theorem rows_text_star {op : Int} {c : UInt8} (hop : (op = 7 ∧ c = 59) ∨ (op = 6 ∧ c = 124)) (l : List Nat) (k : Nat) : textF (.mk op 0 (l.map leafR ++ [QT.mk 5 0 [leafR k]])) = textR [c] (l ++ [k]) ++ [42] := by
  have h5 : ¬ (QT.mk 5 0 [leafR k]).op = 6 := by simp [QT.op]
  rcases hop with ⟨rfl, rfl⟩ | ⟨rfl, rfl⟩
  · rw [textF]
    simp (config := { decide := true }) only [if_true, if_false]
    rw [thens_leaves, thenTexts, thenTexts, if_neg h5, star_text, join_drop, tail_snoc]
  · rw [textF]
    simp (config := { decide := true }) only [if_true, if_false]
    rw [ors_leaves, orTexts, orTexts, star_text, join_drop, tail_snoc]
theorem map_kv (l : List Nat) : (l.map kvR).map KV.q = l.map leafR := by rw [List.map_map]; rfl

/-- what stands before the text is parsed -/
def TailR (w : World) (s11 : Value) (W : World) : Prop :=
  ∃ (V : ByteArray) (o n : Int) (kk : List QT) (A : Option Addr) (c : Nat), s11 = .string V ∧ V.data.toList = textF (.mk o n kk) ∧ V.size ≤ 200 ∧ checkF (.mk o n kk) = true ∧
    Blk W (w.heap.size + 2) stepT #[.int .i64 o, .int .i64 n, .slice A kk.length c] ∧ RQ W 0 W.heap.size (.mk o n kk) A c ∧ Below w.heap.size w W ∧ w.heap.size + 3 ≤ W.heap.size
theorem rows_tail {w wr : World} {m : Nat} {sign : List UInt8} {l : List Nat} {op : Int} {A : Option Addr} {c : Nat} (hop : (op = 7 ∧ sign = [59]) ∨ (op = 6 ∧ sign = [124])) (hl : ∀ j ∈ l, j < 3) (hm : m = l.length) (h2 : 2 ≤ m) (h20 : m ≤ 20)
    (hown : wr.ownsRow (w.heap.size + 3) stepT 3 (.slice A m c) m (rowCells (l.map kvR))) (hb2 : Blk wr (w.heap.size + 2) stepT #[.int .i64 op, .int .i64 0, .slice A m c]) (hbel : Below w.heap.size w wr) (hsz : w.heap.size + 3 ≤ wr.heap.size) :
    TailR w (.string (bytesB (textR sign l))) wr := by
  have hlen := textR_len (sign := sign) (by rcases hop with ⟨_, rfl⟩ | ⟨_, rfl⟩ <;> rfl) l hl
  obtain ⟨g, cap, cur, hv, _, _, hnc, hcm, _, _⟩ : ∃ g cap cur, Value.slice A m c = .slice (some ⟨g, 0, none⟩) m cap ∧ w.heap.size + 3 ≤ g ∧ wr.heap[g]? = some (.cells cur stepT (0, 0)) ∧ m ≤ cap ∧ cap ≤ maxLen ∧ cur.size = cap * 3 ∧ cur.toList.take (m * 3) = rowCells (l.map kvR) := by
    rcases hown.2 with ⟨_, h⟩ | h
    · omega
    · exact h
  injection hv with hv1 hv2 hv3
  subst hv1 hv3
  have hrp := rp_row (P := fun _ => True) op hown (by simp [hm]) hnc hcm trivial (fun k hk => by
    obtain ⟨j, _, rfl⟩ := List.mem_map.1 hk
    exact .mk _ _ [] none 0 (fun _ => none) (fun _ => 0) (Nat.zero_le _) (by simp [maxLen]) (fun h => absurd h (by simp)) (fun i x hx => by simp at hx))
  rw [map_kv] at hrp
  refine ⟨_, op, 0, l.map leafR, _, c, rfl, ?_, ?_, rows_check (by rcases hop with ⟨h, _⟩ | ⟨h, _⟩ <;> simp [h]) (by omega) (by omega), ?_, hrp.rq, hbel, hsz⟩
  · show textR sign l = _
    rcases hop with ⟨h, rfl⟩ | ⟨h, rfl⟩
    · rw [rows_text (.inl ⟨h, rfl⟩)]
    · rw [rows_text (.inr ⟨h, rfl⟩)]
  · rw [size_bytesB]; omega
  · rw [List.length_map, ← hm]; exact hb2

theorem add_zero3 (g j : Nat) : (⟨g, 0, none⟩ : Addr).add j = ⟨g, j, none⟩ := by
  by_cases h : j = 0 <;> simp [Addr.add, h]
/-- the last of an owned row -/
theorem rows_last {B : Nat} {wr : World} {p : Nat} {l : List Nat} {A : Option Addr} {c : Nat} (hown : wr.ownsRow B stepT 3 (.slice A (p + 1) c) (p + 1) (rowCells (l.map kvR))) (hm : p + 1 = l.length) :
    ∃ g k l1, A = some ⟨g, 0, none⟩ ∧ B ≤ g ∧ g < wr.heap.size ∧ wr.cell? ⟨g, p * 3, none⟩ = some (.int .i64 (opR k)) ∧ wr.cell? ⟨g, p * 3 + 1, none⟩ = some (.int .i64 0) ∧ wr.cell? ⟨g, p * 3 + 2, none⟩ = some (.slice none 0 0) ∧
      (∀ i, wr.frozen? ⟨g, i, none⟩ = false) ∧ l = l1 ++ [k] ∧ p + 1 ≤ c ∧ c ≤ maxLen ∧ (∀ i x, l1[i]? = some x → At3 wr ((⟨g, 0, none⟩ : Addr).add (i * 3)) (leafR x) none 0) := by
  obtain ⟨g, cap, cur, hv, hgb, hgh, hnc, hcm, _, _⟩ : ∃ g cap cur, Value.slice A (p + 1) c = .slice (some ⟨g, 0, none⟩) (p + 1) cap ∧ B ≤ g ∧ wr.heap[g]? = some (.cells cur stepT (0, 0)) ∧ p + 1 ≤ cap ∧ cap ≤ maxLen ∧ cur.size = cap * 3 ∧ cur.toList.take ((p + 1) * 3) = rowCells (l.map kvR) := by
    rcases hown.2 with ⟨_, h⟩ | h
    · omega
    · exact h
  injection hv with hv1 hv2 hv3
  subst hv1 hv3
  have hne : l ≠ [] := fun e => by rw [e] at hm; simp at hm
  have hat : ∀ (i d x : Nat), l[i]? = some x → d < 3 → wr.cell? ⟨g, i * 3 + d, none⟩ = (kvR x).cells[d]? := fun i d x hi hd => by
    have hlt : i < l.length := (List.getElem?_eq_some_iff.1 hi).1
    rw [hown.cellAt _ (by omega), rowCells_at (l.map kvR) i d (kvR x) (by rw [List.getElem?_map, hi]; rfl) hd]
  have hl : l = l.dropLast ++ [l.getLast hne] := (List.dropLast_concat_getLast hne).symm
  have hdl : l.dropLast.length = p := by rw [List.length_dropLast]; omega
  have hk : l[p]? = some (l.getLast hne) := by
    have h1 : (l.dropLast ++ [l.getLast hne])[p]? = some (l.getLast hne) := by rw [List.getElem?_append_right (by omega), hdl, Nat.sub_self]; rfl
    rwa [← hl] at h1
  have hb : Blk wr g stepT cur := hgh
  refine ⟨g, l.getLast hne, l.dropLast, rfl, hgb, hb.lt, hat p 0 _ hk (by decide), hat p 1 _ hk (by decide), hat p 2 _ hk (by decide), fun i => hb.frozen i, hl, hnc, hcm, fun i x hx => ?_⟩
  have hi : l[i]? = some x := by
    have h1 : (l.dropLast ++ [l.getLast hne])[i]? = some x := by rw [List.getElem?_append_left (List.getElem?_eq_some_iff.1 hx).1]; exact hx
    rwa [← hl] at h1
  have e0 : (⟨g, 0, none⟩ : Addr).add (i * 3) = ⟨g, i * 3, none⟩ := add_zero3 g (i * 3)
  refine ⟨?_, ?_, ?_⟩
  · rw [e0]; exact hat i 0 _ hi (by decide)
  · rw [e0]; exact hat i 1 _ hi (by decide)
  · rw [e0]; exact hat i 2 _ hi (by decide)

theorem size_setCell3 (w : World) (a b c : Addr) (u v x : Value) : (((w.setCell a u).setCell b v).setCell c x).heap.size = w.heap.size := by simp [World.setCell]
theorem rows_tail_star {w wr : World} {p g k : Nat} {sign : List UInt8} {l l1 : List Nat} {op : Int} {c : Nat} (hop : (op = 7 ∧ sign = [59]) ∨ (op = 6 ∧ sign = [124])) (hl : ∀ j ∈ l, j < 3) (hm : p + 1 = l.length) (h2 : 2 ≤ p + 1) (h20 : p + 1 ≤ 20)
    (hb2 : Blk wr (w.heap.size + 2) stepT #[.int .i64 op, .int .i64 0, .slice (some ⟨g, 0, none⟩) (p + 1) c]) (hbel : Below w.heap.size w wr) (hsz : w.heap.size + 3 ≤ wr.heap.size)
    (hg : w.heap.size + 3 ≤ g) (hgl : g < wr.heap.size) (e0 : wr.cell? ⟨g, p * 3, none⟩ = some (.int .i64 (opR k))) (e1 : wr.cell? ⟨g, p * 3 + 1, none⟩ = some (.int .i64 0)) (e2 : wr.cell? ⟨g, p * 3 + 2, none⟩ = some (.slice none 0 0))
    (hll : l = l1 ++ [k]) (hpc : p + 1 ≤ c) (hcm : c ≤ maxLen) (hkeep : ∀ i x, l1[i]? = some x → At3 wr ((⟨g, 0, none⟩ : Addr).add (i * 3)) (leafR x) none 0) :
    TailR w (.string (bytesB (textR sign l ++ [42])))
      ((((wr.setCell ⟨g, p * 3, none⟩ (.int .i64 5)).setCell ⟨g, p * 3 + 1, none⟩ (.int .i64 0)).setCell ⟨g, p * 3 + 2, none⟩ (.slice (some ⟨wr.heap.size, 0, none⟩) 1 1)).alloc (.cells #[.int .i64 (opR k), .int .i64 0, .slice none 0 0] stepT)).drew := by
  have hlen := textR_len (sign := sign) (by rcases hop with ⟨_, rfl⟩ | ⟨_, rfl⟩ <;> rfl) l hl
  have hl1 : l1.length = p := by have := congrArg List.length hll; simp at this; omega
  obtain ⟨W0, hW0⟩ : ∃ x, x = ((wr.setCell ⟨g, p * 3, none⟩ (.int .i64 5)).setCell ⟨g, p * 3 + 1, none⟩ (.int .i64 0)).setCell ⟨g, p * 3 + 2, none⟩ (.slice (some ⟨wr.heap.size, 0, none⟩) 1 1) := ⟨_, rfl⟩
  have hs0 : W0.heap.size = wr.heap.size := by rw [hW0, size_setCell3]
  have hon : Only [g] wr W0 := by rw [hW0]; exact (((Only.refl _ _).setCell (.inl (by simp)) _).setCell (.inl (by simp)) _).setCell (.inl (by simp)) _
  have hset : W0 = wr.setCells g (p * 3) [.int .i64 5, .int .i64 0, .slice (some ⟨wr.heap.size, 0, none⟩) 1 1] := by rw [hW0]; rfl
  have hin : ∀ j (hj : j < 3), W0.cell? ⟨g, p * 3 + j, none⟩ = some ([Value.int .i64 5, .int .i64 0, .slice (some ⟨wr.heap.size, 0, none⟩) 1 1][j]) := fun j hj => by
    rw [hset]
    refine World.cell?_setCells_in g [Value.int .i64 5, .int .i64 0, .slice (some ⟨wr.heap.size, 0, none⟩) 1 1] (p * 3) wr (fun i hi => ?_) j hj
    match i, hi with
    | 0, _ => rw [Nat.add_zero, e0]; rfl
    | 1, _ => rw [e1]; rfl
    | 2, _ => rw [e2]; rfl
  have hout : ∀ j, j < p * 3 → W0.cell? ⟨g, j, none⟩ = wr.cell? ⟨g, j, none⟩ := fun j hj => by
    rw [hset]
    exact World.cell?_setCells_out g _ (p * 3) wr _ (fun _ _ => .inl hj)
  rw [← hW0]
  obtain ⟨W, hW⟩ : ∃ x, x = W0.alloc (.cells #[.int .i64 (opR k), .int .i64 0, .slice none 0 0] stepT) := ⟨_, rfl⟩
  have hWs : W.heap.size = wr.heap.size + 1 := by rw [hW, World.size_alloc, hs0]
  have hWc : ∀ q : Addr, q.block < wr.heap.size → W.cell? q = W0.cell? q := fun q hq => by rw [hW]; exact World.cell?_alloc_lt W0 _ q (by omega)
  have hWn : Blk W wr.heap.size stepT #[.int .i64 (opR k), .int .i64 0, .slice none 0 0] := by rw [hW, ← hs0]; exact Blk.new _ _ _
  have hW2 : Blk W (w.heap.size + 2) stepT #[.int .i64 op, .int .i64 0, .slice (some ⟨g, 0, none⟩) (p + 1) c] := by rw [hW]; exact (hon.blk hb2 (by simp; omega)).alloc _
  have hWb : Below w.heap.size w W := by
    rw [hW]
    refine Below.alloc (hbel.trans ((hon.below (B := w.heap.size) (by simp; omega) (by omega)))) (by omega) _
  rw [← hW]
  clear hW hW0 hset hon
  have hrq : RQ W 0 W.heap.size (.mk op 0 (l1.map leafR ++ [QT.mk 5 0 [leafR k]])) (some ⟨g, 0, none⟩) c := by
    have hcase : ∀ i x, (l1.map leafR ++ [QT.mk 5 0 [leafR k]])[i]? = some x → (i < p ∧ ∃ y, l1[i]? = some y ∧ x = leafR y) ∨ (i = p ∧ x = QT.mk 5 0 [leafR k]) := fun i x hx => by
      rcases Nat.lt_or_ge i p with h | h
      · rw [List.getElem?_append_left (by simp; omega), List.getElem?_map] at hx
        cases hy : l1[i]? with
        | none => rw [hy] at hx; cases hx
        | some y => rw [hy] at hx; exact .inl ⟨h, y, rfl, by simpa using hx.symm⟩
      · rw [List.getElem?_append_right (by simp; omega)] at hx
        simp only [List.length_map, hl1] at hx
        obtain ⟨d, hd⟩ : ∃ d, i - p = d := ⟨_, rfl⟩
        rw [hd] at hx
        match d, hd, hx with
        | 0, hd, hx => exact .inr ⟨by omega, by simpa using hx.symm⟩
    refine .mk op 0 _ _ c (fun i => if i = p then some ⟨wr.heap.size, 0, none⟩ else none) (fun i => if i = p then 1 else 0) (by simp [hl1]; omega) hcm (fun _ => ⟨_, rfl, Nat.zero_le _, by show g < W.heap.size; omega, fun i x hx => ?_⟩) (fun i x hx => ?_)
    · rcases hcase i x hx with ⟨h, y, hy, rfl⟩ | ⟨rfl, rfl⟩
      · have hk := hkeep i y hy
        rw [if_neg (by omega), if_neg (by omega)]
        rw [add_zero3] at hk ⊢
        obtain ⟨h0, h1, h2'⟩ := hk
        refine ⟨?_, ?_, ?_⟩
        · rw [hWc _ hgl, hout _ (by omega)]; exact h0
        · show W.cell? ⟨g, i * 3 + 1, none⟩ = _
          rw [hWc _ hgl, hout _ (by omega)]; exact h1
        · show W.cell? ⟨g, i * 3 + 2, none⟩ = _
          rw [hWc _ hgl, hout _ (by omega)]; exact h2'
      · rw [if_pos rfl, if_pos rfl, add_zero3]
        refine ⟨?_, ?_, ?_⟩
        · have := hin 0 (by omega)
          rw [hWc _ hgl]; exact this
        · show W.cell? ⟨g, i * 3 + 1, none⟩ = _
          rw [hWc _ hgl]; exact hin 1 (by omega)
        · show W.cell? ⟨g, i * 3 + 2, none⟩ = _
          rw [hWc _ hgl]; exact hin 2 (by omega)
    · rcases hcase i x hx with ⟨h, y, hy, rfl⟩ | ⟨rfl, rfl⟩
      · rw [if_neg (by omega), if_neg (by omega)]
        exact RQ.leaf W 0 _ _ _ none 0 (Nat.zero_le _)
      · rw [if_pos rfl, if_pos rfl]
        refine .mk 5 0 _ _ 1 (fun _ => none) (fun _ => 0) (Nat.le_refl _) (by simp [maxLen]) (fun _ => ⟨_, rfl, Nat.zero_le _, by show wr.heap.size < W.heap.size; omega, fun j x hx => ?_⟩) (fun j x hx => ?_)
        · match j, hx with
          | 0, hx =>
            obtain rfl : leafR k = x := by simpa using hx
            rw [add_zero3]
            exact ⟨hWn.cell 0, hWn.cell 1, hWn.cell 2⟩
        · match j, hx with
          | 0, hx =>
            obtain rfl : leafR k = x := by simpa using hx
            exact RQ.leaf W 0 _ _ _ none 0 (Nat.zero_le _)
  refine ⟨_, op, 0, l1.map leafR ++ [QT.mk 5 0 [leafR k]], _, c, rfl, ?_, ?_, rows_check_star (by rcases hop with ⟨h, _⟩ | ⟨h, _⟩ <;> simp [h]) (by omega) (by omega), ?_, hrq.drewN 1, hWb.drew, by show w.heap.size + 3 ≤ W.heap.size; omega⟩
  · show textR sign l ++ [42] = _
    rw [hll]
    rcases hop with ⟨h, rfl⟩ | ⟨h, rfl⟩
    · rw [rows_text_star (.inl ⟨h, rfl⟩)]
    · rw [rows_text_star (.inr ⟨h, rfl⟩)]
  · rw [size_bytesB, List.length_append]; simp only [List.length_cons, List.length_nil]; omega
  · have hlk : (l1.map leafR ++ [QT.mk 5 0 [leafR k]]).length = p + 1 := by simp [hl1]
    rw [hlk]; exact hW2.drew
end Go.Proofs.YthlnaejmglajeaaDoor
