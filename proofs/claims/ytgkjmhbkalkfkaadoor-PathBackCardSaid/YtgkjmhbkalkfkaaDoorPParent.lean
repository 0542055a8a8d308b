/- The walk of path.Parent. -/
import Derived.Test.YtgkjmhbkalkfkaaDoorPRef
import Derived.Deep.RegionHeld
import Derived.OwnWalk
namespace Go.Proofs.YtgkjmhbkalkfkaaDoor
open Go.RowKit
set_option linter.unusedSimpArgs false
set_option linter.unusedVariables false

theorem step_append_str {ops : Array Oper} {o : Oper} {a : Act} {w : World} {K : Act → World → Prop} {Q : Exit → Act → World → Prop} {E : Prop} (hgd : o.guard = none) (s x : Operand)
    (ho : o.op = .call { callee := .builtin .append, args := #[s, x], argTypes := #[23, 23] })
    (base : Nat) (v : Value) (n : Nat) (xs : List Value) (hs : a.eval s = v) (hown : w.ownsRow base 9 1 v n xs)
    (B : Nat) (A : Option Addr) (m c : Nat) (news : List Value) (hx : a.eval x = .slice A m c) (hr : Reads w B 1 A m news) (h1 : ∀ u ∈ news, u.oneCell' = true)
    (h63 : n + m ≤ 1000000) (hbase : base ≤ w.heap.size)
    (h : ∀ v' w', w'.ownsRow base 9 1 v' (n + m) (xs ++ news) → w.grownBy w' v.ownBlock → (v'.ownBlock = v.ownBlock ∨ v'.ownBlock = some w.heap.size) → K (a.put o.dst v') w') :
    if Region.wanted o (yielded ops a.tmps) = true then Oper.wp Tryd.prog o a w K Q else E := by
  obtain ⟨i0, hi0, hz0, hz1, hz2⟩ := info_parts info_str
  have hw : Region.wanted o (yielded ops a.tmps) = true := by simp [Region.wanted, hgd]
  rw [if_pos hw]
  exact wp_append_any w s x 23 ho base 9 i0 _ 1 16 Tryd.underlying23 hi0 hz0 hz1 hz2 rfl (by omega) v n xs hs hown B A m c news hx hr h1 (by simp only [maxLen]; omega) (by omega) hbase h

/-- what Parent answers -/
def ParentT (xs : List ByteArray) (w : World) (e : Ending) (w' : World) : Prop :=
  (xs.length = 0 ∧ e = .returned (.tuple #[.slice none 0 0, .string ByteArray.empty, .bool false]) ∧ w' = w) ∨
  ∃ (A : Option Addr) (c n : Nat) (x : ByteArray), xs.length = n + 1 ∧ xs[n]? = some x ∧ e = .returned (.tuple #[.slice A n c, .string x, .bool true]) ∧
    w'.ownsRow w.heap.size 9 1 (.slice A n c) n ((xs.take n).map Value.string) ∧ Below w.heap.size w w'

set_option maxHeartbeats 1000000 in
theorem parent_any (w : World) (base c : Nat) (A : Option Addr) (xs : List ByteArray) (h : w.ownsRow base 9 1 (.slice A xs.length c) xs.length (xs.map Value.string)) (hn : xs.length ≤ 1000) :
    Calls Tryd.prog 17 #[.slice A xs.length c] w (ParentT xs w) := by
  rcases Nat.eq_zero_or_pos xs.length with h0 | h0
  · rw [h0]
    have H0 := Lib.hid h0
    clear h h0
    go_enter Tryd.func17, Tryd.ntmps17
    go_wp2
    go_ret3
    exact .inl ⟨H0.out, rfl, rfl⟩
  · obtain ⟨n, hnn⟩ : ∃ n, xs.length = n + 1 := ⟨xs.length - 1, by omega⟩
    obtain ⟨g, _, hg, rfl, hnc, hcell⟩ := own_cells h h0
    have hcn : n + 1 ≤ c := by omega
    have hr := (RS.of_own h)
    obtain ⟨x, hx⟩ : ∃ x, xs[n]? = some x := ⟨xs[n]'(by omega), List.getElem?_eq_getElem (by omega)⟩
    have c1 := hcell n x hx
    rw [Nat.zero_add] at c1
    have hrt : Reads w w.heap.size 1 (some ⟨g, 0, none⟩) n ((xs.take n).map Value.string) := by
      have := Reads.take hr (k := n) (by omega)
      rwa [Nat.mul_one, ← List.map_take] at this
    have HRT := hide hrt
    have HX := Lib.hid hx
    have HN := Lib.hid hnn
    have hz : ((n + 1 : Nat) : Int) = (n : Int) + 1 := by omega
    have hwr : wrap64 ((n : Int) + 1 - 1) = n := by rw [show (n : Int) + 1 - 1 = n from by omega]; unfold wrap64; omega
    have he0 : (((n : Int) + 1) == 0) = false := by simp; omega
    have hnI : n ≤ 999 := by omega
    have hnc2 : n ≤ c := by omega
    have hlI : (n : Int) < (n : Int) + 1 := by omega
    rw [hnn]
    clear h hcell hr hx hnn h0 hrt
    go_enter Tryd.func17, Tryd.ntmps17
    go_wp2_with fail
    refine wp_region_held_drew (S := (fun W => W.cell? ⟨g, n, none⟩ = some (.string x))) (by kernel_rfl) ?_ (fun hHeld => ?_)
    · exact c1
    refine wpAnyH_take (i := 0) (oi := ({ dst := some 12, op := Op.move (Operand.tmp 0), type := 23, pos := _, after := #[], guard := none })) (v := ?_) rfl (by kernel_rfl) (by kernel_rfl) (by kernel_rfl) (fun _ _ _ h => h) (Or.inl ⟨by rfl, ?_⟩) (by assumption) ?_
    rotate_left
    · (intro wq hSw; (try dsimp only at hSw); go_simp; try with_reducible rfl)
    try simp only [Act.put, List.setIfInBounds_toArray, List.set_cons_zero, List.set_cons_succ]
    refine wpAnyH_take (i := 1) (oi := ({ dst := some 13, op := Op.move (Operand.tmp 5), type := 3, pos := _, after := #[], guard := none })) (v := ?_) rfl (by kernel_rfl) (by kernel_rfl) (by kernel_rfl) (fun _ _ _ h => h) (Or.inl ⟨by rfl, ?_⟩) (by assumption) ?_
    rotate_left
    · (intro wq hSw; (try dsimp only at hSw); go_simp; try with_reducible rfl)
    try simp only [Act.put, List.setIfInBounds_toArray, List.set_cons_zero, List.set_cons_succ]
    refine wpAnyH_take (i := 2) (oi := ({ dst := some 14, op := Op.slice 23 (Operand.tmp 12) none (some (Operand.tmp 13)) none, type := 23, pos := _, after := #[{ on := 0, ground := Ground.data }, { on := 1, ground := Ground.data }], guard := none })) (v := ?_) rfl (by kernel_rfl) (by kernel_rfl) (by kernel_rfl) (fun _ _ _ h => h) (Or.inl ⟨by rfl, ?_⟩) (by assumption) ?_
    rotate_left
    · (intro wq hSw; (try dsimp only at hSw); go_simp; try with_reducible rfl)
    try simp only [Act.put, List.setIfInBounds_toArray, List.set_cons_zero, List.set_cons_succ]
    refine wpAnyH_take (i := 4) (oi := ({ dst := some 16, op := Op.move (Operand.tmp 0), type := 23, pos := _, after := #[{ on := 8, ground := Ground.gcOnly Departure.lateStores }], guard := none })) (v := ?_) rfl (by kernel_rfl) (by kernel_rfl) (by kernel_rfl) (fun _ _ _ h => h) (Or.inl ⟨by rfl, ?_⟩) (by assumption) ?_
    rotate_left
    · (intro wq hSw; (try dsimp only at hSw); go_simp; try with_reducible rfl)
    try simp only [Act.put, List.setIfInBounds_toArray, List.set_cons_zero, List.set_cons_succ]
    refine wpAnyH_take (i := 5) (oi := ({ dst := some 17, op := Op.move (Operand.tmp 5), type := 3, pos := _, after := #[{ on := 8, ground := Ground.gcOnly Departure.lateStores }], guard := none })) (v := ?_) rfl (by kernel_rfl) (by kernel_rfl) (by kernel_rfl) (fun _ _ _ h => h) (Or.inl ⟨by rfl, ?_⟩) (by assumption) ?_
    rotate_left
    · (intro wq hSw; (try dsimp only at hSw); go_simp; try with_reducible rfl)
    try simp only [Act.put, List.setIfInBounds_toArray, List.set_cons_zero, List.set_cons_succ]
    refine wpAnyH_take (i := 6) (oi := ({ dst := some 18, op := Op.indexAddr 23 (Operand.tmp 16) (Operand.tmp 17), type := 0, pos := _, after := #[{ on := 4, ground := Ground.data }, { on := 5, ground := Ground.data }, { on := 8, ground := Ground.gcOnly Departure.lateStores }], guard := none })) (v := ?_) rfl (by kernel_rfl) (by kernel_rfl) (by kernel_rfl) (fun _ _ _ h => h) (Or.inl ⟨by rfl, ?_⟩) (by assumption) ?_
    rotate_left
    · (intro wq hSw; (try dsimp only at hSw); go_simp; try with_reducible rfl)
    try simp only [Act.put, List.setIfInBounds_toArray, List.set_cons_zero, List.set_cons_succ]
    refine wpAnyH_take (i := 7) (oi := ({ dst := some 19, op := Op.load 9 (Operand.tmp 18), type := 9, pos := _, after := #[{ on := 6, ground := Ground.data }, { on := 8, ground := Ground.gcOnly Departure.lateStores }], guard := none })) (v := ?_) rfl (by kernel_rfl) (by kernel_rfl) (by kernel_rfl) (fun _ _ _ h => h) (Or.inl ⟨by rfl, ?_⟩) (by assumption) ?_
    rotate_left
    · (intro wq hSw; (try dsimp only at hSw); go_simp; try with_reducible rfl)
    try simp only [Act.put, List.setIfInBounds_toArray, List.set_cons_zero, List.set_cons_succ]
    refine wpAnyH_ready (rs := [3]) (by kernel_rfl) (by simp) ?_
    refine AllReadyH.cons (o := ({ dst := some 15, op := Op.call { callee := Callee.builtin Builtin.append, args := #[Operand.const (Value.slice none 0 0), Operand.tmp 14], argTypes := #[23, 23] }, type := 23, pos := _, after := #[{ on := 2, ground := Ground.data }], guard := none })) rfl (fun K hK => ?_) AllReadyH.nil
    refine step_append_str rfl (.const (.slice none 0 0)) (.tmp 14) rfl w.heap.size (.slice none 0 0) 0 [] rfl (World.ownsRow_nil _ _ _ _) w.heap.size (some ⟨g, 0, none⟩) n c ((xs.take n).map Value.string) rfl (unhid_ HRT) (one_str _) (by omega) (Nat.le_refl _) ?_
    intro v1 w1 hown1 hg1 hat1
    simp only [Nat.zero_add, List.nil_append] at hown1
    obtain ⟨A1, c2, rfl⟩ := own_slice hown1
    have hb1 : Below w.heap.size w w1 := (Only.below (Only.refl [] w).drew (by simp) (Nat.le_refl _)).grown hg1 (Nat.le_refl _) (by simp [Value.ownBlock])
    have hc1 : w1.cell? ⟨g, n, none⟩ = some (.string x) := (hb1.cell (p := ⟨g, n, none⟩) hg).trans c1
    have HB1 := hide hb1
    have HOWN := hide hown1
    clear hb1 hown1 hg1 hat1
    refine hK.out _ _ ?_ (fun hHeld => ?_)
    · exact hc1
    clear hK K
    try simp only [Act.put, List.setIfInBounds_toArray, List.set_cons_zero, List.set_cons_succ]
    refine wpAnyH_take (i := 8) (oi := ({ dst := some 2, op := Op.assign (Operand.tmp 15), type := 23, pos := _, after := #[{ on := 3, ground := Ground.data }, { on := 3, ground := Ground.chain }, { on := 0, ground := Ground.phase }, { on := 1, ground := Ground.phase }, { on := 2, ground := Ground.phase }, { on := 3, ground := Ground.phase }, { on := 4, ground := Ground.textOnly Departure.lateStores }, { on := 5, ground := Ground.textOnly Departure.lateStores }, { on := 6, ground := Ground.textOnly Departure.lateStores }, { on := 7, ground := Ground.textOnly Departure.lateStores }], guard := none })) (v := ?_) rfl (by kernel_rfl) (by kernel_rfl) (by kernel_rfl) (fun _ _ _ h => h) (Or.inl ⟨by rfl, ?_⟩) (by assumption) ?_
    rotate_left
    · (intro wq hSw; (try dsimp only at hSw); go_simp; try with_reducible rfl)
    try simp only [Act.put, List.setIfInBounds_toArray, List.set_cons_zero, List.set_cons_succ]
    refine wpAnyH_take (i := 9) (oi := ({ dst := some 3, op := Op.assign (Operand.tmp 19), type := 9, pos := _, after := #[{ on := 7, ground := Ground.data }, { on := 8, ground := Ground.chain }, { on := 0, ground := Ground.phase }, { on := 1, ground := Ground.phase }, { on := 2, ground := Ground.phase }, { on := 3, ground := Ground.phase }, { on := 4, ground := Ground.phase }, { on := 5, ground := Ground.phase }, { on := 6, ground := Ground.phase }, { on := 7, ground := Ground.phase }, { on := 8, ground := Ground.phase }], guard := none })) (v := ?_) rfl (by kernel_rfl) (by kernel_rfl) (by kernel_rfl) (fun _ _ _ h => h) (Or.inl ⟨by rfl, ?_⟩) (by assumption) ?_
    rotate_left
    · (intro wq hSw; (try dsimp only at hSw); go_simp; try with_reducible rfl)
    try simp only [Act.put, List.setIfInBounds_toArray, List.set_cons_zero, List.set_cons_succ]
    refine wpAnyH_take (i := 10) (oi := ({ dst := some 4, op := Op.assign (Operand.const (Value.bool true)), type := 4, pos := _, after := #[{ on := 9, ground := Ground.chain }, { on := 0, ground := Ground.phase }, { on := 1, ground := Ground.phase }, { on := 2, ground := Ground.phase }, { on := 3, ground := Ground.phase }, { on := 4, ground := Ground.phase }, { on := 5, ground := Ground.phase }, { on := 6, ground := Ground.phase }, { on := 7, ground := Ground.phase }, { on := 8, ground := Ground.phase }, { on := 9, ground := Ground.phase }], guard := none })) (v := ?_) rfl (by kernel_rfl) (by kernel_rfl) (by kernel_rfl) (fun _ _ _ h => h) (Or.inl ⟨by rfl, ?_⟩) (by assumption) ?_
    rotate_left
    · (intro wq hSw; (try dsimp only at hSw); go_simp; try with_reducible rfl)
    try simp only [Act.put, List.setIfInBounds_toArray, List.set_cons_zero, List.set_cons_succ]
    refine wpAnyH_done (by kernel_rfl) ?_ _
    go_wp2
    go_ret3
    exact .inr ⟨A1, c2, n, x, HN.out, HX.out, rfl, unhid_ HOWN, unhid_ HB1⟩
end Go.Proofs.YtgkjmhbkalkfkaaDoor
