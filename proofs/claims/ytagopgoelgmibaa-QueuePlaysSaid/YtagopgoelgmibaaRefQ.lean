/- The walks of the document's own queue (pedigreeref13): New, Put, Get. -/
import Derived.Test.YtagopgoelgmibaaBytes
import Derived.Deep.DeepCutAuto
namespace Go.Proofs.Ytagopgoelgmibaa
open Go.RowKit
set_option linter.unusedSimpArgs false

/-- block h is the document's queue of at most cap bytes; it holds B, in a row from base on -/
def IsW (w : World) (base h cap : Nat) (B : List Int) : Prop :=
  ∃ (A : Option Addr) (c : Nat), Blk w h 35 #[.slice A B.length c, .int .i64 cap] ∧ w.ownsRow base 5 1 (.slice A B.length c) B.length (B.map (Value.int .u8)) ∧ B.length ≤ cap ∧ cap ≤ 65536
theorem IsW.drewN {w : World} {base h cap : Nat} {B : List Int} (hw : IsW w base h cap B) (n : Nat) : IsW (w.drewN n) base h cap B := hw
theorem own_only {w w' : World} {base : Nat} {e : TypeId} {size n : Nat} {v : Value} {xs : List Value} {S : List Nat} (h : w.ownsRow base e size v n xs) (ho : Only S w w') (hS : ∀ k ∈ S, k < base ∨ w.heap.size ≤ k) : w'.ownsRow base e size v n xs := by
  refine ⟨h.1, ?_⟩
  rcases h.2 with h2 | ⟨g, cap, cur, hv, hb, hh, r⟩
  · exact .inl h2
  · have hg := (Array.getElem?_eq_some_iff.1 hh).1
    exact .inr ⟨g, cap, cur, hv, hb, (ho.block g hg (fun hm => by have := hS g hm; omega)).trans hh, r⟩
theorem IsW.only {w w' : World} {base h cap : Nat} {B : List Int} {S : List Nat} (hw : IsW w base h cap B) (ho : Only S w w') (hh : h ∉ S) (hS : ∀ k ∈ S, k < base ∨ w.heap.size ≤ k) : IsW w' base h cap B := by
  obtain ⟨A, c, h1, h2, h3⟩ := hw
  exact ⟨A, c, ho.blk h1 hh, own_only h2 ho hS, h3⟩
theorem IsW.lt {w : World} {base h cap : Nat} {B : List Int} (hw : IsW w base h cap B) : h < w.heap.size := by
  obtain ⟨A, c, h1, _⟩ := hw
  exact h1.lt

theorem own_base {w : World} {base base' : Nat} {e : TypeId} {size n : Nat} {v : Value} {xs : List Value} (h : w.ownsRow base e size v n xs) (hb : base' ≤ base) : w.ownsRow base' e size v n xs := by
  refine ⟨h.1, ?_⟩
  rcases h.2 with h2 | ⟨g, cap, cur, hv, hg, r⟩
  · exact .inl h2
  · exact .inr ⟨g, cap, cur, hv, Nat.le_trans hb hg, r⟩
def NewW (cap : Nat) (w : World) (e : Ending) (w' : World) : Prop := e = .returned (.pointer (some ⟨w.heap.size, 0, none⟩)) ∧ IsW w' (w.heap.size + 1) w.heap.size cap [] ∧ Below w.heap.size w w' ∧ w'.heap.size = w.heap.size + 1
theorem IsW.fresh (w : World) (n : Nat) (h : n ≤ 65536) : IsW (w.alloc (.cells #[.slice none 0 0, .int .i64 n] 35)) (w.heap.size + 1) w.heap.size n [] :=
  ⟨none, 0, Blk.new w _ _, World.ownsRow_nil _ _ _ _, Nat.zero_le _, h⟩

set_option maxHeartbeats 400000 in
theorem rnew_any (w : World) (most : Int) :
    Calls Try.prog 8 #[.int .i64 most] w (NewW (max 0 (min most 65536)).toNat w) := by
  by_cases h0 : most < 0
  · have e : (max 0 (min most 65536)).toNat = 0 := by omega
    rw [e]
    have HF := hide (IsW.fresh w 0 (by omega))
    clear e
    go_enter Try.func8, Try.ntmps8
    go_wp2
    go_ret
    exact ⟨rfl, unhid_ HF, (Below.refl _ _).alloc (Nat.le_refl _) _, by simp⟩
  · by_cases h1 : 65536 < most
    · have e : (max 0 (min most 65536)).toNat = 65536 := by omega
      rw [e]
      have HF := hide (IsW.fresh w 65536 (by omega))
      clear e
      go_enter Try.func8, Try.ntmps8
      go_wp2
      go_ret
      exact ⟨rfl, unhid_ HF, (Below.refl _ _).alloc (Nat.le_refl _) _, by simp⟩
    · obtain ⟨n, rfl⟩ := Int.eq_ofNat_of_zero_le (show 0 ≤ most by omega)
      have hn : (n : Int) ≤ 65536 := by omega
      have e : (max 0 (min (n : Int) 65536)).toNat = n := by omega
      rw [e]
      have HF := hide (IsW.fresh w n (by omega))
      clear e
      go_enter Try.func8, Try.ntmps8
      go_wp2
      go_ret
      exact ⟨rfl, unhid_ HF, (Below.refl _ _).alloc (Nat.le_refl _) _, by simp⟩

theorem step_append_any {ops : Array Oper} {o : Oper} {a : Act} {w : World} {K : Act → World → Prop} {Q : Exit → Act → World → Prop} {E : Prop} (hgd : o.guard = none) (s x : Operand)
    (ho : o.op = .call { callee := .builtin .append, args := #[s, x], argTypes := #[28, 28] })
    (base : Nat) (v : Value) (n : Nat) (xs : List Value) (hs : a.eval s = v) (hown : w.ownsRow base 5 1 v n xs)
    (B : Nat) (A : Option Addr) (m c : Nat) (news : List Value) (hx : a.eval x = .slice A m c) (hr : Reads w B 1 A m news) (h1 : ∀ u ∈ news, u.oneCell' = true)
    (h63 : n + m ≤ 1000000) (hbase : base ≤ w.heap.size)
    (h : ∀ v' w', w'.ownsRow base 5 1 v' (n + m) (xs ++ news) → w.grownBy w' v.ownBlock → (v'.ownBlock = v.ownBlock ∨ v'.ownBlock = some w.heap.size) → K (a.put o.dst v') w') :
    if Region.wanted o (yielded ops a.tmps) = true then Oper.wp Try.prog o a w K Q else E := by
  obtain ⟨i0, hi0, hz0, hz1, hz2⟩ := info_parts info_u8
  have hw : Region.wanted o (yielded ops a.tmps) = true := by simp [Region.wanted, hgd]
  rw [if_pos hw]
  exact wp_append_any w s x 28 ho base 5 i0 _ 1 1 Try.underlying28 hi0 hz0 hz1 hz2 rfl (by omega) v n xs hs hown B A m c news hx hr h1 (by simp only [maxLen]; omega) (by omega) hbase h

/-- what the document's Put leaves -/
def PutW (base h cap k : Nat) (B xs : List Int) (w : World) (e : Ending) (w' : World) : Prop :=
  e = .returned (.int .i64 k) ∧ IsW w' base h cap (B ++ xs.take k) ∧ Only [h] w w'

set_option maxHeartbeats 2000000 in
theorem rput_any (w : World) (base h cap SB : Nat) (B xs : List Int) (O : Option Addr) (n c k : Nat) (hk : k = min n (cap - B.length)) (hw : IsW w base h cap B) (hr : Reads w SB 1 O n (xs.map (Value.int .u8))) (hnc : n ≤ c) (hbase : base ≤ w.heap.size) (hhb : h < base) (hSB : SB ≤ w.heap.size) :
    Calls Try.prog 12 #[.pointer (some ⟨h, 0, none⟩), .slice O n c] w (PutW base h cap k B xs w) := by
  have hlt := hw.lt
  obtain ⟨A, ca, h1, h2, h3, h4⟩ := hw
  have c0 : w.cell? ⟨h, 0, none⟩ = some (.slice A B.length ca) := h1.cell 0
  have c1 : w.cell? ⟨h, 1, none⟩ = some (.int .i64 cap) := h1.cell 1
  have H1 := hide h1
  have H2 := hide h2
  have HK := Lib.hid hk
  have hkn : k ≤ n := by omega
  have hkc : k ≤ c := by omega
  have hor : ((n : Int) ≤ (cap : Int) - (B.length : Int) ∧ k = n) ∨ ((cap : Int) - (B.length : Int) < (n : Int) ∧ ((k : Int) = (cap : Int) - (B.length : Int))) := by omega
  have HOR := Lib.hid hor
  clear h1 h2 hk hor
  go_enter Try.func12, Try.ntmps12
  go_wp2
  go_upto_region 1 with fail
  go_cut [5] (fun s5 wx => s5 = .int .i64 (k : Int) ∧ ∃ q, wx = w.drewN q)
  case first =>
    rcases HOR.out with ⟨g1, g2⟩ | ⟨g1, g2⟩
    all_goals
      have G2 := Lib.hid g2
      clear g2
      go_quiet (fail)
      go_wp2_with fail
      go_meet
      exact ⟨by have := G2.out; congr 1; omega, _, rfl⟩
  case rest =>
    obtain ⟨rfl, q, hwx⟩ := hcut
    subst hwx
    have R1 : Hid (Reads (w.drewN (q + 1)) w.heap.size 1 A B.length (B.map (Value.int .u8))) := Reads.of_own (unhid_ H2)
    have hle : B.length + k ≤ cap := by have := HK.out; omega
    go_wp2_with fail
    refine wp_region_held_drew (S := (fun _ => True)) (by kernel_rfl) ?_ (fun hHeld => ?_)
    · trivial
    refine wpAnyH_take (i := 0) (oi := ({ dst := some 19, op := Op.move (Operand.tmp 0), type := 26, pos := _, after := #[], guard := none })) (v := ?_) rfl (by kernel_rfl) (by kernel_rfl) (by kernel_rfl) (fun _ _ _ h => h) (Or.inl ⟨by rfl, ?_⟩) (by assumption) ?_
    rotate_left
    · (intro wq hSw; (try dsimp only at hSw); go_simp; try with_reducible rfl)
    try simp only [Act.put, List.setIfInBounds_toArray, List.set_cons_zero, List.set_cons_succ]
    refine wpAnyH_take (i := 1) (oi := ({ dst := some 20, op := Op.move (Operand.tmp 0), type := 26, pos := _, after := #[], guard := none })) (v := ?_) rfl (by kernel_rfl) (by kernel_rfl) (by kernel_rfl) (fun _ _ _ h => h) (Or.inl ⟨by rfl, ?_⟩) (by assumption) ?_
    rotate_left
    · (intro wq hSw; (try dsimp only at hSw); go_simp; try with_reducible rfl)
    try simp only [Act.put, List.setIfInBounds_toArray, List.set_cons_zero, List.set_cons_succ]
    refine wpAnyH_take (i := 2) (oi := ({ dst := some 21, op := Op.nilCheck (Operand.tmp 20), type := 0, pos := _, after := #[{ on := 1, ground := Ground.data }], guard := none })) (v := ?_) rfl (by kernel_rfl) (by kernel_rfl) (by kernel_rfl) (fun _ _ _ h => h) (Or.inl ⟨by rfl, ?_⟩) (by assumption) ?_
    rotate_left
    · (intro wq hSw; (try dsimp only at hSw); go_simp; try with_reducible rfl)
    try simp only [Act.put, List.setIfInBounds_toArray, List.set_cons_zero, List.set_cons_succ]
    refine wpAnyH_take (i := 3) (oi := ({ dst := some 22, op := Op.fieldAddr 35 (Operand.tmp 21) 0, type := 0, pos := _, after := #[{ on := 2, ground := Ground.data }], guard := none })) (v := ?_) rfl (by kernel_rfl) (by kernel_rfl) (by kernel_rfl) (fun _ _ _ h => h) (Or.inl ⟨by rfl, ?_⟩) (by assumption) ?_
    rotate_left
    · (intro wq hSw; (try dsimp only at hSw); go_simp; try with_reducible rfl)
    try simp only [Act.put, List.setIfInBounds_toArray, List.set_cons_zero, List.set_cons_succ]
    refine wpAnyH_take (i := 6) (oi := ({ dst := some 25, op := Op.move (Operand.tmp 1), type := 28, pos := _, after := #[], guard := none })) (v := ?_) rfl (by kernel_rfl) (by kernel_rfl) (by kernel_rfl) (fun _ _ _ h => h) (Or.inl ⟨by rfl, ?_⟩) (by assumption) ?_
    rotate_left
    · (intro wq hSw; (try dsimp only at hSw); go_simp; try with_reducible rfl)
    try simp only [Act.put, List.setIfInBounds_toArray, List.set_cons_zero, List.set_cons_succ]
    refine wpAnyH_take (i := 7) (oi := ({ dst := some 26, op := Op.move (Operand.tmp 5), type := 3, pos := _, after := #[], guard := none })) (v := ?_) rfl (by kernel_rfl) (by kernel_rfl) (by kernel_rfl) (fun _ _ _ h => h) (Or.inl ⟨by rfl, ?_⟩) (by assumption) ?_
    rotate_left
    · (intro wq hSw; (try dsimp only at hSw); go_simp; try with_reducible rfl)
    try simp only [Act.put, List.setIfInBounds_toArray, List.set_cons_zero, List.set_cons_succ]
    refine wpAnyH_take (i := 8) (oi := ({ dst := some 27, op := Op.slice 28 (Operand.tmp 25) none (some (Operand.tmp 26)) none, type := 28, pos := _, after := #[{ on := 6, ground := Ground.data }, { on := 7, ground := Ground.data }], guard := none })) (v := ?_) rfl (by kernel_rfl) (by kernel_rfl) (by kernel_rfl) (fun _ _ _ h => h) (Or.inl ⟨by rfl, ?_⟩) (by assumption) ?_
    rotate_left
    · (intro wq hSw; (try dsimp only at hSw); go_simp; try with_reducible rfl)
    try simp only [Act.put, List.setIfInBounds_toArray, List.set_cons_zero, List.set_cons_succ]
    refine wpAnyH_ready (rs := [4]) (by kernel_rfl) (by simp) ?_
    refine AllReadyH.cons (o := ({ dst := some 23, op := Op.load 28 (Operand.tmp 22), type := 28, pos := _, after := #[{ on := 3, ground := Ground.data }], guard := none })) rfl (fun K hK => ?_) AllReadyH.nil
    go_simp
    skip
    refine hK.out _ _ ?_ (fun hHeld => ?_)
    · trivial
    clear hK K
    try simp only [Act.put, List.setIfInBounds_toArray, List.set_cons_zero, List.set_cons_succ]
    refine wpAnyH_ready (rs := [5]) (by kernel_rfl) (by simp) ?_
    refine AllReadyH.cons (o := ({ dst := some 24, op := Op.call { callee := Callee.builtin Builtin.append, args := #[Operand.const (Value.slice none 0 0), Operand.tmp 23], argTypes := #[28, 28] }, type := 28, pos := _, after := #[{ on := 4, ground := Ground.data }], guard := none })) rfl (fun K hK => ?_) AllReadyH.nil
    refine step_append_any rfl (.const (.slice none 0 0)) (.tmp 23) rfl w.heap.size (.slice none 0 0) 0 [] rfl (World.ownsRow_nil _ _ _ _) w.heap.size A B.length ca (B.map (Value.int .u8)) rfl R1.out (By_one B) (by omega) (Nat.le_refl _) ?_
    intro v1 w1 hown1 hg1 hat1
    simp only [Nat.zero_add, List.nil_append] at hown1
    have hbw1 : Below w.heap.size w w1 := ((belowN (Below.refl _ _) (q + 1)).grown hg1 (Nat.le_refl _) (by simp [Value.ownBlock]))
    refine hK.out _ _ ?_ (fun hHeld => ?_)
    · trivial
    clear hK K
    try simp only [Act.put, List.setIfInBounds_toArray, List.set_cons_zero, List.set_cons_succ]
    refine wpAnyH_ready (rs := [9]) (by kernel_rfl) (by simp) ?_
    refine AllReadyH.cons (o := ({ dst := some 28, op := Op.call { callee := Callee.builtin Builtin.append, args := #[Operand.tmp 24, Operand.tmp 27], argTypes := #[28, 28] }, type := 28, pos := _, after := #[{ on := 5, ground := Ground.data }, { on := 8, ground := Ground.data }, { on := 5, ground := Ground.chain }], guard := none })) rfl (fun K hK => ?_) AllReadyH.nil
    refine step_append_any rfl (.tmp 24) (.tmp 27) rfl w.heap.size v1 B.length (B.map (Value.int .u8)) rfl hown1 SB O k c ((xs.take k).map (Value.int .u8)) rfl (Reads.takeB (hr.below (hbw1.mono hSB)) hkn) (By_one _) (by omega) hbw1.size ?_
    intro v2 w2 hown2 hg2 hat2
    have hb2 : Below w.heap.size w w2 := hbw1.grown hg2 hbw1.size (fun x hx => (hown1.lt x hx).1)
    obtain ⟨A2, c2, rfl⟩ := own_slice hown2
    have d0 : w2.cell? ⟨h, 0, none⟩ = some (.slice A B.length ca) := (hb2.cell (p := ⟨h, 0, none⟩) hlt).trans c0
    have f0 : w2.frozen? ⟨h, 0, none⟩ = false := ((unhid_ H1).below hb2 hlt).frozen 0
    have HO2 := hide hown2
    have HB2 := hide hb2
    clear hown1 hown2 hg1 hg2 hat1 hat2 hbw1
    refine hK.out _ _ ?_ (fun hHeld => ?_)
    · trivial
    clear hK K
    try simp only [Act.put, List.setIfInBounds_toArray, List.set_cons_zero, List.set_cons_succ]
    refine wpAnyH_take (i := 10) (oi := ({ dst := some 29, op := Op.nilCheck (Operand.tmp 19), type := 0, pos := _, after := #[{ on := 0, ground := Ground.data }, { on := 0, ground := Ground.phase }, { on := 1, ground := Ground.phase }, { on := 2, ground := Ground.phase }, { on := 3, ground := Ground.phase }, { on := 4, ground := Ground.phase }, { on := 5, ground := Ground.phase }, { on := 6, ground := Ground.phase }, { on := 7, ground := Ground.phase }, { on := 8, ground := Ground.phase }, { on := 9, ground := Ground.phase }], guard := none })) (v := ?_) rfl (by kernel_rfl) (by kernel_rfl) (by kernel_rfl) (fun _ _ _ h => h) (Or.inl ⟨by rfl, ?_⟩) (by assumption) ?_
    rotate_left
    · (intro wq hSw; (try dsimp only at hSw); go_simp; try with_reducible rfl)
    try simp only [Act.put, List.setIfInBounds_toArray, List.set_cons_zero, List.set_cons_succ]
    refine wpAnyH_take (i := 11) (oi := ({ dst := some 30, op := Op.fieldAddr 35 (Operand.tmp 29) 0, type := 0, pos := _, after := #[{ on := 10, ground := Ground.data }, { on := 0, ground := Ground.phase }, { on := 1, ground := Ground.phase }, { on := 2, ground := Ground.phase }, { on := 3, ground := Ground.phase }, { on := 4, ground := Ground.phase }, { on := 5, ground := Ground.phase }, { on := 6, ground := Ground.phase }, { on := 7, ground := Ground.phase }, { on := 8, ground := Ground.phase }, { on := 9, ground := Ground.phase }], guard := none })) (v := ?_) rfl (by kernel_rfl) (by kernel_rfl) (by kernel_rfl) (fun _ _ _ h => h) (Or.inl ⟨by rfl, ?_⟩) (by assumption) ?_
    rotate_left
    · (intro wq hSw; (try dsimp only at hSw); go_simp; try with_reducible rfl)
    try simp only [Act.put, List.setIfInBounds_toArray, List.set_cons_zero, List.set_cons_succ]
    refine wpAnyH_ready (rs := [12]) (by kernel_rfl) (by simp) ?_
    refine AllReadyH.cons (o := ({ dst := none, op := Op.store 28 (Operand.tmp 30) (Operand.tmp 28), type := 0, pos := _, after := #[{ on := 11, ground := Ground.data }, { on := 9, ground := Ground.data }, { on := 9, ground := Ground.chain }, { on := 0, ground := Ground.phase }, { on := 1, ground := Ground.phase }, { on := 2, ground := Ground.phase }, { on := 3, ground := Ground.phase }, { on := 4, ground := Ground.phase }, { on := 5, ground := Ground.phase }, { on := 6, ground := Ground.phase }, { on := 7, ground := Ground.phase }, { on := 8, ground := Ground.phase }, { on := 9, ground := Ground.phase }], guard := none })) rfl (fun K hK => ?_) AllReadyH.nil
    go_simp
    skip
    refine hK.out _ _ ?_ (fun hHeld => ?_)
    · trivial
    clear hK K
    try simp only [Act.put, List.setIfInBounds_toArray, List.set_cons_zero, List.set_cons_succ]
    refine wpAnyH_done (by kernel_rfl) ?_ _
    go_wp2
    go_ret
    have hlen : (B ++ xs.take k).length = B.length + k := by rw [List.length_append, List.length_take, Nat.min_eq_left (by have h1 := hr.1; rw [List.length_map] at h1; omega)]
    refine ⟨rfl, ⟨A2, c2, ?_, ?_, by omega, h4⟩, ?_⟩
    · have := ((unhid_ H1).below (unhid_ HB2) hlt).set_ 0 (.slice A2 (B.length + k) c2)
      rw [hlen]
      exact this
    · rw [hlen, List.map_append]
      exact ownsRow_setCell_below (own_base (unhid_ HO2) hbase) (a := ⟨h, 0, none⟩) hhb _
    · exact (Only.of_below (unhid_ HB2) [h]).setCell (.inl (by simp)) _
end Go.Proofs.Ytagopgoelgmibaa
