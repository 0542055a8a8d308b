/- The walks of table.New, own, Table.Spawn. -/
import Derived.Test.YtgdloahgokefpaaTab3
namespace Go.Proofs.Ytgdloahgokefpaa
open Go.RowKit
set_option linter.unusedSimpArgs false

theorem info_table : (Try.prog.info? 68).map (·.zero) = some (some (.agg (Tb 507 TbV.zero.cell))) := by kernel_rfl
theorem run_zero_table (W : World) : (zeroValue 68).run Try.prog W = .ok (.agg (Tb 507 TbV.zero.cell)) W := by
  have h := info_table
  cases hq : Try.prog.info? 68 with
  | none => simp [hq] at h
  | some i =>
    have hz : i.zero = some (.agg (Tb 507 TbV.zero.cell)) := by simpa [hq] using h
    simp [zeroValue, typeInfo, hq, hz, Sem.run_bind]
def NewTOk (w : World) (e : Ending) (w' : World) : Prop := e = .returned (.pointer (some ⟨w.heap.size, 0, none⟩)) ∧ IsT w' (w.heap.size + 1) w.heap.size TbV.zero ∧ Below w.heap.size w w' ∧ w'.heap.size = w.heap.size + 1
set_option maxHeartbeats 4000000 in
theorem newt_any (w : World) :
    Calls Try.prog 8 #[] w (NewTOk w) := by
  have hz := run_zero_table
  have HI : Hid (IsT (w.alloc (.cells (Tb 507 TbV.zero.cell) 68)) (w.heap.size + 1) w.heap.size TbV.zero) :=
    ⟨Blk.new _ _ _, Nat.lt_succ_self _, fun p i _ _ => ⟨World.ownsRow_nil _ _ _ _, Nat.zero_le _⟩⟩
  have HB : Hid (Below w.heap.size w (w.alloc (.cells (Tb 507 TbV.zero.cell) 68))) := (Below.refl _ _).alloc (Nat.le_refl _) _
  go_enter Try.func8, Try.ntmps8
  go_wp2
  go_ret
  exact ⟨rfl, unhid_ HI, unhid_ HB, by simp⟩

theorem Tb_cells (x : PrV) : Tb 38 x.cell = x.cells.toArray := by
  apply Array.ext
  · simp [PrV.cells]
  · intro i h1 h2
    simp [Tb, PrV.cells]
/-- an element of one cell, of an array by value -/
theorem run_index_one {P : Program} (w : World) (t e : TypeId) (n k : Nat) (cs : Array Value) (v : Value) (d : TypeDesc) (h : P.underlying t = some (.array n e)) (he : P.underlying e = some d) (hd : d.isRow = false) (hi : (P.info? e).map (·.size) = some 1) (hk : k < n) (hv : cs[k]? = some v) :
    (Instr.index t (.agg cs) (.int .i64 k)).run P w = .ok v w := by
  cases hq : P.info? e with
  | none => simp [hq] at hi
  | some i =>
    have hs : i.size = 1 := by simpa [hq] using hi
    have hagg : (isAgg e).run P w = .ok false w := by
      unfold isAgg
      rw [Sem.run_bind, run_underlying he w]
      cases d <;> simp_all
    have hk' : (k : Int) < n := by omega
    simp [Instr.index, run_underlying h, asIntOf, Sem.run_bind, part, hagg, sizeOf, typeInfo, hq, hs, hk, hk', hv]
theorem cell_setBuf {x : PrV} {i : Nat} {b : BufV} (hi : i < 4) : ∀ j, j < 38 → (fun j => if j = 2 + i then b.val else x.cell j) j = (x.setBuf i b).cell j := by
  intro j hj
  show (if j = 2 + i then b.val else x.cell j) = _
  by_cases h : j = 2 + i
  · subst h
    rw [if_pos rfl, PrV.cell, if_neg (by omega), if_neg (by omega), if_pos (by omega)]
    simp [PrV.setBuf, show 2 + i - 2 = i from by omega]
  · rw [if_neg h, PrV.cell, PrV.cell]
    by_cases h0 : j = 0
    · rw [if_pos h0, if_pos h0]; rfl
    · by_cases h1 : j = 1
      · rw [if_neg h0, if_neg h0, if_pos h1, if_pos h1]; rfl
      · by_cases h2 : j < 6
        · rw [if_neg h0, if_neg h0, if_neg h1, if_neg h1, if_pos h2, if_pos h2]
          simp only [PrV.setBuf]
          rw [if_neg (by omega)]
        · rw [if_neg h0, if_neg h0, if_neg h1, if_neg h1, if_neg h2, if_neg h2]; rfl
theorem Tb_setBuf {x : PrV} {i : Nat} {b : BufV} (hi : i < 4) : (Tb 38 x.cell).setIfInBounds (2 + i) b.val = Tb 38 (x.setBuf i b).cell := by
  rw [Tb_set]
  exact Tb_congr (cell_setBuf hi)

theorem blk_tb {w : World} {g n : Nat} {t : TypeId} {cs : Array Value} (h : Blk w g t cs) (hn : cs.size = n) : ∃ Z : Nat → Value, Blk w g t (Tb n Z) := by
  subst hn
  exact ⟨_, by rw [← Tb_of cs]; exact h⟩
theorem Blk.new' {w : World} {g : Nat} (hg : g = w.heap.size) (t : TypeId) (cs : Array Value) : Blk (w.alloc (.cells cs t)) g t cs := by subst hg; exact Blk.new w t cs
/-- two buffers do not lie in one block -/
def BufV.apart (a b : BufV) : Prop := ∀ p q, a.A = some p → b.A = some q → p.block ≠ q.block
theorem own_old {w : World} {base n : Nat} {e : TypeId} {size c : Nat} {A : Option Addr} {xs : List Value} (h : w.ownsRow base e size (.slice A n c) n xs) : ∀ p, A = some p → base ≤ p.block ∧ p.block < w.heap.size := by
  intro p hp
  rcases h.2 with ⟨h1, _⟩ | ⟨g, cap, cur, hv, hb, hh, _⟩
  · injection h1 with h1
    rw [hp] at h1; cases h1
  · injection hv with h1
    rw [hp] at h1
    injection h1 with h1
    subst h1
    exact ⟨hb, (Array.getElem?_eq_some_iff.1 hh).1⟩
/-- what own answers: the process, its buffers copied -/
def OwnedP (x : PrV) (w : World) (e : Ending) (w' : World) : Prop :=
  ∃ y : PrV, e = .returned (.agg y.cells.toArray) ∧ y.o = x.o ∧ y.n = x.n ∧ y.f = x.f ∧ (∀ i, i < 4 → (y.b i).xs = (x.b i).xs ∧ (y.b i).ok w' w.heap.size) ∧ Below w.heap.size w w' ∧ ∀ i j, i < j → j < 4 → (y.b i).apart (y.b j)
/-- own in the midst of its work -/
def MidP (x : PrV) (w : World) (n : Nat) (wq : World) : Prop :=
  ∃ y : PrV, y.o = x.o ∧ y.n = x.n ∧ y.f = x.f ∧ (∀ j, j < n → (y.b j).xs = (x.b j).xs ∧ (y.b j).ok wq (w.heap.size + 2) ∧ ∀ i, i < j → (y.b i).apart (y.b j)) ∧ (∀ j, n ≤ j → y.b j = x.b j) ∧ Blk wq w.heap.size 43 (Tb 38 y.cell) ∧ (∃ Z : Nat → Value, Blk wq (w.heap.size + 1) 43 (Tb 38 Z)) ∧ Below w.heap.size w wq
theorem MidP.step {x : PrV} {w wr w1 : World} {k n : Nat} {A1 : Option Addr} {c1 : Nat} (hk : k < 4) (hm : MidP x w k wr) (hg : wr.grownBy w1 none) (hn : n = (x.b k).xs.length) (hl : (x.b k).xs.length ≤ 100000)
    (ho0 : w1.ownsRow wr.heap.size 5 1 (.slice A1 n c1) n ((x.b k).xs.map (Value.int .u8))) : MidP x w (k + 1) (w1.setCell ⟨w.heap.size, 2 + k, none⟩ (.slice A1 n c1)) := by
  subst hn
  obtain ⟨y, e1, e2, e3, h1, h2, h3, ⟨Z, h4⟩, h5⟩ := hm
  have hb : Below wr.heap.size wr w1 := (Below.refl _ _).grown hg (Nat.le_refl _) (by simp)
  have hlt := h3.lt
  have hsz4 := h4.lt
  have ho := own_base ho0 (base' := w.heap.size + 2) (by omega)
  refine ⟨y.setBuf k ⟨A1, c1, (x.b k).xs⟩, e1, e2, e3, fun j hj => ?_, fun j hj => ?_, ?_, ⟨Z, (h4.below hb h4.lt).far (p := ⟨w.heap.size, 2 + k, none⟩) (by show w.heap.size + 1 ≠ w.heap.size; omega) _⟩, (h5.trans (hb.mono h5.size)).setCell (p := ⟨w.heap.size, 2 + k, none⟩) (Nat.le_refl _) _⟩
  · simp only [PrV.setBuf]
    by_cases hjk : j = k
    · subst hjk
      rw [if_pos rfl]
      refine ⟨rfl, ⟨ownsRow_setCell_below ho (a := ⟨w.heap.size, 2 + j, none⟩) (by show w.heap.size < _; omega) _, hl⟩, fun i hi => ?_⟩
      rw [if_neg (by omega)]
      intro p q hp hq
      have h7 := (own_old (h1 i hi).2.1.1 p hp).2
      have h8 := (own_old ho0 q hq).1
      omega
    · rw [if_neg hjk]
      obtain ⟨q1, ⟨q2, q3⟩, q4⟩ := h1 j (by omega)
      refine ⟨q1, ⟨ownsRow_setCell_below (own_only q2 (Only.of_below hb []) (by simp)) (a := ⟨w.heap.size, 2 + k, none⟩) (by show w.heap.size < _; omega) _, q3⟩, fun i hi => ?_⟩
      rw [if_neg (by omega)]
      exact q4 i hi
  · simp only [PrV.setBuf]
    rw [if_neg (by omega)]
    exact h2 j (by omega)
  · have := (h3.below hb hlt).set_ (2 + k) (.slice A1 (x.b k).xs.length c1)
    have e := Tb_setBuf (x := y) (b := ⟨A1, c1, (x.b k).xs⟩) hk
    simp only [BufV.val] at e
    rw [e] at this
    exact this
theorem PrV.range_all {w : World} {b : Nat} {t : TypeId} {x : PrV} (h : Blk w b t (Tb 38 x.cell)) : w.rangeAt b 0 x.cells := by
  intro j v hv
  rw [Tb_cells] at h
  rw [Nat.zero_add, h.cell, List.getElem?_toArray]
  exact hv

theorem results_cell {P : Program} {fn : Func} {tmps : Array Value} {a : Nat} {t : TypeId} {p : Addr} {v : Value} {w : World} (hf : fn.results = #[.cell a t]) (hp : tmps.getD a undef = .pointer (some p)) (hr : (loadVar t p).run P w = .ok v w) : (results fn tmps).run P w = .ok v w := by
  have hp' : tmps[a]?.getD undef = .pointer (some p) := by simpa using hp
  simp [results, hf, hp', asAddr, hr, Sem.run_bind]
theorem Tb_fill (Z : Nat → Value) (y : PrV) : Tb 38 (putAt Z 0 y.cells) = Tb 38 y.cell := by
  rw [Tb_cells, ← Tb_list y.cells Z, PrV.cells_length]
theorem Blk.fill {w : World} {g : Nat} {t : TypeId} {Z : Nat → Value} (h : Blk w g t (Tb 38 Z)) (y : PrV) : Blk (w.setCells g 0 y.cells) g t (Tb 38 y.cell) := by
  rw [← Tb_fill Z y]
  exact Blk.setCells y.cells Z 0 w h

set_option maxHeartbeats 4000000 in
theorem ownp_any (w : World) (x : PrV) (B : Nat) (hx : ∀ i, i < 4 → Reads w B 1 (x.b i).A (x.b i).xs.length ((x.b i).xs.map (Value.int .u8)) ∧ (x.b i).xs.length ≤ 100000) (hB : B ≤ w.heap.size) :
    Calls Try.prog 23 #[.agg x.cells.toArray] w (OwnedP x w) := by
  obtain ⟨i0, hi0, hz0, hz1, hz2⟩ := info_parts info_u8
  have HX := hide hx
  clear hx
  go_enter Try.func23, Try.ntmps23
  go_upto_region 0 with (fail)
  go_cut [1, 2] (fun s1 s2 wx => s1 = .pointer (some ⟨w.heap.size, 0, none⟩) ∧ s2 = .pointer (some ⟨w.heap.size + 1, 0, none⟩) ∧ MidP x w 0 wx)
  case first =>
    go_wp2
    go_meet
    refine ⟨rfl, rfl, x, rfl, rfl, rfl, fun j hj => absurd hj (Nat.not_lt_zero _), fun _ _ => rfl, ?_, ?_, ?_⟩
    · rw [Tb_cells]
      exact (Blk.new _ _ _).alloc _
    · exact blk_tb (n := 38) (Blk.new' (by simp) _ _) rfl
    · exact ((Below.refl _ _).alloc (Nat.le_refl _) _).alloc (by simp) _
  case rest =>
    obtain ⟨rfl, rfl, hmid⟩ := hcut
    have hv : ∃ v0 v1 v2 v3, v0 = (x.b 0).val ∧ v1 = (x.b 1).val ∧ v2 = (x.b 2).val ∧ v3 = (x.b 3).val ∧ wc.cell? ⟨w.heap.size, 2, none⟩ = some v0 ∧ wc.cell? ⟨w.heap.size, 3, none⟩ = some v1 ∧ wc.cell? ⟨w.heap.size, 4, none⟩ = some v2 ∧ wc.cell? ⟨w.heap.size, 5, none⟩ = some v3 := by
      obtain ⟨y, _, _, _, _, hy, hb, _⟩ := hmid
      refine ⟨_, _, _, _, rfl, rfl, rfl, rfl, ?_, ?_, ?_, ?_⟩
      · rw [hb.cell, Tb_at _ (by omega), PrV.cell, ← hy 0 (Nat.zero_le _)]; rfl
      · rw [hb.cell, Tb_at _ (by omega), PrV.cell, ← hy 1 (Nat.zero_le _)]; rfl
      · rw [hb.cell, Tb_at _ (by omega), PrV.cell, ← hy 2 (Nat.zero_le _)]; rfl
      · rw [hb.cell, Tb_at _ (by omega), PrV.cell, ← hy 3 (Nat.zero_le _)]; rfl
    obtain ⟨v0, v1, v2, v3, h0, h1, h2, h3, c0, c1, c2, c3⟩ := hv
    have H0 := Lib.hid h0
    have H1 := Lib.hid h1
    have H2 := Lib.hid h2
    have H3 := Lib.hid h3
    have HM := hide hmid
    clear h0 h1 h2 h3 hmid
    go_wp2
    go_loopw [3, 4, 7] (fun _ _ s7 wq => ∃ k : Nat, k ≤ 4 ∧ s7 = .int .i64 k ∧ MidP x w k wq) (fun _ _ s7 _ => 4 - (intOf s7).toNat)
    case atStart => exact ⟨0, Nat.zero_le _, rfl, unhid_ HM⟩
    case round =>
      obtain ⟨k, hk, rfl, hmid⟩ := hrel
      by_cases hlt : k < 4
      · have ix : (Instr.index 40 (.agg #[v0, v1, v2, v3]) (.int .i64 k)).run Try.prog wr = .ok (.slice (x.b k).A (x.b k).xs.length (x.b k).c) wr := by
          refine run_index_one wr 40 39 4 k _ _ _ Try.underlying40 Try.underlying39 rfl (by kernel_rfl) hlt ?_
          rw [H0.out, H1.out, H2.out, H3.out]
          match k, hlt with
          | 0, _ => rfl
          | 1, _ => rfl
          | 2, _ => rfl
          | 3, _ => rfl
        have hx := (unhid_ HX) k hlt
        have hl := hx.2
        have hbw : Below w.heap.size w wr := by obtain ⟨y, _, _, _, _, _, _, _, h⟩ := hmid; exact h
        have r1 := hx.1.below (hbw.mono hB)
        have hsz : w.heap.size + 2 ≤ wr.heap.size := by obtain ⟨y, _, _, _, _, _, _, ⟨Z, h⟩, _⟩ := hmid; have := h.lt; omega
        have hlc : (x.b k).xs.length ≤ 100000 := hl
        have hcf : ∃ u, wr.cell? ⟨w.heap.size, 2 + k, none⟩ = some u := by
          obtain ⟨y, _, _, _, _, _, h, _⟩ := hmid
          exact ⟨_, (h.cell _).trans (Tb_at _ (by omega))⟩
        have hfr : wr.frozen? ⟨w.heap.size, 2 + k, none⟩ = false := by
          obtain ⟨y, _, _, _, _, _, h, _⟩ := hmid
          exact h.frozen _
        obtain ⟨u, hcf⟩ := hcf
        have HM := hide hmid
        have HI0 := Lib.hid hi0
        clear hmid hx hbw
        go_wp2_with (at_builtin; refine wpList_append_any _ rfl (.const (.slice none 0 0)) (.tmp 12) _ rfl wr.heap.size 5 i0 _ 1 1 Try.underlying39 HI0.out hz0 hz1 hz2 rfl (by omega) (.slice none 0 0) 0 [] rfl (World.ownsRow_nil _ _ _ _) B (x.b k).A (x.b k).xs.length (x.b k).c ((x.b k).xs.map (Value.int .u8)) rfl r1 (By_one _) (by simp only [maxLen]; omega) (by omega) (Nat.le_refl _) ?_; intro v1 w1 hown1 hg1 hat1; simp only [Nat.zero_add, List.nil_append] at hown1; obtain ⟨A1, c1, rfl⟩ := own_slice hown1; have hbw1 : Below wr.heap.size wr w1 := (Below.refl _ _).grown hg1 (Nat.le_refl _) (by simp [Value.ownBlock]); have d0 : w1.cell? ⟨w.heap.size, 2 + k, none⟩ = some u := (hbw1.cell (p := ⟨w.heap.size, 2 + k, none⟩) (show w.heap.size < _ by omega)).trans hcf; have f0 : w1.frozen? ⟨w.heap.size, 2 + k, none⟩ = false := by { obtain ⟨y, _, _, _, _, _, h, _⟩ := unhid_ HM; exact (h.below hbw1 h.lt).frozen _ }; have HST := hide (MidP.step hlt (unhid_ HM) hg1 rfl hl hown1); clear hown1 hg1 hat1 hbw1)
        go_roundw
        case rel => exact ⟨k + 1, by omega, by go_num, unhid_ HST⟩
        case measure => simp [intOf]; omega
      · obtain rfl : k = 4 := by omega
        obtain ⟨y, e1, e2, e3, h1, h2, h3, ⟨Z, h4⟩, h5⟩ := hmid
        have hrg := PrV.range_all h3
        have hth : wr.there (w.heap.size + 1) 0 y.cells.toArray.size := h4.there (by simp [PrV.cells])
        have H3' := hide h3
        have H4' := hide h4
        have H5' := hide h5
        have H1' := hide h1
        clear h1 h2 h3 h4 h5
        go_wp2_with (first | (refine wpList_load_mid rfl 43 (.tmp 1) rfl w.heap.size 0 rfl y.cells _ hrg Try.underlying43 rfl (by kernel_rfl) ?_) | (refine wpList_store_mid rfl 43 (.tmp 2) (.tmp 17) rfl (w.heap.size + 1) 0 y.cells.toArray rfl rfl hth (by kernel_rfl) (all_oneCell_toArray y.cells_one) ?_))
        have hb4 := (unhid_ H4').fill y
        have hrun := run_loadVar_mid (P := Try.prog) (wr.setCells (w.heap.size + 1) 0 y.cells) (w.heap.size + 1) 0 43 y.cells _ (PrV.range_all hb4) Try.underlying43 rfl (by kernel_rfl)
        refine bodyPost_ret (v := .agg y.cells.toArray) (results_cell Try.results23 rfl hrun) rfl ⟨y, rfl, e1, e2, e3, fun i hi => ?_, ?_, fun i j hij hj => (unhid_ H1' j hj).2.2 i hij⟩
        · obtain ⟨q1, ⟨q2, q3⟩, _⟩ := unhid_ H1' i hi
          have hs := (unhid_ H4').lt
          exact ⟨q1, own_base (own_setCells (g := w.heap.size + 1) (by omega) y.cells 0 wr q2) (by omega), q3⟩
        · exact (unhid_ H5').trans (Only.below (Only.setCells y.cells (w.heap.size + 1) 0 wr (Only.refl [w.heap.size + 1] wr) (.inl (by simp))) (fun x hx => by simp at hx; omega) (unhid_ H5').size)
end Go.Proofs.Ytgdloahgokefpaa
