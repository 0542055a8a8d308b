/- The walk of Table.Spawn. -/
import Derived.Test.YtgdloahgokefpaaTab4
namespace Go.Proofs.Ytgdloahgokefpaa
open Go.RowKit
set_option linter.unusedSimpArgs false

/-- the least free number -/
def TbV.slot (t : TbV) : Option Nat := (List.range 13).find? fun p => decide (1 ≤ p) && !t.th p
/-- whom a new process comes from -/
def TbV.src (t : TbV) (fr : Int) : PrV := if fr = 0 then PrV.zero else t.p fr.toNat
def TbV.bad (t : TbV) (fr : Int) : Bool := !decide (fr = 0) && !t.has fr
def TbV.put (t : TbV) (p : Nat) (x : PrV) : TbV := (t.setPr p x).setTh p true
def SpawnedT (t : TbV) (base g : Nat) (fr ob nd : Int) (w : World) (e : Ending) (w' : World) : Prop :=
  Only [g] w w' ∧ ((t.bad fr = true ∧ e = .returned (.tuple #[.int .i64 0, .int .i64 12]) ∧ IsT w' base g t) ∨
    (t.bad fr = false ∧ t.slot = none ∧ e = .returned (.tuple #[.int .i64 0, .int .i64 5]) ∧ IsT w' base g t) ∨
    (t.bad fr = false ∧ ∃ (p : Nat) (x : PrV), 1 ≤ p ∧ p < 13 ∧ t.slot = some p ∧ e = .returned (.tuple #[.int .i64 p, .int .i64 0]) ∧ x.o = ob ∧ x.n = nd ∧ x.f = (t.src fr).f ∧ (∀ i, i < 4 → (x.b i).xs = ((t.src fr).b i).xs) ∧ IsT w' base g (t.put p x)))
theorem info_proc : (Try.prog.info? 43).map (·.zero) = some (some (.agg PrV.zero.cells.toArray)) := by kernel_rfl
theorem run_zero_proc (W : World) : (zeroValue 43).run Try.prog W = .ok (.agg PrV.zero.cells.toArray) W := by
  have h := info_proc
  cases hq : Try.prog.info? 43 with
  | none => simp [hq] at h
  | some i =>
    have hz : i.zero = some (.agg PrV.zero.cells.toArray) := by simpa [hq] using h
    simp [zeroValue, typeInfo, hq, hz, Sem.run_bind]
theorem IsT.there' {w : World} {base g : Nat} {t : TbV} (h : IsT w base g t) {p : Nat} (hp : p < 13) : w.cell? ⟨g, 494 + p, none⟩ = some (.bool (t.th p)) ∧ w.frozen? ⟨g, 494 + p, none⟩ = false := ⟨h.there hp, h.1.frozen _⟩
theorem IsT.range_proc {w : World} {base g : Nat} {t : TbV} (h : IsT w base g t) {k : Nat} (hk : k < 13) : w.rangeAt g (k * 38) (t.p k).cells := by
  intro j v hv
  unfold PrV.cells at hv
  rw [List.getElem?_map] at hv
  have hj : j < 38 := by
    rcases Nat.lt_or_ge j 38 with h | h
    · exact h
    · rw [List.getElem?_eq_none (by simpa using h)] at hv
      cases hv
  rw [List.getElem?_range hj] at hv
  simp only [Option.map_some, Option.some.injEq] at hv
  have := h.cell (p := k) (j := j) hk hj
  rw [Nat.mul_comm 38 k, hv] at this
  exact this
theorem IsT.bufs {w : World} {base g : Nat} {t : TbV} (h : IsT w base g t) {k : Nat} (hk : k < 13) : ∀ i, i < 4 → Reads w w.heap.size 1 ((t.p k).b i).A ((t.p k).b i).xs.length (((t.p k).b i).xs.map (Value.int .u8)) ∧ ((t.p k).b i).xs.length ≤ 100000 :=
  fun i hi => ⟨Reads.of_own (h.2.2 k i hk hi).1, (h.2.2 k i hk hi).2⟩

/-- the new process, ahead of its names -/
def MidS (t : TbV) (fr : Int) (w wx : World) : Prop :=
  ∃ y : PrV, y.f = (t.src fr).f ∧ (∀ i, i < 4 → (y.b i).xs = ((t.src fr).b i).xs ∧ (y.b i).ok wx (w.heap.size + 1)) ∧ Blk wx w.heap.size 43 (Tb 38 y.cell) ∧ Below w.heap.size w wx
theorem MidS.zero {t : TbV} {fr : Int} {w : World} (h : fr = 0) : MidS t fr w (w.alloc (.cells PrV.zero.cells.toArray 43)) := by
  have e : t.src fr = PrV.zero := by rw [TbV.src, if_pos h]
  refine ⟨PrV.zero, by rw [e], fun i _ => ⟨by rw [e], World.ownsRow_nil _ _ _ _, Nat.zero_le _⟩, by rw [Tb_cells]; exact Blk.new _ _ _, (Below.refl _ _).alloc (Nat.le_refl _) _⟩
theorem MidS.own {t : TbV} {fr : Int} {w W1 wx : World} {k : Nat} {y : PrV} (hfr : fr = k) (hk : 1 ≤ k) (hW : W1 = w.alloc (.cells PrV.zero.cells.toArray 43)) (hf : y.f = (t.p k).f)
    (hb : ∀ i, i < 4 → (y.b i).xs = ((t.p k).b i).xs ∧ (y.b i).ok wx W1.heap.size) (hbl : Below W1.heap.size W1 wx) : MidS t fr w (wx.setCells w.heap.size 0 y.cells) := by
  have e : t.src fr = t.p k := by rw [TbV.src, if_neg (by omega), hfr]; rfl
  have hs : W1.heap.size = w.heap.size + 1 := by rw [hW]; simp
  have h1 : Blk wx w.heap.size 43 (Tb 38 PrV.zero.cell) := by
    rw [Tb_cells]
    have := Blk.new w 43 PrV.zero.cells.toArray
    rw [← hW] at this
    exact this.below hbl (by omega)
  refine ⟨y, by rw [e, hf], fun i hi => ?_, h1.fill y, ?_⟩
  · obtain ⟨q1, q2, q3⟩ := hb i hi
    rw [hs] at q2
    exact ⟨by rw [e, q1], own_setCells (g := w.heap.size) (by omega) y.cells 0 wx q2, q3⟩
  · have h2 : Below w.heap.size w wx := by
      have : Below w.heap.size w W1 := by rw [hW]; exact (Below.refl _ _).alloc (Nat.le_refl _) _
      exact this.trans (hbl.mono (by omega))
    exact h2.trans (Only.below (Only.setCells y.cells w.heap.size 0 wx (Only.refl [w.heap.size] wx) (.inl (by simp))) (fun x hx => by simp at hx; omega) h2.size)

theorem MidS.named {w wc : World} {y : PrV} {ob nd : Int} (h : Blk wc w.heap.size 43 (Tb 38 y.cell)) :
    Blk ((wc.setCell ⟨w.heap.size, 0, none⟩ (.int .i64 ob)).setCell ⟨w.heap.size, 1, none⟩ (.int .i64 nd)) w.heap.size 43 (Tb 38 ({ y with o := ob, n := nd } : PrV).cell) := by
  have h1 := (h.set_ 0 (.int .i64 ob)).set_ 1 (.int .i64 nd)
  rw [Tb_set, Tb_set] at h1
  rw [Tb_congr (D := ({ y with o := ob, n := nd } : PrV).cell) (fun j hj => ?_)] at h1
  · exact h1
  · show (if j = 1 then _ else if j = 0 then _ else y.cell j) = _
    by_cases h0 : j = 0
    · subst h0; rfl
    · by_cases h2 : j = 1
      · subst h2; rfl
      · rw [if_neg h2, if_neg h0, PrV.cell, PrV.cell, if_neg h0, if_neg h0, if_neg h2, if_neg h2]
theorem cell_setPr {t : TbV} {k : Nat} {x : PrV} (hk : k < 13) : ∀ j, j < 507 → putAt t.cell (k * 38) x.cells j = (t.setPr k x).cell j := by
  intro j hj
  unfold putAt
  rw [PrV.cells_length]
  by_cases h1 : k * 38 ≤ j ∧ j < k * 38 + 38
  · obtain ⟨c, rfl⟩ : ∃ c, j = k * 38 + c := ⟨j - k * 38, by omega⟩
    have hc : c < 38 := by omega
    rw [if_pos h1, TbV.cell, if_pos (by omega), show (k * 38 + c) / 38 = k from by omega, show (k * 38 + c) % 38 = c from by omega, show k * 38 + c - k * 38 = c from by omega]
    simp [TbV.setPr, PrV.cells, hc]
  · rw [if_neg h1, TbV.cell, TbV.cell]
    by_cases h2 : j < 494
    · rw [if_pos h2, if_pos h2]
      simp only [TbV.setPr]
      rw [if_neg (by omega)]
    · rw [if_neg h2, if_neg h2]; rfl
theorem IsT.setPr {w : World} {base g : Nat} {t : TbV} {x : PrV} (h : IsT w base g t) {k : Nat} (hk : k < 13) (hx : ∀ i, i < 4 → (x.b i).ok w base) : IsT (w.setCells g (k * 38) x.cells) base g (t.setPr k x) := by
  refine ⟨?_, h.2.1, fun p i hp hi => ?_⟩
  · have := Blk.setCells x.cells t.cell (k * 38) w h.1
    rw [Tb_congr (cell_setPr hk)] at this
    exact this
  · have hb : ((t.setPr k x).p p).b i = if p = k then x.b i else (t.p p).b i := by
      simp only [TbV.setPr]
      split <;> rfl
    have hok : (((t.setPr k x).p p).b i).ok w base := by
      rw [hb]
      split
      · exact hx i hi
      · exact h.2.2 p i hp hi
    exact ⟨own_setCells h.2.1 x.cells (k * 38) w hok.1, hok.2⟩
theorem IsT.setTh {w : World} {base g : Nat} {t : TbV} (h : IsT w base g t) {k : Nat} (hk : k < 13) (b : Bool) : IsT (w.setCell ⟨g, 494 + k, none⟩ (.bool b)) base g (t.setTh k b) := by
  refine h.setCells (o := 494 + k) (vs := [.bool b]) (fun j hj => ?_) fun p i _ _ => rfl
  rw [putAt_cons, putAt_nil]
  show (if j = 494 + k then _ else t.cell j) = _
  rw [TbV.cell, TbV.cell]
  by_cases h1 : j = 494 + k
  · subst h1
    rw [if_pos rfl, if_neg (by omega), show 494 + k - 494 = k from by omega]
    simp [TbV.setTh]
  · rw [if_neg h1]
    by_cases h2 : j < 494
    · rw [if_pos h2, if_pos h2]; rfl
    · rw [if_neg h2, if_neg h2]
      simp only [TbV.setTh]
      rw [if_neg (by omega)]
theorem step_store_mid {ops : Array Oper} {o : Oper} {a : Act} {w : World} {K : Act → World → Prop} {Q : Exit → Act → World → Prop} {E : Prop} (hgd : o.guard = none) (ty : TypeId) (x y : Operand) (ho : o.op = .store ty x y)
    (b of_ : Nat) (cells : Array Value) (hx : a.eval x = .pointer (some ⟨b, of_, none⟩)) (hy : a.eval y = .agg cells)
    (ht : w.there b of_ cells.size) (hi : (Try.prog.info? ty).map (·.size) = some cells.size) (h1 : cells.all (·.oneCell') = true)
    (h : K (a.put o.dst undef) (w.setCells b of_ cells.toList)) : if Region.wanted o (yielded ops a.tmps) = true then Oper.wp Try.prog o a w K Q else E := by
  have hw : Region.wanted o (yielded ops a.tmps) = true := by simp [Region.wanted, hgd]
  rw [if_pos hw]
  exact wp_store_mid ty x y ho b of_ cells hx hy ht hi h1 h

set_option maxHeartbeats 4000000 in
theorem spawn_any (w : World) (base g : Nat) (t : TbV) (fr ob nd : Int) (h : IsT w base g t) (hbase : base ≤ w.heap.size) :
    Calls Try.prog 9 #[.pointer (some ⟨g, 0, none⟩), .int .i64 fr, .int .i64 ob, .int .i64 nd] w (SpawnedT t base g fr ob nd w) := by
  have HH := hide (has_any w base g t fr h)
  have H := hide h
  clear h
  go_enter Try.func9, Try.ntmps9
  go_upto_region 1 with (fail)
  obtain ⟨z, hz⟩ : ∃ b, (fr != 0) = b := ⟨_, rfl⟩
  go_cut [19] (fun s19 wx => s19 = .bool (t.bad fr) ∧ wx = w)
  case first =>
    have hbd : t.bad fr = (z && !t.has fr) := by
      rw [← hz]; unfold TbV.bad; congr 1
    have HBD := Lib.hid hbd
    clear hbd
    cases z with
    | false =>
      go_wp2
      go_meet
      exact ⟨by rw [HBD.out]; rfl, rfl⟩
    | true =>
      go_wp2_with fail
      refine (unhid_ HH).mono ?_
      rintro e w' ⟨rfl, rfl⟩
      go_wp2_with fail
      go_meet
      exact ⟨by rw [HBD.out]; rfl, rfl⟩
  case rest =>
    obtain ⟨rfl, hwx⟩ := hcut
    have hwx2 := hwx.symm
    subst hwx2
    cases hbd : t.bad fr with
    | true =>
      have HBD := Lib.hid hbd
      clear hbd
      go_wp2
      go_ret2
      exact ⟨Only.refl _ _, .inl ⟨HBD.out, rfl, unhid_ H⟩⟩
    | false =>
      have HBD := Lib.hid hbd
      clear hbd
      go_wp2_with fail
      go_loopw [8, 9, 10, 11] (fun _ _ s10 _ wq => ∃ k : Nat, 1 ≤ k ∧ k ≤ 13 ∧ s10 = .int .i64 k ∧ (∀ j, j < k → (decide (1 ≤ j) && !t.th j) = false) ∧ wq = w) (fun _ _ s10 _ _ => 13 - (intOf s10).toNat)
      case atStart => exact ⟨1, Nat.le_refl _, by omega, rfl, fun j hj => by simp [show ¬ 1 ≤ j by omega], rfl⟩
      case round =>
        obtain ⟨k, hk1, hk, rfl, hno, hwq⟩ := hrel
        have hwx2 := hwq.symm
        subst hwx2
        have HNO := hide hno
        clear hno
        by_cases hlt : k < 13
        · obtain ⟨d0, f0⟩ := (unhid_ H).there' hlt
          cases hth : t.th k with
          | true =>
            rw [hth] at d0
            have hno2 : ∀ j, j < k + 1 → (decide (1 ≤ j) && !t.th j) = false := fun j hj => by
              rcases Nat.lt_or_ge j k with h | h
              · exact unhid_ HNO j h
              · obtain rfl : j = k := by omega
                rw [hth]; simp
            have HNO2 := hide hno2
            clear hno2 hth
            go_wp2
            go_roundw
            case rel => exact ⟨k + 1, by omega, by omega, by go_num, unhid_ HNO2, by first | rfl | trivial⟩
            case measure => simp [intOf]; omega
          | false =>
            rw [hth] at d0
            have hslot : t.slot = some k := find_range _ 13 k hlt (by rw [hth]; simp [hk1]) (unhid_ HNO)
            have HSL := Lib.hid hslot
            clear hslot hth
            have hz43 := run_zero_proc
            have hst : ∀ (Z : Array Value) (ty : TypeId), Z.size = 38 → (storeCells ⟨w.heap.size, 0, none⟩ PrV.zero.cells).run Try.prog (w.alloc (.cells Z ty)) = .ok () (w.alloc (.cells PrV.zero.cells.toArray ty)) := fun Z ty hZ => run_store_new w _ Z ty (by rw [hZ, PrV.cells_length]) PrV.zero.cells_one
            go_upto_region 8 with (fail)
            clear hst hz43
            obtain ⟨W1, hW1⟩ : ∃ W1, W1 = w.alloc (.cells PrV.zero.cells.toArray 43) := ⟨_, rfl⟩
            rw [← hW1]
            have hT1 : Hid (IsT W1 base g t) := (unhid_ H).below (by rw [hW1]; exact (Below.refl _ _).alloc (Nat.le_refl _) _)
            have HW1 := Lib.hid hW1
            clear hW1
            go_upto_if 32 with (fail)
            go_cut [] (fun wx => MidS t fr w wx)
            case first =>
              cases z with
              | false =>
                have hfr : fr = 0 := by simpa using hz
                go_wp2
                go_meet
                rw [HW1.out]
                exact MidS.zero hfr
              | true =>
                have hfr : ¬ fr = 0 := by simpa using hz
                have hhas : t.has fr = true := by
                  have := HBD.out
                  unfold TbV.bad at this
                  simp [hfr] at this
                  exact this
                obtain ⟨q, rfl, hq1, hq, _⟩ := TbV.has_nat hhas
                have hrg := (unhid_ hT1).range_proc hq
                have hown := ownp_any W1 (t.p q) W1.heap.size ((unhid_ hT1).bufs hq) (Nat.le_refl _)
                have HOWN := hide hown
                have hs1 : W1.heap.size = w.heap.size + 1 := by rw [HW1.out]; simp
                have HS1 := Lib.hid hs1
                clear hown hhas hs1 hz
                go_wp2_with (first | (refine wpList_load_mid rfl 43 (.tmp 37) rfl g (q * 38) rfl (t.p q).cells _ hrg Try.underlying43 rfl (by kernel_rfl) ?_))
                refine (unhid_ HOWN).mono ?_
                rintro e wx ⟨y, rfl, e1, e2, e3, hbf, hbl, _⟩
                have HMS : Hid (MidS t (q : Int) w (wx.setCells w.heap.size 0 y.cells)) := MidS.own rfl hq1 HW1.out e3 hbf hbl
                have hth : wx.there w.heap.size 0 y.cells.toArray.size := by
                  have h1 : Blk W1 w.heap.size 43 (Tb 38 PrV.zero.cell) := by
                    rw [Tb_cells, HW1.out]
                    exact Blk.new w 43 PrV.zero.cells.toArray
                  exact (h1.below hbl (by have := HS1.out; omega)).there (by simp [PrV.cells])
                clear e1 e2 e3 hbf hbl hrg
                go_wp2_with (first | (refine wpList_store_mid rfl 43 (.tmp 11) (.tmp 39) rfl w.heap.size 0 y.cells.toArray rfl rfl hth (by kernel_rfl) (all_oneCell_toArray y.cells_one) ?_))
                go_meet
                exact unhid_ HMS
            case rest =>
              obtain ⟨y, hyf, hyb, hbl, hbw⟩ := hcut
              have c0 : wc.cell? ⟨w.heap.size, 0, none⟩ = some (.int .i64 y.o) := by rw [hbl.cell, Tb_at _ (by omega)]; rfl
              have c1 : wc.cell? ⟨w.heap.size, 1, none⟩ = some (.int .i64 y.n) := by rw [hbl.cell, Tb_at _ (by omega)]; rfl
              have f0' : wc.frozen? ⟨w.heap.size, 0, none⟩ = false := hbl.frozen 0
              have f1' : wc.frozen? ⟨w.heap.size, 1, none⟩ = false := hbl.frozen 1
              have HYF := Lib.hid hyf
              have HYB := hide hyb
              have HBL := hide hbl
              have HBW := hide hbw
              clear hyf hyb hbl hbw
              go_upto_region 11 with (fail)
              clear c0 c1 f0' f1'
              have hw3 := MidS.named (ob := ob) (nd := nd) (y := y) (unhid_ HBL)
              obtain ⟨x, hx⟩ : ∃ x : PrV, x = { y with o := ob, n := nd } := ⟨_, rfl⟩
              rw [← hx] at hw3
              obtain ⟨w3, he3⟩ : ∃ w3, w3 = (wc.setCell ⟨w.heap.size, 0, none⟩ (.int .i64 ob)).setCell ⟨w.heap.size, 1, none⟩ (.int .i64 nd) := ⟨_, rfl⟩
              rw [← he3] at hw3
              rw [← he3]
              have hbw3 : Below w.heap.size w w3 := by rw [he3]; exact ((unhid_ HBW).setCell (p := ⟨w.heap.size, 0, none⟩) (Nat.le_refl _) _).setCell (p := ⟨w.heap.size, 1, none⟩) (Nat.le_refl _) _
              have hT3 : IsT w3 base g t := (unhid_ H).below hbw3
              have hxb : ∀ i, i < 4 → (x.b i).xs = ((t.src fr).b i).xs ∧ (x.b i).ok w3 (w.heap.size + 1) := by
                intro i hi
                obtain ⟨q1, q2, q3⟩ := unhid_ HYB i hi
                rw [hx, he3]
                exact ⟨q1, ownsRow_setCell_below (ownsRow_setCell_below q2 (a := ⟨w.heap.size, 0, none⟩) (Nat.lt_succ_self _) _) (a := ⟨w.heap.size, 1, none⟩) (Nat.lt_succ_self _) _, q3⟩
              have hxo : x.o = ob ∧ x.n = nd ∧ x.f = (t.src fr).f := by rw [hx]; exact ⟨rfl, rfl, HYF.out⟩
              have hglt := (unhid_ H).1.lt
              have hT8 : IsT (w3.drew.setCells g (k * 38) x.cells) base g (t.setPr k x) := IsT.setPr (w := w3.drew) hT3 hlt (fun i hi => ⟨own_base (hxb i hi).2.1 (by omega), (hxb i hi).2.2⟩)
              obtain ⟨d8, f8⟩ := hT8.there' hlt
              have hr3 : w3.rangeAt w.heap.size 0 x.cells := PrV.range_all hw3
              have hr8 : (w3.drew.setCells g (k * 38) x.cells).rangeAt w.heap.size 0 x.cells := World.rangeAt_setCells_apart (w := w3.drew) hr3 g (k * 38) x.cells (.inl (by omega))
              have hr12 : ((w3.drew.setCells g (k * 38) x.cells).setCell ⟨g, 494 + k, none⟩ (.bool true)).rangeAt w.heap.size 0 x.cells := World.rangeAt_setCells_apart hr8 g (494 + k) [.bool true] (.inl (by omega))
              have hthg : w3.drew.there g (k * 38) x.cells.toArray.size := Blk.there (w := w3.drew) hT3.1 (by simp [PrV.cells]; omega)
              have hT12 : Hid (IsT ((w3.drew.setCells g (k * 38) x.cells).setCell ⟨g, 494 + k, none⟩ (.bool true)) base g (t.put k x)) := hT8.setTh hlt true
              have hO12 : Hid (Only [g] w ((w3.drew.setCells g (k * 38) x.cells).setCell ⟨g, 494 + k, none⟩ (.bool true))) := ((Only.of_below hbw3 [g]).trans ((Only.setCells x.cells g (k * 38) w3.drew (Only.refl [g] w3).drew (.inl (by simp))))).setCell (p := ⟨g, 494 + k, none⟩) (.inl (by simp)) _
              have hkI : (k : Int) < 13 := by omega
              have hXB := hide hxb
              have hXO := Lib.hid hxo
              clear hT3 hT8 hxb hxo hx he3 hw3 hbw3
              refine wp_region_held_drew (S := (fun w' => w'.rangeAt w.heap.size 0 x.cells)) (by kernel_rfl) ?_ (fun hHeld => ?_)
              · exact hr3
              refine wpAnyH_take (i := 0) (oi := ({ dst := some 44, op := Op.move (Operand.tmp 0), type := 23, pos := _, after := #[], guard := none })) (v := ?_) rfl (by kernel_rfl) (by kernel_rfl) (by kernel_rfl) (fun _ _ _ h => h) (Or.inl ⟨by rfl, ?_⟩) (by assumption) ?_
              rotate_left
              · (intro wq hSw; (try dsimp only at hSw); go_simp; try with_reducible rfl)
              try simp only [Act.put, List.setIfInBounds_toArray, List.set_cons_zero, List.set_cons_succ]
              refine wpAnyH_take (i := 1) (oi := ({ dst := some 45, op := Op.move (Operand.tmp 10), type := 3, pos := _, after := #[], guard := none })) (v := ?_) rfl (by kernel_rfl) (by kernel_rfl) (by kernel_rfl) (fun _ _ _ h => h) (Or.inl ⟨by rfl, ?_⟩) (by assumption) ?_
              rotate_left
              · (intro wq hSw; (try dsimp only at hSw); go_simp; try with_reducible rfl)
              try simp only [Act.put, List.setIfInBounds_toArray, List.set_cons_zero, List.set_cons_succ]
              refine wpAnyH_take (i := 2) (oi := ({ dst := some 46, op := Op.move (Operand.tmp 0), type := 23, pos := _, after := #[{ on := 8, ground := Ground.gcOnly Departure.lateStores }], guard := none })) (v := ?_) rfl (by kernel_rfl) (by kernel_rfl) (by kernel_rfl) (fun _ _ _ h => h) (Or.inl ⟨by rfl, ?_⟩) (by assumption) ?_
              rotate_left
              · (intro wq hSw; (try dsimp only at hSw); go_simp; try with_reducible rfl)
              try simp only [Act.put, List.setIfInBounds_toArray, List.set_cons_zero, List.set_cons_succ]
              refine wpAnyH_take (i := 3) (oi := ({ dst := some 47, op := Op.move (Operand.tmp 10), type := 3, pos := _, after := #[{ on := 8, ground := Ground.gcOnly Departure.lateStores }], guard := none })) (v := ?_) rfl (by kernel_rfl) (by kernel_rfl) (by kernel_rfl) (fun _ _ _ h => h) (Or.inl ⟨by rfl, ?_⟩) (by assumption) ?_
              rotate_left
              · (intro wq hSw; (try dsimp only at hSw); go_simp; try with_reducible rfl)
              try simp only [Act.put, List.setIfInBounds_toArray, List.set_cons_zero, List.set_cons_succ]
              refine wpAnyH_take (i := 4) (oi := ({ dst := some 48, op := Op.load 43 (Operand.tmp 11), type := 43, pos := _, after := #[], guard := none })) (v := .agg x.cells.toArray) rfl (by kernel_rfl) (by kernel_rfl) (by kernel_rfl) (fun _ _ _ h => h) (yieldsIf_load_mid (by rfl) 43 (.tmp 11) rfl w.heap.size 0 rfl x.cells _ (fun _ h => h) Try.underlying43 rfl (by kernel_rfl)) (by assumption) ?_
              try simp only [Act.put, List.setIfInBounds_toArray, List.set_cons_zero, List.set_cons_succ]
              refine wpAnyH_take (i := 5) (oi := ({ dst := some 49, op := Op.nilCheck (Operand.tmp 44), type := 0, pos := _, after := #[{ on := 0, ground := Ground.data }], guard := none })) (v := ?_) rfl (by kernel_rfl) (by kernel_rfl) (by kernel_rfl) (fun _ _ _ h => h) (Or.inl ⟨by rfl, ?_⟩) (by assumption) ?_
              rotate_left
              · (intro wq hSw; (try dsimp only at hSw); go_simp; try with_reducible rfl)
              try simp only [Act.put, List.setIfInBounds_toArray, List.set_cons_zero, List.set_cons_succ]
              refine wpAnyH_take (i := 6) (oi := ({ dst := some 50, op := Op.fieldAddr 68 (Operand.tmp 49) 0, type := 0, pos := _, after := #[{ on := 5, ground := Ground.data }], guard := none })) (v := ?_) rfl (by kernel_rfl) (by kernel_rfl) (by kernel_rfl) (fun _ _ _ h => h) (Or.inl ⟨by rfl, ?_⟩) (by assumption) ?_
              rotate_left
              · (intro wq hSw; (try dsimp only at hSw); go_simp; try with_reducible rfl)
              try simp only [Act.put, List.setIfInBounds_toArray, List.set_cons_zero, List.set_cons_succ]
              refine wpAnyH_take (i := 7) (oi := ({ dst := some 51, op := Op.indexAddr 66 (Operand.tmp 50) (Operand.tmp 45), type := 0, pos := _, after := #[{ on := 6, ground := Ground.data }, { on := 1, ground := Ground.data }, { on := 0, ground := Ground.phase }, { on := 1, ground := Ground.phase }, { on := 2, ground := Ground.textOnly Departure.lateStores }, { on := 3, ground := Ground.textOnly Departure.lateStores }, { on := 4, ground := Ground.phase }], guard := none })) (v := ?_) rfl (by kernel_rfl) (by kernel_rfl) (by kernel_rfl) (fun _ _ _ h => h) (Or.inl ⟨by rfl, ?_⟩) (by assumption) ?_
              rotate_left
              · (intro wq hSw; (try dsimp only at hSw); go_simp; try with_reducible rfl)
              try simp only [Act.put, List.setIfInBounds_toArray, List.set_cons_zero, List.set_cons_succ]
              refine wpAnyH_take (i := 9) (oi := ({ dst := some 52, op := Op.nilCheck (Operand.tmp 46), type := 0, pos := _, after := #[{ on := 2, ground := Ground.data }], guard := none })) (v := ?_) rfl (by kernel_rfl) (by kernel_rfl) (by kernel_rfl) (fun _ _ _ h => h) (Or.inl ⟨by rfl, ?_⟩) (by assumption) ?_
              rotate_left
              · (intro wq hSw; (try dsimp only at hSw); go_simp; try with_reducible rfl)
              try simp only [Act.put, List.setIfInBounds_toArray, List.set_cons_zero, List.set_cons_succ]
              refine wpAnyH_take (i := 10) (oi := ({ dst := some 53, op := Op.fieldAddr 68 (Operand.tmp 52) 1, type := 0, pos := _, after := #[{ on := 9, ground := Ground.data }], guard := none })) (v := ?_) rfl (by kernel_rfl) (by kernel_rfl) (by kernel_rfl) (fun _ _ _ h => h) (Or.inl ⟨by rfl, ?_⟩) (by assumption) ?_
              rotate_left
              · (intro wq hSw; (try dsimp only at hSw); go_simp; try with_reducible rfl)
              try simp only [Act.put, List.setIfInBounds_toArray, List.set_cons_zero, List.set_cons_succ]
              refine wpAnyH_ready (rs := [8]) (by kernel_rfl) (by simp) ?_
              refine AllReadyH.cons (o := ({ dst := none, op := Op.store 43 (Operand.tmp 51) (Operand.tmp 48), type := 0, pos := _, after := #[{ on := 7, ground := Ground.data }, { on := 4, ground := Ground.data }, { on := 0, ground := Ground.phase }, { on := 1, ground := Ground.phase }, { on := 2, ground := Ground.textOnly Departure.lateStores }, { on := 3, ground := Ground.textOnly Departure.lateStores }, { on := 4, ground := Ground.phase }], guard := none })) rfl (fun K hK => ?_) AllReadyH.nil
              refine step_store_mid rfl 43 (.tmp 51) (.tmp 48) rfl g (k * 38) x.cells.toArray rfl rfl hthg (by kernel_rfl) (all_oneCell_toArray x.cells_one) ?_
              refine hK.out _ _ ?_ (fun hHeld => ?_)
              · exact hr8
              clear hK K
              try simp only [Act.put, List.setIfInBounds_toArray, List.set_cons_zero, List.set_cons_succ]
              refine wpAnyH_take (i := 11) (oi := ({ dst := some 54, op := Op.indexAddr 32 (Operand.tmp 53) (Operand.tmp 47), type := 0, pos := _, after := #[{ on := 10, ground := Ground.data }, { on := 3, ground := Ground.data }, { on := 0, ground := Ground.phase }, { on := 1, ground := Ground.phase }, { on := 2, ground := Ground.phase }, { on := 3, ground := Ground.phase }, { on := 4, ground := Ground.phase }, { on := 5, ground := Ground.phase }, { on := 6, ground := Ground.phase }, { on := 7, ground := Ground.phase }, { on := 8, ground := Ground.phase }], guard := none })) (v := ?_) rfl (by kernel_rfl) (by kernel_rfl) (by kernel_rfl) (fun _ _ _ h => h) (Or.inl ⟨by rfl, ?_⟩) (by assumption) ?_
              rotate_left
              · (intro wq hSw; (try dsimp only at hSw); go_simp; try with_reducible rfl)
              try simp only [Act.put, List.setIfInBounds_toArray, List.set_cons_zero, List.set_cons_succ]
              refine wpAnyH_ready (rs := [12]) (by kernel_rfl) (by simp) ?_
              refine AllReadyH.cons (o := ({ dst := none, op := Op.store 4 (Operand.tmp 54) (Operand.const (Value.bool true)), type := 0, pos := _, after := #[{ on := 11, ground := Ground.data }, { on := 8, ground := Ground.chain }, { on := 0, ground := Ground.phase }, { on := 1, ground := Ground.phase }, { on := 2, ground := Ground.phase }, { on := 3, ground := Ground.phase }, { on := 4, ground := Ground.phase }, { on := 5, ground := Ground.phase }, { on := 6, ground := Ground.phase }, { on := 7, ground := Ground.phase }, { on := 8, ground := Ground.phase }], guard := none })) rfl (fun K hK => ?_) AllReadyH.nil
              go_simp
              skip
              refine hK.out _ _ ?_ (fun hHeld => ?_)
              · exact hr12
              clear hK K
              try simp only [Act.put, List.setIfInBounds_toArray, List.set_cons_zero, List.set_cons_succ]
              refine wpAnyH_done (by kernel_rfl) ?_ _
              clear hr3 hr8 hr12 hthg d8 f8
              go_wp2
              go_ret2
              exact ⟨unhid_ hO12, .inr (.inr ⟨HBD.out, k, x, hk1, hlt, HSL.out, rfl, hXO.out.1, hXO.out.2.1, hXO.out.2.2, fun i hi => (unhid_ hXB i hi).1, unhid_ hT12⟩)⟩
        · obtain rfl : k = 13 := by omega
          have hslot : t.slot = none := find_range_none _ 13 (unhid_ HNO)
          go_wp2
          go_ret2
          exact ⟨Only.refl _ _, .inr (.inl ⟨HBD.out, hslot, rfl, unhid_ H⟩)⟩
end Go.Proofs.Ytgdloahgokefpaa
