/- The walk of the document's Spawn. -/
import Derived.Test.YtgdloahgokefpaaTRef6
namespace Go.Proofs.Ytgdloahgokefpaa
open Go.RowKit
set_option linter.unusedSimpArgs false

def rslot (r : Nat → RpV) : Option Nat := (List.range 13).find? fun p => decide (1 ≤ p) && !(r p).th
def rsrc (r : Nat → RpV) (fr : Int) : RpV := if fr = 0 then RpV.zero else r fr.toNat
def rbad (r : Nat → RpV) (fr : Int) : Bool := !decide (fr = 0) && !ris r fr
def rnew (r : Nat → RpV) (fr ob nd : Int) : RpV := { rsrc r fr with th := true, o := ob, n := nd }
def RSpawned (r : Nat → RpV) (g : Nat) (fr ob nd : Int) (w : World) (e : Ending) (w' : World) : Prop :=
  Only [g] w w' ∧ ((rbad r fr = true ∧ e = .returned (.tuple #[.int .i64 0, .int .i64 12]) ∧ IsR w' g r) ∨
    (rbad r fr = false ∧ rslot r = none ∧ e = .returned (.tuple #[.int .i64 0, .int .i64 5]) ∧ IsR w' g r) ∨
    (rbad r fr = false ∧ ∃ p : Nat, 1 ≤ p ∧ p < 13 ∧ rslot r = some p ∧ e = .returned (.tuple #[.int .i64 p, .int .i64 0]) ∧ IsR w' g (setP r p (rnew r fr ob nd))))
theorem Tb_rcells (x : RpV) : Tb 39 x.cell = x.cells.toArray := by
  apply Array.ext
  · simp [RpV.cells]
  · intro i h1 h2
    simp [Tb, RpV.cells]
theorem RpV.named {wc : World} {g : Nat} {y : RpV} {ob nd : Int} (h : Blk wc g 56 (Tb 39 y.cell)) :
    Blk (((wc.setCell ⟨g, 0, none⟩ (.bool true)).setCell ⟨g, 1, none⟩ (.int .i64 ob)).setCell ⟨g, 2, none⟩ (.int .i64 nd)) g 56 (Tb 39 ({ y with th := true, o := ob, n := nd } : RpV).cell) := by
  have h1 := ((h.set_ 0 (.bool true)).set_ 1 (.int .i64 ob)).set_ 2 (.int .i64 nd)
  rw [Tb_set, Tb_set, Tb_set] at h1
  rw [Tb_congr (D := ({ y with th := true, o := ob, n := nd } : RpV).cell) (fun j hj => ?_)] at h1
  · exact h1
  · show (if j = 2 then _ else if j = 1 then _ else if j = 0 then _ else y.cell j) = _
    rw [RpV.cell, RpV.cell]
    by_cases h0 : j = 0
    · subst h0; rfl
    · by_cases h2 : j = 1
      · subst h2; rfl
      · by_cases h3 : j = 2
        · subst h3; rfl
        · simp only [h0, h2, h3, if_false]
theorem RpV.range_blk {w : World} {b : Nat} {t : TypeId} {x : RpV} (h : Blk w b t (Tb 39 x.cell)) : w.rangeAt b 0 x.cells := by
  rw [Tb_rcells] at h
  exact blk_range h
theorem RpV.fill {w : World} {b : Nat} {t : TypeId} {Z : Nat → Value} (h : Blk w b t (Tb 39 Z)) (y : RpV) : Blk (w.setCells b 0 y.cells) b t (Tb 39 y.cell) := by
  have := Blk.setCells y.cells Z 0 w h
  rw [Tb_congr (fun j hj => putAt_full (x := y) (C := Z) j hj)] at this
  exact this

set_option maxHeartbeats 4000000 in
theorem rspawn_any (w : World) (g : Nat) (r : Nat → RpV) (fr ob nd : Int) (h : IsR w g r) :
    Calls Try.prog 19 #[.pointer (some ⟨g, 0, none⟩), .int .i64 fr, .int .i64 ob, .int .i64 nd] w (RSpawned r g fr ob nd w) := by
  have HH := hide (is_any w g r fr h)
  have hglt := h.lt
  have H := hide h
  clear h
  go_enter Try.func19, Try.ntmps19
  go_upto_region 1 with (fail)
  obtain ⟨z, hz⟩ : ∃ b, (fr != 0) = b := ⟨_, rfl⟩
  go_cut [19] (fun s19 wx => s19 = .bool (rbad r fr) ∧ wx = w)
  case first =>
    have hbd : rbad r fr = (z && !ris r fr) := by
      rw [← hz]; unfold rbad; congr 1
    have HBD := Lib.hid hbd
    clear hbd
    cases z with
    | false =>
      go_wp2
      go_meet
      exact ⟨by rw [HBD.out]; rfl, rfl⟩
    | true =>
      go_wp2_with fail
      refine (unhid_ HH).mono ?_
      rintro e w' ⟨rfl, rfl⟩
      go_wp2_with fail
      go_meet
      exact ⟨by rw [HBD.out]; rfl, rfl⟩
  case rest =>
    obtain ⟨rfl, hwx⟩ := hcut
    have hwx2 := hwx.symm
    subst hwx2
    cases hbd : rbad r fr with
    | true =>
      have HBD := Lib.hid hbd
      clear hbd
      go_wp2
      go_ret2
      exact ⟨Only.refl _ _, .inl ⟨HBD.out, rfl, unhid_ H⟩⟩
    | false =>
      have HBD := Lib.hid hbd
      clear hbd
      go_wp2_with fail
      go_loop [10, 11] (fun s10 _ => ∃ k : Nat, 1 ≤ k ∧ k ≤ 13 ∧ s10 = .int .i64 k ∧ (∀ j, j < k → (decide (1 ≤ j) && !(r j).th) = false)) (fun s10 _ => 13 - (intOf s10).toNat)
      case atStart => exact ⟨1, Nat.le_refl _, by omega, rfl, fun j hj => by simp [show ¬ 1 ≤ j by omega]⟩
      case round =>
        obtain ⟨k, hk1, hk, rfl, hno⟩ := hrel
        have HNO := hide hno
        clear hno
        by_cases hlt : k < 13
        · have hkI : (k : Int) ≤ 12 := by omega
          have hkI2 : (k : Int) < 13 := by omega
          have d0 := (unhid_ H).cell (k := k) (c := 0) hlt (by omega)
          rw [Nat.add_zero, show (r k).cell 0 = .bool (r k).th from rfl] at d0
          cases hth : (r k).th with
          | true =>
            rw [hth] at d0
            have hno2 : ∀ j, j < k + 1 → (decide (1 ≤ j) && !(r j).th) = false := fun j hj => by
              rcases Nat.lt_or_ge j k with h | h
              · exact unhid_ HNO j h
              · obtain rfl : j = k := by omega
                rw [hth]; simp
            have HNO2 := hide hno2
            clear hno2 hth
            go_wp2
            go_round
            case rel => exact ⟨k + 1, by omega, by omega, by go_num, unhid_ HNO2⟩
            case measure => simp [intOf]; omega
          | false =>
            rw [hth] at d0
            have hslot : rslot r = some k := find_range _ 13 k hlt (by rw [hth]; simp [hk1]) (unhid_ HNO)
            have HSL := Lib.hid hslot
            clear hslot hth
            have hz56 := run_zero_refp
            have hst : ∀ (Z : Array Value) (ty : TypeId), Z.size = 39 → (storeCells ⟨w.heap.size, 0, none⟩ RpV.zero.cells).run Try.prog (w.alloc (.cells Z ty)) = .ok () (w.alloc (.cells RpV.zero.cells.toArray ty)) := fun Z ty hZ => run_store_new w _ Z ty (by rw [hZ, RpV.cells_length]) RpV.zero.cells_one
            go_upto_region 8 with (fail)
            clear hst hz56 d0
            obtain ⟨W1, hW1⟩ : ∃ W1, W1 = w.alloc (.cells RpV.zero.cells.toArray 56) := ⟨_, rfl⟩
            rw [← hW1]
            have hb1 : Below w.heap.size w W1 := by rw [hW1]; exact (Below.refl _ _).alloc (Nat.le_refl _) _
            have hT1 : Hid (IsR W1 g r) := (unhid_ H).below hb1 hglt
            have hblk : Blk W1 w.heap.size 56 (Tb 39 RpV.zero.cell) := by rw [hW1, Tb_rcells]; exact Blk.new _ _ _
            have HBL := hide hblk
            have HB1 := hide hb1
            clear hW1 hblk hb1
            go_upto_if 33 with (fail)
            go_cut [] (fun wx => Blk wx w.heap.size 56 (Tb 39 (rsrc r fr).cell) ∧ Below w.heap.size w wx)
            case first =>
              cases z with
              | false =>
                have hfr : fr = 0 := by simpa using hz
                go_wp2
                go_meet
                refine ⟨?_, unhid_ HB1⟩
                rw [rsrc, if_pos hfr]
                exact unhid_ HBL
              | true =>
                have hfr : ¬ fr = 0 := by simpa using hz
                have hhas : ris r fr = true := by
                  have := HBD.out
                  unfold rbad at this
                  simp [hfr] at this
                  exact this
                obtain ⟨q, rfl, hq1, hq, _⟩ := ris_nat hhas
                have hrg := (unhid_ hT1).range_all hq
                have hqI : (q : Int) < 13 := by omega
                have hth : W1.there w.heap.size 0 (r q).cells.toArray.size := (unhid_ HBL).there (by simp [RpV.cells])
                have hsrc : rsrc r (q : Int) = r q := by rw [rsrc, if_neg hfr, Int.toNat_natCast]
                have HSRC := Lib.hid hsrc
                clear hhas hz hsrc
                go_wp2_with (first | (refine wpList_load_mid rfl 56 (.tmp 38) rfl g (q * 39) rfl (r q).cells _ hrg Try.underlying56 rfl (by kernel_rfl) ?_) | (refine wpList_store_mid rfl 56 (.tmp 11) (.tmp 39) rfl w.heap.size 0 (r q).cells.toArray rfl rfl hth (by kernel_rfl) (all_oneCell_toArray (r q).cells_one) ?_))
                go_meet
                rw [HSRC.out]
                exact ⟨RpV.fill (unhid_ HBL) (r q), (unhid_ HB1).trans (Only.below (Only.setCells (r q).cells w.heap.size 0 W1 (Only.refl [w.heap.size] W1) (.inl (by simp))) (fun x hx => by simp at hx; omega) (unhid_ HB1).size)⟩
            case rest =>
              obtain ⟨hbl, hbw⟩ := hcut
              obtain ⟨y, hy⟩ : ∃ y, y = rsrc r fr := ⟨_, rfl⟩
              rw [← hy] at hbl
              have c0 : wc.cell? ⟨w.heap.size, 0, none⟩ = some (.bool y.th) := by rw [hbl.cell, Tb_at _ (by omega)]; rfl
              have c1 : wc.cell? ⟨w.heap.size, 1, none⟩ = some (.int .i64 y.o) := by rw [hbl.cell, Tb_at _ (by omega)]; rfl
              have c2 : wc.cell? ⟨w.heap.size, 2, none⟩ = some (.int .i64 y.n) := by rw [hbl.cell, Tb_at _ (by omega)]; rfl
              have f0' : wc.frozen? ⟨w.heap.size, 0, none⟩ = false := hbl.frozen 0
              have f1' : wc.frozen? ⟨w.heap.size, 1, none⟩ = false := hbl.frozen 1
              have f2' : wc.frozen? ⟨w.heap.size, 2, none⟩ = false := hbl.frozen 2
              have HBL2 := hide hbl
              have HBW := hide hbw
              have HY := Lib.hid hy
              clear hbl hbw hy
              go_upto_region 13 with (fail)
              clear c0 c1 c2 f0' f1' f2'
              have hw3 := RpV.named (ob := ob) (nd := nd) (y := y) (unhid_ HBL2)
              obtain ⟨x, hx⟩ : ∃ x : RpV, x = { y with th := true, o := ob, n := nd } := ⟨_, rfl⟩
              have hxn : x = rnew r fr ob nd := by rw [hx, HY.out]; rfl
              rw [← hx] at hw3
              obtain ⟨w3, he3⟩ : ∃ w3, w3 = ((wc.setCell ⟨w.heap.size, 0, none⟩ (.bool true)).setCell ⟨w.heap.size, 1, none⟩ (.int .i64 ob)).setCell ⟨w.heap.size, 2, none⟩ (.int .i64 nd) := ⟨_, rfl⟩
              rw [← he3] at hw3
              rw [← he3]
              have hbw3 : Below w.heap.size w w3 := by rw [he3]; exact (((unhid_ HBW).setCell (p := ⟨w.heap.size, 0, none⟩) (Nat.le_refl _) _).setCell (p := ⟨w.heap.size, 1, none⟩) (Nat.le_refl _) _).setCell (p := ⟨w.heap.size, 2, none⟩) (Nat.le_refl _) _
              have hT3 : IsR w3 g r := (unhid_ H).below hbw3 hglt
              have hr3 : w3.rangeAt w.heap.size 0 x.cells := RpV.range_blk hw3
              have hr8 : (w3.drew.setCells g (k * 39) x.cells).rangeAt w.heap.size 0 x.cells := World.rangeAt_setCells_apart (w := w3.drew) hr3 g (k * 39) x.cells (.inl (by omega))
              have hthg : w3.drew.there g (k * 39) x.cells.toArray.size := IsR.there (w := w3.drew) hT3 (by simp [RpV.cells]; omega)
              have hT8 : Hid (IsR (w3.drew.setCells g (k * 39) x.cells) g (setP r k (rnew r fr ob nd))) := by
                rw [← hxn]
                exact IsR.setC (w := w3.drew) hT3 (c := 0) (vs := x.cells) (by omega) (by rw [RpV.cells_length]; omega) putAt_full
              have hO8 : Hid (Only [g] w (w3.drew.setCells g (k * 39) x.cells)) := (Only.of_below hbw3 [g]).trans (Only.setCells x.cells g (k * 39) w3.drew (Only.refl [g] w3).drew (.inl (by simp)))
              clear hT3 hx hxn he3 hw3 hbw3
              refine wp_region_held_drew (S := (fun w' => w'.rangeAt w.heap.size 0 x.cells)) (by kernel_rfl) ?_ (fun hHeld => ?_)
              · exact hr3
              refine wpAnyH_take (i := 0) (oi := ({ dst := some 45, op := Op.move (Operand.tmp 0), type := 51, pos := _, after := #[], guard := none })) (v := ?_) rfl (by kernel_rfl) (by kernel_rfl) (by kernel_rfl) (fun _ _ _ h => h) (Or.inl ⟨by rfl, ?_⟩) (by assumption) ?_
              rotate_left
              · (intro wq hSw; (try dsimp only at hSw); go_simp; try with_reducible rfl)
              try simp only [Act.put, List.setIfInBounds_toArray, List.set_cons_zero, List.set_cons_succ]
              refine wpAnyH_take (i := 1) (oi := ({ dst := some 46, op := Op.move (Operand.tmp 10), type := 3, pos := _, after := #[], guard := none })) (v := ?_) rfl (by kernel_rfl) (by kernel_rfl) (by kernel_rfl) (fun _ _ _ h => h) (Or.inl ⟨by rfl, ?_⟩) (by assumption) ?_
              rotate_left
              · (intro wq hSw; (try dsimp only at hSw); go_simp; try with_reducible rfl)
              try simp only [Act.put, List.setIfInBounds_toArray, List.set_cons_zero, List.set_cons_succ]
              refine wpAnyH_take (i := 2) (oi := ({ dst := some 47, op := Op.load 56 (Operand.tmp 11), type := 56, pos := _, after := #[], guard := none })) (v := .agg x.cells.toArray) rfl (by kernel_rfl) (by kernel_rfl) (by kernel_rfl) (fun _ _ _ h => h) (yieldsIf_load_mid (by rfl) 56 (.tmp 11) rfl w.heap.size 0 rfl x.cells _ (fun _ h => h) Try.underlying56 rfl (by kernel_rfl)) (by assumption) ?_
              try simp only [Act.put, List.setIfInBounds_toArray, List.set_cons_zero, List.set_cons_succ]
              refine wpAnyH_take (i := 3) (oi := ({ dst := some 48, op := Op.nilCheck (Operand.tmp 45), type := 0, pos := _, after := #[{ on := 0, ground := Ground.data }], guard := none })) (v := ?_) rfl (by kernel_rfl) (by kernel_rfl) (by kernel_rfl) (fun _ _ _ h => h) (Or.inl ⟨by rfl, ?_⟩) (by assumption) ?_
              rotate_left
              · (intro wq hSw; (try dsimp only at hSw); go_simp; try with_reducible rfl)
              try simp only [Act.put, List.setIfInBounds_toArray, List.set_cons_zero, List.set_cons_succ]
              refine wpAnyH_take (i := 4) (oi := ({ dst := some 49, op := Op.fieldAddr 59 (Operand.tmp 48) 0, type := 0, pos := _, after := #[{ on := 3, ground := Ground.data }], guard := none })) (v := ?_) rfl (by kernel_rfl) (by kernel_rfl) (by kernel_rfl) (fun _ _ _ h => h) (Or.inl ⟨by rfl, ?_⟩) (by assumption) ?_
              rotate_left
              · (intro wq hSw; (try dsimp only at hSw); go_simp; try with_reducible rfl)
              try simp only [Act.put, List.setIfInBounds_toArray, List.set_cons_zero, List.set_cons_succ]
              refine wpAnyH_take (i := 5) (oi := ({ dst := some 50, op := Op.indexAddr 57 (Operand.tmp 49) (Operand.tmp 46), type := 0, pos := _, after := #[{ on := 4, ground := Ground.data }, { on := 1, ground := Ground.data }, { on := 0, ground := Ground.phase }, { on := 1, ground := Ground.phase }, { on := 2, ground := Ground.phase }], guard := none })) (v := ?_) rfl (by kernel_rfl) (by kernel_rfl) (by kernel_rfl) (fun _ _ _ h => h) (Or.inl ⟨by rfl, ?_⟩) (by assumption) ?_
              rotate_left
              · (intro wq hSw; (try dsimp only at hSw); go_simp; try with_reducible rfl)
              try simp only [Act.put, List.setIfInBounds_toArray, List.set_cons_zero, List.set_cons_succ]
              refine wpAnyH_ready (rs := [6]) (by kernel_rfl) (by simp) ?_
              refine AllReadyH.cons (o := ({ dst := none, op := Op.store 56 (Operand.tmp 50) (Operand.tmp 47), type := 0, pos := _, after := #[{ on := 5, ground := Ground.data }, { on := 2, ground := Ground.data }, { on := 0, ground := Ground.phase }, { on := 1, ground := Ground.phase }, { on := 2, ground := Ground.phase }], guard := none })) rfl (fun K hK => ?_) AllReadyH.nil
              refine step_store_mid rfl 56 (.tmp 50) (.tmp 47) rfl g (k * 39) x.cells.toArray rfl rfl hthg (by kernel_rfl) (all_oneCell_toArray x.cells_one) ?_
              refine hK.out _ _ ?_ (fun hHeld => ?_)
              · exact hr8
              clear hK K
              try simp only [Act.put, List.setIfInBounds_toArray, List.set_cons_zero, List.set_cons_succ]
              refine wpAnyH_done (by kernel_rfl) ?_ _
              clear hr3 hr8 hthg
              go_wp2
              go_ret2
              exact ⟨unhid_ hO8, .inr (.inr ⟨HBD.out, k, hk1, hlt, HSL.out, rfl, unhid_ hT8⟩)⟩
        · obtain rfl : k = 13 := by omega
          have hslot : rslot r = none := find_range_none _ 13 (unhid_ HNO)
          have HSL := Lib.hid hslot
          clear hslot
          rw [show ((13 : Nat) : Int) = 13 from rfl]
          go_wp2
          go_ret2
          exact ⟨Only.refl _ _, .inr (.inl ⟨HBD.out, HSL.out, rfl, unhid_ H⟩)⟩
end Go.Proofs.Ytgdloahgokefpaa
