/- The document's table: the walks of Open, Dup. -/
import Derived.Test.YtgdloahgokefpaaTRef2
namespace Go.Proofs.Ytgdloahgokefpaa
open Go.RowKit
set_option linter.unusedSimpArgs false

def RpV.free (x : RpV) : Option Nat := (List.range 8).find? fun i => decide ((x.f i).k = 0)
def ropenN (r : Nat → RpV) (p : Int) (f : FdV) : Int := if ris r p && !f.bad then (match (r p.toNat).free with | some i => (i : Int) | none => 0) else 0
def ropenE (r : Nat → RpV) (p : Int) (f : FdV) : Int := if ris r p then (if f.bad then 1 else (match (r p.toNat).free with | some _ => 0 | none => 5)) else 12
def ropen (r : Nat → RpV) (p : Int) (f : FdV) : Nat → RpV := if ris r p && !f.bad then (match (r p.toNat).free with | some i => rsetFd r p.toNat i f | none => r) else r
def ROpened (r : Nat → RpV) (g : Nat) (p : Int) (f : FdV) (w : World) (e : Ending) (w' : World) : Prop :=
  e = .returned (.tuple #[.int .i64 (ropenN r p f), .int .i64 (ropenE r p f)]) ∧ IsR w' g (ropen r p f) ∧ Only [g] w w'

set_option maxHeartbeats 4000000 in
theorem ropen_any (w : World) (g : Nat) (r : Nat → RpV) (p : Int) (f : FdV) (h : IsR w g r) :
    Calls Try.prog 31 #[.pointer (some ⟨g, 0, none⟩), .int .i64 p, .agg #[.int .i64 f.k, .int .i64 f.t, .int .i64 f.a, .bool f.w]] w (ROpened r g p f w) := by
  have hb : Below w.heap.size w (w.alloc (.cells #[.int .i64 f.k, .int .i64 f.t, .int .i64 f.a, .bool f.w] 53)) := (Below.refl _ _).alloc (Nat.le_refl _) _
  have hblk := Blk.new w 53 #[.int .i64 f.k, .int .i64 f.t, .int .i64 f.a, .bool f.w]
  have hlt := h.lt
  obtain ⟨wb, hwb⟩ : ∃ wb, wb = w.alloc (.cells #[.int .i64 f.k, .int .i64 f.t, .int .i64 f.a, .bool f.w] 53) := ⟨_, rfl⟩
  have hsz : wb.heap.size = w.heap.size + 1 := by rw [hwb]; simp
  rw [← hwb] at hb hblk
  have HH := hide (is_any wb g r p (h.below hb hlt))
  have H := hide (h.below hb hlt)
  have HWB := Lib.hid hwb
  have HBL := hide hblk
  have HSZ := Lib.hid hsz
  have HB := hide hb
  clear hb hblk hwb hsz h
  go_enter Try.func31, Try.ntmps31
  go_wp2_with fail
  rw [← HWB.out]
  refine (unhid_ HH).mono ?_
  rintro e w' ⟨rfl, rfl⟩
  cases hh : ris r p with
  | false =>
    go_wp2
    go_ret2
    refine ⟨by simp [ropenN, ropenE, hh], ?_, Only.of_below (unhid_ HB) _⟩
    rw [ropen, hh]
    exact unhid_ H
  | true =>
    obtain ⟨k, rfl, _, hk, _⟩ := ris_nat hh
    have d0 : wb.cell? ⟨w.heap.size, 0, none⟩ = some (.int .i64 f.k) := (unhid_ HBL).cell 0
    have d1 : wb.cell? ⟨w.heap.size, 1, none⟩ = some (.int .i64 f.t) := (unhid_ HBL).cell 1
    have d2 : wb.cell? ⟨w.heap.size, 2, none⟩ = some (.int .i64 f.a) := (unhid_ HBL).cell 2
    have hh' := Lib.hid hh
    clear hh
    go_upto_region 3 with (fail)
    go_cut [30] (fun s30 wx => s30 = .bool f.bad ∧ wx = wb)
    case first =>
      go_wp2
      all_goals
        go_meet
        refine ⟨?_, rfl⟩
        unfold FdV.bad
        congr 1
        rw [Bool.eq_iff_iff]
        simp only [Bool.or_eq_true, decide_eq_true_eq, true_iff, iff_true, Bool.false_eq_true, false_iff, not_or]
        omega
    case rest =>
      obtain ⟨rfl, hwx⟩ := hcut
      have hwx2 := hwx.symm
      subst hwx2
      cases hbd : f.bad with
      | true =>
        go_wp2
        go_ret2
        refine ⟨by simp [ropenN, ropenE, hh'.out, hbd], ?_, Only.of_below (unhid_ HB) _⟩
        rw [ropen, hh'.out, hbd]
        exact unhid_ H
      | false =>
        have hbd' := Lib.hid hbd
        clear hbd
        have d3 : wb.cell? ⟨w.heap.size, 3, none⟩ = some (.bool f.w) := (unhid_ HBL).cell 3
        have hkI : (k : Int) < 13 := by omega
        go_wp2_with fail
        go_loop [8] (fun s8 => ∃ i : Nat, i ≤ 8 ∧ s8 = .int .i64 i ∧ (∀ j, j < i → decide (((r k).f j).k = 0) = false)) (fun s8 => 8 - (intOf s8).toNat)
        case atStart => exact ⟨0, Nat.zero_le _, rfl, fun j hj => absurd hj (Nat.not_lt_zero _)⟩
        case round =>
          obtain ⟨i, hi, rfl, hno⟩ := hrel
          have HNO := hide hno
          clear hno
          by_cases hi8 : i < 8
          · obtain ⟨e0, e1, e2, e3, f0, f1, f2, f3⟩ := (unhid_ H).fdFacts hk hi8
            have hiI : (i : Int) < 8 := by omega
            obtain ⟨x, hx⟩ : ∃ x, x = (r k).f i := ⟨_, rfl⟩
            rw [← hx] at e0 e1 e2 e3
            obtain ⟨z0, hz0⟩ : ∃ b, (x.k == 0) = b := ⟨_, rfl⟩
            have hz : decide (((r k).f i).k = 0) = z0 := by rw [← hx, ← hz0]; rfl
            have HZ := Lib.hid hz
            clear hz hx
            cases z0 with
            | true =>
              have hfree : (r k).free = some i := find_range _ 8 i hi8 HZ.out (unhid_ HNO)
              have HFREE := Lib.hid hfree
              clear hfree
              go_upto_region 9 with (fail)
              have ho9 : Only [g] wb (wb.drew.setCells g (k * 39 + 7 + i * 4) f.cells) := Only.setCells _ _ _ _ (Only.refl [g] wb).drew (.inl (by simp))
              have hn9 : w.heap.size < wb.heap.size := by have := HSZ.out; omega
              have hm9 : w.heap.size ∉ [g] := by simp; omega
              refine wp_region_held_drew (S := (fun w' => w'.cell? ⟨w.heap.size, 0, none⟩ = some (.int .i64 f.k) ∧ w'.cell? ⟨w.heap.size, 1, none⟩ = some (.int .i64 f.t) ∧ w'.cell? ⟨w.heap.size, 2, none⟩ = some (.int .i64 f.a) ∧ w'.cell? ⟨w.heap.size, 3, none⟩ = some (.bool f.w))) (by kernel_rfl) ?_ (fun hHeld => ?_)
              · exact ⟨d0, d1, d2, d3⟩
              refine wpAnyH_take (i := 0) (oi := ({ dst := some 46, op := Op.move (Operand.tmp 0), type := 51, pos := _, after := #[], guard := none })) (v := ?_) rfl (by kernel_rfl) (by kernel_rfl) (by kernel_rfl) (fun _ _ _ h => h) (Or.inl ⟨by rfl, ?_⟩) (by assumption) ?_
              rotate_left
              · (intro wq hSw; (try dsimp only at hSw); go_simp; try with_reducible rfl)
              try simp only [Act.put, List.setIfInBounds_toArray, List.set_cons_zero, List.set_cons_succ]
              refine wpAnyH_take (i := 1) (oi := ({ dst := some 47, op := Op.move (Operand.tmp 1), type := 3, pos := _, after := #[], guard := none })) (v := ?_) rfl (by kernel_rfl) (by kernel_rfl) (by kernel_rfl) (fun _ _ _ h => h) (Or.inl ⟨by rfl, ?_⟩) (by assumption) ?_
              rotate_left
              · (intro wq hSw; (try dsimp only at hSw); go_simp; try with_reducible rfl)
              try simp only [Act.put, List.setIfInBounds_toArray, List.set_cons_zero, List.set_cons_succ]
              refine wpAnyH_take (i := 2) (oi := ({ dst := some 48, op := Op.move (Operand.tmp 8), type := 3, pos := _, after := #[], guard := none })) (v := ?_) rfl (by kernel_rfl) (by kernel_rfl) (by kernel_rfl) (fun _ _ _ h => h) (Or.inl ⟨by rfl, ?_⟩) (by assumption) ?_
              rotate_left
              · (intro wq hSw; (try dsimp only at hSw); go_simp; try with_reducible rfl)
              try simp only [Act.put, List.setIfInBounds_toArray, List.set_cons_zero, List.set_cons_succ]
              refine wpAnyH_take (i := 3) (oi := ({ dst := some 49, op := Op.load 53 (Operand.tmp 5), type := 53, pos := _, after := #[], guard := none })) (v := ?_) rfl (by kernel_rfl) (by kernel_rfl) (by kernel_rfl) (fun _ _ _ h => h) (Or.inl ⟨by rfl, ?_⟩) (by assumption) ?_
              rotate_left
              · (intro wq hSw; (try dsimp only at hSw); go_simp; try with_reducible rfl)
              try simp only [Act.put, List.setIfInBounds_toArray, List.set_cons_zero, List.set_cons_succ]
              refine wpAnyH_take (i := 4) (oi := ({ dst := some 50, op := Op.nilCheck (Operand.tmp 46), type := 0, pos := _, after := #[{ on := 0, ground := Ground.data }], guard := none })) (v := ?_) rfl (by kernel_rfl) (by kernel_rfl) (by kernel_rfl) (fun _ _ _ h => h) (Or.inl ⟨by rfl, ?_⟩) (by assumption) ?_
              rotate_left
              · (intro wq hSw; (try dsimp only at hSw); go_simp; try with_reducible rfl)
              try simp only [Act.put, List.setIfInBounds_toArray, List.set_cons_zero, List.set_cons_succ]
              refine wpAnyH_take (i := 5) (oi := ({ dst := some 51, op := Op.fieldAddr 59 (Operand.tmp 50) 0, type := 0, pos := _, after := #[{ on := 4, ground := Ground.data }], guard := none })) (v := ?_) rfl (by kernel_rfl) (by kernel_rfl) (by kernel_rfl) (fun _ _ _ h => h) (Or.inl ⟨by rfl, ?_⟩) (by assumption) ?_
              rotate_left
              · (intro wq hSw; (try dsimp only at hSw); go_simp; try with_reducible rfl)
              try simp only [Act.put, List.setIfInBounds_toArray, List.set_cons_zero, List.set_cons_succ]
              refine wpAnyH_take (i := 6) (oi := ({ dst := some 52, op := Op.indexAddr 57 (Operand.tmp 51) (Operand.tmp 47), type := 0, pos := _, after := #[{ on := 5, ground := Ground.data }, { on := 1, ground := Ground.data }], guard := none })) (v := ?_) rfl (by kernel_rfl) (by kernel_rfl) (by kernel_rfl) (fun _ _ _ h => h) (Or.inl ⟨by rfl, ?_⟩) (by assumption) ?_
              rotate_left
              · (intro wq hSw; (try dsimp only at hSw); go_simp; try with_reducible rfl)
              try simp only [Act.put, List.setIfInBounds_toArray, List.set_cons_zero, List.set_cons_succ]
              refine wpAnyH_take (i := 7) (oi := ({ dst := some 53, op := Op.fieldAddr 56 (Operand.tmp 52) 4, type := 0, pos := _, after := #[{ on := 6, ground := Ground.data }], guard := none })) (v := ?_) rfl (by kernel_rfl) (by kernel_rfl) (by kernel_rfl) (fun _ _ _ h => h) (Or.inl ⟨by rfl, ?_⟩) (by assumption) ?_
              rotate_left
              · (intro wq hSw; (try dsimp only at hSw); go_simp; try with_reducible rfl)
              try simp only [Act.put, List.setIfInBounds_toArray, List.set_cons_zero, List.set_cons_succ]
              refine wpAnyH_take (i := 8) (oi := ({ dst := some 54, op := Op.indexAddr 54 (Operand.tmp 53) (Operand.tmp 48), type := 0, pos := _, after := #[{ on := 7, ground := Ground.data }, { on := 2, ground := Ground.data }, { on := 0, ground := Ground.phase }, { on := 1, ground := Ground.phase }, { on := 2, ground := Ground.phase }, { on := 3, ground := Ground.phase }], guard := none })) (v := ?_) rfl (by kernel_rfl) (by kernel_rfl) (by kernel_rfl) (fun _ _ _ h => h) (Or.inl ⟨by rfl, ?_⟩) (by assumption) ?_
              rotate_left
              · (intro wq hSw; (try dsimp only at hSw); go_simp; try with_reducible rfl)
              try simp only [Act.put, List.setIfInBounds_toArray, List.set_cons_zero, List.set_cons_succ]
              refine wpAnyH_ready (rs := [9]) (by kernel_rfl) (by simp) ?_
              refine AllReadyH.cons (o := ({ dst := none, op := Op.store 53 (Operand.tmp 54) (Operand.tmp 49), type := 0, pos := _, after := #[{ on := 8, ground := Ground.data }, { on := 3, ground := Ground.data }, { on := 0, ground := Ground.phase }, { on := 1, ground := Ground.phase }, { on := 2, ground := Ground.phase }, { on := 3, ground := Ground.phase }], guard := none })) rfl (fun K hK => ?_) AllReadyH.nil
              go_simp
              skip
              refine hK.out _ _ ?_ (fun hHeld => ?_)
              · exact ⟨(cell_only ho9 hn9 hm9).trans d0, (cell_only ho9 hn9 hm9).trans d1, (cell_only ho9 hn9 hm9).trans d2, (cell_only ho9 hn9 hm9).trans d3⟩
              clear hK K
              try simp only [Act.put, List.setIfInBounds_toArray, List.set_cons_zero, List.set_cons_succ]
              refine wpAnyH_done (by kernel_rfl) ?_ _
              clear d0 d1 d2 d3 e0 e1 e2 e3 f0 f1 f2 f3
              have HO9 := hide ho9
              clear ho9
              go_wp2
              go_ret2
              refine ⟨by simp [ropenN, ropenE, hh'.out, hbd'.out, HFREE.out], ?_, (Only.of_below (unhid_ HB) _).trans (unhid_ HO9)⟩
              have e : ropen r (k : Int) f = rsetFd r k i f := by simp [ropen, hh'.out, hbd'.out, HFREE.out]
              rw [e]
              exact IsR.setFd (w := wb.drew) (unhid_ H) f hi8
            | false =>
              go_wp2
              go_round
              case rel => exact ⟨i + 1, by omega, by go_num, fun j hj => by
                rcases Nat.lt_or_ge j i with h | h
                · exact (unhid_ HNO) j h
                · obtain rfl : j = i := by omega
                  exact HZ.out⟩
              case measure => simp [intOf]; omega
          · obtain rfl : i = 8 := by omega
            have hfree : (r k).free = none := find_range_none _ 8 (unhid_ HNO)
            have HFREE := Lib.hid hfree
            clear hfree
            rw [show ((8 : Nat) : Int) = 8 from rfl]
            go_wp2
            go_ret2
            refine ⟨by simp [ropenN, ropenE, hh'.out, hbd'.out, HFREE.out], ?_, Only.of_below (unhid_ HB) _⟩
            rw [ropen, hh'.out, hbd'.out]
            simp only [Int.toNat_natCast, HFREE.out, Bool.not_false, Bool.and_self, if_true]
            exact unhid_ H

def RDup (r : Nat → RpV) (g : Nat) (p fd : Int) (w : World) (e : Ending) (w' : World) : Prop :=
  (rfdErr r p fd ≠ 0 ∧ e = .returned (.tuple #[.int .i64 0, .int .i64 (rfdErr r p fd)]) ∧ IsR w' g r ∧ Only [g] w w') ∨ (rfdErr r p fd = 0 ∧ ROpened r g p (rfdV r p fd) w e w')

set_option maxHeartbeats 1000000 in
theorem rdup_any (w : World) (g : Nat) (r : Nat → RpV) (p fd : Int) (h : IsR w g r) :
    Calls Try.prog 33 #[.pointer (some ⟨g, 0, none⟩), .int .i64 p, .int .i64 fd] w (RDup r g p fd w) := by
  have HF := hide (rfd_any w g r p fd h)
  have hlt := h.lt
  have H := hide h
  clear h
  go_enter Try.func33, Try.ntmps33
  go_upto_region 1 with (fail)
  go_cut [8, 9] (fun s8 s9 wx => s9 = .int .i64 (rfdErr r p fd) ∧ Below w.heap.size w wx ∧ ∃ b, w.heap.size ≤ b ∧ s8 = .pointer (some ⟨b, 0, none⟩) ∧ Blk wx b 53 (rfdV r p fd).cells.toArray)
  case first =>
    go_wp2_with fail
    refine (unhid_ HF).mono ?_
    rintro e wx ⟨rfl, hb⟩
    have HB := hide hb
    clear hb
    go_wp2_with fail
    go_meet
    exact ⟨rfl, (unhid_ HB).alloc (unhid_ HB).size _, wx.heap.size, (unhid_ HB).size, rfl, Blk.new _ _ _⟩
  case rest =>
    obtain ⟨rfl, hb, b, hbw, rfl, hblk⟩ := hcut
    have hT := (unhid_ H).below hb hlt
    have HT := hide hT
    have HB := hide hb
    obtain ⟨F, hF⟩ : ∃ F, F = rfdV r p fd := ⟨_, rfl⟩
    rw [← hF] at hblk
    have c0 : wc.cell? ⟨b, 0, none⟩ = some (.int .i64 F.k) := hblk.cell 0
    have c1 : wc.cell? ⟨b, 1, none⟩ = some (.int .i64 F.t) := hblk.cell 1
    have c2 : wc.cell? ⟨b, 2, none⟩ = some (.int .i64 F.a) := hblk.cell 2
    have c3 : wc.cell? ⟨b, 3, none⟩ = some (.bool F.w) := hblk.cell 3
    clear hT hb hblk
    obtain ⟨E, hE⟩ : ∃ E, E = rfdErr r p fd := ⟨_, rfl⟩
    rw [← hE]
    obtain ⟨z, hz⟩ : ∃ b, (E != 0) = b := ⟨_, rfl⟩
    cases z with
    | true =>
      have hE2 : rfdErr r p fd ≠ 0 := by rw [← hE]; simpa using hz
      have HE2 := Lib.hid hE2
      have HE3 := Lib.hid hE
      clear hE2 hE hF
      go_wp2
      go_ret2
      exact .inl ⟨HE2.out, by rw [← HE3.out]; rfl, unhid_ HT, Only.of_below (unhid_ HB) _⟩
    | false =>
      have hE2 : rfdErr r p fd = 0 := by rw [← hE]; simpa using hz
      have HE2 := Lib.hid hE2
      have HO := hide (ropen_any wc g r p F (unhid_ HT))
      have HF2 := Lib.hid hF
      clear hE2 hE hF
      go_wp2_with fail
      refine (unhid_ HO).mono ?_
      rintro e wy ⟨rfl, h1, h2⟩
      go_wp2
      go_ret2
      refine .inr ⟨HE2.out, by rw [← HF2.out]; rfl, by rw [← HF2.out]; exact h1, (Only.of_below (unhid_ HB) _).trans h2⟩
end Go.Proofs.Ytgdloahgokefpaa
