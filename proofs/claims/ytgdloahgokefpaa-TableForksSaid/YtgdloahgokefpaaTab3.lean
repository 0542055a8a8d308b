/- The walk of Table.Open. -/
import Derived.Test.YtgdloahgokefpaaTab2
import Derived.StillTailTactics
import Derived.BigQuiet
import Derived.Deep.QuietTactic
namespace Go.Proofs.Ytgdloahgokefpaa
open Go.RowKit
set_option linter.unusedSimpArgs false

def FdV.val (f : FdV) : Value := .agg #[.int .i64 f.k, .int .i64 f.t, .int .i64 f.a, .bool f.w]
def FdV.bad (f : FdV) : Bool := decide (f.k < 2) || (decide (5 < f.k) || (decide (f.t < 0) || decide (f.a < 0)))
/-- the least free descriptor -/
def PrV.free (x : PrV) : Option Nat := (List.range 8).find? fun i => decide (x.f i = FdV.zero)
theorem find_range (p : Nat → Bool) : ∀ n i : Nat, i < n → p i = true → (∀ j, j < i → p j = false) → (List.range n).find? p = some i
  | 0, i, h, _, _ => absurd h (Nat.not_lt_zero _)
  | n + 1, i, h, hp, hj => by
    rw [List.range_succ, List.find?_append]
    by_cases hi : i < n
    · rw [find_range p n i hi hp hj]; rfl
    · obtain rfl : i = n := by omega
      rw [List.find?_eq_none.2 (fun x hx => by simp [hj x (List.mem_range.1 hx)])]
      simp [hp]
theorem find_range_none (p : Nat → Bool) (n : Nat) (h : ∀ j, j < n → p j = false) : (List.range n).find? p = none :=
  List.find?_eq_none.2 (fun x hx => by simp [h x (List.mem_range.1 hx)])
def TbV.openN (t : TbV) (p : Int) (f : FdV) : Int := if t.has p && !f.bad then (match (t.p p.toNat).free with | some i => (i : Int) | none => 0) else 0
def TbV.openE (t : TbV) (p : Int) (f : FdV) : Int := if t.has p then (if f.bad then 1 else (match (t.p p.toNat).free with | some _ => 0 | none => 5)) else 12
def TbV.openT (t : TbV) (p : Int) (f : FdV) : TbV := if t.has p && !f.bad then (match (t.p p.toNat).free with | some i => t.setFd p.toNat i f | none => t) else t
theorem own_only {w w' : World} {base : Nat} {e : TypeId} {size n : Nat} {v : Value} {xs : List Value} {S : List Nat} (h : w.ownsRow base e size v n xs) (ho : Only S w w') (hS : ∀ k ∈ S, k < base ∨ w.heap.size ≤ k) : w'.ownsRow base e size v n xs := by
  refine ⟨h.1, ?_⟩
  rcases h.2 with h2 | ⟨g, cap, cur, hv, hb, hh, r⟩
  · exact .inl h2
  · have hg := (Array.getElem?_eq_some_iff.1 hh).1
    exact .inr ⟨g, cap, cur, hv, hb, (ho.block g hg (fun hm => by have := hS g hm; omega)).trans hh, r⟩
theorem own_base {w : World} {base base' : Nat} {e : TypeId} {size n : Nat} {v : Value} {xs : List Value} (h : w.ownsRow base e size v n xs) (hb : base' ≤ base) : w.ownsRow base' e size v n xs := by
  refine ⟨h.1, ?_⟩
  rcases h.2 with h2 | ⟨g, cap, cur, hv, hg, r⟩
  · exact .inl h2
  · exact .inr ⟨g, cap, cur, hv, Nat.le_trans hb hg, r⟩
theorem cell_only {w w' : World} {S : List Nat} {b o : Nat} (h : Only S w w') (hp : b < w.heap.size) (hS : b ∉ S) : w'.cell? ⟨b, o, none⟩ = w.cell? ⟨b, o, none⟩ := World.cell?_of_block (h.block _ hp hS)
theorem IsT.below {w w' : World} {base g : Nat} {t : TbV} (h : IsT w base g t) (hb : Below w.heap.size w w') : IsT w' base g t :=
  ⟨h.1.below hb h.1.lt, h.2.1, fun p i hp hi => ⟨own_only (h.2.2 p i hp hi).1 (Only.of_below hb []) (by simp), (h.2.2 p i hp hi).2⟩⟩
theorem IsT.range_fds {w : World} {base g : Nat} {t : TbV} (h : IsT w base g t) {k : Nat} (hk : k < 13) : w.rangeAt g (k * 38 + 6) (t.p k).fds := by
  intro j v hv
  unfold PrV.fds at hv
  rw [List.getElem?_map] at hv
  have hj : j < 32 := by
    rcases Nat.lt_or_ge j 32 with h | h
    · exact h
    · rw [List.getElem?_eq_none (by simpa using h)] at hv
      cases hv
  rw [List.getElem?_range hj] at hv
  simp only [Option.map_some, Option.some.injEq] at hv
  have := h.cell (p := k) (j := 6 + j) hk (by omega)
  rw [show 38 * k + (6 + j) = k * 38 + 6 + j from by omega, hv] at this
  exact this
def OpenedT (t : TbV) (base g : Nat) (p : Int) (f : FdV) (w : World) (e : Ending) (w' : World) : Prop :=
  e = .returned (.tuple #[.int .i64 (t.openN p f), .int .i64 (t.openE p f)]) ∧ IsT w' base g (t.openT p f) ∧ Only [g] w w'
theorem zero_bool (f : FdV) : decide (f = FdV.zero) = ((f.k == 0) && ((f.t == 0) && ((f.a == 0) && !f.w))) := by
  obtain ⟨a0, a1, a2, a3⟩ := f
  rw [Bool.eq_iff_iff]
  simp only [FdV.zero, FdV.mk.injEq, decide_eq_true_eq, Bool.and_eq_true, beq_iff_eq, Bool.not_eq_true']

set_option maxHeartbeats 4000000 in
theorem open_any (w : World) (base g : Nat) (t : TbV) (p : Int) (f : FdV) (h : IsT w base g t) :
    Calls Try.prog 10 #[.pointer (some ⟨g, 0, none⟩), .int .i64 p, .agg #[.int .i64 f.k, .int .i64 f.t, .int .i64 f.a, .bool f.w]] w (OpenedT t base g p f w) := by
  have hb : Below w.heap.size w (w.alloc (.cells #[.int .i64 f.k, .int .i64 f.t, .int .i64 f.a, .bool f.w] 30)) := (Below.refl _ _).alloc (Nat.le_refl _) _
  have hblk := Blk.new w 30 #[.int .i64 f.k, .int .i64 f.t, .int .i64 f.a, .bool f.w]
  have hlt := h.1.lt
  obtain ⟨wb, hwb⟩ : ∃ wb, wb = w.alloc (.cells #[.int .i64 f.k, .int .i64 f.t, .int .i64 f.a, .bool f.w] 30) := ⟨_, rfl⟩
  have hsz : wb.heap.size = w.heap.size + 1 := by rw [hwb]; simp
  rw [← hwb] at hb hblk
  have HH := hide (has_any wb base g t p (h.below hb))
  have H := hide (h.below hb)
  have HWB := Lib.hid hwb
  have HBL := hide hblk
  have HSZ := Lib.hid hsz
  have HB := hide hb
  clear hb hblk hwb hsz h
  go_enter Try.func10, Try.ntmps10
  go_wp2_with fail
  rw [← HWB.out]
  refine (unhid_ HH).mono ?_
  rintro e w' ⟨rfl, rfl⟩
  cases hh : t.has p with
  | false =>
    go_wp2
    go_ret2
    refine ⟨by simp [TbV.openN, TbV.openE, hh], ?_, Only.of_below (unhid_ HB) _⟩
    rw [TbV.openT, hh]
    exact unhid_ H
  | true =>
    obtain ⟨k, rfl, _, hk, _⟩ := TbV.has_nat hh
    have d0 : wb.cell? ⟨w.heap.size, 0, none⟩ = some (.int .i64 f.k) := (unhid_ HBL).cell 0
    have d1 : wb.cell? ⟨w.heap.size, 1, none⟩ = some (.int .i64 f.t) := (unhid_ HBL).cell 1
    have d2 : wb.cell? ⟨w.heap.size, 2, none⟩ = some (.int .i64 f.a) := (unhid_ HBL).cell 2
    have hh' := Lib.hid hh
    clear hh
    go_upto_region 3 with (fail)
    go_cut [15] (fun s15 wx => s15 = .bool f.bad ∧ wx = wb)
    case first =>
      go_wp2
      all_goals
        go_meet
        refine ⟨?_, rfl⟩
        unfold FdV.bad
        congr 1
        rw [Bool.eq_iff_iff]
        simp only [Bool.or_eq_true, decide_eq_true_eq, true_iff, iff_true, Bool.false_eq_true, false_iff, not_or]
        omega
    case rest =>
      obtain ⟨rfl, hwx⟩ := hcut
      have hwx2 := hwx.symm
      subst hwx2
      clear d0 d1 d2
      cases hbd : f.bad with
      | true =>
        go_wp2
        go_ret2
        refine ⟨by simp [TbV.openN, TbV.openE, hh'.out, hbd], ?_, Only.of_below (unhid_ HB) _⟩
        rw [TbV.openT, hh'.out, hbd]
        exact unhid_ H
      | false =>
        have hbd' := Lib.hid hbd
        clear hbd
        have hrg := (unhid_ H).range_fds hk
        go_wp2_with (refine wpList_load_mid rfl 41 (.tmp 39) rfl g (k * 38 + 6) rfl (t.p k).fds _ hrg Try.underlying41 rfl (by kernel_rfl) ?_)
        clear hrg
        go_loopw [8, 9, 41] (fun _ _ s41 wq => ∃ i : Nat, i ≤ 8 ∧ s41 = .int .i64 i ∧ (∀ j, j < i → decide ((t.p k).f j = FdV.zero) = false) ∧ Below wb.heap.size wb wq) (fun _ _ s41 _ => 8 - (intOf s41).toNat)
        case atStart => exact ⟨0, Nat.zero_le _, rfl, fun j hj => absurd hj (Nat.not_lt_zero _), Below.refl _ _⟩
        case round =>
          obtain ⟨i, hi, rfl, hno, hbq⟩ := hrel
          by_cases hi8 : i < 8
          · have ix := run_index_fds (t.p k) hi8
            have HNO := hide hno
            clear hno
            obtain ⟨x, hx⟩ : ∃ x, x = (t.p k).f i := ⟨_, rfl⟩
            rw [← hx] at ix
            obtain ⟨z0, hz0⟩ : ∃ b, (x.k == 0) = b := ⟨_, rfl⟩
            obtain ⟨z1, hz1⟩ : ∃ b, (x.t == 0) = b := ⟨_, rfl⟩
            obtain ⟨z2, hz2⟩ : ∃ b, (x.a == 0) = b := ⟨_, rfl⟩
            have hz := zero_bool x
            rw [hz0, hz1, hz2] at hz
            have hz : decide ((t.p k).f i = FdV.zero) = (z0 && (z1 && (z2 && !x.w))) := by rw [← hx]; exact hz
            have HZ := Lib.hid hz
            have HX := Lib.hid hx
            clear hz hx
            go_upto_region 8 with (fail)
            obtain ⟨wn, hwn⟩ : ∃ wn, wn = wr.alloc (.cells #[.int .i64 x.k, .int .i64 x.t, .int .i64 x.a, .bool x.w] 30) := ⟨_, rfl⟩
            rw [← hwn]
            have hbn : Below wb.heap.size wb wn := by rw [hwn]; exact hbq.alloc hbq.size _
            have hblk : Blk wn wr.heap.size 30 #[.int .i64 x.k, .int .i64 x.t, .int .i64 x.a, .bool x.w] := by rw [hwn]; exact Blk.new _ _ _
            have d0 : wn.cell? ⟨wr.heap.size, 0, none⟩ = some (.int .i64 x.k) := hblk.cell 0
            have d1 : wn.cell? ⟨wr.heap.size, 1, none⟩ = some (.int .i64 x.t) := hblk.cell 1
            have d2 : wn.cell? ⟨wr.heap.size, 2, none⟩ = some (.int .i64 x.a) := hblk.cell 2
            have d3 : wn.cell? ⟨wr.heap.size, 3, none⟩ = some (.bool x.w) := hblk.cell 3
            have HBN := hide hbn
            clear hwn hblk ix hbn hbq
            go_cut [47] (fun s47 wx => s47 = .bool (z0 && (z1 && (z2 && !x.w))) ∧ wx = wn)
            case first =>
              go_wp2
              all_goals
                go_meet
                refine ⟨?_, rfl⟩
                first
                  | rfl
                  | simp_all
                  | trace_state
            case rest =>
              obtain ⟨rfl, hwx⟩ := hcut
              have hwx2 := hwx.symm
              subst hwx2
              clear d0 d1 d2 d3 hz0 hz1 hz2
              rw [← HZ.out]
              cases hc : decide ((t.p k).f i = FdV.zero) with
              | true =>
                have hfree : (t.p k).free = some i := find_range _ 8 i hi8 hc (unhid_ HNO)
                have Hn : Hid (IsT wn base g t) := (unhid_ H).below (unhid_ HBN)
                have HFREE := Lib.hid hfree
                have hbw := (unhid_ HBL).below (unhid_ HBN) (by have := HSZ.out; omega)
                have d0 : wn.cell? ⟨w.heap.size, 0, none⟩ = some (.int .i64 f.k) := hbw.cell 0
                have d1 : wn.cell? ⟨w.heap.size, 1, none⟩ = some (.int .i64 f.t) := hbw.cell 1
                have d2 : wn.cell? ⟨w.heap.size, 2, none⟩ = some (.int .i64 f.a) := hbw.cell 2
                have d3 : wn.cell? ⟨w.heap.size, 3, none⟩ = some (.bool f.w) := hbw.cell 3
                obtain ⟨e0, e1, e2, e3, f0, f1, f2, f3⟩ := (unhid_ Hn).fdFacts hk hi8
                clear hbw hfree hc
                go_wp2_with fail
                have hkI : (k : Int) < 13 := by omega
                have hiI : (i : Int) < 8 := by omega
                have ho9 : Only [g] wn (wn.drew.setCells g (k * 38 + 6 + i * 4) f.cells) := Only.setCells _ _ _ _ (Only.refl [g] wn).drew (.inl (by simp))
                have hn9 : w.heap.size < wn.heap.size := by have := HSZ.out; have := (unhid_ HBN).size; omega
                have hm9 : w.heap.size ∉ [g] := by simp; omega
                refine wp_region_held_drew (S := (fun w' => w'.cell? ⟨w.heap.size, 0, none⟩ = some (.int .i64 f.k) ∧ w'.cell? ⟨w.heap.size, 1, none⟩ = some (.int .i64 f.t) ∧ w'.cell? ⟨w.heap.size, 2, none⟩ = some (.int .i64 f.a) ∧ w'.cell? ⟨w.heap.size, 3, none⟩ = some (.bool f.w))) (by kernel_rfl) ?_ (fun hHeld => ?_)
                · exact ⟨d0, d1, d2, d3⟩
                refine wpAnyH_take (i := 0) (oi := ({ dst := some 48, op := Op.move (Operand.tmp 0), type := 23, pos := _, after := #[], guard := none })) (v := ?_) rfl (by kernel_rfl) (by kernel_rfl) (by kernel_rfl) (fun _ _ _ h => h) (Or.inl ⟨by rfl, ?_⟩) (by assumption) ?_
                rotate_left
                · (intro wq hSw; (try dsimp only at hSw); go_simp; try with_reducible rfl)
                try simp only [Act.put, List.setIfInBounds_toArray, List.set_cons_zero, List.set_cons_succ]
                refine wpAnyH_take (i := 1) (oi := ({ dst := some 49, op := Op.move (Operand.tmp 1), type := 3, pos := _, after := #[], guard := none })) (v := ?_) rfl (by kernel_rfl) (by kernel_rfl) (by kernel_rfl) (fun _ _ _ h => h) (Or.inl ⟨by rfl, ?_⟩) (by assumption) ?_
                rotate_left
                · (intro wq hSw; (try dsimp only at hSw); go_simp; try with_reducible rfl)
                try simp only [Act.put, List.setIfInBounds_toArray, List.set_cons_zero, List.set_cons_succ]
                refine wpAnyH_take (i := 2) (oi := ({ dst := some 50, op := Op.move (Operand.tmp 8), type := 3, pos := _, after := #[], guard := none })) (v := ?_) rfl (by kernel_rfl) (by kernel_rfl) (by kernel_rfl) (fun _ _ _ h => h) (Or.inl ⟨by rfl, ?_⟩) (by assumption) ?_
                rotate_left
                · (intro wq hSw; (try dsimp only at hSw); go_simp; try with_reducible rfl)
                try simp only [Act.put, List.setIfInBounds_toArray, List.set_cons_zero, List.set_cons_succ]
                refine wpAnyH_take (i := 3) (oi := ({ dst := some 51, op := Op.load 30 (Operand.tmp 5), type := 30, pos := _, after := #[], guard := none })) (v := ?_) rfl (by kernel_rfl) (by kernel_rfl) (by kernel_rfl) (fun _ _ _ h => h) (Or.inl ⟨by rfl, ?_⟩) (by assumption) ?_
                rotate_left
                · (intro wq hSw; (try dsimp only at hSw); go_simp; try with_reducible rfl)
                try simp only [Act.put, List.setIfInBounds_toArray, List.set_cons_zero, List.set_cons_succ]
                refine wpAnyH_take (i := 4) (oi := ({ dst := some 52, op := Op.nilCheck (Operand.tmp 48), type := 0, pos := _, after := #[{ on := 0, ground := Ground.data }], guard := none })) (v := ?_) rfl (by kernel_rfl) (by kernel_rfl) (by kernel_rfl) (fun _ _ _ h => h) (Or.inl ⟨by rfl, ?_⟩) (by assumption) ?_
                rotate_left
                · (intro wq hSw; (try dsimp only at hSw); go_simp; try with_reducible rfl)
                try simp only [Act.put, List.setIfInBounds_toArray, List.set_cons_zero, List.set_cons_succ]
                refine wpAnyH_take (i := 5) (oi := ({ dst := some 53, op := Op.fieldAddr 68 (Operand.tmp 52) 0, type := 0, pos := _, after := #[{ on := 4, ground := Ground.data }], guard := none })) (v := ?_) rfl (by kernel_rfl) (by kernel_rfl) (by kernel_rfl) (fun _ _ _ h => h) (Or.inl ⟨by rfl, ?_⟩) (by assumption) ?_
                rotate_left
                · (intro wq hSw; (try dsimp only at hSw); go_simp; try with_reducible rfl)
                try simp only [Act.put, List.setIfInBounds_toArray, List.set_cons_zero, List.set_cons_succ]
                refine wpAnyH_take (i := 6) (oi := ({ dst := some 54, op := Op.indexAddr 66 (Operand.tmp 53) (Operand.tmp 49), type := 0, pos := _, after := #[{ on := 5, ground := Ground.data }, { on := 1, ground := Ground.data }], guard := none })) (v := ?_) rfl (by kernel_rfl) (by kernel_rfl) (by kernel_rfl) (fun _ _ _ h => h) (Or.inl ⟨by rfl, ?_⟩) (by assumption) ?_
                rotate_left
                · (intro wq hSw; (try dsimp only at hSw); go_simp; try with_reducible rfl)
                try simp only [Act.put, List.setIfInBounds_toArray, List.set_cons_zero, List.set_cons_succ]
                refine wpAnyH_take (i := 7) (oi := ({ dst := some 55, op := Op.fieldAddr 43 (Operand.tmp 54) 3, type := 0, pos := _, after := #[{ on := 6, ground := Ground.data }], guard := none })) (v := ?_) rfl (by kernel_rfl) (by kernel_rfl) (by kernel_rfl) (fun _ _ _ h => h) (Or.inl ⟨by rfl, ?_⟩) (by assumption) ?_
                rotate_left
                · (intro wq hSw; (try dsimp only at hSw); go_simp; try with_reducible rfl)
                try simp only [Act.put, List.setIfInBounds_toArray, List.set_cons_zero, List.set_cons_succ]
                refine wpAnyH_take (i := 8) (oi := ({ dst := some 56, op := Op.indexAddr 41 (Operand.tmp 55) (Operand.tmp 50), type := 0, pos := _, after := #[{ on := 7, ground := Ground.data }, { on := 2, ground := Ground.data }, { on := 0, ground := Ground.phase }, { on := 1, ground := Ground.phase }, { on := 2, ground := Ground.phase }, { on := 3, ground := Ground.phase }], guard := none })) (v := ?_) rfl (by kernel_rfl) (by kernel_rfl) (by kernel_rfl) (fun _ _ _ h => h) (Or.inl ⟨by rfl, ?_⟩) (by assumption) ?_
                rotate_left
                · (intro wq hSw; (try dsimp only at hSw); go_simp; try with_reducible rfl)
                try simp only [Act.put, List.setIfInBounds_toArray, List.set_cons_zero, List.set_cons_succ]
                refine wpAnyH_ready (rs := [9]) (by kernel_rfl) (by simp) ?_
                refine AllReadyH.cons (o := ({ dst := none, op := Op.store 30 (Operand.tmp 56) (Operand.tmp 51), type := 0, pos := _, after := #[{ on := 8, ground := Ground.data }, { on := 3, ground := Ground.data }, { on := 0, ground := Ground.phase }, { on := 1, ground := Ground.phase }, { on := 2, ground := Ground.phase }, { on := 3, ground := Ground.phase }], guard := none })) rfl (fun K hK => ?_) AllReadyH.nil
                go_simp
                skip
                refine hK.out _ _ ?_ (fun hHeld => ?_)
                · exact ⟨(cell_only ho9 hn9 hm9).trans d0, (cell_only ho9 hn9 hm9).trans d1, (cell_only ho9 hn9 hm9).trans d2, (cell_only ho9 hn9 hm9).trans d3⟩
                clear hK K
                try simp only [Act.put, List.setIfInBounds_toArray, List.set_cons_zero, List.set_cons_succ]
                refine wpAnyH_done (by kernel_rfl) ?_ _
                clear d0 d1 d2 d3 e0 e1 e2 e3 f0 f1 f2 f3
                have HO9 := hide ho9
                clear ho9
                go_wp2
                go_ret2
                refine ⟨by simp [TbV.openN, TbV.openE, hh'.out, hbd'.out, HFREE.out], ?_, ?_⟩
                · have e : t.openT (k : Int) f = t.setFd k i f := by simp [TbV.openT, hh'.out, hbd'.out, HFREE.out]
                  rw [e]
                  exact IsT.setFd (w := wn.drew) (unhid_ Hn) f hk hi8
                · exact (Only.of_below ((unhid_ HB).trans ((unhid_ HBN).mono (unhid_ HB).size)) _).trans (unhid_ HO9)
              | false =>
                have hno2 : ∀ j, j < i + 1 → decide ((t.p k).f j = FdV.zero) = false := fun j hj => by
                  rcases Nat.lt_or_ge j i with h | h
                  · exact unhid_ HNO j h
                  · obtain rfl : j = i := by omega
                    exact hc
                have HNO2 := hide hno2
                clear hno2 hc
                go_wp2
                go_roundw
                case rel => exact ⟨i + 1, by omega, by go_num, unhid_ HNO2, unhid_ HBN⟩
                case measure => simp [intOf]; omega
          · obtain rfl : i = 8 := by omega
            have hfree : (t.p k).free = none := find_range_none _ 8 hno
            have HFREE := Lib.hid hfree
            have HBQ := hide hbq
            clear hfree hno hbq
            go_wp2
            go_ret2
            refine ⟨by simp [TbV.openN, TbV.openE, hh'.out, hbd'.out, HFREE.out], ?_, Only.of_below ((unhid_ HB).trans ((unhid_ HBQ).mono (unhid_ HB).size)) _⟩
            have e : t.openT (k : Int) f = t := by simp [TbV.openT, hh'.out, hbd'.out, HFREE.out]
            rw [e]
            exact (unhid_ H).below (unhid_ HBQ)
end Go.Proofs.Ytgdloahgokefpaa
