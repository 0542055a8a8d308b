/- The walks of Table.Exit, Table.Proc. -/
import Derived.Test.YtgdloahgokefpaaTabAw
namespace Go.Proofs.Ytgdloahgokefpaa
open Go.RowKit
set_option linter.unusedSimpArgs false

def TbV.exit (t : TbV) (k : Nat) : TbV := (t.setPr k PrV.zero).setTh k false
def ExitedT (t : TbV) (base g : Nat) (p : Int) (w : World) (e : Ending) (w' : World) : Prop :=
  e = .returned (.bool (t.has p)) ∧ IsT w' base g (if t.has p then t.exit p.toNat else t) ∧ Only [g] w w' ∧ w'.heap.size = w.heap.size

set_option maxHeartbeats 2000000 in
theorem exit_any (w : World) (base g : Nat) (t : TbV) (p : Int) (h : IsT w base g t) :
    Calls Try.prog 15 #[.pointer (some ⟨g, 0, none⟩), .int .i64 p] w (ExitedT t base g p w) := by
  have HH := hide (has_any w base g t p h)
  have H := hide h
  clear h
  go_enter Try.func15, Try.ntmps15
  go_wp2_with fail
  refine (unhid_ HH).mono ?_
  rintro e w' ⟨rfl, rfl⟩
  cases hh : t.has p with
  | false =>
    go_wp2
    go_ret
    exact ⟨by rw [hh]; rfl, by rw [hh]; exact unhid_ H, Only.refl _ _, rfl⟩
  | true =>
    obtain ⟨k, rfl, _, hk, _⟩ := TbV.has_nat hh
    have hh' := Lib.hid hh
    have hz43 := run_zero_proc
    clear hh
    go_upto_region 3 with (fail)
    have hT8 : IsT (w.drew.setCells g (k * 38) PrV.zero.cells) base g (t.setPr k PrV.zero) := IsT.setPr (w := w.drew) (unhid_ H) hk (fun i _ => ⟨World.ownsRow_nil _ _ _ _, Nat.zero_le _⟩)
    obtain ⟨d8, f8⟩ := hT8.there' hk
    have hthg : w.drew.there g (k * 38) PrV.zero.cells.toArray.size := Blk.there (w := w.drew) (unhid_ H).1 (by simp [PrV.cells]; omega)
    have hT12 : Hid (IsT ((w.drew.setCells g (k * 38) PrV.zero.cells).setCell ⟨g, 494 + k, none⟩ (.bool false)) base g (t.exit k)) := hT8.setTh hk false
    have hO12 : Hid (Only [g] w ((w.drew.setCells g (k * 38) PrV.zero.cells).setCell ⟨g, 494 + k, none⟩ (.bool false))) := (Only.setCells PrV.zero.cells g (k * 38) w.drew (Only.refl [g] w).drew (.inl (by simp))).setCell (p := ⟨g, 494 + k, none⟩) (.inl (by simp)) _
    have hS12 : Hid (((w.drew.setCells g (k * 38) PrV.zero.cells).setCell ⟨g, 494 + k, none⟩ (.bool false)).heap.size = w.heap.size) := (show _ = _ from by rw [show ∀ (W : World) a v, (W.setCell a v).heap.size = W.heap.size from fun W a v => by simp [World.setCell]]; exact setCells_size PrV.zero.cells g (k * 38) w.drew)
    have hkI : (k : Int) < 13 := by omega
    clear hT8
    refine wp_region_held_drew (S := (fun _ => True)) (by kernel_rfl) ?_ (fun hHeld => ?_)
    · trivial
    refine wpAnyH_take (i := 0) (oi := ({ dst := some 9, op := Op.move (Operand.tmp 0), type := 23, pos := _, after := #[], guard := none })) (v := ?_) rfl (by kernel_rfl) (by kernel_rfl) (by kernel_rfl) (fun _ _ _ h => h) (Or.inl ⟨by rfl, ?_⟩) (by assumption) ?_
    rotate_left
    · (intro wq hSw; (try dsimp only at hSw); go_simp; try with_reducible rfl)
    try simp only [Act.put, List.setIfInBounds_toArray, List.set_cons_zero, List.set_cons_succ]
    refine wpAnyH_take (i := 1) (oi := ({ dst := some 10, op := Op.move (Operand.tmp 1), type := 3, pos := _, after := #[], guard := none })) (v := ?_) rfl (by kernel_rfl) (by kernel_rfl) (by kernel_rfl) (fun _ _ _ h => h) (Or.inl ⟨by rfl, ?_⟩) (by assumption) ?_
    rotate_left
    · (intro wq hSw; (try dsimp only at hSw); go_simp; try with_reducible rfl)
    try simp only [Act.put, List.setIfInBounds_toArray, List.set_cons_zero, List.set_cons_succ]
    refine wpAnyH_take (i := 2) (oi := ({ dst := some 11, op := Op.move (Operand.tmp 0), type := 23, pos := _, after := #[{ on := 8, ground := Ground.gcOnly Departure.lateStores }], guard := none })) (v := ?_) rfl (by kernel_rfl) (by kernel_rfl) (by kernel_rfl) (fun _ _ _ h => h) (Or.inl ⟨by rfl, ?_⟩) (by assumption) ?_
    rotate_left
    · (intro wq hSw; (try dsimp only at hSw); go_simp; try with_reducible rfl)
    try simp only [Act.put, List.setIfInBounds_toArray, List.set_cons_zero, List.set_cons_succ]
    refine wpAnyH_take (i := 3) (oi := ({ dst := some 12, op := Op.move (Operand.tmp 1), type := 3, pos := _, after := #[{ on := 8, ground := Ground.gcOnly Departure.lateStores }], guard := none })) (v := ?_) rfl (by kernel_rfl) (by kernel_rfl) (by kernel_rfl) (fun _ _ _ h => h) (Or.inl ⟨by rfl, ?_⟩) (by assumption) ?_
    rotate_left
    · (intro wq hSw; (try dsimp only at hSw); go_simp; try with_reducible rfl)
    try simp only [Act.put, List.setIfInBounds_toArray, List.set_cons_zero, List.set_cons_succ]
    refine wpAnyH_take (i := 4) (oi := ({ dst := some 13, op := Op.build 43 #[], type := 43, pos := _, after := #[], guard := none })) (v := ?_) rfl (by kernel_rfl) (by kernel_rfl) (by kernel_rfl) (fun _ _ _ h => h) (Or.inl ⟨by rfl, ?_⟩) (by assumption) ?_
    rotate_left
    · (intro wq hSw; (try dsimp only at hSw); go_simp; try with_reducible rfl)
    try simp only [Act.put, List.setIfInBounds_toArray, List.set_cons_zero, List.set_cons_succ]
    refine wpAnyH_take (i := 5) (oi := ({ dst := some 14, op := Op.nilCheck (Operand.tmp 9), type := 0, pos := _, after := #[{ on := 0, ground := Ground.data }], guard := none })) (v := ?_) rfl (by kernel_rfl) (by kernel_rfl) (by kernel_rfl) (fun _ _ _ h => h) (Or.inl ⟨by rfl, ?_⟩) (by assumption) ?_
    rotate_left
    · (intro wq hSw; (try dsimp only at hSw); go_simp; try with_reducible rfl)
    try simp only [Act.put, List.setIfInBounds_toArray, List.set_cons_zero, List.set_cons_succ]
    refine wpAnyH_take (i := 6) (oi := ({ dst := some 15, op := Op.fieldAddr 68 (Operand.tmp 14) 0, type := 0, pos := _, after := #[{ on := 5, ground := Ground.data }], guard := none })) (v := ?_) rfl (by kernel_rfl) (by kernel_rfl) (by kernel_rfl) (fun _ _ _ h => h) (Or.inl ⟨by rfl, ?_⟩) (by assumption) ?_
    rotate_left
    · (intro wq hSw; (try dsimp only at hSw); go_simp; try with_reducible rfl)
    try simp only [Act.put, List.setIfInBounds_toArray, List.set_cons_zero, List.set_cons_succ]
    refine wpAnyH_take (i := 7) (oi := ({ dst := some 16, op := Op.indexAddr 66 (Operand.tmp 15) (Operand.tmp 10), type := 0, pos := _, after := #[{ on := 6, ground := Ground.data }, { on := 1, ground := Ground.data }, { on := 0, ground := Ground.phase }, { on := 1, ground := Ground.phase }, { on := 2, ground := Ground.textOnly Departure.lateStores }, { on := 3, ground := Ground.textOnly Departure.lateStores }, { on := 4, ground := Ground.phase }], guard := none })) (v := ?_) rfl (by kernel_rfl) (by kernel_rfl) (by kernel_rfl) (fun _ _ _ h => h) (Or.inl ⟨by rfl, ?_⟩) (by assumption) ?_
    rotate_left
    · (intro wq hSw; (try dsimp only at hSw); go_simp; try with_reducible rfl)
    try simp only [Act.put, List.setIfInBounds_toArray, List.set_cons_zero, List.set_cons_succ]
    refine wpAnyH_take (i := 9) (oi := ({ dst := some 17, op := Op.nilCheck (Operand.tmp 11), type := 0, pos := _, after := #[{ on := 2, ground := Ground.data }], guard := none })) (v := ?_) rfl (by kernel_rfl) (by kernel_rfl) (by kernel_rfl) (fun _ _ _ h => h) (Or.inl ⟨by rfl, ?_⟩) (by assumption) ?_
    rotate_left
    · (intro wq hSw; (try dsimp only at hSw); go_simp; try with_reducible rfl)
    try simp only [Act.put, List.setIfInBounds_toArray, List.set_cons_zero, List.set_cons_succ]
    refine wpAnyH_take (i := 10) (oi := ({ dst := some 18, op := Op.fieldAddr 68 (Operand.tmp 17) 1, type := 0, pos := _, after := #[{ on := 9, ground := Ground.data }], guard := none })) (v := ?_) rfl (by kernel_rfl) (by kernel_rfl) (by kernel_rfl) (fun _ _ _ h => h) (Or.inl ⟨by rfl, ?_⟩) (by assumption) ?_
    rotate_left
    · (intro wq hSw; (try dsimp only at hSw); go_simp; try with_reducible rfl)
    try simp only [Act.put, List.setIfInBounds_toArray, List.set_cons_zero, List.set_cons_succ]
    refine wpAnyH_ready (rs := [8]) (by kernel_rfl) (by simp) ?_
    refine AllReadyH.cons (o := ({ dst := none, op := Op.store 43 (Operand.tmp 16) (Operand.tmp 13), type := 0, pos := _, after := #[{ on := 7, ground := Ground.data }, { on := 4, ground := Ground.data }, { on := 0, ground := Ground.phase }, { on := 1, ground := Ground.phase }, { on := 2, ground := Ground.textOnly Departure.lateStores }, { on := 3, ground := Ground.textOnly Departure.lateStores }, { on := 4, ground := Ground.phase }], guard := none })) rfl (fun K hK => ?_) AllReadyH.nil
    refine step_store_mid rfl 43 (.tmp 16) (.tmp 13) rfl g (k * 38) PrV.zero.cells.toArray rfl rfl hthg (by kernel_rfl) (all_oneCell_toArray PrV.zero.cells_one) ?_
    refine hK.out _ _ ?_ (fun hHeld => ?_)
    · trivial
    clear hK K
    try simp only [Act.put, List.setIfInBounds_toArray, List.set_cons_zero, List.set_cons_succ]
    refine wpAnyH_take (i := 11) (oi := ({ dst := some 19, op := Op.indexAddr 32 (Operand.tmp 18) (Operand.tmp 12), type := 0, pos := _, after := #[{ on := 10, ground := Ground.data }, { on := 3, ground := Ground.data }, { on := 0, ground := Ground.phase }, { on := 1, ground := Ground.phase }, { on := 2, ground := Ground.phase }, { on := 3, ground := Ground.phase }, { on := 4, ground := Ground.phase }, { on := 5, ground := Ground.phase }, { on := 6, ground := Ground.phase }, { on := 7, ground := Ground.phase }, { on := 8, ground := Ground.phase }], guard := none })) (v := ?_) rfl (by kernel_rfl) (by kernel_rfl) (by kernel_rfl) (fun _ _ _ h => h) (Or.inl ⟨by rfl, ?_⟩) (by assumption) ?_
    rotate_left
    · (intro wq hSw; (try dsimp only at hSw); go_simp; try with_reducible rfl)
    try simp only [Act.put, List.setIfInBounds_toArray, List.set_cons_zero, List.set_cons_succ]
    refine wpAnyH_ready (rs := [12]) (by kernel_rfl) (by simp) ?_
    refine AllReadyH.cons (o := ({ dst := none, op := Op.store 4 (Operand.tmp 19) (Operand.const (Value.bool false)), type := 0, pos := _, after := #[{ on := 11, ground := Ground.data }, { on := 8, ground := Ground.chain }, { on := 0, ground := Ground.phase }, { on := 1, ground := Ground.phase }, { on := 2, ground := Ground.phase }, { on := 3, ground := Ground.phase }, { on := 4, ground := Ground.phase }, { on := 5, ground := Ground.phase }, { on := 6, ground := Ground.phase }, { on := 7, ground := Ground.phase }, { on := 8, ground := Ground.phase }], guard := none })) rfl (fun K hK => ?_) AllReadyH.nil
    go_simp
    skip
    refine hK.out _ _ ?_ (fun hHeld => ?_)
    · trivial
    clear hK K
    try simp only [Act.put, List.setIfInBounds_toArray, List.set_cons_zero, List.set_cons_succ]
    refine wpAnyH_done (by kernel_rfl) ?_ _
    clear hthg d8 f8
    go_wp2
    go_ret
    refine ⟨by rw [hh'.out]; rfl, ?_, unhid_ hO12, unhid_ hS12⟩
    rw [hh'.out, if_pos rfl]
    exact unhid_ hT12

/-- what Proc answers -/
def ProcT (t : TbV) (p : Int) (w : World) (e : Ending) (w' : World) : Prop :=
  Below w.heap.size w w' ∧ ((t.has p = false ∧ e = .returned (.tuple #[.agg PrV.zero.cells.toArray, .bool false])) ∨
    (t.has p = true ∧ ∃ y : PrV, e = .returned (.tuple #[.agg y.cells.toArray, .bool true]) ∧ y.o = (t.p p.toNat).o ∧ y.n = (t.p p.toNat).n ∧ y.f = (t.p p.toNat).f ∧ (∀ i, i < 4 → (y.b i).xs = ((t.p p.toNat).b i).xs ∧ (y.b i).ok w' w.heap.size) ∧ ∀ i j, i < j → j < 4 → (y.b i).apart (y.b j)))
theorem results_cell_tmp {P : Program} {fn : Func} {tmps : Array Value} {a b : Nat} {t : TypeId} {p : Addr} {v u : Value} {w : World} (hf : fn.results = #[.cell a t, .tmp b]) (hp : tmps.getD a undef = .pointer (some p)) (hu : tmps.getD b undef = u) (hr : (loadVar t p).run P w = .ok v w) : (results fn tmps).run P w = .ok (.tuple #[v, u]) w := by
  have hp' : tmps[a]?.getD undef = .pointer (some p) := by simpa using hp
  have hu' : tmps[b]?.getD undef = u := by simpa using hu
  simp [results, hf, hp', hu', asAddr, hr, Sem.run_bind]

set_option maxHeartbeats 2000000 in
theorem proc_any (w : World) (base g : Nat) (t : TbV) (p : Int) (h : IsT w base g t) :
    Calls Try.prog 16 #[.pointer (some ⟨g, 0, none⟩), .int .i64 p] w (ProcT t p w) := by
  have H := hide h
  clear h
  go_enter Try.func16, Try.ntmps16
  go_upto_region 0 with (fail)
  go_cut [4] (fun s4 wx => s4 = .pointer (some ⟨w.heap.size, 0, none⟩) ∧ (∃ Z : Nat → Value, Blk wx w.heap.size 43 (Tb 38 Z)) ∧ Below w.heap.size w wx ∧ wx.heap.size = w.heap.size + 1)
  case first =>
    go_wp2
    go_meet
    exact ⟨rfl, blk_tb (n := 38) (Blk.new _ _ _) rfl, (Below.refl _ _).alloc (Nat.le_refl _) _, by simp⟩
  case rest =>
    obtain ⟨rfl, ⟨Z, hZ⟩, hb, hs⟩ := hcut
    have hT := (unhid_ H).below hb
    have HH := hide (has_any wc base g t p hT)
    have HT := hide hT
    have HZ := hide hZ
    have HB := hide hb
    have HS := Lib.hid hs
    clear hT hZ hb hs
    go_wp2_with fail
    refine (unhid_ HH).mono ?_
    rintro e w' ⟨rfl, rfl⟩
    cases hh : t.has p with
    | false =>
      have hz43 := run_zero_proc
      have hth : wc.there w.heap.size 0 PrV.zero.cells.toArray.size := (unhid_ HZ).there (by simp [PrV.cells])
      have hh' := Lib.hid hh
      clear hh
      go_wp2_with (first | (refine wpList_store_mid rfl 43 (.tmp 4) (.tmp 10) rfl w.heap.size 0 PrV.zero.cells.toArray rfl rfl hth (by kernel_rfl) (all_oneCell_toArray PrV.zero.cells_one) ?_))
      have hb4 := (unhid_ HZ).fill PrV.zero
      have hrun := run_loadVar_mid (P := Try.prog) (wc.setCells w.heap.size 0 PrV.zero.cells) w.heap.size 0 43 PrV.zero.cells _ (PrV.range_all hb4) Try.underlying43 rfl (by kernel_rfl)
      exact bodyPost_ret (results_cell_tmp Try.results16 rfl rfl hrun) rfl ⟨(unhid_ HB).trans (Only.below (Only.setCells PrV.zero.cells w.heap.size 0 wc (Only.refl [w.heap.size] wc) (.inl (by simp))) (fun x hx => by simp at hx; omega) (unhid_ HB).size), .inl ⟨hh'.out, rfl⟩⟩
    | true =>
      obtain ⟨k, rfl, _, hk, _⟩ := TbV.has_nat hh
      have hh' := Lib.hid hh
      have hrg := (unhid_ HT).range_proc hk
      have HOWN := hide (ownp_any wc (t.p k) wc.heap.size ((unhid_ HT).bufs hk) (Nat.le_refl _))
      clear hh
      go_wp2_with (first | (refine wpList_load_mid rfl 43 (.tmp 15) rfl g (k * 38) rfl (t.p k).cells _ hrg Try.underlying43 rfl (by kernel_rfl) ?_))
      refine (unhid_ HOWN).mono ?_
      rintro e wx ⟨y, rfl, e1, e2, e3, hbf, hbl, hap⟩
      have hZx : Blk wx w.heap.size 43 (Tb 38 Z) := (unhid_ HZ).below hbl (by have := HS.out; omega)
      have hth : wx.there w.heap.size 0 y.cells.toArray.size := hZx.there (by simp [PrV.cells])
      have HZX := hide hZx
      have HBF := hide hbf
      have HBL := hide hbl
      have HAP := hide hap
      clear hrg hZx hbf hbl hap
      go_wp2_with (first | (refine wpList_store_mid rfl 43 (.tmp 4) (.tmp 17) rfl w.heap.size 0 y.cells.toArray rfl rfl hth (by kernel_rfl) (all_oneCell_toArray y.cells_one) ?_))
      have hb4 := (unhid_ HZX).fill y
      have hrun := run_loadVar_mid (P := Try.prog) (wx.setCells w.heap.size 0 y.cells) w.heap.size 0 43 y.cells _ (PrV.range_all hb4) Try.underlying43 rfl (by kernel_rfl)
      refine bodyPost_ret (results_cell_tmp Try.results16 rfl rfl hrun) rfl ⟨?_, .inr ⟨hh'.out, y, rfl, e1, e2, e3, fun i hi => ?_, unhid_ HAP⟩⟩
      · have h1 : Below w.heap.size w wx := (unhid_ HB).trans ((unhid_ HBL).mono (unhid_ HB).size)
        exact h1.trans (Only.below (Only.setCells y.cells w.heap.size 0 wx (Only.refl [w.heap.size] wx) (.inl (by simp))) (fun x hx => by simp at hx; omega) h1.size)
      · obtain ⟨q1, q2, q3⟩ := unhid_ HBF i hi
        have := HS.out
        exact ⟨q1, own_base (own_setCells (g := w.heap.size) (by omega) y.cells 0 wx q2) (by omega), q3⟩
end Go.Proofs.Ytgdloahgokefpaa
