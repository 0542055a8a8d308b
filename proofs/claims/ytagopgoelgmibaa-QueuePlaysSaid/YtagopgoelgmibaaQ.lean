/- The walks of package queue: what each call answers, and what the queue holds then. -/
import Derived.Test.YtagopgoelgmibaaRing
import Derived.StillTailTactics
import Derived.BigQuiet
import Derived.Deep.QuietTactic
namespace Go.Proofs.Ytagopgoelgmibaa
open Go.RowKit
set_option linter.unusedSimpArgs false

/-- block g is a queue over the ring in block rb, for cap bytes; it holds B -/
def IsQ (w : World) (g rb cap : Nat) (B : List Int) : Prop :=
  ∃ (ring : List Int) (at_ : Nat), Blk w g 43 #[.slice (some ⟨rb, 0, none⟩) cap cap, .int .i64 at_, .int .i64 B.length] ∧ Blk w rb 5 (By ring) ∧ ring.length = cap ∧ B.length ≤ cap ∧ (at_ < cap ∨ at_ = 0) ∧ cap ≤ 65536 ∧ Holds_ ring at_ B

theorem IsQ.drewN {w : World} {g rb cap : Nat} {B : List Int} (h : IsQ w g rb cap B) (n : Nat) : IsQ (w.drewN n) g rb cap B := h
theorem IsQ.only {w w' : World} {g rb cap : Nat} {B : List Int} {S : List Nat} (h : IsQ w g rb cap B) (ho : Only S w w') (hg : g ∉ S) (hr : rb ∉ S) : IsQ w' g rb cap B := by
  obtain ⟨ring, at_, h1, h2, h3⟩ := h
  exact ⟨ring, at_, ho.blk h1 hg, ho.blk h2 hr, h3⟩
theorem IsQ.ne {w : World} {g rb cap : Nat} {B : List Int} (h : IsQ w g rb cap B) : g ≠ rb := by
  obtain ⟨ring, at_, h1, h2, _⟩ := h
  exact h1.ne_ h2 (by decide)
theorem IsQ.lt {w : World} {g rb cap : Nat} {B : List Int} (h : IsQ w g rb cap B) : g < w.heap.size ∧ rb < w.heap.size := by
  obtain ⟨ring, at_, h1, h2, _⟩ := h
  exact ⟨h1.lt, h2.lt⟩
theorem IsQ.le {w : World} {g rb cap : Nat} {B : List Int} (h : IsQ w g rb cap B) : B.length ≤ cap ∧ cap ≤ 65536 := by
  obtain ⟨ring, at_, _, _, _, h1, _, h2, _⟩ := h
  exact ⟨h1, h2⟩

set_option maxHeartbeats 400000 in
theorem len_any (w : World) (g rb cap : Nat) (B : List Int) (h : IsQ w g rb cap B) :
    Calls Try.prog 15 #[.pointer (some ⟨g, 0, none⟩)] w fun e w' => e = .returned (.int .i64 B.length) ∧ w = w' := by
  obtain ⟨ring, at_, h1, h2, _⟩ := h
  have c2 : w.cell? ⟨g, 2, none⟩ = some (.int .i64 B.length) := h1.cell 2
  go_enter Try.func15, Try.ntmps15
  go_wp2
  go_ret
  exact ⟨rfl, rfl⟩

def QuietQ (v : Value) (w : World) (e : Ending) (w' : World) : Prop := e = .returned v ∧ ∃ n, w' = w.drewN n

set_option maxHeartbeats 400000 in
theorem room_any (w : World) (g rb cap : Nat) (B : List Int) (h : IsQ w g rb cap B) :
    Calls Try.prog 16 #[.pointer (some ⟨g, 0, none⟩)] w (QuietQ (.int .i64 ((cap : Int) - B.length)) w) := by
  obtain ⟨ring, at_, h1, h2, h3, h4, h5, h6, h7⟩ := h
  have c2 : w.cell? ⟨g, 2, none⟩ = some (.int .i64 B.length) := h1.cell 2
  have c0 : w.cell? ⟨g, 0, none⟩ = some (.slice (some ⟨rb, 0, none⟩) cap cap) := h1.cell 0
  clear h1 h2 h3 h7
  go_enter Try.func16, Try.ntmps16
  go_wp2
  go_quiet (fail)
  go_wp2
  go_ret
  exact ⟨rfl, _, rfl⟩

theorem IsQ.fresh (w : World) (n : Nat) (h : n ≤ 65536) : IsQ ((w.alloc (.cells (By (zeros n)) 5)).alloc (.cells #[.slice (some ⟨w.heap.size, 0, none⟩) n n, .int .i64 0, .int .i64 0] 43)) (w.heap.size + 1) w.heap.size n [] := by
  refine ⟨zeros n, 0, ?_, ?_, zeros_length n, Nat.zero_le _, .inr rfl, h, fun j hj => absurd hj (by simp)⟩
  · have := Blk.new (w.alloc (.cells (By (zeros n)) 5)) 43 #[.slice (some ⟨w.heap.size, 0, none⟩) n n, .int .i64 0, .int .i64 0]
    simpa using this
  · exact (Blk.new w 5 (By (zeros n))).alloc _

def NewQ (cap : Nat) (w : World) (e : Ending) (w' : World) : Prop := e = .returned (.pointer (some ⟨w.heap.size + 1, 0, none⟩)) ∧ IsQ w' (w.heap.size + 1) w.heap.size cap [] ∧ Below w.heap.size w w' ∧ w'.heap.size = w.heap.size + 2

set_option maxHeartbeats 400000 in
theorem new_any (w : World) (most : Int) :
    Calls Try.prog 7 #[.int .i64 most] w (NewQ (max 0 (min most 65536)).toNat w) := by
  by_cases h0 : most ≤ 0
  · have hmk : ∀ w : World, (Instr.makeSlice 28 (.int .i64 0) (.int .i64 0)).run Try.prog w = .ok (.slice (some ⟨w.heap.size, 0, none⟩) 0 0) (w.alloc (.cells (By (zeros 0)) 5)) := run_make_bytes 0 (by omega)
    have hfin := IsQ.fresh w 0 (by omega)
    have e : (max 0 (min most 65536)).toNat = 0 := by omega
    rw [e]
    have HF := hide hfin
    clear e hfin
    go_enter Try.func7, Try.ntmps7
    go_wp2
    go_ret
    exact ⟨rfl, unhid_ HF, ((Below.refl _ _).alloc (Nat.le_refl _) _).alloc (by simp) _, by simp⟩
  · by_cases h1 : 65536 < most
    · have hmk : ∀ w : World, (Instr.makeSlice 28 (.int .i64 65536) (.int .i64 65536)).run Try.prog w = .ok (.slice (some ⟨w.heap.size, 0, none⟩) 65536 65536) (w.alloc (.cells (By (zeros 65536)) 5)) := run_make_bytes 65536 (by omega)
      have hfin := IsQ.fresh w 65536 (by omega)
      have e : (max 0 (min most 65536)).toNat = 65536 := by omega
      rw [e]
      have HF := hide hfin
      clear e hfin
      go_enter Try.func7, Try.ntmps7
      go_wp2
      go_ret
      exact ⟨rfl, unhid_ HF, ((Below.refl _ _).alloc (Nat.le_refl _) _).alloc (by simp) _, by simp⟩
    · obtain ⟨n, rfl⟩ := Int.eq_ofNat_of_zero_le (show 0 ≤ most by omega)
      have hn : (n : Int) ≤ 65536 := by omega
      have hn0 : (0 : Int) < (n : Int) := by omega
      have hmk := run_make_bytes n (by omega)
      have hfin := IsQ.fresh w n (by omega)
      have e : (max 0 (min (n : Int) 65536)).toNat = n := by omega
      rw [e]
      have HF := hide hfin
      clear e hfin
      go_enter Try.func7, Try.ntmps7
      go_wp2
      go_ret
      exact ⟨rfl, unhid_ HF, ((Below.refl _ _).alloc (Nat.le_refl _) _).alloc (by simp) _, by simp⟩

/-- a new slice with all the bytes -/
def TellQ (B : List Int) (w : World) (e : Ending) (w' : World) : Prop := e = .returned (.slice (some ⟨w.heap.size, 0, none⟩) B.length B.length) ∧ ∃ n, w' = (w.alloc (.cells (By B) 5)).drewN n

set_option maxHeartbeats 400000 in
theorem bytes_none (w : World) (g rb cap : Nat) (h : IsQ w g rb cap []) :
    Calls Try.prog 17 #[.pointer (some ⟨g, 0, none⟩)] w (TellQ [] w) := by
  have hlt := h.lt
  obtain ⟨ring, at_, h1, h2, h3, h4, h5, h6, h7⟩ := h
  have c2 : w.cell? ⟨g, 2, none⟩ = some (.int .i64 0) := h1.cell 2
  have hmk : ∀ w : World, (Instr.makeSlice 28 (.int .i64 0) (.int .i64 0)).run Try.prog w = .ok (.slice (some ⟨w.heap.size, 0, none⟩) 0 0) (w.alloc (.cells (By []) 5)) := run_make_bytes 0 (by omega)
  have hg : g < w.heap.size := hlt.1
  clear h1 h2 h3 h5 h7 hlt
  go_enter Try.func17, Try.ntmps17
  go_wp2
  go_ret
  exact ⟨rfl, 0, rfl⟩

set_option maxHeartbeats 1000000 in
theorem bytes_some (w : World) (g rb cap : Nat) (B : List Int) (hB : 0 < B.length) (h : IsQ w g rb cap B) :
    Calls Try.prog 17 #[.pointer (some ⟨g, 0, none⟩)] w (TellQ B w) := by
  have hlt := h.lt
  obtain ⟨ring, at_, h1, h2, h3, h4, h5, h6, h7⟩ := h
  have hat : at_ < cap := by omega
  have c0 : w.cell? ⟨g, 0, none⟩ = some (.slice (some ⟨rb, 0, none⟩) cap cap) := h1.cell 0
  have c1 : w.cell? ⟨g, 1, none⟩ = some (.int .i64 at_) := h1.cell 1
  have c2 : w.cell? ⟨g, 2, none⟩ = some (.int .i64 B.length) := h1.cell 2
  have hmk := run_make_bytes B.length (by omega)
  have hg : g < w.heap.size := hlt.1
  have hrb : rb < w.heap.size := hlt.2
  have H1 := hide h1
  have H2 := hide h2
  have H3 := Lib.hid h3
  have H7 := hide h7
  have hpos : (0 : Int) < (B.length : Int) := by omega
  have k0 := (World.cell?_alloc_past (w := w) (.cells (By (zeros B.length)) 5) g 0 hg).trans c0
  have k1 := (World.cell?_alloc_past (w := w) (.cells (By (zeros B.length)) 5) g 1 hg).trans c1
  have k2 := (World.cell?_alloc_past (w := w) (.cells (By (zeros B.length)) 5) g 2 hg).trans c2
  have b1 := Blk.new w 5 (By (zeros B.length))
  have r1 := (h2.alloc (.cells (By (zeros B.length)) 5)).reads_from (n := min B.length (cap - at_)) (off := at_) (by omega)
  have r2 := h2.reads_from (n := B.length - min B.length (cap - at_)) (off := 0) (by omega)
  have hall := h7.all (by omega) (by omega) (show min B.length (cap - at_) = _ by rw [h3])
  rw [List.drop_zero] at r2
  obtain ⟨X1, eX1⟩ : ∃ X1, X1 = (ring.drop at_).take (min B.length (cap - at_)) := ⟨_, rfl⟩
  obtain ⟨X2, eX2⟩ : ∃ X2, X2 = ring.take (B.length - min B.length (cap - at_)) := ⟨_, rfl⟩
  rw [← eX1] at r1 hall
  rw [← eX2] at r2 hall
  have hX : Hid (X1.length = min B.length (cap - at_)) := by rw [eX1]; simp [Hid]; omega
  have hX2 : Hid (X2.length = B.length - min B.length (cap - at_)) := by rw [eX2]; simp [Hid]; omega
  have HA := Lib.hid hall
  have R1 := hide r1
  have R2 := hide r2
  have B1 := hide b1
  have hXle : X1.length ≤ B.length := by rw [hX.out]; omega
  have hatle : at_ ≤ cap := by omega
  have hatne : ¬ cap = at_ := by omega
  have hX0 : (0 : Int) ≤ (X1.length : Int) := by omega
  clear h1 h2 h3 h5 h7 hlt eX1 eX2 hall r1 r2 b1
  go_enter Try.func17, Try.ntmps17
  go_wp2
  have r1 := unhid_ R1
  have b1 := unhid_ B1
  refine wp_region_held_drew (S := (fun w' => w'.cell? ⟨g, 0, none⟩ = some (.slice (some ⟨rb, 0, none⟩) cap cap) ∧ w'.cell? ⟨g, 1, none⟩ = some (.int .i64 at_) ∧ w'.cell? ⟨g, 2, none⟩ = some (.int .i64 B.length))) (by kernel_rfl) ?_ (fun hHeld => ?_)
  · exact ⟨k0, k1, k2⟩
  refine wpAnyH_take (i := 0) (oi := ({ dst := some 15, op := Op.move (Operand.tmp 3), type := 28, pos := _, after := #[], guard := none })) (v := ?_) rfl (by kernel_rfl) (by kernel_rfl) (by kernel_rfl) (fun _ _ _ h => h) (Or.inl ⟨by rfl, ?_⟩) (by assumption) ?_
  rotate_left
  · (intro wq hSw; (try dsimp only at hSw); go_simp; try with_reducible rfl)
  try simp only [Act.put, List.setIfInBounds_toArray, List.set_cons_zero, List.set_cons_succ]
  refine wpAnyH_take (i := 1) (oi := ({ dst := some 16, op := Op.move (Operand.tmp 0), type := 24, pos := _, after := #[], guard := none })) (v := ?_) rfl (by kernel_rfl) (by kernel_rfl) (by kernel_rfl) (fun _ _ _ h => h) (Or.inl ⟨by rfl, ?_⟩) (by assumption) ?_
  rotate_left
  · (intro wq hSw; (try dsimp only at hSw); go_simp; try with_reducible rfl)
  try simp only [Act.put, List.setIfInBounds_toArray, List.set_cons_zero, List.set_cons_succ]
  refine wpAnyH_take (i := 2) (oi := ({ dst := some 17, op := Op.nilCheck (Operand.tmp 16), type := 0, pos := _, after := #[{ on := 1, ground := Ground.data }], guard := none })) (v := ?_) rfl (by kernel_rfl) (by kernel_rfl) (by kernel_rfl) (fun _ _ _ h => h) (Or.inl ⟨by rfl, ?_⟩) (by assumption) ?_
  rotate_left
  · (intro wq hSw; (try dsimp only at hSw); go_simp; try with_reducible rfl)
  try simp only [Act.put, List.setIfInBounds_toArray, List.set_cons_zero, List.set_cons_succ]
  refine wpAnyH_take (i := 3) (oi := ({ dst := some 18, op := Op.fieldAddr 43 (Operand.tmp 17) 0, type := 0, pos := _, after := #[{ on := 2, ground := Ground.data }], guard := none })) (v := ?_) rfl (by kernel_rfl) (by kernel_rfl) (by kernel_rfl) (fun _ _ _ h => h) (Or.inl ⟨by rfl, ?_⟩) (by assumption) ?_
  rotate_left
  · (intro wq hSw; (try dsimp only at hSw); go_simp; try with_reducible rfl)
  try simp only [Act.put, List.setIfInBounds_toArray, List.set_cons_zero, List.set_cons_succ]
  refine wpAnyH_take (i := 4) (oi := ({ dst := some 19, op := Op.load 28 (Operand.tmp 18), type := 28, pos := _, after := #[{ on := 3, ground := Ground.data }], guard := none })) (v := ?_) rfl (by kernel_rfl) (by kernel_rfl) (by kernel_rfl) (fun _ _ _ h => h) (Or.inl ⟨by rfl, ?_⟩) (by assumption) ?_
  rotate_left
  · (intro wq hSw; (try dsimp only at hSw); go_simp; try with_reducible rfl)
  try simp only [Act.put, List.setIfInBounds_toArray, List.set_cons_zero, List.set_cons_succ]
  refine wpAnyH_take (i := 5) (oi := ({ dst := some 20, op := Op.move (Operand.tmp 0), type := 24, pos := _, after := #[], guard := none })) (v := ?_) rfl (by kernel_rfl) (by kernel_rfl) (by kernel_rfl) (fun _ _ _ h => h) (Or.inl ⟨by rfl, ?_⟩) (by assumption) ?_
  rotate_left
  · (intro wq hSw; (try dsimp only at hSw); go_simp; try with_reducible rfl)
  try simp only [Act.put, List.setIfInBounds_toArray, List.set_cons_zero, List.set_cons_succ]
  refine wpAnyH_take (i := 6) (oi := ({ dst := some 21, op := Op.nilCheck (Operand.tmp 20), type := 0, pos := _, after := #[{ on := 5, ground := Ground.data }], guard := none })) (v := ?_) rfl (by kernel_rfl) (by kernel_rfl) (by kernel_rfl) (fun _ _ _ h => h) (Or.inl ⟨by rfl, ?_⟩) (by assumption) ?_
  rotate_left
  · (intro wq hSw; (try dsimp only at hSw); go_simp; try with_reducible rfl)
  try simp only [Act.put, List.setIfInBounds_toArray, List.set_cons_zero, List.set_cons_succ]
  refine wpAnyH_take (i := 7) (oi := ({ dst := some 22, op := Op.fieldAddr 43 (Operand.tmp 21) 1, type := 0, pos := _, after := #[{ on := 6, ground := Ground.data }], guard := none })) (v := ?_) rfl (by kernel_rfl) (by kernel_rfl) (by kernel_rfl) (fun _ _ _ h => h) (Or.inl ⟨by rfl, ?_⟩) (by assumption) ?_
  rotate_left
  · (intro wq hSw; (try dsimp only at hSw); go_simp; try with_reducible rfl)
  try simp only [Act.put, List.setIfInBounds_toArray, List.set_cons_zero, List.set_cons_succ]
  refine wpAnyH_take (i := 8) (oi := ({ dst := some 23, op := Op.load 3 (Operand.tmp 22), type := 3, pos := _, after := #[{ on := 7, ground := Ground.data }], guard := none })) (v := ?_) rfl (by kernel_rfl) (by kernel_rfl) (by kernel_rfl) (fun _ _ _ h => h) (Or.inl ⟨by rfl, ?_⟩) (by assumption) ?_
  rotate_left
  · (intro wq hSw; (try dsimp only at hSw); go_simp; try with_reducible rfl)
  try simp only [Act.put, List.setIfInBounds_toArray, List.set_cons_zero, List.set_cons_succ]
  refine wpAnyH_take (i := 9) (oi := ({ dst := some 24, op := Op.slice 28 (Operand.tmp 19) (some (Operand.tmp 23)) none none, type := 28, pos := _, after := #[{ on := 4, ground := Ground.data }, { on := 8, ground := Ground.data }], guard := none })) (v := ?_) rfl (by kernel_rfl) (by kernel_rfl) (by kernel_rfl) (fun _ _ _ h => h) (Or.inl ⟨by rfl, ?_⟩) (by assumption) ?_
  rotate_left
  · (intro wq hSw; (try dsimp only at hSw); go_simp; try with_reducible rfl)
  try simp only [Act.put, List.setIfInBounds_toArray, List.set_cons_zero, List.set_cons_succ]
  refine wpAnyH_ready (rs := [10]) (by kernel_rfl) (by simp) ?_
  refine AllReadyH.cons (o := ({ dst := some 25, op := Op.call { callee := Callee.builtin Builtin.copy, args := #[Operand.tmp 15, Operand.tmp 24], argTypes := #[28, 28] }, type := 3, pos := _, after := #[{ on := 0, ground := Ground.data }, { on := 9, ground := Ground.data }], guard := none })) rfl (fun K hK => ?_) AllReadyH.nil
  refine step_copy_By rfl (.tmp 15) (.tmp 24) rfl _ _ _ _ _ _ rfl rfl w.heap.size 0 (rb + 1) (zeros B.length) X1 b1 ?hn3 ?hdp3 ?hsrc3 ?hfit3 ?_
  case hn3 => rw [hX.out]; omega
  case hdp3 => exact fun _ => rfl
  case hsrc3 => exact r1
  case hfit3 => rw [zeros_length, hX.out]; omega
  refine hK.out _ _ ?_ (fun hHeld => ?_)
  · exact ⟨(cell_setRow_far _ _ _ _ (by simp; omega)).trans k0, (cell_setRow_far _ _ _ _ (by simp; omega)).trans k1, (cell_setRow_far _ _ _ _ (by simp; omega)).trans k2⟩
  clear hK K
  try simp only [Act.put, List.setIfInBounds_toArray, List.set_cons_zero, List.set_cons_succ]
  refine wpAnyH_take (i := 11) (oi := ({ dst := some 4, op := Op.assign (Operand.tmp 25), type := 3, pos := _, after := #[{ on := 10, ground := Ground.data }, { on := 10, ground := Ground.chain }, { on := 0, ground := Ground.phase }, { on := 1, ground := Ground.phase }, { on := 2, ground := Ground.phase }, { on := 3, ground := Ground.phase }, { on := 4, ground := Ground.phase }, { on := 5, ground := Ground.phase }, { on := 6, ground := Ground.phase }, { on := 7, ground := Ground.phase }, { on := 8, ground := Ground.phase }, { on := 9, ground := Ground.phase }, { on := 10, ground := Ground.phase }], guard := none })) (v := ?_) rfl (by kernel_rfl) (by kernel_rfl) (by kernel_rfl) (fun _ _ _ h => h) (Or.inl ⟨by rfl, ?_⟩) (by assumption) ?_
  rotate_left
  · (intro wq hSw; (try dsimp only at hSw); go_simp; try with_reducible rfl)
  try simp only [Act.put, List.setIfInBounds_toArray, List.set_cons_zero, List.set_cons_succ]
  refine wpAnyH_done (by kernel_rfl) ?_ _
  clear r1 b1
  go_wp2
  rw [show ∀ x : World, x.drew = x.drewN 1 from fun _ => rfl, drew_setRow]
  obtain ⟨Z, hZ⟩ : ∃ Z, Z = splice (zeros B.length) 0 X1 := ⟨_, rfl⟩
  rw [← hZ]
  have hZl : Z.length = B.length := by rw [hZ, length_splice _ _ _ (by rw [zeros_length, hX.out]; omega), zeros_length]
  have q0 := (World.cell?_alloc_past (w := w) (.cells (By Z) 5) g 0 hg).trans c0
  have q1 := (World.cell?_alloc_past (w := w) (.cells (By Z) 5) g 1 hg).trans c1
  have q2 := (World.cell?_alloc_past (w := w) (.cells (By Z) 5) g 2 hg).trans c2
  have b2 := Blk.new w 5 (By Z)
  have r2 := Reads.alloc (o := .cells (By Z) 5) (unhid_ R2) (by omega)
  have HZ := Lib.hid hZ
  have HZl := Lib.hid hZl
  clear hZ hZl k0 k1 k2
  by_cases hkB : B.length = X1.length
  · have hXle2 : X1.length ≤ X1.length := Nat.le_refl _
    refine wp_region_held_drew (S := (fun w' => w'.cell? ⟨g, 0, none⟩ = some (.slice (some ⟨rb, 0, none⟩) cap cap) ∧ w'.cell? ⟨g, 1, none⟩ = some (.int .i64 at_) ∧ w'.cell? ⟨g, 2, none⟩ = some (.int .i64 B.length))) (by kernel_rfl) ?_ (fun hHeld => ?_)
    · exact ⟨q0, q1, q2⟩
    refine wpAnyH_take (i := 0) (oi := ({ dst := some 26, op := Op.move (Operand.tmp 3), type := 28, pos := _, after := #[], guard := none })) (v := ?_) rfl (by kernel_rfl) (by kernel_rfl) (by kernel_rfl) (fun _ _ _ h => h) (Or.inl ⟨by rfl, ?_⟩) (by assumption) ?_
    rotate_left
    · (intro wq hSw; (try dsimp only at hSw); go_simp; try with_reducible rfl)
    try simp only [Act.put, List.setIfInBounds_toArray, List.set_cons_zero, List.set_cons_succ]
    refine wpAnyH_take (i := 1) (oi := ({ dst := some 27, op := Op.move (Operand.tmp 4), type := 3, pos := _, after := #[], guard := none })) (v := ?_) rfl (by kernel_rfl) (by kernel_rfl) (by kernel_rfl) (fun _ _ _ h => h) (Or.inl ⟨by rfl, ?_⟩) (by assumption) ?_
    rotate_left
    · (intro wq hSw; (try dsimp only at hSw); go_simp; try with_reducible rfl)
    try simp only [Act.put, List.setIfInBounds_toArray, List.set_cons_zero, List.set_cons_succ]
    refine wpAnyH_take (i := 2) (oi := ({ dst := some 28, op := Op.slice 28 (Operand.tmp 26) (some (Operand.tmp 27)) none none, type := 28, pos := _, after := #[{ on := 0, ground := Ground.data }, { on := 1, ground := Ground.data }], guard := none })) (v := ?_) rfl (by kernel_rfl) (by kernel_rfl) (by kernel_rfl) (fun _ _ _ h => h) (Or.inl ⟨by rfl, ?_⟩) (by assumption) ?_
    rotate_left
    · (intro wq hSw; (try dsimp only at hSw); go_simp; try with_reducible rfl)
    try simp only [Act.put, List.setIfInBounds_toArray, List.set_cons_zero, List.set_cons_succ]
    refine wpAnyH_take (i := 3) (oi := ({ dst := some 29, op := Op.move (Operand.tmp 0), type := 24, pos := _, after := #[], guard := none })) (v := ?_) rfl (by kernel_rfl) (by kernel_rfl) (by kernel_rfl) (fun _ _ _ h => h) (Or.inl ⟨by rfl, ?_⟩) (by assumption) ?_
    rotate_left
    · (intro wq hSw; (try dsimp only at hSw); go_simp; try with_reducible rfl)
    try simp only [Act.put, List.setIfInBounds_toArray, List.set_cons_zero, List.set_cons_succ]
    refine wpAnyH_take (i := 4) (oi := ({ dst := some 30, op := Op.nilCheck (Operand.tmp 29), type := 0, pos := _, after := #[{ on := 3, ground := Ground.data }], guard := none })) (v := ?_) rfl (by kernel_rfl) (by kernel_rfl) (by kernel_rfl) (fun _ _ _ h => h) (Or.inl ⟨by rfl, ?_⟩) (by assumption) ?_
    rotate_left
    · (intro wq hSw; (try dsimp only at hSw); go_simp; try with_reducible rfl)
    try simp only [Act.put, List.setIfInBounds_toArray, List.set_cons_zero, List.set_cons_succ]
    refine wpAnyH_take (i := 5) (oi := ({ dst := some 31, op := Op.fieldAddr 43 (Operand.tmp 30) 0, type := 0, pos := _, after := #[{ on := 4, ground := Ground.data }], guard := none })) (v := ?_) rfl (by kernel_rfl) (by kernel_rfl) (by kernel_rfl) (fun _ _ _ h => h) (Or.inl ⟨by rfl, ?_⟩) (by assumption) ?_
    rotate_left
    · (intro wq hSw; (try dsimp only at hSw); go_simp; try with_reducible rfl)
    try simp only [Act.put, List.setIfInBounds_toArray, List.set_cons_zero, List.set_cons_succ]
    refine wpAnyH_take (i := 6) (oi := ({ dst := some 32, op := Op.load 28 (Operand.tmp 31), type := 28, pos := _, after := #[{ on := 5, ground := Ground.data }], guard := none })) (v := ?_) rfl (by kernel_rfl) (by kernel_rfl) (by kernel_rfl) (fun _ _ _ h => h) (Or.inl ⟨by rfl, ?_⟩) (by assumption) ?_
    rotate_left
    · (intro wq hSw; (try dsimp only at hSw); go_simp; try with_reducible rfl)
    try simp only [Act.put, List.setIfInBounds_toArray, List.set_cons_zero, List.set_cons_succ]
    refine wpAnyH_ready (rs := [7]) (by kernel_rfl) (by simp) ?_
    refine AllReadyH.cons (o := ({ dst := some 33, op := Op.call { callee := Callee.builtin Builtin.copy, args := #[Operand.tmp 28, Operand.tmp 32], argTypes := #[28, 28] }, type := 3, pos := _, after := #[{ on := 2, ground := Ground.data }, { on := 6, ground := Ground.data }], guard := none })) rfl (fun K hK => ?_) AllReadyH.nil
    refine step_copy_By rfl (.tmp 28) (.tmp 32) rfl _ _ _ _ _ _ rfl rfl w.heap.size X1.length (rb + 1) Z X2 b2 ?hn4 ?hdp4 ?hsrc4 ?hfit4 ?_
    case hn4 => (have h1 := hX.out; have h2 := hX2.out; omega)
    case hdp4 => intro h; have h1 := hX.out; have h2 := hX2.out; omega
    case hsrc4 => exact r2
    case hfit4 => (have h1 := hX.out; have h2 := hX2.out; have h3 := HZl.out; omega)
    refine hK.out _ _ ?_ (fun hHeld => ?_)
    · exact ⟨(cell_setRow_far _ _ _ _ (by simp; omega)).trans q0, (cell_setRow_far _ _ _ _ (by simp; omega)).trans q1, (cell_setRow_far _ _ _ _ (by simp; omega)).trans q2⟩
    clear hK K
    try simp only [Act.put, List.setIfInBounds_toArray, List.set_cons_zero, List.set_cons_succ]
    refine wpAnyH_done (by kernel_rfl) ?_ _
    go_wp2
    go_ret
    refine ⟨rfl, 2, ?_⟩
    show ((w.alloc (.cells (By Z) 5)).drewN 2).setRow w.heap.size (By (splice Z X1.length X2)) = _
    rw [drew_setRow, HZ.out, splice2_ _ _ _ (by have h1 := hX.out; have h2 := hX2.out; rw [zeros_length]; omega), HA.out]
  · have hnl : X1.length ≤ B.length := hXle
    refine wp_region_held_drew (S := (fun w' => w'.cell? ⟨g, 0, none⟩ = some (.slice (some ⟨rb, 0, none⟩) cap cap) ∧ w'.cell? ⟨g, 1, none⟩ = some (.int .i64 at_) ∧ w'.cell? ⟨g, 2, none⟩ = some (.int .i64 B.length))) (by kernel_rfl) ?_ (fun hHeld => ?_)
    · exact ⟨q0, q1, q2⟩
    refine wpAnyH_take (i := 0) (oi := ({ dst := some 26, op := Op.move (Operand.tmp 3), type := 28, pos := _, after := #[], guard := none })) (v := ?_) rfl (by kernel_rfl) (by kernel_rfl) (by kernel_rfl) (fun _ _ _ h => h) (Or.inl ⟨by rfl, ?_⟩) (by assumption) ?_
    rotate_left
    · (intro wq hSw; (try dsimp only at hSw); go_simp; try with_reducible rfl)
    try simp only [Act.put, List.setIfInBounds_toArray, List.set_cons_zero, List.set_cons_succ]
    refine wpAnyH_take (i := 1) (oi := ({ dst := some 27, op := Op.move (Operand.tmp 4), type := 3, pos := _, after := #[], guard := none })) (v := ?_) rfl (by kernel_rfl) (by kernel_rfl) (by kernel_rfl) (fun _ _ _ h => h) (Or.inl ⟨by rfl, ?_⟩) (by assumption) ?_
    rotate_left
    · (intro wq hSw; (try dsimp only at hSw); go_simp; try with_reducible rfl)
    try simp only [Act.put, List.setIfInBounds_toArray, List.set_cons_zero, List.set_cons_succ]
    refine wpAnyH_take (i := 2) (oi := ({ dst := some 28, op := Op.slice 28 (Operand.tmp 26) (some (Operand.tmp 27)) none none, type := 28, pos := _, after := #[{ on := 0, ground := Ground.data }, { on := 1, ground := Ground.data }], guard := none })) (v := ?_) rfl (by kernel_rfl) (by kernel_rfl) (by kernel_rfl) (fun _ _ _ h => h) (Or.inl ⟨by rfl, ?_⟩) (by assumption) ?_
    rotate_left
    · (intro wq hSw; (try dsimp only at hSw); go_simp; try with_reducible rfl)
    try simp only [Act.put, List.setIfInBounds_toArray, List.set_cons_zero, List.set_cons_succ]
    refine wpAnyH_take (i := 3) (oi := ({ dst := some 29, op := Op.move (Operand.tmp 0), type := 24, pos := _, after := #[], guard := none })) (v := ?_) rfl (by kernel_rfl) (by kernel_rfl) (by kernel_rfl) (fun _ _ _ h => h) (Or.inl ⟨by rfl, ?_⟩) (by assumption) ?_
    rotate_left
    · (intro wq hSw; (try dsimp only at hSw); go_simp; try with_reducible rfl)
    try simp only [Act.put, List.setIfInBounds_toArray, List.set_cons_zero, List.set_cons_succ]
    refine wpAnyH_take (i := 4) (oi := ({ dst := some 30, op := Op.nilCheck (Operand.tmp 29), type := 0, pos := _, after := #[{ on := 3, ground := Ground.data }], guard := none })) (v := ?_) rfl (by kernel_rfl) (by kernel_rfl) (by kernel_rfl) (fun _ _ _ h => h) (Or.inl ⟨by rfl, ?_⟩) (by assumption) ?_
    rotate_left
    · (intro wq hSw; (try dsimp only at hSw); go_simp; try with_reducible rfl)
    try simp only [Act.put, List.setIfInBounds_toArray, List.set_cons_zero, List.set_cons_succ]
    refine wpAnyH_take (i := 5) (oi := ({ dst := some 31, op := Op.fieldAddr 43 (Operand.tmp 30) 0, type := 0, pos := _, after := #[{ on := 4, ground := Ground.data }], guard := none })) (v := ?_) rfl (by kernel_rfl) (by kernel_rfl) (by kernel_rfl) (fun _ _ _ h => h) (Or.inl ⟨by rfl, ?_⟩) (by assumption) ?_
    rotate_left
    · (intro wq hSw; (try dsimp only at hSw); go_simp; try with_reducible rfl)
    try simp only [Act.put, List.setIfInBounds_toArray, List.set_cons_zero, List.set_cons_succ]
    refine wpAnyH_take (i := 6) (oi := ({ dst := some 32, op := Op.load 28 (Operand.tmp 31), type := 28, pos := _, after := #[{ on := 5, ground := Ground.data }], guard := none })) (v := ?_) rfl (by kernel_rfl) (by kernel_rfl) (by kernel_rfl) (fun _ _ _ h => h) (Or.inl ⟨by rfl, ?_⟩) (by assumption) ?_
    rotate_left
    · (intro wq hSw; (try dsimp only at hSw); go_simp; try with_reducible rfl)
    try simp only [Act.put, List.setIfInBounds_toArray, List.set_cons_zero, List.set_cons_succ]
    refine wpAnyH_ready (rs := [7]) (by kernel_rfl) (by simp) ?_
    refine AllReadyH.cons (o := ({ dst := some 33, op := Op.call { callee := Callee.builtin Builtin.copy, args := #[Operand.tmp 28, Operand.tmp 32], argTypes := #[28, 28] }, type := 3, pos := _, after := #[{ on := 2, ground := Ground.data }, { on := 6, ground := Ground.data }], guard := none })) rfl (fun K hK => ?_) AllReadyH.nil
    refine step_copy_By rfl (.tmp 28) (.tmp 32) rfl _ _ _ _ _ _ rfl rfl w.heap.size X1.length (rb + 1) Z X2 b2 ?hn4 ?hdp4 ?hsrc4 ?hfit4 ?_
    case hn4 => (have h1 := hX.out; have h2 := hX2.out; omega)
    case hdp4 => exact fun _ => rfl
    case hsrc4 => exact r2
    case hfit4 => (have h1 := hX.out; have h2 := hX2.out; have h3 := HZl.out; omega)
    refine hK.out _ _ ?_ (fun hHeld => ?_)
    · exact ⟨(cell_setRow_far _ _ _ _ (by simp; omega)).trans q0, (cell_setRow_far _ _ _ _ (by simp; omega)).trans q1, (cell_setRow_far _ _ _ _ (by simp; omega)).trans q2⟩
    clear hK K
    try simp only [Act.put, List.setIfInBounds_toArray, List.set_cons_zero, List.set_cons_succ]
    refine wpAnyH_done (by kernel_rfl) ?_ _
    go_wp2
    go_ret
    refine ⟨rfl, 2, ?_⟩
    show ((w.alloc (.cells (By Z) 5)).drewN 2).setRow w.heap.size (By (splice Z X1.length X2)) = _
    rw [drew_setRow, HZ.out, splice2_ _ _ _ (by have h1 := hX.out; have h2 := hX2.out; rw [zeros_length]; omega), HA.out]
end Go.Proofs.Ytagopgoelgmibaa
