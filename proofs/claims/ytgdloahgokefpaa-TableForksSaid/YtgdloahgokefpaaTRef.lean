/- The document's table (the reference): what it is in memory; the walks of Is, Exit, Fd. -/
import Derived.Test.YtgdloahgokefpaaTFds
namespace Go.Proofs.Ytgdloahgokefpaa
open Go.RowKit
set_option linter.unusedSimpArgs false

/-- a process of the document's table -/
structure RpV where
  th : Bool
  o : Int
  n : Int
  b : Nat → ByteArray
  f : Nat → FdV
def RpV.zero : RpV := ⟨false, 0, 0, fun _ => ByteArray.empty, fun _ => FdV.zero⟩
def RpV.cell (x : RpV) (j : Nat) : Value := if j = 0 then .bool x.th else if j = 1 then .int .i64 x.o else if j = 2 then .int .i64 x.n else if j < 7 then .string (x.b (j - 3)) else (x.f ((j - 7) / 4)).cell ((j - 7) % 4)
def RpV.cells (x : RpV) : List Value := (List.range 39).map x.cell
def rcell (r : Nat → RpV) (j : Nat) : Value := (r (j / 39)).cell (j % 39)
/-- block g is the document's table r -/
def IsR (w : World) (g : Nat) (r : Nat → RpV) : Prop := Blk w g 59 (Tb 507 (rcell r))
def setP (r : Nat → RpV) (k : Nat) (x : RpV) : Nat → RpV := fun j => if j = k then x else r j
theorem RpV.cells_length (x : RpV) : x.cells.length = 39 := by simp [RpV.cells]
theorem RpV.cells_one (x : RpV) : ∀ v ∈ x.cells, v.oneCell' = true := by
  intro v hv
  obtain ⟨j, hj, rfl⟩ := List.mem_map.1 hv
  rw [RpV.cell]
  split
  · rfl
  · split
    · rfl
    · split
      · rfl
      · split
        · rfl
        · exact FdV.cell_one _ (by omega)
theorem IsR.cell {w : World} {g : Nat} {r : Nat → RpV} (h : IsR w g r) {k c : Nat} (hk : k < 13) (hc : c < 39) : w.cell? ⟨g, k * 39 + c, none⟩ = some ((r k).cell c) := by
  rw [Blk.cell h, Tb_at _ (by omega), rcell, show (k * 39 + c) / 39 = k from by omega, show (k * 39 + c) % 39 = c from by omega]
theorem IsR.frozen {w : World} {g : Nat} {r : Nat → RpV} (h : IsR w g r) (o : Nat) : w.frozen? ⟨g, o, none⟩ = false := Blk.frozen h o
theorem IsR.below {w w' : World} {g B : Nat} {r : Nat → RpV} (h : IsR w g r) (hb : Below B w w') (hg : g < B) : IsR w' g r := Blk.below h hb hg
theorem IsR.setC {w : World} {g : Nat} {r : Nat → RpV} (h : IsR w g r) {k c o : Nat} {vs : List Value} {x : RpV} (ho : o = k * 39 + c) (hc : c + vs.length ≤ 39) (hx : ∀ j, j < 39 → putAt (r k).cell c vs j = x.cell j) : IsR (w.setCells g o vs) g (setP r k x) := by
  subst ho
  have := Blk.setCells vs (rcell r) (k * 39 + c) w h
  rw [Tb_congr (fun j hj => ?_)] at this
  · exact this
  · show putAt (rcell r) (k * 39 + c) vs j = rcell (setP r k x) j
    unfold rcell setP
    by_cases e : j / 39 = k
    · rw [if_pos e, ← hx (j % 39) (by omega)]
      unfold putAt
      by_cases h1 : k * 39 + c ≤ j ∧ j < k * 39 + c + vs.length
      · rw [if_pos h1, if_pos (by omega), show j - (k * 39 + c) = j % 39 - c from by omega]
      · rw [if_neg h1, if_neg (by omega)]
        show (r (j / 39)).cell (j % 39) = _
        rw [e]
    · rw [if_neg e]
      unfold putAt
      rw [if_neg (by omega)]
theorem IsR.there {w : World} {g : Nat} {r : Nat → RpV} (h : IsR w g r) {o m : Nat} (hm : o + m ≤ 507) : w.there g o m := Blk.there h hm
theorem putAt_full {C : Nat → Value} {x : RpV} : ∀ j, j < 39 → putAt C 0 x.cells j = x.cell j := by
  intro j hj
  unfold putAt
  rw [RpV.cells_length, if_pos (by omega)]
  simp [RpV.cells, hj]
theorem IsR.range_all {w : World} {g : Nat} {r : Nat → RpV} (h : IsR w g r) {k : Nat} (hk : k < 13) : w.rangeAt g (k * 39) (r k).cells := by
  intro j v hv
  unfold RpV.cells at hv
  rw [List.getElem?_map] at hv
  have hj : j < 39 := by
    rcases Nat.lt_or_ge j 39 with h | h
    · exact h
    · rw [List.getElem?_eq_none (by simpa using h)] at hv
      cases hv
  rw [List.getElem?_range hj] at hv
  simp only [Option.map_some, Option.some.injEq] at hv
  rw [h.cell hk hj, hv]
theorem info_refp : (Try.prog.info? 56).map (·.zero) = some (some (.agg RpV.zero.cells.toArray)) := by kernel_rfl
theorem run_zero_refp (W : World) : (zeroValue 56).run Try.prog W = .ok (.agg RpV.zero.cells.toArray) W := by
  have h := info_refp
  cases hq : Try.prog.info? 56 with
  | none => simp [hq] at h
  | some i =>
    have hz : i.zero = some (.agg RpV.zero.cells.toArray) := by simpa [hq] using h
    simp [zeroValue, typeInfo, hq, hz, Sem.run_bind]
/-- a descriptor's cells -/
theorem RpV.cell_fd (x : RpV) {i c : Nat} (hc : c < 4) : x.cell (7 + i * 4 + c) = (x.f i).cell c := by
  rw [RpV.cell, if_neg (by omega), if_neg (by omega), if_neg (by omega), if_neg (by omega), show (7 + i * 4 + c - 7) / 4 = i from by omega, show (7 + i * 4 + c - 7) % 4 = c from by omega]
theorem IsR.fdFacts {w : World} {g : Nat} {r : Nat → RpV} (h : IsR w g r) {k i : Nat} (hk : k < 13) (hi : i < 8) :
    w.cell? ⟨g, k * 39 + 7 + i * 4, none⟩ = some (.int .i64 ((r k).f i).k) ∧ w.cell? ⟨g, k * 39 + 7 + i * 4 + 1, none⟩ = some (.int .i64 ((r k).f i).t) ∧ w.cell? ⟨g, k * 39 + 7 + i * 4 + 2, none⟩ = some (.int .i64 ((r k).f i).a) ∧ w.cell? ⟨g, k * 39 + 7 + i * 4 + 3, none⟩ = some (.bool ((r k).f i).w) ∧
    w.frozen? ⟨g, k * 39 + 7 + i * 4, none⟩ = false ∧ w.frozen? ⟨g, k * 39 + 7 + i * 4 + 1, none⟩ = false ∧ w.frozen? ⟨g, k * 39 + 7 + i * 4 + 2, none⟩ = false ∧ w.frozen? ⟨g, k * 39 + 7 + i * 4 + 3, none⟩ = false := by
  have d := fun c (hc : c < 4) => (h.cell (k := k) (c := 7 + i * 4 + c) hk (by omega)).trans (congrArg some ((r k).cell_fd hc))
  have e : ∀ c, k * 39 + (7 + i * 4 + c) = k * 39 + 7 + i * 4 + c := fun c => by omega
  have d0 := d 0 (by omega)
  have d1 := d 1 (by omega)
  have d2 := d 2 (by omega)
  have d3 := d 3 (by omega)
  rw [e] at d0 d1 d2 d3
  rw [Nat.add_zero] at d0
  exact ⟨d0, d1, d2, d3, h.frozen _, h.frozen _, h.frozen _, h.frozen _⟩
def RpV.setFd (x : RpV) (i : Nat) (f : FdV) : RpV := { x with f := fun j => if j = i then f else x.f j }
def RpV.setBuf (x : RpV) (i : Nat) (b : ByteArray) : RpV := { x with b := fun j => if j = i then b else x.b j }
def rsetFd (r : Nat → RpV) (k i : Nat) (f : FdV) : Nat → RpV := setP r k ((r k).setFd i f)
theorem IsR.setFd {w : World} {g : Nat} {r : Nat → RpV} (h : IsR w g r) {k i : Nat} (f : FdV) (hi : i < 8) : IsR (w.setCells g (k * 39 + 7 + i * 4) f.cells) g (rsetFd r k i f) := by
  refine h.setC (c := 7 + i * 4) (by omega) (by rw [FdV.cells_length]; omega) fun j hj => ?_
  unfold putAt
  rw [FdV.cells_length]
  by_cases h1 : 7 + i * 4 ≤ j ∧ j < 7 + i * 4 + 4
  · obtain ⟨c, rfl⟩ : ∃ c, j = 7 + i * 4 + c := ⟨j - (7 + i * 4), by omega⟩
    have hc : c < 4 := by omega
    rw [if_pos h1, RpV.cell_fd _ hc, show 7 + i * 4 + c - (7 + i * 4) = c from by omega]
    simp only [RpV.setFd, if_true]
    rfl
  · rw [if_neg h1, RpV.cell, RpV.cell]
    simp only [RpV.setFd]
    by_cases h7 : j < 7
    · simp only [h7, if_true]
    · have h5 : ¬ (j - 7) / 4 = i := by omega
      simp only [h5, if_false]
/-- is there a process of that number? -/
def ris (r : Nat → RpV) (p : Int) : Bool := decide (1 ≤ p) && (decide (p ≤ 12) && (r p.toNat).th)
theorem ris_nat {r : Nat → RpV} {p : Int} (h : ris r p = true) : ∃ k : Nat, p = k ∧ 1 ≤ k ∧ k < 13 ∧ (r k).th = true := by
  unfold ris at h
  simp at h
  exact ⟨p.toNat, by omega, by omega, by omega, h.2.2⟩

set_option maxHeartbeats 400000 in
theorem is_any (w : World) (g : Nat) (r : Nat → RpV) (p : Int) (h : IsR w g r) :
    Calls Try.prog 25 #[.pointer (some ⟨g, 0, none⟩), .int .i64 p] w fun e w' => e = .returned (.bool (ris r p)) ∧ w = w' := by
  by_cases h1 : 1 ≤ p
  · by_cases h2 : p ≤ 12
    · obtain ⟨k, rfl⟩ := Int.eq_ofNat_of_zero_le (show 0 ≤ p by omega)
      have hc := h.cell (k := k) (c := 0) (by omega) (by omega)
      rw [Nat.add_zero, show (r k).cell 0 = .bool (r k).th from rfl] at hc
      have hh : ris r (k : Int) = (r k).th := by unfold ris; simp [h1, h2]
      rw [hh]
      clear h hh
      go_enter Try.func25, Try.ntmps25
      go_wp2
      go_ret
      exact ⟨rfl, rfl⟩
    · have hh : ris r p = false := by unfold ris; simp [h2]
      rw [hh]
      clear h hh
      go_enter Try.func25, Try.ntmps25
      go_wp2
      go_ret
      exact ⟨rfl, rfl⟩
  · have hh : ris r p = false := by unfold ris; simp [h1]
    rw [hh]
    clear h hh
    go_enter Try.func25, Try.ntmps25
    go_wp2
    go_ret
    exact ⟨rfl, rfl⟩

def rexit (r : Nat → RpV) (p : Int) : Nat → RpV := if ris r p then setP r p.toNat RpV.zero else r
set_option maxHeartbeats 1000000 in
theorem rexit_any (w : World) (g : Nat) (r : Nat → RpV) (p : Int) (h : IsR w g r) :
    Calls Try.prog 26 #[.pointer (some ⟨g, 0, none⟩), .int .i64 p] w fun e w' => e = .returned (.bool (ris r p)) ∧ IsR w' g (rexit r p) ∧ Only [g] w w' := by
  have HH := hide (is_any w g r p h)
  have H := hide h
  clear h
  go_enter Try.func26, Try.ntmps26
  go_wp2_with fail
  refine (unhid_ HH).mono ?_
  rintro e w' ⟨rfl, rfl⟩
  cases hh : ris r p with
  | false =>
    go_wp2
    go_ret
    refine ⟨by rw [hh]; rfl, ?_, Only.refl _ _⟩
    rw [rexit, hh]
    exact unhid_ H
  | true =>
    obtain ⟨k, rfl, _, hk, _⟩ := ris_nat hh
    have hh' := Lib.hid hh
    have hz56 := run_zero_refp
    have hth : w.there g (k * 39) RpV.zero.cells.toArray.size := (unhid_ H).there (by simp [RpV.cells]; omega)
    have hkI : (k : Int) < 13 := by omega
    clear hh
    go_wp2_with (first | (refine wpList_store_mid rfl 56 (.tmp 14) (.tmp 11) rfl g (k * 39) RpV.zero.cells.toArray rfl rfl hth (by kernel_rfl) (all_oneCell_toArray RpV.zero.cells_one) ?_))
    go_ret
    refine ⟨by rw [hh'.out]; rfl, ?_, Only.setCells RpV.zero.cells g (k * 39) w (Only.refl [g] w) (.inl (by simp))⟩
    rw [rexit, hh'.out, if_pos rfl, Int.toNat_natCast]
    exact (unhid_ H).setC (c := 0) (vs := RpV.zero.cells) (by omega) (by rw [RpV.cells_length]; omega) putAt_full

/-- what Fd answers -/
def rfdOk (r : Nat → RpV) (p fd : Int) : Bool := decide (0 ≤ fd) && (decide (fd < 8) && !decide (((r p.toNat).f fd.toNat).k = 0))
def rfdErr (r : Nat → RpV) (p fd : Int) : Int := if ris r p = false then 12 else if rfdOk r p fd = false then 13 else 0
def rfdV (r : Nat → RpV) (p fd : Int) : FdV := if rfdErr r p fd = 0 then (r p.toNat).f fd.toNat else FdV.zero
def RFd (r : Nat → RpV) (p fd : Int) (w : World) (e : Ending) (w' : World) : Prop :=
  e = .returned (.tuple #[.agg #[.int .i64 (rfdV r p fd).k, .int .i64 (rfdV r p fd).t, .int .i64 (rfdV r p fd).a, .bool (rfdV r p fd).w], .int .i64 (rfdErr r p fd)]) ∧ Below w.heap.size w w'

theorem blk_range {w : World} {b : Nat} {t : TypeId} {cells : List Value} (h : Blk w b t cells.toArray) : w.rangeAt b 0 cells := by
  intro j v hv
  rw [Nat.zero_add, h.cell, List.getElem?_toArray]
  exact hv
theorem load_fd {w : World} {b : Nat} {Z : Array Value} (h : Blk w b 53 Z) (hZ : Z.size = 4) (f : FdV) :
    (loadVar 53 ⟨b, 0, none⟩).run Try.prog (w.setCells b 0 f.cells) = .ok (.agg #[.int .i64 f.k, .int .i64 f.t, .int .i64 f.a, .bool f.w]) (w.setCells b 0 f.cells) := by
  obtain ⟨C, hC⟩ := blk_tb (n := 4) h hZ
  have h1 := Blk.setCells f.cells C 0 w hC
  rw [show (4 : Nat) = f.cells.length from rfl, Tb_list] at h1
  exact run_loadVar_mid (P := Try.prog) (w.setCells b 0 f.cells) b 0 53 f.cells _ (blk_range h1) Try.underlying53 rfl (by kernel_rfl)
theorem fd_below {w wb : World} {b : Nat} (f : FdV) (h : Below w.heap.size w wb) (hb : w.heap.size ≤ b) : Below w.heap.size w (wb.setCells b 0 f.cells) :=
  h.trans (Only.below (Only.setCells f.cells b 0 wb (Only.refl [b] wb) (.inl (by simp))) (fun x hx => by simp at hx; omega) h.size)
set_option maxHeartbeats 1000000 in
theorem rfd_any (w : World) (g : Nat) (r : Nat → RpV) (p fd : Int) (h : IsR w g r) :
    Calls Try.prog 38 #[.pointer (some ⟨g, 0, none⟩), .int .i64 p, .int .i64 fd] w (RFd r p fd w) := by
  have hb : Below w.heap.size w (w.alloc (.cells #[.int .i64 0, .int .i64 0, .int .i64 0, .bool false] 53)) := (Below.refl _ _).alloc (Nat.le_refl _) _
  have hblk := Blk.new w 53 #[.int .i64 0, .int .i64 0, .int .i64 0, .bool false]
  have hlt := h.lt
  obtain ⟨wb, hwb⟩ : ∃ wb, wb = w.alloc (.cells #[.int .i64 0, .int .i64 0, .int .i64 0, .bool false] 53) := ⟨_, rfl⟩
  rw [← hwb] at hb hblk
  have hT := h.below hb hlt
  have HH := hide (is_any wb g r p hT)
  have H := hide hT
  have HWB := Lib.hid hwb
  have HBL := hide hblk
  have HB := hide hb
  clear hb hblk hwb h hT
  have HR : Hid (∀ (f : FdV) (er : Int), rfdErr r p fd = er → rfdV r p fd = f → RFd r p fd w (.returned (.tuple #[.agg #[.int .i64 f.k, .int .i64 f.t, .int .i64 f.a, .bool f.w], .int .i64 er])) (wb.setCells w.heap.size 0 f.cells)) := by
    rintro f er h1 h2
    exact ⟨by rw [h1, h2], fd_below f (unhid_ HB) (Nat.le_refl _)⟩
  go_enter Try.func38, Try.ntmps38
  go_upto_region 1 with (fail)
  rw [← HWB.out]
  go_wp2_with fail
  refine (unhid_ HH).mono ?_
  rintro e w' ⟨rfl, rfl⟩
  have d0 : wb.cell? ⟨w.heap.size, 0, none⟩ = some (.int .i64 0) := (unhid_ HBL).cell 0
  have d1 : wb.cell? ⟨w.heap.size, 1, none⟩ = some (.int .i64 0) := (unhid_ HBL).cell 1
  have d2 : wb.cell? ⟨w.heap.size, 2, none⟩ = some (.int .i64 0) := (unhid_ HBL).cell 2
  have d3 : wb.cell? ⟨w.heap.size, 3, none⟩ = some (.bool false) := (unhid_ HBL).cell 3
  have f0 : wb.frozen? ⟨w.heap.size, 0, none⟩ = false := (unhid_ HBL).frozen 0
  have f1 : wb.frozen? ⟨w.heap.size, 1, none⟩ = false := (unhid_ HBL).frozen 1
  have f2 : wb.frozen? ⟨w.heap.size, 2, none⟩ = false := (unhid_ HBL).frozen 2
  have f3 : wb.frozen? ⟨w.heap.size, 3, none⟩ = false := (unhid_ HBL).frozen 3
  cases hh : ris r p with
  | false =>
    go_wp2
    have e12 : rfdErr r p fd = 12 := by simp [rfdErr, hh]
    exact bodyPost_ret (results_cell_tmp Try.results38 rfl rfl (load_fd (unhid_ HBL) rfl FdV.zero)) rfl (unhid_ HR FdV.zero 12 e12 (by simp [rfdV, e12]))
  | true =>
    by_cases h1 : 0 ≤ fd ∧ fd < 8
    · obtain ⟨h1, h2⟩ := h1
      obtain ⟨i, rfl⟩ := Int.eq_ofNat_of_zero_le h1
      obtain ⟨k, rfl, _, hk, _⟩ := ris_nat hh
      have hi8 : i < 8 := by omega
      obtain ⟨c0, c1, c2, c3, _, _, _, _⟩ := (unhid_ H).fdFacts hk hi8
      have hok : rfdOk r (k : Int) (i : Int) = !decide (((r k).f i).k = 0) := by unfold rfdOk; simp [h2]
      have hv : ∀ er, er = rfdErr r (k : Int) (i : Int) → er = 0 → rfdV r (k : Int) (i : Int) = (r k).f i := fun er h1 h2 => by rw [rfdV, if_pos (by omega), Int.toNat_natCast, Int.toNat_natCast]
      obtain ⟨f, hf⟩ : ∃ f, f = (r k).f i := ⟨_, rfl⟩
      rw [← hf] at c0 c1 c2 c3 hok hv
      obtain ⟨z, hz⟩ : ∃ b, (f.k == 0) = b := ⟨_, rfl⟩
      have hok2 : rfdOk r (k : Int) (i : Int) = !z := by rw [hok, ← hz]; rfl
      have HOK := Lib.hid hok2
      have HV := hide hv
      have HHH := Lib.hid hh
      clear hok hok2 hv hf hh
      cases z with
      | true =>
        go_wp2
        have e13 : rfdErr r (k : Int) (i : Int) = 13 := by simp [rfdErr, HHH.out, HOK.out]
        exact bodyPost_ret (results_cell_tmp Try.results38 rfl rfl (load_fd (unhid_ HBL) rfl FdV.zero)) rfl (unhid_ HR FdV.zero 13 e13 (by simp [rfdV, e13]))
      | false =>
        go_wp2
        have e0 : rfdErr r (k : Int) (i : Int) = 0 := by simp [rfdErr, HHH.out, HOK.out]
        exact bodyPost_ret (results_cell_tmp Try.results38 rfl rfl (load_fd (unhid_ HBL) rfl f)) rfl (unhid_ HR f 0 e0 (unhid_ HV _ e0.symm rfl))
    · have hok : rfdOk r p fd = false := by
        unfold rfdOk
        simp
        intro h2 h3
        omega
      have e13 : rfdErr r p fd = 13 := by simp [rfdErr, hh, hok]
      have h1' : fd < 0 ∨ (0 ≤ fd ∧ 8 ≤ fd) := by omega
      have E13 := Lib.hid e13
      clear h1 hok e13 hh
      rcases h1' with h1 | ⟨h0, h1⟩
      all_goals
        go_wp2
        exact bodyPost_ret (results_cell_tmp Try.results38 rfl rfl (load_fd (unhid_ HBL) rfl FdV.zero)) rfl (unhid_ HR FdV.zero 13 E13.out (by simp [rfdV, E13.out]))
end Go.Proofs.Ytgdloahgokefpaa
