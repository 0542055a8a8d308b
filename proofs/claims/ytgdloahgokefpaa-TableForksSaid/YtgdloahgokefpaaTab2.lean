/- The walk of Table.Uses. -/
import Derived.Test.YtgdloahgokefpaaTab
import Derived.Deep.DeepCutAuto
namespace Go.Proofs.Ytgdloahgokefpaa
open Go.RowKit
set_option linter.unusedSimpArgs false

/-- does the descriptor count? -/
def FdV.counts (f : FdV) (kind thing : Int) : Bool := !decide (f = FdV.zero) && decide (f.k = kind) && decide (f.t = thing)
def FdV.asWrite (f : FdV) (kind : Int) : Bool := decide (kind = 3) && f.w
def cntR (f : Nat → FdV) (kind thing : Int) (n : Nat) : Nat := ((List.range n).filter fun i => (f i).counts kind thing && !(f i).asWrite kind).length
def cntW (f : Nat → FdV) (kind thing : Int) (n : Nat) : Nat := ((List.range n).filter fun i => (f i).counts kind thing && (f i).asWrite kind).length
def TbV.reads (t : TbV) (kind thing : Int) (n : Nat) : Nat := ((List.range n).map fun p => cntR (t.p p).f kind thing 8).sum
def TbV.writes (t : TbV) (kind thing : Int) (n : Nat) : Nat := ((List.range n).map fun p => cntW (t.p p).f kind thing 8).sum

def procsCells (t : TbV) : List Value := (List.range 494).map t.cell
theorem IsT.procs {w : World} {base g : Nat} {t : TbV} (h : IsT w base g t) : w.rangeAt g 0 (procsCells t) := by
  intro j v hv
  unfold procsCells at hv
  rw [List.getElem?_map] at hv
  have hj : j < 494 := by
    rcases Nat.lt_or_ge j 494 with h | h
    · exact h
    · rw [List.getElem?_eq_none (by simpa using h)] at hv
      cases hv
  rw [List.getElem?_range hj] at hv
  simp only [Option.map_some, Option.some.injEq] at hv
  rw [Nat.zero_add, h.1.cell, Tb_at _ (by omega), hv]

theorem cells_length (t : TbV) : (procsCells t).length = 494 := by simp [procsCells]
theorem PrV.cells_length (x : PrV) : x.cells.length = 38 := by simp [PrV.cells]
def PrV.fds (x : PrV) : List Value := (List.range 32).map fun j => x.cell (6 + j)
theorem PrV.fds_length (x : PrV) : x.fds.length = 32 := by simp [PrV.fds]
theorem extract_range (C D : Nat → Value) (n o m : Nat) (hm : o + m ≤ n) (h : ∀ j, j < m → C (o + j) = D j) : ((List.range n).map C).toArray.extract o (o + m) = ((List.range m).map D).toArray := by
  apply Array.ext
  · simp; omega
  · intro j h1 h2
    have hj : j < m := by simpa using h2
    simp [h j hj]
theorem procs_extract (t : TbV) {k : Nat} (hk : k < 13) : (procsCells t).toArray.extract (k * 38) (k * 38 + 38) = (t.p k).cells.toArray := by
  refine extract_range t.cell (t.p k).cell 494 (k * 38) 38 (by omega) fun j hj => ?_
  rw [TbV.cell, if_pos (by omega), show (k * 38 + j) / 38 = k from by omega, show (k * 38 + j) % 38 = j from by omega]
theorem fds_extract (x : PrV) {i : Nat} (hi : i < 8) : x.fds.toArray.extract (i * 4) (i * 4 + 4) = (x.f i).cells.toArray := by
  have : x.fds.toArray.extract (i * 4) (i * 4 + 4) = ((List.range 4).map (x.f i).cell).toArray := by
    refine extract_range (fun j => x.cell (6 + j)) (x.f i).cell 32 (i * 4) 4 (by omega) fun j hj => ?_
    rw [PrV.cell, if_neg (by omega), if_neg (by omega), if_neg (by omega), show (6 + (i * 4 + j) - 6) / 4 = i from by omega, show (6 + (i * 4 + j) - 6) % 4 = j from by omega]
  rw [this]
  rfl
theorem run_index_row {P : Program} (w : World) (t e : TypeId) (n m k : Nat) (cs : Array Value) (d : TypeDesc) (h : P.underlying t = some (.array n e)) (he : P.underlying e = some d) (hd : d.isRow = true) (hi : (P.info? e).map (·.size) = some m) (hk : k < n) :
    (Instr.index t (.agg cs) (.int .i64 k)).run P w = .ok (.agg (cs.extract (k * m) (k * m + m))) w := by
  cases hq : P.info? e with
  | none => simp [hq] at hi
  | some i =>
    have hs : i.size = m := by simpa [hq] using hi
    have hagg : (isAgg e).run P w = .ok true w := by
      unfold isAgg
      rw [Sem.run_bind, run_underlying he w]
      cases d <;> simp_all
    have hk' : (k : Int) < n := by omega
    simp [Instr.index, run_underlying h, asIntOf, Sem.run_bind, part, hagg, sizeOf, typeInfo, hq, hs, hk, hk']
theorem run_index_procs (t : TbV) {k : Nat} (hk : k < 13) (w : World) : (Instr.index 66 (.agg (procsCells t).toArray) (.int .i64 k)).run Try.prog w = .ok (.agg (t.p k).cells.toArray) w := by
  rw [← procs_extract t hk]
  exact run_index_row w 66 43 13 38 k _ _ Try.underlying66 Try.underlying43 rfl (by kernel_rfl) hk
theorem run_index_fds (x : PrV) {i : Nat} (hi : i < 8) (w : World) : (Instr.index 41 (.agg x.fds.toArray) (.int .i64 i)).run Try.prog w = .ok (.agg #[.int .i64 (x.f i).k, .int .i64 (x.f i).t, .int .i64 (x.f i).a, .bool (x.f i).w]) w := by
  have := run_index_row (P := Try.prog) w 41 30 8 4 i x.fds.toArray _ Try.underlying41 Try.underlying30 rfl (by kernel_rfl) hi
  rw [fds_extract x hi] at this
  exact this
theorem Tb_of (Z : Array Value) : Z = Tb Z.size (fun j => Z.getD j undef) := by
  apply Array.ext
  · simp
  · intro i h1 h2
    simp [Tb, h1]
theorem Tb_list (vs : List Value) (C : Nat → Value) : Tb vs.length (putAt C 0 vs) = vs.toArray := by
  apply Array.ext
  · simp
  · intro i h1 h2
    have hi : i < vs.length := by simpa using h1
    have e1 : (Tb vs.length (putAt C 0 vs))[i]'h1 = putAt C 0 vs i := by simp [Tb]
    rw [e1, putAt, if_pos (by omega)]
    simp [List.getD_eq_getElem?_getD, hi]
theorem setCells_alloc_new (n : Nat) (t : TypeId) (w : World) : ∀ (vs : List Value) (C : Nat → Value) (o : Nat), (w.alloc (.cells (Tb n C) t)).setCells w.heap.size o vs = w.alloc (.cells (Tb n (putAt C o vs)) t)
  | [], C, o => by rw [putAt_nil]; rfl
  | v :: vs, C, o => by
    rw [putAt_cons]
    show ((w.alloc (.cells (Tb n C) t)).setCell ⟨w.heap.size, o, none⟩ v).setCells w.heap.size (o + 1) vs = _
    rw [World.setCell_alloc_new, Tb_set]
    exact setCells_alloc_new n t w vs _ (o + 1)
/-- a whole variable is filled that was made just now -/
theorem run_store_new (w : World) (vs : List Value) (Z : Array Value) (t : TypeId) (hZ : Z.size = vs.length) (h1 : ∀ v ∈ vs, v.oneCell' = true) :
    (storeCells ⟨w.heap.size, 0, none⟩ vs).run Try.prog (w.alloc (.cells Z t)) = .ok () (w.alloc (.cells vs.toArray t)) := by
  have hb : Blk (w.alloc (.cells Z t)) w.heap.size t (Tb Z.size (fun j => Z.getD j undef)) := by rw [← Tb_of Z]; exact Blk.new w t Z
  have ht : (w.alloc (.cells Z t)).there w.heap.size 0 vs.length := hb.there (by omega)
  have := run_storeCells_cells (P := Try.prog) w.heap.size 0 vs 0 (w.alloc (.cells Z t)) (fun j hj => by simpa using (ht j hj).1) (fun j hj => by rw [Nat.add_zero]; exact (ht j hj).2) h1
  rw [this, Tb_of Z, hZ, setCells_alloc_new, Tb_list]
theorem FdV.cell_one (f : FdV) {j : Nat} (hj : j < 4) : (f.cell j).oneCell' = true := by
  match j, hj with
  | 0, _ => rfl
  | 1, _ => rfl
  | 2, _ => rfl
  | 3, _ => rfl
theorem PrV.cells_one (x : PrV) : ∀ v ∈ x.cells, v.oneCell' = true := by
  intro v hv
  obtain ⟨j, hj, rfl⟩ := List.mem_map.1 hv
  rw [PrV.cell]
  split
  · rfl
  · split
    · rfl
    · split
      · rfl
      · exact FdV.cell_one _ (by omega)
theorem PrV.range_fds {w : World} {b : Nat} {t : TypeId} {x : PrV} (h : Blk w b t x.cells.toArray) : w.rangeAt b 6 x.fds := by
  intro j v hv
  unfold PrV.fds at hv
  rw [List.getElem?_map] at hv
  have hj : j < 32 := by
    rcases Nat.lt_or_ge j 32 with h | h
    · exact h
    · rw [List.getElem?_eq_none (by simpa using h)] at hv
      cases hv
  rw [List.getElem?_range hj] at hv
  simp only [Option.map_some, Option.some.injEq] at hv
  rw [h.cell, List.getElem?_toArray, PrV.cells, List.getElem?_map, List.getElem?_range (by omega), ← hv]
  rfl
theorem reads_succ (t : TbV) (kind thing : Int) (k : Nat) : t.reads kind thing (k + 1) = t.reads kind thing k + cntR (t.p k).f kind thing 8 := by
  simp [TbV.reads, List.range_succ]
theorem writes_succ (t : TbV) (kind thing : Int) (k : Nat) : t.writes kind thing (k + 1) = t.writes kind thing k + cntW (t.p k).f kind thing 8 := by
  simp [TbV.writes, List.range_succ]
theorem cntR_succ (f : Nat → FdV) (kind thing : Int) (k : Nat) : cntR f kind thing (k + 1) = cntR f kind thing k + (if (f k).counts kind thing = true ∧ (f k).asWrite kind = false then 1 else 0) := by
  simp only [cntR, List.range_succ, List.filter_append, List.length_append]
  congr 1
  by_cases h1 : (f k).counts kind thing = true <;> by_cases h2 : (f k).asWrite kind = true <;> simp [h1, h2]
theorem cntW_succ (f : Nat → FdV) (kind thing : Int) (k : Nat) : cntW f kind thing (k + 1) = cntW f kind thing k + (if (f k).counts kind thing = true ∧ (f k).asWrite kind = true then 1 else 0) := by
  simp only [cntW, List.range_succ, List.filter_append, List.length_append]
  congr 1
  by_cases h1 : (f k).counts kind thing = true <;> by_cases h2 : (f k).asWrite kind = true <;> simp [h1, h2]
theorem cntR_le (f : Nat → FdV) (kind thing : Int) (k : Nat) : cntR f kind thing k ≤ k := by
  have := List.length_filter_le (fun i => (f i).counts kind thing && !(f i).asWrite kind) (List.range k)
  rwa [List.length_range] at this
theorem cntW_le (f : Nat → FdV) (kind thing : Int) (k : Nat) : cntW f kind thing k ≤ k := by
  have := List.length_filter_le (fun i => (f i).counts kind thing && (f i).asWrite kind) (List.range k)
  rwa [List.length_range] at this
theorem reads_le (t : TbV) (kind thing : Int) : ∀ k, t.reads kind thing k ≤ 8 * k
  | 0 => by simp [TbV.reads]
  | k + 1 => by
    have := reads_le t kind thing k
    have := cntR_le (t.p k).f kind thing 8
    rw [reads_succ]; omega
theorem writes_le (t : TbV) (kind thing : Int) : ∀ k, t.writes kind thing k ≤ 8 * k
  | 0 => by simp [TbV.writes]
  | k + 1 => by
    have := writes_le t kind thing k
    have := cntW_le (t.p k).f kind thing 8
    rw [writes_succ]; omega

theorem counts_bool (f : FdV) (kind thing : Int) : (!f.counts kind thing) = (((f.k == 0) && ((f.t == 0) && ((f.a == 0) && !f.w))) || ((f.k != kind) || (f.t != thing))) := by
  obtain ⟨a0, a1, a2, a3⟩ := f
  rw [Bool.eq_iff_iff]
  simp only [FdV.counts, FdV.zero, FdV.mk.injEq, Bool.not_eq_true', Bool.or_eq_true, Bool.and_eq_true, beq_iff_eq, bne_iff_ne, Bool.and_eq_false_iff, decide_eq_false_iff_not, Bool.not_eq_false', decide_eq_true_eq]
  constructor
  · rintro ((⟨h1, h2, h3, h4⟩ | h) | h)
    · exact .inl ⟨h1, h2, h3, h4⟩
    · exact .inr (.inl h)
    · exact .inr (.inr h)
  · rintro (⟨h1, h2, h3, h4⟩ | h | h)
    · exact .inl (.inl ⟨h1, h2, h3, h4⟩)
    · exact .inl (.inr h)
    · exact .inr h

set_option maxHeartbeats 2000000 in
theorem uses_any (w : World) (base g : Nat) (t : TbV) (kind thing : Int) (h : IsT w base g t) :
    Calls Try.prog 13 #[.pointer (some ⟨g, 0, none⟩), .int .i64 kind, .int .i64 thing] w fun e w' => e = .returned (.tuple #[.int .i64 (t.reads kind thing 13), .int .i64 (t.writes kind thing 13)]) ∧ Below w.heap.size w w' := by
  have hr := h.procs
  have H := hide h
  clear h
  go_enter Try.func13, Try.ntmps13
  go_wp2_with (refine wpList_load_mid rfl 66 (.tmp 16) rfl g 0 rfl (procsCells t) _ hr Try.underlying66 rfl (by kernel_rfl) ?_)
  go_loopw [8, 9, 18] (fun s8 s9 s18 wq => ∃ k : Nat, k ≤ 13 ∧ s18 = .int .i64 k ∧ s8 = .int .i64 (t.reads kind thing k) ∧ s9 = .int .i64 (t.writes kind thing k) ∧ Below w.heap.size w wq) (fun _ _ s18 _ => 13 - (intOf s18).toNat)
  case atStart => exact ⟨0, Nat.zero_le _, rfl, rfl, rfl, Below.refl _ _⟩
  case round =>
    obtain ⟨k, hk, rfl, rfl, rfl, hb⟩ := hrel
    by_cases hlt : k < 13
    · have ix := run_index_procs t hlt
      obtain ⟨wo, rfl⟩ : ∃ wo : World, wo = wr := ⟨_, rfl⟩
      have hst : ∀ (Z : Array Value) (ty : TypeId), Z.size = 38 → (storeCells ⟨wo.heap.size, 0, none⟩ (t.p k).cells).run Try.prog (wo.alloc (.cells Z ty)) = .ok () (wo.alloc (.cells (t.p k).cells.toArray ty)) := fun Z ty hZ => run_store_new wo _ Z ty (by rw [hZ, PrV.cells_length]) (t.p k).cells_one
      go_upto_region 5 with (fail)
      obtain ⟨wb, hwb⟩ : ∃ wb, wb = wo.alloc (.cells (t.p k).cells.toArray 43) := ⟨_, rfl⟩
      rw [← hwb]
      have hrg := PrV.range_fds (w := wb) (b := wo.heap.size) (t := 43) (x := t.p k) (by rw [hwb]; exact Blk.new _ _ _)
      have hbb : Below w.heap.size w wb := by rw [hwb]; exact hb.alloc hb.size _
      clear hwb hst ix
      go_wp2_with (refine wpList_load_mid rfl 41 (.tmp 21) rfl wo.heap.size 6 rfl (t.p k).fds _ hrg Try.underlying41 rfl (by kernel_rfl) ?_)
      clear hrg
      go_loopw [8, 9, 23] (fun s8 s9 s23 wq => ∃ i : Nat, i ≤ 8 ∧ s23 = .int .i64 i ∧ s8 = .int .i64 ((t.reads kind thing k + cntR (t.p k).f kind thing i : Nat) : Int) ∧ s9 = .int .i64 ((t.writes kind thing k + cntW (t.p k).f kind thing i : Nat) : Int) ∧ Below w.heap.size w wq) (fun _ _ s23 _ => 8 - (intOf s23).toNat)
      case atStart => exact ⟨0, Nat.zero_le _, rfl, by simp [cntR], by simp [cntW], hbb⟩
      case round =>
        obtain ⟨i, hi, rfl, rfl, rfl, hb2⟩ := hrel
        have b1 := reads_le t kind thing k
        have b2 := writes_le t kind thing k
        have b3 := cntR_le (t.p k).f kind thing i
        have b4 := cntW_le (t.p k).f kind thing i
        by_cases hi8 : i < 8
        · have ix := run_index_fds (t.p k) hi8
          have hR := Lib.hid (cntR_succ (t.p k).f kind thing i)
          have hW := Lib.hid (cntW_succ (t.p k).f kind thing i)
          obtain ⟨f, hf⟩ : ∃ f, f = (t.p k).f i := ⟨_, rfl⟩
          rw [← hf] at ix hR hW
          obtain ⟨R, hRe⟩ : ∃ R, R = t.reads kind thing k + cntR (t.p k).f kind thing i := ⟨_, rfl⟩
          obtain ⟨W, hWe⟩ : ∃ W, W = t.writes kind thing k + cntW (t.p k).f kind thing i := ⟨_, rfl⟩
          rw [← hRe, ← hWe]
          have HRE := Lib.hid hRe
          have HWE := Lib.hid hWe
          have hR1 : R ≤ 200 := by omega
          have hW1 : W ≤ 200 := by omega
          clear b1 b2 b3 b4 hf hRe hWe
          go_upto_region 8 with (fail)
          obtain ⟨wn, hwn⟩ : ∃ wn, wn = wr.alloc (.cells #[.int .i64 f.k, .int .i64 f.t, .int .i64 f.a, .bool f.w] 30) := ⟨_, rfl⟩
          rw [← hwn]
          have hbn : Below w.heap.size w wn := by rw [hwn]; exact hb2.alloc hb2.size _
          have hblk : Blk wn wr.heap.size 30 #[.int .i64 f.k, .int .i64 f.t, .int .i64 f.a, .bool f.w] := by rw [hwn]; exact Blk.new _ _ _
          have d0 : wn.cell? ⟨wr.heap.size, 0, none⟩ = some (.int .i64 f.k) := hblk.cell 0
          have d1 : wn.cell? ⟨wr.heap.size, 1, none⟩ = some (.int .i64 f.t) := hblk.cell 1
          have d2 : wn.cell? ⟨wr.heap.size, 2, none⟩ = some (.int .i64 f.a) := hblk.cell 2
          have d3 : wn.cell? ⟨wr.heap.size, 3, none⟩ = some (.bool f.w) := hblk.cell 3
          have HBN := hide hbn
          clear hwn hblk ix hbn
          go_cut [40] (fun s40 wx => s40 = .bool (!f.counts kind thing) ∧ wx = wn)
          case first =>
            obtain ⟨z0, hz0⟩ : ∃ b, (f.k == 0) = b := ⟨_, rfl⟩
            obtain ⟨z1, hz1⟩ : ∃ b, (f.t == 0) = b := ⟨_, rfl⟩
            obtain ⟨z2, hz2⟩ : ∃ b, (f.a == 0) = b := ⟨_, rfl⟩
            obtain ⟨k0, hk0⟩ : ∃ b, (f.k != kind) = b := ⟨_, rfl⟩
            obtain ⟨k1, hk1⟩ : ∃ b, (f.t != thing) = b := ⟨_, rfl⟩
            have hz0' := counts_bool f kind thing
            rw [hz0, hz1, hz2, hk0, hk1] at hz0'
            have hz := Lib.hid hz0'
            clear hz0'
            go_wp2
            all_goals
              go_meet
              refine ⟨?_, rfl⟩
              rw [hz.out]
              first
                | rfl
                | simp_all
                | trace_state
          case rest =>
            obtain ⟨rfl, hwx⟩ := hcut
            have hwx2 := hwx.symm
            subst hwx2
            cases hc : f.counts kind thing with
            | false =>
              go_wp2
              go_roundw
              case rel => exact ⟨i + 1, by omega, by go_num, by rw [hR.out, if_neg (by rw [hc]; simp), HRE.out]; rfl, by rw [hW.out, if_neg (by rw [hc]; simp), HWE.out]; rfl, unhid_ HBN⟩
              case measure => simp [intOf]; omega
            | true =>
              obtain ⟨b3, hb3⟩ : ∃ b, (kind == 3) = b := ⟨_, rfl⟩
              obtain ⟨fw, hfw⟩ : ∃ b, f.w = b := ⟨_, rfl⟩
              rw [hfw] at d3
              have hw : f.asWrite kind = (b3 && fw) := by rw [← hb3, ← hfw]; unfold FdV.asWrite; congr 1
              rw [hw, hc] at hR hW
              clear hfw hw
              cases b3 with
              | false =>
                go_wp2
                go_roundw
                case rel => exact ⟨i + 1, by omega, by go_num, by rw [hR.out, if_pos (by simp), ← Nat.add_assoc, ← HRE.out]; go_num, by rw [hW.out, if_neg (by simp), HWE.out]; rfl, unhid_ HBN⟩
                case measure => simp [intOf]; omega
              | true =>
                cases fw with
                | false =>
                  go_wp2
                  go_roundw
                  case rel => exact ⟨i + 1, by omega, by go_num, by rw [hR.out, if_pos (by simp), ← Nat.add_assoc, ← HRE.out]; go_num, by rw [hW.out, if_neg (by simp), HWE.out]; rfl, unhid_ HBN⟩
                  case measure => simp [intOf]; omega
                | true =>
                  go_wp2
                  go_roundw
                  case rel => exact ⟨i + 1, by omega, by go_num, by rw [hR.out, if_neg (by simp), HRE.out]; rfl, by rw [hW.out, if_pos (by simp), ← Nat.add_assoc, ← HWE.out]; go_num, unhid_ HBN⟩
                  case measure => simp [intOf]; omega
        · obtain rfl : i = 8 := by omega
          have hR := reads_succ t kind thing k
          have hW := writes_succ t kind thing k
          rw [← hR, ← hW]
          clear hR hW b1 b2 b3 b4
          go_wp2
          go_roundw
          case rel => exact ⟨k + 1, by omega, by go_num, rfl, rfl, hb2⟩
          case measure => simp [intOf]; omega
    · obtain rfl : k = 13 := by omega
      go_wp2
      go_ret2
      exact ⟨rfl, hb⟩
end Go.Proofs.Ytgdloahgokefpaa
