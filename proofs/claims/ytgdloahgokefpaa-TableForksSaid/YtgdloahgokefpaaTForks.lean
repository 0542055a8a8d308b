/- What the law TableForks wants: rows of descriptors compared; a new process at both tables. -/
import Derived.Test.YtgdloahgokefpaaTPlays
import Derived.ChangeKeysEq
namespace Go.Proofs.Ytgdloahgokefpaa
open Go.RowKit
set_option linter.unusedSimpArgs false

theorem run_part_one {P : Program} (W : World) (t : TypeId) (d : TypeDesc) (cs : Array Value) (o : Nat) (v : Value) (ht : P.underlying t = some d) (hd : d.isRow = false) (hv : cs[o]? = some v) : (part t cs o).run P W = .ok v W := by
  have hagg : (isAgg t).run P W = .ok false W := by
    unfold isAgg
    rw [Sem.run_bind, run_underlying ht W]
    cases d <;> simp_all
  simp [part, Sem.run_bind, hagg, hv]
theorem run_part_row {P : Program} (W : World) (t : TypeId) (d : TypeDesc) (cs : Array Value) (o m : Nat) (ht : P.underlying t = some d) (hd : d.isRow = true) (hi : (P.info? t).map (·.size) = some m) : (part t cs o).run P W = .ok (.agg (cs.extract o (o + m))) W := by
  cases hq : P.info? t with
  | none => simp [hq] at hi
  | some i =>
    have hs : i.size = m := by simpa [hq] using hi
    have hagg : (isAgg t).run P W = .ok true W := by
      unfold isAgg
      rw [Sem.run_bind, run_underlying ht W]
      cases d <;> simp_all
    simp [part, Sem.run_bind, hagg, sizeOf, typeInfo, hq, hs]
theorem fields_fd : (Try.prog.fieldsOf 30).toList.map (fun f => (f.name, f.type, f.offset)) = [("Kind", 3, 0), ("Thing", 3, 1), ("At", 3, 2), ("Write", 4, 3)] := by kernel_rfl
theorem eqFields_step {P : Program} (W : World) (d : Nat) (xs : Array Value) (f : Field) (fs : List Field) (v : Value) (hn : f.name ≠ "_") (hp : (part f.type xs f.offset).run P W = .ok v W) (he : (Op.equalIn d f.type v v).run P W = .ok true W) (h : (Op.eqFields d xs xs fs).run P W = .ok true W) : (Op.eqFields d xs xs (f :: fs)).run P W = .ok true W := by
  rw [Op.eqFields, if_pos hn]
  simp [Sem.run_bind, hp, he, h]
theorem equal_fd (d : Nat) (f : FdV) (W : World) : (Op.equalIn (d + 2) 30 (.agg f.cells.toArray) (.agg f.cells.toArray)).run Try.prog W = .ok true W := by
  rw [run_equalIn_struct W (d + 1) 30 _ _ (by kernel_rfl) (by kernel_rfl)]
  have hf := fields_fd
  generalize (Try.prog.fieldsOf 30).toList = fs at hf ⊢
  rcases fs with _ | ⟨f0, _ | ⟨f1, _ | ⟨f2, _ | ⟨f3, _ | ⟨f4, fs⟩⟩⟩⟩⟩
  · exact absurd hf (by simp)
  · exact absurd hf (by simp)
  · exact absurd hf (by simp)
  · exact absurd hf (by simp)
  · simp only [List.map_cons, List.map_nil, List.cons.injEq, Prod.mk.injEq, and_true] at hf
    obtain ⟨⟨n0, t0, o0⟩, ⟨n1, t1, o1⟩, ⟨n2, t2, o2⟩, ⟨n3, t3, o3⟩⟩ := hf
    refine eqFields_step W _ _ _ _ (.int .i64 f.k) (by rw [n0]; decide) ?_ ?_ (eqFields_step W _ _ _ _ (.int .i64 f.t) (by rw [n1]; decide) ?_ ?_ (eqFields_step W _ _ _ _ (.int .i64 f.a) (by rw [n2]; decide) ?_ ?_ (eqFields_step W _ _ _ _ (.bool f.w) (by rw [n3]; decide) ?_ ?_ ?_)))
    · rw [t0, o0]; exact run_part_one W _ _ _ _ _ Try.underlying3 rfl rfl
    · rw [t0, run_equalIn_int W d 3 .i64 .i64 _ _ Try.underlying3]; simp
    · rw [t1, o1]; exact run_part_one W _ _ _ _ _ Try.underlying3 rfl rfl
    · rw [t1, run_equalIn_int W d 3 .i64 .i64 _ _ Try.underlying3]; simp
    · rw [t2, o2]; exact run_part_one W _ _ _ _ _ Try.underlying3 rfl rfl
    · rw [t2, run_equalIn_int W d 3 .i64 .i64 _ _ Try.underlying3]; simp
    · rw [t3, o3]; exact run_part_one W _ _ _ _ _ Try.underlying4 rfl rfl
    · rw [t3, run_equalIn_bool' W d 4 _ _ Try.underlying4]; simp
    · simp [Op.eqFields]
  · exact absurd hf (by simp)
theorem eqItems_same (d : Nat) (x : PrV) (W : World) : ∀ is : List Nat, (∀ i ∈ is, i < 8) → (Op.eqItems (d + 2) 30 4 x.fds.toArray x.fds.toArray is).run Try.prog W = .ok true W
  | [], _ => by simp [Op.eqItems]
  | i :: is, h => by
    have hi := h i (by simp)
    have hp : (part 30 x.fds.toArray (i * 4)).run Try.prog W = .ok (.agg (x.f i).cells.toArray) W := by
      rw [run_part_row W 30 _ _ _ 4 Try.underlying30 rfl (by kernel_rfl), fds_extract x hi]
    have he := equal_fd d (x.f i) W
    have ih := eqItems_same d x W is fun j hj => h j (by simp [hj])
    simp [Op.eqItems, Sem.run_bind, hp, he, ih]
theorem equal_fds (d : Nat) (x : PrV) (W : World) : (Op.equalIn (d + 3) 41 (.agg x.fds.toArray) (.agg x.fds.toArray)).run Try.prog W = .ok true W := by
  have hsz : (Try.prog.info? 30).isSome = true := by kernel_rfl
  obtain ⟨i, hi⟩ := Option.isSome_iff_exists.1 hsz
  rw [run_equalIn_array W (d + 2) _ _ Try.underlying41 hi, show Try.prog.cellsOf 30 = 4 from cells_fd]
  exact eqItems_same d x W _ fun j hj => List.mem_range.1 hj

theorem wpList_load_wanted {P : Program} {ops : Array Oper} {rest : List Oper} {op : Oper} {a : Act} {w : World} {Q : Exit → Act → World → Prop} (hw : Region.wanted op (yielded ops a.tmps) = true) (ty : TypeId) (x : Operand) (ho : op.op = .load ty x)
    (b o : Nat) (hx : a.eval x = .pointer (some ⟨b, o, none⟩)) (cs : List Value) (d : TypeDesc) (hc : w.rangeAt b o cs)
    (hu : P.underlying ty = some d) (hd : d.isRow = true) (hi : (P.info? ty).map (·.size) = some cs.length)
    (h : wpList P ops Q rest (a.put op.dst (.agg cs.toArray)) w) : wpList P ops Q (op :: rest) a w :=
  wpList_step fun K hK => by rw [if_pos hw]; exact wp_load_mid ty x ho b o hx cs d hc hu hd hi (hK _ _ h)
theorem fds_congr {x y : PrV} (h : x.f = y.f) : x.fds = y.fds := by
  unfold PrV.fds
  refine List.map_congr_left fun j hj => ?_
  unfold PrV.cell
  rw [if_neg (by omega), if_neg (by omega), if_neg (by omega), if_neg (by omega), if_neg (by omega), if_neg (by omega), h]
/-- a new process at both tables, where there is room -/
theorem SpawnedT.ok2 {w w1 : World} {B gt gr : Nat} {t : TbV} {r : Nat → RpV} {fr ob nd : Int} {p : Nat} {e : Ending} (hb : Bo w B gt gr t r) (h0 : t.bad fr = false) (hs : t.slot = some p) (h : SpawnedT t B gt fr ob nd w e w1) :
    e = .returned (.tuple #[.int .i64 p, .int .i64 0]) ∧ Only [gt] w w1 ∧ ∃ x : PrV, x.o = ob ∧ x.n = nd ∧ x.f = (t.src fr).f ∧ (∀ i, i < 4 → (x.b i).xs = ((t.src fr).b i).xs) ∧ IsT w1 B gt (t.put p x) ∧ Mt (t.put p x) (setP r p (rnew r fr ob nd)) ∧ Iv (t.put p x) := by
  obtain ⟨ho, hor⟩ := h
  rcases hor with ⟨h1, _⟩ | ⟨_, h1, _⟩ | ⟨_, q, x, hp1, hp, hq, rfl, hxo, hxn, hxf, hxb, h2⟩
  · rw [h0] at h1; cases h1
  · rw [hs] at h1; cases h1
  · rw [hs] at hq
    obtain rfl : p = q := by injection hq
    obtain ⟨m1, m2⟩ := hb.M.spawn hb.I h0 hp1 hxo hxn hxf hxb
    exact ⟨rfl, ho, x, hxo, hxn, hxf, hxb, h2, m1, m2⟩
theorem RSpawned.ok2 {wa w2 : World} {gr : Nat} {t : TbV} {r : Nat → RpV} {fr ob nd : Int} {p : Nat} {e : Ending} (hm : Mt t r) (h0 : t.bad fr = false) (hs : t.slot = some p) (h : RSpawned r gr fr ob nd wa e w2) :
    e = .returned (.tuple #[.int .i64 p, .int .i64 0]) ∧ Only [gr] wa w2 ∧ IsR w2 gr (setP r p (rnew r fr ob nd)) := by
  obtain ⟨q1, q2⟩ := h
  rcases q2 with ⟨q0, _⟩ | ⟨_, q0, _⟩ | ⟨_, q, _, _, q0, rfl, q3⟩
  · rw [hm.bad, h0] at q0; cases q0
  · rw [hm.slot, hs] at q0; cases q0
  · rw [hm.slot, hs] at q0
    obtain rfl : p = q := by injection q0
    exact ⟨rfl, q1, q3⟩
/-- a call for process P -/
def OpV.for_ (x : OpV) (P : Int) : OpV := { x with p := P }
end Go.Proofs.Ytgdloahgokefpaa
