/- The walk of the law's awake: the document's example of a table answers true. -/
import Derived.Test.YtgdloahgokefpaaTab5
namespace Go.Proofs.Ytgdloahgokefpaa
open Go.RowKit
set_option linter.unusedSimpArgs false

/-- true, and nothing that was there has turned -/
def Yes (w : World) (e : Ending) (w' : World) : Prop := e = .returned (.bool true) ∧ Below w.heap.size w w'
theorem yes_mk {b : Bool} {w w' : World} (h : b = true) (hb : Below w.heap.size w w') : Yes w (.returned (.bool b)) w' := by subst h; exact ⟨rfl, hb⟩

/-- descriptors alone -/
def readsF (F : Nat → Nat → FdV) (kind thing : Int) (n : Nat) : Nat := ((List.range n).map fun p => cntR (F p) kind thing 8).sum
def writesF (F : Nat → Nat → FdV) (kind thing : Int) (n : Nat) : Nat := ((List.range n).map fun p => cntW (F p) kind thing 8).sum
def TbV.F (t : TbV) : Nat → Nat → FdV := fun p => (t.p p).f
theorem reads_F (t : TbV) (kind thing : Int) (n : Nat) : t.reads kind thing n = readsF t.F kind thing n := rfl
theorem writes_F (t : TbV) (kind thing : Int) (n : Nat) : t.writes kind thing n = writesF t.F kind thing n := rfl
theorem F_put (t : TbV) (k : Nat) (x : PrV) : (t.put k x).F = fun p => if p = k then x.f else t.F p := by
  funext p
  simp only [TbV.F, TbV.put, TbV.setTh, TbV.setPr]
  split <;> rfl
theorem F_setFd (t : TbV) (k i : Nat) (f : FdV) : (t.setFd k i f).F = fun p => if p = k then (fun j => if j = i then f else t.F k j) else t.F p := by
  funext p
  simp only [TbV.F, TbV.setFd, TbV.setPr]
  split <;> rfl
theorem th_put (t : TbV) (k : Nat) (x : PrV) : (t.put k x).th = fun p => if p = k then true else t.th p := rfl
theorem th_setFd (t : TbV) (k i : Nat) (f : FdV) : (t.setFd k i f).th = t.th := rfl
theorem slot_th {t : TbV} {u : Nat → Bool} (h : t.th = u) : t.slot = (List.range 13).find? fun p => decide (1 ≤ p) && !u p := by subst h; rfl
theorem free_F (t : TbV) (k : Nat) : (t.p k).free = (List.range 8).find? fun i => decide (t.F k i = FdV.zero) := rfl
theorem IsT.only {w w' : World} {base g : Nat} {t : TbV} {S : List Nat} (h : IsT w base g t) (ho : Only S w w') (hg : g ∉ S) (hS : ∀ k ∈ S, k < base ∨ w.heap.size ≤ k) : IsT w' base g t :=
  ⟨ho.blk h.1 hg, h.2.1, fun p i hp hi => ⟨own_only (h.2.2 p i hp hi).1 ho hS, (h.2.2 p i hp hi).2⟩⟩

/-- a new process, where there is room -/
def NewP (t : TbV) (base g p : Nat) (fr ob nd : Int) (w : World) (e : Ending) (w' : World) : Prop :=
  e = .returned (.tuple #[.int .i64 p, .int .i64 0]) ∧ Only [g] w w' ∧ ∃ x : PrV, x.o = ob ∧ x.n = nd ∧ x.f = (t.src fr).f ∧ (∀ i, i < 4 → (x.b i).xs = ((t.src fr).b i).xs) ∧ IsT w' base g (t.put p x)
theorem spawn_ok (w : World) (base g : Nat) (t : TbV) (fr ob nd : Int) (p : Nat) (h : IsT w base g t) (hbase : base ≤ w.heap.size) (hb : t.bad fr = false) (hs : t.slot = some p) :
    Calls Try.prog 9 #[.pointer (some ⟨g, 0, none⟩), .int .i64 fr, .int .i64 ob, .int .i64 nd] w (NewP t base g p fr ob nd w) := by
  refine (spawn_any w base g t fr ob nd h hbase).mono ?_
  rintro e w' ⟨ho, hor⟩
  rcases hor with ⟨h1, _⟩ | ⟨_, h1, _⟩ | ⟨_, q, x, _, _, hq, rfl, h1, h2, h3, h4, h5⟩
  · rw [hb] at h1; cases h1
  · rw [hs] at h1; cases h1
  · rw [hs] at hq
    obtain rfl : p = q := by injection hq
    exact ⟨rfl, ho, x, h1, h2, h3, h4, h5⟩
/-- no new process, where all numbers are taken -/
theorem spawn_full (w : World) (base g : Nat) (t : TbV) (fr ob nd : Int) (h : IsT w base g t) (hbase : base ≤ w.heap.size) (hb : t.bad fr = false) (hs : t.slot = none) :
    Calls Try.prog 9 #[.pointer (some ⟨g, 0, none⟩), .int .i64 fr, .int .i64 ob, .int .i64 nd] w fun e w' => e = .returned (.tuple #[.int .i64 0, .int .i64 5]) ∧ Only [g] w w' ∧ IsT w' base g t := by
  refine (spawn_any w base g t fr ob nd h hbase).mono ?_
  rintro e w' ⟨ho, hor⟩
  rcases hor with ⟨h1, _⟩ | ⟨_, _, h1, h2⟩ | ⟨_, q, x, _, _, hq, _⟩
  · rw [hb] at h1; cases h1
  · exact ⟨h1, ho, h2⟩
  · rw [hs] at hq; cases hq
/-- a new descriptor, where there is room -/
def NewFd (t : TbV) (base g p i : Nat) (f : FdV) (w : World) (e : Ending) (w' : World) : Prop :=
  e = .returned (.tuple #[.int .i64 i, .int .i64 0]) ∧ Only [g] w w' ∧ IsT w' base g (t.setFd p i f)
theorem open_ok (w : World) (base g : Nat) (t : TbV) (p : Nat) (f : FdV) (i : Nat) (h : IsT w base g t) (hp1 : 1 ≤ p) (hp : p < 13) (ht : t.th p = true) (hb : f.bad = false) (hs : (t.p p).free = some i) :
    Calls Try.prog 10 #[.pointer (some ⟨g, 0, none⟩), .int .i64 p, .agg #[.int .i64 f.k, .int .i64 f.t, .int .i64 f.a, .bool f.w]] w (NewFd t base g p i f w) := by
  refine (open_any w base g t p f h).mono ?_
  rintro e w' ⟨rfl, h1, ho⟩
  have hh : t.has (p : Int) = true := by unfold TbV.has; simp [ht]; omega
  refine ⟨?_, ho, ?_⟩
  · simp [TbV.openN, TbV.openE, hh, hb, hs]
  · have e : t.openT (p : Int) f = t.setFd p i f := by simp [TbV.openT, hh, hb, hs]
    rwa [e] at h1

set_option maxHeartbeats 2000000 in
theorem awake_any (w : World) : Calls Try.prog 14 #[] w (Yes w) := by
  go_enter Try.func14, Try.ntmps14
  go_wp2_with fail
  refine (newt_any _).mono ?_
  rintro e w1 ⟨rfl, h1, hb1, hs1⟩
  have hsz1 : w.heap.size + 1 ≤ w1.heap.size := by omega
  have HSP := hide (spawn_ok w1 (w.heap.size + 1) w.heap.size TbV.zero 0 1 1 1 h1 hsz1 (by decide) (by decide +kernel))
  have HB1 := hide hb1
  clear h1 hb1 hs1
  go_wp2_with fail
  refine (unhid_ HSP).mono ?_
  rintro e w2 ⟨rfl, ho2, x, _, _, hxf, _, h2⟩
  have hF2 : (TbV.zero.put 1 x).F = fun _ _ => FdV.zero := by
    rw [F_put, hxf]
    funext p
    show (if p = 1 then _ else _) = _
    split <;> rfl
  have hT2 : (TbV.zero.put 1 x).th = fun p => decide (p = 1) := by
    rw [th_put]
    funext p
    show (if p = 1 then true else false) = _
    split <;> simp [*]
  obtain ⟨t2, ht2⟩ : ∃ t2, t2 = TbV.zero.put 1 x := ⟨_, rfl⟩
  rw [← ht2] at hF2 hT2 h2
  have hop := open_ok w2 (w.heap.size + 1) w.heap.size t2 1 ⟨3, 1, 0, false⟩ 0 h2 (Nat.le_refl _) (by omega) (by rw [hT2]; rfl) (by decide) (by rw [free_F, hF2]; decide +kernel)
  have HOP := hide hop
  have HB2 : Hid (Below w.heap.size w w2) := (unhid_ HB1).trans (ho2.below (fun k hk => by simp at hk; omega) (by omega))
  have hsz2 := ho2.size
  have HF2 := Lib.hid hF2
  have HT2 := Lib.hid hT2
  clear hop h2 hxf ht2 hF2 hT2 ho2
  go_wp2_with fail
  refine (unhid_ HOP).mono ?_
  rintro e w3 ⟨rfl, ho3, h3⟩
  have hF3 : (t2.setFd 1 0 ⟨3, 1, 0, false⟩).F = fun p => if p = 1 then (fun j => if j = 0 then ⟨3, 1, 0, false⟩ else FdV.zero) else fun _ => FdV.zero := by rw [F_setFd, HF2.out]
  have hT3 : (t2.setFd 1 0 ⟨3, 1, 0, false⟩).th = fun p => decide (p = 1) := HT2.out
  obtain ⟨t3, ht3⟩ : ∃ t3, t3 = t2.setFd 1 0 ⟨3, 1, 0, false⟩ := ⟨_, rfl⟩
  rw [← ht3] at hF3 hT3 h3
  have hop := open_ok w3 (w.heap.size + 1) w.heap.size t3 1 ⟨3, 1, 0, true⟩ 1 h3 (Nat.le_refl _) (by omega) (by rw [hT3]; rfl) (by decide) (by rw [free_F, hF3]; decide +kernel)
  have HOP3 := hide hop
  have HB3 : Hid (Below w.heap.size w w3) := (unhid_ HB2).trans (ho3.below (fun k hk => by simp at hk; omega) (by omega))
  have hsz3 := ho3.size
  have HF3 := Lib.hid hF3
  have HT3 := Lib.hid hT3
  clear hop h3 ht3 hF3 hT3 ho3
  go_wp2_with fail
  refine (unhid_ HOP3).mono ?_
  rintro e w4 ⟨rfl, ho4, h4⟩
  have hF4 : (t3.setFd 1 1 ⟨3, 1, 0, true⟩).F = fun p => if p = 1 then (fun j => if j = 1 then ⟨3, 1, 0, true⟩ else if j = 0 then ⟨3, 1, 0, false⟩ else FdV.zero) else fun _ => FdV.zero := by
    rw [F_setFd, HF3.out]
    funext p
    by_cases h : p = 1 <;> simp [h]
  have hT4 : (t3.setFd 1 1 ⟨3, 1, 0, true⟩).th = fun p => decide (p = 1) := HT3.out
  obtain ⟨t4, ht4⟩ : ∃ t4, t4 = t3.setFd 1 1 ⟨3, 1, 0, true⟩ := ⟨_, rfl⟩
  rw [← ht4] at hF4 hT4 h4
  have hsp := spawn_ok w4 (w.heap.size + 1) w.heap.size t4 1 2 5 2 h4 (by have := ho4.size; omega) (by unfold TbV.bad TbV.has; rw [hT4]; decide) (by rw [slot_th hT4]; decide +kernel)
  have HSP4 := hide hsp
  have HB4 : Hid (Below w.heap.size w w4) := (unhid_ HB3).trans (ho4.below (fun k hk => by simp at hk; omega) (by omega))
  have hsz4 := ho4.size
  have HF4 := Lib.hid hF4
  clear hsp h4 ht4 hF4 hT4 ho4
  go_wp2_with fail
  refine (unhid_ HSP4).mono ?_
  rintro e w5 ⟨rfl, ho5, x, _, _, hxf, _, h5⟩
  have hF5 : (t4.put 2 x).F = fun p => if p = 2 ∨ p = 1 then (fun j => if j = 1 then ⟨3, 1, 0, true⟩ else if j = 0 then ⟨3, 1, 0, false⟩ else FdV.zero) else fun _ => FdV.zero := by
    have e : (t4.src 1).f = t4.F 1 := rfl
    rw [F_put, hxf, e, HF4.out]
    funext p
    by_cases h : p = 2
    · simp [h]
    · by_cases h' : p = 1 <;> simp [h, h']
  have hu := uses_any w5 (w.heap.size + 1) w.heap.size (t4.put 2 x) 3 1 h5
  rw [reads_F, writes_F, hF5, show readsF (fun p => if p = 2 ∨ p = 1 then (fun j => if j = 1 then (⟨3, 1, 0, true⟩ : FdV) else if j = 0 then ⟨3, 1, 0, false⟩ else FdV.zero) else fun _ => FdV.zero) 3 1 13 = 2 from by decide +kernel,
    show writesF (fun p => if p = 2 ∨ p = 1 then (fun j => if j = 1 then (⟨3, 1, 0, true⟩ : FdV) else if j = 0 then ⟨3, 1, 0, false⟩ else FdV.zero) else fun _ => FdV.zero) 3 1 13 = 2 from by decide +kernel] at hu
  have HU := hide hu
  have HB5 : Hid (Below w.heap.size w w5) := (unhid_ HB4).trans (ho5.below (fun k hk => by simp at hk; omega) (by omega))
  have hsz5 := ho5.size
  clear hu h5 hF5 hxf ho5
  go_wp2_with fail
  refine (unhid_ HU).mono ?_
  rintro e w6 ⟨rfl, hb6⟩
  go_wp2
  go_ret
  exact yes_mk rfl ((unhid_ HB5).trans (hb6.mono (by omega)))
end Go.Proofs.Ytgdloahgokefpaa
