/- The table in memory: one block of 507 cells, as a function of processes, their buffers and descriptors. Conditions: none. -/
import Derived.Test.YtgdloahgokefpaaRing
import Derived.Test.YtgdloahgokefpaaInts
import Derived.Laws.StructEq
import Derived.Deep.MidRow
namespace Go.Proofs.Ytgdloahgokefpaa
open Go.RowKit
set_option linter.unusedSimpArgs false

/-- a block of n cells, told by a function -/
def Tb (n : Nat) (C : Nat → Value) : Array Value := Array.ofFn (n := n) fun j => C j.1
@[simp] theorem Tb_size (n : Nat) (C : Nat → Value) : (Tb n C).size = n := by simp [Tb]
theorem Tb_at {n j : Nat} (C : Nat → Value) (h : j < n) : (Tb n C)[j]? = some (C j) := by
  rw [Array.getElem?_eq_getElem (by simpa using h)]
  simp [Tb]
theorem Tb_congr {n : Nat} {C D : Nat → Value} (h : ∀ j, j < n → C j = D j) : Tb n C = Tb n D := by
  apply Array.ext
  · simp
  · intro i h1 h2
    simp only [Tb, Array.getElem_ofFn]
    exact h i (by simpa using h1)
theorem Tb_set (n : Nat) (C : Nat → Value) (i : Nat) (v : Value) : (Tb n C).setIfInBounds i v = Tb n (fun j => if j = i then v else C j) := by
  apply Array.ext
  · simp
  · intro j h1 h2
    have hj : j < n := by simpa using h2
    have e1 : (Tb n C)[j]'(by simpa using hj) = C j := by simp [Tb]
    have e2 : (Tb n (fun j => if j = i then v else C j))[j]'h2 = if j = i then v else C j := by simp [Tb]
    rw [Array.getElem_setIfInBounds (by simpa using hj), e2]
    by_cases h : i = j
    · subst h; simp
    · rw [if_neg h, if_neg (fun e => h e.symm), e1]
/-- cells o .. of the function turned to vs -/
def putAt (C : Nat → Value) (o : Nat) (vs : List Value) : Nat → Value := fun j => if o ≤ j ∧ j < o + vs.length then vs.getD (j - o) undef else C j
theorem putAt_nil (C : Nat → Value) (o : Nat) : putAt C o [] = C := by
  funext j
  unfold putAt
  rw [if_neg (by rw [List.length_nil]; omega)]
theorem putAt_cons (C : Nat → Value) (o : Nat) (v : Value) (vs : List Value) : putAt C o (v :: vs) = putAt (fun j => if j = o then v else C j) (o + 1) vs := by
  funext j
  unfold putAt
  by_cases h0 : j = o
  · subst h0
    rw [if_pos (by simp), if_neg (by omega)]
    simp
  · by_cases h1 : o + 1 ≤ j ∧ j < o + 1 + vs.length
    · rw [if_pos (by simp; omega), if_pos h1]
      obtain ⟨k, rfl⟩ : ∃ k, j = o + 1 + k := ⟨j - (o + 1), by omega⟩
      rw [show o + 1 + k - o = k + 1 from by omega, show o + 1 + k - (o + 1) = k from by omega]
      simp
    · rw [if_neg (by simp; omega), if_neg h1]
      exact (if_neg h0).symm
theorem Blk.setCells {g n : Nat} {t : TypeId} : ∀ (vs : List Value) (C : Nat → Value) (o : Nat) (w : World), Blk w g t (Tb n C) → Blk (w.setCells g o vs) g t (Tb n (putAt C o vs))
  | [], C, o, w, h => by rw [putAt_nil]; exact h
  | v :: vs, C, o, w, h => by
    rw [putAt_cons]
    have h1 := h.set_ o v
    rw [Tb_set] at h1
    exact Blk.setCells vs _ (o + 1) (w.setCell ⟨g, o, none⟩ v) h1
theorem Only.setCells {S : List Nat} {a : World} : ∀ (vs : List Value) (g o : Nat) (w : World), Only S a w → (g ∈ S ∨ a.heap.size ≤ g) → Only S a (w.setCells g o vs)
  | [], _, _, _, h, _ => h
  | v :: vs, g, o, _, h, hg => Only.setCells vs g (o + 1) _ (h.setCell (p := ⟨g, o, none⟩) hg v) hg
theorem setCells_size : ∀ (vs : List Value) (g o : Nat) (w : World), (w.setCells g o vs).heap.size = w.heap.size
  | [], _, _, _ => rfl
  | v :: vs, g, o, w => by
    exact (setCells_size vs g (o + 1) (w.setCell ⟨g, o, none⟩ v)).trans (by simp [World.setCell])

/-- a descriptor -/
structure FdV where
  k : Int
  t : Int
  a : Int
  w : Bool
deriving DecidableEq
def FdV.zero : FdV := ⟨0, 0, 0, false⟩
def FdV.cells (f : FdV) : List Value := [.int .i64 f.k, .int .i64 f.t, .int .i64 f.a, .bool f.w]
def FdV.cell (f : FdV) (j : Nat) : Value := f.cells.getD j undef
/-- a buffer: a slice, and what it reads as -/
structure BufV where
  A : Option Addr
  c : Nat
  xs : List Int
def BufV.val (b : BufV) : Value := .slice b.A b.xs.length b.c
def BufV.zero : BufV := ⟨none, 0, []⟩
/-- a process -/
structure PrV where
  o : Int
  n : Int
  b : Nat → BufV
  f : Nat → FdV
def PrV.zero : PrV := ⟨0, 0, fun _ => BufV.zero, fun _ => FdV.zero⟩
def PrV.cell (p : PrV) (j : Nat) : Value := if j = 0 then .int .i64 p.o else if j = 1 then .int .i64 p.n else if j < 6 then (p.b (j - 2)).val else (p.f ((j - 6) / 4)).cell ((j - 6) % 4)
def PrV.cells (p : PrV) : List Value := (List.range 38).map p.cell
/-- a table -/
structure TbV where
  p : Nat → PrV
  th : Nat → Bool
def TbV.zero : TbV := ⟨fun _ => PrV.zero, fun _ => false⟩
def TbV.cell (t : TbV) (j : Nat) : Value := if j < 494 then (t.p (j / 38)).cell (j % 38) else .bool (t.th (j - 494))

def BufV.ok (w : World) (base : Nat) (b : BufV) : Prop := w.ownsRow base 5 1 b.val b.xs.length (b.xs.map (Value.int .u8)) ∧ b.xs.length ≤ 100000
/-- block g is the table t, whose buffers lie in blocks of their own, from base on -/
def IsT (w : World) (base g : Nat) (t : TbV) : Prop := Blk w g 68 (Tb 507 t.cell) ∧ g < base ∧ ∀ p i, p < 13 → i < 4 → ((t.p p).b i).ok w base

theorem IsT.there {w : World} {base g : Nat} {t : TbV} (h : IsT w base g t) {p : Nat} (hp : p < 13) : w.cell? ⟨g, 494 + p, none⟩ = some (.bool (t.th p)) := by
  rw [h.1.cell, Tb_at _ (by omega), TbV.cell, if_neg (by omega), show 494 + p - 494 = p from by omega]
theorem IsT.cell {w : World} {base g : Nat} {t : TbV} (h : IsT w base g t) {p j : Nat} (hp : p < 13) (hj : j < 38) : w.cell? ⟨g, 38 * p + j, none⟩ = some ((t.p p).cell j) := by
  rw [h.1.cell, Tb_at _ (by omega), TbV.cell, if_pos (by omega), show (38 * p + j) / 38 = p from by omega, show (38 * p + j) % 38 = j from by omega]
/-- is there a process of that number? -/
def TbV.has (t : TbV) (p : Int) : Bool := decide (1 ≤ p) && (decide (p ≤ 12) && t.th p.toNat)

set_option maxHeartbeats 400000 in
theorem has_any (w : World) (base g : Nat) (t : TbV) (p : Int) (h : IsT w base g t) :
    Calls Try.prog 22 #[.pointer (some ⟨g, 0, none⟩), .int .i64 p] w fun e w' => e = .returned (.bool (t.has p)) ∧ w = w' := by
  by_cases h1 : 1 ≤ p
  · by_cases h2 : p ≤ 12
    · obtain ⟨k, rfl⟩ := Int.eq_ofNat_of_zero_le (show 0 ≤ p by omega)
      have hc := h.there (p := k) (by omega)
      have hh : t.has (k : Int) = t.th k := by unfold TbV.has; simp [h1, h2]
      rw [hh]
      clear h hh
      go_enter Try.func22, Try.ntmps22
      go_wp2
      go_ret
      exact ⟨rfl, rfl⟩
    · have hh : t.has p = false := by unfold TbV.has; simp [h2]
      rw [hh]
      clear h hh
      go_enter Try.func22, Try.ntmps22
      go_wp2
      go_ret
      exact ⟨rfl, rfl⟩
  · have hh : t.has p = false := by unfold TbV.has; simp [h1]
    rw [hh]
    clear h hh
    go_enter Try.func22, Try.ntmps22
    go_wp2
    go_ret
    exact ⟨rfl, rfl⟩

/-- what find answers -/
def TbV.fdOk (t : TbV) (p fd : Int) : Bool := decide (0 ≤ fd) && (decide (fd < 8) && !decide ((t.p p.toNat).f fd.toNat = FdV.zero))
def FoundT (t : TbV) (g : Nat) (p fd : Int) (w : World) (e : Ending) (w' : World) : Prop :=
  w = w' ∧ ((t.has p = false ∧ e = .returned (.tuple #[.pointer none, .int .i64 12])) ∨ (t.has p = true ∧ t.fdOk p fd = false ∧ e = .returned (.tuple #[.pointer none, .int .i64 13])) ∨
    (t.has p = true ∧ t.fdOk p fd = true ∧ ∃ k i : Nat, p = k ∧ fd = i ∧ k < 13 ∧ i < 8 ∧ e = .returned (.tuple #[.pointer (some ⟨g, k * 38 + 6 + i * 4, none⟩), .int .i64 0])))
theorem TbV.has_nat {t : TbV} {p : Int} (h : t.has p = true) : ∃ k : Nat, p = k ∧ 1 ≤ k ∧ k < 13 ∧ t.th k = true := by
  unfold TbV.has at h
  simp at h
  exact ⟨p.toNat, by omega, by omega, by omega, h.2.2⟩
theorem IsT.fd {w : World} {base g : Nat} {t : TbV} (h : IsT w base g t) {k i c : Nat} (hp : k < 13) (hi : i < 8) (hc : c < 4) : w.cell? ⟨g, k * 38 + 6 + i * 4 + c, none⟩ = some (((t.p k).f i).cell c) := by
  have := h.cell (p := k) (j := 6 + i * 4 + c) hp (by omega)
  rw [show 38 * k + (6 + i * 4 + c) = k * 38 + 6 + i * 4 + c from by omega] at this
  rw [this, PrV.cell, if_neg (by omega), if_neg (by omega), if_neg (by omega), show (6 + i * 4 + c - 6) / 4 = i from by omega, show (6 + i * 4 + c - 6) % 4 = c from by omega]

theorem IsT.fdFacts {w : World} {base g : Nat} {t : TbV} (h : IsT w base g t) {k i : Nat} (hk : k < 13) (hi : i < 8) :
    w.cell? ⟨g, k * 38 + 6 + i * 4, none⟩ = some (.int .i64 ((t.p k).f i).k) ∧ w.cell? ⟨g, k * 38 + 6 + i * 4 + 1, none⟩ = some (.int .i64 ((t.p k).f i).t) ∧ w.cell? ⟨g, k * 38 + 6 + i * 4 + 2, none⟩ = some (.int .i64 ((t.p k).f i).a) ∧ w.cell? ⟨g, k * 38 + 6 + i * 4 + 3, none⟩ = some (.bool ((t.p k).f i).w) ∧
    w.frozen? ⟨g, k * 38 + 6 + i * 4, none⟩ = false ∧ w.frozen? ⟨g, k * 38 + 6 + i * 4 + 1, none⟩ = false ∧ w.frozen? ⟨g, k * 38 + 6 + i * 4 + 2, none⟩ = false ∧ w.frozen? ⟨g, k * 38 + 6 + i * 4 + 3, none⟩ = false :=
  by
  have d0 := h.fd (c := 0) hk hi (by omega)
  have d1 := h.fd (c := 1) hk hi (by omega)
  have d2 := h.fd (c := 2) hk hi (by omega)
  have d3 := h.fd (c := 3) hk hi (by omega)
  rw [Nat.add_zero] at d0
  simp only [FdV.cell, FdV.cells, List.getD_cons_zero, List.getD_cons_succ] at d0 d1 d2 d3
  exact ⟨d0, d1, d2, d3, h.1.frozen _, h.1.frozen _, h.1.frozen _, h.1.frozen _⟩

set_option maxHeartbeats 1000000 in
theorem find_any (w : World) (base g : Nat) (t : TbV) (p fd : Int) (h : IsT w base g t) :
    Calls Try.prog 24 #[.pointer (some ⟨g, 0, none⟩), .int .i64 p, .int .i64 fd] w (FoundT t g p fd w) := by
  have hhas := has_any w base g t p h
  cases hh : t.has p with
  | false =>
    rw [hh] at hhas
    have HH := hide hhas
    clear hhas h
    go_enter Try.func24, Try.ntmps24
    go_wp2_with fail
    refine (unhid_ HH).mono ?_
    rintro e w' ⟨rfl, rfl⟩
    go_wp2
    go_ret2
    exact ⟨rfl, .inl ⟨hh, rfl⟩⟩
  | true =>
    rw [hh] at hhas
    have HH := hide hhas
    clear hhas
    by_cases h1 : 0 ≤ fd ∧ fd < 8
    · obtain ⟨h1, h2⟩ := h1
      obtain ⟨i, rfl⟩ := Int.eq_ofNat_of_zero_le h1
      obtain ⟨k, rfl, _, hk, _⟩ := TbV.has_nat hh
      have d0 := h.fd (k := k) (i := i) (c := 0) hk (by omega) (by omega)
      have d1 := h.fd (k := k) (i := i) (c := 1) hk (by omega) (by omega)
      have d2 := h.fd (k := k) (i := i) (c := 2) hk (by omega) (by omega)
      have d3 := h.fd (k := k) (i := i) (c := 3) hk (by omega) (by omega)
      have hok : t.fdOk (k : Int) (i : Int) = !decide ((t.p k).f i = FdV.zero) := by unfold TbV.fdOk; simp [h1, h2]
      obtain ⟨⟨fk, ft, fa, fw⟩, hf⟩ : ∃ f, f = (t.p k).f i := ⟨_, rfl⟩
      rw [← hf] at d0 d1 d2 d3 hok
      simp only [FdV.cell, FdV.cells, List.getD_cons_zero, List.getD_cons_succ, Nat.add_zero] at d0 d1 d2 d3
      have HOK := Lib.hid hok
      have hi8 : i < 8 := by omega
      have hh' := Lib.hid hh
      clear h hf hok hh
      go_enter Try.func24, Try.ntmps24
      go_wp2_with fail
      refine (unhid_ HH).mono ?_
      rintro e w' ⟨rfl, rfl⟩
      go_wp2
      all_goals
        go_ret2
        first
          | exact ⟨rfl, .inr (.inl ⟨hh'.out, by rw [HOK.out, Bool.not_eq_false']; exact decide_eq_true (by rw [FdV.zero, FdV.mk.injEq]; exact ⟨by omega, by omega, by omega, by first | rfl | assumption | simp_all⟩), rfl⟩)⟩
          | exact ⟨rfl, .inr (.inr ⟨hh'.out, by rw [HOK.out, Bool.not_eq_true']; exact decide_eq_false (fun e => by rw [FdV.zero, FdV.mk.injEq] at e; obtain ⟨e1, e2, e3, e4⟩ := e; first | omega | contradiction | simp_all), k, i, rfl, rfl, hk, hi8, rfl⟩)⟩
    · have hok : t.fdOk p fd = false := by
        unfold TbV.fdOk
        simp
        intro h2 h3
        omega
      have h1' : fd < 0 ∨ (0 ≤ fd ∧ 8 ≤ fd) := by omega
      clear h1 h
      rcases h1' with h1 | ⟨h0, h1⟩
      all_goals
        go_enter Try.func24, Try.ntmps24
        go_wp2_with fail
        refine (unhid_ HH).mono ?_
        rintro e w' ⟨rfl, rfl⟩
        go_wp2
        go_ret2
        exact ⟨rfl, .inr (.inl ⟨hh, hok, rfl⟩)⟩

def TbV.setPr (t : TbV) (k : Nat) (x : PrV) : TbV := { t with p := fun j => if j = k then x else t.p j }
def TbV.setTh (t : TbV) (k : Nat) (b : Bool) : TbV := { t with th := fun j => if j = k then b else t.th j }
def PrV.setFd (x : PrV) (i : Nat) (f : FdV) : PrV := { x with f := fun j => if j = i then f else x.f j }
def PrV.setBuf (x : PrV) (i : Nat) (b : BufV) : PrV := { x with b := fun j => if j = i then b else x.b j }
def TbV.setFd (t : TbV) (k i : Nat) (f : FdV) : TbV := t.setPr k ((t.p k).setFd i f)
theorem FdV.cells_length (f : FdV) : f.cells.length = 4 := rfl
theorem cell_setFd {t : TbV} {k i : Nat} {f : FdV} (hk : k < 13) (hi : i < 8) : ∀ j, j < 507 → putAt t.cell (k * 38 + 6 + i * 4) f.cells j = (t.setFd k i f).cell j := by
  intro j hj
  unfold putAt
  rw [FdV.cells_length]
  by_cases h1 : k * 38 + 6 + i * 4 ≤ j ∧ j < k * 38 + 6 + i * 4 + 4
  · obtain ⟨c, rfl⟩ : ∃ c, j = k * 38 + 6 + i * 4 + c := ⟨j - (k * 38 + 6 + i * 4), by omega⟩
    have hc : c < 4 := by omega
    have e1 : (k * 38 + 6 + i * 4 + c) / 38 = k := by omega
    have e2 : (k * 38 + 6 + i * 4 + c) % 38 = 6 + i * 4 + c := by omega
    have e3 : k * 38 + 6 + i * 4 + c - (k * 38 + 6 + i * 4) = c := by omega
    rw [if_pos h1, TbV.cell, if_pos (by omega), e1, e2, e3]
    simp only [TbV.setFd, TbV.setPr, if_true]
    have e4 : (6 + i * 4 + c - 6) / 4 = i := by omega
    have e5 : (6 + i * 4 + c - 6) % 4 = c := by omega
    rw [PrV.cell, if_neg (by omega), if_neg (by omega), if_neg (by omega), e4, e5]
    simp only [PrV.setFd, if_true]
    rfl
  · rw [if_neg h1, TbV.cell, TbV.cell]
    by_cases h2 : j < 494
    · rw [if_pos h2, if_pos h2]
      simp only [TbV.setFd, TbV.setPr]
      by_cases h3 : j / 38 = k
      · rw [if_pos h3, PrV.cell, PrV.cell]
        subst h3
        by_cases h4 : j % 38 < 6
        · simp only [PrV.setFd, h4, if_true]
        · have h5 : ¬ (j % 38 - 6) / 4 = i := by omega
          simp only [PrV.setFd, h5, if_false]
      · rw [if_neg h3]
    · rw [if_neg h2, if_neg h2]; rfl
theorem Blk.there {w : World} {g n : Nat} {t : TypeId} {C : Nat → Value} (h : Blk w g t (Tb n C)) {o m : Nat} (hm : o + m ≤ n) : w.there g o m := by
  intro j hj
  refine ⟨?_, h.frozen _⟩
  rw [h.cell, Tb_at _ (by omega)]
  rfl
theorem own_setCells {base : Nat} {e : TypeId} {size n : Nat} {v : Value} {xs : List Value} {g : Nat} (hg : g < base) : ∀ (vs : List Value) (o : Nat) (w : World), w.ownsRow base e size v n xs → (w.setCells g o vs).ownsRow base e size v n xs
  | [], _, _, h => h
  | u :: vs, o, w, h => own_setCells hg vs (o + 1) (w.setCell ⟨g, o, none⟩ u) (ownsRow_setCell_below h (a := ⟨g, o, none⟩) hg u)
/-- cells of the table turned: its buffers' rows stand -/
theorem IsT.setCells {w : World} {base g : Nat} {t t' : TbV} (h : IsT w base g t) {o : Nat} {vs : List Value} (hc : ∀ j, j < 507 → putAt t.cell o vs j = t'.cell j) (hb : ∀ p i, p < 13 → i < 4 → (t'.p p).b i = (t.p p).b i) : IsT (w.setCells g o vs) base g t' := by
  refine ⟨?_, h.2.1, fun p i hp hi => ?_⟩
  · have := Blk.setCells vs t.cell o w h.1
    rw [Tb_congr hc] at this
    exact this
  · rw [hb p i hp hi]
    exact ⟨own_setCells h.2.1 vs o w (h.2.2 p i hp hi).1, (h.2.2 p i hp hi).2⟩
theorem IsT.setFd {w : World} {base g : Nat} {t : TbV} (h : IsT w base g t) {k i : Nat} (f : FdV) (hk : k < 13) (hi : i < 8) : IsT (w.setCells g (k * 38 + 6 + i * 4) f.cells) base g (t.setFd k i f) :=
  h.setCells (cell_setFd hk hi) fun p i hp hi => by
    simp only [TbV.setFd, TbV.setPr]
    split
    · rename_i e; subst e; rfl
    · rfl
/-- what Close answers -/
def TbV.close (t : TbV) (p fd : Int) : TbV := if t.has p && t.fdOk p fd then t.setFd p.toNat fd.toNat FdV.zero else t
def TbV.fdErr (t : TbV) (p fd : Int) : Int := if t.has p = false then 12 else if t.fdOk p fd = false then 13 else 0
def ClosedT (t : TbV) (base g : Nat) (p fd : Int) (w : World) (e : Ending) (w' : World) : Prop :=
  e = .returned (.int .i64 (t.fdErr p fd)) ∧ IsT w' base g (t.close p fd) ∧ Only [g] w w' ∧ w'.heap.size = w.heap.size

set_option maxHeartbeats 1000000 in
theorem close_any (w : World) (base g : Nat) (t : TbV) (p fd : Int) (h : IsT w base g t) :
    Calls Try.prog 12 #[.pointer (some ⟨g, 0, none⟩), .int .i64 p, .int .i64 fd] w (ClosedT t base g p fd w) := by
  have HF := hide (find_any w base g t p fd h)
  have H := hide h
  clear h
  go_enter Try.func12, Try.ntmps12
  go_wp2_with fail
  refine (unhid_ HF).mono ?_
  rintro e w' ⟨rfl, hor⟩
  have hor' := hor
  rcases hor with ⟨h1, rfl⟩ | ⟨h1, h2, rfl⟩ | ⟨h1, h2, k, i, rfl, rfl, hk, hi, rfl⟩
  · clear hor'
    go_wp2
    go_ret
    refine ⟨by simp [TbV.fdErr, h1], ?_, Only.refl _ _, rfl⟩
    rw [TbV.close, h1]
    exact unhid_ H
  · clear hor'
    go_wp2
    go_ret
    refine ⟨by simp [TbV.fdErr, h1, h2], ?_, Only.refl _ _, rfl⟩
    rw [TbV.close, h1, h2]
    exact unhid_ H
  · clear hor'
    obtain ⟨d0, d1, d2, d3, f0, f1, f2, f3⟩ := (unhid_ H).fdFacts hk hi
    go_wp2
    go_ret
    refine ⟨by simp [TbV.fdErr, h1, h2], ?_, Only.setCells FdV.zero.cells g (k * 38 + 6 + i * 4) w (Only.refl [g] w) (.inl (by simp)), setCells_size FdV.zero.cells g (k * 38 + 6 + i * 4) w⟩
    rw [TbV.close, h1, h2]
    exact (unhid_ H).setFd FdV.zero hk hi
end Go.Proofs.Ytgdloahgokefpaa
