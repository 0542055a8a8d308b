/- What a call at both tables leaves. -/
import Derived.Test.YtgdloahgokefpaaTPair
import Derived.Test.YtgdloahgokefpaaPlace
namespace Go.Proofs.Ytgdloahgokefpaa
open Go.RowKit
set_option linter.unusedSimpArgs false

/-- a call, as the law has it -/
structure OpV where
  k : Int
  p : Int
  n : Int
  m : Int
  f : FdV
  A : Option Addr
  c : Nat
  xs : List Int
def OpV.val (x : OpV) : Value := .agg #[.int .i64 x.k, .int .i64 x.p, .int .i64 x.n, .int .i64 x.m, .int .i64 x.f.k, .int .i64 x.f.t, .int .i64 x.f.a, .bool x.f.w, .slice x.A x.xs.length x.c]
def OpV.blk (x : OpV) : Array Value := #[.int .i64 x.k, .int .i64 x.p, .int .i64 x.n, .int .i64 x.m, .int .i64 x.f.k, .int .i64 x.f.t, .int .i64 x.f.a, .bool x.f.w, .slice x.A x.xs.length x.c]
/-- what is not of process P is as it was -/
def Fr (P : Int) (t t' : TbV) : Prop := t'.th = t.th ∧ ∀ q : Nat, (q : Int) ≠ P → t'.p q = t.p q
theorem Fr.refl (P : Int) (t : TbV) : Fr P t t := ⟨rfl, fun _ _ => rfl⟩
theorem Fr.trans {P : Int} {a b c : TbV} (h : Fr P a b) (k : Fr P b c) : Fr P a c := ⟨k.1.trans h.1, fun q hq => (k.2 q hq).trans (h.2 q hq)⟩
theorem Fr.setPr (t : TbV) (k : Nat) (x : PrV) : Fr (k : Int) t (t.setPr k x) := ⟨rfl, fun q hq => by
  show (if q = k then x else t.p q) = _
  rw [if_neg (by omega)]⟩
theorem Fr.openT (t : TbV) (p : Int) (f : FdV) : Fr p t (t.openT p f) := by
  unfold TbV.openT
  cases hp : t.has p with
  | false => exact Fr.refl _ _
  | true =>
    obtain ⟨k, rfl, _, _, _⟩ := TbV.has_nat hp
    rw [Int.toNat_natCast]
    cases f.bad with
    | true => exact Fr.refl _ _
    | false =>
      cases (t.p k).free with
      | none => exact Fr.refl _ _
      | some i => exact Fr.setPr _ _ _
theorem Fr.close (t : TbV) (p fd : Int) : Fr p t (t.close p fd) := by
  unfold TbV.close
  cases hp : t.has p with
  | false => exact Fr.refl _ _
  | true =>
    obtain ⟨k, rfl, _, _, _⟩ := TbV.has_nat hp
    rw [Int.toNat_natCast]
    cases t.fdOk (k : Int) fd with
    | false => exact Fr.refl _ _
    | true => exact Fr.setPr _ _ _
theorem Fr.seek (t : TbV) (p fd at_ : Int) : Fr p t (t.seek p fd at_) := by
  unfold TbV.seek
  by_cases he : t.seekErr p fd at_ = 0
  · rw [if_pos he]
    have he2 : t.fdErr p fd = 0 := by
      rcases Decidable.em (t.fdErr p fd = 0) with h1 | h1
      · exact h1
      · unfold TbV.seekErr at he
        rw [if_pos h1] at he
        exact he
    obtain ⟨k, i, rfl, rfl, _⟩ := fdErr_zero he2
    rw [Int.toNat_natCast]
    exact Fr.setPr _ _ _
  · rw [if_neg he]
    exact Fr.refl _ _
theorem Fr.setN (t : TbV) (p n : Int) : Fr p t (t.setN p n) := by
  unfold TbV.setN
  cases hp : t.has p with
  | false => exact Fr.refl _ _
  | true =>
    obtain ⟨k, rfl, _, _, _⟩ := TbV.has_nat hp
    rw [Int.toNat_natCast]
    exact Fr.setPr _ _ _

/-- both tables in memory -/
structure Bo (w : World) (B gt gr : Nat) (t : TbV) (r : Nat → RpV) : Prop where
  T : IsT w B gt t
  R : IsR w gr r
  M : Mt t r
  I : Iv t
  rB : gr < B
  ne : gt ≠ gr
  sz : B ≤ w.heap.size
theorem Bo.below {w w' : World} {B gt gr : Nat} {t : TbV} {r : Nat → RpV} (h : Bo w B gt gr t r) (hb : Below w.heap.size w w') : Bo w' B gt gr t r :=
  ⟨h.T.below hb, h.R.below hb h.R.lt, h.M, h.I, h.rB, h.ne, Nat.le_trans h.sz hb.size⟩
/-- what a call at both leaves: true; both tell alike still -/
def DoT (B gt gr : Nat) (t : TbV) (x : OpV) (w : World) (e : Ending) (w' : World) : Prop :=
  e = .returned (.bool true) ∧ Only [gt, gr] w w' ∧ ∃ (t' : TbV) (r' : Nat → RpV), Bo w' B gt gr t' r' ∧ (2 ≤ x.k % 10 → Fr x.p t t')
theorem Bo.mk2 {w w1 w2 : World} {B gt gr : Nat} {t t' : TbV} {r r' : Nat → RpV} (h : Bo w B gt gr t r) (h1 : IsT w1 B gt t') (h2 : IsR w2 gr r') (hm : Mt t' r') (hi : Iv t') (ho1 : Only [gt] w w1) (ho2 : Only [gr] w1 w2) : Bo w2 B gt gr t' r' :=
  ⟨h1.only ho2 (by simp; exact h.ne) (fun k hk => by simp at hk; subst hk; exact .inl h.rB), h2, hm, hi, h.rB, h.ne, Nat.le_trans h.sz (Nat.le_trans ho1.size ho2.size)⟩
theorem Only.two {w w1 w2 : World} {gt gr : Nat} (h1 : Only [gt] w w1) (h2 : Only [gr] w1 w2) : Only [gt, gr] w w2 :=
  (h1.more (by simp)).trans (h2.more (by simp))
theorem Bo.R1 {w w1 : World} {B gt gr : Nat} {t : TbV} {r : Nat → RpV} (h : Bo w B gt gr t r) (ho : Only [gt] w w1) : IsR w1 gr r := ho.blk h.R (by simp; exact fun e => h.ne e.symm)

theorem SpawnedT.pair {w w1 : World} {B gt gr : Nat} {t : TbV} {r : Nat → RpV} {fr ob nd : Int} {e : Ending} (hb : Bo w B gt gr t r) (h : SpawnedT t B gt fr ob nd w e w1) :
    ∃ (a er : Int) (t' : TbV) (r' : Nat → RpV), e = .returned (.tuple #[.int .i64 a, .int .i64 er]) ∧ Only [gt] w w1 ∧ IsT w1 B gt t' ∧ Mt t' r' ∧ Iv t' ∧ ∀ (wa w2 : World) (e2 : Ending), RSpawned r gr fr ob nd wa e2 w2 → e2 = .returned (.tuple #[.int .i64 a, .int .i64 er]) ∧ Only [gr] wa w2 ∧ IsR w2 gr r' := by
  obtain ⟨ho, hor⟩ := h
  rcases hor with ⟨h1, rfl, h2⟩ | ⟨h0, h1, rfl, h2⟩ | ⟨h0, p, x, hp1, hp, hs, rfl, hxo, hxn, hxf, hxb, h2⟩
  · refine ⟨0, 12, t, r, rfl, ho, h2, hb.M, hb.I, ?_⟩
    rintro wa w2 e2 ⟨q1, q2⟩
    rcases q2 with ⟨_, rfl, q3⟩ | ⟨q0, _⟩ | ⟨q0, _⟩
    · exact ⟨rfl, q1, q3⟩
    · rw [hb.M.bad, h1] at q0; cases q0
    · rw [hb.M.bad, h1] at q0; cases q0
  · refine ⟨0, 5, t, r, rfl, ho, h2, hb.M, hb.I, ?_⟩
    rintro wa w2 e2 ⟨q1, q2⟩
    rcases q2 with ⟨q0, _⟩ | ⟨_, _, rfl, q3⟩ | ⟨_, q, _, _, q0, _⟩
    · rw [hb.M.bad, h0] at q0; cases q0
    · exact ⟨rfl, q1, q3⟩
    · rw [hb.M.slot, h1] at q0; cases q0
  · obtain ⟨m1, m2⟩ := hb.M.spawn hb.I h0 hp1 hxo hxn hxf hxb
    refine ⟨p, 0, t.put p x, setP r p (rnew r fr ob nd), rfl, ho, h2, m1, m2, ?_⟩
    rintro wa w2 e2 ⟨q1, q2⟩
    rcases q2 with ⟨q0, _⟩ | ⟨_, q0, _⟩ | ⟨_, q, _, _, q0, rfl, q3⟩
    · rw [hb.M.bad, h0] at q0; cases q0
    · rw [hb.M.slot, hs] at q0; cases q0
    · rw [hb.M.slot, hs] at q0
      obtain rfl : p = q := by injection q0
      exact ⟨rfl, q1, q3⟩
theorem OpenedT.pair {w w1 : World} {B gt gr : Nat} {t : TbV} {r : Nat → RpV} {p : Int} {f : FdV} {e : Ending} (hb : Bo w B gt gr t r) (h : OpenedT t B gt p f w e w1) :
    ∃ (a er : Int) (t' : TbV) (r' : Nat → RpV), e = .returned (.tuple #[.int .i64 a, .int .i64 er]) ∧ Only [gt] w w1 ∧ IsT w1 B gt t' ∧ Mt t' r' ∧ Iv t' ∧ Fr p t t' ∧ ∀ (wa w2 : World) (e2 : Ending), ROpened r gr p f wa e2 w2 → e2 = .returned (.tuple #[.int .i64 a, .int .i64 er]) ∧ Only [gr] wa w2 ∧ IsR w2 gr r' := by
  obtain ⟨rfl, h1, h2⟩ := h
  obtain ⟨m1, m2⟩ := hb.M.openT hb.I p f
  obtain ⟨n1, n2⟩ := hb.M.openN hb.I p f
  refine ⟨_, _, _, _, rfl, h2, h1, m1, m2, Fr.openT t p f, ?_⟩
  rintro wa w2 e2 ⟨rfl, q1, q2⟩
  exact ⟨by rw [n1, n2], q2, q1⟩
theorem DupT.pair {w w1 : World} {B gt gr : Nat} {t : TbV} {r : Nat → RpV} {p fd : Int} {e : Ending} (hb : Bo w B gt gr t r) (h : DupT t B gt p fd w e w1) :
    ∃ (a er : Int) (t' : TbV) (r' : Nat → RpV), e = .returned (.tuple #[.int .i64 a, .int .i64 er]) ∧ Only [gt] w w1 ∧ IsT w1 B gt t' ∧ Mt t' r' ∧ Iv t' ∧ Fr p t t' ∧ ∀ (wa w2 : World) (e2 : Ending), RDup r gr p fd wa e2 w2 → e2 = .returned (.tuple #[.int .i64 a, .int .i64 er]) ∧ Only [gr] wa w2 ∧ IsR w2 gr r' := by
  rcases h with ⟨h0, rfl, rfl⟩ | ⟨h1, h2, h3⟩
  · refine ⟨_, _, t, r, rfl, Only.refl _ _, hb.T, hb.M, hb.I, Fr.refl _ _, ?_⟩
    rintro wa w2 e2 (⟨q0, rfl, q1, q2⟩ | ⟨q0, _⟩)
    · exact ⟨by rw [hb.M.err hb.I], q2, q1⟩
    · rw [hb.M.err hb.I] at q0; exact absurd q0 h0
  · have he : t.fdErr p fd = 0 := by simp [TbV.fdErr, h1, h2]
    obtain ⟨a, er, t', r', e1, o1, i1, m1, v1, f1, hh⟩ := h3.pair hb
    refine ⟨a, er, t', r', e1, o1, i1, m1, v1, f1, ?_⟩
    rintro wa w2 e2 (⟨q0, _⟩ | ⟨_, q0⟩)
    · rw [hb.M.err hb.I] at q0; exact absurd he q0
    · rw [hb.M.dupV hb.I he] at q0
      exact hh wa w2 e2 q0
end Go.Proofs.Ytgdloahgokefpaa
