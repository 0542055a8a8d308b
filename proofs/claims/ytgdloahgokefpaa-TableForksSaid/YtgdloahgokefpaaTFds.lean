/- The walk of Table.Dup, and the plain law of TableFds. -/
import Derived.Test.YtgdloahgokefpaaTNum
namespace Go.Proofs.Ytgdloahgokefpaa
open Go.RowKit
set_option linter.unusedSimpArgs false

def TbV.dupF (t : TbV) (p fd : Int) : FdV := (t.p p.toNat).f fd.toNat
/-- what Dup answers -/
def DupT (t : TbV) (base g : Nat) (p fd : Int) (w : World) (e : Ending) (w' : World) : Prop :=
  (t.fdErr p fd ≠ 0 ∧ e = .returned (.tuple #[.int .i64 0, .int .i64 (t.fdErr p fd)]) ∧ w = w') ∨ (t.has p = true ∧ t.fdOk p fd = true ∧ OpenedT t base g p (t.dupF p fd) w e w')

set_option maxHeartbeats 1000000 in
theorem dup_any (w : World) (base g : Nat) (t : TbV) (p fd : Int) (h : IsT w base g t) :
    Calls Try.prog 18 #[.pointer (some ⟨g, 0, none⟩), .int .i64 p, .int .i64 fd] w (DupT t base g p fd w) := by
  have HF := hide (find_any w base g t p fd h)
  have H := hide h
  clear h
  go_enter Try.func18, Try.ntmps18
  go_wp2_with fail
  refine (unhid_ HF).mono ?_
  rintro e w' ⟨rfl, hor⟩
  rcases hor with ⟨h1, rfl⟩ | ⟨h1, h2, rfl⟩ | ⟨h1, h2, k, i, rfl, rfl, hk, hi, rfl⟩
  · go_wp2
    go_ret2
    have e12 : t.fdErr p fd = 12 := by simp [TbV.fdErr, h1]
    exact .inl ⟨by rw [e12]; decide, by rw [e12]; rfl, rfl⟩
  · go_wp2
    go_ret2
    have e13 : t.fdErr p fd = 13 := by simp [TbV.fdErr, h1, h2]
    exact .inl ⟨by rw [e13]; decide, by rw [e13]; rfl, rfl⟩
  · obtain ⟨d0, d1, d2, d3, f0, f1, f2, f3⟩ := (unhid_ H).fdFacts hk hi
    have HO := hide (open_any w base g t k ((t.p k).f i) (unhid_ H))
    go_wp2_with fail
    refine (unhid_ HO).mono ?_
    rintro e w' ⟨rfl, hT, hO⟩
    go_wp2
    go_ret2
    refine .inr ⟨h1, h2, ?_, ?_, hO⟩
    · simp only [TbV.dupF, Int.toNat_natCast]; rfl
    · simpa only [TbV.dupF, Int.toNat_natCast] using hT

def FdV.good (f : FdV) : Prop := (f.k = 2 ∨ f.k = 4) ∧ 0 ≤ f.t ∧ f.t < 60 ∧ 0 ≤ f.a
/-- one process, whose descriptors O are open -/
def FdSt (t : TbV) (O : Nat → Bool) : Prop := (∀ p, p < 13 → t.th p = decide (p = 1)) ∧ (∀ p, p < 13 → p ≠ 1 → t.F p = fun _ => FdV.zero) ∧ ∀ j, j < 8 → (O j = false ∧ t.F 1 j = FdV.zero) ∨ (O j = true ∧ (t.F 1 j).good)
theorem FdV.good.ne {f : FdV} (h : f.good) : f ≠ FdV.zero := by
  rintro rfl
  obtain ⟨h, _⟩ := h
  simp [FdV.zero] at h
theorem FdSt.has {t : TbV} {O : Nat → Bool} (h : FdSt t O) : t.has 1 = true := by
  unfold TbV.has
  simp [h.1 1 (by omega)]
theorem FdSt.open_ {t : TbV} {O : Nat → Bool} (h : FdSt t O) {j : Nat} (hj : j < 8) : decide (t.F 1 j = FdV.zero) = !O j := by
  rcases h.2.2 j hj with ⟨h1, h2⟩ | ⟨h1, h2⟩
  · rw [h1, h2]; simp
  · rw [h1]; simp [h2.ne]
theorem FdSt.ok {t : TbV} {O : Nat → Bool} (h : FdSt t O) {j : Nat} (hj : j < 8) : t.fdOk 1 (j : Int) = O j := by
  have e := h.open_ hj
  have e' : decide ((t.p 1).f j = FdV.zero) = !O j := e
  unfold TbV.fdOk
  rw [Int.toNat_natCast, show (1 : Int).toNat = 1 from rfl, e']
  have : (j : Int) < 8 := by omega
  simp [this]
theorem FdSt.err {t : TbV} {O : Nat → Bool} (h : FdSt t O) {j : Nat} (hj : j < 8) : t.fdErr 1 (j : Int) = if O j = true then 0 else 13 := by
  unfold TbV.fdErr
  rw [h.has, h.ok hj]
  cases O j <;> rfl
theorem FdSt.set_ {t : TbV} {O : Nat → Bool} (h : FdSt t O) {k : Nat} {f : FdV} {b : Bool} (hf : (b = false ∧ f = FdV.zero) ∨ (b = true ∧ f.good)) : FdSt (t.setFd 1 k f) (off O k b) := by
  refine ⟨h.1, fun p hp h1 => ?_, fun j hj => ?_⟩
  · rw [F_setFd]
    show (if p = 1 then _ else t.F p) = _
    rw [if_neg h1]
    exact h.2.1 p hp h1
  · rw [F_setFd]
    show (off O k b j = false ∧ (if j = k then f else t.F 1 j) = FdV.zero) ∨ (off O k b j = true ∧ (if j = k then f else t.F 1 j).good)
    unfold off
    by_cases e : j = k
    · simp only [if_pos e]; exact hf
    · simp only [if_neg e]; exact h.2.2 j hj
theorem FdSt.close {t : TbV} {O : Nat → Bool} (h : FdSt t O) {k : Nat} (hk : k < 8) : FdSt (t.close 1 (k : Int)) (off O k false) := by
  unfold TbV.close
  rw [h.has, h.ok hk]
  cases hO : O k with
  | true => exact h.set_ (k := k) (f := FdV.zero) (.inl ⟨rfl, rfl⟩)
  | false =>
    have e : off O k false = O := by
      funext j
      unfold off
      by_cases e : j = k
      · rw [if_pos e, e, hO]
      · rw [if_neg e]
    rw [e]
    exact h
theorem FdSt.free {t : TbV} {O : Nat → Bool} (h : FdSt t O) {q : Nat} (hq : q < 8) (h0 : O q = false) (hall : ∀ j, j < q → O j = true) : (t.p 1).free = some q := by
  rw [free_F]
  exact find_range _ 8 q hq (by rw [h.open_ hq, h0]; rfl) fun j hj => by rw [h.open_ (by omega), hall j hj]; rfl
theorem FdSt.full {t : TbV} {O : Nat → Bool} (h : FdSt t O) (hall : ∀ j, j < 8 → O j = true) : (t.p 1).free = none := by
  rw [free_F]
  exact find_range_none _ 8 fun j hj => by rw [h.open_ hj, hall j hj]; rfl

theorem FdSt.zero {t : TbV} (hF : t.F = fun _ _ => FdV.zero) (hT : t.th = fun p => decide (p = 1)) : FdSt t (fun _ => false) :=
  ⟨fun p _ => by rw [hT], fun p _ _ => by rw [hF], fun j _ => .inl ⟨rfl, by rw [hF]⟩⟩
/-- no more room -/
theorem dup_full (w : World) (base g : Nat) (t : TbV) (O : Nat → Bool) (h : IsT w base g t) (hF : FdSt t O) (hall : ∀ j, j < 8 → O j = true) :
    Calls Try.prog 18 #[.pointer (some ⟨g, 0, none⟩), .int .i64 1, .int .i64 0] w fun e w' => e = .returned (.tuple #[.int .i64 0, .int .i64 5]) ∧ IsT w' base g t ∧ Only [g] w w' := by
  refine (dup_any w base g t 1 0 h).mono ?_
  rintro e w' (⟨h1, _⟩ | ⟨_, _, rfl, hT, hO⟩)
  · have := hF.err (j := 0) (by omega)
    rw [hall 0 (by omega)] at this
    exact absurd this h1
  · have hf : (t.p 1).free = none := hF.full hall
    have hg : (t.dupF 1 0).bad = false := by
      rcases hF.2.2 0 (by omega) with ⟨h1, _⟩ | ⟨_, h1, h2, h3, h4⟩
      · rw [hall 0 (by omega)] at h1; cases h1
      · have e : t.dupF 1 0 = t.F 1 0 := rfl
        rw [e]
        unfold FdV.bad
        simp
        omega
    refine ⟨?_, ?_, hO⟩
    · simp [TbV.openN, TbV.openE, hF.has, hg, hf]
    · have e : t.openT 1 (t.dupF 1 0) = t := by simp [TbV.openT, hF.has, hg, hf]
      rwa [e] at hT

/-- how many are open, of things below m -/
def under (O : Nat → Bool) (G : Nat → FdV) (n m : Nat) : Nat := ((List.range n).filter fun j => O j && decide ((G j).t < (m : Int))).length
theorem under_succ (O : Nat → Bool) (G : Nat → FdV) (n m : Nat) : under O G (n + 1) m = under O G n m + (if (O n && decide ((G n).t < (m : Int))) = true then 1 else 0) := by
  simp only [under, List.range_succ, List.filter_append, List.length_append, List.filter_cons, List.filter_nil]
  split <;> rfl
theorem FdSt.step {t : TbV} {O : Nat → Bool} (h : FdSt t O) (m : Nat) : ∀ n, n ≤ 8 → under O (t.F 1) n (m + 1) = under O (t.F 1) n m + cntR (t.F 1) 2 m n + cntR (t.F 1) 4 m n
  | 0, _ => rfl
  | n + 1, hn => by
    have ih := FdSt.step h m n (by omega)
    rw [under_succ, under_succ, cntR_succ, cntR_succ, ih]
    rcases h.2.2 n (by omega) with ⟨h1, h2⟩ | ⟨h1, h2⟩
    · rw [h1, h2]
      simp [FdV.counts]
    · obtain ⟨hk, ht0, _, _⟩ := id h2
      have hz := h2.ne
      have e1 : (t.F 1 n).asWrite 2 = false := by simp [FdV.asWrite]
      have e2 : (t.F 1 n).asWrite 4 = false := by simp [FdV.asWrite]
      have ez : decide (t.F 1 n = FdV.zero) = false := by simp [hz]
      rw [h1, e1, e2]
      simp only [FdV.counts, ez, Bool.not_false, Bool.true_and, Bool.and_true, Bool.and_eq_true, decide_eq_true_eq]
      rcases hk with hk | hk <;> rw [hk] <;> simp <;> split <;> split <;> (try split) <;> omega
theorem under_zero {t : TbV} {O : Nat → Bool} (h : FdSt t O) : ∀ n, n ≤ 8 → under O (t.F 1) n 0 = 0
  | 0, _ => rfl
  | n + 1, hn => by
    rw [under_succ, under_zero h n (by omega)]
    rcases h.2.2 n (by omega) with ⟨h1, h2⟩ | ⟨h1, h2⟩
    · simp [h1]
    · have := h2.2.1
      simp [h1]
      omega
def opens (O : Nat → Bool) : Nat → Nat
  | 0 => 0
  | k + 1 => opens O k + (if O k = true then 1 else 0)
theorem opens_le (O : Nat → Bool) : ∀ k, opens O k ≤ k
  | 0 => Nat.le_refl _
  | k + 1 => by
    have := opens_le O k
    show opens O k + _ ≤ _
    split <;> omega
theorem under_all {t : TbV} {O : Nat → Bool} (h : FdSt t O) : ∀ n, n ≤ 8 → under O (t.F 1) n 60 = opens O n
  | 0, _ => rfl
  | n + 1, hn => by
    rw [under_succ, under_all h n (by omega)]
    show _ = opens O n + _
    congr 1
    rcases h.2.2 n (by omega) with ⟨h1, h2⟩ | ⟨h1, h2⟩
    · simp [h1]
    · have := h2.2.2.1
      rw [h1]
      simp
      omega
theorem under_le (O : Nat → Bool) (G : Nat → FdV) (n m : Nat) : under O G n m ≤ n := by
  have := List.length_filter_le (fun j => O j && decide ((G j).t < (m : Int))) (List.range n)
  simpa [under] using this
theorem cntR_zero (kind thing : Int) : ∀ n, cntR (fun _ => FdV.zero) kind thing n = 0
  | 0 => rfl
  | n + 1 => by rw [cntR_succ, cntR_zero kind thing n]; simp [FdV.counts]
theorem cntW_none (f : Nat → FdV) {kind : Int} (thing : Int) (hk : kind ≠ 3) : ∀ n, cntW f kind thing n = 0
  | 0 => rfl
  | n + 1 => by rw [cntW_succ, cntW_none f thing hk n]; simp [FdV.asWrite, hk]
theorem FdSt.reads {t : TbV} {O : Nat → Bool} (h : FdSt t O) (kind thing : Int) : ∀ n, n ≤ 13 → readsF t.F kind thing n = if 1 < n then cntR (t.F 1) kind thing 8 else 0
  | 0, _ => rfl
  | n + 1, hn => by
    rw [reads_succF, FdSt.reads h kind thing n (by omega)]
    by_cases e : n = 1
    · subst e; simp
    · rw [h.2.1 n (by omega) e, cntR_zero]
      simp
      by_cases e2 : 1 < n
      · rw [if_pos e2, if_pos (by omega)]
      · rw [if_neg e2, if_neg (by omega)]
theorem FdSt.writes {t : TbV} {kind : Int} (thing : Int) (hk : kind ≠ 3) : ∀ n, writesF t.F kind thing n = 0
  | 0 => rfl
  | n + 1 => by rw [writes_succF, FdSt.writes thing hk n, cntW_none _ _ hk]
theorem FdSt.uses {t : TbV} {O : Nat → Bool} (h : FdSt t O) (m : Nat) : t.reads 2 m 13 = cntR (t.F 1) 2 m 8 ∧ t.writes 2 m 13 = 0 ∧ t.reads 4 m 13 = cntR (t.F 1) 4 m 8 ∧ t.writes 4 m 13 = 0 := by
  simp only [reads_F, writes_F]
  exact ⟨by rw [h.reads 2 m 13 (Nat.le_refl _)]; rfl, FdSt.writes _ (by decide) _, by rw [h.reads 4 m 13 (Nat.le_refl _)]; rfl, FdSt.writes _ (by decide) _⟩
/-- an array of eight -/
def arr8 (O : Nat → Bool) : Nat → Value := fun j => .bool (O j)
theorem arr8_set (O : Nat → Bool) (k : Nat) (b : Bool) : (Tb 8 (arr8 O)).setIfInBounds k (.bool b) = Tb 8 (arr8 (off O k b)) := by
  rw [Tb_set]
  refine Tb_congr fun j _ => ?_
  show (if j = k then _ else arr8 O j) = arr8 (off O k b) j
  unfold arr8 off
  by_cases h : j = k
  · rw [if_pos h, if_pos h]
  · rw [if_neg h, if_neg h]
def below (n : Nat) : Nat → Bool := fun j => decide (j < n)
theorem off_below (n : Nat) : off (below n) n true = below (n + 1) := by
  funext j
  unfold off below
  by_cases h : j = n
  · subst h; simp
  · rw [if_neg h]
    simp only [decide_eq_decide]
    omega
theorem below_zero : below 0 = fun _ => false := by
  funext j
  simp [below]
end Go.Proofs.Ytgdloahgokefpaa
