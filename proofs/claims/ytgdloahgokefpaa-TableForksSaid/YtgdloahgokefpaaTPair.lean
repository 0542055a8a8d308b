/- The table and the document's table, held side by side: the plain law of each call. -/
import Derived.Test.YtgdloahgokefpaaTRef7
namespace Go.Proofs.Ytgdloahgokefpaa
open Go.RowKit
set_option linter.unusedSimpArgs false

/-- both tell alike -/
structure Mt (t : TbV) (r : Nat → RpV) : Prop where
  th : ∀ k, k < 13 → (r k).th = t.th k
  o : ∀ k, k < 13 → (r k).o = (t.p k).o
  n : ∀ k, k < 13 → (r k).n = (t.p k).n
  f : ∀ k, k < 13 → (r k).f = (t.p k).f
  b : ∀ k i, k < 13 → i < 4 → (r k).b i = strOfNums ((t.p k).b i).xs
/-- there is no process 0; descriptors are none, or of a kind that there is -/
structure Iv (t : TbV) : Prop where
  t0 : t.th 0 = false
  f0 : (t.p 0).f = fun _ => FdV.zero
  fk : ∀ k i, k < 13 → i < 8 → (t.p k).f i = FdV.zero ∨ (2 ≤ ((t.p k).f i).k ∧ ((t.p k).f i).k ≤ 5)

theorem Iv.zero : Iv TbV.zero := ⟨rfl, rfl, fun _ _ _ _ => .inl rfl⟩
theorem Mt.zero : Mt TbV.zero (fun _ => RpV.zero) := ⟨fun _ _ => rfl, fun _ _ => rfl, fun _ _ => rfl, fun _ _ => rfl, fun _ _ _ _ => rfl⟩
theorem Mt.is {t : TbV} {r : Nat → RpV} (h : Mt t r) (p : Int) : ris r p = t.has p := by
  unfold ris TbV.has
  by_cases h1 : 1 ≤ p
  · by_cases h2 : p ≤ 12
    · rw [h.th _ (by omega)]
    · simp [h2]
  · simp [h1]
theorem Iv.zero_iff {t : TbV} (h : Iv t) {k i : Nat} (hk : k < 13) (hi : i < 8) : decide (((t.p k).f i).k = 0) = decide ((t.p k).f i = FdV.zero) := by
  rcases h.fk k i hk hi with e | e
  · rw [e]; rfl
  · have h1 : ¬ ((t.p k).f i).k = 0 := by omega
    have h2 : ¬ (t.p k).f i = FdV.zero := fun e => h1 (by rw [e]; rfl)
    simp [h1, h2]
theorem Mt.rok {t : TbV} {r : Nat → RpV} (h : Mt t r) (hi : Iv t) : ROk r :=
  ⟨fun p i hp hi' => by
    rw [h.f p hp]
    intro e
    rcases hi.fk p i hp hi' with e2 | e2
    · exact e2
    · omega, by rw [h.f 0 (by omega), hi.f0]⟩
theorem Mt.ok {t : TbV} {r : Nat → RpV} (h : Mt t r) (hi : Iv t) {p fd : Int} (hp : t.has p = true) : rfdOk r p fd = t.fdOk p fd := by
  obtain ⟨k, rfl, _, hk, _⟩ := TbV.has_nat hp
  unfold rfdOk TbV.fdOk
  by_cases h1 : 0 ≤ fd
  · by_cases h2 : fd < 8
    · rw [Int.toNat_natCast, h.f k hk, hi.zero_iff hk (by omega)]
    · simp [h2]
  · simp [h1]
theorem Mt.err {t : TbV} {r : Nat → RpV} (h : Mt t r) (hi : Iv t) (p fd : Int) : rfdErr r p fd = t.fdErr p fd := by
  unfold rfdErr TbV.fdErr
  rw [h.is]
  cases hp : t.has p with
  | false => rfl
  | true => rw [h.ok hi hp]
theorem fdErr_zero {t : TbV} {p fd : Int} (h : t.fdErr p fd = 0) : ∃ k i : Nat, p = k ∧ fd = i ∧ 1 ≤ k ∧ k < 13 ∧ i < 8 ∧ t.has p = true ∧ t.fdOk p fd = true ∧ t.dupF p fd = (t.p k).f i := by
  unfold TbV.fdErr at h
  cases h1 : t.has p with
  | false => rw [h1] at h; cases h
  | true =>
    cases h2 : t.fdOk p fd with
    | false => rw [h1, h2] at h; cases h
    | true =>
      obtain ⟨k, rfl, hk1, hk, _⟩ := TbV.has_nat h1
      have h3 := h2
      unfold TbV.fdOk at h3
      simp at h3
      exact ⟨k, fd.toNat, rfl, by omega, hk1, hk, by omega, rfl, rfl, by simp only [TbV.dupF, Int.toNat_natCast]⟩
theorem fdErr_kinds (t : TbV) (p fd : Int) : t.fdErr p fd = 12 ∨ t.fdErr p fd = 13 ∨ t.fdErr p fd = 0 := by
  unfold TbV.fdErr
  split
  · exact .inl rfl
  · split
    · exact .inr (.inl rfl)
    · exact .inr (.inr rfl)
theorem Mt.dupV {t : TbV} {r : Nat → RpV} (h : Mt t r) (hi : Iv t) {p fd : Int} (he : t.fdErr p fd = 0) : rfdV r p fd = t.dupF p fd := by
  obtain ⟨k, i, rfl, rfl, _, hk, _, _, _, e⟩ := fdErr_zero he
  rw [rfdV, if_pos (by rw [h.err hi, he]), e, Int.toNat_natCast, Int.toNat_natCast, h.f k hk]
theorem Iv.dupF {t : TbV} (hi : Iv t) {p fd : Int} (he : t.fdErr p fd = 0) : 2 ≤ (t.dupF p fd).k ∧ (t.dupF p fd).k ≤ 5 := by
  obtain ⟨k, i, rfl, rfl, _, hk, hi8, hh, hok, e⟩ := fdErr_zero he
  rw [e]
  rcases hi.fk k i hk hi8 with h1 | h1
  · unfold TbV.fdOk at hok
    rw [Int.toNat_natCast, Int.toNat_natCast, h1] at hok
    simp at hok
  · exact h1
theorem Mt.free {t : TbV} {r : Nat → RpV} (h : Mt t r) (hi : Iv t) {k : Nat} (hk : k < 13) : (r k).free = (t.p k).free := by
  unfold RpV.free PrV.free
  refine find_congr _ fun i hi8 => ?_
  rw [h.f k hk, hi.zero_iff hk (List.mem_range.1 hi8)]
where find_congr {p q : Nat → Bool} : ∀ (l : List Nat), (∀ x ∈ l, p x = q x) → l.find? p = l.find? q
  | [], _ => rfl
  | a :: l, h => by
    rw [List.find?_cons, List.find?_cons, h a (by simp), find_congr l fun x hx => h x (by simp [hx])]
theorem Mt.setFd {t : TbV} {r : Nat → RpV} (h : Mt t r) {k i : Nat} (f : FdV) (hk : k < 13) : Mt (t.setFd k i f) (rsetFd r k i f) := by
  have hp : ∀ j, (t.setFd k i f).p j = if j = k then (t.p k).setFd i f else t.p j := fun _ => rfl
  have hr : ∀ j, rsetFd r k i f j = if j = k then (r k).setFd i f else r j := fun _ => rfl
  refine ⟨fun j hj => ?_, fun j hj => ?_, fun j hj => ?_, fun j hj => ?_, fun j q hj hq => ?_⟩
  all_goals
    (try rw [hp])
    rw [hr]
    by_cases e : j = k
    · subst e
      simp only [if_true]
      first
        | exact h.th j hk
        | exact h.o j hk
        | exact h.n j hk
        | exact h.b j q hk hq
        | (show (fun m => if m = i then f else (r j).f m) = (fun m => if m = i then f else (t.p j).f m); rw [h.f j hk])
    · simp only [if_neg e]
      first
        | exact h.th j hj
        | exact h.o j hj
        | exact h.n j hj
        | exact h.b j q hj hq
        | exact h.f j hj
theorem Iv.setFd {t : TbV} (h : Iv t) {k i : Nat} {f : FdV} (hk1 : 1 ≤ k) (hf : f = FdV.zero ∨ (2 ≤ f.k ∧ f.k ≤ 5)) : Iv (t.setFd k i f) := by
  have hp : ∀ j, (t.setFd k i f).p j = if j = k then (t.p k).setFd i f else t.p j := fun _ => rfl
  refine ⟨h.t0, ?_, fun j q hj hq => ?_⟩
  · rw [hp, if_neg (by omega)]; exact h.f0
  · rw [hp]
    by_cases e : j = k
    · subst e
      rw [if_pos rfl]
      show (if q = i then f else (t.p j).f q) = _ ∨ (2 ≤ (if q = i then f else (t.p j).f q).k ∧ (if q = i then f else (t.p j).f q).k ≤ 5)
      by_cases e2 : q = i
      · rw [if_pos e2]; exact hf
      · rw [if_neg e2]; exact h.fk j q hj hq
    · rw [if_neg e]; exact h.fk j q hj hq
theorem bad_kind {f : FdV} (h : f.bad = false) : 2 ≤ f.k ∧ f.k ≤ 5 := by
  unfold FdV.bad at h
  simp at h
  omega
theorem Mt.openN {t : TbV} {r : Nat → RpV} (h : Mt t r) (hi : Iv t) (p : Int) (f : FdV) : ropenN r p f = t.openN p f ∧ ropenE r p f = t.openE p f := by
  unfold ropenN ropenE TbV.openN TbV.openE
  rw [h.is]
  cases hp : t.has p with
  | false => exact ⟨rfl, rfl⟩
  | true =>
    obtain ⟨k, rfl, _, hk, _⟩ := TbV.has_nat hp
    rw [Int.toNat_natCast, h.free hi hk]
    exact ⟨rfl, rfl⟩
theorem Mt.openT {t : TbV} {r : Nat → RpV} (h : Mt t r) (hi : Iv t) (p : Int) (f : FdV) : Mt (t.openT p f) (ropen r p f) ∧ Iv (t.openT p f) := by
  unfold ropen TbV.openT
  rw [h.is]
  cases hp : t.has p with
  | false => exact ⟨h, hi⟩
  | true =>
    obtain ⟨k, rfl, hk1, hk, _⟩ := TbV.has_nat hp
    rw [Int.toNat_natCast, h.free hi hk]
    cases hb : f.bad with
    | true => exact ⟨h, hi⟩
    | false =>
      simp only [Bool.not_false, Bool.and_self, if_true]
      cases hf : (t.p k).free with
      | none => exact ⟨h, hi⟩
      | some i => exact ⟨h.setFd f hk, hi.setFd hk1 (.inr (bad_kind hb))⟩
theorem Mt.close {t : TbV} {r : Nat → RpV} (h : Mt t r) (hi : Iv t) (p fd : Int) : Mt (t.close p fd) (rclose r p fd) ∧ Iv (t.close p fd) := by
  by_cases he : t.fdErr p fd = 0
  · obtain ⟨k, i, rfl, rfl, hk1, hk, _, hh, hok, _⟩ := fdErr_zero he
    unfold TbV.close rclose
    rw [hh, hok, h.err hi, he, Int.toNat_natCast, Int.toNat_natCast]
    simp only [Bool.and_self, if_true]
    exact ⟨h.setFd _ hk, hi.setFd hk1 (.inl rfl)⟩
  · have e : t.close p fd = t := by
      unfold TbV.close
      cases h1 : t.has p with
      | false => rfl
      | true =>
        cases h2 : t.fdOk p fd with
        | false => rfl
        | true => exact absurd (by simp [TbV.fdErr, h1, h2]) he
    rw [e, rclose, if_neg (by rw [h.err hi]; exact he)]
    exact ⟨h, hi⟩
theorem Mt.seekErr {t : TbV} {r : Nat → RpV} (h : Mt t r) (hi : Iv t) (p fd at_ : Int) : rseekErr r p fd at_ = t.seekErr p fd at_ := by
  unfold rseekErr TbV.seekErr
  rw [h.err hi]
  by_cases he : t.fdErr p fd = 0
  · rw [he, h.dupV hi he]
    simp only [ne_eq, not_true_eq_false, if_false]
    have hk := hi.dupF he
    have e : (¬ (t.dupF p fd).k = 2 ∧ ¬ (t.dupF p fd).k = 4) ↔ ((t.dupF p fd).k = 3 ∨ (t.dupF p fd).k = 5) := by omega
    simp only [e]
  · rw [if_pos he, if_pos he]
theorem Mt.seek {t : TbV} {r : Nat → RpV} (h : Mt t r) (hi : Iv t) (p fd at_ : Int) : Mt (t.seek p fd at_) (rseek r p fd at_) ∧ Iv (t.seek p fd at_) := by
  unfold rseek TbV.seek
  rw [h.seekErr hi]
  by_cases he : t.seekErr p fd at_ = 0
  · rw [if_pos he, if_pos he]
    have he2 : t.fdErr p fd = 0 := by
      rcases Decidable.em (t.fdErr p fd = 0) with h1 | h1
      · exact h1
      · unfold TbV.seekErr at he
        rw [if_pos h1] at he
        exact he
    rw [h.dupV hi he2]
    have hk := hi.dupF he2
    obtain ⟨k, i, rfl, rfl, hk1, hk13, _, _, _, e⟩ := fdErr_zero he2
    rw [Int.toNat_natCast, Int.toNat_natCast]
    exact ⟨h.setFd _ hk13, hi.setFd hk1 (.inr hk)⟩
  · rw [if_neg he, if_neg he]
    exact ⟨h, hi⟩
theorem Mt.setPr {t : TbV} {r : Nat → RpV} (h : Mt t r) {k : Nat} {x : PrV} {y : RpV} (hth : y.th = t.th k) (ho : y.o = x.o) (hn : y.n = x.n) (hf : y.f = x.f) (hb : ∀ i, i < 4 → y.b i = strOfNums (x.b i).xs) : Mt (t.setPr k x) (setP r k y) := by
  have hp : ∀ j, (t.setPr k x).p j = if j = k then x else t.p j := fun _ => rfl
  have hr : ∀ j, setP r k y j = if j = k then y else r j := fun _ => rfl
  refine ⟨fun j hj => ?_, fun j hj => ?_, fun j hj => ?_, fun j hj => ?_, fun j q hj hq => ?_⟩
  all_goals
    (try rw [hp])
    rw [hr]
    by_cases e : j = k
    · subst e
      simp only [if_true]
      first
        | exact hth
        | exact ho
        | exact hn
        | exact hf
        | exact hb q hq
    · simp only [if_neg e]
      first
        | exact h.th j hj
        | exact h.o j hj
        | exact h.n j hj
        | exact h.f j hj
        | exact h.b j q hj hq
theorem Mt.setTh {t : TbV} {r : Nat → RpV} {k : Nat} {b : Bool} {x : PrV} {y : RpV} (h : Mt t r) (hth : y.th = b) (ho : y.o = x.o) (hn : y.n = x.n) (hf : y.f = x.f) (hb : ∀ i, i < 4 → y.b i = strOfNums (x.b i).xs) : Mt ((t.setPr k x).setTh k b) (setP r k y) := by
  have hp : ∀ j, ((t.setPr k x).setTh k b).p j = if j = k then x else t.p j := fun _ => rfl
  have ht : ∀ j, ((t.setPr k x).setTh k b).th j = if j = k then b else t.th j := fun _ => rfl
  have hr : ∀ j, setP r k y j = if j = k then y else r j := fun _ => rfl
  refine ⟨fun j hj => ?_, fun j hj => ?_, fun j hj => ?_, fun j hj => ?_, fun j q hj hq => ?_⟩
  all_goals
    (try rw [hp])
    (try rw [ht])
    rw [hr]
    by_cases e : j = k
    · subst e
      simp only [if_true]
      first
        | exact hth
        | exact ho
        | exact hn
        | exact hf
        | exact hb q hq
    · simp only [if_neg e]
      first
        | exact h.th j hj
        | exact h.o j hj
        | exact h.n j hj
        | exact h.f j hj
        | exact h.b j q hj hq
theorem Iv.setPr {t : TbV} (h : Iv t) {k : Nat} {x : PrV} (hk1 : 1 ≤ k) (hf : ∀ i, i < 8 → x.f i = FdV.zero ∨ (2 ≤ (x.f i).k ∧ (x.f i).k ≤ 5)) : Iv (t.setPr k x) := by
  have hp : ∀ j, (t.setPr k x).p j = if j = k then x else t.p j := fun _ => rfl
  refine ⟨h.t0, ?_, fun j q hj hq => ?_⟩
  · rw [hp, if_neg (by omega)]; exact h.f0
  · rw [hp]
    by_cases e : j = k
    · rw [if_pos e]; exact hf q hq
    · rw [if_neg e]; exact h.fk j q hj hq
theorem Iv.setTh {t : TbV} (h : Iv t) {k : Nat} (b : Bool) (hk1 : 1 ≤ k) : Iv (t.setTh k b) := by
  refine ⟨?_, h.f0, h.fk⟩
  show (if 0 = k then b else t.th 0) = false
  rw [if_neg (by omega)]
  exact h.t0
theorem Mt.exit {t : TbV} {r : Nat → RpV} (h : Mt t r) (hi : Iv t) (p : Int) : Mt (if t.has p then t.exit p.toNat else t) (rexit r p) ∧ Iv (if t.has p then t.exit p.toNat else t) := by
  unfold rexit
  rw [h.is]
  cases hp : t.has p with
  | false => exact ⟨h, hi⟩
  | true =>
    obtain ⟨k, rfl, hk1, hk, _⟩ := TbV.has_nat hp
    simp only [if_true, Int.toNat_natCast]
    exact ⟨h.setTh rfl rfl rfl rfl fun _ _ => rfl, (hi.setPr (x := PrV.zero) hk1 fun _ _ => .inl rfl).setTh false hk1⟩
def rsetN (r : Nat → RpV) (p n : Int) : Nat → RpV := if ris r p then setP r p.toNat { r p.toNat with n := n } else r
theorem Mt.setN {t : TbV} {r : Nat → RpV} (h : Mt t r) (hi : Iv t) (p n : Int) : Mt (t.setN p n) (rsetN r p n) ∧ Iv (t.setN p n) := by
  unfold rsetN TbV.setN
  rw [h.is]
  cases hp : t.has p with
  | false => exact ⟨h, hi⟩
  | true =>
    obtain ⟨k, rfl, hk1, hk, _⟩ := TbV.has_nat hp
    simp only [if_true, Int.toNat_natCast]
    exact ⟨h.setPr (h.th k hk) (h.o k hk) rfl (h.f k hk) fun i hi4 => h.b k i hk hi4, hi.setPr hk1 fun i hi8 => hi.fk k i hk hi8⟩
theorem Mt.setBuf {t : TbV} {r : Nat → RpV} (h : Mt t r) (hi : Iv t) {p b : Int} {y : BufV} {n : Nat} (he : bufErr (t.has p) b n = 0) : Mt (t.setPr p.toNat ((t.p p.toNat).setBuf b.toNat y)) (setP r p.toNat ((r p.toNat).setBuf b.toNat (strOfNums y.xs))) ∧ Iv (t.setPr p.toNat ((t.p p.toNat).setBuf b.toNat y)) := by
  obtain ⟨hp, ⟨i, rfl, hi4⟩, _⟩ := bufErr_zero he
  obtain ⟨k, rfl, hk1, hk, _⟩ := TbV.has_nat hp
  simp only [Int.toNat_natCast]
  refine ⟨h.setPr (h.th k hk) (h.o k hk) (h.n k hk) (h.f k hk) fun j hj => ?_, hi.setPr hk1 fun j hj => hi.fk k j hk hj⟩
  show (if j = i then _ else (r k).b j) = strOfNums (if j = i then y else (t.p k).b j).xs
  by_cases e : j = i
  · rw [if_pos e, if_pos e]
  · rw [if_neg e, if_neg e]; exact h.b k j hk hj
theorem Mt.slot {t : TbV} {r : Nat → RpV} (h : Mt t r) : rslot r = t.slot := by
  unfold rslot TbV.slot
  refine Mt.free.find_congr _ fun i hi => ?_
  rw [h.th i (List.mem_range.1 hi)]
theorem Mt.bad {t : TbV} {r : Nat → RpV} (h : Mt t r) (fr : Int) : rbad r fr = t.bad fr := by
  unfold rbad TbV.bad
  rw [h.is]
theorem Mt.spawn {t : TbV} {r : Nat → RpV} (h : Mt t r) (hi : Iv t) {fr ob nd : Int} (hb : t.bad fr = false) {p : Nat} (hp1 : 1 ≤ p) {x : PrV} (ho : x.o = ob) (hn : x.n = nd) (hf : x.f = (t.src fr).f) (hx : ∀ i, i < 4 → (x.b i).xs = ((t.src fr).b i).xs) : Mt (t.put p x) (setP r p (rnew r fr ob nd)) ∧ Iv (t.put p x) := by
  have hs : (rsrc r fr).f = (t.src fr).f ∧ (∀ i, i < 4 → (rsrc r fr).b i = strOfNums ((t.src fr).b i).xs) ∧ ∀ i, i < 8 → (t.src fr).f i = FdV.zero ∨ (2 ≤ ((t.src fr).f i).k ∧ ((t.src fr).f i).k ≤ 5) := by
    unfold rsrc TbV.src
    by_cases e : fr = 0
    · rw [if_pos e, if_pos e]
      exact ⟨rfl, fun _ _ => rfl, fun _ _ => .inl rfl⟩
    · rw [if_neg e, if_neg e]
      have hh : t.has fr = true := by
        unfold TbV.bad at hb
        simpa [e] using hb
      obtain ⟨k, rfl, hk1, hk, _⟩ := TbV.has_nat hh
      rw [Int.toNat_natCast]
      exact ⟨h.f k hk, fun i hi4 => h.b k i hk hi4, fun i hi8 => hi.fk k i hk hi8⟩
  obtain ⟨h1, h2, h3⟩ := hs
  refine ⟨h.setTh rfl ho.symm hn.symm ?_ fun i hi4 => ?_, (hi.setPr hp1 fun i hi8 => by rw [hf]; exact h3 i hi8).setTh true hp1⟩
  · show (rsrc r fr).f = x.f
    rw [h1, hf]
  · show (rsrc r fr).b i = _
    rw [h2 i hi4, hx i hi4]
theorem Mt.uses {t : TbV} {r : Nat → RpV} (h : Mt t r) (kind thing : Int) : ∀ n, n ≤ 13 → readsF (rF r) kind thing n = t.reads kind thing n ∧ writesF (rF r) kind thing n = t.writes kind thing n
  | 0, _ => ⟨rfl, rfl⟩
  | n + 1, hn => by
    obtain ⟨h1, h2⟩ := Mt.uses h kind thing n (by omega)
    rw [reads_F, writes_F] at *
    rw [reads_succF, reads_succF, writes_succF, writes_succF, h1, h2]
    have e : rF r n = t.F n := h.f n (by omega)
    rw [e]
    exact ⟨rfl, rfl⟩
end Go.Proofs.Ytgdloahgokefpaa
