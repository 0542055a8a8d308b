/- The plain law of TableNumbers: which processes are there. -/
import Derived.Test.YtgdloahgokefpaaTab7
import Derived.Test.YtgdloahgokefpaaTUses
namespace Go.Proofs.Ytgdloahgokefpaa
open Go.RowKit
set_option linter.unusedSimpArgs false

def arr (n : Nat) (R : Nat → Bool) : Nat → Value := fun j => .bool (inn n j && R j)
theorem arr_set {n p : Nat} {R : Nat → Bool} (b : Bool) (hp : inn n p = true) : (Tb 13 (arr n R)).setIfInBounds p (.bool b) = Tb 13 (arr n (fun j => if j = p then b else R j)) := by
  rw [Tb_set]
  refine Tb_congr fun j _ => ?_
  show (if j = p then _ else arr n R j) = _
  by_cases h : j = p
  · subst h; simp [arr, hp]
  · simp [arr, h]
theorem arr_grow {k : Nat} : (Tb 13 (arr k yes_)).setIfInBounds (k + 1) (.bool true) = Tb 13 (arr (k + 1) yes_) := by
  rw [Tb_set]
  refine Tb_congr fun j _ => ?_
  show (if j = k + 1 then _ else arr k yes_ j) = _
  by_cases h : j = k + 1
  · subst h; simp [arr, inn, yes_]
  · rw [if_neg h]
    unfold arr inn
    congr 2
    congr 1
    simp only [decide_eq_decide]
    omega
theorem own_far {w w' : World} {base : Nat} {e ty : TypeId} {size n k : Nat} {v : Value} {xs : List Value} {cs : Array Value} (h : w.ownsRow base e size v n xs) (ho : Only [k] w w') (hb : Blk w k ty cs) (hty : ty ≠ e) : w'.ownsRow base e size v n xs := by
  refine ⟨h.1, ?_⟩
  rcases h.2 with h2 | ⟨g, cap, cur, hv, hb2, hh, r⟩
  · exact .inl h2
  · have hg := (Array.getElem?_eq_some_iff.1 hh).1
    refine .inr ⟨g, cap, cur, hv, hb2, (ho.block g hg (fun hm => ?_)).trans hh, r⟩
    obtain rfl : g = k := by simpa using hm
    have : (some (Obj.cells cur e (0, 0))) = some (Obj.cells cs ty (0, 0)) := hh.symm.trans hb
    injection this with this
    injection this with _ h2
    exact hty h2.symm
/-- a cell of another kind of block is turned -/
theorem IsT.far {w : World} {base g k o : Nat} {t : TbV} {ty : TypeId} {cs : Array Value} (h : IsT w base g t) (hb : Blk w k ty cs) (hk : g ≠ k) (hty : ty ≠ 5) (v : Value) : IsT (w.setCell ⟨k, o, none⟩ v) base g t :=
  ⟨h.1.far (p := ⟨k, o, none⟩) hk v, h.2.1, fun p i hp hi => ⟨own_far (h.2.2 p i hp hi).1 ((Only.refl [k] _).setCell (p := ⟨k, o, none⟩) (.inl (by simp)) _) hb hty, (h.2.2 p i hp hi).2⟩⟩

/-- the processes that are there: of 1 .. n those of U -/
def NumSt (t : TbV) (n : Nat) (U : Nat → Bool) : Prop := ∀ p, p < 13 → t.th p = (inn n p && U p)
theorem NumSt.zero : NumSt TbV.zero 0 yes_ := by
  intro p _
  show false = _
  simp [inn]
  omega
theorem NumSt.slot1 {t : TbV} {n : Nat} (h : NumSt t n yes_) (hn : n < 12) : t.slot = some (n + 1) :=
  find_range _ 13 (n + 1) (by omega) (by rw [h _ (by omega)]; simp [inn]) fun j hj => by
    rw [h j (by omega)]
    simp [inn, yes_]
    omega
theorem NumSt.slot0 {t : TbV} (h : NumSt t 12 yes_) : t.slot = none :=
  find_range_none _ 13 fun j hj => by
    rw [h j hj]
    simp [inn, yes_]
    omega
theorem NumSt.grow {t : TbV} {n : Nat} (h : NumSt t n yes_) (x : PrV) : NumSt (t.put (n + 1) x) (n + 1) yes_ := by
  intro p hp
  rw [th_put]
  show (if p = n + 1 then true else t.th p) = _
  by_cases e : p = n + 1
  · rw [if_pos e]; simp [inn, e, yes_]
  · rw [if_neg e, h p hp]
    unfold inn
    congr 2
    simp only [decide_eq_decide]
    omega
theorem NumSt.has {t : TbV} {U : Nat → Bool} (h : NumSt t 12 U) {k : Nat} (h1 : 1 ≤ k) (h2 : k ≤ 12) : t.has (k : Int) = U k := by
  unfold TbV.has
  rw [Int.toNat_natCast, h k (by omega)]
  have e1 : (1 : Int) ≤ k := by omega
  have e2 : (k : Int) ≤ 12 := by omega
  simp [inn, h1, h2, e1, e2]
def off (U : Nat → Bool) (k : Nat) (b : Bool) : Nat → Bool := fun j => if j = k then b else U j
theorem NumSt.exit {t : TbV} {U : Nat → Bool} (h : NumSt t 12 U) {k : Nat} (h1 : 1 ≤ k) (h2 : k ≤ 12) : NumSt (if t.has (k : Int) then t.exit (k : Int).toNat else t) 12 (off U k false) := by
  rw [h.has h1 h2, Int.toNat_natCast]
  intro p hp
  cases hU : U k with
  | true =>
    show (if p = k then false else t.th p) = _
    by_cases e : p = k
    · simp [e, off]
    · rw [if_neg e, h p hp]; simp [off, e]
  | false =>
    show t.th p = _
    rw [h p hp]
    by_cases e : p = k
    · subst e; simp [off, hU]
    · simp [off, e]
theorem NumSt.put {t : TbV} {U : Nat → Bool} (h : NumSt t 12 U) {k : Nat} (h1 : 1 ≤ k) (h2 : k ≤ 12) (x : PrV) : NumSt (t.put k x) 12 (off U k true) := by
  intro p hp
  rw [th_put]
  show (if p = k then true else t.th p) = _
  by_cases e : p = k
  · subst e; simp [off, inn, h1, h2]
  · rw [if_neg e, h p hp]; simp [off, e]
theorem NumSt.least {t : TbV} {U : Nat → Bool} (h : NumSt t 12 U) {k : Nat} (h1 : 1 ≤ k) (h2 : k ≤ 12) (hk : U k = false) (hb : ∀ j, 1 ≤ j → j < k → U j = true) : t.slot = some k :=
  find_range _ 13 k (by omega) (by rw [h _ (by omega), hk]; simp [h1]) fun j hj => by
    rw [h j (by omega)]
    by_cases e : 1 ≤ j
    · simp [inn, e, hb j e hj]
      omega
    · simp [e]
theorem NumSt.count {t : TbV} {U : Nat → Bool} (h : NumSt t 12 U) : ∀ k, k ≤ 13 → (t.procsTo k).length = tally 12 U k
  | 0, _ => rfl
  | k + 1, hk => by
    have ih := NumSt.count h k (by omega)
    have hh : t.has (k : Int) = (inn 12 k && U k) := by
      by_cases e : 1 ≤ k
      · rw [h.has e (by omega)]
        simp [inn, e]
        omega
      · obtain rfl : k = 0 := by omega
        unfold TbV.has
        simp [inn]
    show _ = tally 12 U k + _
    cases hb : (inn 12 k && U k) with
    | true => rw [procsTo_yes (hh.trans hb), List.length_append, ih]; rfl
    | false => rw [procsTo_no (hh.trans hb), ih]; rfl
end Go.Proofs.Ytgdloahgokefpaa
