/- Bytes, and the walks of Table.SetNode, Seek, SetBuf and of the document's SetBuf. -/
import Derived.Test.YtgdloahgokefpaaTRef4
import Derived.Test.YtgdloahgokefpaaInts
namespace Go.Proofs.Ytgdloahgokefpaa
open Go.RowKit
set_option linter.unusedSimpArgs false

theorem conv_zero (w : World) (A : Option Addr) (c : Nat) : (convert 39 9 (.slice A 0 c)).run Try.prog w = .ok (.string (strOfNums [])) w := by
  cases A with
  | none => exact run_convert_bytes_nil w 39 5 Try.underlying39 Try.underlying5 0 c _ Try.underlying9
  | some ad =>
    rw [run_convert_bytes_string w 39 9 5 _ _ _ Try.underlying39 Try.underlying5 Try.underlying9]
    simp [Conv.bytesToString, loadCells, loadCellsFrom]
    rfl
theorem conv_any {w : World} {SB n c : Nat} {A : Option Addr} {xs : List Int} (h : Reads w SB 1 A n (xs.map (Value.int .u8))) :
    (convert 39 9 (.slice A n c)).run Try.prog w = .ok (.string (strOfNums xs)) w := by
  rcases Nat.eq_zero_or_pos n with h0 | h0
  · subst h0
    have hl : xs.length = 0 := by have := h.1; simpa using this
    obtain rfl : xs = [] := List.eq_nil_of_length_eq_zero hl
    exact conv_zero w A c
  · refine conv_reads h fun ad hA => ?_
    have hl : xs.length = n := by have := h.1; simpa using this
    obtain ⟨ad', e, _, hc⟩ := h.2 h0
    obtain rfl : ad = ad' := by rw [hA] at e; exact Option.some.inj e
    have h1 := hc 0 (.int .u8 xs[0]) (by rw [List.getElem?_map, List.getElem?_eq_getElem (by omega)]; rfl)
    have h2 := World.cell?_spot h1
    simpa [Addr.add] using h2
theorem str_app (x y : List Int) : strOfNums (x ++ y) = strOfNums x ++ strOfNums y := by
  apply ByteArray.ext
  simp [strOfNums, ByteArray.append]

theorem Reads.takeB {w : World} {B n k : Nat} {A : Option Addr} {xs : List Int} (h : Reads w B 1 A n (xs.map (Value.int .u8))) (hk : k ≤ n) : Reads w B 1 A k ((xs.take k).map (Value.int .u8)) := by
  have := h.take hk
  rwa [Nat.mul_one, ← List.map_take] at this

/-- a new slice of bytes that reads as xs -/
def NewBytes (xs : List Int) (w : World) (e : Ending) (w' : World) : Prop :=
  ∃ A c, e = .returned (.slice A xs.length c) ∧ w'.ownsRow w.heap.size 5 1 (.slice A xs.length c) xs.length (xs.map (Value.int .u8)) ∧ Below w.heap.size w w'
theorem NewBytes.mk {xs : List Int} {w w' : World} {v : Value} {n : Nat} (hn : n = xs.length) (h : w'.ownsRow w.heap.size 5 1 v n (xs.map (Value.int .u8))) (hb : Below w.heap.size w w') : NewBytes xs w (.returned v) w' := by
  subst hn
  obtain ⟨A, c, rfl⟩ := own_slice h
  exact ⟨A, c, rfl, h, hb⟩

set_option maxHeartbeats 400000 in
theorem copy_any (B : Nat) (A : Option Addr) (n c : Nat) (xs : List Int) (w : World) (hr : Reads w B 1 A n (xs.map (Value.int .u8))) (hn : n ≤ 1000000) :
    Calls Try.prog 28 #[.slice A n c] w (NewBytes xs w) := by
  obtain ⟨i0, hi0, hz0, hz1, hz2⟩ := info_parts info_u8
  have hl : n = xs.length := by have := hr.1; simpa using this.symm
  subst hl
  go_enter Try.func28, Try.ntmps28
  go_wp2_with (at_builtin; refine wpList_append_any _ rfl _ _ _ rfl w.heap.size 5 i0 _ 1 1 Try.underlying39 hi0 hz0 hz1 hz2 rfl (by omega) (.slice none 0 0) 0 [] rfl (World.ownsRow_nil _ _ _ _) B A xs.length c (xs.map (Value.int .u8)) rfl hr (By_one xs) (by simp only [maxLen]; omega) (by omega) (Nat.le_refl _) ?_; intro v1 w1 hown1 hg1 hat1)
  go_ret
  exact NewBytes.mk (by simp) hown1 ((Below.refl _ _).grown hg1 (Nat.le_refl _) (by simp [Value.ownBlock]))

theorem step_append_any {ops : Array Oper} {o : Oper} {a : Act} {w : World} {K : Act → World → Prop} {Q : Exit → Act → World → Prop} {E : Prop} (hgd : o.guard = none) (s x : Operand)
    (ho : o.op = .call { callee := .builtin .append, args := #[s, x], argTypes := #[39, 39] })
    (base : Nat) (v : Value) (n : Nat) (xs : List Value) (hs : a.eval s = v) (hown : w.ownsRow base 5 1 v n xs)
    (B : Nat) (A : Option Addr) (m c : Nat) (news : List Value) (hx : a.eval x = .slice A m c) (hr : Reads w B 1 A m news) (h1 : ∀ u ∈ news, u.oneCell' = true)
    (h63 : n + m ≤ 1000000) (hbase : base ≤ w.heap.size)
    (h : ∀ v' w', w'.ownsRow base 5 1 v' (n + m) (xs ++ news) → w.grownBy w' v.ownBlock → (v'.ownBlock = v.ownBlock ∨ v'.ownBlock = some w.heap.size) → K (a.put o.dst v') w') :
    if Region.wanted o (yielded ops a.tmps) = true then Oper.wp Try.prog o a w K Q else E := by
  obtain ⟨i0, hi0, hz0, hz1, hz2⟩ := info_parts info_u8
  have hw : Region.wanted o (yielded ops a.tmps) = true := by simp [Region.wanted, hgd]
  rw [if_pos hw]
  exact wp_append_any w s x 39 ho base 5 i0 _ 1 1 Try.underlying39 hi0 hz0 hz1 hz2 rfl (by omega) v n xs hs hown B A m c news hx hr h1 (by simp only [maxLen]; omega) (by omega) hbase h

/-- cells of one process turned -/
theorem IsT.setC {w : World} {base g : Nat} {t : TbV} (h : IsT w base g t) {k c o : Nat} {vs : List Value} {x : PrV} (hk : k < 13) (ho : o = k * 38 + c) (hc : c + vs.length ≤ 38) (hx : ∀ j, j < 38 → putAt (t.p k).cell c vs j = x.cell j) (hb : ∀ i, i < 4 → (x.b i).ok w base) : IsT (w.setCells g o vs) base g (t.setPr k x) := by
  subst ho
  refine ⟨?_, h.2.1, fun p i hp hi => ?_⟩
  · have := Blk.setCells vs t.cell (k * 38 + c) w h.1
    rw [Tb_congr (fun j hj => ?_)] at this
    · exact this
    · show putAt t.cell (k * 38 + c) vs j = (t.setPr k x).cell j
      unfold TbV.cell
      by_cases h494 : j < 494
      · simp only [h494, if_true, TbV.setPr]
        by_cases e : j / 38 = k
        · rw [if_pos e, ← hx (j % 38) (by omega)]
          unfold putAt
          by_cases h1 : k * 38 + c ≤ j ∧ j < k * 38 + c + vs.length
          · rw [if_pos h1, if_pos (by omega), show j - (k * 38 + c) = j % 38 - c from by omega]
          · rw [if_neg h1, if_neg (by omega)]
            show (if j < 494 then (t.p (j / 38)).cell (j % 38) else _) = _
            rw [if_pos h494, e]
        · rw [if_neg e]
          unfold putAt
          rw [if_neg (by omega)]
          show (if j < 494 then _ else _) = _
          rw [if_pos h494]
      · simp only [h494, if_false]
        unfold putAt
        rw [if_neg (by omega)]
        show (if j < 494 then _ else _) = _
        rw [if_neg h494]
        rfl
  · have hbb : ((t.setPr k x).p p).b i = if p = k then x.b i else (t.p p).b i := by
      simp only [TbV.setPr]
      split <;> rfl
    have hok : (((t.setPr k x).p p).b i).ok w base := by
      rw [hbb]
      split
      · exact hb i hi
      · exact h.2.2 p i hp hi
    exact ⟨own_setCells h.2.1 vs (k * 38 + c) w hok.1, hok.2⟩

def TbV.setN (t : TbV) (p n : Int) : TbV := if t.has p then t.setPr p.toNat { t.p p.toNat with n := n } else t
set_option maxHeartbeats 1000000 in
theorem setNode_any (w : World) (base g : Nat) (t : TbV) (p n : Int) (h : IsT w base g t) :
    Calls Try.prog 27 #[.pointer (some ⟨g, 0, none⟩), .int .i64 p, .int .i64 n] w fun e w' => e = .returned (.bool (t.has p)) ∧ IsT w' base g (t.setN p n) ∧ Only [g] w w' := by
  have HH := hide (fun W (hT : IsT W base g t) => has_any W base g t p hT)
  have H := hide h
  clear h
  go_enter Try.func27, Try.ntmps27
  go_wp2_with fail
  refine ((unhid_ HH) _ (unhid_ H)).mono ?_
  rintro e w' ⟨rfl, rfl⟩
  cases hh : t.has p with
  | false =>
    go_wp2_with fail
    refine ((unhid_ HH) _ (unhid_ H)).mono ?_
    rintro e w' ⟨rfl, rfl⟩
    go_wp2
    go_ret
    refine ⟨by rw [hh]; rfl, ?_, Only.refl _ _⟩
    rw [TbV.setN, hh]
    exact unhid_ H
  | true =>
    obtain ⟨k, rfl, hk1, hk, hth⟩ := TbV.has_nat hh
    have hh' := Lib.hid hh
    have hkI : (k : Int) < 13 := by omega
    have d := (unhid_ H).cell (p := k) (j := 1) hk (by omega)
    rw [Nat.mul_comm 38 k] at d
    have f : w.frozen? ⟨g, k * 38 + 1, none⟩ = false := (unhid_ H).1.frozen _
    have hT2 : IsT (w.setCell ⟨g, k * 38 + 1, none⟩ (.int .i64 n)) base g (t.setPr k { t.p k with n := n }) := by
      refine (unhid_ H).setC (vs := [.int .i64 n]) (c := 1) hk rfl (by simp) (fun j hj => ?_) (fun i hi => (unhid_ H).2.2 k i hk hi)
      rw [putAt_cons, putAt_nil]
      show (if j = 1 then _ else (t.p k).cell j) = _
      rw [PrV.cell, PrV.cell]
      by_cases h1 : j = 1
      · subst h1; rfl
      · rw [if_neg h1, if_neg h1, if_neg h1]
    have HT2 := hide hT2
    have HO2 : Hid (Only [g] w (w.setCell ⟨g, k * 38 + 1, none⟩ (.int .i64 n))) := (Only.refl [g] w).setCell (p := ⟨g, k * 38 + 1, none⟩) (.inl (by simp)) _
    have hh2 : (t.setPr k { t.p k with n := n }).has (k : Int) = true := hh
    have hh3 := Lib.hid hh2
    clear hh hh2 hT2 hth
    go_upto_region 3 with (fail)
    obtain ⟨w2, hw2⟩ : ∃ w2, w2 = w.setCell ⟨g, k * 38 + 1, none⟩ (.int .i64 n) := ⟨_, rfl⟩
    rw [← hw2] at HT2 HO2 ⊢
    have HC := hide (has_any w2 base g _ k (unhid_ HT2))
    rw [hh3.out] at HC
    clear hw2 HH
    go_wp2_with fail
    refine (unhid_ HC).mono ?_
    rintro e w' ⟨rfl, rfl⟩
    go_wp2
    go_ret
    refine ⟨by rw [hh'.out]; rfl, ?_, unhid_ HO2⟩
    rw [TbV.setN, hh'.out, if_pos rfl, Int.toNat_natCast]
    exact unhid_ HT2

def TbV.seekErr (t : TbV) (p fd at_ : Int) : Int := if t.fdErr p fd ≠ 0 then t.fdErr p fd else if (t.dupF p fd).k = 3 ∨ (t.dupF p fd).k = 5 then 18 else if at_ < 0 ∨ 4096 < at_ then 1 else 0
def TbV.seek (t : TbV) (p fd at_ : Int) : TbV := if t.seekErr p fd at_ = 0 then t.setFd p.toNat fd.toNat { t.dupF p fd with a := at_ } else t
theorem IsT.seek {w : World} {base g : Nat} {t : TbV} (h : IsT w base g t) {k i : Nat} {at_ : Int} (hk : k < 13) (hi : i < 8) : IsT (w.setCell ⟨g, k * 38 + 6 + i * 4 + 2, none⟩ (.int .i64 at_)) base g (t.setFd k i { (t.p k).f i with a := at_ }) := by
  refine h.setC (vs := [.int .i64 at_]) (c := 6 + i * 4 + 2) hk (by omega) (by simp; omega) (fun j hj => ?_) (fun i hi => h.2.2 k i hk hi)
  rw [putAt_cons, putAt_nil]
  show (if j = 6 + i * 4 + 2 then _ else (t.p k).cell j) = _
  rw [PrV.cell, PrV.cell]
  simp only [PrV.setFd]
  by_cases h2 : j = 6 + i * 4 + 2
  · subst h2
    rw [if_pos rfl, if_neg (by omega), if_neg (by omega), if_neg (by omega), show (6 + i * 4 + 2 - 6) / 4 = i from by omega, show (6 + i * 4 + 2 - 6) % 4 = 2 from by omega, if_pos rfl]
    rfl
  · rw [if_neg h2]
    by_cases h6 : j < 6
    · simp only [h6, if_true]
    · by_cases h5 : (j - 6) / 4 = i
      · have h7 : (j - 6) % 4 ≠ 2 := by omega
        simp only [h5, if_true]
        obtain ⟨m, hm⟩ : ∃ m, m = (j - 6) % 4 := ⟨_, rfl⟩
        rw [← hm] at h7 ⊢
        have hm4 : m < 4 := by omega
        match m, hm4 with
        | 0, _ => rfl
        | 1, _ => rfl
        | 2, _ => exact absurd rfl h7
        | 3, _ => rfl
      · simp only [h5, if_false]

set_option maxHeartbeats 2000000 in
theorem seek_any (w : World) (base g : Nat) (t : TbV) (p fd at_ : Int) (h : IsT w base g t) :
    Calls Try.prog 34 #[.pointer (some ⟨g, 0, none⟩), .int .i64 p, .int .i64 fd, .int .i64 at_] w fun e w' => e = .returned (.int .i64 (t.seekErr p fd at_)) ∧ IsT w' base g (t.seek p fd at_) ∧ Only [g] w w' := by
  have HF := hide (find_any w base g t p fd h)
  have H := hide h
  clear h
  go_enter Try.func34, Try.ntmps34
  go_wp2_with fail
  refine (unhid_ HF).mono ?_
  rintro e w' ⟨rfl, hor⟩
  rcases hor with ⟨h1, rfl⟩ | ⟨h1, h2, rfl⟩ | ⟨h1, h2, k, i, rfl, rfl, hk, hi, rfl⟩
  · have e1 : t.seekErr p fd at_ = 12 := by simp [TbV.seekErr, TbV.fdErr, h1]
    go_wp2
    go_ret
    refine ⟨by rw [e1]; rfl, ?_, Only.refl _ _⟩
    rw [TbV.seek, if_neg (by rw [e1]; decide)]
    exact unhid_ H
  · have e1 : t.seekErr p fd at_ = 13 := by simp [TbV.seekErr, TbV.fdErr, h1, h2]
    go_wp2
    go_ret
    refine ⟨by rw [e1]; rfl, ?_, Only.refl _ _⟩
    rw [TbV.seek, if_neg (by rw [e1]; decide)]
    exact unhid_ H
  · obtain ⟨d0, d1, d2, d3, f0, f1, f2, f3⟩ := (unhid_ H).fdFacts hk hi
    have e0 : t.fdErr (k : Int) (i : Int) = 0 := by simp [TbV.fdErr, h1, h2]
    have eF : t.dupF (k : Int) (i : Int) = (t.p k).f i := by simp only [TbV.dupF, Int.toNat_natCast]
    obtain ⟨F, hF⟩ : ∃ F, F = (t.p k).f i := ⟨_, rfl⟩
    rw [← hF] at d0 d1 d2 d3 eF
    have HE : Hid (∀ e, (if F.k = 3 ∨ F.k = 5 then 18 else if at_ < 0 ∨ 4096 < at_ then 1 else 0) = e → t.seekErr (k : Int) (i : Int) at_ = e) := by
      intro e he
      rw [TbV.seekErr, if_neg (by omega), eF, he]
    have HS : Hid (t.seekErr (k : Int) (i : Int) at_ = 0 → t.seek (k : Int) (i : Int) at_ = t.setFd k i { (t.p k).f i with a := at_ }) := by
      intro e
      rw [TbV.seek, if_pos e, eF, hF, Int.toNat_natCast, Int.toNat_natCast]
    have HS0 : Hid (t.seekErr (k : Int) (i : Int) at_ ≠ 0 → t.seek (k : Int) (i : Int) at_ = t) := by
      intro e
      rw [TbV.seek, if_neg e]
    obtain ⟨z3, hz3⟩ : ∃ b, (F.k == 3) = b := ⟨_, rfl⟩
    obtain ⟨z5, hz5⟩ : ∃ b, (F.k == 5) = b := ⟨_, rfl⟩
    have HZ : Hid ((F.k = 3 ∨ F.k = 5) ↔ (z3 || z5) = true) := by
      show _ ↔ _
      rw [← hz3, ← hz5]
      simp
    clear e0 eF hF h1 h2 d1 d3
    go_upto_region 4 with (fail)
    go_cut [22] (fun s22 wx => s22 = .bool (z3 || z5) ∧ wx = w)
    case first =>
      cases z3 <;> cases z5
      all_goals
        go_wp2
        go_meet
        exact ⟨rfl, rfl⟩
    case rest =>
      obtain ⟨rfl, hwx⟩ := hcut
      have hwx2 := hwx.symm
      subst hwx2
      clear hz3 hz5
      cases hzz : (z3 || z5) with
      | true =>
        have e18 := (unhid_ HE) 18 (by rw [if_pos ((unhid_ HZ).2 hzz)])
        have E18 := Lib.hid e18
        clear e18 hzz
        go_wp2
        go_ret
        refine ⟨by rw [E18.out]; rfl, ?_, Only.refl _ _⟩
        rw [(unhid_ HS0) (by rw [E18.out]; decide)]
        exact unhid_ H
      | false =>
        have hnn : ¬ (F.k = 3 ∨ F.k = 5) := fun h => by have := (unhid_ HZ).1 h; rw [hzz] at this; cases this
        by_cases hok : 0 ≤ at_ ∧ at_ ≤ 4096
        · have e0 := (unhid_ HE) 0 (by rw [if_neg hnn, if_neg (by omega)])
          have E0 := Lib.hid e0
          obtain ⟨hok1, hok2⟩ := hok
          clear e0 hzz hnn
          go_wp2
          go_ret
          refine ⟨by rw [E0.out]; rfl, ?_, (Only.refl [g] _).setCell (p := ⟨g, k * 38 + 6 + i * 4 + 2, none⟩) (.inl (by simp)) _⟩
          rw [(unhid_ HS) E0.out]
          exact (unhid_ H).seek hk hi
        · have e1 := (unhid_ HE) 1 (by rw [if_neg hnn, if_pos (by omega)])
          have E1 := Lib.hid e1
          have hbad : at_ < 0 ∨ (0 ≤ at_ ∧ 4096 < at_) := by omega
          clear e1 hzz hnn hok
          rcases hbad with h | ⟨h, h'⟩
          all_goals
            go_wp2
            go_ret
            refine ⟨by rw [E1.out]; rfl, ?_, Only.refl _ _⟩
            rw [(unhid_ HS0) (by rw [E1.out]; decide)]
            exact unhid_ H
end Go.Proofs.Ytgdloahgokefpaa
