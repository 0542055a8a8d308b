/- The walk of the law's do for SetBuf, and of do itself. -/
import Derived.Test.YtgdloahgokefpaaTDo3
namespace Go.Proofs.Ytgdloahgokefpaa
open Go.RowKit
set_option linter.unusedSimpArgs false

/-- a buffer does not lie in a block -/
def BufV.aside (b : BufV) (gb : Nat) : Prop := b.A = none ∨ ∃ g', b.A = some ⟨g', 0, none⟩ ∧ g' ≠ gb
theorem BufV.aside_of {w : World} {base gb : Nat} {b : BufV} (h : b.ok w base) (hg : w.heap.size ≤ gb ∨ gb < base) : b.aside gb := by
  rcases h.1.2 with ⟨h1, _⟩ | ⟨g', cap, cur, hv, hb, hh, _⟩
  · left
    have := h1
    unfold BufV.val at this
    injection this
  · right
    have hlt := (Array.getElem?_eq_some_iff.1 hh).1
    refine ⟨g', ?_, by omega⟩
    unfold BufV.val at hv
    injection hv
theorem own_aside {w w' : World} {base gb : Nat} {b : BufV} (h : b.ok w base) (ha : b.aside gb) (ho : Only [gb] w w') : b.ok w' base := by
  refine ⟨⟨h.1.1, ?_⟩, h.2⟩
  rcases h.1.2 with h2 | ⟨g, cap, cur, hv, hb, hh, r⟩
  · exact .inl h2
  · have hg := (Array.getElem?_eq_some_iff.1 hh).1
    refine .inr ⟨g, cap, cur, hv, hb, (ho.block g hg (fun hm => ?_)).trans hh, r⟩
    obtain rfl : g = gb := by simpa using hm
    unfold BufV.val at hv
    injection hv with h1
    rcases ha with ha | ⟨g', ha, hne⟩
    · rw [ha] at h1; cases h1
    · rw [ha] at h1
      injection h1 with h1
      injection h1 with h1
      exact hne h1
theorem Only.drop {S : List Nat} {a w : World} {gb : Nat} (hg : a.heap.size ≤ gb) (h : Only (gb :: S) a w) : Only S a w :=
  ⟨h.os, h.tape, h.output, h.size, fun k hk hn => h.block k hk fun hm => by
    rcases List.mem_cons.1 hm with e | e
    · omega
    · exact hn e⟩
theorem IsT.aside {w w' : World} {B g gb : Nat} {t : TbV} (h : IsT w B g t) (ho : Only [gb] w w') (hg : g ≠ gb) (ha : ∀ p i, p < 13 → i < 4 → ((t.p p).b i).aside gb) : IsT w' B g t :=
  ⟨ho.blk h.1 (by simpa using hg), h.2.1, fun p i hp hi => own_aside (h.2.2 p i hp hi) (ha p i hp hi) ho⟩

set_option maxRecDepth 100000 in
set_option maxHeartbeats 2000000 in
theorem do3_any (w : World) (B gt gr : Nat) (t : TbV) (r : Nat → RpV) (x : OpV) (hb : Bo w B gt gr t r) (hk : x.k % 10 = 3) (SB : Nat) (hx : Reads w SB 1 x.A x.xs.length (x.xs.map (Value.int .u8))) (hSB : SB ≤ gr) (hSBt : SB ≤ gt) (hl : x.xs.length ≤ 600) :
    Calls Try.prog 20 #[.pointer (some ⟨gt, 0, none⟩), .pointer (some ⟨gr, 0, none⟩), x.val] w (DoT B gt gr t x w) := by
  unfold OpV.val
  have hal : Below w.heap.size w (w.alloc (.cells #[.int .i64 x.k, .int .i64 x.p, .int .i64 x.n, .int .i64 x.m, .int .i64 x.f.k, .int .i64 x.f.t, .int .i64 x.f.a, .bool x.f.w, .slice x.A x.xs.length x.c] 61)) := (Below.refl _ _).alloc (Nat.le_refl _) _
  have hbx := Blk.new w 61 #[.int .i64 x.k, .int .i64 x.p, .int .i64 x.n, .int .i64 x.m, .int .i64 x.f.k, .int .i64 x.f.t, .int .i64 x.f.a, .bool x.f.w, .slice x.A x.xs.length x.c]
  have hgt := hb.T.1.lt
  have hgr := hb.R.lt
  have hne := hb.ne
  obtain ⟨wb, hwb⟩ : ∃ wb, wb = w.alloc (.cells #[.int .i64 x.k, .int .i64 x.p, .int .i64 x.n, .int .i64 x.m, .int .i64 x.f.k, .int .i64 x.f.t, .int .i64 x.f.a, .bool x.f.w, .slice x.A x.xs.length x.c] 61) := ⟨_, rfl⟩
  have hsz : w.heap.size < wb.heap.size := by rw [hwb]; simp
  rw [← hwb] at hal hbx
  have hB2 := hb.below hal
  have hpl := place_any x.k 10 wb (by omega) (by omega)
  rw [hk] at hpl
  have HPL := hide hpl
  have HBX := hide hbx
  have HAL := hide hal
  have HBO := hide hB2
  have HWB := Lib.hid hwb
  have HK := Lib.hid hk
  have c0 : wb.cell? ⟨w.heap.size, 0, none⟩ = some (.int .i64 x.k) := (hbx).cell 0
  have c1 : wb.cell? ⟨w.heap.size, 1, none⟩ = some (.int .i64 x.p) := (hbx).cell 1
  have c2 : wb.cell? ⟨w.heap.size, 2, none⟩ = some (.int .i64 x.n) := (hbx).cell 2
  have c8 : wb.cell? ⟨w.heap.size, 8, none⟩ = some (.slice x.A x.xs.length x.c) := (hbx).cell 8
  have HX : Hid (Reads wb SB 1 x.A x.xs.length (x.xs.map (Value.int .u8))) := hx.below (hal.mono (by omega))
  have hSB2 : SB ≤ wb.heap.size := by omega
  clear hx
  clear hal hbx hwb hb hB2 hpl hk
  go_enter Try.func20, Try.ntmps20
  go_upto_region 1 with (fail)
  rw [← HWB.out]
  go_wp2_with fail
  refine (unhid_ HPL).mono ?_
  rintro e w' ⟨rfl, rfl⟩
  have HC := hide (copy_any SB x.A x.xs.length x.c x.xs wb (unhid_ HX) (by omega))
  go_wp2_with fail
  refine (unhid_ HC).mono ?_
  rintro e w1 ⟨A1, k1, rfl, hown1, hb1⟩
  have hsz1 := hb1.size
  have hB1 := (unhid_ HBO).below hb1
  have hbx1 := (unhid_ HBX).below hb1 (by omega)
  have e1 : w1.cell? ⟨w.heap.size, 1, none⟩ = some (.int .i64 x.p) := hbx1.cell 1
  have e2 : w1.cell? ⟨w.heap.size, 2, none⟩ = some (.int .i64 x.n) := hbx1.cell 2
  have HD := hide (buf_any w1 B gt t x.p x.n w1.heap.size A1 k1 x.xs hB1.T hB1.sz (Reads.of_own hown1) (by simp only [maxLen]; omega))
  have HB1 := hide hb1
  have HBB1 := hide hB1
  have HBX1 := hide hbx1
  have HOWN1 := hide hown1
  clear hb1 hB1 hbx1 hown1 HC c1 c2 c8
  go_wp2_with fail
  refine (unhid_ HD).mono ?_
  rintro e w2 ⟨rfl, ho2, hor⟩
  have hsz2 := ho2.size
  obtain ⟨gb, hgb1, hgb2, hgb⟩ : ∃ gb, wb.heap.size ≤ gb ∧ gb ≤ w1.heap.size ∧ (0 < x.xs.length → gb < w1.heap.size ∧ A1 = some ⟨gb, 0, none⟩ ∧ ∃ cur : Array Value, x.xs.length ≤ cur.size ∧ Blk w2 gb 5 cur) := by
    rcases (unhid_ HOWN1).2 with ⟨_, h2⟩ | ⟨g', cap, cur, hv, hb', hh, hnc, _, hs, _⟩
    · exact ⟨wb.heap.size, Nat.le_refl _, hsz1, fun h => by omega⟩
    · have hlt := (Array.getElem?_eq_some_iff.1 hh).1
      refine ⟨g', hb', Nat.le_of_lt hlt, fun _ => ⟨hlt, ?_, cur, by omega, (ho2.block g' hlt (by simp; omega)).trans hh⟩⟩
      injection hv
  obtain ⟨E, hE⟩ : ∃ E, E = bufErr (t.has x.p) x.n x.xs.length := ⟨_, rfl⟩
  rw [← hE]
  obtain ⟨t', r', hT', hM', hI', hF', has', hrr⟩ : ∃ (t' : TbV) (r' : Nat → RpV), IsT w2 B gt t' ∧ Mt t' r' ∧ Iv t' ∧ Fr x.p t t' ∧ (0 < x.xs.length → ∀ p i, p < 13 → i < 4 → ((t'.p p).b i).aside gb) ∧ ∀ (wa w4 : World) (e4 : Ending), RBuf r gr x.p x.n x.xs wa e4 w4 → e4 = .returned (.int .i64 E) ∧ Only [gr] wa w4 ∧ IsR w4 gr r' := by
    have ha0 : ∀ p i, p < 13 → i < 4 → ((t.p p).b i).aside gb := fun p i hp hi => BufV.aside_of ((unhid_ HBO).T.2.2 p i hp hi) (.inl hgb1)
    rcases hor with ⟨h1, h2⟩ | ⟨h1, y, hy1, hy2, h2⟩
    · refine ⟨t, r, h2, (unhid_ HBO).M, (unhid_ HBO).I, Fr.refl _ _, fun _ => ha0, ?_⟩
      rintro wa w4 e4 ⟨rfl, q1, q2⟩
      rw [(unhid_ HBO).M.is] at q2 ⊢
      rcases q2 with ⟨_, q3⟩ | ⟨q3, _⟩
      · exact ⟨by rw [hE], q1, q3⟩
      · exact absurd q3 h1
    · obtain ⟨hp, ⟨i, hi, hi4⟩, _⟩ := bufErr_zero h1
      obtain ⟨k, hk, _, hk13, _⟩ := TbV.has_nat hp
      obtain ⟨m1, m2⟩ := (unhid_ HBO).M.setBuf (unhid_ HBO).I (y := y) h1
      rw [hy1] at m1
      refine ⟨_, _, h2, m1, m2, ?_, fun hpos => ?_, ?_⟩
      · rw [hk, Int.toNat_natCast]
        exact Fr.setPr _ _ _
      · intro p j hp13 hj
        show BufV.aside ((if p = x.p.toNat then (t.p x.p.toNat).setBuf x.n.toNat y else t.p p).b j) gb
        by_cases e : p = x.p.toNat
        · rw [if_pos e]
          show BufV.aside (if j = x.n.toNat then y else (t.p x.p.toNat).b j) gb
          by_cases e2 : j = x.n.toNat
          · rw [if_pos e2]
            exact BufV.aside_of hy2 (.inr (hgb hpos).1)
          · rw [if_neg e2]
            exact ha0 _ _ (by rw [← e]; exact hp13) hj
        · rw [if_neg e]
          exact ha0 p j hp13 hj
      · rintro wa w4 e4 ⟨rfl, q1, q2⟩
        rw [(unhid_ HBO).M.is] at q2 ⊢
        rcases q2 with ⟨q3, _⟩ | ⟨_, q3⟩
        · exact absurd h1 q3
        · exact ⟨by rw [hE], q1, q3⟩
  have HO2 := hide ho2
  have HT' := hide hT'
  have HM' := hide hM'
  have HI' := hide hI'
  have HF' := hide hF'
  have HAS := hide has'
  have HRR := hide hrr
  have HGB := hide hgb
  have HOR := hide hor
  clear ho2 hT' hM' hI' hF' has' hrr hgb hE HD hor e1 e2
  go_wp2_with fail
  go_loopw [14] (fun s14 wq => ∃ q : Nat, q ≤ x.xs.length ∧ s14 = .int .i64 q ∧ Only [gb] w2 wq ∧ (x.xs.length = 0 → wq = w2) ∧ (0 < x.xs.length → ∃ cur : Array Value, x.xs.length ≤ cur.size ∧ Blk wq gb 5 cur)) (fun s14 _ => x.xs.length - (intOf s14).toNat)
  case atStart => exact ⟨0, Nat.zero_le _, rfl, Only.refl _ _, fun _ => rfl, fun h => ((unhid_ HGB) h).2.2⟩
  case round =>
    obtain ⟨q, hq, rfl, hox, hez, hcb⟩ := hrel
    by_cases hlt : q < x.xs.length
    · obtain ⟨hg1, rfl, _⟩ := (unhid_ HGB) (by omega)
      obtain ⟨cur, hc2, hblk⟩ := hcb (by omega)
      have HOX := hide hox
      have d : wr.cell? ⟨gb, q, none⟩ = some (cur[q]'(by omega)) := by rw [hblk.cell, Array.getElem?_eq_getElem (by omega)]
      have f : wr.frozen? ⟨gb, q, none⟩ = false := hblk.frozen q
      have HBLK := hide hblk
      clear hez hox hblk hcb
      go_wp2
      go_roundw
      case rel => exact ⟨q + 1, by omega, by go_num, (unhid_ HOX).setCell (p := ⟨gb, q, none⟩) (.inl (by simp)) _, fun h => absurd h (by omega), fun _ => ⟨_, by simpa using hc2, (unhid_ HBLK).set_ q _⟩⟩
      case measure => simp [intOf]; omega
    · obtain rfl : q = x.xs.length := by omega
      have hsz3 := hox.size
      have hT3 : IsT wr B gt t' := by
        rcases Nat.eq_zero_or_pos x.xs.length with h0 | h0
        · rw [hez h0]; exact unhid_ HT'
        · exact (unhid_ HT').aside hox (by omega) ((unhid_ HAS) h0)
      have hR3 : IsR wr gr r := hox.blk ((unhid_ HO2).blk (unhid_ HBB1).R (by simp; exact fun e => (unhid_ HBO).ne e.symm)) (by simp; omega)
      have hbx3 := hox.blk ((unhid_ HO2).blk (unhid_ HBX1) (by simp; omega)) (by simp; omega)
      have c1 : wr.cell? ⟨w.heap.size, 1, none⟩ = some (.int .i64 x.p) := hbx3.cell 1
      have c2 : wr.cell? ⟨w.heap.size, 2, none⟩ = some (.int .i64 x.n) := hbx3.cell 2
      have c8 : wr.cell? ⟨w.heap.size, 8, none⟩ = some (.slice x.A x.xs.length x.c) := hbx3.cell 8
      have hBe : Below SB wb wr := (((unhid_ HB1).mono hSB2).trans ((unhid_ HO2).below (fun k hk => by simp at hk; omega) (by omega))).trans (hox.below (fun k hk => by simp at hk; omega) (by omega))
      have hX3 := (unhid_ HX).below hBe
      have hAd : 0 < x.xs.length → ∀ ad, x.A = some ad → ad.block ∉ [gr] := by
        intro h0 ad he
        obtain ⟨ad', e1, e2, _⟩ := hX3.2 h0
        rw [he] at e1
        injection e1 with e1
        subst e1
        simp
        omega
      have HR3 := hide (rbuf_any wr gr r x.p x.n SB x.A x.c x.xs hR3 hX3 hAd (by omega) (by simp only [maxLen]; omega))
      have HT3 := hide hT3
      have HOX := hide hox
      clear hT3 hR3 hbx3 hBe hX3 hAd hox hez hcb hgb2
      go_wp2_with fail
      refine (unhid_ HR3).mono ?_
      rintro e4 w4 hq4
      obtain ⟨rfl, ho4, hR4⟩ := (unhid_ HRR) _ _ _ hq4
      go_wp2
      go_ret
      refine ⟨rfl, Only.drop (gb := gb) (by omega) ((Only.of_below (unhid_ HAL) _).trans ((Only.of_below (unhid_ HB1) _).trans (((unhid_ HO2).more (by simp)).trans (((unhid_ HOX).more (by simp)).trans (ho4.more (by simp)))))), t', r', ⟨(unhid_ HT3).only ho4 (by simp; exact (unhid_ HBO).ne) (fun k hk => by simp at hk; subst hk; exact .inl (unhid_ HBO).rB), hR4, unhid_ HM', unhid_ HI', (unhid_ HBO).rB, (unhid_ HBO).ne, ?_⟩, fun _ => unhid_ HF'⟩
      · have := (unhid_ HBO).sz
        have := ho4.size
        omega

theorem do_any (w : World) (B gt gr : Nat) (t : TbV) (r : Nat → RpV) (x : OpV) (hb : Bo w B gt gr t r) (SB : Nat) (hx : Reads w SB 1 x.A x.xs.length (x.xs.map (Value.int .u8))) (hSB : SB ≤ gr) (hSBt : SB ≤ gt) (hl : x.xs.length ≤ 600) :
    Calls Try.prog 20 #[.pointer (some ⟨gt, 0, none⟩), .pointer (some ⟨gr, 0, none⟩), x.val] w (DoT B gt gr t x w) := by
  have h1 := Int.emod_nonneg x.k (by omega : (10 : Int) ≠ 0)
  have h2 := Int.emod_lt_of_pos x.k (by omega : (0 : Int) < 10)
  by_cases h : x.k % 10 = 0
  · exact do0_any w B gt gr t r x hb h
  by_cases h : x.k % 10 = 1
  · exact do1_any w B gt gr t r x hb h
  by_cases h : x.k % 10 = 2
  · exact do2_any w B gt gr t r x hb h
  by_cases h : x.k % 10 = 3
  · exact do3_any w B gt gr t r x hb h SB hx hSB hSBt hl
  by_cases h : x.k % 10 = 4
  · exact do4_any w B gt gr t r x hb h
  by_cases h : x.k % 10 = 5
  · exact do5_any w B gt gr t r x hb h
  by_cases h : x.k % 10 = 6
  · exact do6_any w B gt gr t r x hb h
  by_cases h : x.k % 10 = 7
  · exact do7_any w B gt gr t r x hb h
  by_cases h : x.k % 10 = 8
  · exact do8_any w B gt gr t r x hb h
  exact do9_any w B gt gr t r x hb (by omega)
end Go.Proofs.Ytgdloahgokefpaa
