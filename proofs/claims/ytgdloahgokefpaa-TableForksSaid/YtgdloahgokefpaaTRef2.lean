/- The document's table: the walks of Close, Seek, Open, Dup. -/
import Derived.Test.YtgdloahgokefpaaTRef
import Derived.Deep.DeepCutAuto
import Derived.StillTailTactics
import Derived.BigQuiet
import Derived.Deep.QuietTactic
namespace Go.Proofs.Ytgdloahgokefpaa
open Go.RowKit
set_option linter.unusedSimpArgs false

theorem rfd_zero {r : Nat → RpV} {p fd : Int} (h : rfdErr r p fd = 0) : ∃ k i : Nat, p = k ∧ fd = i ∧ 1 ≤ k ∧ k < 13 ∧ i < 8 ∧ ris r p = true ∧ rfdV r p fd = (r k).f i := by
  unfold rfdErr at h
  cases h1 : ris r p with
  | false => rw [h1] at h; cases h
  | true =>
    cases h2 : rfdOk r p fd with
    | false => rw [h1, h2] at h; cases h
    | true =>
      obtain ⟨k, rfl, hk1, hk, _⟩ := ris_nat h1
      have h3 := h2
      unfold rfdOk at h3
      simp at h3
      refine ⟨k, fd.toNat, rfl, by omega, hk1, hk, by omega, rfl, ?_⟩
      have e : rfdErr r (k : Int) fd = 0 := by simp [rfdErr, h1, h2]
      rw [rfdV, if_pos e, Int.toNat_natCast]
def rclose (r : Nat → RpV) (p fd : Int) : Nat → RpV := if rfdErr r p fd = 0 then rsetFd r p.toNat fd.toNat FdV.zero else r

set_option maxHeartbeats 1000000 in
theorem rclose_any (w : World) (g : Nat) (r : Nat → RpV) (p fd : Int) (h : IsR w g r) :
    Calls Try.prog 32 #[.pointer (some ⟨g, 0, none⟩), .int .i64 p, .int .i64 fd] w fun e w' => e = .returned (.int .i64 (rfdErr r p fd)) ∧ IsR w' g (rclose r p fd) ∧ Only [g] w w' := by
  have HF := hide (rfd_any w g r p fd h)
  have hlt := h.lt
  have H := hide h
  clear h
  go_enter Try.func32, Try.ntmps32
  go_upto_region 1 with (fail)
  go_cut [8] (fun s8 wx => s8 = .int .i64 (rfdErr r p fd) ∧ Below w.heap.size w wx)
  case first =>
    go_wp2_with fail
    refine (unhid_ HF).mono ?_
    rintro e wx ⟨rfl, hb⟩
    have HB := hide hb
    clear hb
    go_wp2_with fail
    go_meet
    exact ⟨rfl, (unhid_ HB).alloc (unhid_ HB).size _⟩
  case rest =>
    obtain ⟨rfl, hb⟩ := hcut
    have hT := (unhid_ H).below hb hlt
    have HT := hide hT
    have HB := hide hb
    clear hT hb
    obtain ⟨E, hE⟩ : ∃ E, E = rfdErr r p fd := ⟨_, rfl⟩
    rw [← hE]
    obtain ⟨z, hz⟩ : ∃ b, (E == 0) = b := ⟨_, rfl⟩
    cases z with
    | false =>
      have hE2 : rfdErr r p fd ≠ 0 := by rw [← hE]; simpa using hz
      have HE := Lib.hid hE2
      have HE3 := Lib.hid hE
      clear hE2 hE
      go_wp2
      go_ret
      refine ⟨by rw [← HE3.out]; rfl, ?_, Only.of_below (unhid_ HB) _⟩
      rw [rclose, if_neg HE.out]
      exact unhid_ HT
    | true =>
      have hE2 : rfdErr r p fd = 0 := by rw [← hE]; simpa using hz
      obtain ⟨k, i, rfl, rfl, _, hk, hi, _, _⟩ := rfd_zero hE2
      obtain ⟨c0, c1, c2, c3, f0, f1, f2, f3⟩ := (unhid_ HT).fdFacts hk hi
      have HE := Lib.hid hE2
      have HE3 := Lib.hid hE
      have hkI : (k : Int) < 13 := by omega
      have hiI : (i : Int) < 8 := by omega
      clear hE2 hE
      go_wp2
      go_ret
      refine ⟨by rw [← HE3.out]; rfl, ?_, (Only.of_below (unhid_ HB) [g]).trans (Only.setCells FdV.zero.cells g (k * 39 + 7 + i * 4) wc (Only.refl [g] wc) (.inl (by simp)))⟩
      rw [rclose, if_pos HE.out, Int.toNat_natCast, Int.toNat_natCast]
      exact (unhid_ HT).setFd FdV.zero hi

def rseekErr (r : Nat → RpV) (p fd at_ : Int) : Int := if rfdErr r p fd ≠ 0 then rfdErr r p fd else if (rfdV r p fd).k ≠ 2 ∧ (rfdV r p fd).k ≠ 4 then 18 else if at_ < 0 ∨ 4096 < at_ then 1 else 0
def rseek (r : Nat → RpV) (p fd at_ : Int) : Nat → RpV := if rseekErr r p fd at_ = 0 then rsetFd r p.toNat fd.toNat { rfdV r p fd with a := at_ } else r
theorem seek_cells {w : World} {g : Nat} {r : Nat → RpV} (h : IsR w g r) {k i : Nat} {at_ : Int} (hi : i < 8) : IsR (w.setCell ⟨g, k * 39 + 7 + i * 4 + 2, none⟩ (.int .i64 at_)) g (rsetFd r k i { (r k).f i with a := at_ }) := by
  refine h.setC (vs := [.int .i64 at_]) (c := 7 + i * 4 + 2) (by omega) (by simp; omega) fun j hj => ?_
  rw [putAt_cons, putAt_nil]
  show (if j = 7 + i * 4 + 2 then _ else (r k).cell j) = _
  by_cases h2 : j = 7 + i * 4 + 2
  · subst h2
    rw [if_pos rfl, RpV.cell_fd _ (by omega)]
    simp only [RpV.setFd, if_true]
    rfl
  · rw [if_neg h2, RpV.cell, RpV.cell]
    simp only [RpV.setFd]
    by_cases h7 : j < 7
    · simp only [h7, if_true]
    · by_cases h5 : (j - 7) / 4 = i
      · have h6 : (j - 7) % 4 ≠ 2 := by omega
        simp only [h5, if_true]
        obtain ⟨m, hm⟩ : ∃ m, m = (j - 7) % 4 := ⟨_, rfl⟩
        rw [← hm] at h6 ⊢
        have hm4 : m < 4 := by omega
        match m, hm4 with
        | 0, _ => rfl
        | 1, _ => rfl
        | 2, _ => exact absurd rfl h6
        | 3, _ => rfl
      · simp only [h5, if_false]

set_option maxHeartbeats 2000000 in
theorem rseek_any (w : World) (g : Nat) (r : Nat → RpV) (p fd at_ : Int) (h : IsR w g r) :
    Calls Try.prog 35 #[.pointer (some ⟨g, 0, none⟩), .int .i64 p, .int .i64 fd, .int .i64 at_] w fun e w' => e = .returned (.int .i64 (rseekErr r p fd at_)) ∧ IsR w' g (rseek r p fd at_) ∧ Only [g] w w' := by
  have HF := hide (rfd_any w g r p fd h)
  have hlt := h.lt
  have H := hide h
  clear h
  go_enter Try.func35, Try.ntmps35
  go_upto_region 1 with (fail)
  go_cut [9, 10] (fun s9 s10 wx => s10 = .int .i64 (rfdErr r p fd) ∧ Below w.heap.size w wx ∧ ∃ b, w.heap.size ≤ b ∧ s9 = .pointer (some ⟨b, 0, none⟩) ∧ Blk wx b 53 (rfdV r p fd).cells.toArray)
  case first =>
    go_wp2_with fail
    refine (unhid_ HF).mono ?_
    rintro e wx ⟨rfl, hb⟩
    have HB := hide hb
    clear hb
    go_wp2_with fail
    go_meet
    exact ⟨rfl, (unhid_ HB).alloc (unhid_ HB).size _, wx.heap.size, (unhid_ HB).size, rfl, Blk.new _ _ _⟩
  case rest =>
    obtain ⟨rfl, hb, b, hbw, rfl, hblk⟩ := hcut
    have hT := (unhid_ H).below hb hlt
    have HT := hide hT
    have HB := hide hb
    obtain ⟨F, hF⟩ : ∃ F, F = rfdV r p fd := ⟨_, rfl⟩
    rw [← hF] at hblk
    have c0 : wc.cell? ⟨b, 0, none⟩ = some (.int .i64 F.k) := hblk.cell 0
    have hge : b ≠ g := by omega
    clear hT hb hblk
    obtain ⟨E, hE⟩ : ∃ E, E = rfdErr r p fd := ⟨_, rfl⟩
    rw [← hE]
    obtain ⟨z, hz⟩ : ∃ b, (E != 0) = b := ⟨_, rfl⟩
    cases z with
    | true =>
      have hE2 : rfdErr r p fd ≠ 0 := by rw [← hE]; simpa using hz
      have e1 : rseekErr r p fd at_ = rfdErr r p fd := by simp [rseekErr, hE2]
      have HE := Lib.hid e1
      have HE2 := Lib.hid hE2
      clear hE2 e1 hF
      have HE3 := Lib.hid hE
      clear hE
      go_wp2
      go_ret
      refine ⟨by rw [HE.out, ← HE3.out]; rfl, ?_, Only.of_below (unhid_ HB) _⟩
      rw [rseek, HE.out, if_neg HE2.out]
      exact unhid_ HT
    | false =>
      have hE2 : rfdErr r p fd = 0 := by rw [← hE]; simpa using hz
      obtain ⟨k, i, rfl, rfl, _, hk, hi, _, hv⟩ := rfd_zero hE2
      obtain ⟨_, _, d2, _, _, _, f2, _⟩ := (unhid_ HT).fdFacts hk hi
      have HE : Hid (∀ e, (if F.k ≠ 2 ∧ F.k ≠ 4 then 18 else if at_ < 0 ∨ 4096 < at_ then 1 else 0) = e → rseekErr r (k : Int) (i : Int) at_ = e) := by
        intro e he
        rw [rseekErr, if_neg (by omega), ← hF, he]
      have HS : Hid (rseekErr r (k : Int) (i : Int) at_ = 0 → rseek r (k : Int) (i : Int) at_ = rsetFd r k i { (r k).f i with a := at_ }) := by
        intro e
        rw [rseek, if_pos e, hv, Int.toNat_natCast, Int.toNat_natCast]
      have HS0 : Hid (rseekErr r (k : Int) (i : Int) at_ ≠ 0 → rseek r (k : Int) (i : Int) at_ = r) := by
        intro e
        rw [rseek, if_neg e]
      have hkI : (k : Int) < 13 := by omega
      have hiI : (i : Int) < 8 := by omega
      clear hE2 hE hv hF
      obtain ⟨z2, hz2⟩ : ∃ b, (F.k != 2) = b := ⟨_, rfl⟩
      obtain ⟨z4, hz4⟩ : ∃ b, (F.k != 4) = b := ⟨_, rfl⟩
      have HZ : Hid ((F.k ≠ 2 ∧ F.k ≠ 4) ↔ (z2 && z4) = true) := by
        show _ ↔ _
        rw [← hz2, ← hz4]
        simp
      go_upto_region 4 with (fail)
      go_cut [22] (fun s22 wx => s22 = .bool (z2 && z4) ∧ wx = wc)
      case first =>
        cases z2 <;> cases z4
        all_goals
          go_wp2
          go_meet
          exact ⟨rfl, rfl⟩
      case rest =>
        obtain ⟨rfl, hwx⟩ := hcut
        have hwx2 := hwx.symm
        subst hwx2
        clear hz2 hz4 c0
        cases hzz : (z2 && z4) with
        | true =>
          have e18 := (unhid_ HE) 18 (by rw [if_pos ((unhid_ HZ).2 hzz)])
          have E18 := Lib.hid e18
          clear e18 hzz
          go_wp2
          go_ret
          refine ⟨by rw [E18.out]; rfl, ?_, Only.of_below (unhid_ HB) _⟩
          rw [(unhid_ HS0) (by rw [E18.out]; decide)]
          exact unhid_ HT
        | false =>
          have hnn : ¬ (F.k ≠ 2 ∧ F.k ≠ 4) := fun h => by have := (unhid_ HZ).1 h; rw [hzz] at this; cases this
          by_cases hok : 0 ≤ at_ ∧ at_ ≤ 4096
          · have e0 := (unhid_ HE) 0 (by rw [if_neg hnn, if_neg (by omega)])
            have E0 := Lib.hid e0
            obtain ⟨hok1, hok2⟩ := hok
            clear e0 hzz hnn
            go_wp2
            go_ret
            refine ⟨by rw [E0.out]; rfl, ?_, (Only.of_below (unhid_ HB) [g]).trans ((Only.refl [g] _).setCell (p := ⟨g, k * 39 + 7 + i * 4 + 2, none⟩) (.inl (by simp)) _)⟩
            rw [(unhid_ HS) E0.out]
            exact seek_cells (unhid_ HT) hi
          · have e1 := (unhid_ HE) 1 (by rw [if_neg hnn, if_pos (by omega)])
            have E1 := Lib.hid e1
            have hbad : at_ < 0 ∨ (0 ≤ at_ ∧ 4096 < at_) := by omega
            clear e1 hzz hnn hok
            rcases hbad with h | ⟨h, h'⟩
            all_goals
              go_wp2
              go_ret
              refine ⟨by rw [E1.out]; rfl, ?_, Only.of_below (unhid_ HB) _⟩
              rw [(unhid_ HS0) (by rw [E1.out]; decide)]
              exact unhid_ HT
end Go.Proofs.Ytgdloahgokefpaa
