/- The walk of the law TablePlays. -/
import Derived.Test.YtgdloahgokefpaaTSame2
import Derived.Test.YtgdloahgokefpaaOpenOps
import Derived.Deep.DeepCutAuto
namespace Go.Proofs.Ytgdloahgokefpaa
open Go.RowKit
set_option linter.unusedSimpArgs false

theorem info_ref : (Try.prog.info? 59).map (·.zero) = some (some (.agg (Tb 507 (rcell fun _ => RpV.zero)))) := by kernel_rfl
theorem run_zero_ref (W : World) : (zeroValue 59).run Try.prog W = .ok (.agg (Tb 507 (rcell fun _ => RpV.zero))) W := by
  have h := info_ref
  cases hq : Try.prog.info? 59 with
  | none => simp [hq] at h
  | some i =>
    have hz : i.zero = some (.agg (Tb 507 (rcell fun _ => RpV.zero))) := by simpa [hq] using h
    simp [zeroValue, typeInfo, hq, hz, Sem.run_bind]
/-- two new tables -/
theorem Bo.start {w w1 : World} (h1 : IsT w1 (w.heap.size + 1) w.heap.size TbV.zero) (hs : w1.heap.size = w.heap.size + 1) :
    Bo (w1.alloc (.cells (Tb 507 (rcell fun _ => RpV.zero)) 59)) (w.heap.size + 2) w.heap.size (w.heap.size + 1) TbV.zero (fun _ => RpV.zero) :=
  ⟨⟨h1.1.alloc _, by omega, fun _ _ _ _ => ⟨World.ownsRow_nil _ _ _ _, Nat.zero_le _⟩⟩, Blk.new' hs.symm _ _, Mt.zero, Iv.zero, by omega, by omega, by simp [hs]⟩

set_option maxRecDepth 100000 in
set_option maxHeartbeats 4000000 in
theorem tablePlays_any (A : Option Addr) (n c : Nat) (w : World) (hr : OpsR w w.heap.size A n) :
    Calls Try.prog 7 #[.slice A n c] w (Yes w) := by
  have HR := hide hr
  clear hr
  go_enter Try.func7, Try.ntmps7
  go_wp2_with fail
  refine (newt_any _).mono ?_
  rintro e w1 ⟨rfl, h1, hb1, hs1⟩
  have hBo := Bo.start h1 hs1
  have hz := run_zero_ref
  have HB1 := hide hb1
  have HS1 := Lib.hid hs1
  have HBO := hide hBo
  clear h1 hb1 hs1 hBo
  go_upto_region 3 with (fail)
  clear hz
  rw [HS1.out]
  obtain ⟨w2, hw2⟩ : ∃ w2, w2 = w1.alloc (.cells (Tb 507 (rcell fun _ => RpV.zero)) 59) := ⟨_, rfl⟩
  rw [← hw2]
  rw [← hw2] at HBO
  have hb2 : Below w.heap.size w w2 := by rw [hw2]; exact (unhid_ HB1).alloc (unhid_ HB1).size _
  have HB2 := hide hb2
  clear hb2 hw2 HB1 HS1
  go_wp2_with fail
  go_loopw [5] (fun s5 wq => ∃ (i : Nat) (t : TbV) (r : Nat → RpV), i ≤ n ∧ s5 = .int .i64 i ∧ Bo wq (w.heap.size + 2) w.heap.size (w.heap.size + 1) t r ∧ Below w.heap.size w wq) (fun s5 _ => n - (intOf s5).toNat)
  case atStart => exact ⟨0, _, _, Nat.zero_le _, rfl, unhid_ HBO, unhid_ HB2⟩
  case round =>
    obtain ⟨i, t, r, hi, rfl, hbo, hb⟩ := hrel
    have HBo := hide hbo
    have HBq := hide hb
    have hzr := hb.size
    clear hbo hb
    by_cases hlt : i < n ∧ i < 80
    · obtain ⟨hlt, h80⟩ := hlt
      obtain ⟨ad, x, hA, hbk, hcell, hrx, hxc, hcm⟩ := ((unhid_ HR).below (unhid_ HBq)) i hlt
      subst hA
      have c8 : wr.cell? ⟨(ad.add (i * 9)).block, (ad.add (i * 9)).off + 8, none⟩ = some (.slice x.A x.xs.length x.c) := hcell 8 (by omega)
      have h80I : (i : Int) < 80 := by omega
      have HC := hide hcell
      clear hcell
      by_cases h600 : x.xs.length ≤ 600
      · have h6I : (x.xs.length : Int) ≤ 600 := by omega
        go_upto_region 10 with (fail)
        have hcell := unhid_ HC
        have c0 : wr.cell? (ad.add (i * 9)) = some (.int .i64 x.k) := hcell 0 (by omega)
        have c1 : wr.cell? ⟨(ad.add (i * 9)).block, (ad.add (i * 9)).off + 1, none⟩ = some (.int .i64 x.p) := hcell 1 (by omega)
        have c2 : wr.cell? ⟨(ad.add (i * 9)).block, (ad.add (i * 9)).off + 2, none⟩ = some (.int .i64 x.n) := hcell 2 (by omega)
        have c3 : wr.cell? ⟨(ad.add (i * 9)).block, (ad.add (i * 9)).off + 3, none⟩ = some (.int .i64 x.m) := hcell 3 (by omega)
        have c4 : wr.cell? ⟨(ad.add (i * 9)).block, (ad.add (i * 9)).off + 4, none⟩ = some (.int .i64 x.f.k) := hcell 4 (by omega)
        have c5 : wr.cell? ⟨(ad.add (i * 9)).block, (ad.add (i * 9)).off + 5, none⟩ = some (.int .i64 x.f.t) := hcell 5 (by omega)
        have c6 : wr.cell? ⟨(ad.add (i * 9)).block, (ad.add (i * 9)).off + 6, none⟩ = some (.int .i64 x.f.a) := hcell 6 (by omega)
        have c7 : wr.cell? ⟨(ad.add (i * 9)).block, (ad.add (i * 9)).off + 7, none⟩ = some (.bool x.f.w) := hcell 7 (by omega)
        have HD := hide (do_any wr (w.heap.size + 2) w.heap.size (w.heap.size + 1) t r x (unhid_ HBo) w.heap.size hrx (by omega) (Nat.le_refl _) h600)
        clear hcell
        go_wp2_with fail
        refine (unhid_ HD).mono ?_
        rintro e w3 ⟨rfl, ho3, t', r', hb3, _⟩
        have hbw3 : Below w.heap.size w w3 := (unhid_ HBq).trans (ho3.below (fun k hk => by simp at hk; omega) hzr)
        have HB3 := hide hb3
        have HBW3 := hide hbw3
        have HSM := hide (same_any w3 (w.heap.size + 2) w.heap.size (w.heap.size + 1) t' r' hb3)
        clear ho3 hb3 hbw3 HD c0 c1 c2 c3 c4 c5 c6 c7 c8
        go_wp2_with fail
        refine (unhid_ HSM).mono ?_
        rintro e w4 ⟨rfl, hb4⟩
        have HB4 := hide hb4
        clear hb4 HSM
        go_wp2
        go_roundw
        case rel => exact ⟨i + 1, t', r', by omega, by go_num, (unhid_ HB3).below (unhid_ HB4), (unhid_ HBW3).trans ((unhid_ HB4).mono (unhid_ HBW3).size)⟩
        case measure => simp [intOf]; omega
      · have h6I : (600 : Int) < (x.xs.length : Int) := by omega
        go_wp2_with fail
        refine (awake_any _).mono ?_
        rintro e w' ⟨rfl, hbz⟩
        go_wp2
        go_ret
        exact yes_mk rfl ((unhid_ HBq).trans (hbz.mono hzr))
    · have hex : (n : Int) ≤ i ∨ ((i : Int) < n ∧ 80 ≤ (i : Int)) := by omega
      rcases hex with h | ⟨h, h'⟩
      all_goals
        go_wp2_with fail
        refine (awake_any _).mono ?_
        rintro e w' ⟨rfl, hbz⟩
        go_wp2
        go_ret
        exact yes_mk rfl ((unhid_ HBq).trans (hbz.mono hzr))
end Go.Proofs.Ytgdloahgokefpaa
