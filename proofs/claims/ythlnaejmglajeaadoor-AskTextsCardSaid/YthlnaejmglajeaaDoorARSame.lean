/- The walk of the reference's Same, at one question twice. -/
import Derived.Test.YthlnaejmglajeaaDoorASame
import Derived.Test.YthlnaejmglajeaaDoorAP0
import Derived.Deep.RegionWith
namespace Go.Proofs.YthlnaejmglajeaaDoor
open Go.RowKit
set_option linter.unusedSimpArgs false
set_option linter.unusedVariables false

set_option maxHeartbeats 1000000 in
/-- one question, at two places: the reference's Same says true -/
theorem rsame_any (N : Nat) : ∀ (w : World) (B0 B B0' B' : Nat) (o n : Int) (ks : List QT) (A A' : Option Addr) (c c' : Nat), szL ks < N → RQ w B0 B (.mk o n ks) A c → B ≤ w.heap.size → RQ w B0' B' (.mk o n ks) A' c' → B' ≤ w.heap.size →
    Calls Tryd.prog 15 #[.agg #[.int .i64 o, .int .i64 n, .slice A ks.length c], .agg #[.int .i64 o, .int .i64 n, .slice A' ks.length c']] w (BoolB true w) := by
  induction N with
  | zero => intro w B0 B B0' B' o n ks A A' c c' h; omega
  | succ N ih =>
    intro w B0 B B0' B' o n ks A A' c c' hN hq hB hq' hB'
    have HIH := hide ih
    have hcap := hq.cap
    have hlc : ks.length ≤ 9223372036854775807 := by have := hcap.1; have := hcap.2; simp only [QT.kids, maxLen] at *; omega
    have HQ := hide hq
    have HQ' := hide hq'
    have hbw : Below w.heap.size w ((w.alloc (.cells #[.int .i64 o, .int .i64 n, .slice A ks.length c] stepT)).alloc (.cells #[.int .i64 o, .int .i64 n, .slice A' ks.length c'] stepT)) := ((Below.refl _ _).alloc (Nat.le_refl _) _).alloc (by simp) _
    have HBW := hide (Below.refl (w.heap.size + 2) ((w.alloc (.cells #[.int .i64 o, .int .i64 n, .slice A ks.length c] stepT)).alloc (.cells #[.int .i64 o, .int .i64 n, .slice A' ks.length c'] stepT)))
    have HB0 := hide hbw
    obtain ⟨W0, hW0⟩ : ∃ x, x = ((w.alloc (.cells #[.int .i64 o, .int .i64 n, .slice A ks.length c] stepT)).alloc (.cells #[.int .i64 o, .int .i64 n, .slice A' ks.length c'] stepT)) := ⟨_, rfl⟩
    have hsz0 : W0.heap.size = w.heap.size + 2 := by rw [hW0]; simp
    have HW0 := Lib.hid hW0
    clear ih hcap hq hq' hbw hW0
    go_enter Tryd.func15, Tryd.ntmps15
    go_wp2_with fail
    go_loopw [5] (fun i wr => ∃ k : Nat, k ≤ ks.length ∧ i = .int .i64 k ∧ Below (w.heap.size + 2) W0 wr) (fun i _ => ks.length - (intOf i).toNat)
    case atStart => exact ⟨0, Nat.zero_le _, rfl, by rw [HW0.out]; exact unhid_ HBW⟩
    case round =>
      obtain ⟨k, hk, rfl, hb2⟩ := hrel
      rw [HW0.out] at hb2
      obtain ⟨a0, a1, a2, b0, b1, b2⟩ := box2 hb2
      have hbq : Below w.heap.size w wr := (unhid_ HB0).trans (hb2.mono (by omega))
      have hsz : w.heap.size + 2 ≤ wr.heap.size := by have := hb2.size; simp at this; omega
      have HB2 := hide hb2
      have HBQ := hide hbq
      clear hb2
      by_cases hlt : k < ks.length
      · obtain ⟨ad, x, Ai, ci, rfl, hx, hb1', c0, c1, c2, hqx⟩ := ((unhid_ HQ).belowW (hbq.mono hB)).at_ (i := k) hlt
        obtain ⟨ad', x', Ai', ci', rfl, hx', hb2', e0, e1, e2, hqx'⟩ := ((unhid_ HQ').belowW (hbq.mono hB')).at_ (i := k) hlt
        obtain rfl : x = x' := by rw [hx] at hx'; injection hx'
        have gx : ks[k]? = some x := hx
        have hszx : szQ x ≤ szL ks := szL_mem (List.mem_of_getElem? gx)
        obtain ⟨ox, nx, kx⟩ := x
        rw [szQ_mk] at hszx
        simp only [QT.op, QT.n, QT.kids] at c0 c1 c2 e0 e1 e2
        have hkI : (k : Int) < ks.length := by omega
        have hn1 : (ad.add (k * 3)).block < wr.heap.size := by omega
        have hn2 : (ad'.add (k * 3)).block < wr.heap.size := by omega
        have HC := hide ((unhid_ HIH) wr.drew B0 B B0' B' ox nx kx Ai Ai' ci ci' (by omega) (hqx.drewN 1) (by show B ≤ wr.heap.size; omega) (hqx'.drewN 1) (by show B' ≤ wr.heap.size; omega))
        clear hx hx' gx hqx hqx' hbq
        go_wp2_with fail
        go_region_with (go_at_call 15; refine (unhid_ HC).mono ?_; rintro e w' ⟨rfl, hb'⟩; have HB3 := hide ((unhid_ HB2).drew.trans (hb'.mono (by show w.heap.size + 2 ≤ wr.heap.size; omega))); clear hb')
        all_goals
          go_wp2_with fail
          go_roundw
        all_goals try (show (_ : Nat) < _; simp [intOf]; omega)
        all_goals exact ⟨k + 1, by omega, by go_num, by rw [HW0.out]; exact unhid_ HB3⟩
      · obtain rfl : k = ks.length := by omega
        clear hbq
        go_wp2
        go_ret
        exact boolB_mk rfl (unhid_ HBQ)
end Go.Proofs.YthlnaejmglajeaaDoor
