/- The walk of the reference's Check. -/
import Derived.Test.YthlnaejmglajeaaDoorARLook
namespace Go.Proofs.YthlnaejmglajeaaDoor
open Go.RowKit
set_option linter.unusedSimpArgs false
set_option linter.unusedVariables false

set_option maxHeartbeats 1000000 in
theorem rcheck_any (w : World) (B0 B : Nat) (o n : Int) (ks : List QT) (A : Option Addr) (c : Nat) (hq : RQ w B0 B (.mk o n ks) A c) (hB : B ≤ w.heap.size) :
    Calls Tryd.prog 10 #[.agg #[.int .i64 o, .int .i64 n, .slice A ks.length c]] w (BoolB (checkF (.mk o n ks)) w) := by
  have hbw : Below w.heap.size w ((w.alloc (.cells #[.int .i64 o, .int .i64 n, .slice A ks.length c] stepT)).alloc (.cells #[.int .i64 0] 3)) := ((Below.refl _ _).alloc (Nat.le_refl _) _).alloc (by simp) _
  have hbl := Blk.new (w.alloc (.cells #[.int .i64 o, .int .i64 n, .slice A ks.length c] stepT)) 3 #[.int .i64 0]
  rw [World.size_alloc] at hbl
  have HH := hide (rlook_any (szL ks + 1) _ B0 B o n ks A c 1 0 (w.heap.size + 1) (by omega) (hq.belowW (hbw.mono hB)) (by omega) hbl (by omega) (by omega) (by omega) (by omega))
  have hc := look_check (.mk o n ks)
  obtain ⟨r, hr⟩ : ∃ r, lookF (.mk o n ks) 0 1 = r := ⟨_, rfl⟩
  rw [hr] at HH hc
  have HC := Lib.hid hc
  have HBW := hide hbw
  clear hq hr hc hbw hbl
  go_enter Tryd.func10, Tryd.ntmps10
  go_wp2_with fail
  refine (unhid_ HH).mono ?_
  rintro e w' ⟨rfl, hbl', hon⟩
  have HB := hide ((unhid_ HBW).trans (hon.below (B := w.heap.size) (by simp) (by simp; omega)))
  clear hbl' hon HH
  go_wp2
  go_ret
  exact boolB_mk HC.out (unhid_ HB)
end Go.Proofs.YthlnaejmglajeaaDoor
