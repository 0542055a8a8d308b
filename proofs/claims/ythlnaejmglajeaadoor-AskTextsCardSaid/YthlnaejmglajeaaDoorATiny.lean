/- The walk of tiny. -/
import Derived.Test.YthlnaejmglajeaaDoorACheck3
import Derived.Test.YthlnaejmglajeaaDoorAP0
namespace Go.Proofs.YthlnaejmglajeaaDoor
open Go.RowKit
set_option linter.unusedSimpArgs false
set_option linter.unusedVariables false

/-- what tiny answers: some bool; it turns its number alone -/
def TinyT (g : Nat) (w : World) (e : Ending) (w' : World) : Prop :=
  ∃ (b : Bool) (m : Int), e = .returned (.bool b) ∧ Blk w' g 3 #[.int .i64 m] ∧ 0 ≤ m ∧ (b = true → m ≤ 100) ∧ Only [g] w w'

set_option maxHeartbeats 1000000 in
theorem tiny_any (N : Nat) : ∀ (w : World) (B0 B : Nat) (o n : Int) (ks : List QT) (A : Option Addr) (c : Nat) (deep m : Int) (g : Nat), szL ks < N → RQ w B0 B (.mk o n ks) A c → B ≤ g → Blk w g 3 #[.int .i64 m] → 0 ≤ m → m ≤ 100 → 0 ≤ deep → deep ≤ 1000 →
    Calls Tryd.prog 7 #[.agg #[.int .i64 o, .int .i64 n, .slice A ks.length c], .int .i64 deep, .pointer (some ⟨g, 0, none⟩)] w (TinyT g w) := by
  induction N with
  | zero => intro w B0 B o n ks A c deep m g h; omega
  | succ N ih =>
    intro w B0 B o n ks A c deep m g hN hq hBg hb h0 h1 h2 h3
    have HIH := hide ih
    have hcap := hq.cap
    have hlc : ks.length ≤ 9223372036854775807 := by have := hcap.1; have := hcap.2; simp only [QT.kids, maxLen] at *; omega
    have HQ := hide hq
    have hgl := hb.lt
    have hgne : w.heap.size ≠ g := by omega
    have c0 : w.cell? ⟨g, 0, none⟩ = some (.int .i64 m) := hb.cell 0
    have f0 := hb.frozen 0
    have hbx : Blk ((w.setCell ⟨g, 0, none⟩ (.int .i64 (m + 1))).alloc (.cells #[.int .i64 o, .int .i64 n, .slice A ks.length c] stepT)) w.heap.size stepT #[.int .i64 o, .int .i64 n, .slice A ks.length c] := by
      have h := Blk.new (w.setCell ⟨g, 0, none⟩ (.int .i64 (m + 1))) stepT #[.int .i64 o, .int .i64 n, .slice A ks.length c]
      rwa [show (w.setCell ⟨g, 0, none⟩ (.int .i64 (m + 1))).heap.size = w.heap.size by simp [World.setCell]] at h
    have hbg : Blk ((w.setCell ⟨g, 0, none⟩ (.int .i64 (m + 1))).alloc (.cells #[.int .i64 o, .int .i64 n, .slice A ks.length c] stepT)) g 3 #[.int .i64 (m + 1)] := (hb.set_ 0 _).alloc _
    have hon : Only [g] w ((w.setCell ⟨g, 0, none⟩ (.int .i64 (m + 1))).alloc (.cells #[.int .i64 o, .int .i64 n, .slice A ks.length c] stepT)) := ((Only.refl [g] w).setCell (.inl (by simp)) _).alloc _
    have HBX := hide hbx
    have HBG := hide hbg
    have HON := hide hon
    clear ih hcap hq hb hbx hbg hon
    by_cases g1 : 100 < m + 1
    · have d1 : decide (100 < m + 1) = true := by simpa using g1
      go_enter Tryd.func7, Tryd.ntmps7
      go_wp2_with fail
      go_ret
      exact ⟨false, m + 1, rfl, unhid_ HBG, by omega, by simp, unhid_ HON⟩
    · have d1 : decide (100 < m + 1) = false := by simpa using g1
      by_cases g2 : 20 < deep
      · have d2 : decide (20 < deep) = true := by simpa using g2
        go_enter Tryd.func7, Tryd.ntmps7
        go_wp2_with fail
        go_ret
        exact ⟨false, m + 1, rfl, unhid_ HBG, by omega, by simp, unhid_ HON⟩
      · have d2 : decide (20 < deep) = false := by simpa using g2
        go_enter Tryd.func7, Tryd.ntmps7
        go_wp2_with fail
        go_loopw [7] (fun i wr => ∃ (k : Nat) (l : Int), k ≤ ks.length ∧ i = .int .i64 k ∧ 0 ≤ l ∧ l ≤ 100 ∧ Blk wr g 3 #[.int .i64 l] ∧ Blk wr w.heap.size stepT #[.int .i64 o, .int .i64 n, .slice A ks.length c] ∧ Only [g] w wr) (fun i _ => ks.length - (intOf i).toNat)
        case atStart => exact ⟨0, m + 1, Nat.zero_le _, rfl, by omega, by omega, unhid_ HBG, unhid_ HBX, unhid_ HON⟩
        case round =>
          obtain ⟨k, l, hk, rfl, hl0, hl1, hbg, hbx, hon⟩ := hrel
          have hsz := hon.size
          have b2 : wr.cell? ⟨w.heap.size, 2, none⟩ = some (.slice A ks.length c) := hbx.cell 2
          by_cases hlt : k < ks.length
          · obtain ⟨ad, x, Ai, ci, rfl, hx, _, e0, e1, e2, hqx⟩ := ((unhid_ HQ).only hon (by omega) (by simp; omega)).at_ (i := k) hlt
            have hx' : ks[k]? = some x := hx
            have hszx : szQ x ≤ szL ks := szL_mem (List.mem_of_getElem? hx')
            obtain ⟨ox, nx, kx⟩ := x
            rw [szQ_mk] at hszx
            simp only [QT.op, QT.n, QT.kids] at e0 e1 e2
            have hkI : (k : Int) < ks.length := by omega
            have HC := hide ((unhid_ HIH) wr B0 B ox nx kx Ai ci (deep + 1) l g (by omega) hqx hBg hbg hl0 hl1 (by omega) (by omega))
            have HBX2 := hide hbx
            have HON2 := hide hon
            clear hx hx' hqx hbg hbx hon HBX HBG HON
            go_wp2_with fail
            refine (unhid_ HC).mono ?_
            rintro e w' ⟨b, m', rfl, hbg', hm0, hm1, hon'⟩
            have HBG3 := hide hbg'
            have HON3 := hide ((unhid_ HON2).trans hon')
            have HBX3 := hide (hon'.blk (unhid_ HBX2) (by simp; omega))
            clear hbg' hon' HC
            cases b with
            | true =>
              have hm1' := hm1 rfl
              go_wp2
              go_roundw
              case rel => exact ⟨k + 1, m', by omega, by go_num, hm0, hm1', unhid_ HBG3, unhid_ HBX3, unhid_ HON3⟩
              case measure => simp [intOf]; omega
            | false =>
              go_wp2
              go_ret
              exact ⟨false, m', rfl, unhid_ HBG3, hm0, by simp, unhid_ HON3⟩
          · obtain rfl : k = ks.length := by omega
            have HBG3 := hide hbg
            have HON3 := hide hon
            clear hbg hon hbx
            go_wp2
            go_ret
            exact ⟨true, l, rfl, unhid_ HBG3, hl0, fun _ => hl1, unhid_ HON3⟩
end Go.Proofs.YthlnaejmglajeaaDoor
