/- The walk of the law AskTexts. -/
import Derived.Test.YthlnaejmglajeaaDoorAAwake
import Derived.Test.YthlnaejmglajeaaDoorALaw3
import Derived.Test.YthlnaejmglajeaaDoorARText
import Derived.Test.YthlnaejmglajeaaDoorARCheck
import Derived.Test.YthlnaejmglajeaaDoorARSame
import Derived.Deep.RegionHeld3
namespace Go.Proofs.YthlnaejmglajeaaDoor
open Go.RowKit
set_option linter.unusedSimpArgs false
set_option linter.unusedVariables false

theorem rText_at {w : World} {B0 B : Nat} {o n : Int} {ks : List QT} {A : Option Addr} {c : Nat} (hq : RQ w B0 B (.mk o n ks) A c) (hB : B ≤ w.heap.size) (hk : checkF (.mk o n ks) = true) :
    Calls Tryd.prog 12 #[.agg #[.int .i64 o, .int .i64 n, .slice A ks.length c]] w (StrB (textF (.mk o n ks)) w) := by
  have hca := check_all hk
  have hsz := hca.2
  rw [szQ_mk] at hsz
  exact rtext_any (szL ks + 1) w B0 B o n ks A c (by omega) (by omega) hca.1 hq hB

set_option maxRecDepth 100000 in
set_option maxHeartbeats 2000000 in
theorem askTexts_any (o n : Int) (ks : List QT) (A : Option Addr) (c : Nat) (w : World) (hv : EV w) (hq : RQ w 0 w.heap.size (.mk o n ks) A c) :
    Calls Tryd.prog 3 #[.agg #[.int .i64 o, .int .i64 n, .slice A ks.length c]] w (Yes w) := by
  have HV := hide hv
  have hbw : Below w.heap.size w ((w.alloc (.cells #[.int .i64 o, .int .i64 n, .slice A ks.length c] stepT)).alloc (.cells #[.int .i64 0] 3)) := ((Below.refl _ _).alloc (Nat.le_refl _) _).alloc (by simp) _
  have hbl := Blk.new (w.alloc (.cells #[.int .i64 o, .int .i64 n, .slice A ks.length c] stepT)) 3 #[.int .i64 0]
  rw [World.size_alloc] at hbl
  have hbx : Blk ((w.alloc (.cells #[.int .i64 o, .int .i64 n, .slice A ks.length c] stepT)).alloc (.cells #[.int .i64 0] 3)) w.heap.size stepT #[.int .i64 o, .int .i64 n, .slice A ks.length c] := (Blk.new w _ _).alloc _
  have HT := hide (tiny_any (szL ks + 1) _ 0 w.heap.size o n ks A c 0 0 (w.heap.size + 1) (by omega) (hq.belowW hbw) (by omega) hbl (by omega) (by omega) (by omega) (by omega))
  have HBW := hide hbw
  have HBX := hide hbx
  have HQ := hide hq
  clear hv hbw hbl hbx hq
  go_enter Tryd.func3, Tryd.ntmps3
  go_wp2_with fail
  refine (unhid_ HT).mono ?_
  rintro e w1 ⟨b, m, rfl, _, _, _, hon⟩
  have hb1 : Below w.heap.size w w1 := (unhid_ HBW).trans (hon.below (B := w.heap.size) (by simp) (by simp; omega))
  have hbx1 : Blk w1 w.heap.size stepT #[.int .i64 o, .int .i64 n, .slice A ks.length c] := hon.blk (unhid_ HBX) (by simp)
  have hsz1 : w.heap.size < w1.heap.size := hbx1.lt
  have HV1 := hide ((unhid_ HV).belowW hb1)
  have HQ1 := hide ((unhid_ HQ).belowW hb1)
  have HB1 := hide hb1
  have HBX1 := hide hbx1
  obtain ⟨c0, c1, c2⟩ := box_facts hbx1
  clear hon HT HBW HBX HQ HV hb1 hbx1
  have HAW := hide (fun (w2 : World) (hb : Below w1.heap.size w1 w2) => awake_any w2 ((unhid_ HV1).belowW hb))
  have HYES := hide (fun (w2 w3 : World) (hb : Below w1.heap.size w1 w2) (hy : Below w2.heap.size w2 w3) => (unhid_ HB1).trans ((hb.trans (hy.mono hb.size)).mono (unhid_ HB1).size))
  have HCELL := hide (fun (w2 : World) (hb : Below w1.heap.size w1 w2) => (⟨(hb.cell (p := ⟨w.heap.size, 0, none⟩) hsz1).trans c0, (hb.cell (p := ⟨w.heap.size, 1, none⟩) hsz1).trans c1, (hb.cell (p := ⟨w.heap.size, 2, none⟩) hsz1).trans c2⟩ : w2.cell? ⟨w.heap.size, 0, none⟩ = some (.int .i64 o) ∧ w2.cell? ⟨w.heap.size, 1, none⟩ = some (.int .i64 n) ∧ w2.cell? ⟨w.heap.size, 2, none⟩ = some (.slice A ks.length c)))
  cases b with
  | false =>
    go_wp2_with fail
    refine ((unhid_ HAW) w1 (Below.refl _ _)).mono ?_
    rintro e w2 ⟨rfl, hb2⟩
    have HB2 := hide ((unhid_ HYES) w1 w2 (Below.refl _ _) hb2)
    clear hb2
    go_wp2
    go_ret
    exact yes_mk rfl (unhid_ HB2)
  | true =>
    have HCK := hide (fun (w2 : World) (hb : Below w1.heap.size w1 w2) => check_any w2 0 w.heap.size o n ks A c ((unhid_ HQ1).belowW (hb.mono (by omega))) (by have := hb.size; omega))
    have HRC := hide (fun (w2 : World) (hb : Below w1.heap.size w1 w2) => rcheck_any w2 0 w.heap.size o n ks A c ((unhid_ HQ1).belowW (hb.mono (by omega))) (by have := hb.size; omega))
    obtain ⟨ck, hck⟩ : ∃ b, checkF (.mk o n ks) = b := ⟨_, rfl⟩
    rw [hck] at HCK HRC
    have HCKF := Lib.hid hck
    clear hck
    go_upto_region 4 with (fail)
    go_cut [16] (fun s wx => s = .bool false ∧ Below w1.heap.size w1 wx)
    case first =>
      go_wp2_with fail
      have HBA := hide ((Below.refl w1.heap.size w1).drew)
      cases ck
      all_goals
        go_region_held3 (fun w' => w'.cell? ⟨w.heap.size, 0, none⟩ = some (.int .i64 o) ∧ w'.cell? ⟨w.heap.size, 1, none⟩ = some (.int .i64 n) ∧ w'.cell? ⟨w.heap.size, 2, none⟩ = some (.slice A ks.length c)) (first | exact ⟨c0, c1, c2⟩ | exact (unhid_ HCELL) _ (unhid_ HBA)) (first | (go_at_call 9; refine ((unhid_ HCK) _ (unhid_ HBA)).mono ?_; rintro e w' ⟨rfl, hb'⟩; have HBB := hide ((unhid_ HBA).trans (hb'.mono (unhid_ HBA).size)); clear HBA hb'; have HBA := HBB; clear HBB) | (go_at_call 10; refine ((unhid_ HRC) _ (unhid_ HBA)).mono ?_; rintro e w' ⟨rfl, hb'⟩; have HBB := hide ((unhid_ HBA).trans (hb'.mono (unhid_ HBA).size)); clear HBA hb'; have HBA := HBB; clear HBB))
      all_goals
        go_wp2
        go_meet
        exact ⟨rfl, unhid_ HBA⟩
    case rest =>
      obtain ⟨rfl, hbx⟩ := hcut
      have HX := hide hbx
      have hszx := hbx.size
      obtain ⟨x0, x1, x2⟩ := (unhid_ HCELL) _ hbx
      clear hbx c0 c1 c2
      cases ck with
      | false =>
        go_wp2_with fail
        refine ((unhid_ HRC) _ (unhid_ HX)).mono ?_
        rintro e w2 ⟨rfl, hb2⟩
        have HB2 := hide ((unhid_ HX).trans (hb2.mono hszx))
        clear hb2
        go_wp2_with fail
        refine ((unhid_ HAW) w2 (unhid_ HB2)).mono ?_
        rintro e w3 ⟨rfl, hb3⟩
        have HB3 := hide ((unhid_ HYES) w2 w3 (unhid_ HB2) hb3)
        clear hb3
        go_wp2
        go_ret
        exact yes_mk rfl (unhid_ HB3)
      | true =>
        have HTX := hide (fun (w2 : World) (hb : Below w1.heap.size w1 w2) => Text_any w2 0 w.heap.size o n ks A c ((unhid_ HQ1).belowW (hb.mono (by omega))) (by have := hb.size; omega) HCKF.out)
        have HRT := hide (fun (w2 : World) (hb : Below w1.heap.size w1 w2) => rText_at (w := w2) (B0 := 0) (B := w.heap.size) (A := A) (c := c) ((unhid_ HQ1).belowW (hb.mono (by omega))) (by have := hb.size; omega) HCKF.out)
        have HSM := hide (fun (w2 : World) (hb : Below w1.heap.size w1 w2) => Same_any w2 0 w.heap.size 0 w.heap.size o n ks A c o n ks A c ((unhid_ HQ1).belowW (hb.mono (by omega))) (by have := hb.size; omega) ((unhid_ HQ1).belowW (hb.mono (by omega))) (by have := hb.size; omega) HCKF.out HCKF.out (sameQ_self _))
        obtain ⟨T, hT⟩ : ∃ T, T = textF (.mk o n ks) := ⟨_, rfl⟩
        unfold StrB at HTX HRT
        rw [← hT] at HTX HRT
        have hsb := size_bytesB T
        have hpv := fun (h : T.length ≤ 200) => parse_law h HCKF.out (by rw [hT]; exact lx_text (check_all HCKF.out).1)
        rw [show T = (bytesB T).data.toList from rfl] at hpv
        obtain ⟨TB, hTB⟩ : ∃ x, x = bytesB T := ⟨_, rfl⟩
        have htl : T.length = TB.size := by rw [hTB, hsb]
        have HTL := Lib.hid htl
        rw [← hTB] at HTX HRT hpv
        have HPV := hide hpv
        clear hT hsb hpv hTB htl
        go_wp2_with fail
        refine ((unhid_ HRC) _ (unhid_ HX)).mono ?_
        rintro e w2 ⟨rfl, hb2⟩
        have hb2' := (unhid_ HX).trans (hb2.mono hszx)
        obtain ⟨y0, y1, y2⟩ := (unhid_ HCELL) w2 hb2'
        have HB2 := hide hb2'
        clear hb2 hb2' x0 x1 x2 HRC HCK
        go_wp2_with fail
        refine ((unhid_ HTX) w2 (unhid_ HB2)).mono ?_
        rintro e w3 ⟨rfl, hb3⟩
        have hb3' := (unhid_ HB2).trans (hb3.mono (unhid_ HB2).size)
        obtain ⟨z0, z1, z2⟩ := (unhid_ HCELL) w3 hb3'
        have HB3 := hide hb3'
        clear hb3 hb3' y0 y1 y2 HTX
        go_wp2_with fail
        refine ((unhid_ HRT) w3 (unhid_ HB3)).mono ?_
        rintro e w4 ⟨rfl, hb4⟩
        have hb4' := (unhid_ HB3).trans (hb4.mono (unhid_ HB3).size)
        obtain ⟨u0, u1, u2⟩ := (unhid_ HCELL) w4 hb4'
        have HB4 := hide hb4'
        clear hb4 hb4' z0 z1 z2 HRT
        go_wp2_with fail
        refine ((unhid_ HSM) w4 (unhid_ HB4)).mono ?_
        rintro e w5 ⟨rfl, hb5⟩
        have hb5' := (unhid_ HB4).trans (hb5.mono (unhid_ HB4).size)
        obtain ⟨v0, v1, v2⟩ := (unhid_ HCELL) w5 hb5'
        have HB5 := hide hb5'
        clear hb5 hb5' u0 u1 u2 HSM
        by_cases h200 : 200 < TB.size
        · have d1 : decide ((200 : Int) < (TB.size : Int)) = true := by simp; omega
          go_wp2_with fail
          refine ((unhid_ HAW) w5 (unhid_ HB5)).mono ?_
          rintro e w6 ⟨rfl, hb6⟩
          have HB6 := hide ((unhid_ HYES) w5 w6 (unhid_ HB5) hb6)
          clear hb6
          go_wp2
          go_ret
          exact yes_mk rfl (unhid_ HB6)
        · have d1 : decide ((200 : Int) < (TB.size : Int)) = false := by simp; omega
          have hP := parse_any TB w5 ((unhid_ HV1).belowW (unhid_ HB5)) (by omega)
          rw [(unhid_ HPV) (by rw [sizeB]; omega)] at hP
          have HP := hide hP
          have hlt5 : w.heap.size < w5.heap.size := block_lt_of_cell v0
          clear hP h200 HPV
          go_wp2_with fail
          refine (unhid_ HP).mono ?_
          rintro e w6 ⟨A2, c2, rfl, hrp6, hb6⟩
          simp only [QT.op, QT.n, QT.kids]
          have hb6' := (unhid_ HB5).trans (hb6.mono (unhid_ HB5).size)
          obtain ⟨t0, t1, t2⟩ := (unhid_ HCELL) w6 hb6'
          have hlt6 : w.heap.size < w6.heap.size := block_lt_of_cell t0
          have hrq6 : RQ (w6.alloc (.cells #[.int .i64 o, .int .i64 n, .slice A2 ks.length c2] stepT)) 0 (w6.alloc (.cells #[.int .i64 o, .int .i64 n, .slice A2 ks.length c2] stepT)).heap.size (.mk o n ks) A2 c2 := (hrp6.keep (P' := fun _ => True) (fun b _ hlt => ⟨Below.heap_alloc _ _ _ hlt, trivial⟩)).rq
          have hb7 := hb6'.alloc hb6'.size (.cells #[.int .i64 o, .int .i64 n, .slice A2 ks.length c2] stepT)
          have hrq7 := (unhid_ HQ1).belowW (hb7.mono (by omega))
          have hsz7 := hb7.size
          have HRS := hide (rsame_any (szL ks + 1) _ 0 _ 0 w.heap.size o n ks A2 A c2 c (by omega) hrq6 (Nat.le_refl _) hrq7 (by omega))
          have hbw7 := Blk.new w6 stepT #[.int .i64 o, .int .i64 n, .slice A2 ks.length c2]
          have hne : w.heap.size ≠ w6.heap.size := by omega
          have HB7 := hide hb7
          have HBW7 := hide hbw7
          have HRQ6 := hide hrq6
          clear hrp6 hb6 hb6' hrq6 hb7 hrq7 hbw7 v0 v1 v2 HP hsz7
          go_wp2_with fail
          refine (unhid_ HRS).mono ?_
          rintro e w8 ⟨rfl, hb8⟩
          have hb8' := (unhid_ HB7).trans (hb8.mono (unhid_ HB7).size)
          obtain ⟨r0, r1, r2⟩ := (unhid_ HCELL) w8 hb8'
          obtain ⟨s0, s1, s2⟩ := box_facts ((unhid_ HBW7).below hb8 (by simp))
          have HB8 := hide hb8'
          have hz8 := hb8.size
          have HSM2 := hide (Same_any w8 0 _ 0 w.heap.size o n ks A2 c2 o n ks A c ((unhid_ HRQ6).belowW hb8) hz8 ((unhid_ HQ1).belowW (hb8'.mono (by omega))) (by have := hb8'.size; omega) HCKF.out HCKF.out (sameQ_self _))
          clear hb8 hb8' HRS t0 t1 t2 hz8
          go_wp2_with fail
          refine (unhid_ HSM2).mono ?_
          rintro e w9 ⟨rfl, hb9⟩
          have HB9 := hide ((unhid_ HB8).trans (hb9.mono (unhid_ HB8).size))
          clear hb9 r0 r1 r2 s0 s1 s2 HSM2
          go_wp2_with fail
          refine ((unhid_ HAW) w9 (unhid_ HB9)).mono ?_
          rintro e w10 ⟨rfl, hb10⟩
          have HB10 := hide ((unhid_ HYES) w9 w10 (unhid_ HB9) hb10)
          clear hb10
          go_wp2
          go_ret
          exact yes_mk rfl (unhid_ HB10)
end Go.Proofs.YthlnaejmglajeaaDoor
