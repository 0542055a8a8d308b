/- The walk of the law AskRows. -/
import Derived.Test.YthlnaejmglajeaaDoorARowLaw
namespace Go.Proofs.YthlnaejmglajeaaDoor
open Go.RowKit
set_option linter.unusedSimpArgs false
set_option linter.unusedVariables false

set_option maxRecDepth 100000 in
set_option maxHeartbeats 1000000 in
theorem askRows_any (A : Option Addr) (n c : Nat) (zs : List Int) (th star : Bool) (w : World) (hv : EV w) (hr : Reads w w.heap.size 1 A n (zs.map (Value.int .i64))) (hnc : n ≤ c) (hc63 : c ≤ 9223372036854775807) :
    Calls Tryd.prog 5 #[.slice A n c, .bool th, .bool star] w (Yes w) := by
  have HV := hide hv
  have HR := hide hr
  clear hv hr
  obtain ⟨i0, hi0, hz0, hzs, hzb⟩ := info_parts info_step
  have hI0 := Lib.hid hi0
  clear hi0
  obtain ⟨sign, hsg⟩ : ∃ s : List UInt8, s = if th = true then [59] else [124] := ⟨_, rfl⟩
  obtain ⟨op, hop⟩ : ∃ o : Int, o = if th = true then 7 else 6 := ⟨_, rfl⟩
  have hsl : sign.length = 1 := by rw [hsg]; split <;> rfl
  have hso : (op = 7 ∧ sign = [59]) ∨ (op = 6 ∧ sign = [124]) := by
    cases th
    · exact .inr ⟨hop, hsg⟩
    · exact .inl ⟨hop, hsg⟩
  have HSO := Lib.hid hso
  clear hso
  have HSG := Lib.hid hsg
  have HOP := Lib.hid hop
  clear hsg hop
  go_enter Tryd.func5, Tryd.ntmps5
  go_upto_if 19 with (fail)
  go_cut [7, 8] (fun s7 s8 wx => s7 = .string (bytesB sign) ∧ s8 = .int .i64 op ∧ wx = w)
  case first =>
    cases th with
    | true =>
      go_wp2
      go_meet
      exact ⟨by rw [HSG.out]; rfl, by rw [HOP.out]; rfl, rfl⟩
    | false =>
      go_wp2
      go_meet
      exact ⟨by rw [HSG.out]; rfl, by rw [HOP.out]; rfl, rfl⟩
  case rest =>
    obtain ⟨rfl, rfl, hwx⟩ := hcut
    have hwx2 := hwx.symm
    subst hwx2
    clear hwx
    obtain ⟨SG, hSG⟩ : ∃ x, x = bytesB sign := ⟨_, rfl⟩
    rw [← hSG]
    have HSGB := Lib.hid hSG
    clear hSG
    go_wp2_with fail
    go_loopw [11, 13] (fun s11 s13 wr => RowsR w n sign op s11 s13 wr) (fun _ s13 _ => 20 - (intOf s13).toNat)
    case atStart =>
      refine ⟨[], .slice none 0 0, fun k hk => (by cases hk), Nat.zero_le _, Nat.zero_le _, rfl, rfl, World.ownsRow_nil _ _ _ _, by simp, ((Blk.new _ _ _).alloc _).alloc _, ?_, ?_, (((Below.refl _ _).alloc (Nat.le_refl _) _).alloc (by simp) _).alloc (by simp; omega) _⟩
      · have h := Blk.new (w.alloc (.cells #[.string ⟨#[117, 112]⟩, .string ⟨#[100, 111, 119, 110]⟩, .string ⟨#[108, 105, 118, 101]⟩] 37)) 38 #[.int .i64 1, .int .i64 2, .int .i64 8]
        simp only [World.size_alloc] at h
        exact h.alloc _
      · have h := Blk.new ((w.alloc (.cells #[.string ⟨#[117, 112]⟩, .string ⟨#[100, 111, 119, 110]⟩, .string ⟨#[108, 105, 118, 101]⟩] 37)).alloc (.cells #[.int .i64 1, .int .i64 2, .int .i64 8] 38)) stepT #[.int .i64 op, .int .i64 0, .slice none 0 0]
        simp only [World.size_alloc] at h
        exact h
    case round =>
      obtain ⟨l, v, hl3, hln, hl20, rfl, rfl, hown, hsz, hb0, hb1, hb2, hbel⟩ := hrel
      have htl : (textR sign l).length ≤ 200 := by have := textR_len hsl l hl3; omega
      obtain ⟨m, hm⟩ : ∃ m, m = l.length := ⟨_, rfl⟩
      rw [← hm] at hln hl20 hown ⊢
      by_cases hgo : m < n ∧ m < 20
      · obtain ⟨hln', hl20'⟩ := hgo
        have hlI : (m : Int) < n := by omega
        have hlI2 : (m : Int) < 20 := by omega
        obtain ⟨ad, u, rfl, hadb, hu, hcell⟩ := ((unhid_ HR).below hbel).at_ hln'
        obtain ⟨z, hz, rfl⟩ : ∃ z, zs[m]? = some z ∧ Value.int .i64 z = u := by simpa using hu
        obtain ⟨k, hk, _, hplace⟩ := place_nat z 3 (by omega) (by omega)
        have HPL := hide hplace
        obtain ⟨b0, b1, b2⟩ := box_facts hb2
        have f2 := hb2.frozen 2
        obtain ⟨Av, cv, rfl⟩ := own_slice hown
        have hk3 : k < 3 := by omega
        have hlt0 : w.heap.size < wr.heap.size := by omega
        have hlt1 : w.heap.size + 1 < wr.heap.size := by omega
        have hlt2 : w.heap.size + 1 + 1 < wr.heap.size := by omega
        have cw : wr.cell? ⟨w.heap.size, k, none⟩ = some (.string (bytesB (wordR k))) := by
          rw [hb0.cell]
          match k, hk3 with
          | 0, _ => rfl
          | 1, _ => rfl
          | 2, _ => rfl
        have co : wr.cell? ⟨w.heap.size + 1, k, none⟩ = some (.int .i64 (opR k)) := by
          rw [hb1.cell]
          match k, hk3 with
          | 0, _ => rfl
          | 1, _ => rfl
          | 2, _ => rfl
        have hwl : (wordR k).length ≤ 4 := by match k, hk3 with
          | 0, _ => decide
          | 1, _ => decide
          | 2, _ => decide
        obtain ⟨T0, hT0⟩ : ∃ x, x = bytesB (textR sign l) := ⟨_, rfl⟩
        obtain ⟨T1, hT1⟩ : ∃ x, x = bytesB (textR sign l ++ sign) := ⟨_, rfl⟩
        obtain ⟨T2, hT2⟩ : ∃ x, x = bytesB (textR sign l ++ sign ++ wordR k) := ⟨_, rfl⟩
        obtain ⟨T3, hT3⟩ : ∃ x, x = bytesB (textR sign l ++ wordR k) := ⟨_, rfl⟩
        obtain ⟨WK, hWK⟩ : ∃ x, x = bytesB (wordR k) := ⟨_, rfl⟩
        have a1 : ∀ W : World, (Op.stringOp .add T0 SG).run Tryd.prog W = .ok (.string T1) W := fun W => by rw [hT0, hT1, HSGB.out]; exact run_add_l W _ _ (by omega) (by omega)
        have a2 : ∀ W : World, (Op.stringOp .add T1 WK).run Tryd.prog W = .ok (.string T2) W := fun W => by rw [hT1, hT2, hWK]; exact run_add_l W _ _ (by simp; omega) (by omega)
        have a3 : ∀ W : World, (Op.stringOp .add T0 WK).run Tryd.prog W = .ok (.string T3) W := fun W => by rw [hT0, hT3, hWK]; exact run_add_l W _ _ (by omega) (by omega)
        rw [← hT0]
        rw [← hWK] at cw
        have HT2 := Lib.hid hT2
        have HT3 := Lib.hid hT3
        have HM := Lib.hid hm
        have HOWN := hide hown
        have HB0 := hide hb0
        have HB1 := hide hb1
        have HB2 := hide hb2
        have HBEL := hide hbel
        obtain ⟨OK, hOK⟩ : ∃ x, x = opR k := ⟨_, rfl⟩
        rw [← hOK] at co
        have HOK := Lib.hid hOK
        clear hu hz hplace hT0 hT1 hT2 hT3 hWK hm hown hb0 hb1 hb2 hbel hOK hwl
        rcases Nat.eq_zero_or_pos m with h0 | h0
        · subst h0
          have hc0 : wr.cell? ad = some (.int .i64 z) := hcell
          have hadb' : ad.block < w.heap.size := hadb
          go_wp2_with fail
          refine ((unhid_ HPL) _).mono ?_
          rintro e w' ⟨rfl, rfl⟩
          go_wp2_with fail
          have b2' : wr.cell? ⟨w.heap.size + 1 + 1, 2, none⟩ = some (.slice Av 0 cv) := b2
          have hownA := ((unhid_ HOWN).drew).alloc (.cells #[.int .i64 OK, .int .i64 0, .slice none 0 0] stepT)
          have hbA := ((unhid_ HB2).drew).alloc (.cells #[.int .i64 OK, .int .i64 0, .slice none 0 0] stepT)
          have hrd := reads3 (Blk.new wr.drew stepT #[.int .i64 OK, .int .i64 0, .slice none 0 0])
          have HOA := hide hownA
          have HBA := hide hbA
          have HRD := hide hrd
          clear hownA hbA hrd b0 b1 b2 f2 a1 a2 a3 cw
          go_region_law (refine step_append_step rfl (.tmp 50) (.tmp 55) rfl (w.heap.size + 3) (.slice Av 0 cv) 0 (rowCells (l.map kvR)) rfl (unhid_ HOA) (wr.heap.size + 1) (some ⟨wr.heap.size, 0, none⟩) 1 1 [.int .i64 OK, .int .i64 0, .slice none 0 0] rfl (unhid_ HRD) (by simp [Value.oneCell']) (by omega) (by simp; omega) ?_; intro v1 w1 hown1 hg1 hat1; obtain ⟨A1, c1, rfl⟩ := own_slice hown1; have hb1 := (unhid_ HBA).grown hg1 (fun e => own_ne (unhid_ HOA) (b := w.heap.size + 2) (by omega) e.symm); have d2 : w1.cell? ⟨w.heap.size + 1 + 1, 2, none⟩ = some (.slice Av 0 cv) := hb1.cell 2; have g2 : w1.frozen? ⟨w.heap.size + 1 + 1, 2, none⟩ = false := hb1.frozen 2; have HB1' := hide hb1; have HG1 := hide hg1; have HOWN1 := hide hown1; clear hb1 hg1 hown1 hat1)
          all_goals
            go_wp2_with fail
          all_goals
            go_roundw
          all_goals try (show (_ : Nat) < _; first | (simp [intOf]; done) | (simp [intOf]; omega))
          all_goals
              (have h1 := unhid_ HOWN1
               rw [HOK.out] at h1
               have hT : T3 = bytesB (textR sign (l ++ [k])) := by
                 have hlm := HM.out
                 rw [HT3.out, textR_snoc, if_pos (List.eq_nil_of_length_eq_zero hlm.symm)]
               have h := rows_step (n := n) hk3 hl3 HM.out (by omega) (by omega) hsz (unhid_ HOWN) (unhid_ HB0) (unhid_ HB1) (unhid_ HB2) (unhid_ HBEL) h1 (unhid_ HG1) hT
               simpa using h)
        · have h0I : (0 : Int) < m := by omega
          go_wp2_with fail
          refine ((unhid_ HPL) _).mono ?_
          rintro e w' ⟨rfl, rfl⟩
          go_wp2_with fail
          have b2' : wr.cell? ⟨w.heap.size + 1 + 1, 2, none⟩ = some (.slice Av m cv) := b2
          have hownA := ((unhid_ HOWN).drew).alloc (.cells #[.int .i64 OK, .int .i64 0, .slice none 0 0] stepT)
          have hbA := ((unhid_ HB2).drew).alloc (.cells #[.int .i64 OK, .int .i64 0, .slice none 0 0] stepT)
          have hrd := reads3 (Blk.new wr.drew stepT #[.int .i64 OK, .int .i64 0, .slice none 0 0])
          have HOA := hide hownA
          have HBA := hide hbA
          have HRD := hide hrd
          clear hownA hbA hrd b0 b1 b2 f2 a1 a2 a3 cw
          go_region_law (refine step_append_step rfl (.tmp 50) (.tmp 55) rfl (w.heap.size + 3) (.slice Av m cv) m (rowCells (l.map kvR)) rfl (unhid_ HOA) (wr.heap.size + 1) (some ⟨wr.heap.size, 0, none⟩) 1 1 [.int .i64 OK, .int .i64 0, .slice none 0 0] rfl (unhid_ HRD) (by simp [Value.oneCell']) (by omega) (by simp; omega) ?_; intro v1 w1 hown1 hg1 hat1; obtain ⟨A1, c1, rfl⟩ := own_slice hown1; have hb1 := (unhid_ HBA).grown hg1 (fun e => own_ne (unhid_ HOA) (b := w.heap.size + 2) (by omega) e.symm); have d2 : w1.cell? ⟨w.heap.size + 1 + 1, 2, none⟩ = some (.slice Av m cv) := hb1.cell 2; have g2 : w1.frozen? ⟨w.heap.size + 1 + 1, 2, none⟩ = false := hb1.frozen 2; have HB1' := hide hb1; have HG1 := hide hg1; have HOWN1 := hide hown1; clear hb1 hg1 hown1 hat1)
          all_goals
            go_wp2_with fail
          all_goals
            go_roundw
          all_goals try (show (_ : Nat) < _; first | (simp [intOf]; done) | (simp [intOf]; omega))
          all_goals
              (have h1 := unhid_ HOWN1
               rw [HOK.out] at h1
               have hT : T2 = bytesB (textR sign (l ++ [k])) := by
                 have hlm := HM.out
                 rw [HT2.out, textR_snoc, if_neg (fun e => by rw [e] at hlm; simp at hlm; omega), List.append_assoc]
               have h := rows_step (n := n) hk3 hl3 HM.out (by omega) (by omega) hsz (unhid_ HOWN) (unhid_ HB0) (unhid_ HB1) (unhid_ HB2) (unhid_ HBEL) h1 (unhid_ HG1) hT
               simpa using h)
      · have hmI : (m : Int) ≤ 20 := by omega
        have hge : (n : Int) ≤ m ∨ ((m : Int) < n ∧ (20 : Int) ≤ m) := by omega
        have hlm := hm
        go_upto_region 11 with (fail)
        go_cut [31] (fun s wx => s = .bool false ∧ wx = wr)
        case first =>
          clear hown hb0 hb1 hb2 hbel hgo htl hm hlm
          rcases hge with h1 | ⟨h1, h2⟩
          · go_wp2
            go_meet
            exact ⟨rfl, rfl⟩
          · have d8 : decide ((m : Int) < 20) = false := by simp; omega
            go_wp2
            go_meet
            exact ⟨rfl, rfl⟩
        case rest =>
          obtain ⟨rfl, hwx⟩ := hcut
          have hwx2 := hwx.symm
          subst hwx2
          clear hwx hge
          obtain ⟨Av, cv, rfl⟩ := own_slice hown
          obtain ⟨b0, b1, b2⟩ := box_facts hb2
          have b2' : wr.cell? ⟨w.heap.size + 1 + 1, 2, none⟩ = some (.slice Av m cv) := b2
          have HOWN := hide hown
          have HB2 := hide hb2
          have HBEL := hide hbel
          have HM := Lib.hid hlm
          clear b0 b1 b2 hb0 hb1 hown hb2 hbel hm hlm hgo
          by_cases h2 : m < 2
          · have d2 : decide ((m : Int) < 2) = true := by simp; omega
            have HAW := hide (awake_any wr ((unhid_ HV).belowW (unhid_ HBEL)))
            go_wp2_with fail
            refine (unhid_ HAW).mono ?_
            rintro e w1 ⟨rfl, hb1⟩
            have HB1 := hide ((unhid_ HBEL).trans (hb1.mono (by omega)))
            clear hb1
            go_wp2
            go_ret
            exact yes_mk rfl (unhid_ HB1)
          · have d2 : decide ((m : Int) < 2) = false := by simp; omega
            have htail := rows_tail (w := w) HSO.out hl3 HM.out (by omega) (by omega) (unhid_ HOWN) (unhid_ HB2) (unhid_ HBEL) hsz
            have HTAIL := hide htail
            clear htail
            obtain ⟨T0, hT0⟩ : ∃ x, x = bytesB (textR sign l) := ⟨_, rfl⟩
            rw [← hT0] at HTAIL ⊢
            have HT0 := Lib.hid hT0
            clear hT0
            go_upto_if 63 with (fail)
            go_cut [11, 15] (fun s11 s15 wx => TailR w s11 wx)
            case first =>
              cases star with
              | false =>
                go_wp2
                go_meet
                exact unhid_ HTAIL
              | true =>
                have a1 : ∀ W : World, (Op.stringOp .add T0 ⟨#[42]⟩).run Tryd.prog W = .ok (.string (bytesB (textR sign l ++ [42]))) W := fun W => by rw [HT0.out]; exact run_add_l W _ [42] (by omega) (by decide)
                obtain ⟨T1, hT1⟩ : ∃ x, x = bytesB (textR sign l ++ [42]) := ⟨_, rfl⟩
                rw [← hT1] at a1
                have HT1 := Lib.hid hT1
                clear hT1
                obtain ⟨p, hp⟩ : ∃ p, m = p + 1 := ⟨m - 1, by omega⟩
                subst hp
                obtain ⟨g, k, l1, hA, hg, hgl, e0, e1, e2, hfz, hll, hpc, hcm, hkeep⟩ := rows_last (unhid_ HOWN) HM.out
                subst hA
                have f0 := hfz (p * 3)
                have f1 := hfz (p * 3 + 1)
                have f2 := hfz (p * 3 + 2)
                have hpI : (p : Int) < ((p + 1 : Nat) : Int) := by omega
                have hg2 : w.heap.size + 1 + 1 ≠ g := by omega
                have hlt2 : w.heap.size + 1 + 1 < wr.heap.size := by omega
                obtain ⟨OK, hOK⟩ : ∃ x, x = opR k := ⟨_, rfl⟩
                rw [← hOK] at e0
                have HTL := rows_tail_star (w := w) HSO.out hl3 HM.out (by omega) hl20 (unhid_ HB2) (unhid_ HBEL) hsz hg hgl (by rw [e0, hOK]) e1 e2 hll hpc hcm hkeep
                rw [← hOK] at HTL
                have HTLH := hide HTL
                have HOK := Lib.hid hOK
                clear hOK HTAIL HTL hkeep
                go_wp2_with fail
                go_region
                all_goals
                  go_wp2
                  go_meet
                  rw [HT1.out]
                  exact unhid_ HTLH
            case rest =>
              rename_i wc
              have HR := hide hcut
              clear hcut
              obtain ⟨V, o, n0, kk, A5, c5, rfl, hVd, hVs, hck, hbx, hrq, hbl, hsz5⟩ := unhid_ HR
              have HCK := Lib.hid hck
              have HPV := hide (parse_any V _ ((unhid_ HV).belowW hbl) (by omega))
              rw [hVd, parse_law (by rw [← hVd]; have := sizeB V; omega) hck (lx_text (check_all hck).1)] at HPV
              obtain ⟨c0, c1, c2⟩ := box_facts hbx
              have HRQ := hide hrq
              have HBL := hide hbl
              have hl5 : w.heap.size + 1 + 1 < wc.heap.size := by omega
              clear hck hrq hbl hVd hbx HTAIL HR
              go_wp2_with fail
              refine (unhid_ HPV).mono ?_
              rintro e w3 ⟨A2, c2', rfl, hrp3, hb3⟩
              simp only [QT.op, QT.n, QT.kids]
              have hb3' : Below wc.heap.size wc (w3.alloc (.cells #[.int .i64 o, .int .i64 n0, .slice A2 kk.length c2'] stepT)) := hb3.alloc hb3.size _
              have d0 : w3.cell? ⟨w.heap.size + 1 + 1, 0, none⟩ = some (.int .i64 o) := (hb3.cell (p := ⟨w.heap.size + 1 + 1, 0, none⟩) hl5).trans c0
              have d1 : w3.cell? ⟨w.heap.size + 1 + 1, 1, none⟩ = some (.int .i64 n0) := (hb3.cell (p := ⟨w.heap.size + 1 + 1, 1, none⟩) hl5).trans c1
              have d2' : w3.cell? ⟨w.heap.size + 1 + 1, 2, none⟩ = some (.slice A5 kk.length c5) := (hb3.cell (p := ⟨w.heap.size + 1 + 1, 2, none⟩) hl5).trans c2
              have hl3' : w.heap.size + 1 + 1 < w3.heap.size := by have := hb3.size; omega
              have hrq3 : RQ (w3.alloc (.cells #[.int .i64 o, .int .i64 n0, .slice A2 kk.length c2'] stepT)) 0 (w3.alloc (.cells #[.int .i64 o, .int .i64 n0, .slice A2 kk.length c2'] stepT)).heap.size (.mk o n0 kk) A2 c2' := (hrp3.keep (P' := fun _ => True) (fun b _ hlt => ⟨Below.heap_alloc _ _ _ hlt, trivial⟩)).rq
              have hrqq := (unhid_ HRQ).belowW hb3'
              have hsz2 := hb3'.size
              have HSA := hide (Same_any _ 0 _ 0 _ o n0 kk A2 c2' o n0 kk A5 c5 hrq3 (Nat.le_refl _) hrqq (by omega) HCK.out HCK.out (sameQ_self _))
              have HB3 := hide ((unhid_ HBL).trans (hb3'.mono (unhid_ HBL).size))
              clear hrp3 hb3 hb3' c0 c1 c2 HPV hrq3 hrqq HRQ hsz2
              go_wp2_with fail
              refine (unhid_ HSA).mono ?_
              rintro e w4 ⟨rfl, hb4⟩
              have HB4 := hide ((unhid_ HB3).trans (hb4.mono (unhid_ HB3).size))
              have HAW := hide (awake_any _ ((unhid_ HV).belowW (unhid_ HB4)))
              clear hb4 d0 d1 d2'
              go_wp2_with fail
              refine (unhid_ HAW).mono ?_
              rintro e w5 ⟨rfl, hb5⟩
              have HB5 := hide ((unhid_ HB4).trans (hb5.mono (unhid_ HB4).size))
              clear hb5
              go_wp2
              go_ret
              exact yes_mk rfl (unhid_ HB5)
end Go.Proofs.YthlnaejmglajeaaDoor
