/- The walk of the law TableFds. -/
import Derived.Test.YtgdloahgokefpaaTFds
import Derived.Test.YtgdloahgokefpaaPlace
import Derived.Test.YtgdloahgokefpaaInts
import Derived.Deep.DeepCutAuto
namespace Go.Proofs.Ytgdloahgokefpaa
open Go.RowKit
set_option linter.unusedSimpArgs false

set_option maxRecDepth 100000 in
set_option maxHeartbeats 4000000 in
theorem tableFds_any (A : Option Addr) (na ca : Nat) (xs : List Int) (w : World) (hr : RI w w.heap.size A na xs) (hm : na ≤ maxLen) :
    Calls Try.prog 5 #[.slice A na ca] w (Yes w) := by
  unfold maxLen at hm
  obtain rfl : na = xs.length := hr.len.symm
  have HR := hide hr
  clear hr
  go_enter Try.func5, Try.ntmps5
  go_wp2_with fail
  refine (newt_any _).mono ?_
  rintro e w1 ⟨rfl, h1, hb1, hs1⟩
  have hsz1 : w.heap.size + 1 ≤ w1.heap.size := by omega
  have HSP := hide (spawn_ok w1 (w.heap.size + 1) w.heap.size TbV.zero 0 1 1 1 h1 hsz1 (by decide) (by decide +kernel))
  have HB1 := hide hb1
  clear h1 hb1 hs1
  go_wp2_with fail
  refine (unhid_ HSP).mono ?_
  rintro e w2 ⟨rfl, ho2, x, _, _, hxf, _, h2⟩
  have hF2 : (TbV.zero.put 1 x).F = fun _ _ => FdV.zero := by
    rw [F_put, hxf]
    funext p
    show (if p = 1 then _ else _) = _
    split <;> rfl
  have hT2 : (TbV.zero.put 1 x).th = fun p => decide (p = 1) := by
    rw [th_put]
    funext p
    show (if p = 1 then true else false) = _
    split <;> simp [*]
  have hS2 := FdSt.zero hF2 hT2
  rw [← below_zero] at hS2
  obtain ⟨t2, ht2⟩ : ∃ t2, t2 = TbV.zero.put 1 x := ⟨_, rfl⟩
  rw [← ht2] at hS2 h2
  have HT2 := hide h2
  have HS2 := hide hS2
  have HB2 : Hid (Below w.heap.size w w2) := (unhid_ HB1).trans (ho2.below (fun k hk => by simp at hk; omega) (by omega))
  have hsz2 := ho2.size
  clear h2 hxf ht2 hF2 hT2 ho2 hS2 HSP
  go_wp2_with fail
  go_loopw [6, 7, 8] (fun s6 _ _ wq => ∃ (k : Nat) (t : TbV), k ≤ 8 ∧ s6 = .int .i64 k ∧ FdSt t (below k) ∧ IsT wq (w.heap.size + 1) w.heap.size t ∧ Below w.heap.size w wq ∧ w.heap.size + 1 ≤ wq.heap.size) (fun s6 _ _ _ => 8 - (intOf s6).toNat)
  case atStart => exact ⟨0, t2, Nat.zero_le _, rfl, unhid_ HS2, unhid_ HT2, unhid_ HB2, by omega⟩
  case round =>
    obtain ⟨k, t, hk, rfl, hN, hT, hb, hsz⟩ := hrel
    have HN := hide hN
    have HT := hide hT
    have HB := hide hb
    clear hN hT hb
    by_cases hlt : k < 8
    · have HOP := hide (open_ok wr (w.heap.size + 1) w.heap.size t 1 ⟨2, k, 0, false⟩ k (unhid_ HT) (Nat.le_refl _) (by omega) (by rw [(unhid_ HN).1 1 (by omega)]; rfl) (by simp [FdV.bad]) ((unhid_ HN).free hlt (by simp [below]) (fun j hj => by simp [below, hj])))
      go_wp2_with fail
      refine (unhid_ HOP).mono ?_
      rintro e w5 ⟨rfl, ho5, h5⟩
      have HT5 := hide h5
      have HB5 : Hid (Below w.heap.size w w5) := (unhid_ HB).trans (ho5.below (fun k hk => by simp at hk; omega) (by omega))
      have HN5 : Hid (FdSt (t.setFd 1 k ⟨2, k, 0, false⟩) (below (k + 1))) := by
        rw [← off_below]
        exact (unhid_ HN).set_ (.inr ⟨rfl, .inl rfl, by simp, by show (k : Int) < 60; omega, Int.le_refl _⟩)
      have hsz5 := ho5.size
      clear h5 ho5 HOP
      go_wp2_with fail
      go_roundw
      case rel => exact ⟨k + 1, _, by omega, by go_num, unhid_ HN5, unhid_ HT5, unhid_ HB5, by omega⟩
      case measure => simp [intOf]; omega
    · obtain rfl : k = 8 := by omega
      have HDP := hide (dup_full wr (w.heap.size + 1) w.heap.size t (below 8) (unhid_ HT) (unhid_ HN) (fun j hj => by simp [below, hj]))
      rw [show ((8 : Nat) : Int) = 8 from rfl]
      go_wp2_with fail
      refine (unhid_ HDP).mono ?_
      rintro e w5 ⟨rfl, h5, ho5⟩
      have HT5 := hide h5
      have HB5 : Hid (Below w.heap.size w w5) := (unhid_ HB).trans (ho5.below (fun k hk => by simp at hk; omega) (by omega))
      have hsz5 := ho5.size
      clear h5 ho5 HDP
      go_upto_region 16 with (fail)
      obtain ⟨rb, hrb⟩ : ∃ rb, rb = w5.heap.size := ⟨_, rfl⟩
      have hrw : w.heap.size + 1 ≤ rb := by omega
      go_cut [11] (fun s11 wx => s11 = .pointer (some ⟨rb, 0, none⟩) ∧ Blk wx rb 49 (Tb 8 (arr8 (below 0))) ∧ Only [] w5 wx)
      case first =>
        subst hrb
        go_wp2
        go_meet
        exact ⟨rfl, Blk.new w5 49 (Tb 8 (arr8 (below 0))), (Only.refl _ _).alloc _⟩
      case rest =>
        obtain ⟨rfl, hbr, hox⟩ := hcut
        have HBR := hide hbr
        have HOX := hide hox
        have HRB := Lib.hid hrb
        clear hbr hox hrb
        go_wp2_with fail
        go_loopw [12] (fun s12 wq => ∃ k : Nat, k ≤ 8 ∧ s12 = .int .i64 (k : Int) ∧ Blk wq rb 49 (Tb 8 (arr8 (below k))) ∧ Only [] w5 wq) (fun s12 _ => 8 - (intOf s12).toNat)
        case atStart => exact ⟨0, Nat.zero_le _, rfl, unhid_ HBR, unhid_ HOX⟩
        case round =>
          obtain ⟨k, hk, rfl, hbr, hox⟩ := hrel
          have HBR' := hide hbr
          have HOX' := hide hox
          by_cases hlt : k < 8
          · have c0 : wr.cell? ⟨rb, k, none⟩ = some (arr8 (below k) k) := (hbr.cell _).trans (Tb_at _ (by omega))
            have f0 : wr.frozen? ⟨rb, k, none⟩ = false := hbr.frozen _
            clear hbr hox
            go_wp2
            go_roundw
            case rel =>
              refine ⟨k + 1, by omega, by go_num, ?_, (unhid_ HOX').setCell (p := ⟨rb, k, none⟩) (.inr (by rw [← HRB.out]; exact Nat.le_refl _)) _⟩
              have := (unhid_ HBR').set_ k (.bool true)
              rw [arr8_set, off_below] at this
              exact this
            case measure => simp [intOf]; omega
          · obtain rfl : k = 8 := by omega
            rw [show ((8 : Nat) : Int) = 8 from rfl]
            clear hbr hox
            obtain ⟨w7, rfl⟩ : ∃ w7 : World, w7 = wr := ⟨_, rfl⟩
            have hT7 : IsT w7 (w.heap.size + 1) w.heap.size t := (unhid_ HT5).only (unhid_ HOX') (by simp) (by simp)
            have hB7 : Below w.heap.size w w7 := (unhid_ HB5).trans ((unhid_ HOX').below (by simp) (by omega))
            have hz7 : rb < w7.heap.size := (unhid_ HBR').lt
            have HT7 := hide hT7
            have HB7 := hide hB7
            clear hT7 hB7
            go_wp2_with fail
            go_loopw [13, 14, 15, 16, 17, 18] (fun s13 _ _ _ _ _ wq => ∃ (i : Nat) (t : TbV) (O : Nat → Bool), i ≤ xs.length ∧ s13 = .int .i64 i ∧ FdSt t O ∧ IsT wq (w.heap.size + 1) w.heap.size t ∧ Blk wq rb 49 (Tb 8 (arr8 O)) ∧ Below w.heap.size w wq) (fun s13 _ _ _ _ _ _ => xs.length - (intOf s13).toNat)
            case atStart => exact ⟨0, t, below 8, Nat.zero_le _, rfl, unhid_ HN, unhid_ HT7, unhid_ HBR', unhid_ HB7⟩
            case round =>
              obtain ⟨i, t, O, hi, rfl, hN, hT, hbr, hb⟩ := hrel
              have HN' := hide hN
              have HTq := hide hT
              have HBRq := hide hbr
              have HBq := hide hb
              have hzr := hb.size
              have hzq : rb < wr.heap.size := hbr.lt
              clear hN hT hbr hb
              by_cases hlt2 : i < xs.length ∧ i < 40
              · obtain ⟨hlt2, h40⟩ := hlt2
                obtain ⟨ad, hA, hcell⟩ := ((unhid_ HR).below (unhid_ HBq)).at_ hlt2
                subst hA
                obtain ⟨v, hv⟩ : ∃ v, v = xs[i] := ⟨_, rfl⟩
                rw [← hv] at hcell
                obtain ⟨k, hk, _, PP⟩ := place_nat v 8 (by omega) (by omega)
                have hk8 : k < 8 := by omega
                have HPP := hide PP
                clear PP hv
                go_wp2_with fail
                refine (unhid_ HPP _).mono ?_
                rintro e w' ⟨rfl, rfl⟩
                clear hcell
                have HCL := hide (close_any wr (w.heap.size + 1) w.heap.size t 1 k (unhid_ HTq))
                go_wp2_with fail
                refine (unhid_ HCL).mono ?_
                rintro e w8 ⟨rfl, h8, ho8, hs8⟩
                rw [(unhid_ HN').err hk8]
                have HN8 := hide ((unhid_ HN').close hk8)
                obtain ⟨t8, ht8⟩ : ∃ t8, t8 = t.close 1 (k : Int) := ⟨_, rfl⟩
                rw [← ht8] at h8 HN8
                have hbr8 := ho8.blk (unhid_ HBRq) (by simp; omega)
                obtain ⟨b, hbO⟩ : ∃ b, b = O k := ⟨_, rfl⟩
                have c8 : w8.cell? ⟨rb, k, none⟩ = some (.bool b) := (hbr8.cell _).trans ((Tb_at _ (by omega)).trans (by rw [hbO]; rfl))
                have f8 : w8.frozen? ⟨rb, k, none⟩ = false := hbr8.frozen _
                rw [← hbO]
                have HT8 := hide h8
                have HBR8 := hide hbr8
                have HB8 : Hid (Below w.heap.size w w8) := (unhid_ HBq).trans (ho8.below (fun x hx => by simp at hx; omega) (by omega))
                clear h8 hbr8 ho8 hs8 ht8 HCL hbO
                obtain ⟨E, hE⟩ : ∃ E : Int, E = if b = true then 0 else 13 := ⟨_, rfl⟩
                rw [← hE]
                have HE := Lib.hid hE
                clear hE
                go_upto_region 26 with (fail)
                go_cut [99] (fun s99 wx => s99 = .bool false ∧ wx = w8)
                case first =>
                  cases b
                  · obtain rfl : E = 13 := HE.out
                    go_wp2
                    go_meet
                    exact ⟨rfl, rfl⟩
                  · obtain rfl : E = 0 := HE.out
                    go_wp2
                    go_meet
                    exact ⟨rfl, rfl⟩
                case rest =>
                  obtain ⟨rfl, hwx⟩ := hcut
                  have hwx2 := hwx.symm
                  subst hwx2
                  clear HE
                  go_upto_region 29 with (fail)
                  have hs := (unhid_ HBR8).set_ k (.bool false)
                  rw [arr8_set] at hs
                  have HBR9 : Hid (Blk (w8.setCell ⟨rb, k, none⟩ (.bool false)) rb 49 (Tb 8 (arr8 (off O k false)))) := hs
                  have HT9 : Hid (IsT (w8.setCell ⟨rb, k, none⟩ (.bool false)) (w.heap.size + 1) w.heap.size t8) := (unhid_ HT8).far (unhid_ HBR8) (by omega) (by decide) _
                  have HB9 : Hid (Below w.heap.size w (w8.setCell ⟨rb, k, none⟩ (.bool false))) := (unhid_ HB8).setCell (p := ⟨rb, k, none⟩) (by show w.heap.size ≤ rb; omega) _
                  clear hs c8 f8
                  obtain ⟨w9, hw9⟩ : ∃ w9, w9 = w8.setCell ⟨rb, k, none⟩ (.bool false) := ⟨_, rfl⟩
                  rw [← hw9] at HBR9 HT9 HB9 ⊢
                  clear hw9 HBR8 HT8 HB8
                  obtain ⟨V, hV⟩ : ∃ V, V = off O k false := ⟨_, rfl⟩
                  have hVk : V k = false := by rw [hV]; simp [off]
                  rw [← hV] at HBR9 HN8
                  clear hV
                  go_cut [104] (fun s104 wx => (∃ c, s104 = .bool c) ∧ wx = w9)
                  case first =>
                    go_wp2
                    go_meet
                    exact ⟨⟨_, rfl⟩, rfl⟩
                  case rest =>
                    obtain ⟨⟨c, rfl⟩, hwx⟩ := hcut
                    have hwx2 := hwx.symm
                    subst hwx2
                    cases c with
                    | true =>
                      go_wp2
                      go_roundw
                      case rel => exact ⟨i + 1, t8, V, by omega, by go_num, unhid_ HN8, unhid_ HT9, unhid_ HBR9, unhid_ HB9⟩
                      case measure => simp [intOf]; omega
                    | false =>
                      have HVK := Lib.hid hVk
                      clear hVk
                      go_wp2
                      go_loop [16] (fun s16 => ∃ q : Nat, q ≤ k ∧ s16 = .int .i64 q ∧ ∀ j, j < q → V j = true) (fun s16 => k - (intOf s16).toNat)
                      case atStart => exact ⟨0, Nat.zero_le _, rfl, fun j h2 => absurd h2 (by omega)⟩
                      case round =>
                        obtain ⟨q, hq, rfl, hall⟩ := hrel
                        have HALL := hide hall
                        obtain ⟨c, hc⟩ : ∃ c, c = V q := ⟨_, rfl⟩
                        have cq : w9.cell? ⟨rb, q, none⟩ = some (.bool c) := ((unhid_ HBR9).cell _).trans ((Tb_at _ (by omega)).trans (by rw [hc]; rfl))
                        have HC := Lib.hid hc
                        have hq8 : q < 8 := by omega
                        have hqI : (q : Int) < 8 := by omega
                        clear hall hc
                        cases c with
                        | true =>
                          have hqk : q < k := by
                            rcases Nat.lt_or_ge q k with h | h
                            · exact h
                            · obtain rfl : q = k := by omega
                              have := HC.out
                              rw [HVK.out] at this
                              cases this
                          go_wp2
                          go_round
                          case rel => exact ⟨q + 1, by omega, by go_num, fun j h2 => by
                            rcases Nat.lt_or_ge j q with h | h
                            · exact (unhid_ HALL) j h
                            · obtain rfl : j = q := by omega
                              exact HC.out.symm⟩
                          case measure => simp [intOf]; omega
                        | false =>
                          have hsz9 : w.heap.size + 1 ≤ w9.heap.size := by have := (unhid_ HBR9).lt; omega
                          have HOP := hide (open_ok w9 (w.heap.size + 1) w.heap.size t8 1 ⟨4, i, 3, false⟩ q (unhid_ HT9) (Nat.le_refl _) (by omega) (by rw [(unhid_ HN8).1 1 (by omega)]; rfl) (by simp [FdV.bad]) ((unhid_ HN8).free hq8 HC.out.symm (unhid_ HALL)))
                          go_wp2_with fail
                          refine (unhid_ HOP).mono ?_
                          rintro e w10 ⟨rfl, ho10, h10⟩
                          have hbr10 := ho10.blk (unhid_ HBR9) (by simp; omega)
                          have hb10 : Below w.heap.size w w10 := (unhid_ HB9).trans (ho10.below (fun k hk => by simp at hk; omega) (by omega))
                          have HN10 : Hid (FdSt (t8.setFd 1 q ⟨4, i, 3, false⟩) (off V q true)) := (unhid_ HN8).set_ (.inr ⟨rfl, .inr rfl, by simp, by show (i : Int) < 60; omega, by show (0 : Int) ≤ 3; omega⟩)
                          have hcq : w10.cell? ⟨rb, q, none⟩ = some (arr8 V q) := (hbr10.cell _).trans (Tb_at _ (by omega))
                          have hfq : w10.frozen? ⟨rb, q, none⟩ = false := hbr10.frozen _
                          have HT10 := hide h10
                          have HBR10 := hide hbr10
                          have HB10 := hide hb10
                          clear ho10 h10 hbr10 hb10 HOP
                          go_wp2_with fail
                          go_roundw
                          case rel =>
                            have hs := (unhid_ HBR10).set_ q (.bool true)
                            rw [arr8_set] at hs
                            exact ⟨i + 1, _, off V q true, by omega, by go_num, unhid_ HN10, (unhid_ HT10).far (unhid_ HBR10) (by omega) (by decide) _, hs, (unhid_ HB10).setCell (p := ⟨rb, q, none⟩) (by show w.heap.size ≤ rb; omega) _⟩
                          case measure => simp [intOf]; omega
              · have hex : (xs.length : Int) ≤ i ∨ ((i : Int) < xs.length ∧ 40 ≤ (i : Int)) := by omega
                obtain ⟨w20, rfl⟩ : ∃ w20 : World, w20 = wr := ⟨_, rfl⟩
                rcases hex with h | ⟨h, h'⟩
                all_goals
                  go_wp2
                  go_loop [19, 20] (fun s19 s20 => ∃ q : Nat, q ≤ 8 ∧ s20 = .int .i64 q ∧ s19 = .int .i64 (opens O q)) (fun _ s20 => 8 - (intOf s20).toNat)
                  case atStart => exact ⟨0, by omega, rfl, rfl⟩
                  case round =>
                    obtain ⟨q, hq, rfl, rfl⟩ := hrel
                    have l1 := opens_le O q
                    by_cases hq8 : q < 8
                    · obtain ⟨r, hr⟩ : ∃ r, r = O q := ⟨_, rfl⟩
                      have c0 : w20.cell? ⟨rb, q, none⟩ = some (.bool r) := ((unhid_ HBRq).cell _).trans ((Tb_at _ (by omega)).trans (by rw [hr]; rfl))
                      have e1 : Hid (opens O (q + 1) = opens O q + (if r = true then 1 else 0)) := by rw [hr]; exact rfl
                      obtain ⟨x1, hx1⟩ : ∃ x1, x1 = opens O q := ⟨_, rfl⟩
                      rw [← hx1] at e1 l1 ⊢
                      have hqI : (q : Int) < 8 := by omega
                      clear hr hx1
                      cases r
                      all_goals
                        go_wp2
                        go_round
                        case rel => exact ⟨q + 1, by omega, by go_num, by rw [unhid_ e1]; go_num⟩
                        case measure => simp [intOf]; omega
                    · obtain rfl : q = 8 := by omega
                      rw [show ((8 : Nat) : Int) = 8 from rfl]
                      obtain ⟨x1, hx1⟩ : ∃ x1, x1 = opens O 8 := ⟨_, rfl⟩
                      rw [← hx1] at l1 ⊢
                      have HX1 := Lib.hid hx1
                      clear hx1
                      go_wp2
                      go_loopw [21, 22, 23, 24, 25, 26] (fun s21 s22 _ _ _ _ wq => ∃ m : Nat, m ≤ 60 ∧ s22 = .int .i64 m ∧ s21 = .int .i64 (under O (t.F 1) 8 m) ∧ Below w20.heap.size w20 wq) (fun _ s22 _ _ _ _ _ => 60 - (intOf s22).toNat)
                      case atStart => exact ⟨0, by omega, rfl, by rw [under_zero (unhid_ HN') 8 (Nat.le_refl _)]; rfl, Below.refl _ _⟩
                      case round =>
                        obtain ⟨m, hm60, rfl, rfl, hbz⟩ := hrel
                        have HBZ := hide hbz
                        have hT3 := (unhid_ HTq).below hbz
                        have HT3 := hide hT3
                        have l2 := under_le O (t.F 1) 8 m
                        have hst := (unhid_ HN').step m 8 (Nat.le_refl _)
                        clear hbz hT3
                        have hU := (unhid_ HN').uses m
                        have la := cntR_le (t.F 1) 2 m 8
                        have lb := cntR_le (t.F 1) 4 m 8
                        obtain ⟨x2, hx2⟩ : ∃ x2, x2 = under O (t.F 1) 8 m := ⟨_, rfl⟩
                        obtain ⟨a, ha⟩ : ∃ a, a = cntR (t.F 1) 2 m 8 := ⟨_, rfl⟩
                        obtain ⟨c, hc⟩ : ∃ c, c = cntR (t.F 1) 4 m 8 := ⟨_, rfl⟩
                        rw [← hx2, ← ha, ← hc] at hst
                        rw [← hx2] at l2 ⊢
                        rw [← ha] at la
                        rw [← hc] at lb
                        rw [← ha, ← hc] at hU
                        obtain ⟨u1, u2, u3, u4⟩ := hU
                        have HST := Lib.hid hst
                        have HX2 := Lib.hid hx2
                        have HUA := uses_any wr (w.heap.size + 1) w.heap.size t 2 m (unhid_ HT3)
                        rw [u1, u2] at HUA
                        have HUB := fun (W : World) (hT : IsT W (w.heap.size + 1) w.heap.size t) => uses_any W (w.heap.size + 1) w.heap.size t 4 m hT
                        rw [u3, u4] at HUB
                        have HUA' := hide HUA
                        have HUB' := hide HUB
                        clear u1 u2 u3 u4 HUA HUB hst hx2 ha hc
                        by_cases hm : m < 60
                        · have hmI : (m : Int) < 60 := by omega
                          go_wp2_with fail
                          refine (unhid_ HUA').mono ?_
                          rintro e w21 ⟨rfl, hb21⟩
                          have HB21 := hide hb21
                          have hz21 := hb21.size
                          have HUC := hide ((unhid_ HUB') w21 ((unhid_ HT3).below hb21))
                          clear hb21
                          go_wp2_with fail
                          refine (unhid_ HUC).mono ?_
                          rintro e w22 ⟨rfl, hb22⟩
                          have hb23 : Below w20.heap.size w20 w22 := ((unhid_ HBZ).trans ((unhid_ HB21).mono (unhid_ HBZ).size)).trans (hb22.mono (by have := (unhid_ HBZ).size; omega))
                          have HB23 := hide hb23
                          clear hb22 hb23 HUC
                          go_wp2
                          go_roundw
                          case rel => exact ⟨m + 1, by omega, by go_num, by rw [HST.out]; go_num, unhid_ HB23⟩
                          case measure => simp [intOf]; omega
                        · obtain rfl : m = 60 := by omega
                          have hx3 : x2 = x1 := by rw [HX2.out, HX1.out]; exact under_all (unhid_ HN') 8 (Nat.le_refl _)
                          rw [show ((60 : Nat) : Int) = 60 from rfl, hx3]
                          clear hx3
                          have hB3 : Below w.heap.size w wr := (unhid_ HBq).trans ((unhid_ HBZ).mono hzr)
                          have HB3 := hide hB3
                          clear hB3
                          go_wp2_with fail
                          refine (awake_any _).mono ?_
                          rintro e w' ⟨rfl, hbz⟩
                          go_wp2
                          go_ret
                          exact yes_mk rfl ((unhid_ HB3).trans (hbz.mono (unhid_ HB3).size))
end Go.Proofs.Ytgdloahgokefpaa
