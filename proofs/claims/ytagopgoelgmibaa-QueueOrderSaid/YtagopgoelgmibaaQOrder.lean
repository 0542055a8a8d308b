/- The walk of the law QueueOrder. -/
import Derived.Test.YtagopgoelgmibaaSeq
import Derived.Test.YtagopgoelgmibaaInts
namespace Go.Proofs.Ytagopgoelgmibaa
open Go.RowKit
set_option linter.unusedSimpArgs false

set_option maxRecDepth 100000 in
set_option maxHeartbeats 8000000 in
theorem queueOrder_any (most : Int) (A : Option Addr) (na ca : Nat) (xs : List Int) (O : Option Addr) (no co : Nat) (ys : List Int) (w : World) (hri : RI w w.heap.size A na xs) (hro : RI w w.heap.size O no ys) (hma : na ≤ maxLen) (hmo : no ≤ maxLen) :
    Calls Try.prog 4 #[.int .i64 most, .slice A na ca, .slice O no co] w (Yes w) := by
  unfold maxLen at hma hmo
  obtain rfl := hri.len
  obtain rfl := hro.len
  obtain ⟨m0, hm0, _, PM⟩ := place_nat most 40 (by omega) (by omega)
  have PM := hide PM
  go_enter Try.func4, Try.ntmps4
  go_wp2_with fail
  refine (unhid_ PM _).mono ?_
  rintro e w' ⟨rfl, rfl⟩
  go_wp2_with fail
  refine (new_any _ _).mono ?_
  rintro e w1 ⟨rfl, hq1, hb1, hs1⟩
  have hcap : (max 0 (min (m0 : Int) 65536)).toNat = m0 := by omega
  rw [hcap] at hq1
  obtain ⟨g, hg⟩ : ∃ g, g = w.heap.size + 1 := ⟨_, rfl⟩
  obtain ⟨rb, hrb⟩ : ∃ rb, rb = w.heap.size := ⟨_, rfl⟩
  rw [← hg, ← hrb] at hq1
  rw [← hg]
  have HG := Lib.hid hg
  have HRB := Lib.hid hrb
  have hgB : w.heap.size ≤ g := by omega
  have hrB : w.heap.size ≤ rb := by omega
  have HQ1 := hide hq1
  have HS1 := Lib.hid hs1
  clear hcap hg hrb hq1 hs1
  go_wp2_with fail
  go_loopw [9, 10, 11, 12, 13, 14, 15, 16, 17] (fun nx fi i _ _ _ _ _ _ wr => ∃ (k f c : Nat), k ≤ xs.length ∧ k ≤ 60 ∧ i = .int .i64 k ∧ fi = .int .i64 f ∧ nx = .int .i64 ((f + c : Nat) : Int) ∧ f + c ≤ 30 * k ∧ c ≤ m0 ∧ IsQ wr g rb m0 (seqB f c) ∧ Below w.heap.size w wr) (fun _ _ i _ _ _ _ _ _ _ => 60 - (intOf i).toNat)
  case atStart => exact ⟨0, 0, 0, Nat.zero_le _, Nat.zero_le _, rfl, rfl, rfl, by omega, by omega, unhid_ HQ1, hb1⟩
  case round =>
    obtain ⟨k, f, c, hk, hk60, rfl, rfl, rfl, hfc, hcm, hq, hb⟩ := hrel
    have hsz := hb.size
    by_cases hlt : k < xs.length ∧ k < 60
    · obtain ⟨hlt, hl60⟩ := hlt
      obtain ⟨ad, rfl, hcx⟩ := (hri.below hb).at_ hlt
      have HQ := hide hq
      clear hq
      obtain ⟨a, ha, _, PA⟩ := place_nat xs[k] 30 (by omega) (by omega)
      have PA := hide PA
      have HMK := hide (run_make_bytes a (by omega))
      go_wp2_with fail
      refine (unhid_ PA _).mono ?_
      rintro e w' ⟨rfl, rfl⟩
      have hmk := unhid_ HMK
      go_wp2_with fail
      clear hmk
      obtain ⟨wo, rfl⟩ : ∃ wo : World, wo = wr := ⟨_, rfl⟩
      go_loopw [14] (fun x wq => ∃ t : Nat, t ≤ a ∧ x = .int .i64 t ∧ Blk wq wo.heap.size 5 (By (fillB (f + c) a t)) ∧ Below wo.heap.size wo wq ∧ wq.heap.size = wo.heap.size + 1) (fun x _ => a - (intOf x).toNat)
      case atStart => exact ⟨0, Nat.zero_le _, rfl, by rw [fillB_zero]; exact Blk.new wo _ _, (Below.refl _ _).alloc (Nat.le_refl _) _, by simp⟩
      case round =>
        obtain ⟨t, ht, rfl, hbl, hbw, hsw⟩ := hrel
        have HSW := Lib.hid hsw
        have HBL := hide hbl
        clear hsw
        by_cases hta : t < a
        · have hti : (t : Int) < (a : Int) := by omega
          have hcell : wr.cell? ⟨wo.heap.size, t, none⟩ = some (.int .u8 ((fillB (f + c) a t)[t]'(by rw [fillB_length _ _ _ ht]; exact hta))) := (hbl.cell t).trans (By_at _ _ _)
          have hfro : wr.frozen? ⟨wo.heap.size, t, none⟩ = false := hbl.frozen t
          clear hbl
          go_wp2
          go_roundw
          case rel => exact ⟨t + 1, by omega, by go_num, fill_step (unhid_ HBL) hta (by simp), hbw.setCell (p := ⟨wo.heap.size, t, none⟩) (Nat.le_refl _) _, by simp [World.setCell, HSW.out]⟩
          case measure => simp [intOf]; omega
        · obtain rfl : t = a := by omega
          rw [fillB_full] at hbl HBL
          have hq2 : IsQ wr g rb m0 (seqB f c) := (unhid_ HQ).only (Only.of_below hbw []) (by simp) (by simp)
          have hgl := (unhid_ HQ).lt
          obtain ⟨k', hk'⟩ : ∃ k', k' = min t (m0 - c) := ⟨_, rfl⟩
          have hk'1 : k' ≤ t := by omega
          have hk'2 : c + k' ≤ m0 := by omega
          have hput := put_any wr g rb m0 (wo.heap.size + 1) (seqB f c) (seqB (f + c) t) (some ⟨wo.heap.size, 0, none⟩) t t k' (by rw [seqB_length]; exact hk') hq2 (by have := Reads.of_blk (off := 0) hbl (n := t) (by rw [seqB_length]; omega); rw [List.drop_zero, List.take_of_length_le (by rw [seqB_length]; omega)] at this; exact this) (Nat.le_refl _) (by omega) (by rw [HSW.out]; exact Nat.le_refl _) (fun ad e => by cases e; simp; omega)
          have hput2 : Calls Try.prog 11 #[.pointer (some ⟨g, 0, none⟩), .slice (some ⟨wo.heap.size, 0, none⟩) t t] wr fun e w2 => e = .returned (.int .i64 k') ∧ IsQ w2 g rb m0 (seqB f (c + k')) ∧ Only [g, rb] wr w2 ∧ w2.heap.size = wr.heap.size := hput.mono fun e w2 h => ⟨h.1, by have := h.2.1; rwa [seqB_app _ _ _ _ hk'1] at this, h.2.2.1, h.2.2.2⟩
          have HPUT := hide hput2
          have HA : Hid (((t : Int) ≤ (m0 : Int) - ((f : Int) + (c : Int) - (f : Int)) ∧ k' = t) ∨ ((m0 : Int) - ((f : Int) + (c : Int) - (f : Int)) < (t : Int) ∧ ((k' : Int) != (m0 : Int) - ((f : Int) + (c : Int) - (f : Int))) = false)) := by
            by_cases h : t ≤ m0 - c
            · exact .inl ⟨by omega, by omega⟩
            · exact .inr ⟨by omega, by rw [bne_eq_false_iff_eq]; omega⟩
          clear hput hput2 hbl hk' hq2
          go_wp2_with fail
          refine (unhid_ HPUT).mono ?_
          rintro e w2 ⟨rfl, hq2, ho2, hs2⟩
          have HQ2 := hide hq2
          have HS2 := Lib.hid hs2
          have hb2 : Below w.heap.size w w2 := (hb.trans (hbw.mono hsz)).trans (ho2.below (fun x hx => by simp at hx; omega) (by have := HSW.out; omega))
          clear hq2 hs2
          by_cases hno : k < ys.length
          · obtain ⟨ao, rfl, hcy⟩ := (hro.below hb2).at_ hno
            obtain ⟨o, ho, _, PO⟩ := place_nat ys[k] 30 (by omega) (by omega)
            have PO := hide PO
            obtain ⟨m', hm'⟩ : ∃ m', m' = min o (c + k') := ⟨_, rfl⟩
            have hget := get_any w2 g rb m0 (seqB f (c + k')) (o : Int) m' (by rw [seqB_length]; omega) (unhid_ HQ2)
            have hget2 : Calls Try.prog 13 #[.pointer (some ⟨g, 0, none⟩), .int .i64 o] w2 fun e w3 => e = .returned (.slice (some ⟨w2.heap.size, 0, none⟩) m' m') ∧ IsQ w3 g rb m0 (seqB (f + m') (c + k' - m')) ∧ Blk w3 w2.heap.size 5 (By (seqB f (c + k'))) ∧ Only [g, rb] w2 w3 ∧ w3.heap.size = w2.heap.size + 1 := hget.mono fun e w3 h => ⟨h.1, by have := h.2.1; rwa [seqB_drop] at this, h.2.2.1, h.2.2.2.1, h.2.2.2.2⟩
            have HGET := hide hget2
            have HO : Hid (((o : Int) ≤ (f : Int) + (c : Int) + (k' : Int) - (f : Int) ∧ m' = o) ∨ ((f : Int) + (c : Int) + (k' : Int) - (f : Int) < (o : Int) ∧ ((m' : Int) != (f : Int) + (c : Int) + (k' : Int) - (f : Int)) = false)) := by
              by_cases h : o ≤ c + k'
              · exact .inl ⟨by omega, by omega⟩
              · exact .inr ⟨by omega, by rw [bne_eq_false_iff_eq]; omega⟩
            have hm'le : m' ≤ c + k' := by omega
            clear hget hget2 hm'
            rcases HA.out with ⟨g1, g2⟩ | ⟨g1, g2⟩
            case' inl => obtain rfl := g2
            all_goals
              rcases HO.out with ⟨o1, o2⟩ | ⟨o1, o2⟩
              case' inl => obtain rfl := o2
              all_goals
                go_wp2_with fail
                refine (unhid_ PO _).mono ?_
                rintro e w' ⟨rfl, rfl⟩
                go_wp2_with fail
                refine (unhid_ HGET).mono ?_
                rintro e w3 ⟨rfl, hq3, hb3, ho3, hs3⟩
                have hbe3 : Below w.heap.size w w3 := hb2.trans (ho3.below (fun x hx => by simp at hx; omega) hb2.size)
                obtain ⟨ao2, hao2, hcy3⟩ := (hro.below hbe3).at_ hno
                cases hao2
                have HQ3 := hide hq3
                have HS3 := Lib.hid hs3
                have HB3 := hide hb3
                clear hq3 hs3 hb3
                go_wp2_with fail
                refine (unhid_ PO _).mono ?_
                rintro e w' ⟨rfl, rfl⟩
                go_wp2_with fail
                go_loop [10, 17] (fun fi x => ∃ t2 : Nat, t2 ≤ m' ∧ x = .int .i64 t2 ∧ fi = .int .i64 ((f + t2 : Nat) : Int)) (fun _ x => m' - (intOf x).toNat)
                case atStart => exact ⟨0, Nat.zero_le _, rfl, rfl⟩
                case round =>
                  obtain ⟨t2, ht2, rfl, rfl⟩ := hrel
                  by_cases htm : t2 < m'
                  · have hcell2 : w3.cell? ⟨w2.heap.size, t2, none⟩ = some (.int .u8 (((f : Int) + (t2 : Int)) % 256)) := by
                      rw [(unhid_ HB3).cell t2, By_at _ _ (by rw [seqB_length]; omega), seqB_at]
                      simp
                    go_wp2
                    go_round
                    case rel => exact ⟨t2 + 1, by omega, by go_num, by go_num⟩
                    case measure => simp [intOf]; omega
                  · obtain rfl : t2 = m' := by omega
                    obtain ⟨L, hL⟩ : ∃ L, L = c + k' - t2 := ⟨_, rfl⟩
                    have hlen := len_any w3 g rb m0 _ (unhid_ HQ3)
                    rw [seqB_length, ← hL] at hlen
                    have HLEN := hide hlen
                    have hne1 : ((L : Int) != (f : Int) + (c : Int) + (k' : Int) - ((f : Int) + (t2 : Int))) = false := by rw [bne_eq_false_iff_eq]; omega
                    have HL := Lib.hid hL
                    clear hlen hL
                    go_wp2_with fail
                    refine (unhid_ HLEN).mono ?_
                    rintro e w' ⟨rfl, rfl⟩
                    go_wp2_with fail
                    go_roundw
                    case rel =>
                      refine ⟨k + 1, f + t2, L, by omega, by omega, by go_num, by go_num, ?_, by have := HL.out; omega, by have := HL.out; omega, ?_, hbe3⟩
                      · have := HL.out; have h3 : f + c + k' = f + t2 + L := by omega
                        rw [← h3]; simp
                      · rw [HL.out]; exact unhid_ HQ3
                    case measure => simp [intOf]; omega
          · rcases HA.out with ⟨g1, g2⟩ | ⟨g1, g2⟩
            case' inl => obtain rfl := g2
            all_goals
              have hlen := len_any w2 g rb m0 _ (unhid_ HQ2)
              rw [seqB_length] at hlen
              have HLEN := hide hlen
              have hne1 : ((c : Int) + (k' : Int) != (f : Int) + (c : Int) + (k' : Int) - (f : Int)) = false := by rw [bne_eq_false_iff_eq]; omega
              clear hlen
              go_wp2_with fail
              refine (unhid_ HLEN).mono ?_
              rintro e w' ⟨rfl, rfl⟩
              go_wp2_with fail
              go_roundw
              case rel => exact ⟨k + 1, f, c + k', by omega, by omega, by go_num, rfl, by go_num, by omega, by omega, unhid_ HQ2, hb2⟩
              case measure => simp [intOf]; omega
    · have HQ := hide hq
      have hor : ¬ k < xs.length ∨ (k < xs.length ∧ ¬ k < 60) := by omega
      clear hq hlt
      rcases hor with h | ⟨h, h2⟩
      all_goals
        go_wp2_with fail
        refine (awake_any _).mono ?_
        rintro e w' ⟨rfl, hbz⟩
        go_wp2
        go_ret
        exact yes_mk rfl (hb.trans (hbz.mono hsz))
end Go.Proofs.Ytagopgoelgmibaa
