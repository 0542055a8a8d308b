/- The walk of the law QueueLong. -/
import Derived.Test.YtagopgoelgmibaaQ4
import Derived.Test.YtagopgoelgmibaaPlace
namespace Go.Proofs.Ytagopgoelgmibaa
open Go.RowKit
set_option linter.unusedSimpArgs false

/-- cnt bytes in a row, from first on -/
def seqB (first cnt : Nat) : List Int := (List.range cnt).map fun t => (((first + t) % 256 : Nat) : Int)
theorem seqB_length (f c : Nat) : (seqB f c).length = c := by simp [seqB]
theorem seqB_at (f c j : Nat) (h : j < (seqB f c).length) : (seqB f c)[j] = (((f + j) % 256 : Nat) : Int) := by simp [seqB]
theorem seqB_app (f c k a : Nat) (h : k ≤ a) : seqB f c ++ (seqB (f + c) a).take k = seqB f (c + k) := by
  apply List.ext_getElem?
  intro i
  rw [List.getElem?_append, seqB_length]
  by_cases h1 : i < c
  · rw [if_pos h1, List.getElem?_eq_getElem (by rw [seqB_length]; omega), List.getElem?_eq_getElem (by rw [seqB_length]; omega), seqB_at, seqB_at]
  · rw [if_neg h1, List.getElem?_take]
    by_cases h2 : i - c < k
    · rw [if_pos h2, List.getElem?_eq_getElem (by rw [seqB_length]; omega), List.getElem?_eq_getElem (by rw [seqB_length]; omega), seqB_at, seqB_at]
      rw [show f + c + (i - c) = f + i from by omega]
    · rw [if_neg h2, List.getElem?_eq_none (by rw [seqB_length]; omega)]
theorem seqB_drop (f c k : Nat) : (seqB f c).drop k = seqB (f + k) (c - k) := by
  apply List.ext_getElem?
  intro i
  rw [List.getElem?_drop]
  by_cases h : k + i < c
  · rw [List.getElem?_eq_getElem (by rw [seqB_length]; omega), List.getElem?_eq_getElem (by rw [seqB_length]; omega), seqB_at, seqB_at]
    rw [show f + (k + i) = f + k + i from by omega]
  · rw [List.getElem?_eq_none (by rw [seqB_length]; omega), List.getElem?_eq_none (by rw [seqB_length]; omega)]
/-- the first k of a bytes are laid -/
def fillB (f a k : Nat) : List Int := seqB f k ++ zeros (a - k)
theorem fillB_length (f a k : Nat) (h : k ≤ a) : (fillB f a k).length = a := by simp [fillB, seqB_length, zeros_length]; omega
theorem fillB_zero (f a : Nat) : fillB f a 0 = zeros a := by simp [fillB, seqB]
theorem fillB_full (f a : Nat) : fillB f a a = seqB f a := by simp [fillB, zeros]
theorem fillB_step (f a k : Nat) (h : k < a) : (fillB f a k).set k (((f + k) % 256 : Nat) : Int) = fillB f a (k + 1) := by
  unfold fillB
  rw [List.set_append_right _ _ (by rw [seqB_length]; omega), seqB_length, Nat.sub_self, show a - k = (a - (k + 1)) + 1 from by omega]
  simp [zeros, List.replicate_succ, seqB, List.range_succ]
theorem By_set (L : List Int) (k : Nat) (v : Int) : (By L).setIfInBounds k (.int .u8 v) = By (L.set k v) := by
  simp [By, List.map_set]

theorem fill_step {wr : World} {x F A t : Nat} {v : Int} (h : Blk wr x 5 (By (fillB F A t))) (ht : t < A) (hv : v = (((F + t) % 256 : Nat) : Int)) : Blk (wr.setCell ⟨x, t, none⟩ (.int .u8 v)) x 5 (By (fillB F A (t + 1))) := by
  have := h.set_ t (.int .u8 v)
  rw [By_set, hv, fillB_step _ _ _ ht, ← hv] at this
  exact this

set_option maxRecDepth 100000 in
set_option maxHeartbeats 4000000 in
theorem queueLong_any (most in_ out_ n : Int) (w : World) :
    Calls Try.prog 6 #[.int .i64 most, .int .i64 in_, .int .i64 out_, .int .i64 n] w (Yes w) := by
  obtain ⟨m0, hm0, _, PM⟩ := place_nat most 50 (by omega) (by omega)
  obtain ⟨a0, ha0, _, PA⟩ := place_nat in_ 20 (by omega) (by omega)
  obtain ⟨b0, hb0, _, PB⟩ := place_nat out_ 20 (by omega) (by omega)
  obtain ⟨R, hR, _, PR⟩ := place_nat n 300 (by omega) (by omega)
  have PM := hide PM
  have PA := hide PA
  have PB := hide PB
  have PR := hide PR
  go_enter Try.func6, Try.ntmps6
  go_wp2_with fail
  refine (unhid_ PM _).mono ?_
  rintro e w' ⟨rfl, rfl⟩
  go_wp2_with fail
  refine (unhid_ PA _).mono ?_
  rintro e w' ⟨rfl, rfl⟩
  go_wp2_with fail
  refine (unhid_ PB _).mono ?_
  rintro e w' ⟨rfl, rfl⟩
  go_wp2_with fail
  refine (new_any _ _).mono ?_
  rintro e w1 ⟨rfl, hq1, hb1, hs1⟩
  have hcap : (max 0 (min (1 + (m0 : Int)) 65536)).toNat = m0 + 1 := by omega
  rw [hcap] at hq1
  obtain ⟨g, hg⟩ : ∃ g, g = w.heap.size + 1 := ⟨_, rfl⟩
  obtain ⟨rb, hrb⟩ : ∃ rb, rb = w.heap.size := ⟨_, rfl⟩
  rw [← hg, ← hrb] at hq1
  rw [← hg]
  have HG := Lib.hid hg
  have HRB := Lib.hid hrb
  have hgB : w.heap.size ≤ g := by omega
  have hrB : w.heap.size ≤ rb := by omega
  have HQ1 := hide hq1
  have HS1 := Lib.hid hs1
  have hmk : ∀ W : World, (Instr.makeSlice 28 (.int .i64 (1 + (a0 : Int))) (.int .i64 (1 + (a0 : Int)))).run Try.prog W = .ok (.slice (some ⟨W.heap.size, 0, none⟩) (a0 + 1) (a0 + 1)) (W.alloc (.cells (By (zeros (a0 + 1))) 5)) := by
    have := run_make_bytes (a0 + 1) (by omega)
    rw [show ((a0 + 1 : Nat) : Int) = 1 + (a0 : Int) from by omega] at this
    exact this
  have HMK := hide hmk
  clear hcap hg hrb hq1 hs1 hmk
  go_wp2_with fail
  go_loopw [13, 14, 15, 16, 17, 18, 19] (fun nx fi i _ _ _ _ wr => ∃ (k f c : Nat), k ≤ R ∧ i = .int .i64 k ∧ fi = .int .i64 f ∧ nx = .int .i64 ((f + c : Nat) : Int) ∧ f + c ≤ 20 * k ∧ c ≤ m0 + 1 ∧ IsQ wr g rb (m0 + 1) (seqB f c) ∧ Below w.heap.size w wr) (fun _ _ i _ _ _ _ _ => R - (intOf i).toNat)
  case atStart => exact ⟨0, 0, 0, Nat.zero_le _, rfl, rfl, rfl, by omega, by omega, unhid_ HQ1, hb1⟩
  case round =>
    obtain ⟨k, f, c, hk, rfl, rfl, rfl, hfc, hcm, hq, hb⟩ := hrel
    have hsz := hb.size
    by_cases hlt : k < R
    · have HQ := hide hq
      clear hq
      go_wp2_with fail
      refine (unhid_ PR _).mono ?_
      rintro e w' ⟨rfl, rfl⟩
      have hmk := unhid_ HMK
      go_wp2_with fail
      clear hmk
      obtain ⟨wo, rfl⟩ : ∃ wo : World, wo = wr := ⟨_, rfl⟩
      go_loopw [17] (fun x wq => ∃ t : Nat, t ≤ a0 + 1 ∧ x = .int .i64 t ∧ Blk wq wo.heap.size 5 (By (fillB (f + c) (a0 + 1) t)) ∧ Below wo.heap.size wo wq ∧ wq.heap.size = wo.heap.size + 1) (fun x _ => a0 + 1 - (intOf x).toNat)
      case atStart => exact ⟨0, Nat.zero_le _, rfl, by rw [fillB_zero]; exact Blk.new wo _ _, (Below.refl _ _).alloc (Nat.le_refl _) _, by simp⟩
      case round =>
        obtain ⟨t, ht, rfl, hbl, hbw, hsw⟩ := hrel
        have HSW := Lib.hid hsw
        have HBL := hide hbl
        clear hsw
        by_cases hta : t < a0 + 1
        · have hti : (t : Int) < 1 + (a0 : Int) := by omega
          have hcell : wr.cell? ⟨wo.heap.size, t, none⟩ = some (.int .u8 ((fillB (f + c) (a0 + 1) t)[t]'(by rw [fillB_length _ _ _ ht]; exact hta))) := (hbl.cell t).trans (By_at _ _ _)
          have hfro : wr.frozen? ⟨wo.heap.size, t, none⟩ = false := hbl.frozen t
          clear hbl
          go_wp2
          go_roundw
          case rel => exact ⟨t + 1, by omega, by go_num, fill_step (unhid_ HBL) hta (by simp), hbw.setCell (p := ⟨wo.heap.size, t, none⟩) (Nat.le_refl _) _, by simp [World.setCell, HSW.out]⟩
          case measure => simp [intOf]; omega
        · obtain rfl : t = a0 + 1 := by omega
          rw [fillB_full] at hbl HBL
          have hq2 : IsQ wr g rb (m0 + 1) (seqB f c) := (unhid_ HQ).only (Only.of_below hbw []) (by simp) (by simp)
          have hgl := (unhid_ HQ).lt
          obtain ⟨k', hk'⟩ : ∃ k', k' = min (a0 + 1) ((m0 + 1) - c) := ⟨_, rfl⟩
          have hk'1 : k' ≤ a0 + 1 := by omega
          have hk'2 : c + k' ≤ m0 + 1 := by omega
          have HK' := Lib.hid hk'
          have hput := put_any wr g rb (m0 + 1) (wo.heap.size + 1) (seqB f c) (seqB (f + c) (a0 + 1)) (some ⟨wo.heap.size, 0, none⟩) (a0 + 1) (a0 + 1) k' (by rw [seqB_length]; exact hk') hq2 (by have := Reads.of_blk (off := 0) hbl (n := a0 + 1) (by rw [seqB_length]; omega); rw [List.drop_zero, List.take_of_length_le (by rw [seqB_length]; omega)] at this; exact this) (Nat.le_refl _) (by omega) (by rw [HSW.out]; exact Nat.le_refl _) (fun ad e => by cases e; simp; omega)
          have HPUT := hide hput
          clear hput hbl hk' hq2
          go_wp2_with fail
          refine (unhid_ HPUT).mono ?_
          rintro e w2 ⟨rfl, hq2, ho2, hs2⟩
          rw [seqB_app _ _ _ _ hk'1] at hq2
          obtain ⟨m', hm'⟩ : ∃ m', m' = min (b0 + 1) (c + k') := ⟨_, rfl⟩
          have hget := get_any w2 g rb (m0 + 1) (seqB f (c + k')) (1 + (b0 : Int)) m' (by rw [seqB_length]; omega) hq2
          have HGET := hide hget
          have HM' := Lib.hid hm'
          have HS2 := Lib.hid hs2
          clear hget hq2 hm' hs2
          go_wp2_with fail
          refine (unhid_ HGET).mono ?_
          rintro e w3 ⟨rfl, hq3, hb3, ho3, hs3⟩
          rw [seqB_drop] at hq3
          have HQ3 := hide hq3
          have HS3 := Lib.hid hs3
          have HB3 := hide hb3
          clear hq3 hs3 hb3
          have hm'le : m' ≤ c + k' := by have := HM'.out; omega
          go_wp2_with fail
          go_loop [14, 19] (fun fi x => ∃ t : Nat, t ≤ m' ∧ x = .int .i64 t ∧ fi = .int .i64 ((f + t : Nat) : Int)) (fun _ x => m' - (intOf x).toNat)
          case atStart => exact ⟨0, Nat.zero_le _, rfl, rfl⟩
          case round =>
            obtain ⟨t, ht, rfl, rfl⟩ := hrel
            by_cases htm : t < m'
            · have hcell : w3.cell? ⟨w2.heap.size, t, none⟩ = some (.int .u8 (((f : Int) + (t : Int)) % 256)) := by
                rw [(unhid_ HB3).cell t, By_at _ _ (by rw [seqB_length]; omega), seqB_at]
                simp
              go_wp2
              go_round
              case rel => exact ⟨t + 1, by omega, by go_num, by go_num⟩
              case measure => simp [intOf]; omega
            · obtain rfl : t = m' := by omega
              obtain ⟨L, hL⟩ : ∃ L, L = c + k' - t := ⟨_, rfl⟩
              have hlen := len_any w3 g rb (m0 + 1) _ (unhid_ HQ3)
              rw [seqB_length, ← hL] at hlen
              have HLEN := hide hlen
              have hne1 : ((f : Int) + (c : Int) + (k' : Int) - ((f : Int) + (t : Int)) != (L : Int)) = false := by rw [bne_eq_false_iff_eq]; omega
              have hL2 : (L : Int) ≤ 1 + (m0 : Int) := by omega
              have hor : 1 + (a0 : Int) ≤ (t : Int) ∨ 1 + (b0 : Int) ≤ (t : Int) ∨ 1 + (m0 : Int) ≤ (t : Int) := by have h1 := HM'.out; have h2 := HK'.out; omega
              have HL := Lib.hid hL
              clear hlen hL
              rcases hor with h | h | h
              all_goals
                go_wp2_with (go_at_call 15; refine (unhid_ HLEN).mono ?_; rintro e w' ⟨rfl, rfl⟩)
                all_goals
                  go_roundw
                  case rel =>
                    refine ⟨k + 1, f + t, L, by omega, by go_num, by go_num, ?_, by have := HL.out; omega, by omega, ?_, ?_⟩
                    · have := HL.out; have h3 : f + c + k' = f + t + L := by omega
                      rw [← h3]; simp
                    · rw [HL.out]; exact unhid_ HQ3
                    · exact (hb.trans (hbw.mono hsz)).trans ((ho2.below (fun x hx => by simp at hx; omega) (by have := HSW.out; omega)).trans (ho3.below (fun x hx => by simp at hx; omega) (by have := HSW.out; have := HS2.out; omega)))
                  case measure => simp [intOf]; omega
    · have HQ := hide hq
      clear hq
      go_wp2_with fail
      refine (unhid_ PR _).mono ?_
      rintro e w' ⟨rfl, rfl⟩
      go_wp2_with fail
      refine (awake_any _).mono ?_
      rintro e w' ⟨rfl, hbz⟩
      go_wp2
      go_ret
      exact yes_mk rfl (hb.trans (hbz.mono hsz))
end Go.Proofs.Ytagopgoelgmibaa
