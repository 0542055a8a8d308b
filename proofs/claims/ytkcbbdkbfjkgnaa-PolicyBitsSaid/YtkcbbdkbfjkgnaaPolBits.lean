/- The walk of the law PolicyBits. -/
import Derived.Test.YtkcbbdkbfjkgnaaPol5
namespace Go.Proofs.Ytkcbbdkbfjkgnaa
open Go.RowKit
set_option linter.unusedSimpArgs false

/-- what the law reckons by itself -/
def wantTo (xs : List Int) (k : Nat) : Int := if goodAll (xs.take k) then (orN (xs.take k) : Int) else 0

set_option maxHeartbeats 1000000 in
theorem policyBits_long (A : Option Addr) (n c : Nat) (label : Int) (w : World) (hn : 1000 < n) :
    Calls Try.prog 3 #[.slice A n c, .int .i64 label] w (Yes w) := by
  have h1 : (1000 : Int) < (n : Int) := by omega
  go_enter Try.func3, Try.ntmps3
  go_wp2_with fail
  refine (awake_any _).mono ?_
  rintro e w' ⟨rfl, hbz⟩
  go_wp2
  go_ret
  exact yes_mk rfl hbz

theorem goodAll_take (xs : List Int) (k : Nat) (h : k < xs.length) : goodAll (xs.take (k + 1)) = (goodAll (xs.take k) && good xs[k]) := by
  rw [take_snoc xs k h, goodAll_snoc]

theorem low_bits : ∀ n : Fin 256, orN (((List.range 8).filter (fun s => n.val.testBit s)).map Int.ofNat) = n.val := by decide +kernel
theorem sel_low (label : Int) : (List.range 8).filter (bitAt label) = (List.range 8).filter (fun s => (natOf label % 256).testBit s) := by
  apply List.filter_congr
  intro s hs
  rw [List.mem_range] at hs
  rw [bitAt_nat _ _ (by omega), show (256 : Nat) = 2 ^ 8 from rfl, Nat.testBit_mod_two_pow]
  simp [hs]
theorem sel_good (label : Int) : goodAll (selTo label 8) = true := by
  rw [goodAll, List.all_eq_true]
  intro x hx
  unfold selTo at hx
  obtain ⟨m, hm, rfl⟩ := List.mem_map.1 hx
  rw [List.mem_filter, List.mem_range] at hm
  rw [good_iff]
  show 0 ≤ (m : Int) ∧ (m : Int) < 8
  omega
theorem label_low (label : Int) : (bitsN (selTo label 8) == bits .and .i64 label 255) = true := by
  have h1 : orN (((List.range 8).filter (fun s => (natOf label % 256).testBit s)).map Int.ofNat) = natOf label % 256 := low_bits ⟨natOf label % 256, Nat.mod_lt _ (by omega)⟩
  have h2 : natOf label &&& 255 = natOf label % 256 := Nat.and_two_pow_sub_one_eq_mod _ 8
  rw [bitsN, sel_good, if_pos rfl, selTo, sel_low, h1, bits_and, show natOf 255 = 255 from by decide, h2, beq_iff_eq]
  have h3 : natOf label % 256 < 256 := Nat.mod_lt _ (by omega)
  clear h1 h2
  generalize natOf label % 256 = n at *
  unfold wrap64
  omega

set_option maxHeartbeats 1000000 in
theorem policyBits_short (A : Option Addr) (n c : Nat) (xs : List Int) (label : Int) (w : World) (hr : RI w w.heap.size A n xs) (hn : n ≤ 1000) :
    Calls Try.prog 3 #[.slice A n c, .int .i64 label] w (Yes w) := by
  obtain ⟨i0, hi0, hz0, hz1, hz2⟩ := info_parts info_int
  obtain rfl := hr.len
  have h1 : ¬ (1000 : Int) < (xs.length : Int) := by omega
  go_enter Try.func3, Try.ntmps3
  go_wp2_with fail
  refine (ints_any _ _ _ _ _ _ hr (by omega)).mono ?_
  rintro e w1 ⟨A1, c1, rfl, ho1, hb1⟩
  have hr1 := RI.of_own ho1
  clear ho1
  go_wp2_with fail
  refine (bits_any _ _ _ _ _ _ hr1 (by omega)).mono ?_
  rintro e w' ⟨rfl, rfl⟩
  go_wp2_with fail
  go_loop [7, 8, 9] (fun want good i => ∃ k : Nat, k ≤ xs.length ∧ i = .int .i64 k ∧ good = .bool (goodAll (xs.take k)) ∧ (∃ z : Int, want = .int .i64 z ∧ (goodAll (xs.take k) = true → z = orN (xs.take k)))) (fun _ _ i => xs.length - (intOf i).toNat)
  case atStart => exact ⟨0, Nat.zero_le _, rfl, rfl, 0, rfl, fun _ => rfl⟩
  case round =>
    obtain ⟨k, hk, rfl, rfl, z, rfl, hz⟩ := hrel
    have HZ := hide hz
    clear hz
    by_cases hlt : k < xs.length
    · obtain ⟨ad, rfl, hc0⟩ := RI.at_ hr hlt
      have hc := (show w1.cell? (ad.add k) = _ from (hb1.cell (by rw [block_of_add]; obtain ⟨_, e, hbk, _⟩ := hr.2 (by omega); cases e; exact hbk)).trans hc0)
      have hst := goodAll_take xs k hlt
      by_cases hgx : good xs[k] = true
      · have HS := hide (fun h => or_step xs k hlt h hgx)
        rw [hgx, Bool.and_true] at hst
        have HT := Lib.hid hst
        rw [good_iff] at hgx
        obtain ⟨g1, g2⟩ := hgx
        clear hst hc0
        go_wp2
        go_round
        case rel => exact ⟨k + 1, by omega, by go_num, by rw [HT.out], _, rfl, fun h => by rw [← unhid_ HS (HT.out ▸ h), unhid_ HZ (HT.out ▸ h)]⟩
        case measure => simp [intOf]; omega
      · have hb : good xs[k] = false := by simpa using hgx
        rw [hb, Bool.and_false] at hst
        have HT := Lib.hid hst
        have hor : xs[k] < 0 ∨ (0 ≤ xs[k] ∧ 8 ≤ xs[k]) := by rw [good_iff] at hgx; omega
        clear hgx hb hst hc0
        rcases hor with h | ⟨h0, h⟩
        · go_wp2
          go_round
          case rel => exact ⟨k + 1, by omega, by go_num, by rw [HT.out], z, rfl, fun h => by rw [HT.out] at h; cases h⟩
          case measure => simp [intOf]; omega
        · have h2 : ¬ xs[k] < 0 := by omega
          go_wp2
          go_round
          case rel => exact ⟨k + 1, by omega, by go_num, by rw [HT.out], z, rfl, fun h => by rw [HT.out] at h; cases h⟩
          case measure => simp [intOf]; omega
    · have e0 : xs.take k = xs := List.take_of_length_le (by omega)
      rw [e0] at HZ
      rw [e0]
      clear e0
      have HW : Hid ((if goodAll xs then z else 0) = bitsN xs) := by
        unfold Hid bitsN
        cases h : goodAll xs
        · rfl
        · simp [unhid_ HZ h]
      cases hga : goodAll xs
      · rw [hga] at HW
        have hz0' : (bitsN xs == 0) = true := by rw [← HW.out]; rfl
        clear HW HZ
        go_wp2_with fail
        go_loopw [10, 11] (fun v i wr => ∃ k : Nat, k ≤ 8 ∧ i = .int .i64 k ∧ wr.ownsRow w1.heap.size 3 1 v (selTo label k).length ((selTo label k).map (Value.int .i64)) ∧ Below w1.heap.size w1 wr) (fun _ i _ => 8 - (intOf i).toNat)
        case atStart => exact ⟨0, Nat.zero_le _, rfl, World.ownsRow_nil _ _ _ _, Below.refl _ _⟩
        case round =>
          obtain ⟨k, hk, rfl, hown, hb⟩ := hrel
          have hsl := selTo_le label k
          by_cases hlt : k < 8
          · by_cases hbit : bitAt label k = true
            · have hx : (bits .and .i64 (label / 2 ^ k) 1 == 1) = true := hbit
              have HS := Lib.hid (selTo_yes label k hbit)
              clear hbit
              go_wp2_with (at_builtin; refine wpList_append_any _ rfl _ _ _ rfl w1.heap.size 3 i0 _ 1 8 Try.underlying22 hi0 hz0 hz1 hz2 rfl (by omega) _ _ _ rfl (hown.alloc _) (wr.heap.size + 1) (some ⟨wr.heap.size, 0, none⟩) 1 1 [.int .i64 k] rfl (Reads.one _ _ _) (by simp [Value.oneCell']) (by simp only [maxLen]; omega) (by omega) (by have := hb.size; simp; omega) ?_; intro v2 w2 hown1 hg1 hat1)
              go_roundw
              case rel => exact ⟨k + 1, by omega, by go_num, by rw [HS.out]; simpa using hown1, (hb.alloc hb.size _).grown hg1 (by have := hb.size; simp; omega) (fun g hg => (hown.lt g hg).1)⟩
              case measure => simp [intOf]; omega
            · have hbn : bitAt label k = false := by simpa using hbit
              have hx : (bits .and .i64 (label / 2 ^ k) 1 == 1) = false := hbn
              have HS := Lib.hid (selTo_no label k hbn)
              clear hbn hbit
              go_wp2
              go_roundw
              case rel => exact ⟨k + 1, by omega, by go_num, by rw [HS.out]; exact hown, hb⟩
              case measure => simp [intOf]; omega
          · obtain rfl : k = 8 := by omega
            obtain ⟨Am, cm, rfl⟩ := own_slice hown
            have hrm := RI.of_own hown
            have HB := hide (bits_any _ Am _ cm _ wr hrm (by omega))
            have hlab := label_low label
            have HLA := Lib.hid (sel_good label)
            have HLI := hide (fun w => list_any label w)
            have hbe : Below w.heap.size w wr := hb1.trans (hb.mono hb1.size)
            clear hown
            generalize selTo label 8 = sl at *
            rw [HLA.out] at HB
            go_wp2_with fail
            refine (unhid_ HB).mono ?_
            rintro e w' ⟨rfl, rfl⟩
            go_wp2_with fail
            refine ((unhid_ HLI) _).mono ?_
            rintro e wl ⟨Al, cl, rfl, hol, hbl⟩
            have hrl := RI.of_own hol
            have hsame := same_any _ _ Al Am _ cl _ cm sl sl wl hrl (Reads.below hrm hbl) (by omega) (by omega)
            rw [decide_eq_true rfl] at hsame
            have HSM := hide hsame
            clear hsame hol
            go_wp2_with fail
            refine (unhid_ HSM).mono ?_
            rintro e w' ⟨rfl, q, rfl⟩
            go_wp2_with fail
            refine (awake_any _).mono ?_
            rintro e w' ⟨rfl, hbz⟩
            go_wp2
            go_ret
            exact yes_mk rfl ((belowN (hbe.trans (hbl.mono hbe.size)) q).trans (hbz.mono (by have := hbl.size; have := hbe.size; simp; omega)))
      · rw [hga] at HW
        obtain rfl : z = bitsN xs := HW.out
        clear HW HZ
        go_wp2_with fail
        go_loopw [10, 11] (fun v i wr => ∃ k : Nat, k ≤ 8 ∧ i = .int .i64 k ∧ wr.ownsRow w1.heap.size 3 1 v (selTo label k).length ((selTo label k).map (Value.int .i64)) ∧ Below w1.heap.size w1 wr) (fun _ i _ => 8 - (intOf i).toNat)
        case atStart => exact ⟨0, Nat.zero_le _, rfl, World.ownsRow_nil _ _ _ _, Below.refl _ _⟩
        case round =>
          obtain ⟨k, hk, rfl, hown, hb⟩ := hrel
          have hsl := selTo_le label k
          by_cases hlt : k < 8
          · by_cases hbit : bitAt label k = true
            · have hx : (bits .and .i64 (label / 2 ^ k) 1 == 1) = true := hbit
              have HS := Lib.hid (selTo_yes label k hbit)
              clear hbit
              go_wp2_with (at_builtin; refine wpList_append_any _ rfl _ _ _ rfl w1.heap.size 3 i0 _ 1 8 Try.underlying22 hi0 hz0 hz1 hz2 rfl (by omega) _ _ _ rfl (hown.alloc _) (wr.heap.size + 1) (some ⟨wr.heap.size, 0, none⟩) 1 1 [.int .i64 k] rfl (Reads.one _ _ _) (by simp [Value.oneCell']) (by simp only [maxLen]; omega) (by omega) (by have := hb.size; simp; omega) ?_; intro v2 w2 hown1 hg1 hat1)
              go_roundw
              case rel => exact ⟨k + 1, by omega, by go_num, by rw [HS.out]; simpa using hown1, (hb.alloc hb.size _).grown hg1 (by have := hb.size; simp; omega) (fun g hg => (hown.lt g hg).1)⟩
              case measure => simp [intOf]; omega
            · have hbn : bitAt label k = false := by simpa using hbit
              have hx : (bits .and .i64 (label / 2 ^ k) 1 == 1) = false := hbn
              have HS := Lib.hid (selTo_no label k hbn)
              clear hbn hbit
              go_wp2
              go_roundw
              case rel => exact ⟨k + 1, by omega, by go_num, by rw [HS.out]; exact hown, hb⟩
              case measure => simp [intOf]; omega
          · obtain rfl : k = 8 := by omega
            obtain ⟨Am, cm, rfl⟩ := own_slice hown
            have hrm := RI.of_own hown
            have HB := hide (bits_any _ Am _ cm _ wr hrm (by omega))
            have hlab := label_low label
            have HLA := Lib.hid (sel_good label)
            have HLI := hide (fun w => list_any label w)
            have hbe : Below w.heap.size w wr := hb1.trans (hb.mono hb1.size)
            clear hown
            generalize selTo label 8 = sl at *
            rw [HLA.out] at HB
            go_wp2_with fail
            refine (unhid_ HB).mono ?_
            rintro e w' ⟨rfl, rfl⟩
            go_wp2_with fail
            refine ((unhid_ HLI) _).mono ?_
            rintro e wl ⟨Al, cl, rfl, hol, hbl⟩
            have hrl := RI.of_own hol
            have hsame := same_any _ _ Al Am _ cl _ cm sl sl wl hrl (Reads.below hrm hbl) (by omega) (by omega)
            rw [decide_eq_true rfl] at hsame
            have HSM := hide hsame
            clear hsame hol
            go_wp2_with fail
            refine (unhid_ HSM).mono ?_
            rintro e w' ⟨rfl, q, rfl⟩
            go_wp2_with fail
            refine (awake_any _).mono ?_
            rintro e w' ⟨rfl, hbz⟩
            go_wp2
            go_ret
            exact yes_mk rfl ((belowN (hbe.trans (hbl.mono hbe.size)) q).trans (hbz.mono (by have := hbl.size; have := hbe.size; simp; omega)))

theorem policyBits_any (A : Option Addr) (n c : Nat) (xs : List Int) (label : Int) (w : World) (hr : RI w w.heap.size A n xs) :
    Calls Try.prog 3 #[.slice A n c, .int .i64 label] w (Yes w) := by
  by_cases h : n ≤ 1000
  · exact policyBits_short A n c xs label w hr h
  · exact policyBits_long A n c label w (by omega)
end Go.Proofs.Ytkcbbdkbfjkgnaa
