/- The walk of the law QueueFull. -/
import Derived.Test.YtagopgoelgmibaaBytes
import Derived.Test.YtagopgoelgmibaaPlace
namespace Go.Proofs.Ytagopgoelgmibaa
open Go.RowKit
set_option linter.unusedSimpArgs false

theorem full_xor {wr : World} {g : Nat} {L : List Int} {t : Nat} {v : Int} (h : Blk wr g 5 (By L)) : Blk (wr.setCell ⟨g, t, none⟩ (.int .u8 v)) g 5 (By (L.set t v)) := by
  have e : (By L).setIfInBounds t (.int .u8 v) = By (L.set t v) := by simp [By, List.map_set]
  have := h.set_ t (.int .u8 v)
  rwa [e] at this

theorem Reads.takeB {w : World} {B n k : Nat} {A : Option Addr} {xs : List Int} (h : Reads w B 1 A n (xs.map (Value.int .u8))) (hk : k ≤ n) : Reads w B 1 A k ((xs.take k).map (Value.int .u8)) := by
  have := h.take hk
  rwa [Nat.mul_one, ← List.map_take] at this

set_option maxHeartbeats 1000000 in
theorem queueFull_long (most : Int) (A : Option Addr) (na ca : Nat) (O : Option Addr) (no co : Nat) (w : World) (h : 1000 < na ∨ 1000 < no) (hma : na ≤ maxLen) (hmo : no ≤ maxLen) :
    Calls Try.prog 5 #[.int .i64 most, .slice A na ca, .slice O no co] w (Yes w) := by
  unfold maxLen at hma hmo
  obtain ⟨m0, hm0, _, PM⟩ := place_nat most 300 (by omega) (by omega)
  have PM := hide PM
  have h' : (1000 : Int) < (na : Int) ∨ (¬ (1000 : Int) < (na : Int) ∧ (1000 : Int) < (no : Int)) := by omega
  clear h
  rcases h' with h | ⟨h, h2⟩
  all_goals
    go_enter Try.func5, Try.ntmps5
    go_wp2_with fail
    refine (unhid_ PM _).mono ?_
    rintro e w' ⟨rfl, rfl⟩
    go_wp2_with fail
    refine (awake_any _).mono ?_
    rintro e w' ⟨rfl, hbz⟩
    go_wp2
    go_ret
    exact yes_mk rfl hbz

set_option maxRecDepth 100000 in
set_option maxHeartbeats 8000000 in
theorem queueFull_short (most : Int) (A : Option Addr) (na ca : Nat) (xs : List Int) (O : Option Addr) (no co : Nat) (ys : List Int) (w : World) (hra : Reads w w.heap.size 1 A na (xs.map (Value.int .u8))) (hro : Reads w w.heap.size 1 O no (ys.map (Value.int .u8))) (hca : na ≤ ca) (hco : no ≤ co) (hna : na ≤ 1000) (hno : no ≤ 1000) :
    Calls Try.prog 5 #[.int .i64 most, .slice A na ca, .slice O no co] w (Yes w) := by
  have hla : xs.length = na := by have := hra.1; simpa using this
  have hlo : ys.length = no := by have := hro.1; simpa using this
  subst hla
  subst hlo
  obtain ⟨m0, hm0, _, PM⟩ := place_nat most 300 (by omega) (by omega)
  have PM := hide PM
  have h1 : ¬ (1000 : Int) < (xs.length : Int) := by omega
  have h2 : ¬ (1000 : Int) < (ys.length : Int) := by omega
  go_enter Try.func5, Try.ntmps5
  go_wp2_with fail
  refine (unhid_ PM _).mono ?_
  rintro e w' ⟨rfl, rfl⟩
  go_wp2_with fail
  refine (new_any _ _).mono ?_
  rintro e w1 ⟨rfl, hq1, hb1, hs1⟩
  have hcap : (max 0 (min (m0 : Int) 65536)).toNat = m0 := by omega
  rw [hcap] at hq1
  obtain ⟨g, hg⟩ : ∃ g, g = w.heap.size + 1 := ⟨_, rfl⟩
  obtain ⟨rb, hrb⟩ : ∃ rb, rb = w.heap.size := ⟨_, rfl⟩
  rw [← hg, ← hrb] at hq1
  rw [← hg]
  have hgB : w.heap.size ≤ g := by omega
  have hrB : w.heap.size ≤ rb := by omega
  have HQ1 := hide hq1
  have hl1 := hq1.lt
  have HS1 := Lib.hid hs1
  clear hcap hg hrb hq1 hs1
  go_wp2_with fail
  refine (copy_any _ _ _ _ xs _ (hra.below hb1) (by omega)).mono ?_
  rintro e w2 ⟨A1, c1, rfl, ho1, hbw1⟩
  obtain ⟨n, hn⟩ : ∃ n, n = min xs.length m0 := ⟨_, rfl⟩
  have hput := put_any w2 g rb m0 w2.heap.size [] xs A1 xs.length c1 n (by simpa using hn) ((unhid_ HQ1).only (Only.of_below hbw1 []) (by simp) (by simp)) (Reads.of_own ho1) (own_cap ho1) (by omega) (Nat.le_refl _) (own_apart ho1 (fun k hk => by have := hbw1.size; simp at hk; omega))
  have HPUT := hide hput
  have HN := Lib.hid hn
  have hnx : n ≤ xs.length := by omega
  have hnm : n ≤ m0 := by omega
  clear hput hn ho1
  go_wp2_with fail
  refine (unhid_ HPUT).mono ?_
  rintro e w3 ⟨rfl, hq3, hol3, hs3⟩
  rw [List.nil_append] at hq3
  have hb3 : Below w.heap.size w w3 := (hb1.trans (hbw1.mono hb1.size)).trans (hol3.below (fun k hk => by simp at hk; omega) (Nat.le_trans hb1.size hbw1.size))
  have HQ3 := hide hq3
  have hl3 := hq3.lt
  clear hq3 hs3
  go_wp2_with fail
  refine (copy_any _ _ _ _ ys _ (hro.below hb3) (by omega)).mono ?_
  rintro e w4 ⟨O1, d1, rfl, ho4, hbw4⟩
  obtain ⟨k, hk⟩ : ∃ k, k = min ys.length (m0 - n) := ⟨_, rfl⟩
  have hput := put_any w4 g rb m0 w4.heap.size (xs.take n) ys O1 ys.length d1 k (by rw [List.length_take, Nat.min_eq_left hnx]; exact hk) ((unhid_ HQ3).only (Only.of_below hbw4 []) (by simp) (by simp)) (Reads.of_own ho4) (own_cap ho4) (by omega) (Nat.le_refl _) (own_apart ho4 (fun k hk => by have := hbw4.size; simp at hk; omega))
  have HPUT := hide hput
  have HK := Lib.hid hk
  have hky : k ≤ ys.length := by omega
  have hkm : n + k ≤ m0 := by omega
  clear hput hk ho4
  go_wp2_with fail
  refine (unhid_ HPUT).mono ?_
  rintro e w5 ⟨rfl, hq5, hol5, hs5⟩
  have hb5 : Below w.heap.size w w5 := (hb3.trans (hbw4.mono hb3.size)).trans (hol5.below (fun k hk => by simp at hk; omega) (Nat.le_trans hb3.size hbw4.size))
  have hroom := room_any w5 g rb m0 _ hq5
  have hcont : (xs.take n ++ ys.take k).length = n + k := by rw [List.length_append, List.length_take, List.length_take]; omega
  rw [hcont] at hroom
  have HROOM := hide hroom
  have HQ5 := hide hq5
  have HCONT := Lib.hid hcont
  clear hq5 hs5 hroom hcont
  have hA1 : ((m0 : Int) ≤ (xs.length : Int) ∧ n = m0) ∨ ((xs.length : Int) < (m0 : Int) ∧ n = xs.length) := by have := HN.out; omega
  have hA2 : ((m0 : Int) - (n : Int) ≤ (ys.length : Int) ∧ ((k : Int) != (m0 : Int) - (n : Int)) = false) ∨ ((ys.length : Int) < (m0 : Int) - (n : Int) ∧ k = ys.length) := by
    have := HK.out
    rcases Nat.lt_or_ge ys.length (m0 - n) with h | h
    · exact .inr ⟨by omega, by omega⟩
    · exact .inl ⟨by omega, by rw [bne_eq_false_iff_eq]; omega⟩
  have hA3 : ((m0 : Int) - ((n + k : Nat) : Int) != (m0 : Int) - (n : Int) - (k : Int)) = false := by rw [bne_eq_false_iff_eq]; omega
  have HA1 := Lib.hid hA1
  have HA2 := Lib.hid hA2
  clear hA1 hA2
  have hc1 := fun q : Nat => conv_any (c := ca) (Reads.takeB ((hra.below hb5).drewN q) (k := n) hnx)
  have hc2 := fun q : Nat => conv_any (c := co) (Reads.takeB ((hro.below hb5).drewN q) (k := k) hky)
  have HC1 := hide hc1
  have HC2 := hide hc2
  have hadd : ∀ W : World, (Op.stringOp .add (strOfNums (xs.take n)) (strOfNums (ys.take k))).run Try.prog W = .ok (.string (strOfNums (xs.take n ++ ys.take k))) W := fun W => by rw [str_app]; exact run_string_add W _ _ (by rw [strOfNums_size, List.length_take]; omega) (by rw [strOfNums_size, List.length_take]; omega)
  have HADD := hide hadd
  have HNC : Hid (∀ (_ : n ≤ ca), True) := fun _ => trivial
  have hn_ca : n ≤ ca := by omega
  have hk_co : k ≤ co := by omega
  clear hc1 hc2 hadd
  rcases HA1.out with ⟨g1, g2⟩ | ⟨g1, g2⟩
  case' inl => have g2b : ((n : Int) != (m0 : Int)) = false := by rw [bne_eq_false_iff_eq]; omega
  case' inr => have g2b : ((n : Int) != (xs.length : Int)) = false := by rw [bne_eq_false_iff_eq]; omega
  all_goals
    rcases HA2.out with ⟨e1, e2⟩ | ⟨e1, e2⟩
    case' inr => (have e2b : ((k : Int) != (ys.length : Int)) = false := by rw [bne_eq_false_iff_eq]; omega); (have E2 := Lib.hid e2); clear e2
    all_goals
      (try (exfalso; omega))
    all_goals
      clear g2
      go_wp2_with fail
      refine (unhid_ HROOM).mono ?_
      rintro e w' ⟨rfl, q, rfl⟩
      have hc1 := unhid_ HC1
      have hc2 := unhid_ HC2
      go_wp2_with fail
      have hadd := unhid_ HADD
      go_quiet (fail)
      clear hc1 hc2 hadd
      have hby := bytes_any (w5.drewN (q + nq)) g rb m0 _ (unhid_ HQ5)
      unfold TellQ at hby
      rw [HCONT.out] at hby
      obtain ⟨B, hB⟩ : ∃ B, B = xs.take n ++ ys.take k := ⟨_, rfl⟩
      rw [← hB] at hby
      have HBY := hide hby
      rw [← hB]
      have hBl : B.length = n + k := by rw [hB]; exact HCONT.out
      have hq5 := unhid_ HQ5
      rw [← hB] at hq5
      have HQB := hide hq5
      have HB := Lib.hid hB
      have HBL := Lib.hid hBl
      clear hby hB hBl hq5
      go_wp2_with fail
      refine (unhid_ HBY).mono ?_
      rintro e w6 ⟨rfl, q2, hw6⟩
      have hblk6 : Blk w6 w5.heap.size 5 (By B) := by rw [hw6]; exact Blk.drewN (Blk.new (w5.drewN (q + nq)) 5 (By B)) q2
      have ho6 : Only [] w5 w6 := by rw [hw6]; exact (((Only.refl _ _).drewN _).alloc _).drewN _
      have hs6 : w6.heap.size = w5.heap.size + 1 := by rw [hw6]; simp
      have hl5 := (unhid_ HQB).lt
      have hq6 := (unhid_ HQB).only ho6 (by simp) (by simp)
      have HQ6 := hide hq6
      have HBLK6 := hide hblk6
      have HS6 := Lib.hid hs6
      have hb6 : Below w.heap.size w w6 := hb5.trans (ho6.below (fun k hk => by simp at hk) hb5.size)
      clear hw6 hblk6 hs6 hq6
      go_wp2_with fail
      go_loopw [13] (fun i wr => ∃ (t : Nat) (L : List Int), t ≤ n + k ∧ i = .int .i64 t ∧ Blk wr w5.heap.size 5 (By L) ∧ L.length = n + k ∧ Only [w5.heap.size] w6 wr ∧ wr.heap.size = w6.heap.size) (fun i _ => n + k - (intOf i).toNat)
      case atStart => exact ⟨0, B, Nat.zero_le _, rfl, unhid_ HBLK6, HBL.out, Only.refl _ _, rfl⟩
      case round =>
        obtain ⟨t, L, ht, rfl, hbl, hL, ho, hsz⟩ := hrel
        have HBLk := hide hbl
        have HL := Lib.hid hL
        have HO := hide ho
        have HSZ := Lib.hid hsz
        by_cases hlt : t < n + k
        · have hti : (t : Int) < (n : Int) + (k : Int) := by omega
          have htL : t < L.length := by omega
          have hcell : wr.cell? ⟨w5.heap.size, t, none⟩ = some (.int .u8 L[t]) := (hbl.cell t).trans (By_at _ _ _)
          have hfro : wr.frozen? ⟨w5.heap.size, t, none⟩ = false := hbl.frozen t
          clear hbl hL ho hsz
          go_wp2
          go_roundw
          case rel => exact ⟨t + 1, L.set t _, by omega, by go_num, full_xor (unhid_ HBLk), by rw [List.length_set]; exact HL.out, (unhid_ HO).setCell (.inl (by simp)) _, by simp [World.setCell, HSZ.out]⟩
          case measure => simp [intOf]; omega
        · have hqr := (unhid_ HQ6).only ho (by simp; omega) (by simp; omega)
          have hbr : Below w.heap.size w wr := hb6.trans (ho.below (fun k hk => by simp at hk; have := hb5.size; omega) hb6.size)
          have hby2 := bytes_any wr g rb m0 B hqr
          have HBY2 := hide hby2
          have HQR := hide hqr
          clear hbl hL ho hsz hby2 hqr
          go_wp2_with fail
          refine (unhid_ HBY2).mono ?_
          rintro e w7 ⟨rfl, q3, hw7⟩
          have hblk7 : Blk w7 wr.heap.size 5 (By B) := by rw [hw7]; exact Blk.drewN (Blk.new wr 5 (By B)) q3
          have ho7 : Only [] wr w7 := by rw [hw7]; exact ((Only.refl _ _).alloc _).drewN _
          have hb7 : Below w.heap.size w w7 := hbr.trans (ho7.below (fun k hk => by simp at hk) hbr.size)
          have hcv := conv_blk (c := B.length) hblk7 (Nat.le_refl _)
          rw [List.take_length] at hcv
          have hq7 := (unhid_ HQR).only ho7 (by simp) (by simp)
          have hl7 := hq7.lt
          have hle7 := hq7.le
          have hget := get_any w7 g rb m0 B (m0 : Int) B.length (by omega) hq7
          have HGET := hide hget
          clear hw7 hblk7 hq7 hget
          go_wp2_with fail
          refine (unhid_ HGET).mono ?_
          rintro e w8 ⟨rfl, hq8, hblk8, ho8, hs8⟩
          have hcv8 := conv_blk (c := B.length) hblk8 (Nat.le_refl _)
          rw [List.take_length] at hcv8
          rw [List.drop_length] at hq8
          have hb8 : Below w.heap.size w w8 := hb7.trans (ho8.below (fun k hk => by simp at hk; omega) hb7.size)
          have hlen8 := len_any w8 g rb m0 [] hq8
          have hget8 := get_any w8 g rb m0 [] 5 0 (by decide) hq8
          have HLEN8 := hide hlen8
          have HGET8 := hide hget8
          clear hcv hblk8 hq8 hs8 hlen8 hget8
          go_wp2_with fail
          refine (unhid_ HLEN8).mono ?_
          rintro e w' ⟨rfl, rfl⟩
          go_wp2_with fail
          refine (unhid_ HGET8).mono ?_
          rintro e w9 ⟨rfl, hq9, hblk9, ho9, hs9⟩
          have hb9 : Below w.heap.size w w9 := hb8.trans (ho9.below (fun k hk => by simp at hk; omega) hb8.size)
          clear hq9 hblk9 hs9
          go_wp2_with fail
          refine (awake_any _).mono ?_
          rintro e w' ⟨rfl, hbz⟩
          go_wp2
          go_ret
          exact yes_mk rfl (hb9.trans (hbz.mono hb9.size))

theorem queueFull_any (most : Int) (A : Option Addr) (na ca : Nat) (xs : List Int) (O : Option Addr) (no co : Nat) (ys : List Int) (w : World) (hra : Reads w w.heap.size 1 A na (xs.map (Value.int .u8))) (hro : Reads w w.heap.size 1 O no (ys.map (Value.int .u8))) (hca : na ≤ ca) (hco : no ≤ co) (hma : na ≤ maxLen) (hmo : no ≤ maxLen) :
    Calls Try.prog 5 #[.int .i64 most, .slice A na ca, .slice O no co] w (Yes w) := by
  by_cases h : 1000 < na ∨ 1000 < no
  · exact queueFull_long most A na ca O no co w h hma hmo
  · exact queueFull_short most A na ca xs O no co ys w hra hro hca hco (by omega) (by omega)
end Go.Proofs.Ytagopgoelgmibaa
