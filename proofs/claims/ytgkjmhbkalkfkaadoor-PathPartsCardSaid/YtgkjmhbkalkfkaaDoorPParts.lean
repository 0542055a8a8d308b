/- The walk of the law PathParts. -/
import Derived.Test.YtgkjmhbkalkfkaaDoorPParent
namespace Go.Proofs.YtgkjmhbkalkfkaaDoor
open Go.RowKit
set_option linter.unusedSimpArgs false
set_option linter.unusedVariables false

theorem yes_of {w w1 : World} (hb : Below w.heap.size w w1) {e : Ending} {w' : World} (h : Yes w1 e w') : Yes w e w' := ⟨h.1, hb.trans (h.2.mono hb.size)⟩
theorem max_of' {w w' : World} {m : Int} (hm : w.cell? ⟨0, 0, none⟩ = some (.int .i64 m)) (hb : Below w.heap.size w w') : w'.cell? ⟨0, 0, none⟩ = some (.int .i64 m) := (hb.cell (block_lt_of_cell hm)).trans hm
theorem joinL_len (xs : List ByteArray) (hn : xs.length ≤ 100) (hx : ∀ x ∈ xs, x.size ≤ 2000) : (joinL xs).length ≤ 1000000 := by
  have h1 := jto_size xs hx xs.length (Nat.le_refl _)
  rw [jto_all, joinP, ByteArray.size_append] at h1
  have : (⟨(joinL xs).toArray⟩ : ByteArray).size = (joinL xs).length := by simp [ByteArray.size]
  omega

def shortTo (xs : List ByteArray) (k : Nat) : Prop := ∀ j (h : j < xs.length), j < k → xs[j].size ≤ 300
theorem shortTo.step {xs : List ByteArray} {k : Nat} (h : shortTo xs k) (hk : k < xs.length) (hc : xs[k].size ≤ 300) : shortTo xs (k + 1) := by
  intro j hj hjk
  rcases Nat.lt_or_ge j k with h' | h'
  · exact h j hj h'
  · obtain rfl : j = k := by omega
    exact hc

set_option maxHeartbeats 4000000 in
theorem pathParts_any (B B' : Nat) (A A' : Option Addr) (n c k' d : Nat) (xs ys : List ByteArray) (w : World) (m : Int) (hm : w.cell? ⟨0, 0, none⟩ = some (.int .i64 m)) (hx : RS w B A n xs) (hy : RS w B' A' k' ys) (hB : B ≤ w.heap.size) (hB' : B' ≤ w.heap.size) (hnc : n ≤ c) (hcm : c ≤ 9223372036854775807) (hkm : k' ≤ 9223372036854775807) :
    Calls Tryd.prog 7 #[.slice A n c, .slice A' k' d] w (Yes w) := by
  obtain rfl := hx.len
  obtain rfl := hy.len
  have HM := Lib.hid hm
  have HAW := hide (awake_any w m hm)
  clear hm
  by_cases h30 : xs.length ≤ 30
  · by_cases t30 : ys.length ≤ 30
    · have d1 : decide ((30 : Int) < (xs.length : Int)) = false := by simp; omega
      have d2 : decide ((30 : Int) < (ys.length : Int)) = false := by simp; omega
      go_enter Tryd.func7, Tryd.ntmps7
      go_wp2
      go_loop [5] (fun s5 => ∃ k : Nat, k ≤ xs.length ∧ s5 = .int .i64 k ∧ shortTo xs k) (fun s5 => xs.length - (intOf s5).toNat)
      case atStart => exact ⟨0, Nat.zero_le _, rfl, fun _ _ h => absurd h (by omega)⟩
      case round =>
        obtain ⟨k, hk, rfl, hsh⟩ := hrel
        by_cases hlt : k < xs.length
        · obtain ⟨ad, rfl, c1⟩ := hx.at_ hlt
          obtain ⟨x, hxk⟩ : ∃ x, x = xs[k] := ⟨_, rfl⟩
          rw [← hxk] at c1
          by_cases hs : x.size ≤ 300
          · have hsI : (x.size : Int) ≤ 300 := by omega
            have HS := hide (hsh.step hlt (by rw [← hxk]; exact hs))
            clear hsh hxk
            go_wp2
            go_round
            case rel => exact ⟨k + 1, by omega, by go_num, unhid_ HS⟩
            case measure => simp [intOf]; omega
          · have hsI : (300 : Int) < x.size := by omega
            clear hsh hxk
            go_wp2_with fail
            refine (unhid_ HAW).mono ?_
            rintro e w1 ⟨rfl, hb1⟩
            go_wp2
            go_ret
            exact ⟨rfl, hb1⟩
        · obtain rfl : k = xs.length := by omega
          have hx300 : ∀ x ∈ xs, x.size ≤ 2000 := fun x hx => by
            obtain ⟨j, hj, rfl⟩ := List.getElem_of_mem hx
            exact Nat.le_trans (hsh j hj hj) (by decide)
          have HJL := hide (joinL_len xs (by omega) hx300)
          have HSH := hide hx300
          have HTX := hide (texts_any B A xs.length c xs w hx (by omega))
          have HX := hide hx
          have HY := hide hy
          clear hsh hx300 hx hy d1 d2
          go_wp2_with fail
          refine (unhid_ HTX).mono ?_
          rintro e w1 ⟨A1, c1, rfl, hown1, hb1⟩
          have HB1 := hide hb1
          have HPA := hide (parent_any w1 _ c1 A1 xs hown1 (by omega))
          have HOWN1 := hide hown1
          clear hown1 hb1 HTX
          go_wp2_with fail
          refine (unhid_ HPA).mono ?_
          rintro e w2 hpt
          clear HPA
          rcases hpt with ⟨h0, rfl, hw2⟩ | ⟨A2, c2, n, x, hnn, hxn, rfl, hown2, hb2⟩
          · obtain rfl := hw2.symm
            obtain rfl := List.eq_nil_of_length_eq_zero h0
            obtain ⟨w3, hw3⟩ : ∃ w3, w3 = w1 := ⟨_, rfl⟩
            rw [← hw3] at HB1 HOWN1 ⊢
            have HB3 := HB1
            have HOWN3 := HOWN1
            clear hw3 HB1 HOWN1 h0
            have hR3 : RS w3 B A 0 [] := (unhid_ HX).below ((unhid_ HB3).mono hB)
            have HJ := hide (join_any w3 _ c1 A1 [] (unhid_ HOWN3) (by omega) (unhid_ HJL))
            go_wp2_with fail
            refine (unhid_ HJ).mono ?_
            rintro e w4 ⟨rfl, hb4⟩
            have hb4' : Below w.heap.size w w4 := (unhid_ HB3).trans (hb4.mono (unhid_ HB3).size)
            have hown4 := own_only (unhid_ HOWN3) (Only.of_below hb4 []) (by simp)
            have HB4 := hide hb4'
            have HOWN4 := hide hown4
            have HRJ := hide (rjoin_any B A 0 c [] w4 ((unhid_ HX).below (hb4'.mono hB)) (by omega) (unhid_ HSH))
            clear hb4 hb4' hown4 HJ HOWN3 HB3 hR3
            go_wp2_with fail
            refine (unhid_ HRJ).mono ?_
            rintro e w4' ⟨rfl, hw4⟩
            obtain rfl := hw4.symm
            clear HRJ
            obtain ⟨JP, hJP⟩ : ∃ J, J = joinP [] := ⟨_, rfl⟩
            rw [← hJP]
            clear hJP
            have HTY := hide (texts_any B' A' ys.length d ys w4 ((unhid_ HY).below ((unhid_ HB4).mono hB')) (by omega))
            go_wp2_with fail
            refine (unhid_ HTY).mono ?_
            rintro e w5 ⟨A5, c5, rfl, hown5, hb5⟩
            have hb5' : Below w.heap.size w w5 := (unhid_ HB4).trans (hb5.mono (unhid_ HB4).size)
            have hownm5 := own_only (unhid_ HOWN4) (Only.of_below hb5 []) (by simp)
            have HU := hide (under_any w5 _ c1 A1 [] _ c5 A5 ys hownm5 hown5 (by omega) (by omega))
            have HU2 := hide (fun q => runder_any B B' A A' 0 c ys.length d [] ys (w5.drewN q) ((unhid_ HX).below ((belowN hb5' q).mono hB)) ((unhid_ HY).below ((belowN hb5' q).mono hB')) (by omega) (by omega))
            have HU3 := hide (fun q => under_any (w5.drewN q) _ c1 A1 [] _ c1 A1 [] hownm5 hownm5 (by omega) (by omega))
            have HU4 := hide (fun q => under_any (w5.drewN q) _ c1 A1 [] 0 0 none [] hownm5 (World.ownsRow_nil _ _ _ _) (by omega) (by simp))
            have HB5 := hide hb5'
            clear hb5 hb5' hown5 hownm5 HOWN4 HTY HB4
            go_wp2_with fail
            refine (unhid_ HU).mono ?_
            rintro e w6 ⟨rfl, q6, rfl⟩
            go_wp2_with fail
            refine ((unhid_ HU2) q6).mono ?_
            rintro e w7 ⟨rfl, q7, rfl⟩
            rw [World.drewN_drewN]
            clear HU HU2
            go_wp2_with fail
            refine ((unhid_ HU3) (q6 + q7)).mono ?_
            rintro e w8 ⟨rfl, q8, rfl⟩
            rw [World.drewN_drewN, show underP [] [] = true from by simp [underP]]
            clear HU3
            go_wp2_with fail
            refine ((unhid_ HU4) (q6 + q7 + q8)).mono ?_
            rintro e w9 ⟨rfl, q9, rfl⟩
            rw [World.drewN_drewN, show underP [] [] = true from by simp [underP]]
            clear HU4
            have hb9 := belowN (unhid_ HB5) (q6 + q7 + q8 + q9)
            have HB9 := hide hb9
            have HAW9 := hide (awake_any _ m (max_of' HM.out hb9))
            clear hb9
            go_wp2_with fail
            refine (unhid_ HAW9).mono ?_
            rintro e w10 ⟨rfl, hb10⟩
            go_wp2
            go_ret
            exact ⟨rfl, (unhid_ HB9).trans (hb10.mono (unhid_ HB9).size)⟩
          · obtain rfl : n = xs.length - 1 := by omega
            have z1 : decide ((0 : Int) < (xs.length : Int)) = true := by rw [decide_eq_true_iff]; omega
            have z2 : ((xs.length : Int) == 0) = false := by rw [beq_eq_false_iff_ne]; omega
            have hb2' : Below w.heap.size w w2 := (unhid_ HB1).trans (hb2.mono (unhid_ HB1).size)
            have hownm2 := own_only (unhid_ HOWN1) (Only.of_below hb2 []) (by simp)
            have hz1 : wrap64 ((xs.length : Int) - 1) = ((xs.length - 1 : Nat) : Int) := by unfold wrap64; omega
            have hnlt : (xs.length - 1) < xs.length := by omega
            obtain ⟨ad, rfl, cx⟩ := ((unhid_ HX).below (hb2'.mono hB)).at_ hnlt
            rw [show xs[xs.length - 1] = x from (List.getElem?_eq_some_iff.1 hxn).2] at cx
            have hnc' : (xs.length - 1) ≤ c := by omega
            have hnI : ((xs.length - 1 : Nat) : Int) < (xs.length : Int) := by omega
            have h0n : (0 : Int) ≤ ((xs.length - 1 : Nat) : Int) := by omega
            have HST := hide (sameTexts_any _ B A2 (some ad) (xs.length - 1) c2 (xs.length - 1) c (xs.take (xs.length - 1)) (xs.take (xs.length - 1)) w2 (by have := RS.of_own (xs := xs.take (xs.length - 1)) (by rw [show (xs.take (xs.length - 1)).length = (xs.length - 1) from by rw [List.length_take]; omega]; exact hown2); rwa [show (xs.take (xs.length - 1)).length = (xs.length - 1) from by rw [List.length_take]; omega] at this) (by have := Reads.take ((unhid_ HX).below (hb2'.mono hB)) (k := xs.length - 1) (by omega); rwa [Nat.mul_one, ← List.map_take] at this) (by omega) (by omega))
            have HN := Lib.hid hnn
            have HB2 := hide hb2'
            have HOWN2 := hide hownm2
            clear hb2 hb2' hownm2 hnn hxn hown2 HB1 HOWN1
            go_wp2_with fail
            refine (unhid_ HST).mono ?_
            rintro e w3' ⟨rfl, q, rfl⟩
            simp only [decide_true]
            have HB3 := hide (belowN (unhid_ HB2) q)
            have HOWN3 : Hid ((w2.drewN q).ownsRow w.heap.size _ 1 (.slice A1 xs.length c1) xs.length (xs.map Value.string)) := hide (unhid_ HOWN2)
            obtain ⟨w3, hw3⟩ : ∃ w3, w3 = w2.drewN q := ⟨_, rfl⟩
            rw [← hw3] at HB3 HOWN3 ⊢
            clear hw3 HST HB2 HOWN2 cx
            have hR3 : RS w3 B (some ad) xs.length xs := (unhid_ HX).below ((unhid_ HB3).mono hB)
            have HJ := hide (join_any w3 _ c1 A1 xs (unhid_ HOWN3) (by omega) (unhid_ HJL))
            go_wp2_with fail
            refine (unhid_ HJ).mono ?_
            rintro e w4 ⟨rfl, hb4⟩
            have hb4' : Below w.heap.size w w4 := (unhid_ HB3).trans (hb4.mono (unhid_ HB3).size)
            have hown4 := own_only (unhid_ HOWN3) (Only.of_below hb4 []) (by simp)
            have HB4 := hide hb4'
            have HOWN4 := hide hown4
            have HRJ := hide (rjoin_any B (some ad) xs.length c xs w4 ((unhid_ HX).below (hb4'.mono hB)) (by omega) (unhid_ HSH))
            clear hb4 hb4' hown4 HJ HOWN3 HB3 hR3
            go_wp2_with fail
            refine (unhid_ HRJ).mono ?_
            rintro e w4' ⟨rfl, hw4⟩
            obtain rfl := hw4.symm
            clear HRJ
            obtain ⟨JP, hJP⟩ : ∃ J, J = joinP xs := ⟨_, rfl⟩
            rw [← hJP]
            clear hJP
            have HTY := hide (texts_any B' A' ys.length d ys w4 ((unhid_ HY).below ((unhid_ HB4).mono hB')) (by omega))
            go_wp2_with fail
            refine (unhid_ HTY).mono ?_
            rintro e w5 ⟨A5, c5, rfl, hown5, hb5⟩
            have hb5' : Below w.heap.size w w5 := (unhid_ HB4).trans (hb5.mono (unhid_ HB4).size)
            have hownm5 := own_only (unhid_ HOWN4) (Only.of_below hb5 []) (by simp)
            have HU := hide (under_any w5 _ c1 A1 xs _ c5 A5 ys hownm5 hown5 (by omega) (by omega))
            have HU2 := hide (fun q => runder_any B B' (some ad) A' xs.length c ys.length d xs ys (w5.drewN q) ((unhid_ HX).below ((belowN hb5' q).mono hB)) ((unhid_ HY).below ((belowN hb5' q).mono hB')) (by omega) (by omega))
            have HU3 := hide (fun q => under_any (w5.drewN q) _ c1 A1 xs _ c1 A1 xs hownm5 hownm5 (by omega) (by omega))
            have HU4 := hide (fun q => under_any (w5.drewN q) _ c1 A1 xs 0 0 none [] hownm5 (World.ownsRow_nil _ _ _ _) (by omega) (by simp))
            have HB5 := hide hb5'
            clear hb5 hb5' hown5 hownm5 HOWN4 HTY HB4
            go_wp2_with fail
            refine (unhid_ HU).mono ?_
            rintro e w6 ⟨rfl, q6, rfl⟩
            go_wp2_with fail
            refine ((unhid_ HU2) q6).mono ?_
            rintro e w7 ⟨rfl, q7, rfl⟩
            rw [World.drewN_drewN]
            clear HU HU2
            go_wp2_with fail
            refine ((unhid_ HU3) (q6 + q7)).mono ?_
            rintro e w8 ⟨rfl, q8, rfl⟩
            rw [World.drewN_drewN, show underP xs xs = true from by simp [underP]]
            clear HU3
            go_wp2_with fail
            refine ((unhid_ HU4) (q6 + q7 + q8)).mono ?_
            rintro e w9 ⟨rfl, q9, rfl⟩
            rw [World.drewN_drewN, show underP xs [] = true from by simp [underP]]
            clear HU4
            have hb9 := belowN (unhid_ HB5) (q6 + q7 + q8 + q9)
            have HB9 := hide hb9
            have HAW9 := hide (awake_any _ m (max_of' HM.out hb9))
            clear hb9
            go_wp2_with fail
            refine (unhid_ HAW9).mono ?_
            rintro e w10 ⟨rfl, hb10⟩
            go_wp2
            go_ret
            exact ⟨rfl, (unhid_ HB9).trans (hb10.mono (unhid_ HB9).size)⟩
    · have d1 : decide ((30 : Int) < (xs.length : Int)) = false := by simp; omega
      have d2 : decide ((30 : Int) < (ys.length : Int)) = true := by simp; omega
      go_enter Tryd.func7, Tryd.ntmps7
      go_wp2_with fail
      refine (unhid_ HAW).mono ?_
      rintro e w1 ⟨rfl, hb1⟩
      go_wp2
      go_ret
      exact ⟨rfl, hb1⟩
  · have d1 : decide ((30 : Int) < (xs.length : Int)) = true := by simp; omega
    go_enter Tryd.func7, Tryd.ntmps7
    go_wp2_with fail
    refine (unhid_ HAW).mono ?_
    rintro e w1 ⟨rfl, hb1⟩
    go_wp2
    go_ret
    exact ⟨rfl, hb1⟩
end Go.Proofs.YtgkjmhbkalkfkaaDoor
