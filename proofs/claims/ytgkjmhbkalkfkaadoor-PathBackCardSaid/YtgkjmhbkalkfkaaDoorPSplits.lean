/- The walk of the law PathSplits. -/
import Derived.Test.YtgkjmhbkalkfkaaDoorPRSplit
import Derived.Test.YtgkjmhbkalkfkaaDoorPRef
namespace Go.Proofs.YtgkjmhbkalkfkaaDoor
open Go.RowKit
set_option linter.unusedSimpArgs false
set_option linter.unusedVariables false

theorem max_of' {w w' : World} {m : Int} (hm : w.cell? ⟨0, 0, none⟩ = some (.int .i64 m)) (hb : Below w.heap.size w w') : w'.cell? ⟨0, 0, none⟩ = some (.int .i64 m) := (hb.cell (block_lt_of_cell hm)).trans hm
theorem awake_at {w w1 : World} {m : Int} (hm : w.cell? ⟨0, 0, none⟩ = some (.int .i64 m)) (hb : Below w.heap.size w w1) : Calls Tryd.prog 8 #[] w1 (Yes w) := (awake_any w1 m (max_of' hm hb)).mono fun _ _ h => ⟨h.1, hb.trans (h.2.mono hb.size)⟩
theorem names_bound {s : ByteArray} {l : List ByteArray} (h : splitP s = some l) : (joinL l).length ≤ 1000 ∧ (joinP l).size ≤ 120 ∧ ∀ x ∈ l, x.size ≤ 2000 := by
  have h1 := joinL_length l
  have h2 := (splitP_some (split_again h)).1.1
  obtain ⟨_, hg, _⟩ := splitP_some h
  rw [goodNames, Bool.and_eq_true, List.all_eq_true] at hg
  exact ⟨by omega, h2, fun x hx => by have := (name_size (hg.1 x hx)).2; omega⟩

set_option maxHeartbeats 4000000 in
theorem pathSplits_any (s : ByteArray) (w : World) (m : Int) (hm : w.cell? ⟨0, 0, none⟩ = some (.int .i64 m)) (h63 : s.size ≤ 9223372036854775807) :
    Calls Tryd.prog 3 #[.string s] w (Yes w) := by
  have HM := Lib.hid hm
  have HAW := hide (fun (w1 : World) (hb : Below w.heap.size w w1) => awake_at hm hb)
  by_cases h2 : s.size ≤ 2000
  · have d1 : decide ((2000 : Int) < (s.size : Int)) = false := by simp; omega
    have HSP := hide (split_any s m w hm h63)
    clear hm
    go_enter Tryd.func3, Tryd.ntmps3
    go_wp2_with fail
    refine (unhid_ HSP).mono ?_
    rintro e w1 ⟨hb1, hor⟩
    have HB1 := hide hb1
    have HRS := hide (rsplit_any s w1 h63)
    clear HSP hb1
    rcases hor with ⟨hnone, rfl⟩ | ⟨A1, c1, l, hsome, hl8, rfl, hown1⟩
    · have HN := Lib.hid hnone
      clear hnone
      go_wp2_with fail
      refine (unhid_ HRS).mono ?_
      rintro e w2 ⟨hb2, hor⟩
      have hb2' := (unhid_ HB1).trans (hb2.mono (unhid_ HB1).size)
      have HB2 := hide hb2'
      clear HRS hb2 hb2'
      obtain rfl : e = .returned (.tuple #[.slice none 0 0, .bool false]) := by
        rcases hor with ⟨_, h⟩ | ⟨_, _, _, h, _⟩
        · exact h
        · rw [HN.out] at h; cases h
      clear hor
      have HST := hide (sameTexts_any 0 0 none none 0 0 0 0 [] [] w2 (Reads.none_) (Reads.none_) (by omega) (by omega))
      go_wp2_with fail
      refine (unhid_ HST).mono ?_
      rintro e w3 ⟨rfl, q, rfl⟩
      simp only [decide_true]
      have HB3 := hide (belowN (unhid_ HB2) q)
      clear HST HB2
      go_wp2_with fail
      refine ((unhid_ HAW) _ (unhid_ HB3)).mono ?_
      rintro e w4 ⟨rfl, hb4⟩
      go_wp2
      go_ret
      exact ⟨rfl, hb4⟩
    · have HN := Lib.hid hsome
      have hnb := names_bound hsome
      have HAG := Lib.hid (split_again hsome)
      have HNB := hide hnb.1
      have HNB2 := hide hnb.2.2
      have hjs := hnb.2.1
      have HOWN1 := hide hown1
      clear hsome hown1 hnb
      go_wp2_with fail
      refine (unhid_ HRS).mono ?_
      rintro e w2 ⟨hb2, hor⟩
      obtain ⟨A2, c2, rfl, hown2⟩ : ∃ A2 c2, e = .returned (.tuple #[.slice A2 l.length c2, .bool true]) ∧ w2.ownsRow w1.heap.size 9 1 (.slice A2 l.length c2) l.length (l.map Value.string) := by
        rcases hor with ⟨h, _⟩ | ⟨A, c, l', h, _, he, ho⟩
        · rw [HN.out] at h; cases h
        · rw [HN.out] at h
          injection h with h
          subst h
          exact ⟨A, c, he, ho⟩
      have hb2' := (unhid_ HB1).trans (hb2.mono (unhid_ HB1).size)
      have hownm2 := own_only (unhid_ HOWN1) (Only.of_below hb2 []) (by simp)
      have HST := hide (sameTexts_any _ _ A1 A2 l.length c1 l.length c2 l l w2 (RS.of_own hownm2) (RS.of_own hown2) (by omega) (by omega))
      have HOWN2 := hide hownm2
      have HB2 := hide hb2'
      clear hor hb2 hb2' hownm2 hown2 HRS HB1 HOWN1
      go_wp2_with fail
      refine (unhid_ HST).mono ?_
      rintro e w3' ⟨rfl, q, rfl⟩
      simp only [decide_true]
      have HB3 := hide (belowN (unhid_ HB2) q)
      have HOWN3 : Hid ((w2.drewN q).ownsRow w.heap.size _ 1 (.slice A1 l.length c1) l.length (l.map Value.string)) := hide (unhid_ HOWN2)
      obtain ⟨w3, hw3⟩ : ∃ w3, w3 = w2.drewN q := ⟨_, rfl⟩
      rw [← hw3] at HB3 HOWN3 ⊢
      have HTX := hide (texts_any _ A1 l.length c1 l w3 (RS.of_own (unhid_ HOWN3)) (by omega))
      clear hw3 HST HB2 HOWN2
      go_wp2_with fail
      refine (unhid_ HTX).mono ?_
      rintro e w4 ⟨A4, c4, rfl, hown4, hb4⟩
      have HB4 := hide ((unhid_ HB3).trans (hb4.mono (unhid_ HB3).size))
      have HOWN4 := hide (own_only (unhid_ HOWN3) (Only.of_below hb4 []) (by simp))
      have HJ := hide (join_any w4 _ c4 A4 l hown4 (by omega) (by have := unhid_ HNB; omega))
      clear hown4 hb4 HTX HB3 HOWN3
      go_wp2_with fail
      refine (unhid_ HJ).mono ?_
      rintro e w5 ⟨rfl, hb5⟩
      have HB5 := hide ((unhid_ HB4).trans (hb5.mono (unhid_ HB4).size))
      have HOWN5 := hide (own_only (unhid_ HOWN4) (Only.of_below hb5 []) (by simp))
      obtain ⟨JP, hJP⟩ : ∃ J, J = joinP l := ⟨_, rfl⟩
      have hag := HAG.out
      rw [← hJP] at hag hjs ⊢
      have HSP := hide (split_any JP m w5 (max_of' HM.out (unhid_ HB5)) (by omega))
      have HJP := Lib.hid hJP
      have HAG2 := Lib.hid hag
      clear HAG hJP hag hb5 HB4 HOWN4 HJ
      go_wp2_with fail
      refine (unhid_ HSP).mono ?_
      rintro e w6 ⟨hb6, hor⟩
      obtain ⟨A6, c6, rfl, hown6⟩ : ∃ A6 c6, e = .returned (.tuple #[.slice A6 l.length c6, .bool true]) ∧ w6.ownsRow w5.heap.size 9 1 (.slice A6 l.length c6) l.length (l.map Value.string) := by
        rcases hor with ⟨h, _⟩ | ⟨A, c, l', h, _, he, ho⟩
        · rw [HAG2.out] at h; cases h
        · rw [HAG2.out] at h
          injection h with h
          subst h
          exact ⟨A, c, he, ho⟩
      have HB6 := hide ((unhid_ HB5).trans (hb6.mono (unhid_ HB5).size))
      have hownm6 := own_only (unhid_ HOWN5) (Only.of_below hb6 []) (by simp)
      have HRJ := hide (rjoin_any _ A1 l.length c1 l w6 (RS.of_own hownm6) (by omega) (unhid_ HNB2))
      have HST := hide (sameTexts_any _ _ A6 A1 l.length c6 l.length c1 l l w6 (RS.of_own hown6) (RS.of_own hownm6) (by omega) (by omega))
      clear hor hb6 hownm6 hown6 HB5 HOWN5 HSP
      go_wp2_with fail
      refine (unhid_ HRJ).mono ?_
      rintro e w7 ⟨rfl, hw7⟩
      obtain rfl := hw7.symm
      rw [← HJP.out]
      clear HRJ
      go_wp2_with fail
      refine (unhid_ HST).mono ?_
      rintro e w8 ⟨rfl, q8, rfl⟩
      simp only [decide_true]
      have HB8 := hide (belowN (unhid_ HB6) q8)
      clear HST HB6
      go_wp2_with fail
      refine ((unhid_ HAW) _ (unhid_ HB8)).mono ?_
      rintro e w9 ⟨rfl, hb9⟩
      go_wp2
      go_ret
      exact ⟨rfl, hb9⟩
  · have d1 : decide ((2000 : Int) < (s.size : Int)) = true := by simp; omega
    clear hm
    go_enter Tryd.func3, Tryd.ntmps3
    go_wp2_with fail
    refine ((unhid_ HAW) _ (Below.refl _ _)).mono ?_
    rintro e w9 ⟨rfl, hb9⟩
    go_wp2
    go_ret
    exact ⟨rfl, hb9⟩
end Go.Proofs.YtgkjmhbkalkfkaaDoor
