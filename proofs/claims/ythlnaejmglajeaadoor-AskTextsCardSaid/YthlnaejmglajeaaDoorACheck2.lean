/- The walk of ask's alone. -/
import Derived.Test.YthlnaejmglajeaaDoorACheck
namespace Go.Proofs.YthlnaejmglajeaaDoor
open Go.RowKit
set_option linter.unusedSimpArgs false
set_option linter.unusedVariables false

theorem len0_eq (ks : List QT) (k : Nat) : ((ks.length : Int) == (k : Int)) = (ks.length == k) := by
  rw [Bool.eq_iff_iff, beq_iff_eq, beq_iff_eq]; omega
set_option maxHeartbeats 4000000 in
theorem alone_any (w : World) (B0 B : Nat) (o n : Int) (ks : List QT) (A : Option Addr) (c : Nat) (hq : RQ w B0 B (.mk o n ks) A c) (hB : B ≤ w.heap.size) :
    Calls Tryd.prog 24 #[.agg #[.int .i64 o, .int .i64 n, .slice A ks.length c]] w (BoolB (aloneF (.mk o n ks)) w) := by
  have hcap := hq.cap
  have hlc : ks.length ≤ 9223372036854775807 := by have := hcap.1; have := hcap.2; simp only [QT.kids, maxLen] at *; omega
  have HQ := hide hq
  have e0 := len0_eq ks 0
  have e1 := len0_eq ks 1
  obtain ⟨z0, hz0⟩ : ∃ b, (ks.length == 0) = b := ⟨_, rfl⟩
  obtain ⟨z1, hz1⟩ : ∃ b, (ks.length == 1) = b := ⟨_, rfl⟩
  obtain ⟨zn, hzn⟩ : ∃ b, (n == 0) = b := ⟨_, rfl⟩
  rw [hz0] at e0
  rw [hz1] at e1
  have e0' : ((ks.length : Int) == 0) = z0 := e0
  have e1' : ((ks.length : Int) == 1) = z1 := e1
  clear e0 e1 hq hcap
  by_cases h1 : o = 1 ∨ o = 2 ∨ o = 8
  · have HF := Lib.hid (show aloneF (.mk o n ks) = (zn && z0) by rw [aloneF, if_pos h1, hzn, hz0])
    clear hz0 hz1 e1'
    rcases h1 with rfl | rfl | rfl
    all_goals
      cases zn <;> cases z0
      all_goals
        go_enter Tryd.func24, Tryd.ntmps24
        go_wp2
        go_ret
        exact boolB_mk (by rw [HF.out]; rfl) ((Below.refl _ _).alloc (Nat.le_refl _) _)
  · by_cases h3 : o = 3
    · have HF := Lib.hid (show aloneF (.mk o n ks) = (decide (1 ≤ n) && decide (n ≤ 5) && z0) by rw [aloneF, if_neg h1, if_pos h3, hz0])
      clear hz0 hz1 e1' hzn h1
      subst h3
      have hn : n < 1 ∨ (1 ≤ n ∧ 5 < n) ∨ (1 ≤ n ∧ n ≤ 5) := by omega
      rcases hn with hn | ⟨hn, hn2⟩ | ⟨hn, hn2⟩
      · go_enter Tryd.func24, Tryd.ntmps24
        go_wp2
        go_ret
        exact boolB_mk (by rw [HF.out, decide_eq_false (by omega)]; rfl) ((Below.refl _ _).alloc (Nat.le_refl _) _)
      · go_enter Tryd.func24, Tryd.ntmps24
        go_wp2
        go_ret
        exact boolB_mk (by rw [HF.out, decide_eq_true hn, decide_eq_false (by omega)]; rfl) ((Below.refl _ _).alloc (Nat.le_refl _) _)
      · cases z0
        all_goals
          go_enter Tryd.func24, Tryd.ntmps24
          go_wp2
          go_ret
          exact boolB_mk (by rw [HF.out, decide_eq_true hn, decide_eq_true hn2]; rfl) ((Below.refl _ _).alloc (Nat.le_refl _) _)
    · by_cases h4 : o = 4
      · have HF := Lib.hid (show aloneF (.mk o n ks) = (decide (0 ≤ n) && decide (n < 8) && z0) by rw [aloneF, if_neg h1, if_neg h3, if_pos h4, hz0])
        clear hz0 hz1 e1' hzn h1 h3
        subst h4
        have hn : n < 0 ∨ (0 ≤ n ∧ 8 ≤ n) ∨ (0 ≤ n ∧ n < 8) := by omega
        rcases hn with hn | ⟨hn, hn2⟩ | ⟨hn, hn2⟩
        · go_enter Tryd.func24, Tryd.ntmps24
          go_wp2
          go_ret
          exact boolB_mk (by rw [HF.out, decide_eq_false (by omega)]; rfl) ((Below.refl _ _).alloc (Nat.le_refl _) _)
        · go_enter Tryd.func24, Tryd.ntmps24
          go_wp2
          go_ret
          exact boolB_mk (by rw [HF.out, decide_eq_true hn, decide_eq_false (by omega)]; rfl) ((Below.refl _ _).alloc (Nat.le_refl _) _)
        · cases z0
          all_goals
            go_enter Tryd.func24, Tryd.ntmps24
            go_wp2
            go_ret
            exact boolB_mk (by rw [HF.out, decide_eq_true hn, decide_eq_true hn2]; rfl) ((Below.refl _ _).alloc (Nat.le_refl _) _)
      · by_cases h5 : o = 5
        · have HF := Lib.hid (show aloneF (.mk o n ks) = (zn && z1) by rw [aloneF, if_neg h1, if_neg h3, if_neg h4, if_pos h5, hzn, hz1])
          clear hz0 hz1 e0' h1 h3 h4
          subst h5
          cases zn <;> cases z1
          all_goals
            go_enter Tryd.func24, Tryd.ntmps24
            go_wp2
            go_ret
            exact boolB_mk (by rw [HF.out]; rfl) ((Below.refl _ _).alloc (Nat.le_refl _) _)
        · by_cases h6 : o = 6 ∨ o = 7
          · obtain ⟨z2, hz2⟩ : ∃ b, (ks.any fun k => k.op == o) = b := ⟨_, rfl⟩
            have HF := Lib.hid (show aloneF (.mk o n ks) = (zn && decide (2 ≤ ks.length) && !z2) by rw [aloneF, if_neg h1, if_neg h3, if_neg h4, if_neg h5, if_pos h6, hzn, hz2])
            have hct := contains_any (w.alloc (.cells #[.int .i64 o, .int .i64 n, .slice A ks.length c] 24)) B0 B (.mk o n ks) A c w.heap.size o ((unhid_ HQ).belowW ((Below.refl _ _).alloc hB _)) (by simp; omega) (by simp) (by simp [World.cell?_alloc_new])
            rw [show (QT.mk o n ks).kids = ks from rfl, hz2] at hct
            have HCT2 := hide hct
            clear hct hz0 hz1 hz2 e0' e1' h1 h3 h4 h5
            cases zn with
            | false =>
              rcases h6 with rfl | rfl
              all_goals
                go_enter Tryd.func24, Tryd.ntmps24
                go_wp2
                go_ret
                exact boolB_mk (by rw [HF.out]; rfl) ((Below.refl _ _).alloc (Nat.le_refl _) _)
            | true =>
              by_cases hl : 2 ≤ ks.length
              · have hlI : (2 : Int) ≤ ks.length := by omega
                rcases h6 with rfl | rfl
                all_goals
                  go_enter Tryd.func24, Tryd.ntmps24
                  go_wp2_with fail
                  refine (unhid_ HCT2).mono ?_
                  rintro e w' ⟨rfl, hb⟩
                  have HB := hide (((Below.refl _ w).alloc (Nat.le_refl _) _).trans (hb.mono (by simp)))
                  clear hb
                  go_wp2
                  go_ret
                  exact boolB_mk (by rw [HF.out, decide_eq_true hl]; rfl) (unhid_ HB)
              · have hlI : (ks.length : Int) < 2 := by omega
                rcases h6 with rfl | rfl
                all_goals
                  go_enter Tryd.func24, Tryd.ntmps24
                  go_wp2
                  go_ret
                  exact boolB_mk (by rw [HF.out, decide_eq_false hl]; rfl) ((Below.refl _ _).alloc (Nat.le_refl _) _)
          · have HF := Lib.hid (show aloneF (.mk o n ks) = false by rw [aloneF, if_neg h1, if_neg h3, if_neg h4, if_neg h5, if_neg h6])
            have f1 : (o == 1) = false := by rw [beq_eq_false_iff_ne]; omega
            have f2 : (o == 2) = false := by rw [beq_eq_false_iff_ne]; omega
            have f8 : (o == 8) = false := by rw [beq_eq_false_iff_ne]; omega
            have f3 : (o == 3) = false := by rw [beq_eq_false_iff_ne]; omega
            have f4 : (o == 4) = false := by rw [beq_eq_false_iff_ne]; omega
            have f5 : (o == 5) = false := by rw [beq_eq_false_iff_ne]; omega
            have f6 : (o == 6) = false := by rw [beq_eq_false_iff_ne]; omega
            have f7 : (o == 7) = false := by rw [beq_eq_false_iff_ne]; omega
            clear hz0 hz1 e0' e1' h1 h3 h4 h5 h6 hzn
            go_enter Tryd.func24, Tryd.ntmps24
            go_wp2
            go_ret
            exact boolB_mk HF.out.symm ((Below.refl _ _).alloc (Nat.le_refl _) _)
end Go.Proofs.YthlnaejmglajeaaDoor
