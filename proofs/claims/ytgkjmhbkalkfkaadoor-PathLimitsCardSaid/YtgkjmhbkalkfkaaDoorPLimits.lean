/- The walk of the law PathLimits. -/
import Derived.Test.YtgkjmhbkalkfkaaDoorPAwake
namespace Go.Proofs.YtgkjmhbkalkfkaaDoor
open Go.RowKit
set_option linter.unusedSimpArgs false

def rep (a s : ByteArray) : Nat → ByteArray
  | 0 => a
  | n + 1 => rep a s n ++ s
theorem rep_size (a s : ByteArray) : ∀ n, (rep a s n).size = a.size + n * s.size
  | 0 => by simp [rep]
  | n + 1 => by rw [rep, ByteArray.size_append, rep_size a s n]; rw [Nat.succ_mul]; omega
def word13 : ByteArray := ⟨#[47, 97, 98, 99, 100, 101, 102, 103, 104, 105, 106, 107, 108, 109]⟩
def word20 : ByteArray := ⟨#[47, 97, 98, 99, 100, 101, 102, 103, 104, 105, 106, 107, 108, 109, 110, 111, 112, 113, 114, 115, 116]⟩
def eight : ByteArray := rep ⟨#[]⟩ word13 8
theorem eight_size : eight.size = 112 := by rw [eight, rep_size]; rfl
/-- Split of a text of so many names -/
theorem split_len (s : ByteArray) (m : Int) (w : World) (n : Nat) (hm : w.cell? ⟨0, 0, none⟩ = some (.int .i64 m)) (h63 : s.size ≤ 9223372036854775807) (h : (splitP s).map (·.length) = some n) :
    Calls Tryd.prog 9 #[.string s] w fun e w' => (∃ A c, e = .returned (.tuple #[.slice A n c, .bool true])) ∧ Below w.heap.size w w' := by
  refine (split_any s m w hm h63).mono ?_
  rintro e w' ⟨hb, hor⟩
  refine ⟨?_, hb⟩
  rcases hor with ⟨h1, _⟩ | ⟨A, c, l, h1, _, rfl, _⟩
  · rw [h1] at h; cases h
  · rw [h1] at h
    injection h with h
    subst h
    exact ⟨A, c, rfl⟩
theorem split_none (s : ByteArray) (m : Int) (w : World) (hm : w.cell? ⟨0, 0, none⟩ = some (.int .i64 m)) (h63 : s.size ≤ 9223372036854775807) (h : splitP s = none) :
    Calls Tryd.prog 9 #[.string s] w fun e w' => e = .returned (.tuple #[.slice none 0 0, .bool false]) ∧ Below w.heap.size w w' := by
  refine (split_any s m w hm h63).mono ?_
  rintro e w' ⟨hb, hor⟩
  refine ⟨?_, hb⟩
  rcases hor with ⟨_, h1⟩ | ⟨A, c, l, h1, _⟩
  · exact h1
  · rw [h] at h1; cases h1
theorem lim1 : (splitP eight).map (·.length) = some 8 := by decide +kernel
theorem lim2 : splitP (eight ++ ⟨#[47, 120]⟩) = none := by decide +kernel
theorem lim3 : (splitP word20).map (·.length) = some 1 := by decide +kernel
theorem lim4 : splitP (word20 ++ ⟨#[117]⟩) = none := by decide +kernel
theorem lim5 : (splitP (rep eight slash 8)).map (·.length) = some 8 := by decide +kernel
theorem lim6 : splitP (rep eight slash 8 ++ slash) = none := by decide +kernel

theorem max_of {w w' : World} {m : Int} (hm : w.cell? ⟨0, 0, none⟩ = some (.int .i64 m)) (hb : Below w.heap.size w w') : w'.cell? ⟨0, 0, none⟩ = some (.int .i64 m) := (hb.cell (block_lt_of_cell hm)).trans hm
def lenOf : Value → Nat
  | .string s => s.size
  | _ => 0
set_option maxRecDepth 100000 in
set_option maxHeartbeats 2000000 in
theorem pathLimits_any (w : World) (m : Int) (hm : w.cell? ⟨0, 0, none⟩ = some (.int .i64 m)) : Calls Tryd.prog 5 #[] w (Yes w) := by
  have HM := Lib.hid hm
  clear hm
  go_enter Tryd.func5, Tryd.ntmps5
  go_wp2
  go_loop [1, 2] (fun s1 s2 => ∃ k : Nat, k ≤ 8 ∧ s2 = .int .i64 k ∧ s1 = .string (rep ⟨#[]⟩ word13 k)) (fun _ s2 => 8 - (intOf s2).toNat)
  case atStart => exact ⟨0, Nat.zero_le _, rfl, rfl⟩
  case round =>
    obtain ⟨k, hk, rfl, rfl⟩ := hrel
    have hsz : (rep ⟨#[]⟩ word13 k).size = 14 * k := by rw [rep_size]; simp [word13, ByteArray.size]; omega
    by_cases hlt : k < 8
    · have hadd : ∀ W : World, (Op.stringOp .add (rep ⟨#[]⟩ word13 k) word13).run Tryd.prog W = .ok (.string (rep ⟨#[]⟩ word13 (k + 1))) W := fun W => run_string_add W _ _ (by omega) (by decide)
      unfold word13 at hadd
      obtain ⟨R, hR⟩ : ∃ R, R = rep ⟨#[]⟩ word13 k := ⟨_, rfl⟩
      obtain ⟨R2, hR2⟩ : ∃ R2, R2 = rep ⟨#[]⟩ word13 (k + 1) := ⟨_, rfl⟩
      unfold word13 at hR hR2
      rw [← hR, ← hR2] at hadd
      rw [show rep ⟨#[]⟩ word13 k = R from hR.symm]
      have HR2 := Lib.hid hR2
      clear hR hR2 hsz
      go_wp2
      go_round
      case rel => exact ⟨k + 1, by omega, by go_num, by rw [HR2.out]; rfl⟩
      case measure => simp [intOf]; omega
    · obtain rfl : k = 8 := by omega
      obtain ⟨E, hE⟩ : ∃ E, E = eight := ⟨_, rfl⟩
      obtain ⟨E2, hE2⟩ : ∃ E2, E2 = E ++ (⟨#[47, 120]⟩ : ByteArray) := ⟨_, rfl⟩
      have hs8 : E.size = 112 := by rw [hE]; exact eight_size
      have h1 : (splitP E).map (·.length) = some 8 := by rw [hE]; exact lim1
      have h2 : splitP E2 = none := by rw [hE2, hE]; exact lim2
      have h2s : E2.size ≤ 9223372036854775807 := by rw [hE2, ByteArray.size_append, hs8]; decide
      have a2 : ∀ W : World, (Op.stringOp .add E ⟨#[47, 120]⟩).run Tryd.prog W = .ok (.string E2) W := fun W => by rw [hE2]; exact run_string_add W _ _ (by omega) (by decide)
      rw [show ((8 : Nat) : Int) = 8 from rfl, show rep ⟨#[]⟩ word13 8 = E from hE.symm]
      have HS1 := hide (split_len E m w 8 HM.out (by omega) h1)
      have HS2 := hide (fun W hm => split_none E2 m W hm h2s h2)
      have HE := Lib.hid hE
      clear hE hE2 h2s h1 h2 hsz
      go_wp2_with fail
      refine (unhid_ HS1).mono ?_
      rintro e w1 ⟨⟨A1, c1, rfl⟩, hb1⟩
      have HB1 := hide hb1
      clear hb1 HS1
      go_wp2_with fail
      refine ((unhid_ HS2) _ (max_of HM.out (unhid_ HB1))).mono ?_
      rintro e w2 ⟨rfl, hb2⟩
      have hb2' : Below w.heap.size w w2 := (unhid_ HB1).trans (hb2.mono (unhid_ HB1).size)
      have HB2 := hide hb2'
      clear hb2 hb2' HS2 a2
      have HS3 := hide (split_len word20 m w2 1 (max_of HM.out (unhid_ HB2)) (by decide) lim3)
      go_wp2_with fail
      refine (unhid_ HS3).mono ?_
      rintro e w3 ⟨⟨A3, c3, rfl⟩, hb3⟩
      have hb3' : Below w.heap.size w w3 := (unhid_ HB2).trans (hb3.mono (unhid_ HB2).size)
      have HB3 := hide hb3'
      clear hb3 hb3' HS3
      have a4 : ∀ W : World, (Op.stringOp .add word20 ⟨#[117]⟩).run Tryd.prog W = .ok (.string (word20 ++ ⟨#[117]⟩)) W := fun W => run_string_add W _ _ (by decide) (by decide)
      have HS4 := hide (split_none (word20 ++ ⟨#[117]⟩) m w3 (max_of HM.out (unhid_ HB3)) (by decide) lim4)
      obtain ⟨E4, hE4⟩ : ∃ E4, E4 = word20 ++ (⟨#[117]⟩ : ByteArray) := ⟨_, rfl⟩
      rw [← hE4] at a4 HS4
      unfold word20 at a4
      clear hE4
      go_wp2_with fail
      refine (unhid_ HS4).mono ?_
      rintro e w4 ⟨rfl, hb4⟩
      have hb4' : Below w.heap.size w w4 := (unhid_ HB3).trans (hb4.mono (unhid_ HB3).size)
      have HB4 := hide hb4'
      clear hb4 hb4' HS4 a4
      go_wp2
      go_loop [12] (fun s12 => ∃ k : Nat, k ≤ 8 ∧ s12 = .string (rep E slash k)) (fun s12 => 200 - lenOf s12)
      case atStart => exact ⟨0, Nat.zero_le _, rfl⟩
      case round =>
        obtain ⟨k, hk, rfl⟩ := hrel
        have hsz : (rep E slash k).size = 112 + k := by rw [rep_size, hs8]; simp [slash, ByteArray.size]
        by_cases hlt : k < 8
        · have hadd : ∀ W : World, (Op.stringOp .add (rep E slash k) ⟨#[47]⟩).run Tryd.prog W = .ok (.string (rep E slash (k + 1))) W := fun W => run_string_add W _ _ (by omega) (by decide)
          have hsz2 : (rep E slash (k + 1)).size = 113 + k := by rw [rep_size, hs8]; simp [slash, ByteArray.size]; omega
          obtain ⟨R, hR⟩ : ∃ R, R = rep E slash k := ⟨_, rfl⟩
          obtain ⟨R2, hR2⟩ : ∃ R2, R2 = rep E slash (k + 1) := ⟨_, rfl⟩
          rw [← hR, ← hR2] at hadd
          rw [← hR] at hsz ⊢
          rw [← hR2] at hsz2
          have hszI : (R.size : Int) < 120 := by omega
          have HR2 := Lib.hid hR2
          clear hR hR2
          go_wp2
          go_round
          case rel => exact ⟨k + 1, by omega, by rw [HR2.out]⟩
          case measure => show 200 - R2.size < 200 - R.size; omega
        · obtain rfl : k = 8 := by omega
          have h5 : (splitP (rep E slash 8)).map (·.length) = some 8 := by rw [HE.out]; exact lim5
          have h6 : splitP (rep E slash 8 ++ slash) = none := by rw [HE.out]; exact lim6
          obtain ⟨R, hR⟩ : ∃ R, R = rep E slash 8 := ⟨_, rfl⟩
          obtain ⟨R2, hR2⟩ : ∃ R2, R2 = R ++ slash := ⟨_, rfl⟩
          rw [← hR] at h5 h6 hsz ⊢
          rw [← hR2] at h6
          have h2s : R2.size ≤ 9223372036854775807 := by rw [hR2, ByteArray.size_append, hsz]; decide
          have a6 : ∀ W : World, (Op.stringOp .add R ⟨#[47]⟩).run Tryd.prog W = .ok (.string R2) W := fun W => by rw [hR2]; exact run_string_add W _ _ (by omega) (by decide)
          have HS5 := hide (split_len R m w4 8 (max_of HM.out (unhid_ HB4)) (by omega) h5)
          have HS6 := hide (fun W hm => split_none R2 m W hm h2s h6)
          have hszI : (120 : Int) ≤ (R.size : Int) := by omega
          clear hR hR2 h2s h5 h6
          go_wp2_with fail
          refine (unhid_ HS5).mono ?_
          rintro e w5 ⟨⟨A5, c5, rfl⟩, hb5⟩
          have hb5' : Below w.heap.size w w5 := (unhid_ HB4).trans (hb5.mono (unhid_ HB4).size)
          have HB5 := hide hb5'
          clear hb5 hb5' HS5
          go_wp2_with fail
          refine ((unhid_ HS6) _ (max_of HM.out (unhid_ HB5))).mono ?_
          rintro e w6 ⟨rfl, hb6⟩
          have hb6' : Below w.heap.size w w6 := (unhid_ HB5).trans (hb6.mono (unhid_ HB5).size)
          have HB6 := hide hb6'
          clear hb6 hb6' HS6 a6
          have HAW := hide (awake_any w6 m (max_of HM.out (unhid_ HB6)))
          go_wp2_with fail
          refine (unhid_ HAW).mono ?_
          rintro e w7 ⟨rfl, hb7⟩
          go_wp2
          go_ret
          exact yes_mk rfl ((unhid_ HB6).trans (hb7.mono (unhid_ HB6).size))
end Go.Proofs.YtgkjmhbkalkfkaaDoor
