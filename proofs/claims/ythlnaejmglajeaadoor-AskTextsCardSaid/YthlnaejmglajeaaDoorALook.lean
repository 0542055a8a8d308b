/- The walks of the parser's class, look. -/
import Derived.Test.YthlnaejmglajeaaDoorARow
import Derived.WalkMore
import Derived.ScopeJumps
namespace Go.Proofs.YthlnaejmglajeaaDoor
open Go.RowKit
set_option linter.unusedSimpArgs false
set_option linter.unusedVariables false

theorem u8_bd (b : UInt8) : (0 : Int) ≤ (b.toNat : Int) ∧ (b.toNat : Int) ≤ 255 := ⟨by omega, by have := b.toNat_lt; omega⟩
set_option maxHeartbeats 1000000 in
theorem class_any (b : UInt8) (w : World) : Calls Tryd.prog 31 #[.int .u8 (b.toNat : Int)] w fun e w' => e = .returned (.int .i64 (cls b : Int)) ∧ w' = w := by
  have hbd := u8_bd b
  have hc : cls b = if 97 ≤ b.toNat ∧ b.toNat ≤ 122 then 1 else if 48 ≤ b.toNat ∧ b.toNat ≤ 57 then 2 else if b.toNat = 32 then 3 else 0 := rfl
  obtain ⟨K, hK⟩ : ∃ K, K = cls b := ⟨_, rfl⟩
  obtain ⟨n, hn⟩ : ∃ n, n = b.toNat := ⟨_, rfl⟩
  rw [← hK] at hc ⊢
  rw [← hn] at hbd hc ⊢
  have HC := Lib.hid hc
  clear hc hK hn
  by_cases h1 : 97 ≤ n ∧ n ≤ 122
  · obtain ⟨g1, g2⟩ := h1
    have g1I : (97 : Int) ≤ n := by omega
    have g2I : (n : Int) ≤ 122 := by omega
    go_enter Tryd.func31, Tryd.ntmps31
    go_wp2
    go_ret
    exact ⟨ret_int (by rw [HC.out, if_pos ⟨g1, g2⟩]; rfl), rfl⟩
  · have h1' : (n : Int) < 97 ∨ ((97 : Int) ≤ n ∧ (122 : Int) < n) := by omega
    by_cases h2 : 48 ≤ n ∧ n ≤ 57
    · have hf := HC.out
      rw [if_neg h1, if_pos h2] at hf
      have HF := Lib.hid hf
      obtain ⟨g1, g2⟩ := h2
      have g1I : (48 : Int) ≤ n := by omega
      have g2I : (n : Int) ≤ 57 := by omega
      clear h1 hf
      go_enter Tryd.func31, Tryd.ntmps31
      go_wp2
      go_ret
      exact ⟨ret_int (by rw [HF.out]; rfl), rfl⟩
    · by_cases h3 : n = 32
      · have hf := HC.out
        rw [if_neg h1, if_neg h2, if_pos h3] at hf
        have HF := Lib.hid hf
        subst h3
        clear h1 h2 hf h1' HC
        go_enter Tryd.func31, Tryd.ntmps31
        go_wp2
        go_ret
        exact ⟨ret_int (by rw [HF.out]; rfl), rfl⟩
      · have hf := HC.out
        rw [if_neg h1, if_neg h2, if_neg h3] at hf
        have HF := Lib.hid hf
        have e3 : ((n : Int) == 32) = false := by rw [beq_eq_false_iff_ne]; omega
        have h2' : (n : Int) < 48 ∨ ((48 : Int) ≤ n ∧ (57 : Int) < n) := by omega
        clear h1 h2 h3 hf HC
        rcases h1' with g | ⟨g, g'⟩
        · rcases h2' with k | ⟨k, k'⟩
          all_goals
            go_enter Tryd.func31, Tryd.ntmps31
            go_wp2
            go_ret
            exact ⟨ret_int (by rw [HF.out]; rfl), rfl⟩
        · have k : (48 : Int) ≤ n := by omega
          have k' : (57 : Int) < n := by omega
          go_enter Tryd.func31, Tryd.ntmps31
          go_wp2
          go_ret
          exact ⟨ret_int (by rw [HF.out]; rfl), rfl⟩

/-- the parser at g: the text, the place, whether it is wrong -/
def PS (w : World) (g : Nat) (s : ByteArray) (st : St) : Prop :=
  ∃ k : Nat, k + st.r.length = s.size ∧ s.data.toList.drop k = st.r ∧ Blk w g 47 #[.string s, .int .i64 k, .bool st.bad]
theorem PS.only {w w' : World} {g : Nat} {s : ByteArray} {st : St} {S : List Nat} (h : PS w g s st) (ho : Only S w w') (hg : g ∉ S) : PS w' g s st := by
  obtain ⟨k, h1, h2, h3⟩ := h
  exact ⟨k, h1, h2, ho.blk h3 hg⟩
theorem PS.belowW {w w' : World} {g : Nat} {s : ByteArray} {st : St} (h : PS w g s st) (ho : Below w.heap.size w w') : PS w' g s st := h.only (Only.of_below ho []) (by simp)
end Go.Proofs.YthlnaejmglajeaaDoor
