/- The walk of the document's own queue: Get. -/
import Derived.Test.YtagopgoelgmibaaRefQ
import Derived.Deep.DeepCutAuto
namespace Go.Proofs.Ytagopgoelgmibaa
open Go.RowKit
set_option linter.unusedSimpArgs false

/-- what the document's Get leaves -/
def GotW (h cap m : Nat) (B : List Int) (w : World) (e : Ending) (w' : World) : Prop :=
  ∃ A c, e = .returned (.slice A m c) ∧ Reads w' w'.heap.size 1 A m ((B.take m).map (Value.int .u8)) ∧ IsW w' w.heap.size h cap (B.drop m) ∧ Only [h] w w'

theorem gotW_of {w w1 w2 : World} {h cap m : Nat} {B C : List Int} {A A1 A2 : Option Addr} {ca c1 c2 k : Nat} (hC : B.drop m = C) (hk : C.length = k) (hlt : h < w.heap.size) (h1 : Blk w h 35 #[.slice A B.length ca, .int .i64 cap])
    (ho1 : w1.ownsRow w.heap.size 5 1 (.slice A1 m c1) m ((B.take m).map (Value.int .u8))) (hg2 : w1.grownBy w2 none) (hb2 : Below w.heap.size w w2)
    (ho2 : w2.ownsRow w.heap.size 5 1 (.slice A2 k c2) k (C.map (Value.int .u8))) (h3 : B.length ≤ cap) (h4 : cap ≤ 65536) :
    GotW h cap m B w (.returned (.slice A1 m c1)) (w2.setCell ⟨h, 0, none⟩ (.slice A2 k c2)) := by
  subst hC hk
  have hb12 : Below w1.heap.size w1 w2 := (Below.refl _ _).grown hg2 (Nat.le_refl _) (by simp)
  have ho1' := own_only ho1 (Only.of_below hb12 []) (by simp)
  refine ⟨A1, c1, rfl, Reads.of_own (ownsRow_setCell_below ho1' (a := ⟨h, 0, none⟩) hlt _), ⟨A2, c2, ?_, ownsRow_setCell_below ho2 (a := ⟨h, 0, none⟩) hlt _, by rw [List.length_drop]; omega, h4⟩, (Only.of_below hb2 [h]).setCell (.inl (by simp)) _⟩
  exact (h1.below hb2 hlt).set_ 0 (.slice A2 (B.drop m).length c2)

set_option maxHeartbeats 2000000 in
theorem rget_any (w : World) (base h cap : Nat) (B : List Int) (n : Int) (m : Nat) (hm : (m : Int) = max 0 (min n B.length)) (hw : IsW w base h cap B) :
    Calls Try.prog 14 #[.pointer (some ⟨h, 0, none⟩), .int .i64 n] w (GotW h cap m B w) := by
  obtain ⟨i0, hi0, hz0, hz1, hz2⟩ := info_parts info_u8
  have hlt := hw.lt
  obtain ⟨A, ca, h1, h2, h3, h4⟩ := hw
  have c0 : w.cell? ⟨h, 0, none⟩ = some (.slice A B.length ca) := h1.cell 0
  have hcl := own_cap h2
  have H1 := hide h1
  have H2 := hide h2
  have HM := Lib.hid hm
  have hmB : m ≤ B.length := by omega
  clear h1 h2 hm
  go_enter Try.func14, Try.ntmps14
  go_upto_region 1 with fail
  go_cut [1] (fun s1 wx => s1 = .int .i64 (m : Int) ∧ wx = w)
  case first =>
    go_wp2_with fail
    all_goals
      go_meet
      exact ⟨by have := HM.out; congr 1; omega, rfl⟩
  case rest =>
    obtain ⟨rfl, hwx⟩ := hcut
    have hwx2 := hwx.symm
    subst hwx2
    have r1 := Reads.takeB (Reads.of_own (unhid_ H2)) hmB
    have hmc : m ≤ ca := by omega
    go_upto_region 3 with (at_builtin; refine wpList_append_any _ rfl (.const (.slice none 0 0)) (.tmp 19) _ rfl w.heap.size 5 i0 _ 1 1 Try.underlying28 hi0 hz0 hz1 hz2 rfl (by omega) (.slice none 0 0) 0 [] rfl (World.ownsRow_nil _ _ _ _) w.heap.size A m ca ((B.take m).map (Value.int .u8)) rfl r1 (By_one _) (by simp only [maxLen]; omega) (by omega) (Nat.le_refl _) ?_; intro v1 w1 hown1 hg1 hat1; simp only [Nat.zero_add, List.nil_append] at hown1; have hbw1 : Below w.heap.size w w1 := (Below.refl _ _).grown hg1 (Nat.le_refl _) (by simp [Value.ownBlock]); have d0 : w1.cell? ⟨h, 0, none⟩ = some (.slice A B.length ca) := (hbw1.cell (p := ⟨h, 0, none⟩) hlt).trans c0; have f0 : w1.frozen? ⟨h, 0, none⟩ = false := ((unhid_ H1).below hbw1 hlt).frozen 0; obtain ⟨A1, c1, rfl⟩ := own_slice hown1; have HO1 := hide hown1; have HB1 := hide hbw1; have HG1 := hide hg1; have HA1 := hide hat1; clear hown1 hbw1 hg1 hat1)
    by_cases hcm : ca = m
    · have hBm : B.length = m := by omega
      subst hcm
      have H1' := H1
      rw [hBm] at d0 c0 hcl
      have hc0 : ∀ (x : Nat), x - x = 0 := fun x => Nat.sub_self x
      go_wp2_with (at_builtin; refine wpList_append_any _ rfl (.const (.slice none 0 0)) (.tmp 27) _ rfl w.heap.size 5 i0 _ 1 1 Try.underlying28 hi0 hz0 hz1 hz2 rfl (by omega) (.slice none 0 0) 0 [] rfl (World.ownsRow_nil _ _ _ _) w.heap.size A 0 0 ([].map (Value.int .u8)) rfl Reads.none_ (By_one _) (by simp only [maxLen]; omega) (by omega) (unhid_ HB1).size ?_; intro v2 w2 hown2 hg2 hat2; simp only [Nat.zero_add, List.nil_append] at hown2; have hb2 : Below w.heap.size w w2 := (unhid_ HB1).grown hg2 (unhid_ HB1).size (by simp [Value.ownBlock]); obtain ⟨A2, c2, rfl⟩ := own_slice hown2; have d0 : w2.cell? ⟨h, 0, none⟩ = some (.slice A ca ca) := (hb2.cell (p := ⟨h, 0, none⟩) hlt).trans c0; have f0 : w2.frozen? ⟨h, 0, none⟩ = false := ((unhid_ H1).below hb2 hlt).frozen 0; have HO2 := hide hown2; have HB2 := hide hb2; have HG2 := hide hg2; have HA2 := hide hat2; clear hown2 hg2 hat2 hb2)
      go_ret
      exact gotW_of (List.drop_of_length_le (by omega)) rfl hlt (unhid_ H1) (unhid_ HO1) (unhid_ HG2) (unhid_ HB2) (unhid_ HO2) h3 h4
    · obtain ⟨ad, rfl⟩ : ∃ ad, A = some ad := by
        cases A with
        | none => rcases (unhid_ H2).2 with ⟨hv, _⟩ | ⟨g, cap', cur, hv, _⟩ <;> injection hv with _ _ h5 <;> first | omega | contradiction
        | some ad => exact ⟨ad, rfl⟩
      have R3 : Hid (Reads w1 w.heap.size 1 (some (ad.add m)) (B.length - m) ((B.drop m).map (Value.int .u8))) := hide (by
        have := (((Reads.of_own (unhid_ H2)).below (unhid_ HB1)).cut (k := m) (cap := ca) hmB hcl)
        rw [Nat.mul_one, ← List.map_drop, if_neg hcm] at this
        exact this)
      go_wp2_with (at_builtin; refine wpList_append_any _ rfl (.const (.slice none 0 0)) (.tmp 27) _ rfl w.heap.size 5 i0 _ 1 1 Try.underlying28 hi0 hz0 hz1 hz2 rfl (by omega) (.slice none 0 0) 0 [] rfl (World.ownsRow_nil _ _ _ _) w.heap.size (some (ad.add m)) (B.length - m) (ca - m) ((B.drop m).map (Value.int .u8)) rfl R3.out (By_one _) (by simp only [maxLen]; omega) (by omega) (unhid_ HB1).size ?_; intro v2 w2 hown2 hg2 hat2; simp only [Nat.zero_add, List.nil_append] at hown2; have hb2 : Below w.heap.size w w2 := (unhid_ HB1).grown hg2 (unhid_ HB1).size (by simp [Value.ownBlock]); obtain ⟨A2, c2, rfl⟩ := own_slice hown2; have d0 : w2.cell? ⟨h, 0, none⟩ = some (.slice (some ad) B.length ca) := (hb2.cell (p := ⟨h, 0, none⟩) hlt).trans c0; have f0 : w2.frozen? ⟨h, 0, none⟩ = false := ((unhid_ H1).below hb2 hlt).frozen 0; have HO2 := hide hown2; have HB2 := hide hb2; have HG2 := hide hg2; have HA2 := hide hat2; clear hown2 hg2 hat2 hb2)
      go_ret
      exact gotW_of rfl List.length_drop hlt (unhid_ H1) (unhid_ HO1) (unhid_ HG2) (unhid_ HB2) (unhid_ HO2) h3 h4
end Go.Proofs.Ytagopgoelgmibaa
