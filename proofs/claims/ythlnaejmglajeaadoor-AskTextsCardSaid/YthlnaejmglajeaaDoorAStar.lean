/- The walk of the parser's star. -/
import Derived.Test.YthlnaejmglajeaaDoorAOne
namespace Go.Proofs.YthlnaejmglajeaaDoor
open Go.RowKit
set_option linter.unusedSimpArgs false
set_option linter.unusedVariables false

theorem skipB_len : ∀ r : List UInt8, (skipB r).length ≤ r.length
  | [] => Nat.le_refl _
  | b :: l => by
    rw [skipB]
    split
    · have := skipB_len l; simp only [List.length_cons]; omega
    · exact Nat.le_refl _
theorem takes_len {t : List UInt8} {st : St} (h : takesB t st = true) : (takesS t st).r.length + t.length ≤ st.r.length := by
  have h' := h
  simp only [takesB, Bool.and_eq_true, beq_iff_eq, Bool.not_eq_true'] at h'
  have h1 := tok_len st.r
  rw [h'.2.1] at h1
  have h2 := skipB_len st.r
  rw [takesS, if_neg (by rw [h'.1]; decide), if_pos h]
  simp only [List.length_drop]
  omega
theorem takesS_len (t : List UInt8) (st : St) : (takesS t st).r.length ≤ st.r.length := by
  rw [takesS]
  split
  · exact Nat.le_refl _
  · have := skipB_len st.r
    split
    · simp only [List.length_drop]; omega
    · exact this
theorem PS.at_ {w : World} {g : Nat} {s : ByteArray} {st : St} (h : PS w g s st) : atOf g w + st.r.length = s.size := by
  obtain ⟨k, hk, hd, hb⟩ := h
  rw [atOf_blk hb]
  exact hk
theorem only_far {w a a' : World} {g b : Nat} (h : Only [g] w a) (h2 : Only [b] a a') (hb : w.heap.size ≤ b) : Only [g] w a' :=
  ⟨h2.os.trans h.os, h2.tape.trans h.tape, h2.output.trans h.output, Nat.le_trans h.size h2.size, fun k hk hn => (h2.block k (Nat.lt_of_lt_of_le hk h.size) (by simp; omega)).trans (h.block k hk hn)⟩
theorem size3 (w : World) (b : Nat) (u0 u1 u2 : Value) : (((w.setCell ⟨b, 0, none⟩ u0).setCell ⟨b, 1, none⟩ u1).setCell ⟨b, 2, none⟩ u2).heap.size = w.heap.size := by simp [World.setCell]
/-- the question q lies in the box b, its kids in blocks of P -/
def InBox (w : World) (b : Nat) (P : Nat → Prop) (q : QT) : Prop := ∃ A c, Blk w b stepT #[.int .i64 q.op, .int .i64 q.n, .slice A q.kids.length c] ∧ RP w P q A c
/-- what a star's rounds keep -/
def StarR (g : Nat) (s : ByteArray) (w : World) (b3 : Nat) (r : QT × St) (wr : World) : Prop :=
  ∃ (q : QT) (st : St) (f : Nat), InBox wr b3 (fun b => w.heap.size + 1 ≤ b ∧ b ≠ b3) q ∧ PS wr g s st ∧ Only [g] w wr ∧ b3 < wr.heap.size ∧ Blk wr w.heap.size stepT #[.int .i64 0, .int .i64 0, .slice none 0 0] ∧ r = starLoop f q st ∧ st.r.length < f

set_option maxHeartbeats 2000000 in
theorem star_any (or : St → QT × St) (w : World) (g : Nat) (s : ByteArray) (st : St) (hp : PS w g s st) (hs : s.size ≤ 200)
    (hone : ∀ w1, PS w1 g s st → Only [g] w w1 → Calls Tryd.prog 46 #[.pointer (some ⟨g, 0, none⟩)] w1 (QRes g s (oneF or st) w1)) :
    Calls Tryd.prog 40 #[.pointer (some ⟨g, 0, none⟩)] w (QRes g s (starF or st) w) := by
  have HP0 := hide (hp.belowW ((Below.refl _ _).alloc (Nat.le_refl _) (.cells #[.int .i64 0, .int .i64 0, .slice none 0 0] stepT)))
  have HO0 := hide (((Only.refl [g] w).alloc (.cells #[.int .i64 0, .int .i64 0, .slice none 0 0] stepT)))
  have HONE := hide ((hone _ (unhid_ HP0) (unhid_ HO0)))
  have hgw := ps_lt hp
  have HSF := Lib.hid (show starF or st = starLoop ((oneF or st).2.r.length + 1) (oneF or st).1 (oneF or st).2 from rfl)
  obtain ⟨R, hR⟩ : ∃ R, R = starF or st := ⟨_, rfl⟩
  have hsf := HSF.out
  rw [← hR] at hsf ⊢
  obtain ⟨r1, hr1⟩ : ∃ r1, r1 = oneF or st := ⟨_, rfl⟩
  rw [← hr1] at hsf HONE
  obtain ⟨⟨qo, qn, qk⟩, st1⟩ := r1
  have HS1 := Lib.hid hsf
  clear hone hp HSF hsf hr1 hR
  go_enter Tryd.func40, Tryd.ntmps40
  go_wp2_with fail
  refine (unhid_ HONE).mono ?_
  rintro e w1 ⟨A, c, rfl, hrp, hp1, ho1⟩
  have hs0 := ho1.size
  simp only [World.size_alloc] at hs0
  have hz1 := ho1.blk (zbox w) (by simp; omega)
  have hstart : StarR g s w w1.heap.size R (w1.alloc (.cells #[.int .i64 qo, .int .i64 qn, .slice A qk.length c] stepT)) := by
    refine ⟨.mk qo qn qk, st1, st1.r.length + 1, ⟨A, c, Blk.new _ _ _, hrp.keep fun b hb hlt => ⟨Below.heap_alloc _ _ _ hlt, ?_, ?_⟩⟩, hp1.belowW ((Below.refl _ _).alloc (Nat.le_refl _) _), ((unhid_ HO0).trans ho1).alloc _, by simp, hz1.alloc _, HS1.out, Nat.lt_succ_self _⟩
    · have : (w.alloc (.cells #[.int .i64 0, .int .i64 0, .slice none 0 0] stepT)).heap.size ≤ b := hb
      simpa using this
    · omega
  have HST := hide hstart
  clear hstart hz1 hrp hp1 ho1 HONE HP0 HO0 HS1
  simp only [QT.op, QT.n, QT.kids]
  go_wp2_with fail
  go_loopw [6, 7] (fun _ _ wr => StarR g s w w1.heap.size R wr) (fun _ _ wr => s.size - atOf g wr)
  case atStart => exact unhid_ HST
  case round =>
    obtain ⟨⟨o2, n2, k2⟩, st2, f, ⟨A2, c2, hbx, hrp⟩, hp2, ho2, hb3, hz2, hr, hf⟩ := hrel
    have hbx : Blk wr w1.heap.size stepT #[.int .i64 o2, .int .i64 n2, .slice A2 k2.length c2] := hbx
    have HT := hide (takes_any [42] (by simp) (by decide) wr g s st2 hp2 hs)
    have hat := hp2.at_
    have HAT := Lib.hid hat
    have hlen := @takes_len [42] st2
    obtain ⟨f, rfl⟩ : ∃ f', f = f' + 1 := ⟨f - 1, by omega⟩
    rw [starLoop] at hr
    obtain ⟨b, hb⟩ : ∃ b, takesB [42] st2 = b := ⟨_, rfl⟩
    obtain ⟨st3, hst3⟩ : ∃ x, x = takesS [42] st2 := ⟨_, rfl⟩
    rw [hb] at HT hr hlen
    rw [← hst3] at HT hr hlen
    have HBX := hide hbx
    have HRP := hide hrp
    have HO2 := hide ho2
    have HZ2 := hide hz2
    have hne3 : w1.heap.size ∉ [g] := by simp; omega
    have hne0 : w.heap.size ∉ [g] := by simp; omega
    have hne3' : g ∉ [w1.heap.size] := by simp; omega
    have hne0' : g ∉ [w.heap.size] := by simp; omega
    cases b with
    | true =>
      have hl3 : st3.r.length + 1 ≤ st2.r.length := hlen rfl
      rw [if_pos rfl] at hr
      have HR := Lib.hid hr
      clear hr hlen hb hst3 hbx hrp ho2 hz2 hp2 hat
      go_wp2_with fail
      refine (unhid_ HT).mono ?_
      rintro e w2 ⟨rfl, hp3, ho3⟩
      have hbx3 := ho3.blk (unhid_ HBX) hne3
      have hz3 := ho3.blk (unhid_ HZ2) hne0
      have hsz3 := ho3.size
      obtain ⟨c0, c1, c2'⟩ := box_facts hbx3
      have f0 := hbx3.frozen 0
      have f1 := hbx3.frozen 1
      have f2 := hbx3.frozen 2
      have HBX3 := hide hbx3
      have HZ3 := hide hz3
      have HP3 := hide hp3
      have HO3 := hide ho3
      have hsz3' : w1.heap.size < w2.heap.size := by omega
      clear hbx3 hz3 hp3 ho3 HT HBX HZ2
      go_wp2_with fail
      have hon := only3 w2 w1.heap.size (.int .i64 5) (.int .i64 0) (.slice (some ⟨w2.heap.size, 0, none⟩) 1 1)
      have hsW := size3 w2 w1.heap.size (.int .i64 5) (.int .i64 0) (.slice (some ⟨w2.heap.size, 0, none⟩) 1 1)
      have hbW := set3 (u0 := .int .i64 5) (u1 := .int .i64 0) (u2 := .slice (some ⟨w2.heap.size, 0, none⟩) 1 1) (unhid_ HBX3)
      have hpW := (unhid_ HP3).only hon hne3'
      have hzW := hon.blk (unhid_ HZ3) (by simp; omega)
      have hoW := only_far ((unhid_ HO2).trans (unhid_ HO3)) hon (by omega)
      have hkW : ∀ b, b < w2.heap.size → b ≠ w1.heap.size → ((((w2.setCell ⟨w1.heap.size, 0, none⟩ (.int .i64 5)).setCell ⟨w1.heap.size, 1, none⟩ (.int .i64 0)).setCell ⟨w1.heap.size, 2, none⟩ (.slice (some ⟨w2.heap.size, 0, none⟩) 1 1))).heap[b]? = w2.heap[b]? := fun b h1 h2 => hon.block b h1 (by simpa using h2)
      clear hon
      generalize hWW : (((w2.setCell ⟨w1.heap.size, 0, none⟩ (.int .i64 5)).setCell ⟨w1.heap.size, 1, none⟩ (.int .i64 0)).setCell ⟨w1.heap.size, 2, none⟩ (.slice (some ⟨w2.heap.size, 0, none⟩) 1 1)) = Ws at hsW hbW hpW hzW hoW hkW ⊢
      clear hWW
      have hrel' : StarR g s w w1.heap.size R (Ws.alloc (.cells #[.int .i64 o2, .int .i64 n2, .slice A2 k2.length c2] stepT)) := by
        refine ⟨.mk 5 0 [.mk o2 n2 k2], st3, f, ⟨some ⟨w2.heap.size, 0, none⟩, 1, hbW.alloc _, .mk 5 0 [.mk o2 n2 k2] _ 1 (fun _ => A2) (fun _ => c2) (by simp) (by decide) (fun _ => ⟨_, rfl, ⟨by show w.heap.size + 1 ≤ w2.heap.size; omega, by show w2.heap.size ≠ w1.heap.size; omega⟩, fun i x hx => ?_⟩) (fun i x hx => ?_)⟩, hpW.belowW ((Below.refl _ _).alloc (Nat.le_refl _) _), hoW.alloc _, by simp; omega, hzW.alloc _, HR.out, by omega⟩
        · obtain rfl : i = 0 := by have := (List.getElem?_eq_some_iff.1 hx).1; simpa using this
          obtain rfl : QT.mk o2 n2 k2 = x := by simpa using hx
          have hnb := Blk.new Ws stepT #[.int .i64 o2, .int .i64 n2, .slice A2 k2.length c2]
          rw [hsW] at hnb
          obtain ⟨d0, d1, d2⟩ := box_facts hnb
          exact ⟨d0, d1, d2⟩
        · obtain rfl : QT.mk o2 n2 k2 = x := by
            have hi : i = 0 := by have := (List.getElem?_eq_some_iff.1 hx).1; simpa using this
            subst hi
            simpa using hx
          refine (unhid_ HRP).keep fun b hb hlt => ⟨?_, hb⟩
          rw [Below.heap_alloc _ _ _ (by omega), hkW b (by omega) hb.2]
          exact (unhid_ HO3).block b hlt (by simp; have := hb.1; omega)
      have hps' := (hpW.belowW ((Below.refl _ _).alloc (Nat.le_refl _) (.cells #[.int .i64 o2, .int .i64 n2, .slice A2 k2.length c2] stepT))).at_
      go_roundw
      case rel => exact hrel'
      case measure =>
        have hm : s.size - atOf g (Ws.alloc (.cells #[.int .i64 o2, .int .i64 n2, .slice A2 k2.length c2] stepT)) < s.size - atOf g wr := by
          have := HAT.out
          have hps'' : atOf g (Ws.alloc (.cells #[.int .i64 o2, .int .i64 n2, .slice A2 k2.length c2] stepT)) + st3.r.length = s.size := hps'
          omega
        exact hm
    | false =>
      rw [if_neg (by decide)] at hr
      have HR := Lib.hid hr
      clear hr hlen hb hst3 hbx hrp ho2 hz2 hp2 hat
      go_wp2_with fail
      refine (unhid_ HT).mono ?_
      rintro e w2 ⟨rfl, hp3, ho3⟩
      have hbx3 := ho3.blk (unhid_ HBX) hne3
      have hz3 := ho3.blk (unhid_ HZ2) hne0
      have hsz3 := ho3.size
      obtain ⟨c0, c1, c2'⟩ := box_facts hbx3
      have f0 := hz3.frozen 0
      have f1 := hz3.frozen 1
      have f2 := hz3.frozen 2
      obtain ⟨z0, z1, z2⟩ := box_facts hz3
      have HZ3 := hide hz3
      have HP3 := hide hp3
      have HO3 := hide ho3
      clear hbx3 hz3 hp3 ho3 HT HBX HZ2
      go_wp2_with fail
      have hon := only3 w2 w.heap.size (.int .i64 o2) (.int .i64 n2) (.slice A2 k2.length c2)
      refine bodyPost_ret (v := .agg #[.int .i64 o2, .int .i64 n2, .slice A2 k2.length c2]) (results_cell Tryd.results40 rfl (load3 (set3 (unhid_ HZ3)))) rfl ?_
      rw [HR.out]
      refine ⟨A2, c2, rfl, (unhid_ HRP).keep fun b hb hlt => ⟨?_, ?_⟩, (unhid_ HP3).only hon hne0', ?_⟩
      · rw [hon.block b (by omega) (by simp; have := hb.1; omega)]
        exact (unhid_ HO3).block b hlt (by simp; have := hb.1; omega)
      · show w.heap.size ≤ b
        have := hb.1
        omega
      · exact only_far ((unhid_ HO2).trans (unhid_ HO3)) hon (Nat.le_refl _)
end Go.Proofs.YthlnaejmglajeaaDoor
