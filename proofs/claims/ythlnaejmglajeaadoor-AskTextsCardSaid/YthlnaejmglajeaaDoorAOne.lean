/- The walk of the parser's one. -/
import Derived.Test.YthlnaejmglajeaaDoorAP0
namespace Go.Proofs.YthlnaejmglajeaaDoor
open Go.RowKit
set_option linter.unusedSimpArgs false
set_option linter.unusedVariables false

theorem qres_leaf {g : Nat} {s : ByteArray} {r : QT × St} {w w' : World} {o n : Int} {st : St} (hr : r = (.mk o n [], st)) (h1 : PS w' g s st) (h2 : Only [g] w w') : QRes g s r w (.returned (.agg #[.int .i64 o, .int .i64 n, .slice none 0 0])) w' := by
  subst hr
  exact ⟨none, 0, rfl, RP.leaf _ _ _ _ _ _ (Nat.zero_le _), h1, h2⟩
theorem zbox (w : World) : Blk (w.alloc (.cells #[.int .i64 0, .int .i64 0, .slice none 0 0] stepT)) w.heap.size stepT #[.int .i64 0, .int .i64 0, .slice none 0 0] := Blk.new _ _ _
theorem ps_lt {w : World} {g : Nat} {s : ByteArray} {st : St} (h : PS w g s st) : g < w.heap.size := by
  obtain ⟨k, _, _, hb⟩ := h
  exact hb.lt
theorem only_box {w w1 w2 : World} {g b : Nat} {o : Obj} (h : Only [g] (w.alloc o) w1) (h2 : Only [b] w1 w2) (hb : b = w.heap.size) : Only [g] w w2 :=
  ⟨h2.os.trans (((Only.refl [g] w).alloc o).trans h).os, h2.tape.trans (((Only.refl [g] w).alloc o).trans h).tape, h2.output.trans (((Only.refl [g] w).alloc o).trans h).output, Nat.le_trans (((Only.refl [g] w).alloc o).trans h).size h2.size,
    fun k hk hn => (h2.block k (Nat.lt_of_lt_of_le hk (((Only.refl [g] w).alloc o).trans h).size) (by simp; omega)).trans ((((Only.refl [g] w).alloc o).trans h).block k hk hn)⟩
theorem box_facts {w : World} {b : Nat} {v0 v1 v2 : Value} (h : Blk w b stepT #[v0, v1, v2]) : w.cell? ⟨b, 0, none⟩ = some v0 ∧ w.cell? ⟨b, 1, none⟩ = some v1 ∧ w.cell? ⟨b, 2, none⟩ = some v2 := by
  have c0 := h.cell 0
  have c1 := h.cell 1
  have c2 := h.cell 2
  simp only [List.getElem?_toArray, List.getElem?_cons_zero, List.getElem?_cons_succ] at c0 c1 c2
  exact ⟨c0, c1, c2⟩

set_option maxHeartbeats 2000000 in
theorem one_up (or : St → QT × St) (w : World) (g : Nat) (s : ByteArray) (st0 : St) (hp : PS w g s st0) (hs : s.size ≤ 200) (hv : EV w) (hg1 : 4 ≠ g) (hg2 : 5 ≠ g) (ht : takesB wUp (st0) = true) :
    Calls Tryd.prog 46 #[.pointer (some ⟨g, 0, none⟩)] w (QRes g s (oneF or st0) w) := by
  have hf : oneF or st0 = (QT.mk 1 0 [], takesS wUp (st0)) := by rw [oneF, if_pos ht]
  have HT0 := hide (fun (w1 : World) (h : PS w1 g s (st0)) => takes_any wUp (by simp [wUp]) (by decide) w1 g s (st0) h hs)
  rw [ht] at HT0
  obtain ⟨st1, hst1⟩ : ∃ x, x = takesS wUp st0 := ⟨_, rfl⟩
  simp only [← hst1] at *
  have HF := Lib.hid hf
  have HV := hide (fun (w1 : World) (h : Only [g] w w1) => hv.only h (by simpa using hg1) (by simpa using hg2))
  have HP0 := hide (hp.belowW ((Below.refl _ _).alloc (Nat.le_refl _) (.cells #[.int .i64 0, .int .i64 0, .slice none 0 0] stepT)))
  have HO0 := hide (Only.refl [g] (w.alloc (.cells #[.int .i64 0, .int .i64 0, .slice none 0 0] stepT)))
  have hgw := ps_lt hp
  have hgne : w.heap.size ∉ [g] := by simp; omega
  have hgne2 : g ∉ [w.heap.size] := by simp; omega
  clear hf hp hv ht
  go_enter Tryd.func46, Tryd.ntmps46
  go_wp2_with fail
  refine ((unhid_ HT0) _ (unhid_ HP0)).mono ?_
  rintro e w1 ⟨rfl, hp1, ho1⟩
  have HP1 := hide hp1
  have HO1 := hide ((unhid_ HO0).trans ho1)
  clear hp1 ho1 HT0 HP0 HO0
  have hblk := (unhid_ HO1).blk (zbox w) hgne
  obtain ⟨c0, c1, c2⟩ := box_facts hblk
  have f0 := hblk.frozen 0
  have f1 := hblk.frozen 1
  have f2 := hblk.frozen 2
  have hsz := (unhid_ HO1).size
  simp only [World.size_alloc] at hsz
  have HBLK := hide hblk
  clear hblk
  go_wp2_with fail
  exact bodyPost_ret (v := .agg #[.int .i64 1, .int .i64 0, .slice none 0 0]) (results_cell Tryd.results46 rfl (load3 (set3 (unhid_ HBLK)))) rfl (qres_leaf HF.out ((unhid_ HP1).only (only3 _ _ _ _ _) hgne2) (only_box (unhid_ HO1) (only3 _ _ _ _ _) rfl))

set_option maxHeartbeats 2000000 in
theorem one_down (or : St → QT × St) (w : World) (g : Nat) (s : ByteArray) (st0 : St) (hp : PS w g s st0) (hs : s.size ≤ 200) (hv : EV w) (hg1 : 4 ≠ g) (hg2 : 5 ≠ g) (h0 : takesB wUp (st0) = false) (ht : takesB wDown (takesS wUp (st0)) = true) :
    Calls Tryd.prog 46 #[.pointer (some ⟨g, 0, none⟩)] w (QRes g s (oneF or st0) w) := by
  have hf : oneF or st0 = (QT.mk 2 0 [], takesS wDown (takesS wUp (st0))) := by rw [oneF, if_neg (by rw [h0]; decide), oneD, if_pos ht]
  have HT0 := hide (fun (w1 : World) (h : PS w1 g s (st0)) => takes_any wUp (by simp [wUp]) (by decide) w1 g s (st0) h hs)
  rw [h0] at HT0
  have HT1 := hide (fun (w1 : World) (h : PS w1 g s (takesS wUp (st0))) => takes_any wDown (by simp [wDown]) (by decide) w1 g s (takesS wUp (st0)) h hs)
  rw [ht] at HT1
  obtain ⟨st1, hst1⟩ : ∃ x, x = takesS wUp st0 := ⟨_, rfl⟩
  simp only [← hst1] at *
  obtain ⟨st2, hst2⟩ : ∃ x, x = takesS wDown st1 := ⟨_, rfl⟩
  simp only [← hst2] at *
  have HF := Lib.hid hf
  have HV := hide (fun (w1 : World) (h : Only [g] w w1) => hv.only h (by simpa using hg1) (by simpa using hg2))
  have HP0 := hide (hp.belowW ((Below.refl _ _).alloc (Nat.le_refl _) (.cells #[.int .i64 0, .int .i64 0, .slice none 0 0] stepT)))
  have HO0 := hide (Only.refl [g] (w.alloc (.cells #[.int .i64 0, .int .i64 0, .slice none 0 0] stepT)))
  have hgw := ps_lt hp
  have hgne : w.heap.size ∉ [g] := by simp; omega
  have hgne2 : g ∉ [w.heap.size] := by simp; omega
  clear hf hp hv h0 ht
  go_enter Tryd.func46, Tryd.ntmps46
  go_wp2_with fail
  refine ((unhid_ HT0) _ (unhid_ HP0)).mono ?_
  rintro e w1 ⟨rfl, hp1, ho1⟩
  have HP1 := hide hp1
  have HO1 := hide ((unhid_ HO0).trans ho1)
  clear hp1 ho1 HT0 HP0 HO0
  go_wp2_with fail
  refine ((unhid_ HT1) _ (unhid_ HP1)).mono ?_
  rintro e w2 ⟨rfl, hp2, ho2⟩
  have HP2 := hide hp2
  have HO2 := hide ((unhid_ HO1).trans ho2)
  clear hp2 ho2 HT1 HP1 HO1
  have hblk := (unhid_ HO2).blk (zbox w) hgne
  obtain ⟨c0, c1, c2⟩ := box_facts hblk
  have f0 := hblk.frozen 0
  have f1 := hblk.frozen 1
  have f2 := hblk.frozen 2
  have hsz := (unhid_ HO2).size
  simp only [World.size_alloc] at hsz
  have HBLK := hide hblk
  clear hblk
  go_wp2_with fail
  exact bodyPost_ret (v := .agg #[.int .i64 2, .int .i64 0, .slice none 0 0]) (results_cell Tryd.results46 rfl (load3 (set3 (unhid_ HBLK)))) rfl (qres_leaf HF.out ((unhid_ HP2).only (only3 _ _ _ _ _) hgne2) (only_box (unhid_ HO2) (only3 _ _ _ _ _) rfl))

set_option maxHeartbeats 2000000 in
theorem one_live (or : St → QT × St) (w : World) (g : Nat) (s : ByteArray) (st0 : St) (hp : PS w g s st0) (hs : s.size ≤ 200) (hv : EV w) (hg1 : 4 ≠ g) (hg2 : 5 ≠ g) (h0 : takesB wUp (st0) = false) (h1 : takesB wDown (takesS wUp (st0)) = false) (ht : takesB wLive (takesS wDown (takesS wUp (st0))) = true) :
    Calls Tryd.prog 46 #[.pointer (some ⟨g, 0, none⟩)] w (QRes g s (oneF or st0) w) := by
  have hf : oneF or st0 = (QT.mk 8 0 [], takesS wLive (takesS wDown (takesS wUp (st0)))) := by rw [oneF, if_neg (by rw [h0]; decide), oneD, if_neg (by rw [h1]; decide), oneV, if_pos ht]
  have HT0 := hide (fun (w1 : World) (h : PS w1 g s (st0)) => takes_any wUp (by simp [wUp]) (by decide) w1 g s (st0) h hs)
  rw [h0] at HT0
  have HT1 := hide (fun (w1 : World) (h : PS w1 g s (takesS wUp (st0))) => takes_any wDown (by simp [wDown]) (by decide) w1 g s (takesS wUp (st0)) h hs)
  rw [h1] at HT1
  have HT2 := hide (fun (w1 : World) (h : PS w1 g s (takesS wDown (takesS wUp (st0)))) => takes_any wLive (by simp [wLive]) (by decide) w1 g s (takesS wDown (takesS wUp (st0))) h hs)
  rw [ht] at HT2
  obtain ⟨st1, hst1⟩ : ∃ x, x = takesS wUp st0 := ⟨_, rfl⟩
  simp only [← hst1] at *
  obtain ⟨st2, hst2⟩ : ∃ x, x = takesS wDown st1 := ⟨_, rfl⟩
  simp only [← hst2] at *
  obtain ⟨st3, hst3⟩ : ∃ x, x = takesS wLive st2 := ⟨_, rfl⟩
  simp only [← hst3] at *
  have HF := Lib.hid hf
  have HV := hide (fun (w1 : World) (h : Only [g] w w1) => hv.only h (by simpa using hg1) (by simpa using hg2))
  have HP0 := hide (hp.belowW ((Below.refl _ _).alloc (Nat.le_refl _) (.cells #[.int .i64 0, .int .i64 0, .slice none 0 0] stepT)))
  have HO0 := hide (Only.refl [g] (w.alloc (.cells #[.int .i64 0, .int .i64 0, .slice none 0 0] stepT)))
  have hgw := ps_lt hp
  have hgne : w.heap.size ∉ [g] := by simp; omega
  have hgne2 : g ∉ [w.heap.size] := by simp; omega
  clear hf hp hv h0 h1 ht
  go_enter Tryd.func46, Tryd.ntmps46
  go_wp2_with fail
  refine ((unhid_ HT0) _ (unhid_ HP0)).mono ?_
  rintro e w1 ⟨rfl, hp1, ho1⟩
  have HP1 := hide hp1
  have HO1 := hide ((unhid_ HO0).trans ho1)
  clear hp1 ho1 HT0 HP0 HO0
  go_wp2_with fail
  refine ((unhid_ HT1) _ (unhid_ HP1)).mono ?_
  rintro e w2 ⟨rfl, hp2, ho2⟩
  have HP2 := hide hp2
  have HO2 := hide ((unhid_ HO1).trans ho2)
  clear hp2 ho2 HT1 HP1 HO1
  go_wp2_with fail
  refine ((unhid_ HT2) _ (unhid_ HP2)).mono ?_
  rintro e w3 ⟨rfl, hp3, ho3⟩
  have HP3 := hide hp3
  have HO3 := hide ((unhid_ HO2).trans ho3)
  clear hp3 ho3 HT2 HP2 HO2
  have hblk := (unhid_ HO3).blk (zbox w) hgne
  obtain ⟨c0, c1, c2⟩ := box_facts hblk
  have f0 := hblk.frozen 0
  have f1 := hblk.frozen 1
  have f2 := hblk.frozen 2
  have hsz := (unhid_ HO3).size
  simp only [World.size_alloc] at hsz
  have HBLK := hide hblk
  clear hblk
  go_wp2_with fail
  exact bodyPost_ret (v := .agg #[.int .i64 8, .int .i64 0, .slice none 0 0]) (results_cell Tryd.results46 rfl (load3 (set3 (unhid_ HBLK)))) rfl (qres_leaf HF.out ((unhid_ HP3).only (only3 _ _ _ _ _) hgne2) (only_box (unhid_ HO3) (only3 _ _ _ _ _) rfl))

set_option maxHeartbeats 2000000 in
theorem one_kind (or : St → QT × St) (w : World) (g : Nat) (s : ByteArray) (st0 : St) (hp : PS w g s st0) (hs : s.size ≤ 200) (hv : EV w) (hg1 : 4 ≠ g) (hg2 : 5 ≠ g) (h0 : takesB wUp (st0) = false) (h1 : takesB wDown (takesS wUp (st0)) = false) (h2 : takesB wLive (takesS wDown (takesS wUp (st0))) = false) (ht : takesB wKind (takesS wLive (takesS wDown (takesS wUp (st0)))) = true) :
    Calls Tryd.prog 46 #[.pointer (some ⟨g, 0, none⟩)] w (QRes g s (oneF or st0) w) := by
  have hf : oneF or st0 = (QT.mk 3 (numF (takesS wKind (takesS wLive (takesS wDown (takesS wUp (st0)))))).1 [], (numF (takesS wKind (takesS wLive (takesS wDown (takesS wUp (st0)))))).2) := by rw [oneF, if_neg (by rw [h0]; decide), oneD, if_neg (by rw [h1]; decide), oneV, if_neg (by rw [h2]; decide), oneK, if_pos ht]
  have HT0 := hide (fun (w1 : World) (h : PS w1 g s (st0)) => takes_any wUp (by simp [wUp]) (by decide) w1 g s (st0) h hs)
  rw [h0] at HT0
  have HT1 := hide (fun (w1 : World) (h : PS w1 g s (takesS wUp (st0))) => takes_any wDown (by simp [wDown]) (by decide) w1 g s (takesS wUp (st0)) h hs)
  rw [h1] at HT1
  have HT2 := hide (fun (w1 : World) (h : PS w1 g s (takesS wDown (takesS wUp (st0)))) => takes_any wLive (by simp [wLive]) (by decide) w1 g s (takesS wDown (takesS wUp (st0))) h hs)
  rw [h2] at HT2
  have HT3 := hide (fun (w1 : World) (h : PS w1 g s (takesS wLive (takesS wDown (takesS wUp (st0))))) => takes_any wKind (by simp [wKind]) (by decide) w1 g s (takesS wLive (takesS wDown (takesS wUp (st0)))) h hs)
  rw [ht] at HT3
  have HN := hide (fun (w1 : World) (h : PS w1 g s (takesS wKind (takesS wLive (takesS wDown (takesS wUp (st0)))))) (hv1 : EV w1) => number_any w1 g s (takesS wKind (takesS wLive (takesS wDown (takesS wUp (st0))))) h hs hv1 hg1 hg2)
  obtain ⟨st1, hst1⟩ : ∃ x, x = takesS wUp st0 := ⟨_, rfl⟩
  simp only [← hst1] at *
  obtain ⟨st2, hst2⟩ : ∃ x, x = takesS wDown st1 := ⟨_, rfl⟩
  simp only [← hst2] at *
  obtain ⟨st3, hst3⟩ : ∃ x, x = takesS wLive st2 := ⟨_, rfl⟩
  simp only [← hst3] at *
  obtain ⟨st4, hst4⟩ : ∃ x, x = takesS wKind st3 := ⟨_, rfl⟩
  simp only [← hst4] at *
  have HF := Lib.hid hf
  have HV := hide (fun (w1 : World) (h : Only [g] w w1) => hv.only h (by simpa using hg1) (by simpa using hg2))
  have HP0 := hide (hp.belowW ((Below.refl _ _).alloc (Nat.le_refl _) (.cells #[.int .i64 0, .int .i64 0, .slice none 0 0] stepT)))
  have HO0 := hide (Only.refl [g] (w.alloc (.cells #[.int .i64 0, .int .i64 0, .slice none 0 0] stepT)))
  have hgw := ps_lt hp
  have hgne : w.heap.size ∉ [g] := by simp; omega
  have hgne2 : g ∉ [w.heap.size] := by simp; omega
  clear hf hp hv h0 h1 h2 ht
  go_enter Tryd.func46, Tryd.ntmps46
  go_wp2_with fail
  refine ((unhid_ HT0) _ (unhid_ HP0)).mono ?_
  rintro e w1 ⟨rfl, hp1, ho1⟩
  have HP1 := hide hp1
  have HO1 := hide ((unhid_ HO0).trans ho1)
  clear hp1 ho1 HT0 HP0 HO0
  go_wp2_with fail
  refine ((unhid_ HT1) _ (unhid_ HP1)).mono ?_
  rintro e w2 ⟨rfl, hp2, ho2⟩
  have HP2 := hide hp2
  have HO2 := hide ((unhid_ HO1).trans ho2)
  clear hp2 ho2 HT1 HP1 HO1
  go_wp2_with fail
  refine ((unhid_ HT2) _ (unhid_ HP2)).mono ?_
  rintro e w3 ⟨rfl, hp3, ho3⟩
  have HP3 := hide hp3
  have HO3 := hide ((unhid_ HO2).trans ho3)
  clear hp3 ho3 HT2 HP2 HO2
  go_wp2_with fail
  refine ((unhid_ HT3) _ (unhid_ HP3)).mono ?_
  rintro e w4 ⟨rfl, hp4, ho4⟩
  have HP4 := hide hp4
  have HO4 := hide ((unhid_ HO3).trans ho4)
  clear hp4 ho4 HT3 HP3 HO3
  go_wp2_with fail
  refine ((unhid_ HN) _ (unhid_ HP4) ((unhid_ HV) _ (((Only.refl [g] w).alloc _).trans (unhid_ HO4)))).mono ?_
  rintro e w5 ⟨rfl, hp5, ho5⟩
  have HP5 := hide hp5
  have HO5 := hide ((unhid_ HO4).trans ho5)
  clear hp5 ho5 HN HP4 HO4
  have hblk := (unhid_ HO5).blk (zbox w) hgne
  obtain ⟨c0, c1, c2⟩ := box_facts hblk
  have f0 := hblk.frozen 0
  have f1 := hblk.frozen 1
  have f2 := hblk.frozen 2
  have hsz := (unhid_ HO5).size
  simp only [World.size_alloc] at hsz
  have HBLK := hide hblk
  clear hblk
  go_wp2_with fail
  exact bodyPost_ret (v := .agg #[.int .i64 3, .int .i64 (numF st4).1, .slice none 0 0]) (results_cell Tryd.results46 rfl (load3 (set3 (unhid_ HBLK)))) rfl (qres_leaf HF.out ((unhid_ HP5).only (only3 _ _ _ _ _) hgne2) (only_box (unhid_ HO5) (only3 _ _ _ _ _) rfl))

set_option maxHeartbeats 2000000 in
theorem one_label (or : St → QT × St) (w : World) (g : Nat) (s : ByteArray) (st0 : St) (hp : PS w g s st0) (hs : s.size ≤ 200) (hv : EV w) (hg1 : 4 ≠ g) (hg2 : 5 ≠ g) (h0 : takesB wUp (st0) = false) (h1 : takesB wDown (takesS wUp (st0)) = false) (h2 : takesB wLive (takesS wDown (takesS wUp (st0))) = false) (h3 : takesB wKind (takesS wLive (takesS wDown (takesS wUp (st0)))) = false) (ht : takesB wLabel (takesS wKind (takesS wLive (takesS wDown (takesS wUp (st0))))) = true) :
    Calls Tryd.prog 46 #[.pointer (some ⟨g, 0, none⟩)] w (QRes g s (oneF or st0) w) := by
  have hf : oneF or st0 = (QT.mk 4 (numF (takesS wLabel (takesS wKind (takesS wLive (takesS wDown (takesS wUp (st0))))))).1 [], (numF (takesS wLabel (takesS wKind (takesS wLive (takesS wDown (takesS wUp (st0))))))).2) := by rw [oneF, if_neg (by rw [h0]; decide), oneD, if_neg (by rw [h1]; decide), oneV, if_neg (by rw [h2]; decide), oneK, if_neg (by rw [h3]; decide), oneL, if_pos ht]
  have HT0 := hide (fun (w1 : World) (h : PS w1 g s (st0)) => takes_any wUp (by simp [wUp]) (by decide) w1 g s (st0) h hs)
  rw [h0] at HT0
  have HT1 := hide (fun (w1 : World) (h : PS w1 g s (takesS wUp (st0))) => takes_any wDown (by simp [wDown]) (by decide) w1 g s (takesS wUp (st0)) h hs)
  rw [h1] at HT1
  have HT2 := hide (fun (w1 : World) (h : PS w1 g s (takesS wDown (takesS wUp (st0)))) => takes_any wLive (by simp [wLive]) (by decide) w1 g s (takesS wDown (takesS wUp (st0))) h hs)
  rw [h2] at HT2
  have HT3 := hide (fun (w1 : World) (h : PS w1 g s (takesS wLive (takesS wDown (takesS wUp (st0))))) => takes_any wKind (by simp [wKind]) (by decide) w1 g s (takesS wLive (takesS wDown (takesS wUp (st0)))) h hs)
  rw [h3] at HT3
  have HT4 := hide (fun (w1 : World) (h : PS w1 g s (takesS wKind (takesS wLive (takesS wDown (takesS wUp (st0)))))) => takes_any wLabel (by simp [wLabel]) (by decide) w1 g s (takesS wKind (takesS wLive (takesS wDown (takesS wUp (st0))))) h hs)
  rw [ht] at HT4
  have HN := hide (fun (w1 : World) (h : PS w1 g s (takesS wLabel (takesS wKind (takesS wLive (takesS wDown (takesS wUp (st0))))))) (hv1 : EV w1) => number_any w1 g s (takesS wLabel (takesS wKind (takesS wLive (takesS wDown (takesS wUp (st0)))))) h hs hv1 hg1 hg2)
  obtain ⟨st1, hst1⟩ : ∃ x, x = takesS wUp st0 := ⟨_, rfl⟩
  simp only [← hst1] at *
  obtain ⟨st2, hst2⟩ : ∃ x, x = takesS wDown st1 := ⟨_, rfl⟩
  simp only [← hst2] at *
  obtain ⟨st3, hst3⟩ : ∃ x, x = takesS wLive st2 := ⟨_, rfl⟩
  simp only [← hst3] at *
  obtain ⟨st4, hst4⟩ : ∃ x, x = takesS wKind st3 := ⟨_, rfl⟩
  simp only [← hst4] at *
  obtain ⟨st5, hst5⟩ : ∃ x, x = takesS wLabel st4 := ⟨_, rfl⟩
  simp only [← hst5] at *
  have HF := Lib.hid hf
  have HV := hide (fun (w1 : World) (h : Only [g] w w1) => hv.only h (by simpa using hg1) (by simpa using hg2))
  have HP0 := hide (hp.belowW ((Below.refl _ _).alloc (Nat.le_refl _) (.cells #[.int .i64 0, .int .i64 0, .slice none 0 0] stepT)))
  have HO0 := hide (Only.refl [g] (w.alloc (.cells #[.int .i64 0, .int .i64 0, .slice none 0 0] stepT)))
  have hgw := ps_lt hp
  have hgne : w.heap.size ∉ [g] := by simp; omega
  have hgne2 : g ∉ [w.heap.size] := by simp; omega
  clear hf hp hv h0 h1 h2 h3 ht
  go_enter Tryd.func46, Tryd.ntmps46
  go_wp2_with fail
  refine ((unhid_ HT0) _ (unhid_ HP0)).mono ?_
  rintro e w1 ⟨rfl, hp1, ho1⟩
  have HP1 := hide hp1
  have HO1 := hide ((unhid_ HO0).trans ho1)
  clear hp1 ho1 HT0 HP0 HO0
  go_wp2_with fail
  refine ((unhid_ HT1) _ (unhid_ HP1)).mono ?_
  rintro e w2 ⟨rfl, hp2, ho2⟩
  have HP2 := hide hp2
  have HO2 := hide ((unhid_ HO1).trans ho2)
  clear hp2 ho2 HT1 HP1 HO1
  go_wp2_with fail
  refine ((unhid_ HT2) _ (unhid_ HP2)).mono ?_
  rintro e w3 ⟨rfl, hp3, ho3⟩
  have HP3 := hide hp3
  have HO3 := hide ((unhid_ HO2).trans ho3)
  clear hp3 ho3 HT2 HP2 HO2
  go_wp2_with fail
  refine ((unhid_ HT3) _ (unhid_ HP3)).mono ?_
  rintro e w4 ⟨rfl, hp4, ho4⟩
  have HP4 := hide hp4
  have HO4 := hide ((unhid_ HO3).trans ho4)
  clear hp4 ho4 HT3 HP3 HO3
  go_wp2_with fail
  refine ((unhid_ HT4) _ (unhid_ HP4)).mono ?_
  rintro e w5 ⟨rfl, hp5, ho5⟩
  have HP5 := hide hp5
  have HO5 := hide ((unhid_ HO4).trans ho5)
  clear hp5 ho5 HT4 HP4 HO4
  go_wp2_with fail
  refine ((unhid_ HN) _ (unhid_ HP5) ((unhid_ HV) _ (((Only.refl [g] w).alloc _).trans (unhid_ HO5)))).mono ?_
  rintro e w6 ⟨rfl, hp6, ho6⟩
  have HP6 := hide hp6
  have HO6 := hide ((unhid_ HO5).trans ho6)
  clear hp6 ho6 HN HP5 HO5
  have hblk := (unhid_ HO6).blk (zbox w) hgne
  obtain ⟨c0, c1, c2⟩ := box_facts hblk
  have f0 := hblk.frozen 0
  have f1 := hblk.frozen 1
  have f2 := hblk.frozen 2
  have hsz := (unhid_ HO6).size
  simp only [World.size_alloc] at hsz
  have HBLK := hide hblk
  clear hblk
  go_wp2_with fail
  exact bodyPost_ret (v := .agg #[.int .i64 4, .int .i64 (numF st5).1, .slice none 0 0]) (results_cell Tryd.results46 rfl (load3 (set3 (unhid_ HBLK)))) rfl (qres_leaf HF.out ((unhid_ HP6).only (only3 _ _ _ _ _) hgne2) (only_box (unhid_ HO6) (only3 _ _ _ _ _) rfl))

set_option maxHeartbeats 2000000 in
theorem one_bad (or : St → QT × St) (w : World) (g : Nat) (s : ByteArray) (st0 : St) (hp : PS w g s st0) (hs : s.size ≤ 200) (hv : EV w) (hg1 : 4 ≠ g) (hg2 : 5 ≠ g) (h0 : takesB wUp (st0) = false) (h1 : takesB wDown (takesS wUp (st0)) = false) (h2 : takesB wLive (takesS wDown (takesS wUp (st0))) = false) (h3 : takesB wKind (takesS wLive (takesS wDown (takesS wUp (st0)))) = false) (h4 : takesB wLabel (takesS wKind (takesS wLive (takesS wDown (takesS wUp (st0))))) = false) (ht : (mustS [40] (takesS wLabel (takesS wKind (takesS wLive (takesS wDown (takesS wUp (st0))))))).bad = true) :
    Calls Tryd.prog 46 #[.pointer (some ⟨g, 0, none⟩)] w (QRes g s (oneF or st0) w) := by
  have hf : oneF or st0 = (QT.mk 0 0 [], mustS [40] (takesS wLabel (takesS wKind (takesS wLive (takesS wDown (takesS wUp (st0))))))) := by rw [oneF, if_neg (by rw [h0]; decide), oneD, if_neg (by rw [h1]; decide), oneV, if_neg (by rw [h2]; decide), oneK, if_neg (by rw [h3]; decide), oneL, if_neg (by rw [h4]; decide), oneP, if_pos ht, q0]
  have HT0 := hide (fun (w1 : World) (h : PS w1 g s (st0)) => takes_any wUp (by simp [wUp]) (by decide) w1 g s (st0) h hs)
  rw [h0] at HT0
  have HT1 := hide (fun (w1 : World) (h : PS w1 g s (takesS wUp (st0))) => takes_any wDown (by simp [wDown]) (by decide) w1 g s (takesS wUp (st0)) h hs)
  rw [h1] at HT1
  have HT2 := hide (fun (w1 : World) (h : PS w1 g s (takesS wDown (takesS wUp (st0)))) => takes_any wLive (by simp [wLive]) (by decide) w1 g s (takesS wDown (takesS wUp (st0))) h hs)
  rw [h2] at HT2
  have HT3 := hide (fun (w1 : World) (h : PS w1 g s (takesS wLive (takesS wDown (takesS wUp (st0))))) => takes_any wKind (by simp [wKind]) (by decide) w1 g s (takesS wLive (takesS wDown (takesS wUp (st0)))) h hs)
  rw [h3] at HT3
  have HT4 := hide (fun (w1 : World) (h : PS w1 g s (takesS wKind (takesS wLive (takesS wDown (takesS wUp (st0)))))) => takes_any wLabel (by simp [wLabel]) (by decide) w1 g s (takesS wKind (takesS wLive (takesS wDown (takesS wUp (st0))))) h hs)
  rw [h4] at HT4
  have HM := hide (fun (w1 : World) (h : PS w1 g s (takesS wLabel (takesS wKind (takesS wLive (takesS wDown (takesS wUp (st0))))))) => must_any [40] (by simp) (by decide) w1 g s (takesS wLabel (takesS wKind (takesS wLive (takesS wDown (takesS wUp (st0)))))) h hs)
  obtain ⟨st1, hst1⟩ : ∃ x, x = takesS wUp st0 := ⟨_, rfl⟩
  simp only [← hst1] at *
  obtain ⟨st2, hst2⟩ : ∃ x, x = takesS wDown st1 := ⟨_, rfl⟩
  simp only [← hst2] at *
  obtain ⟨st3, hst3⟩ : ∃ x, x = takesS wLive st2 := ⟨_, rfl⟩
  simp only [← hst3] at *
  obtain ⟨st4, hst4⟩ : ∃ x, x = takesS wKind st3 := ⟨_, rfl⟩
  simp only [← hst4] at *
  obtain ⟨st5, hst5⟩ : ∃ x, x = takesS wLabel st4 := ⟨_, rfl⟩
  simp only [← hst5] at *
  obtain ⟨st6, hst6⟩ : ∃ x, x = mustS [40] st5 := ⟨_, rfl⟩
  simp only [← hst6] at *
  have HBAD := Lib.hid ht
  have HF := Lib.hid hf
  have HV := hide (fun (w1 : World) (h : Only [g] w w1) => hv.only h (by simpa using hg1) (by simpa using hg2))
  have HP0 := hide (hp.belowW ((Below.refl _ _).alloc (Nat.le_refl _) (.cells #[.int .i64 0, .int .i64 0, .slice none 0 0] stepT)))
  have HO0 := hide (Only.refl [g] (w.alloc (.cells #[.int .i64 0, .int .i64 0, .slice none 0 0] stepT)))
  have hgw := ps_lt hp
  have hgne : w.heap.size ∉ [g] := by simp; omega
  have hgne2 : g ∉ [w.heap.size] := by simp; omega
  clear hf hp hv h0 h1 h2 h3 h4 ht
  go_enter Tryd.func46, Tryd.ntmps46
  go_wp2_with fail
  refine ((unhid_ HT0) _ (unhid_ HP0)).mono ?_
  rintro e w1 ⟨rfl, hp1, ho1⟩
  have HP1 := hide hp1
  have HO1 := hide ((unhid_ HO0).trans ho1)
  clear hp1 ho1 HT0 HP0 HO0
  go_wp2_with fail
  refine ((unhid_ HT1) _ (unhid_ HP1)).mono ?_
  rintro e w2 ⟨rfl, hp2, ho2⟩
  have HP2 := hide hp2
  have HO2 := hide ((unhid_ HO1).trans ho2)
  clear hp2 ho2 HT1 HP1 HO1
  go_wp2_with fail
  refine ((unhid_ HT2) _ (unhid_ HP2)).mono ?_
  rintro e w3 ⟨rfl, hp3, ho3⟩
  have HP3 := hide hp3
  have HO3 := hide ((unhid_ HO2).trans ho3)
  clear hp3 ho3 HT2 HP2 HO2
  go_wp2_with fail
  refine ((unhid_ HT3) _ (unhid_ HP3)).mono ?_
  rintro e w4 ⟨rfl, hp4, ho4⟩
  have HP4 := hide hp4
  have HO4 := hide ((unhid_ HO3).trans ho4)
  clear hp4 ho4 HT3 HP3 HO3
  go_wp2_with fail
  refine ((unhid_ HT4) _ (unhid_ HP4)).mono ?_
  rintro e w5 ⟨rfl, hp5, ho5⟩
  have HP5 := hide hp5
  have HO5 := hide ((unhid_ HO4).trans ho5)
  clear hp5 ho5 HT4 HP4 HO4
  go_wp2_with fail
  refine ((unhid_ HM) _ (unhid_ HP5)).mono ?_
  rintro e w6 ⟨rfl, hp6, ho6⟩
  have hpc := hp6
  obtain ⟨kk, hkk, hdd, hbb⟩ := hpc
  have cp := hbb.cell 2
  simp only [List.getElem?_toArray, List.getElem?_cons_zero, List.getElem?_cons_succ] at cp
  rw [HBAD.out] at cp
  clear hkk hdd hbb
  have HP6 := hide hp6
  have HO6 := hide ((unhid_ HO5).trans ho6)
  clear hp6 ho6 HM HP5 HO5
  have hblk := (unhid_ HO6).blk (zbox w) hgne
  obtain ⟨c0, c1, c2⟩ := box_facts hblk
  have f0 := hblk.frozen 0
  have f1 := hblk.frozen 1
  have f2 := hblk.frozen 2
  have hsz := (unhid_ HO6).size
  simp only [World.size_alloc] at hsz
  have HBLK := hide hblk
  clear hblk
  go_wp2_with fail
  exact bodyPost_ret (v := .agg #[.int .i64 0, .int .i64 0, .slice none 0 0]) (results_cell Tryd.results46 rfl (load3 (set3 (unhid_ HBLK)))) rfl (qres_leaf HF.out ((unhid_ HP6).only (only3 _ _ _ _ _) hgne2) (only_box (unhid_ HO6) (only3 _ _ _ _ _) rfl))

set_option maxHeartbeats 2000000 in
theorem one_par (or : St → QT × St) (w : World) (g : Nat) (s : ByteArray) (st0 : St) (hp : PS w g s st0) (hs : s.size ≤ 200) (hv : EV w) (hg1 : 4 ≠ g) (hg2 : 5 ≠ g) (h0 : takesB wUp (st0) = false) (h1 : takesB wDown (takesS wUp (st0)) = false) (h2 : takesB wLive (takesS wDown (takesS wUp (st0))) = false) (h3 : takesB wKind (takesS wLive (takesS wDown (takesS wUp (st0)))) = false) (h4 : takesB wLabel (takesS wKind (takesS wLive (takesS wDown (takesS wUp (st0))))) = false) (ht : (mustS [40] (takesS wLabel (takesS wKind (takesS wLive (takesS wDown (takesS wUp (st0))))))).bad = false) (hor : ∀ w1, PS w1 g s (mustS [40] (takesS wLabel (takesS wKind (takesS wLive (takesS wDown (takesS wUp (st0))))))) → EV w1 → Calls Tryd.prog 22 #[.pointer (some ⟨g, 0, none⟩)] w1 (QRes g s (or (mustS [40] (takesS wLabel (takesS wKind (takesS wLive (takesS wDown (takesS wUp (st0)))))))) w1)) :
    Calls Tryd.prog 46 #[.pointer (some ⟨g, 0, none⟩)] w (QRes g s (oneF or st0) w) := by
  have hf : oneF or st0 = ((or (mustS [40] (takesS wLabel (takesS wKind (takesS wLive (takesS wDown (takesS wUp (st0)))))))).1, mustS [41] (or (mustS [40] (takesS wLabel (takesS wKind (takesS wLive (takesS wDown (takesS wUp (st0)))))))).2) := by rw [oneF, if_neg (by rw [h0]; decide), oneD, if_neg (by rw [h1]; decide), oneV, if_neg (by rw [h2]; decide), oneK, if_neg (by rw [h3]; decide), oneL, if_neg (by rw [h4]; decide), oneP, if_neg (by rw [ht]; decide)]
  have HT0 := hide (fun (w1 : World) (h : PS w1 g s (st0)) => takes_any wUp (by simp [wUp]) (by decide) w1 g s (st0) h hs)
  rw [h0] at HT0
  have HT1 := hide (fun (w1 : World) (h : PS w1 g s (takesS wUp (st0))) => takes_any wDown (by simp [wDown]) (by decide) w1 g s (takesS wUp (st0)) h hs)
  rw [h1] at HT1
  have HT2 := hide (fun (w1 : World) (h : PS w1 g s (takesS wDown (takesS wUp (st0)))) => takes_any wLive (by simp [wLive]) (by decide) w1 g s (takesS wDown (takesS wUp (st0))) h hs)
  rw [h2] at HT2
  have HT3 := hide (fun (w1 : World) (h : PS w1 g s (takesS wLive (takesS wDown (takesS wUp (st0))))) => takes_any wKind (by simp [wKind]) (by decide) w1 g s (takesS wLive (takesS wDown (takesS wUp (st0)))) h hs)
  rw [h3] at HT3
  have HT4 := hide (fun (w1 : World) (h : PS w1 g s (takesS wKind (takesS wLive (takesS wDown (takesS wUp (st0)))))) => takes_any wLabel (by simp [wLabel]) (by decide) w1 g s (takesS wKind (takesS wLive (takesS wDown (takesS wUp (st0))))) h hs)
  rw [h4] at HT4
  have HM := hide (fun (w1 : World) (h : PS w1 g s (takesS wLabel (takesS wKind (takesS wLive (takesS wDown (takesS wUp (st0))))))) => must_any [40] (by simp) (by decide) w1 g s (takesS wLabel (takesS wKind (takesS wLive (takesS wDown (takesS wUp (st0)))))) h hs)
  have HOR := hide hor
  have HM2 := hide (fun (w1 : World) (h : PS w1 g s (or (mustS [40] (takesS wLabel (takesS wKind (takesS wLive (takesS wDown (takesS wUp (st0)))))))).2) => must_any [41] (by simp) (by decide) w1 g s (or (mustS [40] (takesS wLabel (takesS wKind (takesS wLive (takesS wDown (takesS wUp (st0)))))))).2 h hs)
  obtain ⟨st1, hst1⟩ : ∃ x, x = takesS wUp st0 := ⟨_, rfl⟩
  simp only [← hst1] at *
  obtain ⟨st2, hst2⟩ : ∃ x, x = takesS wDown st1 := ⟨_, rfl⟩
  simp only [← hst2] at *
  obtain ⟨st3, hst3⟩ : ∃ x, x = takesS wLive st2 := ⟨_, rfl⟩
  simp only [← hst3] at *
  obtain ⟨st4, hst4⟩ : ∃ x, x = takesS wKind st3 := ⟨_, rfl⟩
  simp only [← hst4] at *
  obtain ⟨st5, hst5⟩ : ∃ x, x = takesS wLabel st4 := ⟨_, rfl⟩
  simp only [← hst5] at *
  obtain ⟨st6, hst6⟩ : ∃ x, x = mustS [40] st5 := ⟨_, rfl⟩
  simp only [← hst6] at *
  have HBAD := Lib.hid ht
  obtain ⟨r7, hr7⟩ : ∃ x, x = or st6 := ⟨_, rfl⟩
  simp only [← hr7] at *
  have HF := Lib.hid hf
  have HV := hide (fun (w1 : World) (h : Only [g] w w1) => hv.only h (by simpa using hg1) (by simpa using hg2))
  have HP0 := hide (hp.belowW ((Below.refl _ _).alloc (Nat.le_refl _) (.cells #[.int .i64 0, .int .i64 0, .slice none 0 0] stepT)))
  have HO0 := hide (Only.refl [g] (w.alloc (.cells #[.int .i64 0, .int .i64 0, .slice none 0 0] stepT)))
  have hgw := ps_lt hp
  have hgne : w.heap.size ∉ [g] := by simp; omega
  have hgne2 : g ∉ [w.heap.size] := by simp; omega
  clear hf hp hv h0 h1 h2 h3 h4 ht hor
  go_enter Tryd.func46, Tryd.ntmps46
  go_wp2_with fail
  refine ((unhid_ HT0) _ (unhid_ HP0)).mono ?_
  rintro e w1 ⟨rfl, hp1, ho1⟩
  have HP1 := hide hp1
  have HO1 := hide ((unhid_ HO0).trans ho1)
  clear hp1 ho1 HT0 HP0 HO0
  go_wp2_with fail
  refine ((unhid_ HT1) _ (unhid_ HP1)).mono ?_
  rintro e w2 ⟨rfl, hp2, ho2⟩
  have HP2 := hide hp2
  have HO2 := hide ((unhid_ HO1).trans ho2)
  clear hp2 ho2 HT1 HP1 HO1
  go_wp2_with fail
  refine ((unhid_ HT2) _ (unhid_ HP2)).mono ?_
  rintro e w3 ⟨rfl, hp3, ho3⟩
  have HP3 := hide hp3
  have HO3 := hide ((unhid_ HO2).trans ho3)
  clear hp3 ho3 HT2 HP2 HO2
  go_wp2_with fail
  refine ((unhid_ HT3) _ (unhid_ HP3)).mono ?_
  rintro e w4 ⟨rfl, hp4, ho4⟩
  have HP4 := hide hp4
  have HO4 := hide ((unhid_ HO3).trans ho4)
  clear hp4 ho4 HT3 HP3 HO3
  go_wp2_with fail
  refine ((unhid_ HT4) _ (unhid_ HP4)).mono ?_
  rintro e w5 ⟨rfl, hp5, ho5⟩
  have HP5 := hide hp5
  have HO5 := hide ((unhid_ HO4).trans ho5)
  clear hp5 ho5 HT4 HP4 HO4
  go_wp2_with fail
  refine ((unhid_ HM) _ (unhid_ HP5)).mono ?_
  rintro e w6 ⟨rfl, hp6, ho6⟩
  have hpc := hp6
  obtain ⟨kk, hkk, hdd, hbb⟩ := hpc
  have cp := hbb.cell 2
  simp only [List.getElem?_toArray, List.getElem?_cons_zero, List.getElem?_cons_succ] at cp
  rw [HBAD.out] at cp
  clear hkk hdd hbb
  have HP6 := hide hp6
  have HO6 := hide ((unhid_ HO5).trans ho6)
  clear hp6 ho6 HM HP5 HO5
  go_wp2_with fail
  refine ((unhid_ HOR) _ (unhid_ HP6) ((unhid_ HV) _ (((Only.refl [g] w).alloc _).trans (unhid_ HO6)))).mono ?_
  rintro e w7 ⟨A, c, rfl, hrp, hp7, ho7⟩
  obtain ⟨⟨qo, qn, qk⟩, st7⟩ := r7
  have HRP := hide hrp
  have hsz0 := ho7.size
  have hszk := (unhid_ HO6).size
  simp only [World.size_alloc] at hszk
  have HP7 := hide hp7
  have HO7 := hide ((unhid_ HO6).trans ho7)
  clear hp7 ho7 hrp HOR HP6 HO6 cp
  simp only [QT.op, QT.n, QT.kids]
  go_wp2_with fail
  refine ((unhid_ HM2) _ ((unhid_ HP7).belowW ((Below.refl _ _).alloc (Nat.le_refl _) _))).mono ?_
  rintro e w8 ⟨rfl, hp8, ho8⟩
  have hbx := ho8.blk (Blk.new w7 stepT #[.int .i64 qo, .int .i64 qn, .slice A qk.length c]) (by simp; have := hgw; omega)
  obtain ⟨x0, x1, x2⟩ := box_facts hbx
  clear hbx
  have hszn := ho8.size
  simp only [World.size_alloc] at hszn
  have HON := hide ho8
  have HP8 := hide hp8
  have HO8 := hide (((unhid_ HO7).alloc (.cells #[.int .i64 qo, .int .i64 qn, .slice A qk.length c] stepT)).trans ho8)
  clear hp8 ho8 HM2 HP7 HO7
  have hblk := (unhid_ HO8).blk (zbox w) hgne
  obtain ⟨c0, c1, c2⟩ := box_facts hblk
  have f0 := hblk.frozen 0
  have f1 := hblk.frozen 1
  have f2 := hblk.frozen 2
  have hsz := (unhid_ HO8).size
  simp only [World.size_alloc] at hsz
  have HBLK := hide hblk
  clear hblk
  go_wp2_with fail
  refine bodyPost_ret (v := .agg #[.int .i64 qo, .int .i64 qn, .slice A qk.length c]) (results_cell Tryd.results46 rfl (load3 (set3 (unhid_ HBLK)))) rfl ?_
  rw [HF.out]
  refine ⟨A, c, rfl, (unhid_ HRP).keep (fun b hb hlt => ⟨?_, ?_⟩), (unhid_ HP8).only (only3 _ _ _ _ _) hgne2, only_box (unhid_ HO8) (only3 _ _ _ _ _) rfl⟩
  · have hb6 : w6.heap.size ≤ b := hb
    rw [(only3 w8 w.heap.size (.int .i64 qo) (.int .i64 qn) (.slice A qk.length c)).block b (by omega) (by simp; omega), (unhid_ HON).block b (by simp; omega) (by simp; omega)]
    exact Below.heap_alloc _ _ _ hlt
  · have hb6 : w6.heap.size ≤ b := hb
    show w.heap.size ≤ b
    omega

theorem one_any (or : St → QT × St) (w : World) (g : Nat) (s : ByteArray) (st : St) (hp : PS w g s st) (hs : s.size ≤ 200) (hv : EV w) (hg1 : 4 ≠ g) (hg2 : 5 ≠ g)
    (hor : (mustS [40] (takesS wLabel (takesS wKind (takesS wLive (takesS wDown (takesS wUp st)))))).bad = false → ∀ w1, PS w1 g s (mustS [40] (takesS wLabel (takesS wKind (takesS wLive (takesS wDown (takesS wUp st)))))) → EV w1 → Calls Tryd.prog 22 #[.pointer (some ⟨g, 0, none⟩)] w1 (QRes g s (or (mustS [40] (takesS wLabel (takesS wKind (takesS wLive (takesS wDown (takesS wUp st))))))) w1)) :
    Calls Tryd.prog 46 #[.pointer (some ⟨g, 0, none⟩)] w (QRes g s (oneF or st) w) := by
  cases h0 : takesB wUp st with
  | true => exact one_up or w g s st hp hs hv hg1 hg2 h0
  | false =>
    cases h1 : takesB wDown (takesS wUp st) with
    | true => exact one_down or w g s st hp hs hv hg1 hg2 h0 h1
    | false =>
      cases h2 : takesB wLive (takesS wDown (takesS wUp st)) with
      | true => exact one_live or w g s st hp hs hv hg1 hg2 h0 h1 h2
      | false =>
        cases h3 : takesB wKind (takesS wLive (takesS wDown (takesS wUp st))) with
        | true => exact one_kind or w g s st hp hs hv hg1 hg2 h0 h1 h2 h3
        | false =>
          cases h4 : takesB wLabel (takesS wKind (takesS wLive (takesS wDown (takesS wUp st)))) with
          | true => exact one_label or w g s st hp hs hv hg1 hg2 h0 h1 h2 h3 h4
          | false =>
            cases h5 : (mustS [40] (takesS wLabel (takesS wKind (takesS wLive (takesS wDown (takesS wUp st)))))).bad with
            | true => exact one_bad or w g s st hp hs hv hg1 hg2 h0 h1 h2 h3 h4 h5
            | false => exact one_par or w g s st hp hs hv hg1 hg2 h0 h1 h2 h3 h4 h5 (hor h5)
end Go.Proofs.YthlnaejmglajeaaDoor
