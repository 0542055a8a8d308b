/- The walk of ask.Parse. -/
import Derived.Test.YthlnaejmglajeaaDoorAOr
namespace Go.Proofs.YthlnaejmglajeaaDoor
open Go.RowKit
set_option linter.unusedSimpArgs false
set_option linter.unusedVariables false

/-- what Parse answers -/
def ParseT (r : QT × Nat × Int) (w : World) (e : Ending) (w' : World) : Prop :=
  ∃ A c, e = .returned (.tuple #[.agg #[.int .i64 r.1.op, .int .i64 r.1.n, .slice A r.1.kids.length c], .int .i64 r.2.1, .int .i64 r.2.2]) ∧ RP w' (newB w) r.1 A c ∧ Below w.heap.size w w'
theorem results_cell3 {P : Program} {fn : Func} {tmps : Array Value} {a b c : Nat} {t : TypeId} {p : Addr} {v u1 u2 : Value} {w : World} (hf : fn.results = #[.cell a t, .tmp b, .tmp c]) (hp : tmps.getD a undef = .pointer (some p)) (h1 : tmps.getD b undef = u1) (h2 : tmps.getD c undef = u2) (hr : (loadVar t p).run P w = .ok v w) :
    (results fn tmps).run P w = .ok (.tuple #[v, u1, u2]) w := by
  have hp' : tmps[a]?.getD undef = .pointer (some p) := by simpa using hp
  have h1' : tmps[b]?.getD undef = u1 := by simpa using h1
  have h2' : tmps[c]?.getD undef = u2 := by simpa using h2
  simp [results, hf, hp', h1', h2', asAddr, hr, Sem.run_bind]
theorem parseT_leaf {r : QT × Nat × Int} {w w' : World} {k : Nat} {e : Int} (hr : r = (q0, k, e)) (hb : Below w.heap.size w w') : ParseT r w (.returned (.tuple #[.agg #[.int .i64 0, .int .i64 0, .slice none 0 0], .int .i64 k, .int .i64 e])) w' := by
  subst hr
  exact ⟨none, 0, rfl, RP.leaf _ _ _ _ _ _ (Nat.zero_le _), hb⟩

set_option maxHeartbeats 1000000 in
theorem parse_any (s : ByteArray) (w : World) (hv : EV w) (h63 : s.size ≤ 9223372036854775807) :
    Calls Tryd.prog 14 #[.string s] w (ParseT (parseF s.data.toList) w) := by
  have hlen := sizeB s
  by_cases h200 : 200 < s.size
  · have d1 : decide ((200 : Int) < (s.size : Int)) = true := by simp; omega
    have HF := Lib.hid (show parseF s.data.toList = (q0, 0, 14) by rw [parseF, if_pos (by omega)])
    clear hlen hv
    go_enter Tryd.func14, Tryd.ntmps14
    go_wp2_with fail
    refine bodyPost_ret (v := .tuple #[.agg #[.int .i64 0, .int .i64 0, .slice none 0 0], .int .i64 0, .int .i64 14]) (results_cell3 Tryd.results14 rfl rfl rfl (load3 (zbox w))) rfl (parseT_leaf HF.out ((Below.refl _ _).alloc (Nat.le_refl _) _))
  · have d1 : decide ((200 : Int) < (s.size : Int)) = false := by simp; omega
    have hpf : parseF s.data.toList = if (orF (s.data.toList.length + 1) ⟨s.data.toList, false⟩).2.bad then (q0, s.data.toList.length - (orF (s.data.toList.length + 1) ⟨s.data.toList, false⟩).2.r.length, 19)
      else if skipB (orF (s.data.toList.length + 1) ⟨s.data.toList, false⟩).2.r ≠ [] then (q0, s.data.toList.length - (skipB (orF (s.data.toList.length + 1) ⟨s.data.toList, false⟩).2.r).length, 19)
      else if checkF (orF (s.data.toList.length + 1) ⟨s.data.toList, false⟩).1 then ((orF (s.data.toList.length + 1) ⟨s.data.toList, false⟩).1, 0, 0)
      else (q0, 0, 14) := by rw [parseF, if_neg (by omega)]
    have hps : PS ((w.alloc (.cells #[.int .i64 0, .int .i64 0, .slice none 0 0] stepT)).alloc (.cells #[.string s, .int .i64 0, .bool false] 47)) (w.heap.size + 1) s ⟨s.data.toList, false⟩ := by
      refine ⟨0, by simp only [Nat.zero_add]; exact hlen, rfl, ?_⟩
      have := Blk.new (w.alloc (.cells #[.int .i64 0, .int .i64 0, .slice none 0 0] stepT)) 47 #[.string s, .int .i64 0, .bool false]
      rw [World.size_alloc] at this
      exact this
    have hb0 : Below w.heap.size w ((w.alloc (.cells #[.int .i64 0, .int .i64 0, .slice none 0 0] stepT)).alloc (.cells #[.string s, .int .i64 0, .bool false] 47)) := ((Below.refl _ _).alloc (Nat.le_refl _) _).alloc (by simp) _
    have hl := hv.lt
    have HOR := hide (or_any (w.heap.size + 1) s (by omega) (by omega) (by omega) (s.data.toList.length + 1) _ _ hps (hv.belowW hb0) (Nat.lt_succ_self _))
    have hrl := orF_len (s.data.toList.length + 1) ⟨s.data.toList, false⟩
    obtain ⟨r, hr⟩ : ∃ r, r = orF (s.data.toList.length + 1) ⟨s.data.toList, false⟩ := ⟨_, rfl⟩
    rw [← hr] at HOR hpf hrl
    rw [hlen] at hpf
    obtain ⟨⟨qo, qn, qk⟩, st⟩ := r
    have HPF := Lib.hid hpf
    have HB0 := hide hb0
    clear hpf hr hps hb0 hv hl
    go_enter Tryd.func14, Tryd.ntmps14
    go_wp2_with fail
    refine (unhid_ HOR).mono ?_
    rintro e w1 ⟨A, c, rfl, hrp, hp1, ho1⟩
    simp only [QT.op, QT.n, QT.kids]
    have hz := (ho1.blk ((zbox w).alloc _) (by simp))
    have hso := ho1.size
    simp only [World.size_alloc] at hso
    have hpc := hp1
    obtain ⟨k, hk, hd, hbp⟩ := hpc
    have hk : k + st.r.length = s.size := hk
    obtain ⟨sr, sbad⟩ := st
    obtain ⟨c0, c1, c2⟩ := box_facts hz
    have f0 := hz.frozen 0
    have f1 := hz.frozen 1
    have f2 := hz.frozen 2
    have p1 : w1.cell? ⟨w.heap.size + 1, 1, none⟩ = some (.int .i64 k) := hbp.cell 1
    have p2 : w1.cell? ⟨w.heap.size + 1, 2, none⟩ = some (.bool sbad) := hbp.cell 2
    have pf2 := hbp.frozen 2
    have hso1 : w.heap.size + 1 < w1.heap.size := by omega
    have hso0 : w.heap.size < w1.heap.size := by omega
    have HZ := hide hz
    have HP := hide hp1
    have HO := hide ho1
    have HRP := hide hrp
    have HBP := hide hbp
    have HK := Lib.hid hk
    clear hz hp1 ho1 hrp HOR hbp hd hk
    have hbw : ∀ w2 : World, Only [w.heap.size + 1] w1 w2 → Below w.heap.size w w2 := fun w2 h2 => (unhid_ HB0).trans ((((unhid_ HO).trans h2)).below (by simp) (by simp; omega))
    have HBW := hide hbw
    clear hbw
    cases sbad with
    | true =>
      have hpf := HPF.out
      rw [if_pos rfl] at hpf
      have hkk : s.size - sr.length = k := by have := HK.out; simp only [] at this; omega
      have hpf2 : parseF s.data.toList = (q0, k, 19) := by rw [hpf, ← hkk]
      have HF := Lib.hid hpf2
      clear hpf hpf2 hkk HPF
      go_wp2_with fail
      go_region
      go_wp2
      refine bodyPost_ret (v := .tuple #[.agg #[.int .i64 0, .int .i64 0, .slice none 0 0], .int .i64 k, .int .i64 19]) (results_cell3 Tryd.results14 rfl rfl rfl (load3 (((set3 (unhid_ HZ)).alloc _).drew))) rfl (parseT_leaf HF.out ?_)
      refine ((unhid_ HBW) w1 (Only.refl _ _)).trans (Below.drew (Below.alloc ((only3 w1 w.heap.size _ _ _).below (by simp) (by omega)) ?_ _))
      simp [World.setCell]
      omega
    | false =>
      have hpf := HPF.out
      rw [if_neg (by simp)] at hpf
      simp only [] at hpf
      have HL := hide (look_any (w1.alloc (.cells #[.int .i64 qo, .int .i64 qn, .slice A qk.length c] stepT)) (w.heap.size + 1) s ⟨sr, false⟩ ((unhid_ HP).belowW ((Below.refl _ _).alloc (Nat.le_refl _) _)) (by omega))
      have htk : ((bytesB (tok sr)).toList == []) = (skipB sr == []) := by
        rw [toList_bytesB]
        rcases skip_head sr with h | ⟨b, l, h, _⟩
        · rw [tok, h]; rfl
        · rw [tok, h, tokLen]
          split
          · rfl
          · rfl
      obtain ⟨z, hz⟩ : ∃ z, (skipB sr == []) = z := ⟨_, rfl⟩
      rw [hz] at htk
      obtain ⟨TK, hTK⟩ : ∃ TK, TK = bytesB (tok sr) := ⟨_, rfl⟩
      rw [← hTK] at htk
      have HTK := Lib.hid hTK
      have HPF2 := Lib.hid hpf
      have HZZ := Lib.hid hz
      clear hpf hz hTK HPF
      go_wp2_with fail
      refine (unhid_ HL).mono ?_
      rintro e w2 ⟨rfl, hp2, ho2⟩
      rw [← HTK.out]
      have hsz2 := ho2.size
      simp only [World.size_alloc] at hsz2
      have hz2 := ho2.blk ((unhid_ HZ).alloc (.cells #[.int .i64 qo, .int .i64 qn, .slice A qk.length c] stepT)) (by simp)
      have hq2 := ho2.blk (Blk.new w1 stepT #[.int .i64 qo, .int .i64 qn, .slice A qk.length c]) (by simp; omega)
      have hrp2 : RP w2 (fun b => w.heap.size + 1 ≤ b) (.mk qo qn qk) A c := (unhid_ HRP).keep fun b hb hlt => by
        have hb' : w.heap.size + 1 + 1 ≤ b := by
          have : ((w.alloc (.cells #[.int .i64 0, .int .i64 0, .slice none 0 0] stepT)).alloc (.cells #[.string s, .int .i64 0, .bool false] 47)).heap.size ≤ b := hb
          simpa using this
        refine ⟨(ho2.block b (by simp; omega) (by simp; omega)).trans (Below.heap_alloc _ _ _ hlt), ?_⟩
        omega
      obtain ⟨k2, hk2, hd2, hbp2⟩ := hp2
      have hk2 : k2 + (skipB sr).length = s.size := hk2
      obtain ⟨x0, x1, x2⟩ := box_facts hq2
      obtain ⟨y0, y1, y2⟩ := box_facts hz2
      have g0 := hz2.frozen 0
      have g1 := hz2.frozen 1
      have g2 := hz2.frozen 2
      have r1 : w2.cell? ⟨w.heap.size + 1, 1, none⟩ = some (.int .i64 k2) := hbp2.cell 1
      have r2 : w2.cell? ⟨w.heap.size + 1, 2, none⟩ = some (.bool false) := hbp2.cell 2
      have rf2 := hbp2.frozen 2
      have HZ2 := hide hz2
      have HRP2 := hide hrp2
      have HK2 := Lib.hid hk2
      have hb2 : Below w.heap.size w w2 := (unhid_ HB0).trans ((((unhid_ HO).alloc (.cells #[.int .i64 qo, .int .i64 qn, .slice A qk.length c] stepT)).trans ho2).below (by simp) (by simp; omega))
      have HB2 := hide hb2
      have hl2 : w.heap.size + 1 < w2.heap.size := by omega
      have hl20 : w.heap.size < w2.heap.size := by omega
      have hl21 : w1.heap.size < w2.heap.size := by omega
      clear c0 c1 c2 f0 f1 f2 p1 p2 pf2 HZ HP HO HRP HBP HK HL hz2 hq2 hrp2 hbp2 ho2 hb2 hk2 hd2 HBW HTK
      cases z with
      | false =>
        have hne : skipB sr ≠ [] := by
          intro h
          have := HZZ.out
          rw [h] at this
          cases this
        have hpf := HPF2.out
        rw [if_pos hne] at hpf
        have hpf2 : parseF s.data.toList = (q0, k2, 19) := by rw [hpf]; have := HK2.out; congr 2; omega
        have HF := Lib.hid hpf2
        clear hpf hpf2 hne HPF2 x0 x1 x2
        go_wp2_with fail
        go_region
        go_wp2
        refine bodyPost_ret (v := .tuple #[.agg #[.int .i64 0, .int .i64 0, .slice none 0 0], .int .i64 k2, .int .i64 19]) (results_cell3 Tryd.results14 rfl rfl rfl (load3 ?_)) rfl (parseT_leaf HF.out ?_)
        · exact (set3 ((unhid_ HZ2).far (p := ⟨w.heap.size + 1, 2, none⟩) (by simp) _)).drew
        · exact (((((unhid_ HB2).setCell (by simp) _).setCell (Nat.le_refl _) _).setCell (Nat.le_refl _) _).setCell (Nat.le_refl _) _).drew
      | true =>
        have hpf := HPF2.out
        rw [if_neg (by have := HZZ.out; simpa using this)] at hpf
        have HCK := hide (check_any w2 0 w2.heap.size qo qn qk A c (unhid_ HRP2).rq (Nat.le_refl _))
        obtain ⟨b, hb⟩ : ∃ b, checkF (QT.mk qo qn qk) = b := ⟨_, rfl⟩
        rw [hb] at HCK hpf
        have HPF3 := Lib.hid hpf
        clear hpf hb HPF2
        cases b with
        | false =>
          have HF := Lib.hid (HPF3.out.trans (if_neg (by decide)))
          go_wp2_with fail
          refine (unhid_ HCK).mono ?_
          rintro e w3 ⟨rfl, hb3⟩
          have hz3 := (unhid_ HZ2).below hb3 hl20
          have f0 := hz3.frozen 0
          have f1 := hz3.frozen 1
          have f2 := hz3.frozen 2
          obtain ⟨c0, c1, c2⟩ := box_facts hz3
          have HZ3 := hide hz3
          have HB3 := hide ((unhid_ HB2).trans (hb3.mono (by omega)))
          have hl3 := hb3.size
          clear hz3 hb3 HCK x0 x1 x2 y0 y1 y2 r1 r2 rf2 g0 g1 g2
          go_wp2_with fail
          refine bodyPost_ret (v := .tuple #[.agg #[.int .i64 0, .int .i64 0, .slice none 0 0], .int .i64 0, .int .i64 14]) (results_cell3 Tryd.results14 rfl rfl rfl (load3 (set3 (unhid_ HZ3)))) rfl (parseT_leaf HF.out ((unhid_ HB3).trans ((only3 w3 w.heap.size _ _ _).below (by simp) (by omega))))
        | true =>
          have HF := Lib.hid (HPF3.out.trans (if_pos rfl))
          go_wp2_with fail
          refine (unhid_ HCK).mono ?_
          rintro e w3 ⟨rfl, hb3⟩
          have hz3 := (unhid_ HZ2).below hb3 hl20
          have f0 := hz3.frozen 0
          have f1 := hz3.frozen 1
          have f2 := hz3.frozen 2
          obtain ⟨c0, c1, c2⟩ := box_facts hz3
          have d0 := (hb3.cell (p := ⟨w1.heap.size, 0, none⟩) hl21).trans x0
          have d1' := (hb3.cell (p := ⟨w1.heap.size, 1, none⟩) hl21).trans x1
          have d2 := (hb3.cell (p := ⟨w1.heap.size, 2, none⟩) hl21).trans x2
          have HZ3 := hide hz3
          have HB3 := hide ((unhid_ HB2).trans (hb3.mono (by omega)))
          have HB3' := hide hb3
          have hl3 := hb3.size
          clear hz3 hb3 HCK x0 x1 x2 y0 y1 y2 r1 r2 rf2 g0 g1 g2
          go_wp2_with fail
          have hon := only3 w3 w.heap.size (.int .i64 qo) (.int .i64 qn) (.slice A qk.length c)
          refine bodyPost_ret (v := .tuple #[.agg #[.int .i64 qo, .int .i64 qn, .slice A qk.length c], .int .i64 0, .int .i64 0]) (results_cell3 Tryd.results14 rfl rfl rfl (load3 (set3 (unhid_ HZ3)))) rfl ?_
          rw [HF.out]
          refine ⟨A, c, rfl, (unhid_ HRP2).keep fun b hb hlt => ?_, (unhid_ HB3).trans (hon.below (by simp) (by omega))⟩
          have hb' : w.heap.size + 1 ≤ b := hb
          refine ⟨(hon.block b (by omega) (by simp; omega)).trans ((unhid_ HB3').block b hlt), ?_⟩
          show w.heap.size ≤ b
          omega
end Go.Proofs.YthlnaejmglajeaaDoor
