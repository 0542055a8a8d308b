/- The walk of the reference's look. -/
import Derived.Test.YthlnaejmglajeaaDoorARLaw
import Derived.Test.YthlnaejmglajeaaDoorATiny
import Derived.Deep.RegionWith
import Derived.Deep.CutBlock
import Derived.Deep.RegionHeld
import Derived.Deep.RegionHeld
namespace Go.Proofs.YthlnaejmglajeaaDoor
open Go.RowKit
set_option linter.unusedSimpArgs false
set_option linter.unusedVariables false

/-- what look answers -/
def RLookT (g : Nat) (r : Int × Bool) (w : World) (e : Ending) (w' : World) : Prop :=
  e = .returned (.bool r.2) ∧ Blk w' g 3 #[.int .i64 r.1] ∧ Only [g] w w'
theorem rlookT_mk {g : Nat} {r : Int × Bool} {l : Int} {b : Bool} {w w' : World} (h : r = (l, b)) (h1 : Blk w' g 3 #[.int .i64 l]) (h2 : Only [g] w w') : RLookT g r w (.returned (.bool b)) w' := by subst h; exact ⟨rfl, h1, h2⟩
mutual
theorem lookF_bd : ∀ (q : QT) (m d : Int), 0 ≤ m → m ≤ 40 → m ≤ (lookF q m d).1 ∧ (lookF q m d).1 ≤ 41 ∧ ((lookF q m d).2 = true → (lookF q m d).1 ≤ 40)
  | .mk o n ks, m, d, h0, h1 => by
    rw [lookF_mk]
    split
    · exact ⟨by simp only []; omega, by simp only []; omega, fun h => by cases h⟩
    · rename_i hc
      split
      · have := lookL_bd o ks (m + 1) (d + 1) (by omega) (by omega)
        exact ⟨by omega, this.2.1, this.2.2⟩
      · exact ⟨by simp only []; omega, by simp only []; omega, fun h => by cases h⟩
theorem lookL_bd : ∀ (o : Int) (ks : List QT) (m d : Int), 0 ≤ m → m ≤ 40 → m ≤ (lookL o ks m d).1 ∧ (lookL o ks m d).1 ≤ 41 ∧ ((lookL o ks m d).2 = true → (lookL o ks m d).1 ≤ 40)
  | o, [], m, d, h0, h1 => by rw [lookL_nil]; exact ⟨Int.le_refl _, by simp only []; omega, fun _ => h1⟩
  | o, k :: ks, m, d, h0, h1 => by
    rw [lookL_cons]
    have hk := lookF_bd k m d h0 h1
    split
    · rename_i hb
      rw [Bool.and_eq_true] at hb
      have := lookL_bd o ks (lookF k m d).1 d (by omega) (hk.2.2 hb.1)
      exact ⟨by omega, this.2.1, this.2.2⟩
    · exact ⟨hk.1, hk.2.1, fun h => by cases h⟩
end
/-- what stands behind the switch, and in each round -/
def LookR (g b : Nat) (o n : Int) (ks : List QT) (A : Option Addr) (c : Nat) (l : Int) (w wr : World) : Prop :=
  Blk wr g 3 #[.int .i64 l] ∧ Blk wr b stepT #[.int .i64 o, .int .i64 n, .slice A ks.length c] ∧ Only [g] w wr

theorem kept_look {wr w' : World} {b g : Nat} {o n : Int} {s u0 u1 u2 : Value} {p : Addr} (hbx : Blk wr b stepT #[.int .i64 o, .int .i64 n, s]) (h : wr.cell? p = some u0 ∧ wr.cell? ⟨p.block, p.off + 1, none⟩ = some u1 ∧ wr.cell? ⟨p.block, p.off + 2, none⟩ = some u2)
    (ho : Only [g] wr.drew w') (hb : ¬ b ∈ [g]) (hp : p.block < wr.drew.heap.size) (hpg : p.block ≠ g) :
    w'.cell? ⟨b, 0, none⟩ = some (.int .i64 o) ∧ w'.cell? ⟨b, 2, none⟩ = some s ∧ w'.cell? p = some u0 ∧ w'.cell? ⟨p.block, p.off + 1, none⟩ = some u1 ∧ w'.cell? ⟨p.block, p.off + 2, none⟩ = some u2 := by
  have hbx' := ho.blk hbx.drew hb
  have hk := ho.block p.block hp (by simpa using hpg)
  exact ⟨hbx'.cell 0, hbx'.cell 2, (World.cell?_of_block hk).trans h.1, (World.cell?_of_block (a := ⟨p.block, p.off + 1, none⟩) hk).trans h.2.1, (World.cell?_of_block (a := ⟨p.block, p.off + 2, none⟩) hk).trans h.2.2⟩

set_option maxRecDepth 100000 in
set_option maxHeartbeats 4000000 in
theorem rlook_any (N : Nat) : ∀ (w : World) (B0 B : Nat) (o n : Int) (ks : List QT) (A : Option Addr) (c : Nat) (deep m : Int) (g : Nat), szL ks < N → RQ w B0 B (.mk o n ks) A c → B ≤ g → Blk w g 3 #[.int .i64 m] → 0 ≤ m → m ≤ 40 → 0 ≤ deep → deep ≤ 1000 →
    Calls Tryd.prog 18 #[.agg #[.int .i64 o, .int .i64 n, .slice A ks.length c], .int .i64 deep, .pointer (some ⟨g, 0, none⟩)] w (RLookT g (lookF (.mk o n ks) m deep) w) := by
  induction N with
  | zero => intro w B0 B o n ks A c deep m g h; omega
  | succ N ih =>
    intro w B0 B o n ks A c deep m g hN hq hBg hb h0 h1 h2 h3
    have HIH := hide ih
    have hcap := hq.cap
    have hlc : ks.length ≤ 9223372036854775807 := by have := hcap.1; have := hcap.2; simp only [QT.kids, maxLen] at *; omega
    have HQ := hide hq
    have hgl := hb.lt
    have hgne : w.heap.size ≠ g := by omega
    have c0 : w.cell? ⟨g, 0, none⟩ = some (.int .i64 m) := hb.cell 0
    have f0 := hb.frozen 0
    have hbx : Blk ((w.setCell ⟨g, 0, none⟩ (.int .i64 (m + 1))).alloc (.cells #[.int .i64 o, .int .i64 n, .slice A ks.length c] stepT)) w.heap.size stepT #[.int .i64 o, .int .i64 n, .slice A ks.length c] := by
      have h := Blk.new (w.setCell ⟨g, 0, none⟩ (.int .i64 (m + 1))) stepT #[.int .i64 o, .int .i64 n, .slice A ks.length c]
      rwa [show (w.setCell ⟨g, 0, none⟩ (.int .i64 (m + 1))).heap.size = w.heap.size by simp [World.setCell]] at h
    have hbg : Blk ((w.setCell ⟨g, 0, none⟩ (.int .i64 (m + 1))).alloc (.cells #[.int .i64 o, .int .i64 n, .slice A ks.length c] stepT)) g 3 #[.int .i64 (m + 1)] := (hb.set_ 0 _).alloc _
    have hon : Only [g] w ((w.setCell ⟨g, 0, none⟩ (.int .i64 (m + 1))).alloc (.cells #[.int .i64 o, .int .i64 n, .slice A ks.length c] stepT)) := ((Only.refl [g] w).setCell (.inl (by simp)) _).alloc _
    have HL := hide (show LookR g w.heap.size o n ks A c (m + 1) w ((w.setCell ⟨g, 0, none⟩ (.int .i64 (m + 1))).alloc (.cells #[.int .i64 o, .int .i64 n, .slice A ks.length c] stepT)) from ⟨hbg, hbx, hon⟩)
    have hmk := lookF_mk o n ks m deep
    clear ih hcap hq hb hbx hbg hon
    by_cases g1 : 40 < m + 1
    · have d1 : decide (40 < m + 1) = true := by simpa using g1
      have HF := Lib.hid (hmk.trans (if_pos (.inl g1)))
      clear hmk
      go_enter Tryd.func18, Tryd.ntmps18
      go_wp2_with fail
      go_ret
      exact rlookT_mk HF.out (unhid_ HL).1 (unhid_ HL).2.2
    · have d1 : decide (40 < m + 1) = false := by simpa using g1
      by_cases g2 : 12 < deep
      · have d2 : decide (12 < deep) = true := by simpa using g2
        have HF := Lib.hid (hmk.trans (if_pos (.inr g2)))
        clear hmk
        go_enter Tryd.func18, Tryd.ntmps18
        go_wp2_with fail
        go_ret
        exact rlookT_mk HF.out (unhid_ HL).1 (unhid_ HL).2.2
      · have d2 : decide (12 < deep) = false := by simpa using g2
        have HF := Lib.hid (hmk.trans (if_neg (by rintro (h | h); exact g1 h; exact g2 h)))
        clear hmk
        go_enter Tryd.func18, Tryd.ntmps18
        go_upto_block 0 with (fail)
        go_cut [8] (fun s8 wx => s8 = .bool (okR (.mk o n ks)) ∧ LookR g w.heap.size o n ks A c (m + 1) w wx)
        case first =>
          clear HF
          have e0 := len0_eq ks 0
          have e1 := len0_eq ks 1
          obtain ⟨z0, hz0⟩ : ∃ b, (ks.length == 0) = b := ⟨_, rfl⟩
          obtain ⟨z1, hz1⟩ : ∃ b, (ks.length == 1) = b := ⟨_, rfl⟩
          obtain ⟨zn, hzn⟩ : ∃ b, (n == 0) = b := ⟨_, rfl⟩
          rw [hz0] at e0
          rw [hz1] at e1
          have e0' : ((ks.length : Int) == 0) = z0 := e0
          have e1' : ((ks.length : Int) == 1) = z1 := e1
          clear e0 e1
          by_cases h1 : o = 1 ∨ o = 2 ∨ o = 8
          · have HF := Lib.hid (show okR (.mk o n ks) = (z0 && zn) by rw [okR, if_pos h1, hzn, hz0])
            clear hz0 hz1 e1'
            rcases h1 with rfl | rfl | rfl
            all_goals
              cases zn <;> cases z0
              all_goals
                go_wp2
                go_meet
                exact ⟨by rw [HF.out]; rfl, unhid_ HL⟩
          · by_cases h3 : o = 3
            · have HF := Lib.hid (show okR (.mk o n ks) = (z0 && decide (1 ≤ n) && decide (n ≤ 5)) by rw [okR, if_neg h1, if_pos h3, hz0])
              clear hz0 hz1 e1' hzn h1
              subst h3
              have hn : n < 1 ∨ (1 ≤ n ∧ 5 < n) ∨ (1 ≤ n ∧ n ≤ 5) := by omega
              rcases hn with hn | ⟨hn, hn2⟩ | ⟨hn, hn2⟩
              · cases z0
                all_goals
                  go_wp2
                  go_meet
                  exact ⟨by rw [HF.out, decide_eq_false (by omega : ¬ 1 ≤ n)]; rfl, unhid_ HL⟩
              · cases z0
                all_goals
                  go_wp2
                  go_meet
                  exact ⟨by rw [HF.out, decide_eq_true hn, decide_eq_false (by omega)]; rfl, unhid_ HL⟩
              · cases z0
                all_goals
                  go_wp2
                  go_meet
                  exact ⟨by rw [HF.out, decide_eq_true hn, decide_eq_true hn2]; rfl, unhid_ HL⟩
            · by_cases h4 : o = 4
              · have HF := Lib.hid (show okR (.mk o n ks) = (z0 && decide (0 ≤ n) && decide (n < 8)) by rw [okR, if_neg h1, if_neg h3, if_pos h4, hz0])
                clear hz0 hz1 e1' hzn h1 h3
                subst h4
                have hn : n < 0 ∨ (0 ≤ n ∧ 8 ≤ n) ∨ (0 ≤ n ∧ n < 8) := by omega
                rcases hn with hn | ⟨hn, hn2⟩ | ⟨hn, hn2⟩
                · cases z0
                  all_goals
                    go_wp2
                    go_meet
                    exact ⟨by rw [HF.out, decide_eq_false (by omega : ¬ 0 ≤ n)]; rfl, unhid_ HL⟩
                · cases z0
                  all_goals
                    go_wp2
                    go_meet
                    exact ⟨by rw [HF.out, decide_eq_true hn, decide_eq_false (by omega)]; rfl, unhid_ HL⟩
                · cases z0
                  all_goals
                    go_wp2
                    go_meet
                    exact ⟨by rw [HF.out, decide_eq_true hn, decide_eq_true hn2]; rfl, unhid_ HL⟩
              · by_cases h5 : o = 5
                · have HF := Lib.hid (show okR (.mk o n ks) = (z1 && zn) by rw [okR, if_neg h1, if_neg h3, if_neg h4, if_pos h5, hzn, hz1])
                  clear hz0 hz1 e0' h1 h3 h4
                  subst h5
                  cases zn <;> cases z1
                  all_goals
                    go_wp2
                    go_meet
                    exact ⟨by rw [HF.out]; rfl, unhid_ HL⟩
                · by_cases h6 : o = 6 ∨ o = 7
                  · have HF := Lib.hid (show okR (.mk o n ks) = (decide (2 ≤ ks.length) && zn) by rw [okR, if_neg h1, if_neg h3, if_neg h4, if_neg h5, if_pos h6, hzn])
                    clear hz0 hz1 e0' e1' h1 h3 h4 h5
                    by_cases hl : 2 ≤ ks.length
                    · have hlI : (2 : Int) ≤ ks.length := by omega
                      rcases h6 with rfl | rfl
                      all_goals
                        cases zn
                        all_goals
                          go_wp2
                          go_meet
                          exact ⟨by rw [HF.out, decide_eq_true hl]; rfl, unhid_ HL⟩
                    · have hlI : (ks.length : Int) < 2 := by omega
                      rcases h6 with rfl | rfl
                      all_goals
                        go_wp2
                        go_meet
                        exact ⟨by rw [HF.out, decide_eq_false hl]; rfl, unhid_ HL⟩
                  · have HF := Lib.hid (show okR (.mk o n ks) = false by rw [okR, if_neg h1, if_neg h3, if_neg h4, if_neg h5, if_neg h6])
                    have f1 : (o == 1) = false := by rw [beq_eq_false_iff_ne]; omega
                    have f2 : (o == 2) = false := by rw [beq_eq_false_iff_ne]; omega
                    have f8 : (o == 8) = false := by rw [beq_eq_false_iff_ne]; omega
                    have f3 : (o == 3) = false := by rw [beq_eq_false_iff_ne]; omega
                    have f4 : (o == 4) = false := by rw [beq_eq_false_iff_ne]; omega
                    have f5 : (o == 5) = false := by rw [beq_eq_false_iff_ne]; omega
                    have f6 : (o == 6) = false := by rw [beq_eq_false_iff_ne]; omega
                    have f7 : (o == 7) = false := by rw [beq_eq_false_iff_ne]; omega
                    clear hz0 hz1 e0' e1' h1 h3 h4 h5 h6 hzn
                    go_wp2
                    go_meet
                    exact ⟨by rw [HF.out], unhid_ HL⟩
        case rest =>
          rename_i wc
          obtain ⟨rfl, hlr⟩ := hcut
          obtain ⟨b0, hb0⟩ : ∃ b, okR (.mk o n ks) = b := ⟨_, rfl⟩
          have hF := HF.out
          rw [hb0] at hF ⊢
          have HLR := hide hlr
          have HF2 := Lib.hid (show lookF (.mk o n ks) m deep = if b0 = true then lookL o (ks.drop 0) (m + 1) (deep + 1) else (m + 1, false) from hF)
          clear hb0 hF HF hlr HL
          go_wp2_with fail
          go_loopw [8, 9] (fun s8 i wr => ∃ (k : Nat) (l : Int) (b : Bool), k ≤ ks.length ∧ i = .int .i64 k ∧ s8 = .bool b ∧ 0 ≤ l ∧ (b = true → l ≤ 40) ∧ lookF (.mk o n ks) m deep = (if b = true then lookL o (ks.drop k) l (deep + 1) else (l, false)) ∧ LookR g w.heap.size o n ks A c l w wr) (fun _ i _ => ks.length - (intOf i).toNat)
          case atStart => exact ⟨0, m + 1, b0, Nat.zero_le _, rfl, rfl, by omega, fun _ => by omega, HF2.out, unhid_ HLR⟩
          case round =>
            obtain ⟨k, l, b, hk, rfl, rfl, hl0, hl1, hto, hbg, hbx, hon⟩ := hrel
            have hsz := hon.size
            have b0' : wr.cell? ⟨w.heap.size, 0, none⟩ = some (.int .i64 o) := hbx.cell 0
            have b2 : wr.cell? ⟨w.heap.size, 2, none⟩ = some (.slice A ks.length c) := hbx.cell 2
            cases b with
            | false =>
              rw [if_neg (by decide)] at hto
              have HTO := Lib.hid hto
              have HBG := hide hbg
              have HON := hide hon
              clear hto hbg hbx hon HLR HF2
              by_cases hlt : k < ks.length
              · have hkI : (k : Int) < ks.length := by omega
                go_wp2
                go_ret
                exact rlookT_mk HTO.out (unhid_ HBG) (unhid_ HON)
              · have hkI : (ks.length : Int) ≤ k := by omega
                go_wp2
                go_ret
                exact rlookT_mk HTO.out (unhid_ HBG) (unhid_ HON)
            | true =>
              rw [if_pos rfl] at hto
              have hl40 := hl1 rfl
              by_cases hlt : k < ks.length
              · obtain ⟨ad, x, Ai, ci, rfl, hx, hxb, e0, e1, e2, hqx⟩ := ((unhid_ HQ).only hon (by omega) (by simp; omega)).at_ (i := k) hlt
                have hx' : ks[k]? = some x := hx
                have hd : ks.drop k = x :: ks.drop (k + 1) := by
                  rw [List.drop_eq_getElem_cons hlt, ← (List.getElem?_eq_some_iff.1 hx').2]
                have hszx : szQ x ≤ szL ks := szL_mem (List.mem_of_getElem? hx')
                rw [hd, lookL_cons] at hto
                obtain ⟨ox, nx, kx⟩ := x
                rw [szQ_mk] at hszx
                simp only [QT.op, QT.n, QT.kids] at e0 e1 e2
                have hkI : (k : Int) < ks.length := by omega
                have hblt : (ad.add (k * 3)).block < wr.drew.heap.size := by show _ < wr.heap.size; omega
                have hbne : (ad.add (k * 3)).block ≠ g := by omega
                have hdw : IntKind.i64.wrap (deep + 1) = deep + 1 := by rw [IntKind.wrap_i64]; omega
                have hneg : ¬ w.heap.size ∈ [g] := by simp; omega
                have HC := hide ((unhid_ HIH) wr.drew B0 B ox nx kx Ai ci (deep + 1) l g (by omega) (hqx.drewN 1) hBg hbg.drew hl0 hl40 (by omega) (by omega))
                have hbd := lookF_bd (.mk ox nx kx) l (deep + 1) hl0 hl40
                obtain ⟨r, hr⟩ : ∃ r, lookF (.mk ox nx kx) l (deep + 1) = r := ⟨_, rfl⟩
                rw [hr] at HC hbd hto
                obtain ⟨l', b⟩ := r
                simp only at hbd hto
                obtain ⟨hbd1, hbd2, hbd3⟩ := hbd
                have HBX2 := hide hbx
                have HON2 := hide hon
                have HEX := hide (show wr.cell? (ad.add (k * 3)) = some (.int .i64 ox) ∧ wr.cell? ⟨(ad.add (k * 3)).block, (ad.add (k * 3)).off + 1, none⟩ = some (.int .i64 nx) ∧ wr.cell? ⟨(ad.add (k * 3)).block, (ad.add (k * 3)).off + 2, none⟩ = some (.slice Ai kx.length ci) from ⟨e0, e1, e2⟩)
                cases b with
                | false =>
                  rw [Bool.false_and, if_neg (by decide)] at hto
                  have HTO := Lib.hid hto
                  clear hto hx hx' hd hr hqx hbg hbx hon HLR HF2
                  go_wp2_with fail
                  refine wp_region_held_drew (S := (fun w' => w'.cell? ⟨w.heap.size, 0, none⟩ = some (.int .i64 o) ∧ w'.cell? ⟨w.heap.size, 2, none⟩ = some (.slice (some ad) ks.length c) ∧ w'.cell? (ad.add (k * 3)) = some (.int .i64 ox) ∧ w'.cell? ⟨(ad.add (k * 3)).block, (ad.add (k * 3)).off + 1, none⟩ = some (.int .i64 nx) ∧ w'.cell? ⟨(ad.add (k * 3)).block, (ad.add (k * 3)).off + 2, none⟩ = some (.slice Ai kx.length ci))) (by kernel_rfl) ?_ (fun hHeld => ?_)
                  · exact ⟨b0', b2, e0, e1, e2⟩
                  refine wpAnyH_take (i := 0) (oi := ({ dst := some 94, op := Op.fieldAddr 24 (Operand.tmp 3) 2, type := 0, pos := _, after := #[], guard := none })) (v := ?_) rfl (by kernel_rfl) (by kernel_rfl) (by kernel_rfl) (fun _ _ _ h => h) (Or.inl ⟨by rfl, ?_⟩) (by assumption) ?_
                  rotate_left
                  · (intro wq hSw; (try dsimp only at hSw); go_simp; try with_reducible rfl)
                  try simp only [Act.put, List.setIfInBounds_toArray, List.set_cons_zero, List.set_cons_succ]
                  refine wpAnyH_take (i := 1) (oi := ({ dst := some 95, op := Op.load 22 (Operand.tmp 94), type := 22, pos := _, after := #[{ on := 0, ground := Ground.data }], guard := none })) (v := ?_) rfl (by kernel_rfl) (by kernel_rfl) (by kernel_rfl) (fun _ _ _ h => h) (Or.inl ⟨by rfl, ?_⟩) (by assumption) ?_
                  rotate_left
                  · (intro wq hSw; (try dsimp only at hSw); go_simp; try with_reducible rfl)
                  try simp only [Act.put, List.setIfInBounds_toArray, List.set_cons_zero, List.set_cons_succ]
                  refine wpAnyH_take (i := 2) (oi := ({ dst := some 96, op := Op.move (Operand.tmp 9), type := 3, pos := _, after := #[], guard := none })) (v := ?_) rfl (by kernel_rfl) (by kernel_rfl) (by kernel_rfl) (fun _ _ _ h => h) (Or.inl ⟨by rfl, ?_⟩) (by assumption) ?_
                  rotate_left
                  · (intro wq hSw; (try dsimp only at hSw); go_simp; try with_reducible rfl)
                  try simp only [Act.put, List.setIfInBounds_toArray, List.set_cons_zero, List.set_cons_succ]
                  refine wpAnyH_take (i := 3) (oi := ({ dst := some 97, op := Op.indexAddr 22 (Operand.tmp 95) (Operand.tmp 96), type := 0, pos := _, after := #[{ on := 1, ground := Ground.data }, { on := 2, ground := Ground.data }], guard := none })) (v := ?_) rfl (by kernel_rfl) (by kernel_rfl) (by kernel_rfl) (fun _ _ _ h => h) (Or.inl ⟨by rfl, ?_⟩) (by assumption) ?_
                  rotate_left
                  · (intro wq hSw; (try dsimp only at hSw); go_simp; try with_reducible rfl)
                  try simp only [Act.put, List.setIfInBounds_toArray, List.set_cons_zero, List.set_cons_succ]
                  refine wpAnyH_take (i := 4) (oi := ({ dst := some 98, op := Op.load 24 (Operand.tmp 97), type := 24, pos := _, after := #[{ on := 3, ground := Ground.data }], guard := none })) (v := ?_) rfl (by kernel_rfl) (by kernel_rfl) (by kernel_rfl) (fun _ _ _ h => h) (Or.inl ⟨by rfl, ?_⟩) (by assumption) ?_
                  rotate_left
                  · (intro wq hSw; (try dsimp only at hSw); go_simp; try with_reducible rfl)
                  try simp only [Act.put, List.setIfInBounds_toArray, List.set_cons_zero, List.set_cons_succ]
                  refine wpAnyH_take (i := 5) (oi := ({ dst := some 99, op := Op.move (Operand.tmp 1), type := 3, pos := _, after := #[], guard := none })) (v := ?_) rfl (by kernel_rfl) (by kernel_rfl) (by kernel_rfl) (fun _ _ _ h => h) (Or.inl ⟨by rfl, ?_⟩) (by assumption) ?_
                  rotate_left
                  · (intro wq hSw; (try dsimp only at hSw); go_simp; try with_reducible rfl)
                  try simp only [Act.put, List.setIfInBounds_toArray, List.set_cons_zero, List.set_cons_succ]
                  refine wpAnyH_take (i := 6) (oi := ({ dst := some 100, op := Op.binOp BinOp.add 3 (Operand.tmp 99) (Operand.const (Value.int IntKind.i64 1)) 3, type := 3, pos := _, after := #[{ on := 5, ground := Ground.data }], guard := none })) (v := ?_) rfl (by kernel_rfl) (by kernel_rfl) (by kernel_rfl) (fun _ _ _ h => h) (Or.inl ⟨by rfl, ?_⟩) (by assumption) ?_
                  rotate_left
                  · (intro wq hSw; (try dsimp only at hSw); go_simp; try with_reducible rfl)
                  try simp only [Act.put, List.setIfInBounds_toArray, List.set_cons_zero, List.set_cons_succ]
                  refine wpAnyH_take (i := 7) (oi := ({ dst := some 101, op := Op.move (Operand.tmp 2), type := 26, pos := _, after := #[], guard := none })) (v := ?_) rfl (by kernel_rfl) (by kernel_rfl) (by kernel_rfl) (fun _ _ _ h => h) (Or.inl ⟨by rfl, ?_⟩) (by assumption) ?_
                  rotate_left
                  · (intro wq hSw; (try dsimp only at hSw); go_simp; try with_reducible rfl)
                  try simp only [Act.put, List.setIfInBounds_toArray, List.set_cons_zero, List.set_cons_succ]
                  refine wpAnyH_ready (rs := [8]) (by kernel_rfl) (by simp) ?_
                  refine AllReadyH.cons (o := ({ dst := some 102, op := Op.call { callee := Callee.value (Operand.func 18), args := #[Operand.tmp 98, Operand.tmp 100, Operand.tmp 101], argTypes := #[24, 3, 26] }, type := 4, pos := _, after := #[{ on := 4, ground := Ground.data }, { on := 6, ground := Ground.data }, { on := 7, ground := Ground.data }], guard := none })) rfl (fun K hK => ?_) AllReadyH.nil
                  go_simp
                  refine (unhid_ HC).mono ?_
                  rintro e w' ⟨rfl, hbg', hon'⟩
                  have HS' := Lib.hid (kept_look (unhid_ HBX2) (unhid_ HEX) hon' hneg hblt hbne)
                  have HBG3 := hide hbg'
                  have HON3 := hide ((unhid_ HON2).drew.trans hon')
                  have HBX3 := hide (hon'.blk (unhid_ HBX2).drew hneg)
                  clear hbg' hon'
                  go_simp
                  refine hK.out _ _ ?_ (fun hHeld => ?_)
                  · exact HS'.out
                  clear hK K
                  try simp only [Act.put, List.setIfInBounds_toArray, List.set_cons_zero, List.set_cons_succ]
                  refine wpAnyH_take (i := 9) (oi := ({ dst := some 103, op := Op.move (Operand.tmp 102), type := 4, pos := _, after := #[{ on := 8, ground := Ground.data }, { on := 8, ground := Ground.chain }], guard := none })) (v := ?_) rfl (by kernel_rfl) (by kernel_rfl) (by kernel_rfl) (fun _ _ _ h => h) (Or.inl ⟨by rfl, ?_⟩) (by assumption) ?_
                  rotate_left
                  · (intro wq hSw; (try dsimp only at hSw); go_simp; try with_reducible rfl)
                  try simp only [Act.put, List.setIfInBounds_toArray, List.set_cons_zero, List.set_cons_succ]
                  refine wpAnyH_take (i := 10) (oi := ({ dst := some 104, op := Op.fieldAddr 24 (Operand.tmp 3) 2, type := 0, pos := _, after := #[{ on := 9, ground := Ground.guard }], guard := some (9, true) })) (v := undef) rfl (by kernel_rfl) (by kernel_rfl) (by kernel_rfl) (fun _ _ _ h => h) (Or.inr ⟨by rfl, rfl⟩) (by assumption) ?_
                  try simp only [Act.put, List.setIfInBounds_toArray, List.set_cons_zero, List.set_cons_succ]
                  refine wpAnyH_take (i := 11) (oi := ({ dst := some 105, op := Op.load 22 (Operand.tmp 104), type := 22, pos := _, after := #[{ on := 10, ground := Ground.data }, { on := 9, ground := Ground.guard }], guard := some (9, true) })) (v := undef) rfl (by kernel_rfl) (by kernel_rfl) (by kernel_rfl) (fun _ _ _ h => h) (Or.inr ⟨by rfl, rfl⟩) (by assumption) ?_
                  try simp only [Act.put, List.setIfInBounds_toArray, List.set_cons_zero, List.set_cons_succ]
                  refine wpAnyH_take (i := 12) (oi := ({ dst := some 106, op := Op.move (Operand.tmp 9), type := 3, pos := _, after := #[{ on := 9, ground := Ground.guard }], guard := some (9, true) })) (v := undef) rfl (by kernel_rfl) (by kernel_rfl) (by kernel_rfl) (fun _ _ _ h => h) (Or.inr ⟨by rfl, rfl⟩) (by assumption) ?_
                  try simp only [Act.put, List.setIfInBounds_toArray, List.set_cons_zero, List.set_cons_succ]
                  refine wpAnyH_take (i := 13) (oi := ({ dst := some 107, op := Op.indexAddr 22 (Operand.tmp 105) (Operand.tmp 106), type := 0, pos := _, after := #[{ on := 11, ground := Ground.data }, { on := 12, ground := Ground.data }, { on := 9, ground := Ground.guard }], guard := some (9, true) })) (v := undef) rfl (by kernel_rfl) (by kernel_rfl) (by kernel_rfl) (fun _ _ _ h => h) (Or.inr ⟨by rfl, rfl⟩) (by assumption) ?_
                  try simp only [Act.put, List.setIfInBounds_toArray, List.set_cons_zero, List.set_cons_succ]
                  refine wpAnyH_take (i := 14) (oi := ({ dst := some 108, op := Op.fieldAddr 24 (Operand.tmp 107) 0, type := 0, pos := _, after := #[{ on := 13, ground := Ground.data }, { on := 9, ground := Ground.guard }], guard := some (9, true) })) (v := undef) rfl (by kernel_rfl) (by kernel_rfl) (by kernel_rfl) (fun _ _ _ h => h) (Or.inr ⟨by rfl, rfl⟩) (by assumption) ?_
                  try simp only [Act.put, List.setIfInBounds_toArray, List.set_cons_zero, List.set_cons_succ]
                  refine wpAnyH_take (i := 15) (oi := ({ dst := some 109, op := Op.load 3 (Operand.tmp 108), type := 3, pos := _, after := #[{ on := 14, ground := Ground.data }, { on := 9, ground := Ground.guard }], guard := some (9, true) })) (v := undef) rfl (by kernel_rfl) (by kernel_rfl) (by kernel_rfl) (fun _ _ _ h => h) (Or.inr ⟨by rfl, rfl⟩) (by assumption) ?_
                  try simp only [Act.put, List.setIfInBounds_toArray, List.set_cons_zero, List.set_cons_succ]
                  refine wpAnyH_take (i := 16) (oi := ({ dst := some 110, op := Op.fieldAddr 24 (Operand.tmp 3) 0, type := 0, pos := _, after := #[{ on := 9, ground := Ground.guard }], guard := some (9, true) })) (v := undef) rfl (by kernel_rfl) (by kernel_rfl) (by kernel_rfl) (fun _ _ _ h => h) (Or.inr ⟨by rfl, rfl⟩) (by assumption) ?_
                  try simp only [Act.put, List.setIfInBounds_toArray, List.set_cons_zero, List.set_cons_succ]
                  refine wpAnyH_take (i := 17) (oi := ({ dst := some 111, op := Op.load 3 (Operand.tmp 110), type := 3, pos := _, after := #[{ on := 16, ground := Ground.data }, { on := 9, ground := Ground.guard }], guard := some (9, true) })) (v := undef) rfl (by kernel_rfl) (by kernel_rfl) (by kernel_rfl) (fun _ _ _ h => h) (Or.inr ⟨by rfl, rfl⟩) (by assumption) ?_
                  try simp only [Act.put, List.setIfInBounds_toArray, List.set_cons_zero, List.set_cons_succ]
                  refine wpAnyH_take (i := 18) (oi := ({ dst := some 112, op := Op.binOp BinOp.neq 3 (Operand.tmp 109) (Operand.tmp 111) 3, type := 4, pos := _, after := #[{ on := 15, ground := Ground.data }, { on := 17, ground := Ground.data }, { on := 9, ground := Ground.guard }], guard := some (9, true) })) (v := undef) rfl (by kernel_rfl) (by kernel_rfl) (by kernel_rfl) (fun _ _ _ h => h) (Or.inr ⟨by rfl, rfl⟩) (by assumption) ?_
                  try simp only [Act.put, List.setIfInBounds_toArray, List.set_cons_zero, List.set_cons_succ]
                  refine wpAnyH_take (i := 19) (oi := ({ dst := some 113, op := Op.move (Operand.tmp 112), type := 4, pos := _, after := #[{ on := 18, ground := Ground.data }, { on := 9, ground := Ground.chain }, { on := 9, ground := Ground.guard }], guard := some (9, true) })) (v := undef) rfl (by kernel_rfl) (by kernel_rfl) (by kernel_rfl) (fun _ _ _ h => h) (Or.inr ⟨by rfl, rfl⟩) (by assumption) ?_
                  try simp only [Act.put, List.setIfInBounds_toArray, List.set_cons_zero, List.set_cons_succ]
                  refine wpAnyH_take (i := 20) (oi := ({ dst := some 114, op := Op.fieldAddr 24 (Operand.tmp 3) 0, type := 0, pos := _, after := #[{ on := 19, ground := Ground.guard }], guard := some (19, false) })) (v := undef) rfl (by kernel_rfl) (by kernel_rfl) (by kernel_rfl) (fun _ _ _ h => h) (Or.inr ⟨by rfl, rfl⟩) (by assumption) ?_
                  try simp only [Act.put, List.setIfInBounds_toArray, List.set_cons_zero, List.set_cons_succ]
                  refine wpAnyH_take (i := 21) (oi := ({ dst := some 115, op := Op.load 3 (Operand.tmp 114), type := 3, pos := _, after := #[{ on := 20, ground := Ground.data }, { on := 19, ground := Ground.guard }], guard := some (19, false) })) (v := undef) rfl (by kernel_rfl) (by kernel_rfl) (by kernel_rfl) (fun _ _ _ h => h) (Or.inr ⟨by rfl, rfl⟩) (by assumption) ?_
                  try simp only [Act.put, List.setIfInBounds_toArray, List.set_cons_zero, List.set_cons_succ]
                  refine wpAnyH_take (i := 22) (oi := ({ dst := some 116, op := Op.binOp BinOp.eql 3 (Operand.tmp 115) (Operand.const (Value.int IntKind.i64 5)) 3, type := 4, pos := _, after := #[{ on := 21, ground := Ground.data }, { on := 19, ground := Ground.guard }], guard := some (19, false) })) (v := undef) rfl (by kernel_rfl) (by kernel_rfl) (by kernel_rfl) (fun _ _ _ h => h) (Or.inr ⟨by rfl, rfl⟩) (by assumption) ?_
                  try simp only [Act.put, List.setIfInBounds_toArray, List.set_cons_zero, List.set_cons_succ]
                  refine wpAnyH_take (i := 23) (oi := ({ dst := some 117, op := Op.pick (Operand.tmp 113) (Operand.const (Value.bool true)) (Operand.tmp 116), type := 4, pos := _, after := #[{ on := 19, ground := Ground.data }, { on := 22, ground := Ground.data }, { on := 9, ground := Ground.guard }], guard := some (9, true) })) (v := undef) rfl (by kernel_rfl) (by kernel_rfl) (by kernel_rfl) (fun _ _ _ h => h) (Or.inr ⟨by rfl, rfl⟩) (by assumption) ?_
                  try simp only [Act.put, List.setIfInBounds_toArray, List.set_cons_zero, List.set_cons_succ]
                  refine wpAnyH_take (i := 24) (oi := ({ dst := some 118, op := Op.pick (Operand.tmp 103) (Operand.tmp 117) (Operand.const (Value.bool false)), type := 4, pos := _, after := #[{ on := 9, ground := Ground.data }, { on := 23, ground := Ground.data }], guard := none })) (v := ?_) rfl (by kernel_rfl) (by kernel_rfl) (by kernel_rfl) (fun _ _ _ h => h) (Or.inl ⟨by rfl, ?_⟩) (by assumption) ?_
                  rotate_left
                  · (intro wq hSw; (try dsimp only at hSw); go_simp; try with_reducible rfl)
                  try simp only [Act.put, List.setIfInBounds_toArray, List.set_cons_zero, List.set_cons_succ]
                  refine wpAnyH_take (i := 25) (oi := ({ dst := some 8, op := Op.assign (Operand.tmp 118), type := 4, pos := _, after := #[{ on := 24, ground := Ground.data }, { on := 19, ground := Ground.chain }, { on := 0, ground := Ground.phase }, { on := 1, ground := Ground.phase }, { on := 2, ground := Ground.phase }, { on := 3, ground := Ground.phase }, { on := 4, ground := Ground.phase }, { on := 5, ground := Ground.phase }, { on := 6, ground := Ground.phase }, { on := 7, ground := Ground.phase }, { on := 8, ground := Ground.phase }, { on := 9, ground := Ground.phase }, { on := 10, ground := Ground.phase }, { on := 11, ground := Ground.phase }, { on := 12, ground := Ground.phase }, { on := 13, ground := Ground.phase }, { on := 14, ground := Ground.phase }, { on := 15, ground := Ground.phase }, { on := 16, ground := Ground.phase }, { on := 17, ground := Ground.phase }, { on := 18, ground := Ground.phase }, { on := 19, ground := Ground.phase }, { on := 20, ground := Ground.phase }, { on := 21, ground := Ground.phase }, { on := 22, ground := Ground.phase }, { on := 23, ground := Ground.phase }, { on := 24, ground := Ground.phase }], guard := none })) (v := ?_) rfl (by kernel_rfl) (by kernel_rfl) (by kernel_rfl) (fun _ _ _ h => h) (Or.inl ⟨by rfl, ?_⟩) (by assumption) ?_
                  rotate_left
                  · (intro wq hSw; (try dsimp only at hSw); go_simp; try with_reducible rfl)
                  try simp only [Act.put, List.setIfInBounds_toArray, List.set_cons_zero, List.set_cons_succ]
                  refine wpAnyH_done (by kernel_rfl) ?_ _
                  go_wp2_with fail
                  go_roundw
                  case rel => exact ⟨k + 1, l', false, by omega, by go_num, rfl, by omega, (fun h => by cases h), HTO.out, unhid_ HBG3, unhid_ HBX3, unhid_ HON3⟩
                  case measure => simp [intOf]; omega
                | true =>
                  have hb40 : l' ≤ 40 := hbd3 rfl
                  clear hbd3
                  obtain ⟨z, hz⟩ : ∃ z, (ox != o) = z := ⟨_, rfl⟩
                  obtain ⟨z5, hz5⟩ : ∃ z, (o == 5) = z := ⟨_, rfl⟩
                  rw [Bool.true_and, kidR, QT.op, hz, hz5] at hto
                  cases z with
                  | true =>
                    rw [Bool.true_or, if_pos rfl] at hto
                    have HTO := Lib.hid hto
                    clear hto hx hx' hd hr hqx hbg hbx hon HLR HF2 hz5
                    go_wp2_with fail
                    refine wp_region_held_drew (S := (fun w' => w'.cell? ⟨w.heap.size, 0, none⟩ = some (.int .i64 o) ∧ w'.cell? ⟨w.heap.size, 2, none⟩ = some (.slice (some ad) ks.length c) ∧ w'.cell? (ad.add (k * 3)) = some (.int .i64 ox) ∧ w'.cell? ⟨(ad.add (k * 3)).block, (ad.add (k * 3)).off + 1, none⟩ = some (.int .i64 nx) ∧ w'.cell? ⟨(ad.add (k * 3)).block, (ad.add (k * 3)).off + 2, none⟩ = some (.slice Ai kx.length ci))) (by kernel_rfl) ?_ (fun hHeld => ?_)
                    · exact ⟨b0', b2, e0, e1, e2⟩
                    refine wpAnyH_take (i := 0) (oi := ({ dst := some 94, op := Op.fieldAddr 24 (Operand.tmp 3) 2, type := 0, pos := _, after := #[], guard := none })) (v := ?_) rfl (by kernel_rfl) (by kernel_rfl) (by kernel_rfl) (fun _ _ _ h => h) (Or.inl ⟨by rfl, ?_⟩) (by assumption) ?_
                    rotate_left
                    · (intro wq hSw; (try dsimp only at hSw); go_simp; try with_reducible rfl)
                    try simp only [Act.put, List.setIfInBounds_toArray, List.set_cons_zero, List.set_cons_succ]
                    refine wpAnyH_take (i := 1) (oi := ({ dst := some 95, op := Op.load 22 (Operand.tmp 94), type := 22, pos := _, after := #[{ on := 0, ground := Ground.data }], guard := none })) (v := ?_) rfl (by kernel_rfl) (by kernel_rfl) (by kernel_rfl) (fun _ _ _ h => h) (Or.inl ⟨by rfl, ?_⟩) (by assumption) ?_
                    rotate_left
                    · (intro wq hSw; (try dsimp only at hSw); go_simp; try with_reducible rfl)
                    try simp only [Act.put, List.setIfInBounds_toArray, List.set_cons_zero, List.set_cons_succ]
                    refine wpAnyH_take (i := 2) (oi := ({ dst := some 96, op := Op.move (Operand.tmp 9), type := 3, pos := _, after := #[], guard := none })) (v := ?_) rfl (by kernel_rfl) (by kernel_rfl) (by kernel_rfl) (fun _ _ _ h => h) (Or.inl ⟨by rfl, ?_⟩) (by assumption) ?_
                    rotate_left
                    · (intro wq hSw; (try dsimp only at hSw); go_simp; try with_reducible rfl)
                    try simp only [Act.put, List.setIfInBounds_toArray, List.set_cons_zero, List.set_cons_succ]
                    refine wpAnyH_take (i := 3) (oi := ({ dst := some 97, op := Op.indexAddr 22 (Operand.tmp 95) (Operand.tmp 96), type := 0, pos := _, after := #[{ on := 1, ground := Ground.data }, { on := 2, ground := Ground.data }], guard := none })) (v := ?_) rfl (by kernel_rfl) (by kernel_rfl) (by kernel_rfl) (fun _ _ _ h => h) (Or.inl ⟨by rfl, ?_⟩) (by assumption) ?_
                    rotate_left
                    · (intro wq hSw; (try dsimp only at hSw); go_simp; try with_reducible rfl)
                    try simp only [Act.put, List.setIfInBounds_toArray, List.set_cons_zero, List.set_cons_succ]
                    refine wpAnyH_take (i := 4) (oi := ({ dst := some 98, op := Op.load 24 (Operand.tmp 97), type := 24, pos := _, after := #[{ on := 3, ground := Ground.data }], guard := none })) (v := ?_) rfl (by kernel_rfl) (by kernel_rfl) (by kernel_rfl) (fun _ _ _ h => h) (Or.inl ⟨by rfl, ?_⟩) (by assumption) ?_
                    rotate_left
                    · (intro wq hSw; (try dsimp only at hSw); go_simp; try with_reducible rfl)
                    try simp only [Act.put, List.setIfInBounds_toArray, List.set_cons_zero, List.set_cons_succ]
                    refine wpAnyH_take (i := 5) (oi := ({ dst := some 99, op := Op.move (Operand.tmp 1), type := 3, pos := _, after := #[], guard := none })) (v := ?_) rfl (by kernel_rfl) (by kernel_rfl) (by kernel_rfl) (fun _ _ _ h => h) (Or.inl ⟨by rfl, ?_⟩) (by assumption) ?_
                    rotate_left
                    · (intro wq hSw; (try dsimp only at hSw); go_simp; try with_reducible rfl)
                    try simp only [Act.put, List.setIfInBounds_toArray, List.set_cons_zero, List.set_cons_succ]
                    refine wpAnyH_take (i := 6) (oi := ({ dst := some 100, op := Op.binOp BinOp.add 3 (Operand.tmp 99) (Operand.const (Value.int IntKind.i64 1)) 3, type := 3, pos := _, after := #[{ on := 5, ground := Ground.data }], guard := none })) (v := ?_) rfl (by kernel_rfl) (by kernel_rfl) (by kernel_rfl) (fun _ _ _ h => h) (Or.inl ⟨by rfl, ?_⟩) (by assumption) ?_
                    rotate_left
                    · (intro wq hSw; (try dsimp only at hSw); go_simp; try with_reducible rfl)
                    try simp only [Act.put, List.setIfInBounds_toArray, List.set_cons_zero, List.set_cons_succ]
                    refine wpAnyH_take (i := 7) (oi := ({ dst := some 101, op := Op.move (Operand.tmp 2), type := 26, pos := _, after := #[], guard := none })) (v := ?_) rfl (by kernel_rfl) (by kernel_rfl) (by kernel_rfl) (fun _ _ _ h => h) (Or.inl ⟨by rfl, ?_⟩) (by assumption) ?_
                    rotate_left
                    · (intro wq hSw; (try dsimp only at hSw); go_simp; try with_reducible rfl)
                    try simp only [Act.put, List.setIfInBounds_toArray, List.set_cons_zero, List.set_cons_succ]
                    refine wpAnyH_ready (rs := [8]) (by kernel_rfl) (by simp) ?_
                    refine AllReadyH.cons (o := ({ dst := some 102, op := Op.call { callee := Callee.value (Operand.func 18), args := #[Operand.tmp 98, Operand.tmp 100, Operand.tmp 101], argTypes := #[24, 3, 26] }, type := 4, pos := _, after := #[{ on := 4, ground := Ground.data }, { on := 6, ground := Ground.data }, { on := 7, ground := Ground.data }], guard := none })) rfl (fun K hK => ?_) AllReadyH.nil
                    go_simp
                    refine (unhid_ HC).mono ?_
                    rintro e w' ⟨rfl, hbg', hon'⟩
                    have HS' := Lib.hid (kept_look (unhid_ HBX2) (unhid_ HEX) hon' hneg hblt hbne)
                    have HBG3 := hide hbg'
                    have HON3 := hide ((unhid_ HON2).drew.trans hon')
                    have HBX3 := hide (hon'.blk (unhid_ HBX2).drew hneg)
                    clear hbg' hon'
                    go_simp
                    refine hK.out _ _ ?_ (fun hHeld => ?_)
                    · exact HS'.out
                    clear hK K
                    try simp only [Act.put, List.setIfInBounds_toArray, List.set_cons_zero, List.set_cons_succ]
                    refine wpAnyH_take (i := 9) (oi := ({ dst := some 103, op := Op.move (Operand.tmp 102), type := 4, pos := _, after := #[{ on := 8, ground := Ground.data }, { on := 8, ground := Ground.chain }], guard := none })) (v := ?_) rfl (by kernel_rfl) (by kernel_rfl) (by kernel_rfl) (fun _ _ _ h => h) (Or.inl ⟨by rfl, ?_⟩) (by assumption) ?_
                    rotate_left
                    · (intro wq hSw; (try dsimp only at hSw); go_simp; try with_reducible rfl)
                    try simp only [Act.put, List.setIfInBounds_toArray, List.set_cons_zero, List.set_cons_succ]
                    refine wpAnyH_take (i := 10) (oi := ({ dst := some 104, op := Op.fieldAddr 24 (Operand.tmp 3) 2, type := 0, pos := _, after := #[{ on := 9, ground := Ground.guard }], guard := some (9, true) })) (v := ?_) rfl (by kernel_rfl) (by kernel_rfl) (by kernel_rfl) (fun _ _ _ h => h) (Or.inl ⟨by rfl, ?_⟩) (by assumption) ?_
                    rotate_left
                    · (intro wq hSw; (try dsimp only at hSw); go_simp; try with_reducible rfl)
                    try simp only [Act.put, List.setIfInBounds_toArray, List.set_cons_zero, List.set_cons_succ]
                    refine wpAnyH_take (i := 11) (oi := ({ dst := some 105, op := Op.load 22 (Operand.tmp 104), type := 22, pos := _, after := #[{ on := 10, ground := Ground.data }, { on := 9, ground := Ground.guard }], guard := some (9, true) })) (v := ?_) rfl (by kernel_rfl) (by kernel_rfl) (by kernel_rfl) (fun _ _ _ h => h) (Or.inl ⟨by rfl, ?_⟩) (by assumption) ?_
                    rotate_left
                    · (intro wq hSw; (try dsimp only at hSw); go_simp; try with_reducible rfl)
                    try simp only [Act.put, List.setIfInBounds_toArray, List.set_cons_zero, List.set_cons_succ]
                    refine wpAnyH_take (i := 12) (oi := ({ dst := some 106, op := Op.move (Operand.tmp 9), type := 3, pos := _, after := #[{ on := 9, ground := Ground.guard }], guard := some (9, true) })) (v := ?_) rfl (by kernel_rfl) (by kernel_rfl) (by kernel_rfl) (fun _ _ _ h => h) (Or.inl ⟨by rfl, ?_⟩) (by assumption) ?_
                    rotate_left
                    · (intro wq hSw; (try dsimp only at hSw); go_simp; try with_reducible rfl)
                    try simp only [Act.put, List.setIfInBounds_toArray, List.set_cons_zero, List.set_cons_succ]
                    refine wpAnyH_take (i := 13) (oi := ({ dst := some 107, op := Op.indexAddr 22 (Operand.tmp 105) (Operand.tmp 106), type := 0, pos := _, after := #[{ on := 11, ground := Ground.data }, { on := 12, ground := Ground.data }, { on := 9, ground := Ground.guard }], guard := some (9, true) })) (v := ?_) rfl (by kernel_rfl) (by kernel_rfl) (by kernel_rfl) (fun _ _ _ h => h) (Or.inl ⟨by rfl, ?_⟩) (by assumption) ?_
                    rotate_left
                    · (intro wq hSw; (try dsimp only at hSw); go_simp; try with_reducible rfl)
                    try simp only [Act.put, List.setIfInBounds_toArray, List.set_cons_zero, List.set_cons_succ]
                    refine wpAnyH_take (i := 14) (oi := ({ dst := some 108, op := Op.fieldAddr 24 (Operand.tmp 107) 0, type := 0, pos := _, after := #[{ on := 13, ground := Ground.data }, { on := 9, ground := Ground.guard }], guard := some (9, true) })) (v := ?_) rfl (by kernel_rfl) (by kernel_rfl) (by kernel_rfl) (fun _ _ _ h => h) (Or.inl ⟨by rfl, ?_⟩) (by assumption) ?_
                    rotate_left
                    · (intro wq hSw; (try dsimp only at hSw); go_simp; try with_reducible rfl)
                    try simp only [Act.put, List.setIfInBounds_toArray, List.set_cons_zero, List.set_cons_succ]
                    refine wpAnyH_take (i := 15) (oi := ({ dst := some 109, op := Op.load 3 (Operand.tmp 108), type := 3, pos := _, after := #[{ on := 14, ground := Ground.data }, { on := 9, ground := Ground.guard }], guard := some (9, true) })) (v := ?_) rfl (by kernel_rfl) (by kernel_rfl) (by kernel_rfl) (fun _ _ _ h => h) (Or.inl ⟨by rfl, ?_⟩) (by assumption) ?_
                    rotate_left
                    · (intro wq hSw; (try dsimp only at hSw); go_simp; try with_reducible rfl)
                    try simp only [Act.put, List.setIfInBounds_toArray, List.set_cons_zero, List.set_cons_succ]
                    refine wpAnyH_take (i := 16) (oi := ({ dst := some 110, op := Op.fieldAddr 24 (Operand.tmp 3) 0, type := 0, pos := _, after := #[{ on := 9, ground := Ground.guard }], guard := some (9, true) })) (v := ?_) rfl (by kernel_rfl) (by kernel_rfl) (by kernel_rfl) (fun _ _ _ h => h) (Or.inl ⟨by rfl, ?_⟩) (by assumption) ?_
                    rotate_left
                    · (intro wq hSw; (try dsimp only at hSw); go_simp; try with_reducible rfl)
                    try simp only [Act.put, List.setIfInBounds_toArray, List.set_cons_zero, List.set_cons_succ]
                    refine wpAnyH_take (i := 17) (oi := ({ dst := some 111, op := Op.load 3 (Operand.tmp 110), type := 3, pos := _, after := #[{ on := 16, ground := Ground.data }, { on := 9, ground := Ground.guard }], guard := some (9, true) })) (v := ?_) rfl (by kernel_rfl) (by kernel_rfl) (by kernel_rfl) (fun _ _ _ h => h) (Or.inl ⟨by rfl, ?_⟩) (by assumption) ?_
                    rotate_left
                    · (intro wq hSw; (try dsimp only at hSw); go_simp; try with_reducible rfl)
                    try simp only [Act.put, List.setIfInBounds_toArray, List.set_cons_zero, List.set_cons_succ]
                    refine wpAnyH_take (i := 18) (oi := ({ dst := some 112, op := Op.binOp BinOp.neq 3 (Operand.tmp 109) (Operand.tmp 111) 3, type := 4, pos := _, after := #[{ on := 15, ground := Ground.data }, { on := 17, ground := Ground.data }, { on := 9, ground := Ground.guard }], guard := some (9, true) })) (v := ?_) rfl (by kernel_rfl) (by kernel_rfl) (by kernel_rfl) (fun _ _ _ h => h) (Or.inl ⟨by rfl, ?_⟩) (by assumption) ?_
                    rotate_left
                    · (intro wq hSw; (try dsimp only at hSw); go_simp; try with_reducible rfl)
                    try simp only [Act.put, List.setIfInBounds_toArray, List.set_cons_zero, List.set_cons_succ]
                    refine wpAnyH_take (i := 19) (oi := ({ dst := some 113, op := Op.move (Operand.tmp 112), type := 4, pos := _, after := #[{ on := 18, ground := Ground.data }, { on := 9, ground := Ground.chain }, { on := 9, ground := Ground.guard }], guard := some (9, true) })) (v := ?_) rfl (by kernel_rfl) (by kernel_rfl) (by kernel_rfl) (fun _ _ _ h => h) (Or.inl ⟨by rfl, ?_⟩) (by assumption) ?_
                    rotate_left
                    · (intro wq hSw; (try dsimp only at hSw); go_simp; try with_reducible rfl)
                    try simp only [Act.put, List.setIfInBounds_toArray, List.set_cons_zero, List.set_cons_succ]
                    refine wpAnyH_take (i := 20) (oi := ({ dst := some 114, op := Op.fieldAddr 24 (Operand.tmp 3) 0, type := 0, pos := _, after := #[{ on := 19, ground := Ground.guard }], guard := some (19, false) })) (v := undef) rfl (by kernel_rfl) (by kernel_rfl) (by kernel_rfl) (fun _ _ _ h => h) (Or.inr ⟨by rfl, rfl⟩) (by assumption) ?_
                    try simp only [Act.put, List.setIfInBounds_toArray, List.set_cons_zero, List.set_cons_succ]
                    refine wpAnyH_take (i := 21) (oi := ({ dst := some 115, op := Op.load 3 (Operand.tmp 114), type := 3, pos := _, after := #[{ on := 20, ground := Ground.data }, { on := 19, ground := Ground.guard }], guard := some (19, false) })) (v := undef) rfl (by kernel_rfl) (by kernel_rfl) (by kernel_rfl) (fun _ _ _ h => h) (Or.inr ⟨by rfl, rfl⟩) (by assumption) ?_
                    try simp only [Act.put, List.setIfInBounds_toArray, List.set_cons_zero, List.set_cons_succ]
                    refine wpAnyH_take (i := 22) (oi := ({ dst := some 116, op := Op.binOp BinOp.eql 3 (Operand.tmp 115) (Operand.const (Value.int IntKind.i64 5)) 3, type := 4, pos := _, after := #[{ on := 21, ground := Ground.data }, { on := 19, ground := Ground.guard }], guard := some (19, false) })) (v := undef) rfl (by kernel_rfl) (by kernel_rfl) (by kernel_rfl) (fun _ _ _ h => h) (Or.inr ⟨by rfl, rfl⟩) (by assumption) ?_
                    try simp only [Act.put, List.setIfInBounds_toArray, List.set_cons_zero, List.set_cons_succ]
                    refine wpAnyH_take (i := 23) (oi := ({ dst := some 117, op := Op.pick (Operand.tmp 113) (Operand.const (Value.bool true)) (Operand.tmp 116), type := 4, pos := _, after := #[{ on := 19, ground := Ground.data }, { on := 22, ground := Ground.data }, { on := 9, ground := Ground.guard }], guard := some (9, true) })) (v := ?_) rfl (by kernel_rfl) (by kernel_rfl) (by kernel_rfl) (fun _ _ _ h => h) (Or.inl ⟨by rfl, ?_⟩) (by assumption) ?_
                    rotate_left
                    · (intro wq hSw; (try dsimp only at hSw); go_simp; try with_reducible rfl)
                    try simp only [Act.put, List.setIfInBounds_toArray, List.set_cons_zero, List.set_cons_succ]
                    refine wpAnyH_take (i := 24) (oi := ({ dst := some 118, op := Op.pick (Operand.tmp 103) (Operand.tmp 117) (Operand.const (Value.bool false)), type := 4, pos := _, after := #[{ on := 9, ground := Ground.data }, { on := 23, ground := Ground.data }], guard := none })) (v := ?_) rfl (by kernel_rfl) (by kernel_rfl) (by kernel_rfl) (fun _ _ _ h => h) (Or.inl ⟨by rfl, ?_⟩) (by assumption) ?_
                    rotate_left
                    · (intro wq hSw; (try dsimp only at hSw); go_simp; try with_reducible rfl)
                    try simp only [Act.put, List.setIfInBounds_toArray, List.set_cons_zero, List.set_cons_succ]
                    refine wpAnyH_take (i := 25) (oi := ({ dst := some 8, op := Op.assign (Operand.tmp 118), type := 4, pos := _, after := #[{ on := 24, ground := Ground.data }, { on := 19, ground := Ground.chain }, { on := 0, ground := Ground.phase }, { on := 1, ground := Ground.phase }, { on := 2, ground := Ground.phase }, { on := 3, ground := Ground.phase }, { on := 4, ground := Ground.phase }, { on := 5, ground := Ground.phase }, { on := 6, ground := Ground.phase }, { on := 7, ground := Ground.phase }, { on := 8, ground := Ground.phase }, { on := 9, ground := Ground.phase }, { on := 10, ground := Ground.phase }, { on := 11, ground := Ground.phase }, { on := 12, ground := Ground.phase }, { on := 13, ground := Ground.phase }, { on := 14, ground := Ground.phase }, { on := 15, ground := Ground.phase }, { on := 16, ground := Ground.phase }, { on := 17, ground := Ground.phase }, { on := 18, ground := Ground.phase }, { on := 19, ground := Ground.phase }, { on := 20, ground := Ground.phase }, { on := 21, ground := Ground.phase }, { on := 22, ground := Ground.phase }, { on := 23, ground := Ground.phase }, { on := 24, ground := Ground.phase }], guard := none })) (v := ?_) rfl (by kernel_rfl) (by kernel_rfl) (by kernel_rfl) (fun _ _ _ h => h) (Or.inl ⟨by rfl, ?_⟩) (by assumption) ?_
                    rotate_left
                    · (intro wq hSw; (try dsimp only at hSw); go_simp; try with_reducible rfl)
                    try simp only [Act.put, List.setIfInBounds_toArray, List.set_cons_zero, List.set_cons_succ]
                    refine wpAnyH_done (by kernel_rfl) ?_ _
                    go_wp2_with fail
                    go_roundw
                    case rel => exact ⟨k + 1, l', true, by omega, by go_num, rfl, by omega, fun h => hb40, HTO.out, unhid_ HBG3, unhid_ HBX3, unhid_ HON3⟩
                    case measure => simp [intOf]; omega
                  | false =>
                    cases z5 with
                    | true =>
                      rw [Bool.false_or, if_pos rfl] at hto
                      have HTO := Lib.hid hto
                      clear hto hx hx' hd hr hqx hbg hbx hon HLR HF2
                      go_wp2_with fail
                      refine wp_region_held_drew (S := (fun w' => w'.cell? ⟨w.heap.size, 0, none⟩ = some (.int .i64 o) ∧ w'.cell? ⟨w.heap.size, 2, none⟩ = some (.slice (some ad) ks.length c) ∧ w'.cell? (ad.add (k * 3)) = some (.int .i64 ox) ∧ w'.cell? ⟨(ad.add (k * 3)).block, (ad.add (k * 3)).off + 1, none⟩ = some (.int .i64 nx) ∧ w'.cell? ⟨(ad.add (k * 3)).block, (ad.add (k * 3)).off + 2, none⟩ = some (.slice Ai kx.length ci))) (by kernel_rfl) ?_ (fun hHeld => ?_)
                      · exact ⟨b0', b2, e0, e1, e2⟩
                      refine wpAnyH_take (i := 0) (oi := ({ dst := some 94, op := Op.fieldAddr 24 (Operand.tmp 3) 2, type := 0, pos := _, after := #[], guard := none })) (v := ?_) rfl (by kernel_rfl) (by kernel_rfl) (by kernel_rfl) (fun _ _ _ h => h) (Or.inl ⟨by rfl, ?_⟩) (by assumption) ?_
                      rotate_left
                      · (intro wq hSw; (try dsimp only at hSw); go_simp; try with_reducible rfl)
                      try simp only [Act.put, List.setIfInBounds_toArray, List.set_cons_zero, List.set_cons_succ]
                      refine wpAnyH_take (i := 1) (oi := ({ dst := some 95, op := Op.load 22 (Operand.tmp 94), type := 22, pos := _, after := #[{ on := 0, ground := Ground.data }], guard := none })) (v := ?_) rfl (by kernel_rfl) (by kernel_rfl) (by kernel_rfl) (fun _ _ _ h => h) (Or.inl ⟨by rfl, ?_⟩) (by assumption) ?_
                      rotate_left
                      · (intro wq hSw; (try dsimp only at hSw); go_simp; try with_reducible rfl)
                      try simp only [Act.put, List.setIfInBounds_toArray, List.set_cons_zero, List.set_cons_succ]
                      refine wpAnyH_take (i := 2) (oi := ({ dst := some 96, op := Op.move (Operand.tmp 9), type := 3, pos := _, after := #[], guard := none })) (v := ?_) rfl (by kernel_rfl) (by kernel_rfl) (by kernel_rfl) (fun _ _ _ h => h) (Or.inl ⟨by rfl, ?_⟩) (by assumption) ?_
                      rotate_left
                      · (intro wq hSw; (try dsimp only at hSw); go_simp; try with_reducible rfl)
                      try simp only [Act.put, List.setIfInBounds_toArray, List.set_cons_zero, List.set_cons_succ]
                      refine wpAnyH_take (i := 3) (oi := ({ dst := some 97, op := Op.indexAddr 22 (Operand.tmp 95) (Operand.tmp 96), type := 0, pos := _, after := #[{ on := 1, ground := Ground.data }, { on := 2, ground := Ground.data }], guard := none })) (v := ?_) rfl (by kernel_rfl) (by kernel_rfl) (by kernel_rfl) (fun _ _ _ h => h) (Or.inl ⟨by rfl, ?_⟩) (by assumption) ?_
                      rotate_left
                      · (intro wq hSw; (try dsimp only at hSw); go_simp; try with_reducible rfl)
                      try simp only [Act.put, List.setIfInBounds_toArray, List.set_cons_zero, List.set_cons_succ]
                      refine wpAnyH_take (i := 4) (oi := ({ dst := some 98, op := Op.load 24 (Operand.tmp 97), type := 24, pos := _, after := #[{ on := 3, ground := Ground.data }], guard := none })) (v := ?_) rfl (by kernel_rfl) (by kernel_rfl) (by kernel_rfl) (fun _ _ _ h => h) (Or.inl ⟨by rfl, ?_⟩) (by assumption) ?_
                      rotate_left
                      · (intro wq hSw; (try dsimp only at hSw); go_simp; try with_reducible rfl)
                      try simp only [Act.put, List.setIfInBounds_toArray, List.set_cons_zero, List.set_cons_succ]
                      refine wpAnyH_take (i := 5) (oi := ({ dst := some 99, op := Op.move (Operand.tmp 1), type := 3, pos := _, after := #[], guard := none })) (v := ?_) rfl (by kernel_rfl) (by kernel_rfl) (by kernel_rfl) (fun _ _ _ h => h) (Or.inl ⟨by rfl, ?_⟩) (by assumption) ?_
                      rotate_left
                      · (intro wq hSw; (try dsimp only at hSw); go_simp; try with_reducible rfl)
                      try simp only [Act.put, List.setIfInBounds_toArray, List.set_cons_zero, List.set_cons_succ]
                      refine wpAnyH_take (i := 6) (oi := ({ dst := some 100, op := Op.binOp BinOp.add 3 (Operand.tmp 99) (Operand.const (Value.int IntKind.i64 1)) 3, type := 3, pos := _, after := #[{ on := 5, ground := Ground.data }], guard := none })) (v := ?_) rfl (by kernel_rfl) (by kernel_rfl) (by kernel_rfl) (fun _ _ _ h => h) (Or.inl ⟨by rfl, ?_⟩) (by assumption) ?_
                      rotate_left
                      · (intro wq hSw; (try dsimp only at hSw); go_simp; try with_reducible rfl)
                      try simp only [Act.put, List.setIfInBounds_toArray, List.set_cons_zero, List.set_cons_succ]
                      refine wpAnyH_take (i := 7) (oi := ({ dst := some 101, op := Op.move (Operand.tmp 2), type := 26, pos := _, after := #[], guard := none })) (v := ?_) rfl (by kernel_rfl) (by kernel_rfl) (by kernel_rfl) (fun _ _ _ h => h) (Or.inl ⟨by rfl, ?_⟩) (by assumption) ?_
                      rotate_left
                      · (intro wq hSw; (try dsimp only at hSw); go_simp; try with_reducible rfl)
                      try simp only [Act.put, List.setIfInBounds_toArray, List.set_cons_zero, List.set_cons_succ]
                      refine wpAnyH_ready (rs := [8]) (by kernel_rfl) (by simp) ?_
                      refine AllReadyH.cons (o := ({ dst := some 102, op := Op.call { callee := Callee.value (Operand.func 18), args := #[Operand.tmp 98, Operand.tmp 100, Operand.tmp 101], argTypes := #[24, 3, 26] }, type := 4, pos := _, after := #[{ on := 4, ground := Ground.data }, { on := 6, ground := Ground.data }, { on := 7, ground := Ground.data }], guard := none })) rfl (fun K hK => ?_) AllReadyH.nil
                      go_simp
                      refine (unhid_ HC).mono ?_
                      rintro e w' ⟨rfl, hbg', hon'⟩
                      have HS' := Lib.hid (kept_look (unhid_ HBX2) (unhid_ HEX) hon' hneg hblt hbne)
                      have HBG3 := hide hbg'
                      have HON3 := hide ((unhid_ HON2).drew.trans hon')
                      have HBX3 := hide (hon'.blk (unhid_ HBX2).drew hneg)
                      clear hbg' hon'
                      go_simp
                      refine hK.out _ _ ?_ (fun hHeld => ?_)
                      · exact HS'.out
                      clear hK K
                      try simp only [Act.put, List.setIfInBounds_toArray, List.set_cons_zero, List.set_cons_succ]
                      refine wpAnyH_take (i := 9) (oi := ({ dst := some 103, op := Op.move (Operand.tmp 102), type := 4, pos := _, after := #[{ on := 8, ground := Ground.data }, { on := 8, ground := Ground.chain }], guard := none })) (v := ?_) rfl (by kernel_rfl) (by kernel_rfl) (by kernel_rfl) (fun _ _ _ h => h) (Or.inl ⟨by rfl, ?_⟩) (by assumption) ?_
                      rotate_left
                      · (intro wq hSw; (try dsimp only at hSw); go_simp; try with_reducible rfl)
                      try simp only [Act.put, List.setIfInBounds_toArray, List.set_cons_zero, List.set_cons_succ]
                      refine wpAnyH_take (i := 10) (oi := ({ dst := some 104, op := Op.fieldAddr 24 (Operand.tmp 3) 2, type := 0, pos := _, after := #[{ on := 9, ground := Ground.guard }], guard := some (9, true) })) (v := ?_) rfl (by kernel_rfl) (by kernel_rfl) (by kernel_rfl) (fun _ _ _ h => h) (Or.inl ⟨by rfl, ?_⟩) (by assumption) ?_
                      rotate_left
                      · (intro wq hSw; (try dsimp only at hSw); go_simp; try with_reducible rfl)
                      try simp only [Act.put, List.setIfInBounds_toArray, List.set_cons_zero, List.set_cons_succ]
                      refine wpAnyH_take (i := 11) (oi := ({ dst := some 105, op := Op.load 22 (Operand.tmp 104), type := 22, pos := _, after := #[{ on := 10, ground := Ground.data }, { on := 9, ground := Ground.guard }], guard := some (9, true) })) (v := ?_) rfl (by kernel_rfl) (by kernel_rfl) (by kernel_rfl) (fun _ _ _ h => h) (Or.inl ⟨by rfl, ?_⟩) (by assumption) ?_
                      rotate_left
                      · (intro wq hSw; (try dsimp only at hSw); go_simp; try with_reducible rfl)
                      try simp only [Act.put, List.setIfInBounds_toArray, List.set_cons_zero, List.set_cons_succ]
                      refine wpAnyH_take (i := 12) (oi := ({ dst := some 106, op := Op.move (Operand.tmp 9), type := 3, pos := _, after := #[{ on := 9, ground := Ground.guard }], guard := some (9, true) })) (v := ?_) rfl (by kernel_rfl) (by kernel_rfl) (by kernel_rfl) (fun _ _ _ h => h) (Or.inl ⟨by rfl, ?_⟩) (by assumption) ?_
                      rotate_left
                      · (intro wq hSw; (try dsimp only at hSw); go_simp; try with_reducible rfl)
                      try simp only [Act.put, List.setIfInBounds_toArray, List.set_cons_zero, List.set_cons_succ]
                      refine wpAnyH_take (i := 13) (oi := ({ dst := some 107, op := Op.indexAddr 22 (Operand.tmp 105) (Operand.tmp 106), type := 0, pos := _, after := #[{ on := 11, ground := Ground.data }, { on := 12, ground := Ground.data }, { on := 9, ground := Ground.guard }], guard := some (9, true) })) (v := ?_) rfl (by kernel_rfl) (by kernel_rfl) (by kernel_rfl) (fun _ _ _ h => h) (Or.inl ⟨by rfl, ?_⟩) (by assumption) ?_
                      rotate_left
                      · (intro wq hSw; (try dsimp only at hSw); go_simp; try with_reducible rfl)
                      try simp only [Act.put, List.setIfInBounds_toArray, List.set_cons_zero, List.set_cons_succ]
                      refine wpAnyH_take (i := 14) (oi := ({ dst := some 108, op := Op.fieldAddr 24 (Operand.tmp 107) 0, type := 0, pos := _, after := #[{ on := 13, ground := Ground.data }, { on := 9, ground := Ground.guard }], guard := some (9, true) })) (v := ?_) rfl (by kernel_rfl) (by kernel_rfl) (by kernel_rfl) (fun _ _ _ h => h) (Or.inl ⟨by rfl, ?_⟩) (by assumption) ?_
                      rotate_left
                      · (intro wq hSw; (try dsimp only at hSw); go_simp; try with_reducible rfl)
                      try simp only [Act.put, List.setIfInBounds_toArray, List.set_cons_zero, List.set_cons_succ]
                      refine wpAnyH_take (i := 15) (oi := ({ dst := some 109, op := Op.load 3 (Operand.tmp 108), type := 3, pos := _, after := #[{ on := 14, ground := Ground.data }, { on := 9, ground := Ground.guard }], guard := some (9, true) })) (v := ?_) rfl (by kernel_rfl) (by kernel_rfl) (by kernel_rfl) (fun _ _ _ h => h) (Or.inl ⟨by rfl, ?_⟩) (by assumption) ?_
                      rotate_left
                      · (intro wq hSw; (try dsimp only at hSw); go_simp; try with_reducible rfl)
                      try simp only [Act.put, List.setIfInBounds_toArray, List.set_cons_zero, List.set_cons_succ]
                      refine wpAnyH_take (i := 16) (oi := ({ dst := some 110, op := Op.fieldAddr 24 (Operand.tmp 3) 0, type := 0, pos := _, after := #[{ on := 9, ground := Ground.guard }], guard := some (9, true) })) (v := ?_) rfl (by kernel_rfl) (by kernel_rfl) (by kernel_rfl) (fun _ _ _ h => h) (Or.inl ⟨by rfl, ?_⟩) (by assumption) ?_
                      rotate_left
                      · (intro wq hSw; (try dsimp only at hSw); go_simp; try with_reducible rfl)
                      try simp only [Act.put, List.setIfInBounds_toArray, List.set_cons_zero, List.set_cons_succ]
                      refine wpAnyH_take (i := 17) (oi := ({ dst := some 111, op := Op.load 3 (Operand.tmp 110), type := 3, pos := _, after := #[{ on := 16, ground := Ground.data }, { on := 9, ground := Ground.guard }], guard := some (9, true) })) (v := ?_) rfl (by kernel_rfl) (by kernel_rfl) (by kernel_rfl) (fun _ _ _ h => h) (Or.inl ⟨by rfl, ?_⟩) (by assumption) ?_
                      rotate_left
                      · (intro wq hSw; (try dsimp only at hSw); go_simp; try with_reducible rfl)
                      try simp only [Act.put, List.setIfInBounds_toArray, List.set_cons_zero, List.set_cons_succ]
                      refine wpAnyH_take (i := 18) (oi := ({ dst := some 112, op := Op.binOp BinOp.neq 3 (Operand.tmp 109) (Operand.tmp 111) 3, type := 4, pos := _, after := #[{ on := 15, ground := Ground.data }, { on := 17, ground := Ground.data }, { on := 9, ground := Ground.guard }], guard := some (9, true) })) (v := ?_) rfl (by kernel_rfl) (by kernel_rfl) (by kernel_rfl) (fun _ _ _ h => h) (Or.inl ⟨by rfl, ?_⟩) (by assumption) ?_
                      rotate_left
                      · (intro wq hSw; (try dsimp only at hSw); go_simp; try with_reducible rfl)
                      try simp only [Act.put, List.setIfInBounds_toArray, List.set_cons_zero, List.set_cons_succ]
                      refine wpAnyH_take (i := 19) (oi := ({ dst := some 113, op := Op.move (Operand.tmp 112), type := 4, pos := _, after := #[{ on := 18, ground := Ground.data }, { on := 9, ground := Ground.chain }, { on := 9, ground := Ground.guard }], guard := some (9, true) })) (v := ?_) rfl (by kernel_rfl) (by kernel_rfl) (by kernel_rfl) (fun _ _ _ h => h) (Or.inl ⟨by rfl, ?_⟩) (by assumption) ?_
                      rotate_left
                      · (intro wq hSw; (try dsimp only at hSw); go_simp; try with_reducible rfl)
                      try simp only [Act.put, List.setIfInBounds_toArray, List.set_cons_zero, List.set_cons_succ]
                      refine wpAnyH_take (i := 20) (oi := ({ dst := some 114, op := Op.fieldAddr 24 (Operand.tmp 3) 0, type := 0, pos := _, after := #[{ on := 19, ground := Ground.guard }], guard := some (19, false) })) (v := ?_) rfl (by kernel_rfl) (by kernel_rfl) (by kernel_rfl) (fun _ _ _ h => h) (Or.inl ⟨by rfl, ?_⟩) (by assumption) ?_
                      rotate_left
                      · (intro wq hSw; (try dsimp only at hSw); go_simp; try with_reducible rfl)
                      try simp only [Act.put, List.setIfInBounds_toArray, List.set_cons_zero, List.set_cons_succ]
                      refine wpAnyH_take (i := 21) (oi := ({ dst := some 115, op := Op.load 3 (Operand.tmp 114), type := 3, pos := _, after := #[{ on := 20, ground := Ground.data }, { on := 19, ground := Ground.guard }], guard := some (19, false) })) (v := ?_) rfl (by kernel_rfl) (by kernel_rfl) (by kernel_rfl) (fun _ _ _ h => h) (Or.inl ⟨by rfl, ?_⟩) (by assumption) ?_
                      rotate_left
                      · (intro wq hSw; (try dsimp only at hSw); go_simp; try with_reducible rfl)
                      try simp only [Act.put, List.setIfInBounds_toArray, List.set_cons_zero, List.set_cons_succ]
                      refine wpAnyH_take (i := 22) (oi := ({ dst := some 116, op := Op.binOp BinOp.eql 3 (Operand.tmp 115) (Operand.const (Value.int IntKind.i64 5)) 3, type := 4, pos := _, after := #[{ on := 21, ground := Ground.data }, { on := 19, ground := Ground.guard }], guard := some (19, false) })) (v := ?_) rfl (by kernel_rfl) (by kernel_rfl) (by kernel_rfl) (fun _ _ _ h => h) (Or.inl ⟨by rfl, ?_⟩) (by assumption) ?_
                      rotate_left
                      · (intro wq hSw; (try dsimp only at hSw); go_simp; try with_reducible rfl)
                      try simp only [Act.put, List.setIfInBounds_toArray, List.set_cons_zero, List.set_cons_succ]
                      refine wpAnyH_take (i := 23) (oi := ({ dst := some 117, op := Op.pick (Operand.tmp 113) (Operand.const (Value.bool true)) (Operand.tmp 116), type := 4, pos := _, after := #[{ on := 19, ground := Ground.data }, { on := 22, ground := Ground.data }, { on := 9, ground := Ground.guard }], guard := some (9, true) })) (v := ?_) rfl (by kernel_rfl) (by kernel_rfl) (by kernel_rfl) (fun _ _ _ h => h) (Or.inl ⟨by rfl, ?_⟩) (by assumption) ?_
                      rotate_left
                      · (intro wq hSw; (try dsimp only at hSw); go_simp; try with_reducible rfl)
                      try simp only [Act.put, List.setIfInBounds_toArray, List.set_cons_zero, List.set_cons_succ]
                      refine wpAnyH_take (i := 24) (oi := ({ dst := some 118, op := Op.pick (Operand.tmp 103) (Operand.tmp 117) (Operand.const (Value.bool false)), type := 4, pos := _, after := #[{ on := 9, ground := Ground.data }, { on := 23, ground := Ground.data }], guard := none })) (v := ?_) rfl (by kernel_rfl) (by kernel_rfl) (by kernel_rfl) (fun _ _ _ h => h) (Or.inl ⟨by rfl, ?_⟩) (by assumption) ?_
                      rotate_left
                      · (intro wq hSw; (try dsimp only at hSw); go_simp; try with_reducible rfl)
                      try simp only [Act.put, List.setIfInBounds_toArray, List.set_cons_zero, List.set_cons_succ]
                      refine wpAnyH_take (i := 25) (oi := ({ dst := some 8, op := Op.assign (Operand.tmp 118), type := 4, pos := _, after := #[{ on := 24, ground := Ground.data }, { on := 19, ground := Ground.chain }, { on := 0, ground := Ground.phase }, { on := 1, ground := Ground.phase }, { on := 2, ground := Ground.phase }, { on := 3, ground := Ground.phase }, { on := 4, ground := Ground.phase }, { on := 5, ground := Ground.phase }, { on := 6, ground := Ground.phase }, { on := 7, ground := Ground.phase }, { on := 8, ground := Ground.phase }, { on := 9, ground := Ground.phase }, { on := 10, ground := Ground.phase }, { on := 11, ground := Ground.phase }, { on := 12, ground := Ground.phase }, { on := 13, ground := Ground.phase }, { on := 14, ground := Ground.phase }, { on := 15, ground := Ground.phase }, { on := 16, ground := Ground.phase }, { on := 17, ground := Ground.phase }, { on := 18, ground := Ground.phase }, { on := 19, ground := Ground.phase }, { on := 20, ground := Ground.phase }, { on := 21, ground := Ground.phase }, { on := 22, ground := Ground.phase }, { on := 23, ground := Ground.phase }, { on := 24, ground := Ground.phase }], guard := none })) (v := ?_) rfl (by kernel_rfl) (by kernel_rfl) (by kernel_rfl) (fun _ _ _ h => h) (Or.inl ⟨by rfl, ?_⟩) (by assumption) ?_
                      rotate_left
                      · (intro wq hSw; (try dsimp only at hSw); go_simp; try with_reducible rfl)
                      try simp only [Act.put, List.setIfInBounds_toArray, List.set_cons_zero, List.set_cons_succ]
                      refine wpAnyH_done (by kernel_rfl) ?_ _
                      go_wp2_with fail
                      go_roundw
                      case rel => exact ⟨k + 1, l', true, by omega, by go_num, rfl, by omega, fun h => hb40, HTO.out, unhid_ HBG3, unhid_ HBX3, unhid_ HON3⟩
                      case measure => simp [intOf]; omega
                    | false =>
                      rw [Bool.false_or, if_neg (by decide)] at hto
                      have HTO := Lib.hid hto
                      clear hto hx hx' hd hr hqx hbg hbx hon HLR HF2
                      go_wp2_with fail
                      refine wp_region_held_drew (S := (fun w' => w'.cell? ⟨w.heap.size, 0, none⟩ = some (.int .i64 o) ∧ w'.cell? ⟨w.heap.size, 2, none⟩ = some (.slice (some ad) ks.length c) ∧ w'.cell? (ad.add (k * 3)) = some (.int .i64 ox) ∧ w'.cell? ⟨(ad.add (k * 3)).block, (ad.add (k * 3)).off + 1, none⟩ = some (.int .i64 nx) ∧ w'.cell? ⟨(ad.add (k * 3)).block, (ad.add (k * 3)).off + 2, none⟩ = some (.slice Ai kx.length ci))) (by kernel_rfl) ?_ (fun hHeld => ?_)
                      · exact ⟨b0', b2, e0, e1, e2⟩
                      refine wpAnyH_take (i := 0) (oi := ({ dst := some 94, op := Op.fieldAddr 24 (Operand.tmp 3) 2, type := 0, pos := _, after := #[], guard := none })) (v := ?_) rfl (by kernel_rfl) (by kernel_rfl) (by kernel_rfl) (fun _ _ _ h => h) (Or.inl ⟨by rfl, ?_⟩) (by assumption) ?_
                      rotate_left
                      · (intro wq hSw; (try dsimp only at hSw); go_simp; try with_reducible rfl)
                      try simp only [Act.put, List.setIfInBounds_toArray, List.set_cons_zero, List.set_cons_succ]
                      refine wpAnyH_take (i := 1) (oi := ({ dst := some 95, op := Op.load 22 (Operand.tmp 94), type := 22, pos := _, after := #[{ on := 0, ground := Ground.data }], guard := none })) (v := ?_) rfl (by kernel_rfl) (by kernel_rfl) (by kernel_rfl) (fun _ _ _ h => h) (Or.inl ⟨by rfl, ?_⟩) (by assumption) ?_
                      rotate_left
                      · (intro wq hSw; (try dsimp only at hSw); go_simp; try with_reducible rfl)
                      try simp only [Act.put, List.setIfInBounds_toArray, List.set_cons_zero, List.set_cons_succ]
                      refine wpAnyH_take (i := 2) (oi := ({ dst := some 96, op := Op.move (Operand.tmp 9), type := 3, pos := _, after := #[], guard := none })) (v := ?_) rfl (by kernel_rfl) (by kernel_rfl) (by kernel_rfl) (fun _ _ _ h => h) (Or.inl ⟨by rfl, ?_⟩) (by assumption) ?_
                      rotate_left
                      · (intro wq hSw; (try dsimp only at hSw); go_simp; try with_reducible rfl)
                      try simp only [Act.put, List.setIfInBounds_toArray, List.set_cons_zero, List.set_cons_succ]
                      refine wpAnyH_take (i := 3) (oi := ({ dst := some 97, op := Op.indexAddr 22 (Operand.tmp 95) (Operand.tmp 96), type := 0, pos := _, after := #[{ on := 1, ground := Ground.data }, { on := 2, ground := Ground.data }], guard := none })) (v := ?_) rfl (by kernel_rfl) (by kernel_rfl) (by kernel_rfl) (fun _ _ _ h => h) (Or.inl ⟨by rfl, ?_⟩) (by assumption) ?_
                      rotate_left
                      · (intro wq hSw; (try dsimp only at hSw); go_simp; try with_reducible rfl)
                      try simp only [Act.put, List.setIfInBounds_toArray, List.set_cons_zero, List.set_cons_succ]
                      refine wpAnyH_take (i := 4) (oi := ({ dst := some 98, op := Op.load 24 (Operand.tmp 97), type := 24, pos := _, after := #[{ on := 3, ground := Ground.data }], guard := none })) (v := ?_) rfl (by kernel_rfl) (by kernel_rfl) (by kernel_rfl) (fun _ _ _ h => h) (Or.inl ⟨by rfl, ?_⟩) (by assumption) ?_
                      rotate_left
                      · (intro wq hSw; (try dsimp only at hSw); go_simp; try with_reducible rfl)
                      try simp only [Act.put, List.setIfInBounds_toArray, List.set_cons_zero, List.set_cons_succ]
                      refine wpAnyH_take (i := 5) (oi := ({ dst := some 99, op := Op.move (Operand.tmp 1), type := 3, pos := _, after := #[], guard := none })) (v := ?_) rfl (by kernel_rfl) (by kernel_rfl) (by kernel_rfl) (fun _ _ _ h => h) (Or.inl ⟨by rfl, ?_⟩) (by assumption) ?_
                      rotate_left
                      · (intro wq hSw; (try dsimp only at hSw); go_simp; try with_reducible rfl)
                      try simp only [Act.put, List.setIfInBounds_toArray, List.set_cons_zero, List.set_cons_succ]
                      refine wpAnyH_take (i := 6) (oi := ({ dst := some 100, op := Op.binOp BinOp.add 3 (Operand.tmp 99) (Operand.const (Value.int IntKind.i64 1)) 3, type := 3, pos := _, after := #[{ on := 5, ground := Ground.data }], guard := none })) (v := ?_) rfl (by kernel_rfl) (by kernel_rfl) (by kernel_rfl) (fun _ _ _ h => h) (Or.inl ⟨by rfl, ?_⟩) (by assumption) ?_
                      rotate_left
                      · (intro wq hSw; (try dsimp only at hSw); go_simp; try with_reducible rfl)
                      try simp only [Act.put, List.setIfInBounds_toArray, List.set_cons_zero, List.set_cons_succ]
                      refine wpAnyH_take (i := 7) (oi := ({ dst := some 101, op := Op.move (Operand.tmp 2), type := 26, pos := _, after := #[], guard := none })) (v := ?_) rfl (by kernel_rfl) (by kernel_rfl) (by kernel_rfl) (fun _ _ _ h => h) (Or.inl ⟨by rfl, ?_⟩) (by assumption) ?_
                      rotate_left
                      · (intro wq hSw; (try dsimp only at hSw); go_simp; try with_reducible rfl)
                      try simp only [Act.put, List.setIfInBounds_toArray, List.set_cons_zero, List.set_cons_succ]
                      refine wpAnyH_ready (rs := [8]) (by kernel_rfl) (by simp) ?_
                      refine AllReadyH.cons (o := ({ dst := some 102, op := Op.call { callee := Callee.value (Operand.func 18), args := #[Operand.tmp 98, Operand.tmp 100, Operand.tmp 101], argTypes := #[24, 3, 26] }, type := 4, pos := _, after := #[{ on := 4, ground := Ground.data }, { on := 6, ground := Ground.data }, { on := 7, ground := Ground.data }], guard := none })) rfl (fun K hK => ?_) AllReadyH.nil
                      go_simp
                      refine (unhid_ HC).mono ?_
                      rintro e w' ⟨rfl, hbg', hon'⟩
                      have HS' := Lib.hid (kept_look (unhid_ HBX2) (unhid_ HEX) hon' hneg hblt hbne)
                      have HBG3 := hide hbg'
                      have HON3 := hide ((unhid_ HON2).drew.trans hon')
                      have HBX3 := hide (hon'.blk (unhid_ HBX2).drew hneg)
                      clear hbg' hon'
                      go_simp
                      refine hK.out _ _ ?_ (fun hHeld => ?_)
                      · exact HS'.out
                      clear hK K
                      try simp only [Act.put, List.setIfInBounds_toArray, List.set_cons_zero, List.set_cons_succ]
                      refine wpAnyH_take (i := 9) (oi := ({ dst := some 103, op := Op.move (Operand.tmp 102), type := 4, pos := _, after := #[{ on := 8, ground := Ground.data }, { on := 8, ground := Ground.chain }], guard := none })) (v := ?_) rfl (by kernel_rfl) (by kernel_rfl) (by kernel_rfl) (fun _ _ _ h => h) (Or.inl ⟨by rfl, ?_⟩) (by assumption) ?_
                      rotate_left
                      · (intro wq hSw; (try dsimp only at hSw); go_simp; try with_reducible rfl)
                      try simp only [Act.put, List.setIfInBounds_toArray, List.set_cons_zero, List.set_cons_succ]
                      refine wpAnyH_take (i := 10) (oi := ({ dst := some 104, op := Op.fieldAddr 24 (Operand.tmp 3) 2, type := 0, pos := _, after := #[{ on := 9, ground := Ground.guard }], guard := some (9, true) })) (v := ?_) rfl (by kernel_rfl) (by kernel_rfl) (by kernel_rfl) (fun _ _ _ h => h) (Or.inl ⟨by rfl, ?_⟩) (by assumption) ?_
                      rotate_left
                      · (intro wq hSw; (try dsimp only at hSw); go_simp; try with_reducible rfl)
                      try simp only [Act.put, List.setIfInBounds_toArray, List.set_cons_zero, List.set_cons_succ]
                      refine wpAnyH_take (i := 11) (oi := ({ dst := some 105, op := Op.load 22 (Operand.tmp 104), type := 22, pos := _, after := #[{ on := 10, ground := Ground.data }, { on := 9, ground := Ground.guard }], guard := some (9, true) })) (v := ?_) rfl (by kernel_rfl) (by kernel_rfl) (by kernel_rfl) (fun _ _ _ h => h) (Or.inl ⟨by rfl, ?_⟩) (by assumption) ?_
                      rotate_left
                      · (intro wq hSw; (try dsimp only at hSw); go_simp; try with_reducible rfl)
                      try simp only [Act.put, List.setIfInBounds_toArray, List.set_cons_zero, List.set_cons_succ]
                      refine wpAnyH_take (i := 12) (oi := ({ dst := some 106, op := Op.move (Operand.tmp 9), type := 3, pos := _, after := #[{ on := 9, ground := Ground.guard }], guard := some (9, true) })) (v := ?_) rfl (by kernel_rfl) (by kernel_rfl) (by kernel_rfl) (fun _ _ _ h => h) (Or.inl ⟨by rfl, ?_⟩) (by assumption) ?_
                      rotate_left
                      · (intro wq hSw; (try dsimp only at hSw); go_simp; try with_reducible rfl)
                      try simp only [Act.put, List.setIfInBounds_toArray, List.set_cons_zero, List.set_cons_succ]
                      refine wpAnyH_take (i := 13) (oi := ({ dst := some 107, op := Op.indexAddr 22 (Operand.tmp 105) (Operand.tmp 106), type := 0, pos := _, after := #[{ on := 11, ground := Ground.data }, { on := 12, ground := Ground.data }, { on := 9, ground := Ground.guard }], guard := some (9, true) })) (v := ?_) rfl (by kernel_rfl) (by kernel_rfl) (by kernel_rfl) (fun _ _ _ h => h) (Or.inl ⟨by rfl, ?_⟩) (by assumption) ?_
                      rotate_left
                      · (intro wq hSw; (try dsimp only at hSw); go_simp; try with_reducible rfl)
                      try simp only [Act.put, List.setIfInBounds_toArray, List.set_cons_zero, List.set_cons_succ]
                      refine wpAnyH_take (i := 14) (oi := ({ dst := some 108, op := Op.fieldAddr 24 (Operand.tmp 107) 0, type := 0, pos := _, after := #[{ on := 13, ground := Ground.data }, { on := 9, ground := Ground.guard }], guard := some (9, true) })) (v := ?_) rfl (by kernel_rfl) (by kernel_rfl) (by kernel_rfl) (fun _ _ _ h => h) (Or.inl ⟨by rfl, ?_⟩) (by assumption) ?_
                      rotate_left
                      · (intro wq hSw; (try dsimp only at hSw); go_simp; try with_reducible rfl)
                      try simp only [Act.put, List.setIfInBounds_toArray, List.set_cons_zero, List.set_cons_succ]
                      refine wpAnyH_take (i := 15) (oi := ({ dst := some 109, op := Op.load 3 (Operand.tmp 108), type := 3, pos := _, after := #[{ on := 14, ground := Ground.data }, { on := 9, ground := Ground.guard }], guard := some (9, true) })) (v := ?_) rfl (by kernel_rfl) (by kernel_rfl) (by kernel_rfl) (fun _ _ _ h => h) (Or.inl ⟨by rfl, ?_⟩) (by assumption) ?_
                      rotate_left
                      · (intro wq hSw; (try dsimp only at hSw); go_simp; try with_reducible rfl)
                      try simp only [Act.put, List.setIfInBounds_toArray, List.set_cons_zero, List.set_cons_succ]
                      refine wpAnyH_take (i := 16) (oi := ({ dst := some 110, op := Op.fieldAddr 24 (Operand.tmp 3) 0, type := 0, pos := _, after := #[{ on := 9, ground := Ground.guard }], guard := some (9, true) })) (v := ?_) rfl (by kernel_rfl) (by kernel_rfl) (by kernel_rfl) (fun _ _ _ h => h) (Or.inl ⟨by rfl, ?_⟩) (by assumption) ?_
                      rotate_left
                      · (intro wq hSw; (try dsimp only at hSw); go_simp; try with_reducible rfl)
                      try simp only [Act.put, List.setIfInBounds_toArray, List.set_cons_zero, List.set_cons_succ]
                      refine wpAnyH_take (i := 17) (oi := ({ dst := some 111, op := Op.load 3 (Operand.tmp 110), type := 3, pos := _, after := #[{ on := 16, ground := Ground.data }, { on := 9, ground := Ground.guard }], guard := some (9, true) })) (v := ?_) rfl (by kernel_rfl) (by kernel_rfl) (by kernel_rfl) (fun _ _ _ h => h) (Or.inl ⟨by rfl, ?_⟩) (by assumption) ?_
                      rotate_left
                      · (intro wq hSw; (try dsimp only at hSw); go_simp; try with_reducible rfl)
                      try simp only [Act.put, List.setIfInBounds_toArray, List.set_cons_zero, List.set_cons_succ]
                      refine wpAnyH_take (i := 18) (oi := ({ dst := some 112, op := Op.binOp BinOp.neq 3 (Operand.tmp 109) (Operand.tmp 111) 3, type := 4, pos := _, after := #[{ on := 15, ground := Ground.data }, { on := 17, ground := Ground.data }, { on := 9, ground := Ground.guard }], guard := some (9, true) })) (v := ?_) rfl (by kernel_rfl) (by kernel_rfl) (by kernel_rfl) (fun _ _ _ h => h) (Or.inl ⟨by rfl, ?_⟩) (by assumption) ?_
                      rotate_left
                      · (intro wq hSw; (try dsimp only at hSw); go_simp; try with_reducible rfl)
                      try simp only [Act.put, List.setIfInBounds_toArray, List.set_cons_zero, List.set_cons_succ]
                      refine wpAnyH_take (i := 19) (oi := ({ dst := some 113, op := Op.move (Operand.tmp 112), type := 4, pos := _, after := #[{ on := 18, ground := Ground.data }, { on := 9, ground := Ground.chain }, { on := 9, ground := Ground.guard }], guard := some (9, true) })) (v := ?_) rfl (by kernel_rfl) (by kernel_rfl) (by kernel_rfl) (fun _ _ _ h => h) (Or.inl ⟨by rfl, ?_⟩) (by assumption) ?_
                      rotate_left
                      · (intro wq hSw; (try dsimp only at hSw); go_simp; try with_reducible rfl)
                      try simp only [Act.put, List.setIfInBounds_toArray, List.set_cons_zero, List.set_cons_succ]
                      refine wpAnyH_take (i := 20) (oi := ({ dst := some 114, op := Op.fieldAddr 24 (Operand.tmp 3) 0, type := 0, pos := _, after := #[{ on := 19, ground := Ground.guard }], guard := some (19, false) })) (v := ?_) rfl (by kernel_rfl) (by kernel_rfl) (by kernel_rfl) (fun _ _ _ h => h) (Or.inl ⟨by rfl, ?_⟩) (by assumption) ?_
                      rotate_left
                      · (intro wq hSw; (try dsimp only at hSw); go_simp; try with_reducible rfl)
                      try simp only [Act.put, List.setIfInBounds_toArray, List.set_cons_zero, List.set_cons_succ]
                      refine wpAnyH_take (i := 21) (oi := ({ dst := some 115, op := Op.load 3 (Operand.tmp 114), type := 3, pos := _, after := #[{ on := 20, ground := Ground.data }, { on := 19, ground := Ground.guard }], guard := some (19, false) })) (v := ?_) rfl (by kernel_rfl) (by kernel_rfl) (by kernel_rfl) (fun _ _ _ h => h) (Or.inl ⟨by rfl, ?_⟩) (by assumption) ?_
                      rotate_left
                      · (intro wq hSw; (try dsimp only at hSw); go_simp; try with_reducible rfl)
                      try simp only [Act.put, List.setIfInBounds_toArray, List.set_cons_zero, List.set_cons_succ]
                      refine wpAnyH_take (i := 22) (oi := ({ dst := some 116, op := Op.binOp BinOp.eql 3 (Operand.tmp 115) (Operand.const (Value.int IntKind.i64 5)) 3, type := 4, pos := _, after := #[{ on := 21, ground := Ground.data }, { on := 19, ground := Ground.guard }], guard := some (19, false) })) (v := ?_) rfl (by kernel_rfl) (by kernel_rfl) (by kernel_rfl) (fun _ _ _ h => h) (Or.inl ⟨by rfl, ?_⟩) (by assumption) ?_
                      rotate_left
                      · (intro wq hSw; (try dsimp only at hSw); go_simp; try with_reducible rfl)
                      try simp only [Act.put, List.setIfInBounds_toArray, List.set_cons_zero, List.set_cons_succ]
                      refine wpAnyH_take (i := 23) (oi := ({ dst := some 117, op := Op.pick (Operand.tmp 113) (Operand.const (Value.bool true)) (Operand.tmp 116), type := 4, pos := _, after := #[{ on := 19, ground := Ground.data }, { on := 22, ground := Ground.data }, { on := 9, ground := Ground.guard }], guard := some (9, true) })) (v := ?_) rfl (by kernel_rfl) (by kernel_rfl) (by kernel_rfl) (fun _ _ _ h => h) (Or.inl ⟨by rfl, ?_⟩) (by assumption) ?_
                      rotate_left
                      · (intro wq hSw; (try dsimp only at hSw); go_simp; try with_reducible rfl)
                      try simp only [Act.put, List.setIfInBounds_toArray, List.set_cons_zero, List.set_cons_succ]
                      refine wpAnyH_take (i := 24) (oi := ({ dst := some 118, op := Op.pick (Operand.tmp 103) (Operand.tmp 117) (Operand.const (Value.bool false)), type := 4, pos := _, after := #[{ on := 9, ground := Ground.data }, { on := 23, ground := Ground.data }], guard := none })) (v := ?_) rfl (by kernel_rfl) (by kernel_rfl) (by kernel_rfl) (fun _ _ _ h => h) (Or.inl ⟨by rfl, ?_⟩) (by assumption) ?_
                      rotate_left
                      · (intro wq hSw; (try dsimp only at hSw); go_simp; try with_reducible rfl)
                      try simp only [Act.put, List.setIfInBounds_toArray, List.set_cons_zero, List.set_cons_succ]
                      refine wpAnyH_take (i := 25) (oi := ({ dst := some 8, op := Op.assign (Operand.tmp 118), type := 4, pos := _, after := #[{ on := 24, ground := Ground.data }, { on := 19, ground := Ground.chain }, { on := 0, ground := Ground.phase }, { on := 1, ground := Ground.phase }, { on := 2, ground := Ground.phase }, { on := 3, ground := Ground.phase }, { on := 4, ground := Ground.phase }, { on := 5, ground := Ground.phase }, { on := 6, ground := Ground.phase }, { on := 7, ground := Ground.phase }, { on := 8, ground := Ground.phase }, { on := 9, ground := Ground.phase }, { on := 10, ground := Ground.phase }, { on := 11, ground := Ground.phase }, { on := 12, ground := Ground.phase }, { on := 13, ground := Ground.phase }, { on := 14, ground := Ground.phase }, { on := 15, ground := Ground.phase }, { on := 16, ground := Ground.phase }, { on := 17, ground := Ground.phase }, { on := 18, ground := Ground.phase }, { on := 19, ground := Ground.phase }, { on := 20, ground := Ground.phase }, { on := 21, ground := Ground.phase }, { on := 22, ground := Ground.phase }, { on := 23, ground := Ground.phase }, { on := 24, ground := Ground.phase }], guard := none })) (v := ?_) rfl (by kernel_rfl) (by kernel_rfl) (by kernel_rfl) (fun _ _ _ h => h) (Or.inl ⟨by rfl, ?_⟩) (by assumption) ?_
                      rotate_left
                      · (intro wq hSw; (try dsimp only at hSw); go_simp; try with_reducible rfl)
                      try simp only [Act.put, List.setIfInBounds_toArray, List.set_cons_zero, List.set_cons_succ]
                      refine wpAnyH_done (by kernel_rfl) ?_ _
                      go_wp2_with fail
                      go_roundw
                      case rel => exact ⟨k + 1, l', false, by omega, by go_num, rfl, by omega, (fun h => by cases h), HTO.out, unhid_ HBG3, unhid_ HBX3, unhid_ HON3⟩
                      case measure => simp [intOf]; omega
              · obtain rfl : k = ks.length := by omega
                rw [List.drop_length, lookL_nil] at hto
                have HTO := Lib.hid hto
                have HBG := hide hbg
                have HON := hide hon
                clear hto hbg hbx hon HLR HF2
                go_wp2
                go_ret
                exact rlookT_mk HTO.out (unhid_ HBG) (unhid_ HON)
end Go.Proofs.YthlnaejmglajeaaDoor
