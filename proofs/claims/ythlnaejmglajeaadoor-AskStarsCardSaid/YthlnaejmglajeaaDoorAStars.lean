/- The walk of the law AskStars. -/
import Derived.Test.YthlnaejmglajeaaDoorAAwake
namespace Go.Proofs.YthlnaejmglajeaaDoor
open Go.RowKit
set_option linter.unusedSimpArgs false
set_option linter.unusedVariables false

def wordS : Nat → List UInt8
  | 0 => [117, 112]
  | 1 => [40, 117, 112, 124, 100, 111, 119, 110, 41]
  | _ => [40, 117, 112, 59, 108, 105, 118, 101, 41]
def treeS : Nat → QT
  | 0 => .mk 1 0 []
  | 1 => .mk 6 0 [.mk 1 0 [], .mk 2 0 []]
  | _ => .mk 7 0 [.mk 1 0 [], .mk 8 0 []]
def starTree (q : QT) : Nat → QT
  | 0 => q
  | k + 1 => .mk 5 0 [starTree q k]
def textS (i k : Nat) : List UInt8 := wordS i ++ List.replicate k 42
def deepS (i k : Nat) : Nat := (if 0 < i then 2 else 1) + k
/-- all that the law asks, case by case -/
def starsOk (i k : Nat) : Bool :=
  if 12 < deepS i k then (parseF (textS i k)).2.2 == 14 && !checkF (starTree (treeS i) k)
  else (parseF (textS i k)).2.2 == 0 && (sameQ (parseF (textS i k)).1 (starTree (treeS i) k) && (checkF (starTree (treeS i) k) && ((decide (0 < i) && decide (k = 0)) || textF (starTree (treeS i) k) == textS i k)))
theorem stars_all : ∀ (i : Fin 3) (k : Fin 14), starsOk i k = true := by decide +kernel
theorem textS_succ (i k : Nat) : textS i (k + 1) = textS i k ++ [42] := by rw [textS, textS, List.replicate_succ', List.append_assoc]
theorem wordS_len (i : Nat) : (wordS i).length ≤ 9 := by match i with
  | 0 => decide
  | 1 => decide
  | _ + 2 => show ([40, 117, 112, 59, 108, 105, 118, 101, 41] : List UInt8).length ≤ 9; decide
theorem textS_len (i k : Nat) : (textS i k).length ≤ 9 + k := by
  have := wordS_len i
  rw [textS, List.length_append, List.length_replicate]
  omega
theorem InBox.starred {w : World} {b : Nat} {P : Nat → Prop} {o n : Int} {ks : List QT} {A : Option Addr} {c : Nat} (hb : Blk w b stepT #[.int .i64 o, .int .i64 n, .slice A ks.length c]) (hr : RP w P (.mk o n ks) A c) (hPb : ¬ P b) (hPn : P w.heap.size) :
    InBox ((((w.setCell ⟨b, 0, none⟩ (.int .i64 5)).setCell ⟨b, 1, none⟩ (.int .i64 0)).setCell ⟨b, 2, none⟩ (.slice (some ⟨w.heap.size, 0, none⟩) 1 1)).alloc (.cells #[.int .i64 o, .int .i64 n, .slice A ks.length c] stepT)) b P (.mk 5 0 [.mk o n ks]) := by
  have hon := only3 w b (.int .i64 5) (.int .i64 0) (.slice (some ⟨w.heap.size, 0, none⟩) 1 1)
  have hsW := size3 w b (.int .i64 5) (.int .i64 0) (.slice (some ⟨w.heap.size, 0, none⟩) 1 1)
  have hbW := set3 (u0 := .int .i64 5) (u1 := .int .i64 0) (u2 := .slice (some ⟨w.heap.size, 0, none⟩) 1 1) hb
  have hkW : ∀ k, k < w.heap.size → k ≠ b → ((((w.setCell ⟨b, 0, none⟩ (.int .i64 5)).setCell ⟨b, 1, none⟩ (.int .i64 0)).setCell ⟨b, 2, none⟩ (.slice (some ⟨w.heap.size, 0, none⟩) 1 1))).heap[k]? = w.heap[k]? := fun k h1 h2 => hon.block k h1 (by simpa using h2)
  clear hon
  generalize (((w.setCell ⟨b, 0, none⟩ (.int .i64 5)).setCell ⟨b, 1, none⟩ (.int .i64 0)).setCell ⟨b, 2, none⟩ (.slice (some ⟨w.heap.size, 0, none⟩) 1 1)) = Ws at hsW hbW hkW ⊢
  refine ⟨some ⟨w.heap.size, 0, none⟩, 1, hbW.alloc _, .mk 5 0 [.mk o n ks] _ 1 (fun _ => A) (fun _ => c) (by simp) (by decide) (fun _ => ⟨_, rfl, hPn, fun i x hx => ?_⟩) (fun i x hx => ?_)⟩
  · obtain rfl : i = 0 := by have := (List.getElem?_eq_some_iff.1 hx).1; simpa using this
    obtain rfl : QT.mk o n ks = x := by simpa using hx
    have hnb := Blk.new Ws stepT #[.int .i64 o, .int .i64 n, .slice A ks.length c]
    rw [hsW] at hnb
    obtain ⟨d0, d1, d2⟩ := box_facts hnb
    exact ⟨d0, d1, d2⟩
  · obtain rfl : QT.mk o n ks = x := by
      have hi : i = 0 := by have := (List.getElem?_eq_some_iff.1 hx).1; simpa using this
      subst hi
      simpa using hx
    refine hr.keep fun b' hb' hlt => ⟨?_, hb'⟩
    rw [Below.heap_alloc _ _ _ (by omega), hkW b' hlt (fun e => hPb (e ▸ hb'))]
theorem rp_pair {w : World} {P : Nat → Prop} {b : Nat} {t : TypeId} (op a d : Int) (h : Blk w b t #[.int .i64 a, .int .i64 0, .slice none 0 0, .int .i64 d, .int .i64 0, .slice none 0 0]) (hP : P b) :
    RP w P (.mk op 0 [.mk a 0 [], .mk d 0 []]) (some ⟨b, 0, none⟩) 2 := by
  refine .mk op 0 _ _ 2 (fun _ => none) (fun _ => 0) (by simp) (by decide) (fun _ => ⟨_, rfl, hP, fun i x hx => ?_⟩) (fun i x hx => ?_)
  · match i, hx with
    | 0, hx =>
      obtain rfl : QT.mk a 0 [] = x := by simpa using hx
      exact ⟨h.cell 0, h.cell 1, h.cell 2⟩
    | 1, hx =>
      obtain rfl : QT.mk d 0 [] = x := by simpa using hx
      exact ⟨h.cell 3, h.cell 4, h.cell 5⟩
  · match i, hx with
    | 0, hx =>
      obtain rfl : QT.mk a 0 [] = x := by simpa using hx
      exact RP.leaf _ _ _ _ _ _ (Nat.zero_le _)
    | 1, hx =>
      obtain rfl : QT.mk d 0 [] = x := by simpa using hx
      exact RP.leaf _ _ _ _ _ _ (Nat.zero_le _)
/-- the words and the questions lie in memory -/
structure StartW (w wx : World) : Prop where
  bel : Below w.heap.size w wx
  size : wx.heap.size = w.heap.size + 4
  b0 : Blk wx w.heap.size 37 #[.string ⟨#[117, 112]⟩, .string ⟨#[40, 117, 112, 124, 100, 111, 119, 110, 41]⟩, .string ⟨#[40, 117, 112, 59, 108, 105, 118, 101, 41]⟩]
  b1 : Blk wx (w.heap.size + 1) stepT #[.int .i64 1, .int .i64 0, .slice none 0 0, .int .i64 2, .int .i64 0, .slice none 0 0]
  b2 : Blk wx (w.heap.size + 2) stepT #[.int .i64 1, .int .i64 0, .slice none 0 0, .int .i64 8, .int .i64 0, .slice none 0 0]
  b3 : Blk wx (w.heap.size + 3) 40 #[.int .i64 1, .int .i64 0, .slice none 0 0, .int .i64 6, .int .i64 0, .slice (some ⟨w.heap.size + 1, 0, none⟩) 2 2, .int .i64 7, .int .i64 0, .slice (some ⟨w.heap.size + 2, 0, none⟩) 2 2]
theorem startW (w : World) : StartW w ((((w.alloc (.cells #[.string ⟨#[117, 112]⟩, .string ⟨#[40, 117, 112, 124, 100, 111, 119, 110, 41]⟩, .string ⟨#[40, 117, 112, 59, 108, 105, 118, 101, 41]⟩] 37)).alloc (.cells #[.int .i64 1, .int .i64 0, .slice none 0 0, .int .i64 2, .int .i64 0, .slice none 0 0] stepT)).alloc (.cells #[.int .i64 1, .int .i64 0, .slice none 0 0, .int .i64 8, .int .i64 0, .slice none 0 0] stepT)).alloc (.cells #[.int .i64 1, .int .i64 0, .slice none 0 0, .int .i64 6, .int .i64 0, .slice (some ⟨w.heap.size + 1, 0, none⟩) 2 2, .int .i64 7, .int .i64 0, .slice (some ⟨w.heap.size + 1 + 1, 0, none⟩) 2 2] 40)) := by
  refine ⟨(((Below.refl _ _).alloc (Nat.le_refl _) _).alloc (by simp) _).alloc (by simp; omega) _ |>.alloc (by simp; omega) _, by simp, (((Blk.new _ _ _).alloc _).alloc _).alloc _, ?_, ?_, ?_⟩
  · have h := Blk.new (w.alloc (.cells #[.string ⟨#[117, 112]⟩, .string ⟨#[40, 117, 112, 124, 100, 111, 119, 110, 41]⟩, .string ⟨#[40, 117, 112, 59, 108, 105, 118, 101, 41]⟩] 37)) stepT #[.int .i64 1, .int .i64 0, .slice none 0 0, .int .i64 2, .int .i64 0, .slice none 0 0]
    simp only [World.size_alloc] at h
    exact (h.alloc _).alloc _
  · have h := Blk.new ((w.alloc (.cells #[.string ⟨#[117, 112]⟩, .string ⟨#[40, 117, 112, 124, 100, 111, 119, 110, 41]⟩, .string ⟨#[40, 117, 112, 59, 108, 105, 118, 101, 41]⟩] 37)).alloc (.cells #[.int .i64 1, .int .i64 0, .slice none 0 0, .int .i64 2, .int .i64 0, .slice none 0 0] stepT)) stepT #[.int .i64 1, .int .i64 0, .slice none 0 0, .int .i64 8, .int .i64 0, .slice none 0 0]
    simp only [World.size_alloc] at h
    exact h.alloc _
  · have h := Blk.new (((w.alloc (.cells #[.string ⟨#[117, 112]⟩, .string ⟨#[40, 117, 112, 124, 100, 111, 119, 110, 41]⟩, .string ⟨#[40, 117, 112, 59, 108, 105, 118, 101, 41]⟩] 37)).alloc (.cells #[.int .i64 1, .int .i64 0, .slice none 0 0, .int .i64 2, .int .i64 0, .slice none 0 0] stepT)).alloc (.cells #[.int .i64 1, .int .i64 0, .slice none 0 0, .int .i64 8, .int .i64 0, .slice none 0 0] stepT)) 40 #[.int .i64 1, .int .i64 0, .slice none 0 0, .int .i64 6, .int .i64 0, .slice (some ⟨w.heap.size + 1, 0, none⟩) 2 2, .int .i64 7, .int .i64 0, .slice (some ⟨w.heap.size + 1 + 1, 0, none⟩) 2 2]
    simp only [World.size_alloc] at h
    exact h
theorem start_box0 {w wx : World} (h : StartW w wx) : InBox (wx.alloc (.cells #[.int .i64 1, .int .i64 0, .slice none 0 0] stepT)) wx.heap.size (fun k => w.heap.size ≤ k ∧ k ≠ wx.heap.size) (treeS 0) :=
  ⟨none, 0, Blk.new _ _ _, RP.leaf _ _ _ _ _ _ (Nat.zero_le _)⟩
theorem start_box1 {w wx : World} (h : StartW w wx) : InBox (wx.alloc (.cells #[.int .i64 6, .int .i64 0, .slice (some ⟨w.heap.size + 1, 0, none⟩) 2 2] stepT)) wx.heap.size (fun k => w.heap.size ≤ k ∧ k ≠ wx.heap.size) (treeS 1) :=
  ⟨_, 2, Blk.new _ _ _, rp_pair 6 1 2 (h.b1.alloc _) ⟨by omega, by rw [h.size]; omega⟩⟩
theorem start_box2 {w wx : World} (h : StartW w wx) : InBox (wx.alloc (.cells #[.int .i64 7, .int .i64 0, .slice (some ⟨w.heap.size + 2, 0, none⟩) 2 2] stepT)) wx.heap.size (fun k => w.heap.size ≤ k ∧ k ≠ wx.heap.size) (treeS 2) :=
  ⟨_, 2, Blk.new _ _ _, rp_pair 7 1 8 (h.b2.alloc _) ⟨by omega, by rw [h.size]; omega⟩⟩
/-- what the rounds keep -/
def StarsR (w : World) (i K b : Nat) (s9 s11 s12 : Value) (wr : World) : Prop :=
  ∃ j : Nat, j ≤ K ∧ s12 = .int .i64 j ∧ s9 = .string (bytesB (textS i j)) ∧ s11 = .int .i64 (deepS i j : Nat) ∧ b < wr.heap.size ∧ InBox wr b (fun k => w.heap.size ≤ k ∧ k ≠ b) (starTree (treeS i) j) ∧ Below w.heap.size w wr

set_option maxRecDepth 100000 in
set_option maxHeartbeats 2000000 in
theorem askStars_any (n kind : Int) (w : World) (hv : EV w) :
    Calls Tryd.prog 6 #[.int .i64 n, .int .i64 kind] w (Yes w) := by
  obtain ⟨K, hK⟩ := Int.eq_ofNat_of_zero_le (Int.emod_nonneg n (by decide : (14 : Int) ≠ 0))
  obtain ⟨i, hi⟩ := Int.eq_ofNat_of_zero_le (Int.emod_nonneg kind (by decide : (3 : Int) ≠ 0))
  have hKl : K < 14 := by have := Int.emod_lt_of_pos n (by decide : (0 : Int) < 14); omega
  have hil : i < 3 := by have := Int.emod_lt_of_pos kind (by decide : (0 : Int) < 3); omega
  have hok := stars_all ⟨i, hil⟩ ⟨K, hKl⟩
  have HOK := Lib.hid hok
  have HV := hide hv
  have HK := Lib.hid hK
  have HI := Lib.hid hi
  clear hok hv hK hi
  go_enter Tryd.func6, Tryd.ntmps6
  go_upto_if 19 with (fail)
  go_cut [5] (fun s wx => s = .int .i64 K ∧ wx = w)
  case first =>
    by_cases h : n.tmod 14 < 0
    · have e := tmod_neg n 14 (by decide) h
      rw [HK.out] at e
      go_wp2
      go_meet
      exact ⟨rfl, rfl⟩
    · have e := tmod_pos n 14 (by decide) (by omega)
      rw [HK.out] at e
      have h' : (0 : Int) ≤ K := by omega
      go_wp2
      go_meet
      exact ⟨rfl, rfl⟩
  case rest =>
    obtain ⟨rfl, hwx⟩ := hcut
    have hwx2 := hwx.symm
    subst hwx2
    clear hwx
    go_upto_if 36 with (fail)
    go_cut [8] (fun s wx => s = .int .i64 i ∧ StartW w wx)
    case first =>
      by_cases h : kind.tmod 3 < 0
      · have e := tmod_neg kind 3 (by decide) h
        rw [HI.out] at e
        go_wp2
        go_meet
        exact ⟨rfl, startW w⟩
      · have e := tmod_pos kind 3 (by decide) (by omega)
        rw [HI.out] at e
        have h' : (0 : Int) ≤ i := by omega
        go_wp2
        go_meet
        exact ⟨rfl, startW w⟩
    case rest =>
      obtain ⟨rfl, hst⟩ := hcut
      have HI2 := HI
      clear HI
      rcases (show i = 0 ∨ i = 1 ∨ i = 2 by omega) with rfl | rfl | rfl
      · have e0 : wc.cell? ⟨w.heap.size, 0, none⟩ = some (.string (bytesB (wordS 0))) := hst.b0.cell 0
        have t0 := hst.b3.cell 0
        have t1 := hst.b3.cell 1
        have t2 := hst.b3.cell 2
        simp only [List.getElem?_toArray, List.getElem?_cons_zero, List.getElem?_cons_succ] at t0 t1 t2
        have hsz : w.heap.size + 1 + 1 + 1 < wc.heap.size := by have := hst.size; omega
        have hsz0 : w.heap.size < wc.heap.size := by omega
        have HSB := hide (start_box0 hst)
        have HSBB := hide (hst.bel.alloc (by have := hst.size; omega) (.cells #[.int .i64 1, .int .i64 0, .slice none 0 0] stepT))
        have hdl : deepS 0 0 = 1 := rfl
        clear hst
        go_wp2_with fail
        go_loopw [9, 11, 12] (fun s9 s11 s12 wr => StarsR w 0 K wc.heap.size s9 s11 s12 wr) (fun _ _ s12 _ => K - (intOf s12).toNat)
        case atStart => exact ⟨0, Nat.zero_le _, rfl, rfl, rfl, by simp, unhid_ HSB, unhid_ HSBB⟩
        case round =>
          obtain ⟨j, hj, rfl, rfl, rfl, hbl, ⟨A, c, hbx, hrp⟩, hbel⟩ := hrel
          have hvr := (unhid_ HV).belowW hbel
          obtain ⟨q, hq⟩ : ∃ q, q = starTree (treeS 0) j := ⟨_, rfl⟩
          rw [← hq] at hbx hrp
          obtain ⟨wo, wn, wk⟩ := q
          have hbx : Blk wr wc.heap.size stepT #[.int .i64 wo, .int .i64 wn, .slice A wk.length c] := hbx
          obtain ⟨c0, c1, c2⟩ := box_facts hbx
          have f0 := hbx.frozen 0
          have f1 := hbx.frozen 1
          have f2 := hbx.frozen 2
          have HBX := hide hbx
          have HRP := hide hrp
          have HBEL := hide hbel
          have HQ := Lib.hid hq
          have htl := textS_len 0 j
          have hdj : deepS 0 j = 1 + j := rfl
          obtain ⟨D, hD⟩ : ∃ D, D = deepS 0 j := ⟨_, rfl⟩
          rw [← hD] at hdj ⊢
          have HD := Lib.hid hD
          clear t0 t1 t2 e0 HSB HSBB hbel hbx hrp hq hdl hD
          by_cases hjK : j < K
          · have hjI : (j : Int) < K := by omega
            have a1 : ∀ W : World, (Op.stringOp .add (bytesB (textS 0 j)) ⟨#[42]⟩).run Tryd.prog W = .ok (.string (bytesB (textS 0 (j + 1)))) W := fun W => by rw [textS_succ]; exact run_add_l W _ [42] (by omega) (by decide)
            obtain ⟨T1, hT1⟩ : ∃ x, x = bytesB (textS 0 j) := ⟨_, rfl⟩
            obtain ⟨T2, hT2⟩ : ∃ x, x = bytesB (textS 0 (j + 1)) := ⟨_, rfl⟩
            rw [← hT1, ← hT2] at a1
            rw [← hT1]
            have HT2 := Lib.hid hT2
            have HDJ := Lib.hid hdj
            clear hT1 hT2 hdj
            have hDl : D ≤ 20 := by have := HDJ.out; omega
            go_wp2_with fail
            have hib := InBox.starred (P := fun k => w.heap.size ≤ k ∧ k ≠ wc.heap.size) (unhid_ HBX) (unhid_ HRP) (by simp) ⟨by omega, by omega⟩
            have hbe := (((((unhid_ HBEL).setCell (p := ⟨wc.heap.size, 0, none⟩) (by simp; omega) (.int .i64 5)).setCell (p := ⟨wc.heap.size, 1, none⟩) (by simp; omega) (.int .i64 0)).setCell (p := ⟨wc.heap.size, 2, none⟩) (by simp; omega) (.slice (some ⟨wr.heap.size, 0, none⟩) 1 1))).alloc (by simp [World.setCell]; omega) (.cells #[.int .i64 wo, .int .i64 wn, .slice A wk.length c] stepT)
            go_roundw
            case rel => exact ⟨j + 1, by omega, by go_num, by rw [HT2.out], by rw [show deepS 0 (j + 1) = D + 1 from by rw [HDJ.out]; rfl]; go_num, by simp [World.setCell]; omega, by rw [show starTree (treeS 0) (j + 1) = .mk 5 0 [starTree (treeS 0) j] from rfl, ← HQ.out]; exact hib, hbe⟩
            case measure => simp [intOf]; omega
          · obtain rfl : j = K := by omega
            have hok := HOK.out
            rw [starsOk, ← HD.out, ← HQ.out] at hok
            have HPR := hide (parse_any (bytesB (textS 0 j)) wr hvr (by rw [size_bytesB]; omega))
            rw [show (bytesB (textS 0 j)).data.toList = textS 0 j from rfl] at HPR
            obtain ⟨TL, hTL⟩ : ∃ x, x = textS 0 j := ⟨_, rfl⟩
            rw [← hTL] at hok HPR htl ⊢
            obtain ⟨r, hr⟩ : ∃ r, r = parseF TL := ⟨_, rfl⟩
            rw [← hr] at hok HPR
            obtain ⟨⟨po, pn, pk⟩, at_, er⟩ := r
            obtain ⟨T1, hT1⟩ : ∃ x, x = bytesB TL := ⟨_, rfl⟩
            rw [← hT1] at HPR ⊢
            have HT1 := Lib.hid hT1
            clear hTL hr hT1 hjK hvr
            by_cases hdeep : 12 < D
            · rw [if_pos hdeep, Bool.and_eq_true, beq_iff_eq] at hok
              obtain ⟨h14, hnc⟩ := hok
              have h14 : er = 14 := h14
              subst h14
              have hnc : checkF (.mk wo wn wk) = false := by simpa using hnc
              have hdI : (12 : Int) < (D : Int) := by omega
              have hcw := fun (w2 : World) (hb : Below wr.heap.size wr w2) => check_any w2 0 w2.heap.size wo wn wk A c ((unhid_ HRP).keep (P' := fun _ => True) (fun b _ hlt => ⟨hb.block b hlt, trivial⟩)).rq (Nat.le_refl _)
              rw [hnc] at hcw
              have HCW := hide hcw
              clear hnc hcw
              go_wp2_with fail
              refine (unhid_ HPR).mono ?_
              rintro e w2 ⟨A2, c2', rfl, hrp2, hb2⟩
              simp only [QT.op, QT.n, QT.kids]
              have hb2' : Below wr.heap.size wr (w2.alloc (.cells #[.int .i64 po, .int .i64 pn, .slice A2 pk.length c2'] stepT)) := hb2.alloc hb2.size _
              have d0 : w2.cell? ⟨wc.heap.size, 0, none⟩ = some (.int .i64 wo) := (hb2.cell (p := ⟨wc.heap.size, 0, none⟩) hbl).trans c0
              have d1 : w2.cell? ⟨wc.heap.size, 1, none⟩ = some (.int .i64 wn) := (hb2.cell (p := ⟨wc.heap.size, 1, none⟩) hbl).trans c1
              have d2 : w2.cell? ⟨wc.heap.size, 2, none⟩ = some (.slice A wk.length c) := (hb2.cell (p := ⟨wc.heap.size, 2, none⟩) hbl).trans c2
              have hbl2 : wc.heap.size < w2.heap.size := by have := hb2.size; omega
              have HB2 := hide hb2'
              clear hrp2 hb2 hb2' c0 c1 c2 f0 f1 f2 HPR
              go_wp2_with fail
              refine ((unhid_ HCW) _ (unhid_ HB2)).mono ?_
              rintro e w3 ⟨rfl, hb3⟩
              have hb3' := (unhid_ HBEL).trans (((unhid_ HB2).trans (hb3.mono (unhid_ HB2).size)).mono (unhid_ HBEL).size)
              have HB3 := hide hb3'
              have HAW := hide (awake_any w3 ((unhid_ HV).belowW hb3'))
              clear hb3 hb3'
              go_wp2_with fail
              refine (unhid_ HAW).mono ?_
              rintro e w4 ⟨rfl, hb4⟩
              have HB4 := hide ((unhid_ HB3).trans (hb4.mono (unhid_ HB3).size))
              clear hb4
              go_wp2
              go_ret
              exact yes_mk rfl (unhid_ HB4)
            · rw [if_neg hdeep, Bool.and_eq_true, Bool.and_eq_true, Bool.and_eq_true, beq_iff_eq] at hok
              obtain ⟨h0, hsame, hck, hrest⟩ := hok
              have h0 : er = 0 := h0
              subst h0
              have hsame : sameQ (.mk po pn pk) (.mk wo wn wk) = true := hsame
              have hpq := sameQ_eq _ _ hsame
              have hckp : checkF (.mk po pn pk) = true := by rw [hpq]; exact hck
              have hdI : (D : Int) ≤ 12 := by omega
              have HSM := Lib.hid hsame
              have HCK := Lib.hid hck
              have HCKP := Lib.hid hckp
              have HPQ := Lib.hid hpq
              have HREST := Lib.hid hrest
              clear hsame hck hckp hpq hrest
              go_wp2_with fail
              refine (unhid_ HPR).mono ?_
              rintro e w2 ⟨A2, c2', rfl, hrp2, hb2⟩
              simp only [QT.op, QT.n, QT.kids]
              have hb2' : Below wr.heap.size wr (w2.alloc (.cells #[.int .i64 po, .int .i64 pn, .slice A2 pk.length c2'] stepT)) := hb2.alloc hb2.size _
              have d0 : w2.cell? ⟨wc.heap.size, 0, none⟩ = some (.int .i64 wo) := (hb2.cell (p := ⟨wc.heap.size, 0, none⟩) hbl).trans c0
              have d1 : w2.cell? ⟨wc.heap.size, 1, none⟩ = some (.int .i64 wn) := (hb2.cell (p := ⟨wc.heap.size, 1, none⟩) hbl).trans c1
              have d2 : w2.cell? ⟨wc.heap.size, 2, none⟩ = some (.slice A wk.length c) := (hb2.cell (p := ⟨wc.heap.size, 2, none⟩) hbl).trans c2
              have hbl2 : wc.heap.size < w2.heap.size := by have := hb2.size; omega
              have hrq2 : RQ (w2.alloc (.cells #[.int .i64 po, .int .i64 pn, .slice A2 pk.length c2'] stepT)) 0 (w2.alloc (.cells #[.int .i64 po, .int .i64 pn, .slice A2 pk.length c2'] stepT)).heap.size (.mk po pn pk) A2 c2' := (hrp2.keep (P' := fun _ => True) (fun b _ hlt => ⟨Below.heap_alloc _ _ _ hlt, trivial⟩)).rq
              have hrqw : RQ (w2.alloc (.cells #[.int .i64 po, .int .i64 pn, .slice A2 pk.length c2'] stepT)) 0 (w2.alloc (.cells #[.int .i64 po, .int .i64 pn, .slice A2 pk.length c2'] stepT)).heap.size (.mk wo wn wk) A c := ((unhid_ HRP).keep (P' := fun _ => True) (fun b _ hlt => ⟨hb2'.block b hlt, trivial⟩)).rq
              have HSA := hide (Same_any _ 0 _ 0 _ po pn pk A2 c2' wo wn wk A c hrq2 (Nat.le_refl _) hrqw (Nat.le_refl _) HCKP.out HCK.out HSM.out)
              have HTX := hide (fun (w3 : World) (hb : Below (w2.alloc (.cells #[.int .i64 po, .int .i64 pn, .slice A2 pk.length c2'] stepT)).heap.size (w2.alloc (.cells #[.int .i64 po, .int .i64 pn, .slice A2 pk.length c2'] stepT)) w3) => Text_any w3 0 _ po pn pk A2 c2' (hrq2.belowW hb) hb.size HCKP.out)
              have HB2 := hide hb2'
              clear hrp2 hb2 hb2' c0 c1 c2 f0 f1 f2 HPR hrq2 hrqw
              go_wp2_with fail
              refine (unhid_ HSA).mono ?_
              rintro e w3 ⟨rfl, hb3⟩
              have hb3' := (unhid_ HBEL).trans (((unhid_ HB2).trans (hb3.mono (unhid_ HB2).size)).mono (unhid_ HBEL).size)
              have HB3 := hide hb3'
              have htxt : textF (.mk po pn pk) = TL := by
                have h := HREST.out
                rw [← HPQ.out] at h
                simpa using h
              have x0 : w3.cell? ⟨w2.heap.size, 0, none⟩ = some (.int .i64 po) := (hb3.cell (p := ⟨w2.heap.size, 0, none⟩) (by simp)).trans ((Blk.new w2 stepT _).cell 0)
              have x1 : w3.cell? ⟨w2.heap.size, 1, none⟩ = some (.int .i64 pn) := (hb3.cell (p := ⟨w2.heap.size, 1, none⟩) (by simp)).trans ((Blk.new w2 stepT _).cell 1)
              have x2 : w3.cell? ⟨w2.heap.size, 2, none⟩ = some (.slice A2 pk.length c2') := (hb3.cell (p := ⟨w2.heap.size, 2, none⟩) (by simp)).trans ((Blk.new w2 stepT _).cell 2)
              have ht := (unhid_ HTX) w3 hb3
              rw [htxt] at ht
              have HT := hide ht
              clear ht htxt hb3 hb3' HTX HSA d0 d1 d2
              go_wp2_with fail
              refine (unhid_ HT).mono ?_
              rintro e w3' ⟨rfl, hb3''⟩
              rw [← HT1.out]
              have hz := hb3''.size
              have HB3' := hide ((unhid_ HB3).trans (hb3''.mono (unhid_ HB3).size))
              clear hb3'' HB3 x0 x1 x2
              have HB3 := HB3'
              have HAW := hide (awake_any _ ((unhid_ HV).belowW (unhid_ HB3)))
              go_wp2_with fail
              refine (unhid_ HAW).mono ?_
              rintro e w4 ⟨rfl, hb4⟩
              have HB4 := hide ((unhid_ HB3).trans (hb4.mono (unhid_ HB3).size))
              clear hb4
              go_wp2
              go_ret
              exact yes_mk rfl (unhid_ HB4)
      · have e0 : wc.cell? ⟨w.heap.size, 1, none⟩ = some (.string (bytesB (wordS 1))) := hst.b0.cell 1
        have t0 := hst.b3.cell 3
        have t1 := hst.b3.cell 4
        have t2 := hst.b3.cell 5
        simp only [List.getElem?_toArray, List.getElem?_cons_zero, List.getElem?_cons_succ] at t0 t1 t2
        have hsz : w.heap.size + 1 + 1 + 1 < wc.heap.size := by have := hst.size; omega
        have hsz0 : w.heap.size < wc.heap.size := by omega
        have HSB := hide (start_box1 hst)
        have HSBB := hide (hst.bel.alloc (by have := hst.size; omega) (.cells #[.int .i64 6, .int .i64 0, .slice (some ⟨w.heap.size + 1, 0, none⟩) 2 2] stepT))
        have hdl : deepS 1 0 = 2 := rfl
        clear hst
        go_wp2_with fail
        go_loopw [9, 11, 12] (fun s9 s11 s12 wr => StarsR w 1 K wc.heap.size s9 s11 s12 wr) (fun _ _ s12 _ => K - (intOf s12).toNat)
        case atStart => exact ⟨0, Nat.zero_le _, rfl, rfl, rfl, by simp, unhid_ HSB, unhid_ HSBB⟩
        case round =>
          obtain ⟨j, hj, rfl, rfl, rfl, hbl, ⟨A, c, hbx, hrp⟩, hbel⟩ := hrel
          have hvr := (unhid_ HV).belowW hbel
          obtain ⟨q, hq⟩ : ∃ q, q = starTree (treeS 1) j := ⟨_, rfl⟩
          rw [← hq] at hbx hrp
          obtain ⟨wo, wn, wk⟩ := q
          have hbx : Blk wr wc.heap.size stepT #[.int .i64 wo, .int .i64 wn, .slice A wk.length c] := hbx
          obtain ⟨c0, c1, c2⟩ := box_facts hbx
          have f0 := hbx.frozen 0
          have f1 := hbx.frozen 1
          have f2 := hbx.frozen 2
          have HBX := hide hbx
          have HRP := hide hrp
          have HBEL := hide hbel
          have HQ := Lib.hid hq
          have htl := textS_len 1 j
          have hdj : deepS 1 j = 2 + j := rfl
          obtain ⟨D, hD⟩ : ∃ D, D = deepS 1 j := ⟨_, rfl⟩
          rw [← hD] at hdj ⊢
          have HD := Lib.hid hD
          clear t0 t1 t2 e0 HSB HSBB hbel hbx hrp hq hdl hD
          by_cases hjK : j < K
          · have hjI : (j : Int) < K := by omega
            have a1 : ∀ W : World, (Op.stringOp .add (bytesB (textS 1 j)) ⟨#[42]⟩).run Tryd.prog W = .ok (.string (bytesB (textS 1 (j + 1)))) W := fun W => by rw [textS_succ]; exact run_add_l W _ [42] (by omega) (by decide)
            obtain ⟨T1, hT1⟩ : ∃ x, x = bytesB (textS 1 j) := ⟨_, rfl⟩
            obtain ⟨T2, hT2⟩ : ∃ x, x = bytesB (textS 1 (j + 1)) := ⟨_, rfl⟩
            rw [← hT1, ← hT2] at a1
            rw [← hT1]
            have HT2 := Lib.hid hT2
            have HDJ := Lib.hid hdj
            clear hT1 hT2 hdj
            have hDl : D ≤ 20 := by have := HDJ.out; omega
            go_wp2_with fail
            have hib := InBox.starred (P := fun k => w.heap.size ≤ k ∧ k ≠ wc.heap.size) (unhid_ HBX) (unhid_ HRP) (by simp) ⟨by omega, by omega⟩
            have hbe := (((((unhid_ HBEL).setCell (p := ⟨wc.heap.size, 0, none⟩) (by simp; omega) (.int .i64 5)).setCell (p := ⟨wc.heap.size, 1, none⟩) (by simp; omega) (.int .i64 0)).setCell (p := ⟨wc.heap.size, 2, none⟩) (by simp; omega) (.slice (some ⟨wr.heap.size, 0, none⟩) 1 1))).alloc (by simp [World.setCell]; omega) (.cells #[.int .i64 wo, .int .i64 wn, .slice A wk.length c] stepT)
            go_roundw
            case rel => exact ⟨j + 1, by omega, by go_num, by rw [HT2.out], by rw [show deepS 1 (j + 1) = D + 1 from by rw [HDJ.out]; rfl]; go_num, by simp [World.setCell]; omega, by rw [show starTree (treeS 1) (j + 1) = .mk 5 0 [starTree (treeS 1) j] from rfl, ← HQ.out]; exact hib, hbe⟩
            case measure => simp [intOf]; omega
          · obtain rfl : j = K := by omega
            have hok := HOK.out
            rw [starsOk, ← HD.out, ← HQ.out] at hok
            have HPR := hide (parse_any (bytesB (textS 1 j)) wr hvr (by rw [size_bytesB]; omega))
            rw [show (bytesB (textS 1 j)).data.toList = textS 1 j from rfl] at HPR
            obtain ⟨TL, hTL⟩ : ∃ x, x = textS 1 j := ⟨_, rfl⟩
            rw [← hTL] at hok HPR htl ⊢
            obtain ⟨r, hr⟩ : ∃ r, r = parseF TL := ⟨_, rfl⟩
            rw [← hr] at hok HPR
            obtain ⟨⟨po, pn, pk⟩, at_, er⟩ := r
            obtain ⟨T1, hT1⟩ : ∃ x, x = bytesB TL := ⟨_, rfl⟩
            rw [← hT1] at HPR ⊢
            have HT1 := Lib.hid hT1
            clear hTL hr hT1 hjK hvr
            by_cases hdeep : 12 < D
            · rw [if_pos hdeep, Bool.and_eq_true, beq_iff_eq] at hok
              obtain ⟨h14, hnc⟩ := hok
              have h14 : er = 14 := h14
              subst h14
              have hnc : checkF (.mk wo wn wk) = false := by simpa using hnc
              have hdI : (12 : Int) < (D : Int) := by omega
              have hcw := fun (w2 : World) (hb : Below wr.heap.size wr w2) => check_any w2 0 w2.heap.size wo wn wk A c ((unhid_ HRP).keep (P' := fun _ => True) (fun b _ hlt => ⟨hb.block b hlt, trivial⟩)).rq (Nat.le_refl _)
              rw [hnc] at hcw
              have HCW := hide hcw
              clear hnc hcw
              go_wp2_with fail
              refine (unhid_ HPR).mono ?_
              rintro e w2 ⟨A2, c2', rfl, hrp2, hb2⟩
              simp only [QT.op, QT.n, QT.kids]
              have hb2' : Below wr.heap.size wr (w2.alloc (.cells #[.int .i64 po, .int .i64 pn, .slice A2 pk.length c2'] stepT)) := hb2.alloc hb2.size _
              have d0 : w2.cell? ⟨wc.heap.size, 0, none⟩ = some (.int .i64 wo) := (hb2.cell (p := ⟨wc.heap.size, 0, none⟩) hbl).trans c0
              have d1 : w2.cell? ⟨wc.heap.size, 1, none⟩ = some (.int .i64 wn) := (hb2.cell (p := ⟨wc.heap.size, 1, none⟩) hbl).trans c1
              have d2 : w2.cell? ⟨wc.heap.size, 2, none⟩ = some (.slice A wk.length c) := (hb2.cell (p := ⟨wc.heap.size, 2, none⟩) hbl).trans c2
              have hbl2 : wc.heap.size < w2.heap.size := by have := hb2.size; omega
              have HB2 := hide hb2'
              clear hrp2 hb2 hb2' c0 c1 c2 f0 f1 f2 HPR
              go_wp2_with fail
              refine ((unhid_ HCW) _ (unhid_ HB2)).mono ?_
              rintro e w3 ⟨rfl, hb3⟩
              have hb3' := (unhid_ HBEL).trans (((unhid_ HB2).trans (hb3.mono (unhid_ HB2).size)).mono (unhid_ HBEL).size)
              have HB3 := hide hb3'
              have HAW := hide (awake_any w3 ((unhid_ HV).belowW hb3'))
              clear hb3 hb3'
              go_wp2_with fail
              refine (unhid_ HAW).mono ?_
              rintro e w4 ⟨rfl, hb4⟩
              have HB4 := hide ((unhid_ HB3).trans (hb4.mono (unhid_ HB3).size))
              clear hb4
              go_wp2
              go_ret
              exact yes_mk rfl (unhid_ HB4)
            · rw [if_neg hdeep, Bool.and_eq_true, Bool.and_eq_true, Bool.and_eq_true, beq_iff_eq] at hok
              obtain ⟨h0, hsame, hck, hrest⟩ := hok
              have h0 : er = 0 := h0
              subst h0
              have hsame : sameQ (.mk po pn pk) (.mk wo wn wk) = true := hsame
              have hpq := sameQ_eq _ _ hsame
              have hckp : checkF (.mk po pn pk) = true := by rw [hpq]; exact hck
              have hdI : (D : Int) ≤ 12 := by omega
              have HSM := Lib.hid hsame
              have HCK := Lib.hid hck
              have HCKP := Lib.hid hckp
              have HPQ := Lib.hid hpq
              have HREST := Lib.hid hrest
              clear hsame hck hckp hpq hrest
              go_wp2_with fail
              refine (unhid_ HPR).mono ?_
              rintro e w2 ⟨A2, c2', rfl, hrp2, hb2⟩
              simp only [QT.op, QT.n, QT.kids]
              have hb2' : Below wr.heap.size wr (w2.alloc (.cells #[.int .i64 po, .int .i64 pn, .slice A2 pk.length c2'] stepT)) := hb2.alloc hb2.size _
              have d0 : w2.cell? ⟨wc.heap.size, 0, none⟩ = some (.int .i64 wo) := (hb2.cell (p := ⟨wc.heap.size, 0, none⟩) hbl).trans c0
              have d1 : w2.cell? ⟨wc.heap.size, 1, none⟩ = some (.int .i64 wn) := (hb2.cell (p := ⟨wc.heap.size, 1, none⟩) hbl).trans c1
              have d2 : w2.cell? ⟨wc.heap.size, 2, none⟩ = some (.slice A wk.length c) := (hb2.cell (p := ⟨wc.heap.size, 2, none⟩) hbl).trans c2
              have hbl2 : wc.heap.size < w2.heap.size := by have := hb2.size; omega
              have hrq2 : RQ (w2.alloc (.cells #[.int .i64 po, .int .i64 pn, .slice A2 pk.length c2'] stepT)) 0 (w2.alloc (.cells #[.int .i64 po, .int .i64 pn, .slice A2 pk.length c2'] stepT)).heap.size (.mk po pn pk) A2 c2' := (hrp2.keep (P' := fun _ => True) (fun b _ hlt => ⟨Below.heap_alloc _ _ _ hlt, trivial⟩)).rq
              have hrqw : RQ (w2.alloc (.cells #[.int .i64 po, .int .i64 pn, .slice A2 pk.length c2'] stepT)) 0 (w2.alloc (.cells #[.int .i64 po, .int .i64 pn, .slice A2 pk.length c2'] stepT)).heap.size (.mk wo wn wk) A c := ((unhid_ HRP).keep (P' := fun _ => True) (fun b _ hlt => ⟨hb2'.block b hlt, trivial⟩)).rq
              have HSA := hide (Same_any _ 0 _ 0 _ po pn pk A2 c2' wo wn wk A c hrq2 (Nat.le_refl _) hrqw (Nat.le_refl _) HCKP.out HCK.out HSM.out)
              have HTX := hide (fun (w3 : World) (hb : Below (w2.alloc (.cells #[.int .i64 po, .int .i64 pn, .slice A2 pk.length c2'] stepT)).heap.size (w2.alloc (.cells #[.int .i64 po, .int .i64 pn, .slice A2 pk.length c2'] stepT)) w3) => Text_any w3 0 _ po pn pk A2 c2' (hrq2.belowW hb) hb.size HCKP.out)
              have HB2 := hide hb2'
              clear hrp2 hb2 hb2' c0 c1 c2 f0 f1 f2 HPR hrq2 hrqw
              by_cases hK0 : j = 0
              · have hKI : ((j : Int) == 0) = true := by rw [hK0]; rfl
                clear hK0
                go_wp2_with fail
                refine (unhid_ HSA).mono ?_
                rintro e w3 ⟨rfl, hb3⟩
                have hb3' := (unhid_ HBEL).trans (((unhid_ HB2).trans (hb3.mono (unhid_ HB2).size)).mono (unhid_ HBEL).size)
                have HB3 := hide hb3'
                clear hb3 hb3'
                have HAW := hide (awake_any _ ((unhid_ HV).belowW (unhid_ HB3)))
                go_wp2_with fail
                refine (unhid_ HAW).mono ?_
                rintro e w4 ⟨rfl, hb4⟩
                have HB4 := hide ((unhid_ HB3).trans (hb4.mono (unhid_ HB3).size))
                clear hb4
                go_wp2
                go_ret
                exact yes_mk rfl (unhid_ HB4)
              · have hKI : ((j : Int) == 0) = false := by rw [beq_eq_false_iff_ne]; omega
                go_wp2_with fail
                refine (unhid_ HSA).mono ?_
                rintro e w3 ⟨rfl, hb3⟩
                have hb3' := (unhid_ HBEL).trans (((unhid_ HB2).trans (hb3.mono (unhid_ HB2).size)).mono (unhid_ HBEL).size)
                have HB3 := hide hb3'
                have htxt : textF (.mk po pn pk) = TL := by
                  have h := HREST.out
                  rw [← HPQ.out] at h
                  simpa [hK0] using h
                have x0 : w3.cell? ⟨w2.heap.size, 0, none⟩ = some (.int .i64 po) := (hb3.cell (p := ⟨w2.heap.size, 0, none⟩) (by simp)).trans ((Blk.new w2 stepT _).cell 0)
                have x1 : w3.cell? ⟨w2.heap.size, 1, none⟩ = some (.int .i64 pn) := (hb3.cell (p := ⟨w2.heap.size, 1, none⟩) (by simp)).trans ((Blk.new w2 stepT _).cell 1)
                have x2 : w3.cell? ⟨w2.heap.size, 2, none⟩ = some (.slice A2 pk.length c2') := (hb3.cell (p := ⟨w2.heap.size, 2, none⟩) (by simp)).trans ((Blk.new w2 stepT _).cell 2)
                have ht := (unhid_ HTX) w3 hb3
                rw [htxt] at ht
                have HT := hide ht
                clear ht htxt hb3 hb3' HTX HSA d0 d1 d2
                go_wp2_with fail
                refine (unhid_ HT).mono ?_
                rintro e w3' ⟨rfl, hb3''⟩
                rw [← HT1.out]
                have hz := hb3''.size
                have HB3' := hide ((unhid_ HB3).trans (hb3''.mono (unhid_ HB3).size))
                clear hb3'' HB3 x0 x1 x2
                have HB3 := HB3'
                have HAW := hide (awake_any _ ((unhid_ HV).belowW (unhid_ HB3)))
                go_wp2_with fail
                refine (unhid_ HAW).mono ?_
                rintro e w4 ⟨rfl, hb4⟩
                have HB4 := hide ((unhid_ HB3).trans (hb4.mono (unhid_ HB3).size))
                clear hb4
                go_wp2
                go_ret
                exact yes_mk rfl (unhid_ HB4)
      · have e0 : wc.cell? ⟨w.heap.size, 2, none⟩ = some (.string (bytesB (wordS 2))) := hst.b0.cell 2
        have t0 := hst.b3.cell 6
        have t1 := hst.b3.cell 7
        have t2 := hst.b3.cell 8
        simp only [List.getElem?_toArray, List.getElem?_cons_zero, List.getElem?_cons_succ] at t0 t1 t2
        have hsz : w.heap.size + 1 + 1 + 1 < wc.heap.size := by have := hst.size; omega
        have hsz0 : w.heap.size < wc.heap.size := by omega
        have HSB := hide (start_box2 hst)
        have HSBB := hide (hst.bel.alloc (by have := hst.size; omega) (.cells #[.int .i64 7, .int .i64 0, .slice (some ⟨w.heap.size + 2, 0, none⟩) 2 2] stepT))
        have hdl : deepS 2 0 = 2 := rfl
        clear hst
        go_wp2_with fail
        go_loopw [9, 11, 12] (fun s9 s11 s12 wr => StarsR w 2 K wc.heap.size s9 s11 s12 wr) (fun _ _ s12 _ => K - (intOf s12).toNat)
        case atStart => exact ⟨0, Nat.zero_le _, rfl, rfl, rfl, by simp, unhid_ HSB, unhid_ HSBB⟩
        case round =>
          obtain ⟨j, hj, rfl, rfl, rfl, hbl, ⟨A, c, hbx, hrp⟩, hbel⟩ := hrel
          have hvr := (unhid_ HV).belowW hbel
          obtain ⟨q, hq⟩ : ∃ q, q = starTree (treeS 2) j := ⟨_, rfl⟩
          rw [← hq] at hbx hrp
          obtain ⟨wo, wn, wk⟩ := q
          have hbx : Blk wr wc.heap.size stepT #[.int .i64 wo, .int .i64 wn, .slice A wk.length c] := hbx
          obtain ⟨c0, c1, c2⟩ := box_facts hbx
          have f0 := hbx.frozen 0
          have f1 := hbx.frozen 1
          have f2 := hbx.frozen 2
          have HBX := hide hbx
          have HRP := hide hrp
          have HBEL := hide hbel
          have HQ := Lib.hid hq
          have htl := textS_len 2 j
          have hdj : deepS 2 j = 2 + j := rfl
          obtain ⟨D, hD⟩ : ∃ D, D = deepS 2 j := ⟨_, rfl⟩
          rw [← hD] at hdj ⊢
          have HD := Lib.hid hD
          clear t0 t1 t2 e0 HSB HSBB hbel hbx hrp hq hdl hD
          by_cases hjK : j < K
          · have hjI : (j : Int) < K := by omega
            have a1 : ∀ W : World, (Op.stringOp .add (bytesB (textS 2 j)) ⟨#[42]⟩).run Tryd.prog W = .ok (.string (bytesB (textS 2 (j + 1)))) W := fun W => by rw [textS_succ]; exact run_add_l W _ [42] (by omega) (by decide)
            obtain ⟨T1, hT1⟩ : ∃ x, x = bytesB (textS 2 j) := ⟨_, rfl⟩
            obtain ⟨T2, hT2⟩ : ∃ x, x = bytesB (textS 2 (j + 1)) := ⟨_, rfl⟩
            rw [← hT1, ← hT2] at a1
            rw [← hT1]
            have HT2 := Lib.hid hT2
            have HDJ := Lib.hid hdj
            clear hT1 hT2 hdj
            have hDl : D ≤ 20 := by have := HDJ.out; omega
            go_wp2_with fail
            have hib := InBox.starred (P := fun k => w.heap.size ≤ k ∧ k ≠ wc.heap.size) (unhid_ HBX) (unhid_ HRP) (by simp) ⟨by omega, by omega⟩
            have hbe := (((((unhid_ HBEL).setCell (p := ⟨wc.heap.size, 0, none⟩) (by simp; omega) (.int .i64 5)).setCell (p := ⟨wc.heap.size, 1, none⟩) (by simp; omega) (.int .i64 0)).setCell (p := ⟨wc.heap.size, 2, none⟩) (by simp; omega) (.slice (some ⟨wr.heap.size, 0, none⟩) 1 1))).alloc (by simp [World.setCell]; omega) (.cells #[.int .i64 wo, .int .i64 wn, .slice A wk.length c] stepT)
            go_roundw
            case rel => exact ⟨j + 1, by omega, by go_num, by rw [HT2.out], by rw [show deepS 2 (j + 1) = D + 1 from by rw [HDJ.out]; rfl]; go_num, by simp [World.setCell]; omega, by rw [show starTree (treeS 2) (j + 1) = .mk 5 0 [starTree (treeS 2) j] from rfl, ← HQ.out]; exact hib, hbe⟩
            case measure => simp [intOf]; omega
          · obtain rfl : j = K := by omega
            have hok := HOK.out
            rw [starsOk, ← HD.out, ← HQ.out] at hok
            have HPR := hide (parse_any (bytesB (textS 2 j)) wr hvr (by rw [size_bytesB]; omega))
            rw [show (bytesB (textS 2 j)).data.toList = textS 2 j from rfl] at HPR
            obtain ⟨TL, hTL⟩ : ∃ x, x = textS 2 j := ⟨_, rfl⟩
            rw [← hTL] at hok HPR htl ⊢
            obtain ⟨r, hr⟩ : ∃ r, r = parseF TL := ⟨_, rfl⟩
            rw [← hr] at hok HPR
            obtain ⟨⟨po, pn, pk⟩, at_, er⟩ := r
            obtain ⟨T1, hT1⟩ : ∃ x, x = bytesB TL := ⟨_, rfl⟩
            rw [← hT1] at HPR ⊢
            have HT1 := Lib.hid hT1
            clear hTL hr hT1 hjK hvr
            by_cases hdeep : 12 < D
            · rw [if_pos hdeep, Bool.and_eq_true, beq_iff_eq] at hok
              obtain ⟨h14, hnc⟩ := hok
              have h14 : er = 14 := h14
              subst h14
              have hnc : checkF (.mk wo wn wk) = false := by simpa using hnc
              have hdI : (12 : Int) < (D : Int) := by omega
              have hcw := fun (w2 : World) (hb : Below wr.heap.size wr w2) => check_any w2 0 w2.heap.size wo wn wk A c ((unhid_ HRP).keep (P' := fun _ => True) (fun b _ hlt => ⟨hb.block b hlt, trivial⟩)).rq (Nat.le_refl _)
              rw [hnc] at hcw
              have HCW := hide hcw
              clear hnc hcw
              go_wp2_with fail
              refine (unhid_ HPR).mono ?_
              rintro e w2 ⟨A2, c2', rfl, hrp2, hb2⟩
              simp only [QT.op, QT.n, QT.kids]
              have hb2' : Below wr.heap.size wr (w2.alloc (.cells #[.int .i64 po, .int .i64 pn, .slice A2 pk.length c2'] stepT)) := hb2.alloc hb2.size _
              have d0 : w2.cell? ⟨wc.heap.size, 0, none⟩ = some (.int .i64 wo) := (hb2.cell (p := ⟨wc.heap.size, 0, none⟩) hbl).trans c0
              have d1 : w2.cell? ⟨wc.heap.size, 1, none⟩ = some (.int .i64 wn) := (hb2.cell (p := ⟨wc.heap.size, 1, none⟩) hbl).trans c1
              have d2 : w2.cell? ⟨wc.heap.size, 2, none⟩ = some (.slice A wk.length c) := (hb2.cell (p := ⟨wc.heap.size, 2, none⟩) hbl).trans c2
              have hbl2 : wc.heap.size < w2.heap.size := by have := hb2.size; omega
              have HB2 := hide hb2'
              clear hrp2 hb2 hb2' c0 c1 c2 f0 f1 f2 HPR
              go_wp2_with fail
              refine ((unhid_ HCW) _ (unhid_ HB2)).mono ?_
              rintro e w3 ⟨rfl, hb3⟩
              have hb3' := (unhid_ HBEL).trans (((unhid_ HB2).trans (hb3.mono (unhid_ HB2).size)).mono (unhid_ HBEL).size)
              have HB3 := hide hb3'
              have HAW := hide (awake_any w3 ((unhid_ HV).belowW hb3'))
              clear hb3 hb3'
              go_wp2_with fail
              refine (unhid_ HAW).mono ?_
              rintro e w4 ⟨rfl, hb4⟩
              have HB4 := hide ((unhid_ HB3).trans (hb4.mono (unhid_ HB3).size))
              clear hb4
              go_wp2
              go_ret
              exact yes_mk rfl (unhid_ HB4)
            · rw [if_neg hdeep, Bool.and_eq_true, Bool.and_eq_true, Bool.and_eq_true, beq_iff_eq] at hok
              obtain ⟨h0, hsame, hck, hrest⟩ := hok
              have h0 : er = 0 := h0
              subst h0
              have hsame : sameQ (.mk po pn pk) (.mk wo wn wk) = true := hsame
              have hpq := sameQ_eq _ _ hsame
              have hckp : checkF (.mk po pn pk) = true := by rw [hpq]; exact hck
              have hdI : (D : Int) ≤ 12 := by omega
              have HSM := Lib.hid hsame
              have HCK := Lib.hid hck
              have HCKP := Lib.hid hckp
              have HPQ := Lib.hid hpq
              have HREST := Lib.hid hrest
              clear hsame hck hckp hpq hrest
              go_wp2_with fail
              refine (unhid_ HPR).mono ?_
              rintro e w2 ⟨A2, c2', rfl, hrp2, hb2⟩
              simp only [QT.op, QT.n, QT.kids]
              have hb2' : Below wr.heap.size wr (w2.alloc (.cells #[.int .i64 po, .int .i64 pn, .slice A2 pk.length c2'] stepT)) := hb2.alloc hb2.size _
              have d0 : w2.cell? ⟨wc.heap.size, 0, none⟩ = some (.int .i64 wo) := (hb2.cell (p := ⟨wc.heap.size, 0, none⟩) hbl).trans c0
              have d1 : w2.cell? ⟨wc.heap.size, 1, none⟩ = some (.int .i64 wn) := (hb2.cell (p := ⟨wc.heap.size, 1, none⟩) hbl).trans c1
              have d2 : w2.cell? ⟨wc.heap.size, 2, none⟩ = some (.slice A wk.length c) := (hb2.cell (p := ⟨wc.heap.size, 2, none⟩) hbl).trans c2
              have hbl2 : wc.heap.size < w2.heap.size := by have := hb2.size; omega
              have hrq2 : RQ (w2.alloc (.cells #[.int .i64 po, .int .i64 pn, .slice A2 pk.length c2'] stepT)) 0 (w2.alloc (.cells #[.int .i64 po, .int .i64 pn, .slice A2 pk.length c2'] stepT)).heap.size (.mk po pn pk) A2 c2' := (hrp2.keep (P' := fun _ => True) (fun b _ hlt => ⟨Below.heap_alloc _ _ _ hlt, trivial⟩)).rq
              have hrqw : RQ (w2.alloc (.cells #[.int .i64 po, .int .i64 pn, .slice A2 pk.length c2'] stepT)) 0 (w2.alloc (.cells #[.int .i64 po, .int .i64 pn, .slice A2 pk.length c2'] stepT)).heap.size (.mk wo wn wk) A c := ((unhid_ HRP).keep (P' := fun _ => True) (fun b _ hlt => ⟨hb2'.block b hlt, trivial⟩)).rq
              have HSA := hide (Same_any _ 0 _ 0 _ po pn pk A2 c2' wo wn wk A c hrq2 (Nat.le_refl _) hrqw (Nat.le_refl _) HCKP.out HCK.out HSM.out)
              have HTX := hide (fun (w3 : World) (hb : Below (w2.alloc (.cells #[.int .i64 po, .int .i64 pn, .slice A2 pk.length c2'] stepT)).heap.size (w2.alloc (.cells #[.int .i64 po, .int .i64 pn, .slice A2 pk.length c2'] stepT)) w3) => Text_any w3 0 _ po pn pk A2 c2' (hrq2.belowW hb) hb.size HCKP.out)
              have HB2 := hide hb2'
              clear hrp2 hb2 hb2' c0 c1 c2 f0 f1 f2 HPR hrq2 hrqw
              by_cases hK0 : j = 0
              · have hKI : ((j : Int) == 0) = true := by rw [hK0]; rfl
                clear hK0
                go_wp2_with fail
                refine (unhid_ HSA).mono ?_
                rintro e w3 ⟨rfl, hb3⟩
                have hb3' := (unhid_ HBEL).trans (((unhid_ HB2).trans (hb3.mono (unhid_ HB2).size)).mono (unhid_ HBEL).size)
                have HB3 := hide hb3'
                clear hb3 hb3'
                have HAW := hide (awake_any _ ((unhid_ HV).belowW (unhid_ HB3)))
                go_wp2_with fail
                refine (unhid_ HAW).mono ?_
                rintro e w4 ⟨rfl, hb4⟩
                have HB4 := hide ((unhid_ HB3).trans (hb4.mono (unhid_ HB3).size))
                clear hb4
                go_wp2
                go_ret
                exact yes_mk rfl (unhid_ HB4)
              · have hKI : ((j : Int) == 0) = false := by rw [beq_eq_false_iff_ne]; omega
                go_wp2_with fail
                refine (unhid_ HSA).mono ?_
                rintro e w3 ⟨rfl, hb3⟩
                have hb3' := (unhid_ HBEL).trans (((unhid_ HB2).trans (hb3.mono (unhid_ HB2).size)).mono (unhid_ HBEL).size)
                have HB3 := hide hb3'
                have htxt : textF (.mk po pn pk) = TL := by
                  have h := HREST.out
                  rw [← HPQ.out] at h
                  simpa [hK0] using h
                have x0 : w3.cell? ⟨w2.heap.size, 0, none⟩ = some (.int .i64 po) := (hb3.cell (p := ⟨w2.heap.size, 0, none⟩) (by simp)).trans ((Blk.new w2 stepT _).cell 0)
                have x1 : w3.cell? ⟨w2.heap.size, 1, none⟩ = some (.int .i64 pn) := (hb3.cell (p := ⟨w2.heap.size, 1, none⟩) (by simp)).trans ((Blk.new w2 stepT _).cell 1)
                have x2 : w3.cell? ⟨w2.heap.size, 2, none⟩ = some (.slice A2 pk.length c2') := (hb3.cell (p := ⟨w2.heap.size, 2, none⟩) (by simp)).trans ((Blk.new w2 stepT _).cell 2)
                have ht := (unhid_ HTX) w3 hb3
                rw [htxt] at ht
                have HT := hide ht
                clear ht htxt hb3 hb3' HTX HSA d0 d1 d2
                go_wp2_with fail
                refine (unhid_ HT).mono ?_
                rintro e w3' ⟨rfl, hb3''⟩
                rw [← HT1.out]
                have hz := hb3''.size
                have HB3' := hide ((unhid_ HB3).trans (hb3''.mono (unhid_ HB3).size))
                clear hb3'' HB3 x0 x1 x2
                have HB3 := HB3'
                have HAW := hide (awake_any _ ((unhid_ HV).belowW (unhid_ HB3)))
                go_wp2_with fail
                refine (unhid_ HAW).mono ?_
                rintro e w4 ⟨rfl, hb4⟩
                have HB4 := hide ((unhid_ HB3).trans (hb4.mono (unhid_ HB3).size))
                clear hb4
                go_wp2
                go_ret
                exact yes_mk rfl (unhid_ HB4)
end Go.Proofs.YthlnaejmglajeaaDoor
