/- The walk of the law AskBlanks. -/
import Derived.Test.YthlnaejmglajeaaDoorAAwake
import Derived.Test.YthlnaejmglajeaaDoorALaw3
import Derived.Test.YthlnaejmglajeaaDoorPlace
namespace Go.Proofs.YthlnaejmglajeaaDoor
open Go.RowKit
set_option linter.unusedSimpArgs false
set_option linter.unusedVariables false

theorem parse_ok_check {s : List UInt8} {q : QT} {k : Nat} (h : parseF s = (q, k, 0)) : checkF q = true := by
  rw [parseF] at h
  split at h
  · have := congrArg (fun x => x.2.2) h; simp at this
  · split at h
    · have := congrArg (fun x => x.2.2) h; simp at this
    · split at h
      · have := congrArg (fun x => x.2.2) h; simp at this
      · split at h
        · rename_i hc
          have e := congrArg (fun x => x.1) h
          simp only [] at e
          rw [← e]
          exact hc
        · have := congrArg (fun x => x.2.2) h; simp at this
theorem spread_snoc (n : Nat → Nat) : ∀ (l : List UInt8) (i : Nat) (b : UInt8), spread n i (l ++ [b]) = spread n i l ++ (b :: if signB b then List.replicate (n (i + l.length)) 32 else [])
  | [], i, b => by simp [spread]
  | a :: l, i, b => by
    rw [List.cons_append, spread, spread_snoc n l (i + 1) b, spread]
    simp only [List.length_cons, List.cons_append, List.append_assoc]
    rw [show i + 1 + l.length = i + (l.length + 1) from by omega]
theorem spread_len (n : Nat → Nat) (hn : ∀ i, n i ≤ 2) : ∀ (l : List UInt8) (i : Nat), (spread n i l).length ≤ 3 * l.length
  | [], i => Nat.zero_le _
  | b :: l, i => by
    have ih := spread_len n hn l (i + 1)
    have := hn i
    rw [spread, List.length_cons, List.length_append, List.length_cons]
    split
    · rw [List.length_replicate]; omega
    · simp only [List.length_nil]; omega
def blN (pl i : Nat) : Nat := (pl + i) % 3
def preU (pl k : Nat) (t : List UInt8) : List UInt8 := [40, 32] ++ spread (blN pl) 0 (t.take k)
theorem preU_len (pl k : Nat) (t : List UInt8) : (preU pl k t).length ≤ 2 + 3 * t.length := by
  have h := spread_len (blN pl) (fun i => by unfold blN; omega) (t.take k) 0
  have h2 := List.length_take_le k t
  have h3 : (t.take k).length ≤ t.length := by rw [List.length_take]; exact Nat.min_le_right _ _
  rw [preU, List.length_append]
  simp only [List.length_cons, List.length_nil]
  omega
theorem preU_succ (pl k : Nat) (t : List UInt8) (h : k < t.length) : preU pl (k + 1) t = preU pl k t ++ [t[k]] ++ (if signB t[k] then List.replicate (blN pl k) 32 else []) := by
  rw [preU, preU, List.take_succ_eq_append_getElem h, spread_snoc, List.length_take, Nat.min_eq_left (by omega), Nat.zero_add]
  simp
theorem blanks_law {pl : Nat} {q : QT} (hc : checkF q = true) (hl : (preU pl (textF q).length (textF q) ++ [32, 41]).length ≤ 200) : parseF (preU pl (textF q).length (textF q) ++ [32, 41]) = (q, 0, 0) := by
  refine parse_par hl hc ?_
  have h := lx_spread (blN pl) [32, 41] [[41]] (lx_blanks (lx_sign (b := 41) rfl (show Lx [] [] from rfl)) 1) (.inr ⟨32, [41], rfl, by decide, by decide⟩) (toksQ q) 0 (good_toks q (check_all hc).1)
  rw [flat_toks] at h
  rw [preU, List.take_length]
  exact lx_sign (b := 40) rfl (lx_blanks h 1)
theorem u8_eq {b : UInt8} {n : Nat} (hn : n < 256) : ((b.toNat : Int) == (n : Int)) = (b == UInt8.ofNat n) := by
  rw [Bool.eq_iff_iff, beq_iff_eq, beq_iff_eq]
  constructor
  · intro h
    have h' : b.toNat = n := by omega
    rw [← h']
    simp
  · rintro rfl
    simp
    omega

theorem sign_not {b : UInt8} (h : signB b = false) : b.toNat ≠ 40 ∧ b.toNat ≠ 41 ∧ b.toNat ≠ 124 ∧ b.toNat ≠ 59 ∧ b.toNat ≠ 42 := by
  simp only [signB, Bool.or_eq_false_iff, beq_eq_false_iff_ne] at h
  obtain ⟨h1, h2, h3, h4, h5⟩ := h
  exact ⟨fun e => h1 (UInt8.toNat_inj.1 e), fun e => h2 (UInt8.toNat_inj.1 e), fun e => h3 (UInt8.toNat_inj.1 e), fun e => h4 (UInt8.toNat_inj.1 e), fun e => h5 (UInt8.toNat_inj.1 e)⟩
theorem sign_is {b : UInt8} (h : signB b = true) : b.toNat = 40 ∨ b.toNat = 41 ∨ b.toNat = 124 ∨ b.toNat = 59 ∨ b.toNat = 42 := by
  simp only [signB, Bool.or_eq_true, beq_iff_eq] at h
  rcases h with rfl | rfl | rfl | rfl | rfl <;> decide
theorem two_blanks : ∀ N : Nat, N ≤ 2 → (⟨#[32, 32]⟩ : ByteArray).extract 0 N = bytesB (List.replicate N 32)
  | 0, _ => by decide +kernel
  | 1, _ => by decide +kernel
  | 2, _ => by decide +kernel
  | n + 3, h => by omega

set_option maxRecDepth 100000 in
set_option maxHeartbeats 2000000 in
theorem askBlanks_any (s : ByteArray) (at_ : Int) (w : World) (hv : EV w) (h63 : s.size ≤ 9223372036854775807) :
    Calls Tryd.prog 4 #[.string s, .int .i64 at_] w (Yes w) := by
  have HV := hide hv
  by_cases h150 : 150 < s.size
  · have d1 : decide ((150 : Int) < (s.size : Int)) = true := by simp; omega
    have HAW := hide (awake_any w hv)
    clear hv
    go_enter Tryd.func4, Tryd.ntmps4
    go_wp2_with fail
    refine (unhid_ HAW).mono ?_
    rintro e w1 ⟨rfl, hb1⟩
    go_wp2
    go_ret
    exact yes_mk rfl hb1
  · have d1 : decide ((150 : Int) < (s.size : Int)) = false := by simp; omega
    have HP := hide (parse_any s w hv h63)
    obtain ⟨pl, hpl, _, hplace⟩ := place_nat at_ 3 (by omega) (by omega)
    have HPL := hide hplace
    obtain ⟨r, hr⟩ : ∃ r, r = parseF s.data.toList := ⟨_, rfl⟩
    rw [← hr] at HP
    obtain ⟨⟨qo, qn, qk⟩, pk, er⟩ := r
    have HR := Lib.hid hr
    clear hv hplace hr
    go_enter Tryd.func4, Tryd.ntmps4
    go_wp2_with fail
    refine (unhid_ HP).mono ?_
    rintro e w1 ⟨A, c, rfl, hrp, hb1⟩
    simp only [QT.op, QT.n, QT.kids]
    have hb1' : Below w.heap.size w (w1.alloc (.cells #[.int .i64 qo, .int .i64 qn, .slice A qk.length c] stepT)) := hb1.alloc hb1.size _
    have HB1 := hide hb1'
    by_cases he : er = 0
    · subst he
      have hck := parse_ok_check HR.out.symm
      have hrq : RQ (w1.alloc (.cells #[.int .i64 qo, .int .i64 qn, .slice A qk.length c] stepT)) 0 (w1.alloc (.cells #[.int .i64 qo, .int .i64 qn, .slice A qk.length c] stepT)).heap.size (.mk qo qn qk) A c := (hrp.keep (P' := fun _ => True) (fun b _ hlt => ⟨Below.heap_alloc _ _ _ hlt, trivial⟩)).rq
      have HT := hide (Text_any _ 0 _ qo qn qk A c hrq (Nat.le_refl _) hck)
      have htl : (textF (.mk qo qn qk)).length ≤ 480 := by
        have h1 := textF_len (.mk qo qn qk)
        have h2 := (check_all hck).2
        omega
      have HRQ := hide hrq
      have HCK := Lib.hid hck
      obtain ⟨t, ht⟩ : ∃ t, t = textF (.mk qo qn qk) := ⟨_, rfl⟩
      rw [← ht] at HT htl
      have HTT := Lib.hid ht
      have hsz : (bytesB t).size = t.length := size_bytesB t
      obtain ⟨T, hT⟩ : ∃ T, T = bytesB t := ⟨_, rfl⟩
      rw [← hT] at hsz
      have HTB := Lib.hid hT
      have HSZ := Lib.hid hsz
      have hszI : T.size ≤ 480 := by omega
      have HT2 : Hid _ := hide (show Calls Tryd.prog 11 #[.agg #[.int .i64 qo, .int .i64 qn, .slice A qk.length c]] (w1.alloc (.cells #[.int .i64 qo, .int .i64 qn, .slice A qk.length c] stepT)) (fun e w' => e = .returned (.string T) ∧ Below (w1.alloc (.cells #[.int .i64 qo, .int .i64 qn, .slice A qk.length c] stepT)).heap.size (w1.alloc (.cells #[.int .i64 qo, .int .i64 qn, .slice A qk.length c] stepT)) w') from by rw [hT]; exact unhid_ HT)
      clear hrp hb1 hb1' hck hrq ht hsz hT HT HP
      go_wp2_with fail
      refine (unhid_ HT2).mono ?_
      rintro e w2 ⟨rfl, hb2⟩
      have HB2 := hide hb2
      have hl2 : w1.heap.size < w2.heap.size := by have := hb2.size; simp only [World.size_alloc] at this; omega
      clear hb2 HT2
      go_wp2_with fail
      go_loop [9, 10] (fun su si => ∃ k : Nat, k ≤ t.length ∧ si = .int .i64 k ∧ su = .string (bytesB (preU pl k t))) (fun _ si => t.length - (intOf si).toNat)
      case atStart => exact ⟨0, Nat.zero_le _, rfl, rfl⟩
      case round =>
        obtain ⟨k, hk, rfl, rfl⟩ := hrel
        have hul := preU_len pl k t
        by_cases hlt : k < t.length
        · have hltS : k < T.size := by have := HSZ.out; omega
          have hltI : (k : Int) < T.size := by omega
          have hbe : T[k] = t[k] := by have := HTB.out; subst this; rfl
          have hex : T.extract k (k + 1) = bytesB [t[k]] := by
            rw [extract_tok, Nat.add_sub_cancel_left, show T.data.toList = t from by rw [HTB.out]; rfl, List.drop_eq_getElem_cons hlt, List.take_succ_cons, List.take_zero]
          have hsu := preU_succ pl k t hlt
          have a1 : ∀ W : World, (Op.stringOp .add (bytesB (preU pl k t)) (T.extract k (k + 1))).run Tryd.prog W = .ok (.string (bytesB (preU pl k t ++ [t[k]]))) W := fun W => by rw [hex]; exact run_add_l W _ _ (by omega) (by simp)
          have hN : ((pl : Int) + k) % 3 = ((blN pl k : Nat) : Int) := by unfold blN; omega
          have HPL2 := hide (fun w : World => hN ▸ place_any ((pl : Int) + k) 3 w (by omega) (by omega))
          obtain ⟨N, hNN⟩ : ∃ N, N = blN pl k := ⟨_, rfl⟩
          have hN2 : N ≤ 2 := by rw [hNN]; unfold blN; omega
          have a2 : ∀ W : World, (Op.stringOp .add (bytesB (preU pl k t ++ [t[k]])) ((⟨#[32, 32]⟩ : ByteArray).extract 0 N)).run Tryd.prog W = .ok (.string (bytesB (preU pl k t ++ [t[k]] ++ List.replicate N 32))) W := fun W => by rw [two_blanks N hN2]; exact run_add_l W _ _ (by simp; omega) (by simp; omega)
          rw [← hNN] at HPL2 hsu
          obtain ⟨U0, hU0⟩ : ∃ x, x = bytesB (preU pl k t) := ⟨_, rfl⟩
          obtain ⟨U1, hU1⟩ : ∃ x, x = bytesB (preU pl k t ++ [t[k]]) := ⟨_, rfl⟩
          obtain ⟨U2, hU2⟩ : ∃ x, x = bytesB (preU pl k t ++ [t[k]] ++ List.replicate N 32) := ⟨_, rfl⟩
          rw [← hU0, ← hU1] at a1
          rw [← hU1, ← hU2] at a2
          rw [← hU0]
          have HU1 := Lib.hid hU1
          have HU2 := Lib.hid hU2
          have HSU := Lib.hid hsu
          clear hU0 hU1 hU2 hsu hN hNN hex
          cases hsg : signB t[k] with
          | false =>
            obtain ⟨n1, n2, n3, n4, n5⟩ := sign_not hsg
            rw [← hbe] at n1 n2 n3 n4 n5
            have e1 : ((T[k].toNat : Int) == 40) = false := by rw [beq_eq_false_iff_ne]; omega
            have e2 : ((T[k].toNat : Int) == 41) = false := by rw [beq_eq_false_iff_ne]; omega
            have e3 : ((T[k].toNat : Int) == 124) = false := by rw [beq_eq_false_iff_ne]; omega
            have e4 : ((T[k].toNat : Int) == 59) = false := by rw [beq_eq_false_iff_ne]; omega
            have e5 : ((T[k].toNat : Int) == 42) = false := by rw [beq_eq_false_iff_ne]; omega
            have HSG := Lib.hid hsg
            clear hsg n1 n2 n3 n4 n5 hbe a2
            go_wp2
            go_round
            case rel => exact ⟨k + 1, by omega, by go_num, by rw [HU1.out, HSU.out, HSG.out]; simp⟩
            case measure => simp [intOf]; omega
          | true =>
            have hsi := sign_is hsg
            rw [← hbe] at hsi
            have HSG := Lib.hid hsg
            have hpI : (0 : Int) ≤ pl := by omega
            have hpI2 : (pl : Int) < 3 := by omega
            have hkI : (k : Int) ≤ 480 := by omega
            have hNI : (N : Int) ≤ 2 := by omega
            have hq : ∃ e1 e2 e3 e4 e5, ((T[k].toNat : Int) == 40) = e1 ∧ ((T[k].toNat : Int) == 41) = e2 ∧ ((T[k].toNat : Int) == 124) = e3 ∧ ((T[k].toNat : Int) == 59) = e4 ∧ ((T[k].toNat : Int) == 42) = e5 ∧ (e1 || e2 || e3 || e4 || e5) = true := by
              refine ⟨_, _, _, _, _, rfl, rfl, rfl, rfl, rfl, ?_⟩
              rcases hsi with h | h | h | h | h <;> rw [h] <;> rfl
            obtain ⟨e1, e2, e3, e4, e5, g1, g2, g3, g4, g5, hor⟩ := hq
            clear hsg hsi hbe
            go_upto_region 13 with (fail)
            go_cut [63] (fun sc wx => sc = .bool true ∧ wx = w2)
            case first =>
              cases e1
              · cases e2
                · cases e3
                  · cases e4
                    · cases e5
                      · cases hor
                      · go_wp2
                        go_meet
                        exact ⟨rfl, rfl⟩
                    · go_wp2
                      go_meet
                      exact ⟨rfl, rfl⟩
                  · go_wp2
                    go_meet
                    exact ⟨rfl, rfl⟩
                · go_wp2
                  go_meet
                  exact ⟨rfl, rfl⟩
              · go_wp2
                go_meet
                exact ⟨rfl, rfl⟩
            case rest =>
              obtain ⟨rfl, hwx⟩ := hcut
              have hwx2 := hwx.symm
              subst hwx2
              clear hwx g1 g2 g3 g4 g5
              go_wp2_with fail
              refine ((unhid_ HPL) _).mono ?_
              rintro e w' ⟨rfl, rfl⟩
              go_wp2_with fail
              refine ((unhid_ HPL2) _).mono ?_
              rintro e w' ⟨rfl, rfl⟩
              go_wp2
              go_round
              case rel => exact ⟨k + 1, by omega, by go_num, by rw [HU2.out, HSU.out, HSG.out]; rfl⟩
              case measure => simp [intOf]; omega
        · obtain rfl : k = t.length := by omega
          have hge : ¬ ((t.length : Nat) : Int) < (T.size : Int) := by have := HSZ.out; omega
          have a3 : ∀ W : World, (Op.stringOp .add (bytesB (preU pl t.length t)) ⟨#[32, 41]⟩).run Tryd.prog W = .ok (.string (bytesB (preU pl t.length t ++ [32, 41]))) W := fun W => run_add_l W _ [32, 41] (by omega) (by decide)
          have hvs : (bytesB (preU pl t.length t ++ [32, 41])).size = (preU pl t.length t ++ [32, 41]).length := size_bytesB _
          have hvd : (bytesB (preU pl t.length t ++ [32, 41])).data.toList = preU pl t.length t ++ [32, 41] := rfl
          have hlaw := fun h => blanks_law (pl := pl) (q := .mk qo qn qk) HCK.out h
          rw [← HTT.out] at hlaw
          obtain ⟨V, hV⟩ : ∃ x, x = bytesB (preU pl t.length t ++ [32, 41]) := ⟨_, rfl⟩
          obtain ⟨U0, hU0⟩ : ∃ x, x = bytesB (preU pl t.length t) := ⟨_, rfl⟩
          obtain ⟨L, hL⟩ : ∃ x, x = preU pl t.length t ++ [32, 41] := ⟨_, rfl⟩
          rw [← hL] at hlaw hvd hvs hV
          rw [← hL, ← hV, ← hU0] at a3
          rw [← hV] at hvs hvd
          rw [← hU0]
          have hbv2 : Below w.heap.size w w2 := (unhid_ HB1).trans ((unhid_ HB2).mono (unhid_ HB1).size)
          have HBV2 := hide hbv2
          have hev2 := (unhid_ HV).belowW hbv2
          clear hU0 hL hV hbv2 hlt
          by_cases h200 : L.length ≤ 200
          · have d2 : decide ((200 : Int) < (V.size : Int)) = false := by simp; omega
            have hpv := hlaw h200
            have HPV := hide (parse_any V w2 hev2 (by omega))
            rw [hvd, hpv] at HPV
            have c0 : w2.cell? ⟨w1.heap.size, 0, none⟩ = some (.int .i64 qo) := ((unhid_ HB2).cell (p := ⟨w1.heap.size, 0, none⟩) (by simp)).trans ((Blk.new w1 stepT _).cell 0)
            have c1 : w2.cell? ⟨w1.heap.size, 1, none⟩ = some (.int .i64 qn) := ((unhid_ HB2).cell (p := ⟨w1.heap.size, 1, none⟩) (by simp)).trans ((Blk.new w1 stepT _).cell 1)
            have c2 : w2.cell? ⟨w1.heap.size, 2, none⟩ = some (.slice A qk.length c) := ((unhid_ HB2).cell (p := ⟨w1.heap.size, 2, none⟩) (by simp)).trans ((Blk.new w1 stepT _).cell 2)
            have HRQ2 := hide ((unhid_ HRQ).belowW (unhid_ HB2))
            clear hpv hlaw hvd hvs hev2 HRQ
            go_wp2_with fail
            refine (unhid_ HPV).mono ?_
            rintro e w3 ⟨A2, c2', rfl, hrp3, hb3⟩
            simp only [QT.op, QT.n, QT.kids]
            have hb3' : Below w2.heap.size w2 (w3.alloc (.cells #[.int .i64 qo, .int .i64 qn, .slice A2 qk.length c2'] stepT)) := hb3.alloc hb3.size _
            have d0 : w3.cell? ⟨w1.heap.size, 0, none⟩ = some (.int .i64 qo) := (hb3.cell (p := ⟨w1.heap.size, 0, none⟩) hl2).trans c0
            have d1 : w3.cell? ⟨w1.heap.size, 1, none⟩ = some (.int .i64 qn) := (hb3.cell (p := ⟨w1.heap.size, 1, none⟩) hl2).trans c1
            have d2' : w3.cell? ⟨w1.heap.size, 2, none⟩ = some (.slice A qk.length c) := (hb3.cell (p := ⟨w1.heap.size, 2, none⟩) hl2).trans c2
            have hl3 : w1.heap.size < w3.heap.size := by have := hb3.size; omega
            have hrq3 : RQ (w3.alloc (.cells #[.int .i64 qo, .int .i64 qn, .slice A2 qk.length c2'] stepT)) 0 (w3.alloc (.cells #[.int .i64 qo, .int .i64 qn, .slice A2 qk.length c2'] stepT)).heap.size (.mk qo qn qk) A2 c2' := (hrp3.keep (P' := fun _ => True) (fun b _ hlt => ⟨Below.heap_alloc _ _ _ hlt, trivial⟩)).rq
            have hrqq := (unhid_ HRQ2).belowW (hb3'.mono (unhid_ HB2).size)
            have hsz1 := (unhid_ HB2).size
            have hsz2 := hb3'.size
            have HSA := hide (Same_any _ 0 _ 0 _ qo qn qk A2 c2' qo qn qk A c hrq3 (Nat.le_refl _) hrqq (by omega) HCK.out HCK.out (sameQ_self _))
            have HB3 := hide ((unhid_ HBV2).trans (hb3'.mono (unhid_ HBV2).size))
            clear hrp3 hb3 hb3' c0 c1 c2 HPV hrq3 hrqq HRQ2 hsz1 hsz2
            go_wp2_with fail
            refine (unhid_ HSA).mono ?_
            rintro e w4 ⟨rfl, hb4⟩
            have HB4 := hide ((unhid_ HB3).trans (hb4.mono (unhid_ HB3).size))
            have HAW := hide (awake_any _ ((unhid_ HV).belowW (unhid_ HB4)))
            clear hb4 d0 d1 d2'
            go_wp2_with fail
            refine (unhid_ HAW).mono ?_
            rintro e w5 ⟨rfl, hb5⟩
            have HB5 := hide ((unhid_ HB4).trans (hb5.mono (unhid_ HB4).size))
            clear hb5
            go_wp2
            go_ret
            exact yes_mk rfl (unhid_ HB5)
          · have d2 : decide ((200 : Int) < (V.size : Int)) = true := by simp; omega
            have HAW := hide (awake_any w2 hev2)
            clear hlaw hvd hvs hev2
            go_wp2_with fail
            refine (unhid_ HAW).mono ?_
            rintro e w5 ⟨rfl, hb5⟩
            have HB5 := hide ((unhid_ HBV2).trans (hb5.mono (unhid_ HBV2).size))
            clear hb5
            go_wp2
            go_ret
            exact yes_mk rfl (unhid_ HB5)
    · have hne : (er != 0) = true := by rw [bne_iff_ne]; exact he
      have HAW := hide (awake_any _ ((unhid_ HV).belowW hb1'))
      clear he hrp hb1 hb1' HP
      go_wp2_with fail
      refine (unhid_ HAW).mono ?_
      rintro e w5 ⟨rfl, hb5⟩
      have HB5 := hide ((unhid_ HB1).trans (hb5.mono (unhid_ HB1).size))
      clear hb5
      go_wp2
      go_ret
      exact yes_mk rfl (unhid_ HB5)
end Go.Proofs.YthlnaejmglajeaaDoor
