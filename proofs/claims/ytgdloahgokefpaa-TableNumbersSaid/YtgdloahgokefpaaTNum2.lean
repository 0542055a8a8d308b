/- The walk of the law TableNumbers. -/
import Derived.Test.YtgdloahgokefpaaTNum
import Derived.Test.YtgdloahgokefpaaPlace
import Derived.Test.YtgdloahgokefpaaInts
import Derived.Deep.DeepCutAuto
namespace Go.Proofs.Ytgdloahgokefpaa
open Go.RowKit
set_option linter.unusedSimpArgs false

set_option maxRecDepth 100000 in
set_option maxHeartbeats 4000000 in
theorem tableNumbers_any (A : Option Addr) (na ca : Nat) (xs : List Int) (w : World) (hr : RI w w.heap.size A na xs) (hm : na ≤ maxLen) :
    Calls Try.prog 4 #[.slice A na ca] w (Yes w) := by
  unfold maxLen at hm
  obtain rfl : na = xs.length := hr.len.symm
  have HR := hide hr
  clear hr
  go_enter Try.func4, Try.ntmps4
  go_wp2_with fail
  refine (newt_any _).mono ?_
  rintro e w1 ⟨rfl, h1, hb1, hs1⟩
  have hsz1 : w.heap.size + 1 ≤ w1.heap.size := by omega
  have HT1 := hide h1
  have HB1 := hide hb1
  clear h1 hb1 hs1
  go_wp2_with fail
  go_loopw [4, 5, 6] (fun s4 _ _ wq => ∃ (k n : Nat) (t : TbV), k = n + 1 ∧ n ≤ 12 ∧ s4 = .int .i64 k ∧ NumSt t n yes_ ∧ IsT wq (w.heap.size + 1) w.heap.size t ∧ Below w.heap.size w wq ∧ w.heap.size + 1 ≤ wq.heap.size) (fun s4 _ _ _ => 13 - (intOf s4).toNat)
  case atStart => exact ⟨1, 0, TbV.zero, rfl, Nat.zero_le _, rfl, NumSt.zero, unhid_ HT1, unhid_ HB1, hsz1⟩
  case round =>
    obtain ⟨k, n, t, hkn, hn, rfl, hN, hT, hb, hsz⟩ := hrel
    have HN := hide hN
    have HT := hide hT
    have HB := hide hb
    clear hN hT hb
    by_cases hlt : n < 12
    · have hkI : (k : Int) ≤ 12 := by omega
      have hsl := (unhid_ HN).slot1 hlt
      rw [← hkn] at hsl
      have HSP := hide (spawn_ok wr (w.heap.size + 1) w.heap.size t 0 k k k (unhid_ HT) hsz rfl hsl)
      have HKN := Lib.hid hkn
      clear hsl hkn
      go_wp2_with fail
      refine (unhid_ HSP).mono ?_
      rintro e w5 ⟨rfl, ho5, x, _, _, _, _, h5⟩
      have HT5 := hide h5
      have HB5 : Hid (Below w.heap.size w w5) := (unhid_ HB).trans (ho5.below (fun k hk => by simp at hk; omega) (by omega))
      have HN5 : Hid (NumSt (t.put k x) k yes_) := by rw [HKN.out]; exact (unhid_ HN).grow x
      have hsz5 := ho5.size
      clear h5 ho5
      go_wp2_with fail
      go_roundw
      case rel => exact ⟨k + 1, k, _, rfl, by omega, by go_num, unhid_ HN5, unhid_ HT5, unhid_ HB5, by omega⟩
      case measure => simp [intOf]; omega
    · obtain rfl : n = 12 := by omega
      obtain rfl : k = 13 := hkn
      have HSP := hide (spawn_full wr (w.heap.size + 1) w.heap.size t 0 1 1 (unhid_ HT) hsz rfl (unhid_ HN).slot0)
      go_wp2_with fail
      refine (unhid_ HSP).mono ?_
      rintro e w5 ⟨rfl, ho5, h5⟩
      have HT5 := hide h5
      have HB5 : Hid (Below w.heap.size w w5) := (unhid_ HB).trans (ho5.below (fun k hk => by simp at hk; omega) (by omega))
      have hsz5 := ho5.size
      clear h5 ho5
      go_upto_region 13 with (fail)
      obtain ⟨rb, hrb⟩ : ∃ rb, rb = w5.heap.size := ⟨_, rfl⟩
      have hrw : w.heap.size + 1 ≤ rb := by omega
      go_cut [9] (fun s9 wx => s9 = .pointer (some ⟨rb, 0, none⟩) ∧ Blk wx rb 32 (Tb 13 (arr 0 yes_)) ∧ Only [] w5 wx)
      case first =>
        subst hrb
        go_wp2
        go_meet
        exact ⟨rfl, Blk.new w5 32 (Tb 13 (arr 0 yes_)), (Only.refl _ _).alloc _⟩
      case rest =>
        obtain ⟨rfl, hbr, hox⟩ := hcut
        have HBR := hide hbr
        have HOX := hide hox
        have HRB := Lib.hid hrb
        clear hbr hox hrb
        go_wp2_with fail
        go_loopw [10] (fun s10 wq => ∃ k : Nat, k ≤ 12 ∧ s10 = .int .i64 ((k + 1 : Nat) : Int) ∧ Blk wq rb 32 (Tb 13 (arr k yes_)) ∧ Only [] w5 wq) (fun s10 _ => 13 - (intOf s10).toNat)
        case atStart => exact ⟨0, Nat.zero_le _, rfl, unhid_ HBR, unhid_ HOX⟩
        case round =>
          obtain ⟨k, hk, rfl, hbr, hox⟩ := hrel
          have HBR' := hide hbr
          have HOX' := hide hox
          by_cases hlt : k < 12
          · have c0 : wr.cell? ⟨rb, k + 1, none⟩ = some (arr k yes_ (k + 1)) := (hbr.cell _).trans (Tb_at _ (by omega))
            have f0 : wr.frozen? ⟨rb, k + 1, none⟩ = false := hbr.frozen _
            clear hbr hox
            go_wp2
            go_roundw
            case rel =>
              refine ⟨k + 1, by omega, by go_num, ?_, (unhid_ HOX').setCell (p := ⟨rb, k + 1, none⟩) (.inr (by rw [← HRB.out]; exact Nat.le_refl _)) _⟩
              have := (unhid_ HBR').set_ (k + 1) (.bool true)
              rw [arr_grow] at this
              exact this
            case measure => simp [intOf]; omega
          · obtain rfl : k = 12 := by omega
            rw [show ((12 + 1 : Nat) : Int) = 13 from rfl]
            clear hbr hox
            obtain ⟨w7, rfl⟩ : ∃ w7 : World, w7 = wr := ⟨_, rfl⟩
            have hT7 : IsT w7 (w.heap.size + 1) w.heap.size t := (unhid_ HT5).only (unhid_ HOX') (by simp) (by simp)
            have hB7 : Below w.heap.size w w7 := (unhid_ HB5).trans ((unhid_ HOX').below (by simp) (by omega))
            have hz7 : rb < w7.heap.size := (unhid_ HBR').lt
            have HT7 := hide hT7
            have HB7 := hide hB7
            clear hT7 hB7
            go_wp2_with fail
            go_loopw [11, 12, 13, 14, 15, 16, 17] (fun s11 _ _ _ _ _ _ wq => ∃ (i : Nat) (t : TbV) (U : Nat → Bool), i ≤ xs.length ∧ s11 = .int .i64 i ∧ NumSt t 12 U ∧ IsT wq (w.heap.size + 1) w.heap.size t ∧ Blk wq rb 32 (Tb 13 (arr 12 U)) ∧ Below w.heap.size w wq) (fun s11 _ _ _ _ _ _ _ => xs.length - (intOf s11).toNat)
            case atStart => exact ⟨0, t, yes_, Nat.zero_le _, rfl, unhid_ HN, unhid_ HT7, unhid_ HBR', unhid_ HB7⟩
            case round =>
              obtain ⟨i, t, U, hi, rfl, hN, hT, hbr, hb⟩ := hrel
              have HN' := hide hN
              have HTq := hide hT
              have HBRq := hide hbr
              have HBq := hide hb
              have hzr := hb.size
              have hzq : rb < wr.heap.size := hbr.lt
              clear hN hT hbr hb
              by_cases hlt2 : i < xs.length ∧ i < 40
              · obtain ⟨hlt2, h40⟩ := hlt2
                obtain ⟨ad, hA, hcell⟩ := ((unhid_ HR).below (unhid_ HBq)).at_ hlt2
                subst hA
                obtain ⟨v, hv⟩ : ∃ v, v = xs[i] := ⟨_, rfl⟩
                rw [← hv] at hcell
                obtain ⟨p0, hp0, _, PP⟩ := place_nat v 12 (by omega) (by omega)
                have HPP := hide PP
                clear PP hv
                go_wp2_with fail
                refine (unhid_ HPP _).mono ?_
                rintro e w' ⟨rfl, rfl⟩
                go_upto_region 22 with (fail)
                obtain ⟨k, hk⟩ : ∃ k, k = p0 + 1 := ⟨_, rfl⟩
                have hkI : (1 : Int) + (p0 : Int) = (k : Int) := by omega
                have hk1 : 1 ≤ k := by omega
                have hk12 : k ≤ 12 := by omega
                have hkI2 : (k : Int) < 13 := by omega
                rw [hkI]
                clear hk hcell
                obtain ⟨b, hbU⟩ : ∃ b, b = U k := ⟨_, rfl⟩
                have hAr : arr 12 U k = .bool b := by rw [hbU]; simp [arr, inn, hk1, hk12]
                have c0 : wr.cell? ⟨rb, k, none⟩ = some (.bool b) := ((unhid_ HBRq).cell _).trans ((Tb_at _ (by omega)).trans (by rw [hAr]))
                have hAr' : some (arr 12 U k) = some (.bool b) := by rw [hAr]
                have hex := exit_any wr.drew (w.heap.size + 1) w.heap.size t k (unhid_ HTq)
                have HX : Hid (Calls Try.prog 15 #[.pointer (some ⟨w.heap.size, 0, none⟩), .int .i64 k] wr.drew (fun e w' => e = .returned (.bool b) ∧ IsT w' (w.heap.size + 1) w.heap.size (if t.has (k : Int) then t.exit (k : Int).toNat else t) ∧ Only [w.heap.size] wr w' ∧ w'.heap.size = wr.heap.size)) := by
                  refine hex.mono ?_
                  rintro e w' ⟨rfl, h1, h2, h3⟩
                  exact ⟨by rw [(unhid_ HN').has hk1 hk12, hbU], h1, (Only.refl [w.heap.size] wr).drew.trans h2, h3⟩
                have HN8 : Hid (NumSt (if t.has (k : Int) then t.exit (k : Int).toNat else t) 12 (off U k false)) := (unhid_ HN').exit hk1 hk12
                obtain ⟨t8, ht8⟩ : ∃ t8, t8 = (if t.has (k : Int) then t.exit (k : Int).toNat else t) := ⟨_, rfl⟩
                rw [← ht8] at HX HN8
                clear hex ht8 hbU hAr
                refine wp_region_held_drew (S := (fun W => W.cell? ⟨rb, k, none⟩ = some (.bool b))) (by kernel_rfl) ?_ (fun hHeld => ?_)
                · exact c0
                refine wpAnyH_take (i := 0) (oi := ({ dst := some 70, op := Op.move (Operand.tmp 3), type := 23, pos := _, after := #[], guard := none })) (v := ?_) rfl (by kernel_rfl) (by kernel_rfl) (by kernel_rfl) (fun _ _ _ h => h) (Or.inl ⟨by rfl, ?_⟩) (by assumption) ?_
                rotate_left
                · (intro wq hSw; (try dsimp only at hSw); go_simp; try with_reducible rfl)
                try simp only [Act.put, List.setIfInBounds_toArray, List.set_cons_zero, List.set_cons_succ]
                refine wpAnyH_take (i := 1) (oi := ({ dst := some 71, op := Op.move (Operand.tmp 12), type := 3, pos := _, after := #[], guard := none })) (v := ?_) rfl (by kernel_rfl) (by kernel_rfl) (by kernel_rfl) (fun _ _ _ h => h) (Or.inl ⟨by rfl, ?_⟩) (by assumption) ?_
                rotate_left
                · (intro wq hSw; (try dsimp only at hSw); go_simp; try with_reducible rfl)
                try simp only [Act.put, List.setIfInBounds_toArray, List.set_cons_zero, List.set_cons_succ]
                refine wpAnyH_take (i := 3) (oi := ({ dst := some 73, op := Op.move (Operand.tmp 12), type := 3, pos := _, after := #[], guard := none })) (v := ?_) rfl (by kernel_rfl) (by kernel_rfl) (by kernel_rfl) (fun _ _ _ h => h) (Or.inl ⟨by rfl, ?_⟩) (by assumption) ?_
                rotate_left
                · (intro wq hSw; (try dsimp only at hSw); go_simp; try with_reducible rfl)
                try simp only [Act.put, List.setIfInBounds_toArray, List.set_cons_zero, List.set_cons_succ]
                refine wpAnyH_take (i := 4) (oi := ({ dst := some 74, op := Op.indexAddr 32 (Operand.tmp 9) (Operand.tmp 73), type := 0, pos := _, after := #[{ on := 3, ground := Ground.data }], guard := none })) (v := ?_) rfl (by kernel_rfl) (by kernel_rfl) (by kernel_rfl) (fun _ _ _ h => h) (Or.inl ⟨by rfl, ?_⟩) (by assumption) ?_
                rotate_left
                · (intro wq hSw; (try dsimp only at hSw); go_simp; try with_reducible rfl)
                try simp only [Act.put, List.setIfInBounds_toArray, List.set_cons_zero, List.set_cons_succ]
                refine wpAnyH_take (i := 5) (oi := ({ dst := some 75, op := Op.load 4 (Operand.tmp 74), type := 4, pos := _, after := #[{ on := 4, ground := Ground.data }], guard := none })) (v := ?_) rfl (by kernel_rfl) (by kernel_rfl) (by kernel_rfl) (fun _ _ _ h => h) (Or.inl ⟨by rfl, ?_⟩) (by assumption) ?_
                rotate_left
                · (intro wq hSw; (try dsimp only at hSw); go_simp; try with_reducible rfl)
                try simp only [Act.put, List.setIfInBounds_toArray, List.set_cons_zero, List.set_cons_succ]
                refine wpAnyH_ready (rs := [2]) (by kernel_rfl) (by simp) ?_
                refine AllReadyH.cons (o := ({ dst := some 72, op := Op.call { callee := Callee.value (Operand.func 15), args := #[Operand.tmp 70, Operand.tmp 71], argTypes := #[23, 3] }, type := 4, pos := _, after := #[{ on := 0, ground := Ground.data }, { on := 1, ground := Ground.data }], guard := none })) rfl (fun K hK => ?_) AllReadyH.nil
                go_simp
                go_at_call 15
                refine (unhid_ HX).mono ?_
                rintro e w8 ⟨rfl, h8, ho8, hs8⟩
                have hbr8 := ho8.blk (unhid_ HBRq) (by simp; omega)
                have c8 : w8.cell? ⟨rb, k, none⟩ = some (.bool b) := (hbr8.cell _).trans ((Tb_at _ (by omega)).trans hAr')
                have HT8 := hide h8
                have HBR8 := hide hbr8
                have HB8 : Hid (Below w.heap.size w w8) := (unhid_ HBq).trans (Only.below (w := wr) ho8 (fun x hx => by simp at hx; omega) (by omega))
                have hs8' : rb < w8.heap.size := (unhid_ HBR8).lt
                clear h8 hbr8 ho8 hs8
                refine hK.out _ _ ?_ (fun hHeld => ?_)
                · exact c8
                clear hK K
                try simp only [Act.put, List.setIfInBounds_toArray, List.set_cons_zero, List.set_cons_succ]
                refine wpAnyH_take (i := 6) (oi := ({ dst := some 76, op := Op.binOp BinOp.neq 4 (Operand.tmp 72) (Operand.tmp 75) 4, type := 4, pos := _, after := #[{ on := 2, ground := Ground.data }, { on := 5, ground := Ground.data }], guard := none })) (v := ?_) rfl (by kernel_rfl) (by kernel_rfl) (by kernel_rfl) (fun _ _ _ h => h) (Or.inl ⟨by rfl, ?_⟩) (by assumption) ?_
                rotate_left
                · (intro wq hSw; (try dsimp only at hSw); go_simp; try with_reducible rfl)
                try simp only [Act.put, List.setIfInBounds_toArray, List.set_cons_zero, List.set_cons_succ]
                refine wpAnyH_done (by kernel_rfl) ?_ _
                have f8 : w8.frozen? ⟨rb, k, none⟩ = false := (unhid_ HBR8).frozen _
                clear hs8' hAr' c0
                go_upto_region 25 with (fail)
                have hs := (unhid_ HBR8).set_ k (.bool false)
                rw [arr_set false (by simp [inn, hk1, hk12])] at hs
                have HBR9 : Hid (Blk (w8.setCell ⟨rb, k, none⟩ (.bool false)) rb 32 (Tb 13 (arr 12 (off U k false)))) := hs
                have HT9 : Hid (IsT (w8.setCell ⟨rb, k, none⟩ (.bool false)) (w.heap.size + 1) w.heap.size t8) := (unhid_ HT8).far (unhid_ HBR8) (by omega) (by decide) _
                have HB9 : Hid (Below w.heap.size w (w8.setCell ⟨rb, k, none⟩ (.bool false))) := (unhid_ HB8).setCell (p := ⟨rb, k, none⟩) (by show w.heap.size ≤ rb; omega) _
                clear hs c8 f8
                obtain ⟨w9, hw9⟩ : ∃ w9, w9 = w8.setCell ⟨rb, k, none⟩ (.bool false) := ⟨_, rfl⟩
                rw [← hw9] at HBR9 HT9 HB9 ⊢
                clear hw9 HBR8 HT8 HB8
                obtain ⟨V, hV⟩ : ∃ V, V = off U k false := ⟨_, rfl⟩
                have hVk : V k = false := by rw [hV]; simp [off]
                rw [← hV] at HBR9 HN8
                clear hV
                go_cut [81] (fun s81 wx => (∃ c, s81 = .bool c) ∧ wx = w9)
                case first =>
                  go_wp2
                  go_meet
                  exact ⟨⟨_, rfl⟩, rfl⟩
                case rest =>
                  obtain ⟨⟨c, rfl⟩, hwx⟩ := hcut
                  have hwx2 := hwx.symm
                  subst hwx2
                  cases c with
                  | true =>
                    go_wp2
                    go_roundw
                    case rel => exact ⟨i + 1, t8, V, by omega, by go_num, unhid_ HN8, unhid_ HT9, unhid_ HBR9, unhid_ HB9⟩
                    case measure => simp [intOf]; omega
                  | false =>
                    have HVK := Lib.hid hVk
                    clear hVk
                    go_wp2
                    go_loop [13] (fun s13 => ∃ q : Nat, 1 ≤ q ∧ q ≤ k ∧ s13 = .int .i64 q ∧ ∀ j, 1 ≤ j → j < q → V j = true) (fun s13 => k - (intOf s13).toNat)
                    case atStart => exact ⟨1, Nat.le_refl _, hk1, rfl, fun j h1 h2 => absurd h2 (by omega)⟩
                    case round =>
                      obtain ⟨q, hq1, hq, rfl, hall⟩ := hrel
                      have HALL := hide hall
                      obtain ⟨c, hc⟩ : ∃ c, c = V q := ⟨_, rfl⟩
                      have cq : w9.cell? ⟨rb, q, none⟩ = some (.bool c) := ((unhid_ HBR9).cell _).trans ((Tb_at _ (by omega)).trans (by rw [hc]; simp [arr, inn, hq1]; omega))
                      have HC := Lib.hid hc
                      have hq12 : q ≤ 12 := by omega
                      have hqI : (q : Int) < 13 := by omega
                      clear hall hc
                      cases c with
                      | true =>
                        have hqk : q < k := by
                          rcases Nat.lt_or_ge q k with h | h
                          · exact h
                          · obtain rfl : q = k := by omega
                            have := HC.out
                            rw [HVK.out] at this
                            cases this
                        go_wp2
                        go_round
                        case rel => exact ⟨q + 1, by omega, by omega, by go_num, fun j h1 h2 => by
                          rcases Nat.lt_or_ge j q with h | h
                          · exact (unhid_ HALL) j h1 h
                          · obtain rfl : j = q := by omega
                            exact HC.out.symm⟩
                        case measure => simp [intOf]; omega
                      | false =>
                        have hsl := (unhid_ HN8).least hq1 hq12 HC.out.symm (unhid_ HALL)
                        have hsz9 : w.heap.size + 1 ≤ w9.heap.size := by have := (unhid_ HBR9).lt; omega
                        have HSP := fun (o : Int) => hide (spawn_ok w9 (w.heap.size + 1) w.heap.size t8 0 o 5 q (unhid_ HT9) hsz9 rfl hsl)
                        clear hsl
                        go_wp2_with fail
                        refine (unhid_ (HSP _)).mono ?_
                        rintro e w10 ⟨rfl, ho10, x, hxo, _, _, _, h10⟩
                        have hbr10 := ho10.blk (unhid_ HBR9) (by simp; omega)
                        have hb10 : Below w.heap.size w w10 := (unhid_ HB9).trans (ho10.below (fun k hk => by simp at hk; omega) (by omega))
                        have HN10 : Hid (NumSt (t8.put q x) 12 (off V q true)) := (unhid_ HN8).put hq1 hq12 x
                        have hhas : (t8.put q x).has (q : Int) = true := by rw [(unhid_ HN10).has hq1 hq12]; simp [off]
                        have hpo : ((t8.put q x).p (q : Int).toNat).o = x.o := by rw [Int.toNat_natCast]; simp [TbV.put, TbV.setTh, TbV.setPr]
                        obtain ⟨t10, ht10⟩ : ∃ t10, t10 = t8.put q x := ⟨_, rfl⟩
                        rw [← ht10] at h10 HN10 hhas hpo
                        rw [hxo] at hpo
                        have HT10 := hide h10
                        have HBR10 := hide hbr10
                        have HB10 := hide hb10
                        have HHAS := Lib.hid hhas
                        have HPO := Lib.hid hpo
                        clear ho10 hxo h10 hbr10 hb10 hhas hpo ht10 HSP
                        have HPR := hide (proc_any w10 (w.heap.size + 1) w.heap.size t10 q (unhid_ HT10))
                        go_wp2_with fail
                        refine (unhid_ HPR).mono ?_
                        rintro e w11 ⟨hb11, hor⟩
                        obtain ⟨y, rfl, hyo⟩ : ∃ y : PrV, e = .returned (.tuple #[.agg y.cells.toArray, .bool true]) ∧ y.o = 100 + (i : Int) := by
                          rcases hor with ⟨h, _⟩ | ⟨_, y, he, ho, _⟩
                          · rw [HHAS.out] at h; cases h
                          · exact ⟨y, he, by rw [ho, HPO.out]⟩
                        have hT11 : IsT w11 (w.heap.size + 1) w.heap.size t10 := (unhid_ HT10).below hb11
                        have hbr11 := (unhid_ HBR10).below hb11 (unhid_ HBR10).lt
                        have hB11 : Below w.heap.size w w11 := (unhid_ HB10).trans (hb11.mono (by have := (unhid_ HB10).size; omega))
                        have HT11 := hide hT11
                        have HBR11 := hide hbr11
                        have HB11 := hide hB11
                        have HYO := Lib.hid hyo
                        clear hT11 hbr11 hB11 hb11 hor hyo HPR HPO HHAS
                        have hst : ∀ (Z : Array Value) (ty : TypeId), Z.size = 38 → (storeCells ⟨w11.heap.size, 0, none⟩ y.cells).run Try.prog (w11.alloc (.cells Z ty)) = .ok () (w11.alloc (.cells y.cells.toArray ty)) := fun Z ty hZ => run_store_new w11 _ Z ty (by rw [hZ, PrV.cells_length]) y.cells_one
                        go_upto_region 31 with (fail)
                        clear hst
                        obtain ⟨w12, hw12⟩ : ∃ w12, w12 = w11.alloc (.cells y.cells.toArray 43) := ⟨_, rfl⟩
                        rw [← hw12]
                        have hal : Below w11.heap.size w11 w12 := by rw [hw12]; exact (Below.refl _ _).alloc (Nat.le_refl _) _
                        have hc12 : w12.cell? ⟨w11.heap.size, 0, none⟩ = some (.int .i64 (100 + (i : Int))) := by
                          rw [hw12, (Blk.new w11 43 y.cells.toArray).cell, ← HYO.out]
                          rfl
                        have hbr12 := (unhid_ HBR11).below hal (unhid_ HBR11).lt
                        have hcq : w12.cell? ⟨rb, q, none⟩ = some (arr 12 V q) := (hbr12.cell _).trans (Tb_at _ (by omega))
                        have hfq : w12.frozen? ⟨rb, q, none⟩ = false := hbr12.frozen _
                        have HT12 : Hid (IsT w12 (w.heap.size + 1) w.heap.size t10) := (unhid_ HT11).below hal
                        have HB12 : Hid (Below w.heap.size w w12) := (unhid_ HB11).trans (hal.mono (unhid_ HB11).size)
                        have HBR12 := hide hbr12
                        clear hal hbr12 hw12 HT11 HB11 HBR11 HYO
                        go_wp2
                        go_roundw
                        case rel =>
                          have hs := (unhid_ HBR12).set_ q (.bool true)
                          rw [arr_set true (by simp [inn, hq1, hq12])] at hs
                          exact ⟨i + 1, t10, off V q true, by omega, by go_num, unhid_ HN10, (unhid_ HT12).far (unhid_ HBR12) (by omega) (by decide) _, hs, (unhid_ HB12).setCell (p := ⟨rb, q, none⟩) (by show w.heap.size ≤ rb; omega) _⟩
                        case measure => simp [intOf]; omega
              · have hex : (xs.length : Int) ≤ i ∨ ((i : Int) < xs.length ∧ 40 ≤ (i : Int)) := by omega
                have hcnt := (unhid_ HN').count 13 (Nat.le_refl _)
                have HCNT := Lib.hid hcnt
                clear hcnt
                obtain ⟨w20, rfl⟩ : ∃ w20 : World, w20 = wr := ⟨_, rfl⟩
                rcases hex with h | ⟨h, h'⟩
                all_goals
                  go_wp2
                  go_loop [18, 19] (fun s18 s19 => ∃ q : Nat, 1 ≤ q ∧ q ≤ 13 ∧ s19 = .int .i64 q ∧ s18 = .int .i64 (tally 12 U q)) (fun _ s19 => 13 - (intOf s19).toNat)
                  case atStart => exact ⟨1, Nat.le_refl _, by omega, rfl, rfl⟩
                  case round =>
                    obtain ⟨q, hq1, hq, rfl, rfl⟩ := hrel
                    have l1 := tally_le 12 U q
                    by_cases hq12 : q < 13
                    · have hin : inn 12 q = true := by simp [inn, hq1]; omega
                      obtain ⟨r, hr⟩ : ∃ r, r = U q := ⟨_, rfl⟩
                      have c0 : w20.cell? ⟨rb, q, none⟩ = some (.bool r) := ((unhid_ HBRq).cell _).trans ((Tb_at _ (by omega)).trans (by rw [hr]; simp [arr, hin]))
                      have e1 := Lib.hid (tally_step (R := U) hq1 (by omega : q ≤ 12))
                      rw [← hr] at e1
                      obtain ⟨x1, hx1⟩ : ∃ x1, x1 = tally 12 U q := ⟨_, rfl⟩
                      rw [← hx1] at e1 l1 ⊢
                      have hqI : (q : Int) ≤ 12 := by omega
                      clear hr hx1 hin
                      cases r
                      all_goals
                        go_wp2
                        go_round
                        case rel => exact ⟨q + 1, by omega, by omega, by go_num, by rw [e1.out]; go_num⟩
                        case measure => simp [intOf]; omega
                    · obtain rfl : q = 13 := by omega
                      have HPS := hide (procs_any w20 (w.heap.size + 1) w.heap.size t (unhid_ HTq))
                      obtain ⟨x1, hx1⟩ : ∃ x1, x1 = tally 12 U 13 := ⟨_, rfl⟩
                      rw [← hx1] at HCNT l1 ⊢
                      have HX1 := Lib.hid hx1
                      clear hx1
                      go_wp2_with fail
                      refine (unhid_ HPS).mono ?_
                      rintro e w21 ⟨v21, rfl, hown, hb21⟩
                      obtain ⟨A21, c21, rfl⟩ := own_slice hown
                      rw [HCNT.out]
                      have hb22 : Below w.heap.size w w21 := (unhid_ HBq).trans (hb21.mono hzr)
                      have HB22 := hide hb22
                      clear hown hb21 hb22 HPS
                      go_wp2_with fail
                      refine (awake_any _).mono ?_
                      rintro e w' ⟨rfl, hbz⟩
                      go_wp2
                      go_ret
                      exact yes_mk rfl ((unhid_ HB22).trans (hbz.mono (unhid_ HB22).size))
end Go.Proofs.Ytgdloahgokefpaa
