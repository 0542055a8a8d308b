/- The walk of the law TableUses. -/
import Derived.Test.YtgdloahgokefpaaTUses
import Derived.Deep.DeepCutAuto
namespace Go.Proofs.Ytgdloahgokefpaa
open Go.RowKit
set_option linter.unusedSimpArgs false

def arr (n : Nat) (R : Nat → Bool) : Nat → Value := fun j => .bool (inn n j && R j)
theorem arr_set {n p : Nat} {R : Nat → Bool} (b : Bool) (hp : inn n p = true) : (Tb 13 (arr n R)).setIfInBounds p (.bool b) = Tb 13 (arr n (fun j => if j = p then b else R j)) := by
  rw [Tb_set]
  refine Tb_congr fun j _ => ?_
  show (if j = p then _ else arr n R j) = _
  by_cases h : j = p
  · subst h; simp [arr, hp]
  · simp [arr, h]
theorem arr_grow {k : Nat} : (Tb 13 (arr k yes_)).setIfInBounds (k + 1) (.bool true) = Tb 13 (arr (k + 1) yes_) := by
  rw [Tb_set]
  refine Tb_congr fun j _ => ?_
  show (if j = k + 1 then _ else arr k yes_ j) = _
  by_cases h : j = k + 1
  · subst h; simp [arr, inn, yes_]
  · rw [if_neg h]
    unfold arr inn
    congr 2
    congr 1
    simp only [decide_eq_decide]
    omega

theorem own_far {w w' : World} {base : Nat} {e ty : TypeId} {size n k : Nat} {v : Value} {xs : List Value} {cs : Array Value} (h : w.ownsRow base e size v n xs) (ho : Only [k] w w') (hb : Blk w k ty cs) (hty : ty ≠ e) : w'.ownsRow base e size v n xs := by
  refine ⟨h.1, ?_⟩
  rcases h.2 with h2 | ⟨g, cap, cur, hv, hb2, hh, r⟩
  · exact .inl h2
  · have hg := (Array.getElem?_eq_some_iff.1 hh).1
    refine .inr ⟨g, cap, cur, hv, hb2, (ho.block g hg (fun hm => ?_)).trans hh, r⟩
    obtain rfl : g = k := by simpa using hm
    have : (some (Obj.cells cur e (0, 0))) = some (Obj.cells cs ty (0, 0)) := hh.symm.trans hb
    injection this with this
    injection this with _ h2
    exact hty h2.symm
/-- a cell of another kind of block is turned -/
theorem IsT.far {w : World} {base g k o : Nat} {t : TbV} {ty : TypeId} {cs : Array Value} (h : IsT w base g t) (hb : Blk w k ty cs) (hk : g ≠ k) (hty : ty ≠ 5) (v : Value) : IsT (w.setCell ⟨k, o, none⟩ v) base g t :=
  ⟨h.1.far (p := ⟨k, o, none⟩) hk v, h.2.1, fun p i hp hi => ⟨own_far (h.2.2 p i hp hi).1 ((Only.refl [k] _).setCell (p := ⟨k, o, none⟩) (.inl (by simp)) _) hb hty, (h.2.2 p i hp hi).2⟩⟩

set_option maxRecDepth 100000 in
set_option maxHeartbeats 4000000 in
theorem tableUses_any (forks : Int) (A : Option Addr) (na ca : Nat) (xs : List Int) (w : World) (hr : RI w w.heap.size A na xs) (hm : na ≤ maxLen) :
    Calls Try.prog 3 #[.int .i64 forks, .slice A na ca] w (Yes w) := by
  unfold maxLen at hm
  obtain rfl : na = xs.length := hr.len.symm
  obtain ⟨n0, hn0, _, PN⟩ := place_nat forks 10 (by omega) (by omega)
  have HR := hide hr
  have HPN := hide PN
  clear hr PN
  go_enter Try.func3, Try.ntmps3
  go_wp2_with fail
  refine (newt_any _).mono ?_
  rintro e w1 ⟨rfl, h1, hb1, hs1⟩
  have hsz1 : w.heap.size + 1 ≤ w1.heap.size := by omega
  have HSP := hide (spawn_ok w1 (w.heap.size + 1) w.heap.size TbV.zero 0 1 1 1 h1 hsz1 (by decide) (by decide +kernel))
  have HB1 := hide hb1
  clear h1 hb1 hs1
  go_wp2_with fail
  refine (unhid_ HSP).mono ?_
  rintro e w2 ⟨rfl, ho2, x, _, _, hxf, _, h2⟩
  have hF2 : (TbV.zero.put 1 x).F = fun _ _ => FdV.zero := by
    rw [F_put, hxf]
    funext p
    show (if p = 1 then _ else _) = _
    split <;> rfl
  have hT2 : (TbV.zero.put 1 x).th = fun p => decide (p = 1) := by
    rw [th_put]
    funext p
    show (if p = 1 then true else false) = _
    split <;> simp [*]
  obtain ⟨t2, ht2⟩ : ∃ t2, t2 = TbV.zero.put 1 x := ⟨_, rfl⟩
  rw [← ht2] at hF2 hT2 h2
  have hop := open_ok w2 (w.heap.size + 1) w.heap.size t2 1 ⟨3, 4, 0, false⟩ 0 h2 (Nat.le_refl _) (by omega) (by rw [hT2]; rfl) (by decide) (by rw [free_F, hF2]; decide +kernel)
  have HOP := hide hop
  have HB2 : Hid (Below w.heap.size w w2) := (unhid_ HB1).trans (ho2.below (fun k hk => by simp at hk; omega) (by omega))
  have hsz2 := ho2.size
  have HF2 := Lib.hid hF2
  have HT2 := Lib.hid hT2
  clear hop h2 hxf ht2 hF2 hT2 ho2
  go_wp2_with fail
  refine (unhid_ HOP).mono ?_
  rintro e w3 ⟨rfl, ho3, h3⟩
  have hF3 : (t2.setFd 1 0 ⟨3, 4, 0, false⟩).F = fun p => if p = 1 then (fun j => if j = 0 then ⟨3, 4, 0, false⟩ else FdV.zero) else fun _ => FdV.zero := by rw [F_setFd, HF2.out]
  have hT3 : (t2.setFd 1 0 ⟨3, 4, 0, false⟩).th = fun p => decide (p = 1) := HT2.out
  obtain ⟨t3, ht3⟩ : ∃ t3, t3 = t2.setFd 1 0 ⟨3, 4, 0, false⟩ := ⟨_, rfl⟩
  rw [← ht3] at hF3 hT3 h3
  have hop := open_ok w3 (w.heap.size + 1) w.heap.size t3 1 ⟨3, 4, 0, true⟩ 1 h3 (Nat.le_refl _) (by omega) (by rw [hT3]; rfl) (by decide) (by rw [free_F, hF3]; decide +kernel)
  have HOP3 := hide hop
  have HB3 : Hid (Below w.heap.size w w3) := (unhid_ HB2).trans (ho3.below (fun k hk => by simp at hk; omega) (by omega))
  have hsz3 := ho3.size
  have HF3 := Lib.hid hF3
  have HT3 := Lib.hid hT3
  clear hop h3 ht3 hF3 hT3 ho3
  go_wp2_with fail
  refine (unhid_ HOP3).mono ?_
  rintro e w4 ⟨rfl, ho4, h4⟩
  have hP4 : PipeSt (t3.setFd 1 1 ⟨3, 4, 0, true⟩) 1 yes_ yes_ := by
    refine ⟨fun p hp => ?_, fun p hp => ?_⟩
    · rw [th_setFd, HT3.out]
      show decide (p = 1) = _
      unfold inn
      rw [Bool.eq_iff_iff]
      simp
      omega
    · rw [F_setFd, HF3.out]
      by_cases e : p = 1
      · subst e
        funext j
        by_cases j1 : j = 1
        · subst j1; simp [ends, inn, yes_]
        · simp [ends, inn, yes_, j1]
      · have : inn 1 p = false := by
          unfold inn
          rw [Bool.eq_false_iff]
          simp
          omega
        funext j
        simp [ends, this, e]
  obtain ⟨t4, ht4⟩ : ∃ t4, t4 = t3.setFd 1 1 ⟨3, 4, 0, true⟩ := ⟨_, rfl⟩
  rw [← ht4] at hP4 h4
  have HB4 : Hid (Below w.heap.size w w4) := (unhid_ HB3).trans (ho4.below (fun k hk => by simp at hk; omega) (by omega))
  have hsz4 := ho4.size
  have HP4 := hide hP4
  have HT4 := hide h4
  clear h4 ht4 hP4 ho4
  go_wp2_with fail
  refine (unhid_ HPN _).mono ?_
  rintro e w' ⟨rfl, rfl⟩
  go_wp2_with fail
  go_loopw [11, 12, 13] (fun s11 _ _ wq => ∃ (k : Nat) (t : TbV), 1 ≤ k ∧ k ≤ n0 + 1 ∧ s11 = .int .i64 k ∧ PipeSt t k yes_ yes_ ∧ IsT wq (w.heap.size + 1) w.heap.size t ∧ Below w.heap.size w wq ∧ w.heap.size + 1 ≤ wq.heap.size) (fun s11 _ _ _ => n0 + 1 - (intOf s11).toNat)
  case atStart => exact ⟨1, t4, Nat.le_refl _, by omega, rfl, unhid_ HP4, unhid_ HT4, unhid_ HB4, by omega⟩
  case round =>
    obtain ⟨k, t, hk1, hk, rfl, hP, hT, hb, hsz⟩ := hrel
    have HP := hide hP
    have HT := hide hT
    have HB := hide hb
    clear hP hT hb
    by_cases hlt : k < n0 + 1
    · have hkI : (k : Int) < 1 + (n0 : Int) := by omega
      have hh : t.has 1 = true := (unhid_ HP).has (by omega) (p := 1) (Nat.le_refl _) hk1
      have HSPn := fun (ob : Int) => hide (spawn_ok wr (w.heap.size + 1) w.heap.size t 1 ob 1 (k + 1) (unhid_ HT) hsz (by unfold TbV.bad; rw [hh]; rfl) ((unhid_ HP).free (by omega)))
      clear hh
      go_wp2_with fail
      refine (unhid_ (HSPn _)).mono ?_
      rintro e w5 ⟨rfl, ho5, x, _, _, hxf, _, h5⟩
      have hP5 := (unhid_ HP).fork hk1 (x := x) (by rw [hxf]; rfl)
      have HP5 := hide hP5
      have HT5 := hide h5
      have HB5 : Hid (Below w.heap.size w w5) := (unhid_ HB).trans (ho5.below (fun k hk => by simp at hk; omega) (by omega))
      have hsz5 := ho5.size
      clear HSPn hP5 h5 hxf ho5
      go_wp2_with fail
      go_roundw
      case rel => exact ⟨k + 1, _, by omega, by omega, by go_num, unhid_ HP5, unhid_ HT5, unhid_ HB5, by omega⟩
      case measure => simp [intOf]; omega
    · obtain rfl : k = n0 + 1 := by omega
      obtain ⟨n, hn⟩ : ∃ n, n = n0 + 1 := ⟨_, rfl⟩
      have hnI : (1 : Int) + (n0 : Int) = (n : Int) := by omega
      have HN := Lib.hid hn
      rw [← hn] at HP ⊢
      have hn10 : n ≤ 10 := by omega
      have hn1 : 1 ≤ n := by omega
      clear hn hlt
      go_upto_region 16 with (fail)
      obtain ⟨rb, hrb⟩ : ∃ rb, rb = wr.heap.size := ⟨_, rfl⟩
      have hrw : w.heap.size + 1 ≤ rb := by omega
      go_cut [14, 15] (fun s14 s15 wx => s14 = .pointer (some ⟨rb, 0, none⟩) ∧ s15 = .pointer (some ⟨rb + 1, 0, none⟩) ∧ Blk wx rb 32 (Tb 13 (arr 0 yes_)) ∧ Blk wx (rb + 1) 32 (Tb 13 (arr 0 yes_)) ∧ Only [] wr wx)
      case first =>
        subst hrb
        go_wp2
        go_meet
        exact ⟨rfl, rfl, (Blk.new wr 32 (Tb 13 (arr 0 yes_))).alloc _, Blk.new' (by simp) 32 (Tb 13 (arr 0 yes_)), ((Only.refl _ _).alloc _).alloc _⟩
      case rest =>
        obtain ⟨rfl, rfl, hbr, hbw, hox⟩ := hcut
        have HBR := hide hbr
        have HBW := hide hbw
        have HOX := hide hox
        have HRB := Lib.hid hrb
        clear hbr hbw hox hrb
        obtain ⟨w6, rfl⟩ : ∃ w6 : World, w6 = wr := ⟨_, rfl⟩
        rw [hnI]
        go_wp2_with fail
        go_loopw [16] (fun s16 wq => ∃ k : Nat, k ≤ n ∧ s16 = .int .i64 ((k + 1 : Nat) : Int) ∧ Blk wq rb 32 (Tb 13 (arr k yes_)) ∧ Blk wq (rb + 1) 32 (Tb 13 (arr k yes_)) ∧ Only [] w6 wq) (fun s16 _ => n + 1 - (intOf s16).toNat)
        case atStart => exact ⟨0, Nat.zero_le _, rfl, unhid_ HBR, unhid_ HBW, unhid_ HOX⟩
        case round =>
          obtain ⟨k, hk, rfl, hbr, hbw, hox⟩ := hrel
          have HBR' := hide hbr
          have HBW' := hide hbw
          have HOX' := hide hox
          by_cases hlt : k < n
          · have c0 : wr.cell? ⟨rb, k + 1, none⟩ = some (arr k yes_ (k + 1)) := (hbr.cell _).trans (Tb_at _ (by omega))
            have c1 : wr.cell? ⟨rb + 1, k + 1, none⟩ = some (arr k yes_ (k + 1)) := (hbw.cell _).trans (Tb_at _ (by omega))
            have f0 : wr.frozen? ⟨rb, k + 1, none⟩ = false := hbr.frozen _
            have f1 : wr.frozen? ⟨rb + 1, k + 1, none⟩ = false := hbw.frozen _
            clear hbr hbw hox
            go_wp2
            go_roundw
            case rel =>
              refine ⟨k + 1, by omega, by go_num, ?_, ?_, ((unhid_ HOX').setCell (p := ⟨rb, k + 1, none⟩) (.inr (by rw [← HRB.out]; exact Nat.le_refl _)) _).setCell (p := ⟨rb + 1, k + 1, none⟩) (.inr (by rw [← HRB.out]; exact Nat.le_succ _)) _⟩
              · have := (unhid_ HBR').set_ (k + 1) (.bool true)
                rw [arr_grow] at this
                exact this.far (p := ⟨rb + 1, k + 1, none⟩) (by show rb ≠ rb + 1; omega) _
              · have := ((unhid_ HBW').far (p := ⟨rb, k + 1, none⟩) (by show rb + 1 ≠ rb; omega) (.bool true)).set_ (k + 1) (.bool true)
                rw [arr_grow] at this
                exact this
            case measure => simp [intOf]; omega
          · obtain rfl : k = n := by omega
            clear hbr hbw hox
            obtain ⟨m1, hm1⟩ : ∃ m1, m1 = k + 1 := ⟨_, rfl⟩
            rw [← hm1]
            have hm1I : (k : Int) < (m1 : Int) := by omega
            have hm1N : ¬ m1 ≤ k := by omega
            have HM1 := Lib.hid hm1
            clear hm1
            obtain ⟨w7, rfl⟩ : ∃ w7 : World, w7 = wr := ⟨_, rfl⟩
            have hT7 : IsT w7 (w.heap.size + 1) w.heap.size t := (unhid_ HT).only (unhid_ HOX') (by simp) (by simp)
            have hB7 : Below w.heap.size w w7 := (unhid_ HB).trans ((unhid_ HOX').below (by simp) (by omega))
            have hz7 : rb + 1 < w7.heap.size := (unhid_ HBW').lt
            have HT7 := hide hT7
            have HB7 := hide hB7
            clear hT7 hB7
            go_wp2_with fail
            go_loopw [17, 18, 19, 20, 21, 22, 23] (fun s17 _ _ _ _ _ _ wq => ∃ (i : Nat) (t : TbV) (R W : Nat → Bool), i ≤ xs.length ∧ s17 = .int .i64 i ∧ PipeSt t k R W ∧ IsT wq (w.heap.size + 1) w.heap.size t ∧ Blk wq rb 32 (Tb 13 (arr k R)) ∧ Blk wq (rb + 1) 32 (Tb 13 (arr k W)) ∧ Below w.heap.size w wq) (fun s17 _ _ _ _ _ _ _ => xs.length - (intOf s17).toNat)
            case atStart => exact ⟨0, t, yes_, yes_, Nat.zero_le _, rfl, unhid_ HP, unhid_ HT7, unhid_ HBR', unhid_ HBW', unhid_ HB7⟩
            case round =>
              obtain ⟨i, t, R, W, hi, rfl, hP, hT, hbr, hbw, hb⟩ := hrel
              have HP' := hide hP
              have HTq := hide hT
              have HBRq := hide hbr
              have HBWq := hide hbw
              have HBq := hide hb
              have hzr := hb.size
              have hzq : rb + 1 < wr.heap.size := hbw.lt
              clear hP hT hbr hbw hb
              by_cases hlt2 : i < xs.length
              · by_cases h30 : i < 30
                · obtain ⟨ad, hA, hcell⟩ := ((unhid_ HR).below (unhid_ HBq)).at_ hlt2
                  subst hA
                  obtain ⟨v, hv⟩ : ∃ v, v = xs[i] := ⟨_, rfl⟩
                  rw [← hv] at hcell
                  obtain ⟨p0, hp0, _, PP⟩ := place_nat v k (by omega) (by omega)
                  have HPP := hide PP
                  clear PP hv
                  go_wp2_with fail
                  refine (unhid_ HPP _).mono ?_
                  rintro e w' ⟨rfl, rfl⟩
                  go_upto_region 26 with (fail)
                  go_cut [104] (fun s104 wx => (∃ b, s104 = .bool b) ∧ wx = wr)
                  case first =>
                    go_wp2_with fail
                    refine (place_any _ _ _ (by omega) (by omega)).mono ?_
                    rintro e w' ⟨rfl, rfl⟩
                    go_wp2
                    go_meet
                    exact ⟨⟨_, rfl⟩, rfl⟩
                  case rest =>
                    obtain ⟨⟨b, rfl⟩, hwx⟩ := hcut
                    have hwx2 := hwx.symm
                    subst hwx2
                    obtain ⟨p, hp⟩ : ∃ p, p = p0 + 1 := ⟨_, rfl⟩
                    have hpI : (1 : Int) + (p0 : Int) = (p : Int) := by omega
                    have hp1 : 1 ≤ p := by omega
                    have hpk : p ≤ k := by omega
                    rw [hpI]
                    clear hp hcell
                    go_upto_if 104 with (fail)
                    go_cut [] (fun wx => ∃ (t : TbV) (R W : Nat → Bool), PipeSt t k R W ∧ IsT wx (w.heap.size + 1) w.heap.size t ∧ Blk wx rb 32 (Tb 13 (arr k R)) ∧ Blk wx (rb + 1) 32 (Tb 13 (arr k W)) ∧ Below w.heap.size w wx)
                    case first =>
                      have hpI' : (p : Int) < 13 := by omega
                      have hin : inn k p = true := by simp [inn, hp1, hpk]
                      cases b with
                      | true =>
                        have HC := hide (close_any wr (w.heap.size + 1) w.heap.size t p 0 (unhid_ HTq))
                        have HP2 := hide ((unhid_ HP').closeR (by omega) hp1 hpk)
                        clear hin
                        go_wp2_with fail
                        refine (unhid_ HC).mono ?_
                        rintro e w8 ⟨rfl, h8, ho8, hs8⟩
                        have hbr8 := ho8.blk (unhid_ HBRq) (by simp; omega)
                        have hbw8 := ho8.blk (unhid_ HBWq) (by simp; omega)
                        have c0 : w8.cell? ⟨rb, p, none⟩ = some (arr k R p) := (hbr8.cell _).trans (Tb_at _ (by omega))
                        have f0 : w8.frozen? ⟨rb, p, none⟩ = false := hbr8.frozen _
                        have hb8 : Below w.heap.size w w8 := (unhid_ HBq).trans (ho8.below (fun x hx => by simp at hx; omega) hzr)
                        have HBR8 := hide hbr8
                        have HBW8 := hide hbw8
                        have HT8 := hide h8
                        have HB8 := hide hb8
                        clear hbr8 hbw8 h8 hb8 hs8 ho8
                        go_wp2_with fail
                        go_meet
                        have hs := (unhid_ HBR8).set_ p (.bool false)
                        rw [arr_set false (by simp [inn, hp1, hpk])] at hs
                        exact ⟨_, _, _, unhid_ HP2, (unhid_ HT8).far (unhid_ HBR8) (by omega) (by decide) _, hs, (unhid_ HBW8).far (p := ⟨rb, p, none⟩) (by show rb + 1 ≠ rb; omega) _, (unhid_ HB8).setCell (p := ⟨rb, p, none⟩) (by show w.heap.size ≤ rb; omega) _⟩
                      | false =>
                        have HC := hide (close_any wr (w.heap.size + 1) w.heap.size t p 1 (unhid_ HTq))
                        have HP2 := hide ((unhid_ HP').closeW (by omega) hp1 hpk)
                        clear hin
                        go_wp2_with fail
                        refine (unhid_ HC).mono ?_
                        rintro e w8 ⟨rfl, h8, ho8, hs8⟩
                        have hbr8 := ho8.blk (unhid_ HBRq) (by simp; omega)
                        have hbw8 := ho8.blk (unhid_ HBWq) (by simp; omega)
                        have c0 : w8.cell? ⟨rb + 1, p, none⟩ = some (arr k W p) := (hbw8.cell _).trans (Tb_at _ (by omega))
                        have f0 : w8.frozen? ⟨rb + 1, p, none⟩ = false := hbw8.frozen _
                        have hb8 : Below w.heap.size w w8 := (unhid_ HBq).trans (ho8.below (fun x hx => by simp at hx; omega) hzr)
                        have HBR8 := hide hbr8
                        have HBW8 := hide hbw8
                        have HT8 := hide h8
                        have HB8 := hide hb8
                        clear hbr8 hbw8 h8 hb8 hs8 ho8
                        go_wp2_with fail
                        go_meet
                        have hs := (unhid_ HBW8).set_ p (.bool false)
                        rw [arr_set false (by simp [inn, hp1, hpk])] at hs
                        exact ⟨_, _, _, unhid_ HP2, (unhid_ HT8).far (unhid_ HBW8) (by omega) (by decide) _, (unhid_ HBR8).far (p := ⟨rb + 1, p, none⟩) (by show rb ≠ rb + 1; omega) _, hs, (unhid_ HB8).setCell (p := ⟨rb + 1, p, none⟩) (by show w.heap.size ≤ rb + 1; omega) _⟩
                    case rest =>
                      obtain ⟨t9, R9, W9, hP9, hT9, hbr9, hbw9, hb9⟩ := hcut
                      have HP9 := hide hP9
                      have HT9 := hide hT9
                      have HBR9 := hide hbr9
                      have HBW9 := hide hbw9
                      have HB9 := hide hb9
                      have hsz9 := hb9.size
                      obtain ⟨tr, tw, hn3, hn4⟩ := hP9.tallies 13 (Nat.le_refl _)
                      rw [tally_past R9 13 (by omega)] at tr
                      rw [tally_past W9 13 (by omega)] at tw
                      have TR := Lib.hid tr
                      have TW := Lib.hid tw
                      clear hP9 hT9 hbr9 hbw9 hb9 hn3 hn4 tr tw
                      obtain ⟨w9, rfl⟩ : ∃ w9 : World, w9 = wc := ⟨_, rfl⟩
                      go_wp2_with fail
                      go_loop [19, 20, 21] (fun s19 s20 s21 => ∃ q : Nat, 1 ≤ q ∧ q ≤ k + 1 ∧ s21 = .int .i64 q ∧ s19 = .int .i64 (tally k R9 q) ∧ s20 = .int .i64 (tally k W9 q)) (fun _ _ s21 => k + 1 - (intOf s21).toNat)
                      case atStart => exact ⟨1, Nat.le_refl _, by omega, rfl, rfl, rfl⟩
                      case round =>
                        obtain ⟨q, hq1, hq, rfl, rfl, rfl⟩ := hrel
                        have l1 := tally_le k R9 q
                        have l2 := tally_le k W9 q
                        by_cases hqk : q < k + 1
                        · have hin : inn k q = true := by simp [inn, hq1]; omega
                          obtain ⟨r, hr⟩ : ∃ r, r = R9 q := ⟨_, rfl⟩
                          obtain ⟨s, hs⟩ : ∃ s, s = W9 q := ⟨_, rfl⟩
                          have c0 : w9.cell? ⟨rb, q, none⟩ = some (.bool r) := ((unhid_ HBR9).cell _).trans ((Tb_at _ (by omega)).trans (by rw [hr]; simp [arr, hin]))
                          have c1 : w9.cell? ⟨rb + 1, q, none⟩ = some (.bool s) := ((unhid_ HBW9).cell _).trans ((Tb_at _ (by omega)).trans (by rw [hs]; simp [arr, hin]))
                          have e1 := Lib.hid (tally_step (R := R9) hq1 (by omega : q ≤ k))
                          have e2 := Lib.hid (tally_step (R := W9) hq1 (by omega : q ≤ k))
                          rw [← hr] at e1
                          rw [← hs] at e2
                          obtain ⟨x1, hx1⟩ : ∃ x1, x1 = tally k R9 q := ⟨_, rfl⟩
                          obtain ⟨x2, hx2⟩ : ∃ x2, x2 = tally k W9 q := ⟨_, rfl⟩
                          rw [← hx1] at e1 l1 ⊢
                          rw [← hx2] at e2 l2 ⊢
                          have hqI : (q : Int) ≤ (k : Int) := by omega
                          have hq12 : q ≤ 10 := by omega
                          clear hr hs hx1 hx2 hin
                          cases r <;> cases s
                          all_goals
                            go_wp2
                            go_round
                            case rel => exact ⟨q + 1, by omega, by omega, by go_num, by rw [e1.out]; go_num, by rw [e2.out]; go_num⟩
                            case measure => simp [intOf]; omega
                        · obtain rfl : q = k + 1 := by omega
                          have hu := uses_any w9 (w.heap.size + 1) w.heap.size t9 3 4 (unhid_ HT9)
                          rw [TR.out, TW.out] at hu
                          have HU := hide hu
                          clear hu l1 l2
                          go_wp2_with fail
                          refine (unhid_ HU).mono ?_
                          rintro e w10 ⟨rfl, hb10⟩
                          have HB10 := hide hb10
                          clear hb10
                          go_wp2
                          go_roundw
                          case rel => exact ⟨i + 1, t9, R9, W9, by omega, by go_num, unhid_ HP9, (unhid_ HT9).below (unhid_ HB10), (unhid_ HBR9).below (unhid_ HB10) (unhid_ HBR9).lt, (unhid_ HBW9).below (unhid_ HB10) (unhid_ HBW9).lt, (unhid_ HB9).trans ((unhid_ HB10).mono (by omega))⟩
                          case measure => simp [intOf]; omega
                · have hP0 := unhid_ HP'
                  obtain ⟨_, _, tr, tw⟩ := hP0.tallies 13 (Nat.le_refl _)
                  have hu := uses_any wr (w.heap.size + 1) w.heap.size t 3 5 (unhid_ HTq)
                  rw [tr, tw] at hu
                  have HU := hide hu
                  clear hu tr tw hP0
                  go_wp2_with fail
                  refine (unhid_ HU).mono ?_
                  rintro e w10 ⟨rfl, hb10⟩
                  have hb11 : Below w.heap.size w w10 := (unhid_ HBq).trans (hb10.mono hzr)
                  go_wp2_with fail
                  refine (awake_any _).mono ?_
                  rintro e w' ⟨rfl, hbz⟩
                  go_wp2
                  go_ret
                  exact yes_mk rfl (hb11.trans (hbz.mono hb11.size))
              · obtain rfl : i = xs.length := by omega
                have hP0 := unhid_ HP'
                obtain ⟨_, _, tr, tw⟩ := hP0.tallies 13 (Nat.le_refl _)
                have hu := uses_any wr (w.heap.size + 1) w.heap.size t 3 5 (unhid_ HTq)
                rw [tr, tw] at hu
                have HU := hide hu
                clear hu tr tw hP0
                go_wp2_with fail
                refine (unhid_ HU).mono ?_
                rintro e w10 ⟨rfl, hb10⟩
                have hb11 : Below w.heap.size w w10 := (unhid_ HBq).trans (hb10.mono hzr)
                go_wp2_with fail
                refine (awake_any _).mono ?_
                rintro e w' ⟨rfl, hbz⟩
                go_wp2
                go_ret
                exact yes_mk rfl (hb11.trans (hbz.mono hb11.size))
end Go.Proofs.Ytgdloahgokefpaa
