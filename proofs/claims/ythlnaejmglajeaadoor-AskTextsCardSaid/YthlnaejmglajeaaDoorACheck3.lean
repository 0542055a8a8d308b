/- The walks of ask's holds, Check. -/
import Derived.Test.YthlnaejmglajeaaDoorACheck2
namespace Go.Proofs.YthlnaejmglajeaaDoor
open Go.RowKit
set_option linter.unusedSimpArgs false
set_option linter.unusedVariables false

mutual
def szQ : QT → Nat
  | .mk o n ks => szL ks + 1
def szL : List QT → Nat
  | [] => 0
  | k :: ks => szQ k + szL ks
end
theorem szQ_mk (o n : Int) (ks : List QT) : szQ (.mk o n ks) = szL ks + 1 := by rw [szQ]
theorem szL_cons (k : QT) (ks : List QT) : szL (k :: ks) = szQ k + szL ks := by rw [szL]
theorem szL_mem : ∀ {ks : List QT} {x : QT}, x ∈ ks → szQ x ≤ szL ks
  | k :: ks, x, h => by
    rw [szL_cons]
    rcases List.mem_cons.1 h with rfl | h
    · omega
    · have := szL_mem h; omega
theorem holdsF_mk (o n : Int) (ks : List QT) (left at_ : Int) : holdsF (.mk o n ks) left at_ = if left - 1 < 0 ∨ 12 < at_ ∨ aloneF (.mk o n ks) = false then (left - 1, false) else holdsL ks (left - 1) (at_ + 1) := by rw [holdsF]
theorem holdsL_cons (k : QT) (ks : List QT) (left at_ : Int) : holdsL (k :: ks) left at_ = if (holdsF k left at_).2 then holdsL ks (holdsF k left at_).1 at_ else ((holdsF k left at_).1, false) := by rw [holdsL]
theorem holdsL_nil (left at_ : Int) : holdsL [] left at_ = (left, true) := by rw [holdsL]
mutual
theorem holdsF_bd : ∀ (q : QT) (left at_ : Int), 0 ≤ left → (holdsF q left at_).1 ≤ left ∧ -1 ≤ (holdsF q left at_).1 ∧ ((holdsF q left at_).2 = true → 0 ≤ (holdsF q left at_).1)
  | .mk o n ks, left, at_, h => by
    rw [holdsF_mk]
    split
    · exact ⟨by simp only []; omega, by simp only []; omega, fun h => by cases h⟩
    · rename_i hc
      have := holdsL_bd ks (left - 1) (at_ + 1) (by omega)
      exact ⟨by omega, this.2.1, this.2.2⟩
theorem holdsL_bd : ∀ (ks : List QT) (left at_ : Int), 0 ≤ left → (holdsL ks left at_).1 ≤ left ∧ -1 ≤ (holdsL ks left at_).1 ∧ ((holdsL ks left at_).2 = true → 0 ≤ (holdsL ks left at_).1)
  | [], left, at_, h => by rw [holdsL_nil]; exact ⟨Int.le_refl _, by simp only []; omega, fun _ => h⟩
  | k :: ks, left, at_, h => by
    rw [holdsL_cons]
    have h1 := holdsF_bd k left at_ h
    split
    · rename_i hb
      have := holdsL_bd ks (holdsF k left at_).1 at_ (h1.2.2 hb)
      exact ⟨by omega, this.2.1, this.2.2⟩
    · exact ⟨h1.1, h1.2.1, fun h => by cases h⟩
end
/-- what holds answers -/
def HoldsT (r : Int × Bool) (w : World) (e : Ending) (w' : World) : Prop := e = .returned (.tuple #[.int .i64 r.1, .bool r.2]) ∧ Below w.heap.size w w'
theorem holdsT_mk {r : Int × Bool} {a : Int} {b : Bool} {w w' : World} (h : r = (a, b)) (hb : Below w.heap.size w w') : HoldsT r w (.returned (.tuple #[.int .i64 a, .bool b])) w' := by subst h; exact ⟨rfl, hb⟩

set_option maxHeartbeats 4000000 in
theorem holds_any (N : Nat) : ∀ (w : World) (B0 B : Nat) (o n : Int) (ks : List QT) (A : Option Addr) (c : Nat) (left at_ : Int), szL ks < N → RQ w B0 B (.mk o n ks) A c → B ≤ w.heap.size → 0 ≤ left → left ≤ 1000 → 0 ≤ at_ → at_ ≤ 1000 →
    Calls Tryd.prog 17 #[.agg #[.int .i64 o, .int .i64 n, .slice A ks.length c], .int .i64 left, .int .i64 at_] w (HoldsT (holdsF (.mk o n ks) left at_) w) := by
  induction N with
  | zero => intro w B0 B o n ks A c left at_ h; omega
  | succ N ih =>
    intro w B0 B o n ks A c left at_ hN hq hB h0 h1 h2 h3
    have HIH := hide ih
    have hcap := hq.cap
    have hlc : ks.length ≤ 9223372036854775807 := by have := hcap.1; have := hcap.2; simp only [QT.kids, maxLen] at *; omega
    have HQ := hide hq
    have HAL := hide (alone_any (w.alloc (.cells #[.int .i64 o, .int .i64 n, .slice A ks.length c] 24)) B0 B o n ks A c (hq.belowW ((Below.refl _ _).alloc hB _)) (by simp; omega))
    have hmk := holdsF_mk o n ks left at_
    clear ih hcap hq
    by_cases g1 : left - 1 < 0
    · have HF := Lib.hid (hmk.trans (if_pos (.inl g1)))
      have d1 : decide (left - 1 < 0) = true := by simpa using g1
      clear hmk
      go_enter Tryd.func17, Tryd.ntmps17
      go_wp2
      go_ret2
      exact holdsT_mk HF.out ((Below.refl _ _).alloc (Nat.le_refl _) _)
    · have d1 : decide (left - 1 < 0) = false := by simpa using g1
      by_cases g2 : 12 < at_
      · have HF := Lib.hid (hmk.trans (if_pos (.inr (.inl g2))))
        have d2 : decide (12 < at_) = true := by simpa using g2
        clear hmk
        go_enter Tryd.func17, Tryd.ntmps17
        go_wp2
        go_ret2
        exact holdsT_mk HF.out ((Below.refl _ _).alloc (Nat.le_refl _) _)
      · have d2 : decide (12 < at_) = false := by simpa using g2
        obtain ⟨al, hal⟩ : ∃ b, aloneF (.mk o n ks) = b := ⟨_, rfl⟩
        rw [hal] at HAL hmk
        clear hal
        cases al with
        | false =>
          have HF := Lib.hid (hmk.trans (if_pos (.inr (.inr rfl))))
          clear hmk
          go_enter Tryd.func17, Tryd.ntmps17
          go_wp2_with fail
          refine (unhid_ HAL).mono ?_
          rintro e w1 ⟨rfl, hb1⟩
          go_wp2
          go_ret2
          exact holdsT_mk HF.out (((Below.refl _ _).alloc (Nat.le_refl _) _).trans (hb1.mono (by simp)))
        | true =>
          have HF := Lib.hid (hmk.trans (if_neg (by rintro (h | h | h); exact g1 h; exact g2 h; cases h)))
          clear hmk
          go_enter Tryd.func17, Tryd.ntmps17
          go_wp2_with fail
          refine (unhid_ HAL).mono ?_
          rintro e w1 ⟨rfl, hb1⟩
          have hbw1 : Below w.heap.size w w1 := ((Below.refl _ _).alloc (Nat.le_refl _) _).trans (hb1.mono (by simp))
          have hzw1 : w.heap.size + 1 ≤ w1.heap.size := by have := hb1.size; simpa using this
          have c2 : w1.cell? ⟨w.heap.size, 2, none⟩ = some (.slice A ks.length c) := by
            rw [hb1.cell (p := ⟨w.heap.size, 2, none⟩) (by simp)]
            simp [World.cell?_alloc_at]
          have HBW := hide hbw1
          clear hb1 hbw1 HAL
          go_wp2_with fail
          go_loopw [1, 8, 28] (fun s1 s8 i wr => ∃ (k : Nat) (l : Int), k ≤ ks.length ∧ i = .int .i64 k ∧ s1 = .int .i64 l ∧ s8 = .bool true ∧ 0 ≤ l ∧ l ≤ 1000 ∧ holdsF (.mk o n ks) left at_ = holdsL (ks.drop k) l (at_ + 1) ∧ Below w.heap.size w wr) (fun _ _ i _ => ks.length - (intOf i).toNat)
          case atStart => exact ⟨0, left - 1, Nat.zero_le _, rfl, rfl, rfl, by omega, by omega, by rw [HF.out]; rfl, unhid_ HBW⟩
          case round =>
            obtain ⟨k, l, hk, rfl, rfl, rfl, hl0, hl1, hto, hbq⟩ := hrel
            have HTO := Lib.hid hto
            have HBQ := hide hbq
            have hsz := hbq.size
            by_cases hlt : k < ks.length
            · obtain ⟨ad, x, Ai, ci, rfl, hx, _, c0, c1', c2', hqx⟩ := ((unhid_ HQ).belowW (hbq.mono hB)).at_ (i := k) hlt
              have hx' : ks[k]? = some x := hx
              have hd : ks.drop k = x :: ks.drop (k + 1) := by
                rw [List.drop_eq_getElem_cons hlt, ← (List.getElem?_eq_some_iff.1 hx').2]
              have hszx : szQ x ≤ szL ks := szL_mem (List.mem_of_getElem? hx')
              obtain ⟨ox, nx, kx⟩ := x
              rw [szQ_mk] at hszx
              simp only [QT.op, QT.n, QT.kids] at c0 c1' c2'
              have hkI : (k : Int) < ks.length := by omega
              have HC := hide ((unhid_ HIH) (wr.alloc (.cells #[.int .i64 ox, .int .i64 nx, .slice Ai kx.length ci] 24)) B0 B ox nx kx Ai ci l (at_ + 1) (by omega) (hqx.belowW ((Below.refl _ _).alloc (by omega) _)) (by simp; omega) hl0 hl1 (by omega) (by omega))
              have hbd := holdsF_bd (.mk ox nx kx) l (at_ + 1) hl0
              rw [hd, holdsL_cons] at hto
              obtain ⟨r, hr⟩ : ∃ r, holdsF (.mk ox nx kx) l (at_ + 1) = r := ⟨_, rfl⟩
              rw [hr] at HC hbd hto
              obtain ⟨l', b⟩ := r
              simp only at hbd hto
              obtain ⟨hbd1, hbd2, hbd3⟩ := hbd
              cases b with
              | true =>
                have hl'0 := hbd3 rfl
                rw [if_pos rfl] at hto
                have HTO2 := Lib.hid hto
                clear hto hbq hx hx' hd hr hbd3 hqx
                go_wp2_with fail
                refine (unhid_ HC).mono ?_
                rintro e w' ⟨rfl, hb'⟩
                have HB' := hide ((unhid_ HBQ).trans (((Below.refl _ wr).alloc (Nat.le_refl _) _ |>.trans (hb'.mono (by simp))).mono hsz))
                clear hb' HC
                go_wp2
                go_roundw
                case rel => exact ⟨k + 1, l', by omega, by go_num, rfl, rfl, hl'0, by omega, HTO2.out, unhid_ HB'⟩
                case measure => simp [intOf]; omega
              | false =>
                rw [if_neg (by decide)] at hto
                have HTO2 := Lib.hid hto
                clear hto hbq hx hx' hd hr hbd3 hqx
                go_wp2_with fail
                refine (unhid_ HC).mono ?_
                rintro e w' ⟨rfl, hb'⟩
                have HB' := hide ((unhid_ HBQ).trans (((Below.refl _ wr).alloc (Nat.le_refl _) _ |>.trans (hb'.mono (by simp))).mono hsz))
                clear hb' HC
                go_wp2
                go_ret2
                exact holdsT_mk HTO2.out (unhid_ HB')
            · obtain rfl : k = ks.length := by omega
              rw [List.drop_length, holdsL_nil] at hto
              have HTO2 := Lib.hid hto
              clear hto hbq
              go_wp2
              go_ret2
              exact holdsT_mk HTO2.out (unhid_ HBQ)

set_option maxHeartbeats 1000000 in
theorem check_any (w : World) (B0 B : Nat) (o n : Int) (ks : List QT) (A : Option Addr) (c : Nat) (hq : RQ w B0 B (.mk o n ks) A c) (hB : B ≤ w.heap.size) :
    Calls Tryd.prog 9 #[.agg #[.int .i64 o, .int .i64 n, .slice A ks.length c]] w (BoolB (checkF (.mk o n ks)) w) := by
  have HH := hide (holds_any (szL ks + 1) (w.alloc (.cells #[.int .i64 o, .int .i64 n, .slice A ks.length c] 24)) B0 B o n ks A c 40 1 (by omega) (hq.belowW ((Below.refl _ _).alloc hB _)) (by simp; omega) (by omega) (by omega) (by omega) (by omega))
  obtain ⟨r, hr⟩ : ∃ r, holdsF (.mk o n ks) 40 1 = r := ⟨_, rfl⟩
  rw [hr] at HH
  have HF := Lib.hid (show checkF (.mk o n ks) = r.2 by rw [checkF, hr])
  clear hq hr
  go_enter Tryd.func9, Tryd.ntmps9
  go_wp2_with fail
  refine (unhid_ HH).mono ?_
  rintro e w' ⟨rfl, hb'⟩
  have HB := hide (((Below.refl _ w).alloc (Nat.le_refl _) _).trans (hb'.mono (by simp)))
  clear hb' HH
  go_wp2
  go_ret
  exact boolB_mk HF.out.symm (unhid_ HB)
end Go.Proofs.YthlnaejmglajeaaDoor
