/- The walks of slices.EqualFunc at steps, of ask's same, zero, Same. -/
import Derived.Test.YthlnaejmglajeaaDoorACheck3
namespace Go.Proofs.YthlnaejmglajeaaDoor
open Go.RowKit
set_option linter.unusedSimpArgs false
set_option linter.unusedVariables false

theorem sameL_nil : sameL [] [] = true := by rw [sameL]
theorem sameL_cons (x y : QT) (xs ys : List QT) : sameL (x :: xs) (y :: ys) = (sameQ x y && sameL xs ys) := by rw [sameL]
theorem sameQ_mk (o n : Int) (ks : List QT) (o' n' : Int) (ks' : List QT) : sameQ (.mk o n ks) (.mk o' n' ks') = (o == o' && (n == n' && sameL ks ks')) := by rw [sameQ]
theorem sameL_len : ∀ (xs ys : List QT), xs.length ≠ ys.length → sameL xs ys = false
  | [], [], h => absurd rfl h
  | [], _ :: _, _ => by simp [sameL]
  | _ :: _, [], _ => by simp [sameL]
  | x :: xs, y :: ys, h => by rw [sameL_cons, sameL_len xs ys (by simpa using h), Bool.and_false]
def SameAt (N : Nat) : Prop := ∀ (w : World) (B0 B B0' B' : Nat) (o n : Int) (ks : List QT) (A : Option Addr) (c : Nat) (o' n' : Int) (ks' : List QT) (A' : Option Addr) (c' : Nat), szL ks < N → RQ w B0 B (.mk o n ks) A c → B ≤ w.heap.size → RQ w B0' B' (.mk o' n' ks') A' c' → B' ≤ w.heap.size →
    Calls Tryd.prog 20 #[.agg #[.int .i64 o, .int .i64 n, .slice A ks.length c], .agg #[.int .i64 o', .int .i64 n', .slice A' ks'.length c']] w (BoolB (sameQ (.mk o n ks) (.mk o' n' ks')) w)

set_option maxHeartbeats 4000000 in
theorem equalF_any (N : Nat) (ih : SameAt N) (w : World) (B0 B B0' B' : Nat) (o n : Int) (ks : List QT) (A : Option Addr) (c : Nat) (o' n' : Int) (ks' : List QT) (A' : Option Addr) (c' : Nat) (hN : szL ks < N + 1) (hq : RQ w B0 B (.mk o n ks) A c) (hB : B ≤ w.heap.size) (hq' : RQ w B0' B' (.mk o' n' ks') A' c') (hB' : B' ≤ w.heap.size) :
    Calls Tryd.prog 28 #[.slice A ks.length c, .slice A' ks'.length c', .func (.func 20) #[] #[]] w (BoolB (sameL ks ks') w) := by
  have HIH := hide ih
  have hcap := hq.cap
  have hcap' := hq'.cap
  have hlc : ks.length ≤ 9223372036854775807 := by have := hcap.1; have := hcap.2; simp only [QT.kids, maxLen] at *; omega
  have hlc' : ks'.length ≤ 9223372036854775807 := by have := hcap'.1; have := hcap'.2; simp only [QT.kids, maxLen] at *; omega
  have HQ := hide hq
  have HQ' := hide hq'
  clear ih hcap hcap' hq hq'
  by_cases hl : ks.length = ks'.length
  · have d1 : ((ks.length : Int) != (ks'.length : Int)) = false := by rw [hl]; simp
    have HL := Lib.hid hl
    clear hl
    go_enter Tryd.func28, Tryd.ntmps28
    go_wp2_with fail
    go_loopw [17] (fun i wr => ∃ k : Nat, k ≤ ks.length ∧ i = .int .i64 k ∧ sameL ks ks' = sameL (ks.drop k) (ks'.drop k) ∧ Below w.heap.size w wr) (fun i _ => ks.length - (intOf i).toNat)
    case atStart => exact ⟨0, Nat.zero_le _, rfl, rfl, Below.refl _ _⟩
    case round =>
      obtain ⟨k, hk, rfl, hto, hbq⟩ := hrel
      have HTO := Lib.hid hto
      have HBQ := hide hbq
      have hsz := hbq.size
      by_cases hlt : k < ks.length
      · have hlt' : k < ks'.length := by rw [← HL.out]; exact hlt
        obtain ⟨ad, x, Ai, ci, rfl, hx, hb1, c0, c1, c2, hqx⟩ := ((unhid_ HQ).belowW (hbq.mono hB)).at_ (i := k) hlt
        obtain ⟨ad', x', Ai', ci', rfl, hx', hb2, e0, e1, e2, hqx'⟩ := ((unhid_ HQ').belowW (hbq.mono hB')).at_ (i := k) hlt'
        have gx : ks[k]? = some x := hx
        have gx' : ks'[k]? = some x' := hx'
        have hd : ks.drop k = x :: ks.drop (k + 1) := by
          rw [List.drop_eq_getElem_cons hlt, ← (List.getElem?_eq_some_iff.1 gx).2]
        have hd' : ks'.drop k = x' :: ks'.drop (k + 1) := by
          rw [List.drop_eq_getElem_cons hlt', ← (List.getElem?_eq_some_iff.1 gx').2]
        have hszx : szQ x ≤ szL ks := szL_mem (List.mem_of_getElem? gx)
        obtain ⟨ox, nx, kx⟩ := x
        obtain ⟨oy, ny, ky⟩ := x'
        rw [szQ_mk] at hszx
        simp only [QT.op, QT.n, QT.kids] at c0 c1 c2 e0 e1 e2
        have hkI : (k : Int) < ks.length := by omega
        have hkI' : (k : Int) < ks'.length := by omega
        have hn1 : (ad.add (k * 3)).block < wr.heap.size := by omega
        have hn2 : (ad'.add (k * 3)).block < wr.heap.size := by omega
        have hn2' : (ad'.add (k * 3)).block < wr.heap.size + 1 := by omega
        have hb2w : Below wr.heap.size wr ((wr.alloc (.cells #[.int .i64 ox, .int .i64 nx, .slice Ai kx.length ci] 24)).alloc (.cells #[.int .i64 oy, .int .i64 ny, .slice Ai' ky.length ci'] 24)) := ((Below.refl _ _).alloc (Nat.le_refl _) _).alloc (by simp) _
        have HC := hide ((unhid_ HIH) _ B0 B B0' B' ox nx kx Ai ci oy ny ky Ai' ci' (by omega) (hqx.belowW (hb2w.mono (by omega))) (by simp; omega) (hqx'.belowW (hb2w.mono (by omega))) (by simp; omega))
        rw [hd, hd', sameL_cons] at hto
        obtain ⟨b, hb⟩ : ∃ b, sameQ (.mk ox nx kx) (.mk oy ny ky) = b := ⟨_, rfl⟩
        rw [hb] at HC hto
        have HB2W := hide hb2w
        cases b with
        | true =>
          rw [Bool.true_and] at hto
          have HTO2 := Lib.hid hto
          clear hto hbq hx hx' gx gx' hd hd' hb hqx hqx' hb2w
          go_wp2_with fail
          refine (unhid_ HC).mono ?_
          rintro e w' ⟨rfl, hb'⟩
          have HB' := hide ((unhid_ HBQ).trans (((unhid_ HB2W).trans (hb'.mono (unhid_ HB2W).size)).mono hsz))
          clear hb' HC
          go_wp2
          go_roundw
          case rel => exact ⟨k + 1, by omega, by go_num, HTO2.out, unhid_ HB'⟩
          case measure => simp [intOf]; omega
        | false =>
          rw [Bool.false_and] at hto
          have HTO2 := Lib.hid hto
          clear hto hbq hx hx' gx gx' hd hd' hb hqx hqx' hb2w
          go_wp2_with fail
          refine (unhid_ HC).mono ?_
          rintro e w' ⟨rfl, hb'⟩
          have HB' := hide ((unhid_ HBQ).trans (((unhid_ HB2W).trans (hb'.mono (unhid_ HB2W).size)).mono hsz))
          clear hb' HC
          go_wp2
          go_ret
          exact boolB_mk HTO2.out.symm (unhid_ HB')
      · obtain rfl : k = ks.length := by omega
        have hz : sameL (ks.drop ks.length) (ks'.drop ks.length) = true := by
          rw [List.drop_length, HL.out, List.drop_length, sameL_nil]
        have HTO2 := Lib.hid (hto.trans hz)
        clear hto hbq hz
        go_wp2
        go_ret
        exact boolB_mk HTO2.out.symm (unhid_ HBQ)
  · have d1 : ((ks.length : Int) != (ks'.length : Int)) = true := by rw [bne_iff_ne]; omega
    have HF := Lib.hid (sameL_len _ _ hl)
    clear hl
    go_enter Tryd.func28, Tryd.ntmps28
    go_wp2
    go_ret
    exact boolB_mk HF.out.symm (Below.refl _ _)

set_option maxHeartbeats 4000000 in
theorem same_any : ∀ N, SameAt N
  | 0 => fun w B0 B B0' B' o n ks A c o' n' ks' A' c' h => absurd h (Nat.not_lt_zero _)
  | N + 1 => by
    intro w B0 B B0' B' o n ks A c o' n' ks' A' c' hN hq hB hq' hB'
    have hbw : Below w.heap.size w ((w.alloc (.cells #[.int .i64 o, .int .i64 n, .slice A ks.length c] 24)).alloc (.cells #[.int .i64 o', .int .i64 n', .slice A' ks'.length c'] 24)) := ((Below.refl _ _).alloc (Nat.le_refl _) _).alloc (by simp) _
    have HE := hide (equalF_any N (same_any N) _ B0 B B0' B' o n ks A c o' n' ks' A' c' hN (hq.belowW (hbw.mono hB)) (by simp; omega) (hq'.belowW (hbw.mono hB')) (by simp; omega))
    have HBW := hide hbw
    obtain ⟨b, hb⟩ : ∃ b, sameL ks ks' = b := ⟨_, rfl⟩
    have hmk := sameQ_mk o n ks o' n' ks'
    rw [hb] at HE hmk
    obtain ⟨z0, hz0⟩ : ∃ b, (o == o') = b := ⟨_, rfl⟩
    obtain ⟨z1, hz1⟩ : ∃ b, (n == n') = b := ⟨_, rfl⟩
    rw [hz0, hz1] at hmk
    have HMK := Lib.hid hmk
    clear hb hmk hq hq' hbw
    cases z0 with
    | false =>
      go_enter Tryd.func20, Tryd.ntmps20
      go_wp2
      go_ret
      exact boolB_mk (by rw [HMK.out]; rfl) (unhid_ HBW)
    | true =>
      cases z1 with
      | false =>
        go_enter Tryd.func20, Tryd.ntmps20
        go_wp2
        go_ret
        exact boolB_mk (by rw [HMK.out]; rfl) (unhid_ HBW)
      | true =>
        go_enter Tryd.func20, Tryd.ntmps20
        go_wp2_with fail
        refine (unhid_ HE).mono ?_
        rintro e w' ⟨rfl, hb'⟩
        have HB' := hide ((unhid_ HBW).trans (hb'.mono (unhid_ HBW).size))
        clear hb' HE
        go_wp2
        go_ret
        exact boolB_mk (by rw [HMK.out]; simp) (unhid_ HB')

set_option maxHeartbeats 1000000 in
theorem zero_any (w : World) (o n : Int) (ks : List QT) (A : Option Addr) (c : Nat) :
    Calls Tryd.prog 21 #[.agg #[.int .i64 o, .int .i64 n, .slice A ks.length c]] w (BoolB (zeroF (.mk o n ks)) w) := by
  have e0 := len0_eq ks 0
  obtain ⟨z0, hz0⟩ : ∃ b, (ks.length == 0) = b := ⟨_, rfl⟩
  obtain ⟨zn, hzn⟩ : ∃ b, (n == 0) = b := ⟨_, rfl⟩
  obtain ⟨zo, hzo⟩ : ∃ b, (o == 0) = b := ⟨_, rfl⟩
  rw [hz0] at e0
  have e0' : ((ks.length : Int) == 0) = z0 := e0
  have HF := Lib.hid (show zeroF (.mk o n ks) = (zo && (zn && z0)) by rw [zeroF, hzo, hzn, hz0])
  clear e0 hz0
  cases zo <;> cases zn <;> cases z0
  all_goals
    go_enter Tryd.func21, Tryd.ntmps21
    go_wp2
    go_ret
    exact boolB_mk (by rw [HF.out]; rfl) ((Below.refl _ _).alloc (Nat.le_refl _) _)

theorem box2 {w w1 : World} {a0 a1 a2 b0 b1 b2 : Value} {T : TypeId} (h : Below (w.heap.size + 2) ((w.alloc (.cells #[a0, a1, a2] T)).alloc (.cells #[b0, b1, b2] T)) w1) :
    w1.cell? ⟨w.heap.size, 0, none⟩ = some a0 ∧ w1.cell? ⟨w.heap.size, 1, none⟩ = some a1 ∧ w1.cell? ⟨w.heap.size, 2, none⟩ = some a2 ∧
    w1.cell? ⟨w.heap.size + 1, 0, none⟩ = some b0 ∧ w1.cell? ⟨w.heap.size + 1, 1, none⟩ = some b1 ∧ w1.cell? ⟨w.heap.size + 1, 2, none⟩ = some b2 := by
  have e1 : ∀ j, ((w.alloc (.cells #[a0, a1, a2] T)).alloc (.cells #[b0, b1, b2] T)).cell? ⟨w.heap.size, j, none⟩ = #[a0, a1, a2][j]? := fun j => by
    rw [World.cell?_alloc_lt _ _ _ (by simp)]
    exact (Blk.new w T #[a0, a1, a2]).cell j
  have e2 : ∀ j, ((w.alloc (.cells #[a0, a1, a2] T)).alloc (.cells #[b0, b1, b2] T)).cell? ⟨w.heap.size + 1, j, none⟩ = #[b0, b1, b2][j]? := fun j => by
    have := (Blk.new (w.alloc (.cells #[a0, a1, a2] T)) T #[b0, b1, b2]).cell j
    rwa [World.size_alloc] at this
  refine ⟨?_, ?_, ?_, ?_, ?_, ?_⟩
  · rw [h.cell (p := ⟨w.heap.size, 0, none⟩) (by simp), e1]; rfl
  · rw [h.cell (p := ⟨w.heap.size, 1, none⟩) (by simp), e1]; rfl
  · rw [h.cell (p := ⟨w.heap.size, 2, none⟩) (by simp), e1]; rfl
  · rw [h.cell (p := ⟨w.heap.size + 1, 0, none⟩) (by simp), e2]; rfl
  · rw [h.cell (p := ⟨w.heap.size + 1, 1, none⟩) (by simp), e2]; rfl
  · rw [h.cell (p := ⟨w.heap.size + 1, 2, none⟩) (by simp), e2]; rfl

set_option maxHeartbeats 4000000 in
/-- Same at two questions that may be and are the same -/
theorem Same_any (w : World) (B0 B B0' B' : Nat) (o n : Int) (ks : List QT) (A : Option Addr) (c : Nat) (o' n' : Int) (ks' : List QT) (A' : Option Addr) (c' : Nat) (hq : RQ w B0 B (.mk o n ks) A c) (hB : B ≤ w.heap.size) (hq' : RQ w B0' B' (.mk o' n' ks') A' c') (hB' : B' ≤ w.heap.size)
    (h1 : checkF (.mk o n ks) = true) (h2 : checkF (.mk o' n' ks') = true) (h3 : sameQ (.mk o n ks) (.mk o' n' ks') = true) :
    Calls Tryd.prog 13 #[.agg #[.int .i64 o, .int .i64 n, .slice A ks.length c], .agg #[.int .i64 o', .int .i64 n', .slice A' ks'.length c']] w (BoolB true w) := by
  obtain ⟨W0, hW0⟩ : ∃ W0, W0 = (w.alloc (.cells #[.int .i64 o, .int .i64 n, .slice A ks.length c] 24)).alloc (.cells #[.int .i64 o', .int .i64 n', .slice A' ks'.length c'] 24) := ⟨_, rfl⟩
  have hbw : Below w.heap.size w W0 := by rw [hW0]; exact ((Below.refl _ _).alloc (Nat.le_refl _) _).alloc (by simp) _
  have hz0 : W0.heap.size = w.heap.size + 2 := by rw [hW0]; simp
  have HC1 := hide (fun (w1 : World) (hb : Below w.heap.size w w1) => check_any w1 B0 B o n ks A c (hq.belowW (hb.mono hB)) (by have := hb.size; omega))
  have HC2 := hide (fun (w1 : World) (hb : Below w.heap.size w w1) => check_any w1 B0' B' o' n' ks' A' c' (hq'.belowW (hb.mono hB')) (by have := hb.size; omega))
  have HS := hide (fun (w1 : World) (hb : Below w.heap.size w w1) => same_any (szL ks + 1) w1 B0 B B0' B' o n ks A c o' n' ks' A' c' (by omega) (hq.belowW (hb.mono hB)) (by have := hb.size; omega) (hq'.belowW (hb.mono hB')) (by have := hb.size; omega))
  rw [h1] at HC1
  rw [h2] at HC2
  rw [h3] at HS
  have HBX := hide (fun (w1 : World) (h : Below (w.heap.size + 2) W0 w1) => box2 (hW0 ▸ h))
  have HBW := hide hbw
  have HZ := Lib.hid hz0
  have HW0 := Lib.hid hW0
  clear hq hq' hbw hz0 hW0 h1 h2 h3
  go_enter Tryd.func13, Tryd.ntmps13
  go_wp2_with fail
  rw [← HW0.out]
  refine ((unhid_ HC1) W0 (unhid_ HBW)).mono ?_
  rintro e w1 ⟨rfl, hb1⟩
  have hb1' : Below (w.heap.size + 2) W0 w1 := by rw [← HZ.out]; exact hb1
  obtain ⟨c1, c2, c3, c4, c5, c6⟩ := (unhid_ HBX) _ hb1'
  have HB1 := hide hb1'
  clear hb1 hb1' HW0
  go_wp2_with fail
  refine ((unhid_ HC2) w1 ((unhid_ HBW).trans ((unhid_ HB1).mono (by omega)))).mono ?_
  rintro e w2 ⟨rfl, hb2⟩
  have hb2' : Below (w.heap.size + 2) W0 w2 := (unhid_ HB1).trans (hb2.mono (by have := (unhid_ HB1).size; have := HZ.out; omega))
  clear c1 c2 c3 c4 c5 c6
  obtain ⟨c1, c2, c3, c4, c5, c6⟩ := (unhid_ HBX) _ hb2'
  have HB2 := hide hb2'
  clear hb2 hb2' HB1
  go_wp2_with fail
  refine ((unhid_ HS) w2 ((unhid_ HBW).trans ((unhid_ HB2).mono (by omega)))).mono ?_
  rintro e w3 ⟨rfl, hb3⟩
  have hb3' : Below w.heap.size w w3 := (unhid_ HBW).trans (((unhid_ HB2).trans (hb3.mono (by have := (unhid_ HB2).size; have := HZ.out; omega))).mono (by omega))
  have HB3 := hide hb3'
  clear hb3 hb3' HB2 c1 c2 c3 c4 c5 c6
  go_wp2
  go_ret
  exact ⟨rfl, unhid_ HB3⟩
end Go.Proofs.YthlnaejmglajeaaDoor
