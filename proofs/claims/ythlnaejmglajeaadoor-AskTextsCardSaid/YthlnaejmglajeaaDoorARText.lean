/- The walk of the reference's Text. -/
import Derived.Test.YthlnaejmglajeaaDoorAText2
import Derived.Test.YthlnaejmglajeaaDoorAP0
namespace Go.Proofs.YthlnaejmglajeaaDoor
open Go.RowKit
set_option linter.unusedSimpArgs false
set_option linter.unusedVariables false

theorem conv_one (W : World) (k : Int) (b : UInt8) (hb : UInt8.ofNat k.toNat = b) : (convert 44 9 (.slice (some ⟨W.heap.size, 0, none⟩) 1 1)).run Tryd.prog (W.alloc (.cells #[.int .u8 k] 5)) = .ok (.string ⟨#[b]⟩) (W.alloc (.cells #[.int .u8 k] 5)) := by
  rw [run_convert_bytes_arg _ 44 5 Tryd.underlying44 Tryd.underlying5 W.heap.size 0 1 1 [k] rfl (fun i hi => by
    obtain rfl : i = 0 := by omega
    exact (Blk.new W _ _).cell 0) _ Tryd.underlying9]
  simp [strOfNums, hb]

def RTextAt (N : Nat) : Prop := ∀ (w : World) (B0 B : Nat) (o n : Int) (ks : List QT) (A : Option Addr) (c : Nat), szL ks < N → szL ks ≤ 1000 → allA (.mk o n ks) = true → RQ w B0 B (.mk o n ks) A c → B ≤ w.heap.size →
    Calls Tryd.prog 12 #[.agg #[.int .i64 o, .int .i64 n, .slice A ks.length c]] w (StrB (textF (.mk o n ks)) w)

set_option maxHeartbeats 1000000 in
theorem rtext_1 (w : World) (n : Int) (ks : List QT) (A : Option Addr) (c : Nat) :
    Calls Tryd.prog 12 #[.agg #[.int .i64 1, .int .i64 n, .slice A ks.length c]] w (StrB (textF (.mk 1 n ks)) w) := by
  have HF := Lib.hid (show textF (.mk 1 n ks) = wUp by rw [textF_mk]; rfl)
  go_enter Tryd.func12, Tryd.ntmps12
  go_wp2
  go_ret
  exact strB_mk (by rw [HF.out]; rfl) ((Below.refl _ _).alloc (Nat.le_refl _) _)


set_option maxHeartbeats 1000000 in
theorem rtext_2 (w : World) (n : Int) (ks : List QT) (A : Option Addr) (c : Nat) :
    Calls Tryd.prog 12 #[.agg #[.int .i64 2, .int .i64 n, .slice A ks.length c]] w (StrB (textF (.mk 2 n ks)) w) := by
  have HF := Lib.hid (show textF (.mk 2 n ks) = wDown by rw [textF_mk]; rfl)
  go_enter Tryd.func12, Tryd.ntmps12
  go_wp2
  go_ret
  exact strB_mk (by rw [HF.out]; rfl) ((Below.refl _ _).alloc (Nat.le_refl _) _)

set_option maxHeartbeats 1000000 in
theorem rtext_8 (w : World) (n : Int) (ks : List QT) (A : Option Addr) (c : Nat) :
    Calls Tryd.prog 12 #[.agg #[.int .i64 8, .int .i64 n, .slice A ks.length c]] w (StrB (textF (.mk 8 n ks)) w) := by
  have HF := Lib.hid (show textF (.mk 8 n ks) = wLive by rw [textF_mk]; rfl)
  go_enter Tryd.func12, Tryd.ntmps12
  go_wp2
  go_ret
  exact strB_mk (by rw [HF.out]; rfl) ((Below.refl _ _).alloc (Nat.le_refl _) _)

set_option maxRecDepth 100000 in
set_option maxHeartbeats 1000000 in
theorem rtext_3 (w : World) (n : Int) (ks : List QT) (A : Option Addr) (c : Nat) (h0 : 1 ≤ n) (h1 : n ≤ 5) :
    Calls Tryd.prog 12 #[.agg #[.int .i64 3, .int .i64 n, .slice A ks.length c]] w (StrB (textF (.mk 3 n ks)) w) := by
  have hn : n = 1 ∨ n = 2 ∨ n = 3 ∨ n = 4 ∨ n = 5 := by omega
  have hf : textF (.mk 3 n ks) = wKind ++ parens (dig2 n) := by rw [textF_mk]; rfl
  have HF := Lib.hid hf
  have hc := fun k b hb => conv_one (w.alloc (.cells #[.int .i64 3, .int .i64 n, .slice A ks.length c] stepT)) k b hb
  rw [World.size_alloc] at hc
  have HC := hide hc
  clear hf h0 h1 hc
  rcases hn with rfl | rfl | rfl | rfl | rfl
  · have a3 := (unhid_ HC) 49 49 (by decide)
    clear HC
    go_enter Tryd.func12, Tryd.ntmps12
    go_wp2
    go_ret
    exact strB_mk (by rw [HF.out]; rfl) (((Below.refl _ _).alloc (Nat.le_refl _) _).alloc (by simp) _)
  · have a3 := (unhid_ HC) 50 50 (by decide)
    clear HC
    go_enter Tryd.func12, Tryd.ntmps12
    go_wp2
    go_ret
    exact strB_mk (by rw [HF.out]; rfl) (((Below.refl _ _).alloc (Nat.le_refl _) _).alloc (by simp) _)
  · have a3 := (unhid_ HC) 51 51 (by decide)
    clear HC
    go_enter Tryd.func12, Tryd.ntmps12
    go_wp2
    go_ret
    exact strB_mk (by rw [HF.out]; rfl) (((Below.refl _ _).alloc (Nat.le_refl _) _).alloc (by simp) _)
  · have a3 := (unhid_ HC) 52 52 (by decide)
    clear HC
    go_enter Tryd.func12, Tryd.ntmps12
    go_wp2
    go_ret
    exact strB_mk (by rw [HF.out]; rfl) (((Below.refl _ _).alloc (Nat.le_refl _) _).alloc (by simp) _)
  · have a3 := (unhid_ HC) 53 53 (by decide)
    clear HC
    go_enter Tryd.func12, Tryd.ntmps12
    go_wp2
    go_ret
    exact strB_mk (by rw [HF.out]; rfl) (((Below.refl _ _).alloc (Nat.le_refl _) _).alloc (by simp) _)

set_option maxRecDepth 100000 in
set_option maxHeartbeats 1000000 in
theorem rtext_4 (w : World) (n : Int) (ks : List QT) (A : Option Addr) (c : Nat) (h0 : 0 ≤ n) (h1 : n ≤ 7) :
    Calls Tryd.prog 12 #[.agg #[.int .i64 4, .int .i64 n, .slice A ks.length c]] w (StrB (textF (.mk 4 n ks)) w) := by
  have hn : n = 0 ∨ n = 1 ∨ n = 2 ∨ n = 3 ∨ n = 4 ∨ n = 5 ∨ n = 6 ∨ n = 7 := by omega
  have hf : textF (.mk 4 n ks) = wLabel ++ parens (dig2 n) := by rw [textF_mk]; rfl
  have HF := Lib.hid hf
  have hc := fun k b hb => conv_one (w.alloc (.cells #[.int .i64 4, .int .i64 n, .slice A ks.length c] stepT)) k b hb
  rw [World.size_alloc] at hc
  have HC := hide hc
  clear hf h0 h1 hc
  rcases hn with rfl | rfl | rfl | rfl | rfl | rfl | rfl | rfl
  · have a3 := (unhid_ HC) 48 48 (by decide)
    clear HC
    go_enter Tryd.func12, Tryd.ntmps12
    go_wp2
    go_ret
    exact strB_mk (by rw [HF.out]; rfl) (((Below.refl _ _).alloc (Nat.le_refl _) _).alloc (by simp) _)
  · have a3 := (unhid_ HC) 49 49 (by decide)
    clear HC
    go_enter Tryd.func12, Tryd.ntmps12
    go_wp2
    go_ret
    exact strB_mk (by rw [HF.out]; rfl) (((Below.refl _ _).alloc (Nat.le_refl _) _).alloc (by simp) _)
  · have a3 := (unhid_ HC) 50 50 (by decide)
    clear HC
    go_enter Tryd.func12, Tryd.ntmps12
    go_wp2
    go_ret
    exact strB_mk (by rw [HF.out]; rfl) (((Below.refl _ _).alloc (Nat.le_refl _) _).alloc (by simp) _)
  · have a3 := (unhid_ HC) 51 51 (by decide)
    clear HC
    go_enter Tryd.func12, Tryd.ntmps12
    go_wp2
    go_ret
    exact strB_mk (by rw [HF.out]; rfl) (((Below.refl _ _).alloc (Nat.le_refl _) _).alloc (by simp) _)
  · have a3 := (unhid_ HC) 52 52 (by decide)
    clear HC
    go_enter Tryd.func12, Tryd.ntmps12
    go_wp2
    go_ret
    exact strB_mk (by rw [HF.out]; rfl) (((Below.refl _ _).alloc (Nat.le_refl _) _).alloc (by simp) _)
  · have a3 := (unhid_ HC) 53 53 (by decide)
    clear HC
    go_enter Tryd.func12, Tryd.ntmps12
    go_wp2
    go_ret
    exact strB_mk (by rw [HF.out]; rfl) (((Below.refl _ _).alloc (Nat.le_refl _) _).alloc (by simp) _)
  · have a3 := (unhid_ HC) 54 54 (by decide)
    clear HC
    go_enter Tryd.func12, Tryd.ntmps12
    go_wp2
    go_ret
    exact strB_mk (by rw [HF.out]; rfl) (((Below.refl _ _).alloc (Nat.le_refl _) _).alloc (by simp) _)
  · have a3 := (unhid_ HC) 55 55 (by decide)
    clear HC
    go_enter Tryd.func12, Tryd.ntmps12
    go_wp2
    go_ret
    exact strB_mk (by rw [HF.out]; rfl) (((Below.refl _ _).alloc (Nat.le_refl _) _).alloc (by simp) _)

-- ROWS
set_option maxRecDepth 100000 in
set_option maxHeartbeats 2000000 in
theorem rtext_5 (N : Nat) (ih : RTextAt N) (w : World) (B0 B : Nat) (n : Int) (q : QT) (A : Option Addr) (c : Nat) (hN : szL [q] < N + 1) (hS : szL [q] ≤ 1000) (ha : allL [q] = true) (hq : RQ w B0 B (.mk 5 n [q]) A c) (hB : B ≤ w.heap.size) :
    Calls Tryd.prog 12 #[.agg #[.int .i64 5, .int .i64 n, .slice A 1 c]] w (StrB (textF (.mk 5 n [q])) w) := by
  obtain ⟨ad, x, Ai, ci, rfl, hx, hbk, c0, c1, c2, hqx⟩ := hq.at_ (i := 0) (by show 0 < 1; decide)
  have gx : [q][0]? = some x := hx
  simp only [List.getElem?_cons_zero, Option.some.injEq] at gx
  subst gx
  have hsz : szQ q ≤ szL [q] := szL_mem (by simp)
  have hax : allA q = true := allL_mem ha (by simp)
  have hlen := textF_len q
  obtain ⟨o', n', ks'⟩ := q
  rw [szQ_mk] at hsz hlen
  have hf : textF (.mk 5 n [.mk o' n' ks']) = (if o' = 6 ∨ o' = 7 then parens (textF (.mk o' n' ks')) else textF (.mk o' n' ks')) ++ [42] := by
    have e : textF (.mk 5 n [.mk o' n' ks']) = starText [.mk o' n' ks'] := by rw [textF_mk]; rfl
    rw [e, starText_cons]
    rfl
  simp only [QT.op, QT.n, QT.kids] at c0 c1 c2
  have hw2 : Below w.heap.size w ((w.alloc (.cells #[.int .i64 5, .int .i64 n, .slice (some ad) 1 c] stepT)).alloc (.cells #[.int .i64 o', .int .i64 n', .slice Ai ks'.length ci] stepT)) := ((Below.refl _ _).alloc (Nat.le_refl _) _).alloc (by simp) _
  have hW := ih _ B0 B o' n' ks' Ai ci (by omega) (by omega) hax (hqx.belowW (hw2.mono hB)) (by simp; omega)
  have hbn : (ad.add (0 * 3)).block < w.heap.size := by omega
  rw [show ad.add (0 * 3) = ad from rfl] at c0 c1 c2 hbn
  obtain ⟨T, hT⟩ : ∃ T, T = textF (.mk o' n' ks') := ⟨_, rfl⟩
  rw [← hT] at hf hlen hW
  have HW := hide hW
  have HW2 := hide hw2
  have a1 : ∀ W : World, (Op.stringOp .add ⟨#[40]⟩ (bytesB T)).run Tryd.prog W = .ok (.string (bytesB (40 :: T))) W := fun W => run_add_l W [40] T (by decide) (by omega)
  have a2 : ∀ W : World, (Op.stringOp .add (bytesB (40 :: T)) ⟨#[41, 42]⟩).run Tryd.prog W = .ok (.string (bytesB (40 :: T ++ [41, 42]))) W := fun W => run_add_l W (40 :: T) [41, 42] (by simp; omega) (by decide)
  have a3 : ∀ W : World, (Op.stringOp .add (bytesB T) ⟨#[42]⟩).run Tryd.prog W = .ok (.string (bytesB (T ++ [42]))) W := fun W => run_add_l W T [42] (by omega) (by decide)
  obtain ⟨T0, hT0⟩ : ∃ x, x = bytesB T := ⟨_, rfl⟩
  obtain ⟨T1, hT1⟩ : ∃ x, x = bytesB (40 :: T) := ⟨_, rfl⟩
  obtain ⟨T2, hT2⟩ : ∃ x, x = bytesB (40 :: T ++ [41, 42]) := ⟨_, rfl⟩
  obtain ⟨T3, hT3⟩ : ∃ x, x = bytesB (T ++ [42]) := ⟨_, rfl⟩
  rw [← hT0] at a1 a3
  rw [← hT1] at a1 a2
  rw [← hT2] at a2
  rw [← hT3] at a3
  have HT0 := Lib.hid hT0
  have HT2 := Lib.hid hT2
  have HT3 := Lib.hid hT3
  clear hW hT hq hqx hw2 ih ha hax hlen hx hT0 hT1 hT2 hT3
  by_cases h67 : o' = 6 ∨ o' = 7
  · rw [if_pos h67] at hf
    have HF := Lib.hid hf
    clear hf
    rcases h67 with rfl | rfl
    all_goals
      go_enter Tryd.func12, Tryd.ntmps12
      go_wp2_with fail
      refine (unhid_ HW).mono ?_
      rintro e w' ⟨rfl, hb'⟩
      rw [← HT0.out]
      have HB := hide ((unhid_ HW2).trans (hb'.mono (unhid_ HW2).size))
      clear hb'
      go_wp2
      go_ret
      exact strB_mk (by rw [HF.out, HT2.out, parens]; simp) (unhid_ HB)
  · rw [if_neg h67] at hf
    have HF := Lib.hid hf
    have f6 : (o' == 6) = false := by rw [beq_eq_false_iff_ne]; omega
    have f7 : (o' == 7) = false := by rw [beq_eq_false_iff_ne]; omega
    clear hf h67
    go_enter Tryd.func12, Tryd.ntmps12
    go_wp2_with fail
    refine (unhid_ HW).mono ?_
    rintro e w' ⟨rfl, hb'⟩
    rw [← HT0.out]
    have HB := hide ((unhid_ HW2).trans (hb'.mono (unhid_ HW2).size))
    clear hb'
    go_wp2
    go_ret
    exact strB_mk (by rw [HF.out, HT3.out]) (unhid_ HB)

/-- what a row's text is, behind its first k parts -/
def RowT (c : UInt8) (ts : List (List UInt8)) (k : Nat) (acc : List UInt8) : Prop := (k = 0 ∧ acc = []) ∨ (0 < k ∧ Lib.join ts [c] = acc ++ Lib.joinTail [c] (ts.drop k))
theorem RowT.len {c : UInt8} {ts : List (List UInt8)} {k : Nat} {acc : List UInt8} (h : RowT c ts k acc) : acc.length ≤ (Lib.join ts [c]).length := by
  rcases h with ⟨_, rfl⟩ | ⟨_, h⟩
  · exact Nat.zero_le _
  · rw [h, List.length_append]; omega
theorem RowT.first {c : UInt8} {ts : List (List UInt8)} {acc x : List UInt8} (h : RowT c ts 0 acc) (hx : ts[0]? = some x) : RowT c ts 1 (acc ++ x) := by
  rcases h with ⟨_, rfl⟩ | ⟨h, _⟩
  · cases ts with
    | nil => cases hx
    | cons y ts =>
      simp only [List.getElem?_cons_zero, Option.some.injEq] at hx
      subst hx
      exact .inr ⟨by omega, by rw [Lib.join_cons]; rfl⟩
  · omega
theorem RowT.next {c : UInt8} {ts : List (List UInt8)} {k : Nat} {acc x : List UInt8} (h : RowT c ts k acc) (hk : 0 < k) (hx : ts[k]? = some x) : RowT c ts (k + 1) (acc ++ [c] ++ x) := by
  rcases h with ⟨h, _⟩ | ⟨_, h⟩
  · omega
  · refine .inr ⟨by omega, ?_⟩
    obtain ⟨hl, hx'⟩ := List.getElem?_eq_some_iff.1 hx
    rw [h, List.drop_eq_getElem_cons hl, hx']
    simp [Lib.joinTail]
theorem RowT.all {c : UInt8} {ts : List (List UInt8)} {k : Nat} {acc : List UInt8} (h : RowT c ts k acc) (hk : 0 < k) (hl : ts.length ≤ k) : Lib.join ts [c] = acc := by
  rcases h with ⟨h, _⟩ | ⟨_, h⟩
  · omega
  · rw [h, List.drop_of_length_le hl]
    simp [Lib.joinTail]
theorem orTexts_map : ∀ ks : List QT, orTexts ks = ks.map textF
  | [] => orTexts_nil
  | k :: ks => by rw [orTexts_cons, orTexts_map ks]; rfl
def parT (k : QT) : List UInt8 := if k.op = 6 then parens (textF k) else textF k
theorem parT_6 (n : Int) (ks : List QT) : parT (.mk 6 n ks) = parens (textF (.mk 6 n ks)) := if_pos rfl
theorem parT_ne {o n : Int} {ks : List QT} (h : ¬ o = 6) : parT (.mk o n ks) = textF (.mk o n ks) := if_neg h
theorem thenTexts_map : ∀ ks : List QT, thenTexts ks = ks.map parT
  | [] => thenTexts_nil
  | k :: ks => by rw [thenTexts_cons, thenTexts_map ks]; rfl

set_option maxRecDepth 100000 in
set_option maxHeartbeats 4000000 in
theorem rtext_7 (N : Nat) (ih : RTextAt N) (w : World) (B0 B : Nat) (n : Int) (ks : List QT) (A : Option Addr) (c : Nat) (h2 : 2 ≤ ks.length) (hN : szL ks < N + 1) (hS : szL ks ≤ 1000) (ha : allL ks = true) (hq : RQ w B0 B (.mk 7 n ks) A c) (hB : B ≤ w.heap.size) :
    Calls Tryd.prog 12 #[.agg #[.int .i64 7, .int .i64 n, .slice A ks.length c]] w (StrB (textF (.mk 7 n ks)) w) := by
  have hf : textF (.mk 7 n ks) = Lib.join (ks.map parT) [59] := by rw [← thenTexts_map, textF_mk]; rfl
  have hlt := thenTexts_len ks
  have hjl := join_lensT (thenTexts ks) 59
  rw [thenTexts_map] at hlt hjl
  have HF := Lib.hid hf
  have HA := hide ha
  have HIH := hide ih
  have hcap := hq.cap
  have hlc : ks.length ≤ 9223372036854775807 := by have := hcap.1; have := hcap.2; simp only [QT.kids, maxLen] at *; omega
  have hkl := kids_len ks
  have HQ := hide hq
  clear hf ha ih hcap hq
  go_enter Tryd.func12, Tryd.ntmps12
  go_wp2_with fail
  go_loopw [4, 5] (fun v s wr => ∃ (k : Nat) (acc : List UInt8), k ≤ ks.length ∧ s = .int .i64 k ∧ v = .string (bytesB acc) ∧ RowT 59 (ks.map parT) k acc ∧ Below (w.heap.size + 1) (w.alloc (.cells #[.int .i64 7, .int .i64 n, .slice A ks.length c] stepT)) wr) (fun _ s _ => ks.length - (intOf s).toNat)
  case atStart => exact ⟨0, [], Nat.zero_le _, rfl, rfl, .inl ⟨rfl, rfl⟩, by simpa using Below.refl (w.heap.size + 1) (w.alloc (.cells #[.int .i64 7, .int .i64 n, .slice A ks.length c] stepT))⟩
  case round =>
    obtain ⟨k, acc, hk, rfl, rfl, hrow, hbq0⟩ := hrel
    have hbq : Below w.heap.size w wr := ((Below.refl _ _).alloc (Nat.le_refl _) _).trans (hbq0.mono (by omega))
    have hsz : w.heap.size + 1 ≤ wr.heap.size := by have := hbq0.size; simpa using this
    obtain ⟨b0, b1, b2⟩ := box1 hbq0
    have HB0 := hide hbq0
    have HBQ := hide hbq
    have HROW := hide hrow
    have hal := hrow.len
    by_cases hlt2 : k < ks.length
    · obtain ⟨ad, x, Ai, ci, rfl, hx, hbk, c0, c1, c2, hqx⟩ := ((unhid_ HQ).belowW (hbq.mono hB)).at_ (i := k) hlt2
      have gx : ks[k]? = some x := hx
      have hszx : szQ x ≤ szL ks := szL_mem (List.mem_of_getElem? gx)
      have hax : allA x = true := allL_mem (unhid_ HA) (List.mem_of_getElem? gx)
      have hmx : (ks.map parT)[k]? = some (parT x) := by rw [List.getElem?_map, gx]; rfl
      have hxl := textF_len x
      obtain ⟨ox, nx, kx⟩ := x
      rw [szQ_mk] at hszx hxl
      simp only [QT.op, QT.n, QT.kids] at c0 c1 c2
      have hkI : (k : Int) < ks.length := by omega
      have hbn : (ad.add (k * 3)).block < wr.heap.size := by omega
      have hW := (unhid_ HIH) wr B0 B ox nx kx Ai ci (by omega) (by omega) hax hqx (by omega)
      obtain ⟨X, hX⟩ : ∃ X, X = textF (.mk ox nx kx) := ⟨_, rfl⟩
      rw [← hX] at hW hxl
      have HX := Lib.hid hX
      have HMX := Lib.hid hmx
      have HW := hide hW
      obtain ⟨T0, hT0⟩ : ∃ x, x = bytesB acc := ⟨_, rfl⟩
      obtain ⟨TX, hTX⟩ : ∃ x, x = bytesB X := ⟨_, rfl⟩
      rw [← hT0]
      have HTX := Lib.hid hTX
      rcases Nat.eq_zero_or_pos k with h0 | hk0
      · subst h0
        rw [show ad.add (0 * 3) = ad from rfl] at c0 c1 c2 hbn
        by_cases h6 : ox = 6
        · subst h6
          obtain ⟨T2, hT2⟩ : ∃ x, x = bytesB (acc ++ [40]) := ⟨_, rfl⟩
          have aT2 : ∀ W : World, (Op.stringOp .add T0 ⟨#[40]⟩).run Tryd.prog W = .ok (.string T2) W := fun W => by rw [hT2, hT0]; exact run_add_l W (acc) ([40]) (by (try simp only [List.length_append, List.length_cons, List.length_nil]); omega) (by decide)
          have HT2 := Lib.hid hT2
          obtain ⟨T3, hT3⟩ : ∃ x, x = bytesB (acc ++ [40] ++ X) := ⟨_, rfl⟩
          have aT3 : ∀ W : World, (Op.stringOp .add T2 TX).run Tryd.prog W = .ok (.string T3) W := fun W => by rw [hT3, hT2, hTX]; exact run_add_l W (acc ++ [40]) (X) (by (try simp only [List.length_append, List.length_cons, List.length_nil]); omega) (by (try simp only [List.length_append, List.length_cons, List.length_nil]); omega)
          have HT3 := Lib.hid hT3
          obtain ⟨T4, hT4⟩ : ∃ x, x = bytesB (acc ++ [40] ++ X ++ [41]) := ⟨_, rfl⟩
          have aT4 : ∀ W : World, (Op.stringOp .add T3 ⟨#[41]⟩).run Tryd.prog W = .ok (.string T4) W := fun W => by rw [hT4, hT3]; exact run_add_l W (acc ++ [40] ++ X) ([41]) (by (try simp only [List.length_append, List.length_cons, List.length_nil]); omega) (by decide)
          have HT4 := Lib.hid hT4
          clear hW hX hx gx hqx hax hmx hbq hbq0 hrow hT0 hTX hT2 hT3 hT4
          go_wp2_with fail
          refine (unhid_ HW).mono ?_
          rintro e w' ⟨rfl, hb'⟩
          rw [← HTX.out]
          have HB' := hide ((unhid_ HB0).trans (hb'.mono hsz))
          clear hb'
          go_wp2
          go_roundw
          case rel => exact ⟨1, acc ++ (40 :: (X ++ [41])), by omega, by go_num, by rw [HT4.out]; simp, (unhid_ HROW).first (x := 40 :: (X ++ [41])) (by rw [HMX.out, parT_6, HX.out, parens]), unhid_ HB'⟩
          case measure => simp [intOf]; omega
        · have f6 : (ox == 6) = false := by rw [beq_eq_false_iff_ne]; exact h6
          have h6h := hide h6
          obtain ⟨T2, hT2⟩ : ∃ x, x = bytesB (acc ++ X) := ⟨_, rfl⟩
          have aT2 : ∀ W : World, (Op.stringOp .add T0 TX).run Tryd.prog W = .ok (.string T2) W := fun W => by rw [hT2, hT0, hTX]; exact run_add_l W (acc) (X) (by (try simp only [List.length_append, List.length_cons, List.length_nil]); omega) (by (try simp only [List.length_append, List.length_cons, List.length_nil]); omega)
          have HT2 := Lib.hid hT2
          clear hW hX hx gx hqx hax hmx hbq hbq0 hrow hT0 hTX hT2 h6
          go_wp2_with fail
          refine (unhid_ HW).mono ?_
          rintro e w' ⟨rfl, hb'⟩
          rw [← HTX.out]
          have HB' := hide ((unhid_ HB0).trans (hb'.mono hsz))
          clear hb'
          go_wp2
          go_roundw
          case rel => exact ⟨1, acc ++ X, by omega, by go_num, by rw [HT2.out], (unhid_ HROW).first (x := X) (by rw [HMX.out, parT_ne (unhid_ h6h), HX.out]), unhid_ HB'⟩
          case measure => simp [intOf]; omega
      · have h0I : (0 : Int) < k := by omega
        obtain ⟨T1, hT1⟩ : ∃ x, x = bytesB (acc ++ [59]) := ⟨_, rfl⟩
        have aT1 : ∀ W : World, (Op.stringOp .add T0 ⟨#[59]⟩).run Tryd.prog W = .ok (.string T1) W := fun W => by rw [hT1, hT0]; exact run_add_l W (acc) ([59]) (by (try simp only [List.length_append, List.length_cons, List.length_nil]); omega) (by decide)
        have HT1 := Lib.hid hT1
        by_cases h6 : ox = 6
        · subst h6
          obtain ⟨T2, hT2⟩ : ∃ x, x = bytesB (acc ++ [59] ++ [40]) := ⟨_, rfl⟩
          have aT2 : ∀ W : World, (Op.stringOp .add T1 ⟨#[40]⟩).run Tryd.prog W = .ok (.string T2) W := fun W => by rw [hT2, hT1]; exact run_add_l W (acc ++ [59]) ([40]) (by (try simp only [List.length_append, List.length_cons, List.length_nil]); omega) (by decide)
          have HT2 := Lib.hid hT2
          obtain ⟨T3, hT3⟩ : ∃ x, x = bytesB (acc ++ [59] ++ [40] ++ X) := ⟨_, rfl⟩
          have aT3 : ∀ W : World, (Op.stringOp .add T2 TX).run Tryd.prog W = .ok (.string T3) W := fun W => by rw [hT3, hT2, hTX]; exact run_add_l W (acc ++ [59] ++ [40]) (X) (by (try simp only [List.length_append, List.length_cons, List.length_nil]); omega) (by (try simp only [List.length_append, List.length_cons, List.length_nil]); omega)
          have HT3 := Lib.hid hT3
          obtain ⟨T4, hT4⟩ : ∃ x, x = bytesB (acc ++ [59] ++ [40] ++ X ++ [41]) := ⟨_, rfl⟩
          have aT4 : ∀ W : World, (Op.stringOp .add T3 ⟨#[41]⟩).run Tryd.prog W = .ok (.string T4) W := fun W => by rw [hT4, hT3]; exact run_add_l W (acc ++ [59] ++ [40] ++ X) ([41]) (by (try simp only [List.length_append, List.length_cons, List.length_nil]); omega) (by decide)
          have HT4 := Lib.hid hT4
          clear hW hX hx gx hqx hax hmx hbq hbq0 hrow hT0 hTX hT2 hT3 hT4 hT1
          go_wp2_with fail
          refine (unhid_ HW).mono ?_
          rintro e w' ⟨rfl, hb'⟩
          rw [← HTX.out]
          have HB' := hide ((unhid_ HB0).trans (hb'.mono hsz))
          clear hb'
          go_wp2
          go_roundw
          case rel => exact ⟨k + 1, acc ++ [59] ++ (40 :: (X ++ [41])), by omega, by go_num, by rw [HT4.out]; simp, (unhid_ HROW).next (x := 40 :: (X ++ [41])) hk0 (by rw [HMX.out, parT_6, HX.out, parens]), unhid_ HB'⟩
          case measure => simp [intOf]; omega
        · have f6 : (ox == 6) = false := by rw [beq_eq_false_iff_ne]; exact h6
          have h6h := hide h6
          obtain ⟨T2, hT2⟩ : ∃ x, x = bytesB (acc ++ [59] ++ X) := ⟨_, rfl⟩
          have aT2 : ∀ W : World, (Op.stringOp .add T1 TX).run Tryd.prog W = .ok (.string T2) W := fun W => by rw [hT2, hT1, hTX]; exact run_add_l W (acc ++ [59]) (X) (by (try simp only [List.length_append, List.length_cons, List.length_nil]); omega) (by (try simp only [List.length_append, List.length_cons, List.length_nil]); omega)
          have HT2 := Lib.hid hT2
          clear hW hX hx gx hqx hax hmx hbq hbq0 hrow hT0 hTX hT2 h6 hT1
          go_wp2_with fail
          refine (unhid_ HW).mono ?_
          rintro e w' ⟨rfl, hb'⟩
          rw [← HTX.out]
          have HB' := hide ((unhid_ HB0).trans (hb'.mono hsz))
          clear hb'
          go_wp2
          go_roundw
          case rel => exact ⟨k + 1, acc ++ [59] ++ X, by omega, by go_num, by rw [HT2.out], (unhid_ HROW).next (x := X) hk0 (by rw [HMX.out, parT_ne (unhid_ h6h), HX.out]), unhid_ HB'⟩
          case measure => simp [intOf]; omega
    · obtain rfl : k = ks.length := by omega
      have hall := hrow.all (by omega) (by rw [List.length_map]; exact Nat.le_refl _)
      have HALL := Lib.hid hall
      clear hall hrow hbq hbq0
      go_wp2
      go_ret
      exact strB_mk (by rw [HF.out, HALL.out]) (unhid_ HBQ)

set_option maxRecDepth 100000 in
set_option maxHeartbeats 4000000 in
theorem rtext_6 (N : Nat) (ih : RTextAt N) (w : World) (B0 B : Nat) (n : Int) (ks : List QT) (A : Option Addr) (c : Nat) (h2 : 2 ≤ ks.length) (hN : szL ks < N + 1) (hS : szL ks ≤ 1000) (ha : allL ks = true) (hq : RQ w B0 B (.mk 6 n ks) A c) (hB : B ≤ w.heap.size) :
    Calls Tryd.prog 12 #[.agg #[.int .i64 6, .int .i64 n, .slice A ks.length c]] w (StrB (textF (.mk 6 n ks)) w) := by
  have hf : textF (.mk 6 n ks) = Lib.join (ks.map textF) [124] := by rw [← orTexts_map, textF_mk]; rfl
  have hlt := orTexts_len ks
  have hjl := join_lensT (orTexts ks) 124
  rw [orTexts_map] at hlt hjl
  have HF := Lib.hid hf
  have HA := hide ha
  have HIH := hide ih
  have hcap := hq.cap
  have hlc : ks.length ≤ 9223372036854775807 := by have := hcap.1; have := hcap.2; simp only [QT.kids, maxLen] at *; omega
  have hkl := kids_len ks
  have HQ := hide hq
  clear hf ha ih hcap hq
  go_enter Tryd.func12, Tryd.ntmps12
  go_wp2_with fail
  go_loopw [4, 5] (fun v s wr => ∃ (k : Nat) (acc : List UInt8), k ≤ ks.length ∧ s = .int .i64 k ∧ v = .string (bytesB acc) ∧ RowT 124 (ks.map textF) k acc ∧ Below (w.heap.size + 1) (w.alloc (.cells #[.int .i64 6, .int .i64 n, .slice A ks.length c] stepT)) wr) (fun _ s _ => ks.length - (intOf s).toNat)
  case atStart => exact ⟨0, [], Nat.zero_le _, rfl, rfl, .inl ⟨rfl, rfl⟩, by simpa using Below.refl (w.heap.size + 1) (w.alloc (.cells #[.int .i64 6, .int .i64 n, .slice A ks.length c] stepT))⟩
  case round =>
    obtain ⟨k, acc, hk, rfl, rfl, hrow, hbq0⟩ := hrel
    have hbq : Below w.heap.size w wr := ((Below.refl _ _).alloc (Nat.le_refl _) _).trans (hbq0.mono (by omega))
    have hsz : w.heap.size + 1 ≤ wr.heap.size := by have := hbq0.size; simpa using this
    obtain ⟨b0, b1, b2⟩ := box1 hbq0
    have HB0 := hide hbq0
    have HBQ := hide hbq
    have HROW := hide hrow
    have hal := hrow.len
    by_cases hlt2 : k < ks.length
    · obtain ⟨ad, x, Ai, ci, rfl, hx, hbk, c0, c1, c2, hqx⟩ := ((unhid_ HQ).belowW (hbq.mono hB)).at_ (i := k) hlt2
      have gx : ks[k]? = some x := hx
      have hszx : szQ x ≤ szL ks := szL_mem (List.mem_of_getElem? gx)
      have hax : allA x = true := allL_mem (unhid_ HA) (List.mem_of_getElem? gx)
      have hmx : (ks.map textF)[k]? = some (textF x) := by rw [List.getElem?_map, gx]; rfl
      have hxl := textF_len x
      obtain ⟨ox, nx, kx⟩ := x
      rw [szQ_mk] at hszx hxl
      simp only [QT.op, QT.n, QT.kids] at c0 c1 c2
      have hkI : (k : Int) < ks.length := by omega
      have hbn : (ad.add (k * 3)).block < wr.heap.size := by omega
      have hW := (unhid_ HIH) wr B0 B ox nx kx Ai ci (by omega) (by omega) hax hqx (by omega)
      obtain ⟨X, hX⟩ : ∃ X, X = textF (.mk ox nx kx) := ⟨_, rfl⟩
      rw [← hX] at hW hxl
      have HX := Lib.hid hX
      have HMX := Lib.hid hmx
      have HW := hide hW
      obtain ⟨T0, hT0⟩ : ∃ x, x = bytesB acc := ⟨_, rfl⟩
      obtain ⟨TX, hTX⟩ : ∃ x, x = bytesB X := ⟨_, rfl⟩
      rw [← hT0]
      have HTX := Lib.hid hTX
      rcases Nat.eq_zero_or_pos k with h0 | hk0
      · subst h0
        rw [show ad.add (0 * 3) = ad from rfl] at c0 c1 c2 hbn
        obtain ⟨T2, hT2⟩ : ∃ x, x = bytesB (acc ++ X) := ⟨_, rfl⟩
        have aT2 : ∀ W : World, (Op.stringOp .add T0 TX).run Tryd.prog W = .ok (.string T2) W := fun W => by rw [hT2, hT0, hTX]; exact run_add_l W (acc) (X) (by (try simp only [List.length_append, List.length_cons, List.length_nil]); omega) (by (try simp only [List.length_append, List.length_cons, List.length_nil]); omega)
        have HT2 := Lib.hid hT2
        clear hW hX hx gx hqx hax hmx hbq hbq0 hrow hT0 hTX hT2
        go_wp2_with fail
        refine (unhid_ HW).mono ?_
        rintro e w' ⟨rfl, hb'⟩
        rw [← HTX.out]
        have HB' := hide ((unhid_ HB0).trans (hb'.mono hsz))
        clear hb'
        go_wp2
        go_roundw
        case rel => exact ⟨1, acc ++ X, by omega, by go_num, by rw [HT2.out], (unhid_ HROW).first (x := X) (by rw [HMX.out, HX.out]), unhid_ HB'⟩
        case measure => simp [intOf]; omega
      · have h0I : (0 : Int) < k := by omega
        obtain ⟨T1, hT1⟩ : ∃ x, x = bytesB (acc ++ [124]) := ⟨_, rfl⟩
        have aT1 : ∀ W : World, (Op.stringOp .add T0 ⟨#[124]⟩).run Tryd.prog W = .ok (.string T1) W := fun W => by rw [hT1, hT0]; exact run_add_l W (acc) ([124]) (by (try simp only [List.length_append, List.length_cons, List.length_nil]); omega) (by decide)
        have HT1 := Lib.hid hT1
        obtain ⟨T2, hT2⟩ : ∃ x, x = bytesB (acc ++ [124] ++ X) := ⟨_, rfl⟩
        have aT2 : ∀ W : World, (Op.stringOp .add T1 TX).run Tryd.prog W = .ok (.string T2) W := fun W => by rw [hT2, hT1, hTX]; exact run_add_l W (acc ++ [124]) (X) (by (try simp only [List.length_append, List.length_cons, List.length_nil]); omega) (by (try simp only [List.length_append, List.length_cons, List.length_nil]); omega)
        have HT2 := Lib.hid hT2
        clear hW hX hx gx hqx hax hmx hbq hbq0 hrow hT0 hTX hT2 hT1
        go_wp2_with fail
        refine (unhid_ HW).mono ?_
        rintro e w' ⟨rfl, hb'⟩
        rw [← HTX.out]
        have HB' := hide ((unhid_ HB0).trans (hb'.mono hsz))
        clear hb'
        go_wp2
        go_roundw
        case rel => exact ⟨k + 1, acc ++ [124] ++ X, by omega, by go_num, by rw [HT2.out], (unhid_ HROW).next (x := X) hk0 (by rw [HMX.out, HX.out]), unhid_ HB'⟩
        case measure => simp [intOf]; omega
    · obtain rfl : k = ks.length := by omega
      have hall := hrow.all (by omega) (by rw [List.length_map]; exact Nat.le_refl _)
      have HALL := Lib.hid hall
      clear hall hrow hbq hbq0
      go_wp2
      go_ret
      exact strB_mk (by rw [HF.out, HALL.out]) (unhid_ HBQ)

theorem rtext_any : ∀ N, RTextAt N
  | 0 => fun w B0 B o n ks A c h => absurd h (Nat.not_lt_zero _)
  | N + 1 => by
    intro w B0 B o n ks A c hN hS ha hq hB
    rw [allA_mk, Bool.and_eq_true] at ha
    rcases alone_op ha.1 with (rfl | rfl | rfl) | ⟨rfl, h1, h2⟩ | ⟨rfl, h1, h2⟩ | ⟨rfl, h1⟩ | ⟨rfl | rfl, h1⟩
    · exact rtext_1 w n ks A c
    · exact rtext_2 w n ks A c
    · exact rtext_8 w n ks A c
    · exact rtext_3 w n ks A c (by omega) (by omega)
    · exact rtext_4 w n ks A c (by omega) (by omega)
    · obtain ⟨q, rfl⟩ := List.length_eq_one_iff.1 h1
      exact rtext_5 N (rtext_any N) w B0 B n q A c hN hS ha.2 hq hB
    · exact rtext_6 N (rtext_any N) w B0 B n ks A c h1 hN hS ha.2 hq hB
    · exact rtext_7 N (rtext_any N) w B0 B n ks A c h1 hN hS ha.2 hq hB
end Go.Proofs.YthlnaejmglajeaaDoor
