/- The walk of ask's text, Text. -/
import Derived.Test.YthlnaejmglajeaaDoorAText
namespace Go.Proofs.YthlnaejmglajeaaDoor
open Go.RowKit
set_option linter.unusedSimpArgs false
set_option linter.unusedVariables false

theorem join_tail_lens (xs : List (List UInt8)) (k : List (List UInt8)) : lensT (xs ++ k) = lensT xs + lensT k := by simp only [lensT, List.map_append, List.sum_append]
theorem box1 {w w1 : World} {a0 a1 a2 : Value} {T : TypeId} (h : Below (w.heap.size + 1) (w.alloc (.cells #[a0, a1, a2] T)) w1) :
    w1.cell? ⟨w.heap.size, 0, none⟩ = some a0 ∧ w1.cell? ⟨w.heap.size, 1, none⟩ = some a1 ∧ w1.cell? ⟨w.heap.size, 2, none⟩ = some a2 := by
  refine ⟨?_, ?_, ?_⟩
  · rw [h.cell (p := ⟨w.heap.size, 0, none⟩) (by simp)]; exact (Blk.new w _ _).cell 0
  · rw [h.cell (p := ⟨w.heap.size, 1, none⟩) (by simp)]; exact (Blk.new w _ _).cell 1
  · rw [h.cell (p := ⟨w.heap.size, 2, none⟩) (by simp)]; exact (Blk.new w _ _).cell 2
theorem map_bytesB_data (l : List (List UInt8)) : (l.map bytesB).map (fun x => x.data.toList) = l := by
  rw [List.map_map]
  conv => rhs; rw [← List.map_id l]
  rfl
theorem kids_len : ∀ ks : List QT, ks.length ≤ szL ks
  | [] => Nat.zero_le _
  | k :: ks => by
    have h := kids_len ks
    obtain ⟨o, n, l⟩ := k
    rw [szL_cons, szQ_mk, List.length_cons]
    omega

set_option maxHeartbeats 1000000 in
theorem text_1 (w : World) (n : Int) (ks : List QT) (A : Option Addr) (c : Nat) :
    Calls Tryd.prog 19 #[.agg #[.int .i64 1, .int .i64 n, .slice A ks.length c]] w (StrB (textF (.mk 1 n ks)) w) := by
  have HF := Lib.hid (show textF (.mk 1 n ks) = wUp by rw [textF_mk]; rfl)
  go_enter Tryd.func19, Tryd.ntmps19
  go_wp2
  go_ret
  exact strB_mk (by rw [HF.out]; rfl) ((Below.refl _ _).alloc (Nat.le_refl _) _)

set_option maxHeartbeats 1000000 in
theorem text_2 (w : World) (n : Int) (ks : List QT) (A : Option Addr) (c : Nat) :
    Calls Tryd.prog 19 #[.agg #[.int .i64 2, .int .i64 n, .slice A ks.length c]] w (StrB (textF (.mk 2 n ks)) w) := by
  have HF := Lib.hid (show textF (.mk 2 n ks) = wDown by rw [textF_mk]; rfl)
  go_enter Tryd.func19, Tryd.ntmps19
  go_wp2
  go_ret
  exact strB_mk (by rw [HF.out]; rfl) ((Below.refl _ _).alloc (Nat.le_refl _) _)

set_option maxHeartbeats 1000000 in
theorem text_8 (w : World) (n : Int) (ks : List QT) (A : Option Addr) (c : Nat) :
    Calls Tryd.prog 19 #[.agg #[.int .i64 8, .int .i64 n, .slice A ks.length c]] w (StrB (textF (.mk 8 n ks)) w) := by
  have HF := Lib.hid (show textF (.mk 8 n ks) = wLive by rw [textF_mk]; rfl)
  go_enter Tryd.func19, Tryd.ntmps19
  go_wp2
  go_ret
  exact strB_mk (by rw [HF.out]; rfl) ((Below.refl _ _).alloc (Nat.le_refl _) _)

set_option maxHeartbeats 1000000 in
theorem text_3 (w : World) (n : Int) (ks : List QT) (A : Option Addr) (c : Nat) (h0 : 0 ≤ n) (h1 : n < 100) :
    Calls Tryd.prog 19 #[.agg #[.int .i64 3, .int .i64 n, .slice A ks.length c]] w (StrB (textF (.mk 3 n ks)) w) := by
  obtain ⟨i, rfl⟩ := Int.eq_ofNat_of_zero_le h0
  have hd := digits2 i (by omega)
  have HI := Tryd.strconv_Itoa_small i (by omega)
  rw [hd] at HI
  have hl := dig2_len (i : Int)
  have hf : textF (.mk 3 (i : Int) ks) = wKind ++ parens (dig2 (i : Int)) := by rw [textF_mk]; rfl
  obtain ⟨D, hD⟩ : ∃ D, D = dig2 (i : Int) := ⟨_, rfl⟩
  rw [← hD] at HI hl hf
  have HI2 := hide HI
  have HF := Lib.hid hf
  have a1 : ∀ W : World, (Op.stringOp .add ⟨#[107, 105, 110, 100, 40]⟩ ⟨D.toArray⟩).run Tryd.prog W = .ok (.string (bytesB ([107, 105, 110, 100, 40] ++ D))) W := fun W => run_add_l W [107, 105, 110, 100, 40] D (by decide) (by omega)
  have a2 : ∀ W : World, (Op.stringOp .add (bytesB ([107, 105, 110, 100, 40] ++ D)) ⟨#[41]⟩).run Tryd.prog W = .ok (.string (bytesB ([107, 105, 110, 100, 40] ++ D ++ [41]))) W := fun W => run_add_l W _ [41] (by simp; omega) (by decide)
  obtain ⟨T1, hT1⟩ : ∃ T1, T1 = bytesB ([107, 105, 110, 100, 40] ++ D) := ⟨_, rfl⟩
  obtain ⟨T2, hT2⟩ : ∃ T2, T2 = bytesB ([107, 105, 110, 100, 40] ++ D ++ [41]) := ⟨_, rfl⟩
  rw [← hT1, ] at a1 a2
  rw [← hT2] at a2
  have HT2 := Lib.hid hT2
  clear HI hd hD hf hT1 hT2
  go_enter Tryd.func19, Tryd.ntmps19
  go_wp2_with fail
  refine ((unhid_ HI2) _).mono ?_
  rintro e w' ⟨rfl, rfl⟩
  go_wp2
  go_ret
  exact strB_mk (by rw [HF.out, HT2.out]; rfl) ((Below.refl _ _).alloc (Nat.le_refl _) _)

set_option maxHeartbeats 1000000 in
theorem text_4 (w : World) (n : Int) (ks : List QT) (A : Option Addr) (c : Nat) (h0 : 0 ≤ n) (h1 : n < 100) :
    Calls Tryd.prog 19 #[.agg #[.int .i64 4, .int .i64 n, .slice A ks.length c]] w (StrB (textF (.mk 4 n ks)) w) := by
  obtain ⟨i, rfl⟩ := Int.eq_ofNat_of_zero_le h0
  have hd := digits2 i (by omega)
  have HI := Tryd.strconv_Itoa_small i (by omega)
  rw [hd] at HI
  have hl := dig2_len (i : Int)
  have hf : textF (.mk 4 (i : Int) ks) = wLabel ++ parens (dig2 (i : Int)) := by rw [textF_mk]; rfl
  obtain ⟨D, hD⟩ : ∃ D, D = dig2 (i : Int) := ⟨_, rfl⟩
  rw [← hD] at HI hl hf
  have HI2 := hide HI
  have HF := Lib.hid hf
  have a1 : ∀ W : World, (Op.stringOp .add ⟨#[108, 97, 98, 101, 108, 40]⟩ ⟨D.toArray⟩).run Tryd.prog W = .ok (.string (bytesB ([108, 97, 98, 101, 108, 40] ++ D))) W := fun W => run_add_l W [108, 97, 98, 101, 108, 40] D (by decide) (by omega)
  have a2 : ∀ W : World, (Op.stringOp .add (bytesB ([108, 97, 98, 101, 108, 40] ++ D)) ⟨#[41]⟩).run Tryd.prog W = .ok (.string (bytesB ([108, 97, 98, 101, 108, 40] ++ D ++ [41]))) W := fun W => run_add_l W _ [41] (by simp; omega) (by decide)
  obtain ⟨T1, hT1⟩ : ∃ T1, T1 = bytesB ([108, 97, 98, 101, 108, 40] ++ D) := ⟨_, rfl⟩
  obtain ⟨T2, hT2⟩ : ∃ T2, T2 = bytesB ([108, 97, 98, 101, 108, 40] ++ D ++ [41]) := ⟨_, rfl⟩
  rw [← hT1, ] at a1 a2
  rw [← hT2] at a2
  have HT2 := Lib.hid hT2
  clear HI hd hD hf hT1 hT2
  go_enter Tryd.func19, Tryd.ntmps19
  go_wp2_with fail
  refine ((unhid_ HI2) _).mono ?_
  rintro e w' ⟨rfl, rfl⟩
  go_wp2
  go_ret
  exact strB_mk (by rw [HF.out, HT2.out]; rfl) ((Below.refl _ _).alloc (Nat.le_refl _) _)

set_option maxHeartbeats 4000000 in
theorem text_5 (N : Nat) (ih : TextAt N) (w : World) (B0 B : Nat) (n : Int) (q : QT) (A : Option Addr) (c : Nat) (hN : szL [q] < N + 1) (hS : szL [q] ≤ 1000) (ha : allL [q] = true) (hq : RQ w B0 B (.mk 5 n [q]) A c) (hB : B ≤ w.heap.size) :
    Calls Tryd.prog 19 #[.agg #[.int .i64 5, .int .i64 n, .slice A 1 c]] w (StrB (textF (.mk 5 n [q])) w) := by
  have hf : textF (.mk 5 n [q]) = withinT [6, 7] q ++ [42] := by
    have e : textF (.mk 5 n [q]) = starText [q] := by rw [textF_mk]; rfl
    rw [e, starText_cons, withinT]
    congr 1
    by_cases h : q.op = 6 ∨ q.op = 7
    · rw [if_pos h, if_pos (by simpa using h)]
    · rw [if_neg h, if_neg (by simpa using h)]
  obtain ⟨ad, x, Ai, ci, rfl, hx, hbk, c0, c1, c2, hqx⟩ := hq.at_ (i := 0) (by show 0 < 1; decide)
  have gx : [q][0]? = some x := hx
  simp only [List.getElem?_cons_zero, Option.some.injEq] at gx
  subst gx
  have hsz : szQ q ≤ szL [q] := szL_mem (by simp)
  have hax : allA q = true := allL_mem ha (by simp)
  have hlen := textF_len q
  have hwl : (withinT [6, 7] q).length ≤ 12 * szQ q := by
    rw [withinT]
    split
    · rw [parens_len]; omega
    · omega
  obtain ⟨o', n', ks'⟩ := q
  rw [szQ_mk] at hsz hlen hwl
  simp only [QT.op, QT.n, QT.kids] at c0 c1 c2
  have hw2 : Below w.heap.size w ((w.alloc (.cells #[.int .i64 5, .int .i64 n, .slice (some ad) 1 c] 24)).alloc (.cells #[.int .i64 6, .int .i64 7] 3)) := ((Below.refl _ _).alloc (Nat.le_refl _) _).alloc (by simp) _
  have hW := within_any N ih _ B0 B o' n' ks' Ai ci (w.heap.size + 1) [6, 7] (by omega) (by omega) hax (hqx.belowW (hw2.mono hB)) (by simp; omega) (by simp) (by decide) (fun j hj => by
    have e := (Blk.new (w.alloc (.cells #[.int .i64 5, .int .i64 n, .slice (some ad) 1 c] 24)) 3 #[.int .i64 6, .int .i64 7]).cell (0 + j)
    rw [World.size_alloc] at e
    rw [e]
    match j, hj with
    | 0, _ => rfl
    | 1, _ => rfl)
  have HW := hide hW
  have hbn : (ad.add (0 * 3)).block < w.heap.size := by omega
  rw [show ad.add (0 * 3) = ad from rfl] at c0 c1 c2 hbn
  obtain ⟨T, hT⟩ : ∃ T, T = withinT [6, 7] (.mk o' n' ks') := ⟨_, rfl⟩
  have HF := Lib.hid hf
  have HW2 := hide hw2
  rw [← hT] at hwl
  have HW3 : Hid (Calls Tryd.prog 26 #[.agg #[.int .i64 o', .int .i64 n', .slice Ai ks'.length ci], .slice (some ⟨w.heap.size + 1, 0, none⟩) 2 2] ((w.alloc (.cells #[.int .i64 5, .int .i64 n, .slice (some ad) 1 c] 24)).alloc (.cells #[.int .i64 6, .int .i64 7] 3)) (StrB T ((w.alloc (.cells #[.int .i64 5, .int .i64 n, .slice (some ad) 1 c] 24)).alloc (.cells #[.int .i64 6, .int .i64 7] 3)))) := by rw [hT]; exact HW
  have HT := Lib.hid hT
  have a1 : ∀ W : World, (Op.stringOp .add (bytesB T) ⟨#[42]⟩).run Tryd.prog W = .ok (.string (bytesB (T ++ [42]))) W := fun W => run_add_l W T [42] (by omega) (by decide)
  clear hW HW hT hf hq hqx hw2 ih ha hax hlen hx
  go_enter Tryd.func19, Tryd.ntmps19
  go_wp2_with fail
  refine (unhid_ HW3).mono ?_
  rintro e w' ⟨rfl, hb'⟩
  have HB := hide ((unhid_ HW2).trans (hb'.mono (unhid_ HW2).size))
  clear hb'
  go_wp2
  go_ret
  exact strB_mk (by rw [HF.out, HT.out]) (unhid_ HB)

set_option maxRecDepth 100000 in
set_option maxHeartbeats 8000000 in
theorem text_7 (N : Nat) (ih : TextAt N) (w : World) (B0 B : Nat) (n : Int) (ks : List QT) (A : Option Addr) (c : Nat) (h2 : 2 ≤ ks.length) (hN : szL ks < N + 1) (hS : szL ks ≤ 1000) (ha : allL ks = true) (hq : RQ w B0 B (.mk 7 n ks) A c) (hB : B ≤ w.heap.size) :
    Calls Tryd.prog 19 #[.agg #[.int .i64 7, .int .i64 n, .slice A ks.length c]] w (StrB (textF (.mk 7 n ks)) w) := by
  have hf : textF (.mk 7 n ks) = Lib.join (thenTexts ks) [59] := by rw [textF_mk]; rfl
  have hlt := thenTexts_len ks
  have hjl := join_lensT (thenTexts ks) 59
  have HF := Lib.hid hf
  have HA := hide ha
  have HIH := hide ih
  have hcap := hq.cap
  have hlc : ks.length ≤ 9223372036854775807 := by have := hcap.1; have := hcap.2; simp only [QT.kids, maxLen] at *; omega
  have hkl := kids_len ks
  have HQ := hide hq
  obtain ⟨i0, hi0, hz0, hz1, hz2⟩ := info_parts info_str
  have hI0 := Lib.hid hi0
  clear hf ha ih hcap hq hi0
  go_enter Tryd.func19, Tryd.ntmps19
  go_wp2_with fail
  go_loopw [3, 44] (fun v s wr => ∃ (k : Nat) (acc : List (List UInt8)), k ≤ ks.length ∧ s = .int .i64 k ∧ acc.length = k ∧ thenTexts ks = acc ++ thenTexts (ks.drop k) ∧ wr.ownsRow (w.heap.size + 1) 9 1 v k ((acc.map bytesB).map Value.string) ∧ Below (w.heap.size + 1) (w.alloc (.cells #[.int .i64 7, .int .i64 n, .slice A ks.length c] 24)) wr) (fun _ s _ => ks.length - (intOf s).toNat)
  case atStart => exact ⟨0, [], Nat.zero_le _, rfl, rfl, rfl, World.ownsRow_nil _ _ _ _, by simpa using Below.refl (w.heap.size + 1) (w.alloc (.cells #[.int .i64 7, .int .i64 n, .slice A ks.length c] 24))⟩
  case round =>
    obtain ⟨k, acc, hk, rfl, hacc, hto, hown, hbq0⟩ := hrel
    have hbq : Below w.heap.size w wr := ((Below.refl _ _).alloc (Nat.le_refl _) _).trans (hbq0.mono (by omega))
    have hsz : w.heap.size + 1 ≤ wr.heap.size := by have := hbq0.size; simpa using this
    obtain ⟨b0, b1, b2⟩ := box1 hbq0
    have HB0 := hide hbq0
    have HBQ := hide hbq
    have HOWN := hide hown
    have HACC := Lib.hid hacc
    have HTO := Lib.hid hto
    by_cases hlt : k < ks.length
    · obtain ⟨ad, x, Ai, ci, rfl, hx, hbk, c0, c1, c2, hqx⟩ := ((unhid_ HQ).belowW (hbq.mono hB)).at_ (i := k) hlt
      have gx : ks[k]? = some x := hx
      have hd : ks.drop k = x :: ks.drop (k + 1) := by
        rw [List.drop_eq_getElem_cons hlt, ← (List.getElem?_eq_some_iff.1 gx).2]
      have hszx : szQ x ≤ szL ks := szL_mem (List.mem_of_getElem? gx)
      have hax : allA x = true := allL_mem (unhid_ HA) (List.mem_of_getElem? gx)
      have hit : thenTexts ks = (acc ++ [withinT [6] x]) ++ thenTexts (ks.drop (k + 1)) := by
        rw [hto, hd, thenTexts_cons, List.append_assoc]
        congr 2
        rw [withinT]
        by_cases h : x.op = 6
        · rw [if_pos h, if_pos (by simpa using h)]
        · rw [if_neg h, if_neg (by simpa using h)]
      obtain ⟨T, hT⟩ : ∃ T, T = withinT [6] x := ⟨_, rfl⟩
      rw [← hT] at hit
      have HIT := Lib.hid hit
      obtain ⟨ox, nx, kx⟩ := x
      rw [szQ_mk] at hszx
      simp only [QT.op, QT.n, QT.kids] at c0 c1 c2
      have hkI : (k : Int) < ks.length := by omega
      have hbn : (ad.add (k * 3)).block < wr.heap.size := by omega
      have hw2 : Below wr.heap.size wr ((wr.alloc (.cells #[.int .i64 ox, .int .i64 nx, .slice Ai kx.length ci] 24)).alloc (.cells #[.int .i64 6] 3)) := ((Below.refl _ _).alloc (Nat.le_refl _) _).alloc (by simp) _
      have hW := within_any N (unhid_ HIH) _ B0 B ox nx kx Ai ci (wr.heap.size + 1) [6] (by omega) (by omega) hax (hqx.belowW (hw2.mono (by omega))) (by simp; omega) (by simp) (by decide) (fun j hj => by
        have e := (Blk.new (wr.alloc (.cells #[.int .i64 ox, .int .i64 nx, .slice Ai kx.length ci] 24)) 3 #[.int .i64 6]).cell (0 + j)
        rw [World.size_alloc] at e
        rw [e]
        match j, hj with
        | 0, _ => rfl)
      rw [← hT] at hW
      have HW := hide hW
      have HW2 := hide hw2
      clear hW hT hto hd hit hx gx hqx hax hown hbq hbq0 hw2
      go_wp2_with fail
      refine (unhid_ HW).mono ?_
      rintro e w' ⟨rfl, hb'⟩
      have hbw' : Below wr.heap.size wr w' := (unhid_ HW2).trans (hb'.mono (unhid_ HW2).size)
      have hown2 := own_only (unhid_ HOWN) (Only.of_below hbw' []) (by simp)
      have hzw' := hbw'.size
      have HB' := hide ((unhid_ HB0).trans (hbw'.mono (by omega)))
      have HBW' := hide hbw'
      clear hb' hbw'
      go_wp2_with (at_builtin; refine wpList_append_any _ rfl _ _ _ rfl (w.heap.size + 1) 9 i0 _ 1 16 Tryd.underlying50 hI0.out hz0 hz1 hz2 rfl (by omega) _ _ _ rfl (hown2.alloc _) (w'.heap.size + 1) (some ⟨w'.heap.size, 0, none⟩) 1 1 [.string (bytesB T)] rfl (Reads.one _ _ _) (by simp [Value.oneCell']) (by simp only [maxLen]; omega) (by omega) (by simp; omega) ?_; intro v1 w3 hown3 hg3 hat3)
      go_roundw
      case rel => exact ⟨k + 1, acc ++ [T], by omega, by go_num, by simp [HACC.out], HIT.out, by simpa using hown3, ((unhid_ HB').alloc (by omega) _).grown hg3 (by simp; omega) (fun g hg => (hown2.lt g hg).1)⟩
      case measure => simp [intOf]; omega
    · obtain rfl : k = ks.length := by omega
      rw [List.drop_length, thenTexts_nil, List.append_nil] at hto
      have hto2 := hto
      obtain ⟨A4, c4, rfl⟩ := own_slice hown
      have hal : (acc.map bytesB).length = ks.length := by rw [List.length_map, hacc]
      rw [← hal] at hown
      obtain ⟨g, hg0, hg, rfl, hgc, hcell⟩ := own_cells hown (by omega)
      have HJ := Tryd.strings_Join g 0 c4 (acc.map bytesB) ⟨#[59]⟩ wr hcell hg (by omega) (by omega) (by rw [map_bytesB_data, ← hto]; show (Lib.join (thenTexts ks) [59]).length ≤ _; omega)
      rw [map_bytesB_data, hal, ← hto] at HJ
      have HJ2 := hide HJ
      clear hcell hown hto hto2 HJ hal hbq hbq0
      go_wp2_with fail
      refine (unhid_ HJ2).mono ?_
      rintro e w' ⟨rfl, hb'⟩
      have HB' := hide ((unhid_ HBQ).trans (hb'.mono (by omega)))
      clear hb'
      go_wp2
      go_ret
      exact strB_mk (by rw [HF.out]; rfl) (unhid_ HB')

set_option maxRecDepth 100000 in
set_option maxHeartbeats 8000000 in
theorem text_6 (N : Nat) (ih : TextAt N) (w : World) (B0 B : Nat) (n : Int) (ks : List QT) (A : Option Addr) (c : Nat) (h2 : 2 ≤ ks.length) (hN : szL ks < N + 1) (hS : szL ks ≤ 1000) (ha : allL ks = true) (hq : RQ w B0 B (.mk 6 n ks) A c) (hB : B ≤ w.heap.size) :
    Calls Tryd.prog 19 #[.agg #[.int .i64 6, .int .i64 n, .slice A ks.length c]] w (StrB (textF (.mk 6 n ks)) w) := by
  have hf : textF (.mk 6 n ks) = Lib.join (orTexts ks) [124] := by rw [textF_mk]; rfl
  have hlt := orTexts_len ks
  have hjl := join_lensT (orTexts ks) 124
  have HF := Lib.hid hf
  have HA := hide ha
  have HIH := hide ih
  have hcap := hq.cap
  have hlc : ks.length ≤ 9223372036854775807 := by have := hcap.1; have := hcap.2; simp only [QT.kids, maxLen] at *; omega
  have hkl := kids_len ks
  have HQ := hide hq
  obtain ⟨i0, hi0, hz0, hz1, hz2⟩ := info_parts info_str
  have hI0 := Lib.hid hi0
  clear hf ha ih hcap hq hi0
  go_enter Tryd.func19, Tryd.ntmps19
  go_wp2_with fail
  go_loopw [3, 60] (fun v s wr => ∃ (k : Nat) (acc : List (List UInt8)), k ≤ ks.length ∧ s = .int .i64 k ∧ acc.length = k ∧ orTexts ks = acc ++ orTexts (ks.drop k) ∧ wr.ownsRow (w.heap.size + 1) 9 1 v k ((acc.map bytesB).map Value.string) ∧ Below (w.heap.size + 1) (w.alloc (.cells #[.int .i64 6, .int .i64 n, .slice A ks.length c] 24)) wr) (fun _ s _ => ks.length - (intOf s).toNat)
  case atStart => exact ⟨0, [], Nat.zero_le _, rfl, rfl, rfl, World.ownsRow_nil _ _ _ _, by simpa using Below.refl (w.heap.size + 1) (w.alloc (.cells #[.int .i64 6, .int .i64 n, .slice A ks.length c] 24))⟩
  case round =>
    obtain ⟨k, acc, hk, rfl, hacc, hto, hown, hbq0⟩ := hrel
    have hbq : Below w.heap.size w wr := ((Below.refl _ _).alloc (Nat.le_refl _) _).trans (hbq0.mono (by omega))
    have hsz : w.heap.size + 1 ≤ wr.heap.size := by have := hbq0.size; simpa using this
    obtain ⟨b0, b1, b2⟩ := box1 hbq0
    have HB0 := hide hbq0
    have HBQ := hide hbq
    have HOWN := hide hown
    have HACC := Lib.hid hacc
    have HTO := Lib.hid hto
    by_cases hlt : k < ks.length
    · obtain ⟨ad, x, Ai, ci, rfl, hx, hbk, c0, c1, c2, hqx⟩ := ((unhid_ HQ).belowW (hbq.mono hB)).at_ (i := k) hlt
      have gx : ks[k]? = some x := hx
      have hd : ks.drop k = x :: ks.drop (k + 1) := by
        rw [List.drop_eq_getElem_cons hlt, ← (List.getElem?_eq_some_iff.1 gx).2]
      have hszx : szQ x ≤ szL ks := szL_mem (List.mem_of_getElem? gx)
      have hax : allA x = true := allL_mem (unhid_ HA) (List.mem_of_getElem? gx)
      have hit : orTexts ks = (acc ++ [textF x]) ++ orTexts (ks.drop (k + 1)) := by
        rw [hto, hd, orTexts_cons, List.append_assoc]
        rfl
      obtain ⟨T, hT⟩ : ∃ T, T = textF x := ⟨_, rfl⟩
      rw [← hT] at hit
      have HIT := Lib.hid hit
      obtain ⟨ox, nx, kx⟩ := x
      rw [szQ_mk] at hszx
      simp only [QT.op, QT.n, QT.kids] at c0 c1 c2
      have hkI : (k : Int) < ks.length := by omega
      have hbn : (ad.add (k * 3)).block < wr.heap.size := by omega
      have hw2 : Below wr.heap.size wr (wr.alloc (.cells #[.int .i64 ox, .int .i64 nx, .slice Ai kx.length ci] 24)) := (Below.refl _ _).alloc (Nat.le_refl _) _
      have hW := (unhid_ HIH) _ B0 B ox nx kx Ai ci (by omega) (by omega) hax (hqx.belowW (hw2.mono (by omega))) (by simp; omega)
      rw [← hT] at hW
      have HW := hide hW
      have HW2 := hide hw2
      clear hW hT hto hd hit hx gx hqx hax hown hbq hbq0 hw2
      go_wp2_with fail
      refine (unhid_ HW).mono ?_
      rintro e w' ⟨rfl, hb'⟩
      have hbw' : Below wr.heap.size wr w' := (unhid_ HW2).trans (hb'.mono (unhid_ HW2).size)
      have hown2 := own_only (unhid_ HOWN) (Only.of_below hbw' []) (by simp)
      have hzw' := hbw'.size
      have HB' := hide ((unhid_ HB0).trans (hbw'.mono (by omega)))
      have HBW' := hide hbw'
      clear hb' hbw'
      go_wp2_with (at_builtin; refine wpList_append_any _ rfl _ _ _ rfl (w.heap.size + 1) 9 i0 _ 1 16 Tryd.underlying50 hI0.out hz0 hz1 hz2 rfl (by omega) _ _ _ rfl (hown2.alloc _) (w'.heap.size + 1) (some ⟨w'.heap.size, 0, none⟩) 1 1 [.string (bytesB T)] rfl (Reads.one _ _ _) (by simp [Value.oneCell']) (by simp only [maxLen]; omega) (by omega) (by simp; omega) ?_; intro v1 w3 hown3 hg3 hat3)
      go_roundw
      case rel => exact ⟨k + 1, acc ++ [T], by omega, by go_num, by simp [HACC.out], HIT.out, by simpa using hown3, ((unhid_ HB').alloc (by omega) _).grown hg3 (by simp; omega) (fun g hg => (hown2.lt g hg).1)⟩
      case measure => simp [intOf]; omega
    · obtain rfl : k = ks.length := by omega
      rw [List.drop_length, orTexts_nil, List.append_nil] at hto
      have hto2 := hto
      obtain ⟨A4, c4, rfl⟩ := own_slice hown
      have hal : (acc.map bytesB).length = ks.length := by rw [List.length_map, hacc]
      rw [← hal] at hown
      obtain ⟨g, hg0, hg, rfl, hgc, hcell⟩ := own_cells hown (by omega)
      have HJ := Tryd.strings_Join g 0 c4 (acc.map bytesB) ⟨#[124]⟩ wr hcell hg (by omega) (by omega) (by rw [map_bytesB_data, ← hto]; show (Lib.join (orTexts ks) [124]).length ≤ _; omega)
      rw [map_bytesB_data, hal, ← hto] at HJ
      have HJ2 := hide HJ
      clear hcell hown hto hto2 HJ hal hbq hbq0
      go_wp2_with fail
      refine (unhid_ HJ2).mono ?_
      rintro e w' ⟨rfl, hb'⟩
      have HB' := hide ((unhid_ HBQ).trans (hb'.mono (by omega)))
      clear hb'
      go_wp2
      go_ret
      exact strB_mk (by rw [HF.out]; rfl) (unhid_ HB')

theorem text_any : ∀ N, TextAt N
  | 0 => fun w B0 B o n ks A c h => absurd h (Nat.not_lt_zero _)
  | N + 1 => by
    intro w B0 B o n ks A c hN hS ha hq hB
    rw [allA_mk, Bool.and_eq_true] at ha
    rcases alone_op ha.1 with (rfl | rfl | rfl) | ⟨rfl, h1, h2⟩ | ⟨rfl, h1, h2⟩ | ⟨rfl, h1⟩ | ⟨rfl | rfl, h1⟩
    · exact text_1 w n ks A c
    · exact text_2 w n ks A c
    · exact text_8 w n ks A c
    · exact text_3 w n ks A c (by omega) (by omega)
    · exact text_4 w n ks A c (by omega) (by omega)
    · obtain ⟨q, rfl⟩ := List.length_eq_one_iff.1 h1
      exact text_5 N (text_any N) w B0 B n q A c hN hS ha.2 hq hB
    · exact text_6 N (text_any N) w B0 B n ks A c h1 hN hS ha.2 hq hB
    · exact text_7 N (text_any N) w B0 B n ks A c h1 hN hS ha.2 hq hB

set_option maxHeartbeats 1000000 in
theorem Text_any (w : World) (B0 B : Nat) (o n : Int) (ks : List QT) (A : Option Addr) (c : Nat) (hq : RQ w B0 B (.mk o n ks) A c) (hB : B ≤ w.heap.size) (hk : checkF (.mk o n ks) = true) :
    Calls Tryd.prog 11 #[.agg #[.int .i64 o, .int .i64 n, .slice A ks.length c]] w (StrB (textF (.mk o n ks)) w) := by
  obtain ⟨W0, hW0⟩ : ∃ W0, W0 = w.alloc (.cells #[.int .i64 o, .int .i64 n, .slice A ks.length c] 24) := ⟨_, rfl⟩
  have hbw : Below w.heap.size w W0 := by rw [hW0]; exact (Below.refl _ _).alloc (Nat.le_refl _) _
  have hz0 : W0.heap.size = w.heap.size + 1 := by rw [hW0]; simp
  have hca := check_all hk
  have hsz := hca.2
  rw [szQ_mk] at hsz
  have HC := hide (check_any W0 B0 B o n ks A c (hq.belowW (hbw.mono hB)) (by omega))
  rw [hk] at HC
  have HT := hide (fun (w1 : World) (hb : Below w.heap.size w w1) => text_any (szL ks + 1) w1 B0 B o n ks A c (by omega) (by omega) hca.1 (hq.belowW (hb.mono hB)) (by have := hb.size; omega))
  have HBX := hide (fun (w1 : World) (h : Below (w.heap.size + 1) W0 w1) => box1 (hW0 ▸ h))
  have HBW := hide hbw
  have HZ := Lib.hid hz0
  have HW0 := Lib.hid hW0
  clear hq hbw hz0 hW0 hk hca hsz
  go_enter Tryd.func11, Tryd.ntmps11
  go_wp2_with fail
  rw [← HW0.out]
  refine (unhid_ HC).mono ?_
  rintro e w1 ⟨rfl, hb1⟩
  have hb1' : Below (w.heap.size + 1) W0 w1 := by rw [← HZ.out]; exact hb1
  obtain ⟨c1, c2, c3⟩ := (unhid_ HBX) _ hb1'
  have HB1 := hide hb1'
  clear hb1 hb1' HW0
  go_wp2_with fail
  have hbw1 : Below w.heap.size w w1 := (unhid_ HBW).trans ((unhid_ HB1).mono (by omega))
  refine ((unhid_ HT) w1 hbw1).mono ?_
  rintro e w2 ⟨rfl, hb2⟩
  have HB2 := hide (hbw1.trans (hb2.mono hbw1.size))
  clear hb2 hbw1 c1 c2 c3
  go_wp2
  go_ret
  exact strB_mk rfl (unhid_ HB2)
end Go.Proofs.YthlnaejmglajeaaDoor
