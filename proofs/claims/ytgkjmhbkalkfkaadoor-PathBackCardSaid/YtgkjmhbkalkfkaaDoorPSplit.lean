/- The walk of path.Split. -/
import Derived.Test.YtgkjmhbkalkfkaaDoorPTexts
import Derived.Test.YtgkjmhbkalkfkaaDoorShelf
import Derived.Lib.SplitLaws
import Derived.WalkMore
import Derived.Deep.DeepCutAuto
namespace Go.Proofs.YtgkjmhbkalkfkaaDoor
open Go.RowKit
set_option linter.unusedSimpArgs false

def slash : ByteArray := ⟨#[47]⟩
def pieces (s : ByteArray) : List ByteArray := Lib.splitB slash 0 (Lib.countB s slash) s
def isNil (x : ByteArray) : Bool := x.toList == []
/-- the names among pieces, or none -/
def foldP : List ByteArray → List ByteArray → Option (List ByteArray)
  | acc, [] => some acc
  | acc, x :: xs => if isNil x = true then foldP acc xs else if nameOk x = true ∧ acc.length < 8 then foldP (acc ++ [x]) xs else none
def splitP (s : ByteArray) : Option (List ByteArray) := if s.size ≤ 120 ∧ Lib.hasPrefix s.data.toList [47] = true then foldP [] (pieces s) else none
/-- what Split answers -/
def SplitT (s : ByteArray) (w : World) (e : Ending) (w' : World) : Prop :=
  Below w.heap.size w w' ∧ ((splitP s = none ∧ e = .returned (.tuple #[.slice none 0 0, .bool false])) ∨
    ∃ A c l, splitP s = some l ∧ l.length ≤ 8 ∧ e = .returned (.tuple #[.slice A l.length c, .bool true]) ∧ w'.ownsRow w.heap.size 9 1 (.slice A l.length c) l.length (l.map Value.string))
theorem pieces_length (s : ByteArray) : (pieces s).length = Lib.countB s slash + 1 := Lib.splitB_all slash (by decide) 0 _ s rfl
theorem foldP_nil {acc xs : List ByteArray} {x : ByteArray} (h : isNil x = true) : foldP acc (x :: xs) = foldP acc xs := by rw [foldP, if_pos h]
theorem foldP_bad {acc xs : List ByteArray} {x : ByteArray} (h : isNil x = false) (hn : nameOk x = false ∨ 8 ≤ acc.length) : foldP acc (x :: xs) = none := by
  rw [foldP, if_neg (by simp [h]), if_neg]
  rintro ⟨h1, h2⟩
  rcases hn with hn | hn
  · rw [hn] at h1; cases h1
  · omega
theorem foldP_ok {acc xs : List ByteArray} {x : ByteArray} (h : isNil x = false) (hn : nameOk x = true) (hl : acc.length < 8) : foldP acc (x :: xs) = foldP (acc ++ [x]) xs := by
  rw [foldP, if_neg (by simp [h]), if_pos ⟨hn, hl⟩]

set_option maxHeartbeats 2000000 in
theorem split_any (s : ByteArray) (m : Int) (w : World) (hm : w.cell? ⟨0, 0, none⟩ = some (.int .i64 m)) (h63 : s.size ≤ 9223372036854775807) :
    Calls Tryd.prog 9 #[.string s] w (SplitT s w) := by
  obtain ⟨i0, hi0, hz0, hz1, hz2⟩ := info_parts info_str
  have hI0 := Lib.hid hi0
  clear hi0
  by_cases h1 : s.size ≤ 120
  · have h1I : (s.size : Int) ≤ 120 := by omega
    have HPX := hide (Tryd.strings_HasPrefix s slash w)
    have hd1 : decide ((120 : Int) < (s.size : Int)) = false := by simp; omega
    cases hp : Lib.hasPrefix s.data.toList [47] with
    | false =>
      have hs : splitP s = none := by rw [splitP, if_neg]; rintro ⟨_, h⟩; rw [hp] at h; cases h
      have HS := Lib.hid hs
      have HP := Lib.hid hp
      clear hs hp
      go_enter Tryd.func9, Tryd.ntmps9
      go_wp2_with fail
      go_step3
      go_upto_region 1 with (fail)
      go_cut [14] (fun s14 wx => s14 = .bool true ∧ wx = w)
      case first =>
        go_wp2_with fail
        refine (unhid_ HPX).mono ?_
        rintro e w' ⟨rfl, rfl⟩
        rw [show slash.data.toList = [47] from rfl, HP.out]
        go_wp2_with fail
        go_meet
        exact ⟨rfl, rfl⟩
      case rest =>
        obtain ⟨rfl, hwx⟩ := hcut
        have hwx2 := hwx.symm
        subst hwx2
        go_wp2
        try rw [Exit.noGoto_ret]
        go_ret2
        exact ⟨Below.refl _ _, .inl ⟨HS.out, rfl⟩⟩
    | true =>
      have hs : splitP s = foldP [] (pieces s) := by rw [splitP, if_pos ⟨h1, hp⟩]
      have HS := Lib.hid hs
      have HP := Lib.hid hp
      have HSP := hide (Tryd.strings_Split s slash m w (by omega) hm (by decide))
      clear hs hp hm
      go_enter Tryd.func9, Tryd.ntmps9
      go_wp2_with fail
      go_step3
      go_upto_region 1 with (fail)
      go_cut [14] (fun s14 wx => s14 = .bool false ∧ wx = w)
      case first =>
        go_wp2_with fail
        refine (unhid_ HPX).mono ?_
        rintro e w' ⟨rfl, rfl⟩
        rw [show slash.data.toList = [47] from rfl, HP.out]
        go_wp2_with fail
        go_meet
        exact ⟨rfl, rfl⟩
      case rest =>
        obtain ⟨rfl, hwx⟩ := hcut
        have hwx2 := hwx.symm
        subst hwx2
        go_wp2_with fail
        go_step3
        go_wp2_with fail
        refine (unhid_ HSP).mono ?_
        rintro e w1 ⟨rfl, hw1⟩
        have hb1 : Below w.heap.size w w1 := by rw [hw1]; exact (Below.refl _ _).alloc (Nat.le_refl _) _
        have hblk : Blk w1 w.heap.size 9 ((pieces s).map Value.string).toArray := by rw [hw1]; exact Blk.new _ _ _
        have hz1w : w1.heap.size = w.heap.size + 1 := by rw [hw1]; simp
        obtain ⟨P, hP⟩ : ∃ P, P = pieces s := ⟨_, rfl⟩
        have hPl : P.length = Lib.countB s slash + 1 := by rw [hP]; exact pieces_length s
        have hPm : P.length ≤ 121 := by
          rw [hPl]
          have := Lib.countB_le slash (by decide) s.size s (Nat.le_refl _)
          omega
        rw [← hP] at HS hblk
        rw [← hPl]
        have HB1 := hide hb1
        have HBLK := hide hblk
        clear hw1 hb1 hblk hP hPl HSP HPX HP
        go_wp2
        go_loopw [4, 6, 18] (fun v _ s18 wq => ∃ (k : Nat) (acc : List ByteArray), k ≤ P.length ∧ s18 = .int .i64 k ∧ wq.ownsRow (w.heap.size + 1) 9 1 v acc.length (acc.map Value.string) ∧ Below (w.heap.size + 1) w1 wq ∧ foldP [] P = foldP acc (P.drop k) ∧ acc.length ≤ 8) (fun _ _ s18 _ => P.length - (intOf s18).toNat)
        case atStart => exact ⟨0, [], Nat.zero_le _, rfl, World.ownsRow_nil _ _ _ _, Below.refl _ _, rfl, Nat.zero_le _⟩
        case round =>
          obtain ⟨k, acc, hk, rfl, hown, hbq, hfo, hal⟩ := hrel
          have HOWN := hide hown
          have HBQ := hide hbq
          have HFO := Lib.hid hfo
          have hzq := hbq.size
          by_cases hlt : k < P.length
          · have hkI : (k : Int) < P.length := by omega
            obtain ⟨x, hx⟩ : ∃ x, x = P[k] := ⟨_, rfl⟩
            have hd : P.drop k = x :: P.drop (k + 1) := by rw [hx]; exact List.drop_eq_getElem_cons hlt
            have hcx : wr.cell? ⟨w.heap.size, k, none⟩ = some (.string x) := by
              rw [((unhid_ HBLK).below hbq (by omega)).cell]
              simp [hx, hlt]
            rw [hd] at hfo
            obtain ⟨z, hz⟩ : ∃ b, (x.toList == []) = b := ⟨_, rfl⟩
            have hiz : isNil x = z := hz
            have HNM := hide (name_any x wr)
            obtain ⟨nm, hnm⟩ : ∃ b, nameOk x = b := ⟨_, rfl⟩
            rw [hnm] at HNM
            clear hown hbq hd hx
            cases z with
            | true =>
              rw [foldP_nil hiz] at hfo
              have HF2 := Lib.hid hfo
              clear hfo hiz hnm
              go_wp2
              go_roundw
              case rel => exact ⟨k + 1, acc, by omega, by go_num, unhid_ HOWN, unhid_ HBQ, HF2.out, hal⟩
              case measure => simp [intOf]; omega
            | false =>
              cases nm with
              | false =>
                rw [foldP_bad hiz (.inl hnm)] at hfo
                have HF2 := Lib.hid hfo
                clear hfo hiz hnm
                go_wp2_with fail
                refine (unhid_ HNM).mono ?_
                rintro e w' ⟨rfl, rfl⟩
                go_wp2
                go_ret2
                exact ⟨(unhid_ HB1).trans ((unhid_ HBQ).mono (by omega)), .inl ⟨by rw [HS.out, HF2.out], rfl⟩⟩
              | true =>
                obtain ⟨A4, c4, rfl⟩ := own_slice (unhid_ HOWN)
                by_cases h8 : acc.length < 8
                · have h8I : (acc.length : Int) < 8 := by omega
                  rw [foldP_ok hiz hnm h8] at hfo
                  have HF2 := Lib.hid hfo
                  have hown2 := unhid_ HOWN
                  clear hfo hiz hnm
                  have hzw : w.heap.size + 1 ≤ wr.heap.size := by omega
                  go_wp2_with (first | (go_at_call 21; refine (unhid_ HNM).mono ?_; rintro e w' ⟨rfl, hw'⟩; obtain rfl := hw'.symm) | (at_builtin; refine wpList_append_any _ rfl _ _ _ rfl (w.heap.size + 1) 9 i0 _ 1 16 Tryd.underlying23 hI0.out hz0 hz1 hz2 rfl (by omega) _ _ _ rfl (hown2.alloc _) (wr.heap.size + 1) (some ⟨wr.heap.size, 0, none⟩) 1 1 [.string x] rfl (Reads.one _ _ _) (by simp [Value.oneCell']) (by simp only [maxLen]; omega) (by omega) (by simp; omega) ?_; intro v1 w3 hown3 hg3 hat3))
                  go_roundw
                  case rel => exact ⟨k + 1, acc ++ [x], by omega, by go_num, by simpa using hown3, ((unhid_ HBQ).alloc (by omega) _).grown hg3 (by simp; omega) (fun g hg => (hown2.lt g hg).1), HF2.out, by simp; omega⟩
                  case measure => simp [intOf]; omega
                · have h8I : (8 : Int) ≤ (acc.length : Int) := by omega
                  rw [foldP_bad hiz (.inr (by omega))] at hfo
                  have HF2 := Lib.hid hfo
                  clear hfo hiz hnm
                  go_wp2_with fail
                  refine (unhid_ HNM).mono ?_
                  rintro e w' ⟨rfl, rfl⟩
                  go_wp2
                  go_ret2
                  exact ⟨(unhid_ HB1).trans ((unhid_ HBQ).mono (by omega)), .inl ⟨by rw [HS.out, HF2.out], rfl⟩⟩
          · obtain rfl : k = P.length := by omega
            obtain ⟨A4, c4, rfl⟩ := own_slice hown
            rw [List.drop_length] at hfo
            have hfo2 : foldP [] P = some acc := hfo
            have HF2 := Lib.hid hfo2
            clear hown hbq hfo hfo2
            go_wp2
            go_ret2
            exact ⟨(unhid_ HB1).trans ((unhid_ HBQ).mono (by omega)), .inr ⟨A4, c4, acc, by rw [HS.out, HF2.out], hal, rfl, own_base (unhid_ HOWN) (by omega)⟩⟩
  · have hs : splitP s = none := by rw [splitP, if_neg]; rintro ⟨h, _⟩; exact h1 h
    have HS := Lib.hid hs
    have hd1 : decide ((120 : Int) < (s.size : Int)) = true := by simp; omega
    clear hs hm
    go_enter Tryd.func9, Tryd.ntmps9
    go_wp2
    go_step3
    go_wp2
    try rw [Exit.noGoto_ret]
    go_ret2
    exact ⟨Below.refl _ _, .inl ⟨HS.out, rfl⟩⟩
end Go.Proofs.YtgkjmhbkalkfkaaDoor
