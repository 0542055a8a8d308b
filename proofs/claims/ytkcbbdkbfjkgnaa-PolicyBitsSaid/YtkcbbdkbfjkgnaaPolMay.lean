/- The walk of the law PolicyMay: it answers true for every config, port and label. -/
import Derived.Test.YtkcbbdkbfjkgnaaPol5
namespace Go.Proofs.Ytkcbbdkbfjkgnaa
open Go.RowKit

def okTo (rs : List Int) (k : Nat) : Bool := (rs.take k).all okOne
theorem okTo_step (rs : List Int) (k : Nat) (hk : k < rs.length) : okTo rs (k + 1) = (okTo rs k && okOne rs[k]) := by
  rw [okTo, List.take_succ_eq_append_getElem hk, List.all_append]
  simp [okTo]
theorem okTo_all (rs : List Int) (k : Nat) (hk : rs.length ≤ k) : okTo rs k = okConf rs := by
  rw [okTo, List.take_of_length_le hk]; rfl

theorem may_val (rs : List Int) (p : Nat) (label : Int) (b : Bool) (hl : rs.length = 8) (hp : p < 8) (h : (bits .and .i64 (rs[p]'(by omega)) label == 0) = b) (w : World) :
    Calls Try.prog 12 #[.agg (confCells rs), .int .i64 p, .int .i64 label] w fun e w' => e = .returned (.bool b) ∧ w.alloc (.cells (confCells rs) 33) = w' := by
  have hm := may_in rs p label w hl hp
  rw [show rs.getD p 0 = rs[p]'(by omega) from by simp [show p < rs.length from by omega], h] at hm
  exact hm
theorem tail_below {w w1 : World} {a b c : Obj} (h : Below (((w.alloc a).alloc b).alloc c).heap.size (((w.alloc a).alloc b).alloc c) w1) : Below w.heap.size w w1 :=
  (((((Below.refl _ _).alloc (Nat.le_refl _) _).alloc (by simp) _).alloc (by simp; omega) _)).trans (h.mono (by simp; omega))

set_option maxHeartbeats 1000000 in
theorem policyMay_in (rs : List Int) (p : Nat) (label : Int) (w : World) (hl : rs.length = 8) (hp : p < 8)
    (hr : ∀ x ∈ rs, -9223372036854775808 ≤ x ∧ x ≤ 9223372036854775807) (y1 : -9223372036854775808 ≤ label) (y2 : label ≤ 9223372036854775807) :
    Calls Try.prog 4 #[.agg (confCells rs), .int .i64 p, .int .i64 label] w (Yes w) := by
  have hp' : p < rs.length := by omega
  have hc : ∀ k (_ : k < rs.length), (confCells rs)[k]? = some (.int .i64 rs[k]) := fun k hk => conf_at rs k hk
  have HC := hide hc
  have hcp := conf_at rs p hp'
  have hcs : Hid ((confCells rs).size = 8) := by rw [conf_size, hl]; exact rfl
  have HL := Lib.hid hl
  have ⟨x1, x2⟩ := hr rs[p] (List.getElem_mem _)
  clear hl hc hr
  go_enter Try.func4, Try.ntmps4
  go_wp2
  go_loop [7, 8] (fun b i => ∃ k : Nat, k ≤ 8 ∧ i = .int .i64 k ∧ b = .bool (okTo rs k)) (fun _ i => 8 - (intOf i).toNat)
  case atStart => exact ⟨0, Nat.zero_le _, rfl, rfl⟩
  case round =>
    obtain ⟨k, hk, rfl, rfl⟩ := hrel
    by_cases hlt : k < 8
    · have hlr : k < rs.length := by rw [HL.out]; exact hlt
      have hck := (unhid_ HC) k hlr
      have HS := Lib.hid (okTo_step rs k hlr)
      cases hb : okTo rs k
      · rw [hb] at HS
        go_wp2
        go_round
        case rel => exact ⟨k + 1, by omega, by go_num, by rw [HS.out]; rfl⟩
        case measure => simp [intOf]; omega
      · rw [hb] at HS
        by_cases ho : okOne rs[k] = true
        · rw [ho] at HS
          rw [okOne_iff] at ho
          obtain ⟨g1, g2⟩ := ho
          go_wp2
          go_round
          case rel => exact ⟨k + 1, by omega, by go_num, by rw [HS.out]; rfl⟩
          case measure => simp [intOf]; omega
        · have ho' : okOne rs[k] = false := by simpa using ho
          rw [ho'] at HS
          have hor : rs[k] < 0 ∨ (0 ≤ rs[k] ∧ 256 ≤ rs[k]) := by rw [okOne_iff] at ho; omega
          clear ho ho'
          rcases hor with h | ⟨h0, h⟩
          · have h1 : ¬ 0 ≤ rs[k] := by omega
            go_wp2
            go_round
            case rel => exact ⟨k + 1, by omega, by go_num, by rw [HS.out]; rfl⟩
            case measure => simp [intOf]; omega
          · have h1 : ¬ rs[k] < 256 := by omega
            go_wp2
            go_round
            case rel => exact ⟨k + 1, by omega, by go_num, by rw [HS.out]; rfl⟩
            case measure => simp [intOf]; omega
    · have HK := Lib.hid (okTo_all rs k (by rw [HL.out]; omega))
      have hpp : (p : Int) < 8 := by omega
      have hbk : (okConf rs == okTo rs k) = true := by rw [HK.out]; simp
      generalize okTo rs k = bok at *
      go_wp2
      go_loop [9, 10] (fun b i => ∃ s : Nat, s ≤ 63 ∧ i = .int .i64 s ∧ b = .bool (clearTo rs[p] label s)) (fun _ i => 63 - (intOf i).toNat)
      case atStart => exact ⟨0, Nat.zero_le _, rfl, rfl⟩
      case round =>
        obtain ⟨s, hs, rfl, rfl⟩ := hrel
        cases hb : clearTo rs[p] label s
        · have HF := clearTo_mono rs[p] label s 63 hs hb
          have HZ := and_zero_iff rs[p] label x1 x2 y1 y2
          rw [HF, Bool.false_and] at HZ
          have HM := may_val rs p label false HL.out hp HZ
          have HM := hide HM
          clear HF HZ hb
          have hcs2 := hcs.out
          have hcp2 := conf_at' rs p hp' (by omega)
          by_cases hn : label < 0
          · by_cases hx : rs[p] < 0
            · go_wp2_with fail
              all_goals
                rw [agg8 _ hcs2]
                refine (check_any rs _ HL.out).mono ?_
                rintro e w1 ⟨rfl, rfl⟩
                go_wp2_with fail
                rw [agg8 _ hcs2]
                refine ((unhid_ HM) _).mono ?_
                rintro e w1 ⟨rfl, rfl⟩
                go_wp2_with fail
                refine (awake_any _).mono ?_
                rintro e w1 ⟨rfl, hbw⟩
                go_wp2
                go_ret
                exact yes_mk rfl (tail_below hbw)
            · go_wp2_with fail
              all_goals
                rw [agg8 _ hcs2]
                refine (check_any rs _ HL.out).mono ?_
                rintro e w1 ⟨rfl, rfl⟩
                go_wp2_with fail
                rw [agg8 _ hcs2]
                refine ((unhid_ HM) _).mono ?_
                rintro e w1 ⟨rfl, rfl⟩
                go_wp2_with fail
                refine (awake_any _).mono ?_
                rintro e w1 ⟨rfl, hbw⟩
                go_wp2
                go_ret
                exact yes_mk rfl (tail_below hbw)
          · go_wp2_with fail
            all_goals
              rw [agg8 _ hcs2]
              refine (check_any rs _ HL.out).mono ?_
              rintro e w1 ⟨rfl, rfl⟩
              go_wp2_with fail
              rw [agg8 _ hcs2]
              refine ((unhid_ HM) _).mono ?_
              rintro e w1 ⟨rfl, rfl⟩
              go_wp2_with fail
              refine (awake_any _).mono ?_
              rintro e w1 ⟨rfl, hbw⟩
              go_wp2
              go_ret
              exact yes_mk rfl (tail_below hbw)
        · by_cases hlt2 : s < 63
          · have HS := Lib.hid (clearTo_succ rs[p] label s)
            rw [hb] at HS
            cases h1 : bitAt label s
            · have e1 : (bits .and .i64 (label / 2 ^ s) 1 == 1) = false := h1
              rw [h1] at HS
              clear hb h1
              go_wp2
              go_round
              case rel => exact ⟨s + 1, by omega, by go_num, by rw [HS.out]; rfl⟩
              case measure => simp [intOf]; omega
            · have e1 : (bits .and .i64 (label / 2 ^ s) 1 == 1) = true := h1
              rw [h1] at HS
              cases h2 : bitAt rs[p] s
              · have e2 : (bits .and .i64 (rs[p] / 2 ^ s) 1 == 1) = false := h2
                rw [h2] at HS
                clear hb h1 h2
                go_wp2
                go_round
                case rel => exact ⟨s + 1, by omega, by go_num, by rw [HS.out]; rfl⟩
                case measure => simp [intOf]; omega
              · have e2 : (bits .and .i64 (rs[p] / 2 ^ s) 1 == 1) = true := h2
                rw [h2] at HS
                clear hb h1 h2
                go_wp2
                go_round
                case rel => exact ⟨s + 1, by omega, by go_num, by rw [HS.out]; rfl⟩
                case measure => simp [intOf]; omega
          · obtain rfl : s = 63 := by omega
            have HZ := and_zero_iff rs[p] label x1 x2 y1 y2
            rw [hb, Bool.true_and] at HZ
            clear hb
            have hcs2 := hcs.out
            have hcp2 := conf_at' rs p hp' (by omega)
            by_cases hn : label < 0
            · by_cases hx : rs[p] < 0
              · have HM := may_val rs p label false HL.out hp (by rw [HZ]; simp [hn, hx])
                have HM := hide HM
                clear HZ
                go_wp2_with fail
                all_goals
                  rw [agg8 _ hcs2]
                  refine (check_any rs _ HL.out).mono ?_
                  rintro e w1 ⟨rfl, rfl⟩
                  go_wp2_with fail
                  rw [agg8 _ hcs2]
                  refine ((unhid_ HM) _).mono ?_
                  rintro e w1 ⟨rfl, rfl⟩
                  go_wp2_with fail
                  refine (awake_any _).mono ?_
                  rintro e w1 ⟨rfl, hbw⟩
                  go_wp2
                  go_ret
                  exact yes_mk rfl (tail_below hbw)
              · have HM := may_val rs p label true HL.out hp (by rw [HZ]; simp [hx])
                have HM := hide HM
                clear HZ
                go_wp2_with fail
                all_goals
                  rw [agg8 _ hcs2]
                  refine (check_any rs _ HL.out).mono ?_
                  rintro e w1 ⟨rfl, rfl⟩
                  go_wp2_with fail
                  rw [agg8 _ hcs2]
                  refine ((unhid_ HM) _).mono ?_
                  rintro e w1 ⟨rfl, rfl⟩
                  go_wp2_with fail
                  refine (awake_any _).mono ?_
                  rintro e w1 ⟨rfl, hbw⟩
                  go_wp2
                  go_ret
                  exact yes_mk rfl (tail_below hbw)
            · have HM := may_val rs p label true HL.out hp (by rw [HZ]; simp [hn])
              have HM := hide HM
              clear HZ
              go_wp2_with fail
              all_goals
                rw [agg8 _ hcs2]
                refine (check_any rs _ HL.out).mono ?_
                rintro e w1 ⟨rfl, rfl⟩
                go_wp2_with fail
                rw [agg8 _ hcs2]
                refine ((unhid_ HM) _).mono ?_
                rintro e w1 ⟨rfl, rfl⟩
                go_wp2_with fail
                refine (awake_any _).mono ?_
                rintro e w1 ⟨rfl, hbw⟩
                go_wp2
                go_ret
                exact yes_mk rfl (tail_below hbw)
set_option maxHeartbeats 1000000 in
theorem policyMay_out (rs : List Int) (p : Int) (label : Int) (w : World) (hl : rs.length = 8) (hp : p < 0 ∨ 8 ≤ p) :
    Calls Try.prog 4 #[.agg (confCells rs), .int .i64 p, .int .i64 label] w (Yes w) := by
  have hc : ∀ k (_ : k < rs.length), (confCells rs)[k]? = some (.int .i64 rs[k]) := fun k hk => conf_at rs k hk
  have HC := hide hc
  have hcs : Hid ((confCells rs).size = 8) := by rw [conf_size, hl]; exact rfl
  have HL := Lib.hid hl
  have HM := hide (fun w => may_out rs p label w hp)
  have hpp : (0 ≤ p ∧ ¬ p < 8) ∨ ¬ 0 ≤ p := by omega
  have HP := Lib.hid hpp
  clear hl hc hpp hp
  go_enter Try.func4, Try.ntmps4
  go_wp2
  go_loop [7, 8] (fun b i => ∃ k : Nat, k ≤ 8 ∧ i = .int .i64 k ∧ b = .bool (okTo rs k)) (fun _ i => 8 - (intOf i).toNat)
  case atStart => exact ⟨0, Nat.zero_le _, rfl, rfl⟩
  case round =>
    obtain ⟨k, hk, rfl, rfl⟩ := hrel
    by_cases hlt : k < 8
    · have hlr : k < rs.length := by rw [HL.out]; exact hlt
      have hck := (unhid_ HC) k hlr
      have HS := Lib.hid (okTo_step rs k hlr)
      cases hb : okTo rs k
      · rw [hb] at HS
        go_wp2
        go_round
        case rel => exact ⟨k + 1, by omega, by go_num, by rw [HS.out]; rfl⟩
        case measure => simp [intOf]; omega
      · rw [hb] at HS
        by_cases ho : okOne rs[k] = true
        · rw [ho] at HS
          rw [okOne_iff] at ho
          obtain ⟨g1, g2⟩ := ho
          go_wp2
          go_round
          case rel => exact ⟨k + 1, by omega, by go_num, by rw [HS.out]; rfl⟩
          case measure => simp [intOf]; omega
        · have ho' : okOne rs[k] = false := by simpa using ho
          rw [ho'] at HS
          have hor : rs[k] < 0 ∨ (0 ≤ rs[k] ∧ 256 ≤ rs[k]) := by rw [okOne_iff] at ho; omega
          clear ho ho'
          rcases hor with h | ⟨h0, h⟩
          · have h1 : ¬ 0 ≤ rs[k] := by omega
            go_wp2
            go_round
            case rel => exact ⟨k + 1, by omega, by go_num, by rw [HS.out]; rfl⟩
            case measure => simp [intOf]; omega
          · have h1 : ¬ rs[k] < 256 := by omega
            go_wp2
            go_round
            case rel => exact ⟨k + 1, by omega, by go_num, by rw [HS.out]; rfl⟩
            case measure => simp [intOf]; omega
    · have HK := Lib.hid (okTo_all rs k (by rw [HL.out]; omega))
      have hbk : (okConf rs == okTo rs k) = true := by rw [HK.out]; simp
      generalize okTo rs k = bok at *
      have hcs2 := hcs.out
      rcases HP.out with ⟨hp1, hp2⟩ | hp1
      all_goals
        go_wp2
        go_loop [9, 10] (fun b i => i = .int .i64 0 ∧ b = .bool false) (fun _ i => 0)
        case atStart => first | exact ⟨rfl, rfl⟩ | exact ⟨rfl, by simp; omega⟩
        case round =>
          obtain ⟨rfl, rfl⟩ := hrel
          by_cases hn : label < 0
          all_goals
            go_wp2_with fail
            rw [agg8 _ hcs2]
            refine (check_any rs _ HL.out).mono ?_
            rintro e w1 ⟨rfl, rfl⟩
            go_wp2_with fail
            rw [agg8 _ hcs2]
            refine ((unhid_ HM) _).mono ?_
            rintro e w1 ⟨rfl, rfl⟩
            go_wp2_with fail
            refine (awake_any _).mono ?_
            rintro e w1 ⟨rfl, hbw⟩
            go_wp2
            go_ret
            exact yes_mk rfl (tail_below hbw)

theorem policyMay_any (rs : List Int) (p : Int) (label : Int) (w : World) (hl : rs.length = 8) (hr : ∀ x ∈ rs, -9223372036854775808 ≤ x ∧ x ≤ 9223372036854775807) (y1 : -9223372036854775808 ≤ label) (y2 : label ≤ 9223372036854775807) :
    Calls Try.prog 4 #[.agg (confCells rs), .int .i64 p, .int .i64 label] w (Yes w) := by
  by_cases h : p < 0 ∨ 8 ≤ p
  · exact policyMay_out rs p label w hl h
  · obtain ⟨n, rfl⟩ := Int.eq_ofNat_of_zero_le (show 0 ≤ p by omega)
    exact policyMay_in rs n label w hl (by omega) hr y1 y2
end Go.Proofs.Ytkcbbdkbfjkgnaa
