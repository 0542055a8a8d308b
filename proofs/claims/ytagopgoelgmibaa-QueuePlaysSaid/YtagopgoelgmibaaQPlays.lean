/- The walk of the law QueuePlays. -/
import Derived.Test.YtagopgoelgmibaaQBuf
import Derived.Deep.DeepCutAuto
import Derived.Deep.RegionHeld3
namespace Go.Proofs.Ytagopgoelgmibaa
open Go.RowKit
set_option linter.unusedSimpArgs false

theorem IsW.base_le {w : World} {base base' h cap : Nat} {B : List Int} (hw : IsW w base h cap B) (hb : base' ≤ base) : IsW w base' h cap B := by
  obtain ⟨A, c, h1, h2, h3⟩ := hw
  exact ⟨A, c, h1, own_base h2 hb, h3⟩
theorem cell_only {w w' : World} {S : List Nat} {p : Addr} (h : Only S w w') (hp : p.block < w.heap.size) (hS : p.block ∉ S) : w'.cell? p = w.cell? p := World.cell?_of_block (h.block _ hp hS)

set_option maxRecDepth 100000 in
set_option maxHeartbeats 4000000 in
theorem queuePlays_any (most : Int) (A : Option Addr) (na ca : Nat) (O : Option Addr) (no co : Nat) (ys : List Int) (w : World) (hra : Ins w w.heap.size A na) (hro : RI w w.heap.size O no ys) (hco : no ≤ co) (hmo : no ≤ maxLen) :
    Calls Try.prog 3 #[.int .i64 most, .slice A na ca, .slice O no co] w (Yes w) := by
  unfold maxLen at hmo
  have HRA := hide hra
  have HRO := hide hro
  obtain rfl : no = ys.length := hro.len.symm
  clear hra hro
  obtain ⟨cap, hcap⟩ : ∃ cap, cap = (max 0 (min most 65536)).toNat := ⟨_, rfl⟩
  have HCAP := Lib.hid hcap
  clear hcap
  go_enter Try.func3, Try.ntmps3
  go_wp2_with fail
  refine (new_any _ _).mono ?_
  rintro e w1 ⟨rfl, hq1, hb1, hs1⟩
  rw [← HCAP.out] at hq1
  obtain ⟨g, hg⟩ : ∃ g, g = w.heap.size + 1 := ⟨_, rfl⟩
  obtain ⟨rb, hrb⟩ : ∃ rb, rb = w.heap.size := ⟨_, rfl⟩
  obtain ⟨hw, hhw⟩ : ∃ hw, hw = w1.heap.size := ⟨_, rfl⟩
  rw [← hg, ← hrb] at hq1
  rw [← hg]
  have hgh : g < hw := by omega
  have hrh : rb < hw := by omega
  have hwg : w.heap.size ≤ g := by omega
  have hwr : w.heap.size ≤ rb := by omega
  have hwh : w.heap.size ≤ hw := by omega
  have HQ1 := hide hq1
  have HG := Lib.hid hg
  have HHW := Lib.hid hhw
  clear hq1 hs1 hg hrb hhw
  go_wp2_with fail
  refine (rnew_any _ _).mono ?_
  rintro e w2 ⟨rfl, hv2, hb2, hs2⟩
  rw [← HCAP.out] at hv2
  have hq2 : IsQ w2 g rb cap [] := (unhid_ HQ1).only (Only.of_below hb2 []) (by simp) (by simp)
  have hb2 : Below w.heap.size w w2 := hb1.trans (hb2.mono hb1.size)
  rw [← HHW.out] at hv2 hs2 ⊢
  have HQ2 := hide hq2
  have HV2 := hide hv2
  have HB2 := hide hb2
  have hs2' : hw + 1 ≤ w2.heap.size := by omega
  clear hq2 hv2 hs2 hb2 hb1
  go_wp2_with fail
  go_loopw [9, 10, 11, 12, 13, 14] (fun s9 _ _ _ _ _ wr => ∃ (k : Nat) (B : List Int), k ≤ 60 ∧ s9 = .int .i64 k ∧ IsQ wr g rb cap B ∧ IsW wr (hw + 1) hw cap B ∧ Below w.heap.size w wr ∧ hw + 1 ≤ wr.heap.size) (fun s9 _ _ _ _ _ _ => 60 - (intOf s9).toNat)
  case atStart => exact ⟨0, [], Nat.zero_le _, rfl, unhid_ HQ2, unhid_ HV2, unhid_ HB2, hs2'⟩
  case round =>
    obtain ⟨k, B, hk, rfl, hq, hv, hb, hsz⟩ := hrel
    have hsz0 := hb.size
    have HQ := hide hq
    have HV := hide hv
    have HB := hide hb
    clear hq hv hb
    go_upto_region 6 with fail
    go_cut [34] (fun s34 wx => ∃ b : Bool, s34 = .bool b ∧ (b = true → k < 60) ∧ wx = wr)
    case first =>
      by_cases h1 : k < 60
      · by_cases h2 : k < na
        · go_wp2
          go_meet
          exact ⟨true, rfl, fun _ => h1, rfl⟩
        · by_cases h3 : k < ys.length
          · go_wp2
            go_meet
            exact ⟨true, rfl, fun _ => h1, rfl⟩
          · go_wp2
            go_meet
            exact ⟨false, rfl, by simp, rfl⟩
      · go_wp2
        go_meet
        exact ⟨false, rfl, by simp, rfl⟩
    case rest =>
      obtain ⟨b, rfl, hbk, hwx⟩ := hcut
      have hwx2 := hwx.symm
      subst hwx2
      cases b with
      | false =>
        clear hbk
        go_wp2_with fail
        refine (awake_any _).mono ?_
        rintro e w' ⟨rfl, hbz⟩
        go_wp2
        go_ret
        exact yes_mk rfl ((unhid_ HB).trans (hbz.mono hsz0))
      | true =>
        have hk60 := hbk rfl
        clear hbk
        go_upto_region 8 with fail
        go_cut [40] (fun s40 wx => ∃ b : Bool, s40 = .bool b ∧ (b = true → k < na) ∧ wx = wr)
        case first =>
          by_cases h2 : k < na
          · go_wp2
            go_meet
            exact ⟨true, rfl, fun _ => h2, rfl⟩
          · go_wp2
            go_meet
            exact ⟨false, rfl, by simp, rfl⟩
        case rest =>
          obtain ⟨b, rfl, hbk, hwx⟩ := hcut
          have hwx2 := hwx.symm
          subst hwx2
          go_upto_if 40 with (fail)
          go_cut [10, 11, 12] (fun _ _ _ wx => ∃ B' : List Int, IsQ wx g rb cap B' ∧ IsW wx (hw + 1) hw cap B' ∧ Below w.heap.size w wx ∧ hw + 1 ≤ wx.heap.size)
          case first =>
            cases b with
            | false =>
              clear hbk
              go_wp2
              go_meet
              exact ⟨B, unhid_ HQ, unhid_ HV, unhid_ HB, hsz⟩
            | true =>
              have hkn := hbk rfl
              clear hbk
              obtain ⟨ad, A', n', c', xs, rfl, hcell, had, hr', hnc', hcm'⟩ := (unhid_ HRA).below (unhid_ HB) k hkn
              unfold maxLen at hcm'
              have hn'x : xs.length = n' := by have := hr'.1; simpa using this
              subst hn'x
              have HR' := hide hr'
              clear hr'
              by_cases h5 : 5000 < xs.length
              · go_wp2_with fail
                refine (awake_any _).mono ?_
                rintro e w' ⟨rfl, hbz⟩
                go_wp2
                go_ret
                exact yes_mk rfl ((unhid_ HB).trans (hbz.mono hsz0))
              · go_wp2_with fail
                obtain ⟨wo, rfl⟩ : ∃ wo : World, wo = wr := ⟨_, rfl⟩
                refine (copy_any w.heap.size A' xs.length c' xs wo (unhid_ HR') (by omega)).mono ?_
                rintro e wb ⟨Ab, cb, rfl, hob, hbb⟩
                have hqb : IsQ wb g rb cap B := (unhid_ HQ).only (Only.of_below hbb []) (by simp) (by simp)
                obtain ⟨k', hk'⟩ : ∃ k', k' = min xs.length (cap - B.length) := ⟨_, rfl⟩
                have hcb : xs.length ≤ cb := own_cap hob
                have hput := put_any wb g rb cap wb.heap.size B xs Ab xs.length cb k' hk' hqb (Reads.of_own hob) hcb (by omega) (Nat.le_refl _) (own_apart hob (fun x hx => by simp at hx; omega))
                have hbuf := Buf.of_own hob
                have HPUT := hide hput
                have HBUF := hide hbuf
                have HK' := Lib.hid hk'
                have HBB := hide hbb
                clear hput hk' hob hqb hbb hbuf
                go_wp2_with fail
                refine (unhid_ HPUT).mono ?_
                rintro e wp ⟨rfl, hqp, hop, hsp⟩
                have HQP := hide hqp
                have HBP := hide ((unhid_ HBUF).only hop (fun x hx => by simp at hx; omega))
                have HOP := hide ((Only.of_below (unhid_ HBB) [g, rb]).trans hop)
                clear hqp hop hsp
                go_wp2_with fail
                go_loopw [12] (fun x wq => ∃ t : Nat, t ≤ xs.length ∧ x = .int .i64 t ∧ Buf wq wo.heap.size Ab xs.length ∧ Only [g, rb] wo wq ∧ IsQ wq g rb cap (B ++ xs.take k')) (fun x _ => xs.length - (intOf x).toNat)
                case atStart => exact ⟨0, Nat.zero_le _, rfl, unhid_ HBP, unhid_ HOP, unhid_ HQP⟩
                case round =>
                  obtain ⟨t, ht, rfl, hbuf, hO, hq⟩ := hrel
                  have HBU := hide hbuf
                  have HO := hide hO
                  have HQ' := hide hq
                  clear hO hq
                  by_cases htn : t < xs.length
                  · obtain ⟨gb, y, rfl, hgb, hcellb, hfrob⟩ := hbuf.at_ htn
                    clear hbuf
                    go_wp2
                    go_roundw
                    case rel => exact ⟨t + 1, by omega, by go_num, (unhid_ HBU).put _, (unhid_ HO).setCell (p := ⟨gb, t, none⟩) (.inr hgb) _, (unhid_ HQ').only (((Only.refl [gb] _)).setCell (p := ⟨gb, t, none⟩) (.inl (by simp)) _) (by simp; omega) (by simp; omega)⟩
                    case measure => simp [intOf]; omega
                  · obtain rfl : t = xs.length := by omega
                    clear hbuf
                    have hO := unhid_ HO
                    have hoz := hO.size
                    have hbz : Below w.heap.size w wr := (unhid_ HB).trans (hO.below (fun x hx => by simp at hx; omega) hsz0)
                    have hput := rput_any wr (hw + 1) hw cap w.heap.size B xs A' xs.length c' k' HK'.out ((unhid_ HV).only hO (by simp; omega) (fun x hx => by simp at hx; omega)) ((unhid_ HR').below (hO.below (fun x hx => by simp at hx; omega) hsz0)) hnc' (by omega) (by omega) (by omega)
                    have HPUT := hide hput
                    have HBZ := hide hbz
                    have hcell' : wr.cell? (ad.add k) = some (.slice A' xs.length c') := ((hO.below (B := w.heap.size) (fun x hx => by simp at hx; omega) hsz0).cell (by rw [block_of_add]; exact had)).trans hcell
                    clear hput hbz hO
                    go_wp2_with fail
                    refine (unhid_ HPUT).mono ?_
                    rintro e wz ⟨rfl, hvz, hoz⟩
                    go_wp2_with fail
                    go_meet
                    exact ⟨B ++ xs.take k', (unhid_ HQ').only hoz (by simp; omega) (by simp; omega), hvz, (unhid_ HBZ).trans (hoz.below (fun x hx => by simp at hx; omega) (unhid_ HBZ).size), by have := hoz.size; omega⟩
          case rest =>
            obtain ⟨B1, hq1, hv1, hb1, hsz1⟩ := hcut
            have HQ1 := hide hq1
            have HV1 := hide hv1
            have HB1 := hide hb1
            have hsz2 := hb1.size
            clear hq1 hv1 hb1
            go_upto_region 19 with fail
            go_cut [81] (fun s81 wx => ∃ b : Bool, s81 = .bool b ∧ (b = true → k < ys.length) ∧ wx = wc)
            case first =>
              by_cases h2 : k < ys.length
              · go_wp2
                go_meet
                exact ⟨true, rfl, fun _ => h2, rfl⟩
              · go_wp2
                go_meet
                exact ⟨false, rfl, by simp, rfl⟩
            case rest =>
              obtain ⟨b, rfl, hbk, hwx⟩ := hcut
              have hwx2 := hwx.symm
              subst hwx2
              go_upto_if 81 with (fail)
              go_cut [13, 14] (fun _ _ wx => ∃ B' : List Int, IsQ wx g rb cap B' ∧ IsW wx (hw + 1) hw cap B' ∧ Below w.heap.size w wx ∧ hw + 1 ≤ wx.heap.size)
              case first =>
                cases b with
                | false =>
                  clear hbk
                  go_wp2
                  go_meet
                  exact ⟨B1, unhid_ HQ1, unhid_ HV1, unhid_ HB1, hsz1⟩
                | true =>
                  have hkn := hbk rfl
                  clear hbk
                  obtain ⟨ad, rfl, hcell⟩ := ((unhid_ HRO).below (unhid_ HB1)).at_ hkn
                  obtain ⟨_, had⟩ : True ∧ ad.block < w.heap.size := ⟨trivial, by
                    obtain ⟨ad', u, e, hlt, _⟩ := Reads.at_ (unhid_ HRO) hkn
                    injection e with e
                    rw [e]; exact hlt⟩
                  obtain ⟨m, hm⟩ : ∃ m, m = (max 0 (min ys[k] (B1.length : Int))).toNat := ⟨_, rfl⟩
                  have hmB : m ≤ B1.length := by omega
                  have hm65 : m ≤ 65536 := by have := (unhid_ HQ1).le; omega
                  have hget := get_any wc g rb cap B1 ys[k] m (by omega) (unhid_ HQ1)
                  have hmi : (m : Int) = max 0 (min ys[k] (B1.length : Int)) := by omega
                  have HMI := Lib.hid hmi
                  obtain ⟨y, hy⟩ : ∃ y, y = ys[k] := ⟨_, rfl⟩
                  rw [← hy] at hget hcell HMI
                  have HGET := hide hget
                  have HY := Lib.hid hy
                  clear hget hm hmi hy
                  go_wp2_with fail
                  refine (unhid_ HGET).mono ?_
                  rintro e wg ⟨rfl, hqg, hbg, hog, hsg⟩
                  have hcv : (convert 28 9 (.slice (some ⟨wc.heap.size, 0, none⟩) m m)).run Try.prog wg = .ok (.string (strOfNums (B1.take m))) wg := conv_blk hbg hmB
                  have hcell2 : wg.cell? (ad.add k) = some (.int .i64 y) := ((hog.below (B := w.heap.size) (fun x hx => by simp at hx; omega) hsz2).cell (by rw [block_of_add]; exact had)).trans hcell
                  have hcvN : ∀ q, (convert 28 9 (.slice (some ⟨wc.heap.size, 0, none⟩) m m)).run Try.prog (wg.drewN q) = .ok (.string (strOfNums (B1.take m))) (wg.drewN q) := fun q => conv_blk (hbg.drewN q) hmB
                  have hvg : IsW wg (hw + 1) hw cap B1 := (unhid_ HV1).only hog (by simp; omega) (fun x hx => by simp at hx; omega)
                  have hgsz := hog.size
                  have HVG := hide hvg
                  have HQG := hide hqg
                  have HBG := hide hbg
                  have HOG := hide hog
                  have hbgw : Below w.heap.size w wg := (unhid_ HB1).trans (hog.below (fun x hx => by simp at hx; omega) hsz2)
                  have HBGW := hide hbgw
                  have HSG := Lib.hid hsg
                  clear hqg hbg hog hvg hbgw hcv hcell hsg
                  obtain ⟨adk, hadk⟩ : ∃ adk, adk = ad.add k := ⟨_, rfl⟩
                  go_wp2_with fail
                  refine wp_region_held_drew (S := (fun w' => w'.cell? (ad.add k) = some (.int .i64 y) ∧ (convert 28 9 (.slice (some ⟨wc.heap.size, 0, none⟩) m m)).run Try.prog w' = .ok (.string (strOfNums (B1.take m))) w')) (by kernel_rfl) ?_ (fun hHeld => ?_)
                  · exact ⟨hcell2, hcvN 1⟩
                  refine wpAnyH_take (i := 0) (oi := ({ dst := some 88, op := Op.move (Operand.tmp 13), type := 28, pos := _, after := #[], guard := none })) (v := ?_) rfl (by kernel_rfl) (by kernel_rfl) (by kernel_rfl) (fun _ _ _ h => h) (Or.inl ⟨by rfl, ?_⟩) (by assumption) ?_
                  rotate_left
                  · (intro wq hSw; (try dsimp only at hSw); go_simp; try with_reducible rfl)
                  try simp only [Act.put, List.setIfInBounds_toArray, List.set_cons_zero, List.set_cons_succ]
                  refine wpAnyH_take (i := 1) (oi := ({ dst := some 89, op := Op.convert 28 9 (Operand.tmp 88), type := 9, pos := _, after := #[{ on := 0, ground := Ground.data }], guard := none })) (v := ?_) rfl (by kernel_rfl) (by kernel_rfl) (by kernel_rfl) (fun _ _ _ h => h) (Or.inl ⟨by rfl, ?_⟩) (by assumption) ?_
                  rotate_left
                  · (intro wq hSw; (try dsimp only at hSw); go_simp; try with_reducible rfl)
                  try simp only [Act.put, List.setIfInBounds_toArray, List.set_cons_zero, List.set_cons_succ]
                  refine wpAnyH_take (i := 2) (oi := ({ dst := some 90, op := Op.move (Operand.tmp 8), type := 26, pos := _, after := #[], guard := none })) (v := ?_) rfl (by kernel_rfl) (by kernel_rfl) (by kernel_rfl) (fun _ _ _ h => h) (Or.inl ⟨by rfl, ?_⟩) (by assumption) ?_
                  rotate_left
                  · (intro wq hSw; (try dsimp only at hSw); go_simp; try with_reducible rfl)
                  try simp only [Act.put, List.setIfInBounds_toArray, List.set_cons_zero, List.set_cons_succ]
                  refine wpAnyH_take (i := 3) (oi := ({ dst := some 91, op := Op.move (Operand.tmp 2), type := 23, pos := _, after := #[], guard := none })) (v := ?_) rfl (by kernel_rfl) (by kernel_rfl) (by kernel_rfl) (fun _ _ _ h => h) (Or.inl ⟨by rfl, ?_⟩) (by assumption) ?_
                  rotate_left
                  · (intro wq hSw; (try dsimp only at hSw); go_simp; try with_reducible rfl)
                  try simp only [Act.put, List.setIfInBounds_toArray, List.set_cons_zero, List.set_cons_succ]
                  refine wpAnyH_take (i := 4) (oi := ({ dst := some 92, op := Op.move (Operand.tmp 9), type := 3, pos := _, after := #[], guard := none })) (v := ?_) rfl (by kernel_rfl) (by kernel_rfl) (by kernel_rfl) (fun _ _ _ h => h) (Or.inl ⟨by rfl, ?_⟩) (by assumption) ?_
                  rotate_left
                  · (intro wq hSw; (try dsimp only at hSw); go_simp; try with_reducible rfl)
                  try simp only [Act.put, List.setIfInBounds_toArray, List.set_cons_zero, List.set_cons_succ]
                  refine wpAnyH_take (i := 5) (oi := ({ dst := some 93, op := Op.indexAddr 23 (Operand.tmp 91) (Operand.tmp 92), type := 0, pos := _, after := #[{ on := 3, ground := Ground.data }, { on := 4, ground := Ground.data }], guard := none })) (v := ?_) rfl (by kernel_rfl) (by kernel_rfl) (by kernel_rfl) (fun _ _ _ h => h) (Or.inl ⟨by rfl, ?_⟩) (by assumption) ?_
                  rotate_left
                  · (intro wq hSw; (try dsimp only at hSw); go_simp; try with_reducible rfl)
                  try simp only [Act.put, List.setIfInBounds_toArray, List.set_cons_zero, List.set_cons_succ]
                  refine wpAnyH_take (i := 6) (oi := ({ dst := some 94, op := Op.load 3 (Operand.tmp 93), type := 3, pos := _, after := #[{ on := 5, ground := Ground.data }], guard := none })) (v := ?_) rfl (by kernel_rfl) (by kernel_rfl) (by kernel_rfl) (fun _ _ _ h => h) (Or.inl ⟨by rfl, ?_⟩) (by assumption) ?_
                  rotate_left
                  · (intro wq hSw; (try dsimp only at hSw); go_simp; try with_reducible rfl)
                  try simp only [Act.put, List.setIfInBounds_toArray, List.set_cons_zero, List.set_cons_succ]
                  refine wpAnyH_ready (rs := [7]) (by kernel_rfl) (by simp) ?_
                  refine AllReadyH.cons (o := ({ dst := some 95, op := Op.call { callee := Callee.value (Operand.func 14), args := #[Operand.tmp 90, Operand.tmp 94], argTypes := #[26, 3] }, type := 28, pos := _, after := #[{ on := 2, ground := Ground.data }, { on := 6, ground := Ground.data }], guard := none })) rfl (fun K hK => ?_) AllReadyH.nil
                  go_simp
                  go_at_call 14
                  refine (rget_any wg.drew (hw + 1) hw cap B1 y m HMI.out (unhid_ HVG)).mono ?_
                  rintro e wx ⟨Ax, cx, rfl, hrx, hvx, hox⟩
                  have hcx : wx.cell? (ad.add k) = some (.int .i64 y) := ((hox.below (B := w.heap.size) (fun x hx => by simp at hx; omega) (Nat.le_trans hsz2 hgsz)).cell (by rw [block_of_add]; exact had)).trans hcell2
                  have hbx := hox.blk (unhid_ HBG) (by simp; omega)
                  have hcvx : (convert 28 9 (.slice (some ⟨wc.heap.size, 0, none⟩) m m)).run Try.prog wx = .ok (.string (strOfNums (B1.take m))) wx := conv_blk hbx hmB
                  have hcv2 := conv_any (c := cx) hrx
                  have HBX := hide hbx
                  have HVX := hide hvx
                  have HOX := hide hox
                  clear hbx hvx hox hrx
                  refine hK.out _ _ ?_ (fun hHeld => ?_)
                  · exact ⟨hcx, hcvx⟩
                  clear hK K
                  try simp only [Act.put, List.setIfInBounds_toArray, List.set_cons_zero, List.set_cons_succ]
                  refine wpAnyH_ready (rs := [8]) (by kernel_rfl) (by simp) ?_
                  refine AllReadyH.cons (o := ({ dst := some 96, op := Op.convert 28 9 (Operand.tmp 95), type := 9, pos := _, after := #[{ on := 7, ground := Ground.data }], guard := none })) rfl (fun K hK => ?_) AllReadyH.nil
                  go_simp
                  skip
                  refine hK.out _ _ ?_ (fun hHeld => ?_)
                  · exact ⟨hcx, hcvx⟩
                  clear hK K
                  try simp only [Act.put, List.setIfInBounds_toArray, List.set_cons_zero, List.set_cons_succ]
                  refine wpAnyH_take (i := 9) (oi := ({ dst := some 97, op := Op.binOp BinOp.neq 9 (Operand.tmp 89) (Operand.tmp 96) 9, type := 4, pos := _, after := #[{ on := 1, ground := Ground.data }, { on := 8, ground := Ground.data }], guard := none })) (v := ?_) rfl (by kernel_rfl) (by kernel_rfl) (by kernel_rfl) (fun _ _ _ h => h) (Or.inl ⟨by rfl, ?_⟩) (by assumption) ?_
                  rotate_left
                  · (intro wq hSw; (try dsimp only at hSw); go_simp; try with_reducible rfl)
                  try simp only [Act.put, List.setIfInBounds_toArray, List.set_cons_zero, List.set_cons_succ]
                  refine wpAnyH_done (by kernel_rfl) ?_ _
                  clear hcx hcvx hcv2 hcell2 hcvN
                  have hqx : IsQ wx g rb cap (B1.drop m) := IsQ.only (w := wg.drew) (unhid_ HQG) (unhid_ HOX) (by simp; omega) (by simp; omega)
                  have hbx : Below w.heap.size w wx := (belowN (unhid_ HBGW) 1).trans ((unhid_ HOX).below (w := wg.drew) (fun x hx => by simp at hx; omega) (Nat.le_trans hsz2 hgsz))
                  have hvx : IsW wx wg.heap.size hw cap (B1.drop m) := unhid_ HVX
                  have HQX := hide hqx
                  have HVX2 := hide hvx
                  have HBX2 := hide hbx
                  have HBUF := hide (Buf.of_blk (base := wc.heap.size) (unhid_ HBX) (Nat.le_refl _) hmB)
                  clear hqx hvx hbx
                  go_wp2_with fail
                  go_loopw [14] (fun x wq => ∃ t : Nat, t ≤ m ∧ x = .int .i64 t ∧ Buf wq wc.heap.size (some ⟨wc.heap.size, 0, none⟩) m ∧ IsQ wq g rb cap (B1.drop m) ∧ IsW wq wg.heap.size hw cap (B1.drop m) ∧ Below w.heap.size w wq ∧ hw + 1 ≤ wq.heap.size) (fun x _ => m - (intOf x).toNat)
                  case atStart => exact ⟨0, Nat.zero_le _, rfl, unhid_ HBUF, unhid_ HQX, unhid_ HVX2, unhid_ HBX2, by have h1 := (unhid_ HOX).size; have h2 : wg.heap.size ≤ wx.heap.size := h1; omega⟩
                  case round =>
                    obtain ⟨t, ht, rfl, hbuf, hq, hv, hb, hs⟩ := hrel
                    have HBU := hide hbuf
                    have HQ' := hide hq
                    have HV' := hide hv
                    have HB' := hide hb
                    clear hq hv hb
                    by_cases htn : t < m
                    · obtain ⟨gb, y, e, hgb, hcellb, hfrob⟩ := hbuf.at_ htn
                      obtain rfl : wc.heap.size = gb := by injection e with e; injection e
                      clear hbuf e
                      go_wp2
                      go_roundw
                      case rel => exact ⟨t + 1, by omega, by go_num, (unhid_ HBU).put _, (unhid_ HQ').only (((Only.refl [wc.heap.size] _)).setCell (p := ⟨wc.heap.size, t, none⟩) (.inl (by simp)) _) (by simp; omega) (by simp; omega), (unhid_ HV').only (((Only.refl [wc.heap.size] _)).setCell (p := ⟨wc.heap.size, t, none⟩) (.inl (by simp)) _) (by simp; omega) (fun x hx => by have := HSG.out; simp at hx; omega), (unhid_ HB').setCell (p := ⟨wc.heap.size, t, none⟩) hsz2 _, by simpa [World.setCell] using hs⟩
                      case measure => simp [intOf]; omega
                    · clear hbuf
                      go_wp2_with fail
                      go_meet
                      exact ⟨B1.drop m, unhid_ HQ', (unhid_ HV').base_le (Nat.le_trans hsz1 hgsz), unhid_ HB', hs⟩
              case rest =>
                obtain ⟨B2, hq3, hv3, hb3, hsz3⟩ := hcut
                obtain ⟨A2, c2, hh2, hw2, hBc, hc6⟩ := hv3
                have d0 : wc.cell? ⟨hw, 0, none⟩ = some (.slice A2 B2.length c2) := hh2.cell 0
                have d1 : wc.cell? ⟨hw, 1, none⟩ = some (.int .i64 cap) := hh2.cell 1
                have R2 : Hid (Reads wc wc.heap.size 1 A2 B2.length (B2.map (Value.int .u8))) := Reads.of_own hw2
                have HQ3 := hide hq3
                have HV3 := hide (show IsW wc (hw + 1) hw cap B2 from ⟨A2, c2, hh2, hw2, hBc, hc6⟩)
                have HB3 := hide hb3
                have hwrap : IntKind.i64.wrap ((cap : Int) - (B2.length : Int)) = (cap : Int) - (B2.length : Int) := IntWalk.i64_in _ (by omega)
                clear hh2 hw2 hq3 hb3
                go_wp2_with fail
                refine wp_region_held_drew (S := (fun w' => w'.cell? ⟨hw, 0, none⟩ = some (.slice A2 B2.length c2) ∧ w'.cell? ⟨hw, 1, none⟩ = some (.int .i64 cap) ∧ (convert 28 9 (.slice A2 B2.length c2)).run Try.prog w' = .ok (.string (strOfNums B2)) w')) (by kernel_rfl) ?_ (fun hHeld => ?_)
                · exact ⟨d0, d1, conv_any R2.out⟩
                refine wpAnyH_take (i := 0) (oi := ({ dst := some 107, op := Op.move (Operand.tmp 7), type := 24, pos := _, after := #[], guard := none })) (v := ?_) rfl (by kernel_rfl) (by kernel_rfl) (by kernel_rfl) (fun _ _ _ h => h) (Or.inl ⟨by rfl, ?_⟩) (by assumption) ?_
                rotate_left
                · (intro wq hSw; (try dsimp only at hSw); go_simp; try with_reducible rfl)
                try simp only [Act.put, List.setIfInBounds_toArray, List.set_cons_zero, List.set_cons_succ]
                refine wpAnyH_take (i := 2) (oi := ({ dst := some 109, op := Op.move (Operand.tmp 8), type := 26, pos := _, after := #[], guard := none })) (v := ?_) rfl (by kernel_rfl) (by kernel_rfl) (by kernel_rfl) (fun _ _ _ h => h) (Or.inl ⟨by rfl, ?_⟩) (by assumption) ?_
                rotate_left
                · (intro wq hSw; (try dsimp only at hSw); go_simp; try with_reducible rfl)
                try simp only [Act.put, List.setIfInBounds_toArray, List.set_cons_zero, List.set_cons_succ]
                refine wpAnyH_take (i := 3) (oi := ({ dst := some 110, op := Op.nilCheck (Operand.tmp 109), type := 0, pos := _, after := #[{ on := 2, ground := Ground.data }], guard := none })) (v := ?_) rfl (by kernel_rfl) (by kernel_rfl) (by kernel_rfl) (fun _ _ _ h => h) (Or.inl ⟨by rfl, ?_⟩) (by assumption) ?_
                rotate_left
                · (intro wq hSw; (try dsimp only at hSw); go_simp; try with_reducible rfl)
                try simp only [Act.put, List.setIfInBounds_toArray, List.set_cons_zero, List.set_cons_succ]
                refine wpAnyH_take (i := 4) (oi := ({ dst := some 111, op := Op.fieldAddr 35 (Operand.tmp 110) 0, type := 0, pos := _, after := #[{ on := 3, ground := Ground.data }], guard := none })) (v := ?_) rfl (by kernel_rfl) (by kernel_rfl) (by kernel_rfl) (fun _ _ _ h => h) (Or.inl ⟨by rfl, ?_⟩) (by assumption) ?_
                rotate_left
                · (intro wq hSw; (try dsimp only at hSw); go_simp; try with_reducible rfl)
                try simp only [Act.put, List.setIfInBounds_toArray, List.set_cons_zero, List.set_cons_succ]
                refine wpAnyH_take (i := 5) (oi := ({ dst := some 112, op := Op.load 28 (Operand.tmp 111), type := 28, pos := _, after := #[{ on := 4, ground := Ground.data }], guard := none })) (v := ?_) rfl (by kernel_rfl) (by kernel_rfl) (by kernel_rfl) (fun _ _ _ h => h) (Or.inl ⟨by rfl, ?_⟩) (by assumption) ?_
                rotate_left
                · (intro wq hSw; (try dsimp only at hSw); go_simp; try with_reducible rfl)
                try simp only [Act.put, List.setIfInBounds_toArray, List.set_cons_zero, List.set_cons_succ]
                refine wpAnyH_take (i := 6) (oi := ({ dst := some 113, op := Op.call { callee := Callee.builtin Builtin.len, args := #[Operand.tmp 112], argTypes := #[28] }, type := 3, pos := _, after := #[{ on := 5, ground := Ground.data }], guard := none })) (v := ?_) rfl (by kernel_rfl) (by kernel_rfl) (by kernel_rfl) (fun _ _ _ h => h) (Or.inl ⟨by rfl, ?_⟩) (by assumption) ?_
                rotate_left
                · (intro wq hSw; (try dsimp only at hSw); go_simp; try with_reducible rfl)
                try simp only [Act.put, List.setIfInBounds_toArray, List.set_cons_zero, List.set_cons_succ]
                refine wpAnyH_ready (rs := [1]) (by kernel_rfl) (by simp) ?_
                refine AllReadyH.cons (o := ({ dst := some 108, op := Op.call { callee := Callee.value (Operand.func 15), args := #[Operand.tmp 107], argTypes := #[24] }, type := 3, pos := _, after := #[{ on := 0, ground := Ground.data }], guard := none })) rfl (fun K hK => ?_) AllReadyH.nil
                go_simp
                go_at_call 15
                refine (len_any wc.drew g rb cap B2 (unhid_ HQ3)).mono ?_
                rintro e w' ⟨rfl, rfl⟩
                refine hK.out _ _ ?_ (fun hHeld => ?_)
                · exact ⟨d0, d1, conv_any R2.out⟩
                clear hK K
                try simp only [Act.put, List.setIfInBounds_toArray, List.set_cons_zero, List.set_cons_succ]
                refine wpAnyH_take (i := 7) (oi := ({ dst := some 114, op := Op.binOp BinOp.neq 3 (Operand.tmp 108) (Operand.tmp 113) 3, type := 4, pos := _, after := #[{ on := 1, ground := Ground.data }, { on := 6, ground := Ground.data }], guard := none })) (v := ?_) rfl (by kernel_rfl) (by kernel_rfl) (by kernel_rfl) (fun _ _ _ h => h) (Or.inl ⟨by rfl, ?_⟩) (by assumption) ?_
                rotate_left
                · (intro wq hSw; (try dsimp only at hSw); go_simp; try with_reducible rfl)
                try simp only [Act.put, List.setIfInBounds_toArray, List.set_cons_zero, List.set_cons_succ]
                refine wpAnyH_take (i := 8) (oi := ({ dst := some 115, op := Op.move (Operand.tmp 114), type := 4, pos := _, after := #[{ on := 7, ground := Ground.data }, { on := 1, ground := Ground.chain }], guard := none })) (v := ?_) rfl (by kernel_rfl) (by kernel_rfl) (by kernel_rfl) (fun _ _ _ h => h) (Or.inl ⟨by rfl, ?_⟩) (by assumption) ?_
                rotate_left
                · (intro wq hSw; (try dsimp only at hSw); go_simp; try with_reducible rfl)
                try simp only [Act.put, List.setIfInBounds_toArray, List.set_cons_zero, List.set_cons_succ]
                refine wpAnyH_take (i := 9) (oi := ({ dst := some 116, op := Op.move (Operand.tmp 7), type := 24, pos := _, after := #[{ on := 8, ground := Ground.guard }], guard := some (8, false) })) (v := ?_) rfl (by kernel_rfl) (by kernel_rfl) (by kernel_rfl) (fun _ _ _ h => h) (Or.inl ⟨by rfl, ?_⟩) (by assumption) ?_
                rotate_left
                · (intro wq hSw; (try dsimp only at hSw); go_simp; try with_reducible rfl)
                try simp only [Act.put, List.setIfInBounds_toArray, List.set_cons_zero, List.set_cons_succ]
                refine wpAnyH_take (i := 11) (oi := ({ dst := some 118, op := Op.move (Operand.tmp 8), type := 26, pos := _, after := #[{ on := 8, ground := Ground.guard }], guard := some (8, false) })) (v := ?_) rfl (by kernel_rfl) (by kernel_rfl) (by kernel_rfl) (fun _ _ _ h => h) (Or.inl ⟨by rfl, ?_⟩) (by assumption) ?_
                rotate_left
                · (intro wq hSw; (try dsimp only at hSw); go_simp; try with_reducible rfl)
                try simp only [Act.put, List.setIfInBounds_toArray, List.set_cons_zero, List.set_cons_succ]
                refine wpAnyH_take (i := 12) (oi := ({ dst := some 119, op := Op.nilCheck (Operand.tmp 118), type := 0, pos := _, after := #[{ on := 11, ground := Ground.data }, { on := 8, ground := Ground.guard }], guard := some (8, false) })) (v := ?_) rfl (by kernel_rfl) (by kernel_rfl) (by kernel_rfl) (fun _ _ _ h => h) (Or.inl ⟨by rfl, ?_⟩) (by assumption) ?_
                rotate_left
                · (intro wq hSw; (try dsimp only at hSw); go_simp; try with_reducible rfl)
                try simp only [Act.put, List.setIfInBounds_toArray, List.set_cons_zero, List.set_cons_succ]
                refine wpAnyH_take (i := 13) (oi := ({ dst := some 120, op := Op.fieldAddr 35 (Operand.tmp 119) 1, type := 0, pos := _, after := #[{ on := 12, ground := Ground.data }, { on := 8, ground := Ground.guard }], guard := some (8, false) })) (v := ?_) rfl (by kernel_rfl) (by kernel_rfl) (by kernel_rfl) (fun _ _ _ h => h) (Or.inl ⟨by rfl, ?_⟩) (by assumption) ?_
                rotate_left
                · (intro wq hSw; (try dsimp only at hSw); go_simp; try with_reducible rfl)
                try simp only [Act.put, List.setIfInBounds_toArray, List.set_cons_zero, List.set_cons_succ]
                refine wpAnyH_take (i := 14) (oi := ({ dst := some 121, op := Op.load 3 (Operand.tmp 120), type := 3, pos := _, after := #[{ on := 13, ground := Ground.data }, { on := 8, ground := Ground.guard }], guard := some (8, false) })) (v := ?_) rfl (by kernel_rfl) (by kernel_rfl) (by kernel_rfl) (fun _ _ _ h => h) (Or.inl ⟨by rfl, ?_⟩) (by assumption) ?_
                rotate_left
                · (intro wq hSw; (try dsimp only at hSw); go_simp; try with_reducible rfl)
                try simp only [Act.put, List.setIfInBounds_toArray, List.set_cons_zero, List.set_cons_succ]
                refine wpAnyH_take (i := 15) (oi := ({ dst := some 122, op := Op.move (Operand.tmp 8), type := 26, pos := _, after := #[{ on := 8, ground := Ground.guard }], guard := some (8, false) })) (v := ?_) rfl (by kernel_rfl) (by kernel_rfl) (by kernel_rfl) (fun _ _ _ h => h) (Or.inl ⟨by rfl, ?_⟩) (by assumption) ?_
                rotate_left
                · (intro wq hSw; (try dsimp only at hSw); go_simp; try with_reducible rfl)
                try simp only [Act.put, List.setIfInBounds_toArray, List.set_cons_zero, List.set_cons_succ]
                refine wpAnyH_take (i := 16) (oi := ({ dst := some 123, op := Op.nilCheck (Operand.tmp 122), type := 0, pos := _, after := #[{ on := 15, ground := Ground.data }, { on := 8, ground := Ground.guard }], guard := some (8, false) })) (v := ?_) rfl (by kernel_rfl) (by kernel_rfl) (by kernel_rfl) (fun _ _ _ h => h) (Or.inl ⟨by rfl, ?_⟩) (by assumption) ?_
                rotate_left
                · (intro wq hSw; (try dsimp only at hSw); go_simp; try with_reducible rfl)
                try simp only [Act.put, List.setIfInBounds_toArray, List.set_cons_zero, List.set_cons_succ]
                refine wpAnyH_take (i := 17) (oi := ({ dst := some 124, op := Op.fieldAddr 35 (Operand.tmp 123) 0, type := 0, pos := _, after := #[{ on := 16, ground := Ground.data }, { on := 8, ground := Ground.guard }], guard := some (8, false) })) (v := ?_) rfl (by kernel_rfl) (by kernel_rfl) (by kernel_rfl) (fun _ _ _ h => h) (Or.inl ⟨by rfl, ?_⟩) (by assumption) ?_
                rotate_left
                · (intro wq hSw; (try dsimp only at hSw); go_simp; try with_reducible rfl)
                try simp only [Act.put, List.setIfInBounds_toArray, List.set_cons_zero, List.set_cons_succ]
                refine wpAnyH_take (i := 18) (oi := ({ dst := some 125, op := Op.load 28 (Operand.tmp 124), type := 28, pos := _, after := #[{ on := 17, ground := Ground.data }, { on := 8, ground := Ground.guard }], guard := some (8, false) })) (v := ?_) rfl (by kernel_rfl) (by kernel_rfl) (by kernel_rfl) (fun _ _ _ h => h) (Or.inl ⟨by rfl, ?_⟩) (by assumption) ?_
                rotate_left
                · (intro wq hSw; (try dsimp only at hSw); go_simp; try with_reducible rfl)
                try simp only [Act.put, List.setIfInBounds_toArray, List.set_cons_zero, List.set_cons_succ]
                refine wpAnyH_take (i := 19) (oi := ({ dst := some 126, op := Op.call { callee := Callee.builtin Builtin.len, args := #[Operand.tmp 125], argTypes := #[28] }, type := 3, pos := _, after := #[{ on := 18, ground := Ground.data }, { on := 8, ground := Ground.guard }], guard := some (8, false) })) (v := ?_) rfl (by kernel_rfl) (by kernel_rfl) (by kernel_rfl) (fun _ _ _ h => h) (Or.inl ⟨by rfl, ?_⟩) (by assumption) ?_
                rotate_left
                · (intro wq hSw; (try dsimp only at hSw); go_simp; try with_reducible rfl)
                try simp only [Act.put, List.setIfInBounds_toArray, List.set_cons_zero, List.set_cons_succ]
                refine wpAnyH_take (i := 20) (oi := ({ dst := some 127, op := Op.binOp BinOp.sub 3 (Operand.tmp 121) (Operand.tmp 126) 3, type := 3, pos := _, after := #[{ on := 14, ground := Ground.data }, { on := 19, ground := Ground.data }, { on := 8, ground := Ground.guard }], guard := some (8, false) })) (v := ?_) rfl (by kernel_rfl) (by kernel_rfl) (by kernel_rfl) (fun _ _ _ h => h) (Or.inl ⟨by rfl, ?_⟩) (by assumption) ?_
                rotate_left
                · (intro wq hSw; (try dsimp only at hSw); go_simp; try with_reducible rfl)
                try simp only [Act.put, List.setIfInBounds_toArray, List.set_cons_zero, List.set_cons_succ]
                refine wpAnyH_ready (rs := [10]) (by kernel_rfl) (by simp) ?_
                refine AllReadyH.cons (o := ({ dst := some 117, op := Op.call { callee := Callee.value (Operand.func 16), args := #[Operand.tmp 116], argTypes := #[24] }, type := 3, pos := _, after := #[{ on := 9, ground := Ground.data }, { on := 8, ground := Ground.chain }, { on := 8, ground := Ground.guard }], guard := some (8, false) })) rfl (fun K hK => ?_) AllReadyH.nil
                go_simp
                go_at_call 16
                refine (room_any wc.drew g rb cap B2 (unhid_ HQ3)).mono ?_
                rintro e w' ⟨rfl, q, rfl⟩
                refine hK.out _ _ ?_ (fun hHeld => ?_)
                · exact ⟨d0, d1, conv_any R2.out⟩
                clear hK K
                try simp only [Act.put, List.setIfInBounds_toArray, List.set_cons_zero, List.set_cons_succ]
                refine wpAnyH_take (i := 21) (oi := ({ dst := some 128, op := Op.binOp BinOp.neq 3 (Operand.tmp 117) (Operand.tmp 127) 3, type := 4, pos := _, after := #[{ on := 10, ground := Ground.data }, { on := 20, ground := Ground.data }, { on := 8, ground := Ground.guard }], guard := some (8, false) })) (v := ?_) rfl (by kernel_rfl) (by kernel_rfl) (by kernel_rfl) (fun _ _ _ h => h) (Or.inl ⟨by rfl, ?_⟩) (by assumption) ?_
                rotate_left
                · (intro wq hSw; (try dsimp only at hSw); go_simp; try with_reducible rfl)
                try simp only [Act.put, List.setIfInBounds_toArray, List.set_cons_zero, List.set_cons_succ]
                refine wpAnyH_take (i := 22) (oi := ({ dst := some 129, op := Op.pick (Operand.tmp 115) (Operand.const (Value.bool true)) (Operand.tmp 128), type := 4, pos := _, after := #[{ on := 8, ground := Ground.data }, { on := 21, ground := Ground.data }], guard := none })) (v := ?_) rfl (by kernel_rfl) (by kernel_rfl) (by kernel_rfl) (fun _ _ _ h => h) (Or.inl ⟨by rfl, ?_⟩) (by assumption) ?_
                rotate_left
                · (intro wq hSw; (try dsimp only at hSw); go_simp; try with_reducible rfl)
                try simp only [Act.put, List.setIfInBounds_toArray, List.set_cons_zero, List.set_cons_succ]
                refine wpAnyH_take (i := 23) (oi := ({ dst := some 130, op := Op.move (Operand.tmp 129), type := 4, pos := _, after := #[{ on := 22, ground := Ground.data }, { on := 10, ground := Ground.chain }], guard := none })) (v := ?_) rfl (by kernel_rfl) (by kernel_rfl) (by kernel_rfl) (fun _ _ _ h => h) (Or.inl ⟨by rfl, ?_⟩) (by assumption) ?_
                rotate_left
                · (intro wq hSw; (try dsimp only at hSw); go_simp; try with_reducible rfl)
                try simp only [Act.put, List.setIfInBounds_toArray, List.set_cons_zero, List.set_cons_succ]
                refine wpAnyH_take (i := 24) (oi := ({ dst := some 131, op := Op.move (Operand.tmp 7), type := 24, pos := _, after := #[{ on := 23, ground := Ground.guard }], guard := some (23, false) })) (v := ?_) rfl (by kernel_rfl) (by kernel_rfl) (by kernel_rfl) (fun _ _ _ h => h) (Or.inl ⟨by rfl, ?_⟩) (by assumption) ?_
                rotate_left
                · (intro wq hSw; (try dsimp only at hSw); go_simp; try with_reducible rfl)
                try simp only [Act.put, List.setIfInBounds_toArray, List.set_cons_zero, List.set_cons_succ]
                refine wpAnyH_take (i := 27) (oi := ({ dst := some 134, op := Op.move (Operand.tmp 8), type := 26, pos := _, after := #[{ on := 23, ground := Ground.guard }], guard := some (23, false) })) (v := ?_) rfl (by kernel_rfl) (by kernel_rfl) (by kernel_rfl) (fun _ _ _ h => h) (Or.inl ⟨by rfl, ?_⟩) (by assumption) ?_
                rotate_left
                · (intro wq hSw; (try dsimp only at hSw); go_simp; try with_reducible rfl)
                try simp only [Act.put, List.setIfInBounds_toArray, List.set_cons_zero, List.set_cons_succ]
                refine wpAnyH_take (i := 28) (oi := ({ dst := some 135, op := Op.nilCheck (Operand.tmp 134), type := 0, pos := _, after := #[{ on := 27, ground := Ground.data }, { on := 23, ground := Ground.guard }], guard := some (23, false) })) (v := ?_) rfl (by kernel_rfl) (by kernel_rfl) (by kernel_rfl) (fun _ _ _ h => h) (Or.inl ⟨by rfl, ?_⟩) (by assumption) ?_
                rotate_left
                · (intro wq hSw; (try dsimp only at hSw); go_simp; try with_reducible rfl)
                try simp only [Act.put, List.setIfInBounds_toArray, List.set_cons_zero, List.set_cons_succ]
                refine wpAnyH_take (i := 29) (oi := ({ dst := some 136, op := Op.fieldAddr 35 (Operand.tmp 135) 0, type := 0, pos := _, after := #[{ on := 28, ground := Ground.data }, { on := 23, ground := Ground.guard }], guard := some (23, false) })) (v := ?_) rfl (by kernel_rfl) (by kernel_rfl) (by kernel_rfl) (fun _ _ _ h => h) (Or.inl ⟨by rfl, ?_⟩) (by assumption) ?_
                rotate_left
                · (intro wq hSw; (try dsimp only at hSw); go_simp; try with_reducible rfl)
                try simp only [Act.put, List.setIfInBounds_toArray, List.set_cons_zero, List.set_cons_succ]
                refine wpAnyH_take (i := 30) (oi := ({ dst := some 137, op := Op.load 28 (Operand.tmp 136), type := 28, pos := _, after := #[{ on := 29, ground := Ground.data }, { on := 23, ground := Ground.guard }], guard := some (23, false) })) (v := ?_) rfl (by kernel_rfl) (by kernel_rfl) (by kernel_rfl) (fun _ _ _ h => h) (Or.inl ⟨by rfl, ?_⟩) (by assumption) ?_
                rotate_left
                · (intro wq hSw; (try dsimp only at hSw); go_simp; try with_reducible rfl)
                try simp only [Act.put, List.setIfInBounds_toArray, List.set_cons_zero, List.set_cons_succ]
                refine wpAnyH_take (i := 31) (oi := ({ dst := some 138, op := Op.convert 28 9 (Operand.tmp 137), type := 9, pos := _, after := #[{ on := 30, ground := Ground.data }, { on := 23, ground := Ground.guard }], guard := some (23, false) })) (v := ?_) rfl (by kernel_rfl) (by kernel_rfl) (by kernel_rfl) (fun _ _ _ h => h) (Or.inl ⟨by rfl, ?_⟩) (by assumption) ?_
                rotate_left
                · (intro wq hSw; (try dsimp only at hSw); go_simp; try with_reducible rfl)
                try simp only [Act.put, List.setIfInBounds_toArray, List.set_cons_zero, List.set_cons_succ]
                refine wpAnyH_ready (rs := [25]) (by kernel_rfl) (by simp) ?_
                refine AllReadyH.cons (o := ({ dst := some 132, op := Op.call { callee := Callee.value (Operand.func 17), args := #[Operand.tmp 131], argTypes := #[24] }, type := 28, pos := _, after := #[{ on := 24, ground := Ground.data }, { on := 23, ground := Ground.chain }, { on := 23, ground := Ground.guard }], guard := some (23, false) })) rfl (fun K hK => ?_) AllReadyH.nil
                go_simp
                go_at_call 17
                refine (bytes_any (wc.drewN (1 + q)) g rb cap B2 (unhid_ HQ3)).mono ?_
                rintro e w7 ⟨rfl, q3, hw7⟩
                have hblk7 : Blk w7 wc.heap.size 5 (By B2) := by rw [hw7]; exact Blk.drewN (Blk.new (wc.drewN (1 + q)) 5 (By B2)) q3
                have ho7 : Only [] wc w7 := by rw [hw7]; exact (((Only.refl _ wc).drewN (1 + q)).alloc _).drewN _
                have hcv7 := conv_blk (c := B2.length) hblk7 (Nat.le_refl _)
                rw [List.take_length] at hcv7
                clear hw7
                refine hK.out _ _ ?_ (fun hHeld => ?_)
                · exact ⟨(cell_only ho7 (show hw < _ by omega) (by simp)).trans d0, (cell_only ho7 (show hw < _ by omega) (by simp)).trans d1, conv_any (ho7.reads R2.out (Nat.le_refl _) (by simp))⟩
                clear hK K
                try simp only [Act.put, List.setIfInBounds_toArray, List.set_cons_zero, List.set_cons_succ]
                refine wpAnyH_ready (rs := [26]) (by kernel_rfl) (by simp) ?_
                refine AllReadyH.cons (o := ({ dst := some 133, op := Op.convert 28 9 (Operand.tmp 132), type := 9, pos := _, after := #[{ on := 25, ground := Ground.data }, { on := 23, ground := Ground.guard }], guard := some (23, false) })) rfl (fun K hK => ?_) AllReadyH.nil
                go_simp
                skip
                refine hK.out _ _ ?_ (fun hHeld => ?_)
                · exact ⟨(cell_only ho7 (show hw < _ by omega) (by simp)).trans d0, (cell_only ho7 (show hw < _ by omega) (by simp)).trans d1, conv_any (ho7.reads R2.out (Nat.le_refl _) (by simp))⟩
                clear hK K
                try simp only [Act.put, List.setIfInBounds_toArray, List.set_cons_zero, List.set_cons_succ]
                refine wpAnyH_take (i := 32) (oi := ({ dst := some 139, op := Op.binOp BinOp.neq 9 (Operand.tmp 133) (Operand.tmp 138) 9, type := 4, pos := _, after := #[{ on := 26, ground := Ground.data }, { on := 31, ground := Ground.data }, { on := 23, ground := Ground.guard }], guard := some (23, false) })) (v := ?_) rfl (by kernel_rfl) (by kernel_rfl) (by kernel_rfl) (fun _ _ _ h => h) (Or.inl ⟨by rfl, ?_⟩) (by assumption) ?_
                rotate_left
                · (intro wq hSw; (try dsimp only at hSw); go_simp; try with_reducible rfl)
                try simp only [Act.put, List.setIfInBounds_toArray, List.set_cons_zero, List.set_cons_succ]
                refine wpAnyH_take (i := 33) (oi := ({ dst := some 140, op := Op.pick (Operand.tmp 130) (Operand.const (Value.bool true)) (Operand.tmp 139), type := 4, pos := _, after := #[{ on := 23, ground := Ground.data }, { on := 32, ground := Ground.data }], guard := none })) (v := ?_) rfl (by kernel_rfl) (by kernel_rfl) (by kernel_rfl) (fun _ _ _ h => h) (Or.inl ⟨by rfl, ?_⟩) (by assumption) ?_
                rotate_left
                · (intro wq hSw; (try dsimp only at hSw); go_simp; try with_reducible rfl)
                try simp only [Act.put, List.setIfInBounds_toArray, List.set_cons_zero, List.set_cons_succ]
                refine wpAnyH_done (by kernel_rfl) ?_ _
                clear d0 d1 hcv7 hwrap
                have HO7 := hide ho7
                clear ho7 hblk7
                go_wp2
                go_roundw
                case rel => exact ⟨k + 1, B2, by omega, by go_num, (unhid_ HQ3).only (unhid_ HO7) (by simp) (by simp), (unhid_ HV3).only (unhid_ HO7) (by simp) (by simp), (unhid_ HB3).trans ((unhid_ HO7).below (by simp) (unhid_ HB3).size), by have := (unhid_ HO7).size; omega⟩
                case measure => simp [intOf]; omega
end Go.Proofs.Ytagopgoelgmibaa
