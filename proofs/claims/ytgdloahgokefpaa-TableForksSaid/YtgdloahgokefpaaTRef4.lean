/- The document's table: the walk of Uses. -/
import Derived.Test.YtgdloahgokefpaaTRef3
namespace Go.Proofs.Ytgdloahgokefpaa
open Go.RowKit
set_option linter.unusedSimpArgs false

/-- descriptors are none, or of some kind; there is no process 0 -/
def ROk (r : Nat → RpV) : Prop := (∀ p i, p < 13 → i < 8 → ((r p).f i).k = 0 → (r p).f i = FdV.zero) ∧ (r 0).f = fun _ => FdV.zero
def rF (r : Nat → RpV) : Nat → Nat → FdV := fun p => (r p).f
theorem readsF_le (F : Nat → Nat → FdV) (kind thing : Int) : ∀ k, readsF F kind thing k ≤ 8 * k
  | 0 => by simp [readsF]
  | k + 1 => by
    have := readsF_le F kind thing k
    have := cntR_le (F k) kind thing 8
    rw [reads_succF]; omega
theorem writesF_le (F : Nat → Nat → FdV) (kind thing : Int) : ∀ k, writesF F kind thing k ≤ 8 * k
  | 0 => by simp [writesF]
  | k + 1 => by
    have := writesF_le F kind thing k
    have := cntW_le (F k) kind thing 8
    rw [writes_succF]; omega
theorem cntW_zero (kind thing : Int) : ∀ n, cntW (fun _ => FdV.zero) kind thing n = 0
  | 0 => rfl
  | n + 1 => by rw [cntW_succ, cntW_zero kind thing n]; simp [FdV.counts]
theorem rcounts_bool {f : FdV} (kind thing : Int) (h : f.k = 0 → f = FdV.zero) : (!f.counts kind thing) = ((f.k != kind || f.k == 0) || f.t != thing) := by
  unfold FdV.counts
  by_cases h0 : f.k = 0
  · have := h h0
    subst this
    simp [FdV.zero]
  · have hz : ¬ f = FdV.zero := fun e => h0 (by rw [e]; rfl)
    have e0 : (f.k == 0) = false := by simpa using h0
    have ez : decide (f = FdV.zero) = false := by simp [hz]
    rw [e0, ez]
    by_cases h1 : f.k = kind <;> by_cases h2 : f.t = thing <;> simp [h1, h2]

set_option maxHeartbeats 4000000 in
theorem ruses_any (w : World) (g : Nat) (r : Nat → RpV) (kind thing : Int) (h : IsR w g r) (hok : ROk r) :
    Calls Try.prog 36 #[.pointer (some ⟨g, 0, none⟩), .int .i64 kind, .int .i64 thing] w fun e w' => e = .returned (.tuple #[.int .i64 (readsF (rF r) kind thing 13), .int .i64 (writesF (rF r) kind thing 13)]) ∧ Below w.heap.size w w' := by
  have hlt := h.lt
  have H := hide h
  have HOK := hide hok
  clear h hok
  go_enter Try.func36, Try.ntmps36
  go_wp2
  go_loopw [8, 9, 10, 11, 12] (fun s8 s9 s10 _ _ wq => ∃ k : Nat, 1 ≤ k ∧ k ≤ 13 ∧ s10 = .int .i64 k ∧ s8 = .int .i64 (readsF (rF r) kind thing k) ∧ s9 = .int .i64 (writesF (rF r) kind thing k) ∧ Below w.heap.size w wq) (fun _ _ s10 _ _ _ => 13 - (intOf s10).toNat)
  case atStart =>
    have e1 : readsF (rF r) kind thing 1 = 0 := by rw [reads_succF, show rF r 0 = fun _ => FdV.zero from (unhid_ HOK).2, cntR_zero]; rfl
    have e2 : writesF (rF r) kind thing 1 = 0 := by rw [writes_succF, show rF r 0 = fun _ => FdV.zero from (unhid_ HOK).2, cntW_zero]; rfl
    exact ⟨1, Nat.le_refl _, by omega, rfl, by rw [e1]; rfl, by rw [e2]; rfl, Below.refl _ _⟩
  case round =>
    obtain ⟨k, hk1, hk, rfl, rfl, rfl, hb⟩ := hrel
    have HBk := hide hb
    clear hb
    by_cases hlt13 : k < 13
    · have hkI : (k : Int) ≤ 12 := by omega
      go_wp2
      go_loopw [8, 9, 11, 12] (fun s8 s9 s11 _ wq => ∃ i : Nat, i ≤ 8 ∧ s11 = .int .i64 i ∧ s8 = .int .i64 ((readsF (rF r) kind thing k + cntR (rF r k) kind thing i : Nat) : Int) ∧ s9 = .int .i64 ((writesF (rF r) kind thing k + cntW (rF r k) kind thing i : Nat) : Int) ∧ Below w.heap.size w wq) (fun _ _ s11 _ _ => 8 - (intOf s11).toNat)
      case atStart => exact ⟨0, Nat.zero_le _, rfl, by simp [cntR], by simp [cntW], unhid_ HBk⟩
      case round =>
        obtain ⟨i, hi, rfl, rfl, rfl, hb2⟩ := hrel
        have b1 := readsF_le (rF r) kind thing k
        have b2 := writesF_le (rF r) kind thing k
        have b3 := cntR_le (rF r k) kind thing i
        have b4 := cntW_le (rF r k) kind thing i
        by_cases hi8 : i < 8
        · have hiI : (i : Int) < 8 := by omega
          have hR := Lib.hid (cntR_succ (rF r k) kind thing i)
          have hW := Lib.hid (cntW_succ (rF r k) kind thing i)
          have HT := (unhid_ H).below hb2 hlt
          obtain ⟨e0, e1, e2, e3, _, _, _, _⟩ := HT.fdFacts hlt13 hi8
          have hfz := (unhid_ HOK).1 k i hlt13 hi8
          obtain ⟨f, hf⟩ : ∃ f, f = (r k).f i := ⟨_, rfl⟩
          rw [← hf] at e0 e1 e2 e3 hfz
          have hf' : f = rF r k i := hf
          rw [← hf'] at hR hW
          obtain ⟨R, hRe⟩ : ∃ R, R = readsF (rF r) kind thing k + cntR (rF r k) kind thing i := ⟨_, rfl⟩
          obtain ⟨W, hWe⟩ : ∃ W, W = writesF (rF r) kind thing k + cntW (rF r k) kind thing i := ⟨_, rfl⟩
          rw [← hRe, ← hWe]
          have HRE := Lib.hid hRe
          have HWE := Lib.hid hWe
          have hR1 : R ≤ 200 := by omega
          have hW1 : W ≤ 200 := by omega
          have HB2 := hide hb2
          have HFZ := hide hfz
          clear b1 b2 b3 b4 hf hf' hRe hWe HT hb2 hfz
          go_upto_region 10 with (fail)
          obtain ⟨wn, hwn⟩ : ∃ wn, wn = wr.alloc (.cells #[.int .i64 f.k, .int .i64 f.t, .int .i64 f.a, .bool f.w] 53) := ⟨_, rfl⟩
          rw [← hwn]
          have hbn : Below w.heap.size w wn := by rw [hwn]; exact (unhid_ HB2).alloc (unhid_ HB2).size _
          have hblk : Blk wn wr.heap.size 53 #[.int .i64 f.k, .int .i64 f.t, .int .i64 f.a, .bool f.w] := by rw [hwn]; exact Blk.new _ _ _
          have d0 : wn.cell? ⟨wr.heap.size, 0, none⟩ = some (.int .i64 f.k) := hblk.cell 0
          have d1 : wn.cell? ⟨wr.heap.size, 1, none⟩ = some (.int .i64 f.t) := hblk.cell 1
          have d2 : wn.cell? ⟨wr.heap.size, 2, none⟩ = some (.int .i64 f.a) := hblk.cell 2
          have d3 : wn.cell? ⟨wr.heap.size, 3, none⟩ = some (.bool f.w) := hblk.cell 3
          have HBN := hide hbn
          clear hwn hblk hbn e0 e1 e2 e3
          go_cut [44] (fun s44 wx => s44 = .bool (!f.counts kind thing) ∧ wx = wn)
          case first =>
            have hz0' := rcounts_bool kind thing (unhid_ HFZ)
            obtain ⟨z0, hz0⟩ : ∃ b, (f.k == 0) = b := ⟨_, rfl⟩
            obtain ⟨k0, hk0⟩ : ∃ b, (f.k != kind) = b := ⟨_, rfl⟩
            obtain ⟨k1, hk1'⟩ : ∃ b, (f.t != thing) = b := ⟨_, rfl⟩
            rw [hz0, hk0, hk1'] at hz0'
            have hz := Lib.hid hz0'
            clear hz0'
            cases k0 <;> cases z0 <;> cases k1
            all_goals
              go_wp2
              go_meet
              exact ⟨by rw [hz.out]; rfl, rfl⟩
          case rest =>
            obtain ⟨rfl, hwx⟩ := hcut
            have hwx2 := hwx.symm
            subst hwx2
            cases hc : f.counts kind thing with
            | false =>
              go_wp2
              go_roundw
              case rel => exact ⟨i + 1, by omega, by go_num, by rw [hR.out, if_neg (by rw [hc]; simp), HRE.out]; rfl, by rw [hW.out, if_neg (by rw [hc]; simp), HWE.out]; rfl, unhid_ HBN⟩
              case measure => simp [intOf]; omega
            | true =>
              obtain ⟨b3, hb3⟩ : ∃ b, (kind == 3) = b := ⟨_, rfl⟩
              obtain ⟨fw, hfw⟩ : ∃ b, f.w = b := ⟨_, rfl⟩
              rw [hfw] at d3
              have hw : f.asWrite kind = (b3 && fw) := by rw [← hb3, ← hfw]; unfold FdV.asWrite; congr 1
              rw [hw, hc] at hR hW
              clear hfw hw
              cases fw with
              | false =>
                rw [Bool.and_false] at hR hW
                go_wp2
                go_roundw
                case rel => exact ⟨i + 1, by omega, by go_num, by rw [hR.out, if_pos (by simp), ← Nat.add_assoc, ← HRE.out]; go_num, by rw [hW.out, if_neg (by simp), HWE.out]; rfl, unhid_ HBN⟩
                case measure => simp [intOf]; omega
              | true =>
                cases b3 with
                | false =>
                  go_wp2
                  go_roundw
                  case rel => exact ⟨i + 1, by omega, by go_num, by rw [hR.out, if_pos (by simp), ← Nat.add_assoc, ← HRE.out]; go_num, by rw [hW.out, if_neg (by simp), HWE.out]; rfl, unhid_ HBN⟩
                  case measure => simp [intOf]; omega
                | true =>
                  go_wp2
                  go_roundw
                  case rel => exact ⟨i + 1, by omega, by go_num, by rw [hR.out, if_neg (by simp), HRE.out]; rfl, by rw [hW.out, if_pos (by simp), ← Nat.add_assoc, ← HWE.out]; go_num, unhid_ HBN⟩
                  case measure => simp [intOf]; omega
        · obtain rfl : i = 8 := by omega
          have hR := reads_succF (rF r) kind thing k
          have hW := writes_succF (rF r) kind thing k
          rw [← hR, ← hW, show ((8 : Nat) : Int) = 8 from rfl]
          have HB2 := hide hb2
          clear hR hW b1 b2 b3 b4 hb2
          go_wp2
          go_roundw
          case rel => exact ⟨k + 1, by omega, by omega, by go_num, rfl, rfl, unhid_ HB2⟩
          case measure => simp [intOf]; omega
    · obtain rfl : k = 13 := by omega
      go_wp2
      go_ret2
      exact ⟨rfl, unhid_ HBk⟩
end Go.Proofs.Ytgdloahgokefpaa
