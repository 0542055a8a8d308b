/- The walk of the law PathBack. -/
import Derived.Test.YtgkjmhbkalkfkaaDoorPSplits
import Derived.Test.YtgkjmhbkalkfkaaDoorPParent
import Derived.Test.YtgkjmhbkalkfkaaDoorPlace
import Derived.StillTailTactics
namespace Go.Proofs.YtgkjmhbkalkfkaaDoor
open Go.RowKit
set_option linter.unusedSimpArgs false
set_option linter.unusedVariables false

def wordAt : Nat → ByteArray
  | 0 => ⟨#[97]⟩
  | 1 => ⟨#[98, 46, 99]⟩
  | 2 => ⟨#[120, 95, 49]⟩
  | 3 => ⟨#[48, 45, 57]⟩
  | _ => ⟨#[122, 122, 122, 122, 122, 122, 122, 122, 122, 122]⟩
def words : Array Value := #[.string ⟨#[97]⟩, .string ⟨#[98, 46, 99]⟩, .string ⟨#[120, 95, 49]⟩, .string ⟨#[48, 45, 57]⟩, .string ⟨#[122, 122, 122, 122, 122, 122, 122, 122, 122, 122]⟩]
theorem wordAt_good : ∀ k, nameOk (wordAt k) = true ∧ (wordAt k).size ≤ 10
  | 0 => by decide +kernel
  | 1 => by decide +kernel
  | 2 => by decide +kernel
  | 3 => by decide +kernel
  | _ + 4 => by show nameOk (⟨#[122, 122, 122, 122, 122, 122, 122, 122, 122, 122]⟩ : ByteArray) = true ∧ (⟨#[122, 122, 122, 122, 122, 122, 122, 122, 122, 122]⟩ : ByteArray).size ≤ 10; decide +kernel
theorem run_index_one {P : Program} (w : World) (t e : TypeId) (n k : Nat) (cs : Array Value) (v : Value) (d : TypeDesc) (h : P.underlying t = some (.array n e)) (he : P.underlying e = some d) (hd : d.isRow = false) (hi : (P.info? e).map (·.size) = some 1) (hk : k < n) (hv : cs[k]? = some v) :
    (Instr.index t (.agg cs) (.int .i64 k)).run P w = .ok v w := by
  cases hq : P.info? e with
  | none => simp [hq] at hi
  | some i =>
    have hs : i.size = 1 := by simpa [hq] using hi
    have hagg : (isAgg e).run P w = .ok false w := by
      unfold isAgg
      rw [Sem.run_bind, run_underlying he w]
      cases d <;> simp_all
    have hk' : (k : Int) < n := by omega
    simp [Instr.index, run_underlying h, asIntOf, Sem.run_bind, part, hagg, sizeOf, typeInfo, hq, hs, hk, hk', hv]
theorem words_at {k : Nat} (hk : k < 5) (w : World) : (Instr.index 33 (.agg words) (.int .i64 k)).run Tryd.prog w = .ok (.string (wordAt k)) w := by
  refine run_index_one w 33 9 5 k _ _ _ Tryd.underlying33 Tryd.underlying9 rfl (by kernel_rfl) hk ?_
  match k, hk with
  | 0, _ => rfl
  | 1, _ => rfl
  | 2, _ => rfl
  | 3, _ => rfl
  | 4, _ => rfl

theorem own_take {w : World} {base c : Nat} {e : TypeId} {A : Option Addr} {n k : Nat} {xs : List Value} (h : w.ownsRow base e 1 (.slice A n c) n xs) (hk : k ≤ n) : w.ownsRow base e 1 (.slice A k c) k (xs.take k) := by
  have hl := h.1
  refine ⟨by rw [List.length_take]; omega, ?_⟩
  rcases h.2 with ⟨h1, h2⟩ | ⟨g, cap, cur, hv, hb, hh, hnc, hcm, hsz, ht⟩
  · injection h1 with e1 e2 e3
    subst e1 e3
    obtain rfl : k = 0 := by omega
    exact .inl ⟨rfl, rfl⟩
  · injection hv with e1 e2 e3
    subst e1 e3
    refine .inr ⟨g, c, cur, rfl, hb, hh, by omega, hcm, hsz, ?_⟩
    rw [← ht, List.take_take]
    congr 1
    omega
theorem wt_le (xs : List ByteArray) (h : ∀ x ∈ xs, nameOk x = true ∧ x.size ≤ 10) : wt xs ≤ xs.length * 11 := by
  induction xs with
  | nil => exact Nat.zero_le _
  | cons x xs ih =>
    have h1 := (h x (by simp)).2
    have h2 := ih (fun y hy => h y (by simp [hy]))
    have e : wt (x :: xs) = x.size + 1 + wt xs := by simp only [wt, List.map_cons, List.sum_cons]
    rw [e, List.length_cons]
    omega
theorem under_take (xs : List ByteArray) (k : Nat) (hk : k ≤ xs.length) : underP xs (xs.take k) = true := by
  rw [underP, Bool.and_eq_true]
  have hl : (xs.take k).length = k := by rw [List.length_take]; omega
  exact ⟨by rw [hl]; exact decide_eq_true hk, decide_eq_true (by rw [hl])⟩
theorem take_under (xs : List ByteArray) (k : Nat) (hk : k ≤ xs.length) : underP (xs.take k) xs = ((k : Int) == (xs.length : Int)) := by
  have hl : (xs.take k).length = k := by rw [List.length_take]; omega
  rcases Nat.lt_or_ge k xs.length with h | h
  · rw [underP, hl, decide_eq_false (by omega), Bool.false_and, eq_comm, beq_eq_false_iff_ne]
    omega
  · obtain rfl : k = xs.length := by omega
    rw [underP, hl, decide_eq_true (Nat.le_refl _), Bool.true_and, List.take_length, List.take_length]
    simp

set_option maxHeartbeats 4000000 in
theorem pathBack_any (A : Option Addr) (n c : Nat) (zs : List Int) (w : World) (m : Int) (hm : w.cell? ⟨0, 0, none⟩ = some (.int .i64 m)) (hr : Reads w w.heap.size 1 A n (zs.map (Value.int .i64))) (hnc : n ≤ c) (hc63 : c ≤ 9223372036854775807) (hwz : ∀ z ∈ zs, (Lit.int .i64 z).wf = true) :
    Calls Tryd.prog 6 #[.slice A n c] w (Yes w) := by
  have HM := Lib.hid hm
  have HAW := hide (fun (w1 : World) (hb : Below w.heap.size w w1) => awake_at hm hb)
  have HR := hide hr
  obtain ⟨i0, hi0, hz0, hz1, hz2⟩ := info_parts info_str
  have hI0 := Lib.hid hi0
  clear hm hr hi0
  go_enter Tryd.func6, Tryd.ntmps6
  go_wp2_with fail
  go_loopw [3, 4] (fun v si wr => ∃ (k : Nat) (acc : List ByteArray), k ≤ 8 ∧ k ≤ n ∧ si = .int .i64 k ∧ acc.length = k ∧ (∀ x ∈ acc, nameOk x = true ∧ x.size ≤ 10) ∧ wr.ownsRow w.heap.size 9 1 v k (acc.map Value.string) ∧ Below w.heap.size w wr) (fun _ si _ => 8 - (intOf si).toNat)
  case atStart => exact ⟨0, [], by omega, by omega, rfl, rfl, fun _ h => (by cases h), World.ownsRow_nil _ _ _ _, Below.refl _ _⟩
  case round =>
    obtain ⟨k, acc, hk8, hkn, rfl, hlen, hgood, hown, hbq⟩ := hrel
    have HOWN := hide hown
    have HBQ := hide hbq
    have HG := hide hgood
    have HL := Lib.hid hlen
    have hzq := hbq.size
    by_cases hgo : k < n ∧ k < 8
    · obtain ⟨hkn', hk8'⟩ := hgo
      have hkI : (k : Int) < n := by omega
      have hk8I : (k : Int) < 8 := by omega
      obtain ⟨ad, u, rfl, hadb, hu, hcell⟩ := ((unhid_ HR).below hbq).at_ hkn'
      obtain ⟨z, hz, rfl⟩ : ∃ z, zs[k]? = some z ∧ Value.int .i64 z = u := by simpa using hu
      obtain ⟨pl, hpl, _, hplace⟩ := place_nat z 5 (by omega) (by omega)
      have HPL := hide hplace
      clear hown hbq hgood hlen hu hz hplace
      have a1 := words_at (k := pl) (by omega)
      obtain ⟨x, hx⟩ : ∃ x, x = wordAt pl := ⟨_, rfl⟩
      have hxg := wordAt_good pl
      rw [← hx] at hxg a1
      have HXG := hide hxg
      unfold words at a1
      clear hx hxg
      have hown2 := unhid_ HOWN
      go_wp2_with fail
      refine ((unhid_ HPL) _).mono ?_
      rintro e w' ⟨rfl, rfl⟩
      go_wp2_with ((at_builtin; refine wpList_append_any _ rfl _ _ _ rfl w.heap.size 9 i0 _ 1 16 Tryd.underlying23 hI0.out hz0 hz1 hz2 rfl (by omega) _ _ _ rfl (hown2.alloc _) (wr.heap.size + 1) (some ⟨wr.heap.size, 0, none⟩) 1 1 [.string x] rfl (Reads.one _ _ _) (by simp [Value.oneCell']) (by simp only [maxLen]; omega) (by omega) (by simp; omega) ?_; intro v1 w3 hown3 hg3 hat3))
      go_roundw
      case rel => exact ⟨k + 1, acc ++ [x], by omega, by omega, by go_num, by simp [HL.out], fun y hy => by
        rcases List.mem_append.1 hy with hy | hy
        · exact (unhid_ HG) y hy
        · obtain rfl := List.mem_singleton.1 hy
          exact unhid_ HXG, by simpa using hown3, ((unhid_ HBQ).alloc (by omega) _).grown hg3 (by simp; omega) (fun g hg => (hown2.lt g hg).1)⟩
      case measure => simp [intOf]; omega
    · have hcut : (fun (s : Value) (wx : World) => s = .bool false ∧ wx = wr) = (fun (s : Value) (wx : World) => s = .bool false ∧ wx = wr) := rfl
      clear hcut
      go_upto_region 3 with (fail)
      go_cut [16] (fun s wx => s = .bool false ∧ wx = wr)
      case first =>
        have hor : (k : Int) < n ∧ (8 : Int) ≤ k ∨ (n : Int) ≤ k := by omega
        clear hown hbq hgood hlen hgo
        rcases hor with ⟨h1, h2⟩ | h1
        · have d8 : decide ((k : Int) < 8) = false := by simp; omega
          go_wp2
          go_meet
          exact ⟨rfl, rfl⟩
        · go_wp2
          go_meet
          exact ⟨rfl, rfl⟩
      case rest =>
        obtain ⟨rfl, hwx⟩ := hcut
        have hwx2 := hwx.symm
        subst hwx2
        obtain ⟨A1, c1, rfl⟩ := own_slice hown
        have hwt := wt_le acc hgood
        have hgn : goodNames acc = true := by
          rw [goodNames, Bool.and_eq_true, List.all_eq_true]
          exact ⟨fun x hx => (hgood x hx).1, decide_eq_true (by omega)⟩
        have hsj := split_join acc hgn (by omega)
        have hjp := joinP_size acc
        have hjl := joinL_length acc
        have hjps : (joinP acc).size ≤ 1000 := by omega
        have hjls : (joinL acc).length ≤ 1000 := by omega
        have HSJ := Lib.hid hsj
        have HJLS := hide hjls
        obtain rfl := hlen
        have HTX := hide (texts_any _ A1 acc.length c1 acc wr (RS.of_own hown) (by omega))
        clear hown hbq hgood hgo hwt hgn hsj hjp hjl hjls HL
        go_wp2_with fail
        refine (unhid_ HTX).mono ?_
        rintro e w4 ⟨A4, c4, rfl, hown4, hb4⟩
        have HB4 := hide ((unhid_ HBQ).trans (hb4.mono (unhid_ HBQ).size))
        have HOWN4 := hide (own_only (unhid_ HOWN) (Only.of_below hb4 []) (by simp))
        have HJ := hide (join_any w4 _ c4 A4 acc hown4 (by omega) (by have := unhid_ HJLS; omega))
        clear hown4 hb4 HTX HBQ HOWN
        go_wp2_with fail
        refine (unhid_ HJ).mono ?_
        rintro e w5 ⟨rfl, hb5⟩
        have HB5 := hide ((unhid_ HB4).trans (hb5.mono (unhid_ HB4).size))
        have HOWN5 := hide (own_only (unhid_ HOWN4) (Only.of_below hb5 []) (by simp))
        obtain ⟨JP, hJP⟩ : ∃ J, J = joinP acc := ⟨_, rfl⟩
        have hag := HSJ.out
        rw [← hJP] at hag hjps ⊢
        have HSP := hide (split_any JP m w5 (max_of' HM.out (unhid_ HB5)) (by omega))
        have HAG2 := Lib.hid hag
        clear HSJ hJP hag hb5 HB4 HOWN4 HJ
        go_wp2_with fail
        refine (unhid_ HSP).mono ?_
        rintro e w6 ⟨hb6, hor⟩
        obtain ⟨A6, c6, rfl, hown6⟩ : ∃ A6 c6, e = .returned (.tuple #[.slice A6 acc.length c6, .bool true]) ∧ w6.ownsRow w5.heap.size 9 1 (.slice A6 acc.length c6) acc.length (acc.map Value.string) := by
          rcases hor with ⟨h, _⟩ | ⟨A, c, l', h, _, he, ho⟩
          · rw [HAG2.out] at h; cases h
          · rw [HAG2.out] at h
            injection h with h
            subst h
            exact ⟨A, c, he, ho⟩
        have HB6 := hide ((unhid_ HB5).trans (hb6.mono (unhid_ HB5).size))
        have hownm6 := own_only (unhid_ HOWN5) (Only.of_below hb6 []) (by simp)
        have HST := hide (sameTexts_any _ _ A6 A1 acc.length c6 acc.length c1 acc acc w6 (RS.of_own hown6) (RS.of_own hownm6) (by omega) (by omega))
        have HOWN6 := hide hownm6
        clear hor hb6 hownm6 hown6 HB5 HOWN5 HSP
        go_wp2_with fail
        refine (unhid_ HST).mono ?_
        rintro e w8 ⟨rfl, q8, rfl⟩
        simp only [decide_true]
        have HB8 := hide (belowN (unhid_ HB6) q8)
        have HOWN8 : Hid ((w6.drewN q8).ownsRow w.heap.size 9 1 (.slice A1 acc.length c1) acc.length (acc.map Value.string)) := hide (unhid_ HOWN6)
        obtain ⟨w9, hw9⟩ : ∃ w9, w9 = w6.drewN q8 := ⟨_, rfl⟩
        rw [← hw9] at HB8 HOWN8 ⊢
        clear HST HB6 HOWN6 hw9
        go_wp2_with fail
        have hc1 : acc.length ≤ c1 := by
          rcases (unhid_ HOWN8).2 with ⟨h1, h2⟩ | ⟨g', cap, cur, hv, hb, hh, hnc, _⟩
          · omega
          · injection hv with _ _ h3; omega
        go_loopw [8] (fun si wr => ∃ k : Nat, k ≤ acc.length + 1 ∧ si = .int .i64 k ∧ ∃ q, wr = w9.drewN q) (fun si _ => acc.length + 1 - (intOf si).toNat)
        case atStart => exact ⟨0, Nat.zero_le _, rfl, 0, rfl⟩
        case round =>
          obtain ⟨k, hk, rfl, q, rfl⟩ := hrel
          by_cases hle : k ≤ acc.length
          · have hleI : (k : Int) ≤ acc.length := by omega
            have hlk : (acc.take k).length = k := by rw [List.length_take]; omega
            have hot := own_take (k := k) (unhid_ HOWN8) hle
            rw [← List.map_take] at hot
            have hot2 : w9.ownsRow w.heap.size 9 1 (.slice A1 (acc.take k).length c1) (acc.take k).length ((acc.take k).map Value.string) := by rw [hlk]; exact hot
            have hu1 := fun q => under_any (w9.drewN q) _ c1 A1 acc _ c1 A1 (acc.take k) (unhid_ HOWN8) hot2 (by omega) (by omega)
            have hu2 := fun q => under_any (w9.drewN q) _ c1 A1 (acc.take k) _ c1 A1 acc hot2 (unhid_ HOWN8) (by omega) (by omega)
            rw [hlk, under_take acc k hle] at hu1
            rw [hlk, take_under acc k hle] at hu2
            obtain ⟨b, hb⟩ : ∃ b, ((k : Int) == (acc.length : Int)) = b := ⟨_, rfl⟩
            rw [hb] at hu2
            have HU1 := hide hu1
            have HU2 := hide hu2
            clear hu1 hu2 hot hot2 hlk
            go_wp2_with fail
            refine ((unhid_ HU1) q).mono ?_
            rintro e w10 ⟨rfl, q10, rfl⟩
            rw [World.drewN_drewN]
            go_wp2_with fail
            refine ((unhid_ HU2) (q + q10)).mono ?_
            rintro e w11 ⟨rfl, q11, rfl⟩
            rw [World.drewN_drewN]
            cases b
            all_goals
              go_wp2
              go_roundw
              case rel => exact ⟨k + 1, by omega, by go_num, _, rfl⟩
              case measure => simp [intOf]; omega
          · obtain rfl : k = acc.length + 1 := by omega
            have hgt : ¬ ((acc.length + 1 : Nat) : Int) ≤ acc.length := by omega
            have HBq := hide (belowN (unhid_ HB8) q)
            go_wp2_with fail
            refine ((unhid_ HAW) _ (unhid_ HBq)).mono ?_
            rintro e w12 ⟨rfl, hb12⟩
            go_wp2
            go_ret
            exact ⟨rfl, hb12⟩
end Go.Proofs.YtgkjmhbkalkfkaaDoor
