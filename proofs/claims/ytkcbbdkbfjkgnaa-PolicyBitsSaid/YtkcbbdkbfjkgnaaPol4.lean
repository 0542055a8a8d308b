/- The walks of Check and May: a config as eight numbers. -/
import Derived.Test.YtkcbbdkbfjkgnaaPol3
namespace Go.Proofs.Ytkcbbdkbfjkgnaa
open Go.RowKit

/-- a config's cells -/
def confCells (rs : List Int) : Array Value := (rs.map (Value.int .i64)).toArray
theorem conf_at (rs : List Int) (p : Nat) (hp : p < rs.length) : (confCells rs)[p]? = some (.int .i64 rs[p]) := by
  simp [confCells, List.getElem?_map, List.getElem?_eq_getElem hp]
theorem conf_at' (rs : List Int) (p : Nat) (hp : p < rs.length) (h : p < (confCells rs).size) : (confCells rs)[p] = .int .i64 rs[p] := by
  simp [confCells]
theorem conf_size (rs : List Int) : (confCells rs).size = rs.length := by simp [confCells]

theorem run_index_conf (w : World) (cs : Array Value) (j : Nat) (v : Value) (hj : j < 8) (hv : cs[j]? = some v) :
    (Instr.index 31 (.agg cs) (.int .i64 (j : Int))).run Try.prog w = .ok v w := by
  have h0 : (0 : Int) ≤ (j : Int) ∧ (j : Int) < ((8 : Nat) : Int) := by omega
  simp [Instr.index, asIntOf, run_underlying Try.underlying31, part, isAgg, run_underlying Try.underlying3, hv, go_sem]
  omega

set_option maxHeartbeats 400000 in
theorem may_in (rs : List Int) (p : Nat) (label : Int) (w : World) (hl : rs.length = 8) (hp : p < 8) :
    Calls Try.prog 12 #[.agg (confCells rs), .int .i64 p, .int .i64 label] w fun e w' => e = .returned (.bool (bits .and .i64 (rs.getD p 0) label == 0)) ∧ w.alloc (.cells (confCells rs) 33) = w' := by
  have hp' : p < rs.length := by omega
  have hc := conf_at rs p hp'
  go_enter Try.func12, Try.ntmps12
  go_wp2
  go_ret
  exact ⟨ret_bool (by simp [hp']), rfl⟩
set_option maxHeartbeats 400000 in
theorem may_out (rs : List Int) (p : Int) (label : Int) (w : World) (hp : p < 0 ∨ 8 ≤ p) :
    Calls Try.prog 12 #[.agg (confCells rs), .int .i64 p, .int .i64 label] w fun e w' => e = .returned (.bool false) ∧ w.alloc (.cells (confCells rs) 33) = w' := by
  rcases hp with h | h
  · have h0 : ¬ 0 ≤ p := by omega
    go_enter Try.func12, Try.ntmps12
    go_wp2
    go_ret
    exact ⟨rfl, rfl⟩
  · have h0 : 0 ≤ p := by omega
    have h1 : ¬ p < 8 := by omega
    go_enter Try.func12, Try.ntmps12
    go_wp2
    go_ret
    exact ⟨rfl, rfl⟩

def okOne (x : Int) : Bool := decide (0 ≤ x) && decide (x < 256)
def okConf (rs : List Int) : Bool := rs.all okOne
def OkTo (rs : List Int) (k : Nat) : Prop := ∀ j (_ : j < rs.length), j < k → okOne rs[j] = true
theorem OkTo.step {rs : List Int} {k : Nat} (h : OkTo rs k) (hk : k < rs.length) (he : okOne rs[k] = true) : OkTo rs (k + 1) := by
  intro j a hj
  rcases Nat.lt_or_ge j k with h' | h'
  · exact h j a h'
  · obtain rfl : j = k := by omega
    exact he
theorem OkTo.all {rs : List Int} {k : Nat} (h : OkTo rs k) (hk : rs.length ≤ k) : true = okConf rs := by
  rw [eq_comm, okConf, List.all_eq_true]
  intro x hx
  obtain ⟨j, hj, rfl⟩ := List.getElem_of_mem hx
  exact h j hj (by omega)
theorem ok_not (rs : List Int) (k : Nat) (hk : k < rs.length) (h : okOne rs[k] = false) : false = okConf rs := by
  rw [eq_comm, okConf, List.all_eq_false]
  exact ⟨rs[k], List.getElem_mem _, by simp [h]⟩
theorem okOne_iff (x : Int) : okOne x = true ↔ 0 ≤ x ∧ x < 256 := by simp [okOne]
theorem agg8 (cs : Array Value) (h : cs.size = 8) : #[cs[0], cs[1], cs[2], cs[3], cs[4], cs[5], cs[6], cs[7]] = cs := by
  apply Array.ext
  · simp [h]
  · intro i h1 h2
    match i, h1 with
    | 0, _ => rfl
    | 1, _ => rfl
    | 2, _ => rfl
    | 3, _ => rfl
    | 4, _ => rfl
    | 5, _ => rfl
    | 6, _ => rfl
    | 7, _ => rfl

set_option maxHeartbeats 400000 in
theorem check_any (rs : List Int) (w : World) (hl : rs.length = 8) :
    Calls Try.prog 11 #[.agg (confCells rs)] w fun e w' => e = .returned (.bool (okConf rs)) ∧ w.alloc (.cells (confCells rs) 33) = w' := by
  have hcs : (confCells rs).size = 8 := by rw [conf_size, hl]
  have HL := Lib.hid hl
  clear hl
  go_enter Try.func11, Try.ntmps11
  go_wp2
  go_loop [4, 7] (fun _ i => ∃ k : Nat, k ≤ 8 ∧ i = .int .i64 k ∧ OkTo rs k) (fun _ i => 8 - (intOf i).toNat)
  case atStart => exact ⟨0, Nat.zero_le _, rfl, fun _ _ h => absurd h (by omega)⟩
  case round =>
    obtain ⟨k, hk, rfl, hok⟩ := hrel
    have HO := hide hok
    clear hok
    by_cases hlt : k < 8
    · have hlr : k < rs.length := by rw [HL.out]; exact hlt
      have hix : ∀ wx : World, (Instr.index 31 (.agg #[(confCells rs)[0], (confCells rs)[1], (confCells rs)[2], (confCells rs)[3], (confCells rs)[4], (confCells rs)[5], (confCells rs)[6], (confCells rs)[7]]) (.int .i64 (k : Int))).run Try.prog wx = .ok (.int .i64 rs[k]) wx :=
        fun wx => run_index_conf wx _ k _ hlt (by rw [agg8 _ hcs]; exact conf_at rs k hlr)
      by_cases ho : okOne rs[k] = true
      · have HN := hide (OkTo.step (unhid_ HO) hlr ho)
        rw [okOne_iff] at ho
        obtain ⟨g1, g2⟩ := ho
        go_wp2
        go_round
        case rel => exact ⟨k + 1, by omega, by go_num, unhid_ HN⟩
        case measure => simp [intOf]; omega
      · have HB := Lib.hid (ok_not rs k hlr (by simpa using ho))
        have hor : rs[k] < 0 ∨ 256 ≤ rs[k] := by rw [okOne_iff] at ho; omega
        clear ho
        rcases hor with h | h
        · go_wp2
          go_ret
          exact ⟨ret_bool HB.out, rfl⟩
        · have h0 : ¬ rs[k] < 0 := by omega
          go_wp2
          go_ret
          exact ⟨ret_bool HB.out, rfl⟩
    · have HF := Lib.hid (OkTo.all (unhid_ HO) (by rw [HL.out]; omega))
      go_wp2
      go_ret
      exact ⟨ret_bool HF.out, rfl⟩
end Go.Proofs.Ytkcbbdkbfjkgnaa
