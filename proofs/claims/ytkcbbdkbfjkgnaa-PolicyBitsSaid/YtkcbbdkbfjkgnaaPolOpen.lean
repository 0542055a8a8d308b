/- How a config is read: eight numbers. Conditions: none. -/
import Derived.Test.YtkcbbdkbfjkgnaaPolMay
import Derived.Test.YtkcbbdkbfjkgnaaOpen
namespace Go.Proofs.Ytkcbbdkbfjkgnaa
open Go.ChangeShapes Go.WideShapes Go.ChangeAt Go.RowKit

theorem cells8 : Try.prog.cellsOf 31 = 8 := by kernel_rfl
theorem cellsConf : Try.prog.cellsOf 33 = 8 := by kernel_rfl
theorem cellsInt : Try.prog.cellsOf 3 = 1 := by kernel_rfl

theorem open_conf {H : Type} {enc : TypeId × Value → H} {W : World} {base : Nat} {v : Value} {d : DataW H} {p : List MemPlace} (hv : Value.okWide Try.prog W .any base 33 v)
    (h : DataW.Trod enc Try.prog W 0 (fun _ => true) true 33 v d p) : ∃ rs : List Int, v = .agg (confCells rs) ∧ rs.length = 8 ∧ ∀ x ∈ rs, -9223372036854775808 ≤ x ∧ x ≤ 9223372036854775807 := by
  obtain ⟨cs, rfl, hsz⟩ := okWide_struct Try.underlying33 hv
  obtain ⟨fuel, hf⟩ := h
  obtain ⟨xs, n, _, _, hl, hlen, hg⟩ := DataW.trod_struct Try.underlying33 hf
  obtain ⟨x0, hx0⟩ : ∃ x0, xs[0]? = some x0 := ⟨_, List.getElem?_eq_getElem (by rw [hlen]; simp)⟩
  have h0 := hg 0 _ rfl
  rw [hx0] at h0
  have h1 : (cs.toList.drop 0).take (Try.prog.cellsOf 31) = cs.toList := by
    rw [cells8, List.drop_zero, List.take_of_length_le]
    have : cs.toList.length = 8 := by rw [Array.length_toList, hsz, cellsConf]
    omega
  have h2 : DataW.trod enc Try.prog W 0 (fun _ => true) true n 31 ((cs.toList.drop 0).take (Try.prog.cellsOf 31)) = some x0 := h0
  rw [h1] at h2
  obtain ⟨rs, e1, e2, e3⟩ := ints_of_array Try.underlying31 Try.underlying3 cellsInt cells8 h2
  refine ⟨rs, ?_, e2, fun x hx => bounds_i64 (e3 x hx)⟩
  unfold confCells
  rw [← e1]
end Go.Proofs.Ytkcbbdkbfjkgnaa
