/- The walk of the law's awake. -/
import Derived.Test.YthlnaejmglajeaaDoorAParse
import Derived.Test.YthlnaejmglajeaaDoorAText2
namespace Go.Proofs.YthlnaejmglajeaaDoor
open Go.RowKit
set_option linter.unusedSimpArgs false
set_option linter.unusedVariables false

mutual
theorem sameQ_eq : ∀ (a b : QT), sameQ a b = true → a = b
  | .mk o n ks, .mk o' n' ks', h => by
    rw [sameQ_mk, Bool.and_eq_true, Bool.and_eq_true, beq_iff_eq, beq_iff_eq] at h
    obtain ⟨h1, h2, h3⟩ := h
    rw [h1, h2, sameL_eq ks ks' h3]
theorem sameL_eq : ∀ (a b : List QT), sameL a b = true → a = b
  | [], [], _ => rfl
  | [], _ :: _, h => by simp [sameL] at h
  | _ :: _, [], h => by simp [sameL] at h
  | x :: xs, y :: ys, h => by
    rw [sameL_cons, Bool.and_eq_true] at h
    rw [sameQ_eq x y h.1, sameL_eq xs ys h.2]
end
mutual
theorem sameQ_self : ∀ (a : QT), sameQ a a = true
  | .mk o n ks => by rw [sameQ_mk, sameL_self ks]; simp
theorem sameL_self : ∀ (a : List QT), sameL a a = true
  | [] => sameL_nil
  | x :: xs => by rw [sameL_cons, sameQ_self x, sameL_self xs]; rfl
end
theorem ex_parse2 : parseF exText = (exTree, 0, 0) := by
  have h := ex_parse
  rw [show parseF exText = ((parseF exText).1, (parseF exText).2) from rfl, sameQ_eq _ _ h.1, h.2]
/-- true, and nothing that was there has turned -/
def Yes (w : World) (e : Ending) (w' : World) : Prop := e = .returned (.bool true) ∧ Below w.heap.size w w'
theorem yes_mk {b : Bool} {w w' : World} (h : b = true) (hb : Below w.heap.size w w') : Yes w (.returned (.bool b)) w' := by subst h; exact ⟨rfl, hb⟩

set_option maxHeartbeats 1000000 in
theorem awake_any (w : World) (hv : EV w) : Calls Tryd.prog 8 #[] w (Yes w) := by
  have HP := hide (parse_any (bytesB exText) w hv (by rw [size_bytesB]; decide))
  have HE := Lib.hid ex_parse2
  clear hv
  go_enter Tryd.func8, Tryd.ntmps8
  go_wp2_with fail
  refine (unhid_ HP).mono ?_
  rintro e w1 hpt
  rw [show (bytesB exText).data.toList = exText from rfl, HE.out] at hpt
  obtain ⟨A, c, rfl, hrp, hb1⟩ := hpt
  have hrq := hrp.rq
  obtain ⟨ad, x, A0, c0, rfl, hx, hbk, a0, a1, a2, _⟩ := hrq.at_ (i := 0) (by decide)
  obtain ⟨ad', y, A1, c1, had, hy, hbk', b0, b1, b2, _⟩ := hrq.at_ (i := 1) (by decide)
  obtain rfl := Option.some.inj had
  obtain rfl : QT.mk 5 0 [.mk 6 0 [.mk 1 0 [], .mk 2 0 []]] = x := Option.some.inj hx
  obtain rfl : QT.mk 3 2 [] = y := Option.some.inj hy
  simp only [QT.op, QT.n, QT.kids, exTree] at *
  rw [show ad.add (0 * 3) = ad from rfl] at a0 a1 a2 hbk
  have b1' : w1.cell? ⟨ad.block, ad.off + 3 + 1, none⟩ = some (.int .i64 2) := b1
  clear b0 b1 b2 hbk'
  have hT := fun (w2 : World) (hb : Below w1.heap.size w1 w2) => Text_any w2 0 w1.heap.size 7 0 [.mk 5 0 [.mk 6 0 [.mk 1 0 [], .mk 2 0 []]], .mk 3 2 []] (some ad) c (hrq.belowW hb) hb.size (by decide +kernel)
  have HT := hide hT
  have HB1 := hide hb1
  clear hT hrq hrp hb1 hx hy HP had
  go_wp2_with fail
  refine ((unhid_ HT) _ ((Below.refl _ _).alloc (Nat.le_refl _) _)).mono ?_
  rintro e w2 ⟨rfl, hb2⟩
  have HB2 := hide ((unhid_ HB1).trans (((Below.refl _ w1).alloc (Nat.le_refl _) _ |>.trans (hb2.mono (by simp))).mono (unhid_ HB1).size))
  rw [show textF (QT.mk 7 0 [.mk 5 0 [.mk 6 0 [.mk 1 0 [], .mk 2 0 []]], .mk 3 2 []]) = [40, 117, 112, 124, 100, 111, 119, 110, 41, 42, 59, 107, 105, 110, 100, 40, 50, 41] from by decide +kernel]
  unfold bytesB
  clear hb2
  go_wp2
  go_ret
  exact yes_mk (by simp) (unhid_ HB2)
end Go.Proofs.YthlnaejmglajeaaDoor
