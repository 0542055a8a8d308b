/- The walks of ask's within, text, Text. -/
import Derived.Test.YthlnaejmglajeaaDoorARow
namespace Go.Proofs.YthlnaejmglajeaaDoor
open Go.RowKit
set_option linter.unusedSimpArgs false
set_option linter.unusedVariables false

/-- a text, and nothing that was there has turned -/
def StrB (l : List UInt8) (w : World) (e : Ending) (w' : World) : Prop := e = .returned (.string (bytesB l)) ∧ Below w.heap.size w w'
theorem strB_mk {a : ByteArray} {l : List UInt8} (h : a = bytesB l) {w w' : World} (hb : Below w.heap.size w w') : StrB l w (.returned (.string a)) w' := by subst h; exact ⟨rfl, hb⟩
def TextAt (N : Nat) : Prop := ∀ (w : World) (B0 B : Nat) (o n : Int) (ks : List QT) (A : Option Addr) (c : Nat), szL ks < N → szL ks ≤ 1000 → allA (.mk o n ks) = true → RQ w B0 B (.mk o n ks) A c → B ≤ w.heap.size →
    Calls Tryd.prog 19 #[.agg #[.int .i64 o, .int .i64 n, .slice A ks.length c]] w (StrB (textF (.mk o n ks)) w)
def withinT (zs : List Int) (q : QT) : List UInt8 := if zs.contains q.op then parens (textF q) else textF q

set_option maxHeartbeats 4000000 in
theorem within_any (N : Nat) (ih : TextAt N) (w : World) (B0 B : Nat) (o n : Int) (ks : List QT) (A : Option Addr) (c g : Nat) (zs : List Int) (hN : szL ks < N) (hS : szL ks ≤ 1000) (ha : allA (.mk o n ks) = true) (hq : RQ w B0 B (.mk o n ks) A c) (hB : B ≤ w.heap.size) (hg : g < w.heap.size) (hz : zs.length ≤ 1000) (hc : ∀ j, j < zs.length → w.cell? ⟨g, 0 + j, none⟩ = some (.int .i64 (zs.getD j 0))) :
    Calls Tryd.prog 26 #[.agg #[.int .i64 o, .int .i64 n, .slice A ks.length c], .slice (some ⟨g, 0, none⟩) zs.length zs.length] w (StrB (withinT zs (.mk o n ks)) w) := by
  obtain ⟨W0, hW0⟩ : ∃ W0, W0 = w.alloc (.cells #[.int .i64 o, .int .i64 n, .slice A ks.length c] 24) := ⟨_, rfl⟩
  have hbw : Below w.heap.size w W0 := by rw [hW0]; exact (Below.refl _ _).alloc (Nat.le_refl _) _
  have hz0 : W0.heap.size = w.heap.size + 1 := by rw [hW0]; simp
  have hcon := Tryd.slices_Contains_int g 0 zs.length zs.length zs o W0 (Nat.le_refl _) (by omega) (fun j hj => (hbw.cell (p := ⟨g, 0 + j, none⟩) hg).trans (hc j hj))
  rw [List.take_length] at hcon
  have hT := ih W0 B0 B o n ks A c hN hS ha (hq.belowW (hbw.mono hB)) (by omega)
  have hlen := textF_len (.mk o n ks)
  rw [szQ_mk] at hlen
  have hwt : withinT zs (.mk o n ks) = if zs.contains o then parens (textF (.mk o n ks)) else textF (.mk o n ks) := rfl
  obtain ⟨T, hTT⟩ : ∃ T, T = textF (.mk o n ks) := ⟨_, rfl⟩
  rw [← hTT] at hT hlen hwt
  have a1 : ∀ W : World, (Op.stringOp .add ⟨#[40]⟩ (bytesB T)).run Tryd.prog W = .ok (.string (bytesB (40 :: T))) W := fun W => run_add_l W [40] T (by decide) (by omega)
  have a2 : ∀ W : World, (Op.stringOp .add (bytesB (40 :: T)) ⟨#[41]⟩).run Tryd.prog W = .ok (.string (bytesB (40 :: (T ++ [41])))) W := fun W => run_add_l W (40 :: T) [41] (by simp; omega) (by decide)
  obtain ⟨b, hb⟩ : ∃ b, zs.contains o = b := ⟨_, rfl⟩
  rw [hb] at hcon hwt
  have HWT := Lib.hid hwt
  have HCON := hide hcon
  have HT := hide hT
  have HBW := hide hbw
  have HZ := Lib.hid hz0
  have HW0 := Lib.hid hW0
  have c0 : W0.cell? ⟨w.heap.size, 0, none⟩ = some (.int .i64 o) := by rw [hW0]; exact (Blk.new w _ _).cell 0
  have c1 : W0.cell? ⟨w.heap.size, 1, none⟩ = some (.int .i64 n) := by rw [hW0]; exact (Blk.new w _ _).cell 1
  have c2 : W0.cell? ⟨w.heap.size, 2, none⟩ = some (.slice A ks.length c) := by rw [hW0]; exact (Blk.new w _ _).cell 2
  clear hwt hcon hT hbw hz0 hW0 hb hTT hq ih hc ha hlen
  cases b with
  | true =>
    go_enter Tryd.func26, Tryd.ntmps26
    go_wp2_with fail
    rw [← HW0.out]
    refine (unhid_ HCON).mono ?_
    rintro e w' ⟨rfl, hw'⟩
    obtain rfl := hw'.symm
    go_wp2_with fail
    refine (unhid_ HT).mono ?_
    rintro e w1 ⟨rfl, hb1⟩
    have HB := hide ((unhid_ HBW).trans (hb1.mono (unhid_ HBW).size))
    clear hb1
    go_wp2
    go_ret
    exact strB_mk (by rw [HWT.out]; rfl) (unhid_ HB)
  | false =>
    go_enter Tryd.func26, Tryd.ntmps26
    go_wp2_with fail
    rw [← HW0.out]
    refine (unhid_ HCON).mono ?_
    rintro e w' ⟨rfl, hw'⟩
    obtain rfl := hw'.symm
    go_wp2_with fail
    refine (unhid_ HT).mono ?_
    rintro e w1 ⟨rfl, hb1⟩
    have HB := hide ((unhid_ HBW).trans (hb1.mono (unhid_ HBW).size))
    clear hb1
    go_wp2
    go_ret
    exact strB_mk (by rw [HWT.out]; rfl) (unhid_ HB)
end Go.Proofs.YthlnaejmglajeaaDoor
