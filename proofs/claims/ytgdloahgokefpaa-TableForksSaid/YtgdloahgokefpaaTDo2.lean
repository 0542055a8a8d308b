/- The walks of the law's do, a theorem for each kind of call. -/
import Derived.Test.YtgdloahgokefpaaTDo
import Derived.Deep.DeepCutAuto
namespace Go.Proofs.Ytgdloahgokefpaa
open Go.RowKit
set_option linter.unusedSimpArgs false

set_option maxRecDepth 100000 in
set_option maxHeartbeats 2000000 in
theorem do0_any (w : World) (B gt gr : Nat) (t : TbV) (r : Nat → RpV) (x : OpV) (hb : Bo w B gt gr t r) (hk : x.k % 10 = 0) :
    Calls Try.prog 20 #[.pointer (some ⟨gt, 0, none⟩), .pointer (some ⟨gr, 0, none⟩), x.val] w (DoT B gt gr t x w) := by
  unfold OpV.val
  have hal : Below w.heap.size w (w.alloc (.cells #[.int .i64 x.k, .int .i64 x.p, .int .i64 x.n, .int .i64 x.m, .int .i64 x.f.k, .int .i64 x.f.t, .int .i64 x.f.a, .bool x.f.w, .slice x.A x.xs.length x.c] 61)) := (Below.refl _ _).alloc (Nat.le_refl _) _
  have hbx := Blk.new w 61 #[.int .i64 x.k, .int .i64 x.p, .int .i64 x.n, .int .i64 x.m, .int .i64 x.f.k, .int .i64 x.f.t, .int .i64 x.f.a, .bool x.f.w, .slice x.A x.xs.length x.c]
  have hgt := hb.T.1.lt
  have hgr := hb.R.lt
  have hne := hb.ne
  obtain ⟨wb, hwb⟩ : ∃ wb, wb = w.alloc (.cells #[.int .i64 x.k, .int .i64 x.p, .int .i64 x.n, .int .i64 x.m, .int .i64 x.f.k, .int .i64 x.f.t, .int .i64 x.f.a, .bool x.f.w, .slice x.A x.xs.length x.c] 61) := ⟨_, rfl⟩
  have hsz : w.heap.size < wb.heap.size := by rw [hwb]; simp
  rw [← hwb] at hal hbx
  have hB2 := hb.below hal
  have hpl := place_any x.k 10 wb (by omega) (by omega)
  rw [hk] at hpl
  have HPL := hide hpl
  have HBX := hide hbx
  have HAL := hide hal
  have HBO := hide hB2
  have HWB := Lib.hid hwb
  have HK := Lib.hid hk
  have c0 : wb.cell? ⟨w.heap.size, 0, none⟩ = some (.int .i64 x.k) := (hbx).cell 0
  have c1 : wb.cell? ⟨w.heap.size, 1, none⟩ = some (.int .i64 x.p) := (hbx).cell 1
  have c2 : wb.cell? ⟨w.heap.size, 2, none⟩ = some (.int .i64 x.n) := (hbx).cell 2
  have c3 : wb.cell? ⟨w.heap.size, 3, none⟩ = some (.int .i64 x.m) := (hbx).cell 3
  clear hal hbx hwb hb hB2 hpl hk
  go_enter Try.func20, Try.ntmps20
  go_upto_region 1 with (fail)
  rw [← HWB.out]
  go_wp2_with fail
  refine (unhid_ HPL).mono ?_
  rintro e w' ⟨rfl, rfl⟩
  have HC := hide (spawn_any wb B gt t x.p x.n x.m (unhid_ HBO).T (unhid_ HBO).sz)
  go_wp2_with fail
  refine (unhid_ HC).mono ?_
  rintro e w1 hp
  obtain ⟨a, er, t', r', rfl, ho1, hT1, hM1, hI1, hh⟩ := hp.pair (unhid_ HBO)
  have hbx1 := ho1.blk (unhid_ HBX) (by simp; omega)
  have e1 : w1.cell? ⟨w.heap.size, 1, none⟩ = some (.int .i64 x.p) := (hbx1).cell 1
  have e2 : w1.cell? ⟨w.heap.size, 2, none⟩ = some (.int .i64 x.n) := (hbx1).cell 2
  have e3 : w1.cell? ⟨w.heap.size, 3, none⟩ = some (.int .i64 x.m) := (hbx1).cell 3
  have HR := hide (rspawn_any w1 gr r x.p x.n x.m ((unhid_ HBO).R1 ho1))
  have HO1 := hide ho1
  have HT1 := hide hT1
  have HM1 := hide hM1
  have HI1 := hide hI1
  skip
  have HH := hide hh
  clear ho1 hT1 hM1 hI1 hh hp HC hbx1 c1 c2 c3
  go_wp2_with fail
  refine (unhid_ HR).mono ?_
  rintro e2 w2 hq
  obtain ⟨rfl, ho2, hR2⟩ := (unhid_ HH) _ _ _ hq
  go_wp2
  go_ret
  refine ⟨rfl, (Only.of_below (unhid_ HAL) _).trans ((unhid_ HO1).two ho2), t', r', (unhid_ HBO).mk2 (unhid_ HT1) hR2 (unhid_ HM1) (unhid_ HI1) (unhid_ HO1) ho2, fun hk2 => absurd hk2 (by rw [HK.out]; decide)⟩

set_option maxRecDepth 100000 in
set_option maxHeartbeats 2000000 in
theorem do7_any (w : World) (B gt gr : Nat) (t : TbV) (r : Nat → RpV) (x : OpV) (hb : Bo w B gt gr t r) (hk : x.k % 10 = 7) :
    Calls Try.prog 20 #[.pointer (some ⟨gt, 0, none⟩), .pointer (some ⟨gr, 0, none⟩), x.val] w (DoT B gt gr t x w) := by
  unfold OpV.val
  have hal : Below w.heap.size w (w.alloc (.cells #[.int .i64 x.k, .int .i64 x.p, .int .i64 x.n, .int .i64 x.m, .int .i64 x.f.k, .int .i64 x.f.t, .int .i64 x.f.a, .bool x.f.w, .slice x.A x.xs.length x.c] 61)) := (Below.refl _ _).alloc (Nat.le_refl _) _
  have hbx := Blk.new w 61 #[.int .i64 x.k, .int .i64 x.p, .int .i64 x.n, .int .i64 x.m, .int .i64 x.f.k, .int .i64 x.f.t, .int .i64 x.f.a, .bool x.f.w, .slice x.A x.xs.length x.c]
  have hgt := hb.T.1.lt
  have hgr := hb.R.lt
  have hne := hb.ne
  obtain ⟨wb, hwb⟩ : ∃ wb, wb = w.alloc (.cells #[.int .i64 x.k, .int .i64 x.p, .int .i64 x.n, .int .i64 x.m, .int .i64 x.f.k, .int .i64 x.f.t, .int .i64 x.f.a, .bool x.f.w, .slice x.A x.xs.length x.c] 61) := ⟨_, rfl⟩
  have hsz : w.heap.size < wb.heap.size := by rw [hwb]; simp
  rw [← hwb] at hal hbx
  have hB2 := hb.below hal
  have hpl := place_any x.k 10 wb (by omega) (by omega)
  rw [hk] at hpl
  have HPL := hide hpl
  have HBX := hide hbx
  have HAL := hide hal
  have HBO := hide hB2
  have HWB := Lib.hid hwb
  have HK := Lib.hid hk
  have c0 : wb.cell? ⟨w.heap.size, 0, none⟩ = some (.int .i64 x.k) := (hbx).cell 0
  have c1 : wb.cell? ⟨w.heap.size, 1, none⟩ = some (.int .i64 x.p) := (hbx).cell 1
  have c2 : wb.cell? ⟨w.heap.size, 2, none⟩ = some (.int .i64 x.n) := (hbx).cell 2
  clear hal hbx hwb hb hB2 hpl hk
  go_enter Try.func20, Try.ntmps20
  go_upto_region 1 with (fail)
  rw [← HWB.out]
  go_wp2_with fail
  refine (unhid_ HPL).mono ?_
  rintro e w' ⟨rfl, rfl⟩
  have HC := hide (dup_any wb B gt t x.p x.n (unhid_ HBO).T)
  go_wp2_with fail
  refine (unhid_ HC).mono ?_
  rintro e w1 hp
  obtain ⟨a, er, t', r', rfl, ho1, hT1, hM1, hI1, hF1, hh⟩ := hp.pair (unhid_ HBO)
  have hbx1 := ho1.blk (unhid_ HBX) (by simp; omega)
  have e1 : w1.cell? ⟨w.heap.size, 1, none⟩ = some (.int .i64 x.p) := (hbx1).cell 1
  have e2 : w1.cell? ⟨w.heap.size, 2, none⟩ = some (.int .i64 x.n) := (hbx1).cell 2
  have HR := hide (rdup_any w1 gr r x.p x.n ((unhid_ HBO).R1 ho1))
  have HO1 := hide ho1
  have HT1 := hide hT1
  have HM1 := hide hM1
  have HI1 := hide hI1
  have HF1 := hide hF1
  have HH := hide hh
  clear ho1 hT1 hM1 hI1 hh hp HC hF1 hbx1 c1 c2
  go_wp2_with fail
  refine (unhid_ HR).mono ?_
  rintro e2 w2 hq
  obtain ⟨rfl, ho2, hR2⟩ := (unhid_ HH) _ _ _ hq
  go_wp2
  go_ret
  refine ⟨rfl, (Only.of_below (unhid_ HAL) _).trans ((unhid_ HO1).two ho2), t', r', (unhid_ HBO).mk2 (unhid_ HT1) hR2 (unhid_ HM1) (unhid_ HI1) (unhid_ HO1) ho2, fun hk2 => unhid_ HF1⟩

set_option maxRecDepth 100000 in
set_option maxHeartbeats 2000000 in
theorem do4_any (w : World) (B gt gr : Nat) (t : TbV) (r : Nat → RpV) (x : OpV) (hb : Bo w B gt gr t r) (hk : x.k % 10 = 4) :
    Calls Try.prog 20 #[.pointer (some ⟨gt, 0, none⟩), .pointer (some ⟨gr, 0, none⟩), x.val] w (DoT B gt gr t x w) := by
  unfold OpV.val
  have hal : Below w.heap.size w (w.alloc (.cells #[.int .i64 x.k, .int .i64 x.p, .int .i64 x.n, .int .i64 x.m, .int .i64 x.f.k, .int .i64 x.f.t, .int .i64 x.f.a, .bool x.f.w, .slice x.A x.xs.length x.c] 61)) := (Below.refl _ _).alloc (Nat.le_refl _) _
  have hbx := Blk.new w 61 #[.int .i64 x.k, .int .i64 x.p, .int .i64 x.n, .int .i64 x.m, .int .i64 x.f.k, .int .i64 x.f.t, .int .i64 x.f.a, .bool x.f.w, .slice x.A x.xs.length x.c]
  have hgt := hb.T.1.lt
  have hgr := hb.R.lt
  have hne := hb.ne
  obtain ⟨wb, hwb⟩ : ∃ wb, wb = w.alloc (.cells #[.int .i64 x.k, .int .i64 x.p, .int .i64 x.n, .int .i64 x.m, .int .i64 x.f.k, .int .i64 x.f.t, .int .i64 x.f.a, .bool x.f.w, .slice x.A x.xs.length x.c] 61) := ⟨_, rfl⟩
  have hsz : w.heap.size < wb.heap.size := by rw [hwb]; simp
  rw [← hwb] at hal hbx
  have hB2 := hb.below hal
  have hpl := place_any x.k 10 wb (by omega) (by omega)
  rw [hk] at hpl
  have HPL := hide hpl
  have HBX := hide hbx
  have HAL := hide hal
  have HBO := hide hB2
  have HWB := Lib.hid hwb
  have HK := Lib.hid hk
  have c0 : wb.cell? ⟨w.heap.size, 0, none⟩ = some (.int .i64 x.k) := (hbx).cell 0
  have c1 : wb.cell? ⟨w.heap.size, 1, none⟩ = some (.int .i64 x.p) := (hbx).cell 1
  have c4 : wb.cell? ⟨w.heap.size, 4, none⟩ = some (.int .i64 x.f.k) := (hbx).cell 4
  have c5 : wb.cell? ⟨w.heap.size, 5, none⟩ = some (.int .i64 x.f.t) := (hbx).cell 5
  have c6 : wb.cell? ⟨w.heap.size, 6, none⟩ = some (.int .i64 x.f.a) := (hbx).cell 6
  have c7 : wb.cell? ⟨w.heap.size, 7, none⟩ = some (.bool x.f.w) := (hbx).cell 7
  clear hal hbx hwb hb hB2 hpl hk
  go_enter Try.func20, Try.ntmps20
  go_upto_region 1 with (fail)
  rw [← HWB.out]
  go_wp2_with fail
  refine (unhid_ HPL).mono ?_
  rintro e w' ⟨rfl, rfl⟩
  have HC := hide (open_any wb B gt t x.p x.f (unhid_ HBO).T)
  go_wp2_with fail
  refine (unhid_ HC).mono ?_
  rintro e w1 hp
  obtain ⟨a, er, t', r', rfl, ho1, hT1, hM1, hI1, hF1, hh⟩ := hp.pair (unhid_ HBO)
  have hbx1 := ho1.blk (unhid_ HBX) (by simp; omega)
  have e1 : w1.cell? ⟨w.heap.size, 1, none⟩ = some (.int .i64 x.p) := (hbx1).cell 1
  have e4 : w1.cell? ⟨w.heap.size, 4, none⟩ = some (.int .i64 x.f.k) := (hbx1).cell 4
  have e5 : w1.cell? ⟨w.heap.size, 5, none⟩ = some (.int .i64 x.f.t) := (hbx1).cell 5
  have e6 : w1.cell? ⟨w.heap.size, 6, none⟩ = some (.int .i64 x.f.a) := (hbx1).cell 6
  have e7 : w1.cell? ⟨w.heap.size, 7, none⟩ = some (.bool x.f.w) := (hbx1).cell 7
  have HR := hide (ropen_any w1 gr r x.p x.f ((unhid_ HBO).R1 ho1))
  have HO1 := hide ho1
  have HT1 := hide hT1
  have HM1 := hide hM1
  have HI1 := hide hI1
  have HF1 := hide hF1
  have HH := hide hh
  clear ho1 hT1 hM1 hI1 hh hp HC hF1 hbx1 c1 c4 c5 c6 c7
  go_wp2_with fail
  refine (unhid_ HR).mono ?_
  rintro e2 w2 hq
  obtain ⟨rfl, ho2, hR2⟩ := (unhid_ HH) _ _ _ hq
  go_wp2
  go_ret
  refine ⟨rfl, (Only.of_below (unhid_ HAL) _).trans ((unhid_ HO1).two ho2), t', r', (unhid_ HBO).mk2 (unhid_ HT1) hR2 (unhid_ HM1) (unhid_ HI1) (unhid_ HO1) ho2, fun hk2 => unhid_ HF1⟩

set_option maxRecDepth 100000 in
set_option maxHeartbeats 2000000 in
theorem do5_any (w : World) (B gt gr : Nat) (t : TbV) (r : Nat → RpV) (x : OpV) (hb : Bo w B gt gr t r) (hk : x.k % 10 = 5) :
    Calls Try.prog 20 #[.pointer (some ⟨gt, 0, none⟩), .pointer (some ⟨gr, 0, none⟩), x.val] w (DoT B gt gr t x w) := by
  unfold OpV.val
  have hal : Below w.heap.size w (w.alloc (.cells #[.int .i64 x.k, .int .i64 x.p, .int .i64 x.n, .int .i64 x.m, .int .i64 x.f.k, .int .i64 x.f.t, .int .i64 x.f.a, .bool x.f.w, .slice x.A x.xs.length x.c] 61)) := (Below.refl _ _).alloc (Nat.le_refl _) _
  have hbx := Blk.new w 61 #[.int .i64 x.k, .int .i64 x.p, .int .i64 x.n, .int .i64 x.m, .int .i64 x.f.k, .int .i64 x.f.t, .int .i64 x.f.a, .bool x.f.w, .slice x.A x.xs.length x.c]
  have hgt := hb.T.1.lt
  have hgr := hb.R.lt
  have hne := hb.ne
  obtain ⟨wb, hwb⟩ : ∃ wb, wb = w.alloc (.cells #[.int .i64 x.k, .int .i64 x.p, .int .i64 x.n, .int .i64 x.m, .int .i64 x.f.k, .int .i64 x.f.t, .int .i64 x.f.a, .bool x.f.w, .slice x.A x.xs.length x.c] 61) := ⟨_, rfl⟩
  have hsz : w.heap.size < wb.heap.size := by rw [hwb]; simp
  rw [← hwb] at hal hbx
  have hB2 := hb.below hal
  have hpl := place_any x.k 10 wb (by omega) (by omega)
  rw [hk] at hpl
  have HPL := hide hpl
  have HBX := hide hbx
  have HAL := hide hal
  have HBO := hide hB2
  have HWB := Lib.hid hwb
  have HK := Lib.hid hk
  have c0 : wb.cell? ⟨w.heap.size, 0, none⟩ = some (.int .i64 x.k) := (hbx).cell 0
  have c1 : wb.cell? ⟨w.heap.size, 1, none⟩ = some (.int .i64 x.p) := (hbx).cell 1
  have c4 : wb.cell? ⟨w.heap.size, 4, none⟩ = some (.int .i64 x.f.k) := (hbx).cell 4
  have c5 : wb.cell? ⟨w.heap.size, 5, none⟩ = some (.int .i64 x.f.t) := (hbx).cell 5
  have c6 : wb.cell? ⟨w.heap.size, 6, none⟩ = some (.int .i64 x.f.a) := (hbx).cell 6
  have c7 : wb.cell? ⟨w.heap.size, 7, none⟩ = some (.bool x.f.w) := (hbx).cell 7
  clear hal hbx hwb hb hB2 hpl hk
  go_enter Try.func20, Try.ntmps20
  go_upto_region 1 with (fail)
  rw [← HWB.out]
  go_wp2_with fail
  refine (unhid_ HPL).mono ?_
  rintro e w' ⟨rfl, rfl⟩
  have HC := hide (open_any wb B gt t x.p x.f (unhid_ HBO).T)
  go_wp2_with fail
  refine (unhid_ HC).mono ?_
  rintro e w1 hp
  obtain ⟨a, er, t', r', rfl, ho1, hT1, hM1, hI1, hF1, hh⟩ := hp.pair (unhid_ HBO)
  have hbx1 := ho1.blk (unhid_ HBX) (by simp; omega)
  have e1 : w1.cell? ⟨w.heap.size, 1, none⟩ = some (.int .i64 x.p) := (hbx1).cell 1
  have e4 : w1.cell? ⟨w.heap.size, 4, none⟩ = some (.int .i64 x.f.k) := (hbx1).cell 4
  have e5 : w1.cell? ⟨w.heap.size, 5, none⟩ = some (.int .i64 x.f.t) := (hbx1).cell 5
  have e6 : w1.cell? ⟨w.heap.size, 6, none⟩ = some (.int .i64 x.f.a) := (hbx1).cell 6
  have e7 : w1.cell? ⟨w.heap.size, 7, none⟩ = some (.bool x.f.w) := (hbx1).cell 7
  have HR := hide (ropen_any w1 gr r x.p x.f ((unhid_ HBO).R1 ho1))
  have HO1 := hide ho1
  have HT1 := hide hT1
  have HM1 := hide hM1
  have HI1 := hide hI1
  have HF1 := hide hF1
  have HH := hide hh
  clear ho1 hT1 hM1 hI1 hh hp HC hF1 hbx1 c1 c4 c5 c6 c7
  go_wp2_with fail
  refine (unhid_ HR).mono ?_
  rintro e2 w2 hq
  obtain ⟨rfl, ho2, hR2⟩ := (unhid_ HH) _ _ _ hq
  go_wp2
  go_ret
  refine ⟨rfl, (Only.of_below (unhid_ HAL) _).trans ((unhid_ HO1).two ho2), t', r', (unhid_ HBO).mk2 (unhid_ HT1) hR2 (unhid_ HM1) (unhid_ HI1) (unhid_ HO1) ho2, fun hk2 => unhid_ HF1⟩

set_option maxRecDepth 100000 in
set_option maxHeartbeats 2000000 in
theorem do9_any (w : World) (B gt gr : Nat) (t : TbV) (r : Nat → RpV) (x : OpV) (hb : Bo w B gt gr t r) (hk : x.k % 10 = 9) :
    Calls Try.prog 20 #[.pointer (some ⟨gt, 0, none⟩), .pointer (some ⟨gr, 0, none⟩), x.val] w (DoT B gt gr t x w) := by
  unfold OpV.val
  have hal : Below w.heap.size w (w.alloc (.cells #[.int .i64 x.k, .int .i64 x.p, .int .i64 x.n, .int .i64 x.m, .int .i64 x.f.k, .int .i64 x.f.t, .int .i64 x.f.a, .bool x.f.w, .slice x.A x.xs.length x.c] 61)) := (Below.refl _ _).alloc (Nat.le_refl _) _
  have hbx := Blk.new w 61 #[.int .i64 x.k, .int .i64 x.p, .int .i64 x.n, .int .i64 x.m, .int .i64 x.f.k, .int .i64 x.f.t, .int .i64 x.f.a, .bool x.f.w, .slice x.A x.xs.length x.c]
  have hgt := hb.T.1.lt
  have hgr := hb.R.lt
  have hne := hb.ne
  obtain ⟨wb, hwb⟩ : ∃ wb, wb = w.alloc (.cells #[.int .i64 x.k, .int .i64 x.p, .int .i64 x.n, .int .i64 x.m, .int .i64 x.f.k, .int .i64 x.f.t, .int .i64 x.f.a, .bool x.f.w, .slice x.A x.xs.length x.c] 61) := ⟨_, rfl⟩
  have hsz : w.heap.size < wb.heap.size := by rw [hwb]; simp
  rw [← hwb] at hal hbx
  have hB2 := hb.below hal
  have hpl := place_any x.k 10 wb (by omega) (by omega)
  rw [hk] at hpl
  have HPL := hide hpl
  have HBX := hide hbx
  have HAL := hide hal
  have HBO := hide hB2
  have HWB := Lib.hid hwb
  have HK := Lib.hid hk
  have c0 : wb.cell? ⟨w.heap.size, 0, none⟩ = some (.int .i64 x.k) := (hbx).cell 0
  have c2 : wb.cell? ⟨w.heap.size, 2, none⟩ = some (.int .i64 x.n) := (hbx).cell 2
  have c3 : wb.cell? ⟨w.heap.size, 3, none⟩ = some (.int .i64 x.m) := (hbx).cell 3
  clear hal hbx hwb hb hB2 hpl hk
  go_enter Try.func20, Try.ntmps20
  go_upto_region 1 with (fail)
  rw [← HWB.out]
  go_wp2_with fail
  refine (unhid_ HPL).mono ?_
  rintro e w' ⟨rfl, rfl⟩
  have HC := hide (uses_any wb B gt t x.n x.m (unhid_ HBO).T)
  go_wp2_with fail
  refine (unhid_ HC).mono ?_
  rintro e w1 ⟨rfl, hb1⟩
  have hB1 := (unhid_ HBO).below hb1
  have hbx1 := (unhid_ HBX).below hb1 (by omega)
  have e2 : w1.cell? ⟨w.heap.size, 2, none⟩ = some (.int .i64 x.n) := (hbx1).cell 2
  have e3 : w1.cell? ⟨w.heap.size, 3, none⟩ = some (.int .i64 x.m) := (hbx1).cell 3
  have hu := (unhid_ HBO).M.uses x.n x.m 13 (Nat.le_refl _)
  have hru := ruses_any w1 gr r x.n x.m hB1.R (hB1.M.rok hB1.I)
  rw [hu.1, hu.2] at hru
  have HR := hide hru
  have HB1 := hide hb1
  have HBB := hide hB1
  clear hb1 hB1 hbx1 hu hru HC c2 c3
  go_wp2_with fail
  refine (unhid_ HR).mono ?_
  rintro e2 w2 ⟨rfl, hb2⟩
  go_wp2
  go_ret
  have hb3 : Below wb.heap.size wb w2 := (unhid_ HB1).trans (hb2.mono (unhid_ HB1).size)
  exact ⟨rfl, (Only.of_below (unhid_ HAL) _).trans (Only.of_below hb3 _), t, r, (unhid_ HBO).below hb3, fun _ => Fr.refl _ _⟩

set_option maxRecDepth 100000 in
set_option maxHeartbeats 2000000 in
theorem do1_any (w : World) (B gt gr : Nat) (t : TbV) (r : Nat → RpV) (x : OpV) (hb : Bo w B gt gr t r) (hk : x.k % 10 = 1) :
    Calls Try.prog 20 #[.pointer (some ⟨gt, 0, none⟩), .pointer (some ⟨gr, 0, none⟩), x.val] w (DoT B gt gr t x w) := by
  unfold OpV.val
  have hal : Below w.heap.size w (w.alloc (.cells #[.int .i64 x.k, .int .i64 x.p, .int .i64 x.n, .int .i64 x.m, .int .i64 x.f.k, .int .i64 x.f.t, .int .i64 x.f.a, .bool x.f.w, .slice x.A x.xs.length x.c] 61)) := (Below.refl _ _).alloc (Nat.le_refl _) _
  have hbx := Blk.new w 61 #[.int .i64 x.k, .int .i64 x.p, .int .i64 x.n, .int .i64 x.m, .int .i64 x.f.k, .int .i64 x.f.t, .int .i64 x.f.a, .bool x.f.w, .slice x.A x.xs.length x.c]
  have hgt := hb.T.1.lt
  have hgr := hb.R.lt
  have hne := hb.ne
  obtain ⟨wb, hwb⟩ : ∃ wb, wb = w.alloc (.cells #[.int .i64 x.k, .int .i64 x.p, .int .i64 x.n, .int .i64 x.m, .int .i64 x.f.k, .int .i64 x.f.t, .int .i64 x.f.a, .bool x.f.w, .slice x.A x.xs.length x.c] 61) := ⟨_, rfl⟩
  have hsz : w.heap.size < wb.heap.size := by rw [hwb]; simp
  rw [← hwb] at hal hbx
  have hB2 := hb.below hal
  have hpl := place_any x.k 10 wb (by omega) (by omega)
  rw [hk] at hpl
  have HPL := hide hpl
  have HBX := hide hbx
  have HAL := hide hal
  have HBO := hide hB2
  have HWB := Lib.hid hwb
  have HK := Lib.hid hk
  have c0 : wb.cell? ⟨w.heap.size, 0, none⟩ = some (.int .i64 x.k) := (hbx).cell 0
  have c1 : wb.cell? ⟨w.heap.size, 1, none⟩ = some (.int .i64 x.p) := (hbx).cell 1
  clear hal hbx hwb hb hB2 hpl hk
  go_enter Try.func20, Try.ntmps20
  go_upto_region 1 with (fail)
  rw [← HWB.out]
  go_wp2_with fail
  refine (unhid_ HPL).mono ?_
  rintro e w' ⟨rfl, rfl⟩
  go_upto_region 7 with (fail)
  refine wp_region_held_drew (S := (fun W => W.cell? ⟨w.heap.size, 1, none⟩ = some (.int .i64 x.p))) (by kernel_rfl) ?_ (fun hHeld => ?_)
  · exact c1
  refine wpAnyH_take (i := 0) (oi := ({ dst := some 64, op := Op.move (Operand.tmp 0), type := 23, pos := _, after := #[], guard := none })) (v := ?_) rfl (by kernel_rfl) (by kernel_rfl) (by kernel_rfl) (fun _ _ _ h => h) (Or.inl ⟨by rfl, ?_⟩) (by assumption) ?_
  rotate_left
  · (intro wq hSw; (try dsimp only at hSw); go_simp; try with_reducible rfl)
  try simp only [Act.put, List.setIfInBounds_toArray, List.set_cons_zero, List.set_cons_succ]
  refine wpAnyH_take (i := 1) (oi := ({ dst := some 65, op := Op.fieldAddr 61 (Operand.tmp 5) 1, type := 0, pos := _, after := #[], guard := none })) (v := ?_) rfl (by kernel_rfl) (by kernel_rfl) (by kernel_rfl) (fun _ _ _ h => h) (Or.inl ⟨by rfl, ?_⟩) (by assumption) ?_
  rotate_left
  · (intro wq hSw; (try dsimp only at hSw); go_simp; try with_reducible rfl)
  try simp only [Act.put, List.setIfInBounds_toArray, List.set_cons_zero, List.set_cons_succ]
  refine wpAnyH_take (i := 2) (oi := ({ dst := some 66, op := Op.load 3 (Operand.tmp 65), type := 3, pos := _, after := #[{ on := 1, ground := Ground.data }], guard := none })) (v := ?_) rfl (by kernel_rfl) (by kernel_rfl) (by kernel_rfl) (fun _ _ _ h => h) (Or.inl ⟨by rfl, ?_⟩) (by assumption) ?_
  rotate_left
  · (intro wq hSw; (try dsimp only at hSw); go_simp; try with_reducible rfl)
  try simp only [Act.put, List.setIfInBounds_toArray, List.set_cons_zero, List.set_cons_succ]
  refine wpAnyH_take (i := 4) (oi := ({ dst := some 68, op := Op.move (Operand.tmp 1), type := 51, pos := _, after := #[], guard := none })) (v := ?_) rfl (by kernel_rfl) (by kernel_rfl) (by kernel_rfl) (fun _ _ _ h => h) (Or.inl ⟨by rfl, ?_⟩) (by assumption) ?_
  rotate_left
  · (intro wq hSw; (try dsimp only at hSw); go_simp; try with_reducible rfl)
  try simp only [Act.put, List.setIfInBounds_toArray, List.set_cons_zero, List.set_cons_succ]
  refine wpAnyH_take (i := 5) (oi := ({ dst := some 69, op := Op.fieldAddr 61 (Operand.tmp 5) 1, type := 0, pos := _, after := #[], guard := none })) (v := ?_) rfl (by kernel_rfl) (by kernel_rfl) (by kernel_rfl) (fun _ _ _ h => h) (Or.inl ⟨by rfl, ?_⟩) (by assumption) ?_
  rotate_left
  · (intro wq hSw; (try dsimp only at hSw); go_simp; try with_reducible rfl)
  try simp only [Act.put, List.setIfInBounds_toArray, List.set_cons_zero, List.set_cons_succ]
  refine wpAnyH_take (i := 6) (oi := ({ dst := some 70, op := Op.load 3 (Operand.tmp 69), type := 3, pos := _, after := #[{ on := 5, ground := Ground.data }], guard := none })) (v := ?_) rfl (by kernel_rfl) (by kernel_rfl) (by kernel_rfl) (fun _ _ _ h => h) (Or.inl ⟨by rfl, ?_⟩) (by assumption) ?_
  rotate_left
  · (intro wq hSw; (try dsimp only at hSw); go_simp; try with_reducible rfl)
  try simp only [Act.put, List.setIfInBounds_toArray, List.set_cons_zero, List.set_cons_succ]
  refine wpAnyH_ready (rs := [3]) (by kernel_rfl) (by simp) ?_
  refine AllReadyH.cons (o := ({ dst := some 67, op := Op.call { callee := Callee.value (Operand.func 15), args := #[Operand.tmp 64, Operand.tmp 66], argTypes := #[23, 3] }, type := 4, pos := _, after := #[{ on := 0, ground := Ground.data }, { on := 2, ground := Ground.data }], guard := none })) rfl (fun K hK => ?_) AllReadyH.nil
  go_simp
  go_at_call 15
  refine (exit_any wb.drew B gt t x.p (unhid_ HBO).T).mono ?_
  rintro e w1 ⟨rfl, hT1, ho1', _⟩
  have ho1 : Only [gt] wb w1 := (Only.refl [gt] wb).drew.trans ho1'
  have HT1 := hide hT1
  have HO1 := hide ho1
  have hbx1 := ho1.blk (unhid_ HBX) (by simp; omega)
  have e1 : w1.cell? ⟨w.heap.size, 1, none⟩ = some (.int .i64 x.p) := (hbx1).cell 1
  have HBX1 := hide hbx1
  clear hbx1
  refine hK.out _ _ ?_ (fun hHeld => ?_)
  · exact e1
  clear hK K
  try simp only [Act.put, List.setIfInBounds_toArray, List.set_cons_zero, List.set_cons_succ]
  refine wpAnyH_ready (rs := [7]) (by kernel_rfl) (by simp) ?_
  refine AllReadyH.cons (o := ({ dst := some 71, op := Op.call { callee := Callee.value (Operand.func 26), args := #[Operand.tmp 68, Operand.tmp 70], argTypes := #[51, 3] }, type := 4, pos := _, after := #[{ on := 4, ground := Ground.data }, { on := 6, ground := Ground.data }, { on := 3, ground := Ground.chain }], guard := none })) rfl (fun K hK => ?_) AllReadyH.nil
  go_simp
  go_at_call 26
  refine (rexit_any w1 gr r x.p ((unhid_ HBO).R1 (unhid_ HO1))).mono ?_
  rintro e2 w2 ⟨rfl, hR2, ho2⟩
  rw [(unhid_ HBO).M.is]
  have hbx2 := ho2.blk (unhid_ HBX1) (by simp; omega)
  have g1 : w2.cell? ⟨w.heap.size, 1, none⟩ = some (.int .i64 x.p) := (hbx2).cell 1
  clear hbx2
  refine hK.out _ _ ?_ (fun hHeld => ?_)
  · exact g1
  clear hK K
  try simp only [Act.put, List.setIfInBounds_toArray, List.set_cons_zero, List.set_cons_succ]
  refine wpAnyH_take (i := 8) (oi := ({ dst := some 72, op := Op.binOp BinOp.eql 4 (Operand.tmp 67) (Operand.tmp 71) 4, type := 4, pos := _, after := #[{ on := 3, ground := Ground.data }, { on := 7, ground := Ground.data }], guard := none })) (v := ?_) rfl (by kernel_rfl) (by kernel_rfl) (by kernel_rfl) (fun _ _ _ h => h) (Or.inl ⟨by rfl, ?_⟩) (by assumption) ?_
  rotate_left
  · (intro wq hSw; (try dsimp only at hSw); go_simp; try with_reducible rfl)
  try simp only [Act.put, List.setIfInBounds_toArray, List.set_cons_zero, List.set_cons_succ]
  refine wpAnyH_take (i := 9) (oi := ({ dst := some 6, op := Op.assign (Operand.tmp 72), type := 4, pos := _, after := #[{ on := 8, ground := Ground.data }, { on := 7, ground := Ground.chain }, { on := 0, ground := Ground.phase }, { on := 1, ground := Ground.phase }, { on := 2, ground := Ground.phase }, { on := 3, ground := Ground.phase }, { on := 4, ground := Ground.phase }, { on := 5, ground := Ground.phase }, { on := 6, ground := Ground.phase }, { on := 7, ground := Ground.phase }, { on := 8, ground := Ground.phase }], guard := none })) (v := ?_) rfl (by kernel_rfl) (by kernel_rfl) (by kernel_rfl) (fun _ _ _ h => h) (Or.inl ⟨by rfl, ?_⟩) (by assumption) ?_
  rotate_left
  · (intro wq hSw; (try dsimp only at hSw); go_simp; try with_reducible rfl)
  try simp only [Act.put, List.setIfInBounds_toArray, List.set_cons_zero, List.set_cons_succ]
  refine wpAnyH_done (by kernel_rfl) ?_ _
  clear c1 e1 g1
  have HR2 := hide hR2
  have HO2 := hide ho2
  clear hR2 ho2
  go_wp2
  go_ret
  obtain ⟨m1, m2⟩ := (unhid_ HBO).M.exit (unhid_ HBO).I x.p
  exact ⟨rfl, (Only.of_below (unhid_ HAL) _).trans ((unhid_ HO1).two (unhid_ HO2)), _, _, (unhid_ HBO).mk2 (unhid_ HT1) (unhid_ HR2) m1 m2 (unhid_ HO1) (unhid_ HO2), fun hk2 => absurd hk2 (by rw [HK.out]; decide)⟩

set_option maxRecDepth 100000 in
set_option maxHeartbeats 2000000 in
theorem do6_any (w : World) (B gt gr : Nat) (t : TbV) (r : Nat → RpV) (x : OpV) (hb : Bo w B gt gr t r) (hk : x.k % 10 = 6) :
    Calls Try.prog 20 #[.pointer (some ⟨gt, 0, none⟩), .pointer (some ⟨gr, 0, none⟩), x.val] w (DoT B gt gr t x w) := by
  unfold OpV.val
  have hal : Below w.heap.size w (w.alloc (.cells #[.int .i64 x.k, .int .i64 x.p, .int .i64 x.n, .int .i64 x.m, .int .i64 x.f.k, .int .i64 x.f.t, .int .i64 x.f.a, .bool x.f.w, .slice x.A x.xs.length x.c] 61)) := (Below.refl _ _).alloc (Nat.le_refl _) _
  have hbx := Blk.new w 61 #[.int .i64 x.k, .int .i64 x.p, .int .i64 x.n, .int .i64 x.m, .int .i64 x.f.k, .int .i64 x.f.t, .int .i64 x.f.a, .bool x.f.w, .slice x.A x.xs.length x.c]
  have hgt := hb.T.1.lt
  have hgr := hb.R.lt
  have hne := hb.ne
  obtain ⟨wb, hwb⟩ : ∃ wb, wb = w.alloc (.cells #[.int .i64 x.k, .int .i64 x.p, .int .i64 x.n, .int .i64 x.m, .int .i64 x.f.k, .int .i64 x.f.t, .int .i64 x.f.a, .bool x.f.w, .slice x.A x.xs.length x.c] 61) := ⟨_, rfl⟩
  have hsz : w.heap.size < wb.heap.size := by rw [hwb]; simp
  rw [← hwb] at hal hbx
  have hB2 := hb.below hal
  have hpl := place_any x.k 10 wb (by omega) (by omega)
  rw [hk] at hpl
  have HPL := hide hpl
  have HBX := hide hbx
  have HAL := hide hal
  have HBO := hide hB2
  have HWB := Lib.hid hwb
  have HK := Lib.hid hk
  have c0 : wb.cell? ⟨w.heap.size, 0, none⟩ = some (.int .i64 x.k) := (hbx).cell 0
  have c1 : wb.cell? ⟨w.heap.size, 1, none⟩ = some (.int .i64 x.p) := (hbx).cell 1
  have c2 : wb.cell? ⟨w.heap.size, 2, none⟩ = some (.int .i64 x.n) := (hbx).cell 2
  clear hal hbx hwb hb hB2 hpl hk
  go_enter Try.func20, Try.ntmps20
  go_upto_region 1 with (fail)
  rw [← HWB.out]
  go_wp2_with fail
  refine (unhid_ HPL).mono ?_
  rintro e w' ⟨rfl, rfl⟩
  go_upto_region 27 with (fail)
  refine wp_region_held_drew (S := (fun W => W.cell? ⟨w.heap.size, 1, none⟩ = some (.int .i64 x.p) ∧ W.cell? ⟨w.heap.size, 2, none⟩ = some (.int .i64 x.n))) (by kernel_rfl) ?_ (fun hHeld => ?_)
  · exact ⟨c1, c2⟩
  refine wpAnyH_take (i := 0) (oi := ({ dst := some 170, op := Op.move (Operand.tmp 0), type := 23, pos := _, after := #[], guard := none })) (v := ?_) rfl (by kernel_rfl) (by kernel_rfl) (by kernel_rfl) (fun _ _ _ h => h) (Or.inl ⟨by rfl, ?_⟩) (by assumption) ?_
  rotate_left
  · (intro wq hSw; (try dsimp only at hSw); go_simp; try with_reducible rfl)
  try simp only [Act.put, List.setIfInBounds_toArray, List.set_cons_zero, List.set_cons_succ]
  refine wpAnyH_take (i := 1) (oi := ({ dst := some 171, op := Op.fieldAddr 61 (Operand.tmp 5) 1, type := 0, pos := _, after := #[], guard := none })) (v := ?_) rfl (by kernel_rfl) (by kernel_rfl) (by kernel_rfl) (fun _ _ _ h => h) (Or.inl ⟨by rfl, ?_⟩) (by assumption) ?_
  rotate_left
  · (intro wq hSw; (try dsimp only at hSw); go_simp; try with_reducible rfl)
  try simp only [Act.put, List.setIfInBounds_toArray, List.set_cons_zero, List.set_cons_succ]
  refine wpAnyH_take (i := 2) (oi := ({ dst := some 172, op := Op.load 3 (Operand.tmp 171), type := 3, pos := _, after := #[{ on := 1, ground := Ground.data }], guard := none })) (v := ?_) rfl (by kernel_rfl) (by kernel_rfl) (by kernel_rfl) (fun _ _ _ h => h) (Or.inl ⟨by rfl, ?_⟩) (by assumption) ?_
  rotate_left
  · (intro wq hSw; (try dsimp only at hSw); go_simp; try with_reducible rfl)
  try simp only [Act.put, List.setIfInBounds_toArray, List.set_cons_zero, List.set_cons_succ]
  refine wpAnyH_take (i := 3) (oi := ({ dst := some 173, op := Op.fieldAddr 61 (Operand.tmp 5) 2, type := 0, pos := _, after := #[], guard := none })) (v := ?_) rfl (by kernel_rfl) (by kernel_rfl) (by kernel_rfl) (fun _ _ _ h => h) (Or.inl ⟨by rfl, ?_⟩) (by assumption) ?_
  rotate_left
  · (intro wq hSw; (try dsimp only at hSw); go_simp; try with_reducible rfl)
  try simp only [Act.put, List.setIfInBounds_toArray, List.set_cons_zero, List.set_cons_succ]
  refine wpAnyH_take (i := 4) (oi := ({ dst := some 174, op := Op.load 3 (Operand.tmp 173), type := 3, pos := _, after := #[{ on := 3, ground := Ground.data }], guard := none })) (v := ?_) rfl (by kernel_rfl) (by kernel_rfl) (by kernel_rfl) (fun _ _ _ h => h) (Or.inl ⟨by rfl, ?_⟩) (by assumption) ?_
  rotate_left
  · (intro wq hSw; (try dsimp only at hSw); go_simp; try with_reducible rfl)
  try simp only [Act.put, List.setIfInBounds_toArray, List.set_cons_zero, List.set_cons_succ]
  refine wpAnyH_take (i := 6) (oi := ({ dst := some 176, op := Op.move (Operand.tmp 1), type := 51, pos := _, after := #[], guard := none })) (v := ?_) rfl (by kernel_rfl) (by kernel_rfl) (by kernel_rfl) (fun _ _ _ h => h) (Or.inl ⟨by rfl, ?_⟩) (by assumption) ?_
  rotate_left
  · (intro wq hSw; (try dsimp only at hSw); go_simp; try with_reducible rfl)
  try simp only [Act.put, List.setIfInBounds_toArray, List.set_cons_zero, List.set_cons_succ]
  refine wpAnyH_take (i := 7) (oi := ({ dst := some 177, op := Op.fieldAddr 61 (Operand.tmp 5) 1, type := 0, pos := _, after := #[], guard := none })) (v := ?_) rfl (by kernel_rfl) (by kernel_rfl) (by kernel_rfl) (fun _ _ _ h => h) (Or.inl ⟨by rfl, ?_⟩) (by assumption) ?_
  rotate_left
  · (intro wq hSw; (try dsimp only at hSw); go_simp; try with_reducible rfl)
  try simp only [Act.put, List.setIfInBounds_toArray, List.set_cons_zero, List.set_cons_succ]
  refine wpAnyH_take (i := 8) (oi := ({ dst := some 178, op := Op.load 3 (Operand.tmp 177), type := 3, pos := _, after := #[{ on := 7, ground := Ground.data }], guard := none })) (v := ?_) rfl (by kernel_rfl) (by kernel_rfl) (by kernel_rfl) (fun _ _ _ h => h) (Or.inl ⟨by rfl, ?_⟩) (by assumption) ?_
  rotate_left
  · (intro wq hSw; (try dsimp only at hSw); go_simp; try with_reducible rfl)
  try simp only [Act.put, List.setIfInBounds_toArray, List.set_cons_zero, List.set_cons_succ]
  refine wpAnyH_take (i := 9) (oi := ({ dst := some 179, op := Op.fieldAddr 61 (Operand.tmp 5) 2, type := 0, pos := _, after := #[], guard := none })) (v := ?_) rfl (by kernel_rfl) (by kernel_rfl) (by kernel_rfl) (fun _ _ _ h => h) (Or.inl ⟨by rfl, ?_⟩) (by assumption) ?_
  rotate_left
  · (intro wq hSw; (try dsimp only at hSw); go_simp; try with_reducible rfl)
  try simp only [Act.put, List.setIfInBounds_toArray, List.set_cons_zero, List.set_cons_succ]
  refine wpAnyH_take (i := 10) (oi := ({ dst := some 180, op := Op.load 3 (Operand.tmp 179), type := 3, pos := _, after := #[{ on := 9, ground := Ground.data }], guard := none })) (v := ?_) rfl (by kernel_rfl) (by kernel_rfl) (by kernel_rfl) (fun _ _ _ h => h) (Or.inl ⟨by rfl, ?_⟩) (by assumption) ?_
  rotate_left
  · (intro wq hSw; (try dsimp only at hSw); go_simp; try with_reducible rfl)
  try simp only [Act.put, List.setIfInBounds_toArray, List.set_cons_zero, List.set_cons_succ]
  refine wpAnyH_ready (rs := [5]) (by kernel_rfl) (by simp) ?_
  refine AllReadyH.cons (o := ({ dst := some 175, op := Op.call { callee := Callee.value (Operand.func 12), args := #[Operand.tmp 170, Operand.tmp 172, Operand.tmp 174], argTypes := #[23, 3, 3] }, type := 25, pos := _, after := #[{ on := 0, ground := Ground.data }, { on := 2, ground := Ground.data }, { on := 4, ground := Ground.data }], guard := none })) rfl (fun K hK => ?_) AllReadyH.nil
  go_simp
  go_at_call 12
  refine (close_any wb.drew B gt t x.p x.n (unhid_ HBO).T).mono ?_
  rintro e w1 ⟨rfl, hT1, ho1', _⟩
  have ho1 : Only [gt] wb w1 := (Only.refl [gt] wb).drew.trans ho1'
  have HT1 := hide hT1
  have HO1 := hide ho1
  have hbx1 := ho1.blk (unhid_ HBX) (by simp; omega)
  have e1 : w1.cell? ⟨w.heap.size, 1, none⟩ = some (.int .i64 x.p) := (hbx1).cell 1
  have e2 : w1.cell? ⟨w.heap.size, 2, none⟩ = some (.int .i64 x.n) := (hbx1).cell 2
  have HBX1 := hide hbx1
  clear hbx1
  refine hK.out _ _ ?_ (fun hHeld => ?_)
  · exact ⟨e1, e2⟩
  clear hK K
  try simp only [Act.put, List.setIfInBounds_toArray, List.set_cons_zero, List.set_cons_succ]
  refine wpAnyH_ready (rs := [11]) (by kernel_rfl) (by simp) ?_
  refine AllReadyH.cons (o := ({ dst := some 181, op := Op.call { callee := Callee.value (Operand.func 32), args := #[Operand.tmp 176, Operand.tmp 178, Operand.tmp 180], argTypes := #[51, 3, 3] }, type := 25, pos := _, after := #[{ on := 6, ground := Ground.data }, { on := 8, ground := Ground.data }, { on := 10, ground := Ground.data }, { on := 5, ground := Ground.chain }], guard := none })) rfl (fun K hK => ?_) AllReadyH.nil
  go_simp
  go_at_call 32
  refine (rclose_any w1 gr r x.p x.n ((unhid_ HBO).R1 (unhid_ HO1))).mono ?_
  rintro e2 w2 ⟨rfl, hR2, ho2⟩
  rw [(unhid_ HBO).M.err (unhid_ HBO).I]
  have hbx2 := ho2.blk (unhid_ HBX1) (by simp; omega)
  have g1 : w2.cell? ⟨w.heap.size, 1, none⟩ = some (.int .i64 x.p) := (hbx2).cell 1
  have g2 : w2.cell? ⟨w.heap.size, 2, none⟩ = some (.int .i64 x.n) := (hbx2).cell 2
  clear hbx2
  refine hK.out _ _ ?_ (fun hHeld => ?_)
  · exact ⟨g1, g2⟩
  clear hK K
  try simp only [Act.put, List.setIfInBounds_toArray, List.set_cons_zero, List.set_cons_succ]
  refine wpAnyH_take (i := 12) (oi := ({ dst := some 182, op := Op.binOp BinOp.eql 25 (Operand.tmp 175) (Operand.tmp 181) 25, type := 4, pos := _, after := #[{ on := 5, ground := Ground.data }, { on := 11, ground := Ground.data }], guard := none })) (v := ?_) rfl (by kernel_rfl) (by kernel_rfl) (by kernel_rfl) (fun _ _ _ h => h) (Or.inl ⟨by rfl, ?_⟩) (by assumption) ?_
  rotate_left
  · (intro wq hSw; (try dsimp only at hSw); go_simp; try with_reducible rfl)
  try simp only [Act.put, List.setIfInBounds_toArray, List.set_cons_zero, List.set_cons_succ]
  refine wpAnyH_take (i := 13) (oi := ({ dst := some 6, op := Op.assign (Operand.tmp 182), type := 4, pos := _, after := #[{ on := 12, ground := Ground.data }, { on := 11, ground := Ground.chain }, { on := 0, ground := Ground.phase }, { on := 1, ground := Ground.phase }, { on := 2, ground := Ground.phase }, { on := 3, ground := Ground.phase }, { on := 4, ground := Ground.phase }, { on := 5, ground := Ground.phase }, { on := 6, ground := Ground.phase }, { on := 7, ground := Ground.phase }, { on := 8, ground := Ground.phase }, { on := 9, ground := Ground.phase }, { on := 10, ground := Ground.phase }, { on := 11, ground := Ground.phase }, { on := 12, ground := Ground.phase }], guard := none })) (v := ?_) rfl (by kernel_rfl) (by kernel_rfl) (by kernel_rfl) (fun _ _ _ h => h) (Or.inl ⟨by rfl, ?_⟩) (by assumption) ?_
  rotate_left
  · (intro wq hSw; (try dsimp only at hSw); go_simp; try with_reducible rfl)
  try simp only [Act.put, List.setIfInBounds_toArray, List.set_cons_zero, List.set_cons_succ]
  refine wpAnyH_done (by kernel_rfl) ?_ _
  clear c1 c2 e1 e2 g1 g2
  have HR2 := hide hR2
  have HO2 := hide ho2
  clear hR2 ho2
  go_wp2
  go_ret
  obtain ⟨m1, m2⟩ := (unhid_ HBO).M.close (unhid_ HBO).I x.p x.n
  exact ⟨rfl, (Only.of_below (unhid_ HAL) _).trans ((unhid_ HO1).two (unhid_ HO2)), _, _, (unhid_ HBO).mk2 (unhid_ HT1) (unhid_ HR2) m1 m2 (unhid_ HO1) (unhid_ HO2), fun _ => Fr.close _ _ _⟩

set_option maxRecDepth 100000 in
set_option maxHeartbeats 2000000 in
theorem do8_any (w : World) (B gt gr : Nat) (t : TbV) (r : Nat → RpV) (x : OpV) (hb : Bo w B gt gr t r) (hk : x.k % 10 = 8) :
    Calls Try.prog 20 #[.pointer (some ⟨gt, 0, none⟩), .pointer (some ⟨gr, 0, none⟩), x.val] w (DoT B gt gr t x w) := by
  unfold OpV.val
  have hal : Below w.heap.size w (w.alloc (.cells #[.int .i64 x.k, .int .i64 x.p, .int .i64 x.n, .int .i64 x.m, .int .i64 x.f.k, .int .i64 x.f.t, .int .i64 x.f.a, .bool x.f.w, .slice x.A x.xs.length x.c] 61)) := (Below.refl _ _).alloc (Nat.le_refl _) _
  have hbx := Blk.new w 61 #[.int .i64 x.k, .int .i64 x.p, .int .i64 x.n, .int .i64 x.m, .int .i64 x.f.k, .int .i64 x.f.t, .int .i64 x.f.a, .bool x.f.w, .slice x.A x.xs.length x.c]
  have hgt := hb.T.1.lt
  have hgr := hb.R.lt
  have hne := hb.ne
  obtain ⟨wb, hwb⟩ : ∃ wb, wb = w.alloc (.cells #[.int .i64 x.k, .int .i64 x.p, .int .i64 x.n, .int .i64 x.m, .int .i64 x.f.k, .int .i64 x.f.t, .int .i64 x.f.a, .bool x.f.w, .slice x.A x.xs.length x.c] 61) := ⟨_, rfl⟩
  have hsz : w.heap.size < wb.heap.size := by rw [hwb]; simp
  rw [← hwb] at hal hbx
  have hB2 := hb.below hal
  have hpl := place_any x.k 10 wb (by omega) (by omega)
  rw [hk] at hpl
  have HPL := hide hpl
  have HBX := hide hbx
  have HAL := hide hal
  have HBO := hide hB2
  have HWB := Lib.hid hwb
  have HK := Lib.hid hk
  have c0 : wb.cell? ⟨w.heap.size, 0, none⟩ = some (.int .i64 x.k) := (hbx).cell 0
  have c1 : wb.cell? ⟨w.heap.size, 1, none⟩ = some (.int .i64 x.p) := (hbx).cell 1
  have c2 : wb.cell? ⟨w.heap.size, 2, none⟩ = some (.int .i64 x.n) := (hbx).cell 2
  have c3 : wb.cell? ⟨w.heap.size, 3, none⟩ = some (.int .i64 x.m) := (hbx).cell 3
  clear hal hbx hwb hb hB2 hpl hk
  go_enter Try.func20, Try.ntmps20
  go_upto_region 1 with (fail)
  rw [← HWB.out]
  go_wp2_with fail
  refine (unhid_ HPL).mono ?_
  rintro e w' ⟨rfl, rfl⟩
  go_upto_region 33 with (fail)
  refine wp_region_held_drew (S := (fun W => W.cell? ⟨w.heap.size, 1, none⟩ = some (.int .i64 x.p) ∧ W.cell? ⟨w.heap.size, 2, none⟩ = some (.int .i64 x.n) ∧ W.cell? ⟨w.heap.size, 3, none⟩ = some (.int .i64 x.m))) (by kernel_rfl) ?_ (fun hHeld => ?_)
  · exact ⟨c1, c2, c3⟩
  refine wpAnyH_take (i := 0) (oi := ({ dst := some 213, op := Op.move (Operand.tmp 0), type := 23, pos := _, after := #[], guard := none })) (v := ?_) rfl (by kernel_rfl) (by kernel_rfl) (by kernel_rfl) (fun _ _ _ h => h) (Or.inl ⟨by rfl, ?_⟩) (by assumption) ?_
  rotate_left
  · (intro wq hSw; (try dsimp only at hSw); go_simp; try with_reducible rfl)
  try simp only [Act.put, List.setIfInBounds_toArray, List.set_cons_zero, List.set_cons_succ]
  refine wpAnyH_take (i := 1) (oi := ({ dst := some 214, op := Op.fieldAddr 61 (Operand.tmp 5) 1, type := 0, pos := _, after := #[], guard := none })) (v := ?_) rfl (by kernel_rfl) (by kernel_rfl) (by kernel_rfl) (fun _ _ _ h => h) (Or.inl ⟨by rfl, ?_⟩) (by assumption) ?_
  rotate_left
  · (intro wq hSw; (try dsimp only at hSw); go_simp; try with_reducible rfl)
  try simp only [Act.put, List.setIfInBounds_toArray, List.set_cons_zero, List.set_cons_succ]
  refine wpAnyH_take (i := 2) (oi := ({ dst := some 215, op := Op.load 3 (Operand.tmp 214), type := 3, pos := _, after := #[{ on := 1, ground := Ground.data }], guard := none })) (v := ?_) rfl (by kernel_rfl) (by kernel_rfl) (by kernel_rfl) (fun _ _ _ h => h) (Or.inl ⟨by rfl, ?_⟩) (by assumption) ?_
  rotate_left
  · (intro wq hSw; (try dsimp only at hSw); go_simp; try with_reducible rfl)
  try simp only [Act.put, List.setIfInBounds_toArray, List.set_cons_zero, List.set_cons_succ]
  refine wpAnyH_take (i := 3) (oi := ({ dst := some 216, op := Op.fieldAddr 61 (Operand.tmp 5) 2, type := 0, pos := _, after := #[], guard := none })) (v := ?_) rfl (by kernel_rfl) (by kernel_rfl) (by kernel_rfl) (fun _ _ _ h => h) (Or.inl ⟨by rfl, ?_⟩) (by assumption) ?_
  rotate_left
  · (intro wq hSw; (try dsimp only at hSw); go_simp; try with_reducible rfl)
  try simp only [Act.put, List.setIfInBounds_toArray, List.set_cons_zero, List.set_cons_succ]
  refine wpAnyH_take (i := 4) (oi := ({ dst := some 217, op := Op.load 3 (Operand.tmp 216), type := 3, pos := _, after := #[{ on := 3, ground := Ground.data }], guard := none })) (v := ?_) rfl (by kernel_rfl) (by kernel_rfl) (by kernel_rfl) (fun _ _ _ h => h) (Or.inl ⟨by rfl, ?_⟩) (by assumption) ?_
  rotate_left
  · (intro wq hSw; (try dsimp only at hSw); go_simp; try with_reducible rfl)
  try simp only [Act.put, List.setIfInBounds_toArray, List.set_cons_zero, List.set_cons_succ]
  refine wpAnyH_take (i := 5) (oi := ({ dst := some 218, op := Op.fieldAddr 61 (Operand.tmp 5) 3, type := 0, pos := _, after := #[], guard := none })) (v := ?_) rfl (by kernel_rfl) (by kernel_rfl) (by kernel_rfl) (fun _ _ _ h => h) (Or.inl ⟨by rfl, ?_⟩) (by assumption) ?_
  rotate_left
  · (intro wq hSw; (try dsimp only at hSw); go_simp; try with_reducible rfl)
  try simp only [Act.put, List.setIfInBounds_toArray, List.set_cons_zero, List.set_cons_succ]
  refine wpAnyH_take (i := 6) (oi := ({ dst := some 219, op := Op.load 3 (Operand.tmp 218), type := 3, pos := _, after := #[{ on := 5, ground := Ground.data }], guard := none })) (v := ?_) rfl (by kernel_rfl) (by kernel_rfl) (by kernel_rfl) (fun _ _ _ h => h) (Or.inl ⟨by rfl, ?_⟩) (by assumption) ?_
  rotate_left
  · (intro wq hSw; (try dsimp only at hSw); go_simp; try with_reducible rfl)
  try simp only [Act.put, List.setIfInBounds_toArray, List.set_cons_zero, List.set_cons_succ]
  refine wpAnyH_take (i := 8) (oi := ({ dst := some 221, op := Op.move (Operand.tmp 1), type := 51, pos := _, after := #[], guard := none })) (v := ?_) rfl (by kernel_rfl) (by kernel_rfl) (by kernel_rfl) (fun _ _ _ h => h) (Or.inl ⟨by rfl, ?_⟩) (by assumption) ?_
  rotate_left
  · (intro wq hSw; (try dsimp only at hSw); go_simp; try with_reducible rfl)
  try simp only [Act.put, List.setIfInBounds_toArray, List.set_cons_zero, List.set_cons_succ]
  refine wpAnyH_take (i := 9) (oi := ({ dst := some 222, op := Op.fieldAddr 61 (Operand.tmp 5) 1, type := 0, pos := _, after := #[], guard := none })) (v := ?_) rfl (by kernel_rfl) (by kernel_rfl) (by kernel_rfl) (fun _ _ _ h => h) (Or.inl ⟨by rfl, ?_⟩) (by assumption) ?_
  rotate_left
  · (intro wq hSw; (try dsimp only at hSw); go_simp; try with_reducible rfl)
  try simp only [Act.put, List.setIfInBounds_toArray, List.set_cons_zero, List.set_cons_succ]
  refine wpAnyH_take (i := 10) (oi := ({ dst := some 223, op := Op.load 3 (Operand.tmp 222), type := 3, pos := _, after := #[{ on := 9, ground := Ground.data }], guard := none })) (v := ?_) rfl (by kernel_rfl) (by kernel_rfl) (by kernel_rfl) (fun _ _ _ h => h) (Or.inl ⟨by rfl, ?_⟩) (by assumption) ?_
  rotate_left
  · (intro wq hSw; (try dsimp only at hSw); go_simp; try with_reducible rfl)
  try simp only [Act.put, List.setIfInBounds_toArray, List.set_cons_zero, List.set_cons_succ]
  refine wpAnyH_take (i := 11) (oi := ({ dst := some 224, op := Op.fieldAddr 61 (Operand.tmp 5) 2, type := 0, pos := _, after := #[], guard := none })) (v := ?_) rfl (by kernel_rfl) (by kernel_rfl) (by kernel_rfl) (fun _ _ _ h => h) (Or.inl ⟨by rfl, ?_⟩) (by assumption) ?_
  rotate_left
  · (intro wq hSw; (try dsimp only at hSw); go_simp; try with_reducible rfl)
  try simp only [Act.put, List.setIfInBounds_toArray, List.set_cons_zero, List.set_cons_succ]
  refine wpAnyH_take (i := 12) (oi := ({ dst := some 225, op := Op.load 3 (Operand.tmp 224), type := 3, pos := _, after := #[{ on := 11, ground := Ground.data }], guard := none })) (v := ?_) rfl (by kernel_rfl) (by kernel_rfl) (by kernel_rfl) (fun _ _ _ h => h) (Or.inl ⟨by rfl, ?_⟩) (by assumption) ?_
  rotate_left
  · (intro wq hSw; (try dsimp only at hSw); go_simp; try with_reducible rfl)
  try simp only [Act.put, List.setIfInBounds_toArray, List.set_cons_zero, List.set_cons_succ]
  refine wpAnyH_take (i := 13) (oi := ({ dst := some 226, op := Op.fieldAddr 61 (Operand.tmp 5) 3, type := 0, pos := _, after := #[], guard := none })) (v := ?_) rfl (by kernel_rfl) (by kernel_rfl) (by kernel_rfl) (fun _ _ _ h => h) (Or.inl ⟨by rfl, ?_⟩) (by assumption) ?_
  rotate_left
  · (intro wq hSw; (try dsimp only at hSw); go_simp; try with_reducible rfl)
  try simp only [Act.put, List.setIfInBounds_toArray, List.set_cons_zero, List.set_cons_succ]
  refine wpAnyH_take (i := 14) (oi := ({ dst := some 227, op := Op.load 3 (Operand.tmp 226), type := 3, pos := _, after := #[{ on := 13, ground := Ground.data }], guard := none })) (v := ?_) rfl (by kernel_rfl) (by kernel_rfl) (by kernel_rfl) (fun _ _ _ h => h) (Or.inl ⟨by rfl, ?_⟩) (by assumption) ?_
  rotate_left
  · (intro wq hSw; (try dsimp only at hSw); go_simp; try with_reducible rfl)
  try simp only [Act.put, List.setIfInBounds_toArray, List.set_cons_zero, List.set_cons_succ]
  refine wpAnyH_ready (rs := [7]) (by kernel_rfl) (by simp) ?_
  refine AllReadyH.cons (o := ({ dst := some 220, op := Op.call { callee := Callee.value (Operand.func 34), args := #[Operand.tmp 213, Operand.tmp 215, Operand.tmp 217, Operand.tmp 219], argTypes := #[23, 3, 3, 3] }, type := 25, pos := _, after := #[{ on := 0, ground := Ground.data }, { on := 2, ground := Ground.data }, { on := 4, ground := Ground.data }, { on := 6, ground := Ground.data }], guard := none })) rfl (fun K hK => ?_) AllReadyH.nil
  go_simp
  go_at_call 34
  refine (seek_any wb.drew B gt t x.p x.n x.m (unhid_ HBO).T).mono ?_
  rintro e w1 ⟨rfl, hT1, ho1'⟩
  have ho1 : Only [gt] wb w1 := (Only.refl [gt] wb).drew.trans ho1'
  have HT1 := hide hT1
  have HO1 := hide ho1
  have hbx1 := ho1.blk (unhid_ HBX) (by simp; omega)
  have e1 : w1.cell? ⟨w.heap.size, 1, none⟩ = some (.int .i64 x.p) := (hbx1).cell 1
  have e2 : w1.cell? ⟨w.heap.size, 2, none⟩ = some (.int .i64 x.n) := (hbx1).cell 2
  have e3 : w1.cell? ⟨w.heap.size, 3, none⟩ = some (.int .i64 x.m) := (hbx1).cell 3
  have HBX1 := hide hbx1
  clear hbx1
  refine hK.out _ _ ?_ (fun hHeld => ?_)
  · exact ⟨e1, e2, e3⟩
  clear hK K
  try simp only [Act.put, List.setIfInBounds_toArray, List.set_cons_zero, List.set_cons_succ]
  refine wpAnyH_ready (rs := [15]) (by kernel_rfl) (by simp) ?_
  refine AllReadyH.cons (o := ({ dst := some 228, op := Op.call { callee := Callee.value (Operand.func 35), args := #[Operand.tmp 221, Operand.tmp 223, Operand.tmp 225, Operand.tmp 227], argTypes := #[51, 3, 3, 3] }, type := 25, pos := _, after := #[{ on := 8, ground := Ground.data }, { on := 10, ground := Ground.data }, { on := 12, ground := Ground.data }, { on := 14, ground := Ground.data }, { on := 7, ground := Ground.chain }], guard := none })) rfl (fun K hK => ?_) AllReadyH.nil
  go_simp
  go_at_call 35
  refine (rseek_any w1 gr r x.p x.n x.m ((unhid_ HBO).R1 (unhid_ HO1))).mono ?_
  rintro e2 w2 ⟨rfl, hR2, ho2⟩
  rw [(unhid_ HBO).M.seekErr (unhid_ HBO).I]
  have hbx2 := ho2.blk (unhid_ HBX1) (by simp; omega)
  have g1 : w2.cell? ⟨w.heap.size, 1, none⟩ = some (.int .i64 x.p) := (hbx2).cell 1
  have g2 : w2.cell? ⟨w.heap.size, 2, none⟩ = some (.int .i64 x.n) := (hbx2).cell 2
  have g3 : w2.cell? ⟨w.heap.size, 3, none⟩ = some (.int .i64 x.m) := (hbx2).cell 3
  clear hbx2
  refine hK.out _ _ ?_ (fun hHeld => ?_)
  · exact ⟨g1, g2, g3⟩
  clear hK K
  try simp only [Act.put, List.setIfInBounds_toArray, List.set_cons_zero, List.set_cons_succ]
  refine wpAnyH_take (i := 16) (oi := ({ dst := some 229, op := Op.binOp BinOp.eql 25 (Operand.tmp 220) (Operand.tmp 228) 25, type := 4, pos := _, after := #[{ on := 7, ground := Ground.data }, { on := 15, ground := Ground.data }], guard := none })) (v := ?_) rfl (by kernel_rfl) (by kernel_rfl) (by kernel_rfl) (fun _ _ _ h => h) (Or.inl ⟨by rfl, ?_⟩) (by assumption) ?_
  rotate_left
  · (intro wq hSw; (try dsimp only at hSw); go_simp; try with_reducible rfl)
  try simp only [Act.put, List.setIfInBounds_toArray, List.set_cons_zero, List.set_cons_succ]
  refine wpAnyH_take (i := 17) (oi := ({ dst := some 6, op := Op.assign (Operand.tmp 229), type := 4, pos := _, after := #[{ on := 16, ground := Ground.data }, { on := 15, ground := Ground.chain }, { on := 0, ground := Ground.phase }, { on := 1, ground := Ground.phase }, { on := 2, ground := Ground.phase }, { on := 3, ground := Ground.phase }, { on := 4, ground := Ground.phase }, { on := 5, ground := Ground.phase }, { on := 6, ground := Ground.phase }, { on := 7, ground := Ground.phase }, { on := 8, ground := Ground.phase }, { on := 9, ground := Ground.phase }, { on := 10, ground := Ground.phase }, { on := 11, ground := Ground.phase }, { on := 12, ground := Ground.phase }, { on := 13, ground := Ground.phase }, { on := 14, ground := Ground.phase }, { on := 15, ground := Ground.phase }, { on := 16, ground := Ground.phase }], guard := none })) (v := ?_) rfl (by kernel_rfl) (by kernel_rfl) (by kernel_rfl) (fun _ _ _ h => h) (Or.inl ⟨by rfl, ?_⟩) (by assumption) ?_
  rotate_left
  · (intro wq hSw; (try dsimp only at hSw); go_simp; try with_reducible rfl)
  try simp only [Act.put, List.setIfInBounds_toArray, List.set_cons_zero, List.set_cons_succ]
  refine wpAnyH_done (by kernel_rfl) ?_ _
  clear c1 c2 c3 e1 e2 e3 g1 g2 g3
  have HR2 := hide hR2
  have HO2 := hide ho2
  clear hR2 ho2
  go_wp2
  go_ret
  obtain ⟨m1, m2⟩ := (unhid_ HBO).M.seek (unhid_ HBO).I x.p x.n x.m
  exact ⟨rfl, (Only.of_below (unhid_ HAL) _).trans ((unhid_ HO1).two (unhid_ HO2)), _, _, (unhid_ HBO).mk2 (unhid_ HT1) (unhid_ HR2) m1 m2 (unhid_ HO1) (unhid_ HO2), fun _ => Fr.seek _ _ _ _⟩

end Go.Proofs.Ytgdloahgokefpaa
