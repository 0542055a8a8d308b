/- The walk of the law TableForks. -/
import Derived.Test.YtgdloahgokefpaaTForks
import Derived.Deep.DeepCutAuto
namespace Go.Proofs.Ytgdloahgokefpaa
open Go.RowKit
set_option linter.unusedSimpArgs false

set_option maxRecDepth 100000 in
set_option maxHeartbeats 4000000 in
theorem tableForks_any (A : Option Addr) (n c : Nat) (A2 : Option Addr) (n2 c2 : Nat) (who : Int) (w : World) (hr : OpsR w w.heap.size A n) (hr2 : OpsR w w.heap.size A2 n2) :
    Calls Try.prog 6 #[.slice A n c, .slice A2 n2 c2, .int .i64 who] w (Yes w) := by
  have HR := hide hr
  have HR2 := hide hr2
  clear hr hr2
  go_enter Try.func6, Try.ntmps6
  go_wp2_with fail
  refine (newt_any _).mono ?_
  rintro e w1 ⟨rfl, h1, hb1, hs1⟩
  have hBo := Bo.start h1 hs1
  have hz := run_zero_ref
  have HB1 := hide hb1
  have HS1 := Lib.hid hs1
  have HBO := hide hBo
  clear h1 hb1 hs1 hBo
  go_upto_region 3 with (fail)
  clear hz
  rw [HS1.out]
  obtain ⟨w2, hw2⟩ : ∃ w2, w2 = w1.alloc (.cells (Tb 507 (rcell fun _ => RpV.zero)) 59) := ⟨_, rfl⟩
  rw [← hw2]
  rw [← hw2] at HBO
  have hb2 : Below w.heap.size w w2 := by rw [hw2]; exact (unhid_ HB1).alloc (unhid_ HB1).size _
  have HB2 := hide hb2
  clear hb2 hw2 HB1 HS1
  obtain ⟨B, hB⟩ : ∃ B, B = w.heap.size + 2 := ⟨_, rfl⟩
  obtain ⟨gr, hgr⟩ : ∃ gr, gr = w.heap.size + 1 := ⟨_, rfl⟩
  obtain ⟨gt, hgt⟩ : ∃ gt, gt = w.heap.size := ⟨_, rfl⟩
  have HBOx : Hid (Bo w2 B gt gr TbV.zero fun _ => RpV.zero) := by rw [hB, hgr, hgt]; exact HBO
  have hg1 : w.heap.size ≤ gt := by omega
  have hg2 : w.heap.size ≤ gr := by omega
  have hg3 : gt < B := by omega
  have hg4 : gr < B := by omega
  rw [← hgr, ← hgt]
  clear HBO hB hgr hgt
  have HSP := hide (spawn_any w2 B gt TbV.zero 0 9 9 (unhid_ HBOx).T (unhid_ HBOx).sz)
  go_wp2_with fail
  refine (unhid_ HSP).mono ?_
  rintro e w3 hsp
  obtain ⟨rfl, ho3, x, _, _, _, _, hT3, hM3, hI3⟩ := hsp.ok2 (unhid_ HBOx) (p := 1) (by decide) (by decide +kernel)
  have HR3 := hide (rspawn_any w3 gr (fun _ => RpV.zero) 0 9 9 ((unhid_ HBOx).R1 ho3))
  have hth3 : (TbV.zero.put 1 x).th = fun p => decide (p = 1) := by
    rw [th_put]
    funext p
    show (if p = 1 then true else false) = _
    split <;> simp [*]
  obtain ⟨t3, ht3⟩ : ∃ t3, t3 = TbV.zero.put 1 x := ⟨_, rfl⟩
  rw [← ht3] at hT3 hM3 hI3 hth3
  have HT3 := hide hT3
  have HM3 := hide hM3
  have HI3 := hide hI3
  have HTH3 := Lib.hid hth3
  have HO3 := hide ho3
  clear hsp hT3 hM3 hI3 hth3 ho3 ht3 HSP
  go_wp2_with fail
  refine (unhid_ HR3).mono ?_
  rintro e w4 hsp
  obtain ⟨rfl, ho4, hR4⟩ := hsp.ok2 (unhid_ HBOx).M (p := 1) (by decide) (by decide +kernel)
  have hB4 := (unhid_ HBOx).mk2 (unhid_ HT3) hR4 (unhid_ HM3) (unhid_ HI3) (unhid_ HO3) ho4
  have hb4 : Below w.heap.size w w4 := (unhid_ HB2).trans (((unhid_ HO3).two ho4).below (fun k hk => by simp at hk; omega) (unhid_ HB2).size)
  obtain ⟨r4, hr4⟩ : ∃ r4, r4 = setP (fun _ => RpV.zero) 1 (rnew (fun _ => RpV.zero) 0 9 9) := ⟨_, rfl⟩
  rw [← hr4] at hB4
  have HB4 := hide hb4
  have HBO4 := hide hB4
  clear hsp ho4 hR4 hB4 hb4 hr4 HR3 HT3 HM3 HI3 HO3
  go_wp2_with fail
  go_loopw [11, 12, 13] (fun s11 _ _ wq => ∃ (i : Nat) (t : TbV) (r : Nat → RpV), i ≤ n ∧ s11 = .int .i64 i ∧ Bo wq B gt gr t r ∧ (t.th = fun p => decide (p = 1)) ∧ Below w.heap.size w wq) (fun s11 _ _ _ => n - (intOf s11).toNat)
  case atStart => exact ⟨0, _, _, Nat.zero_le _, rfl, unhid_ HBO4, HTH3.out, unhid_ HB4⟩
  case round =>
    obtain ⟨i, t, r, hi, rfl, hbo, hth, hb⟩ := hrel
    have HBo := hide hbo
    have HBq := hide hb
    have HTH := Lib.hid hth
    have hzr := hb.size
    clear hbo hb hth
    by_cases hlt : i < n ∧ i < 30
    · obtain ⟨hlt, h30⟩ := hlt
      obtain ⟨ad, x, hA, hbk, hcell, hrx, hxc, hcm⟩ := ((unhid_ HR).below (unhid_ HBq)) i hlt
      subst hA
      have c0 : wr.cell? (ad.add (i * 9)) = some (.int .i64 x.k) := hcell 0 (by omega)
      have c1 : wr.cell? ⟨(ad.add (i * 9)).block, (ad.add (i * 9)).off + 1, none⟩ = some (.int .i64 x.p) := hcell 1 (by omega)
      have c2 : wr.cell? ⟨(ad.add (i * 9)).block, (ad.add (i * 9)).off + 2, none⟩ = some (.int .i64 x.n) := hcell 2 (by omega)
      have c3 : wr.cell? ⟨(ad.add (i * 9)).block, (ad.add (i * 9)).off + 3, none⟩ = some (.int .i64 x.m) := hcell 3 (by omega)
      have c4 : wr.cell? ⟨(ad.add (i * 9)).block, (ad.add (i * 9)).off + 4, none⟩ = some (.int .i64 x.f.k) := hcell 4 (by omega)
      have c5 : wr.cell? ⟨(ad.add (i * 9)).block, (ad.add (i * 9)).off + 5, none⟩ = some (.int .i64 x.f.t) := hcell 5 (by omega)
      have c6 : wr.cell? ⟨(ad.add (i * 9)).block, (ad.add (i * 9)).off + 6, none⟩ = some (.int .i64 x.f.a) := hcell 6 (by omega)
      have c7 : wr.cell? ⟨(ad.add (i * 9)).block, (ad.add (i * 9)).off + 7, none⟩ = some (.bool x.f.w) := hcell 7 (by omega)
      have c8 : wr.cell? ⟨(ad.add (i * 9)).block, (ad.add (i * 9)).off + 8, none⟩ = some (.slice x.A x.xs.length x.c) := hcell 8 (by omega)
      have h30I : (i : Int) < 30 := by omega
      have HX := hide hrx
      clear hcell hrx
      go_upto_region 14 with (fail)
      obtain ⟨wb, hwb⟩ : ∃ wb, wb = wr.alloc (.cells #[.int .i64 x.k, .int .i64 1, .int .i64 x.n, .int .i64 x.m, .int .i64 x.f.k, .int .i64 x.f.t, .int .i64 x.f.a, .bool x.f.w, .slice x.A x.xs.length x.c] 61) := ⟨_, rfl⟩
      rw [← hwb]
      have hal : Below wr.heap.size wr wb := by rw [hwb]; exact (Below.refl _ _).alloc (Nat.le_refl _) _
      have hblk : Blk wb wr.heap.size 61 #[.int .i64 x.k, .int .i64 1, .int .i64 x.n, .int .i64 x.m, .int .i64 x.f.k, .int .i64 x.f.t, .int .i64 x.f.a, .bool x.f.w, .slice x.A x.xs.length x.c] := by rw [hwb]; exact Blk.new _ _ _
      have d0 : wb.cell? ⟨wr.heap.size, 0, none⟩ = some (.int .i64 x.k) := hblk.cell 0
      have d1 : wb.cell? ⟨wr.heap.size, 1, none⟩ = some (.int .i64 1) := hblk.cell 1
      have d2 : wb.cell? ⟨wr.heap.size, 2, none⟩ = some (.int .i64 x.n) := hblk.cell 2
      have d3 : wb.cell? ⟨wr.heap.size, 3, none⟩ = some (.int .i64 x.m) := hblk.cell 3
      have d4 : wb.cell? ⟨wr.heap.size, 4, none⟩ = some (.int .i64 x.f.k) := hblk.cell 4
      have d5 : wb.cell? ⟨wr.heap.size, 5, none⟩ = some (.int .i64 x.f.t) := hblk.cell 5
      have d6 : wb.cell? ⟨wr.heap.size, 6, none⟩ = some (.int .i64 x.f.a) := hblk.cell 6
      have d7 : wb.cell? ⟨wr.heap.size, 7, none⟩ = some (.bool x.f.w) := hblk.cell 7
      have d8 : wb.cell? ⟨wr.heap.size, 8, none⟩ = some (.slice x.A x.xs.length x.c) := hblk.cell 8
      have hBb := (unhid_ HBo).below hal
      have HX2 : Hid (Reads wb w.heap.size 1 x.A x.xs.length (x.xs.map (Value.int .u8))) := Reads.below (unhid_ HX) (hal.mono hzr)
      obtain ⟨kk, hkk⟩ : ∃ kk, kk = x.k % 10 := ⟨_, rfl⟩
      have hpl := place_any x.k 10 wb (by omega) (by omega)
      rw [← hkk] at hpl
      have HPL := hide hpl
      have HBB := hide hBb
      have HAL := hide hal
      have HKK := Lib.hid hkk
      have hzb := hal.size
      clear hwb hal hblk hBb hpl hkk c0 c1 c2 c3 c4 c5 c6 c7 c8
      go_wp2_with fail
      refine (unhid_ HPL).mono ?_
      rintro e w' ⟨rfl, rfl⟩
      go_upto_region 15 with (fail)
      go_cut [70] (fun s wx => s = .bool (decide (kk < 2) || decide (600 < (x.xs.length : Int))) ∧ wx = wb)
      case first =>
        by_cases hk2 : kk < 2
        · go_wp2
          go_meet
          exact ⟨by simp [hk2], rfl⟩
        · have hk3 : 2 ≤ kk := by omega
          clear hk2
          go_wp2
          go_meet
          exact ⟨by first | (simp; done) | (simp; omega), rfl⟩
      case rest =>
        obtain ⟨rfl, hwx⟩ := hcut
        have hwx2 := hwx.symm
        subst hwx2
        cases hcc : (decide (kk < 2) || decide (600 < (x.xs.length : Int))) with
        | true =>
          clear hcc
          go_wp2
          go_roundw
          case rel => exact ⟨i + 1, t, r, by omega, by go_num, unhid_ HBB, HTH.out, (unhid_ HBq).trans ((unhid_ HAL).mono hzr)⟩
          case measure => simp [intOf]; omega
        | false =>
          have hk2 : 2 ≤ x.k % 10 ∧ x.xs.length ≤ 600 := by
            simp at hcc
            have := HKK.out
            omega
          have HD := hide (do_any wb B gt gr t r (x.for_ 1) (unhid_ HBB) w.heap.size (unhid_ HX2) hg2 hg1 hk2.2)
          have HK2 := Lib.hid hk2.1
          clear hcc hk2
          go_upto_region 16 with (fail)
          go_wp2_with fail
          refine (unhid_ HD).mono ?_
          rintro e w3 ⟨rfl, ho3, t', r', hb3, hfr⟩
          have hFr := hfr HK2.out
          have hbw3 : Below w.heap.size w w3 := (unhid_ HBq).trans (((unhid_ HAL).mono hzr).trans (ho3.below (fun k hk => by simp at hk; omega) (by omega)))
          have HB3 := hide hb3
          have HBW3 := hide hbw3
          have HFR := hide hFr
          have HO3 := hide ho3
          clear ho3 hb3 hbw3 HD hfr hFr d0 d1 d2 d3 d4 d5 d6 d7 d8
          go_wp2
          go_roundw
          case rel => exact ⟨i + 1, t', r', by omega, by go_num, unhid_ HB3, (unhid_ HFR).1.trans HTH.out, unhid_ HBW3⟩
          case measure => simp [intOf]; omega
    · have hex : (n : Int) ≤ i ∨ ((i : Int) < n ∧ 30 ≤ (i : Int)) := by omega
      go_upto_region 10 with (fail)
      go_cut [52] (fun s52 wx => s52 = .bool false ∧ wx = wr)
      case first =>
        rcases hex with h | ⟨h, h'⟩
        all_goals
          go_wp2
          go_meet
          exact ⟨by first | rfl | (simp; omega), rfl⟩
      case rest =>
        obtain ⟨rfl, hwx⟩ := hcut
        have hwx2 := hwx.symm
        subst hwx2
        clear hex
        obtain ⟨w5, rfl⟩ : ∃ w5 : World, w5 = wr := ⟨_, rfl⟩
        go_upto_region 18 with (fail)
        have hbad : t.bad 1 = false := by
          unfold TbV.bad TbV.has
          rw [HTH.out]
          decide
        have hsl : t.slot = some 2 := by rw [slot_th HTH.out]; decide +kernel
        have HBAD := Lib.hid hbad
        have HSL := Lib.hid hsl
        clear hbad hsl
        have HSP := hide (spawn_any w5 B gt t 1 77 78 (unhid_ HBo).T (unhid_ HBo).sz)
        go_wp2_with fail
        refine (unhid_ HSP).mono ?_
        rintro e w6 hsp
        obtain ⟨rfl, ho6, x2, hxo, hxn, hxf, hxb, hT6, hM6, hI6⟩ := hsp.ok2 (unhid_ HBo) HBAD.out HSL.out
        have hth6 : (t.put 2 x2).th = fun p => decide (p = 1 ∨ p = 2) := by
          rw [th_put]
          funext p
          show (if p = 2 then true else t.th p) = _
          rw [HTH.out]
          by_cases h : p = 2 <;> simp [h]
        have hp1 : (t.put 2 x2).p 1 = t.p 1 := rfl
        have hp2 : (t.put 2 x2).p 2 = x2 := rfl
        have hsrc : t.src 1 = t.p 1 := rfl
        rw [hsrc] at hxf hxb
        obtain ⟨t6, ht6⟩ : ∃ t6, t6 = t.put 2 x2 := ⟨_, rfl⟩
        rw [← ht6] at hT6 hM6 hI6 hth6 hp1 hp2
        have HT6 := hide hT6
        have HM6 := hide hM6
        have HI6 := hide hI6
        have HTH6 := Lib.hid hth6
        have HP1 := Lib.hid hp1
        have HP2 := Lib.hid hp2
        have HXF := Lib.hid hxf
        have HXB := hide hxb
        have HXO := Lib.hid hxo
        have HXN := Lib.hid hxn
        have HO6 := hide ho6
        have hz6 : w5.heap.size ≤ w6.heap.size := ho6.size
        have hhas1 : ∀ q : Nat, q = 1 ∨ q = 2 → t6.has (q : Int) = true := by
          intro q hq
          unfold TbV.has
          rw [Int.toNat_natCast, hth6]
          simp [hq]
          omega
        have HHAS := hide hhas1
        have hhasA := hhas1 1 (.inl rfl)
        have HTA : IsT w6 B gt t6 := hT6
        clear hsp hT6 hM6 hI6 hth6 hp1 hp2 hxf hxb hxo hxn ho6 hhas1 hsrc ht6 HSP
        have HPA := hide (proc_any w6 B gt t6 ((1 : Nat) : Int) HTA)
        go_wp2_with fail
        refine (unhid_ HPA).mono ?_
        rintro e wpA ⟨hbA, hor⟩
        obtain ⟨yA, rfl, hoA, hnA, hfA, hxA, _⟩ : ∃ y : PrV, e = .returned (.tuple #[.agg y.cells.toArray, .bool true]) ∧ y.o = (t6.p 1).o ∧ y.n = (t6.p 1).n ∧ y.f = (t6.p 1).f ∧ (∀ i, i < 4 → (y.b i).xs = ((t6.p 1).b i).xs ∧ (y.b i).ok wpA w6.heap.size) ∧ True := by
          rcases hor with ⟨h, _⟩ | ⟨_, y, h1, h2, h3, h4, h5, _⟩
          · rw [hhasA] at h; cases h
          · exact ⟨y, h1, h2, h3, h4, h5, trivial⟩
        have hst : ∀ (Z : Array Value) (ty : TypeId), Z.size = 38 → (storeCells ⟨wpA.heap.size, 0, none⟩ yA.cells).run Try.prog (wpA.alloc (.cells Z ty)) = .ok () (wpA.alloc (.cells yA.cells.toArray ty)) := fun Z ty hZ => run_store_new wpA _ Z ty (by rw [hZ, PrV.cells_length]) yA.cells_one
        have HXA := hide hxA
        have HFA := Lib.hid hfA
        have HNA := Lib.hid hnA
        have HOA := Lib.hid hoA
        have HBA := hide hbA
        clear hor hxA hfA hnA hoA hbA hhasA HTA HPA
        go_upto_region 20 with (fail)
        clear hst
        obtain ⟨bA, hbeA⟩ : ∃ b, b = wpA.heap.size := ⟨_, rfl⟩
        rw [← hbeA]
        obtain ⟨w8, hweA⟩ : ∃ W, W = wpA.alloc (.cells yA.cells.toArray 43) := ⟨_, rfl⟩
        rw [← hweA]
        have halA : Below wpA.heap.size wpA w8 := by rw [hweA]; exact (Below.refl _ _).alloc (Nat.le_refl _) _
        have hblA : Below w6.heap.size w6 w8 := (unhid_ HBA).trans (halA.mono (unhid_ HBA).size)
        have hblkA : Blk w8 bA 43 yA.cells.toArray := by rw [hweA, hbeA]; exact Blk.new _ _ _
        have hokA : ∀ i, i < 4 → (yA.b i).ok w8 w6.heap.size := fun i hi => ⟨own_only ((unhid_ HXA) i hi).2.1 (Only.of_below halA []) (by simp), ((unhid_ HXA) i hi).2.2⟩
        have hgeA : w6.heap.size ≤ bA := by rw [hbeA]; exact (unhid_ HBA).size
        have HBLA := hide hblA
        have HBKA := hide hblkA
        have HOKA := hide hokA
        clear halA hblA hblkA hokA hweA hbeA HBA
        have hhasC := (unhid_ HHAS) 2 (.inr rfl)
        have HTC : IsT w8 B gt t6 := (unhid_ HT6).below (unhid_ HBLA)
        have HPC := hide (proc_any w8 B gt t6 ((2 : Nat) : Int) HTC)
        go_wp2_with fail
        refine (unhid_ HPC).mono ?_
        rintro e wpC ⟨hbC, hor⟩
        obtain ⟨yC, rfl, hoC, hnC, hfC, hxC, _⟩ : ∃ y : PrV, e = .returned (.tuple #[.agg y.cells.toArray, .bool true]) ∧ y.o = (t6.p 2).o ∧ y.n = (t6.p 2).n ∧ y.f = (t6.p 2).f ∧ (∀ i, i < 4 → (y.b i).xs = ((t6.p 2).b i).xs ∧ (y.b i).ok wpC w8.heap.size) ∧ True := by
          rcases hor with ⟨h, _⟩ | ⟨_, y, h1, h2, h3, h4, h5, _⟩
          · rw [hhasC] at h; cases h
          · exact ⟨y, h1, h2, h3, h4, h5, trivial⟩
        have hst : ∀ (Z : Array Value) (ty : TypeId), Z.size = 38 → (storeCells ⟨wpC.heap.size, 0, none⟩ yC.cells).run Try.prog (wpC.alloc (.cells Z ty)) = .ok () (wpC.alloc (.cells yC.cells.toArray ty)) := fun Z ty hZ => run_store_new wpC _ Z ty (by rw [hZ, PrV.cells_length]) yC.cells_one
        have HXC := hide hxC
        have HFC := Lib.hid hfC
        have HNC := Lib.hid hnC
        have HOC := Lib.hid hoC
        have HBC := hide hbC
        clear hor hxC hfC hnC hoC hbC hhasC HTC HPC
        go_upto_region 21 with (fail)
        clear hst
        obtain ⟨bC, hbeC⟩ : ∃ b, b = wpC.heap.size := ⟨_, rfl⟩
        rw [← hbeC]
        obtain ⟨w10, hweC⟩ : ∃ W, W = wpC.alloc (.cells yC.cells.toArray 43) := ⟨_, rfl⟩
        rw [← hweC]
        have halC : Below wpC.heap.size wpC w10 := by rw [hweC]; exact (Below.refl _ _).alloc (Nat.le_refl _) _
        have hblC : Below w8.heap.size w8 w10 := (unhid_ HBC).trans (halC.mono (unhid_ HBC).size)
        have hblkC : Blk w10 bC 43 yC.cells.toArray := by rw [hweC, hbeC]; exact Blk.new _ _ _
        have hokC : ∀ i, i < 4 → (yC.b i).ok w10 w8.heap.size := fun i hi => ⟨own_only ((unhid_ HXC) i hi).2.1 (Only.of_below halC []) (by simp), ((unhid_ HXC) i hi).2.2⟩
        have hgeC : w8.heap.size ≤ bC := by rw [hbeC]; exact (unhid_ HBC).size
        have HBLC := hide hblC
        have HBKC := hide hblkC
        have HOKC := hide hokC
        clear halC hblC hblkC hokC hweC hbeC HBC
        have hblkA : Blk w10 bA 43 yA.cells.toArray := (unhid_ HBKA).below (unhid_ HBLC) (unhid_ HBKA).lt
        have hfF : yC.f = yA.f := by rw [HFC.out, HFA.out, HP2.out, HP1.out, HXF.out]
        have hfds : yC.fds = yA.fds := fds_congr hfF
        have l1 := PrV.range_fds (unhid_ HBKC)
        have l2 := PrV.range_fds hblkA
        rw [hfds] at l1
        have heq := fun W => equal_fds 9997 yA W
        have c0 : w10.cell? ⟨bC, 0, none⟩ = some (.int .i64 77) := by rw [(unhid_ HBKC).cell, yC.get (by omega), show yC.cell 0 = .int .i64 yC.o from rfl, HOC.out, HP2.out, HXO.out]
        have c1 : w10.cell? ⟨bC, 1, none⟩ = some (.int .i64 78) := by rw [(unhid_ HBKC).cell, yC.get (by omega), show yC.cell 1 = .int .i64 yC.n from rfl, HNC.out, HP2.out, HXN.out]
        have HBKA10 := hide hblkA
        clear hblkA hfF hfds
        go_cut [114] (fun s114 wx => s114 = .bool false ∧ wx = w10)
        case first =>
          go_wp2_with (first | (refine wpList_load_wanted (by rfl) 41 (.tmp 109) rfl bC 6 rfl yA.fds _ l1 Try.underlying41 rfl (by kernel_rfl) ?_) | (refine wpList_load_wanted (by rfl) 41 (.tmp 111) rfl bA 6 rfl yA.fds _ l2 Try.underlying41 rfl (by kernel_rfl) ?_))
          go_meet
          exact ⟨rfl, rfl⟩
        case rest =>
          obtain ⟨rfl, hwx⟩ := hcut
          have hwx2 := hwx.symm
          subst hwx2
          clear l1 l2 heq c0 c1
          have hxsAC : ∀ i, i < 4 → (yA.b i).xs = (yC.b i).xs := fun i hi => by rw [((unhid_ HXA) i hi).1, ((unhid_ HXC) i hi).1, HP1.out, HP2.out, (unhid_ HXB) i hi]
          have hokA10 : ∀ i, i < 4 → (yA.b i).ok w10 w6.heap.size := fun i hi => ⟨own_only ((unhid_ HOKA) i hi).1 (Only.of_below (unhid_ HBLC) []) (by simp), ((unhid_ HOKA) i hi).2⟩
          have HXSAC := hide hxsAC
          have HOKA10 := hide hokA10
          clear hxsAC hokA10
          go_wp2
          go_loopw [20] (fun s wq => ∃ i : Nat, i ≤ 4 ∧ s = .int .i64 i ∧ Only [] w10 wq) (fun s _ => 4 - (intOf s).toNat)
          case atStart => exact ⟨0, Nat.zero_le _, rfl, Only.refl _ _⟩
          case round =>
            obtain ⟨q, hq, rfl, hox⟩ := hrel
            have HOX := hide hox
            by_cases hq4 : q < 4
            · have k1 := hox.blk (unhid_ HBKA10) (by simp)
              have k2 := hox.blk (unhid_ HBKC) (by simp)
              obtain ⟨xs, hxs⟩ : ∃ xs, xs = (yC.b q).xs := ⟨_, rfl⟩
              have hx1 : (yA.b q).xs = xs := by rw [hxs]; exact (unhid_ HXSAC) q hq4
              have c1 : wr.cell? ⟨bA, 2 + q, none⟩ = some (.slice (yA.b q).A xs.length (yA.b q).c) := by rw [k1.cell, yA.get_buf hq4, hx1]
              have c2 : wr.cell? ⟨bC, 2 + q, none⟩ = some (.slice (yC.b q).A xs.length (yC.b q).c) := by rw [k2.cell, yC.get_buf hq4, ← hxs]
              have v1 : (convert 39 9 (.slice (yA.b q).A xs.length (yA.b q).c)).run Try.prog wr.drew = .ok (.string (strOfNums xs)) wr.drew := by
                have h := own_only (((unhid_ HOKA10) q hq4).1) hox.drew (by simp)
                unfold BufV.val at h
                rw [hx1] at h
                exact conv_any (Reads.of_own h)
              have v2 : (convert 39 9 (.slice (yC.b q).A xs.length (yC.b q).c)).run Try.prog wr.drew = .ok (.string (strOfNums xs)) wr.drew := by
                have h := own_only (((unhid_ HOKC) q hq4).1) hox.drew (by simp)
                unfold BufV.val at h
                rw [← hxs] at h
                exact conv_any (Reads.of_own h)
              have hqI : (q : Int) < 4 := by omega
              clear hox k1 k2 hxs hx1
              go_upto_region 26 with (fail)
              refine wp_region_held_drew (S := (fun W => W.cell? ⟨bA, 2 + q, none⟩ = some (.slice (yA.b q).A xs.length (yA.b q).c) ∧ W.cell? ⟨bC, 2 + q, none⟩ = some (.slice (yC.b q).A xs.length (yC.b q).c) ∧ (convert 39 9 (.slice (yA.b q).A xs.length (yA.b q).c)).run Try.prog W = .ok (.string (strOfNums xs)) W ∧ (convert 39 9 (.slice (yC.b q).A xs.length (yC.b q).c)).run Try.prog W = .ok (.string (strOfNums xs)) W)) (by kernel_rfl) ?_ (fun hHeld => ?_)
              · exact ⟨c1, c2, v1, v2⟩
              refine wpAnyH_take (i := 0) (oi := ({ dst := some 119, op := Op.move (Operand.tmp 20), type := 3, pos := _, after := #[], guard := none })) (v := ?_) rfl (by kernel_rfl) (by kernel_rfl) (by kernel_rfl) (fun _ _ _ h => h) (Or.inl ⟨by rfl, ?_⟩) (by assumption) ?_
              rotate_left
              · (intro wq hSw; (try dsimp only at hSw); go_simp; try with_reducible rfl)
              try simp only [Act.put, List.setIfInBounds_toArray, List.set_cons_zero, List.set_cons_succ]
              refine wpAnyH_take (i := 1) (oi := ({ dst := some 120, op := Op.fieldAddr 43 (Operand.tmp 16) 2, type := 0, pos := _, after := #[], guard := none })) (v := ?_) rfl (by kernel_rfl) (by kernel_rfl) (by kernel_rfl) (fun _ _ _ h => h) (Or.inl ⟨by rfl, ?_⟩) (by assumption) ?_
              rotate_left
              · (intro wq hSw; (try dsimp only at hSw); go_simp; try with_reducible rfl)
              try simp only [Act.put, List.setIfInBounds_toArray, List.set_cons_zero, List.set_cons_succ]
              refine wpAnyH_take (i := 2) (oi := ({ dst := some 121, op := Op.indexAddr 40 (Operand.tmp 120) (Operand.tmp 119), type := 0, pos := _, after := #[{ on := 1, ground := Ground.data }, { on := 0, ground := Ground.data }], guard := none })) (v := ?_) rfl (by kernel_rfl) (by kernel_rfl) (by kernel_rfl) (fun _ _ _ h => h) (Or.inl ⟨by rfl, ?_⟩) (by assumption) ?_
              rotate_left
              · (intro wq hSw; (try dsimp only at hSw); go_simp; try with_reducible rfl)
              try simp only [Act.put, List.setIfInBounds_toArray, List.set_cons_zero, List.set_cons_succ]
              refine wpAnyH_take (i := 3) (oi := ({ dst := some 122, op := Op.load 39 (Operand.tmp 121), type := 39, pos := _, after := #[{ on := 2, ground := Ground.data }], guard := none })) (v := ?_) rfl (by kernel_rfl) (by kernel_rfl) (by kernel_rfl) (fun _ _ _ h => h) (Or.inl ⟨by rfl, ?_⟩) (by assumption) ?_
              rotate_left
              · (intro wq hSw; (try dsimp only at hSw); go_simp; try with_reducible rfl)
              try simp only [Act.put, List.setIfInBounds_toArray, List.set_cons_zero, List.set_cons_succ]
              refine wpAnyH_take (i := 4) (oi := ({ dst := some 123, op := Op.convert 39 9 (Operand.tmp 122), type := 9, pos := _, after := #[{ on := 3, ground := Ground.data }], guard := none })) (v := ?_) rfl (by kernel_rfl) (by kernel_rfl) (by kernel_rfl) (fun _ _ _ h => h) (Or.inl ⟨by rfl, ?_⟩) (by assumption) ?_
              rotate_left
              · (intro wq hSw; (try dsimp only at hSw); go_simp; try with_reducible rfl)
              try simp only [Act.put, List.setIfInBounds_toArray, List.set_cons_zero, List.set_cons_succ]
              refine wpAnyH_take (i := 5) (oi := ({ dst := some 124, op := Op.move (Operand.tmp 20), type := 3, pos := _, after := #[], guard := none })) (v := ?_) rfl (by kernel_rfl) (by kernel_rfl) (by kernel_rfl) (fun _ _ _ h => h) (Or.inl ⟨by rfl, ?_⟩) (by assumption) ?_
              rotate_left
              · (intro wq hSw; (try dsimp only at hSw); go_simp; try with_reducible rfl)
              try simp only [Act.put, List.setIfInBounds_toArray, List.set_cons_zero, List.set_cons_succ]
              refine wpAnyH_take (i := 6) (oi := ({ dst := some 125, op := Op.fieldAddr 43 (Operand.tmp 18) 2, type := 0, pos := _, after := #[], guard := none })) (v := ?_) rfl (by kernel_rfl) (by kernel_rfl) (by kernel_rfl) (fun _ _ _ h => h) (Or.inl ⟨by rfl, ?_⟩) (by assumption) ?_
              rotate_left
              · (intro wq hSw; (try dsimp only at hSw); go_simp; try with_reducible rfl)
              try simp only [Act.put, List.setIfInBounds_toArray, List.set_cons_zero, List.set_cons_succ]
              refine wpAnyH_take (i := 7) (oi := ({ dst := some 126, op := Op.indexAddr 40 (Operand.tmp 125) (Operand.tmp 124), type := 0, pos := _, after := #[{ on := 6, ground := Ground.data }, { on := 5, ground := Ground.data }], guard := none })) (v := ?_) rfl (by kernel_rfl) (by kernel_rfl) (by kernel_rfl) (fun _ _ _ h => h) (Or.inl ⟨by rfl, ?_⟩) (by assumption) ?_
              rotate_left
              · (intro wq hSw; (try dsimp only at hSw); go_simp; try with_reducible rfl)
              try simp only [Act.put, List.setIfInBounds_toArray, List.set_cons_zero, List.set_cons_succ]
              refine wpAnyH_take (i := 8) (oi := ({ dst := some 127, op := Op.load 39 (Operand.tmp 126), type := 39, pos := _, after := #[{ on := 7, ground := Ground.data }], guard := none })) (v := ?_) rfl (by kernel_rfl) (by kernel_rfl) (by kernel_rfl) (fun _ _ _ h => h) (Or.inl ⟨by rfl, ?_⟩) (by assumption) ?_
              rotate_left
              · (intro wq hSw; (try dsimp only at hSw); go_simp; try with_reducible rfl)
              try simp only [Act.put, List.setIfInBounds_toArray, List.set_cons_zero, List.set_cons_succ]
              refine wpAnyH_take (i := 9) (oi := ({ dst := some 128, op := Op.convert 39 9 (Operand.tmp 127), type := 9, pos := _, after := #[{ on := 8, ground := Ground.data }], guard := none })) (v := ?_) rfl (by kernel_rfl) (by kernel_rfl) (by kernel_rfl) (fun _ _ _ h => h) (Or.inl ⟨by rfl, ?_⟩) (by assumption) ?_
              rotate_left
              · (intro wq hSw; (try dsimp only at hSw); go_simp; try with_reducible rfl)
              try simp only [Act.put, List.setIfInBounds_toArray, List.set_cons_zero, List.set_cons_succ]
              refine wpAnyH_take (i := 10) (oi := ({ dst := some 129, op := Op.binOp BinOp.neq 9 (Operand.tmp 123) (Operand.tmp 128) 9, type := 4, pos := _, after := #[{ on := 4, ground := Ground.data }, { on := 9, ground := Ground.data }], guard := none })) (v := ?_) rfl (by kernel_rfl) (by kernel_rfl) (by kernel_rfl) (fun _ _ _ h => h) (Or.inl ⟨by rfl, ?_⟩) (by assumption) ?_
              rotate_left
              · (intro wq hSw; (try dsimp only at hSw); go_simp; try with_reducible rfl)
              try simp only [Act.put, List.setIfInBounds_toArray, List.set_cons_zero, List.set_cons_succ]
              refine wpAnyH_done (by kernel_rfl) ?_ _
              clear c1 c2 v1 v2
              go_wp2
              go_roundw
              case rel => exact ⟨q + 1, by omega, by go_num, (unhid_ HOX).drew⟩
              case measure => simp [intOf]; omega
            · obtain rfl : q = 4 := by omega
              rw [show ((4 : Nat) : Int) = 4 from rfl]
              clear hox
              obtain ⟨w11, rfl⟩ : ∃ w11 : World, w11 = wr := ⟨_, rfl⟩
              have hb11 : Below w5.heap.size w6 w11 := (((unhid_ HBLA).trans ((unhid_ HBLC).mono (unhid_ HBLA).size)).mono hz6).trans ((unhid_ HOX).below (by simp) (by have := (unhid_ HBLA).size; have := (unhid_ HBLC).size; omega))
              have hR11 : IsR w11 gr r := (unhid_ HOX).blk (((unhid_ HBo).R1 (unhid_ HO6)).below ((unhid_ HBLA).trans ((unhid_ HBLC).mono (unhid_ HBLA).size)) ((unhid_ HBo).R1 (unhid_ HO6)).lt) (by simp)
              have hT11 : IsT w11 B gt t6 := (unhid_ HT6).below (((unhid_ HBLA).trans ((unhid_ HBLC).mono (unhid_ HBLA).size)).trans ((unhid_ HOX).below (by simp) (by have := (unhid_ HBLA).size; have := (unhid_ HBLC).size; omega)))
              have HR11 := hide (rspawn_any w11 gr r 1 77 78 hR11)
              have HT11 := hide hT11
              have HB11 := hide hb11
              clear hR11 hT11 hb11
              go_wp2_with fail
              refine (unhid_ HR11).mono ?_
              rintro e w12 hsp
              obtain ⟨rfl, ho12, hR12⟩ := hsp.ok2 (unhid_ HBo).M HBAD.out HSL.out
              have hb56 : Below w.heap.size w w6 := (unhid_ HBq).trans ((unhid_ HO6).below (fun k hk => by simp at hk; omega) hzr)
              have hb12 : Below w.heap.size w w12 := (hb56.trans ((unhid_ HB11).mono (by omega))).trans (ho12.below (fun k hk => by simp at hk; omega) (by have := (unhid_ HB11).size; omega))
              have hbo12 : Bo w12 B gt gr t6 (setP r 2 (rnew r 1 77 78)) := ⟨(unhid_ HT11).only ho12 (by simp; exact (unhid_ HBo).ne) (fun k hk => by simp at hk; subst hk; exact .inl (unhid_ HBo).rB), hR12, unhid_ HM6, unhid_ HI6, (unhid_ HBo).rB, (unhid_ HBo).ne, by have := (unhid_ HBo).sz; have := (unhid_ HB11).size; have := ho12.size; omega⟩
              obtain ⟨r6, hr6⟩ : ∃ r6, r6 = setP r 2 (rnew r 1 77 78) := ⟨_, rfl⟩
              rw [← hr6] at hbo12
              have HB12 := hide hb12
              have HBO12 := hide hbo12
              have hsz12 := hbo12.sz
              clear hsp ho12 hR12 hb56 hb12 hbo12 hr6 HR11
              obtain ⟨pp, hpp, _, PW⟩ := place_nat who 2 (by omega) (by omega)
              have HPW := hide PW
              clear PW
              go_wp2_with fail
              refine (unhid_ HPW _).mono ?_
              rintro e w' ⟨rfl, rfl⟩
              obtain ⟨P, hP⟩ : ∃ P, P = pp + 1 := ⟨_, rfl⟩
              obtain ⟨Q, hQ⟩ : ∃ Q, Q = 2 - pp := ⟨_, rfl⟩
              have hPI : (1 : Int) + (pp : Int) = (P : Int) := by omega
              have hQI : (3 : Int) - (P : Int) = (Q : Int) := by omega
              have hP12 : P = 1 ∨ P = 2 := by omega
              have hQ12 : Q = 1 ∨ Q = 2 := by omega
              have hPQ : P ≠ Q := by omega
              have hPI2 : (P : Int) ≤ 2 := by omega
              have hPI1 : (1 : Int) ≤ (P : Int) := by omega
              go_upto_region 30 with (fail)
              first
                | rw [show (pp : Int) + 1 = (P : Int) from by omega]
                | rw [hPI]
              clear hPI hP hQ
              go_upto_region 31 with (fail)
              try rw [hQI]
              clear hQI
              have hhasD := (unhid_ HHAS) Q hQ12
              have HTD : IsT w12 B gt t6 := (unhid_ HBO12).T
              have HPD := hide (proc_any w12 B gt t6 (Q : Int) HTD)
              go_wp2_with fail
              refine (unhid_ HPD).mono ?_
              rintro e wpD ⟨hbD, hor⟩
              obtain ⟨yD, rfl, hoD, hnD, hfD, hxD, _⟩ : ∃ y : PrV, e = .returned (.tuple #[.agg y.cells.toArray, .bool true]) ∧ y.o = (t6.p Q).o ∧ y.n = (t6.p Q).n ∧ y.f = (t6.p Q).f ∧ (∀ i, i < 4 → (y.b i).xs = ((t6.p Q).b i).xs ∧ (y.b i).ok wpD w12.heap.size) ∧ True := by
                rcases hor with ⟨h, _⟩ | ⟨_, y, h1, h2, h3, h4, h5, _⟩
                · rw [hhasD] at h; cases h
                · exact ⟨y, h1, h2, h3, h4, h5, trivial⟩
              have hst : ∀ (Z : Array Value) (ty : TypeId), Z.size = 38 → (storeCells ⟨wpD.heap.size, 0, none⟩ yD.cells).run Try.prog (wpD.alloc (.cells Z ty)) = .ok () (wpD.alloc (.cells yD.cells.toArray ty)) := fun Z ty hZ => run_store_new wpD _ Z ty (by rw [hZ, PrV.cells_length]) yD.cells_one
              have HXD := hide hxD
              have HFD := Lib.hid hfD
              have HND := Lib.hid hnD
              have HOD := Lib.hid hoD
              have HBD := hide hbD
              clear hor hxD hfD hnD hoD hbD hhasD HTD HPD
              go_upto_region 32 with (fail)
              clear hst
              obtain ⟨bD, hbeD⟩ : ∃ b, b = wpD.heap.size := ⟨_, rfl⟩
              rw [← hbeD]
              obtain ⟨w14, hweD⟩ : ∃ W, W = wpD.alloc (.cells yD.cells.toArray 43) := ⟨_, rfl⟩
              rw [← hweD]
              have halD : Below wpD.heap.size wpD w14 := by rw [hweD]; exact (Below.refl _ _).alloc (Nat.le_refl _) _
              have hblD : Below w12.heap.size w12 w14 := (unhid_ HBD).trans (halD.mono (unhid_ HBD).size)
              have hblkD : Blk w14 bD 43 yD.cells.toArray := by rw [hweD, hbeD]; exact Blk.new _ _ _
              have hokD : ∀ i, i < 4 → (yD.b i).ok w14 w12.heap.size := fun i hi => ⟨own_only ((unhid_ HXD) i hi).2.1 (Only.of_below halD []) (by simp), ((unhid_ HXD) i hi).2.2⟩
              have hgeD : w12.heap.size ≤ bD := by rw [hbeD]; exact (unhid_ HBD).size
              have HBLD := hide hblD
              have HBKD := hide hblkD
              have HOKD := hide hokD
              clear halD hblD hblkD hokD hweD hbeD HBD
              have hbo14 := (unhid_ HBO12).below (unhid_ HBLD)
              have hb14 : Below w.heap.size w w14 := (unhid_ HB12).trans ((unhid_ HBLD).mono (unhid_ HB12).size)
              have HBO14 := hide hbo14
              have HB14 := hide hb14
              clear hbo14 hb14
              go_wp2
              go_loopw [25, 26, 27] (fun s25 _ _ wq => ∃ (i : Nat) (t : TbV) (r : Nat → RpV), i ≤ n2 ∧ s25 = .int .i64 i ∧ Bo wq B gt gr t r ∧ (t.th = fun p => decide (p = 1 ∨ p = 2)) ∧ t.p Q = t6.p Q ∧ Below w.heap.size w wq ∧ Blk wq bD 43 yD.cells.toArray ∧ ∀ j, j < 4 → (yD.b j).ok wq w12.heap.size) (fun s25 _ _ _ => n2 - (intOf s25).toNat)
              case atStart => exact ⟨0, _, _, Nat.zero_le _, rfl, unhid_ HBO14, HTH6.out, rfl, unhid_ HB14, unhid_ HBKD, unhid_ HOKD⟩
              case round =>
                obtain ⟨i, t, r, hi, rfl, hbo, hth, htq, hb, hbk, hok⟩ := hrel
                have HBo := hide hbo
                have HBq := hide hb
                have HTH := Lib.hid hth
                have HTQ := Lib.hid htq
                have HBKq := hide hbk
                have HOKq := hide hok
                have hzr := hb.size
                have hbDr : bD < wr.heap.size := hbk.lt
                clear hbo hb hth htq hbk hok
                by_cases hlt : i < n2 ∧ i < 30
                · skip
                  obtain ⟨hlt, h30⟩ := hlt
                  obtain ⟨ad, x, hA, hbk, hcell, hrx, hxc, hcm⟩ := ((unhid_ HR2).below (unhid_ HBq)) i hlt
                  subst hA
                  have c0 : wr.cell? (ad.add (i * 9)) = some (.int .i64 x.k) := hcell 0 (by omega)
                  have c1 : wr.cell? ⟨(ad.add (i * 9)).block, (ad.add (i * 9)).off + 1, none⟩ = some (.int .i64 x.p) := hcell 1 (by omega)
                  have c2 : wr.cell? ⟨(ad.add (i * 9)).block, (ad.add (i * 9)).off + 2, none⟩ = some (.int .i64 x.n) := hcell 2 (by omega)
                  have c3 : wr.cell? ⟨(ad.add (i * 9)).block, (ad.add (i * 9)).off + 3, none⟩ = some (.int .i64 x.m) := hcell 3 (by omega)
                  have c4 : wr.cell? ⟨(ad.add (i * 9)).block, (ad.add (i * 9)).off + 4, none⟩ = some (.int .i64 x.f.k) := hcell 4 (by omega)
                  have c5 : wr.cell? ⟨(ad.add (i * 9)).block, (ad.add (i * 9)).off + 5, none⟩ = some (.int .i64 x.f.t) := hcell 5 (by omega)
                  have c6 : wr.cell? ⟨(ad.add (i * 9)).block, (ad.add (i * 9)).off + 6, none⟩ = some (.int .i64 x.f.a) := hcell 6 (by omega)
                  have c7 : wr.cell? ⟨(ad.add (i * 9)).block, (ad.add (i * 9)).off + 7, none⟩ = some (.bool x.f.w) := hcell 7 (by omega)
                  have c8 : wr.cell? ⟨(ad.add (i * 9)).block, (ad.add (i * 9)).off + 8, none⟩ = some (.slice x.A x.xs.length x.c) := hcell 8 (by omega)
                  have h30I : (i : Int) < 30 := by omega
                  have HX := hide hrx
                  clear hcell hrx
                  go_upto_region 37 with (fail)
                  obtain ⟨wb, hwb⟩ : ∃ wb, wb = wr.alloc (.cells #[.int .i64 x.k, .int .i64 (P : Int), .int .i64 x.n, .int .i64 x.m, .int .i64 x.f.k, .int .i64 x.f.t, .int .i64 x.f.a, .bool x.f.w, .slice x.A x.xs.length x.c] 61) := ⟨_, rfl⟩
                  rw [← hwb]
                  have hal : Below wr.heap.size wr wb := by rw [hwb]; exact (Below.refl _ _).alloc (Nat.le_refl _) _
                  have hblk : Blk wb wr.heap.size 61 #[.int .i64 x.k, .int .i64 (P : Int), .int .i64 x.n, .int .i64 x.m, .int .i64 x.f.k, .int .i64 x.f.t, .int .i64 x.f.a, .bool x.f.w, .slice x.A x.xs.length x.c] := by rw [hwb]; exact Blk.new _ _ _
                  have d0 : wb.cell? ⟨wr.heap.size, 0, none⟩ = some (.int .i64 x.k) := hblk.cell 0
                  have d1 : wb.cell? ⟨wr.heap.size, 1, none⟩ = some (.int .i64 (P : Int)) := hblk.cell 1
                  have d2 : wb.cell? ⟨wr.heap.size, 2, none⟩ = some (.int .i64 x.n) := hblk.cell 2
                  have d3 : wb.cell? ⟨wr.heap.size, 3, none⟩ = some (.int .i64 x.m) := hblk.cell 3
                  have d4 : wb.cell? ⟨wr.heap.size, 4, none⟩ = some (.int .i64 x.f.k) := hblk.cell 4
                  have d5 : wb.cell? ⟨wr.heap.size, 5, none⟩ = some (.int .i64 x.f.t) := hblk.cell 5
                  have d6 : wb.cell? ⟨wr.heap.size, 6, none⟩ = some (.int .i64 x.f.a) := hblk.cell 6
                  have d7 : wb.cell? ⟨wr.heap.size, 7, none⟩ = some (.bool x.f.w) := hblk.cell 7
                  have d8 : wb.cell? ⟨wr.heap.size, 8, none⟩ = some (.slice x.A x.xs.length x.c) := hblk.cell 8
                  have hBb := (unhid_ HBo).below hal
                  have HX2 : Hid (Reads wb w.heap.size 1 x.A x.xs.length (x.xs.map (Value.int .u8))) := Reads.below (unhid_ HX) (hal.mono hzr)
                  obtain ⟨kk, hkk⟩ : ∃ kk, kk = x.k % 10 := ⟨_, rfl⟩
                  have hpl := place_any x.k 10 wb (by omega) (by omega)
                  rw [← hkk] at hpl
                  have HPL := hide hpl
                  have HBB := hide hBb
                  have HAL := hide hal
                  have HKK := Lib.hid hkk
                  have hzb := hal.size
                  have HKD2 : Hid (Blk wb bD 43 yD.cells.toArray) := Blk.below (unhid_ HBKq) hal (Blk.lt (unhid_ HBKq))
                  have HOD2 : Hid (∀ j, j < 4 → (yD.b j).ok wb w12.heap.size) := fun j hj => ⟨own_only ((unhid_ HOKq) j hj).1 (Only.of_below hal []) (by simp), ((unhid_ HOKq) j hj).2⟩
                  clear hwb hal hblk hBb hpl hkk c0 c1 c2 c3 c4 c5 c6 c7 c8
                  go_wp2_with fail
                  refine (unhid_ HPL).mono ?_
                  rintro e w' ⟨rfl, rfl⟩
                  go_upto_region 38 with (fail)
                  go_cut [169] (fun s wx => s = .bool (decide (kk < 2) || decide (600 < (x.xs.length : Int))) ∧ wx = wb)
                  case first =>
                    by_cases hk2 : kk < 2
                    · go_wp2
                      go_meet
                      exact ⟨by simp [hk2], rfl⟩
                    · have hk3 : 2 ≤ kk := by omega
                      clear hk2
                      go_wp2
                      go_meet
                      exact ⟨by first | (simp; done) | (simp; omega), rfl⟩
                  case rest =>
                    obtain ⟨rfl, hwx⟩ := hcut
                    have hwx2 := hwx.symm
                    subst hwx2
                    cases hcc : (decide (kk < 2) || decide (600 < (x.xs.length : Int))) with
                    | true =>
                      clear hcc
                      go_wp2
                      go_roundw
                      case rel => exact ⟨i + 1, t, r, by omega, by go_num, unhid_ HBB, HTH.out, HTQ.out, (unhid_ HBq).trans ((unhid_ HAL).mono hzr), unhid_ HKD2, unhid_ HOD2⟩
                      case measure => simp [intOf]; omega
                    | false =>
                      have hk2 : 2 ≤ x.k % 10 ∧ x.xs.length ≤ 600 := by
                        simp at hcc
                        have := HKK.out
                        omega
                      have HD := hide (do_any wb B gt gr t r (x.for_ (P : Int)) (unhid_ HBB) w.heap.size (unhid_ HX2) hg2 hg1 hk2.2)
                      have HK2 := Lib.hid hk2.1
                      clear hcc hk2
                      go_upto_region 39 with (fail)
                      go_wp2_with fail
                      refine (unhid_ HD).mono ?_
                      rintro e w3 ⟨rfl, ho3, t', r', hb3, hfr⟩
                      have hFr := hfr HK2.out
                      have hbw3 : Below w.heap.size w w3 := (unhid_ HBq).trans (((unhid_ HAL).mono hzr).trans (ho3.below (fun k hk => by simp at hk; omega) (by omega)))
                      have HB3 := hide hb3
                      have HBW3 := hide hbw3
                      have HFR := hide hFr
                      have HO3 := hide ho3
                      clear ho3 hb3 hbw3 HD hfr hFr d0 d1 d2 d3 d4 d5 d6 d7 d8
                      go_wp2
                      go_roundw
                      case rel => exact ⟨i + 1, t', r', by omega, by go_num, unhid_ HB3, (unhid_ HFR).1.trans HTH.out, ((unhid_ HFR).2 Q (show (Q : Int) ≠ (P : Int) by omega)).trans HTQ.out, unhid_ HBW3, (unhid_ HO3).blk (unhid_ HKD2) (by simp; omega), fun j hj => ⟨own_only ((unhid_ HOD2) j hj).1 (unhid_ HO3) (fun k hk => by simp at hk; omega), ((unhid_ HOD2) j hj).2⟩⟩
                      case measure => simp [intOf]; omega
                · have hex : (n2 : Int) ≤ i ∨ ((i : Int) < n2 ∧ 30 ≤ (i : Int)) := by omega
                  go_upto_region 33 with (fail)
                  go_cut [150] (fun s wx => s = .bool false ∧ wx = wr)
                  case first =>
                    rcases hex with h | ⟨h, h'⟩
                    all_goals
                      go_wp2
                      go_meet
                      exact ⟨by first | rfl | (simp; omega), rfl⟩
                  case rest =>
                    obtain ⟨rfl, hwx⟩ := hcut
                    have hwx2 := hwx.symm
                    subst hwx2
                    clear hex
                    obtain ⟨w15, rfl⟩ : ∃ w15 : World, w15 = wr := ⟨_, rfl⟩
                    have hhasE : t.has (Q : Int) = true := by
                      unfold TbV.has
                      rw [Int.toNat_natCast, HTH.out]
                      simp [hQ12]
                      omega
                    have HTE : IsT w15 B gt t := (unhid_ HBo).T
                    go_upto_region 41 with (fail)
                    have HPE := hide (proc_any w15 B gt t (Q : Int) HTE)
                    go_wp2_with fail
                    refine (unhid_ HPE).mono ?_
                    rintro e wpE ⟨hbE, hor⟩
                    obtain ⟨yE, rfl, hoE, hnE, hfE, hxE, _⟩ : ∃ y : PrV, e = .returned (.tuple #[.agg y.cells.toArray, .bool true]) ∧ y.o = (t.p Q).o ∧ y.n = (t.p Q).n ∧ y.f = (t.p Q).f ∧ (∀ i, i < 4 → (y.b i).xs = ((t.p Q).b i).xs ∧ (y.b i).ok wpE w15.heap.size) ∧ True := by
                      rcases hor with ⟨h, _⟩ | ⟨_, y, h1, h2, h3, h4, h5, _⟩
                      · rw [hhasE] at h; cases h
                      · exact ⟨y, h1, h2, h3, h4, h5, trivial⟩
                    have hst : ∀ (Z : Array Value) (ty : TypeId), Z.size = 38 → (storeCells ⟨wpE.heap.size, 0, none⟩ yE.cells).run Try.prog (wpE.alloc (.cells Z ty)) = .ok () (wpE.alloc (.cells yE.cells.toArray ty)) := fun Z ty hZ => run_store_new wpE _ Z ty (by rw [hZ, PrV.cells_length]) yE.cells_one
                    have HXE := hide hxE
                    have HFE := Lib.hid hfE
                    have HNE := Lib.hid hnE
                    have HOE := Lib.hid hoE
                    have HBE := hide hbE
                    clear hor hxE hfE hnE hoE hbE hhasE HTE HPE
                    go_upto_region 42 with (fail)
                    clear hst
                    obtain ⟨bE, hbeE⟩ : ∃ b, b = wpE.heap.size := ⟨_, rfl⟩
                    rw [← hbeE]
                    obtain ⟨w17, hweE⟩ : ∃ W, W = wpE.alloc (.cells yE.cells.toArray 43) := ⟨_, rfl⟩
                    rw [← hweE]
                    have halE : Below wpE.heap.size wpE w17 := by rw [hweE]; exact (Below.refl _ _).alloc (Nat.le_refl _) _
                    have hblE : Below w15.heap.size w15 w17 := (unhid_ HBE).trans (halE.mono (unhid_ HBE).size)
                    have hblkE : Blk w17 bE 43 yE.cells.toArray := by rw [hweE, hbeE]; exact Blk.new _ _ _
                    have hokE : ∀ i, i < 4 → (yE.b i).ok w17 w15.heap.size := fun i hi => ⟨own_only ((unhid_ HXE) i hi).2.1 (Only.of_below halE []) (by simp), ((unhid_ HXE) i hi).2.2⟩
                    have hgeE : w15.heap.size ≤ bE := by rw [hbeE]; exact (unhid_ HBE).size
                    have HBLE := hide hblE
                    have HBKE := hide hblkE
                    have HOKE := hide hokE
                    clear halE hblE hblkE hokE hweE hbeE HBE
                    have hkD17 : Blk w17 bD 43 yD.cells.toArray := (unhid_ HBKq).below (unhid_ HBLE) hbDr
                    have hoD17 : ∀ j, j < 4 → (yD.b j).ok w17 w12.heap.size := fun j hj => ⟨own_only ((unhid_ HOKq) j hj).1 (Only.of_below (unhid_ HBLE) []) (by simp), ((unhid_ HOKq) j hj).2⟩
                    have hxsDE : ∀ i, i < 4 → (yD.b i).xs = (yE.b i).xs := fun i hi => by rw [((unhid_ HXD) i hi).1, ((unhid_ HXE) i hi).1, HTQ.out]
                    have HKD17 := hide hkD17
                    have HOD17 := hide hoD17
                    have HXSDE := hide hxsDE
                    clear hkD17 hoD17 hxsDE
                    go_wp2
                    go_loopw [30] (fun s wq => ∃ i : Nat, i ≤ 4 ∧ s = .int .i64 i ∧ Only [] w17 wq) (fun s _ => 4 - (intOf s).toNat)
                    case atStart => exact ⟨0, Nat.zero_le _, rfl, Only.refl _ _⟩
                    case round =>
                      obtain ⟨q, hq, rfl, hox⟩ := hrel
                      have HOX := hide hox
                      by_cases hq4 : q < 4
                      · have k1 := hox.blk (unhid_ HKD17) (by simp)
                        have k2 := hox.blk (unhid_ HBKE) (by simp)
                        obtain ⟨xs, hxs⟩ : ∃ xs, xs = (yE.b q).xs := ⟨_, rfl⟩
                        have hx1 : (yD.b q).xs = xs := by rw [hxs]; exact (unhid_ HXSDE) q hq4
                        have c1 : wr.cell? ⟨bD, 2 + q, none⟩ = some (.slice (yD.b q).A xs.length (yD.b q).c) := by rw [k1.cell, yD.get_buf hq4, hx1]
                        have c2 : wr.cell? ⟨bE, 2 + q, none⟩ = some (.slice (yE.b q).A xs.length (yE.b q).c) := by rw [k2.cell, yE.get_buf hq4, ← hxs]
                        have v1 : (convert 39 9 (.slice (yD.b q).A xs.length (yD.b q).c)).run Try.prog wr.drew = .ok (.string (strOfNums xs)) wr.drew := by
                          have h := own_only (((unhid_ HOD17) q hq4).1) hox.drew (by simp)
                          unfold BufV.val at h
                          rw [hx1] at h
                          exact conv_any (Reads.of_own h)
                        have v2 : (convert 39 9 (.slice (yE.b q).A xs.length (yE.b q).c)).run Try.prog wr.drew = .ok (.string (strOfNums xs)) wr.drew := by
                          have h := own_only (((unhid_ HOKE) q hq4).1) hox.drew (by simp)
                          unfold BufV.val at h
                          rw [← hxs] at h
                          exact conv_any (Reads.of_own h)
                        have hqI : (q : Int) < 4 := by omega
                        clear hox k1 k2 hxs hx1
                        go_upto_region 45 with (fail)
                        refine wp_region_held_drew (S := (fun W => W.cell? ⟨bD, 2 + q, none⟩ = some (.slice (yD.b q).A xs.length (yD.b q).c) ∧ W.cell? ⟨bE, 2 + q, none⟩ = some (.slice (yE.b q).A xs.length (yE.b q).c) ∧ (convert 39 9 (.slice (yD.b q).A xs.length (yD.b q).c)).run Try.prog W = .ok (.string (strOfNums xs)) W ∧ (convert 39 9 (.slice (yE.b q).A xs.length (yE.b q).c)).run Try.prog W = .ok (.string (strOfNums xs)) W)) (by kernel_rfl) ?_ (fun hHeld => ?_)
                        · exact ⟨c1, c2, v1, v2⟩
                        refine wpAnyH_take (i := 0) (oi := ({ dst := some 185, op := Op.move (Operand.tmp 30), type := 3, pos := _, after := #[], guard := none })) (v := ?_) rfl (by kernel_rfl) (by kernel_rfl) (by kernel_rfl) (fun _ _ _ h => h) (Or.inl ⟨by rfl, ?_⟩) (by assumption) ?_
                        rotate_left
                        · (intro wq hSw; (try dsimp only at hSw); go_simp; try with_reducible rfl)
                        try simp only [Act.put, List.setIfInBounds_toArray, List.set_cons_zero, List.set_cons_succ]
                        refine wpAnyH_take (i := 1) (oi := ({ dst := some 186, op := Op.fieldAddr 43 (Operand.tmp 23) 2, type := 0, pos := _, after := #[], guard := none })) (v := ?_) rfl (by kernel_rfl) (by kernel_rfl) (by kernel_rfl) (fun _ _ _ h => h) (Or.inl ⟨by rfl, ?_⟩) (by assumption) ?_
                        rotate_left
                        · (intro wq hSw; (try dsimp only at hSw); go_simp; try with_reducible rfl)
                        try simp only [Act.put, List.setIfInBounds_toArray, List.set_cons_zero, List.set_cons_succ]
                        refine wpAnyH_take (i := 2) (oi := ({ dst := some 187, op := Op.indexAddr 40 (Operand.tmp 186) (Operand.tmp 185), type := 0, pos := _, after := #[{ on := 1, ground := Ground.data }, { on := 0, ground := Ground.data }], guard := none })) (v := ?_) rfl (by kernel_rfl) (by kernel_rfl) (by kernel_rfl) (fun _ _ _ h => h) (Or.inl ⟨by rfl, ?_⟩) (by assumption) ?_
                        rotate_left
                        · (intro wq hSw; (try dsimp only at hSw); go_simp; try with_reducible rfl)
                        try simp only [Act.put, List.setIfInBounds_toArray, List.set_cons_zero, List.set_cons_succ]
                        refine wpAnyH_take (i := 3) (oi := ({ dst := some 188, op := Op.load 39 (Operand.tmp 187), type := 39, pos := _, after := #[{ on := 2, ground := Ground.data }], guard := none })) (v := ?_) rfl (by kernel_rfl) (by kernel_rfl) (by kernel_rfl) (fun _ _ _ h => h) (Or.inl ⟨by rfl, ?_⟩) (by assumption) ?_
                        rotate_left
                        · (intro wq hSw; (try dsimp only at hSw); go_simp; try with_reducible rfl)
                        try simp only [Act.put, List.setIfInBounds_toArray, List.set_cons_zero, List.set_cons_succ]
                        refine wpAnyH_take (i := 4) (oi := ({ dst := some 189, op := Op.convert 39 9 (Operand.tmp 188), type := 9, pos := _, after := #[{ on := 3, ground := Ground.data }], guard := none })) (v := ?_) rfl (by kernel_rfl) (by kernel_rfl) (by kernel_rfl) (fun _ _ _ h => h) (Or.inl ⟨by rfl, ?_⟩) (by assumption) ?_
                        rotate_left
                        · (intro wq hSw; (try dsimp only at hSw); go_simp; try with_reducible rfl)
                        try simp only [Act.put, List.setIfInBounds_toArray, List.set_cons_zero, List.set_cons_succ]
                        refine wpAnyH_take (i := 5) (oi := ({ dst := some 190, op := Op.move (Operand.tmp 30), type := 3, pos := _, after := #[], guard := none })) (v := ?_) rfl (by kernel_rfl) (by kernel_rfl) (by kernel_rfl) (fun _ _ _ h => h) (Or.inl ⟨by rfl, ?_⟩) (by assumption) ?_
                        rotate_left
                        · (intro wq hSw; (try dsimp only at hSw); go_simp; try with_reducible rfl)
                        try simp only [Act.put, List.setIfInBounds_toArray, List.set_cons_zero, List.set_cons_succ]
                        refine wpAnyH_take (i := 6) (oi := ({ dst := some 191, op := Op.fieldAddr 43 (Operand.tmp 28) 2, type := 0, pos := _, after := #[], guard := none })) (v := ?_) rfl (by kernel_rfl) (by kernel_rfl) (by kernel_rfl) (fun _ _ _ h => h) (Or.inl ⟨by rfl, ?_⟩) (by assumption) ?_
                        rotate_left
                        · (intro wq hSw; (try dsimp only at hSw); go_simp; try with_reducible rfl)
                        try simp only [Act.put, List.setIfInBounds_toArray, List.set_cons_zero, List.set_cons_succ]
                        refine wpAnyH_take (i := 7) (oi := ({ dst := some 192, op := Op.indexAddr 40 (Operand.tmp 191) (Operand.tmp 190), type := 0, pos := _, after := #[{ on := 6, ground := Ground.data }, { on := 5, ground := Ground.data }], guard := none })) (v := ?_) rfl (by kernel_rfl) (by kernel_rfl) (by kernel_rfl) (fun _ _ _ h => h) (Or.inl ⟨by rfl, ?_⟩) (by assumption) ?_
                        rotate_left
                        · (intro wq hSw; (try dsimp only at hSw); go_simp; try with_reducible rfl)
                        try simp only [Act.put, List.setIfInBounds_toArray, List.set_cons_zero, List.set_cons_succ]
                        refine wpAnyH_take (i := 8) (oi := ({ dst := some 193, op := Op.load 39 (Operand.tmp 192), type := 39, pos := _, after := #[{ on := 7, ground := Ground.data }], guard := none })) (v := ?_) rfl (by kernel_rfl) (by kernel_rfl) (by kernel_rfl) (fun _ _ _ h => h) (Or.inl ⟨by rfl, ?_⟩) (by assumption) ?_
                        rotate_left
                        · (intro wq hSw; (try dsimp only at hSw); go_simp; try with_reducible rfl)
                        try simp only [Act.put, List.setIfInBounds_toArray, List.set_cons_zero, List.set_cons_succ]
                        refine wpAnyH_take (i := 9) (oi := ({ dst := some 194, op := Op.convert 39 9 (Operand.tmp 193), type := 9, pos := _, after := #[{ on := 8, ground := Ground.data }], guard := none })) (v := ?_) rfl (by kernel_rfl) (by kernel_rfl) (by kernel_rfl) (fun _ _ _ h => h) (Or.inl ⟨by rfl, ?_⟩) (by assumption) ?_
                        rotate_left
                        · (intro wq hSw; (try dsimp only at hSw); go_simp; try with_reducible rfl)
                        try simp only [Act.put, List.setIfInBounds_toArray, List.set_cons_zero, List.set_cons_succ]
                        refine wpAnyH_take (i := 10) (oi := ({ dst := some 195, op := Op.binOp BinOp.neq 9 (Operand.tmp 189) (Operand.tmp 194) 9, type := 4, pos := _, after := #[{ on := 4, ground := Ground.data }, { on := 9, ground := Ground.data }], guard := none })) (v := ?_) rfl (by kernel_rfl) (by kernel_rfl) (by kernel_rfl) (fun _ _ _ h => h) (Or.inl ⟨by rfl, ?_⟩) (by assumption) ?_
                        rotate_left
                        · (intro wq hSw; (try dsimp only at hSw); go_simp; try with_reducible rfl)
                        try simp only [Act.put, List.setIfInBounds_toArray, List.set_cons_zero, List.set_cons_succ]
                        refine wpAnyH_done (by kernel_rfl) ?_ _
                        clear c1 c2 v1 v2
                        go_wp2
                        go_roundw
                        case rel => exact ⟨q + 1, by omega, by go_num, (unhid_ HOX).drew⟩
                        case measure => simp [intOf]; omega
                      · obtain rfl : q = 4 := by omega
                        rw [show ((4 : Nat) : Int) = 4 from rfl]
                        clear hox
                        obtain ⟨w18, rfl⟩ : ∃ w18 : World, w18 = wr := ⟨_, rfl⟩
                        have kE := (unhid_ HOX).blk (unhid_ HBKE) (by simp)
                        have kD := (unhid_ HOX).blk (unhid_ HKD17) (by simp)
                        have hfF : yE.f = yD.f := by rw [HFE.out, HFD.out, HTQ.out]
                        have hnN : yE.n = yD.n := by rw [HNE.out, HND.out, HTQ.out]
                        have l1 := PrV.range_fds kE
                        have l2 := PrV.range_fds kD
                        rw [fds_congr hfF] at l1
                        have heq := fun W => equal_fds 9997 yD W
                        have c1 : w18.cell? ⟨bE, 1, none⟩ = some (.int .i64 yD.n) := by rw [kE.cell, yE.get (by omega), ← hnN]; rfl
                        have c2 : w18.cell? ⟨bD, 1, none⟩ = some (.int .i64 yD.n) := by rw [kD.cell, yD.get (by omega)]; rfl
                        have hb17 : Below w.heap.size w w17 := (unhid_ HBq).trans ((unhid_ HBLE).mono hzr)
                        have hb18 : Below w.heap.size w w18 := hb17.trans ((unhid_ HOX).below (by simp) hb17.size)
                        have HB18 := hide hb18
                        clear kE kD hfF hnN hb17 hb18
                        go_wp2_with (first | (refine wpList_load_wanted (by rfl) 41 (.tmp 196) rfl bE 6 rfl yD.fds _ l1 Try.underlying41 rfl (by kernel_rfl) ?_) | (refine wpList_load_wanted (by rfl) 41 (.tmp 198) rfl bD 6 rfl yD.fds _ l2 Try.underlying41 rfl (by kernel_rfl) ?_) | (go_at_call 14; refine (awake_any _).mono ?_; rintro e w' ⟨rfl, hbz⟩))
                        go_ret
                        exact yes_mk rfl ((unhid_ HB18).trans (hbz.mono (unhid_ HB18).size))
end Go.Proofs.Ytgdloahgokefpaa
