/- The walk of the law's same. -/
import Derived.Test.YtgdloahgokefpaaTSame
import Derived.Deep.DeepCutAuto
namespace Go.Proofs.Ytgdloahgokefpaa
open Go.RowKit
set_option linter.unusedSimpArgs false

theorem procsTo_14 (t : TbV) : t.procsTo 14 = t.procsTo 13 := procsTo_no (by unfold TbV.has; simp)
/-- a copy of a process, of whose buffers the first i are cleared -/
def QB (w : World) (v : Value) (l : List Int) (bx b9 base : Nat) (y : PrV) (x : RpV) (i : Nat) (wq : World) : Prop :=
  Below w.heap.size w wq ∧ wq.ownsRow w.heap.size 3 1 v l.length (l.map (Value.int .i64)) ∧ Blk wq bx 43 y.cells.toArray ∧ Blk wq b9 56 x.cells.toArray ∧ ∀ j, i ≤ j → j < 4 → (y.b j).ok wq base
theorem own_far' {w w' : World} {base : Nat} {e ty : TypeId} {size n k : Nat} {v : Value} {xs : List Value} {cs : Array Value} (h : w.ownsRow base e size v n xs) (ho : Only [k] w w') (hb : Blk w k ty cs) (hty : ty ≠ e) : w'.ownsRow base e size v n xs := own_far h ho hb hty
theorem QB.step {w wq w2 : World} {v : Value} {l : List Int} {bx b9 base gb i : Nat} {y : PrV} {x : RpV} {cur : Array Value} (h : QB w v l bx b9 base y x i wq) (ho : Only [gb] wq w2) (hgb : w.heap.size ≤ gb) (hx : gb < bx) (h9 : bx < b9) (hblk : Blk wq gb 5 cur) (hap : ∀ j, i + 1 ≤ j → j < 4 → (y.b j).aside gb) : QB w v l bx b9 base y x (i + 1) w2 :=
  ⟨h.1.trans (ho.below (fun k hk => by simp at hk; omega) h.1.size), own_far h.2.1 ho hblk (by decide), ho.blk h.2.2.1 (by simp; omega), ho.blk h.2.2.2.1 (by simp; omega), fun j hj hj4 => own_aside (h.2.2.2.2 j (by omega) hj4) (hap j hj hj4) ho⟩
theorem QB.next {w wq : World} {v : Value} {l : List Int} {bx b9 base i : Nat} {y : PrV} {x : RpV} (h : QB w v l bx b9 base y x i wq) : QB w v l bx b9 base y x (i + 1) wq :=
  ⟨h.1, h.2.1, h.2.2.1, h.2.2.2.1, fun j hj hj4 => h.2.2.2.2 j (by omega) hj4⟩
theorem QB.drew {w wq : World} {v : Value} {l : List Int} {bx b9 base i : Nat} {y : PrV} {x : RpV} (h : QB w v l bx b9 base y x i wq) : QB w v l bx b9 base y x i wq.drew :=
  ⟨h.1.trans (Only.below (Only.refl [] wq).drew (by simp) h.1.size), h.2.1, h.2.2.1, h.2.2.2.1, h.2.2.2.2⟩
theorem aside_apart {a b : BufV} {w : World} {base gb : Nat} (h : a.apart b) (ha : a.A = some ⟨gb, 0, none⟩) (hb : b.ok w base) : b.aside gb := by
  rcases hb.1.2 with ⟨h1, _⟩ | ⟨g', cap, cur, hv, _⟩
  · left
    unfold BufV.val at h1
    injection h1
  · right
    unfold BufV.val at hv
    injection hv with h2
    exact ⟨g', h2, fun e => h _ _ ha h2 (by simp [e])⟩
/-- a buffer's block -/
theorem buf_block {w : World} {base : Nat} {b : BufV} (h : b.ok w base) (hp : 0 < b.xs.length) : ∃ gb, base ≤ gb ∧ gb < w.heap.size ∧ b.A = some ⟨gb, 0, none⟩ ∧ ∃ cur : Array Value, b.xs.length ≤ cur.size ∧ Blk w gb 5 cur := by
  rcases h.1.2 with ⟨_, h2⟩ | ⟨g', cap, cur, hv, hb, hh, hnc, _, hs, _⟩
  · omega
  · unfold BufV.val at hv
    injection hv with h2
    exact ⟨g', hb, (Array.getElem?_eq_some_iff.1 hh).1, h2, cur, by omega, hh⟩

theorem PrV.get (y : PrV) {j : Nat} (hj : j < 38) : y.cells.toArray[j]? = some (y.cell j) := by
  simp [PrV.cells, hj]
theorem RpV.get (y : RpV) {j : Nat} (hj : j < 39) : y.cells.toArray[j]? = some (y.cell j) := by
  simp [RpV.cells, hj]
theorem PrV.get_buf (y : PrV) {i : Nat} (hi : i < 4) : y.cells.toArray[2 + i]? = some (.slice (y.b i).A (y.b i).xs.length (y.b i).c) := by
  rw [y.get (by omega), PrV.cell, if_neg (by omega), if_neg (by omega), if_pos (by omega), show 2 + i - 2 = i from by omega]
  rfl
theorem RpV.get_buf (y : RpV) {i : Nat} (hi : i < 4) : y.cells.toArray[3 + i]? = some (.string (y.b i)) := by
  rw [y.get (by omega), RpV.cell, if_neg (by omega), if_neg (by omega), if_neg (by omega), if_pos (by omega), show 3 + i - 3 = i from by omega]
theorem fd_cells {w : World} {b m : Nat} {y : PrV} (h : Blk w b 43 y.cells.toArray) (hm : m < 8) (F : FdV) (hF : y.f m = F) :
    w.cell? ⟨b, 6 + m * 4, none⟩ = some (.int .i64 F.k) ∧ w.cell? ⟨b, 6 + m * 4 + 1, none⟩ = some (.int .i64 F.t) ∧ w.cell? ⟨b, 6 + m * 4 + 2, none⟩ = some (.int .i64 F.a) ∧ w.cell? ⟨b, 6 + m * 4 + 3, none⟩ = some (.bool F.w) := by
  have e : ∀ c, c < 4 → w.cell? ⟨b, 6 + m * 4 + c, none⟩ = some (F.cell c) := by
    intro c hc
    rw [h.cell, y.get (by omega), PrV.cell, if_neg (by omega), if_neg (by omega), if_neg (by omega), show (6 + m * 4 + c - 6) / 4 = m from by omega, show (6 + m * 4 + c - 6) % 4 = c from by omega, hF]
  exact ⟨e 0 (by omega), e 1 (by omega), e 2 (by omega), e 3 (by omega)⟩
theorem rfd_cells {w : World} {b m : Nat} {y : RpV} (h : Blk w b 56 y.cells.toArray) (hm : m < 8) (F : FdV) (hF : y.f m = F) :
    w.cell? ⟨b, 7 + m * 4, none⟩ = some (.int .i64 F.k) ∧ w.cell? ⟨b, 7 + m * 4 + 1, none⟩ = some (.int .i64 F.t) ∧ w.cell? ⟨b, 7 + m * 4 + 2, none⟩ = some (.int .i64 F.a) ∧ w.cell? ⟨b, 7 + m * 4 + 3, none⟩ = some (.bool F.w) := by
  have e : ∀ c, c < 4 → w.cell? ⟨b, 7 + m * 4 + c, none⟩ = some (F.cell c) := by
    intro c hc
    rw [h.cell, y.get (by omega), RpV.cell_fd _ hc, hF]
  exact ⟨e 0 (by omega), e 1 (by omega), e 2 (by omega), e 3 (by omega)⟩
theorem there4 {w : World} {g : Nat} {t : TypeId} {Z : Array Value} (h : Blk w g t Z) (hZ : Z.size = 4) : w.there g 0 4 := by
  obtain ⟨C, hC⟩ := blk_tb (n := 4) h hZ
  exact hC.there (by omega)
theorem fd_one {F : FdV} : ∀ v ∈ F.cells, v.oneCell' = true := by
  intro v hv
  simp only [FdV.cells, List.mem_cons, List.not_mem_nil, or_false] at hv
  rcases hv with rfl | rfl | rfl | rfl <;> rfl
theorem fill4 {w : World} {g : Nat} {t : TypeId} {Z : Array Value} (h : Blk w g t Z) (hZ : Z.size = 4) (F : FdV) : Blk (w.setCells g 0 F.cells) g t F.cells.toArray := by
  obtain ⟨C, hC⟩ := blk_tb (n := 4) h hZ
  have h1 := Blk.setCells F.cells C 0 w hC
  rw [show (4 : Nat) = F.cells.length from rfl, Tb_list] at h1
  exact h1
theorem new4 {w : World} {a b : Nat} {T1 T2 : TypeId} {Z1 Z2 : Array Value} (h1 : Blk w a T1 Z1) (h2 : Blk w b T2 Z2) (z1 : Z1.size = 4) (z2 : Z2.size = 4) (hab : a ≠ b) (F : FdV) :
    Blk ((w.setCells a 0 F.cells).setCells b 0 F.cells) a T1 F.cells.toArray ∧ Blk ((w.setCells a 0 F.cells).setCells b 0 F.cells) b T2 F.cells.toArray := by
  have h3 : Blk (w.setCells a 0 F.cells) b T2 Z2 := (Only.setCells F.cells a 0 w (Only.refl [a] w) (.inl (by simp))).blk h2 (by simp; exact fun e => hab e.symm)
  exact ⟨(Only.setCells F.cells b 0 _ (Only.refl [b] _) (.inl (by simp))).blk (fill4 h1 z1 F) (by simpa using hab), fill4 h3 z2 F⟩
theorem row_type {w : World} {base n : Nat} {e : TypeId} {v : Value} {xs : List Value} (h : w.ownsRow base e 1 v n xs) {g : Nat} (hg : v.ownBlock = some g) {ty : TypeId} {cs : Array Value} (hb : Blk w g ty cs) : ty = e := by
  rcases h.2 with ⟨h1, _⟩ | ⟨g', cap, cur, hv, _, hh, _⟩
  · subst h1; cases hg
  · subst hv
    obtain rfl : g' = g := by
      have : some g' = some g := hg
      injection this
    have : (some (Obj.cells cs ty (0, 0))) = some (Obj.cells cur e (0, 0)) := hb.symm.trans hh
    injection this with this
    injection this
theorem own_grown {w w' : World} {base base' n m : Nat} {e e' : TypeId} {v v' : Value} {xs ys : List Value} (h : w.ownsRow base e 1 v n xs) (hr : w.ownsRow base' e' 1 v' m ys) (hg : w.grownBy w' v'.ownBlock) (hne : e ≠ e') : w'.ownsRow base e 1 v n xs := by
  refine ⟨h.1, ?_⟩
  rcases h.2 with h2 | ⟨g, cap, cur, hv, hb, hh, r⟩
  · exact .inl h2
  · have hlt := (Array.getElem?_eq_some_iff.1 hh).1
    exact .inr ⟨g, cap, cur, hv, hb, (hg.block g hlt (fun e => hne (row_type hr e.symm hh))).trans hh, r⟩

set_option maxRecDepth 100000 in
set_option maxHeartbeats 4000000 in
theorem same_any (w : World) (B gt gr : Nat) (t : TbV) (r : Nat → RpV) (hb : Bo w B gt gr t r) :
    Calls Try.prog 21 #[.pointer (some ⟨gt, 0, none⟩), .pointer (some ⟨gr, 0, none⟩)] w (Yes w) := by
  obtain ⟨i0, hi0, hz0, hz1, hz2⟩ := info_parts info_int
  have hI0 := Lib.hid hi0
  have hgt := hb.T.1.lt
  have hgr := hb.R.lt
  have HBO := hide hb
  clear hb hi0
  go_enter Try.func21, Try.ntmps21
  go_wp2
  go_loopw [5, 6, 7, 8, 9, 10, 11, 12, 13, 14] (fun v s6 _ _ _ _ _ _ _ _ wr => ∃ k : Nat, k ≤ 14 ∧ s6 = .int .i64 k ∧ wr.ownsRow w.heap.size 3 1 v (t.procsTo k).length ((t.procsTo k).map (Value.int .i64)) ∧ Below w.heap.size w wr) (fun _ s6 _ _ _ _ _ _ _ _ _ => 14 - (intOf s6).toNat)
  case atStart => exact ⟨0, Nat.zero_le _, rfl, World.ownsRow_nil _ _ _ _, Below.refl _ _⟩
  case round =>
    obtain ⟨k, hk, rfl, hown, hbe⟩ := hrel
    have hsl := procsTo_le t k
    have HBk := hide ((unhid_ HBO).below hbe)
    have HBE := hide hbe
    have HOWN := hide hown
    have hzr := hbe.size
    clear hbe hown
    by_cases hlt : k < 14
    · have hkI : (k : Int) ≤ 13 := by omega
      have HPR := hide (proc_any wr B gt t k (unhid_ HBk).T)
      cases hh : t.has (k : Int) with
      | false =>
        have HS := Lib.hid (procsTo_no hh)
        have HH := Lib.hid hh
        clear hh
        go_wp2_with fail
        refine (unhid_ HPR).mono ?_
        rintro e w1 ⟨hb1, hor⟩
        obtain rfl : e = .returned (.tuple #[.agg PrV.zero.cells.toArray, .bool false]) := by
          rcases hor with ⟨_, h⟩ | ⟨h, _⟩
          · exact h
          · rw [HH.out] at h; cases h
        have hst : ∀ (Z : Array Value) (ty : TypeId), Z.size = 38 → (storeCells ⟨w1.heap.size, 0, none⟩ PrV.zero.cells).run Try.prog (w1.alloc (.cells Z ty)) = .ok () (w1.alloc (.cells PrV.zero.cells.toArray ty)) := fun Z ty hZ => run_store_new w1 _ Z ty (by rw [hZ, PrV.cells_length]) PrV.zero.cells_one
        have HB1 := hide hb1
        clear hb1 hor HPR
        go_upto_region 6 with (fail)
        clear hst
        obtain ⟨w2, hw2⟩ : ∃ w2, w2 = w1.alloc (.cells PrV.zero.cells.toArray 43) := ⟨_, rfl⟩
        rw [← hw2]
        have hb2 : Below wr.heap.size wr w2 := by rw [hw2]; exact (unhid_ HB1).alloc (unhid_ HB1).size _
        have his := is_any w2 gr r k ((unhid_ HBk).below hb2).R
        rw [(unhid_ HBk).M.is, HH.out] at his
        have HIS := hide his
        have HB2 := hide hb2
        clear hw2 hb2 his
        go_wp2_with fail
        refine (unhid_ HIS).mono ?_
        rintro e w' ⟨rfl, rfl⟩
        go_wp2
        go_roundw
        case rel => exact ⟨k + 1, by omega, by go_num, by rw [HS.out]; exact own_only (unhid_ HOWN) (Only.of_below (unhid_ HB2) []) (by simp), (unhid_ HBE).trans ((unhid_ HB2).mono hzr)⟩
        case measure => simp [intOf]; omega
      | true =>
        have HS := Lib.hid (procsTo_yes hh)
        have HH := Lib.hid hh
        have hk13 : k < 13 := by obtain ⟨q, hq, _, hq13, _⟩ := TbV.has_nat hh; omega
        clear hh
        go_wp2_with fail
        refine (unhid_ HPR).mono ?_
        rintro e w1 ⟨hb1, hor⟩
        obtain ⟨y, rfl, hyo, hyn, hyf, hyb, hap⟩ : ∃ y : PrV, e = .returned (.tuple #[.agg y.cells.toArray, .bool true]) ∧ y.o = (t.p k).o ∧ y.n = (t.p k).n ∧ y.f = (t.p k).f ∧ (∀ i, i < 4 → (y.b i).xs = ((t.p k).b i).xs ∧ (y.b i).ok w1 wr.heap.size) ∧ ∀ i j, i < j → j < 4 → (y.b i).apart (y.b j) := by
          rcases hor with ⟨h, _⟩ | ⟨_, y, h1, h2, h3, h4, h5, h6⟩
          · rw [HH.out] at h; cases h
          · rw [Int.toNat_natCast] at h2 h3 h4 h5
            exact ⟨y, h1, h2, h3, h4, h5, h6⟩
        have hst : ∀ (Z : Array Value) (ty : TypeId), Z.size = 38 → (storeCells ⟨w1.heap.size, 0, none⟩ y.cells).run Try.prog (w1.alloc (.cells Z ty)) = .ok () (w1.alloc (.cells y.cells.toArray ty)) := fun Z ty hZ => run_store_new w1 _ Z ty (by rw [hZ, PrV.cells_length]) y.cells_one
        have HB1 := hide hb1
        have HYO := Lib.hid hyo
        have HYN := Lib.hid hyn
        have HYF := Lib.hid hyf
        have HYB := hide hyb
        have HAP := hide hap
        have hz1r := hb1.size
        clear hb1 hor HPR hyo hyn hyf hyb hap
        go_upto_region 6 with (fail)
        clear hst
        obtain ⟨bx, hbx⟩ : ∃ bx, bx = w1.heap.size := ⟨_, rfl⟩
        rw [← hbx]
        obtain ⟨w2, hw2⟩ : ∃ w2, w2 = w1.alloc (.cells y.cells.toArray 43) := ⟨_, rfl⟩
        rw [← hw2]
        have hb12 : Below w1.heap.size w1 w2 := by rw [hw2]; exact (Below.refl _ _).alloc (Nat.le_refl _) _
        have hb2 : Below wr.heap.size wr w2 := (unhid_ HB1).trans (hb12.mono hz1r)
        have hblkx : Blk w2 bx 43 y.cells.toArray := by rw [hw2, hbx]; exact Blk.new _ _ _
        have hz2 : w2.heap.size = bx + 1 := by rw [hw2, hbx]; simp
        have his := is_any w2 gr r k ((unhid_ HBk).below hb2).R
        rw [(unhid_ HBk).M.is, HH.out] at his
        have HIS := hide his
        have HB12 := hide hb12
        have HB2 := hide hb2
        have HBX := hide hblkx
        have HZ2 := Lib.hid hz2
        have HBXE := Lib.hid hbx
        clear hw2 hb2 his hb12 hblkx hz2 hbx
        go_wp2_with fail
        refine (unhid_ HIS).mono ?_
        rintro e w' ⟨rfl, rfl⟩
        have hown2 : w2.ownsRow w.heap.size 3 1 u5 (t.procsTo k).length ((t.procsTo k).map (Value.int .i64)) := own_only (unhid_ HOWN) (Only.of_below (unhid_ HB2) []) (by simp)
        go_upto_region 9 with (fail)
        go_cut [5] (fun s5 wx => wx.ownsRow w.heap.size 3 1 s5 (t.procsTo (k + 1)).length ((t.procsTo (k + 1)).map (Value.int .i64)) ∧ Below w.heap.size w wx ∧ Blk wx bx 43 y.cells.toArray ∧ ∀ i, i < 4 → (y.b i).ok wx wr.heap.size)
        case first =>
          have hz2w : w.heap.size ≤ w2.heap.size := by have := HZ2.out; have := HBXE.out; omega
          go_wp2_with (at_builtin; refine wpList_append_any _ rfl _ _ _ rfl w.heap.size 3 i0 _ 1 8 Try.underlying22 hI0.out hz0 hz1 hz2 rfl (by omega) _ _ _ rfl (hown2.alloc _) (w2.heap.size + 1) (some ⟨w2.heap.size, 0, none⟩) 1 1 [.int .i64 k] rfl (Reads.one _ _ _) (by simp [Value.oneCell']) (by simp only [maxLen]; omega) (by omega) (by simp; omega) ?_; intro v1 w4 hown4 hg4 hat4)
          have hbw2 : Below w.heap.size w w2 := (unhid_ HBE).trans ((unhid_ HB2).mono hzr)
          go_meet
          refine ⟨by rw [HS.out]; simpa using hown4, (hbw2.alloc hz2w _).grown hg4 (by simp; omega) (fun g hg => (hown2.lt g hg).1), ?_, fun i hi => ?_⟩
          · exact Blk.grown ((unhid_ HBX).alloc _) hg4 (fun e => absurd (row_type hown2 e.symm (unhid_ HBX)) (by decide))
          · have h1 := (unhid_ HYB i hi).2
            have h2 := own_only h1.1 (Only.of_below (unhid_ HB12) []) (by simp)
            exact ⟨own_grown (h2.alloc _) (hown2.alloc _) hg4 (by decide), h1.2⟩
        case rest =>
          obtain ⟨hown4, hb4, hbx4, hyb4⟩ := hcut
          clear hown2
          obtain ⟨w4, rfl⟩ : ∃ w4 : World, w4 = wc := ⟨_, rfl⟩
          have hB4 := (unhid_ HBO).below hb4
          have hrg := hB4.R.range_all hk13
          have hst : ∀ (Z : Array Value) (ty : TypeId), Z.size = 39 → (storeCells ⟨w4.heap.size, 0, none⟩ (r k).cells).run Try.prog (w4.alloc (.cells Z ty)) = .ok () (w4.alloc (.cells (r k).cells.toArray ty)) := fun Z ty hZ => run_store_new w4 _ Z ty (by rw [hZ, RpV.cells_length]) (r k).cells_one
          have hk13I : (k : Int) < 13 := by omega
          have hz4 : bx < w4.heap.size := hbx4.lt
          have HOWN4 := hide hown4
          have HB4 := hide hb4
          have HBX4 := hide hbx4
          have HYB4 := hide hyb4
          clear hown4 hb4 hbx4 hyb4 hB4
          go_upto_region 11 with (first | (refine wpList_load_mid rfl 56 (.tmp 40) rfl gr (k * 39) rfl (r k).cells _ hrg Try.underlying56 rfl (by kernel_rfl) ?_))
          clear hst hrg
          obtain ⟨b9, hb9⟩ : ∃ b9, b9 = w4.heap.size := ⟨_, rfl⟩
          rw [← hb9]
          obtain ⟨w5, hw5⟩ : ∃ w5, w5 = w4.alloc (.cells (r k).cells.toArray 56) := ⟨_, rfl⟩
          rw [← hw5]
          have hb45 : Below w4.heap.size w4 w5 := by rw [hw5]; exact (Below.refl _ _).alloc (Nat.le_refl _) _
          have hblk9 : Blk w5 b9 56 (r k).cells.toArray := by rw [hw5, hb9]; exact Blk.new _ _ _
          have hblkx := (unhid_ HBX4).below hb45 hz4
          have HQ : Hid (QB w u5 (t.procsTo (k + 1)) bx b9 wr.heap.size y (r k) 0 w5) := ⟨(unhid_ HB4).trans (hb45.mono (unhid_ HB4).size), own_only (unhid_ HOWN4) (Only.of_below hb45 []) (by simp), hblkx, hblk9, fun j _ hj => ⟨own_only ((unhid_ HYB4) j hj).1 (Only.of_below hb45 []) (by simp), ((unhid_ HYB4) j hj).2⟩⟩
          have c0 : w5.cell? ⟨bx, 0, none⟩ = some (.int .i64 (t.p k).o) := by rw [hblkx.cell, ← HYO.out]; rfl
          have c1 : w5.cell? ⟨bx, 1, none⟩ = some (.int .i64 (t.p k).n) := by rw [hblkx.cell, ← HYN.out]; rfl
          have d1 : w5.cell? ⟨b9, 1, none⟩ = some (.int .i64 (t.p k).o) := by rw [hblk9.cell, ← (unhid_ HBO).M.o k hk13]; rfl
          have d2 : w5.cell? ⟨b9, 2, none⟩ = some (.int .i64 (t.p k).n) := by rw [hblk9.cell, ← (unhid_ HBO).M.n k hk13]; rfl
          have hx9 : bx < b9 := by omega
          have HB9E := Lib.hid hb9
          clear hw5 hb45 hblk9 hblkx hb9 HB4 HOWN4 HBX4 HYB4
          go_wp2_with fail
          obtain ⟨wo, rfl⟩ : ∃ wo : World, wo = wr := ⟨_, rfl⟩
          go_loopw [10, 11] (fun s10 _ wq => ∃ i : Nat, i ≤ 4 ∧ s10 = .int .i64 i ∧ QB w u5 (t.procsTo (k + 1)) bx b9 wo.heap.size y (r k) i wq) (fun s10 _ _ => 4 - (intOf s10).toNat)
          case atStart => exact ⟨0, Nat.zero_le _, rfl, unhid_ HQ⟩
          case round =>
            obtain ⟨i, hi, rfl, hQ⟩ := hrel
            have HQi := hide hQ
            obtain ⟨wi, rfl⟩ : ∃ wi : World, wi = wr := ⟨_, rfl⟩
            by_cases hi4 : i < 4
            · have hok := hQ.2.2.2.2 i (Nat.le_refl _) hi4
              have cx : wi.cell? ⟨bx, 2 + i, none⟩ = some (.slice (y.b i).A (y.b i).xs.length (y.b i).c) := (hQ.2.2.1.cell _).trans (y.get_buf hi4)
              have d9 : wi.cell? ⟨b9, 3 + i, none⟩ = some (.string (strOfNums (y.b i).xs)) := (hQ.2.2.2.1.cell _).trans (((r k).get_buf hi4).trans (by rw [(unhid_ HBO).M.b k i hk13 hi4, ((unhid_ HYB) i hi4).1]))
              have hcv : (convert 39 9 (.slice (y.b i).A (y.b i).xs.length (y.b i).c)).run Try.prog wi.drew = .ok (.string (strOfNums (y.b i).xs)) wi.drew := conv_any (w := wi.drew) (Reads.of_own (w := wi.drew) hok.1)
              have hiI : (i : Int) < 4 := by omega
              clear hQ hok
              go_upto_region 16 with (fail)
              refine wp_region_held_drew (S := (fun W => W.cell? ⟨bx, 2 + i, none⟩ = some (.slice (y.b i).A (y.b i).xs.length (y.b i).c) ∧ W.cell? ⟨b9, 3 + i, none⟩ = some (.string (strOfNums (y.b i).xs)) ∧ (convert 39 9 (.slice (y.b i).A (y.b i).xs.length (y.b i).c)).run Try.prog W = .ok (.string (strOfNums (y.b i).xs)) W)) (by kernel_rfl) ?_ (fun hHeld => ?_)
              · exact ⟨cx, d9, hcv⟩
              refine wpAnyH_take (i := 0) (oi := ({ dst := some 58, op := Op.move (Operand.tmp 10), type := 3, pos := _, after := #[], guard := none })) (v := ?_) rfl (by kernel_rfl) (by kernel_rfl) (by kernel_rfl) (fun _ _ _ h => h) (Or.inl ⟨by rfl, ?_⟩) (by assumption) ?_
              rotate_left
              · (intro wq hSw; (try dsimp only at hSw); go_simp; try with_reducible rfl)
              try simp only [Act.put, List.setIfInBounds_toArray, List.set_cons_zero, List.set_cons_succ]
              refine wpAnyH_take (i := 1) (oi := ({ dst := some 59, op := Op.fieldAddr 43 (Operand.tmp 7) 2, type := 0, pos := _, after := #[], guard := none })) (v := ?_) rfl (by kernel_rfl) (by kernel_rfl) (by kernel_rfl) (fun _ _ _ h => h) (Or.inl ⟨by rfl, ?_⟩) (by assumption) ?_
              rotate_left
              · (intro wq hSw; (try dsimp only at hSw); go_simp; try with_reducible rfl)
              try simp only [Act.put, List.setIfInBounds_toArray, List.set_cons_zero, List.set_cons_succ]
              refine wpAnyH_take (i := 2) (oi := ({ dst := some 60, op := Op.indexAddr 40 (Operand.tmp 59) (Operand.tmp 58), type := 0, pos := _, after := #[{ on := 1, ground := Ground.data }, { on := 0, ground := Ground.data }], guard := none })) (v := ?_) rfl (by kernel_rfl) (by kernel_rfl) (by kernel_rfl) (fun _ _ _ h => h) (Or.inl ⟨by rfl, ?_⟩) (by assumption) ?_
              rotate_left
              · (intro wq hSw; (try dsimp only at hSw); go_simp; try with_reducible rfl)
              try simp only [Act.put, List.setIfInBounds_toArray, List.set_cons_zero, List.set_cons_succ]
              refine wpAnyH_take (i := 3) (oi := ({ dst := some 61, op := Op.load 39 (Operand.tmp 60), type := 39, pos := _, after := #[{ on := 2, ground := Ground.data }], guard := none })) (v := ?_) rfl (by kernel_rfl) (by kernel_rfl) (by kernel_rfl) (fun _ _ _ h => h) (Or.inl ⟨by rfl, ?_⟩) (by assumption) ?_
              rotate_left
              · (intro wq hSw; (try dsimp only at hSw); go_simp; try with_reducible rfl)
              try simp only [Act.put, List.setIfInBounds_toArray, List.set_cons_zero, List.set_cons_succ]
              refine wpAnyH_take (i := 4) (oi := ({ dst := some 62, op := Op.convert 39 9 (Operand.tmp 61), type := 9, pos := _, after := #[{ on := 3, ground := Ground.data }], guard := none })) (v := ?_) rfl (by kernel_rfl) (by kernel_rfl) (by kernel_rfl) (fun _ _ _ h => h) (Or.inl ⟨by rfl, ?_⟩) (by assumption) ?_
              rotate_left
              · (intro wq hSw; (try dsimp only at hSw); go_simp; try with_reducible rfl)
              try simp only [Act.put, List.setIfInBounds_toArray, List.set_cons_zero, List.set_cons_succ]
              refine wpAnyH_take (i := 5) (oi := ({ dst := some 63, op := Op.move (Operand.tmp 10), type := 3, pos := _, after := #[], guard := none })) (v := ?_) rfl (by kernel_rfl) (by kernel_rfl) (by kernel_rfl) (fun _ _ _ h => h) (Or.inl ⟨by rfl, ?_⟩) (by assumption) ?_
              rotate_left
              · (intro wq hSw; (try dsimp only at hSw); go_simp; try with_reducible rfl)
              try simp only [Act.put, List.setIfInBounds_toArray, List.set_cons_zero, List.set_cons_succ]
              refine wpAnyH_take (i := 6) (oi := ({ dst := some 64, op := Op.fieldAddr 56 (Operand.tmp 9) 3, type := 0, pos := _, after := #[], guard := none })) (v := ?_) rfl (by kernel_rfl) (by kernel_rfl) (by kernel_rfl) (fun _ _ _ h => h) (Or.inl ⟨by rfl, ?_⟩) (by assumption) ?_
              rotate_left
              · (intro wq hSw; (try dsimp only at hSw); go_simp; try with_reducible rfl)
              try simp only [Act.put, List.setIfInBounds_toArray, List.set_cons_zero, List.set_cons_succ]
              refine wpAnyH_take (i := 7) (oi := ({ dst := some 65, op := Op.indexAddr 52 (Operand.tmp 64) (Operand.tmp 63), type := 0, pos := _, after := #[{ on := 6, ground := Ground.data }, { on := 5, ground := Ground.data }], guard := none })) (v := ?_) rfl (by kernel_rfl) (by kernel_rfl) (by kernel_rfl) (fun _ _ _ h => h) (Or.inl ⟨by rfl, ?_⟩) (by assumption) ?_
              rotate_left
              · (intro wq hSw; (try dsimp only at hSw); go_simp; try with_reducible rfl)
              try simp only [Act.put, List.setIfInBounds_toArray, List.set_cons_zero, List.set_cons_succ]
              refine wpAnyH_take (i := 8) (oi := ({ dst := some 66, op := Op.load 9 (Operand.tmp 65), type := 9, pos := _, after := #[{ on := 7, ground := Ground.data }], guard := none })) (v := ?_) rfl (by kernel_rfl) (by kernel_rfl) (by kernel_rfl) (fun _ _ _ h => h) (Or.inl ⟨by rfl, ?_⟩) (by assumption) ?_
              rotate_left
              · (intro wq hSw; (try dsimp only at hSw); go_simp; try with_reducible rfl)
              try simp only [Act.put, List.setIfInBounds_toArray, List.set_cons_zero, List.set_cons_succ]
              refine wpAnyH_take (i := 9) (oi := ({ dst := some 67, op := Op.binOp BinOp.neq 9 (Operand.tmp 62) (Operand.tmp 66) 9, type := 4, pos := _, after := #[{ on := 4, ground := Ground.data }, { on := 8, ground := Ground.data }], guard := none })) (v := ?_) rfl (by kernel_rfl) (by kernel_rfl) (by kernel_rfl) (fun _ _ _ h => h) (Or.inl ⟨by rfl, ?_⟩) (by assumption) ?_
              rotate_left
              · (intro wq hSw; (try dsimp only at hSw); go_simp; try with_reducible rfl)
              try simp only [Act.put, List.setIfInBounds_toArray, List.set_cons_zero, List.set_cons_succ]
              refine wpAnyH_done (by kernel_rfl) ?_ _
              clear cx d9 hcv
              obtain ⟨wd, hwd⟩ : ∃ wd, wd = wi.drew := ⟨_, rfl⟩
              rw [← hwd]
              have hQd : QB w u5 (t.procsTo (k + 1)) bx b9 wo.heap.size y (r k) i wd := by rw [hwd]; exact (unhid_ HQi).drew
              obtain ⟨gb, hgb⟩ : ∃ gb, 0 < (y.b i).xs.length → wo.heap.size ≤ gb ∧ gb < bx ∧ (y.b i).A = some ⟨gb, 0, none⟩ ∧ ∃ cur : Array Value, (y.b i).xs.length ≤ cur.size ∧ Blk wd gb 5 cur := by
                rcases Nat.eq_zero_or_pos (y.b i).xs.length with h0 | h0
                · exact ⟨0, fun h => by omega⟩
                · obtain ⟨gb, h1, h2, h3, _⟩ := buf_block ((unhid_ HYB) i hi4).2 h0
                  obtain ⟨gb', _, _, h6, h7⟩ := buf_block (hQd.2.2.2.2 i (Nat.le_refl _) hi4) h0
                  rw [h3] at h6
                  injection h6 with h6
                  injection h6 with h6
                  subst h6
                  exact ⟨gb, fun _ => ⟨h1, by rw [HBXE.out]; exact h2, h3, h7⟩⟩
              have HQD := hide hQd
              have HGB := hide hgb
              have hblkx := hQd.2.2.1
              have HBXD := hide hblkx
              have hlen : (y.b i).xs.length ≤ 100000 := (hQd.2.2.2.2 i (Nat.le_refl _) hi4).2
              have hbxd : bx < wd.heap.size := hblkx.lt
              clear hwd hQd hgb hblkx
              obtain ⟨N, hN⟩ : ∃ N, N = (y.b i).xs.length := ⟨_, rfl⟩
              have cgx : ∀ wq, Only [gb] wd wq → (0 < N → gb < bx) → (N = 0 → wq = wd) → wq.cell? ⟨bx, 2 + i, none⟩ = some (.slice (y.b i).A N (y.b i).c) := by
                intro wq ho hlt hz
                rw [hN]
                rcases Nat.eq_zero_or_pos N with h0 | h0
                · rw [hz h0]
                  exact ((unhid_ HBXD).cell _).trans (y.get_buf hi4)
                · have := hlt h0
                  exact ((ho.blk (unhid_ HBXD) (by simp; omega)).cell _).trans (y.get_buf hi4)
              have CGX := hide cgx
              rw [← hN] at HGB hlen
              rw [← hN]
              have HNE := Lib.hid hN
              clear cgx hN
              go_wp2
              go_loopw [11] (fun s11 wq => ∃ q : Nat, q ≤ N ∧ s11 = .int .i64 q ∧ Only [gb] wd wq ∧ (N = 0 → wq = wd) ∧ (0 < N → ∃ cur : Array Value, N ≤ cur.size ∧ Blk wq gb 5 cur)) (fun s11 _ => N - (intOf s11).toNat)
              case atStart => exact ⟨0, Nat.zero_le _, rfl, Only.refl _ _, fun _ => rfl, fun h => ((unhid_ HGB) h).2.2.2⟩
              case round =>
                obtain ⟨q, hq, rfl, hox, hez, hcb⟩ := hrel
                have cx := (unhid_ CGX) wr hox (fun h => ((unhid_ HGB) h).2.1) hez
                by_cases hqn : q < N
                · obtain ⟨hg1, hg2, hA, _⟩ := (unhid_ HGB) (by omega)
                  obtain ⟨cur, hc2, hblk⟩ := hcb (by omega)
                  rw [hA] at cx
                  have HOX := hide hox
                  have d : wr.cell? ⟨gb, q, none⟩ = some (cur[q]'(by omega)) := by rw [hblk.cell, Array.getElem?_eq_getElem (by omega)]
                  have f : wr.frozen? ⟨gb, q, none⟩ = false := hblk.frozen q
                  have HBLK := hide hblk
                  have HA := Lib.hid hA
                  clear hez hox hblk hcb hA
                  go_wp2
                  go_roundw
                  case rel => exact ⟨q + 1, by omega, by go_num, (unhid_ HOX).setCell (p := ⟨gb, q, none⟩) (.inl (by simp)) _, fun h => absurd h (by omega), fun _ => ⟨_, by simpa using hc2, (unhid_ HBLK).set_ q _⟩⟩
                  case measure => simp [intOf]; omega
                · obtain rfl : q = N := by omega
                  have hQ2 : QB w u5 (t.procsTo (k + 1)) bx b9 wo.heap.size y (r k) (i + 1) wr := by
                    rcases Nat.eq_zero_or_pos q with h0 | h0
                    · rw [hez h0]; exact (unhid_ HQD).next
                    · obtain ⟨hg1, hg2, hA, cur, _, hblk⟩ := (unhid_ HGB) h0
                      exact (unhid_ HQD).step hox (by omega) hg2 hx9 hblk fun j hj hj4 => aside_apart ((unhid_ HAP) i j (by omega) hj4) hA ((unhid_ HQD).2.2.2.2 j (by omega) hj4)
                  have HQ2 := hide hQ2
                  clear hQ2 hox hez hcb
                  go_wp2
                  go_roundw
                  case rel => exact ⟨i + 1, by omega, by go_num, unhid_ HQ2⟩
                  case measure => simp [intOf]; omega
            · obtain rfl : i = 4 := by omega
              rw [show ((4 : Nat) : Int) = 4 from rfl]
              obtain ⟨hq1, hq2, hq3, hq4, _⟩ := hQ
              have HQ1 := hide hq1
              have HQ2 := hide hq2
              have HQ3 := hide hq3
              have HQ4 := hide hq4
              have hbxi : bx < wi.heap.size := hq3.lt
              have hb9i : b9 < wi.heap.size := hq4.lt
              clear hq1 hq2 hq3 hq4
              go_wp2
              go_loopw [12, 13, 14] (fun s12 _ _ wq => ∃ m : Nat, m ≤ 8 ∧ s12 = .int .i64 m ∧ Below wi.heap.size wi wq) (fun s12 _ _ _ => 8 - (intOf s12).toNat)
              case atStart => exact ⟨0, Nat.zero_le _, rfl, Below.refl _ _⟩
              case round =>
                obtain ⟨m, hm, rfl, hbq⟩ := hrel
                have HBQ := hide hbq
                by_cases hm8 : m < 8
                · obtain ⟨F, hF⟩ : ∃ F, F = (t.p k).f m := ⟨_, rfl⟩
                  obtain ⟨x0, x1, x2, x3⟩ := fd_cells ((unhid_ HQ3).below hbq hbxi) hm8 F (by rw [hF, HYF.out])
                  obtain ⟨y0, y1, y2, y3⟩ := rfd_cells ((unhid_ HQ4).below hbq hb9i) hm8 F (by rw [hF, (unhid_ HBO).M.f k hk13])
                  have hmI : (m : Int) < 8 := by omega
                  have hzq := hbq.size
                  clear hbq hF
                  go_upto_region 25 with (fail)
                  have hS : ∀ W, Below wr.heap.size wr W → (W.cell? ⟨bx, 6 + m * 4, none⟩ = some (.int .i64 F.k) ∧ W.cell? ⟨bx, 6 + m * 4 + 1, none⟩ = some (.int .i64 F.t) ∧ W.cell? ⟨bx, 6 + m * 4 + 2, none⟩ = some (.int .i64 F.a) ∧ W.cell? ⟨bx, 6 + m * 4 + 3, none⟩ = some (.bool F.w) ∧ W.cell? ⟨b9, 7 + m * 4, none⟩ = some (.int .i64 F.k) ∧ W.cell? ⟨b9, 7 + m * 4 + 1, none⟩ = some (.int .i64 F.t) ∧ W.cell? ⟨b9, 7 + m * 4 + 2, none⟩ = some (.int .i64 F.a) ∧ W.cell? ⟨b9, 7 + m * 4 + 3, none⟩ = some (.bool F.w)) := by
                    intro W hW
                    have e : ∀ b o, b < wr.heap.size → W.cell? ⟨b, o, none⟩ = wr.cell? ⟨b, o, none⟩ := fun b o hb => hW.cell (p := ⟨b, o, none⟩) hb
                    rw [e bx _ (by omega), e bx _ (by omega), e bx _ (by omega), e bx _ (by omega), e b9 _ (by omega), e b9 _ (by omega), e b9 _ (by omega), e b9 _ (by omega)]
                    exact ⟨x0, x1, x2, x3, y0, y1, y2, y3⟩
                  go_cut [13, 14] (fun s13 s14 wx => ∃ n1 n2, s13 = .pointer (some ⟨n1, 0, none⟩) ∧ s14 = .pointer (some ⟨n2, 0, none⟩) ∧ Blk wx n1 30 F.cells.toArray ∧ Blk wx n2 53 F.cells.toArray ∧ Below wr.heap.size wr wx)
                  case first =>
                    clear x0 x1 x2 x3 y0 y1 y2 y3
                    skip
                    refine wp_region_held_drew (S := (fun W => W.cell? ⟨bx, 6 + m * 4, none⟩ = some (.int .i64 F.k) ∧ W.cell? ⟨bx, 6 + m * 4 + 1, none⟩ = some (.int .i64 F.t) ∧ W.cell? ⟨bx, 6 + m * 4 + 2, none⟩ = some (.int .i64 F.a) ∧ W.cell? ⟨bx, 6 + m * 4 + 3, none⟩ = some (.bool F.w) ∧ W.cell? ⟨b9, 7 + m * 4, none⟩ = some (.int .i64 F.k) ∧ W.cell? ⟨b9, 7 + m * 4 + 1, none⟩ = some (.int .i64 F.t) ∧ W.cell? ⟨b9, 7 + m * 4 + 2, none⟩ = some (.int .i64 F.a) ∧ W.cell? ⟨b9, 7 + m * 4 + 3, none⟩ = some (.bool F.w))) (by kernel_rfl) ?_ (fun hHeld => ?_)
                    · exact hS _ (Only.below (Only.refl [] wr).drew (by simp) (Nat.le_refl _))
                    refine wpAnyH_take (i := 0) (oi := ({ dst := some 87, op := Op.move (Operand.tmp 12), type := 3, pos := _, after := #[], guard := none })) (v := ?_) rfl (by kernel_rfl) (by kernel_rfl) (by kernel_rfl) (fun _ _ _ h => h) (Or.inl ⟨by rfl, ?_⟩) (by assumption) ?_
                    rotate_left
                    · (intro wq hSw; (try dsimp only at hSw); go_simp; try with_reducible rfl)
                    try simp only [Act.put, List.setIfInBounds_toArray, List.set_cons_zero, List.set_cons_succ]
                    refine wpAnyH_take (i := 1) (oi := ({ dst := some 88, op := Op.fieldAddr 43 (Operand.tmp 7) 3, type := 0, pos := _, after := #[], guard := none })) (v := ?_) rfl (by kernel_rfl) (by kernel_rfl) (by kernel_rfl) (fun _ _ _ h => h) (Or.inl ⟨by rfl, ?_⟩) (by assumption) ?_
                    rotate_left
                    · (intro wq hSw; (try dsimp only at hSw); go_simp; try with_reducible rfl)
                    try simp only [Act.put, List.setIfInBounds_toArray, List.set_cons_zero, List.set_cons_succ]
                    refine wpAnyH_take (i := 2) (oi := ({ dst := some 89, op := Op.indexAddr 41 (Operand.tmp 88) (Operand.tmp 87), type := 0, pos := _, after := #[{ on := 1, ground := Ground.data }, { on := 0, ground := Ground.data }], guard := none })) (v := ?_) rfl (by kernel_rfl) (by kernel_rfl) (by kernel_rfl) (fun _ _ _ h => h) (Or.inl ⟨by rfl, ?_⟩) (by assumption) ?_
                    rotate_left
                    · (intro wq hSw; (try dsimp only at hSw); go_simp; try with_reducible rfl)
                    try simp only [Act.put, List.setIfInBounds_toArray, List.set_cons_zero, List.set_cons_succ]
                    refine wpAnyH_take (i := 3) (oi := ({ dst := some 90, op := Op.load 30 (Operand.tmp 89), type := 30, pos := _, after := #[{ on := 2, ground := Ground.data }], guard := none })) (v := ?_) rfl (by kernel_rfl) (by kernel_rfl) (by kernel_rfl) (fun _ _ _ h => h) (Or.inl ⟨by rfl, ?_⟩) (by assumption) ?_
                    rotate_left
                    · (intro wq hSw; (try dsimp only at hSw); go_simp; try with_reducible rfl)
                    try simp only [Act.put, List.setIfInBounds_toArray, List.set_cons_zero, List.set_cons_succ]
                    refine wpAnyH_take (i := 4) (oi := ({ dst := some 91, op := Op.move (Operand.tmp 12), type := 3, pos := _, after := #[{ on := 10, ground := Ground.gcOnly Departure.lateStores }], guard := none })) (v := ?_) rfl (by kernel_rfl) (by kernel_rfl) (by kernel_rfl) (fun _ _ _ h => h) (Or.inl ⟨by rfl, ?_⟩) (by assumption) ?_
                    rotate_left
                    · (intro wq hSw; (try dsimp only at hSw); go_simp; try with_reducible rfl)
                    try simp only [Act.put, List.setIfInBounds_toArray, List.set_cons_zero, List.set_cons_succ]
                    refine wpAnyH_take (i := 5) (oi := ({ dst := some 92, op := Op.fieldAddr 56 (Operand.tmp 9) 4, type := 0, pos := _, after := #[{ on := 10, ground := Ground.gcOnly Departure.lateStores }], guard := none })) (v := ?_) rfl (by kernel_rfl) (by kernel_rfl) (by kernel_rfl) (fun _ _ _ h => h) (Or.inl ⟨by rfl, ?_⟩) (by assumption) ?_
                    rotate_left
                    · (intro wq hSw; (try dsimp only at hSw); go_simp; try with_reducible rfl)
                    try simp only [Act.put, List.setIfInBounds_toArray, List.set_cons_zero, List.set_cons_succ]
                    refine wpAnyH_take (i := 6) (oi := ({ dst := some 93, op := Op.indexAddr 54 (Operand.tmp 92) (Operand.tmp 91), type := 0, pos := _, after := #[{ on := 5, ground := Ground.data }, { on := 4, ground := Ground.data }, { on := 10, ground := Ground.gcOnly Departure.lateStores }], guard := none })) (v := ?_) rfl (by kernel_rfl) (by kernel_rfl) (by kernel_rfl) (fun _ _ _ h => h) (Or.inl ⟨by rfl, ?_⟩) (by assumption) ?_
                    rotate_left
                    · (intro wq hSw; (try dsimp only at hSw); go_simp; try with_reducible rfl)
                    try simp only [Act.put, List.setIfInBounds_toArray, List.set_cons_zero, List.set_cons_succ]
                    refine wpAnyH_take (i := 7) (oi := ({ dst := some 94, op := Op.load 53 (Operand.tmp 93), type := 53, pos := _, after := #[{ on := 6, ground := Ground.data }, { on := 10, ground := Ground.gcOnly Departure.lateStores }], guard := none })) (v := ?_) rfl (by kernel_rfl) (by kernel_rfl) (by kernel_rfl) (fun _ _ _ h => h) (Or.inl ⟨by rfl, ?_⟩) (by assumption) ?_
                    rotate_left
                    · (intro wq hSw; (try dsimp only at hSw); go_simp; try with_reducible rfl)
                    try simp only [Act.put, List.setIfInBounds_toArray, List.set_cons_zero, List.set_cons_succ]
                    refine wpAnyH_ready (rs := [8, 9]) (by kernel_rfl) (by simp) ?_
                    refine AllReadyH.cons (o := ({ dst := some 13, op := Op.alloc 30, type := 0, pos := _, after := #[], guard := none })) rfl (fun K hK => ?_) (AllReadyH.cons (o := ({ dst := some 14, op := Op.alloc 53, type := 0, pos := _, after := #[], guard := none })) rfl (fun K hK => ?_) AllReadyH.nil)
                    · have hB2 : Below wr.heap.size wr ((wr.drew.alloc (.cells #[.int .i64 0, .int .i64 0, .int .i64 0, .bool false] 30)).alloc (.cells #[.int .i64 0, .int .i64 0, .int .i64 0, .bool false] 53)) := (((Only.below (Only.refl [] wr).drew (by simp) (Nat.le_refl _)).alloc (Nat.le_refl _) _).alloc (by simp) _)
                      have hB1 : Below wr.heap.size wr (wr.drew.alloc (.cells #[.int .i64 0, .int .i64 0, .int .i64 0, .bool false] 30)) := ((Only.below (Only.refl [] wr).drew (by simp) (Nat.le_refl _)).alloc (Nat.le_refl _) _)
                      have h1 : Blk ((wr.drew.alloc (.cells #[.int .i64 0, .int .i64 0, .int .i64 0, .bool false] 30)).alloc (.cells #[.int .i64 0, .int .i64 0, .int .i64 0, .bool false] 53)) wr.heap.size 30 #[.int .i64 0, .int .i64 0, .int .i64 0, .bool false] := (Blk.new wr.drew _ _).alloc _
                      have h2 : Blk ((wr.drew.alloc (.cells #[.int .i64 0, .int .i64 0, .int .i64 0, .bool false] 30)).alloc (.cells #[.int .i64 0, .int .i64 0, .int .i64 0, .bool false] 53)) (wr.heap.size + 1) 53 #[.int .i64 0, .int .i64 0, .int .i64 0, .bool false] := Blk.new' (by simp) _ _
                      have hz2 : wr.heap.size + 1 ≤ ((wr.drew.alloc (.cells #[.int .i64 0, .int .i64 0, .int .i64 0, .bool false] 30)).alloc (.cells #[.int .i64 0, .int .i64 0, .int .i64 0, .bool false] 53)).heap.size := by simp
                      have hne : wr.heap.size ≠ (wr.heap.size + 1) := by omega
                      have hth1 : ((wr.drew.alloc (.cells #[.int .i64 0, .int .i64 0, .int .i64 0, .bool false] 30)).alloc (.cells #[.int .i64 0, .int .i64 0, .int .i64 0, .bool false] 53)).there wr.heap.size 0 F.cells.toArray.size := there4 h1 rfl
                      have hth2 : (((wr.drew.alloc (.cells #[.int .i64 0, .int .i64 0, .int .i64 0, .bool false] 30)).alloc (.cells #[.int .i64 0, .int .i64 0, .int .i64 0, .bool false] 53)).setCells wr.heap.size 0 F.cells).there (wr.heap.size + 1) 0 F.cells.toArray.size := there4 ((Only.setCells F.cells wr.heap.size 0 _ (Only.refl [wr.heap.size] _) (.inl (by simp))).blk h2 (by simp)) rfl
                      have hB3 : Below wr.heap.size wr (((wr.drew.alloc (.cells #[.int .i64 0, .int .i64 0, .int .i64 0, .bool false] 30)).alloc (.cells #[.int .i64 0, .int .i64 0, .int .i64 0, .bool false] 53)).setCells wr.heap.size 0 F.cells) := hB2.trans (Only.below (Only.setCells F.cells wr.heap.size 0 _ (Only.refl [wr.heap.size] _) (.inl (by simp))) (fun x hx => by simp at hx; omega) (by simp; omega))
                      have hB4 : Below wr.heap.size wr ((((wr.drew.alloc (.cells #[.int .i64 0, .int .i64 0, .int .i64 0, .bool false] 30)).alloc (.cells #[.int .i64 0, .int .i64 0, .int .i64 0, .bool false] 53)).setCells wr.heap.size 0 F.cells).setCells (wr.heap.size + 1) 0 F.cells) := hB3.trans (Only.below (Only.setCells F.cells (wr.heap.size + 1) 0 _ (Only.refl [(wr.heap.size + 1)] _) (.inl (by simp))) (fun x hx => by simp at hx; omega) hB3.size)
                      have hN : Blk ((((wr.drew.alloc (.cells #[.int .i64 0, .int .i64 0, .int .i64 0, .bool false] 30)).alloc (.cells #[.int .i64 0, .int .i64 0, .int .i64 0, .bool false] 53)).setCells wr.heap.size 0 F.cells).setCells (wr.heap.size + 1) 0 F.cells) wr.heap.size 30 F.cells.toArray ∧ Blk ((((wr.drew.alloc (.cells #[.int .i64 0, .int .i64 0, .int .i64 0, .bool false] 30)).alloc (.cells #[.int .i64 0, .int .i64 0, .int .i64 0, .bool false] 53)).setCells wr.heap.size 0 F.cells).setCells (wr.heap.size + 1) 0 F.cells) (wr.heap.size + 1) 53 F.cells.toArray := new4 h1 h2 rfl rfl hne F
                      have s1 := hS _ hB1
                      have s2 := hS _ hB2
                      have s3 := hS _ hB3
                      have s4 := hS _ hB4
                      have HB4 := hide hB4
                      have HN := hide hN
                      clear hB1 hB2 hB3 hB4 hN h1 h2 hS
                      go_simp
                      refine hK.out _ _ ?_ (fun hHeld => ?_)
                      · exact s1
                      clear hK K
                      try simp only [Act.put, List.setIfInBounds_toArray, List.set_cons_zero, List.set_cons_succ]
                      refine wpAnyH_ready (rs := [9]) (by kernel_rfl) (by simp) ?_
                      refine AllReadyH.cons (o := ({ dst := some 14, op := Op.alloc 53, type := 0, pos := _, after := #[], guard := none })) rfl (fun K hK => ?_) AllReadyH.nil
                      go_simp
                      refine hK.out _ _ ?_ (fun hHeld => ?_)
                      · exact s2
                      clear hK K
                      try simp only [Act.put, List.setIfInBounds_toArray, List.set_cons_zero, List.set_cons_succ]
                      refine wpAnyH_ready (rs := [10]) (by kernel_rfl) (by simp) ?_
                      refine AllReadyH.cons (o := ({ dst := none, op := Op.store 30 (Operand.tmp 13) (Operand.tmp 90), type := 0, pos := _, after := #[{ on := 8, ground := Ground.data }, { on := 3, ground := Ground.data }, { on := 0, ground := Ground.phase }, { on := 1, ground := Ground.phase }, { on := 2, ground := Ground.phase }, { on := 3, ground := Ground.phase }, { on := 4, ground := Ground.textOnly Departure.lateStores }, { on := 5, ground := Ground.textOnly Departure.lateStores }, { on := 6, ground := Ground.textOnly Departure.lateStores }, { on := 7, ground := Ground.textOnly Departure.lateStores }, { on := 8, ground := Ground.phase }, { on := 9, ground := Ground.phase }], guard := none })) rfl (fun K hK => ?_) AllReadyH.nil
                      refine step_store_mid rfl 30 (.tmp 13) (.tmp 90) rfl wr.heap.size 0 F.cells.toArray rfl rfl hth1 (by kernel_rfl) (all_oneCell_toArray fd_one) ?_
                      refine hK.out _ _ ?_ (fun hHeld => ?_)
                      · exact s3
                      clear hK K
                      try simp only [Act.put, List.setIfInBounds_toArray, List.set_cons_zero, List.set_cons_succ]
                      refine wpAnyH_ready (rs := [11]) (by kernel_rfl) (by simp) ?_
                      refine AllReadyH.cons (o := ({ dst := none, op := Op.store 53 (Operand.tmp 14) (Operand.tmp 94), type := 0, pos := _, after := #[{ on := 9, ground := Ground.data }, { on := 7, ground := Ground.data }, { on := 10, ground := Ground.chain }, { on := 0, ground := Ground.phase }, { on := 1, ground := Ground.phase }, { on := 2, ground := Ground.phase }, { on := 3, ground := Ground.phase }, { on := 4, ground := Ground.phase }, { on := 5, ground := Ground.phase }, { on := 6, ground := Ground.phase }, { on := 7, ground := Ground.phase }, { on := 8, ground := Ground.phase }, { on := 9, ground := Ground.phase }, { on := 10, ground := Ground.phase }], guard := none })) rfl (fun K hK => ?_) AllReadyH.nil
                      refine step_store_mid rfl 53 (.tmp 14) (.tmp 94) rfl (wr.heap.size + 1) 0 F.cells.toArray rfl rfl hth2 (by kernel_rfl) (all_oneCell_toArray fd_one) ?_
                      refine hK.out _ _ ?_ (fun hHeld => ?_)
                      · exact s4
                      clear hK K
                      try simp only [Act.put, List.setIfInBounds_toArray, List.set_cons_zero, List.set_cons_succ]
                      refine wpAnyH_done (by kernel_rfl) ?_ _
                      clear s1 s2 s3 s4 hth1 hth2
                      go_wp2
                      go_meet
                      exact ⟨_, _, rfl, rfl, (unhid_ HN).1, (unhid_ HN).2, unhid_ HB4⟩
                    · have hB2 : Below wr.heap.size wr ((wr.drew.alloc (.cells #[.int .i64 0, .int .i64 0, .int .i64 0, .bool false] 53)).alloc (.cells #[.int .i64 0, .int .i64 0, .int .i64 0, .bool false] 30)) := (((Only.below (Only.refl [] wr).drew (by simp) (Nat.le_refl _)).alloc (Nat.le_refl _) _).alloc (by simp) _)
                      have hB1 : Below wr.heap.size wr (wr.drew.alloc (.cells #[.int .i64 0, .int .i64 0, .int .i64 0, .bool false] 53)) := ((Only.below (Only.refl [] wr).drew (by simp) (Nat.le_refl _)).alloc (Nat.le_refl _) _)
                      have h1 : Blk ((wr.drew.alloc (.cells #[.int .i64 0, .int .i64 0, .int .i64 0, .bool false] 53)).alloc (.cells #[.int .i64 0, .int .i64 0, .int .i64 0, .bool false] 30)) (wr.heap.size + 1) 30 #[.int .i64 0, .int .i64 0, .int .i64 0, .bool false] := Blk.new' (by simp) _ _
                      have h2 : Blk ((wr.drew.alloc (.cells #[.int .i64 0, .int .i64 0, .int .i64 0, .bool false] 53)).alloc (.cells #[.int .i64 0, .int .i64 0, .int .i64 0, .bool false] 30)) wr.heap.size 53 #[.int .i64 0, .int .i64 0, .int .i64 0, .bool false] := (Blk.new wr.drew _ _).alloc _
                      have hz2 : wr.heap.size + 1 ≤ ((wr.drew.alloc (.cells #[.int .i64 0, .int .i64 0, .int .i64 0, .bool false] 53)).alloc (.cells #[.int .i64 0, .int .i64 0, .int .i64 0, .bool false] 30)).heap.size := by simp
                      have hne : (wr.heap.size + 1) ≠ wr.heap.size := by omega
                      have hth1 : ((wr.drew.alloc (.cells #[.int .i64 0, .int .i64 0, .int .i64 0, .bool false] 53)).alloc (.cells #[.int .i64 0, .int .i64 0, .int .i64 0, .bool false] 30)).there (wr.heap.size + 1) 0 F.cells.toArray.size := there4 h1 rfl
                      have hth2 : (((wr.drew.alloc (.cells #[.int .i64 0, .int .i64 0, .int .i64 0, .bool false] 53)).alloc (.cells #[.int .i64 0, .int .i64 0, .int .i64 0, .bool false] 30)).setCells (wr.heap.size + 1) 0 F.cells).there wr.heap.size 0 F.cells.toArray.size := there4 ((Only.setCells F.cells (wr.heap.size + 1) 0 _ (Only.refl [(wr.heap.size + 1)] _) (.inl (by simp))).blk h2 (by simp)) rfl
                      have hB3 : Below wr.heap.size wr (((wr.drew.alloc (.cells #[.int .i64 0, .int .i64 0, .int .i64 0, .bool false] 53)).alloc (.cells #[.int .i64 0, .int .i64 0, .int .i64 0, .bool false] 30)).setCells (wr.heap.size + 1) 0 F.cells) := hB2.trans (Only.below (Only.setCells F.cells (wr.heap.size + 1) 0 _ (Only.refl [(wr.heap.size + 1)] _) (.inl (by simp))) (fun x hx => by simp at hx; omega) (by simp; omega))
                      have hB4 : Below wr.heap.size wr ((((wr.drew.alloc (.cells #[.int .i64 0, .int .i64 0, .int .i64 0, .bool false] 53)).alloc (.cells #[.int .i64 0, .int .i64 0, .int .i64 0, .bool false] 30)).setCells (wr.heap.size + 1) 0 F.cells).setCells wr.heap.size 0 F.cells) := hB3.trans (Only.below (Only.setCells F.cells wr.heap.size 0 _ (Only.refl [wr.heap.size] _) (.inl (by simp))) (fun x hx => by simp at hx; omega) hB3.size)
                      have hN : Blk ((((wr.drew.alloc (.cells #[.int .i64 0, .int .i64 0, .int .i64 0, .bool false] 53)).alloc (.cells #[.int .i64 0, .int .i64 0, .int .i64 0, .bool false] 30)).setCells (wr.heap.size + 1) 0 F.cells).setCells wr.heap.size 0 F.cells) (wr.heap.size + 1) 30 F.cells.toArray ∧ Blk ((((wr.drew.alloc (.cells #[.int .i64 0, .int .i64 0, .int .i64 0, .bool false] 53)).alloc (.cells #[.int .i64 0, .int .i64 0, .int .i64 0, .bool false] 30)).setCells (wr.heap.size + 1) 0 F.cells).setCells wr.heap.size 0 F.cells) wr.heap.size 53 F.cells.toArray := new4 h1 h2 rfl rfl hne F
                      have s1 := hS _ hB1
                      have s2 := hS _ hB2
                      have s3 := hS _ hB3
                      have s4 := hS _ hB4
                      have HB4 := hide hB4
                      have HN := hide hN
                      clear hB1 hB2 hB3 hB4 hN h1 h2 hS
                      go_simp
                      refine hK.out _ _ ?_ (fun hHeld => ?_)
                      · exact s1
                      clear hK K
                      try simp only [Act.put, List.setIfInBounds_toArray, List.set_cons_zero, List.set_cons_succ]
                      refine wpAnyH_ready (rs := [8]) (by kernel_rfl) (by simp) ?_
                      refine AllReadyH.cons (o := ({ dst := some 13, op := Op.alloc 30, type := 0, pos := _, after := #[], guard := none })) rfl (fun K hK => ?_) AllReadyH.nil
                      go_simp
                      refine hK.out _ _ ?_ (fun hHeld => ?_)
                      · exact s2
                      clear hK K
                      try simp only [Act.put, List.setIfInBounds_toArray, List.set_cons_zero, List.set_cons_succ]
                      refine wpAnyH_ready (rs := [10]) (by kernel_rfl) (by simp) ?_
                      refine AllReadyH.cons (o := ({ dst := none, op := Op.store 30 (Operand.tmp 13) (Operand.tmp 90), type := 0, pos := _, after := #[{ on := 8, ground := Ground.data }, { on := 3, ground := Ground.data }, { on := 0, ground := Ground.phase }, { on := 1, ground := Ground.phase }, { on := 2, ground := Ground.phase }, { on := 3, ground := Ground.phase }, { on := 4, ground := Ground.textOnly Departure.lateStores }, { on := 5, ground := Ground.textOnly Departure.lateStores }, { on := 6, ground := Ground.textOnly Departure.lateStores }, { on := 7, ground := Ground.textOnly Departure.lateStores }, { on := 8, ground := Ground.phase }, { on := 9, ground := Ground.phase }], guard := none })) rfl (fun K hK => ?_) AllReadyH.nil
                      refine step_store_mid rfl 30 (.tmp 13) (.tmp 90) rfl (wr.heap.size + 1) 0 F.cells.toArray rfl rfl hth1 (by kernel_rfl) (all_oneCell_toArray fd_one) ?_
                      refine hK.out _ _ ?_ (fun hHeld => ?_)
                      · exact s3
                      clear hK K
                      try simp only [Act.put, List.setIfInBounds_toArray, List.set_cons_zero, List.set_cons_succ]
                      refine wpAnyH_ready (rs := [11]) (by kernel_rfl) (by simp) ?_
                      refine AllReadyH.cons (o := ({ dst := none, op := Op.store 53 (Operand.tmp 14) (Operand.tmp 94), type := 0, pos := _, after := #[{ on := 9, ground := Ground.data }, { on := 7, ground := Ground.data }, { on := 10, ground := Ground.chain }, { on := 0, ground := Ground.phase }, { on := 1, ground := Ground.phase }, { on := 2, ground := Ground.phase }, { on := 3, ground := Ground.phase }, { on := 4, ground := Ground.phase }, { on := 5, ground := Ground.phase }, { on := 6, ground := Ground.phase }, { on := 7, ground := Ground.phase }, { on := 8, ground := Ground.phase }, { on := 9, ground := Ground.phase }, { on := 10, ground := Ground.phase }], guard := none })) rfl (fun K hK => ?_) AllReadyH.nil
                      refine step_store_mid rfl 53 (.tmp 14) (.tmp 94) rfl wr.heap.size 0 F.cells.toArray rfl rfl hth2 (by kernel_rfl) (all_oneCell_toArray fd_one) ?_
                      refine hK.out _ _ ?_ (fun hHeld => ?_)
                      · exact s4
                      clear hK K
                      try simp only [Act.put, List.setIfInBounds_toArray, List.set_cons_zero, List.set_cons_succ]
                      refine wpAnyH_done (by kernel_rfl) ?_ _
                      clear s1 s2 s3 s4 hth1 hth2
                      go_wp2
                      go_meet
                      exact ⟨_, _, rfl, rfl, (unhid_ HN).1, (unhid_ HN).2, unhid_ HB4⟩
                  case rest =>
                    obtain ⟨n1, n2, rfl, rfl, hn1, hn2, hbx2⟩ := hcut
                    have e0 : wc.cell? ⟨n1, 0, none⟩ = some (.int .i64 F.k) := hn1.cell 0
                    have e1 : wc.cell? ⟨n1, 1, none⟩ = some (.int .i64 F.t) := hn1.cell 1
                    have e2 : wc.cell? ⟨n1, 2, none⟩ = some (.int .i64 F.a) := hn1.cell 2
                    have e3 : wc.cell? ⟨n1, 3, none⟩ = some (.bool F.w) := hn1.cell 3
                    have g0 : wc.cell? ⟨n2, 0, none⟩ = some (.int .i64 F.k) := hn2.cell 0
                    have g1 : wc.cell? ⟨n2, 1, none⟩ = some (.int .i64 F.t) := hn2.cell 1
                    have g2 : wc.cell? ⟨n2, 2, none⟩ = some (.int .i64 F.a) := hn2.cell 2
                    have g3 : wc.cell? ⟨n2, 3, none⟩ = some (.bool F.w) := hn2.cell 3
                    have hb3 : Below wi.heap.size wi wc := (unhid_ HBQ).trans (hbx2.mono hzq)
                    have HB3 := hide hb3
                    clear hn1 hn2 hbx2 hb3 hS x0 x1 x2 x3 y0 y1 y2 y3
                    go_wp2
                    go_roundw
                    case rel => exact ⟨m + 1, by omega, by go_num, unhid_ HB3⟩
                    case measure => simp [intOf]; omega
                · obtain rfl : m = 8 := by omega
                  rw [show ((8 : Nat) : Int) = 8 from rfl]
                  go_wp2
                  go_roundw
                  case rel => exact ⟨k + 1, by omega, by go_num, own_only (unhid_ HQ2) (Only.of_below (unhid_ HBQ) []) (by simp), (unhid_ HQ1).trans ((unhid_ HBQ).mono (unhid_ HQ1).size)⟩
                  case measure => simp [intOf]; omega
    · obtain rfl : k = 14 := by omega
      rw [show ((14 : Nat) : Int) = 14 from rfl]
      have hown := unhid_ HOWN
      rw [procsTo_14] at hown
      obtain ⟨A5, c5, rfl⟩ := own_slice hown
      have hl13 := procsTo_le t 13
      have HPS := hide (procs_any wr B gt t (unhid_ HBk).T)
      have HOW2 := hide hown
      clear hown hsl
      go_wp2_with fail
      refine (unhid_ HPS).mono ?_
      rintro e w1 ⟨v2, rfl, hown2, hb2⟩
      obtain ⟨A2, c2, rfl⟩ := own_slice hown2
      have hown5 := own_only (unhid_ HOW2) (Only.of_below hb2 []) (by simp)
      have hsm := sameInts_any _ _ A2 A5 _ c2 _ c5 (t.procsTo 13) (t.procsTo 13) w1 (Reads.of_own hown2) (Reads.of_own hown5) (by omega) (by omega)
      rw [decide_eq_true rfl] at hsm
      have HSM := hide hsm
      have HB2 := hide hb2
      clear hown2 hown5 hsm hb2 HPS
      go_wp2_with fail
      refine (unhid_ HSM).mono ?_
      rintro e w2 ⟨rfl, q, rfl⟩
      go_wp2
      go_ret
      exact yes_mk rfl (belowN ((unhid_ HBE).trans ((unhid_ HB2).mono hzr)) q)
end Go.Proofs.Ytgdloahgokefpaa
