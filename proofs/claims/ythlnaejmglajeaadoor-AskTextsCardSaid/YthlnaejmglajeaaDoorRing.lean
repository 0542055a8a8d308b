/- Plain laws on rings of bytes, and words for memory: what holds of all blocks but a few. Conditions: none. -/
import Derived.Test.YthlnaejmglajeaaDoorMem
import Derived.Laws.CopyOwn
import Derived.Deep.RegionHeld3
import Derived.Lib.SlBytesConst
import Derived.Laws.BytesArg
namespace Go.Proofs.YthlnaejmglajeaaDoor
open Go.RowKit

/-- of what was there, only the blocks in S may have turned -/
structure Only (S : List Nat) (w w' : World) : Prop where
  os : w'.os = w.os
  tape : w'.tape = w.tape
  output : w'.output = w.output
  size : w.heap.size ≤ w'.heap.size
  block : ∀ k, k < w.heap.size → k ∉ S → w'.heap[k]? = w.heap[k]?

section
variable {S : List Nat} {a b w w' : World}
theorem Only.refl (S : List Nat) (w : World) : Only S w w := ⟨rfl, rfl, rfl, Nat.le_refl _, fun _ _ _ => rfl⟩
theorem Only.trans (h : Only S a b) (k : Only S b w) : Only S a w :=
  ⟨k.os.trans h.os, k.tape.trans h.tape, k.output.trans h.output, Nat.le_trans h.size k.size, fun i hi hn => (k.block i (Nat.lt_of_lt_of_le hi h.size) hn).trans (h.block i hi hn)⟩
theorem Only.drew (h : Only S a w) : Only S a w.drew := ⟨h.os, h.tape, h.output, h.size, h.block⟩
theorem Only.drewN (h : Only S a w) (n : Nat) : Only S a (w.drewN n) := ⟨h.os, h.tape, h.output, h.size, h.block⟩
theorem Only.alloc (h : Only S a w) (o : Obj) : Only S a (w.alloc o) :=
  h.trans ⟨rfl, rfl, rfl, by simp, fun k hk _ => Below.heap_alloc _ _ _ hk⟩
theorem Only.setCell (h : Only S a w) {p : Addr} (hp : p.block ∈ S ∨ a.heap.size ≤ p.block) (u : Value) : Only S a (w.setCell p u) :=
  ⟨h.os, h.tape, h.output, by simpa [World.setCell] using h.size, fun k hk hn => (Below.heap_setCell _ _ _ _ (by rintro rfl; rcases hp with hp | hp; exact hn hp; omega)).trans (h.block k hk hn)⟩
theorem Only.setRow (h : Only S a w) {g : Nat} (hp : g ∈ S ∨ a.heap.size ≤ g) (cs : Array Value) : Only S a (w.setRow g cs) :=
  ⟨h.os, h.tape, h.output, by simpa [World.setRow] using h.size, fun k hk hn => (setRow_other w g k cs (by rintro rfl; rcases hp with hp | hp; exact hn hp; omega)).trans (h.block k hk hn)⟩
theorem Only.blk {g : Nat} {t : TypeId} {cs : Array Value} (h : Only S w w') (hb : Blk w g t cs) (hg : g ∉ S) : Blk w' g t cs := (h.block g hb.lt hg).trans hb
theorem Only.below {B : Nat} (h : Only S w w') (hB : ∀ k ∈ S, B ≤ k) (hw : B ≤ w.heap.size) : Below B w w' :=
  ⟨h.os, h.tape, h.output, h.size, fun k hk => h.block k (by omega) (fun hm => by have := hB k hm; omega)⟩
theorem Only.of_below (h : Below w.heap.size w w') (S : List Nat) : Only S w w' := ⟨h.os, h.tape, h.output, h.size, fun k hk _ => h.block k hk⟩
theorem Only.more {T : List Nat} (h : Only S w w') (hT : ∀ k ∈ S, k ∈ T) : Only T w w' := ⟨h.os, h.tape, h.output, h.size, fun k hk hn => h.block k hk fun hm => hn (hT k hm)⟩
theorem Only.reads {B size n : Nat} {A : Option Addr} {xs : List Value} (h : Only S w w') (hr : Reads w B size A n xs) (hB : B ≤ w.heap.size) (hA : ∀ ad, A = some ad → ad.block ∉ S) : Reads w' B size A n xs :=
  ⟨hr.1, fun hn => by
    obtain ⟨ad, e, hb, hc⟩ := hr.2 hn
    exact ⟨ad, e, hb, fun j u hu => (World.cell?_of_block (by rw [block_of_add]; exact h.block ad.block (by omega) (hA ad e))).trans (hc j u hu)⟩⟩
end

theorem setRow_alloc (w : World) (c d : Array Value) (t : TypeId) : (w.alloc (.cells c t)).setRow w.heap.size d = w.alloc (.cells d t) := by
  unfold World.setRow World.alloc
  congr 1
  apply Array.ext
  · simp
  · intro i h1 h2
    simp only [Array.getElem_modify, Array.getElem_push]
    split
    · rename_i h
      subst h
      simp
    · rename_i h
      simp only [Array.size_modify, Array.size_push] at h1
      have hi : i < w.heap.size := by omega
      simp [hi]
theorem Blk.setRow {w : World} {g : Nat} {t : TypeId} {cs : Array Value} (h : Blk w g t cs) (ds : Array Value) : Blk (w.setRow g ds) g t ds := setRow_heap w g _ _ t _ h
theorem Blk.setRow_far {w : World} {g k : Nat} {t : TypeId} {cs : Array Value} (h : Blk w g t cs) (hk : g ≠ k) (ds : Array Value) : Blk (w.setRow k ds) g t cs := (setRow_other w k g ds hk).trans h
theorem cell_setRow_far (w : World) (g : Nat) (cs : Array Value) (p : Addr) (h : p.block ≠ g) : (w.setRow g cs).cell? p = w.cell? p := World.cell?_of_block (setRow_other w g _ cs h)
theorem Blk.ne_ {w : World} {g g' : Nat} {t t' : TypeId} {cs cs' : Array Value} (h : Blk w g t cs) (h' : Blk w g' t' cs') (hne : t ≠ t') : g ≠ g' := by
  rintro rfl
  unfold Blk at h h'
  rw [h] at h'
  injection h' with h'
  injection h' with _ ht
  exact hne ht

/-- bytes as cells -/
def By (xs : List Int) : Array Value := (xs.map (Value.int .u8)).toArray
theorem By_size (xs : List Int) : (By xs).size = xs.length := by simp [By]
theorem By_toList (xs : List Int) : (By xs).toList = xs.map (Value.int .u8) := by simp [By]
theorem By_at (xs : List Int) (j : Nat) (h : j < xs.length) : (By xs)[j]? = some (.int .u8 xs[j]) := by simp [By, List.getElem?_map, List.getElem?_eq_getElem h]
theorem By_one (xs : List Int) : ∀ v ∈ xs.map (Value.int .u8), v.oneCell' = true := ints_oneCell _ _
theorem Reads.of_blk {w : World} {g : Nat} {t : TypeId} {xs : List Int} (h : Blk w g t (By xs)) {n off : Nat} (hn : off + n ≤ xs.length) :
    Reads w (g + 1) 1 (some ⟨g, off, none⟩) n (((xs.drop off).take n).map (Value.int .u8)) := by
  refine ⟨by simp; omega, fun _ => ⟨_, rfl, by simp, fun j u hu => ?_⟩⟩
  have e : (⟨g, off, none⟩ : Addr).add j = ⟨g, off + j, none⟩ := by unfold Addr.add; split <;> simp_all
  rw [e, h.cell]
  rw [List.getElem?_map, List.getElem?_take] at hu
  split at hu
  · rw [List.getElem?_drop] at hu
    simp [By, hu]
  · simp at hu

theorem Blk.reads_from {w : World} {g : Nat} {t : TypeId} {xs : List Int} (h : Blk w g t (By xs)) {n off : Nat} (hn : off + n ≤ xs.length) :
    Reads w (g + 1) 1 (some ⟨g, off, none⟩) ((xs.drop off).take n).length (((xs.drop off).take n).map (Value.int .u8)) := by
  have := Reads.of_blk h hn
  rwa [show ((xs.drop off).take n).length = n from by simp; omega]

theorem splice2_ {α : Type} (Z X Y : List α) (h : Z.length = X.length + Y.length) : splice (splice Z 0 X) X.length Y = X ++ Y := by
  unfold splice
  simp only [List.take_zero, List.nil_append, Nat.zero_add, List.take_left', List.drop_append]
  have e1 : List.drop (X.length + Y.length) X = [] := List.drop_eq_nil_of_le (by omega)
  have e2 : List.drop (X.length + Y.length - X.length) (List.drop X.length Z) = [] := List.drop_eq_nil_of_le (by rw [List.length_drop]; omega)
  rw [e1, e2]
  simp
theorem drew_setRow (w : World) (c d : Array Value) (t : TypeId) (n : Nat) : ((w.alloc (.cells c t)).drewN n).setRow w.heap.size d = (w.alloc (.cells d t)).drewN n := by
  rw [← setRow_alloc w c d t]; rfl

theorem conv_reads {w : World} {SB n c : Nat} {A : Option Addr} {xs : List Int} (h : Reads w SB 1 A n (xs.map (Value.int .u8))) (hA : ∀ ad, A = some ad → ad.spot = none) :
    (convert 44 9 (.slice A n c)).run Tryd.prog w = .ok (.string (strOfNums xs)) w := by
  have hl : xs.length = n := by have := h.1; simpa using this
  rcases Nat.eq_zero_or_pos n with h0 | h0
  · subst h0
    obtain rfl : xs = [] := List.eq_nil_of_length_eq_zero hl
    cases A with
    | none => exact run_convert_bytes_nil w 44 5 Tryd.underlying44 Tryd.underlying5 0 c _ Tryd.underlying9
    | some ad =>
      obtain ⟨b, off, sp⟩ := ad
      obtain rfl : sp = none := hA _ rfl
      exact run_convert_bytes_arg w 44 5 Tryd.underlying44 Tryd.underlying5 b off 0 c [] rfl (fun i hi => absurd hi (by omega)) _ Tryd.underlying9
  · obtain ⟨ad, rfl, _, hc⟩ := h.2 h0
    obtain ⟨b, off, sp⟩ := ad
    obtain rfl : sp = none := hA _ rfl
    refine run_convert_bytes_arg w 44 5 Tryd.underlying44 Tryd.underlying5 b off n c xs hl (fun i hi => ?_) _ Tryd.underlying9
    have e : (⟨b, off, none⟩ : Addr).add i = ⟨b, off + i, none⟩ := by unfold Addr.add; split <;> simp_all
    rw [← e, hc i (.int .u8 (xs.getD i 0))]
    rw [List.getElem?_map, List.getElem?_eq_getElem (by omega)]
    simp [List.getD_eq_getElem?_getD, List.getElem?_eq_getElem (show i < xs.length by omega)]
theorem conv_blk {w : World} {g n c : Nat} {t : TypeId} {xs : List Int} (h : Blk w g t (By xs)) (hn : n ≤ xs.length) :
    (convert 44 9 (.slice (some ⟨g, 0, none⟩) n c)).run Tryd.prog w = .ok (.string (strOfNums (xs.take n))) w := by
  have := Reads.of_blk (off := 0) h (n := n) (by omega)
  rw [List.drop_zero] at this
  exact conv_reads this (fun ad e => by cases e; rfl)
theorem Reads.mark (w : World) (t : TypeId) (xs : List Int) (fr : Nat × Nat) : Reads (w.alloc (.cells (By xs) t fr)) (w.heap.size + 1) 1 (some ⟨w.heap.size, 0, none⟩) xs.length (xs.map (Value.int .u8)) := by
  refine ⟨by simp, fun _ => ⟨_, rfl, by simp, fun j u hu => ?_⟩⟩
  rw [Addr.add_lit, World.cell?_alloc_mark]
  rw [List.getElem?_map] at hu
  simpa [By] using hu

/-! ### the ring -/
theorem mod_ne {cap at_ i j : Nat} (hij : i < j) (hj : j < i + cap) : (at_ + i) % cap ≠ (at_ + j) % cap := by
  intro h
  have h1 := Nat.div_add_mod (at_ + i) cap
  have h2 := Nat.div_add_mod (at_ + j) cap
  have h3 : j - i = cap * ((at_ + j) / cap) - cap * ((at_ + i) / cap) := by omega
  rw [← Nat.mul_sub] at h3
  rcases Nat.eq_zero_or_pos ((at_ + j) / cap - (at_ + i) / cap) with h0 | h0
  · rw [h0] at h3; omega
  · have := Nat.mul_le_mul_left cap h0
    omega

/-- the ring holds B from at_ on -/
def Holds_ (ring : List Int) (at_ : Nat) (B : List Int) : Prop := ∀ j (h : j < B.length), ring[(at_ + j) % ring.length]? = some B[j]

theorem splice_at {α : Type} (L : List α) (p : Nat) (cs : List α) (h : p + cs.length ≤ L.length) (q : Nat) :
    (splice L p cs)[q]? = if p ≤ q ∧ q < p + cs.length then cs[q - p]? else L[q]? := by
  unfold splice
  rw [List.getElem?_append]
  simp only [List.length_take, Nat.min_eq_left (show p ≤ L.length by omega)]
  by_cases h1 : q < p
  · rw [if_pos h1, if_neg (by omega), List.getElem?_take, if_pos h1]
  · rw [if_neg h1, List.getElem?_append]
    by_cases h2 : q - p < cs.length
    · rw [if_pos h2, if_pos (by omega)]
    · rw [if_neg h2, if_neg (by omega), List.getElem?_drop]
      congr 1
      omega

theorem Holds_.put {ring B cs : List Int} {at_ p : Nat} (h : Holds_ ring at_ B) (hp : p = (at_ + B.length) % ring.length) (hfit : p + cs.length ≤ ring.length) (hroom : B.length + cs.length ≤ ring.length) :
    Holds_ (splice ring p cs) at_ (B ++ cs) := by
  have hl : (splice ring p cs).length = ring.length := length_splice _ _ _ hfit
  intro j hj
  rw [hl]
  rw [List.length_append] at hj
  rw [splice_at _ _ _ hfit]
  rcases Nat.eq_zero_or_pos cs.length with h0 | h0
  · obtain rfl : cs = [] := List.eq_nil_of_length_eq_zero h0
    rw [if_neg (by simp)]
    simpa using h j (by simpa using hj)
  have hpos : 0 < ring.length := by omega
  by_cases hjB : j < B.length
  · have hne : ∀ t, t < cs.length → (at_ + j) % ring.length ≠ p + t := by
      intro t ht he
      have h2 : (at_ + (B.length + t)) % ring.length = p + t := by
        rw [show at_ + (B.length + t) = (at_ + B.length) + t from by omega, Nat.add_mod, ← hp]
        rw [Nat.mod_eq_of_lt (show t < ring.length by omega)]
        exact Nat.mod_eq_of_lt (by omega)
      exact mod_ne (cap := ring.length) (at_ := at_) (i := j) (j := B.length + t) (by omega) (by omega) (he.trans h2.symm)
    rw [if_neg (by
      rintro ⟨h1, h2⟩
      exact hne ((at_ + j) % ring.length - p) (by omega) (by omega))]
    rw [List.getElem_append_left hjB]
    exact h j hjB
  · have e : (at_ + j) % ring.length = p + (j - B.length) := by
      rw [show at_ + j = (at_ + B.length) + (j - B.length) from by omega, Nat.add_mod, ← hp, Nat.mod_eq_of_lt (show j - B.length < ring.length by omega)]
      exact Nat.mod_eq_of_lt (by omega)
    rw [e, if_pos (by omega), List.getElem_append_right (by omega), show p + (j - B.length) - p = j - B.length from by omega]
    exact List.getElem?_eq_getElem (by omega)

theorem Holds_.get {ring : List Int} {at_ b : Nat} {B : List Int} (h : Holds_ ring at_ B) (hb : b < B.length) (hroom : B.length ≤ ring.length) (z : Int) :
    Holds_ (ring.set ((at_ + b) % ring.length) z) ((at_ + b + 1) % ring.length) (B.drop (b + 1)) := by
  intro j hj
  rw [List.length_drop] at hj
  rw [List.length_set, List.getElem_drop]
  have e : ((at_ + b + 1) % ring.length + j) % ring.length = (at_ + (b + 1 + j)) % ring.length := by
    rw [Nat.mod_add_mod]
    congr 1
    omega
  rw [e, List.getElem?_set_ne]
  · exact h (b + 1 + j) (by omega)
  · exact mod_ne (by omega) (by omega)
theorem Holds_.drop_ {ring : List Int} {at_ : Nat} {b : Int} {B : List Int} (h : Holds_ ring at_ (b :: B)) (hat : at_ < ring.length) (hroom : B.length + 1 ≤ ring.length) (z : Int) :
    Holds_ (ring.set at_ z) ((at_ + 1) % ring.length) B := by
  have := Holds_.get (b := 0) h (by simp) (by simpa using hroom) z
  simpa [Nat.mod_eq_of_lt hat] using this

/-- the two copies that tell all bytes -/
theorem Holds_.all {ring B : List Int} {at_ k : Nat} (h : Holds_ ring at_ B) (hat : at_ < ring.length) (hroom : B.length ≤ ring.length) (hk : k = min B.length (ring.length - at_)) :
    (ring.drop at_).take k ++ ring.take (B.length - k) = B := by
  apply List.ext_getElem?
  intro j
  rw [List.getElem?_append]
  have hl : ((ring.drop at_).take k).length = k := by simp; omega
  rw [hl]
  by_cases hj : j < B.length
  · rw [List.getElem?_eq_getElem hj]
    by_cases hjk : j < k
    · rw [if_pos hjk, List.getElem?_take, if_pos hjk, List.getElem?_drop]
      have := h j hj
      rwa [Nat.mod_eq_of_lt (by omega)] at this
    · rw [if_neg hjk, List.getElem?_take, if_pos (by omega)]
      have := h j hj
      have e : (at_ + j) % ring.length = j - k := by
        rw [show at_ + j = (j - k) + ring.length from by omega, Nat.add_mod_right]
        exact Nat.mod_eq_of_lt (by omega)
      rwa [e] at this
  · have e1 : (ring.take (B.length - k))[j - k]? = none := List.getElem?_eq_none (by rw [List.length_take]; omega)
    have e2 : B[j]? = none := List.getElem?_eq_none (by omega)
    rw [if_neg (by omega), e1, e2]

def zeros (n : Nat) : List Int := List.replicate n 0
theorem zeros_length (n : Nat) : (zeros n).length = n := by simp [zeros]
theorem info_u8 : (Tryd.prog.info? 5).map (fun i => (i.zero, i.size, i.bytes)) = some (some (.int .u8 0), 1, 1) := by kernel_rfl
theorem made_By (n : Nat) : madeCells (Value.int .u8 0).cells (n * 1) = By (zeros n) := by
  apply Array.ext
  · simp [madeCells, By, zeros]
  · intro i h1 h2
    simp [madeCells, By, zeros, Value.cells, Nat.mod_one]
theorem run_make_bytes (n : Nat) (h : n ≤ 100000) (w : World) :
    (Instr.makeSlice 44 (.int .i64 (n : Int)) (.int .i64 (n : Int))).run Tryd.prog w = .ok (.slice (some ⟨w.heap.size, 0, none⟩) n n) (w.alloc (.cells (By (zeros n)) 5)) := by
  obtain ⟨i0, hi, hz0, hz1, hz2⟩ := info_parts info_u8
  have hr := run_make (P := Tryd.prog) w 44 5 i0 _ Tryd.underlying44 hi hz0 .i64 .i64 n n (by omega) (by omega) (by rw [hz2]; omega) (by omega)
  rw [Int.toNat_natCast, hz1, made_By] at hr
  exact hr

theorem splice_map (f : Int → Value) (L : List Int) (p : Nat) (cs : List Int) : splice (L.map f) p (cs.map f) = (splice L p cs).map f := by
  simp [splice]
theorem size_u8 : (Tryd.prog.info? 5).map (·.size) = some 1 := by kernel_rfl
theorem run_copy_By (w : World) (ty : TypeId) (dp sp : Option Addr) (dLen dCap sLen sCap : Nat) (g off SB : Nat) (cur cs : List Int) (hg : Blk w g 5 (By cur)) (hn : cs.length = min sLen dLen)
    (hdp : 0 < cs.length → dp = some ⟨g, off, none⟩) (hsrc : Reads w SB 1 sp cs.length (cs.map (Value.int .u8))) (hfit : off + cs.length ≤ cur.length) :
    (Builtin.copy_ #[44, 44] ty #[.slice dp dLen dCap, .slice sp sLen sCap]).run Tryd.prog w = .ok (.int .i64 cs.length) (w.setRow g (By (splice cur off cs))) := by
  by_cases h0 : cs.length = 0
  · obtain rfl : cs = [] := List.eq_nil_of_length_eq_zero h0
    have hrun := run_copy_none (P := Tryd.prog) w 44 44 ty 5 dp sp dLen dCap sLen sCap Tryd.underlying44 size_u8 (by simpa using hn.symm)
    have e : splice cur off [] = cur := by simp [splice]
    rw [e, setRow_self w g _ _ _ hg]
    exact hrun
  · obtain rfl := hdp (by omega)
    obtain ⟨ad, rfl, _, hc⟩ := hsrc.2 (by omega)
    have hrun := run_copy_row (P := Tryd.prog) w 44 44 ty 5 g off dLen dCap ad sLen sCap (By cur) 5 (cs.map (Value.int .u8)) Tryd.underlying44 size_u8 hg (by simpa using hn) hc (by simpa [By] using hfit) (By_one cs)
    rw [hrun, List.length_map, By_toList, By, ← splice_map, splice, List.length_map, List.append_assoc]
    rfl
section
variable {ops : Array Oper} {o : Oper} {a : Act} {w : World}
theorem wp_copy_By {K : Act → World → Prop} {Q : Exit → Act → World → Prop} (d s : Operand) (ho : o.op = .call { callee := .builtin .copy, args := #[d, s], argTypes := #[44, 44] })
    (dp sp : Option Addr) (dLen dCap sLen sCap : Nat) (hd : a.eval d = .slice dp dLen dCap) (hs : a.eval s = .slice sp sLen sCap) (g off SB : Nat) (cur cs : List Int) (hg : Blk w g 5 (By cur)) (hn : cs.length = min sLen dLen)
    (hdp : 0 < cs.length → dp = some ⟨g, off, none⟩) (hsrc : Reads w SB 1 sp cs.length (cs.map (Value.int .u8))) (hfit : off + cs.length ≤ cur.length)
    (h : K (a.put o.dst (.int .i64 cs.length)) (w.setRow g (By (splice cur off cs)))) : Oper.wp Tryd.prog o a w K Q := by
  have hrun := run_copy_By w o.type dp sp dLen dCap sLen sCap g off SB cur cs hg hn hdp hsrc hfit
  unfold Oper.wp
  simp [execOp, ho, resolve, invoke, builtin, hd, hs, hrun, Result.andThen]
  exact h
theorem step_copy_By {K : Act → World → Prop} {Q : Exit → Act → World → Prop} {E : Prop} (hgd : o.guard = none) (d s : Operand) (ho : o.op = .call { callee := .builtin .copy, args := #[d, s], argTypes := #[44, 44] })
    (dp sp : Option Addr) (dLen dCap sLen sCap : Nat) (hd : a.eval d = .slice dp dLen dCap) (hs : a.eval s = .slice sp sLen sCap) (g off SB : Nat) (cur cs : List Int) (hg : Blk w g 5 (By cur)) (hn : cs.length = min sLen dLen)
    (hdp : 0 < cs.length → dp = some ⟨g, off, none⟩) (hsrc : Reads w SB 1 sp cs.length (cs.map (Value.int .u8))) (hfit : off + cs.length ≤ cur.length)
    (h : K (a.put o.dst (.int .i64 cs.length)) (w.setRow g (By (splice cur off cs)))) : if Region.wanted o (yielded ops a.tmps) = true then Oper.wp Tryd.prog o a w K Q else E := by
  have hw : Region.wanted o (yielded ops a.tmps) = true := by simp [Region.wanted, hgd]
  rw [if_pos hw]
  exact wp_copy_By d s ho dp sp dLen dCap sLen sCap hd hs g off SB cur cs hg hn hdp hsrc hfit h
theorem wpList_copy_By {rest : List Oper} {Q : Exit → Act → World → Prop} (hgd : o.guard = none) (d s : Operand) (ho : o.op = .call { callee := .builtin .copy, args := #[d, s], argTypes := #[44, 44] })
    (dp sp : Option Addr) (dLen dCap sLen sCap : Nat) (hd : a.eval d = .slice dp dLen dCap) (hs : a.eval s = .slice sp sLen sCap) (g off SB : Nat) (cur cs : List Int) (hg : Blk w g 5 (By cur)) (hn : cs.length = min sLen dLen)
    (hdp : 0 < cs.length → dp = some ⟨g, off, none⟩) (hsrc : Reads w SB 1 sp cs.length (cs.map (Value.int .u8))) (hfit : off + cs.length ≤ cur.length)
    (h : wpList Tryd.prog ops Q rest (a.put o.dst (.int .i64 cs.length)) (w.setRow g (By (splice cur off cs)))) : wpList Tryd.prog ops Q (o :: rest) a w :=
  wpList_plain hgd fun _ hK => wp_copy_By d s ho dp sp dLen dCap sLen sCap hd hs g off SB cur cs hg hn hdp hsrc hfit (hK _ _ h)
end
end Go.Proofs.YthlnaejmglajeaaDoor
