/- The walk of the parser's list. -/
import Derived.Test.YthlnaejmglajeaaDoorAStar
namespace Go.Proofs.YthlnaejmglajeaaDoor
open Go.RowKit
set_option linter.unusedSimpArgs false
set_option linter.unusedVariables false

/-- a kid and where its kids lie -/
structure KV where
  q : QT
  A : Option Addr
  c : Nat
def KV.cells (k : KV) : List Value := [.int .i64 k.q.op, .int .i64 k.q.n, .slice k.A k.q.kids.length k.c]
def rowCells (l : List KV) : List Value := l.flatMap KV.cells
theorem rowCells_nil : rowCells [] = [] := rfl
theorem rowCells_cons (k : KV) (l : List KV) : rowCells (k :: l) = k.cells ++ rowCells l := by simp [rowCells]
theorem rowCells_append (l m : List KV) : rowCells (l ++ m) = rowCells l ++ rowCells m := by simp [rowCells]
theorem rowCells_length : ∀ l : List KV, (rowCells l).length = l.length * 3
  | [] => rfl
  | k :: l => by rw [rowCells_cons, List.length_append, rowCells_length l, List.length_cons]; simp [KV.cells]; omega
theorem rowCells_at : ∀ (l : List KV) (i d : Nat) (k : KV), l[i]? = some k → d < 3 → (rowCells l)[i * 3 + d]? = k.cells[d]?
  | [], i, d, k, h, _ => by simp at h
  | x :: l, 0, d, k, h, hd => by
    obtain rfl : x = k := by simpa using h
    rw [rowCells_cons, Nat.zero_mul, Nat.zero_add, List.getElem?_append_left (by simp [KV.cells]; omega)]
  | x :: l, i + 1, d, k, h, hd => by
    rw [rowCells_cons, List.getElem?_append_right (by simp [KV.cells]; omega)]
    have hx : x.cells.length = 3 := rfl
    rw [hx, show (i + 1) * 3 + d - 3 = i * 3 + d from by omega]
    exact rowCells_at l i d k (by simpa using h) hd
theorem rowCells_one (l : List KV) : ∀ u ∈ rowCells l, u.oneCell' = true := by
  intro u hu
  obtain ⟨k, _, hk⟩ := List.mem_flatMap.1 hu
  simp [KV.cells] at hk
  rcases hk with rfl | rfl | rfl <;> rfl
theorem info_step : (Tryd.prog.info? 24).map (fun i => (i.zero, i.size, i.bytes)) = some (some (.agg #[.int .i64 0, .int .i64 0, .slice none 0 0]), 3, 40) := by kernel_rfl
theorem reads3 {w : World} {b : Nat} {v0 v1 v2 : Value} {t : TypeId} (h : Blk w b t #[v0, v1, v2]) : Reads w (b + 1) 3 (some ⟨b, 0, none⟩) 1 [v0, v1, v2] := by
  refine ⟨rfl, fun _ => ⟨_, rfl, Nat.lt_succ_self _, fun j u hu => ?_⟩⟩
  have e : (⟨b, 0, none⟩ : Addr).add j = ⟨b, j, none⟩ := by unfold Addr.add; split <;> simp_all
  rw [e, h.cell, ← hu]
  simp
theorem own_ne {w : World} {base : Nat} {e : TypeId} {size n : Nat} {v : Value} {xs : List Value} (h : w.ownsRow base e size v n xs) {b : Nat} (hb : b < base) : v.ownBlock ≠ some b := by
  intro he
  have := (h.lt b he).1
  omega
theorem own_lt {w : World} {base : Nat} {e : TypeId} {size n : Nat} {v : Value} {xs : List Value} (h : w.ownsRow base e size v n xs) {b : Nat} (hb : w.heap.size ≤ b) : v.ownBlock ≠ some b := by
  intro he
  have := (h.lt b he).2
  omega
/-- what the rounds of a list keep; LL: what the loop comes to -/
def ListR (g : Nat) (s : ByteArray) (sign : List UInt8) (part : St → QT × St) (w : World) (b9 N0 : Nat) (LL : List QT × St) (v : Value) (wr : World) : Prop :=
  ∃ (k0 : KV) (kvs : List KV) (st : St) (f : Nat),
    wr.ownsRow (b9 + 1) stepT 3 v (kvs.length + 1) (rowCells (k0 :: kvs)) ∧ (∀ k ∈ k0 :: kvs, RP wr (fun b => w.heap.size + 1 ≤ b ∧ v.ownBlock ≠ some b) k.q k.A k.c) ∧
    PS wr g s st ∧ Only [g] w wr ∧ b9 < wr.heap.size ∧ Blk wr w.heap.size stepT #[.int .i64 0, .int .i64 0, .slice none 0 0] ∧ Blk wr b9 stepT #[.int .i64 k0.q.op, .int .i64 k0.q.n, .slice k0.A k0.q.kids.length k0.c] ∧
    LL = listLoop sign part f ((k0 :: kvs).map KV.q) st ∧ st.r.length < f ∧ kvs.length + st.r.length ≤ N0
theorem rowOf_two (op : Int) (a b : QT) (l : List QT) : rowOf op (a :: b :: l) = .mk op 0 (a :: b :: l) := rfl
/-- a row of the call's own as the kids of a question -/
theorem rp_row {w : World} {P : Nat → Prop} {base g n c : Nat} {kvs : List KV} (op : Int) (h : w.ownsRow base stepT 3 (.slice (some ⟨g, 0, none⟩) n c) n (rowCells kvs)) (hn : n = kvs.length) (hc : n ≤ c) (hm : c ≤ maxLen) (hP : P g) (hk : ∀ k ∈ kvs, RP w P k.q k.A k.c) :
    RP w P (.mk op 0 (kvs.map KV.q)) (some ⟨g, 0, none⟩) c := by
  refine .mk op 0 _ _ c (fun i => (kvs[i]?.map KV.A).getD none) (fun i => (kvs[i]?.map KV.c).getD 0) (by rw [List.length_map, ← hn]; exact hc) hm (fun _ => ⟨_, rfl, hP, fun i x hx => ?_⟩) (fun i x hx => ?_)
  · rw [List.getElem?_map] at hx
    cases hi : kvs[i]? with
    | none => rw [hi] at hx; cases hx
    | some k =>
      rw [hi] at hx
      obtain rfl : k.q = x := by simpa using hx
      have hlt : i < kvs.length := (List.getElem?_eq_some_iff.1 hi).1
      have hcell : ∀ d, d < 3 → w.cell? ⟨g, i * 3 + d, none⟩ = k.cells[d]? := fun d hd => by
        rw [h.cellAt _ (by omega), rowCells_at kvs i d k hi hd]
      have e0 : (⟨g, 0, none⟩ : Addr).add (i * 3) = ⟨g, i * 3, none⟩ := by unfold Addr.add; split <;> simp_all
      have e1 : (⟨g, i * 3, none⟩ : Addr).add 1 = ⟨g, i * 3 + 1, none⟩ := rfl
      have e2 : (⟨g, i * 3, none⟩ : Addr).add 2 = ⟨g, i * 3 + 2, none⟩ := rfl
      refine ⟨?_, ?_, ?_⟩
      · rw [e0]; exact hcell 0 (by decide)
      · rw [e0, e1]; exact hcell 1 (by decide)
      · rw [e0, e2]
        exact hcell 2 (by decide)
  · rw [List.getElem?_map] at hx
    cases hi : kvs[i]? with
    | none => rw [hi] at hx; cases hx
    | some k =>
      rw [hi] at hx
      obtain rfl : k.q = x := by simpa using hx
      exact hk k (List.mem_of_getElem? hi)

set_option maxHeartbeats 4000000 in
theorem list_then (part : St → QT × St) (sign : List UInt8) (hsg : sign ≠ []) (hsl : sign.length ≤ 10) (op : Int) (w : World) (g : Nat) (s : ByteArray) (st : St) (hp : PS w g s st) (hs : s.size ≤ 200)
    (hlenp : ∀ st1, (part st1).2.r.length ≤ st1.r.length)
    (hpart : ∀ w1 st1, PS w1 g s st1 → Only [g] w w1 → st1.r.length ≤ st.r.length → Calls Tryd.prog 30 #[.pointer (some ⟨g, 0, none⟩)] w1 (QRes g s (part st1) w1)) :
    Calls Tryd.prog 29 #[.pointer (some ⟨g, 0, none⟩), .string (bytesB sign), .int .i64 op, .func (.func 30) #[.pointer (some ⟨g, 0, none⟩)] #[]] w (QRes g s (listF sign op part st) w) := by
  have HP0 := hide (hp.belowW ((Below.refl _ _).alloc (Nat.le_refl _) (.cells #[.int .i64 0, .int .i64 0, .slice none 0 0] stepT)))
  have HO0 := hide (((Only.refl [g] w).alloc (.cells #[.int .i64 0, .int .i64 0, .slice none 0 0] stepT)))
  have HONE := hide ((hpart _ st (unhid_ HP0) (unhid_ HO0) (Nat.le_refl _)))
  have hgw := ps_lt hp
  have hN0 := hp.at_
  have hN : st.r.length ≤ 200 := by omega
  have hst1 := hlenp st
  have HPART := hide hpart
  have HLENP := hide hlenp
  obtain ⟨r1, hr1⟩ : ∃ r1, r1 = part st := ⟨_, rfl⟩
  have hlf : listF sign op part st = (rowOf op (listLoop sign part (r1.2.r.length + 1) [r1.1] r1.2).1, (listLoop sign part (r1.2.r.length + 1) [r1.1] r1.2).2) := by rw [hr1]; rfl
  obtain ⟨R, hR⟩ : ∃ R, R = listF sign op part st := ⟨_, rfl⟩
  rw [← hR] at hlf ⊢
  rw [← hr1] at HONE hst1
  obtain ⟨⟨qo, qn, qk⟩, st1⟩ := r1
  obtain ⟨LL, hLL⟩ : ∃ LL, LL = listLoop sign part (st1.r.length + 1) [QT.mk qo qn qk] st1 := ⟨_, rfl⟩
  have hlf2 : R = (rowOf op LL.1, LL.2) := by rw [hLL]; exact hlf
  have HLF := Lib.hid hlf2
  have HLL := Lib.hid hLL
  obtain ⟨SG, hSG⟩ : ∃ SG, SG = bytesB sign := ⟨_, rfl⟩
  have HTK := hide (fun (w1 : World) (st2 : St) (h : PS w1 g s st2) => takes_any sign hsg hsl w1 g s st2 h hs)
  have HTL := hide (fun (st2 : St) => @takes_len sign st2)
  have hsl1 : 1 ≤ sign.length := by cases sign with
    | nil => exact absurd rfl hsg
    | cons a l => simp
  rw [← hSG] at HTK ⊢
  obtain ⟨i0, hi0, hz0, hzs, hzb⟩ := info_parts info_step
  have hI0 := Lib.hid hi0
  have hst1' : st1.r.length ≤ st.r.length := hst1
  clear hpart hlenp hp hlf hlf2 hLL hR hr1 hSG hi0 hst1 hN0 hsg
  go_enter Tryd.func29, Tryd.ntmps29
  go_wp2_with fail
  refine (unhid_ HONE).mono ?_
  rintro e w1 ⟨A, c, rfl, hrp, hp1, ho1⟩
  have hs0 := ho1.size
  simp only [World.size_alloc] at hs0
  have hz1 := ho1.blk (zbox w) (by simp; omega)
  have hstart : ListR g s sign part w w1.heap.size st.r.length LL (.slice (some ⟨w1.heap.size + 1, 0, none⟩) 1 1) ((w1.alloc (.cells #[.int .i64 qo, .int .i64 qn, .slice A qk.length c] stepT)).alloc (.cells #[.int .i64 qo, .int .i64 qn, .slice A qk.length c] stepT)) := by
    refine ⟨⟨.mk qo qn qk, A, c⟩, [], st1, st1.r.length + 1, ?_, ?_, ?_, (((unhid_ HO0).trans ho1).alloc _).alloc _, by simp; omega, (hz1.alloc _).alloc _, (Blk.new _ _ _).alloc _, HLL.out, Nat.lt_succ_self _, by simpa using hst1'⟩
    · refine ⟨by simp [rowCells_length], .inr ⟨w1.heap.size + 1, 1, #[.int .i64 qo, .int .i64 qn, .slice A qk.length c], rfl, by omega, ?_, Nat.le_refl _, by decide, rfl, rfl⟩⟩
      have := Blk.new (w1.alloc (.cells #[.int .i64 qo, .int .i64 qn, .slice A qk.length c] stepT)) stepT #[.int .i64 qo, .int .i64 qn, .slice A qk.length c]
      rw [World.size_alloc] at this
      exact this
    · intro k hk
      obtain rfl : k = ⟨.mk qo qn qk, A, c⟩ := by simpa using hk
      refine hrp.keep fun b hb hlt => ⟨(Below.heap_alloc _ _ _ (by simp; omega)).trans (Below.heap_alloc _ _ _ hlt), ?_, ?_⟩
      · have : (w.alloc (.cells #[.int .i64 0, .int .i64 0, .slice none 0 0] stepT)).heap.size ≤ b := hb
        simpa using this
      · simp [Value.ownBlock]; omega
    · exact (hp1.belowW ((Below.refl _ _).alloc (Nat.le_refl _) _)).belowW ((Below.refl _ _).alloc (Nat.le_refl _) _)
  have HST := hide hstart
  clear hstart hz1 hrp hp1 ho1 HONE HP0 HO0 HLL
  simp only [QT.op, QT.n, QT.kids]
  go_wp2_with fail
  go_loopw [10] (fun v wr => ListR g s sign part w w1.heap.size st.r.length LL v wr) (fun _ wr => s.size - atOf g wr)
  case atStart => exact unhid_ HST
  case round =>
    obtain ⟨k0, kvs, st2, f, hown, hrp, hp2, ho2, hb9, hz2, hbx, hr, hf, hcnt⟩ := hrel
    have HT := hide ((unhid_ HTK) wr st2 hp2)
    have HAT := Lib.hid hp2.at_
    have hlen := (unhid_ HTL) st2
    obtain ⟨f, rfl⟩ : ∃ f', f = f' + 1 := ⟨f - 1, by omega⟩
    rw [listLoop] at hr
    obtain ⟨b, hb⟩ : ∃ b, takesB sign st2 = b := ⟨_, rfl⟩
    have hl0 := takesS_len sign st2
    obtain ⟨st3, hst3⟩ : ∃ x, x = takesS sign st2 := ⟨_, rfl⟩
    rw [hb] at HT hr hlen
    rw [← hst3] at HT hr hlen hl0
    obtain ⟨A2, c2, rfl⟩ := own_slice hown
    have HOWN := hide hown
    have HRP := hide hrp
    have HO2 := hide ho2
    have HZ2 := hide hz2
    have HBX := hide hbx
    have hne9 : w1.heap.size ∉ [g] := by simp; omega
    have hne0 : w.heap.size ∉ [g] := by simp; omega
    have hne0' : g ∉ [w.heap.size] := by simp; omega
    cases b with
    | true =>
      have hl3 : st3.r.length + sign.length ≤ st2.r.length := hlen rfl
      rw [if_pos rfl] at hr
      have hl4 := (unhid_ HLENP) st3
      have hl5 : st3.r.length ≤ st.r.length := by omega
      obtain ⟨r4, hr4⟩ : ∃ x, x = part st3 := ⟨_, rfl⟩
      have HPT := hide (fun (w2 : World) (h : PS w2 g s st3) (h2 : Only [g] w w2) => (unhid_ HPART) w2 st3 h h2 hl5)
      rw [← hr4] at hr HPT hl4
      have HR := Lib.hid hr
      obtain ⟨⟨po, pn, pk⟩, st4⟩ := r4
      have hl4' : st4.r.length ≤ st3.r.length := hl4
      clear hr hlen hb hst3 hbx hrp ho2 hz2 hp2 hown hr4 hl4
      go_wp2_with fail
      refine (unhid_ HT).mono ?_
      rintro e w2 ⟨rfl, hp3, ho3⟩
      have hsz3 := ho3.size
      have HO3 := hide ho3
      have HPT2 := hide ((unhid_ HPT) w2 hp3 ((unhid_ HO2).trans ho3))
      clear hp3 ho3 HT HPT
      go_wp2_with fail
      refine (unhid_ HPT2).mono ?_
      rintro e w3 ⟨A3, c3, rfl, hrp3, hp4, ho4⟩
      have hsz4 := ho4.size
      have HO4 := hide ((unhid_ HO3).trans ho4)
      have HRP3 := hide hrp3
      have HP4 := hide hp4
      have hown3 := own_only (unhid_ HOWN) (unhid_ HO4) (by simp; omega)
      clear hrp3 hp4 ho4 HPT2
      simp only [QT.op, QT.n, QT.kids]
      go_wp2_with (at_builtin; refine wpList_append_any _ rfl _ _ _ rfl (w1.heap.size + 1) stepT i0 _ 3 40 Tryd.underlying22 hI0.out hz0 hzs hzb rfl (by omega) _ _ _ rfl (hown3.alloc _) (w3.heap.size + 1) (some ⟨w3.heap.size, 0, none⟩) 1 1 [.int .i64 po, .int .i64 pn, .slice A3 pk.length c3] rfl (reads3 (Blk.new w3 stepT _)) (by simp [Value.oneCell']) (by simp only [maxLen]; omega) (by omega) (by simp; omega) ?_; intro v1 w5 hown5 hg5 hat5)
      have hrel' : ListR g s sign part w w1.heap.size st.r.length LL v1 w5 := by
        have hoA : Only [g] wr (w3.alloc (.cells #[.int .i64 po, .int .i64 pn, .slice A3 pk.length c3] stepT)) := (unhid_ HO4).alloc _
        have hgrow : ∀ b, b < w3.heap.size → (Value.slice A2 (kvs.length + 1) c2).ownBlock ≠ some b → w5.heap[b]? = w3.heap[b]? := fun b h1 h2 => (hg5.block b (by simp; omega) (fun e => h2 e.symm)).trans (Below.heap_alloc _ _ _ h1)
        have hnew : ∀ b, b < w3.heap.size → (Value.slice A2 (kvs.length + 1) c2).ownBlock ≠ some b → v1.ownBlock ≠ some b := by
          intro b h1 h2 he
          rcases hat5 with h | h
          · exact h2 (h.symm.trans he)
          · rw [h] at he
            simp only [World.size_alloc, Option.some.injEq] at he
            omega
        have hs5 := hg5.size
        simp only [World.size_alloc] at hs5
        have hgO : Only [g] w w5 := ⟨hg5.os.trans (((unhid_ HO2).trans hoA).os), hg5.tape.trans (((unhid_ HO2).trans hoA).tape), hg5.output.trans (((unhid_ HO2).trans hoA).output), Nat.le_trans ((unhid_ HO2).trans (unhid_ HO4)).size (by omega), fun k hk hn => by
          have h2 : (Value.slice A2 (kvs.length + 1) c2).ownBlock ≠ some k := own_ne (unhid_ HOWN) (by omega)
          have h3 : k < w3.heap.size := by omega
          rw [hgrow k h3 h2]
          exact ((unhid_ HO2).trans (unhid_ HO4)).block k hk hn⟩
        have hfar : ∀ {t : TypeId} {cs : Array Value} {k : Nat}, Blk w3 k t cs → (Value.slice A2 (kvs.length + 1) c2).ownBlock ≠ some k → Blk w5 k t cs := fun h hn => (hgrow _ h.lt hn).trans h
        refine ⟨k0, kvs ++ [⟨.mk po pn pk, A3, c3⟩], st4, f, ?_, ?_, ?_, hgO, by omega, ?_, ?_, ?_, by omega, by simp; omega⟩
        · have e : rowCells (k0 :: (kvs ++ [⟨.mk po pn pk, A3, c3⟩])) = rowCells (k0 :: kvs) ++ [.int .i64 po, .int .i64 pn, .slice A3 pk.length c3] := by
            rw [← List.cons_append, rowCells_append]
            rfl
          rw [e, List.length_append]
          exact hown5
        · intro k hk
          rw [← List.cons_append] at hk
          rcases List.mem_append.1 hk with hk | hk
          · refine ((unhid_ HRP) k hk).keep fun b hb hlt => ⟨?_, hb.1, hnew b (by omega) hb.2⟩
            rw [hgrow b (by omega) hb.2]
            exact (unhid_ HO4).block b hlt (by simp; have := hb.1; omega)
          · obtain rfl := List.mem_singleton.1 hk
            refine (unhid_ HRP3).keep fun b hb hlt => ?_
            have hb2 : w2.heap.size ≤ b := hb
            have hnb : (Value.slice A2 (kvs.length + 1) c2).ownBlock ≠ some b := own_lt (unhid_ HOWN) (by omega)
            exact ⟨hgrow b hlt hnb, by omega, hnew b hlt hnb⟩
        · obtain ⟨kk, h1, h2, h3⟩ := unhid_ HP4
          exact ⟨kk, h1, h2, hfar h3 (own_ne (unhid_ HOWN) (by omega))⟩
        · exact hfar ((unhid_ HO4).blk (unhid_ HZ2) hne0) (own_ne (unhid_ HOWN) (by omega))
        · exact hfar ((unhid_ HO4).blk (unhid_ HBX) hne9) (own_ne (unhid_ HOWN) (by omega))
        · rw [HR.out, ← List.cons_append, List.map_append]
          rfl
      have hps5 : PS w5 g s st4 := by
        obtain ⟨kk, h1, h2, h3⟩ := unhid_ HP4
        refine ⟨kk, h1, h2, ?_⟩
        exact (hg5.block g (by simp; have := h3.lt; omega) (fun e => own_ne (unhid_ HOWN) (by omega) e.symm)).trans (h3.alloc _)
      have hatn := hps5.at_
      go_roundw
      case rel => exact hrel'
      case measure =>
        have hm : s.size - atOf g w5 < s.size - atOf g wr := by
          have := HAT.out
          omega
        exact hm
    | false =>
      rw [if_neg (by decide)] at hr
      have HR := Lib.hid hr
      clear hr hlen hb hst3 hbx hrp ho2 hz2 hp2 hown
      go_wp2_with fail
      refine (unhid_ HT).mono ?_
      rintro e w2 ⟨rfl, hp3, ho3⟩
      have hsz3 := ho3.size
      have hz3 := ho3.blk (unhid_ HZ2) hne0
      have hbx3 := ho3.blk (unhid_ HBX) hne9
      obtain ⟨c0, c1, c2'⟩ := box_facts hbx3
      have f0 := hz3.frozen 0
      have f1 := hz3.frozen 1
      have f2 := hz3.frozen 2
      obtain ⟨z0, z1, z2⟩ := box_facts hz3
      have HZ3 := hide hz3
      have HP3 := hide hp3
      have HO3 := hide ho3
      have HOWN3 := hide (own_only (unhid_ HOWN) ho3 (by simp; omega))
      clear hbx3 hz3 hp3 ho3 HT HBX HZ2
      cases kvs with
      | nil =>
        have hl1 : (((([] : List KV).length + 1 : Nat) : Int) == 1) = true := by decide
        obtain ⟨⟨ko, kn, kk⟩, A0, c00⟩ := k0
        simp only [QT.op, QT.n, QT.kids] at c0 c1 c2' z0 z1 z2
        go_wp2_with fail
        have hon := only3 w2 w.heap.size (.int .i64 ko) (.int .i64 kn) (.slice A0 kk.length c00)
        refine bodyPost_ret (v := .agg #[.int .i64 ko, .int .i64 kn, .slice A0 kk.length c00]) (results_cell Tryd.results29 rfl (load3 (set3 (unhid_ HZ3)))) rfl ?_
        rw [HLF.out, HR.out]
        refine ⟨A0, c00, rfl, ((unhid_ HRP) ⟨.mk ko kn kk, A0, c00⟩ (by simp)).keep fun b hb hlt => ⟨?_, ?_⟩, (unhid_ HP3).only hon hne0', only_far ((unhid_ HO2).trans (unhid_ HO3)) hon (Nat.le_refl _)⟩
        · rw [hon.block b (by omega) (by simp; have := hb.1; omega)]
          exact (unhid_ HO3).block b hlt (by simp; have := hb.1; omega)
        · show w.heap.size ≤ b
          have := hb.1
          omega
      | cons k1 kvs =>
        have hl1 : ((((k1 :: kvs).length + 1 : Nat) : Int) == 1) = false := by rw [beq_eq_false_iff_ne]; simp; omega
        have hl1' : (((k1 :: kvs).length : Int) + 1 == 1) = false := by rw [beq_eq_false_iff_ne]; simp; omega
        obtain ⟨gl, cap, cur, hv, hgb, hgh, hncap, hcm, _, _⟩ : ∃ gl cap cur, Value.slice A2 ((k1 :: kvs).length + 1) c2 = .slice (some ⟨gl, 0, none⟩) ((k1 :: kvs).length + 1) cap ∧ w1.heap.size + 1 ≤ gl ∧ w2.heap[gl]? = some (.cells cur stepT (0, 0)) ∧ (k1 :: kvs).length + 1 ≤ cap ∧ cap ≤ maxLen ∧ cur.size = cap * 3 ∧ cur.toList.take (((k1 :: kvs).length + 1) * 3) = rowCells (k0 :: k1 :: kvs) := by
          rcases (unhid_ HOWN3).2 with ⟨_, h⟩ | h
          · omega
          · exact h
        injection hv with hv1 hv2 hv3
        subst hv1 hv3
        have hglt : gl < w2.heap.size := (Array.getElem?_eq_some_iff.1 hgh).1
        clear hgh
        obtain ⟨NK, hNK⟩ : ∃ NK, NK = (k1 :: kvs).length + 1 := ⟨_, rfl⟩
        have hNKI : ((NK : Int) == 1) = false := by rw [beq_eq_false_iff_ne, hNK]; simp; omega
        rw [← hNK]
        have HNK := Lib.hid hNK
        clear hNK hl1 hl1'
        go_wp2_with fail
        have hon := only3 w2 w.heap.size (.int .i64 op) (.int .i64 0) (.slice (some ⟨gl, 0, none⟩) NK c2)
        refine bodyPost_ret (v := .agg #[.int .i64 op, .int .i64 0, .slice (some ⟨gl, 0, none⟩) NK c2]) (results_cell Tryd.results29 rfl (load3 (set3 (unhid_ HZ3)))) rfl ?_
        have hRR : R = (.mk op 0 ((k0 :: k1 :: kvs).map KV.q), st3) := by rw [HLF.out, HR.out]; rfl
        rw [hRR]
        refine ⟨some ⟨gl, 0, none⟩, c2, ?_, ?_, (unhid_ HP3).only hon hne0', only_far ((unhid_ HO2).trans (unhid_ HO3)) hon (Nat.le_refl _)⟩
        · rw [HNK.out]
          simp [QT.op, QT.n, QT.kids]
        · have hrow := rp_row (P := fun b => w.heap.size + 1 ≤ b) op (unhid_ HOWN3) rfl hncap hcm (show w.heap.size + 1 ≤ gl by omega) (fun k hk => ((unhid_ HRP) k hk).keep fun b hb hlt => ⟨(unhid_ HO3).block b hlt (by simp; have := hb.1; omega), hb.1⟩)
          refine hrow.keep fun b hb hlt => ⟨hon.block b (by omega) (by simp; omega), ?_⟩
          show w.heap.size ≤ b
          omega

set_option maxHeartbeats 4000000 in
theorem list_star (part : St → QT × St) (sign : List UInt8) (hsg : sign ≠ []) (hsl : sign.length ≤ 10) (op : Int) (w : World) (g : Nat) (s : ByteArray) (st : St) (hp : PS w g s st) (hs : s.size ≤ 200)
    (hlenp : ∀ st1, (part st1).2.r.length ≤ st1.r.length)
    (hpart : ∀ w1 st1, PS w1 g s st1 → Only [g] w w1 → st1.r.length ≤ st.r.length → Calls Tryd.prog 40 #[.pointer (some ⟨g, 0, none⟩)] w1 (QRes g s (part st1) w1)) :
    Calls Tryd.prog 29 #[.pointer (some ⟨g, 0, none⟩), .string (bytesB sign), .int .i64 op, .func (.func 40) #[.pointer (some ⟨g, 0, none⟩)] #[]] w (QRes g s (listF sign op part st) w) := by
  have HP0 := hide (hp.belowW ((Below.refl _ _).alloc (Nat.le_refl _) (.cells #[.int .i64 0, .int .i64 0, .slice none 0 0] stepT)))
  have HO0 := hide (((Only.refl [g] w).alloc (.cells #[.int .i64 0, .int .i64 0, .slice none 0 0] stepT)))
  have HONE := hide ((hpart _ st (unhid_ HP0) (unhid_ HO0) (Nat.le_refl _)))
  have hgw := ps_lt hp
  have hN0 := hp.at_
  have hN : st.r.length ≤ 200 := by omega
  have hst1 := hlenp st
  have HPART := hide hpart
  have HLENP := hide hlenp
  obtain ⟨r1, hr1⟩ : ∃ r1, r1 = part st := ⟨_, rfl⟩
  have hlf : listF sign op part st = (rowOf op (listLoop sign part (r1.2.r.length + 1) [r1.1] r1.2).1, (listLoop sign part (r1.2.r.length + 1) [r1.1] r1.2).2) := by rw [hr1]; rfl
  obtain ⟨R, hR⟩ : ∃ R, R = listF sign op part st := ⟨_, rfl⟩
  rw [← hR] at hlf ⊢
  rw [← hr1] at HONE hst1
  obtain ⟨⟨qo, qn, qk⟩, st1⟩ := r1
  obtain ⟨LL, hLL⟩ : ∃ LL, LL = listLoop sign part (st1.r.length + 1) [QT.mk qo qn qk] st1 := ⟨_, rfl⟩
  have hlf2 : R = (rowOf op LL.1, LL.2) := by rw [hLL]; exact hlf
  have HLF := Lib.hid hlf2
  have HLL := Lib.hid hLL
  obtain ⟨SG, hSG⟩ : ∃ SG, SG = bytesB sign := ⟨_, rfl⟩
  have HTK := hide (fun (w1 : World) (st2 : St) (h : PS w1 g s st2) => takes_any sign hsg hsl w1 g s st2 h hs)
  have HTL := hide (fun (st2 : St) => @takes_len sign st2)
  have hsl1 : 1 ≤ sign.length := by cases sign with
    | nil => exact absurd rfl hsg
    | cons a l => simp
  rw [← hSG] at HTK ⊢
  obtain ⟨i0, hi0, hz0, hzs, hzb⟩ := info_parts info_step
  have hI0 := Lib.hid hi0
  have hst1' : st1.r.length ≤ st.r.length := hst1
  clear hpart hlenp hp hlf hlf2 hLL hR hr1 hSG hi0 hst1 hN0 hsg
  go_enter Tryd.func29, Tryd.ntmps29
  go_wp2_with fail
  refine (unhid_ HONE).mono ?_
  rintro e w1 ⟨A, c, rfl, hrp, hp1, ho1⟩
  have hs0 := ho1.size
  simp only [World.size_alloc] at hs0
  have hz1 := ho1.blk (zbox w) (by simp; omega)
  have hstart : ListR g s sign part w w1.heap.size st.r.length LL (.slice (some ⟨w1.heap.size + 1, 0, none⟩) 1 1) ((w1.alloc (.cells #[.int .i64 qo, .int .i64 qn, .slice A qk.length c] stepT)).alloc (.cells #[.int .i64 qo, .int .i64 qn, .slice A qk.length c] stepT)) := by
    refine ⟨⟨.mk qo qn qk, A, c⟩, [], st1, st1.r.length + 1, ?_, ?_, ?_, (((unhid_ HO0).trans ho1).alloc _).alloc _, by simp; omega, (hz1.alloc _).alloc _, (Blk.new _ _ _).alloc _, HLL.out, Nat.lt_succ_self _, by simpa using hst1'⟩
    · refine ⟨by simp [rowCells_length], .inr ⟨w1.heap.size + 1, 1, #[.int .i64 qo, .int .i64 qn, .slice A qk.length c], rfl, by omega, ?_, Nat.le_refl _, by decide, rfl, rfl⟩⟩
      have := Blk.new (w1.alloc (.cells #[.int .i64 qo, .int .i64 qn, .slice A qk.length c] stepT)) stepT #[.int .i64 qo, .int .i64 qn, .slice A qk.length c]
      rw [World.size_alloc] at this
      exact this
    · intro k hk
      obtain rfl : k = ⟨.mk qo qn qk, A, c⟩ := by simpa using hk
      refine hrp.keep fun b hb hlt => ⟨(Below.heap_alloc _ _ _ (by simp; omega)).trans (Below.heap_alloc _ _ _ hlt), ?_, ?_⟩
      · have : (w.alloc (.cells #[.int .i64 0, .int .i64 0, .slice none 0 0] stepT)).heap.size ≤ b := hb
        simpa using this
      · simp [Value.ownBlock]; omega
    · exact (hp1.belowW ((Below.refl _ _).alloc (Nat.le_refl _) _)).belowW ((Below.refl _ _).alloc (Nat.le_refl _) _)
  have HST := hide hstart
  clear hstart hz1 hrp hp1 ho1 HONE HP0 HO0 HLL
  simp only [QT.op, QT.n, QT.kids]
  go_wp2_with fail
  go_loopw [10] (fun v wr => ListR g s sign part w w1.heap.size st.r.length LL v wr) (fun _ wr => s.size - atOf g wr)
  case atStart => exact unhid_ HST
  case round =>
    obtain ⟨k0, kvs, st2, f, hown, hrp, hp2, ho2, hb9, hz2, hbx, hr, hf, hcnt⟩ := hrel
    have HT := hide ((unhid_ HTK) wr st2 hp2)
    have HAT := Lib.hid hp2.at_
    have hlen := (unhid_ HTL) st2
    obtain ⟨f, rfl⟩ : ∃ f', f = f' + 1 := ⟨f - 1, by omega⟩
    rw [listLoop] at hr
    obtain ⟨b, hb⟩ : ∃ b, takesB sign st2 = b := ⟨_, rfl⟩
    have hl0 := takesS_len sign st2
    obtain ⟨st3, hst3⟩ : ∃ x, x = takesS sign st2 := ⟨_, rfl⟩
    rw [hb] at HT hr hlen
    rw [← hst3] at HT hr hlen hl0
    obtain ⟨A2, c2, rfl⟩ := own_slice hown
    have HOWN := hide hown
    have HRP := hide hrp
    have HO2 := hide ho2
    have HZ2 := hide hz2
    have HBX := hide hbx
    have hne9 : w1.heap.size ∉ [g] := by simp; omega
    have hne0 : w.heap.size ∉ [g] := by simp; omega
    have hne0' : g ∉ [w.heap.size] := by simp; omega
    cases b with
    | true =>
      have hl3 : st3.r.length + sign.length ≤ st2.r.length := hlen rfl
      rw [if_pos rfl] at hr
      have hl4 := (unhid_ HLENP) st3
      have hl5 : st3.r.length ≤ st.r.length := by omega
      obtain ⟨r4, hr4⟩ : ∃ x, x = part st3 := ⟨_, rfl⟩
      have HPT := hide (fun (w2 : World) (h : PS w2 g s st3) (h2 : Only [g] w w2) => (unhid_ HPART) w2 st3 h h2 hl5)
      rw [← hr4] at hr HPT hl4
      have HR := Lib.hid hr
      obtain ⟨⟨po, pn, pk⟩, st4⟩ := r4
      have hl4' : st4.r.length ≤ st3.r.length := hl4
      clear hr hlen hb hst3 hbx hrp ho2 hz2 hp2 hown hr4 hl4
      go_wp2_with fail
      refine (unhid_ HT).mono ?_
      rintro e w2 ⟨rfl, hp3, ho3⟩
      have hsz3 := ho3.size
      have HO3 := hide ho3
      have HPT2 := hide ((unhid_ HPT) w2 hp3 ((unhid_ HO2).trans ho3))
      clear hp3 ho3 HT HPT
      go_wp2_with fail
      refine (unhid_ HPT2).mono ?_
      rintro e w3 ⟨A3, c3, rfl, hrp3, hp4, ho4⟩
      have hsz4 := ho4.size
      have HO4 := hide ((unhid_ HO3).trans ho4)
      have HRP3 := hide hrp3
      have HP4 := hide hp4
      have hown3 := own_only (unhid_ HOWN) (unhid_ HO4) (by simp; omega)
      clear hrp3 hp4 ho4 HPT2
      simp only [QT.op, QT.n, QT.kids]
      go_wp2_with (at_builtin; refine wpList_append_any _ rfl _ _ _ rfl (w1.heap.size + 1) stepT i0 _ 3 40 Tryd.underlying22 hI0.out hz0 hzs hzb rfl (by omega) _ _ _ rfl (hown3.alloc _) (w3.heap.size + 1) (some ⟨w3.heap.size, 0, none⟩) 1 1 [.int .i64 po, .int .i64 pn, .slice A3 pk.length c3] rfl (reads3 (Blk.new w3 stepT _)) (by simp [Value.oneCell']) (by simp only [maxLen]; omega) (by omega) (by simp; omega) ?_; intro v1 w5 hown5 hg5 hat5)
      have hrel' : ListR g s sign part w w1.heap.size st.r.length LL v1 w5 := by
        have hoA : Only [g] wr (w3.alloc (.cells #[.int .i64 po, .int .i64 pn, .slice A3 pk.length c3] stepT)) := (unhid_ HO4).alloc _
        have hgrow : ∀ b, b < w3.heap.size → (Value.slice A2 (kvs.length + 1) c2).ownBlock ≠ some b → w5.heap[b]? = w3.heap[b]? := fun b h1 h2 => (hg5.block b (by simp; omega) (fun e => h2 e.symm)).trans (Below.heap_alloc _ _ _ h1)
        have hnew : ∀ b, b < w3.heap.size → (Value.slice A2 (kvs.length + 1) c2).ownBlock ≠ some b → v1.ownBlock ≠ some b := by
          intro b h1 h2 he
          rcases hat5 with h | h
          · exact h2 (h.symm.trans he)
          · rw [h] at he
            simp only [World.size_alloc, Option.some.injEq] at he
            omega
        have hs5 := hg5.size
        simp only [World.size_alloc] at hs5
        have hgO : Only [g] w w5 := ⟨hg5.os.trans (((unhid_ HO2).trans hoA).os), hg5.tape.trans (((unhid_ HO2).trans hoA).tape), hg5.output.trans (((unhid_ HO2).trans hoA).output), Nat.le_trans ((unhid_ HO2).trans (unhid_ HO4)).size (by omega), fun k hk hn => by
          have h2 : (Value.slice A2 (kvs.length + 1) c2).ownBlock ≠ some k := own_ne (unhid_ HOWN) (by omega)
          have h3 : k < w3.heap.size := by omega
          rw [hgrow k h3 h2]
          exact ((unhid_ HO2).trans (unhid_ HO4)).block k hk hn⟩
        have hfar : ∀ {t : TypeId} {cs : Array Value} {k : Nat}, Blk w3 k t cs → (Value.slice A2 (kvs.length + 1) c2).ownBlock ≠ some k → Blk w5 k t cs := fun h hn => (hgrow _ h.lt hn).trans h
        refine ⟨k0, kvs ++ [⟨.mk po pn pk, A3, c3⟩], st4, f, ?_, ?_, ?_, hgO, by omega, ?_, ?_, ?_, by omega, by simp; omega⟩
        · have e : rowCells (k0 :: (kvs ++ [⟨.mk po pn pk, A3, c3⟩])) = rowCells (k0 :: kvs) ++ [.int .i64 po, .int .i64 pn, .slice A3 pk.length c3] := by
            rw [← List.cons_append, rowCells_append]
            rfl
          rw [e, List.length_append]
          exact hown5
        · intro k hk
          rw [← List.cons_append] at hk
          rcases List.mem_append.1 hk with hk | hk
          · refine ((unhid_ HRP) k hk).keep fun b hb hlt => ⟨?_, hb.1, hnew b (by omega) hb.2⟩
            rw [hgrow b (by omega) hb.2]
            exact (unhid_ HO4).block b hlt (by simp; have := hb.1; omega)
          · obtain rfl := List.mem_singleton.1 hk
            refine (unhid_ HRP3).keep fun b hb hlt => ?_
            have hb2 : w2.heap.size ≤ b := hb
            have hnb : (Value.slice A2 (kvs.length + 1) c2).ownBlock ≠ some b := own_lt (unhid_ HOWN) (by omega)
            exact ⟨hgrow b hlt hnb, by omega, hnew b hlt hnb⟩
        · obtain ⟨kk, h1, h2, h3⟩ := unhid_ HP4
          exact ⟨kk, h1, h2, hfar h3 (own_ne (unhid_ HOWN) (by omega))⟩
        · exact hfar ((unhid_ HO4).blk (unhid_ HZ2) hne0) (own_ne (unhid_ HOWN) (by omega))
        · exact hfar ((unhid_ HO4).blk (unhid_ HBX) hne9) (own_ne (unhid_ HOWN) (by omega))
        · rw [HR.out, ← List.cons_append, List.map_append]
          rfl
      have hps5 : PS w5 g s st4 := by
        obtain ⟨kk, h1, h2, h3⟩ := unhid_ HP4
        refine ⟨kk, h1, h2, ?_⟩
        exact (hg5.block g (by simp; have := h3.lt; omega) (fun e => own_ne (unhid_ HOWN) (by omega) e.symm)).trans (h3.alloc _)
      have hatn := hps5.at_
      go_roundw
      case rel => exact hrel'
      case measure =>
        have hm : s.size - atOf g w5 < s.size - atOf g wr := by
          have := HAT.out
          omega
        exact hm
    | false =>
      rw [if_neg (by decide)] at hr
      have HR := Lib.hid hr
      clear hr hlen hb hst3 hbx hrp ho2 hz2 hp2 hown
      go_wp2_with fail
      refine (unhid_ HT).mono ?_
      rintro e w2 ⟨rfl, hp3, ho3⟩
      have hsz3 := ho3.size
      have hz3 := ho3.blk (unhid_ HZ2) hne0
      have hbx3 := ho3.blk (unhid_ HBX) hne9
      obtain ⟨c0, c1, c2'⟩ := box_facts hbx3
      have f0 := hz3.frozen 0
      have f1 := hz3.frozen 1
      have f2 := hz3.frozen 2
      obtain ⟨z0, z1, z2⟩ := box_facts hz3
      have HZ3 := hide hz3
      have HP3 := hide hp3
      have HO3 := hide ho3
      have HOWN3 := hide (own_only (unhid_ HOWN) ho3 (by simp; omega))
      clear hbx3 hz3 hp3 ho3 HT HBX HZ2
      cases kvs with
      | nil =>
        have hl1 : (((([] : List KV).length + 1 : Nat) : Int) == 1) = true := by decide
        obtain ⟨⟨ko, kn, kk⟩, A0, c00⟩ := k0
        simp only [QT.op, QT.n, QT.kids] at c0 c1 c2' z0 z1 z2
        go_wp2_with fail
        have hon := only3 w2 w.heap.size (.int .i64 ko) (.int .i64 kn) (.slice A0 kk.length c00)
        refine bodyPost_ret (v := .agg #[.int .i64 ko, .int .i64 kn, .slice A0 kk.length c00]) (results_cell Tryd.results29 rfl (load3 (set3 (unhid_ HZ3)))) rfl ?_
        rw [HLF.out, HR.out]
        refine ⟨A0, c00, rfl, ((unhid_ HRP) ⟨.mk ko kn kk, A0, c00⟩ (by simp)).keep fun b hb hlt => ⟨?_, ?_⟩, (unhid_ HP3).only hon hne0', only_far ((unhid_ HO2).trans (unhid_ HO3)) hon (Nat.le_refl _)⟩
        · rw [hon.block b (by omega) (by simp; have := hb.1; omega)]
          exact (unhid_ HO3).block b hlt (by simp; have := hb.1; omega)
        · show w.heap.size ≤ b
          have := hb.1
          omega
      | cons k1 kvs =>
        have hl1 : ((((k1 :: kvs).length + 1 : Nat) : Int) == 1) = false := by rw [beq_eq_false_iff_ne]; simp; omega
        have hl1' : (((k1 :: kvs).length : Int) + 1 == 1) = false := by rw [beq_eq_false_iff_ne]; simp; omega
        obtain ⟨gl, cap, cur, hv, hgb, hgh, hncap, hcm, _, _⟩ : ∃ gl cap cur, Value.slice A2 ((k1 :: kvs).length + 1) c2 = .slice (some ⟨gl, 0, none⟩) ((k1 :: kvs).length + 1) cap ∧ w1.heap.size + 1 ≤ gl ∧ w2.heap[gl]? = some (.cells cur stepT (0, 0)) ∧ (k1 :: kvs).length + 1 ≤ cap ∧ cap ≤ maxLen ∧ cur.size = cap * 3 ∧ cur.toList.take (((k1 :: kvs).length + 1) * 3) = rowCells (k0 :: k1 :: kvs) := by
          rcases (unhid_ HOWN3).2 with ⟨_, h⟩ | h
          · omega
          · exact h
        injection hv with hv1 hv2 hv3
        subst hv1 hv3
        have hglt : gl < w2.heap.size := (Array.getElem?_eq_some_iff.1 hgh).1
        clear hgh
        obtain ⟨NK, hNK⟩ : ∃ NK, NK = (k1 :: kvs).length + 1 := ⟨_, rfl⟩
        have hNKI : ((NK : Int) == 1) = false := by rw [beq_eq_false_iff_ne, hNK]; simp; omega
        rw [← hNK]
        have HNK := Lib.hid hNK
        clear hNK hl1 hl1'
        go_wp2_with fail
        have hon := only3 w2 w.heap.size (.int .i64 op) (.int .i64 0) (.slice (some ⟨gl, 0, none⟩) NK c2)
        refine bodyPost_ret (v := .agg #[.int .i64 op, .int .i64 0, .slice (some ⟨gl, 0, none⟩) NK c2]) (results_cell Tryd.results29 rfl (load3 (set3 (unhid_ HZ3)))) rfl ?_
        have hRR : R = (.mk op 0 ((k0 :: k1 :: kvs).map KV.q), st3) := by rw [HLF.out, HR.out]; rfl
        rw [hRR]
        refine ⟨some ⟨gl, 0, none⟩, c2, ?_, ?_, (unhid_ HP3).only hon hne0', only_far ((unhid_ HO2).trans (unhid_ HO3)) hon (Nat.le_refl _)⟩
        · rw [HNK.out]
          simp [QT.op, QT.n, QT.kids]
        · have hrow := rp_row (P := fun b => w.heap.size + 1 ≤ b) op (unhid_ HOWN3) rfl hncap hcm (show w.heap.size + 1 ≤ gl by omega) (fun k hk => ((unhid_ HRP) k hk).keep fun b hb hlt => ⟨(unhid_ HO3).block b hlt (by simp; have := hb.1; omega), hb.1⟩)
          refine hrow.keep fun b hb hlt => ⟨hon.block b (by omega) (by simp; omega), ?_⟩
          show w.heap.size ≤ b
          omega
end Go.Proofs.YthlnaejmglajeaaDoor
