/- The law on ages: the program's and the reference's. Each condition stands in its theorem. -/
import Derived.Test.YtmhopglbgaijiaaOrdT
import Derived.Test.YtmhopglbgaijiaaDc
import Derived.Test.YtmhopglbgaijiaaSettle
import Derived.Test.YtmhopglbgaijiaaNextAge
import Derived.Test.YtmhopglbgaijiaaLits
set_option linter.unusedVariables false
set_option linter.unusedSimpArgs false
namespace Go.Proofs.Ytmhopglbgaijiaa
open Go.ChangeShapes Go.WideShapes Go.ChangeAt Go.RowKit

theorem opqL {P : Program} {ops : Array Oper} {Q : Exit → Act → World → Prop} {rest : List Oper} {a : Act} {W : World} (S : World → Prop) (h : S W) (H : ∀ W0, S W0 → wpList P ops Q rest a W0) : wpList P ops Q rest a W := H W h
theorem opqK {P : Program} {f : FuncId} {args : Array Value} {R : Ending → World → Prop} {W : World} (S : World → Prop) (h : S W) (H : ∀ W0, S W0 → Calls P f args W0 R) : Calls P f args W R := H W h
theorem opqC {P : Program} {c : Code} {Q : Exit → Act → World → Prop} {a : Act} {W : World} (S : World → Prop) (h : S W) (H : ∀ W0, S W0 → c.wp P Q a W0) : c.wp P Q a W := H W h
theorem _root_.Go.View.rdSameA {α : Type} {V : View α} {w : World} {xs : Array Obj} {d0 dr : Nat} {cs : List Value} {d : α} (h : V.rd (w.ext ⟨xs, d0⟩) cs d) : V.rd (w.ext ⟨xs, dr⟩) cs d := by
  have := View.rdExt h ⟨#[], dr⟩
  rwa [World.ext_ext, Array.append_empty] at this
theorem _root_.Go.Sl.mergeA {w : World} {v : Value} {n : Nat} {cs : List Value} {ks ls : Array Obj} {d0 dr : Nat} (h : Sl (w.ext ⟨ks, d0⟩) v n cs) : Sl (w.ext ⟨ks ++ ls, dr⟩) v n cs := by
  have := h.ext ⟨ls, dr⟩
  rwa [World.ext_ext] at this
theorem opqJ {P : Program} {c : Code} {Q : Exit → Act → World → Prop} {W : World} {β α : Type} {F : β → α → Act} {b : β} {a : α} (H : ∀ x, c.wp P Q (F b x) W) : c.wp P Q (F b a) W := H a
theorem tcells {w : World} {b : Nat} {u0 u1 : Value} {ty : TypeId} (h : w.heap[b]? = some (.cells #[u0, u1] ty (0, 0))) : w.cell? ⟨b, 0, none⟩ = some u0 ∧ w.cell? ⟨b, 1, none⟩ = some u1 := by
  constructor <;> simp [World.cell?, h]
set_option maxRecDepth 100000 in
set_option maxHeartbeats 20000000 in
theorem law_Ages (v : Value) (bs : List UInt8) (W : World) (hs : Sl W v bs.length (bytesOf bs)) (hb : ∀ b, v.ownBlock = some b → b < W.heap.size) : Calls Try.prog 3 #[v] W (Yes W) := by
  have HS := Lib.hid hs
  have HB := Lib.hid hb
  unfold Yes
  by_cases hbig : 1048576 < bs.length
  · go_enter Try.func3, Try.ntmps3
    (try simp only []); repeat (first | go_skip | go_guarded | go_step | go_upon | go_back)
    (go_at_call 5; refine (laws_big v bs.length _ _ hs).mono ?_; rintro e w' ⟨rfl, rfl⟩)
    go_wp2
    go_ret
    exact ⟨rfl, (by repeat (first | with_reducible exact Below.refl _ _ | with_reducible apply Below.ofExt | with_reducible apply Below.ofAlloc | with_reducible apply Below.drew | with_reducible apply Below.ofDrewN | with_reducible assumption | (with_reducible refine Below.setCell ?_ (by first | exact Nat.le_refl _ | (simp [go_sem]; done) | (simp [go_sem]; omega)) _)))⟩
  clear hs hb
  have hbl : bs.length ≤ 140737488351232 := by omega
  go_enter Try.func3, Try.ntmps3
  (try simp only []); repeat (first | go_skip | go_guarded | go_step | go_upon | go_back)
  (go_at_call 5; refine (laws_big v bs.length _ _ HS.out).mono ?_; rintro e w' ⟨rfl, rfl⟩)
  (try simp only []); repeat (first | go_skip | go_guarded | go_step | go_upon | go_back)
  (go_at_call 6; refine (spec_DrawOlder v bs _ HS.out hbl HB.out).mono ?_; rintro e w1 ⟨x, y, dx, dy, rfl, hx, hy, hbw1⟩; rw [show x.v = Value.agg x.cells.toArray from rfl]; generalize x.cells = cx at hx ⊢; obtain ⟨pa0, pc0, pa1, pc1, pa2, pc2, pa3, pc3, pa4, pc4, rfl⟩ := vTx_shape hx; have Hx1 := Lib.hid hx; clear hx; rw [show y.v = Value.agg y.cells.toArray from rfl]; generalize y.cells = cy at hy ⊢; obtain ⟨qa0, qc0, qa1, qc1, qa2, qc2, qa3, qc3, qa4, qc4, rfl⟩ := vTx_shape hy; have Hy1 := Lib.hid hy; clear hy)
  have hz1 := hbw1.size
  have B1 : Below w1.heap.size w1 ((w1.alloc (.cells #[.int .i64 dx.id, .int .i64 dx.age, .int .i64 dx.proc, .int .i64 dx.began, .slice pa0 dx.calls.length pc0, .slice pa1 dx.answers.length pc1, .slice pa2 dx.touch.reads.length pc2, .slice pa3 dx.touch.writes.length pc3, .slice pa4 dx.marks.length pc4, .int .i64 dx.state] 31)).alloc (.cells #[.int .i64 dy.id, .int .i64 dy.age, .int .i64 dy.proc, .int .i64 dy.began, .slice qa0 dy.calls.length qc0, .slice qa1 dy.answers.length qc1, .slice qa2 dy.touch.reads.length qc2, .slice qa3 dy.touch.writes.length qc3, .slice qa4 dy.marks.length qc4, .int .i64 dy.state] 31)) := (by repeat (first | with_reducible exact Below.refl _ _ | with_reducible apply Below.ofExt | with_reducible apply Below.ofAlloc | with_reducible apply Below.drew | with_reducible apply Below.ofDrewN | with_reducible assumption | (with_reducible refine Below.setCell ?_ (by first | exact Nat.le_refl _ | (simp [go_sem]; done) | (simp [go_sem]; omega)) _)))
  have h1a : ((w1.alloc (.cells #[.int .i64 dx.id, .int .i64 dx.age, .int .i64 dx.proc, .int .i64 dx.began, .slice pa0 dx.calls.length pc0, .slice pa1 dx.answers.length pc1, .slice pa2 dx.touch.reads.length pc2, .slice pa3 dx.touch.writes.length pc3, .slice pa4 dx.marks.length pc4, .int .i64 dx.state] 31)).alloc (.cells #[.int .i64 dy.id, .int .i64 dy.age, .int .i64 dy.proc, .int .i64 dy.began, .slice qa0 dy.calls.length qc0, .slice qa1 dy.answers.length qc1, .slice qa2 dy.touch.reads.length qc2, .slice qa3 dy.touch.writes.length qc3, .slice qa4 dy.marks.length qc4, .int .i64 dy.state] 31)).heap[w1.heap.size]? = some (.cells #[.int .i64 dx.id, .int .i64 dx.age, .int .i64 dx.proc, .int .i64 dx.began, .slice pa0 dx.calls.length pc0, .slice pa1 dx.answers.length pc1, .slice pa2 dx.touch.reads.length pc2, .slice pa3 dx.touch.writes.length pc3, .slice pa4 dx.marks.length pc4, .int .i64 dx.state] 31) := (heap2 w1 _ _ _ rfl).1
  have h1b : ((w1.alloc (.cells #[.int .i64 dx.id, .int .i64 dx.age, .int .i64 dx.proc, .int .i64 dx.began, .slice pa0 dx.calls.length pc0, .slice pa1 dx.answers.length pc1, .slice pa2 dx.touch.reads.length pc2, .slice pa3 dx.touch.writes.length pc3, .slice pa4 dx.marks.length pc4, .int .i64 dx.state] 31)).alloc (.cells #[.int .i64 dy.id, .int .i64 dy.age, .int .i64 dy.proc, .int .i64 dy.began, .slice qa0 dy.calls.length qc0, .slice qa1 dy.answers.length qc1, .slice qa2 dy.touch.reads.length qc2, .slice qa3 dy.touch.writes.length qc3, .slice qa4 dy.marks.length qc4, .int .i64 dy.state] 31)).heap[w1.heap.size + 1]? = some (.cells #[.int .i64 dy.id, .int .i64 dy.age, .int .i64 dy.proc, .int .i64 dy.began, .slice qa0 dy.calls.length qc0, .slice qa1 dy.answers.length qc1, .slice qa2 dy.touch.reads.length qc2, .slice qa3 dy.touch.writes.length qc3, .slice qa4 dy.marks.length qc4, .int .i64 dy.state] 31) := (heap2 w1 _ _ _ rfl).2
  have D2 := Lib.hid (spec_DrawSettle v bs ((w1.alloc (.cells #[.int .i64 dx.id, .int .i64 dx.age, .int .i64 dx.proc, .int .i64 dx.began, .slice pa0 dx.calls.length pc0, .slice pa1 dx.answers.length pc1, .slice pa2 dx.touch.reads.length pc2, .slice pa3 dx.touch.writes.length pc3, .slice pa4 dx.marks.length pc4, .int .i64 dx.state] 31)).alloc (.cells #[.int .i64 dy.id, .int .i64 dy.age, .int .i64 dy.proc, .int .i64 dy.began, .slice qa0 dy.calls.length qc0, .slice qa1 dy.answers.length qc1, .slice qa2 dy.touch.reads.length qc2, .slice qa3 dy.touch.writes.length qc3, .slice qa4 dy.marks.length qc4, .int .i64 dy.state] 31)) (Sl.below HS.out (Below.then hbw1 B1)) hbl (fun b hb => by have := HB.out b hb; simp; omega))
  (try simp only []); repeat (first | go_skip | go_guarded | go_step | go_upon | go_back)
  (go_at_call 7; refine D2.out.mono ?_; rintro e w2 ⟨u, ds, z, dz, vr, vw, t, rfl, hl, hn, hz, ht, hb2⟩; rw [show z.v = Value.agg z.cells.toArray from rfl]; generalize z.cells = cz at hz ⊢; obtain ⟨ra0, rc0, ra1, rc1, ra2, rc2, ra3, rc3, ra4, rc4, rfl⟩ := vTx_shape hz; have Hz2 := Lib.hid hz; clear hz)
  obtain ⟨a1, c1, rfl⟩ := vSlice.form hl
  obtain ⟨_, _, e0, ht0, ht1⟩ := id ht
  cases e0
  obtain ⟨tra, trc, rfl⟩ := vSlice.form ht0
  obtain ⟨twa, twc, rfl⟩ := vSlice.form ht1
  have HBX2 := Lib.hid (((Grew.below hb2) _ (World.lt_of_get h1a)).trans h1a)
  have HBY2 := Lib.hid (((Grew.below hb2) _ (World.lt_of_get h1b)).trans h1b)
  have b12 := Below.then B1 hb2
  have hbw2 : Below W.heap.size W w2 := Below.then hbw1 b12
  have Hx2 := Lib.hid (View.rdBelow Hx1.out b12)
  have Hy2 := Lib.hid (View.rdBelow Hy1.out b12)
  have HL2 := Lib.hid hl
  have HT2 := Lib.hid ht
  clear h1a h1b D2 hl ht ht0 ht1 hb2 b12 B1 Hx1 Hy1
  have B2 : Below w2.heap.size w2 ((w2.alloc (.cells #[.int .i64 dz.id, .int .i64 dz.age, .int .i64 dz.proc, .int .i64 dz.began, .slice ra0 dz.calls.length rc0, .slice ra1 dz.answers.length rc1, .slice ra2 dz.touch.reads.length rc2, .slice ra3 dz.touch.writes.length rc3, .slice ra4 dz.marks.length rc4, .int .i64 dz.state] 31)).alloc (.cells #[.slice tra t.reads.length trc, .slice twa t.writes.length twc] 28)) := (by repeat (first | with_reducible exact Below.refl _ _ | with_reducible apply Below.ofExt | with_reducible apply Below.ofAlloc | with_reducible apply Below.drew | with_reducible apply Below.ofDrewN | with_reducible assumption | (with_reducible refine Below.setCell ?_ (by first | exact Nat.le_refl _ | (simp [go_sem]; done) | (simp [go_sem]; omega)) _)))
  have h2a : ((w2.alloc (.cells #[.int .i64 dz.id, .int .i64 dz.age, .int .i64 dz.proc, .int .i64 dz.began, .slice ra0 dz.calls.length rc0, .slice ra1 dz.answers.length rc1, .slice ra2 dz.touch.reads.length rc2, .slice ra3 dz.touch.writes.length rc3, .slice ra4 dz.marks.length rc4, .int .i64 dz.state] 31)).alloc (.cells #[.slice tra t.reads.length trc, .slice twa t.writes.length twc] 28)).heap[w2.heap.size]? = some (.cells #[.int .i64 dz.id, .int .i64 dz.age, .int .i64 dz.proc, .int .i64 dz.began, .slice ra0 dz.calls.length rc0, .slice ra1 dz.answers.length rc1, .slice ra2 dz.touch.reads.length rc2, .slice ra3 dz.touch.writes.length rc3, .slice ra4 dz.marks.length rc4, .int .i64 dz.state] 31) := (heap2 w2 _ _ _ rfl).1
  have h2b : ((w2.alloc (.cells #[.int .i64 dz.id, .int .i64 dz.age, .int .i64 dz.proc, .int .i64 dz.began, .slice ra0 dz.calls.length rc0, .slice ra1 dz.answers.length rc1, .slice ra2 dz.touch.reads.length rc2, .slice ra3 dz.touch.writes.length rc3, .slice ra4 dz.marks.length rc4, .int .i64 dz.state] 31)).alloc (.cells #[.slice tra t.reads.length trc, .slice twa t.writes.length twc] 28)).heap[w2.heap.size + 1]? = some (.cells #[.slice tra t.reads.length trc, .slice twa t.writes.length twc] 28) := (heap2 w2 _ _ _ rfl).2
  have C3 := impl_Settle _ ds _ dz _ t ((w2.alloc (.cells #[.int .i64 dz.id, .int .i64 dz.age, .int .i64 dz.proc, .int .i64 dz.began, .slice ra0 dz.calls.length rc0, .slice ra1 dz.answers.length rc1, .slice ra2 dz.touch.reads.length rc2, .slice ra3 dz.touch.writes.length rc3, .slice ra4 dz.marks.length rc4, .int .i64 dz.state] 31)).alloc (.cells #[.slice tra t.reads.length trc, .slice twa t.writes.length twc] 28)) (View.rdBelow HL2.out B2) (View.rdBelow Hz2.out B2) (View.rdBelow HT2.out B2) (by omega)
  have C4 := fun w (hb : Below w2.heap.size w2 w) => spec_Settle _ ds _ dz _ t w (View.rdBelow HL2.out hb) (View.rdBelow Hz2.out hb) (View.rdBelow HT2.out hb) (by omega)
  generalize settleOk ds dz t = sok at *
  generalize settleIds ds dz t = ids at *
  have hss : (sok != sok) = false := by simp
  have D3 := Lib.hid C3
  have D4 := Lib.hid C4
  clear C3 C4
  (try simp only []); repeat (first | go_skip | go_guarded | go_step | go_upon | go_back)
  (go_at_call 8; refine D3.out.mono ?_; rintro e w3 ⟨vi, fp, rfl, hf, hb3⟩)
  have hr := View.toRd _ hf.own
  obtain ⟨ia, ic, rfl⟩ := vSlice.form hr
  have HI3 := Lib.hid hr
  have b23 := Below.then B2 hb3
  have HBZ3 := Lib.hid (((Grew.below hb3) _ (World.lt_of_get h2a)).trans h2a)
  have HBT3 := Lib.hid (((Grew.below hb3) _ (World.lt_of_get h2b)).trans h2b)
  have HBX3 := Lib.hid (((Grew.below b23) _ (World.lt_of_get HBX2.out)).trans HBX2.out)
  have HBY3 := Lib.hid (((Grew.below b23) _ (World.lt_of_get HBY2.out)).trans HBY2.out)
  have hbw3 : Below W.heap.size W w3 := Below.then hbw2 b23
  have Hx3 := Lib.hid (View.rdBelow Hx2.out b23)
  have Hy3 := Lib.hid (View.rdBelow Hy2.out b23)
  have D4 := Lib.hid (D4.out w3 b23)
  clear hr hf h2a h2b D3 HBX2 HBY2 Hx2 Hy2 B2 hb3 b23
  have hcz := fun j u (hj : ([.int .i64 dz.id, .int .i64 dz.age, .int .i64 dz.proc, .int .i64 dz.began, .slice ra0 dz.calls.length rc0, .slice ra1 dz.answers.length rc1, .slice ra2 dz.touch.reads.length rc2, .slice ra3 dz.touch.writes.length rc3, .slice ra4 dz.marks.length rc4, .int .i64 dz.state] : List Value)[j]? = some u) => (World.cell?_of_get (i := j) HBZ3.out).trans (by simpa using hj)
  have z0 := hcz 0 _ rfl; have z1 := hcz 1 _ rfl; have z2 := hcz 2 _ rfl; have z3 := hcz 3 _ rfl; have z4 := hcz 4 _ rfl; have z5 := hcz 5 _ rfl; have z6 := hcz 6 _ rfl; have z7 := hcz 7 _ rfl; have z8 := hcz 8 _ rfl; have z9 := hcz 9 _ rfl
  have lz := World.lt_of_get HBZ3.out
  clear hcz
  obtain ⟨tt0, tt1⟩ := tcells HBT3.out
  have ltt := World.lt_of_get HBT3.out
  (try simp only []); repeat (first | go_skip | go_guarded | go_step | go_upon | go_back)
  (go_at_call 9; refine D4.out.mono ?_; rintro e w4 ⟨vi, fp, rfl, hf, hb4⟩)
  have hr := View.toRd _ hf.own
  obtain ⟨ja, jc, rfl⟩ := vSlice.form hr
  have HJ4 := Lib.hid hr
  have HI4 := Lib.hid (View.rdBelow HI3.out hb4)
  have HBX4 := Lib.hid (((Grew.below hb4) _ (World.lt_of_get HBX3.out)).trans HBX3.out)
  have HBY4 := Lib.hid (((Grew.below hb4) _ (World.lt_of_get HBY3.out)).trans HBY3.out)
  have hbw4 : Below W.heap.size W w4 := Below.then hbw3 hb4
  have Hx4 := Lib.hid (View.rdBelow Hx3.out hb4)
  have Hy4 := Lib.hid (View.rdBelow Hy3.out hb4)
  clear hr hf D4 HBX3 HBY3 Hx3 Hy3 HI3 HBZ3 HBT3 hb4 tt0 tt1 ltt Hz2 HL2 HT2 z0 z1 z2 z3 z4 z5 z6 z7 z8 z9 lz
  have hcx := fun j u (hj : ([.int .i64 dx.id, .int .i64 dx.age, .int .i64 dx.proc, .int .i64 dx.began, .slice pa0 dx.calls.length pc0, .slice pa1 dx.answers.length pc1, .slice pa2 dx.touch.reads.length pc2, .slice pa3 dx.touch.writes.length pc3, .slice pa4 dx.marks.length pc4, .int .i64 dx.state] : List Value)[j]? = some u) => (World.cell?_of_get (i := j) HBX4.out).trans (by simpa using hj)
  have x0 := hcx 0 _ rfl; have x1 := hcx 1 _ rfl; have x2 := hcx 2 _ rfl; have x3 := hcx 3 _ rfl; have x4 := hcx 4 _ rfl; have x5 := hcx 5 _ rfl; have x6 := hcx 6 _ rfl; have x7 := hcx 7 _ rfl; have x8 := hcx 8 _ rfl; have x9 := hcx 9 _ rfl
  have lx := World.lt_of_get HBX4.out
  clear hcx
  have hcy := fun j u (hj : ([.int .i64 dy.id, .int .i64 dy.age, .int .i64 dy.proc, .int .i64 dy.began, .slice qa0 dy.calls.length qc0, .slice qa1 dy.answers.length qc1, .slice qa2 dy.touch.reads.length qc2, .slice qa3 dy.touch.writes.length qc3, .slice qa4 dy.marks.length qc4, .int .i64 dy.state] : List Value)[j]? = some u) => (World.cell?_of_get (i := j) HBY4.out).trans (by simpa using hj)
  have y0 := hcy 0 _ rfl; have y1 := hcy 1 _ rfl; have y2 := hcy 2 _ rfl; have y3 := hcy 3 _ rfl; have y4 := hcy 4 _ rfl; have y5 := hcy 5 _ rfl; have y6 := hcy 6 _ rfl; have y7 := hcy 7 _ rfl; have y8 := hcy 8 _ rfl; have y9 := hcy 9 _ rfl
  have ly := World.lt_of_get HBY4.out
  clear hcy
  obtain ⟨ob, hob⟩ : ∃ ob, ob = olderB dx dy := ⟨_, rfl⟩
  have HOB := Lib.hid hob
  have hoo : (ob != ob) = false := by simp
  clear hob
  go_wp2
  refine wp_region_ord [(0,true),(1,true),(2,true),(3,true),(4,true),(5,true),(6,false),(7,true),(8,true),(9,true),(10,true),(11,true),(13,true),(14,true),(12,false),(15,false),(16,true),(17,true)] 18 (by kernel_rfl) (by kernel_rfl) ?_
  repeat (refine wpOrd_quiet rfl (fun K hK => ?_); go_simp; (try simp (disch := omega) only [IntWalk.i64_in]); refine hK _ ?_; clear hK K)
  refine wpOrd_grow rfl (fun K hK => ?_); go_simp; go_at_call 10; refine (laws_sameInts _ _ ids _ (by (try simp only [← Array.append_assoc]); (repeat (first | with_reducible exact HI4.out | with_reducible apply View.rdMerge | with_reducible apply View.rdExt | with_reducible apply View.rdAlloc | with_reducible apply View.rdDrew)); all_goals exact (0 : Nat)) (by (try simp only [← Array.append_assoc]); (repeat (first | with_reducible exact HJ4.out | with_reducible apply View.rdMerge | with_reducible apply View.rdExt | with_reducible apply View.rdAlloc | with_reducible apply View.rdDrew)); all_goals exact (0 : Nat))).mono ?_; rintro e w' ⟨rfl, hb⟩; obtain ⟨X, rfl⟩ := hb.ext; clear hb; try go_simp; refine hK _ _ (by show Sx _ _; (try simp only [← Array.append_assoc]); repeat (first | with_reducible exact Sx.drew _ | with_reducible exact Sx.same _ _ _ _ | with_reducible exact ⟨_, rfl⟩ | with_reducible apply Sx.more | with_reducible apply Sx.ext | with_reducible apply Sx.alloc | with_reducible apply Sx.draw | with_reducible exact Sx.refl _)) ?_; clear hK K
  repeat (refine wpOrd_quiet rfl (fun K hK => ?_); go_simp; (try simp (disch := omega) only [IntWalk.i64_in]); refine hK _ ?_; clear hK K)
  refine wpOrd_grow rfl (fun K hK => ?_); go_simp; go_at_call 11; refine (impl_Older _ dx _ dy _ (by (try simp only [← Array.append_assoc]); (repeat (first | with_reducible exact Hx4.out | with_reducible apply View.rdMerge | with_reducible apply View.rdExt | with_reducible apply View.rdAlloc | with_reducible apply View.rdDrew)); all_goals exact (0 : Nat)) (by (try simp only [← Array.append_assoc]); (repeat (first | with_reducible exact Hy4.out | with_reducible apply View.rdMerge | with_reducible apply View.rdExt | with_reducible apply View.rdAlloc | with_reducible apply View.rdDrew)); all_goals exact (0 : Nat))).mono ?_; rintro e w' ⟨rfl, hb⟩; obtain ⟨X, rfl⟩ := hb.ext; clear hb; try go_simp; refine hK _ _ (by show Sx _ _; (try simp only [← Array.append_assoc]); repeat (first | with_reducible exact Sx.drew _ | with_reducible exact Sx.same _ _ _ _ | with_reducible exact ⟨_, rfl⟩ | with_reducible apply Sx.more | with_reducible apply Sx.ext | with_reducible apply Sx.alloc | with_reducible apply Sx.draw | with_reducible exact Sx.refl _)) ?_; clear hK K
  rw [← HOB.out]
  refine wpOrd_grow rfl (fun K hK => ?_); go_simp; go_at_call 12; refine (spec_Older _ dx _ dy _ (by (try simp only [← Array.append_assoc]); (repeat (first | with_reducible exact Hx4.out | with_reducible apply View.rdMerge | with_reducible apply View.rdExt | with_reducible apply View.rdAlloc | with_reducible apply View.rdDrew)); all_goals exact (0 : Nat)) (by (try simp only [← Array.append_assoc]); (repeat (first | with_reducible exact Hy4.out | with_reducible apply View.rdMerge | with_reducible apply View.rdExt | with_reducible apply View.rdAlloc | with_reducible apply View.rdDrew)); all_goals exact (0 : Nat))).mono ?_; rintro e w' ⟨rfl, hb⟩; obtain ⟨X, rfl⟩ := hb.ext; clear hb; try go_simp; refine hK _ _ (by show Sx _ _; (try simp only [← Array.append_assoc]); repeat (first | with_reducible exact Sx.drew _ | with_reducible exact Sx.same _ _ _ _ | with_reducible exact ⟨_, rfl⟩ | with_reducible apply Sx.more | with_reducible apply Sx.ext | with_reducible apply Sx.alloc | with_reducible apply Sx.draw | with_reducible exact Sx.refl _)) ?_; clear hK K
  rw [← HOB.out]
  repeat (refine wpOrd_quiet rfl (fun K hK => ?_); go_simp; (try simp (disch := omega) only [IntWalk.i64_in]); refine hK _ ?_; clear hK K)
  refine wpOrd_nil ?_
  (try simp only []); repeat (first | go_skip | go_guarded | go_step | go_upon | go_back)
  refine opqK (fun W0 => Below w4.heap.size w4 W0) (by show Below _ _ _; exact (by repeat (first | with_reducible exact Below.refl _ _ | with_reducible apply Below.ofExt | with_reducible apply Below.ofAlloc | with_reducible apply Below.drew | with_reducible apply Below.ofDrewN | with_reducible assumption | (with_reducible refine Below.setCell ?_ (by first | exact Nat.le_refl _ | (simp [go_sem]; done) | (simp [go_sem]; omega)) _)))) ?_
  rintro w5 hb5
  have HBX5 := Lib.hid (((Grew.below hb5) _ (World.lt_of_get HBX4.out)).trans HBX4.out)
  have HBY5 := Lib.hid (((Grew.below hb5) _ (World.lt_of_get HBY4.out)).trans HBY4.out)
  have hbw5 : Below W.heap.size W w5 := Below.then hbw4 hb5
  have Hx5 := Lib.hid (View.rdBelow Hx4.out hb5)
  have Hy5 := Lib.hid (View.rdBelow Hy4.out hb5)
  have hz5 := hbw5.size
  clear HBX4 HBY4 Hx4 Hy4 HI4 HJ4 hb5 hbw1 hbw2 hbw3 hbw4 hss hoo x0 x1 x2 x3 x4 x5 x6 x7 x8 x9 lx y0 y1 y2 y3 y4 y5 y6 y7 y8 y9 ly
  have D6 := Lib.hid (spec_DrawYoungerAll v bs w5 (Sl.below HS.out hbw5) hbl (fun b hb => by have := HB.out b hb; omega))
  (go_at_call 13; refine D6.out.mono ?_; rintro e w6 ⟨u, ds1, vi, is1, e1, de, rfl, hl, hn1, hi, hz, hb6⟩; rw [show e1.v = Value.agg e1.cells.toArray from rfl]; generalize e1.cells = ce at hz ⊢; obtain ⟨ma0, mc0, ma1, mc1, ma2, mc2, ma3, mc3, ma4, mc4, rfl⟩ := vTx_shape hz; have He6 := Lib.hid hz; clear hz)
  obtain ⟨a2, c2, rfl⟩ := vSlice.form hl
  obtain ⟨ka, kc, rfl⟩ := vSlice.form hi
  have HL6 := Lib.hid hl
  have HI6 := Lib.hid hi
  have HBX6 := Lib.hid (((Grew.below hb6) _ (World.lt_of_get HBX5.out)).trans HBX5.out)
  have HBY6 := Lib.hid (((Grew.below hb6) _ (World.lt_of_get HBY5.out)).trans HBY5.out)
  have hbw6 : Below W.heap.size W w6 := Below.then hbw5 hb6
  have Hx6 := Lib.hid (View.rdBelow Hx5.out hb6)
  have Hy6 := Lib.hid (View.rdBelow Hy5.out hb6)
  have hz6 := hbw6.size
  clear hl hi D6 HBX5 HBY5 Hx5 Hy5 hb6 hbw5
  have B6 : Below w6.heap.size w6 (w6.alloc (.cells #[.int .i64 de.id, .int .i64 de.age, .int .i64 de.proc, .int .i64 de.began, .slice ma0 de.calls.length mc0, .slice ma1 de.answers.length mc1, .slice ma2 de.touch.reads.length mc2, .slice ma3 de.touch.writes.length mc3, .slice ma4 de.marks.length mc4, .int .i64 de.state] 31)) := (by repeat (first | with_reducible exact Below.refl _ _ | with_reducible apply Below.ofExt | with_reducible apply Below.ofAlloc | with_reducible apply Below.drew | with_reducible apply Below.ofDrewN | with_reducible assumption | (with_reducible refine Below.setCell ?_ (by first | exact Nat.le_refl _ | (simp [go_sem]; done) | (simp [go_sem]; omega)) _)))
  have h6 : (w6.alloc (.cells #[.int .i64 de.id, .int .i64 de.age, .int .i64 de.proc, .int .i64 de.began, .slice ma0 de.calls.length mc0, .slice ma1 de.answers.length mc1, .slice ma2 de.touch.reads.length mc2, .slice ma3 de.touch.writes.length mc3, .slice ma4 de.marks.length mc4, .int .i64 de.state] 31)).heap[w6.heap.size]? = some (.cells #[.int .i64 de.id, .int .i64 de.age, .int .i64 de.proc, .int .i64 de.began, .slice ma0 de.calls.length mc0, .slice ma1 de.answers.length mc1, .slice ma2 de.touch.reads.length mc2, .slice ma3 de.touch.writes.length mc3, .slice ma4 de.marks.length mc4, .int .i64 de.state] 31) := alloc_newA _ _ _ rfl
  have D7 := Lib.hid (spec_DrawOldestLive v bs (w6.alloc (.cells #[.int .i64 de.id, .int .i64 de.age, .int .i64 de.proc, .int .i64 de.began, .slice ma0 de.calls.length mc0, .slice ma1 de.answers.length mc1, .slice ma2 de.touch.reads.length mc2, .slice ma3 de.touch.writes.length mc3, .slice ma4 de.marks.length mc4, .int .i64 de.state] 31)) (Sl.below HS.out (Below.then hbw6 B6)) hbl (fun b hb => by have := HB.out b hb; simp; omega))
  (try simp only []); repeat (first | go_skip | go_guarded | go_step | go_upon | go_back)
  (go_at_call 14; refine D7.out.mono ?_; rintro e w7 ⟨u, fs, rfl, hf, hn2, hages, hids, hb7⟩)
  obtain ⟨a3, c3, rfl⟩ := vSlice.form hf
  have b67 := Below.then B6 hb7
  have HF7 := Lib.hid hf
  have HID := Lib.hid hids
  have HBE7 := Lib.hid (((Grew.below hb7) _ (World.lt_of_get h6)).trans h6)
  have HBX7 := Lib.hid (((Grew.below b67) _ (World.lt_of_get HBX6.out)).trans HBX6.out)
  have HBY7 := Lib.hid (((Grew.below b67) _ (World.lt_of_get HBY6.out)).trans HBY6.out)
  have hbw7 : Below W.heap.size W w7 := Below.then hbw6 b67
  have Hx7 := Lib.hid (View.rdBelow Hx6.out b67)
  have Hy7 := Lib.hid (View.rdBelow Hy6.out b67)
  have He7 := Lib.hid (View.rdBelow He6.out b67)
  have HL7 := Lib.hid (View.rdBelow HL6.out b67)
  have HI7 := Lib.hid (View.rdBelow HI6.out b67)
  clear hf hages hids D7 B6 h6 hb7 b67 HBX6 HBY6 Hx6 Hy6 He6 HL6 HI6 hbw6
  obtain ⟨best, hbest⟩ : ∃ best, best = oldestLive fs := ⟨_, rfl⟩
  have C8 := impl_OldestLive _ fs w7 HF7.out
  rw [← hbest] at C8
  have HBEST := Lib.hid hbest
  have D8 := Lib.hid C8
  clear hbest C8
  (try simp only []); repeat (first | go_skip | go_guarded | go_step | go_upon | go_back)
  (go_at_call 15; refine D8.out.mono ?_; rintro e w8 ⟨rfl, hb8⟩)
  have HF8 := Lib.hid (View.rdBelow HF7.out hb8)
  have HBE8 := Lib.hid (((Grew.below hb8) _ (World.lt_of_get HBE7.out)).trans HBE7.out)
  have HBX8 := Lib.hid (((Grew.below hb8) _ (World.lt_of_get HBX7.out)).trans HBX7.out)
  have HBY8 := Lib.hid (((Grew.below hb8) _ (World.lt_of_get HBY7.out)).trans HBY7.out)
  have hbw8 : Below W.heap.size W w8 := Below.then hbw7 hb8
  have Hx8 := Lib.hid (View.rdBelow Hx7.out hb8)
  have Hy8 := Lib.hid (View.rdBelow Hy7.out hb8)
  have He8 := Lib.hid (View.rdBelow He7.out hb8)
  have HL8 := Lib.hid (View.rdBelow HL7.out hb8)
  have HI8 := Lib.hid (View.rdBelow HI7.out hb8)
  clear D8 hb8 HF7 HBE7 HBX7 HBY7 Hx7 Hy7 He7 HL7 HI7 hbw7
  obtain ⟨ya, hya⟩ : ∃ ya, ya = youngerAll ds1 is1 de := ⟨_, rfl⟩
  have HYA := Lib.hid hya
  have hyy : (ya != ya) = false := by simp
  obtain ⟨na, hna⟩ : ∃ na, na = wrap64 (fs.foldl ageMax 0 + 1) := ⟨_, rfl⟩
  have HNA := Lib.hid hna
  have hnn : (na != na) = false := by simp
  have hbb : (best != best) = false := by simp
  clear hya hna
  have hcg := fun j u (hj : ([.int .i64 de.id, .int .i64 de.age, .int .i64 de.proc, .int .i64 de.began, .slice ma0 de.calls.length mc0, .slice ma1 de.answers.length mc1, .slice ma2 de.touch.reads.length mc2, .slice ma3 de.touch.writes.length mc3, .slice ma4 de.marks.length mc4, .int .i64 de.state] : List Value)[j]? = some u) => (World.cell?_of_get (i := j) HBE8.out).trans (by simpa using hj)
  have g0 := hcg 0 _ rfl; have g1 := hcg 1 _ rfl; have g2 := hcg 2 _ rfl; have g3 := hcg 3 _ rfl; have g4 := hcg 4 _ rfl; have g5 := hcg 5 _ rfl; have g6 := hcg 6 _ rfl; have g7 := hcg 7 _ rfl; have g8 := hcg 8 _ rfl; have g9 := hcg 9 _ rfl
  have lg := World.lt_of_get HBE8.out
  clear hcg
  go_wp2
  refine wp_region_ord [(0,true),(1,true),(2,true),(4,true),(5,true),(6,true),(3,false),(7,false),(8,true),(9,true),(10,true),(11,true),(12,false),(13,true),(14,true),(15,true),(16,true),(18,true),(17,false),(19,false),(20,true),(21,true)] 22 (by kernel_rfl) (by kernel_rfl) ?_
  repeat (refine wpOrd_quiet rfl (fun K hK => ?_); go_simp; (try simp (disch := omega) only [IntWalk.i64_in]); refine hK _ ?_; clear hK K)
  refine wpOrd_grow rfl (fun K hK => ?_); go_simp; go_at_call 16; refine (impl_YoungerAll _ ds1 _ is1 _ de _ (by (try simp only [← Array.append_assoc]); (repeat (first | with_reducible exact HL8.out | with_reducible apply View.rdMerge | with_reducible apply View.rdExt | with_reducible apply View.rdAlloc | with_reducible apply View.rdDrew)); all_goals exact (0 : Nat)) (by (try simp only [← Array.append_assoc]); (repeat (first | with_reducible exact HI8.out | with_reducible apply View.rdMerge | with_reducible apply View.rdExt | with_reducible apply View.rdAlloc | with_reducible apply View.rdDrew)); all_goals exact (0 : Nat)) (by (try simp only [← Array.append_assoc]); (repeat (first | with_reducible exact He8.out | with_reducible apply View.rdMerge | with_reducible apply View.rdExt | with_reducible apply View.rdAlloc | with_reducible apply View.rdDrew)); all_goals exact (0 : Nat))).mono ?_; rintro e w' ⟨rfl, hb⟩; obtain ⟨X, rfl⟩ := hb.ext; clear hb; try go_simp; refine hK _ _ (by show Sx _ _; (try simp only [← Array.append_assoc]); repeat (first | with_reducible exact Sx.drew _ | with_reducible exact Sx.same _ _ _ _ | with_reducible exact ⟨_, rfl⟩ | with_reducible apply Sx.more | with_reducible apply Sx.ext | with_reducible apply Sx.alloc | with_reducible apply Sx.draw | with_reducible exact Sx.refl _)) ?_; clear hK K
  rw [← HYA.out]
  refine wpOrd_grow rfl (fun K hK => ?_); go_simp; go_at_call 17; refine (spec_YoungerAll _ ds1 _ is1 _ de _ (by (try simp only [← Array.append_assoc]); (repeat (first | with_reducible exact HL8.out | with_reducible apply View.rdMerge | with_reducible apply View.rdExt | with_reducible apply View.rdAlloc | with_reducible apply View.rdDrew)); all_goals exact (0 : Nat)) (by (try simp only [← Array.append_assoc]); (repeat (first | with_reducible exact HI8.out | with_reducible apply View.rdMerge | with_reducible apply View.rdExt | with_reducible apply View.rdAlloc | with_reducible apply View.rdDrew)); all_goals exact (0 : Nat)) (by (try simp only [← Array.append_assoc]); (repeat (first | with_reducible exact He8.out | with_reducible apply View.rdMerge | with_reducible apply View.rdExt | with_reducible apply View.rdAlloc | with_reducible apply View.rdDrew)); all_goals exact (0 : Nat))).mono ?_; rintro e w' ⟨rfl, hb⟩; obtain ⟨X, rfl⟩ := hb.ext; clear hb; try go_simp; refine hK _ _ (by show Sx _ _; (try simp only [← Array.append_assoc]); repeat (first | with_reducible exact Sx.drew _ | with_reducible exact Sx.same _ _ _ _ | with_reducible exact ⟨_, rfl⟩ | with_reducible apply Sx.more | with_reducible apply Sx.ext | with_reducible apply Sx.alloc | with_reducible apply Sx.draw | with_reducible exact Sx.refl _)) ?_; clear hK K
  rw [← HYA.out]
  repeat (refine wpOrd_quiet rfl (fun K hK => ?_); go_simp; (try simp (disch := omega) only [IntWalk.i64_in]); refine hK _ ?_; clear hK K)
  refine wpOrd_grow rfl (fun K hK => ?_); go_simp; go_at_call 18; refine (spec_OldestLive _ fs _ (by (try simp only [← Array.append_assoc]); (repeat (first | with_reducible exact HF8.out | with_reducible apply View.rdMerge | with_reducible apply View.rdExt | with_reducible apply View.rdAlloc | with_reducible apply View.rdDrew)); all_goals exact (0 : Nat))).mono ?_; rintro e w' ⟨rfl, hb⟩; obtain ⟨X, rfl⟩ := hb.ext; clear hb; try go_simp; refine hK _ _ (by show Sx _ _; (try simp only [← Array.append_assoc]); repeat (first | with_reducible exact Sx.drew _ | with_reducible exact Sx.same _ _ _ _ | with_reducible exact ⟨_, rfl⟩ | with_reducible apply Sx.more | with_reducible apply Sx.ext | with_reducible apply Sx.alloc | with_reducible apply Sx.draw | with_reducible exact Sx.refl _)) ?_; clear hK K
  rw [← HBEST.out]
  repeat (refine wpOrd_quiet rfl (fun K hK => ?_); go_simp; (try simp (disch := omega) only [IntWalk.i64_in]); refine hK _ ?_; clear hK K)
  refine wpOrd_grow rfl (fun K hK => ?_); go_simp; go_at_call 19; refine (impl_NextAge _ fs _ (by (try simp only [← Array.append_assoc]); (repeat (first | with_reducible exact HF8.out | with_reducible apply View.rdMerge | with_reducible apply View.rdExt | with_reducible apply View.rdAlloc | with_reducible apply View.rdDrew)); all_goals exact (0 : Nat))).mono ?_; rintro e w' ⟨rfl, hb⟩; obtain ⟨X, rfl⟩ := hb.ext; clear hb; try go_simp; refine hK _ _ (by show Sx _ _; (try simp only [← Array.append_assoc]); repeat (first | with_reducible exact Sx.drew _ | with_reducible exact Sx.same _ _ _ _ | with_reducible exact ⟨_, rfl⟩ | with_reducible apply Sx.more | with_reducible apply Sx.ext | with_reducible apply Sx.alloc | with_reducible apply Sx.draw | with_reducible exact Sx.refl _)) ?_; clear hK K
  rw [← HNA.out]
  refine wpOrd_grow rfl (fun K hK => ?_); go_simp; go_at_call 20; refine (spec_NextAge _ fs _ (by (try simp only [← Array.append_assoc]); (repeat (first | with_reducible exact HF8.out | with_reducible apply View.rdMerge | with_reducible apply View.rdExt | with_reducible apply View.rdAlloc | with_reducible apply View.rdDrew)); all_goals exact (0 : Nat))).mono ?_; rintro e w' ⟨rfl, hb⟩; obtain ⟨X, rfl⟩ := hb.ext; clear hb; try go_simp; refine hK _ _ (by show Sx _ _; (try simp only [← Array.append_assoc]); repeat (first | with_reducible exact Sx.drew _ | with_reducible exact Sx.same _ _ _ _ | with_reducible exact ⟨_, rfl⟩ | with_reducible apply Sx.more | with_reducible apply Sx.ext | with_reducible apply Sx.alloc | with_reducible apply Sx.draw | with_reducible exact Sx.refl _)) ?_; clear hK K
  rw [← HNA.out]
  repeat (refine wpOrd_quiet rfl (fun K hK => ?_); go_simp; (try simp (disch := omega) only [IntWalk.i64_in]); refine hK _ ?_; clear hK K)
  refine wpOrd_nil ?_
  (try simp only []); repeat (first | go_skip | go_guarded | go_step | go_upon | go_back)
  refine opqC (fun W0 => Below w8.heap.size w8 W0) (by show Below _ _ _; exact (by repeat (first | with_reducible exact Below.refl _ _ | with_reducible apply Below.ofExt | with_reducible apply Below.ofAlloc | with_reducible apply Below.drew | with_reducible apply Below.ofDrewN | with_reducible assumption | (with_reducible refine Below.setCell ?_ (by first | exact Nat.le_refl _ | (simp [go_sem]; done) | (simp [go_sem]; omega)) _)))) ?_
  rintro W2 hb9
  refine opqJ (F := fun (y : Value × Value × Value × Value × Value × Value × Value) (x : (Value × Value × Value × Value × Value × Value × Value × Value × Value × Value) × (Value × Value × Value × Value × Value × Value × Value × Value × Value × Value) × (Value × Value × Value × Value × Value × Value × Value × Value × Value × Value) × (Value × Value × Value × Value × Value × Value × Value × Value × Value × Value) × (Value × Value × Value × Value × Value × Value × Value × Value × Value × Value) × (Value × Value × Value × Value × Value × Value × Value × Value × Value × Value) × (Value × Value × Value × Value × Value × Value × Value × Value × Value × Value) × (Value × Value × Value × Value × Value × Value × Value × Value × Value × Value) × (Value × Value × Value × Value × Value × Value × Value)) => ⟨#[y.1, undef, y.2.1, y.2.2.1, y.2.2.2.1, (x.1).1, (x.1).2.1, (x.1).2.2.1, (x.1).2.2.2.1, (x.1).2.2.2.2.1, (x.1).2.2.2.2.2.1, (x.1).2.2.2.2.2.2.1, (x.1).2.2.2.2.2.2.2.1, (x.1).2.2.2.2.2.2.2.2.1, (x.1).2.2.2.2.2.2.2.2.2, y.2.2.2.2.1, y.2.2.2.2.2.1, y.2.2.2.2.2.2, undef, undef, undef, undef, undef, undef, (x.2.1).1, (x.2.1).2.1, (x.2.1).2.2.1, (x.2.1).2.2.2.1, (x.2.1).2.2.2.2.1, (x.2.1).2.2.2.2.2.1, (x.2.1).2.2.2.2.2.2.1, (x.2.1).2.2.2.2.2.2.2.1, (x.2.1).2.2.2.2.2.2.2.2.1, (x.2.1).2.2.2.2.2.2.2.2.2, (x.2.2.1).1, (x.2.2.1).2.1, (x.2.2.1).2.2.1, (x.2.2.1).2.2.2.1, (x.2.2.1).2.2.2.2.1, (x.2.2.1).2.2.2.2.2.1, (x.2.2.1).2.2.2.2.2.2.1, (x.2.2.1).2.2.2.2.2.2.2.1, (x.2.2.1).2.2.2.2.2.2.2.2.1, (x.2.2.1).2.2.2.2.2.2.2.2.2, (x.2.2.2.1).1, (x.2.2.2.1).2.1, (x.2.2.2.1).2.2.1, (x.2.2.2.1).2.2.2.1, (x.2.2.2.1).2.2.2.2.1, (x.2.2.2.1).2.2.2.2.2.1, (x.2.2.2.1).2.2.2.2.2.2.1, (x.2.2.2.1).2.2.2.2.2.2.2.1, (x.2.2.2.1).2.2.2.2.2.2.2.2.1, (x.2.2.2.1).2.2.2.2.2.2.2.2.2, (x.2.2.2.2.1).1, (x.2.2.2.2.1).2.1, (x.2.2.2.2.1).2.2.1, (x.2.2.2.2.1).2.2.2.1, (x.2.2.2.2.1).2.2.2.2.1, (x.2.2.2.2.1).2.2.2.2.2.1, (x.2.2.2.2.1).2.2.2.2.2.2.1, (x.2.2.2.2.1).2.2.2.2.2.2.2.1, (x.2.2.2.2.1).2.2.2.2.2.2.2.2.1, (x.2.2.2.2.1).2.2.2.2.2.2.2.2.2, (x.2.2.2.2.2.1).1, (x.2.2.2.2.2.1).2.1, (x.2.2.2.2.2.1).2.2.1, (x.2.2.2.2.2.1).2.2.2.1, (x.2.2.2.2.2.1).2.2.2.2.1, (x.2.2.2.2.2.1).2.2.2.2.2.1, (x.2.2.2.2.2.1).2.2.2.2.2.2.1, (x.2.2.2.2.2.1).2.2.2.2.2.2.2.1, (x.2.2.2.2.2.1).2.2.2.2.2.2.2.2.1, (x.2.2.2.2.2.1).2.2.2.2.2.2.2.2.2, (x.2.2.2.2.2.2.1).1, (x.2.2.2.2.2.2.1).2.1, (x.2.2.2.2.2.2.1).2.2.1, (x.2.2.2.2.2.2.1).2.2.2.1, (x.2.2.2.2.2.2.1).2.2.2.2.1, (x.2.2.2.2.2.2.1).2.2.2.2.2.1, (x.2.2.2.2.2.2.1).2.2.2.2.2.2.1, (x.2.2.2.2.2.2.1).2.2.2.2.2.2.2.1, (x.2.2.2.2.2.2.1).2.2.2.2.2.2.2.2.1, (x.2.2.2.2.2.2.1).2.2.2.2.2.2.2.2.2, (x.2.2.2.2.2.2.2.1).1, (x.2.2.2.2.2.2.2.1).2.1, (x.2.2.2.2.2.2.2.1).2.2.1, (x.2.2.2.2.2.2.2.1).2.2.2.1, (x.2.2.2.2.2.2.2.1).2.2.2.2.1, (x.2.2.2.2.2.2.2.1).2.2.2.2.2.1, (x.2.2.2.2.2.2.2.1).2.2.2.2.2.2.1, (x.2.2.2.2.2.2.2.1).2.2.2.2.2.2.2.1, (x.2.2.2.2.2.2.2.1).2.2.2.2.2.2.2.2.1, (x.2.2.2.2.2.2.2.1).2.2.2.2.2.2.2.2.2, (x.2.2.2.2.2.2.2.2).1, (x.2.2.2.2.2.2.2.2).2.1, (x.2.2.2.2.2.2.2.2).2.2.1, (x.2.2.2.2.2.2.2.2).2.2.2.1, (x.2.2.2.2.2.2.2.2).2.2.2.2.1, (x.2.2.2.2.2.2.2.2).2.2.2.2.2.1, (x.2.2.2.2.2.2.2.2).2.2.2.2.2.2, undef, undef, undef, undef, undef, undef, undef, undef, undef, undef, undef, undef, undef, undef, undef, undef, undef, undef, undef, undef, undef, undef, undef, undef, undef, undef, undef, undef, undef, undef, undef, undef, undef, undef, undef, undef, undef, undef, undef, undef, undef, undef, undef, undef, undef, undef, undef, undef, undef, undef, undef, undef, undef, undef, undef, undef, undef, undef, undef, undef, undef, undef, undef, undef, undef, undef, undef, undef, undef, undef, undef, undef, undef, undef, undef, undef, undef, undef, undef, undef, undef, undef, undef, undef, undef, undef, undef, undef, undef, undef, undef, undef, undef, undef, undef, undef, undef, undef, undef, undef, undef, undef, undef, undef, undef, undef, undef, undef, undef, undef, undef, undef, undef, undef, undef, undef, undef, undef, undef, undef, undef, undef, undef, undef, undef, undef], []⟩) (b := (_, _, _, _, _, _, _)) (a := ((_, _, _, _, _, _, _, _, _, _), (_, _, _, _, _, _, _, _, _, _), (_, _, _, _, _, _, _, _, _, _), (_, _, _, _, _, _, _, _, _, _), (_, _, _, _, _, _, _, _, _, _), (_, _, _, _, _, _, _, _, _, _), (_, _, _, _, _, _, _, _, _, _), (_, _, _, _, _, _, _, _, _, _), (_, _, _, _, _, _, _))) ?_; rintro ⟨⟨jk5, jk6, jk7, jk8, jk9, jk10, jk11, jk12, jk13, jk14⟩, ⟨jk24, jk25, jk26, jk27, jk28, jk29, jk30, jk31, jk32, jk33⟩, ⟨jk34, jk35, jk36, jk37, jk38, jk39, jk40, jk41, jk42, jk43⟩, ⟨jk44, jk45, jk46, jk47, jk48, jk49, jk50, jk51, jk52, jk53⟩, ⟨jk54, jk55, jk56, jk57, jk58, jk59, jk60, jk61, jk62, jk63⟩, ⟨jk64, jk65, jk66, jk67, jk68, jk69, jk70, jk71, jk72, jk73⟩, ⟨jk74, jk75, jk76, jk77, jk78, jk79, jk80, jk81, jk82, jk83⟩, ⟨jk84, jk85, jk86, jk87, jk88, jk89, jk90, jk91, jk92, jk93⟩, ⟨jk94, jk95, jk96, jk97, jk98, jk99, jk100⟩⟩; dsimp only
  have HBX := Lib.hid (((Grew.below hb9) _ (World.lt_of_get HBX8.out)).trans HBX8.out)
  have HBY := Lib.hid (((Grew.below hb9) _ (World.lt_of_get HBY8.out)).trans HBY8.out)
  have hbw9 : Below W.heap.size W W2 := Below.then hbw8 hb9
  have Hx := Lib.hid (View.rdBelow Hx8.out hb9)
  have Hy := Lib.hid (View.rdBelow Hy8.out hb9)
  have hf2 := View.rdBelow HF8.out hb9
  clear HBX8 HBY8 HBE8 Hx8 Hy8 He8 HL8 HI8 HF8 HYA HNA hyy hnn hbb hb9 hbw8 g0 g1 g2 g3 g4 g5 g6 g7 g8 g9 lg
  obtain ⟨ao, cap, ecap, hc1, hc2, hnil, hcell⟩ := vSlice.shape hf2
  cases ecap
  have HX := Lib.hid hcell
  have HF := Lib.hid hf2
  clear hcell hnil hf2
  unfold maxLen at hc2
  go_loopw [17] (fun k wr => ∃ (n : Nat), k = .int .i64 n ∧ n ≤ fs.length ∧ Below W2.heap.size W2 wr) (fun k _ => fs.length - (intOf k).toNat)
  case atStart => exact ⟨0, rfl, by omega, Below.refl _ _⟩
  case round =>
    obtain ⟨n, rfl, hn, hbel⟩ := hrel
    obtain ⟨X, rfl⟩ := hbel.ext
    by_cases hlt : (n : Int) < fs.length
    · have hk : n < fs.length := by omega
      obtain ⟨b, off, csx, rfl, hbl1, hrd, hcell⟩ := HX.out n hk
      have hlaw := fun m hm h0 h1 h2 h3 => oldest_law fs HID.out n m hk hm h0 h1 h2 h3
      rw [← HBEST.out] at hlaw
      generalize fs[n] = d at hrd hlaw
      have HD := Lib.hid hrd
      obtain ⟨e0, g0, e1, g1, e2, g2, e3, g3, e4, g4, rfl⟩ := vTx_shape hrd
      clear hrd
      have y0 := hcell 0 _ rfl; have y1 := hcell 1 _ rfl; have y2 := hcell 2 _ rfl; have y3 := hcell 3 _ rfl; have y4 := hcell 4 _ rfl; have y5 := hcell 5 _ rfl; have y6 := hcell 6 _ rfl; have y7 := hcell 7 _ rfl; have y8 := hcell 8 _ rfl; have y9 := hcell 9 _ rfl
      clear hcell
      simp only [show vTx.k = 10 from rfl, Nat.add_zero] at y0 y1 y2 y3 y4 y5 y6 y7 y8 y9
      have HLAW := Lib.hid hlaw
      clear hlaw
      (try simp only []); repeat (first | go_skip | go_guarded | go_step | go_upon | go_back)
      go_loopw [18] (fun k wr => ∃ (m : Nat), k = .int .i64 m ∧ m ≤ fs.length ∧ Below W2.heap.size W2 wr) (fun k _ => fs.length - (intOf k).toNat)
      case atStart => exact ⟨0, rfl, by omega, (by repeat (first | with_reducible exact Below.refl _ _ | with_reducible apply Below.ofExt | with_reducible apply Below.ofAlloc | with_reducible apply Below.drew | with_reducible apply Below.ofDrewN | with_reducible assumption | (with_reducible refine Below.setCell ?_ (by first | exact Nat.le_refl _ | (simp [go_sem]; done) | (simp [go_sem]; omega)) _)))⟩
      case round =>
        obtain ⟨m, rfl, hm, hbel⟩ := hrel
        obtain ⟨X, rfl⟩ := hbel.ext
        by_cases hlm : (m : Int) < fs.length
        · by_cases hbp : best > 0
          · have hkm : m < fs.length := by omega
            obtain ⟨b2, off2, csy, eb, hbl2, hrd2, hcell2⟩ := HX.out m hkm
            simp only [Option.some.injEq, Addr.mk.injEq, and_true] at eb
            obtain ⟨rfl, rfl⟩ := eb
            have hlaw := HLAW.out m hkm hbp
            generalize fs[m] = dj at hrd2 hlaw
            have HJ := Lib.hid hrd2
            obtain ⟨r0, s0, r1, s1, r2, s2, r3, s3, r4, s4, rfl⟩ := vTx_shape hrd2
            clear hrd2
            have z0 := hcell2 0 _ rfl; have z1 := hcell2 1 _ rfl; have z2 := hcell2 2 _ rfl; have z3 := hcell2 3 _ rfl; have z4 := hcell2 4 _ rfl; have z5 := hcell2 5 _ rfl; have z6 := hcell2 6 _ rfl; have z7 := hcell2 7 _ rfl; have z8 := hcell2 8 _ rfl; have z9 := hcell2 9 _ rfl
            clear hcell2
            simp only [show vTx.k = 10 from rfl, Nat.add_zero] at z0 z1 z2 z3 z4 z5 z6 z7 z8 z9
            have HLW := Lib.hid hlaw
            clear hlaw
            by_cases c0 : dj.id = best
            case neg =>
              have k0 : (dj.id == best) = false := by simp [c0]
              (try simp only []); repeat (first | go_skip | go_guarded | go_step | go_upon | go_back)
              go_quiet (fail)
              (try simp only []); repeat (first | go_skip | go_guarded | go_step | go_upon | go_back)
              exact ⟨⟨m + 1, by go_num, by omega, (by repeat (first | with_reducible exact Below.refl _ _ | with_reducible apply Below.ofExt | with_reducible apply Below.ofAlloc | with_reducible apply Below.drew | with_reducible apply Below.ofDrewN | with_reducible assumption | (with_reducible refine Below.setCell ?_ (by first | exact Nat.le_refl _ | (simp [go_sem]; done) | (simp [go_sem]; omega)) _)))⟩, by simp [intOf]; omega⟩
            have k0 : (dj.id == best) = true := by simp [c0]
            by_cases c1 : d.id = best
            case pos =>
              have k1 : (d.id != best) = false := by simp [c1]
              (try simp only []); repeat (first | go_skip | go_guarded | go_step | go_upon | go_back)
              go_quiet (fail)
              (try simp only []); repeat (first | go_skip | go_guarded | go_step | go_upon | go_back)
              exact ⟨⟨m + 1, by go_num, by omega, (by repeat (first | with_reducible exact Below.refl _ _ | with_reducible apply Below.ofExt | with_reducible apply Below.ofAlloc | with_reducible apply Below.drew | with_reducible apply Below.ofDrewN | with_reducible assumption | (with_reducible refine Below.setCell ?_ (by first | exact Nat.le_refl _ | (simp [go_sem]; done) | (simp [go_sem]; omega)) _)))⟩, by simp [intOf]; omega⟩
            have k1 : (d.id != best) = true := by simp [c1]
            by_cases c2 : d.state = 1
            case neg =>
              have k2 : (d.state == 1) = false := by simp [c2]
              (try simp only []); repeat (first | go_skip | go_guarded | go_step | go_upon | go_back)
              go_quiet (fail)
              (try simp only []); repeat (first | go_skip | go_guarded | go_step | go_upon | go_back)
              exact ⟨⟨m + 1, by go_num, by omega, (by repeat (first | with_reducible exact Below.refl _ _ | with_reducible apply Below.ofExt | with_reducible apply Below.ofAlloc | with_reducible apply Below.drew | with_reducible apply Below.ofDrewN | with_reducible assumption | (with_reducible refine Below.setCell ?_ (by first | exact Nat.le_refl _ | (simp [go_sem]; done) | (simp [go_sem]; omega)) _)))⟩, by simp [intOf]; omega⟩
            have k2 : (d.state == 1) = true := by simp [c2]
            by_cases c3 : dj.state = 1
            case neg =>
              have k3 : (dj.state == 1) = false := by simp [c3]
              (try simp only []); repeat (first | go_skip | go_guarded | go_step | go_upon | go_back)
              go_quiet (fail)
              (try simp only []); repeat (first | go_skip | go_guarded | go_step | go_upon | go_back)
              exact ⟨⟨m + 1, by go_num, by omega, (by repeat (first | with_reducible exact Below.refl _ _ | with_reducible apply Below.ofExt | with_reducible apply Below.ofAlloc | with_reducible apply Below.drew | with_reducible apply Below.ofDrewN | with_reducible assumption | (with_reducible refine Below.setCell ?_ (by first | exact Nat.le_refl _ | (simp [go_sem]; done) | (simp [go_sem]; omega)) _)))⟩, by simp [intOf]; omega⟩
            have k3 : (dj.state == 1) = true := by simp [c3]
            have hj2 := HJ.out
            rw [c0, c3] at hj2
            have hd2 := HD.out
            rw [c2] at hd2
            have HJ2 := Lib.hid hj2
            have HD2 := Lib.hid hd2
            clear hj2 hd2
            have hol := HLW.out c0 c1 c2
            have HOL := Lib.hid hol
            clear hol
            (try simp only []); repeat (first | go_skip | go_guarded | go_step | go_upon | go_back)
            refine wp_region_ord [(0,true),(1,true),(2,true),(3,true),(4,true),(5,true),(6,true),(7,true),(8,true),(9,true),(10,true),(11,true),(12,true),(13,true),(14,true),(15,true),(16,true),(17,true),(18,true),(19,true),(20,true),(21,true),(22,true),(23,true),(24,true),(25,true),(26,true),(27,true),(28,true),(29,true),(30,true),(31,true),(32,true),(33,true),(34,true),(35,true),(36,true),(37,true),(38,true),(39,true),(40,true),(41,false),(42,true),(43,true)] 44 (by kernel_rfl) (by kernel_rfl) ?_
            repeat (refine wpOrd_quiet rfl (fun K hK => ?_); go_simp; (try simp (disch := omega) only [IntWalk.i64_in]); refine hK _ ?_; clear hK K)
            refine wpOrd_grow rfl (fun K hK => ?_); go_simp; go_at_call 11; refine (impl_Older _ dj _ d _ (by (try simp only [← Array.append_assoc]); (repeat (first | with_reducible exact HJ2.out | with_reducible exact View.rdSameA HJ2.out | with_reducible apply View.rdMerge | with_reducible apply View.rdExt | with_reducible apply View.rdAlloc | with_reducible apply View.rdDrew)); all_goals exact (0 : Nat)) (by (try simp only [← Array.append_assoc]); (repeat (first | with_reducible exact HD2.out | with_reducible exact View.rdSameA HD2.out | with_reducible apply View.rdMerge | with_reducible apply View.rdExt | with_reducible apply View.rdAlloc | with_reducible apply View.rdDrew)); all_goals exact (0 : Nat))).mono ?_; rintro e w' ⟨rfl, hb⟩; obtain ⟨X, rfl⟩ := hb.ext; clear hb; try go_simp; refine hK _ _ (by show Sx _ _; (try simp only [← Array.append_assoc]); repeat (first | with_reducible exact Sx.sameA _ _ _ _ _ | with_reducible exact Sx.drew _ | with_reducible exact Sx.same _ _ _ _ | with_reducible exact ⟨_, rfl⟩ | with_reducible apply Sx.more | with_reducible apply Sx.ext | with_reducible apply Sx.alloc | with_reducible apply Sx.draw | with_reducible exact Sx.refl _)) ?_; clear hK K
            rw [HOL.out]
            repeat (refine wpOrd_quiet rfl (fun K hK => ?_); go_simp; (try simp (disch := omega) only [IntWalk.i64_in]); refine hK _ ?_; clear hK K)
            refine wpOrd_nil ?_
            (try simp only []); repeat (first | go_skip | go_guarded | go_step | go_upon | go_back)
            exact ⟨⟨m + 1, by go_num, by omega, (by repeat (first | with_reducible exact Below.refl _ _ | with_reducible apply Below.ofExt | with_reducible apply Below.ofAlloc | with_reducible apply Below.drew | with_reducible apply Below.ofDrewN | with_reducible assumption | (with_reducible refine Below.setCell ?_ (by first | exact Nat.le_refl _ | (simp [go_sem]; done) | (simp [go_sem]; omega)) _)))⟩, by simp [intOf]; omega⟩
          · (try simp only []); repeat (first | go_skip | go_guarded | go_step | go_upon | go_back)
            exact ⟨⟨n + 1, by go_num, by omega, (by repeat (first | with_reducible exact Below.refl _ _ | with_reducible apply Below.ofExt | with_reducible apply Below.ofAlloc | with_reducible apply Below.drew | with_reducible apply Below.ofDrewN | with_reducible assumption | (with_reducible refine Below.setCell ?_ (by first | exact Nat.le_refl _ | (simp [go_sem]; done) | (simp [go_sem]; omega)) _)))⟩, by simp [intOf]; omega⟩
        · (try simp only []); repeat (first | go_skip | go_guarded | go_step | go_upon | go_back)
          exact ⟨⟨n + 1, by go_num, by omega, (by repeat (first | with_reducible exact Below.refl _ _ | with_reducible apply Below.ofExt | with_reducible apply Below.ofAlloc | with_reducible apply Below.drew | with_reducible apply Below.ofDrewN | with_reducible assumption | (with_reducible refine Below.setCell ?_ (by first | exact Nat.le_refl _ | (simp [go_sem]; done) | (simp [go_sem]; omega)) _)))⟩, by simp [intOf]; omega⟩
    · have hbw10 : Below W.heap.size W (W2.ext X) := Below.then hbw9 hbel
      have HBX10 := Lib.hid (((Grew.below hbel) _ (World.lt_of_get HBX.out)).trans HBX.out)
      have HBY10 := Lib.hid (((Grew.below hbel) _ (World.lt_of_get HBY.out)).trans HBY.out)
      have Hx10 := Lib.hid (View.rdBelow Hx.out hbel)
      have Hy10 := Lib.hid (View.rdBelow Hy.out hbel)
      clear HBX HBY Hx Hy HX HF HBEST HID
      generalize W2.ext X = w10 at *
      clear hbel hbw9
      obtain ⟨U, hU⟩ : ∃ U, U = (((w10.alloc (.cells #[.string ⟨#[97]⟩] 9)).alloc (.cells #[.int .i64 1, .int .i64 1, .int .i64 0, .int .i64 0, .slice none 0 0, .slice none 0 0, .slice none 0 0, .slice (some ⟨w10.heap.size, 0, none⟩) 1 1, .slice none 0 0, .int .i64 1] 31)).alloc (.cells #[.int .i64 1, .int .i64 1, .int .i64 0, .int .i64 0, .slice none 0 0, .slice none 0 0, .slice none 0 0, .slice (some ⟨w10.heap.size, 0, none⟩) 1 1, .slice none 0 0, .int .i64 1] 31)).alloc (.cells #[.string ⟨#[97]⟩] 9) := ⟨_, rfl⟩
      have h4 := heap4 w10 (.cells #[.string ⟨#[97]⟩] 9) (.cells #[.int .i64 1, .int .i64 1, .int .i64 0, .int .i64 0, .slice none 0 0, .slice none 0 0, .slice none 0 0, .slice (some ⟨w10.heap.size, 0, none⟩) 1 1, .slice none 0 0, .int .i64 1] 31) (.cells #[.int .i64 1, .int .i64 1, .int .i64 0, .int .i64 0, .slice none 0 0, .slice none 0 0, .slice none 0 0, .slice (some ⟨w10.heap.size, 0, none⟩) 1 1, .slice none 0 0, .int .i64 1] 31) (.cells #[.string ⟨#[97]⟩] 9) w10.heap.size rfl
      have BU : Below w10.heap.size w10 ((((w10.alloc (.cells #[.string ⟨#[97]⟩] 9)).alloc (.cells #[.int .i64 1, .int .i64 1, .int .i64 0, .int .i64 0, .slice none 0 0, .slice none 0 0, .slice none 0 0, .slice (some ⟨w10.heap.size, 0, none⟩) 1 1, .slice none 0 0, .int .i64 1] 31)).alloc (.cells #[.int .i64 1, .int .i64 1, .int .i64 0, .int .i64 0, .slice none 0 0, .slice none 0 0, .slice none 0 0, .slice (some ⟨w10.heap.size, 0, none⟩) 1 1, .slice none 0 0, .int .i64 1] 31)).alloc (.cells #[.string ⟨#[97]⟩] 9)) := (by repeat (first | with_reducible exact Below.refl _ _ | with_reducible apply Below.ofExt | with_reducible apply Below.ofAlloc | with_reducible apply Below.drew | with_reducible apply Below.ofDrewN | with_reducible assumption | (with_reducible refine Below.setCell ?_ (by first | exact Nat.le_refl _ | (simp [go_sem]; done) | (simp [go_sem]; omega)) _)))
      have C11 := impl_Settle _ [oldD] _ (newD 2) _ tchD ((((w10.alloc (.cells #[.string ⟨#[97]⟩] 9)).alloc (.cells #[.int .i64 1, .int .i64 1, .int .i64 0, .int .i64 0, .slice none 0 0, .slice none 0 0, .slice none 0 0, .slice (some ⟨w10.heap.size, 0, none⟩) 1 1, .slice none 0 0, .int .i64 1] 31)).alloc (.cells #[.int .i64 1, .int .i64 1, .int .i64 0, .int .i64 0, .slice none 0 0, .slice none 0 0, .slice none 0 0, .slice (some ⟨w10.heap.size, 0, none⟩) 1 1, .slice none 0 0, .int .i64 1] 31)).alloc (.cells #[.string ⟨#[97]⟩] 9)) (rd_oldDs h4.1 h4.2.2.1) (rd_newD _ 2) (rd_tchD h4.2.2.2) (by decide)
      rw [settle_waits] at C11
      have D11 := Lib.hid C11
      have H4 := Lib.hid h4
      have HBU := Lib.hid BU
      clear C11 h4 BU hU U
      (try simp only []); repeat (first | go_skip | go_guarded | go_step | go_upon | go_back)
      (go_at_call 8; refine D11.out.mono ?_; rintro e w11 ⟨vi, fp, rfl, hf, hb11⟩)
      have hr := View.toRd _ hf.own
      obtain ⟨na7, nc7, rfl⟩ := vSlice.form hr
      have HS11 := Lib.hid (((Grew.below hb11) _ (World.lt_of_get H4.out.1)).trans H4.out.1)
      have HO11 := Lib.hid (((Grew.below hb11) _ (World.lt_of_get H4.out.2.1)).trans H4.out.2.1)
      have b1 := Below.then HBU.out hb11
      have HBX11 := Lib.hid (((Grew.below b1) _ (World.lt_of_get HBX10.out)).trans HBX10.out)
      have HBY11 := Lib.hid (((Grew.below b1) _ (World.lt_of_get HBY10.out)).trans HBY10.out)
      have hbw11 : Below W.heap.size W w11 := Below.then hbw10 b1
      have Hx11 := Lib.hid (View.rdBelow Hx10.out b1)
      have Hy11 := Lib.hid (View.rdBelow Hy10.out b1)
      clear hr hf D11 H4 HBU b1 hb11 HBX10 HBY10 Hx10 Hy10 hbw10
      have hco := fun j u (hj : ([.int .i64 1, .int .i64 1, .int .i64 0, .int .i64 0, .slice none 0 0, .slice none 0 0, .slice none 0 0, .slice (some ⟨w10.heap.size, 0, none⟩) 1 1, .slice none 0 0, .int .i64 1] : List Value)[j]? = some u) => (World.cell?_of_get (i := j) HO11.out).trans (by simpa using hj)
      have o0 := hco 0 _ rfl; have o1 := hco 1 _ rfl; have o2 := hco 2 _ rfl; have o3 := hco 3 _ rfl; have o4 := hco 4 _ rfl; have o5 := hco 5 _ rfl; have o6 := hco 6 _ rfl; have o7 := hco 7 _ rfl; have o8 := hco 8 _ rfl; have o9 := hco 9 _ rfl
      have lo := World.lt_of_get HO11.out
      clear hco
      have h2 := heap2 w11 (.cells #[.int .i64 1, .int .i64 1, .int .i64 0, .int .i64 0, .slice none 0 0, .slice none 0 0, .slice none 0 0, .slice (some ⟨w10.heap.size, 0, none⟩) 1 1, .slice none 0 0, .int .i64 1] 31) (.cells #[.string ⟨#[97]⟩] 9) w11.heap.size rfl
      have BV : Below w11.heap.size w11 ((w11.alloc (.cells #[.int .i64 1, .int .i64 1, .int .i64 0, .int .i64 0, .slice none 0 0, .slice none 0 0, .slice none 0 0, .slice (some ⟨w10.heap.size, 0, none⟩) 1 1, .slice none 0 0, .int .i64 1] 31)).alloc (.cells #[.string ⟨#[97]⟩] 9)) := (by repeat (first | with_reducible exact Below.refl _ _ | with_reducible apply Below.ofExt | with_reducible apply Below.ofAlloc | with_reducible apply Below.drew | with_reducible apply Below.ofDrewN | with_reducible assumption | (with_reducible refine Below.setCell ?_ (by first | exact Nat.le_refl _ | (simp [go_sem]; done) | (simp [go_sem]; omega)) _)))
      have C12 := impl_Settle _ [oldD] _ (newD 0) _ tchD ((w11.alloc (.cells #[.int .i64 1, .int .i64 1, .int .i64 0, .int .i64 0, .slice none 0 0, .slice none 0 0, .slice none 0 0, .slice (some ⟨w10.heap.size, 0, none⟩) 1 1, .slice none 0 0, .int .i64 1] 31)).alloc (.cells #[.string ⟨#[97]⟩] 9)) (rd_oldDs (((Grew.below BV) _ (World.lt_of_get HS11.out)).trans HS11.out) h2.1) (rd_newD _ 0) (rd_tchD h2.2) (by decide)
      rw [settle_goes, settle_won] at C12
      have D12 := Lib.hid C12
      have HBV := Lib.hid BV
      clear C12 h2 BV
      (try simp only []); repeat (first | go_skip | go_guarded | go_step | go_upon | go_back)
      (go_at_call 8; refine D12.out.mono ?_; rintro e w12 ⟨vi, fp, rfl, hf, hb12⟩)
      have hr := View.toRd _ hf.own
      obtain ⟨na8, nc8, rfl⟩ := vSlice.form hr
      have HW3 : Hid ((vSlice vInt 3).rd w12 [.slice na8 1 nc8] [1]) := Lib.hid hr
      have b1 := Below.then HBV.out hb12
      have HBX12 := Lib.hid (((Grew.below b1) _ (World.lt_of_get HBX11.out)).trans HBX11.out)
      have HBY12 := Lib.hid (((Grew.below b1) _ (World.lt_of_get HBY11.out)).trans HBY11.out)
      have hbw12 : Below W.heap.size W w12 := Below.then hbw11 b1
      have Hx3 := Lib.hid (View.rdBelow Hx11.out b1)
      have Hy3 := Lib.hid (View.rdBelow Hy11.out b1)
      clear hr hf D12 HBV b1 hb12 HBX11 HBY11 HS11 HO11 Hx11 Hy11 hbw11 o0 o1 o2 o3 o4 o5 o6 o7 o8 o9 lo
      have hcx := fun j u (hj : ([.int .i64 dx.id, .int .i64 dx.age, .int .i64 dx.proc, .int .i64 dx.began, .slice pa0 dx.calls.length pc0, .slice pa1 dx.answers.length pc1, .slice pa2 dx.touch.reads.length pc2, .slice pa3 dx.touch.writes.length pc3, .slice pa4 dx.marks.length pc4, .int .i64 dx.state] : List Value)[j]? = some u) => (World.cell?_of_get (i := j) HBX12.out).trans (by simpa using hj)
      have x0 := hcx 0 _ rfl; have x1 := hcx 1 _ rfl; have x2 := hcx 2 _ rfl; have x3 := hcx 3 _ rfl; have x4 := hcx 4 _ rfl; have x5 := hcx 5 _ rfl; have x6 := hcx 6 _ rfl; have x7 := hcx 7 _ rfl; have x8 := hcx 8 _ rfl; have x9 := hcx 9 _ rfl
      have lx := World.lt_of_get HBX12.out
      clear hcx
      have hcy := fun j u (hj : ([.int .i64 dy.id, .int .i64 dy.age, .int .i64 dy.proc, .int .i64 dy.began, .slice qa0 dy.calls.length qc0, .slice qa1 dy.answers.length qc1, .slice qa2 dy.touch.reads.length qc2, .slice qa3 dy.touch.writes.length qc3, .slice qa4 dy.marks.length qc4, .int .i64 dy.state] : List Value)[j]? = some u) => (World.cell?_of_get (i := j) HBY12.out).trans (by simpa using hj)
      have y0 := hcy 0 _ rfl; have y1 := hcy 1 _ rfl; have y2 := hcy 2 _ rfl; have y3 := hcy 3 _ rfl; have y4 := hcy 4 _ rfl; have y5 := hcy 5 _ rfl; have y6 := hcy 6 _ rfl; have y7 := hcy 7 _ rfl; have y8 := hcy 8 _ rfl; have y9 := hcy 9 _ rfl
      have ly := World.lt_of_get HBY12.out
      clear hcy
      clear HBX12 HBY12
      by_cases ca : dx.age = dy.age
      · by_cases ci : dx.id = dy.id
        · skip
          have e1 : (dx.age == dy.age) = true := by simp [ca]
          have e2 : (dx.id == dy.id) = true := by simp [ci]
          have f1 : olderB dx dy = false := by simp [olderB, ca, ci]; try omega
          have f2 : olderB dy dx = false := by simp [olderB, ca, ci]; try omega
          have F1 := Lib.hid f1; have F2 := Lib.hid f2
          clear f1 f2 ca ci
          have d := impl_Older _ dx _ dy w12 Hx3.out Hy3.out
          rw [F1.out] at d
          have D := Lib.hid d; clear d
          (try simp only []); repeat (first | go_skip | go_guarded | go_step | go_upon | go_back)
          (go_at_call 11; refine D.out.mono ?_; rintro e w13 ⟨rfl, hc13⟩)
          clear D
          replace x0 := (Grew.below hc13).cell x0; replace x1 := (Grew.below hc13).cell x1; replace x2 := (Grew.below hc13).cell x2; replace x3 := (Grew.below hc13).cell x3; replace x4 := (Grew.below hc13).cell x4; replace x5 := (Grew.below hc13).cell x5; replace x6 := (Grew.below hc13).cell x6; replace x7 := (Grew.below hc13).cell x7; replace x8 := (Grew.below hc13).cell x8; replace x9 := (Grew.below hc13).cell x9
          replace y0 := (Grew.below hc13).cell y0; replace y1 := (Grew.below hc13).cell y1; replace y2 := (Grew.below hc13).cell y2; replace y3 := (Grew.below hc13).cell y3; replace y4 := (Grew.below hc13).cell y4; replace y5 := (Grew.below hc13).cell y5; replace y6 := (Grew.below hc13).cell y6; replace y7 := (Grew.below hc13).cell y7; replace y8 := (Grew.below hc13).cell y8; replace y9 := (Grew.below hc13).cell y9
          replace lx := Nat.lt_of_lt_of_le lx hc13.size; replace ly := Nat.lt_of_lt_of_le ly hc13.size
          have hbw13 : Below W.heap.size W w13 := Below.then hbw12 hc13
          replace Hx3 := Lib.hid (View.rdBelow Hx3.out hc13); replace Hy3 := Lib.hid (View.rdBelow Hy3.out hc13); replace HW3 := Lib.hid (View.rdBelow HW3.out hc13)
          clear hc13 hbw12
          have g2 := rd_won (alloc_newA w13 (.cells #[.int .i64 1] 3) w13.heap.size rfl)
          have g3 := laws_sameInts _ _ [1] _ (View.rdAlloc HW3.out (.cells #[.int .i64 1] 3)) g2
          have G3 := Lib.hid g3; clear g2 g3
          (try simp only []); repeat (first | go_skip | go_guarded | go_step | go_upon | go_back)
          (go_at_call 10; refine G3.out.mono ?_; rintro e w20 ⟨rfl, hb20⟩)
          have hend : Below W.heap.size W w20 := Below.then hbw13 (Below.then ((Below.refl _ _).ofAlloc _) hb20)
          clear G3 hb20
          (try simp only []); repeat (first | go_skip | go_guarded | go_step | go_upon | go_back)
          go_ret
          exact ⟨rfl, hend⟩
        · by_cases cl : dx.id < dy.id
          · skip
            have e1 : (dx.age == dy.age) = true := by simp [ca]
            have e2 : (dx.id == dy.id) = false := by simp [ci]
            have f1 : olderB dx dy = true := by simp [olderB, ca, cl]; try omega
            have f2 : olderB dy dx = false := by simp [olderB, ca, cl]; try omega
            have F1 := Lib.hid f1; have F2 := Lib.hid f2
            clear f1 f2 ca ci cl
            have d := impl_Older _ dx _ dy w12 Hx3.out Hy3.out
            rw [F1.out] at d
            have D := Lib.hid d; clear d
            (try simp only []); repeat (first | go_skip | go_guarded | go_step | go_upon | go_back)
            (go_at_call 11; refine D.out.mono ?_; rintro e w13 ⟨rfl, hc13⟩)
            clear D
            replace x0 := (Grew.below hc13).cell x0; replace x1 := (Grew.below hc13).cell x1; replace x2 := (Grew.below hc13).cell x2; replace x3 := (Grew.below hc13).cell x3; replace x4 := (Grew.below hc13).cell x4; replace x5 := (Grew.below hc13).cell x5; replace x6 := (Grew.below hc13).cell x6; replace x7 := (Grew.below hc13).cell x7; replace x8 := (Grew.below hc13).cell x8; replace x9 := (Grew.below hc13).cell x9
            replace y0 := (Grew.below hc13).cell y0; replace y1 := (Grew.below hc13).cell y1; replace y2 := (Grew.below hc13).cell y2; replace y3 := (Grew.below hc13).cell y3; replace y4 := (Grew.below hc13).cell y4; replace y5 := (Grew.below hc13).cell y5; replace y6 := (Grew.below hc13).cell y6; replace y7 := (Grew.below hc13).cell y7; replace y8 := (Grew.below hc13).cell y8; replace y9 := (Grew.below hc13).cell y9
            replace lx := Nat.lt_of_lt_of_le lx hc13.size; replace ly := Nat.lt_of_lt_of_le ly hc13.size
            have hbw13 : Below W.heap.size W w13 := Below.then hbw12 hc13
            replace Hx3 := Lib.hid (View.rdBelow Hx3.out hc13); replace Hy3 := Lib.hid (View.rdBelow Hy3.out hc13); replace HW3 := Lib.hid (View.rdBelow HW3.out hc13)
            clear hc13 hbw12
            have d := impl_Older _ dy _ dx w13 Hy3.out Hx3.out
            rw [F2.out] at d
            have D := Lib.hid d; clear d
            (try simp only []); repeat (first | go_skip | go_guarded | go_step | go_upon | go_back)
            (go_at_call 11; refine D.out.mono ?_; rintro e w14 ⟨rfl, hc14⟩)
            clear D
            replace x0 := (Grew.below hc14).cell x0; replace x1 := (Grew.below hc14).cell x1; replace x2 := (Grew.below hc14).cell x2; replace x3 := (Grew.below hc14).cell x3; replace x4 := (Grew.below hc14).cell x4; replace x5 := (Grew.below hc14).cell x5; replace x6 := (Grew.below hc14).cell x6; replace x7 := (Grew.below hc14).cell x7; replace x8 := (Grew.below hc14).cell x8; replace x9 := (Grew.below hc14).cell x9
            replace y0 := (Grew.below hc14).cell y0; replace y1 := (Grew.below hc14).cell y1; replace y2 := (Grew.below hc14).cell y2; replace y3 := (Grew.below hc14).cell y3; replace y4 := (Grew.below hc14).cell y4; replace y5 := (Grew.below hc14).cell y5; replace y6 := (Grew.below hc14).cell y6; replace y7 := (Grew.below hc14).cell y7; replace y8 := (Grew.below hc14).cell y8; replace y9 := (Grew.below hc14).cell y9
            replace lx := Nat.lt_of_lt_of_le lx hc14.size; replace ly := Nat.lt_of_lt_of_le ly hc14.size
            have hbw14 : Below W.heap.size W w14 := Below.then hbw13 hc14
            replace Hx3 := Lib.hid (View.rdBelow Hx3.out hc14); replace Hy3 := Lib.hid (View.rdBelow Hy3.out hc14); replace HW3 := Lib.hid (View.rdBelow HW3.out hc14)
            clear hc14 hbw13
            have d := impl_Older _ dx _ dy w14 Hx3.out Hy3.out
            rw [F1.out] at d
            have D := Lib.hid d; clear d
            (try simp only []); repeat (first | go_skip | go_guarded | go_step | go_upon | go_back)
            (go_at_call 11; refine D.out.mono ?_; rintro e w15 ⟨rfl, hc15⟩)
            clear D
            replace x0 := (Grew.below hc15).cell x0; replace x1 := (Grew.below hc15).cell x1; replace x2 := (Grew.below hc15).cell x2; replace x3 := (Grew.below hc15).cell x3; replace x4 := (Grew.below hc15).cell x4; replace x5 := (Grew.below hc15).cell x5; replace x6 := (Grew.below hc15).cell x6; replace x7 := (Grew.below hc15).cell x7; replace x8 := (Grew.below hc15).cell x8; replace x9 := (Grew.below hc15).cell x9
            replace y0 := (Grew.below hc15).cell y0; replace y1 := (Grew.below hc15).cell y1; replace y2 := (Grew.below hc15).cell y2; replace y3 := (Grew.below hc15).cell y3; replace y4 := (Grew.below hc15).cell y4; replace y5 := (Grew.below hc15).cell y5; replace y6 := (Grew.below hc15).cell y6; replace y7 := (Grew.below hc15).cell y7; replace y8 := (Grew.below hc15).cell y8; replace y9 := (Grew.below hc15).cell y9
            replace lx := Nat.lt_of_lt_of_le lx hc15.size; replace ly := Nat.lt_of_lt_of_le ly hc15.size
            have hbw15 : Below W.heap.size W w15 := Below.then hbw14 hc15
            replace Hx3 := Lib.hid (View.rdBelow Hx3.out hc15); replace Hy3 := Lib.hid (View.rdBelow Hy3.out hc15); replace HW3 := Lib.hid (View.rdBelow HW3.out hc15)
            clear hc15 hbw14
            have g2 := rd_won (alloc_newA w15 (.cells #[.int .i64 1] 3) w15.heap.size rfl)
            have g3 := laws_sameInts _ _ [1] _ (View.rdAlloc HW3.out (.cells #[.int .i64 1] 3)) g2
            have G3 := Lib.hid g3; clear g2 g3
            (try simp only []); repeat (first | go_skip | go_guarded | go_step | go_upon | go_back)
            (go_at_call 10; refine G3.out.mono ?_; rintro e w20 ⟨rfl, hb20⟩)
            have hend : Below W.heap.size W w20 := Below.then hbw15 (Below.then ((Below.refl _ _).ofAlloc _) hb20)
            clear G3 hb20
            (try simp only []); repeat (first | go_skip | go_guarded | go_step | go_upon | go_back)
            go_ret
            exact ⟨rfl, hend⟩
          · skip
            have e1 : (dx.age == dy.age) = true := by simp [ca]
            have e2 : (dx.id == dy.id) = false := by simp [ci]
            have f1 : olderB dx dy = false := by simp [olderB, ca, cl]; try omega
            have f2 : olderB dy dx = true := by simp [olderB, ca, cl]; try omega
            have F1 := Lib.hid f1; have F2 := Lib.hid f2
            clear f1 f2 ca ci cl
            have d := impl_Older _ dx _ dy w12 Hx3.out Hy3.out
            rw [F1.out] at d
            have D := Lib.hid d; clear d
            (try simp only []); repeat (first | go_skip | go_guarded | go_step | go_upon | go_back)
            (go_at_call 11; refine D.out.mono ?_; rintro e w13 ⟨rfl, hc13⟩)
            clear D
            replace x0 := (Grew.below hc13).cell x0; replace x1 := (Grew.below hc13).cell x1; replace x2 := (Grew.below hc13).cell x2; replace x3 := (Grew.below hc13).cell x3; replace x4 := (Grew.below hc13).cell x4; replace x5 := (Grew.below hc13).cell x5; replace x6 := (Grew.below hc13).cell x6; replace x7 := (Grew.below hc13).cell x7; replace x8 := (Grew.below hc13).cell x8; replace x9 := (Grew.below hc13).cell x9
            replace y0 := (Grew.below hc13).cell y0; replace y1 := (Grew.below hc13).cell y1; replace y2 := (Grew.below hc13).cell y2; replace y3 := (Grew.below hc13).cell y3; replace y4 := (Grew.below hc13).cell y4; replace y5 := (Grew.below hc13).cell y5; replace y6 := (Grew.below hc13).cell y6; replace y7 := (Grew.below hc13).cell y7; replace y8 := (Grew.below hc13).cell y8; replace y9 := (Grew.below hc13).cell y9
            replace lx := Nat.lt_of_lt_of_le lx hc13.size; replace ly := Nat.lt_of_lt_of_le ly hc13.size
            have hbw13 : Below W.heap.size W w13 := Below.then hbw12 hc13
            replace Hx3 := Lib.hid (View.rdBelow Hx3.out hc13); replace Hy3 := Lib.hid (View.rdBelow Hy3.out hc13); replace HW3 := Lib.hid (View.rdBelow HW3.out hc13)
            clear hc13 hbw12
            have d := impl_Older _ dx _ dy w13 Hx3.out Hy3.out
            rw [F1.out] at d
            have D := Lib.hid d; clear d
            (try simp only []); repeat (first | go_skip | go_guarded | go_step | go_upon | go_back)
            (go_at_call 11; refine D.out.mono ?_; rintro e w14 ⟨rfl, hc14⟩)
            clear D
            replace x0 := (Grew.below hc14).cell x0; replace x1 := (Grew.below hc14).cell x1; replace x2 := (Grew.below hc14).cell x2; replace x3 := (Grew.below hc14).cell x3; replace x4 := (Grew.below hc14).cell x4; replace x5 := (Grew.below hc14).cell x5; replace x6 := (Grew.below hc14).cell x6; replace x7 := (Grew.below hc14).cell x7; replace x8 := (Grew.below hc14).cell x8; replace x9 := (Grew.below hc14).cell x9
            replace y0 := (Grew.below hc14).cell y0; replace y1 := (Grew.below hc14).cell y1; replace y2 := (Grew.below hc14).cell y2; replace y3 := (Grew.below hc14).cell y3; replace y4 := (Grew.below hc14).cell y4; replace y5 := (Grew.below hc14).cell y5; replace y6 := (Grew.below hc14).cell y6; replace y7 := (Grew.below hc14).cell y7; replace y8 := (Grew.below hc14).cell y8; replace y9 := (Grew.below hc14).cell y9
            replace lx := Nat.lt_of_lt_of_le lx hc14.size; replace ly := Nat.lt_of_lt_of_le ly hc14.size
            have hbw14 : Below W.heap.size W w14 := Below.then hbw13 hc14
            replace Hx3 := Lib.hid (View.rdBelow Hx3.out hc14); replace Hy3 := Lib.hid (View.rdBelow Hy3.out hc14); replace HW3 := Lib.hid (View.rdBelow HW3.out hc14)
            clear hc14 hbw13
            have d := impl_Older _ dy _ dx w14 Hy3.out Hx3.out
            rw [F2.out] at d
            have D := Lib.hid d; clear d
            (try simp only []); repeat (first | go_skip | go_guarded | go_step | go_upon | go_back)
            (go_at_call 11; refine D.out.mono ?_; rintro e w15 ⟨rfl, hc15⟩)
            clear D
            replace x0 := (Grew.below hc15).cell x0; replace x1 := (Grew.below hc15).cell x1; replace x2 := (Grew.below hc15).cell x2; replace x3 := (Grew.below hc15).cell x3; replace x4 := (Grew.below hc15).cell x4; replace x5 := (Grew.below hc15).cell x5; replace x6 := (Grew.below hc15).cell x6; replace x7 := (Grew.below hc15).cell x7; replace x8 := (Grew.below hc15).cell x8; replace x9 := (Grew.below hc15).cell x9
            replace y0 := (Grew.below hc15).cell y0; replace y1 := (Grew.below hc15).cell y1; replace y2 := (Grew.below hc15).cell y2; replace y3 := (Grew.below hc15).cell y3; replace y4 := (Grew.below hc15).cell y4; replace y5 := (Grew.below hc15).cell y5; replace y6 := (Grew.below hc15).cell y6; replace y7 := (Grew.below hc15).cell y7; replace y8 := (Grew.below hc15).cell y8; replace y9 := (Grew.below hc15).cell y9
            replace lx := Nat.lt_of_lt_of_le lx hc15.size; replace ly := Nat.lt_of_lt_of_le ly hc15.size
            have hbw15 : Below W.heap.size W w15 := Below.then hbw14 hc15
            replace Hx3 := Lib.hid (View.rdBelow Hx3.out hc15); replace Hy3 := Lib.hid (View.rdBelow Hy3.out hc15); replace HW3 := Lib.hid (View.rdBelow HW3.out hc15)
            clear hc15 hbw14
            have g2 := rd_won (alloc_newA w15 (.cells #[.int .i64 1] 3) w15.heap.size rfl)
            have g3 := laws_sameInts _ _ [1] _ (View.rdAlloc HW3.out (.cells #[.int .i64 1] 3)) g2
            have G3 := Lib.hid g3; clear g2 g3
            (try simp only []); repeat (first | go_skip | go_guarded | go_step | go_upon | go_back)
            (go_at_call 10; refine G3.out.mono ?_; rintro e w20 ⟨rfl, hb20⟩)
            have hend : Below W.heap.size W w20 := Below.then hbw15 (Below.then ((Below.refl _ _).ofAlloc _) hb20)
            clear G3 hb20
            (try simp only []); repeat (first | go_skip | go_guarded | go_step | go_upon | go_back)
            go_ret
            exact ⟨rfl, hend⟩
      · by_cases cl : dx.age < dy.age
        · skip
          have e1 : (dx.age == dy.age) = false := by simp [ca]
          have f1 : olderB dx dy = true := by simp [olderB, cl]; try omega
          have f2 : olderB dy dx = false := by simp [olderB, cl]; try omega
          have F1 := Lib.hid f1; have F2 := Lib.hid f2
          clear f1 f2 ca cl
          have d := impl_Older _ dx _ dy w12 Hx3.out Hy3.out
          rw [F1.out] at d
          have D := Lib.hid d; clear d
          (try simp only []); repeat (first | go_skip | go_guarded | go_step | go_upon | go_back)
          (go_at_call 11; refine D.out.mono ?_; rintro e w13 ⟨rfl, hc13⟩)
          clear D
          replace x0 := (Grew.below hc13).cell x0; replace x1 := (Grew.below hc13).cell x1; replace x2 := (Grew.below hc13).cell x2; replace x3 := (Grew.below hc13).cell x3; replace x4 := (Grew.below hc13).cell x4; replace x5 := (Grew.below hc13).cell x5; replace x6 := (Grew.below hc13).cell x6; replace x7 := (Grew.below hc13).cell x7; replace x8 := (Grew.below hc13).cell x8; replace x9 := (Grew.below hc13).cell x9
          replace y0 := (Grew.below hc13).cell y0; replace y1 := (Grew.below hc13).cell y1; replace y2 := (Grew.below hc13).cell y2; replace y3 := (Grew.below hc13).cell y3; replace y4 := (Grew.below hc13).cell y4; replace y5 := (Grew.below hc13).cell y5; replace y6 := (Grew.below hc13).cell y6; replace y7 := (Grew.below hc13).cell y7; replace y8 := (Grew.below hc13).cell y8; replace y9 := (Grew.below hc13).cell y9
          replace lx := Nat.lt_of_lt_of_le lx hc13.size; replace ly := Nat.lt_of_lt_of_le ly hc13.size
          have hbw13 : Below W.heap.size W w13 := Below.then hbw12 hc13
          replace Hx3 := Lib.hid (View.rdBelow Hx3.out hc13); replace Hy3 := Lib.hid (View.rdBelow Hy3.out hc13); replace HW3 := Lib.hid (View.rdBelow HW3.out hc13)
          clear hc13 hbw12
          have d := impl_Older _ dy _ dx w13 Hy3.out Hx3.out
          rw [F2.out] at d
          have D := Lib.hid d; clear d
          (try simp only []); repeat (first | go_skip | go_guarded | go_step | go_upon | go_back)
          (go_at_call 11; refine D.out.mono ?_; rintro e w14 ⟨rfl, hc14⟩)
          clear D
          replace x0 := (Grew.below hc14).cell x0; replace x1 := (Grew.below hc14).cell x1; replace x2 := (Grew.below hc14).cell x2; replace x3 := (Grew.below hc14).cell x3; replace x4 := (Grew.below hc14).cell x4; replace x5 := (Grew.below hc14).cell x5; replace x6 := (Grew.below hc14).cell x6; replace x7 := (Grew.below hc14).cell x7; replace x8 := (Grew.below hc14).cell x8; replace x9 := (Grew.below hc14).cell x9
          replace y0 := (Grew.below hc14).cell y0; replace y1 := (Grew.below hc14).cell y1; replace y2 := (Grew.below hc14).cell y2; replace y3 := (Grew.below hc14).cell y3; replace y4 := (Grew.below hc14).cell y4; replace y5 := (Grew.below hc14).cell y5; replace y6 := (Grew.below hc14).cell y6; replace y7 := (Grew.below hc14).cell y7; replace y8 := (Grew.below hc14).cell y8; replace y9 := (Grew.below hc14).cell y9
          replace lx := Nat.lt_of_lt_of_le lx hc14.size; replace ly := Nat.lt_of_lt_of_le ly hc14.size
          have hbw14 : Below W.heap.size W w14 := Below.then hbw13 hc14
          replace Hx3 := Lib.hid (View.rdBelow Hx3.out hc14); replace Hy3 := Lib.hid (View.rdBelow Hy3.out hc14); replace HW3 := Lib.hid (View.rdBelow HW3.out hc14)
          clear hc14 hbw13
          have d := impl_Older _ dx _ dy w14 Hx3.out Hy3.out
          rw [F1.out] at d
          have D := Lib.hid d; clear d
          (try simp only []); repeat (first | go_skip | go_guarded | go_step | go_upon | go_back)
          (go_at_call 11; refine D.out.mono ?_; rintro e w15 ⟨rfl, hc15⟩)
          clear D
          replace x0 := (Grew.below hc15).cell x0; replace x1 := (Grew.below hc15).cell x1; replace x2 := (Grew.below hc15).cell x2; replace x3 := (Grew.below hc15).cell x3; replace x4 := (Grew.below hc15).cell x4; replace x5 := (Grew.below hc15).cell x5; replace x6 := (Grew.below hc15).cell x6; replace x7 := (Grew.below hc15).cell x7; replace x8 := (Grew.below hc15).cell x8; replace x9 := (Grew.below hc15).cell x9
          replace y0 := (Grew.below hc15).cell y0; replace y1 := (Grew.below hc15).cell y1; replace y2 := (Grew.below hc15).cell y2; replace y3 := (Grew.below hc15).cell y3; replace y4 := (Grew.below hc15).cell y4; replace y5 := (Grew.below hc15).cell y5; replace y6 := (Grew.below hc15).cell y6; replace y7 := (Grew.below hc15).cell y7; replace y8 := (Grew.below hc15).cell y8; replace y9 := (Grew.below hc15).cell y9
          replace lx := Nat.lt_of_lt_of_le lx hc15.size; replace ly := Nat.lt_of_lt_of_le ly hc15.size
          have hbw15 : Below W.heap.size W w15 := Below.then hbw14 hc15
          replace Hx3 := Lib.hid (View.rdBelow Hx3.out hc15); replace Hy3 := Lib.hid (View.rdBelow Hy3.out hc15); replace HW3 := Lib.hid (View.rdBelow HW3.out hc15)
          clear hc15 hbw14
          have g2 := rd_won (alloc_newA w15 (.cells #[.int .i64 1] 3) w15.heap.size rfl)
          have g3 := laws_sameInts _ _ [1] _ (View.rdAlloc HW3.out (.cells #[.int .i64 1] 3)) g2
          have G3 := Lib.hid g3; clear g2 g3
          (try simp only []); repeat (first | go_skip | go_guarded | go_step | go_upon | go_back)
          (go_at_call 10; refine G3.out.mono ?_; rintro e w20 ⟨rfl, hb20⟩)
          have hend : Below W.heap.size W w20 := Below.then hbw15 (Below.then ((Below.refl _ _).ofAlloc _) hb20)
          clear G3 hb20
          (try simp only []); repeat (first | go_skip | go_guarded | go_step | go_upon | go_back)
          go_ret
          exact ⟨rfl, hend⟩
        · skip
          have e1 : (dx.age == dy.age) = false := by simp [ca]
          have f1 : olderB dx dy = false := by simp [olderB, cl]; try omega
          have f2 : olderB dy dx = true := by simp [olderB, cl]; try omega
          have F1 := Lib.hid f1; have F2 := Lib.hid f2
          clear f1 f2 ca cl
          have d := impl_Older _ dx _ dy w12 Hx3.out Hy3.out
          rw [F1.out] at d
          have D := Lib.hid d; clear d
          (try simp only []); repeat (first | go_skip | go_guarded | go_step | go_upon | go_back)
          (go_at_call 11; refine D.out.mono ?_; rintro e w13 ⟨rfl, hc13⟩)
          clear D
          replace x0 := (Grew.below hc13).cell x0; replace x1 := (Grew.below hc13).cell x1; replace x2 := (Grew.below hc13).cell x2; replace x3 := (Grew.below hc13).cell x3; replace x4 := (Grew.below hc13).cell x4; replace x5 := (Grew.below hc13).cell x5; replace x6 := (Grew.below hc13).cell x6; replace x7 := (Grew.below hc13).cell x7; replace x8 := (Grew.below hc13).cell x8; replace x9 := (Grew.below hc13).cell x9
          replace y0 := (Grew.below hc13).cell y0; replace y1 := (Grew.below hc13).cell y1; replace y2 := (Grew.below hc13).cell y2; replace y3 := (Grew.below hc13).cell y3; replace y4 := (Grew.below hc13).cell y4; replace y5 := (Grew.below hc13).cell y5; replace y6 := (Grew.below hc13).cell y6; replace y7 := (Grew.below hc13).cell y7; replace y8 := (Grew.below hc13).cell y8; replace y9 := (Grew.below hc13).cell y9
          replace lx := Nat.lt_of_lt_of_le lx hc13.size; replace ly := Nat.lt_of_lt_of_le ly hc13.size
          have hbw13 : Below W.heap.size W w13 := Below.then hbw12 hc13
          replace Hx3 := Lib.hid (View.rdBelow Hx3.out hc13); replace Hy3 := Lib.hid (View.rdBelow Hy3.out hc13); replace HW3 := Lib.hid (View.rdBelow HW3.out hc13)
          clear hc13 hbw12
          have d := impl_Older _ dx _ dy w13 Hx3.out Hy3.out
          rw [F1.out] at d
          have D := Lib.hid d; clear d
          (try simp only []); repeat (first | go_skip | go_guarded | go_step | go_upon | go_back)
          (go_at_call 11; refine D.out.mono ?_; rintro e w14 ⟨rfl, hc14⟩)
          clear D
          replace x0 := (Grew.below hc14).cell x0; replace x1 := (Grew.below hc14).cell x1; replace x2 := (Grew.below hc14).cell x2; replace x3 := (Grew.below hc14).cell x3; replace x4 := (Grew.below hc14).cell x4; replace x5 := (Grew.below hc14).cell x5; replace x6 := (Grew.below hc14).cell x6; replace x7 := (Grew.below hc14).cell x7; replace x8 := (Grew.below hc14).cell x8; replace x9 := (Grew.below hc14).cell x9
          replace y0 := (Grew.below hc14).cell y0; replace y1 := (Grew.below hc14).cell y1; replace y2 := (Grew.below hc14).cell y2; replace y3 := (Grew.below hc14).cell y3; replace y4 := (Grew.below hc14).cell y4; replace y5 := (Grew.below hc14).cell y5; replace y6 := (Grew.below hc14).cell y6; replace y7 := (Grew.below hc14).cell y7; replace y8 := (Grew.below hc14).cell y8; replace y9 := (Grew.below hc14).cell y9
          replace lx := Nat.lt_of_lt_of_le lx hc14.size; replace ly := Nat.lt_of_lt_of_le ly hc14.size
          have hbw14 : Below W.heap.size W w14 := Below.then hbw13 hc14
          replace Hx3 := Lib.hid (View.rdBelow Hx3.out hc14); replace Hy3 := Lib.hid (View.rdBelow Hy3.out hc14); replace HW3 := Lib.hid (View.rdBelow HW3.out hc14)
          clear hc14 hbw13
          have d := impl_Older _ dy _ dx w14 Hy3.out Hx3.out
          rw [F2.out] at d
          have D := Lib.hid d; clear d
          (try simp only []); repeat (first | go_skip | go_guarded | go_step | go_upon | go_back)
          (go_at_call 11; refine D.out.mono ?_; rintro e w15 ⟨rfl, hc15⟩)
          clear D
          replace x0 := (Grew.below hc15).cell x0; replace x1 := (Grew.below hc15).cell x1; replace x2 := (Grew.below hc15).cell x2; replace x3 := (Grew.below hc15).cell x3; replace x4 := (Grew.below hc15).cell x4; replace x5 := (Grew.below hc15).cell x5; replace x6 := (Grew.below hc15).cell x6; replace x7 := (Grew.below hc15).cell x7; replace x8 := (Grew.below hc15).cell x8; replace x9 := (Grew.below hc15).cell x9
          replace y0 := (Grew.below hc15).cell y0; replace y1 := (Grew.below hc15).cell y1; replace y2 := (Grew.below hc15).cell y2; replace y3 := (Grew.below hc15).cell y3; replace y4 := (Grew.below hc15).cell y4; replace y5 := (Grew.below hc15).cell y5; replace y6 := (Grew.below hc15).cell y6; replace y7 := (Grew.below hc15).cell y7; replace y8 := (Grew.below hc15).cell y8; replace y9 := (Grew.below hc15).cell y9
          replace lx := Nat.lt_of_lt_of_le lx hc15.size; replace ly := Nat.lt_of_lt_of_le ly hc15.size
          have hbw15 : Below W.heap.size W w15 := Below.then hbw14 hc15
          replace Hx3 := Lib.hid (View.rdBelow Hx3.out hc15); replace Hy3 := Lib.hid (View.rdBelow Hy3.out hc15); replace HW3 := Lib.hid (View.rdBelow HW3.out hc15)
          clear hc15 hbw14
          have g2 := rd_won (alloc_newA w15 (.cells #[.int .i64 1] 3) w15.heap.size rfl)
          have g3 := laws_sameInts _ _ [1] _ (View.rdAlloc HW3.out (.cells #[.int .i64 1] 3)) g2
          have G3 := Lib.hid g3; clear g2 g3
          (try simp only []); repeat (first | go_skip | go_guarded | go_step | go_upon | go_back)
          (go_at_call 10; refine G3.out.mono ?_; rintro e w20 ⟨rfl, hb20⟩)
          have hend : Below W.heap.size W w20 := Below.then hbw15 (Below.then ((Below.refl _ _).ofAlloc _) hb20)
          clear G3 hb20
          (try simp only []); repeat (first | go_skip | go_guarded | go_step | go_upon | go_back)
          go_ret
          exact ⟨rfl, hend⟩
end Go.Proofs.Ytmhopglbgaijiaa
