/- What the laws on ages draw: the program's and the reference's. Each condition stands in its theorem. -/
import Derived.Test.YtmhopglbgaijiaaDa
import Derived.Test.YtmhopglbgaijiaaLive
set_option linter.unusedVariables false
set_option linter.unusedSimpArgs false
namespace Go.Proofs.Ytmhopglbgaijiaa
open Go.ChangeShapes Go.WideShapes Go.ChangeAt Go.RowKit

theorem own_setB {α : Type} {V : View α} {w : World} {fp : List Nat} {cs : List Value} {d : α} {p : Nat} (h : V.own w fp cs d) (hp : ∀ b ∈ fp, b ≠ p) (o : Obj) : V.own (w.setB p o) fp cs d := V.frame h fun b hb => World.setB_get _ _ _ _ (hp b hb)
theorem own_got {α : Type} {V : View α} {w w' : World} {fp : List Nat} {cs : List Value} {d : α} {p : Nat} {o : Obj} (h : V.own w fp cs d) (g : Got p w o w') (hp : ∀ b ∈ fp, b ≠ p) : V.own w' fp cs d := V.frame h fun b hb => g.other (V.lt h b hb) (hp b hb)
theorem _root_.Go.Got.toBelowA {a w w' : World} {p : Nat} {o : Obj} (h : Got p w o w') (hb : Below a.heap.size a w) (hp : a.heap.size ≤ p) : Below a.heap.size a w' := by
  obtain ⟨X, rfl⟩ := h
  refine hb.trans ⟨rfl, rfl, rfl, by rw [World.ext_size, World.setB_size]; omega, fun k hk => ?_⟩
  have := hb.size
  rw [World.ext_get _ _ (by rw [World.setB_size]; omega), World.setB_get _ _ _ _ (by omega)]
theorem _root_.Go.RowKit.Below.pastA {a w : World} (h : Below a.heap.size a w) {b : Nat} (hb : a.heap.size ≤ b) (o : Obj) : Below a.heap.size a (w.setB b o) :=
  h.trans ⟨rfl, rfl, rfl, by rw [World.setB_size]; exact Nat.le_refl _, fun k hk => World.setB_get _ _ _ _ (by omega)⟩
theorem alloc_newA (w : World) (o : Obj) (b : Nat) (h : b = w.heap.size) : (w.alloc o).heap[b]? = some o := by subst h; exact World.alloc_new w o
theorem laws_big (v : Value) (n : Nat) (cs : List Value) (w : World) (hs : Sl w v n cs) : Calls Try.prog 5 #[v] w fun e w' => e = .returned (.bool (decide (1048576 < n))) ∧ w = w' := by
  obtain ⟨ao, cap, rfl, hc1, hc2, hnil, hcell⟩ := hs.shape
  clear hs hnil hcell
  by_cases h : (1048576 : Int) < n
  · have h' : 1048576 < n := by omega
    rw [decide_eq_true h']
    go_enter Try.func5, Try.ntmps5
    go_wp2
    go_ret
    exact ⟨rfl, rfl⟩
  · have h' : ¬ 1048576 < n := by omega
    rw [decide_eq_false h']
    go_enter Try.func5, Try.ntmps5
    go_wp2
    go_ret
    exact ⟨rfl, rfl⟩
theorem spec_DrawOldestLive (v : Value) (bs : List UInt8) (w : World) (hs : Sl w v bs.length (bytesOf bs)) (hl : bs.length ≤ 140737488351232) (hb : ∀ b, v.ownBlock = some b → b < w.heap.size) :
    Calls Try.prog 14 #[v] w fun e w' => ∃ (u : Value) (ds : List TxD), e = .returned u ∧ (vSlice vTx 31).rd w' [u] ds ∧ ds.length ≤ 4 ∧ (∀ x ∈ ds, 0 ≤ x.age ∧ x.age ≤ 5) ∧ IdsUp ds ∧ Below w.heap.size w w' := by
  go_enter Try.func14, Try.ntmps14
  go_wp2_with fail
  (go_at_call 29; refine (spec_l01New v bs _ hs hl hb).mono ?_; rintro e w1 ⟨p, rfl, ⟨h, hc⟩, hb1, hp⟩)
  go_wp2_with fail
  (go_at_call 31; refine (spec_l20ListA p v bs _ _ _ hc).mono ?_; rintro e w2 ⟨u, ds, fp, i2, h2, rfl, ho, _, hn, hx, hid, hg2, hi0, hi1⟩)
  have hb2 := hg2.toBelowA hb1 hp
  go_wp2
  go_ret
  exact ⟨_, ds, rfl, View.toRd _ ho, hn, hx, hid, hb2⟩
set_option maxRecDepth 100000 in
theorem spec_DrawOlder (v : Value) (bs : List UInt8) (w : World) (hs : Sl w v bs.length (bytesOf bs)) (hl : bs.length ≤ 140737488351232) (hb : ∀ b, v.ownBlock = some b → b < w.heap.size) :
    Calls Try.prog 6 #[v] w fun e w' => ∃ (x y : TxR) (dx dy : TxD), e = .returned (.tuple #[x.v, y.v]) ∧ vTx.rd w' x.cells dx ∧ vTx.rd w' y.cells dy ∧ Below w.heap.size w w' := by
  have HS := Lib.hid hs
  have HB := Lib.hid hb
  clear hs hb
  go_enter Try.func6, Try.ntmps6
  go_wp2_with fail
  (go_at_call 29; refine (spec_l01New v bs _ ((HS.out.alloc _).alloc _) hl (fun b hb => by have := HB.out b hb; simp; omega)).mono ?_; rintro e w1 ⟨p, rfl, ⟨h, hc⟩, hb1, hp⟩)
  have hz1 := hb1.size
  simp at hp hz1
  have hpl := hc.lt
  go_wp2_with fail
  (go_at_call 30; refine (spec_l20SmallA p v bs _ _ _ hc).mono ?_; rintro e w2 ⟨x, dx, fx, i2, h2, rfl, hox, hlx, _, _, hg2, hi0, hi1⟩)
  have hc2 := hc.got hg2 hi0 hi1
  have HOX := Lib.hid hox
  have HLX := Lib.hid hlx
  clear hox hlx
  go_wp2_with fail
  (go_at_call 30; refine (spec_l20SmallA p v bs _ _ _ hc2).mono ?_; rintro e w3 ⟨y, dy, fy, i3, h3, rfl, hoy, hly, _, _, hg3, hj0, hj1⟩)
  have HOY := Lib.hid hoy
  have HLY := Lib.hid hly
  clear hoy hly
  have hz2 := hg2.size
  have hz3 := hg3.size
  have HOX3 : Hid (vTx.own w3 fx x.cells dx) := own_got HOX.out hg3 (fun b hb => by have := HLX.out b hb; omega)
  have hb3 := ((hg3.toBelowA (hg2.toBelowA hb1 (by simp; omega)) (by simp; omega)))
  have hbw : Below w.heap.size w w3 := by
    obtain ⟨X, rfl⟩ := hb3.ext
    exact (((Below.refl _ w).ofAlloc _).ofAlloc _).ofExt _
  have e0 := (hb3.block w.heap.size (by simp; omega)).trans ((Below.heap_alloc _ _ _ (by simp)).trans (World.alloc_new w _))
  have e1 := (hb3.block (w.heap.size + 1) (by simp)).trans (alloc_newA _ _ (w.heap.size + 1) (by simp))
  have hl0 := World.lt_of_get e0
  have hl1 := World.lt_of_get e1
  have hne : w.heap.size ≠ w.heap.size + 1 := by omega
  have hne' : w.heap.size + 1 ≠ w.heap.size := by omega
  have e0' := (World.setB_get w3 (w.heap.size + 1) (Obj.cells #[Value.int IntKind.i64 0, Value.int IntKind.i64 0, Value.int IntKind.i64 0, Value.int IntKind.i64 0, Value.slice none 0 0, Value.slice none 0 0, Value.slice none 0 0, Value.slice none 0 0, Value.slice none 0 0, Value.int IntKind.i64 0] 31) w.heap.size hne).trans e0
  rw [← World.setB_self e1, ← World.setB_self e0']
  unfold TxR.v Raw.v
  clear e0 e1 e0' hb3
  go_wp2
  refine bodyPost_ret (by simp [results, Try.results6, go_sem, hl0, hl1]; rfl) rfl ?_
  refine ⟨x, y, dx, dy, rfl, View.toRd _ (own_setB (p := w.heap.size) (own_setB (p := w.heap.size + 1) HOX3.out (fun b hb => by have := HLX.out b hb; omega) _) (fun b hb => by have := HLX.out b hb; omega) _), View.toRd _ (own_setB (p := w.heap.size) (own_setB (p := w.heap.size + 1) HOY.out (fun b hb => by have := HLY.out b hb; omega) _) (fun b hb => by have := HLY.out b hb; omega) _), ?_⟩
  exact (hbw.pastA (by omega) _).pastA (Nat.le_refl _) _
set_option maxRecDepth 100000 in
theorem spec_DrawSettle (v : Value) (bs : List UInt8) (w : World) (hs : Sl w v bs.length (bytesOf bs)) (hl : bs.length ≤ 140737488351232) (hb : ∀ b, v.ownBlock = some b → b < w.heap.size) :
    Calls Try.prog 7 #[v] w fun e w' => ∃ (u : Value) (ds : List TxD) (x : TxR) (dx : TxD) (vr vw : Value) (t : TouchD), e = .returned (.tuple #[u, x.v, .agg #[vr, vw]]) ∧ (vSlice vTx 31).rd w' [u] ds ∧ ds.length ≤ 4 ∧ vTx.rd w' x.cells dx ∧ vTouch.rd w' [vr, vw] t ∧ Below w.heap.size w w' := by
  have HS := Lib.hid hs
  have HB := Lib.hid hb
  clear hs hb
  go_enter Try.func7, Try.ntmps7
  go_wp2_with fail
  (go_at_call 29; refine (spec_l01New v bs _ ((HS.out.alloc _).alloc _) hl (fun b hb => by have := HB.out b hb; simp; omega)).mono ?_; rintro e w1 ⟨p, rfl, ⟨h, hc⟩, hb1, hp⟩)
  have hz1 := hb1.size
  simp at hp hz1
  have hpl := hc.lt
  go_wp2_with fail
  (go_at_call 31; refine (spec_l20ListA p v bs _ _ _ hc).mono ?_; rintro e w2 ⟨u, ds, fl, i2, h2, rfl, hol, hll, hn, _, _, hg2, hi0, hi1⟩)
  have hc2 := hc.got hg2 hi0 hi1
  have HOL := Lib.hid hol
  have HLL := Lib.hid hll
  clear hol hll
  go_wp2_with fail
  (go_at_call 30; refine (spec_l20SmallA p v bs _ _ _ hc2).mono ?_; rintro e w3 ⟨x, dx, fx, i3, h3, rfl, hox, hlx, _, _, hg3, hj0, hj1⟩)
  have hc3 := hc2.got hg3 hj0 hj1
  have HOX := Lib.hid hox
  have HLX := Lib.hid hlx
  clear hox hlx
  go_wp2_with fail
  (go_at_call 32; refine (spec_l03TouchA p v bs _ _ _ hc3).mono ?_; rintro e w4 ⟨vr, vw, rs, ws, i4, h4, rfl, hr, hw, hsr, hsw, hg4, hk0, hk1⟩)
  have HR := Lib.hid hr
  have HW := Lib.hid hw
  have HSR := Lib.hid hsr
  have HSW := Lib.hid hsw
  clear hr hw hsr hsw
  have hz2 := hg2.size
  have hz3 := hg3.size
  have hz4 := hg4.size
  have HOL4 : Hid ((vSlice vTx 31).own w4 fl [u] ds) := own_got (own_got HOL.out hg3 (fun b hb => by have := HLL.out b hb; omega)) hg4 (fun b hb => by have := HLL.out b hb; omega)
  have HOX4 : Hid (vTx.own w4 fx x.cells dx) := own_got HOX.out hg4 (fun b hb => by have := HLX.out b hb; omega)
  have hb3 := hg4.toBelowA ((hg3.toBelowA (hg2.toBelowA hb1 (by simp; omega)) (by simp; omega))) (by simp; omega)
  have hbw : Below w.heap.size w w4 := by
    obtain ⟨X, rfl⟩ := hb3.ext
    exact (((Below.refl _ w).ofAlloc _).ofAlloc _).ofExt _
  have e0 := (hb3.block w.heap.size (by simp; omega)).trans ((Below.heap_alloc _ _ _ (by simp)).trans (World.alloc_new w _))
  have e1 := (hb3.block (w.heap.size + 1) (by simp)).trans (alloc_newA _ _ (w.heap.size + 1) (by simp))
  have hl0 := World.lt_of_get e0
  have hl1 := World.lt_of_get e1
  have hne : w.heap.size ≠ w.heap.size + 1 := by omega
  have hne' : w.heap.size + 1 ≠ w.heap.size := by omega
  have e0' := (World.setB_get w4 (w.heap.size + 1) (Obj.cells #[Value.slice none 0 0, Value.slice none 0 0] 28) w.heap.size hne).trans e0
  rw [← World.setB_self e1, ← World.setB_self e0']
  obtain ⟨ar, cr, rfl⟩ := HR.out.rd.form
  obtain ⟨aw, cw, rfl⟩ := HW.out.rd.form
  obtain ⟨au, cu, rfl⟩ := vSlice.form (View.toRd _ HOL.out)
  unfold TxR.v Raw.v
  clear e0 e1 e0' hb3
  go_wp2
  refine bodyPost_ret (by simp [results, Try.results7, go_sem, hl0, hl1]; rfl) rfl ?_
  obtain ⟨f2, o2, _, l2⟩ := own_of_strs (OwnL.setB (p := w.heap.size) (OwnL.setB (p := w.heap.size + 1) HR.out (fun e => by have := (HR.out.lt _ e).1; omega) _) (fun e => by have := (HR.out.lt _ e).1; omega) _) HSR.out
  obtain ⟨f3, o3, _, l3⟩ := own_of_strs (OwnL.setB (p := w.heap.size) (OwnL.setB (p := w.heap.size + 1) HW.out (fun e => by have := (HW.out.lt _ e).1; omega) _) (fun e => by have := (HW.out.lt _ e).1; omega) _) HSW.out
  refine ⟨_, ds, x, dx, _, _, ⟨rs, ws⟩, rfl, View.toRd _ (own_setB (p := w.heap.size) (own_setB (p := w.heap.size + 1) HOL4.out (fun b hb => by have := HLL.out b hb; omega) _) (fun b hb => by have := HLL.out b hb; omega) _), hn, View.toRd _ (own_setB (p := w.heap.size) (own_setB (p := w.heap.size + 1) HOX4.out (fun b hb => by have := HLX.out b hb; omega) _) (fun b hb => by have := HLX.out b hb; omega) _), ⟨_, _, rfl, View.toRd _ o2, View.toRd _ o3⟩, ?_⟩
  exact (hbw.pastA (by omega) _).pastA (Nat.le_refl _) _
set_option maxRecDepth 100000 in
theorem spec_DrawYoungerAll (v : Value) (bs : List UInt8) (w : World) (hs : Sl w v bs.length (bytesOf bs)) (hl : bs.length ≤ 140737488351232) (hb : ∀ b, v.ownBlock = some b → b < w.heap.size) :
    Calls Try.prog 13 #[v] w fun e w' => ∃ (u : Value) (ds : List TxD) (vi : Value) (ids : List Int) (x : TxR) (dx : TxD), e = .returned (.tuple #[u, vi, x.v]) ∧ (vSlice vTx 31).rd w' [u] ds ∧ ds.length ≤ 4 ∧ (vSlice vInt 3).rd w' [vi] ids ∧ vTx.rd w' x.cells dx ∧ Below w.heap.size w w' := by
  have HS := Lib.hid hs
  have HB := Lib.hid hb
  clear hs hb
  go_enter Try.func13, Try.ntmps13
  go_wp2_with fail
  (go_at_call 29; refine (spec_l01New v bs _ (HS.out.alloc _) hl (fun b hb => by have := HB.out b hb; simp; omega)).mono ?_; rintro e w1 ⟨p, rfl, ⟨h, hc⟩, hb1, hp⟩)
  have hz1 := hb1.size
  simp at hp hz1
  have hpl := hc.lt
  go_wp2_with fail
  (go_at_call 31; refine (spec_l20ListA p v bs _ _ _ hc).mono ?_; rintro e w2 ⟨u, ds, fl, i2, h2, rfl, hol, hll, hn, _, _, hg2, hi0, hi1⟩)
  have hc2 := hc.got hg2 hi0 hi1
  have HOL := Lib.hid hol
  have HLL := Lib.hid hll
  clear hol hll
  go_wp2_with fail
  (go_at_call 35; refine (spec_l01Below p v bs _ _ _ _ hc2 (by omega)).mono ?_; rintro e w3 ⟨n1, i3, h3, rfl, ⟨hn10, hn11, _⟩, hg3, hj0, hj1⟩)
  have hc3 := hc2.got hg3 hj0 hj1
  go_wp2_with fail
  (go_at_call 35; refine (spec_l01Below p v bs _ _ _ _ hc3 (by omega)).mono ?_; rintro e w4 ⟨n2, i4, h4, rfl, ⟨hn20, hn21, _⟩, hg4, hk0, hk1⟩)
  have hc4 := hc3.got hg4 hk0 hk1
  clear hn11 hn21
  have hz2 := hg2.size
  have hz3 := hg3.size
  have hz4 := hg4.size
  have HOL4 : Hid ((vSlice vTx 31).own w4 fl [u] ds) := own_got (own_got HOL.out hg3 (fun b hb => by have := HLL.out b hb; omega)) hg4 (fun b hb => by have := HLL.out b hb; omega)
  go_wp2_with fail
  (go_at_call 30; refine (spec_l20SmallA p v bs _ _ _ (hc4.alloc _)).mono ?_; rintro e w5 ⟨x, dx, fx, i5, h5, rfl, hox, hlx, _, _, hg5, hm0, hm1⟩)
  have HOX := Lib.hid hox
  have HLX := Lib.hid hlx
  clear hox hlx
  have hz5 := hg5.size
  simp at hz5
  have HOL5 : Hid ((vSlice vTx 31).own w5 fl [u] ds) := own_got (View.ownAlloc HOL4.out _) hg5 (fun b hb => by have := HLL.out b hb; omega)
  have HI4 : Hid (OwnL rInt 3 (w4.alloc (.cells #[.int .i64 n1, .int .i64 n2] 3)) w4.heap.size (.slice (some ⟨w4.heap.size, 0, none⟩) 2 2) [n1, n2]) := OwnL.lit rInt w4 [n1, n2] 2 rfl (by decide) _ rfl _
  have HI5 : Hid (OwnL rInt 3 w5 w4.heap.size (.slice (some ⟨w4.heap.size, 0, none⟩) 2 2) [n1, n2]) := HI4.out.got hg5 (by simp [Value.ownBlock]; omega)
  have hb3 := (hg5.ofAlloc (by omega)).toBelowA (hg4.toBelowA ((hg3.toBelowA (hg2.toBelowA hb1 (by simp; omega)) (by simp; omega))) (by simp; omega)) (by simp; omega)
  have hbw : Below w.heap.size w w5 := by
    obtain ⟨X, rfl⟩ := hb3.ext
    exact ((Below.refl _ w).ofAlloc _).ofExt _
  have e0 := (hb3.block w.heap.size (by simp)).trans (World.alloc_new w _)
  have hl0 := World.lt_of_get e0
  rw [← World.setB_self e0]
  obtain ⟨au, cu, rfl⟩ := vSlice.form (View.toRd _ HOL.out)
  unfold TxR.v Raw.v
  clear e0 hb3
  go_wp2
  refine bodyPost_ret (by simp [results, Try.results13, go_sem, hl0]; rfl) rfl ?_
  obtain ⟨fi, oi, _⟩ := own_of_OwnL (OwnL.setB (p := w.heap.size) HI5.out (by simp [Value.ownBlock]; omega) _)
  refine ⟨_, ds, _, [n1, n2], x, dx, rfl, View.toRd _ (own_setB (p := w.heap.size) HOL5.out (fun b hb => by have := HLL.out b hb; omega) _), hn, View.toRd _ oi, View.toRd _ (own_setB (p := w.heap.size) HOX.out (fun b hb => by have := HLX.out b hb; simp at this; omega) _), ?_⟩
  exact hbw.pastA (Nat.le_refl _) _
end Go.Proofs.Ytmhopglbgaijiaa
