/- The drawn pairs and lists of transactions; who is older; the next age. Each condition stands in its theorem. -/
import Derived.Test.YtmhopglbgaijiaaDraw5
set_option linter.unusedVariables false
set_option linter.unusedSimpArgs false
namespace Go.Proofs.Ytmhopglbgaijiaa
open Go.ChangeShapes Go.WideShapes Go.ChangeAt Go.RowKit

theorem _root_.Go.Got.toBelow {a w w' : World} {p : Nat} {o : Obj} (h : Got p w o w') (hb : Below a.heap.size a w) (hp : a.heap.size ≤ p) : Below a.heap.size a w' := by
  obtain ⟨X, rfl⟩ := hb.ext
  obtain ⟨Y, rfl⟩ := h
  rw [World.ext_setB_past _ _ _ _ hp]
  exact ((Below.refl _ _).ofExt _).ofExt _

theorem _root_.Go.RdL.shapeT {w : World} {v : Value} {xs : List TxR} (h : RdL rTx w v xs) : ∃ ao cap, v = .slice ao xs.length cap ∧ xs.length ≤ cap ∧ cap ≤ maxLen ∧ (ao = none → cap = 0 ∧ xs = []) ∧
    (xs ≠ [] → ∃ b off, ao = some ⟨b, off, none⟩ ∧ b < w.heap.size ∧ ∀ (i : Nat) (hi : i < xs.length),
      w.cell? ⟨b, off + i * 10, none⟩ = some (.int .i64 xs[i].id) ∧ w.cell? ⟨b, off + i * 10 + 1, none⟩ = some (.int .i64 xs[i].age) ∧
      w.cell? ⟨b, off + i * 10 + 2, none⟩ = some (.int .i64 xs[i].proc) ∧ w.cell? ⟨b, off + i * 10 + 3, none⟩ = some (.int .i64 xs[i].began) ∧
      w.cell? ⟨b, off + i * 10 + 4, none⟩ = some (.slice xs[i].calls.a xs[i].calls.n xs[i].calls.cap) ∧ w.cell? ⟨b, off + i * 10 + 5, none⟩ = some (.slice xs[i].answers.a xs[i].answers.n xs[i].answers.cap) ∧
      w.cell? ⟨b, off + i * 10 + 6, none⟩ = some (.slice xs[i].tr.a xs[i].tr.n xs[i].tr.cap) ∧ w.cell? ⟨b, off + i * 10 + 7, none⟩ = some (.slice xs[i].tw.a xs[i].tw.n xs[i].tw.cap) ∧
      w.cell? ⟨b, off + i * 10 + 8, none⟩ = some (.slice xs[i].marks.a xs[i].marks.n xs[i].marks.cap) ∧ w.cell? ⟨b, off + i * 10 + 9, none⟩ = some (.int .i64 xs[i].state)) := by
  obtain ⟨ao, cap, h0, h1, h2, h3, h4⟩ := h.shape
  refine ⟨ao, cap, h0, h1, h2, h3, fun hne => ?_⟩
  obtain ⟨b, off, e, hb, hc⟩ := h4 hne
  refine ⟨b, off, e, hb (by decide), fun i hi => ?_⟩
  have hc := fun j u h => hc i hi j u h
  exact ⟨hc 0 _ rfl, hc 1 _ rfl, hc 2 _ rfl, hc 3 _ rfl, hc 4 _ rfl, hc 5 _ rfl, hc 6 _ rfl, hc 7 _ rfl, hc 8 _ rfl, hc 9 _ rfl⟩

theorem _root_.Go.RowKit.Below.past {a w : World} (h : Below a.heap.size a w) {b : Nat} (hb : a.heap.size ≤ b) (o : Obj) : Below a.heap.size a (w.setB b o) := by
  obtain ⟨X, rfl⟩ := h.ext
  rw [World.ext_setB_past _ _ _ _ hb]
  exact (Below.refl _ _).ofExt _
theorem _root_.Go.World.alloc_new' (w : World) (o : Obj) (b : Nat) (h : b = w.heap.size) : (w.alloc o).heap[b]? = some o := by subst h; exact World.alloc_new w o
theorem spec_DrawOlder (v : Value) (bs : List UInt8) (w : World) (hs : Sl w v bs.length (bytesOf bs)) (hl : bs.length ≤ 140737488351232) (hb : ∀ b, v.ownBlock = some b → b < w.heap.size) :
    Calls Try.prog 6 #[v] w fun e w' => ∃ (x y : TxR), e = .returned (.tuple #[x.v, y.v]) ∧ Below w.heap.size w w' := by
  have HS := Lib.hid hs
  have HB := Lib.hid hb
  clear hs hb
  go_enter Try.func6, Try.ntmps6
  go_wp2_with fail
  (go_at_call 29; refine (spec_l01New v bs _ ((HS.out.alloc _).alloc _) hl (fun b hb => by have := HB.out b hb; simp; omega)).mono ?_; rintro e w1 ⟨p, rfl, ⟨h, hc⟩, hb1, hp⟩)
  have hz1 := hb1.size
  simp at hp hz1
  go_wp2_with fail
  (go_at_call 30; refine (spec_l20Small p v bs _ _ _ hc).mono ?_; rintro e w2 ⟨x, i2, h2, rfl, hx0, hx1, hg2, hi0, hi1⟩)
  have hc2 := hc.got hg2 hi0 hi1
  go_wp2_with fail
  (go_at_call 30; refine (spec_l20Small p v bs _ _ _ hc2).mono ?_; rintro e w3 ⟨y, i3, h3, rfl, hy0, hy1, hg3, hj0, hj1⟩)
  have hz2 := hg2.size
  have hz3 := hg3.size
  have hzw : w1.heap.size ≤ w3.heap.size := by omega
  have hb3 := ((hg3.toBelow (hg2.toBelow hb1 (by simp; omega)) (by simp; omega)))
  have hbw : Below w.heap.size w w3 := by
    obtain ⟨X, rfl⟩ := hb3.ext
    exact (((Below.refl _ w).ofAlloc _).ofAlloc _).ofExt _
  have e0 := (hb3.block w.heap.size (by simp; omega)).trans ((Below.heap_alloc _ _ _ (by simp)).trans (World.alloc_new w _))
  have e1 := (hb3.block (w.heap.size + 1) (by simp)).trans (World.alloc_new' _ _ (w.heap.size + 1) (by simp))
  have hl0 := World.lt_of_get e0
  have hl1 := World.lt_of_get e1
  have hne : w.heap.size ≠ w.heap.size + 1 := by omega
  have hne' : w.heap.size + 1 ≠ w.heap.size := by omega
  have e0' := (World.setB_get w3 (w.heap.size + 1) (Obj.cells #[Value.int IntKind.i64 0, Value.int IntKind.i64 0, Value.int IntKind.i64 0, Value.int IntKind.i64 0, Value.slice none 0 0, Value.slice none 0 0, Value.slice none 0 0, Value.slice none 0 0, Value.slice none 0 0, Value.int IntKind.i64 0] 31) w.heap.size hne).trans e0
  rw [← World.setB_self e1, ← World.setB_self e0']
  unfold TxR.v Raw.v
  clear e0 e1 e0'
  go_wp2
  refine bodyPost_ret (by simp [results, Try.results6, go_sem, hl0, hl1]; rfl) rfl ?_
  refine ⟨x, y, rfl, ?_⟩
  exact (hbw.past (by omega) _).past (Nat.le_refl _) _
def older (x y : TxR) : Bool := decide (x.age < y.age) || (decide (x.age = y.age) && decide (x.id < y.id))
theorem impl_Older (x y : TxR) (w : World) : Calls Try.prog 11 #[x.v, y.v] w fun e w' => e = .returned (.bool (older x y)) ∧ Below w.heap.size w w' := by
  unfold TxR.v Raw.v
  by_cases h1 : x.age < y.age
  · go_enter Try.func11, Try.ntmps11
    go_wp2
    go_ret
    refine ⟨by simp [older, h1], (by repeat (first | with_reducible exact Below.refl _ _ | with_reducible apply Below.ofExt | with_reducible apply Below.ofAlloc | with_reducible apply Below.drew | with_reducible apply Below.ofDrewN | with_reducible assumption | (with_reducible refine Below.setCell ?_ (by first | exact Nat.le_refl _ | (simp [go_sem]; done) | (simp [go_sem]; omega)) _)))⟩
  · by_cases h2 : x.age = y.age
    · by_cases h3 : x.id < y.id
      · go_enter Try.func11, Try.ntmps11
        go_wp2
        go_ret
        refine ⟨by simp [older, h2, h3], (by repeat (first | with_reducible exact Below.refl _ _ | with_reducible apply Below.ofExt | with_reducible apply Below.ofAlloc | with_reducible apply Below.drew | with_reducible apply Below.ofDrewN | with_reducible assumption | (with_reducible refine Below.setCell ?_ (by first | exact Nat.le_refl _ | (simp [go_sem]; done) | (simp [go_sem]; omega)) _)))⟩
      · go_enter Try.func11, Try.ntmps11
        go_wp2
        go_ret
        refine ⟨by simp [older, h2, h3], (by repeat (first | with_reducible exact Below.refl _ _ | with_reducible apply Below.ofExt | with_reducible apply Below.ofAlloc | with_reducible apply Below.drew | with_reducible apply Below.ofDrewN | with_reducible assumption | (with_reducible refine Below.setCell ?_ (by first | exact Nat.le_refl _ | (simp [go_sem]; done) | (simp [go_sem]; omega)) _)))⟩
    · go_enter Try.func11, Try.ntmps11
      go_wp2
      go_ret
      refine ⟨by simp [older, h1, h2], (by repeat (first | with_reducible exact Below.refl _ _ | with_reducible apply Below.ofExt | with_reducible apply Below.ofAlloc | with_reducible apply Below.drew | with_reducible apply Below.ofDrewN | with_reducible assumption | (with_reducible refine Below.setCell ?_ (by first | exact Nat.le_refl _ | (simp [go_sem]; done) | (simp [go_sem]; omega)) _)))⟩
def nextAge (xs : List TxR) : Int := (xs.map TxR.age).foldl max 0
theorem impl_NextAge (v : Value) (xs : List TxR) (w : World) (hs : RdL rTx w v xs) : Calls Try.prog 19 #[v] w fun e w' => e = .returned (.int .i64 (wrap64 (nextAge xs + 1))) ∧ Below w.heap.size w w' := by
  obtain ⟨ao, cap, rfl, hc1, hc2, hnil, hcell⟩ := hs.shapeT
  have HX := Lib.hid hcell
  clear hcell hs hnil
  unfold maxLen at hc2
  go_enter Try.func19, Try.ntmps19
  go_wp2
  go_loopw [3, 8] (fun mv iv wr => ∃ (n : Nat) (m : Int), mv = .int .i64 m ∧ iv = .int .i64 n ∧ n ≤ xs.length ∧ m = nextAge (xs.take n) ∧ Below w.heap.size w wr) (fun _ k _ => xs.length - (intOf k).toNat)
  case atStart => exact ⟨0, 0, rfl, rfl, by omega, rfl, (by repeat (first | with_reducible exact Below.refl _ _ | with_reducible apply Below.ofExt | with_reducible apply Below.ofAlloc | with_reducible apply Below.drew | with_reducible apply Below.ofDrewN | with_reducible assumption | (with_reducible refine Below.setCell ?_ (by first | exact Nat.le_refl _ | (simp [go_sem]; done) | (simp [go_sem]; omega)) _)))⟩
  case round =>
    obtain ⟨n, m, rfl, rfl, hn, hm, hb⟩ := hrel
    have HM := Lib.hid hm
    clear hm
    obtain ⟨X, rfl⟩ := hb.ext
    by_cases h1 : (n : Int) < xs.length
    · have hk : n < xs.length := by omega
      obtain ⟨b, off, rfl, hbl, hcell⟩ := HX.out (by intro e; simp [e] at hk)
      obtain ⟨f0, f1, f2, f3, f4, f5, f6, f7, f8, f9⟩ := hcell n hk
      have hstep : nextAge (xs.take (n + 1)) = max (nextAge (xs.take n)) xs[n].age := by
        simp only [nextAge, List.take_succ_eq_append_getElem hk, List.map_append, List.foldl_append, List.map_cons, List.map_nil, List.foldl_cons, List.foldl_nil]
      generalize xs[n] = x at *
      clear hcell
      have HT := Lib.hid hstep
      clear hstep
      go_wp2
      go_roundw
      case rel =>
        refine ⟨n + 1, _, rfl, by go_num, by omega, ?_, (by repeat (first | with_reducible exact Below.refl _ _ | with_reducible apply Below.ofExt | with_reducible apply Below.ofAlloc | with_reducible apply Below.drew | with_reducible apply Below.ofDrewN | with_reducible assumption | (with_reducible refine Below.setCell ?_ (by first | exact Nat.le_refl _ | (simp [go_sem]; done) | (simp [go_sem]; omega)) _)))⟩
        rw [HT.out, ← HM.out]
        split <;> omega
      case measure => simp [intOf]; omega
    · go_wp2
      go_ret
      have e : n = xs.length := by omega
      subst e
      have hm := HM.out
      rw [List.take_length] at hm
      exact ⟨by rw [← hm]; rfl, (by repeat (first | with_reducible exact Below.refl _ _ | with_reducible apply Below.ofExt | with_reducible apply Below.ofAlloc | with_reducible apply Below.drew | with_reducible apply Below.ofDrewN | with_reducible assumption | (with_reducible refine Below.setCell ?_ (by first | exact Nat.le_refl _ | (simp [go_sem]; done) | (simp [go_sem]; omega)) _)))⟩
theorem laws_big (v : Value) (n : Nat) (cs : List Value) (w : World) (hs : Sl w v n cs) : Calls Try.prog 5 #[v] w fun e w' => e = .returned (.bool (decide (1048576 < n))) ∧ w = w' := by
  obtain ⟨ao, cap, rfl, hc1, hc2, hnil, hcell⟩ := hs.shape
  clear hs hnil hcell
  by_cases h : (1048576 : Int) < n
  · have h' : 1048576 < n := by omega
    go_enter Try.func5, Try.ntmps5
    go_wp2
    go_ret
    exact ⟨by simp [h'], rfl⟩
  · have h' : ¬ 1048576 < n := by omega
    go_enter Try.func5, Try.ntmps5
    go_wp2
    go_ret
    exact ⟨by simp [h'], rfl⟩
end Go.Proofs.Ytmhopglbgaijiaa
