/- Drawn texts and lists of cells: how long they are. Each condition stands in its theorem. -/
import Derived.Test.YtdehbojnflibhaaDrawJ
set_option linter.unusedVariables false
set_option linter.unusedSimpArgs false
namespace Go.Proofs.Ytdehbojnflibhaa
open Go.ChangeShapes Go.WideShapes Go.ChangeAt Go.RowKit
/-- the cursor has gone on; a journal lies at the first new block, another at B -/
def JX (p : Nat) (vb : Value) (bs : List UInt8) (w : World) (B : Nat) (t0 : ByteArray) (n0 : Int) (t : ByteArray) (n : Int) (w' : World) : Prop :=
  ∃ i' h', Got p w (curObj vb i' h') w' ∧ 0 ≤ i' ∧ i' ≤ bs.length ∧ w.heap.size < B ∧ w'.heap[w.heap.size]? = some (jObj t0 n0) ∧ w'.heap[B]? = some (jObj t n)
section
variable {p B : Nat} {vb : Value} {bs : List UInt8} {w w1 w2 : World} {t0 t : ByteArray} {n0 n : Int}
theorem JX.draw {i' h' : Int} (h : JX p vb bs w B t0 n0 t n w1) (g : Got p w1 (curObj vb i' h') w2) (h0 : 0 ≤ i') (h1 : i' ≤ bs.length) (hp : p < w.heap.size) : JX p vb bs w B t0 n0 t n w2 := by
  obtain ⟨i, hh, a, b, c, k, d, e⟩ := h
  exact ⟨i', h', a.then g hp, h0, h1, k, (g.other (World.lt_of_get d) (by omega)).trans d, (g.other (World.lt_of_get e) (by omega)).trans e⟩
theorem JX.below (h : JX p vb bs w B t0 n0 t n w1) (g : Below w1.heap.size w1 w2) : JX p vb bs w B t0 n0 t n w2 := by
  obtain ⟨i, hh, a, b, c, k, d, e⟩ := h
  exact ⟨i, hh, a.ofBelow g, b, c, k, (g.block _ (World.lt_of_get d)).trans d, (g.block _ (World.lt_of_get e)).trans e⟩
theorem JX.set (h : JX p vb bs w B t0 n0 t n w1) (t' : ByteArray) (n' : Int) : JX p vb bs w B t0 n0 t' n' (w1.setB B (jObj t' n')) := by
  obtain ⟨i, hh, a, b, c, k, d, e⟩ := h
  exact ⟨i, hh, a.past (by omega) _, b, c, k, by rw [World.setB_get _ _ _ _ (by omega)]; exact d, World.setB_at _ _ _ (World.lt_of_get e)⟩
theorem JX.set0 (h : JX p vb bs w B t0 n0 t n w1) (t' : ByteArray) (n' : Int) : JX p vb bs w B t' n' t n (w1.setB w.heap.size (jObj t' n')) := by
  obtain ⟨i, hh, a, b, c, k, d, e⟩ := h
  exact ⟨i, hh, a.past (by omega) _, b, c, k, World.setB_at _ _ _ (World.lt_of_get d), by rw [World.setB_get _ _ _ _ (by omega)]; exact e⟩
theorem JX.self (h : JX p vb bs w B t0 n0 t n w1) : w1.setB B (jObj t n) = w1 := by
  obtain ⟨i, hh, a, b, c, k, d, e⟩ := h
  exact World.setB_self e
theorem JX.self0 (h : JX p vb bs w B t0 n0 t n w1) : w1.setB w.heap.size (jObj t0 n0) = w1 := by
  obtain ⟨i, hh, a, b, c, k, d, e⟩ := h
  exact World.setB_self d
theorem JX.got (h : JX p vb bs w B t0 n0 t n w1) : ∃ i' h', Got p w (curObj vb i' h') w1 ∧ 0 ≤ i' ∧ i' ≤ bs.length := by
  obtain ⟨i, hh, a, b, c, k, d, e⟩ := h
  exact ⟨i, hh, a, b, c⟩
theorem JX.at1 (h : JX p vb bs w B t0 n0 t n w1) : w1.heap[B]? = some (jObj t n) := by
  obtain ⟨i, hh, a, b, c, k, d, e⟩ := h
  exact e
theorem JX.at0 (h : JX p vb bs w B t0 n0 t n w1) : w1.heap[w.heap.size]? = some (jObj t0 n0) := by
  obtain ⟨i, hh, a, b, c, k, d, e⟩ := h
  exact d
theorem JX.cell0 (h : JX p vb bs w B t0 n0 t n w1) : w1.cell? ⟨B, 0, none⟩ = some (.string t) := by rw [World.cell?_of_get h.at1]; rfl
theorem JX.cell1 (h : JX p vb bs w B t0 n0 t n w1) : w1.cell? ⟨B, 1, none⟩ = some (.int .i64 n) := by rw [World.cell?_of_get h.at1]; rfl
theorem JX.start {i' h' : Int} (hg : Got p w (curObj vb i' h') w1) (h0 : 0 ≤ i') (h1 : i' ≤ bs.length) (e0 : w1.heap[w.heap.size]? = some (jObj t0 n0)) (t : ByteArray) (n : Int) : JX p vb bs w w1.heap.size t0 n0 t n (w1.alloc (jObj t n)) :=
  ⟨i', h', hg.alloc _, h0, h1, World.lt_of_get e0, (Below.heap_alloc _ _ _ (World.lt_of_get e0)).trans e0, World.alloc_new _ _⟩
end
set_option maxRecDepth 100000 in
set_option maxHeartbeats 2000000 in
theorem spec_l22Any (p : Nat) (vb : Value) (bs : List UInt8) (i h : Int) (w : World) (hc : Cur w p vb bs i h) :
    Calls Try.prog 11 #[.pointer (some ⟨p, 0, none⟩)] w fun e w' => ∃ t n, e = .returned (.agg #[.string t, .int .i64 n]) ∧ DrawnJ p vb bs w t w' := by
  have hp := hc.lt
  have HC := Lib.hid hc
  clear hc
  go_enter Try.func11, Try.ntmps11
  go_wp2_with fail
  (go_at_call 17; refine (spec_l22Journal p vb bs _ _ _ (HC.out.alloc _)).mono ?_; rintro e w1 ⟨t, n, rfl, ht, i1, h1, hg1, ha1, hb1⟩)
  have e0 : w1.heap[w.heap.size]? = some (jObj ⟨#[]⟩ 0) := (hg1.other (by simp) (by omega)).trans (World.alloc_new _ _)
  have hg1' := hg1.ofAlloc hp
  have hx := JX.start hg1' ha1 hb1 e0 t n
  unfold jObj at hx
  have HX := Lib.hid hx
  have hc1 := ((HC.out.alloc _).got hg1 ha1 hb1).alloc (.cells #[.string t, .int .i64 n] 25)
  have hpl := hc1.lt
  have hz1 := World.lt_of_get e0
  clear hx e0
  go_wp2_with fail
  (go_at_call 13; refine (spec_l01Below p vb bs _ _ _ _ hc1 (by omega)).mono ?_; rintro e w2 ⟨x, i2, h2, rfl, ⟨hx0, hx1, _⟩, hg2, ha2, hb2⟩)
  have hx2 := hx1 (by omega)
  clear hx1
  have HX2 := Lib.hid (JX.draw HX.out hg2 ha2 hb2 hp)
  have hc2 := hc1.got hg2 ha2 hb2
  clear HX
  by_cases c0 : x = 0
  · have k0 : (x == 0) = true := by simp [c0]
    go_wp2_with fail
    (go_at_call 18; refine (spec_l01PickInt p vb bs _ _ _ [-1, 0, 5, 100000] _ (hc2.alloc _) (RdL.lit rInt w2 [-1, 0, 5, 100000] 4 rfl (by decide) _ rfl _) (by decide) (by decide) (by have := hc2.lt; simp [Value.ownBlock]; omega)).mono ?_; rintro e w3 ⟨z, i3, h3, rfl, hz, hg3, ha3, hb3⟩)
    have HX3 := Lib.hid ((HX2.out.below (Below.ofAlloc (Below.refl _ _) _)).draw hg3 ha3 hb3 hp)
    have hz3 := World.lt_of_get HX3.out.at1
    have HX4 := Lib.hid (HX3.out.set t z)
    have HX21 := Lib.hid (HX4.out.set0 t z)
    have hz20 := World.lt_of_get HX3.out.at1
    have hz21 := World.lt_of_get HX3.out.at0
    have hAB : w.heap.size ≠ w1.heap.size := by omega
    have hBA : w1.heap.size ≠ w.heap.size := by omega
    rw [← HX3.out.self, ← (HX3.out.set t n).self0]
    unfold jObj
    go_wp2
    refine bodyPost_ret (by simp [results, Try.results11, go_sem, hz20, hz21]; rfl) rfl ?_
    obtain ⟨i20, h20, hg20, ha20, hb20⟩ := HX21.out.got
    exact ⟨_, _, rfl, ht, ⟨i20, h20, hg20, ha20, hb20⟩⟩
  · have k0 : (x == 0) = false := by simp [c0]
    by_cases c1 : x = 1
    · have k1 : (x == 1) = true := by simp [c1]
      go_wp2_with fail
      (go_at_call 13; refine (spec_l01Below p vb bs _ _ _ _ hc2 (by omega)).mono ?_; rintro e w3 ⟨y, i3, h3, rfl, ⟨hy0, hy1, _⟩, hg3, ha3, hb3⟩)
      have hy2 := hy1 (by omega)
      clear hy1
      obtain ⟨k, rfl⟩ := Int.eq_ofNat_of_zero_le hy0
      go_wp2_with fail
      (go_at_call 19; refine (spec_l01LongI (20000 + (k : Int)) (20000 + k) 10 10 _ (by omega) (by decide) (by omega)).mono ?_; rintro e w4 ⟨t1, rfl, ht1, hb4⟩)
      have HX3 := Lib.hid ((HX2.out.draw hg3 ha3 hb3 hp).below hb4)
      have hz3 := World.lt_of_get HX3.out.at1
      have HX4 := Lib.hid (HX3.out.set t1 n)
      have ht1' : t1.size ≤ 20001 := by omega
      have HX21 := Lib.hid (HX4.out.set0 t1 n)
      have hz20 := World.lt_of_get HX3.out.at1
      have hz21 := World.lt_of_get HX3.out.at0
      have hAB : w.heap.size ≠ w1.heap.size := by omega
      have hBA : w1.heap.size ≠ w.heap.size := by omega
      rw [← HX3.out.self, ← (HX3.out.set t n).self0]
      unfold jObj
      go_wp2
      refine bodyPost_ret (by simp [results, Try.results11, go_sem, hz20, hz21]; rfl) rfl ?_
      obtain ⟨i20, h20, hg20, ha20, hb20⟩ := HX21.out.got
      exact ⟨_, _, rfl, ht1', ⟨i20, h20, hg20, ha20, hb20⟩⟩
    · have k1 : (x == 1) = false := by simp [c1]
      have HX20 := Lib.hid (HX2.out.set0 ⟨#[]⟩ 0)
      have HX21 := Lib.hid (HX2.out.set0 t n)
      have hl1 := HX20.out.cell0
      have hl2 := HX20.out.cell1
      have hz20 := World.lt_of_get HX2.out.at1
      have hz21 := World.lt_of_get HX2.out.at0
      try simp only [World.setB_size] at hz20 hz21
      rw [← HX2.out.self0]
      unfold jObj at hl1 hl2 ⊢
      go_wp2
      refine bodyPost_ret (by simp [results, Try.results11, go_sem, hz20, hz21]; rfl) rfl ?_
      obtain ⟨i20, h20, hg20, ha20, hb20⟩ := HX21.out.got
      exact ⟨_, _, rfl, ht, ⟨i20, h20, hg20, ha20, hb20⟩⟩
theorem _root_.Go.Got.toBelowK {a w w' : World} {p : Nat} {o : Obj} (h : Got p w o w') (hb : Below a.heap.size a w) (hp : a.heap.size ≤ p) : Below a.heap.size a w' := by
  obtain ⟨X, rfl⟩ := h
  refine hb.trans ⟨rfl, rfl, rfl, by rw [World.ext_size, World.setB_size]; omega, fun k hk => ?_⟩
  have := hb.size
  rw [World.ext_get _ _ (by rw [World.setB_size]; omega), World.setB_get _ _ _ _ (by omega)]
def DrawnT (w : World) (t s : ByteArray) (w' : World) : Prop := t.size ≤ 20001 ∧ s.size ≤ 5 ∧ Below w.heap.size w w'
set_option maxRecDepth 100000 in
theorem spec_DrawAddText (v : Value) (bs : List UInt8) (w : World) (hs : Sl w v bs.length (bytesOf bs)) (hl : bs.length ≤ 140737488351232) (hb : ∀ b, v.ownBlock = some b → b < w.heap.size) :
    Calls Try.prog 5 #[v] w fun e w' => ∃ t n s, e = .returned (.tuple #[.agg #[.string t, .int .i64 n], .string s]) ∧ DrawnT w t s w' := by
  have HS := Lib.hid hs
  have HB := Lib.hid hb
  clear hs hb
  go_enter Try.func5, Try.ntmps5
  go_wp2_with fail
  (go_at_call 10; refine (spec_l01New v bs _ (HS.out.alloc _) hl (fun b hb => by have := HB.out b hb; simp; omega)).mono ?_; rintro e w1 ⟨p, rfl, ⟨h, hc⟩, hb1, hp⟩)
  have hz1 := hb1.size
  simp at hp hz1
  have hpl := hc.lt
  go_wp2_with fail
  (go_at_call 11; refine (spec_l22Any p v bs _ _ _ hc).mono ?_; rintro e w2 ⟨t, n, rfl, ht, i2, h2, hg2, ha2, hb2⟩)
  have hc2 := hc.got hg2 ha2 hb2
  go_wp2_with fail
  (go_at_call 13; refine (spec_l01Below p v bs _ _ _ _ hc2 (by omega)).mono ?_; rintro e w3 ⟨x, i3, h3, rfl, ⟨hx0, hx1, _⟩, hg3, ha3, hb3⟩)
  have hc3 := hc2.got hg3 ha3 hb3
  have hx2 := hx1 (by omega)
  clear hx1
  go_wp2_with fail
  (go_at_call 12; refine (spec_l01TextI p v bs _ _ _ _ hc3 hx0 (by omega)).mono ?_; rintro e w4 ⟨s, rfl, hs, i4, h4, hg4, ha4, hb4⟩)
  have hbb := hg4.toBelowK ((hg3.toBelowK (hg2.toBelowK hb1 (by simp; omega)) (by simp; omega))) (by simp; omega)
  have hbw : Below w.heap.size w w4 := by
    obtain ⟨X, rfl⟩ := hbb.ext
    exact ((Below.refl _ w).ofAlloc _).ofExt _
  have e0 : w4.heap[w.heap.size]? = some (jObj ⟨#[]⟩ 0) := (hbb.block w.heap.size (by simp)).trans (World.alloc_new w _)
  have hz4 := World.lt_of_get e0
  rw [← World.setB_self e0]
  unfold jObj
  clear e0
  go_wp2
  refine bodyPost_ret (by simp [results, Try.results5, go_sem, hz4]; rfl) rfl ?_
  exact ⟨_, _, _, rfl, ht, by omega, hbw.past (Nat.le_refl _) _⟩
end Go.Proofs.Ytdehbojnflibhaa
