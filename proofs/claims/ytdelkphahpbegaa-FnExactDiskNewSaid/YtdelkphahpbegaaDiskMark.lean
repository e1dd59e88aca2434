/- The marks of a disk of two slots: the program's and the reference's. Each condition stands in its theorem. -/
import Derived.Test.YtdelkphahpbegaaDiskNew
set_option linter.unusedVariables false
set_option linter.unusedSimpArgs false
namespace Go.Proofs.Ytdelkphahpbegaa
open Go.ChangeShapes Go.WideShapes Go.ChangeAt Go.RowKit

def mk0 (k : Int) (n : Nat) : SlotD := ⟨k, marks mkCell 2 (k + 1) n, (k + 1 + 2 * (n : Int)) % 3 == 0⟩
def mk1 (k : Int) (n : Nat) : SlotD := ⟨k + 2 + 2 * (n : Int), [], (k + 3 + 2 * (n : Int)) % 3 == 0⟩
theorem D2.mk' {w : World} {b : Nat} {f0 : List Nat} {u0 : Value} {s0 s1 : SlotD} (blk : w.heap[b]? = some (.cells #[.int .i64 s0.seq, u0, .bool s0.whole, .int .i64 s1.seq, .slice none 0 0, .bool s1.whole] 50 (0, 0))) (own : (vSlice vCell 58).own w f0 [u0] s0.cells) (nb : b ∉ f0) (nil : s1.cells = []) : D2 w b f0 u0 s0 s1 := ⟨blk, own, nb, nil⟩
theorem rebox {fp : List Nat} {W w' : World} {q : Nat} {o : Obj} (hu : Upon fp W w') (hq : W.heap[q]? = some o) (hn : q ∉ fp) : ∃ w1 : World, w' = w1.setB q o ∧ q < w1.heap.size :=
  ⟨w', (World.setB_self ((hu.block q (World.lt_of_get hq) hn).trans hq)).symm, Nat.lt_of_lt_of_le (World.lt_of_get hq) hu.size⟩
theorem own_setB {α : Type} {V : View α} {w : World} {fp : List Nat} {cs : List Value} {d : α} {b : Nat} {o : Obj} (h : V.own w fp cs d) (hb : b ∉ fp) : V.own (w.setB b o) fp cs d :=
  V.frame h fun x hx => World.setB_get _ _ _ _ (fun e => hb (by rw [← e]; exact hx))
theorem own_setB2 {α : Type} {V : View α} {w : World} {fp : List Nat} {cs : List Value} {d : α} {b : Nat} {o o' : Obj} (h : V.own (w.setB b o) fp cs d) (hb : b ∉ fp) : V.own (w.setB b o') fp cs d :=
  V.frame h fun x hx => (World.setB_get _ _ _ _ (fun e => hb (by rw [← e]; exact hx))).trans (World.setB_get _ _ _ _ (fun e => hb (by rw [← e]; exact hx))).symm
theorem upon_setB2 {fp : List Nat} (w : World) {b : Nat} (o o' : Obj) : Upon (b :: fp) (w.setB b o) (w.setB b o') :=
  ⟨rfl, rfl, rfl, by show (w.setB b o).heap.size ≤ (w.setB b o').heap.size; rw [World.setB_size, World.setB_size]; exact Nat.le_refl _, fun x _ hn => (World.setB_get _ _ _ _ (fun e => hn (by simp [e]))).trans (World.setB_get _ _ _ _ (fun e => hn (by simp [e]))).symm⟩
set_option maxRecDepth 100000 in
set_option maxHeartbeats 1000000 in
theorem laws_markSlots2 (b : Nat) (f0 : List Nat) (u0 : Value) (s0 s1 : SlotD) (k : Int) (w : World) (hs : D2 w b f0 u0 s0 s1) (h0 : 0 ≤ k) (h1 : k + 4 + (2 * s0.cells.length : Nat) ≤ 4294960000) :
    Calls Try.prog 35 #[.slice (some ⟨b, 0, none⟩) 2 2, .int .i64 k] w fun e w' => e = .returned (.int .i64 (k + 4 + (2 * s0.cells.length : Nat))) ∧ D2 w' b f0 u0 (mk0 k s0.cells.length) (mk1 k s0.cells.length) ∧ Upon (b :: f0) w w' := by
  obtain ⟨hblk, hown, hnb, hnil⟩ := hs
  obtain ⟨a0, c0, rfl⟩ := vSlice.form (View.toRd _ hown)
  have hbl := World.lt_of_get hblk
  have HO := Lib.hid hown
  clear hown
  have HBLK := Lib.hid hblk
  clear hblk
  refine World.at_block HBLK.out ?_
  go_enter Try.func35, Try.ntmps35
  go_wp2
  go_loopw [1, 5] (fun kk i wr => ∃ (w1 : World) (kv : Int), kk = .int .i64 kv ∧ b < w1.heap.size ∧ Upon (b :: f0) w wr ∧
      ((kv = k ∧ i = .int .i64 0 ∧ wr = w1.setB b (.cells #[.int .i64 s0.seq, .slice a0 s0.cells.length c0, .bool s0.whole, .int .i64 s1.seq, .slice none 0 0, .bool s1.whole] 50) ∧ (vSlice vCell 58).own wr f0 [.slice a0 s0.cells.length c0] s0.cells) ∨
       (kv = k + 2 + 2 * (s0.cells.length : Int) ∧ i = .int .i64 1 ∧ wr = w1.setB b (.cells #[.int .i64 k, .slice a0 s0.cells.length c0, .bool (mk0 k s0.cells.length).whole, .int .i64 s1.seq, .slice none 0 0, .bool s1.whole] 50) ∧ (vSlice vCell 58).own wr f0 [.slice a0 s0.cells.length c0] (marks mkCell 2 (k + 1) s0.cells.length)) ∨
       (kv = k + 4 + 2 * (s0.cells.length : Int) ∧ i = .int .i64 2 ∧ wr = w1.setB b (.cells #[.int .i64 k, .slice a0 s0.cells.length c0, .bool (mk0 k s0.cells.length).whole, .int .i64 (mk1 k s0.cells.length).seq, .slice none 0 0, .bool (mk1 k s0.cells.length).whole] 50) ∧ (vSlice vCell 58).own wr f0 [.slice a0 s0.cells.length c0] (marks mkCell 2 (k + 1) s0.cells.length)))) (fun _ i _ => 2 - (intOf i).toNat)
  case atStart => exact ⟨w, k, rfl, hbl, Upon.setB _ _ (by simp), .inl ⟨rfl, rfl, rfl, own_setB HO.out hnb⟩⟩
  case round =>
    obtain ⟨w1, kv, rfl, hb1, hu1, hrel⟩ := hrel
    have HU := Lib.hid hu1
    clear hu1
    rcases hrel with ⟨rfl, rfl, rfl, ho⟩ | ⟨rfl, rfl, rfl, ho⟩ | ⟨rfl, rfl, rfl, ho⟩
    · have HO1 := Lib.hid ho
      clear ho
      go_wp2_with fail
      (go_at_call 17; refine (laws_markCellS _ f0 s0.cells _ _ (own_setB2 HO1.out hnb) (by omega) (by omega)).mono ?_; rintro e w' ⟨rfl, hm, hu⟩)
      obtain ⟨w2, rfl, hq2⟩ := rebox hu (World.setB_at _ _ _ hb1) hnb
      have HM := Lib.hid hm
      have HU2 := Lib.hid ((HU.out.trans (upon_setB2 _ _ _)).trans (hu.mono (fun x hx => List.mem_cons_of_mem _ hx)))
      clear hu hm
      go_wp2
      go_roundw
      case rel => exact ⟨w2, _, rfl, hq2, HU2.out.trans (upon_setB2 _ _ _), .inr (.inl ⟨by omega, rfl, rfl, own_setB2 HM.out hnb⟩)⟩
      case measure => simp [intOf]
    · have HO1 := Lib.hid ho
      clear ho
      go_wp2_with fail
      (go_at_call 17; refine (laws_markCellS _ [] [] _ _ (.inl ⟨rfl, rfl, rfl⟩) (by omega) (by simp only [List.length_nil]; omega)).mono ?_; rintro e w' ⟨rfl, hm, hu⟩)
      have ho := View.ownUpon (own_setB2 HO1.out hnb) hu (by simp)
      obtain ⟨w2, rfl, hq2⟩ := rebox hu (World.setB_at _ _ _ hb1) (by simp)
      have HM := Lib.hid ho
      have HU2 := Lib.hid ((HU.out.trans (upon_setB2 _ _ _)).trans (hu.mono (fun x hx => absurd hx (by simp))))
      clear hu hm ho
      have hz : ∀ x : Int, x + ((2 * ([] : List CellD).length : Nat) : Int) = x := fun x => by simp
      rw [hz]
      clear hz
      go_wp2
      go_roundw
      case rel => exact ⟨w2, _, rfl, hq2, HU2.out.trans (upon_setB2 _ _ _), .inr (.inr ⟨by omega, rfl, by unfold mk1; rw [show k + 3 + 2 * (s0.cells.length : Int) = k + 2 + 2 * (s0.cells.length : Int) + 1 by omega], own_setB2 HM.out hnb⟩)⟩
      case measure => simp [intOf]
    · go_wp2
      go_ret
      exact ⟨by congr 2 <;> omega, D2.mk' (World.setB_at _ _ _ hb1) ho hnb rfl, HU.out⟩
set_option maxRecDepth 100000 in
set_option maxHeartbeats 1000000 in
theorem laws_heldSlots2 (b : Nat) (f0 : List Nat) (u0 : Value) (n : Nat) (k : Int) (w : World) (hs : D2 w b f0 u0 (mk0 k n) (mk1 k n)) (h0 : 0 ≤ k) (h1 : k + 4 + (2 * n : Nat) ≤ 4294960000) :
    Calls Try.prog 36 #[.slice (some ⟨b, 0, none⟩) 2 2, .int .i64 k] w fun e w' => e = .returned (.int .i64 (k + 4 + (2 * n : Nat))) ∧ Below w.heap.size w w' := by
  obtain ⟨hblk, hown, hnb, hnil⟩ := hs
  obtain ⟨a0, c0, rfl⟩ := vSlice.form (View.toRd _ hown)
  have hbl := World.lt_of_get hblk
  have HO : Hid ((vSlice vCell 58).own w f0 [.slice a0 (mk0 k n).cells.length c0] (marks mkCell 2 (k + 1) n)) := hown
  have hc := fun i => World.cell?_of_get hblk (i := i)
  have y0 : w.cell? ⟨b, 0, none⟩ = some (.int .i64 k) := (hc 0).trans rfl
  have y1 : w.cell? ⟨b, 1, none⟩ = some (.slice a0 (mk0 k n).cells.length c0) := (hc 1).trans rfl
  have y2 : w.cell? ⟨b, 2, none⟩ = some (.bool ((k + 1 + 2 * (n : Int)) % 3 == 0)) := (hc 2).trans rfl
  have y3 : w.cell? ⟨b, 3, none⟩ = some (.int .i64 (k + 2 + 2 * (n : Int))) := (hc 3).trans rfl
  have y4 : w.cell? ⟨b, 4, none⟩ = some (.slice none 0 0) := (hc 4).trans rfl
  have y5 : w.cell? ⟨b, 5, none⟩ = some (.bool ((k + 3 + 2 * (n : Int)) % 3 == 0)) := (hc 5).trans rfl
  clear hc hblk hown
  go_enter Try.func36, Try.ntmps36
  go_wp2
  go_loopw [1, 5] (fun kk i wr => ∃ (kv : Int) (X : Ext), kk = .int .i64 kv ∧ wr = w.ext X ∧ ((kv = k ∧ i = .int .i64 0) ∨ (kv = k + 2 + 2 * (n : Int) ∧ i = .int .i64 1) ∨ (kv = k + 4 + 2 * (n : Int) ∧ i = .int .i64 2))) (fun _ i _ => 2 - (intOf i).toNat)
  case atStart => exact ⟨k, ⟨#[], _⟩, rfl, (World.ext_nil _ _ rfl).symm, .inl ⟨rfl, rfl⟩⟩
  case round =>
    obtain ⟨kv, X, rfl, rfl, hrel⟩ := hrel
    rcases hrel with ⟨rfl, rfl⟩ | ⟨rfl, rfl⟩ | ⟨rfl, rfl⟩
    · cases hw : ((kv + 1 + 2 * (n : Int)) % 3 == 0) <;>
      · rw [hw] at y2
        go_wp2_with fail
        (go_at_call 50; refine (laws_heldCellS _ (kv + 1) n _ (View.toRd _ (View.ownExt HO.out _)) (by omega) (by omega)).mono ?_; rintro e w' ⟨rfl, hb⟩; obtain ⟨X, rfl⟩ := hb.ext; clear hb)
        go_wp2
        go_roundw
        case rel => exact ⟨_, _, rfl, rfl, .inr (.inl ⟨by omega, rfl⟩)⟩
        case measure => simp [intOf]
    · cases hw : ((k + 3 + 2 * (n : Int)) % 3 == 0) <;>
      · rw [hw] at y5
        have hw' : ((k + 2 + 2 * (n : Int) + 1) % 3 == 0) = ((k + 3 + 2 * (n : Int)) % 3 == 0) := by congr 2; omega
        rw [hw] at hw'
        go_wp2_with fail
        (go_at_call 50; refine (laws_heldCellS _ (k + 2 + 2 * (n : Int) + 1) 0 _ (e := 0) (View.toRd _ (.inl ⟨rfl, rfl, rfl⟩)) (by omega) (by omega)).mono ?_; rintro e w' ⟨rfl, hb⟩; obtain ⟨X, rfl⟩ := hb.ext; clear hb)
        simp only [Nat.mul_zero, Int.natCast_zero, Int.add_zero]
        go_wp2
        go_roundw
        case rel => exact ⟨_, _, rfl, rfl, .inr (.inr ⟨by omega, rfl⟩)⟩
        case measure => simp [intOf]
    · go_wp2
      go_ret
      exact ⟨by congr 2 <;> omega, (by repeat (first | with_reducible exact Below.refl _ _ | with_reducible apply Below.ofExt | with_reducible apply Below.ofAlloc | with_reducible apply Below.drew | with_reducible apply Below.ofDrewN | with_reducible assumption | (with_reducible refine Below.setCell ?_ (by first | exact Nat.le_refl _ | (simp [go_sem]; done) | (simp [go_sem]; omega)) _)))⟩
theorem laws_markDisk2 (b : Nat) (f0 : List Nat) (u0 : Value) (s0 s1 : SlotD) (k : Int) (w : World) (hs : D2 w b f0 u0 s0 s1) (h0 : 0 ≤ k) (h1 : k + 4 + (2 * s0.cells.length : Nat) ≤ 4294960000) :
    Calls Try.prog 18 #[.agg #[.slice (some ⟨b, 0, none⟩) 2 2, .string ⟨#[]⟩, .int .i64 0], .int .i64 k] w fun e w' => e = .returned (.int .i64 (k + 4 + (2 * s0.cells.length : Nat))) ∧ D2 w' b f0 u0 (mk0 k s0.cells.length) (mk1 k s0.cells.length) ∧ Upon (b :: f0) w w' := by
  have HS := Lib.hid hs
  clear hs
  go_enter Try.func18, Try.ntmps18
  go_wp2_with fail
  (go_at_call 35; refine (laws_markSlots2 b f0 u0 s0 s1 k _ (HS.out.alloc _) h0 h1).mono ?_; rintro e w' ⟨rfl, hd, hu⟩)
  have HU := Lib.hid ((Upon.below (fp := b :: f0) ((Below.refl w.heap.size w).ofAlloc (.cells #[.slice (some ⟨b, 0, none⟩) 2 2, .string ⟨#[]⟩, .int .i64 0] 32))).trans hu)
  have HD := Lib.hid hd
  clear hu hd
  go_wp2
  go_ret
  exact ⟨rfl, HD.out, HU.out⟩
theorem laws_heldDisk2 (b : Nat) (f0 : List Nat) (u0 : Value) (n : Nat) (k : Int) (w : World) (hs : D2 w b f0 u0 (mk0 k n) (mk1 k n)) (h0 : 0 ≤ k) (h1 : k + 4 + (2 * n : Nat) ≤ 4294960000) :
    Calls Try.prog 19 #[.agg #[.slice (some ⟨b, 0, none⟩) 2 2, .string ⟨#[]⟩, .int .i64 0], .int .i64 k] w fun e w' => e = .returned (.int .i64 (k + 4 + (2 * n : Nat))) ∧ Below w.heap.size w w' := by
  have HS := Lib.hid hs
  clear hs
  have hn : ¬ (k + 4 + (2 * n : Nat)) < 0 := by omega
  go_enter Try.func19, Try.ntmps19
  go_wp2_with fail
  (go_at_call 36; refine (laws_heldSlots2 b f0 u0 n k _ (HS.out.alloc _) h0 h1).mono ?_; rintro e w' ⟨rfl, hb⟩; obtain ⟨X, rfl⟩ := hb.ext; clear hb)
  go_wp2
  go_ret
  exact ⟨rfl, (by repeat (first | with_reducible exact Below.refl _ _ | with_reducible apply Below.ofExt | with_reducible apply Below.ofAlloc | with_reducible apply Below.drew | with_reducible apply Below.ofDrewN | with_reducible assumption | (with_reducible refine Below.setCell ?_ (by first | exact Nat.le_refl _ | (simp [go_sem]; done) | (simp [go_sem]; omega)) _)))⟩
end Go.Proofs.Ytdelkphahpbegaa
