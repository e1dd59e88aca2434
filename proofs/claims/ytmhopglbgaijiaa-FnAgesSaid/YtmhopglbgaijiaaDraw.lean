/- The drawing functions of the reference: what they draw, as far as a law needs it. Each condition stands in its theorem. -/
import Derived.Test.YtmhopglbgaijiaaPut
import Derived.Test.YtmhopglbgaijiaaOrd
import Derived.Lib.Hide
set_option linter.unusedVariables false
namespace Go.Proofs.Ytmhopglbgaijiaa
open Go.ChangeShapes Go.WideShapes Go.ChangeAt Go.RowKit

/-- block p is a cursor over bytes -/
def curObj (vb : Value) (i h : Int) : Obj := .cells #[vb, .int .i64 i, .int .i64 h] 72 (0, 0)
structure Cur (w : World) (p : Nat) (vb : Value) (bs : List UInt8) (i h : Int) : Prop where
  blk : w.heap[p]? = some (curObj vb i h)
  bytes : Sl w vb bs.length (bytesOf bs)
  lo : 0 ≤ i
  hi : i ≤ bs.length
  off : vb.ownBlock ≠ some p
  len : bs.length ≤ 140737488351232

theorem Cur.ext {w : World} {p : Nat} {vb : Value} {bs : List UInt8} {i h : Int} (c : Cur w p vb bs i h) (X : Ext) : Cur (w.ext X) p vb bs i h :=
  ⟨by rw [w.ext_get X (World.lt_of_get c.blk)]; exact c.blk, c.bytes.ext X, c.lo, c.hi, c.off, c.len⟩
theorem Cur.alloc {w : World} {p : Nat} {vb : Value} {bs : List UInt8} {i h : Int} (c : Cur w p vb bs i h) (o : Obj) : Cur (w.alloc o) p vb bs i h :=
  ⟨by rw [Below.heap_alloc w o p (World.lt_of_get c.blk)]; exact c.blk, c.bytes.alloc o, c.lo, c.hi, c.off, c.len⟩
theorem Cur.drew {w : World} {p : Nat} {vb : Value} {bs : List UInt8} {i h : Int} (c : Cur w p vb bs i h) : Cur w.drew p vb bs i h :=
  ⟨c.blk, c.bytes, c.lo, c.hi, c.off, c.len⟩
theorem Cur.set {w : World} {p : Nat} {vb : Value} {bs : List UInt8} {i h : Int} (c : Cur w p vb bs i h) {i' h' : Int} (h0 : 0 ≤ i') (h1 : i' ≤ bs.length) : Cur (w.setB p (curObj vb i' h')) p vb bs i' h' :=
  ⟨w.setB_at p _ (World.lt_of_get c.blk), c.bytes.setB c.off _, h0, h1, c.off, c.len⟩

theorem Cur.got {w w' : World} {p : Nat} {vb : Value} {bs : List UInt8} {i h i' h' : Int} (c : Cur w p vb bs i h) (g : Got p w (curObj vb i' h') w') (h0 : 0 ≤ i') (h1 : i' ≤ bs.length) : Cur w' p vb bs i' h' := by
  obtain ⟨X, rfl⟩ := g
  exact (c.set h0 h1).ext X
theorem Cur.below {w w' : World} {p : Nat} {vb : Value} {bs : List UInt8} {i h : Int} (c : Cur w p vb bs i h) (g : Below w.heap.size w w') : Cur w' p vb bs i h := by
  obtain ⟨X, rfl⟩ := g.ext
  exact c.ext X
theorem Cur.lt {w : World} {p : Nat} {vb : Value} {bs : List UInt8} {i h : Int} (c : Cur w p vb bs i h) : p < w.heap.size := World.lt_of_get c.blk

theorem and255 (x : Int) : 0 ≤ bits BinOp.and IntKind.i64 x 255 ∧ bits BinOp.and IntKind.i64 x 255 ≤ 255 := by
  have h : ∀ n : Nat, IntKind.i64.wrap ((n &&& 255 : Nat) : Int) = ((n &&& 255 : Nat) : Int) := fun n => by
    have := Nat.and_le_right (n := n) (m := 255)
    exact IntWalk.i64_in _ (by omega)
  unfold bits
  simp only [BitVec.toNat_and]
  have e : (BitVec.ofInt IntKind.i64.bits 255).toNat = 255 := by decide
  rw [e, h]
  have := Nat.and_le_right (n := (BitVec.ofInt IntKind.i64.bits x).toNat) (m := 255)
  omega

theorem spec_l01Byte (p : Nat) (vb : Value) (bs : List UInt8) (i h : Int) (w : World) (hc : Cur w p vb bs i h) :
    Calls Try.prog 60 #[.pointer (some ⟨p, 0, none⟩)] w fun e w' => ∃ x i' h', e = .returned (.int .i64 x) ∧ 0 ≤ x ∧ x ≤ 255 ∧ Got p w (curObj vb i' h') w' ∧ 0 ≤ i' ∧ i' ≤ bs.length := by
  obtain ⟨hb, hs, h0, h1, ho, hl⟩ := hc
  have hp := World.lt_of_get hb
  refine World.at_block hb ?_
  unfold curObj
  clear hb
  have ha := fun x => and255 x
  have HA := Lib.hid ha
  clear ha
  rcases hs with ⟨rfl, hn, _⟩ | ⟨b, off, cap, rfl, hc1, hc2, hcell⟩
  · have hlt : ¬ i < 0 := by omega
    go_enter Try.func60, Try.ntmps60
    go_wp2
    refine wp_region_ord [(0,true),(1,true),(2,true),(3,true),(4,true),(5,true),(6,true),(7,true),(8,true),(9,true),(10,true),(11,true),(12,false)] 12 (by kernel_rfl) (by kernel_rfl) ?_
    repeat (refine wpOrd_quiet rfl (fun K hK => ?_); go_simp; (try simp (disch := omega) only [IntWalk.i64_in]); refine hK _ ?_; clear hK K)
    repeat (refine wpOrd_tail rfl rfl (fun K hK => ?_); go_simp; refine hK _ _ ?_; clear hK K)
    refine wpOrd_nil ?_
    generalize hx : bits BinOp.and IntKind.i64 _ 255 = x
    have hx0 : 0 ≤ x ∧ x ≤ 255 := hx ▸ HA.out _
    clear hx
    go_wp2
    refine wp_region_ord [(0,true),(1,true),(2,true),(3,true),(4,true),(5,true),(6,true),(7,true),(8,true),(9,true)] 10 (by kernel_rfl) (by kernel_rfl) ?_
    repeat (refine wpOrd_quiet rfl (fun K hK => ?_); go_simp; (try simp (disch := omega) only [IntWalk.i64_in]); refine hK _ ?_; clear hK K)
    repeat (refine wpOrd_tail rfl rfl (fun K hK => ?_); go_simp; refine hK _ _ ?_; clear hK K)
    refine wpOrd_nil ?_
    go_wp2
    go_ret
    exact ⟨x, i, _, rfl, hx0.1, hx0.2, (by repeat (first | with_reducible exact Got.mk _ _ _ | with_reducible apply Got.ext | with_reducible apply Got.drew | with_reducible apply Got.alloc)), h0, h1⟩
  · have hbp : b ≠ p := fun e => ho (by simp [Value.ownBlock, e])
    by_cases hi : i < bs.length
    · obtain ⟨k, rfl⟩ := Int.eq_ofNat_of_zero_le h0
      have hk : k < bs.length := by omega
      have hcc : w.cell? ⟨b, off + k, none⟩ = some (.int .u8 (bs[k].toNat)) := hcell k _ (by simp [bytesOf, hk])
      have hbk : bs[k].toNat < 256 := bs[k].toNat_lt
      generalize bs[k].toNat = q at hcc hbk
      have hbl := World.block_lt_of_cell? w _ hcc
      clear hcell h0
      go_enter Try.func60, Try.ntmps60
      go_wp2
      refine wp_region_ord [(0,true),(1,true),(2,true),(3,true),(4,true),(5,true),(6,true),(7,true),(8,true),(9,true),(10,true),(11,true),(12,false)] 12 (by kernel_rfl) (by kernel_rfl) ?_
      repeat (refine wpOrd_quiet rfl (fun K hK => ?_); go_simp; (try simp (disch := omega) only [IntWalk.i64_in]); refine hK _ ?_; clear hK K)
      repeat (refine wpOrd_tail rfl rfl (fun K hK => ?_); go_simp; refine hK _ _ ?_; clear hK K)
      refine wpOrd_nil ?_
      generalize hx : bits BinOp.and IntKind.i64 _ 255 = x
      have hx0 : 0 ≤ x ∧ x ≤ 255 := hx ▸ HA.out _
      clear hx
      go_wp2
      refine wp_region_ord [(0,true),(1,true),(2,true),(3,true),(4,true),(5,true),(6,true),(7,true),(8,true),(9,true)] 10 (by kernel_rfl) (by kernel_rfl) ?_
      repeat (refine wpOrd_quiet rfl (fun K hK => ?_); go_simp; (try simp (disch := omega) only [IntWalk.i64_in]); refine hK _ ?_; clear hK K)
      repeat (refine wpOrd_tail rfl rfl (fun K hK => ?_); go_simp; refine hK _ _ ?_; clear hK K)
      refine wpOrd_nil ?_
      go_wp2
      refine wp_region_ord [(0,true),(1,true),(2,true),(3,true),(4,true),(5,true),(6,true),(7,true),(8,true),(9,true),(10,true),(11,true),(12,true),(13,true),(14,false)] 14 (by kernel_rfl) (by kernel_rfl) ?_
      repeat (refine wpOrd_quiet rfl (fun K hK => ?_); go_simp; (try simp (disch := omega) only [IntWalk.i64_in]); refine hK _ ?_; clear hK K)
      repeat (refine wpOrd_tail rfl rfl (fun K hK => ?_); go_simp; refine hK _ _ ?_; clear hK K)
      refine wpOrd_nil ?_
      generalize hx : bits BinOp.and IntKind.i64 _ 255 = y
      have hy0 : 0 ≤ y ∧ y ≤ 255 := hx ▸ HA.out _
      clear hx
      go_wp2
      go_ret
      exact ⟨y, k + 1, _, rfl, hy0.1, hy0.2, (by repeat (first | with_reducible exact Got.mk _ _ _ | with_reducible apply Got.ext | with_reducible apply Got.drew | with_reducible apply Got.alloc)), by omega, by omega⟩
    · have hi' : ¬ i < (bs.length : Int) := hi
      clear hcell hi
      go_enter Try.func60, Try.ntmps60
      go_wp2
      refine wp_region_ord [(0,true),(1,true),(2,true),(3,true),(4,true),(5,true),(6,true),(7,true),(8,true),(9,true),(10,true),(11,true),(12,false)] 12 (by kernel_rfl) (by kernel_rfl) ?_
      repeat (refine wpOrd_quiet rfl (fun K hK => ?_); go_simp; (try simp (disch := omega) only [IntWalk.i64_in]); refine hK _ ?_; clear hK K)
      repeat (refine wpOrd_tail rfl rfl (fun K hK => ?_); go_simp; refine hK _ _ ?_; clear hK K)
      refine wpOrd_nil ?_
      generalize hx : bits BinOp.and IntKind.i64 _ 255 = x
      have hx0 : 0 ≤ x ∧ x ≤ 255 := hx ▸ HA.out _
      clear hx
      go_wp2
      refine wp_region_ord [(0,true),(1,true),(2,true),(3,true),(4,true),(5,true),(6,true),(7,true),(8,true),(9,true)] 10 (by kernel_rfl) (by kernel_rfl) ?_
      repeat (refine wpOrd_quiet rfl (fun K hK => ?_); go_simp; (try simp (disch := omega) only [IntWalk.i64_in]); refine hK _ ?_; clear hK K)
      repeat (refine wpOrd_tail rfl rfl (fun K hK => ?_); go_simp; refine hK _ _ ?_; clear hK K)
      refine wpOrd_nil ?_
      go_wp2
      go_ret
      exact ⟨x, i, _, rfl, hx0.1, hx0.2, (by repeat (first | with_reducible exact Got.mk _ _ _ | with_reducible apply Got.ext | with_reducible apply Got.drew | with_reducible apply Got.alloc)), h0, h1⟩
end Go.Proofs.Ytmhopglbgaijiaa
