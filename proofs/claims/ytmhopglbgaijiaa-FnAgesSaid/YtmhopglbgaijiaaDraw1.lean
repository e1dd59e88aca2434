/- The drawing functions of the reference, above the byte. Each condition stands in its theorem. -/
import Derived.Test.YtmhopglbgaijiaaDraw
set_option linter.unusedVariables false
namespace Go.Proofs.Ytmhopglbgaijiaa
open Go.ChangeShapes Go.WideShapes Go.ChangeAt Go.RowKit

theorem Got.self {w : World} {p : Nat} {o : Obj} (h : w.heap[p]? = some o) : Got p w o w := ⟨⟨#[], w.drawn⟩, by rw [World.setB_self h]; unfold World.ext; simp⟩
def Drawn (p : Nat) (vb : Value) (bs : List UInt8) (w w' : World) : Prop := ∃ i' h', Got p w (curObj vb i' h') w' ∧ 0 ≤ i' ∧ i' ≤ bs.length

theorem spec_l01Below (p : Nat) (vb : Value) (bs : List UInt8) (i h n : Int) (w : World) (hc : Cur w p vb bs i h) (hn : n ≤ 4294967296) :
    Calls Try.prog 35 #[.pointer (some ⟨p, 0, none⟩), .int .i64 n] w fun e w' => ∃ x i' h', e = .returned (.int .i64 x) ∧ (0 ≤ x ∧ (1 ≤ n → x < n) ∧ (n ≤ 0 → x = 0)) ∧ Got p w (curObj vb i' h') w' ∧ 0 ≤ i' ∧ i' ≤ bs.length := by
  have hp := World.lt_of_get hc.blk
  have HC := Lib.hid hc
  clear hc
  by_cases hn0 : n ≤ 0
  · go_enter Try.func35, Try.ntmps35
    go_wp2
    go_ret
    exact ⟨0, i, h, rfl, ⟨by omega, fun _ => by omega, fun _ => rfl⟩, Got.self HC.out.blk, HC.out.lo, HC.out.hi⟩
  · by_cases hn1 : n ≤ 256
    · go_enter Try.func35, Try.ntmps35
      go_wp2_with (go_at_call 60; refine (spec_l01Byte p vb bs i h _ HC.out).mono ?_; rintro e w' ⟨x, i1, h1, rfl, hx0, hx1, ⟨X, rfl⟩, hi0, hi1⟩)
      go_ret
      exact ⟨_, i1, h1, rfl, ⟨by have := Int.emod_nonneg x (show n ≠ 0 by omega); exact this, fun _ => Int.emod_lt_of_pos _ (by omega), fun _ => by omega⟩, (by repeat (first | with_reducible exact Got.mk _ _ _ | with_reducible apply Got.ext | with_reducible apply Got.drew | with_reducible apply Got.alloc)), hi0, hi1⟩
    · go_enter Try.func35, Try.ntmps35
      go_wp2_with fail
      (go_at_call 60; refine (spec_l01Byte p vb bs _ _ _ (by repeat (first | with_reducible exact HC.out | with_reducible assumption | with_reducible apply Cur.ext | with_reducible apply Cur.alloc | with_reducible apply Cur.drew | with_reducible apply Cur.set))).mono ?_; rintro e w' ⟨x, i1, h1, rfl, hx0, hx1, ⟨X, rfl⟩, hi0, hi1⟩)
      go_wp2_with fail
      (go_at_call 60; refine (spec_l01Byte p vb bs _ _ _ (by repeat (first | with_reducible exact HC.out | with_reducible assumption | with_reducible apply Cur.ext | with_reducible apply Cur.alloc | with_reducible apply Cur.drew | with_reducible apply Cur.set))).mono ?_; rintro e w' ⟨y, i2, h2, rfl, hy0, hy1, ⟨X2, rfl⟩, hj0, hj1⟩)
      go_wp2_with fail
      (go_at_call 60; refine (spec_l01Byte p vb bs _ _ _ (by repeat (first | with_reducible exact HC.out | with_reducible assumption | with_reducible apply Cur.ext | with_reducible apply Cur.alloc | with_reducible apply Cur.drew | with_reducible apply Cur.set))).mono ?_; rintro e w' ⟨z, i3, h3, rfl, hz0, hz1, ⟨X3, rfl⟩, hk0, hk1⟩)
      go_wp2_with fail
      (go_at_call 60; refine (spec_l01Byte p vb bs _ _ _ (by repeat (first | with_reducible exact HC.out | with_reducible assumption | with_reducible apply Cur.ext | with_reducible apply Cur.alloc | with_reducible apply Cur.drew | with_reducible apply Cur.set))).mono ?_; rintro e w' ⟨u, i4, h4, rfl, hu0, hu1, ⟨X4, rfl⟩, hl0, hl1⟩)
      go_wp2
      go_ret
      refine ⟨_, i4, h4, rfl, ⟨?_, fun _ => Int.emod_lt_of_pos _ (by omega), fun _ => by omega⟩, (by repeat (first | with_reducible exact Got.mk _ _ _ | with_reducible apply Got.ext | with_reducible apply Got.drew | with_reducible apply Got.alloc)), hl0, hl1⟩
      have := Int.emod_nonneg (x * 16777216 + y * 65536 + z * 256 + u) (show n ≠ 0 by omega)
      exact this

theorem spec_l01PickInt (p : Nat) (vb : Value) (bs : List UInt8) (i h : Int) (v : Value) (xs : List Int) (w : World) (hc : Cur w p vb bs i h) (hs : RdL rInt w v xs) (hne : xs ≠ []) (hl : xs.length ≤ 4294967296) (ho : v.ownBlock ≠ some p) :
    Calls Try.prog 52 #[.pointer (some ⟨p, 0, none⟩), v] w fun e w' => ∃ x i' h', e = .returned (.int .i64 x) ∧ x ∈ xs ∧ Got p w (curObj vb i' h') w' ∧ 0 ≤ i' ∧ i' ≤ bs.length := by
  have hp := World.lt_of_get hc.blk
  have HC := Lib.hid hc
  clear hc
  obtain ⟨ao, cap, rfl, hc1, hc2, hnil, hcell⟩ := hs.shapeI
  obtain ⟨b, off, rfl, hbl, hcell⟩ := hcell hne
  have hbp : b ≠ p := fun e => ho (by simp [Value.ownBlock, e])
  have hpos : 0 < xs.length := by cases xs; exact absurd rfl hne; simp
  have HX := Lib.hid hcell
  clear hcell hnil hs ho hne
  unfold maxLen at hc2
  go_enter Try.func52, Try.ntmps52
  go_wp2_with fail
  (go_at_call 35; refine (spec_l01Below p vb bs _ _ _ _ (by repeat (first | with_reducible exact HC.out | with_reducible assumption | with_reducible apply Cur.ext | with_reducible apply Cur.alloc | with_reducible apply Cur.drew | with_reducible apply Cur.set)) (by omega)).mono ?_; rintro e w' ⟨x, i1, h1, rfl, ⟨hx0, hx1, _⟩, ⟨X, rfl⟩, hi0, hi1⟩)
  have hx2 := hx1 (by omega)
  obtain ⟨k, rfl⟩ := Int.eq_ofNat_of_zero_le hx0
  have hk : k < xs.length := by omega
  have hcc := HX.out k hk
  clear hx1 hx2
  go_wp2
  go_ret
  exact ⟨_, i1, h1, rfl, List.getElem_mem hk, (by repeat (first | with_reducible exact Got.mk _ _ _ | with_reducible apply Got.ext | with_reducible apply Got.drew | with_reducible apply Got.alloc)), hi0, hi1⟩

theorem spec_l01Pick (p : Nat) (vb : Value) (bs : List UInt8) (i h : Int) (v : Value) (xs : List ByteArray) (w : World) (hc : Cur w p vb bs i h) (hs : RdL rStr w v xs) (hne : xs ≠ []) (hl : xs.length ≤ 4294967296) (ho : v.ownBlock ≠ some p) :
    Calls Try.prog 81 #[.pointer (some ⟨p, 0, none⟩), v] w fun e w' => ∃ x i' h', e = .returned (.string x) ∧ x ∈ xs ∧ Got p w (curObj vb i' h') w' ∧ 0 ≤ i' ∧ i' ≤ bs.length := by
  have hp := World.lt_of_get hc.blk
  have HC := Lib.hid hc
  clear hc
  obtain ⟨ao, cap, rfl, hc1, hc2, hnil, hcell⟩ := hs.shapeS
  obtain ⟨b, off, rfl, hbl, hcell⟩ := hcell hne
  have hbp : b ≠ p := fun e => ho (by simp [Value.ownBlock, e])
  have hpos : 0 < xs.length := by cases xs; exact absurd rfl hne; simp
  have HX := Lib.hid hcell
  clear hcell hnil hs ho hne
  unfold maxLen at hc2
  go_enter Try.func81, Try.ntmps81
  go_wp2_with fail
  (go_at_call 35; refine (spec_l01Below p vb bs _ _ _ _ (by repeat (first | with_reducible exact HC.out | with_reducible assumption | with_reducible apply Cur.ext | with_reducible apply Cur.alloc | with_reducible apply Cur.drew | with_reducible apply Cur.set)) (by omega)).mono ?_; rintro e w' ⟨x, i1, h1, rfl, ⟨hx0, hx1, _⟩, ⟨X, rfl⟩, hi0, hi1⟩)
  have hx2 := hx1 (by omega)
  obtain ⟨k, rfl⟩ := Int.eq_ofNat_of_zero_le hx0
  have hk : k < xs.length := by omega
  have hcc := HX.out k hk
  clear hx1 hx2
  go_wp2
  go_ret
  exact ⟨_, i1, h1, rfl, List.getElem_mem hk, (by repeat (first | with_reducible exact Got.mk _ _ _ | with_reducible apply Got.ext | with_reducible apply Got.drew | with_reducible apply Got.alloc)), hi0, hi1⟩
end Go.Proofs.Ytmhopglbgaijiaa
