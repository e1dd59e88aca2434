/- The drawing functions of the reference: spans, access sets, small transactions. Each condition stands in its theorem. -/
import Derived.Test.YtkfkbojcnbpmdaaGreatDoorDraw1
set_option linter.unusedVariables false
set_option linter.unusedSimpArgs false
namespace Go.Proofs.YtkfkbojcnbpmdaaGreatDoor
open Go.ChangeShapes Go.WideShapes Go.ChangeAt Go.RowKit

theorem putS_length (xs : List ByteArray) (x : ByteArray) : (putS xs x).length ≤ xs.length + 1 := by
  unfold putS
  split
  · omega
  · simp [List.length_take]; omega

def keysLit : List ByteArray := [⟨#[97]⟩, ⟨#[98]⟩, ⟨#[110, 47, 120]⟩, ⟨#[110, 47, 121]⟩, ⟨#[110, 47, 121, 121]⟩, ⟨#[105, 47, 49, 47, 115]⟩, ⟨#[105, 47, 49, 47, 98, 47, 48]⟩, ⟨#[105, 47, 49, 50, 47, 115]⟩, ⟨#[99, 47, 112, 105, 112, 101]⟩, ⟨#[112, 47, 49, 47, 104]⟩]
theorem spec_l02Key (p : Nat) (vb : Value) (bs : List UInt8) (i h : Int) (w : World) (hc : Cur w p vb bs i h) :
    Calls Tryz.prog 43 #[.pointer (some ⟨p, 0, none⟩)] w fun e w' => ∃ x i' h', e = .returned (.string x) ∧ x ∈ keysLit ∧ Got p w (curObj vb i' h') w' ∧ 0 ≤ i' ∧ i' ≤ bs.length := by
  have hp := World.lt_of_get hc.blk
  have HC := Lib.hid hc
  clear hc
  go_enter Tryz.func43, Tryz.ntmps43
  go_wp2_with fail
  (go_at_call 33; refine (spec_l01Pick p vb bs _ _ _ keysLit _ (by repeat (first | with_reducible exact HC.out | with_reducible assumption | with_reducible apply Cur.ext | with_reducible apply Cur.alloc | with_reducible apply Cur.drew | with_reducible apply Cur.set)) (RdL.lit rStr w keysLit 10 rfl (by decide) _ rfl _) (by decide) (by decide) (by simp [Value.ownBlock]; omega)).mono ?_; rintro e w' ⟨x, i1, h1, rfl, hx, ⟨X, rfl⟩, hi0, hi1⟩)
  go_wp2
  go_ret
  exact ⟨x, i1, h1, rfl, hx, (by repeat (first | with_reducible exact Got.mk _ _ _ | with_reducible apply Got.ext | with_reducible apply Got.drew | with_reducible apply Got.alloc)), hi0, hi1⟩
end Go.Proofs.YtkfkbojcnbpmdaaGreatDoor
