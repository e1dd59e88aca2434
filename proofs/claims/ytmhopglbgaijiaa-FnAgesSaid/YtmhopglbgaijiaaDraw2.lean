/- The drawing functions of the reference: spans, access sets, small transactions. Each condition stands in its theorem. -/
import Derived.Test.YtmhopglbgaijiaaDraw1
set_option linter.unusedVariables false
set_option linter.unusedSimpArgs false
namespace Go.Proofs.Ytmhopglbgaijiaa
open Go.ChangeShapes Go.WideShapes Go.ChangeAt Go.RowKit

theorem putS_length (xs : List ByteArray) (x : ByteArray) : (putS xs x).length ≤ xs.length + 1 := by
  unfold putS
  split
  · omega
  · simp [List.length_take]; omega

theorem spec_AddSpan (v : Value) (xs : List ByteArray) (x : ByteArray) (w : World) (hs : RdL rStr w v xs) (hl : xs.length ≤ 4194303) :
    Calls Try.prog 54 #[v, .string x] w fun e w' => ∃ v', e = .returned v' ∧ OwnL rStr 9 w' w.heap.size v' (putS xs x) ∧ Below w.heap.size w w' := by
  have HL : Hid ((putS xs x).length ≤ 4194304) := Nat.le_trans (putS_length xs x) (by omega)
  have HS := Lib.hid hs
  clear hs
  go_enter Try.func54, Try.ntmps54
  go_wp2_with fail
  (go_at_call 73; refine (spec_l02Put v xs x _ (HS.out.alloc _) (by omega)).mono ?_; rintro e w1 ⟨v1, rfl, h1, hb⟩; obtain ⟨X, rfl⟩ := hb.ext; clear hb)
  go_wp2_with (at_builtin; refine Stop.here ?_)
  have hl2 := HL.out
  refine wpList_appL rfl _ _ _ rfl Try.elemStrs ((OwnL.empty rStr _ w).ext X) rfl (h1) rfl (by (try simp only [List.nil_append, List.length_append, List.length_singleton, List.length_nil]); (try unfold maxLen); omega) (by (try simp only [List.nil_append, List.length_append, List.length_singleton, List.length_nil]); (try unfold maxLen); omega) (Below.size ((by repeat (first | with_reducible exact Below.refl _ _ | with_reducible apply Below.ofExt | with_reducible apply Below.ofAlloc | with_reducible apply Below.drew | with_reducible apply Below.ofDrewN | with_reducible assumption | (with_reducible refine Below.setCell ?_ (by first | exact Nat.le_refl _ | (simp [go_sem]; done) | (simp [go_sem]; omega)) _))))) ?_
  intro v2 w2 hown2 hg2 hz2
  have hb2 : Below w.heap.size w w2 := Below.appL ((by repeat (first | with_reducible exact Below.refl _ _ | with_reducible apply Below.ofExt | with_reducible apply Below.ofAlloc | with_reducible apply Below.drew | with_reducible apply Below.ofDrewN | with_reducible assumption | (with_reducible refine Below.setCell ?_ (by first | exact Nat.le_refl _ | (simp [go_sem]; done) | (simp [go_sem]; omega)) _)))) hg2 ((OwnL.empty rStr _ w).ext X)
  clear hg2
  have hs2 := hb2.size
  go_wp2
  go_ret
  exact ⟨v2, rfl, by simpa using hown2, hb2⟩

def keysLit : List ByteArray := [⟨#[97]⟩, ⟨#[98]⟩, ⟨#[110, 47, 120]⟩, ⟨#[110, 47, 121]⟩, ⟨#[110, 47, 121, 121]⟩, ⟨#[105, 47, 49, 47, 115]⟩, ⟨#[105, 47, 49, 47, 98, 47, 48]⟩, ⟨#[105, 47, 49, 50, 47, 115]⟩, ⟨#[99, 47, 112, 105, 112, 101]⟩, ⟨#[112, 47, 49, 47, 104]⟩]
theorem spec_l02Key (p : Nat) (vb : Value) (bs : List UInt8) (i h : Int) (w : World) (hc : Cur w p vb bs i h) :
    Calls Try.prog 55 #[.pointer (some ⟨p, 0, none⟩)] w fun e w' => ∃ x i' h', e = .returned (.string x) ∧ x ∈ keysLit ∧ Got p w (curObj vb i' h') w' ∧ 0 ≤ i' ∧ i' ≤ bs.length := by
  have hp := World.lt_of_get hc.blk
  have HC := Lib.hid hc
  clear hc
  go_enter Try.func55, Try.ntmps55
  go_wp2_with fail
  (go_at_call 81; refine (spec_l01Pick p vb bs _ _ _ keysLit _ (by repeat (first | with_reducible exact HC.out | with_reducible assumption | with_reducible apply Cur.ext | with_reducible apply Cur.alloc | with_reducible apply Cur.drew | with_reducible apply Cur.set)) (RdL.lit rStr w keysLit 10 rfl (by decide) _ rfl _) (by decide) (by decide) (by simp [Value.ownBlock]; omega)).mono ?_; rintro e w' ⟨x, i1, h1, rfl, hx, ⟨X, rfl⟩, hi0, hi1⟩)
  go_wp2
  go_ret
  exact ⟨x, i1, h1, rfl, hx, (by repeat (first | with_reducible exact Got.mk _ _ _ | with_reducible apply Got.ext | with_reducible apply Got.drew | with_reducible apply Got.alloc)), hi0, hi1⟩
end Go.Proofs.Ytmhopglbgaijiaa
