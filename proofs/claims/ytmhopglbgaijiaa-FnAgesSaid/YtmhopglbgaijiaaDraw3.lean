/- The drawing functions of the reference: lists of spans, access sets. Each condition stands in its theorem. -/
import Derived.Test.YtmhopglbgaijiaaDraw2
set_option linter.unusedVariables false
set_option linter.unusedSimpArgs false
namespace Go.Proofs.Ytmhopglbgaijiaa
open Go.ChangeShapes Go.WideShapes Go.ChangeAt Go.RowKit

def spansLit : List ByteArray := [⟨#[97]⟩, ⟨#[98]⟩, ⟨#[110, 47, 120]⟩, ⟨#[110, 47, 121]⟩, ⟨#[110, 47, 121, 121]⟩, ⟨#[110, 47, 42]⟩, ⟨#[110, 47, 121, 42]⟩, ⟨#[105, 47, 49, 47, 42]⟩, ⟨#[105, 47, 49, 47, 115]⟩, ⟨#[105, 47, 42]⟩, ⟨#[42]⟩, ⟨#[105, 47, 49, 50, 47, 115]⟩]
theorem spec_l03Span (p : Nat) (vb : Value) (bs : List UInt8) (i h : Int) (w : World) (hc : Cur w p vb bs i h) :
    Calls Try.prog 80 #[.pointer (some ⟨p, 0, none⟩)] w fun e w' => ∃ x i' h', e = .returned (.string x) ∧ x ∈ spansLit ∧ Got p w (curObj vb i' h') w' ∧ 0 ≤ i' ∧ i' ≤ bs.length := by
  have hp := World.lt_of_get hc.blk
  have HC := Lib.hid hc
  clear hc
  go_enter Try.func80, Try.ntmps80
  go_wp2_with fail
  (go_at_call 81; refine (spec_l01Pick p vb bs _ _ _ spansLit _ (by repeat (first | with_reducible exact HC.out | with_reducible assumption | with_reducible apply Cur.ext | with_reducible apply Cur.alloc | with_reducible apply Cur.drew | with_reducible apply Cur.set)) (RdL.lit rStr w spansLit 12 rfl (by decide) _ rfl _) (by decide) (by decide) (by simp [Value.ownBlock]; omega)).mono ?_; rintro e w' ⟨x, i1, h1, rfl, hx, ⟨X, rfl⟩, hi0, hi1⟩)
  go_wp2
  go_ret
  exact ⟨x, i1, h1, rfl, hx, (by repeat (first | with_reducible exact Got.mk _ _ _ | with_reducible apply Got.ext | with_reducible apply Got.drew | with_reducible apply Got.alloc)), hi0, hi1⟩

theorem spec_l03List (p : Nat) (vb : Value) (bs : List UInt8) (i h : Int) (w : World) (hc : Cur w p vb bs i h) :
    Calls Try.prog 53 #[.pointer (some ⟨p, 0, none⟩)] w fun e w' => ∃ v xs i' h', e = .returned v ∧ RdL rStr w' v xs ∧ xs.length ≤ 4 ∧ (∀ b, v.ownBlock = some b → w.heap.size ≤ b ∧ b < w'.heap.size) ∧ Got p w (curObj vb i' h') w' ∧ 0 ≤ i' ∧ i' ≤ bs.length := by
  have hp := World.lt_of_get hc.blk
  have HC := Lib.hid hc
  clear hc
  go_enter Try.func53, Try.ntmps53
  go_wp2
  go_loopw [3, 4] (fun v k wr => ∃ (n : Nat) (xs : List ByteArray) (i' h' : Int), k = .int .i64 n ∧ n ≤ 4 ∧ xs.length ≤ n ∧ RdL rStr wr v xs ∧ (∀ b, v.ownBlock = some b → w.heap.size ≤ b ∧ b < wr.heap.size) ∧ Got p w (curObj vb i' h') wr ∧ 0 ≤ i' ∧ i' ≤ bs.length) (fun _ k _ => 4 - (intOf k).toNat)
  case atStart =>
    exact ⟨0, [], i, h, rfl, by omega, by simp, RdL.zero rStr _ _ _ _ (by decide), fun b hb => by simp [Value.ownBlock] at hb; simp; omega, (Got.self HC.out.blk).alloc _, HC.out.lo, HC.out.hi⟩
  case round =>
    obtain ⟨n, xs, i1, h1, rfl, hn, hx, hr, hvb, hg, hi0, hi1⟩ := hrel
    have hc1 := HC.out.got hg hi0 hi1
    have hvp : u3.ownBlock ≠ some p := fun e => by have := (hvb p e).1; omega
    have HV := Lib.hid hvb
    have HP := Lib.hid hvp
    clear hvb hvp
    go_wp2_with fail
    (go_at_call 35; refine (spec_l01Below p vb bs _ _ _ _ hc1 (by omega)).mono ?_; rintro e w2 ⟨x, i2, h2, rfl, ⟨hx0, hx1, _⟩, hg2, hj0, hj1⟩)
    have hc2 := hc1.got hg2 hj0 hj1
    have hr2 := hr.got hg2 HP.out
    have hx2 := hx1 (by omega)
    clear hx1
    by_cases hlt : (n : Int) < x
    · go_wp2_with fail
      (go_at_call 80; refine (spec_l03Span p vb bs _ _ _ hc2).mono ?_; rintro e w3 ⟨y, i3, h3, rfl, hy, hg3, hk0, hk1⟩)
      have hr3 := hr2.got hg3 HP.out
      go_wp2_with fail
      (go_at_call 54; refine (spec_AddSpan _ xs _ _ hr3 (by omega)).mono ?_; rintro e w4 ⟨v', rfl, hv', hb⟩)
      have hlen := putS_length xs y
      go_wp2
      go_roundw
      case rel => exact ⟨n + 1, putS xs y, i3, h3, by go_num, by omega, by omega, hv'.rd, fun b hb => by have := hv'.lt b hb; have := hg.size; have := hg2.size; have := hg3.size; omega, ((hg.then hg2 hp).then hg3 hp).ofBelow hb, hk0, hk1⟩
      case measure => simp [intOf]; omega
    · go_wp2
      go_ret
      exact ⟨_, xs, i2, h2, rfl, hr2, by omega, fun b hb => ⟨(HV.out b hb).1, by have := (HV.out b hb).2; have := hg2.size; omega⟩, hg.then hg2 hp, hj0, hj1⟩
end Go.Proofs.Ytmhopglbgaijiaa
