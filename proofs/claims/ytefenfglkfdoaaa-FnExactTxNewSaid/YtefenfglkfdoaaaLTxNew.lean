/- The law of TxNew: the program's and the reference's. Each condition stands in its theorem. -/
import Derived.Test.YtefenfglkfdoaaaMarkT
import Derived.Test.YtefenfglkfdoaaaCTx
import Derived.Test.YtefenfglkfdoaaaTStr
import Derived.Test.YtefenfglkfdoaaaTInt
set_option linter.unusedVariables false
set_option linter.unusedSimpArgs false
namespace Go.Proofs.Ytefenfglkfdoaaa
open Go.ChangeShapes Go.WideShapes Go.ChangeAt Go.RowKit

theorem nil_rd {α : Type} (V : View α) (e : TypeId) (w : World) : (vSlice V e).rd w [.slice none 0 0] [] :=
  ⟨none, 0, [], rfl, Nat.le_refl _, Nat.zero_le _, fun _ => rfl, rfl, fun i hi => absurd hi (by simp), fun h => absurd rfl h⟩
theorem nil_own {α : Type} (V : View α) (e : TypeId) (w : World) : (vSlice V e).own w [] [.slice none 0 0] [] := .inl ⟨rfl, rfl, rfl⟩
def newTx (a b c : Int) : TxD := ⟨a, b, c, 0, [], [], ⟨[], []⟩, [], 1⟩
theorem newTx_own (a b c : Int) (w : World) : vTx.own w [] [.int .i64 a, .int .i64 b, .int .i64 c, .int .i64 0, .slice none 0 0, .slice none 0 0, .slice none 0 0, .slice none 0 0, .slice none 0 0, .int .i64 1] (newTx a b c) :=
  ⟨_, _, _, _, _, [], [], [], [], [], rfl, rfl, nil_own _ _ _, nil_own _ _ _, nil_own _ _ _, nil_own _ _ _, nil_own _ _ _⟩
theorem spec_TxNew (a b c : Int) (w : World) :
    Calls Try.prog 18 #[.int .i64 a, .int .i64 b, .int .i64 c] w fun e w' => e = .returned (.agg #[.int .i64 a, .int .i64 b, .int .i64 c, .int .i64 0, .slice none 0 0, .slice none 0 0, .slice none 0 0, .slice none 0 0, .slice none 0 0, .int .i64 1]) ∧ Below w.heap.size w w' := by
  go_enter Try.func18, Try.ntmps18
  go_wp2
  refine bodyPost_ret (by simp [results, Try.results18, go_sem]; rfl) rfl ?_
  exact ⟨rfl, (by repeat (first | with_reducible exact Below.refl _ _ | with_reducible apply Below.ofExt | with_reducible apply Below.ofAlloc | with_reducible apply Below.drew | with_reducible apply Below.ofDrewN | with_reducible assumption | (with_reducible refine Below.setCell ?_ (by first | exact Nat.le_refl _ | (simp [go_sem]; done) | (simp [go_sem]; omega)) _)))⟩
theorem impl_TxNew (a b c : Int) (w : World) :
    Calls Try.prog 19 #[.int .i64 a, .int .i64 b, .int .i64 c] w fun e w' => e = .returned (.agg #[.int .i64 a, .int .i64 b, .int .i64 c, .int .i64 0, .slice none 0 0, .slice none 0 0, .slice none 0 0, .slice none 0 0, .slice none 0 0, .int .i64 1]) ∧ Below w.heap.size w w' := by
  go_enter Try.func19, Try.ntmps19
  go_wp2
  refine bodyPost_ret (by simp [results, Try.results19, go_sem]; rfl) rfl ?_
  exact ⟨rfl, (by repeat (first | with_reducible exact Below.refl _ _ | with_reducible apply Below.ofExt | with_reducible apply Below.ofAlloc | with_reducible apply Below.drew | with_reducible apply Below.ofDrewN | with_reducible assumption | (with_reducible refine Below.setCell ?_ (by first | exact Nat.le_refl _ | (simp [go_sem]; done) | (simp [go_sem]; omega)) _)))⟩
theorem laws_heldTouch0 (k : Int) (w : World) (h0 : 0 ≤ k) (h1 : k ≤ 1000000) :
    Calls Try.prog 74 #[.agg #[.slice none 0 0, .slice none 0 0], .int .i64 k] w fun e w' => e = .returned (.int .i64 k) ∧ Below w.heap.size w w' := by
  go_enter Try.func74, Try.ntmps74
  go_wp2_with fail
  (go_at_call 115; refine (laws_heldStringS _ k 0 _ (e := 0) (nil_rd _ _ _) h0 (by omega)).mono ?_; rintro e w' ⟨rfl, hb⟩; obtain ⟨X, rfl⟩ := hb.ext; clear hb)
  simp only [Nat.mul_zero, Int.natCast_zero, Int.add_zero]
  have hn : ¬ k < 0 := by omega
  go_wp2_with fail
  (go_at_call 115; refine (laws_heldStringS _ k 0 _ (e := 0) (nil_rd _ _ _) h0 (by omega)).mono ?_; rintro e w' ⟨rfl, hb⟩; obtain ⟨X, rfl⟩ := hb.ext; clear hb)
  simp only [Nat.mul_zero, Int.natCast_zero, Int.add_zero]
  go_wp2
  go_ret
  exact ⟨rfl, (by repeat (first | with_reducible exact Below.refl _ _ | with_reducible apply Below.ofExt | with_reducible apply Below.ofAlloc | with_reducible apply Below.drew | with_reducible apply Below.ofDrewN | with_reducible assumption | (with_reducible refine Below.setCell ?_ (by first | exact Nat.le_refl _ | (simp [go_sem]; done) | (simp [go_sem]; omega)) _)))⟩
theorem laws_heldTx0 (a b c : Int) (k : Int) (w : World) (h0 : 0 ≤ k) (h1 : k ≤ 1000000) :
    Calls Try.prog 22 #[.agg #[.int .i64 a, .int .i64 b, .int .i64 c, .int .i64 0, .slice none 0 0, .slice none 0 0, .slice none 0 0, .slice none 0 0, .slice none 0 0, .int .i64 1], .int .i64 k] w fun e w' => e = .returned (.int .i64 k) ∧ Below w.heap.size w w' := by
  have hn : ¬ k < 0 := by omega
  go_enter Try.func22, Try.ntmps22
  go_wp2_with fail
  (go_at_call 50; refine (laws_heldCallS _ k 0 _ (e := 0) (nil_rd _ _ _) h0 (by omega)).mono ?_; rintro e w' ⟨rfl, hb⟩; obtain ⟨X, rfl⟩ := hb.ext; clear hb)
  simp only [Nat.mul_zero, Int.natCast_zero, Int.add_zero]
  go_wp2_with fail
  (go_at_call 73; refine (laws_heldAnswerS _ k 0 _ (e := 0) (nil_rd _ _ _) h0 (by omega)).mono ?_; rintro e w' ⟨rfl, hb⟩; obtain ⟨X, rfl⟩ := hb.ext; clear hb)
  simp only [Nat.mul_zero, Int.natCast_zero, Int.add_zero]
  go_wp2_with fail
  (go_at_call 74; refine (laws_heldTouch0 k _ h0 h1).mono ?_; rintro e w' ⟨rfl, hb⟩; obtain ⟨X, rfl⟩ := hb.ext; clear hb)
  go_wp2_with fail
  (go_at_call 55; refine (laws_heldIntS _ k 0 _ (e := 0) (nil_rd _ _ _) h0 (by omega)).mono ?_; rintro e w' ⟨rfl, hb⟩; obtain ⟨X, rfl⟩ := hb.ext; clear hb)
  simp only [Nat.mul_zero, Int.natCast_zero, Int.add_zero]
  go_wp2
  go_ret
  exact ⟨rfl, (by repeat (first | with_reducible exact Below.refl _ _ | with_reducible apply Below.ofExt | with_reducible apply Below.ofAlloc | with_reducible apply Below.drew | with_reducible apply Below.ofDrewN | with_reducible assumption | (with_reducible refine Below.setCell ?_ (by first | exact Nat.le_refl _ | (simp [go_sem]; done) | (simp [go_sem]; omega)) _)))⟩
set_option maxRecDepth 100000 in
set_option maxHeartbeats 2000000 in
theorem law_TxNew (a b c : Int) (w : World) : Calls Try.prog 3 #[.int .i64 a, .int .i64 b, .int .i64 c] w (Yes w) := by
  unfold Yes
  go_enter Try.func3, Try.ntmps3
  go_wp2_with fail
  (go_at_call 18; refine (spec_TxNew a b c _).mono ?_; rintro e w' ⟨rfl, hb⟩; obtain ⟨X, rfl⟩ := hb.ext; clear hb)
  go_wp2_with fail
  (go_at_call 19; refine (impl_TxNew a b c _).mono ?_; rintro e w' ⟨rfl, hb⟩; obtain ⟨X, rfl⟩ := hb.ext; clear hb)
  go_wp2_with fail
  (go_at_call 20; refine (laws_eqTx _ _ (newTx a b c) _ (View.toRd _ (newTx_own a b c _)) (View.toRd _ (newTx_own a b c _))).mono ?_; rintro e w' ⟨rfl, hb⟩; obtain ⟨X, rfl⟩ := hb.ext; clear hb)
  go_wp2_with fail
  (go_at_call 21; refine (laws_markTx _ [] (newTx a b c) 1 _ (newTx_own a b c _) List.nodup_nil (by omega) (by show (1 : Int) + ((0 : Nat) : Int) ≤ 4294960000; decide)).mono ?_; rintro e w' ⟨rfl, hu⟩; obtain ⟨X, rfl⟩ := (hu.toBelow (Nat.le_refl _) (by simp)).ext; clear hu)
  have hc : (1 : Int) + (cntTx (newTx a b c) : Nat) = 1 := rfl
  rw [hc]
  clear hc
  go_wp2_with fail
  (go_at_call 22; refine (laws_heldTx0 a b c 1 _ (by omega) (by omega)).mono ?_; rintro e w' ⟨rfl, hb⟩; obtain ⟨X, rfl⟩ := hb.ext; clear hb)
  go_wp2_with fail
  (go_at_call 19; refine (impl_TxNew a b c _).mono ?_; rintro e w' ⟨rfl, hb⟩; obtain ⟨X, rfl⟩ := hb.ext; clear hb)
  go_wp2_with fail
  (go_at_call 20; refine (laws_eqTx _ _ (newTx a b c) _ (View.toRd _ (newTx_own a b c _)) (View.toRd _ (newTx_own a b c _))).mono ?_; rintro e w' ⟨rfl, hb⟩; obtain ⟨X, rfl⟩ := hb.ext; clear hb)
  go_wp2_with fail
  (go_at_call 22; refine (laws_heldTx0 a b c 1 _ (by omega) (by omega)).mono ?_; rintro e w' ⟨rfl, hb⟩; obtain ⟨X, rfl⟩ := hb.ext; clear hb)
  go_wp2
  go_ret
  exact ⟨rfl, (by repeat (first | with_reducible exact Below.refl _ _ | with_reducible apply Below.ofExt | with_reducible apply Below.ofAlloc | with_reducible apply Below.drew | with_reducible apply Below.ofDrewN | with_reducible assumption | (with_reducible refine Below.setCell ?_ (by first | exact Nat.le_refl _ | (simp [go_sem]; done) | (simp [go_sem]; omega)) _)))⟩
end Go.Proofs.Ytefenfglkfdoaaa
