/- Which of two transactions is older: the program's and the reference's. No condition but that each reads. -/
import Derived.Test.YtmhopglbgaijiaaCTx
set_option linter.unusedVariables false
set_option linter.unusedSimpArgs false
namespace Go.Proofs.Ytmhopglbgaijiaa
open Go.ChangeShapes Go.WideShapes Go.ChangeAt Go.RowKit

def olderB (a b : TxD) : Bool := decide (a.age < b.age) || (decide (a.age = b.age) && decide (a.id < b.id))
theorem spec_Older (cs : List Value) (a : TxD) (cs' : List Value) (b : TxD) (w : World) (hs : vTx.rd w cs a) (hs' : vTx.rd w cs' b) :
    Calls Try.prog 12 #[.agg cs.toArray, .agg cs'.toArray] w fun e w' => e = .returned (.bool (olderB a b)) ∧ Below w.heap.size w w' := by
  obtain ⟨a0, c0, a1, c1, a2, c2, a3, c3, a4, c4, rfl⟩ := vTx_shape hs
  obtain ⟨b0, g0, b1, g1, b2, g2, b3, g3, b4, g4, rfl⟩ := vTx_shape hs'
  clear hs hs'
  have hm : olderB a b = olderB a b := rfl
  conv at hm => rhs; unfold olderB
  by_cases h1 : a.age < b.age
  · simp only [h1, decide_true, Bool.true_or] at hm
    rw [hm]
    clear hm
    go_enter Try.func12, Try.ntmps12
    go_wp2
    go_ret
    exact ⟨rfl, (by repeat (first | with_reducible exact Below.refl _ _ | with_reducible apply Below.ofExt | with_reducible apply Below.ofAlloc | with_reducible apply Below.drew | with_reducible apply Below.ofDrewN | with_reducible assumption | (with_reducible refine Below.setCell ?_ (by first | exact Nat.le_refl _ | (simp [go_sem]; done) | (simp [go_sem]; omega)) _)))⟩
  · by_cases h2 : a.age = b.age
    · by_cases h3 : a.id < b.id
      · simp only [h1, h2, h3, decide_true, decide_false, Bool.false_or, Bool.and_self, Int.lt_irrefl] at hm
        rw [hm]
        clear hm
        go_enter Try.func12, Try.ntmps12
        go_wp2
        go_ret
        exact ⟨rfl, (by repeat (first | with_reducible exact Below.refl _ _ | with_reducible apply Below.ofExt | with_reducible apply Below.ofAlloc | with_reducible apply Below.drew | with_reducible apply Below.ofDrewN | with_reducible assumption | (with_reducible refine Below.setCell ?_ (by first | exact Nat.le_refl _ | (simp [go_sem]; done) | (simp [go_sem]; omega)) _)))⟩
      · simp only [h1, h2, h3, decide_true, decide_false, Bool.false_or, Bool.and_false, Int.lt_irrefl] at hm
        rw [hm]
        clear hm
        go_enter Try.func12, Try.ntmps12
        go_wp2
        go_ret
        exact ⟨rfl, (by repeat (first | with_reducible exact Below.refl _ _ | with_reducible apply Below.ofExt | with_reducible apply Below.ofAlloc | with_reducible apply Below.drew | with_reducible apply Below.ofDrewN | with_reducible assumption | (with_reducible refine Below.setCell ?_ (by first | exact Nat.le_refl _ | (simp [go_sem]; done) | (simp [go_sem]; omega)) _)))⟩
    · simp only [h1, h2, decide_false, Bool.false_or, Bool.false_and] at hm
      rw [hm]
      clear hm
      go_enter Try.func12, Try.ntmps12
      go_wp2
      go_ret
      exact ⟨rfl, (by repeat (first | with_reducible exact Below.refl _ _ | with_reducible apply Below.ofExt | with_reducible apply Below.ofAlloc | with_reducible apply Below.drew | with_reducible apply Below.ofDrewN | with_reducible assumption | (with_reducible refine Below.setCell ?_ (by first | exact Nat.le_refl _ | (simp [go_sem]; done) | (simp [go_sem]; omega)) _)))⟩
theorem impl_Older (cs : List Value) (a : TxD) (cs' : List Value) (b : TxD) (w : World) (hs : vTx.rd w cs a) (hs' : vTx.rd w cs' b) :
    Calls Try.prog 11 #[.agg cs.toArray, .agg cs'.toArray] w fun e w' => e = .returned (.bool (olderB a b)) ∧ Below w.heap.size w w' := by
  obtain ⟨a0, c0, a1, c1, a2, c2, a3, c3, a4, c4, rfl⟩ := vTx_shape hs
  obtain ⟨b0, g0, b1, g1, b2, g2, b3, g3, b4, g4, rfl⟩ := vTx_shape hs'
  clear hs hs'
  have hm : olderB a b = olderB a b := rfl
  conv at hm => rhs; unfold olderB
  by_cases h1 : a.age < b.age
  · simp only [h1, decide_true, Bool.true_or] at hm
    rw [hm]
    clear hm
    go_enter Try.func11, Try.ntmps11
    go_wp2
    go_ret
    exact ⟨rfl, (by repeat (first | with_reducible exact Below.refl _ _ | with_reducible apply Below.ofExt | with_reducible apply Below.ofAlloc | with_reducible apply Below.drew | with_reducible apply Below.ofDrewN | with_reducible assumption | (with_reducible refine Below.setCell ?_ (by first | exact Nat.le_refl _ | (simp [go_sem]; done) | (simp [go_sem]; omega)) _)))⟩
  · by_cases h2 : a.age = b.age
    · by_cases h3 : a.id < b.id
      · simp only [h1, h2, h3, decide_true, decide_false, Bool.false_or, Bool.and_self, Int.lt_irrefl] at hm
        rw [hm]
        clear hm
        go_enter Try.func11, Try.ntmps11
        go_wp2
        go_ret
        exact ⟨rfl, (by repeat (first | with_reducible exact Below.refl _ _ | with_reducible apply Below.ofExt | with_reducible apply Below.ofAlloc | with_reducible apply Below.drew | with_reducible apply Below.ofDrewN | with_reducible assumption | (with_reducible refine Below.setCell ?_ (by first | exact Nat.le_refl _ | (simp [go_sem]; done) | (simp [go_sem]; omega)) _)))⟩
      · simp only [h1, h2, h3, decide_true, decide_false, Bool.false_or, Bool.and_false, Int.lt_irrefl] at hm
        rw [hm]
        clear hm
        go_enter Try.func11, Try.ntmps11
        go_wp2
        go_ret
        exact ⟨rfl, (by repeat (first | with_reducible exact Below.refl _ _ | with_reducible apply Below.ofExt | with_reducible apply Below.ofAlloc | with_reducible apply Below.drew | with_reducible apply Below.ofDrewN | with_reducible assumption | (with_reducible refine Below.setCell ?_ (by first | exact Nat.le_refl _ | (simp [go_sem]; done) | (simp [go_sem]; omega)) _)))⟩
    · simp only [h1, h2, decide_false, Bool.false_or, Bool.false_and] at hm
      rw [hm]
      clear hm
      go_enter Try.func11, Try.ntmps11
      go_wp2
      go_ret
      exact ⟨rfl, (by repeat (first | with_reducible exact Below.refl _ _ | with_reducible apply Below.ofExt | with_reducible apply Below.ofAlloc | with_reducible apply Below.drew | with_reducible apply Below.ofDrewN | with_reducible assumption | (with_reducible refine Below.setCell ?_ (by first | exact Nat.le_refl _ | (simp [go_sem]; done) | (simp [go_sem]; omega)) _)))⟩
end Go.Proofs.Ytmhopglbgaijiaa
