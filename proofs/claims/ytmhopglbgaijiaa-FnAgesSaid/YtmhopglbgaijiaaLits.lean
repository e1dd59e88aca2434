/- Transactions and access sets that a law writes out, as they lie in cells. Each condition stands in its theorem. -/
import Derived.Test.YtmhopglbgaijiaaSettle
set_option linter.unusedVariables false
set_option linter.unusedSimpArgs false
namespace Go.Proofs.Ytmhopglbgaijiaa
open Go.ChangeShapes Go.WideShapes Go.ChangeAt Go.RowKit

theorem rd_nil {α : Type} (V : View α) {e : TypeId} (w : World) : (vSlice V e).rd w [.slice none 0 0] [] :=
  ⟨none, 0, [], rfl, Nat.le_refl _, Nat.zero_le _, fun _ => rfl, rfl, fun i hi => absurd hi (by simp), fun h => absurd rfl h⟩
theorem rd_one {α : Type} (V : View α) {e : TypeId} {w : World} {b : Nat} {cs : List Value} {d : α} {t : TypeId} (h : V.rd w cs d) (hb : w.heap[b]? = some (.cells cs.toArray t)) : (vSlice V e).rd w [.slice (some ⟨b, 0, none⟩) 1 1] [d] :=
  ⟨_, 1, [cs], rfl, Nat.le_refl _, by unfold maxLen; omega, (fun h => by cases h), rfl, fun i hi hc => by
    have : i = 0 := by simp at hi; omega
    subst this
    exact h, fun _ => ⟨b, 0, rfl, World.lt_of_get hb, fun j u hj => by
    rw [World.cell?_of_get hb, Nat.zero_add]
    simpa using hj⟩⟩
def litA : ByteArray := ⟨#[97]⟩
def oldD : TxD := ⟨1, 1, 0, 0, [], [], ⟨[], [litA]⟩, [], 1⟩
def newD (age : Int) : TxD := ⟨2, age, 0, 0, [], [], ⟨[], []⟩, [], 0⟩
def tchD : TouchD := ⟨[litA], []⟩
theorem rd_litA {w : World} {b : Nat} (h : w.heap[b]? = some (.cells #[.string ⟨#[97]⟩] 9)) : (vSlice vStr 9).rd w [.slice (some ⟨b, 0, none⟩) 1 1] [litA] :=
  rd_one vStr (cs := [.string litA]) ⟨rfl, by decide⟩ h
theorem rd_oldD {w : World} {b : Nat} (h : w.heap[b]? = some (.cells #[.string ⟨#[97]⟩] 9)) : vTx.rd w [.int .i64 1, .int .i64 1, .int .i64 0, .int .i64 0, .slice none 0 0, .slice none 0 0, .slice none 0 0, .slice (some ⟨b, 0, none⟩) 1 1, .slice none 0 0, .int .i64 1] oldD :=
  ⟨_, _, _, _, _, rfl, rd_nil _ _, rd_nil _ _, rd_nil _ _, rd_litA h, rd_nil _ _⟩
theorem rd_oldDs {w : World} {b c : Nat} (h : w.heap[b]? = some (.cells #[.string ⟨#[97]⟩] 9)) (hc : w.heap[c]? = some (.cells #[.int .i64 1, .int .i64 1, .int .i64 0, .int .i64 0, .slice none 0 0, .slice none 0 0, .slice none 0 0, .slice (some ⟨b, 0, none⟩) 1 1, .slice none 0 0, .int .i64 1] 31)) : (vSlice vTx 31).rd w [.slice (some ⟨c, 0, none⟩) 1 1] [oldD] :=
  rd_one vTx (cs := [_, _, _, _, _, _, _, _, _, _]) (rd_oldD h) hc
theorem rd_newD (w : World) (age : Int) : vTx.rd w [.int .i64 2, .int .i64 age, .int .i64 0, .int .i64 0, .slice none 0 0, .slice none 0 0, .slice none 0 0, .slice none 0 0, .slice none 0 0, .int .i64 0] (newD age) :=
  ⟨_, _, _, _, _, rfl, rd_nil _ _, rd_nil _ _, rd_nil _ _, rd_nil _ _, rd_nil _ _⟩
theorem rd_tchD {w : World} {b : Nat} (h : w.heap[b]? = some (.cells #[.string ⟨#[97]⟩] 9)) : vTouch.rd w [.slice (some ⟨b, 0, none⟩) 1 1, .slice none 0 0] tchD :=
  ⟨_, _, rfl, rd_litA h, rd_nil _ _⟩
theorem rd_won {w : World} {b : Nat} (h : w.heap[b]? = some (.cells #[.int .i64 1] 3)) : (vSlice vInt 3).rd w [.slice (some ⟨b, 0, none⟩) 1 1] [1] :=
  rd_one vInt (cs := [.int .i64 1]) ⟨rfl, trivial⟩ h
theorem heap4 (W : World) (a b c d : Obj) (n : Nat) (hn : n = W.heap.size) : ((((W.alloc a).alloc b).alloc c).alloc d).heap[n]? = some a ∧ ((((W.alloc a).alloc b).alloc c).alloc d).heap[n + 1]? = some b ∧ ((((W.alloc a).alloc b).alloc c).alloc d).heap[n + 1 + 1]? = some c ∧ ((((W.alloc a).alloc b).alloc c).alloc d).heap[n + 1 + 1 + 1]? = some d := by
  subst hn
  show ((((W.heap.push a).push b).push c).push d)[W.heap.size]? = some a ∧ ((((W.heap.push a).push b).push c).push d)[W.heap.size + 1]? = some b ∧ ((((W.heap.push a).push b).push c).push d)[W.heap.size + 1 + 1]? = some c ∧ ((((W.heap.push a).push b).push c).push d)[W.heap.size + 1 + 1 + 1]? = some d
  refine ⟨?_, ?_, ?_, ?_⟩ <;> (simp only [Array.getElem?_push, Array.size_push]; repeat (first | rfl | rw [if_pos trivial] | rw [if_pos (by omega)] | rw [if_neg (by omega)]))
theorem heap2 (W : World) (a b : Obj) (n : Nat) (hn : n = W.heap.size) : ((W.alloc a).alloc b).heap[n]? = some a ∧ ((W.alloc a).alloc b).heap[n + 1]? = some b := by
  subst hn
  show ((W.heap.push a).push b)[W.heap.size]? = some a ∧ ((W.heap.push a).push b)[W.heap.size + 1]? = some b
  refine ⟨?_, ?_⟩ <;> (simp only [Array.getElem?_push, Array.size_push]; repeat (first | rfl | rw [if_pos trivial] | rw [if_pos (by omega)] | rw [if_neg (by omega)]))
theorem heap2_old {W : World} (X : Ext) (a b : Obj) {p : Nat} {o : Obj} (h : W.heap[p]? = some o) : (((W.ext X).alloc a).alloc b).heap[p]? = some o := by
  have hl := World.lt_of_get h
  have h1 := (W.ext_get X hl).trans h
  have h2 := World.lt_of_get h1
  show (((W.ext X).heap.push a).push b)[p]? = some o
  rw [Array.getElem?_push, if_neg (by simp; omega), Array.getElem?_push, if_neg (by omega)]
  exact h1
theorem toList_litA : litA.toList = [97] := by
  unfold ByteArray.toList litA
  rw [ByteArray.toList.loop, if_pos (by decide), ByteArray.toList.loop, if_neg (by decide)]
  rfl
theorem not_open : isOpen litA = false := by
  have e : litA.extract (litA.size - 1) litA.size = litA := by rfl
  unfold isOpen
  rw [e, toList_litA]
  rfl
theorem clash_old : clash oldD.touch tchD = true := by
  have h : spansMeet litA litA = true := by
    unfold spansMeet spanHas
    rw [not_open, toList_litA]
    rfl
  show ((spansMeet litA litA || false) || false || _) = true
  rw [h]
  rfl
theorem clash_lit (a : Int) : clashIds tchD (newD a).id [oldD] = [1] := by
  unfold clashIds clashes
  rw [List.filter_cons_of_pos (by show (_ && (_ && clash oldD.touch tchD)) = true; rw [clash_old]; rfl)]
  rfl
theorem settle_waits : settleOk [oldD] (newD 2) tchD = false := by
  unfold settleOk
  rw [clash_lit]
  decide
theorem settle_goes : settleOk [oldD] (newD 0) tchD = true := by
  unfold settleOk
  rw [clash_lit]
  decide
theorem settle_won : settleIds [oldD] (newD 0) tchD = [1] := by
  unfold settleIds
  rw [settle_goes, clash_lit]
  rfl
end Go.Proofs.Ytmhopglbgaijiaa
