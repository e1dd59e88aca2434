/- The laws' marks: the text of a mark, marked lists, and what a marking call leaves alone. Each condition stands in its theorem. -/
import Derived.Test.YtmhopglbgaijiaaView
import Derived.Lib.Hide
import Derived.Laws.IdiomStrings
set_option linter.unusedVariables false
set_option linter.unusedSimpArgs false
namespace Go
open Go.RowKit
/-- w' is w, grown, but for the blocks of fp -/
structure Upon (fp : List Nat) (w w' : World) : Prop where
  os : w'.os = w.os
  tape : w'.tape = w.tape
  output : w'.output = w.output
  size : w.heap.size ≤ w'.heap.size
  block : ∀ b, b < w.heap.size → b ∉ fp → w'.heap[b]? = w.heap[b]?
theorem Upon.refl (fp : List Nat) (w : World) : Upon fp w w := ⟨rfl, rfl, rfl, Nat.le_refl _, fun _ _ _ => rfl⟩
theorem Upon.trans {fp : List Nat} {a b c : World} (h : Upon fp a b) (h' : Upon fp b c) : Upon fp a c :=
  ⟨h'.os.trans h.os, h'.tape.trans h.tape, h'.output.trans h.output, Nat.le_trans h.size h'.size, fun k hk hn => (h'.block k (Nat.lt_of_lt_of_le hk h.size) hn).trans (h.block k hk hn)⟩
theorem Upon.mono {fp fp' : List Nat} {a b : World} (h : Upon fp a b) (hs : ∀ x ∈ fp, x ∈ fp') : Upon fp' a b :=
  ⟨h.os, h.tape, h.output, h.size, fun k hk hn => h.block k hk (fun hx => hn (hs k hx))⟩
theorem Upon.below {fp : List Nat} {a b : World} (h : Below a.heap.size a b) : Upon fp a b := ⟨h.os, h.tape, h.output, h.size, fun k hk _ => h.block k hk⟩
theorem Upon.toBelow {fp : List Nat} {B : Nat} {a b : World} (h : Upon fp a b) (hB : B ≤ a.heap.size) (hf : ∀ x ∈ fp, B ≤ x) : Below B a b :=
  ⟨h.os, h.tape, h.output, h.size, fun k hk => h.block k (Nat.lt_of_lt_of_le hk hB) (fun hx => absurd (hf k hx) (by omega))⟩
theorem Upon.setB {fp : List Nat} (w : World) {b : Nat} (o : Obj) (hb : b ∈ fp) : Upon fp w (w.setB b o) :=
  ⟨rfl, rfl, rfl, by rw [World.setB_size]; exact Nat.le_refl _, fun k _ hn => World.setB_get w b o k (fun e => hn (e ▸ hb))⟩
theorem Upon.setBExt {fp : List Nat} (w : World) {b : Nat} (o : Obj) (X : Ext) (hb : b ∈ fp) : Upon fp w ((w.setB b o).ext X) :=
  (Upon.setB w o hb).trans (Upon.below (((Below.refl _ _)).ofExt X))
theorem View.ownUpon {α : Type} {V : View α} {w w' : World} {fp fp' : List Nat} {cs : List Value} {d : α} (h : V.own w fp cs d) (g : Upon fp' w w') (hd : ∀ b ∈ fp, b ∉ fp') : V.own w' fp cs d :=
  V.frame h fun b hb => g.block b (V.lt h b hb) (hd b hb)
end Go
namespace Go.Proofs.Ytmhopglbgaijiaa
open Go.ChangeShapes Go.WideShapes Go.ChangeAt Go.RowKit
def digB (n : Nat) : UInt8 := UInt8.ofNat (48 + n % 10)
def mtxtAux : Nat → Nat → ByteArray → ByteArray
  | 0, _, out => out
  | f + 1, k, out => if k = 0 then out else mtxtAux f (k / 10) (⟨#[digB k]⟩ ++ out)
theorem mtxtAux_fuel : ∀ (f k : Nat) (out : ByteArray), k ≤ f → mtxtAux f k out = mtxtAux k k out := by
  intro f
  induction f using Nat.strongRecOn with
  | ind f ih =>
    intro k out hk
    match f, k, hk with
    | 0, 0, _ => rfl
    | f + 1, 0, _ => rfl
    | f + 1, k + 1, hk =>
      simp only [mtxtAux, if_neg (Nat.succ_ne_zero k)]
      rw [ih f (Nat.lt_succ_self f) _ _ (by omega), ih k (by omega) _ _ (by omega)]
theorem mtxtAux_size : ∀ (f k : Nat) (out : ByteArray), (mtxtAux f k out).size ≤ f + out.size := by
  intro f
  induction f with
  | zero => intro k out; simp [mtxtAux]
  | succ f ih =>
    intro k out
    simp only [mtxtAux]
    split
    · omega
    · refine Nat.le_trans (ih _ _) ?_
      have : (⟨#[digB k]⟩ ++ out : ByteArray).size = 1 + out.size := by rw [ByteArray.size_append]; rfl
      omega
def mtext (k : Int) : ByteArray := if k ≤ 0 then ⟨#[109, 48]⟩ else ⟨#[109]⟩ ++ mtxtAux k.toNat k.toNat ⟨#[]⟩
theorem mtext_size (k : Int) (h : k ≤ 4294967296) : (mtext k).size ≤ 9223372036854775807 := by
  unfold mtext
  split
  · decide
  · rw [ByteArray.size_append]
    have h1 := mtxtAux_size k.toNat k.toNat ⟨#[]⟩
    have h2 : (⟨#[109]⟩ : ByteArray).size = 1 := rfl
    have h3 : (⟨#[]⟩ : ByteArray).size = 0 := rfl
    omega
/-- a marked list -/
def marks {α : Type} (mk : Int → α) (c : Nat) (k : Int) (n : Nat) : List α := (List.range n).map fun i => mk (k + (c * i : Nat))
theorem marks_len {α : Type} (mk : Int → α) (c : Nat) (k : Int) (n : Nat) : (marks mk c k n).length = n := by simp [marks]
theorem marks_succ {α : Type} (mk : Int → α) (c : Nat) (k : Int) (n : Nat) : marks mk c k (n + 1) = marks mk c k n ++ [mk (k + (c * n : Nat))] := by
  simp [marks, List.range_succ]
theorem marks_get {α : Type} (mk : Int → α) (c : Nat) (k : Int) (n i : Nat) (h : i < (marks mk c k n).length) : (marks mk c k n)[i] = mk (k + (c * i : Nat)) := by
  simp [marks]
theorem marks_mem {α : Type} {mk : Int → α} {c : Nat} {k : Int} {n : Nat} {d : α} (h : d ∈ marks mk c k n) : ∃ i, i < n ∧ d = mk (k + (c * i : Nat)) := by
  simp only [marks, List.mem_map, List.mem_range] at h
  obtain ⟨i, hi, rfl⟩ := h
  exact ⟨i, hi, rfl⟩

end Go.Proofs.Ytmhopglbgaijiaa
