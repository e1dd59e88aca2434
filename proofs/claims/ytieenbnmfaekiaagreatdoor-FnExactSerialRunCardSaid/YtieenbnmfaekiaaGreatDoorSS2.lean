/- Texts of this claim, merged: the walks and what they stand on. Each condition stands in its theorem. -/
import Derived.BigQuiet
import Derived.Deep.QuietTactic
import Derived.Laws.IdiomStrings
import Derived.Lib.Hide
import Derived.Test.YtieenbnmfaekiaaGreatDoorSS1
set_option linter.unusedVariables false
set_option linter.unusedSimpArgs false
set_option maxRecDepth 100000
set_option maxHeartbeats 8000000
namespace Go
open Go.RowKit
structure RowOf (α : Type) where
 row : α → List Value
 k : Nat
 len : ∀ x, (row x).length = k
 one : ∀ x, ∀ u ∈ row x, u.oneCell' = true
variable {α : Type}
theorem RowOf.flat_len (R : RowOf α) (xs : List α) : (xs.flatMap R.row).length = xs.length * R.k := by
 induction xs with
 | nil => simp
 | cons x xs ih => simp only [List.flatMap_cons, List.length_append, R.len, ih, List.length_cons, Nat.add_mul]; omega
theorem RowOf.flat_one (R : RowOf α) (xs : List α) : ∀ u ∈ xs.flatMap R.row, u.oneCell' = true := by
 intro u hu
 obtain ⟨x, _, hx⟩ := List.mem_flatMap.1 hu
 exact R.one x u hx
theorem RowOf.flat_get (R : RowOf α) : ∀ (xs : List α) (i j : Nat) (u : Value) (hi : i < xs.length), (R.row xs[i])[j]? = some u → (xs.flatMap R.row)[i * R.k + j]? = some u
 | [], i, _, _, hi, _ => absurd hi (by simp)
 | x :: xs, 0, j, u, _, h => by
  have hj : j < (R.row x).length := (List.getElem?_eq_some_iff.1 h).1
  rw [List.flatMap_cons, List.getElem?_append_left (by omega)]
  simpa using h
 | x :: xs, i + 1, j, u, hi, h => by
  rw [List.flatMap_cons, List.getElem?_append_right (by rw [R.len, Nat.add_mul]; omega), R.len]
  rw [show (i + 1) * R.k + j - R.k = i * R.k + j by rw [Nat.add_mul]; omega]
  exact R.flat_get xs i j u (by simpa using hi) (by simpa using h)
theorem RowOf.flat_drop (R : RowOf α) (xs : List α) (i : Nat) : (xs.flatMap R.row).drop (i * R.k) = (xs.drop i).flatMap R.row := by
 induction xs generalizing i with
 | nil => simp
 | cons x xs ih =>
  cases i with
  | zero => simp
  | succ i =>
   rw [List.flatMap_cons, List.drop_succ_cons, ← ih i, Nat.add_mul, Nat.one_mul, Nat.add_comm, ← List.drop_drop]
   congr 1
   rw [← R.len x]
   exact List.drop_left
theorem RowOf.flat_take (R : RowOf α) (xs : List α) (i : Nat) : (xs.flatMap R.row).take (i * R.k) = (xs.take i).flatMap R.row := by
 induction xs generalizing i with
 | nil => simp
 | cons x xs ih =>
  cases i with
  | zero => simp
  | succ i =>
   rw [List.flatMap_cons, List.take_succ_cons, List.flatMap_cons, ← ih i, Nat.add_mul, Nat.one_mul, List.take_append, R.len]
   rw [List.take_of_length_le (by rw [R.len]; omega), show i * R.k + R.k - R.k = i * R.k by omega]
def RdL (R : RowOf α) (w : World) (v : Value) (xs : List α) : Prop := Sl w v xs.length (xs.flatMap R.row)
def OwnL (R : RowOf α) (e : TypeId) (w : World) (B : Nat) (v : Value) (xs : List α) : Prop := w.ownsRow B e R.k v xs.length (xs.flatMap R.row)
section
variable {R : RowOf α} {w : World} {v : Value} {xs : List α} {e : TypeId} {B : Nat}
theorem RdL.ext (h : RdL R w v xs) (X : Ext) : RdL R (w.ext X) v xs := Sl.ext h X
theorem RdL.alloc (h : RdL R w v xs) (o : Obj) : RdL R (w.alloc o) v xs := Sl.alloc h o
theorem RdL.drew (h : RdL R w v xs) : RdL R w.drew v xs := h
theorem RdL.below {w' : World} (h : RdL R w v xs) (hb : Below w.heap.size w w') : RdL R w' v xs := Sl.below h hb
theorem RdL.setB (h : RdL R w v xs) {p : Nat} (hp : v.ownBlock ≠ some p) (o : Obj) : RdL R (w.setB p o) v xs := Sl.setB h hp o
theorem RdL.nil (R : RowOf α) (w : World) : RdL R w (.slice none 0 0) [] := .inl ⟨rfl, rfl, rfl⟩
theorem OwnL.rd (h : OwnL R e w B v xs) : RdL R w v xs := World.ownsRow.sl h
theorem OwnL.ext (h : OwnL R e w B v xs) (X : Ext) : OwnL R e (w.ext X) B v xs := World.ownsRow.ext h X
theorem OwnL.alloc (h : OwnL R e w B v xs) (o : Obj) : OwnL R e (w.alloc o) B v xs := World.ownsRow.alloc h o
theorem OwnL.drew (h : OwnL R e w B v xs) : OwnL R e w.drew B v xs := h
theorem OwnL.setB (h : OwnL R e w B v xs) {p : Nat} (hp : v.ownBlock ≠ some p) (o : Obj) : OwnL R e (w.setB p o) B v xs := World.ownsRow.setB h hp o
theorem OwnL.nil (R : RowOf α) (e : TypeId) (w : World) (B : Nat) : OwnL R e w B (.slice none 0 0) [] := by
 have := World.ownsRow_nil w B e R.k
 unfold OwnL
 simpa using this
theorem OwnL.empty (R : RowOf α) (e : TypeId) (w : World) : OwnL R e (w.alloc (.cells #[] e)) w.heap.size (.slice (some ⟨w.heap.size, 0, none⟩) 0 0) [] :=
 World.ownsRow_lit w #[] 0 (Nat.le_refl _) (by decide) (by simp)
theorem OwnL.lt (h : OwnL R e w B v xs) : ∀ k, v.ownBlock = some k → B ≤ k ∧ k < w.heap.size := World.ownsRow.lt h
theorem OwnL.base {B' : Nat} (h : OwnL R e w B v xs) (hb : B' ≤ B) : OwnL R e w B' v xs := World.ownsRow.base h hb
theorem OwnL.kept {w' : World} {row : Option Nat} (h : OwnL R e w B v xs) (hg : w.grownBy w' row) (hne : v.ownBlock = none ∨ v.ownBlock ≠ row) : OwnL R e w' B v xs := World.ownsRow.kept h hg hne
theorem RdL.kept {w' : World} {row : Option Nat} (h : RdL R w v xs) (hg : w.grownBy w' row) (hne : v.ownBlock = none ∨ v.ownBlock ≠ row) : RdL R w' v xs := by
 rcases h with h | ⟨b, off, cap, rfl, h1, h2, h3⟩
 ·exact .inl h
 ·refine .inr ⟨b, off, cap, rfl, h1, h2, fun j u hj => ?_⟩
  have hc := h3 j u hj
  rw [World.cell?_of_block (w := w) (hg.block b (World.block_lt_of_cell? w ⟨b, off + j, none⟩ hc) (by simpa [Value.ownBlock] using hne))]
  exact hc
theorem RdL.one (R : RowOf α) (w : World) (x : α) (cs : Array Value) (hcs : cs = (R.row x).toArray) (e : TypeId) : RdL R (w.alloc (.cells cs e)) (.slice (some ⟨w.heap.size, 0, none⟩) 1 1) [x] := by
 subst hcs
 unfold RdL
 have := Sl.new w (R.row x) e 1 (by decide)
 simpa using this
theorem RdL.lit (R : RowOf α) (w : World) (xs : List α) (n : Nat) (hn : n = xs.length) (hm : n ≤ maxLen) (cs : Array Value) (hcs : cs = (xs.flatMap R.row).toArray) (e : TypeId) : RdL R (w.alloc (.cells cs e)) (.slice (some ⟨w.heap.size, 0, none⟩) n n) xs := by
 subst hcs hn
 exact Sl.new w _ e _ hm
theorem OwnL.lit (R : RowOf α) (w : World) (xs : List α) (n : Nat) (hn : n = xs.length) (hm : n ≤ maxLen) (cs : Array Value) (hcs : cs = (xs.flatMap R.row).toArray) (e : TypeId) : OwnL R e (w.alloc (.cells cs e)) w.heap.size (.slice (some ⟨w.heap.size, 0, none⟩) n n) xs := by
 subst hcs hn
 have := World.ownsRow_lit (e := e) (size := R.k) w (xs.flatMap R.row).toArray xs.length (base := w.heap.size) (Nat.le_refl _) hm (by simp [R.flat_len])
 simpa [OwnL] using this
theorem RdL.shape (h : RdL R w v xs) : ∃ ao cap, v = .slice ao xs.length cap ∧ xs.length ≤ cap ∧ cap ≤ maxLen ∧ (ao = none → cap = 0 ∧ xs = []) ∧
  (xs ≠ [] → ∃ b off, ao = some ⟨b, off, none⟩ ∧ (0 < R.k → b < w.heap.size) ∧ ∀ (i : Nat) (hi : i < xs.length) (j : Nat) (u : Value), (R.row xs[i])[j]? = some u → w.cell? ⟨b, off + i * R.k + j, none⟩ = some u) := by
 obtain ⟨ao, cap, rfl, h1, h2, h3, h4⟩ := Sl.shape h
 refine ⟨ao, cap, rfl, h1, h2, fun h => ⟨(h3 h).1, List.eq_nil_of_length_eq_zero (h3 h).2⟩, fun hne => ?_⟩
 obtain ⟨b, off, rfl, hc⟩ := h4 (by cases xs; exact absurd rfl hne; simp)
 refine ⟨b, off, rfl, fun hk => ?_, fun i hi j u hj => ?_⟩
 ·have h0 : 0 < (xs.flatMap R.row).length := by
   rw [R.flat_len]
   exact Nat.mul_pos (by cases xs; exact absurd rfl hne; simp) hk
  exact World.block_lt_of_cell? w ⟨b, off + 0, none⟩ (hc 0 _ (List.getElem?_eq_getElem h0))
 ·rw [Nat.add_assoc]
  exact hc _ _ (R.flat_get xs i j u hi hj)
theorem RdL.cut {b off n cap : Nat} (h : RdL R w (.slice (some ⟨b, off, none⟩) n cap) xs) (lo hi c : Nat) (h1 : hi ≤ xs.length) (h2 : hi - lo ≤ c) (hc : c ≤ maxLen) :
  RdL R w (.slice (some ⟨b, off + lo * R.k, none⟩) (hi - lo) c) ((xs.drop lo).take (hi - lo)) := by
 have hcell : ∀ j u, (xs.flatMap R.row)[j]? = some u → w.cell? ⟨b, off + j, none⟩ = some u := by
  rcases h with ⟨h, _⟩ | ⟨b', off', cap', h, _, _, h3⟩
  ·cases h
  ·cases h; exact h3
 have hl : ((xs.drop lo).take (hi - lo)).length = hi - lo := by simp; omega
 have h3 := Sl.cut R.k hcell lo hi c h2 hc
 unfold RdL
 rw [hl, ← R.flat_take, ← R.flat_drop]
 exact h3
end
section
variable {P : Program}
theorem wp_appL {R : RowOf α} {w : World} {o : Oper} {a : Act} {K : Act → World → Prop} {Q : Exit → Act → World → Prop} (s x : Operand) (t : TypeId)
  (ho : o.op = .call { callee := .builtin .append, args := #[s, x], argTypes := #[t, t] })
  {e : TypeId} {bytes : Nat} (E : Elem P t e R.k bytes) {B : Nat} {v : Value} {xs : List α} (hown : OwnL R e w B v xs) (hs : a.eval s = v)
  {vx : Value} {ys : List α} (hx : RdL R w vx ys) (hvx : a.eval x = vx) (hb : (xs.length + ys.length) * bytes ≤ 140737488355328) (h63 : xs.length + ys.length ≤ maxLen) (hbase : B ≤ w.heap.size)
  (h : ∀ v' w', OwnL R e w' B v' (xs ++ ys) → w.grownBy w' v.ownBlock → (v' = .slice none 0 0 ↔ v = .slice none 0 0 ∧ ys = []) → K (a.put o.dst v') w') : o.wp P a w K Q := by
 refine wp_app s x t ho E hs hown hvx hx (R.flat_len ys) (R.flat_one ys) hb h63 hbase fun v' w' h1 h2 h3 => h v' w' ?_ h2 ?_
 ·unfold OwnL
  rw [List.length_append, List.flatMap_append]
  exact h1
 ·rw [h3]
  simp
theorem wpList_appL {R : RowOf α} {w : World} {ops : Array Oper} {rest : List Oper} {o : Oper} {a : Act} {Q : Exit → Act → World → Prop} (hgd : o.guard = none) (s x : Operand) (t : TypeId)
  (ho : o.op = .call { callee := .builtin .append, args := #[s, x], argTypes := #[t, t] })
  {e : TypeId} {bytes : Nat} (E : Elem P t e R.k bytes) {B : Nat} {v : Value} {xs : List α} (hown : OwnL R e w B v xs) (hs : a.eval s = v)
  {vx : Value} {ys : List α} (hx : RdL R w vx ys) (hvx : a.eval x = vx) (hb : (xs.length + ys.length) * bytes ≤ 140737488355328) (h63 : xs.length + ys.length ≤ maxLen) (hbase : B ≤ w.heap.size)
  (h : ∀ v' w', OwnL R e w' B v' (xs ++ ys) → w.grownBy w' v.ownBlock → (v' = .slice none 0 0 ↔ v = .slice none 0 0 ∧ ys = []) → wpList P ops Q rest (a.put o.dst v') w') : wpList P ops Q (o :: rest) a w :=
 wpList_plain hgd fun _ hK => wp_appL s x t ho E hown hs hx hvx hb h63 hbase (fun v' w' a1 a2 a3 => hK _ _ (h v' w' a1 a2 a3))
end
theorem RowKit.Below.appL {R : RowOf α} {a w w' : World} {v : Value} {e : TypeId} {xs : List α} (h : Below a.heap.size a w) (hg : w.grownBy w' v.ownBlock) (ho : OwnL R e w a.heap.size v xs) : Below a.heap.size a w' :=
 Below.app h hg ho
/-! ### the Go types -/
def rStr : RowOf ByteArray := ⟨fun s => [.string s], 1, fun _ => rfl, by simp [Value.oneCell']⟩
def rInt : RowOf Int := ⟨fun n => [.int .i64 n], 1, fun _ => rfl, by simp [Value.oneCell']⟩
def rByte : RowOf UInt8 := ⟨fun c => [.int .u8 c.toNat], 1, fun _ => rfl, by simp [Value.oneCell']⟩
theorem RdL.shapeS {w : World} {v : Value} {xs : List ByteArray} (h : RdL rStr w v xs) : ∃ ao cap, v = .slice ao xs.length cap ∧ xs.length ≤ cap ∧ cap ≤ maxLen ∧ (ao = none → cap = 0 ∧ xs = []) ∧
  (xs ≠ [] → ∃ b off, ao = some ⟨b, off, none⟩ ∧ b < w.heap.size ∧ ∀ (i : Nat) (hi : i < xs.length), w.cell? ⟨b, off + i, none⟩ = some (.string xs[i])) := by
 obtain ⟨ao, cap, h0, h1, h2, h3, h4⟩ := h.shape
 refine ⟨ao, cap, h0, h1, h2, h3, fun hne => ?_⟩
 obtain ⟨b, off, e, hb, hc⟩ := h4 hne
 exact ⟨b, off, e, hb (by decide), fun i hi => by simpa [rStr] using hc i hi 0 _ rfl⟩
theorem RdL.cut1 {α : Type} {R : RowOf α} {w : World} {xs : List α} (hk : R.k = 1) {b off n cap : Nat} (h : RdL R w (.slice (some ⟨b, off, none⟩) n cap) xs) (lo hi c : Nat) (h1 : hi ≤ xs.length) (h2 : hi - lo ≤ c) (hc : c ≤ maxLen) :
  RdL R w (.slice (some ⟨b, off + lo, none⟩) (hi - lo) c) ((xs.drop lo).take (hi - lo)) := by
 have := RdL.cut h lo hi c h1 h2 hc
 simpa [hk] using this
theorem RdL.upto {α : Type} {R : RowOf α} {w : World} {xs : List α} {b off n cap : Nat} (h : RdL R w (.slice (some ⟨b, off, none⟩) n cap) xs) (hi c : Nat) (h1 : hi ≤ xs.length) (h2 : hi ≤ c) (hc : c ≤ maxLen) :
  RdL R w (.slice (some ⟨b, off, none⟩) hi c) (xs.take hi) := by
 have := RdL.cut h 0 hi c h1 (by omega) hc
 simpa using this
theorem RdL.cases {α : Type} {R : RowOf α} {w : World} {ao : Option Addr} {n cap : Nat} {xs : List α} (h : RdL R w (.slice ao n cap) xs) :
  (ao = none ∧ cap = 0 ∧ n = 0 ∧ xs = []) ∨ ∃ b off, ao = some ⟨b, off, none⟩ ∧ n = xs.length ∧ n ≤ cap ∧ cap ≤ maxLen := by
 rcases h with ⟨e, h0, _⟩ | ⟨b, off, c, e, h1, h2, _⟩
 ·simp only [Value.slice.injEq] at e
  exact .inl ⟨e.1, e.2.2, e.2.1, List.eq_nil_of_length_eq_zero h0⟩
 ·simp only [Value.slice.injEq] at e
  exact .inr ⟨b, off, e.1, e.2.1, by omega, by omega⟩
theorem RdL.zero {α : Type} (R : RowOf α) (w : World) (b off c : Nat) (h : c ≤ maxLen) : RdL R w (.slice (some ⟨b, off, none⟩) 0 c) [] := .inr ⟨b, off, c, rfl, Nat.zero_le _, h, fun j u hj => by simp at hj⟩
structure SameBut (p : Nat) (a b : World) : Prop where
 size : a.heap.size = b.heap.size
 block : ∀ k, k ≠ p → a.heap[k]? = b.heap[k]?
theorem SameBut.setB (p : Nat) (w : World) (o o' : Obj) : SameBut p (w.setB p o) (w.setB p o') :=
 ⟨by rw [World.setB_size, World.setB_size], fun k hk => by rw [World.setB_get w p o k hk, World.setB_get w p o' k hk]⟩
theorem SameBut.ext {p : Nat} {a b : World} (h : SameBut p a b) (X : Ext) : SameBut p (a.ext X) (b.ext X) := by
 refine ⟨by rw [World.ext_size, World.ext_size, h.size], fun k hk => ?_⟩
 show (a.heap ++ X.bs)[k]? = (b.heap ++ X.bs)[k]?
 rw [Array.getElem?_append, Array.getElem?_append, h.size, h.block k hk]
theorem SameBut.alloc {p : Nat} {a b : World} (h : SameBut p a b) (o : Obj) : SameBut p (a.alloc o) (b.alloc o) := by
 refine ⟨by rw [World.size_alloc, World.size_alloc, h.size], fun k hk => ?_⟩
 show (a.heap.push o)[k]? = (b.heap.push o)[k]?
 rw [Array.getElem?_push, Array.getElem?_push, h.size, h.block k hk]
theorem Got.then {p : Nat} {w w1 w2 : World} {o o1 : Obj} (h1 : Got p w o1 w1) (h2 : Got p w1 o w2) (hp : p < w.heap.size) : Got p w o w2 := by
 obtain ⟨X, rfl⟩ := h1
 obtain ⟨Y, rfl⟩ := h2
 refine ⟨⟨X.bs ++ Y.bs, Y.dr⟩, ?_⟩
 rw [World.setB_ext _ _ _ _ (by rw [World.setB_size]; exact hp), World.setB_setB, World.ext_ext]
theorem Got.ofAlloc {p : Nat} {w w2 : World} {o b : Obj} (h : Got p (w.alloc b) o w2) (hp : p < w.heap.size) : Got p w o w2 := by
 obtain ⟨Y, rfl⟩ := h
 rw [World.setB_alloc_past _ _ _ _ hp]
 exact ((Got.mk p w o).alloc b).ext Y
theorem Got.size {p : Nat} {w w1 : World} {o : Obj} (h : Got p w o w1) : w.heap.size ≤ w1.heap.size := by
 obtain ⟨X, rfl⟩ := h
 rw [World.ext_size, World.setB_size]
 omega
theorem Got.other {p : Nat} {w w1 : World} {o : Obj} (h : Got p w o w1) {b : Nat} (hb : b < w.heap.size) (hne : b ≠ p) : w1.heap[b]? = w.heap[b]? := by
 obtain ⟨X, rfl⟩ := h
 rw [World.ext_get _ _ (by rw [World.setB_size]; exact hb), World.setB_get _ _ _ _ hne]
theorem RdL.past {α : Type} {R : RowOf α} {w : World} {v : Value} {xs : List α} {b : Nat} (h : RdL R w v xs) (hb : ∀ k, v.ownBlock = some k → k < b) (o : Obj) : RdL R (w.setB b o) v xs :=
 h.setB (fun e => absurd (hb b e) (Nat.lt_irrefl b)) o
theorem RdL.oneAt {α : Type} (R : RowOf α) (w : World) (x : α) (cs : Array Value) (hcs : cs = (R.row x).toArray) (e : TypeId) (b : Nat) (hb : b = w.heap.size) : RdL R (w.alloc (.cells cs e)) (.slice (some ⟨b, 0, none⟩) 1 1) [x] := by
 subst hb
 exact RdL.one R w x cs hcs e
theorem take_set1 {cs : Array Value} {n : Nat} {L : List Value} {v : Value} (h : cs.toList.take n = L) (hn : n < cs.size) : (cs.setIfInBounds n v).toList.take (n + 1) = L ++ [v] := by
 have hl : n < (cs.setIfInBounds n v).toList.length := by simpa using hn
 rw [List.take_succ_eq_append_getElem hl, ← h]
 congr 1
 ·simp only [Array.toList_setIfInBounds]
  rw [List.take_set_of_le (Nat.le_refl n)]
 ·simp
theorem sum_take_step {α : Type} (f : α → Nat) (xs : List α) (n : Nat) (h : n < xs.length) : ((xs.take (n + 1)).map f).sum = ((xs.take n).map f).sum + f xs[n] := by
 simp only [List.take_succ_eq_append_getElem h, List.map_append, List.sum_append, List.map_cons, List.map_nil, List.sum_cons, List.sum_nil, Nat.add_zero]
theorem sum_take_le {α : Type} (f : α → Nat) (xs : List α) (n : Nat) : ((xs.take n).map f).sum ≤ (xs.map f).sum := by
 conv => rhs; rw [← List.take_append_drop n xs]
 rw [List.map_append, List.sum_append]
 omega
structure Agr (B : Nat) (a b : World) : Prop where
 size : a.heap.size = b.heap.size
 block : ∀ k, B ≤ k → a.heap[k]? = b.heap[k]?
theorem Agr.ext {B : Nat} {a b : World} (h : Agr B a b) (X : Ext) : Agr B (a.ext X) (b.ext X) := by
 refine ⟨by rw [World.ext_size, World.ext_size, h.size], fun k hk => ?_⟩
 show (a.heap ++ X.bs)[k]? = (b.heap ++ X.bs)[k]?
 rw [Array.getElem?_append, Array.getElem?_append, h.size, h.block k hk]
theorem Agr.alloc {B : Nat} {a b : World} (h : Agr B a b) (o : Obj) : Agr B (a.alloc o) (b.alloc o) := by
 refine ⟨by rw [World.size_alloc, World.size_alloc, h.size], fun k hk => ?_⟩
 show (a.heap.push o)[k]? = (b.heap.push o)[k]?
 rw [Array.getElem?_push, Array.getElem?_push, h.size, h.block k hk]
def RdW {α : Type} (R : RowOf α) (w : World) (v : Value) (xs : List α) : Prop := RdL R w v xs ∨ (xs = [] ∧ ∃ a, v = .slice (some a) 0 0)
theorem RdW.ext {α : Type} {R : RowOf α} {w : World} {v : Value} {xs : List α} (h : RdW R w v xs) (X : Ext) : RdW R (w.ext X) v xs := h.imp (·.ext X) id
theorem RdW.alloc {α : Type} {R : RowOf α} {w : World} {v : Value} {xs : List α} (h : RdW R w v xs) (o : Obj) : RdW R (w.alloc o) v xs := h.imp (·.alloc o) id
theorem RdW.shape {α : Type} {R : RowOf α} {w : World} {v : Value} {xs : List α} (h : RdW R w v xs) : ∃ ao cap, v = .slice ao xs.length cap ∧ xs.length ≤ cap ∧ cap ≤ maxLen ∧ (ao = none → cap = 0 ∧ xs = []) ∧
  (xs ≠ [] → ∃ b off, ao = some ⟨b, off, none⟩ ∧ (0 < R.k → b < w.heap.size) ∧ ∀ (i : Nat) (hi : i < xs.length) (j : Nat) (u : Value), (R.row xs[i])[j]? = some u → w.cell? ⟨b, off + i * R.k + j, none⟩ = some u) := by
 rcases h with h | ⟨rfl, a, rfl⟩
 ·exact h.shape
 ·exact ⟨some a, 0, rfl, Nat.le_refl _, Nat.zero_le _, (fun e => by cases e), fun e => absurd rfl e⟩
theorem World.cell?_of_get {w : World} {p i : Nat} {cs : Array Value} {t : TypeId} {f : Nat × Nat} (h : w.heap[p]? = some (.cells cs t f)) : w.cell? ⟨p, i, none⟩ = cs[i]? := by
 simp [World.cell?, h]
def SpF (w : World) (p : Nat) : Obj × Ext → World := fun x => (w.setB p x.1).ext x.2
attribute [go_sem] SpF
theorem Sp.below {w w1 w2 : World} {p : Nat} (h : Sf (SpF w p) w1) (g : Below w1.heap.size w1 w2) : Sf (SpF w p) w2 := by
 obtain ⟨⟨o1, X⟩, rfl⟩ := h
 obtain ⟨Y, rfl⟩ := g.ext
 exact ⟨(o1, ⟨X.bs ++ Y.bs, Y.dr⟩), by unfold SpF; rw [World.ext_ext]⟩
theorem RdL.form {α : Type} {R : RowOf α} {w : World} {v : Value} {xs : List α} (h : RdL R w v xs) : ∃ ao cap, v = .slice ao xs.length cap := by
 rcases h with ⟨rfl, h, _⟩ | ⟨b, off, cap, rfl, _⟩
 ·exact ⟨none, 0, by rw [h]⟩
 ·exact ⟨_, _, rfl⟩
end Go
namespace Go
open Go.RowKit
@[go_sem] theorem World.drewN_ext (w : World) (X : Ext) (n : Nat) : (w.ext X).drewN n = w.ext ⟨X.bs, X.dr + n⟩ := rfl
theorem RowKit.Below.ofDrewN {a w : World} (h : Below a.heap.size a w) (n : Nat) : Below a.heap.size a (w.drewN n) := ⟨h.os, h.tape, h.output, h.size, h.block⟩
def Grew (w w' : World) : Prop := ∀ b, b < w.heap.size → w'.heap[b]? = w.heap[b]?
theorem Grew.refl (w : World) : Grew w w := fun _ _ => rfl
theorem Grew.ext (w : World) (X : Ext) : Grew w (w.ext X) := fun _ h => w.ext_get X h
theorem Grew.alloc (w : World) (o : Obj) : Grew w (w.alloc o) := fun _ h => by
 show (w.heap.push o)[_]? = w.heap[_]?
 rw [Array.getElem?_push, if_neg (Nat.ne_of_lt h)]
theorem Grew.drew (w : World) : Grew w w.drew := fun _ _ => rfl
theorem Grew.below {w w' : World} (h : Below w.heap.size w w') : Grew w w' := fun b hb => h.block b hb
theorem Grew.cell {w w' : World} (g : Grew w w') {a : Addr} {v : Value} (h : w.cell? a = some v) : w'.cell? a = some v :=
 (World.cell?_of_block (g a.block (World.block_lt_of_cell? w a h))).trans h
structure View (α : Type) where
 k : Nat
 rd : World → List Value → α → Prop
 own : World → List Nat → List Value → α → Prop
 len : ∀ {w cs d}, rd w cs d → cs.length = k
 one : ∀ {w cs d}, rd w cs d → ∀ u ∈ cs, u.oneCell' = true
 grow : ∀ {w w' cs d}, rd w cs d → Grew w w' → rd w' cs d
 toRd : ∀ {w fp cs d}, own w fp cs d → rd w cs d
 frame : ∀ {w w' fp cs d}, own w fp cs d → (∀ b ∈ fp, w'.heap[b]? = w.heap[b]?) → own w' fp cs d
 lt : ∀ {w fp cs d}, own w fp cs d → ∀ b ∈ fp, b < w.heap.size
section
variable {α β : Type} {V : View α} {w w' : World} {cs : List Value} {fp : List Nat} {d : α}
theorem View.ownGrow (h : V.own w fp cs d) (g : Grew w w') : V.own w' fp cs d := V.frame h fun b hb => g b (V.lt h b hb)
theorem View.ownExt (h : V.own w fp cs d) (X : Ext) : V.own (w.ext X) fp cs d := View.ownGrow h (Grew.ext w X)
end
theorem flatten_get {k : Nat} {css : List (List Value)} (h : ∀ i (hc : i < css.length), (css[i]).length = k) (i : Nat) (hi : i < css.length) (j : Nat) (u : Value) (hu : css[i][j]? = some u) : css.flatten[i * k + j]? = some u := by
 induction css generalizing i with
 | nil => simp at hi
 | cons c r ih =>
  have h0 : c.length = k := h 0 (by simp)
  cases i with
  | zero =>
   have hj : j < c.length := by
    have := (List.getElem?_eq_some_iff.1 hu).1
    simpa using this
   rw [List.flatten_cons, List.getElem?_append_left (by omega)]
   simpa using hu
  | succ i =>
   rw [List.flatten_cons, List.getElem?_append_right (by rw [h0, Nat.add_mul]; omega), h0, show (i + 1) * k + j - k = i * k + j by rw [Nat.add_mul]; omega]
   exact ih (fun i hc => by have := h (i + 1) (by simpa using hc); rwa [List.getElem_cons_succ] at this) i (by simpa using hi) (by simpa using hu)
def vSlice {α : Type} (V : View α) (e : TypeId) : View (List α) where
 k := 1
 rd w cs ds := ∃ (ao : Option Addr) (cap : Nat) (css : List (List Value)), cs = [.slice ao ds.length cap] ∧ ds.length ≤ cap ∧ cap ≤ maxLen ∧ (ao = none → cap = 0) ∧ css.length = ds.length ∧
  (∀ i (hi : i < ds.length) (hc : i < css.length), V.rd w css[i] ds[i]) ∧
  (ds ≠ [] → ∃ b off, ao = some ⟨b, off, none⟩ ∧ b < w.heap.size ∧ ∀ j u, css.flatten[j]? = some u → w.cell? ⟨b, off + j, none⟩ = some u)
 own w fp cs ds := (cs = [.slice none 0 0] ∧ ds = [] ∧ fp = []) ∨ ∃ (b cap : Nat) (blk : Array Value) (css : List (List Value)) (fps : List (List Nat)), cs = [.slice (some ⟨b, 0, none⟩) ds.length cap] ∧ w.heap[b]? = some (.cells blk e (0, 0)) ∧
  ds.length ≤ cap ∧ cap ≤ maxLen ∧ blk.size = cap * V.k ∧ blk.toList.take (ds.length * V.k) = css.flatten ∧ fp = b :: fps.flatten ∧ css.length = ds.length ∧ fps.length = ds.length ∧
  ∀ i (hi : i < ds.length) (hc : i < css.length) (hf : i < fps.length), V.own w fps[i] css[i] ds[i]
 len := by rintro w cs ds ⟨ao, cap, css, rfl, _⟩; rfl
 one := by rintro w cs ds ⟨ao, cap, css, rfl, _⟩ u hu; simp at hu; subst hu; rfl
 grow := by
  rintro w w' cs ds ⟨ao, cap, css, rfl, h1, h2, h3, h4, h5, h6⟩ g
  refine ⟨ao, cap, css, rfl, h1, h2, h3, h4, fun i hi hc => V.grow (h5 i hi hc) g, fun hne => ?_⟩
  obtain ⟨b, off, e, hb, hcell⟩ := h6 hne
  refine ⟨b, off, e, ?_, fun j u hj => g.cell (hcell j u hj)⟩
  have := g b hb
  rw [Array.getElem?_eq_getElem hb] at this
  exact (Array.getElem?_eq_some_iff.1 this).1
 toRd := by
  rintro w fp cs ds (⟨rfl, rfl, rfl⟩ | ⟨b, cap, blk, css, fps, rfl, hb, h1, h2, h3, h4, rfl, h5, h6, h7⟩)
  ·exact ⟨none, 0, [], rfl, Nat.le_refl _, Nat.zero_le _, fun _ => rfl, rfl, fun i hi => absurd hi (by simp), fun h => absurd rfl h⟩
  ·refine ⟨_, cap, css, rfl, h1, h2, (fun h => by cases h), h5, fun i hi hc => V.toRd (h7 i hi hc (by omega)), fun _ => ⟨b, 0, rfl, World.lt_of_get hb, fun j u hj => ?_⟩⟩
   rw [World.cell?_of_get hb, ← h4] at *
   rw [List.getElem?_take] at hj
   split at hj
   ·rw [Nat.zero_add]
    simpa using hj
   ·cases hj
 frame := by
  rintro w w' fp cs ds (⟨rfl, rfl, rfl⟩ | ⟨b, cap, blk, css, fps, rfl, hb, h1, h2, h3, h4, rfl, h5, h6, h7⟩) g
  ·exact .inl ⟨rfl, rfl, rfl⟩
  ·refine .inr ⟨b, cap, blk, css, fps, rfl, (g b (by simp)).trans hb, h1, h2, h3, h4, rfl, h5, h6, fun i hi hc hf => V.frame (h7 i hi hc hf) fun c hcb => g c ?_⟩
   exact List.mem_cons_of_mem _ (List.mem_flatten.2 ⟨_, List.getElem_mem hf, hcb⟩)
 lt := by
  rintro w fp cs ds (⟨rfl, rfl, rfl⟩ | ⟨b, cap, blk, css, fps, rfl, hb, h1, h2, h3, h4, rfl, h5, h6, h7⟩) c hc
  ·cases hc
  ·rcases List.mem_cons.1 hc with rfl | hc
   ·exact World.lt_of_get hb
   ·obtain ⟨l, hl, hcl⟩ := List.mem_flatten.1 hc
    obtain ⟨i, hi, rfl⟩ := List.getElem_of_mem hl
    exact V.lt (h7 i (by omega) (by omega) hi) c hcl
section
variable {α : Type} {V : View α} {e : TypeId} {w : World} {v : Value} {ds : List α}
theorem vSlice.shape (h : (vSlice V e).rd w [v] ds) : ∃ ao cap, v = .slice ao ds.length cap ∧ ds.length ≤ cap ∧ cap ≤ maxLen ∧ (ao = none → cap = 0) ∧
  (∀ i (hi : i < ds.length), ∃ b off cs, ao = some ⟨b, off, none⟩ ∧ b < w.heap.size ∧ V.rd w cs ds[i] ∧ ∀ j u, cs[j]? = some u → w.cell? ⟨b, off + i * V.k + j, none⟩ = some u) := by
 obtain ⟨ao, cap, css, hv, h1, h2, h3, h4, h5, h6⟩ := h
 simp only [List.cons.injEq, and_true] at hv
 refine ⟨ao, cap, hv, h1, h2, h3, fun i hi => ?_⟩
 obtain ⟨b, off, ea, hb, hcell⟩ := h6 (by intro hz; subst hz; simp at hi)
 refine ⟨b, off, css[i], ea, hb, h5 i hi (by omega), fun j u hj => ?_⟩
 rw [Nat.add_assoc]
 exact hcell _ u (flatten_get (fun i hc => V.len (h5 i (by omega) hc)) i (by omega) j u hj)
end
end Go
namespace Go
open Go.RowKit
def vRow {α : Type} (row : α → List Value) (k : Nat) (ok : α → Prop) (hk : ∀ d, (row d).length = k) (h1 : ∀ d, ∀ u ∈ row d, u.oneCell' = true) : View α where
 k := k
 rd _ cs d := cs = row d ∧ ok d
 own _ fp cs d := fp = [] ∧ cs = row d ∧ ok d
 len h := by rw [h.1]; exact hk _
 one h := by rw [h.1]; exact h1 _
 grow h _ := h
 toRd h := h.2
 frame h _ := h
 lt h := by rw [h.1]; simp
def vInt : View Int := vRow (fun n => [.int .i64 n]) 1 (fun _ => True) (fun _ => rfl) (by simp [Value.oneCell'])
def vStr : View ByteArray := vRow (fun n => [.string n]) 1 (fun s => s.size ≤ 9223372036854775807) (fun _ => rfl) (by simp [Value.oneCell'])
end Go
namespace Go.Proofs.YtieenbnmfaekiaaGreatDoor
open Go.RowKit
def leftOf (left : Int) (wt : Nat) : Int := if (wt : Int) ≤ left then left - wt else -1
theorem leftOf_pos {left : Int} {a : Nat} (h : ((a : Nat) : Int) ≤ left) : leftOf left a = left - a := by
 unfold leftOf
 rw [if_pos h]
theorem leftOf_none {left : Int} {a : Nat} (h : ¬ ((a : Nat) : Int) ≤ left) : leftOf left a = -1 := by
 unfold leftOf
 rw [if_neg h]
def wtS {α : Type} (wt : α → Nat) (ds : List α) : Nat := ds.length + (ds.map wt).sum
end Go.Proofs.YtieenbnmfaekiaaGreatDoor
namespace Go
open Go.RowKit
structure Fresh {α : Type} (V : View α) (w w' : World) (fp : List Nat) (cs : List Value) (d : α) : Prop where
 own : V.own w' fp cs d
 nodup : fp.Nodup
 lo : ∀ b ∈ fp, w.heap.size ≤ b
theorem vSlice.ownRow {α : Type} {row : α → List Value} {k : Nat} {ok : α → Prop} {hk : ∀ d, (row d).length = k} {h1 : ∀ d, ∀ u ∈ row d, u.oneCell' = true} {e : TypeId} {w : World} {b cap n : Nat} {blk : Array Value} {ds : List α}
  (h : w.heap[b]? = some (.cells blk e (0, 0))) (hl : n = ds.length) (hn : n ≤ cap) (hm : cap ≤ maxLen) (hs : blk.size = cap * k) (ht : blk.toList.take (n * k) = ds.flatMap row) (hok : ∀ d ∈ ds, ok d) :
  (vSlice (vRow row k ok hk h1) e).own w [b] [.slice (some ⟨b, 0, none⟩) n cap] ds := by
 subst hl
 refine .inr ⟨b, cap, blk, ds.map row, ds.map fun _ => [], rfl, h, hn, hm, hs, ?_, ?_, by simp, by simp, ?_⟩
 ·rw [← List.flatMap_def]; exact ht
 ·have : (ds.map fun _ => ([] : List Nat)).flatten = [] := by
   rw [List.flatten_eq_nil_iff]
   intro l hl
   obtain ⟨_, _, rfl⟩ := List.mem_map.1 hl
   rfl
  rw [this]
 ·intro i hi hc hf
  refine ⟨by simp, by simp, hok _ (List.getElem_mem hi)⟩
theorem vSlice.freshRow {α : Type} {row : α → List Value} {k : Nat} {ok : α → Prop} {hk : ∀ d, (row d).length = k} {h1 : ∀ d, ∀ u ∈ row d, u.oneCell' = true} {e : TypeId} {w : World} {X : Ext} {n : Nat} {blk : Array Value} {ds : List α}
  (hl : n = ds.length) (hm : n ≤ 9223372036854775807) (hs : blk.size = n * k) (ht : blk.toList.take (n * k) = ds.flatMap row) (hok : ∀ d ∈ ds, ok d) :
  Fresh (vSlice (vRow row k ok hk h1) e) w ((w.alloc (.cells blk e)).ext X) [w.heap.size] [.slice (some ⟨w.heap.size, 0, none⟩) n n] ds := by
 refine ⟨View.ownExt (vSlice.ownRow (blk := blk) ?_ hl (Nat.le_refl _) (by unfold maxLen; omega) hs ht hok) X, by simp, by simp⟩
 show (w.heap.push (.cells blk e))[w.heap.size]? = _
 simp
end Go
namespace Go
open Go.RowKit
theorem take_set1' {cs : Array Value} {n m p : Nat} {L : List Value} {v : Value} (h : cs.toList.take n = L) (hm : m = n) (hp : p = n + 1) (hn : n < cs.size) : (cs.setIfInBounds m v).toList.take p = L ++ [v] := by
 subst hm hp
 exact take_set1 h hn
def Made {α : Type} (V : View α) (w : World) (d : α) : Ending → World → Prop := fun e w' => ∃ v' fp, e = .returned v' ∧ Fresh V w w' fp [v'] d ∧ Below w.heap.size w w'
end Go
namespace Go
open Go.RowKit
theorem vSlice.form {α : Type} {V : View α} {e : TypeId} {w : World} {v : Value} {ds : List α} (h : (vSlice V e).rd w [v] ds) : ∃ ao cap, v = .slice ao ds.length cap := by
 obtain ⟨ao, cap, rfl, _⟩ := vSlice.shape h
 exact ⟨ao, cap, rfl⟩
structure Sp (lo hi : Nat) (fp : List Nat) : Prop where
 nodup : fp.Nodup
 lo : ∀ b ∈ fp, lo ≤ b
 hi : ∀ b ∈ fp, b < hi
theorem Sp.nil (lo hi : Nat) : Sp lo hi [] := ⟨List.nodup_nil, by simp, by simp⟩
theorem Sp.mono {lo hi lo' hi' : Nat} {f : List Nat} (h : Sp lo hi f) (h0 : lo' ≤ lo) (h1 : hi ≤ hi') : Sp lo' hi' f :=
 ⟨h.nodup, fun b hb => Nat.le_trans h0 (h.lo b hb), fun b hb => Nat.lt_of_lt_of_le (h.hi b hb) h1⟩
def Pre (A B : Array Obj) : Prop := ∃ R, B = A ++ R
theorem Pre.refl (A : Array Obj) : Pre A A := ⟨#[], by simp⟩
theorem World.ext_get_ge (w : World) (X : Ext) {k : Nat} (h : w.heap.size ≤ k) : (w.ext X).heap[k]? = X.bs[k - w.heap.size]? := by
 show (w.heap ++ X.bs)[k]? = _
 rw [Array.getElem?_append_right h]
theorem tail_agree {a b : World} {A B : Array Obj} {d d' : Nat} (hs : a.heap.size = b.heap.size) (hp : Pre A B) {k : Nat} (h1 : a.heap.size ≤ k) (h2 : k < (a.ext ⟨A, d⟩).heap.size) : (b.ext ⟨B, d'⟩).heap[k]? = (a.ext ⟨A, d⟩).heap[k]? := by
 obtain ⟨R, rfl⟩ := hp
 rw [World.ext_get_ge _ _ h1, World.ext_get_ge _ _ (by omega)]
 rw [World.ext_size] at h2
 simp only at h2 ⊢
 rw [Array.getElem?_append_left (by omega), hs]
structure RowsOwn {α : Type} (V : View α) (w : World) (css : List (List Value)) (fps : List (List Nat)) (ds : List α) : Prop where
 cl : css.length = ds.length
 fl : fps.length = ds.length
 el : ∀ i (hi : i < ds.length) (hc : i < css.length) (hf : i < fps.length), V.own w fps[i] css[i] ds[i]
theorem RowsOwn.nil {α : Type} (V : View α) (w : World) : RowsOwn V w [] [] [] := ⟨rfl, rfl, fun i hi => absurd hi (by simp)⟩
theorem RowsOwn.frame {α : Type} {V : View α} {w w' : World} {css : List (List Value)} {fps : List (List Nat)} {ds : List α} (h : RowsOwn V w css fps ds) (g : ∀ b ∈ fps.flatten, w'.heap[b]? = w.heap[b]?) : RowsOwn V w' css fps ds :=
 ⟨h.cl, h.fl, fun i hi hc hf => V.frame (h.el i hi hc hf) fun b hb => g b (List.mem_flatten.2 ⟨_, List.getElem_mem hf, hb⟩)⟩
theorem RowsOwn.lt {α : Type} {V : View α} {w : World} {css : List (List Value)} {fps : List (List Nat)} {ds : List α} (h : RowsOwn V w css fps ds) : ∀ b ∈ fps.flatten, b < w.heap.size := by
 intro b hb
 obtain ⟨l, hl, hbl⟩ := List.mem_flatten.1 hb
 obtain ⟨i, hi, rfl⟩ := List.getElem_of_mem hl
 exact V.lt (h.el i (by have := h.fl; omega) (by have := h.fl; have := h.cl; omega) hi) b hbl
theorem RowsOwn.tail {α : Type} {V : View α} {a b : World} {A B : Array Obj} {d d' : Nat} {css : List (List Value)} {fps : List (List Nat)} {ds : List α} (h : RowsOwn V (a.ext ⟨A, d⟩) css fps ds) (lo : ∀ k ∈ fps.flatten, a.heap.size ≤ k) (hs : a.heap.size = b.heap.size) (hp : Pre A B) :
  RowsOwn V (b.ext ⟨B, d'⟩) css fps ds := h.frame fun k hk => tail_agree hs hp (lo k hk) (h.lt k hk)
end Go
namespace Go.Proofs.YtieenbnmfaekiaaGreatDoor
open Go.ChangeShapes Go.WideShapes Go.ChangeAt Go.RowKit
def inB (n lo hi : Int) : Bool := decide (lo ≤ n) && decide (n ≤ hi)
theorem spec_l01In (n lo hi : Int) (w : World) :
  Calls Tryz.prog 112 #[.int .i64 n, .int .i64 lo, .int .i64 hi] w fun e w' => e = .returned (.bool (inB n lo hi)) ∧ w' = w := by
 by_cases h1 : lo ≤ n
 ·by_cases h2 : n ≤ hi
  ·have hq : inB n lo hi = true := by unfold inB; rw [decide_eq_true h1, decide_eq_true h2]; rfl
   rw [hq]
   clear hq
   go_enter Tryz.func112, Tryz.ntmps112
   go_wp2
   go_ret
   exact ⟨rfl, rfl⟩
  ·have hq : inB n lo hi = false := by unfold inB; rw [decide_eq_true h1, decide_eq_false h2]; rfl
   rw [hq]
   clear hq
   go_enter Tryz.func112, Tryz.ntmps112
   go_wp2
   go_ret
   exact ⟨rfl, rfl⟩
 ·have hq : inB n lo hi = false := by unfold inB; rw [decide_eq_false h1]; rfl
  rw [hq]
  clear hq
  go_enter Tryz.func112, Tryz.ntmps112
  go_wp2
  go_ret
  exact ⟨rfl, rfl⟩
theorem impl_within (n lo hi : Int) (w : World) :
  Calls Tryz.prog 86 #[.int .i64 n, .int .i64 lo, .int .i64 hi] w fun e w' => e = .returned (.bool (inB n lo hi)) ∧ w' = w := by
 by_cases h1 : lo ≤ n
 ·by_cases h2 : n ≤ hi
  ·have hq : inB n lo hi = true := by unfold inB; rw [decide_eq_true h1, decide_eq_true h2]; rfl
   rw [hq]
   clear hq
   go_enter Tryz.func86, Tryz.ntmps86
   go_wp2
   go_ret
   exact ⟨rfl, rfl⟩
  ·have hq : inB n lo hi = false := by unfold inB; rw [decide_eq_true h1, decide_eq_false h2]; rfl
   rw [hq]
   clear hq
   go_enter Tryz.func86, Tryz.ntmps86
   go_wp2
   go_ret
   exact ⟨rfl, rfl⟩
 ·have hq : inB n lo hi = false := by unfold inB; rw [decide_eq_false h1]; rfl
  rw [hq]
  clear hq
  go_enter Tryz.func86, Tryz.ntmps86
  go_wp2
  go_ret
  exact ⟨rfl, rfl⟩
def okByte (c : UInt8) : Bool := inB (c.toNat : Int) 33 126 && !((c.toNat : Int) == 42)
def keyOk (s : ByteArray) : Bool := s.data.toList.all okByte && inB (s.size : Int) 1 40
theorem keyOk_no (s : ByteArray) (n : Nat) (h : (s.data.toList.take n).all okByte = false) : keyOk s = false := by
 unfold keyOk
 have : s.data.toList.all okByte = false := by
  cases hp : s.data.toList.all okByte with
  | false => rfl
  | true =>
   rw [List.all_eq_true] at hp
   have : (s.data.toList.take n).all okByte = true := by
    rw [List.all_eq_true]
    exact fun x hx => hp x (List.mem_of_mem_take hx)
   rw [this] at h
   cases h
 rw [this]
 rfl
theorem spec_KeyOk (s : ByteArray) (w : World) (hs : s.size ≤ 9223372036854775807) :
  Calls Tryz.prog 182 #[.string s] w fun e w' => e = .returned (.bool (keyOk s)) ∧ w' = w := by
 go_enter Tryz.func182, Tryz.ntmps182
 go_wp2
 go_loopw [3] (fun k wr => ∃ (n : Nat), k = .int .i64 n ∧ n ≤ s.size ∧ wr = w ∧ (s.data.toList.take n).all okByte = true) (fun k _ => s.size - (intOf k).toNat)
 case atStart => exact ⟨0, rfl, by omega, rfl, rfl⟩
 case round =>
  obtain ⟨n, rfl, hn, rfl, hall⟩ := hrel
  have HA := Lib.hid hall
  clear hall
  by_cases hlt : (n : Int) < s.size
  case pos =>
   have hk : n < s.size := by omega
   have hst := take_snoc s n hk
   have HS := Lib.hid hst
   clear hst
   have hc0 : 0 ≤ (s[n].toNat : Int) := by omega
   have hc1 : (s[n].toNat : Int) ≤ 255 := by have := s[n].toNat_lt; omega
   have hob : okByte s[n] = okByte s[n] := rfl
   conv at hob => rhs; unfold okByte
   by_cases f1 : (s[n].toNat : Int) < 33
   case pos =>
    have HB : Hid (okByte s[n] = false) := by show _ = false; rw [hob]; unfold inB; simp; omega
    clear hob
    have HI : Hid (inB (s[n].toNat : Int) 33 126 = false) := by show _ = _; unfold inB; simp; omega
    go_wp2_with fail
    (go_at_call 112; refine (spec_l01In _ _ _ _).mono ?_; rintro e w' ⟨rfl, rfl⟩)
    rw [HI.out]
    go_wp2
    go_ret
    exact ⟨by rw [keyOk_no s (n + 1) (by rw [HS.out, List.all_append]; simp [HB.out])]; rfl, rfl⟩
   by_cases f2 : 126 < (s[n].toNat : Int)
   case pos =>
    have HB : Hid (okByte s[n] = false) := by show _ = false; rw [hob]; unfold inB; simp; omega
    clear hob
    have HI : Hid (inB (s[n].toNat : Int) 33 126 = false) := by show _ = _; unfold inB; simp; omega
    go_wp2_with fail
    (go_at_call 112; refine (spec_l01In _ _ _ _).mono ?_; rintro e w' ⟨rfl, rfl⟩)
    rw [HI.out]
    go_wp2
    go_ret
    exact ⟨by rw [keyOk_no s (n + 1) (by rw [HS.out, List.all_append]; simp [HB.out])]; rfl, rfl⟩
   by_cases f3 : (s[n].toNat : Int) = 42
   case pos =>
    have HB : Hid (okByte s[n] = false) := by show _ = false; rw [hob]; unfold inB; simp; omega
    clear hob
    have f4 : ((s[n].toNat : Int) == 42) = true := by simp [f3]
    have HI : Hid (inB (s[n].toNat : Int) 33 126 = true) := by show _ = _; unfold inB; simp; omega
    go_wp2_with fail
    (go_at_call 112; refine (spec_l01In _ _ _ _).mono ?_; rintro e w' ⟨rfl, rfl⟩)
    rw [show inB 42 33 126 = true from rfl]
    go_wp2
    go_ret
    exact ⟨by rw [keyOk_no s (n + 1) (by rw [HS.out, List.all_append]; simp [HB.out])]; rfl, rfl⟩
   have HB : Hid (okByte s[n] = true) := by show _ = true; rw [hob]; unfold inB; simp; omega
   clear hob
   have f4 : ((s[n].toNat : Int) == 42) = false := by simp [f3]
   have HI : Hid (inB (s[n].toNat : Int) 33 126 = true) := by show _ = _; unfold inB; simp; omega
   go_wp2_with fail
   (go_at_call 112; refine (spec_l01In _ _ _ _).mono ?_; rintro e w' ⟨rfl, rfl⟩)
   rw [HI.out]
   go_wp2
   go_roundw
   case rel => exact ⟨n + 1, by go_num, by omega, trivial, by rw [HS.out, List.all_append, HA.out]; simp [HB.out]⟩
   case measure => simp [intOf]; omega
  case neg =>
   have e : n = s.size := by omega
   subst e
   have ha := HA.out
   rw [List.take_of_length_le (by simp)] at ha
   have HF : Hid (keyOk s = inB s.size 1 40) := by show keyOk s = _; unfold keyOk; rw [ha]; rfl
   go_wp2_with fail
   (go_at_call 112; refine (spec_l01In _ _ _ _).mono ?_; rintro e w' ⟨rfl, rfl⟩)
   go_wp2
   go_ret
   exact ⟨by rw [HF.out]; rfl, rfl⟩
theorem impl_KeyOk (s : ByteArray) (w : World) (hs : s.size ≤ 9223372036854775807) :
  Calls Tryz.prog 168 #[.string s] w fun e w' => e = .returned (.bool (keyOk s)) ∧ w' = w := by
 go_enter Tryz.func168, Tryz.ntmps168
 go_wp2
 go_loopw [6] (fun k wr => ∃ (n : Nat), k = .int .i64 n ∧ n ≤ s.size ∧ wr = w ∧ (s.data.toList.take n).all okByte = true) (fun k _ => s.size - (intOf k).toNat)
 case atStart => exact ⟨0, rfl, by omega, rfl, rfl⟩
 case round =>
  obtain ⟨n, rfl, hn, rfl, hall⟩ := hrel
  have HA := Lib.hid hall
  clear hall
  by_cases hlt : (n : Int) < s.size
  case pos =>
   have hk : n < s.size := by omega
   have hst := take_snoc s n hk
   have HS := Lib.hid hst
   clear hst
   have hc0 : 0 ≤ (s[n].toNat : Int) := by omega
   have hc1 : (s[n].toNat : Int) ≤ 255 := by have := s[n].toNat_lt; omega
   have hob : okByte s[n] = okByte s[n] := rfl
   conv at hob => rhs; unfold okByte
   by_cases f1 : (s[n].toNat : Int) < 33
   case pos =>
    have HB : Hid (okByte s[n] = false) := by show _ = false; rw [hob]; unfold inB; simp; omega
    clear hob
    have HI : Hid (inB (s[n].toNat : Int) 33 126 = false) := by show _ = _; unfold inB; simp; omega
    go_wp2
    go_ret
    exact ⟨by rw [keyOk_no s (n + 1) (by rw [HS.out, List.all_append]; simp [HB.out])]; rfl, rfl⟩
   by_cases f2 : 126 < (s[n].toNat : Int)
   case pos =>
    have HB : Hid (okByte s[n] = false) := by show _ = false; rw [hob]; unfold inB; simp; omega
    clear hob
    have HI : Hid (inB (s[n].toNat : Int) 33 126 = false) := by show _ = _; unfold inB; simp; omega
    go_wp2
    go_ret
    exact ⟨by rw [keyOk_no s (n + 1) (by rw [HS.out, List.all_append]; simp [HB.out])]; rfl, rfl⟩
   by_cases f3 : (s[n].toNat : Int) = 42
   case pos =>
    have HB : Hid (okByte s[n] = false) := by show _ = false; rw [hob]; unfold inB; simp; omega
    clear hob
    have f4 : ((s[n].toNat : Int) == 42) = true := by simp [f3]
    have HI : Hid (inB (s[n].toNat : Int) 33 126 = true) := by show _ = _; unfold inB; simp; omega
    go_wp2
    go_ret
    exact ⟨by rw [keyOk_no s (n + 1) (by rw [HS.out, List.all_append]; simp [HB.out])]; rfl, rfl⟩
   have HB : Hid (okByte s[n] = true) := by show _ = true; rw [hob]; unfold inB; simp; omega
   clear hob
   have f4 : ((s[n].toNat : Int) == 42) = false := by simp [f3]
   have HI : Hid (inB (s[n].toNat : Int) 33 126 = true) := by show _ = _; unfold inB; simp; omega
   go_wp2
   go_roundw
   case rel => exact ⟨n + 1, by go_num, by omega, trivial, by rw [HS.out, List.all_append, HA.out]; simp [HB.out]⟩
   case measure => simp [intOf]; omega
  case neg =>
   have e : n = s.size := by omega
   subst e
   have ha := HA.out
   rw [List.take_of_length_le (by simp)] at ha
   have HF : Hid (keyOk s = inB s.size 1 40) := by show keyOk s = _; unfold keyOk; rw [ha]; rfl
   go_wp2_with fail
   (go_at_call 86; refine (impl_within _ _ _ _).mono ?_; rintro e w' ⟨rfl, rfl⟩)
   go_wp2
   go_ret
   exact ⟨by rw [HF.out]; rfl, rfl⟩
end Go.Proofs.YtieenbnmfaekiaaGreatDoor
namespace Go
open Go.RowKit
structure Upon (fp : List Nat) (w w' : World) : Prop where
 os : w'.os = w.os
 tape : w'.tape = w.tape
 output : w'.output = w.output
 size : w.heap.size ≤ w'.heap.size
 block : ∀ b, b < w.heap.size → b ∉ fp → w'.heap[b]? = w.heap[b]?
theorem Upon.refl (fp : List Nat) (w : World) : Upon fp w w := ⟨rfl, rfl, rfl, Nat.le_refl _, fun _ _ _ => rfl⟩
theorem Upon.trans {fp : List Nat} {a b c : World} (h : Upon fp a b) (h' : Upon fp b c) : Upon fp a c :=
 ⟨h'.os.trans h.os, h'.tape.trans h.tape, h'.output.trans h.output, Nat.le_trans h.size h'.size, fun k hk hn => (h'.block k (Nat.lt_of_lt_of_le hk h.size) hn).trans (h.block k hk hn)⟩
theorem Upon.mono {fp fp' : List Nat} {a b : World} (h : Upon fp a b) (hs : ∀ x ∈ fp, x ∈ fp') : Upon fp' a b :=
 ⟨h.os, h.tape, h.output, h.size, fun k hk hn => h.block k hk (fun hx => hn (hs k hx))⟩
theorem Upon.below {fp : List Nat} {a b : World} (h : Below a.heap.size a b) : Upon fp a b := ⟨h.os, h.tape, h.output, h.size, fun k hk _ => h.block k hk⟩
theorem Upon.toBelow {fp : List Nat} {B : Nat} {a b : World} (h : Upon fp a b) (hB : B ≤ a.heap.size) (hf : ∀ x ∈ fp, B ≤ x) : Below B a b :=
 ⟨h.os, h.tape, h.output, h.size, fun k hk => h.block k (Nat.lt_of_lt_of_le hk hB) (fun hx => absurd (hf k hx) (by omega))⟩
theorem Upon.setB {fp : List Nat} (w : World) {b : Nat} (o : Obj) (hb : b ∈ fp) : Upon fp w (w.setB b o) :=
 ⟨rfl, rfl, rfl, by rw [World.setB_size]; exact Nat.le_refl _, fun k _ hn => World.setB_get w b o k (fun e => hn (e ▸ hb))⟩
theorem Upon.setBExt {fp : List Nat} (w : World) {b : Nat} (o : Obj) (X : Ext) (hb : b ∈ fp) : Upon fp w ((w.setB b o).ext X) :=
 (Upon.setB w o hb).trans (Upon.below (((Below.refl _ _)).ofExt X))
theorem View.ownUpon {α : Type} {V : View α} {w w' : World} {fp fp' : List Nat} {cs : List Value} {d : α} (h : V.own w fp cs d) (g : Upon fp' w w') (hd : ∀ b ∈ fp, b ∉ fp') : V.own w' fp cs d :=
 V.frame h fun b hb => g.block b (V.lt h b hb) (hd b hb)
end Go
namespace Go.Proofs.YtieenbnmfaekiaaGreatDoor
open Go.ChangeShapes Go.WideShapes Go.ChangeAt Go.RowKit
def digB (n : Nat) : UInt8 := UInt8.ofNat (48 + n % 10)
def mtxtAux : Nat → Nat → ByteArray → ByteArray
 | 0, _, out => out
 | f + 1, k, out => if k = 0 then out else mtxtAux f (k / 10) (⟨#[digB k]⟩ ++ out)
theorem mtxtAux_fuel : ∀ (f k : Nat) (out : ByteArray), k ≤ f → mtxtAux f k out = mtxtAux k k out := by
 intro f
 induction f using Nat.strongRecOn with
 | ind f ih =>
  intro k out hk
  match f, k, hk with
  | 0, 0, _ => rfl
  | f + 1, 0, _ => rfl
  | f + 1, k + 1, hk =>
   simp only [mtxtAux, if_neg (Nat.succ_ne_zero k)]
   rw [ih f (Nat.lt_succ_self f) _ _ (by omega), ih k (by omega) _ _ (by omega)]
theorem mtxtAux_size : ∀ (f k : Nat) (out : ByteArray), (mtxtAux f k out).size ≤ f + out.size := by
 intro f
 induction f with
 | zero => intro k out; simp [mtxtAux]
 | succ f ih =>
  intro k out
  simp only [mtxtAux]
  split
  ·omega
  ·refine Nat.le_trans (ih _ _) ?_
   have : (⟨#[digB k]⟩ ++ out : ByteArray).size = 1 + out.size := by rw [ByteArray.size_append]; rfl
   omega
def mtext (k : Int) : ByteArray := if k ≤ 0 then ⟨#[109, 48]⟩ else ⟨#[109]⟩ ++ mtxtAux k.toNat k.toNat ⟨#[]⟩
theorem mtext_size (k : Int) (h : k ≤ 4294967296) : (mtext k).size ≤ 9223372036854775807 := by
 unfold mtext
 split
 ·decide
 ·rw [ByteArray.size_append]
  have h1 := mtxtAux_size k.toNat k.toNat ⟨#[]⟩
  have h2 : (⟨#[109]⟩ : ByteArray).size = 1 := rfl
  have h3 : (⟨#[]⟩ : ByteArray).size = 0 := rfl
  omega
def marks {α : Type} (mk : Int → α) (c : Nat) (k : Int) (n : Nat) : List α := (List.range n).map fun i => mk (k + (c * i : Nat))
theorem marks_len {α : Type} (mk : Int → α) (c : Nat) (k : Int) (n : Nat) : (marks mk c k n).length = n := by simp [marks]
theorem marks_succ {α : Type} (mk : Int → α) (c : Nat) (k : Int) (n : Nat) : marks mk c k (n + 1) = marks mk c k n ++ [mk (k + (c * n : Nat))] := by
 simp [marks, List.range_succ]
theorem marks_get {α : Type} (mk : Int → α) (c : Nat) (k : Int) (n i : Nat) (h : i < (marks mk c k n).length) : (marks mk c k n)[i] = mk (k + (c * i : Nat)) := by
 simp [marks]
theorem marks_mem {α : Type} {mk : Int → α} {c : Nat} {k : Int} {n : Nat} {d : α} (h : d ∈ marks mk c k n) : ∃ i, i < n ∧ d = mk (k + (c * i : Nat)) := by
 simp only [marks, List.mem_map, List.mem_range] at h
 obtain ⟨i, hi, rfl⟩ := h
 exact ⟨i, hi, rfl⟩
theorem digit_toNat (n : Nat) : ((digB n).toNat : Int) = 48 + (n : Int) % 10 := by
 unfold digB
 rw [UInt8.toNat_ofNat']
 omega
theorem conv_one (w : World) (c : UInt8) (x : Int) (hx : x = (c.toNat : Int)) (b : Nat) (hb : b = w.heap.size) :
  Sem.run Tryz.prog (convert 78 9 (.slice (some ⟨b, 0, none⟩) 1 1)) (w.alloc (.cells #[.int .u8 x] 5)) = .ok (.string ⟨#[c]⟩) (w.alloc (.cells #[.int .u8 x] 5)) := by
 subst hb hx
 refine run_convert_bytes_back (w := w.alloc (.cells #[.int .u8 (c.toNat : Int)] 5)) (P := Tryz.prog) 78 9 5 ⟨w.heap.size, 0, none⟩ 1 [c] Tryz.underlying78 Tryz.underlying5 Tryz.underlying9 ?_
 intro j hj
 have : j = 0 := by simpa using hj
 subst this
 show (w.alloc _).cell? ⟨w.heap.size, 0, none⟩ = _
 simp [go_sem]
theorem laws_markText (k : Int) (w : World) (h0 : 0 ≤ k) (h1 : k ≤ 4294967296) :
  Calls Tryz.prog 28 #[.int .i64 k] w fun e w' => e = .returned (.string (mtext k)) ∧ Below w.heap.size w w' := by
 by_cases hz : k ≤ 0
 ·have : mtext k = ⟨#[109, 48]⟩ := by unfold mtext; rw [if_pos hz]
  rw [this]
  go_enter Tryz.func28, Tryz.ntmps28
  go_wp2
  go_ret
  exact ⟨rfl, (by repeat (with_reducible exact Below.refl _ _))⟩
 ·have : mtext k = ⟨#[109]⟩ ++ mtxtAux k.toNat k.toNat ⟨#[]⟩ := by unfold mtext; rw [if_neg hz]
  rw [this]
  obtain ⟨m, rfl⟩ : ∃ m : Nat, k = m := ⟨k.toNat, by omega⟩
  simp only [Int.toNat_natCast]
  go_enter Tryz.func28, Tryz.ntmps28
  go_wp2
  go_loopw [0, 3] (fun kk o wr => ∃ (n : Nat) (s : ByteArray), kk = .int .i64 n ∧ n ≤ m ∧ Below w.heap.size w wr ∧ o = .string s ∧ mtxtAux n n s = mtxtAux m m ⟨#[]⟩ ∧ s.size + n ≤ m) (fun kk _ _ => (intOf kk).toNat)
  case atStart => exact ⟨m, ⟨#[]⟩, rfl, by omega, (by repeat (with_reducible exact Below.refl _ _)), rfl, rfl, by show 0 + m ≤ m; omega⟩
  case round =>
   obtain ⟨n, s, rfl, hn, hbel, rfl, haux, hsz⟩ := hrel
   obtain ⟨X, rfl⟩ := hbel.ext
   have HA := Lib.hid haux
   clear haux
   by_cases hlt : 0 < (n : Int)
   ·have hk := conv_one (w.ext X) (digB n) (48 + (n : Int) % 10) (digit_toNat n).symm (w.heap.size + X.bs.size) (by rw [World.ext_size])
    have hst : mtxtAux n n s = mtxtAux (n / 10) (n / 10) (⟨#[digB n]⟩ ++ s) := by
     obtain ⟨p, rfl⟩ : ∃ p, n = p + 1 := ⟨n - 1, by omega⟩
     show (if p + 1 = 0 then s else mtxtAux p ((p + 1) / 10) _) = _
     rw [if_neg (by omega), mtxtAux_fuel p _ _ (by omega)]
    have HK := Lib.hid hst
    clear hst
    go_wp2
    go_roundw
    case rel =>
     refine ⟨n / 10, _, by go_num, by omega, (by repeat (first | with_reducible exact Below.refl _ _ | with_reducible apply Below.ofExt | with_reducible apply Below.ofAlloc)), rfl, by rw [← HK.out]; exact HA.out, ?_⟩
     rw [ByteArray.size_append]
     have : (⟨#[digB n]⟩ : ByteArray).size = 1 := rfl
     omega
    case measure => simp [intOf]; omega
   ·go_wp2
    go_ret
    have e : n = 0 := by omega
    subst e
    have h := HA.out
    exact ⟨by rw [← h]; rfl, (by repeat (first | with_reducible exact Below.refl _ _ | with_reducible apply Below.ofExt))⟩
end Go.Proofs.YtieenbnmfaekiaaGreatDoor
