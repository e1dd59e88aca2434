/- Slices of values of one Go type, each element a row of cells: what they read as, what a call owns. No condition but the stated ones. -/
import Derived.Test.YtmhopglbgaijiaaOwn
namespace Go
open Go.RowKit

/-- how a value of one Go type lies in cells -/
structure RowOf (α : Type) where
  row : α → List Value
  k : Nat
  len : ∀ x, (row x).length = k
  one : ∀ x, ∀ u ∈ row x, u.oneCell' = true

variable {α : Type}

theorem RowOf.flat_len (R : RowOf α) (xs : List α) : (xs.flatMap R.row).length = xs.length * R.k := by
  induction xs with
  | nil => simp
  | cons x xs ih => simp only [List.flatMap_cons, List.length_append, R.len, ih, List.length_cons, Nat.add_mul]; omega
theorem RowOf.flat_one (R : RowOf α) (xs : List α) : ∀ u ∈ xs.flatMap R.row, u.oneCell' = true := by
  intro u hu
  obtain ⟨x, _, hx⟩ := List.mem_flatMap.1 hu
  exact R.one x u hx
theorem RowOf.flat_get (R : RowOf α) : ∀ (xs : List α) (i j : Nat) (u : Value) (hi : i < xs.length), (R.row xs[i])[j]? = some u → (xs.flatMap R.row)[i * R.k + j]? = some u
  | [], i, _, _, hi, _ => absurd hi (by simp)
  | x :: xs, 0, j, u, _, h => by
    have hj : j < (R.row x).length := (List.getElem?_eq_some_iff.1 h).1
    rw [List.flatMap_cons, List.getElem?_append_left (by omega)]
    simpa using h
  | x :: xs, i + 1, j, u, hi, h => by
    rw [List.flatMap_cons, List.getElem?_append_right (by rw [R.len, Nat.add_mul]; omega), R.len]
    rw [show (i + 1) * R.k + j - R.k = i * R.k + j by rw [Nat.add_mul]; omega]
    exact R.flat_get xs i j u (by simpa using hi) (by simpa using h)
theorem RowOf.flat_drop (R : RowOf α) (xs : List α) (i : Nat) : (xs.flatMap R.row).drop (i * R.k) = (xs.drop i).flatMap R.row := by
  induction xs generalizing i with
  | nil => simp
  | cons x xs ih =>
    cases i with
    | zero => simp
    | succ i =>
      rw [List.flatMap_cons, List.drop_succ_cons, ← ih i, Nat.add_mul, Nat.one_mul, Nat.add_comm, ← List.drop_drop]
      congr 1
      rw [← R.len x]
      exact List.drop_left
theorem RowOf.flat_take (R : RowOf α) (xs : List α) (i : Nat) : (xs.flatMap R.row).take (i * R.k) = (xs.take i).flatMap R.row := by
  induction xs generalizing i with
  | nil => simp
  | cons x xs ih =>
    cases i with
    | zero => simp
    | succ i =>
      rw [List.flatMap_cons, List.take_succ_cons, List.flatMap_cons, ← ih i, Nat.add_mul, Nat.one_mul, List.take_append, R.len]
      rw [List.take_of_length_le (by rw [R.len]; omega), show i * R.k + R.k - R.k = i * R.k by omega]

/-- slice value v reads as xs -/
def RdL (R : RowOf α) (w : World) (v : Value) (xs : List α) : Prop := Sl w v xs.length (xs.flatMap R.row)
/-- slice value v, in a block from B on, is the call's own and holds xs -/
def OwnL (R : RowOf α) (e : TypeId) (w : World) (B : Nat) (v : Value) (xs : List α) : Prop := w.ownsRow B e R.k v xs.length (xs.flatMap R.row)

section
variable {R : RowOf α} {w : World} {v : Value} {xs : List α} {e : TypeId} {B : Nat}
theorem RdL.ext (h : RdL R w v xs) (X : Ext) : RdL R (w.ext X) v xs := Sl.ext h X
theorem RdL.alloc (h : RdL R w v xs) (o : Obj) : RdL R (w.alloc o) v xs := Sl.alloc h o
theorem RdL.drew (h : RdL R w v xs) : RdL R w.drew v xs := h
theorem RdL.below {w' : World} (h : RdL R w v xs) (hb : Below w.heap.size w w') : RdL R w' v xs := Sl.below h hb
theorem RdL.setB (h : RdL R w v xs) {p : Nat} (hp : v.ownBlock ≠ some p) (o : Obj) : RdL R (w.setB p o) v xs := Sl.setB h hp o
theorem RdL.nil (R : RowOf α) (w : World) : RdL R w (.slice none 0 0) [] := .inl ⟨rfl, rfl, rfl⟩
theorem OwnL.rd (h : OwnL R e w B v xs) : RdL R w v xs := World.ownsRow.sl h
theorem OwnL.ext (h : OwnL R e w B v xs) (X : Ext) : OwnL R e (w.ext X) B v xs := World.ownsRow.ext h X
theorem OwnL.alloc (h : OwnL R e w B v xs) (o : Obj) : OwnL R e (w.alloc o) B v xs := World.ownsRow.alloc h o
theorem OwnL.drew (h : OwnL R e w B v xs) : OwnL R e w.drew B v xs := h
theorem OwnL.setB (h : OwnL R e w B v xs) {p : Nat} (hp : v.ownBlock ≠ some p) (o : Obj) : OwnL R e (w.setB p o) B v xs := World.ownsRow.setB h hp o
theorem OwnL.nil (R : RowOf α) (e : TypeId) (w : World) (B : Nat) : OwnL R e w B (.slice none 0 0) [] := by
  have := World.ownsRow_nil w B e R.k
  unfold OwnL
  simpa using this
theorem OwnL.empty (R : RowOf α) (e : TypeId) (w : World) : OwnL R e (w.alloc (.cells #[] e)) w.heap.size (.slice (some ⟨w.heap.size, 0, none⟩) 0 0) [] :=
  World.ownsRow_lit w #[] 0 (Nat.le_refl _) (by decide) (by simp)
theorem OwnL.lt (h : OwnL R e w B v xs) : ∀ k, v.ownBlock = some k → B ≤ k ∧ k < w.heap.size := World.ownsRow.lt h
theorem OwnL.base {B' : Nat} (h : OwnL R e w B v xs) (hb : B' ≤ B) : OwnL R e w B' v xs := World.ownsRow.base h hb
/-- kept, where only blocks other than its own are written -/
theorem OwnL.kept {w' : World} {row : Option Nat} (h : OwnL R e w B v xs) (hg : w.grownBy w' row) (hne : v.ownBlock = none ∨ v.ownBlock ≠ row) : OwnL R e w' B v xs := World.ownsRow.kept h hg hne
theorem RdL.kept {w' : World} {row : Option Nat} (h : RdL R w v xs) (hg : w.grownBy w' row) (hne : v.ownBlock = none ∨ v.ownBlock ≠ row) : RdL R w' v xs := by
  rcases h with h | ⟨b, off, cap, rfl, h1, h2, h3⟩
  · exact .inl h
  · refine .inr ⟨b, off, cap, rfl, h1, h2, fun j u hj => ?_⟩
    have hc := h3 j u hj
    rw [World.cell?_of_block (w := w) (hg.block b (World.block_lt_of_cell? w ⟨b, off + j, none⟩ hc) (by simpa [Value.ownBlock] using hne))]
    exact hc

/-- the one element of 'append(s, x)' -/
theorem RdL.one (R : RowOf α) (w : World) (x : α) (cs : Array Value) (hcs : cs = (R.row x).toArray) (e : TypeId) : RdL R (w.alloc (.cells cs e)) (.slice (some ⟨w.heap.size, 0, none⟩) 1 1) [x] := by
  subst hcs
  unfold RdL
  have := Sl.new w (R.row x) e 1 (by decide)
  simpa using this
/-- a literal -/
theorem RdL.lit (R : RowOf α) (w : World) (xs : List α) (n : Nat) (hn : n = xs.length) (hm : n ≤ maxLen) (cs : Array Value) (hcs : cs = (xs.flatMap R.row).toArray) (e : TypeId) : RdL R (w.alloc (.cells cs e)) (.slice (some ⟨w.heap.size, 0, none⟩) n n) xs := by
  subst hcs hn
  exact Sl.new w _ e _ hm
theorem OwnL.lit (R : RowOf α) (w : World) (xs : List α) (n : Nat) (hn : n = xs.length) (hm : n ≤ maxLen) (cs : Array Value) (hcs : cs = (xs.flatMap R.row).toArray) (e : TypeId) : OwnL R e (w.alloc (.cells cs e)) w.heap.size (.slice (some ⟨w.heap.size, 0, none⟩) n n) xs := by
  subst hcs hn
  have := World.ownsRow_lit (e := e) (size := R.k) w (xs.flatMap R.row).toArray xs.length (base := w.heap.size) (Nat.le_refl _) hm (by simp [R.flat_len])
  simpa [OwnL] using this

/-- the shape of a slice value, nil or not -/
theorem RdL.shape (h : RdL R w v xs) : ∃ ao cap, v = .slice ao xs.length cap ∧ xs.length ≤ cap ∧ cap ≤ maxLen ∧ (ao = none → cap = 0 ∧ xs = []) ∧
    (xs ≠ [] → ∃ b off, ao = some ⟨b, off, none⟩ ∧ (0 < R.k → b < w.heap.size) ∧ ∀ (i : Nat) (hi : i < xs.length) (j : Nat) (u : Value), (R.row xs[i])[j]? = some u → w.cell? ⟨b, off + i * R.k + j, none⟩ = some u) := by
  obtain ⟨ao, cap, rfl, h1, h2, h3, h4⟩ := Sl.shape h
  refine ⟨ao, cap, rfl, h1, h2, fun h => ⟨(h3 h).1, List.eq_nil_of_length_eq_zero (h3 h).2⟩, fun hne => ?_⟩
  obtain ⟨b, off, rfl, hc⟩ := h4 (by cases xs; exact absurd rfl hne; simp)
  refine ⟨b, off, rfl, fun hk => ?_, fun i hi j u hj => ?_⟩
  · have h0 : 0 < (xs.flatMap R.row).length := by
      rw [R.flat_len]
      exact Nat.mul_pos (by cases xs; exact absurd rfl hne; simp) hk
    exact World.block_lt_of_cell? w ⟨b, off + 0, none⟩ (hc 0 _ (List.getElem?_eq_getElem h0))
  · rw [Nat.add_assoc]
    exact hc _ _ (R.flat_get xs i j u hi hj)

/-- a part of a slice: v[lo:hi] -/
theorem RdL.cut {b off n cap : Nat} (h : RdL R w (.slice (some ⟨b, off, none⟩) n cap) xs) (lo hi c : Nat) (h1 : hi ≤ xs.length) (h2 : hi - lo ≤ c) (hc : c ≤ maxLen) :
    RdL R w (.slice (some ⟨b, off + lo * R.k, none⟩) (hi - lo) c) ((xs.drop lo).take (hi - lo)) := by
  have hcell : ∀ j u, (xs.flatMap R.row)[j]? = some u → w.cell? ⟨b, off + j, none⟩ = some u := by
    rcases h with ⟨h, _⟩ | ⟨b', off', cap', h, _, _, h3⟩
    · cases h
    · cases h; exact h3
  have hl : ((xs.drop lo).take (hi - lo)).length = hi - lo := by simp; omega
  have h3 := Sl.cut R.k hcell lo hi c h2 hc
  unfold RdL
  rw [hl, ← R.flat_take, ← R.flat_drop]
  exact h3
end

section
variable {P : Program}
theorem wp_appL {R : RowOf α} {w : World} {o : Oper} {a : Act} {K : Act → World → Prop} {Q : Exit → Act → World → Prop} (s x : Operand) (t : TypeId)
    (ho : o.op = .call { callee := .builtin .append, args := #[s, x], argTypes := #[t, t] })
    {e : TypeId} {bytes : Nat} (E : Elem P t e R.k bytes) {B : Nat} {v : Value} {xs : List α} (hown : OwnL R e w B v xs) (hs : a.eval s = v)
    {vx : Value} {ys : List α} (hx : RdL R w vx ys) (hvx : a.eval x = vx) (hb : (xs.length + ys.length) * bytes ≤ 140737488355328) (h63 : xs.length + ys.length ≤ maxLen) (hbase : B ≤ w.heap.size)
    (h : ∀ v' w', OwnL R e w' B v' (xs ++ ys) → w.grownBy w' v.ownBlock → (v' = .slice none 0 0 ↔ v = .slice none 0 0 ∧ ys = []) → K (a.put o.dst v') w') : o.wp P a w K Q := by
  refine wp_app s x t ho E hs hown hvx hx (R.flat_len ys) (R.flat_one ys) hb h63 hbase fun v' w' h1 h2 h3 => h v' w' ?_ h2 ?_
  · unfold OwnL
    rw [List.length_append, List.flatMap_append]
    exact h1
  · rw [h3]
    simp

theorem wpList_appL {R : RowOf α} {w : World} {ops : Array Oper} {rest : List Oper} {o : Oper} {a : Act} {Q : Exit → Act → World → Prop} (hgd : o.guard = none) (s x : Operand) (t : TypeId)
    (ho : o.op = .call { callee := .builtin .append, args := #[s, x], argTypes := #[t, t] })
    {e : TypeId} {bytes : Nat} (E : Elem P t e R.k bytes) {B : Nat} {v : Value} {xs : List α} (hown : OwnL R e w B v xs) (hs : a.eval s = v)
    {vx : Value} {ys : List α} (hx : RdL R w vx ys) (hvx : a.eval x = vx) (hb : (xs.length + ys.length) * bytes ≤ 140737488355328) (h63 : xs.length + ys.length ≤ maxLen) (hbase : B ≤ w.heap.size)
    (h : ∀ v' w', OwnL R e w' B v' (xs ++ ys) → w.grownBy w' v.ownBlock → (v' = .slice none 0 0 ↔ v = .slice none 0 0 ∧ ys = []) → wpList P ops Q rest (a.put o.dst v') w') : wpList P ops Q (o :: rest) a w :=
  wpList_plain hgd fun _ hK => wp_appL s x t ho E hown hs hx hvx hb h63 hbase (fun v' w' a1 a2 a3 => hK _ _ (h v' w' a1 a2 a3))
end
theorem RowKit.Below.appL {R : RowOf α} {a w w' : World} {v : Value} {e : TypeId} {xs : List α} (h : Below a.heap.size a w) (hg : w.grownBy w' v.ownBlock) (ho : OwnL R e w a.heap.size v xs) : Below a.heap.size a w' :=
  Below.app h hg ho

/-! ### the Go types -/
def rStr : RowOf ByteArray := ⟨fun s => [.string s], 1, fun _ => rfl, by simp [Value.oneCell']⟩
def rInt : RowOf Int := ⟨fun n => [.int .i64 n], 1, fun _ => rfl, by simp [Value.oneCell']⟩
def rByte : RowOf UInt8 := ⟨fun c => [.int .u8 c.toNat], 1, fun _ => rfl, by simp [Value.oneCell']⟩

theorem RdL.shapeS {w : World} {v : Value} {xs : List ByteArray} (h : RdL rStr w v xs) : ∃ ao cap, v = .slice ao xs.length cap ∧ xs.length ≤ cap ∧ cap ≤ maxLen ∧ (ao = none → cap = 0 ∧ xs = []) ∧
    (xs ≠ [] → ∃ b off, ao = some ⟨b, off, none⟩ ∧ b < w.heap.size ∧ ∀ (i : Nat) (hi : i < xs.length), w.cell? ⟨b, off + i, none⟩ = some (.string xs[i])) := by
  obtain ⟨ao, cap, h0, h1, h2, h3, h4⟩ := h.shape
  refine ⟨ao, cap, h0, h1, h2, h3, fun hne => ?_⟩
  obtain ⟨b, off, e, hb, hc⟩ := h4 hne
  exact ⟨b, off, e, hb (by decide), fun i hi => by simpa [rStr] using hc i hi 0 _ rfl⟩
theorem RdL.shapeI {w : World} {v : Value} {xs : List Int} (h : RdL rInt w v xs) : ∃ ao cap, v = .slice ao xs.length cap ∧ xs.length ≤ cap ∧ cap ≤ maxLen ∧ (ao = none → cap = 0 ∧ xs = []) ∧
    (xs ≠ [] → ∃ b off, ao = some ⟨b, off, none⟩ ∧ b < w.heap.size ∧ ∀ (i : Nat) (hi : i < xs.length), w.cell? ⟨b, off + i, none⟩ = some (.int .i64 xs[i])) := by
  obtain ⟨ao, cap, h0, h1, h2, h3, h4⟩ := h.shape
  refine ⟨ao, cap, h0, h1, h2, h3, fun hne => ?_⟩
  obtain ⟨b, off, e, hb, hc⟩ := h4 hne
  exact ⟨b, off, e, hb (by decide), fun i hi => by simpa [rInt] using hc i hi 0 _ rfl⟩
theorem RdL.shapeB {w : World} {v : Value} {xs : List UInt8} (h : RdL rByte w v xs) : ∃ ao cap, v = .slice ao xs.length cap ∧ xs.length ≤ cap ∧ cap ≤ maxLen ∧ (ao = none → cap = 0 ∧ xs = []) ∧
    (xs ≠ [] → ∃ b off, ao = some ⟨b, off, none⟩ ∧ b < w.heap.size ∧ ∀ (i : Nat) (hi : i < xs.length), w.cell? ⟨b, off + i, none⟩ = some (.int .u8 xs[i].toNat)) := by
  obtain ⟨ao, cap, h0, h1, h2, h3, h4⟩ := h.shape
  refine ⟨ao, cap, h0, h1, h2, h3, fun hne => ?_⟩
  obtain ⟨b, off, e, hb, hc⟩ := h4 hne
  exact ⟨b, off, e, hb (by decide), fun i hi => by simpa [rByte] using hc i hi 0 _ rfl⟩
theorem RdL.cut1 {α : Type} {R : RowOf α} {w : World} {xs : List α} (hk : R.k = 1) {b off n cap : Nat} (h : RdL R w (.slice (some ⟨b, off, none⟩) n cap) xs) (lo hi c : Nat) (h1 : hi ≤ xs.length) (h2 : hi - lo ≤ c) (hc : c ≤ maxLen) :
    RdL R w (.slice (some ⟨b, off + lo, none⟩) (hi - lo) c) ((xs.drop lo).take (hi - lo)) := by
  have := RdL.cut h lo hi c h1 h2 hc
  simpa [hk] using this
/-- v[:hi] -/
theorem RdL.upto {α : Type} {R : RowOf α} {w : World} {xs : List α} {b off n cap : Nat} (h : RdL R w (.slice (some ⟨b, off, none⟩) n cap) xs) (hi c : Nat) (h1 : hi ≤ xs.length) (h2 : hi ≤ c) (hc : c ≤ maxLen) :
    RdL R w (.slice (some ⟨b, off, none⟩) hi c) (xs.take hi) := by
  have := RdL.cut h 0 hi c h1 (by omega) hc
  simpa using this
/-- nil, or somewhere -/
theorem RdL.cases {α : Type} {R : RowOf α} {w : World} {ao : Option Addr} {n cap : Nat} {xs : List α} (h : RdL R w (.slice ao n cap) xs) :
    (ao = none ∧ cap = 0 ∧ n = 0 ∧ xs = []) ∨ ∃ b off, ao = some ⟨b, off, none⟩ ∧ n = xs.length ∧ n ≤ cap ∧ cap ≤ maxLen := by
  rcases h with ⟨e, h0, _⟩ | ⟨b, off, c, e, h1, h2, _⟩
  · simp only [Value.slice.injEq] at e
    exact .inl ⟨e.1, e.2.2, e.2.1, List.eq_nil_of_length_eq_zero h0⟩
  · simp only [Value.slice.injEq] at e
    exact .inr ⟨b, off, e.1, e.2.1, by omega, by omega⟩
theorem RdL.zero {α : Type} (R : RowOf α) (w : World) (b off c : Nat) (h : c ≤ maxLen) : RdL R w (.slice (some ⟨b, off, none⟩) 0 c) [] := .inr ⟨b, off, c, rfl, Nat.zero_le _, h, fun j u hj => by simp at hj⟩
/-- the two worlds differ in block p alone -/
structure SameBut (p : Nat) (a b : World) : Prop where
  size : a.heap.size = b.heap.size
  block : ∀ k, k ≠ p → a.heap[k]? = b.heap[k]?
theorem SameBut.setB (p : Nat) (w : World) (o o' : Obj) : SameBut p (w.setB p o) (w.setB p o') :=
  ⟨by rw [World.setB_size, World.setB_size], fun k hk => by rw [World.setB_get w p o k hk, World.setB_get w p o' k hk]⟩
theorem SameBut.setBl (p : Nat) (w : World) (o : Obj) : SameBut p w (w.setB p o) :=
  ⟨by rw [World.setB_size], fun k hk => by rw [World.setB_get w p o k hk]⟩
theorem SameBut.ext {p : Nat} {a b : World} (h : SameBut p a b) (X : Ext) : SameBut p (a.ext X) (b.ext X) := by
  refine ⟨by rw [World.ext_size, World.ext_size, h.size], fun k hk => ?_⟩
  show (a.heap ++ X.bs)[k]? = (b.heap ++ X.bs)[k]?
  rw [Array.getElem?_append, Array.getElem?_append, h.size, h.block k hk]
theorem SameBut.alloc {p : Nat} {a b : World} (h : SameBut p a b) (o : Obj) : SameBut p (a.alloc o) (b.alloc o) := by
  refine ⟨by rw [World.size_alloc, World.size_alloc, h.size], fun k hk => ?_⟩
  show (a.heap.push o)[k]? = (b.heap.push o)[k]?
  rw [Array.getElem?_push, Array.getElem?_push, h.size, h.block k hk]
theorem RdL.same {α : Type} {R : RowOf α} {a b : World} {v : Value} {xs : List α} {p : Nat} (h : RdL R a v xs) (s : SameBut p a b) (hp : v.ownBlock ≠ some p) : RdL R b v xs := by
  rcases h with h | ⟨g, off, cap, rfl, h1, h2, h3⟩
  · exact .inl h
  · refine .inr ⟨g, off, cap, rfl, h1, h2, fun j u hj => ?_⟩
    rw [← h3 j u hj]
    exact World.cell?_of_block (w := a) (s.block g (fun e => hp (by simp [Value.ownBlock, e]))).symm
theorem RdL.got {α : Type} {R : RowOf α} {w w' : World} {v : Value} {xs : List α} {p : Nat} {o : Obj} (h : RdL R w v xs) (g : Got p w o w') (hp : v.ownBlock ≠ some p) : RdL R w' v xs := by
  obtain ⟨X, rfl⟩ := g
  exact (h.setB hp o).ext X
theorem Got.then {p : Nat} {w w1 w2 : World} {o o1 : Obj} (h1 : Got p w o1 w1) (h2 : Got p w1 o w2) (hp : p < w.heap.size) : Got p w o w2 := by
  obtain ⟨X, rfl⟩ := h1
  obtain ⟨Y, rfl⟩ := h2
  refine ⟨⟨X.bs ++ Y.bs, Y.dr⟩, ?_⟩
  rw [World.setB_ext _ _ _ _ (by rw [World.setB_size]; exact hp), World.setB_setB, World.ext_ext]
theorem Got.ofAlloc {p : Nat} {w w2 : World} {o b : Obj} (h : Got p (w.alloc b) o w2) (hp : p < w.heap.size) : Got p w o w2 := by
  obtain ⟨Y, rfl⟩ := h
  rw [World.setB_alloc_past _ _ _ _ hp]
  exact ((Got.mk p w o).alloc b).ext Y
theorem Got.ofBelow {p : Nat} {w w1 w2 : World} {o : Obj} (h1 : Got p w o w1) (h2 : Below w1.heap.size w1 w2) : Got p w o w2 := by
  obtain ⟨X, rfl⟩ := h2.ext
  exact h1.ext X
theorem Got.size {p : Nat} {w w1 : World} {o : Obj} (h : Got p w o w1) : w.heap.size ≤ w1.heap.size := by
  obtain ⟨X, rfl⟩ := h
  rw [World.ext_size, World.setB_size]
  omega
theorem Got.other {p : Nat} {w w1 : World} {o : Obj} (h : Got p w o w1) {b : Nat} (hb : b < w.heap.size) (hne : b ≠ p) : w1.heap[b]? = w.heap[b]? := by
  obtain ⟨X, rfl⟩ := h
  rw [World.ext_get _ _ (by rw [World.setB_size]; exact hb), World.setB_get _ _ _ _ hne]
theorem World.ext_setB_past (w : World) (X : Ext) (b : Nat) (o : Obj) (h : w.heap.size ≤ b) : (w.ext X).setB b o = w.ext ⟨X.bs.setIfInBounds (b - w.heap.size) o, X.dr⟩ := by
  unfold World.ext World.setB
  simp only [World.mk.injEq, true_and, and_true]
  apply Array.ext_getElem?
  intro i
  simp only [Array.getElem?_setIfInBounds, Array.getElem?_append, Array.size_append]
  by_cases e : b = i
  · subst e
    have h1 : ¬ b < w.heap.size := by omega
    by_cases hl : b < w.heap.size + X.bs.size
    · have h2 : b - w.heap.size < X.bs.size := by omega
      simp [h1, hl, h2]
    · have h2 : ¬ b - w.heap.size < X.bs.size := by omega
      simp [h1, hl, h2]
  · rw [if_neg e]
    by_cases hi : i < w.heap.size
    · rw [if_pos hi, if_pos hi]
    · rw [if_neg hi, if_neg hi, if_neg (by omega)]
theorem Got.past {p : Nat} {w w1 : World} {o : Obj} (h : Got p w o w1) {b : Nat} (hb : w.heap.size ≤ b) (o' : Obj) : Got p w o (w1.setB b o') := by
  obtain ⟨X, rfl⟩ := h
  exact ⟨_, World.ext_setB_past _ X b o' (by rw [World.setB_size]; exact hb)⟩
theorem RdL.past {α : Type} {R : RowOf α} {w : World} {v : Value} {xs : List α} {b : Nat} (h : RdL R w v xs) (hb : ∀ k, v.ownBlock = some k → k < b) (o : Obj) : RdL R (w.setB b o) v xs :=
  h.setB (fun e => absurd (hb b e) (Nat.lt_irrefl b)) o
theorem OwnL.got {α : Type} {R : RowOf α} {e : TypeId} {B : Nat} {w w' : World} {v : Value} {xs : List α} {p : Nat} {o : Obj} (h : OwnL R e w B v xs) (g : Got p w o w') (hp : v.ownBlock ≠ some p) : OwnL R e w' B v xs := by
  obtain ⟨X, rfl⟩ := g
  exact (h.setB hp o).ext X
theorem Got.app {α : Type} {R : RowOf α} {e : TypeId} {w w1 w2 : World} {v : Value} {xs : List α} {p : Nat} {o : Obj} (h : Got p w o w1) (hg : w1.grownBy w2 v.ownBlock) (ho : OwnL R e w1 w.heap.size v xs) : Got p w o w2 := by
  obtain ⟨X, rfl⟩ := h
  have ho' : OwnL R e ((w.setB p o).ext X) (w.setB p o).heap.size v xs := by rw [World.setB_size]; exact ho
  exact (Below.appL (a := w.setB p o) ((Below.refl _ _).ofExt X) hg ho').ext
theorem RdL.oneAt {α : Type} (R : RowOf α) (w : World) (x : α) (cs : Array Value) (hcs : cs = (R.row x).toArray) (e : TypeId) (b : Nat) (hb : b = w.heap.size) : RdL R (w.alloc (.cells cs e)) (.slice (some ⟨b, 0, none⟩) 1 1) [x] := by
  subst hb
  exact RdL.one R w x cs hcs e
theorem OwnL.oneAt {α : Type} (R : RowOf α) (w : World) (x : α) (cs : Array Value) (hcs : cs = (R.row x).toArray) (e : TypeId) (b : Nat) (hb : b = w.heap.size) : OwnL R e (w.alloc (.cells cs e)) w.heap.size (.slice (some ⟨b, 0, none⟩) 1 1) [x] := by
  subst hb
  exact OwnL.lit R w [x] 1 rfl (by decide) cs (by simpa using hcs) e
theorem OwnL.made {α : Type} (R : RowOf α) (e : TypeId) (w : World) (cs : Array Value) (X : Ext) (xs : List α) (hsz : cs.size = xs.length * R.k) (hc : cs.toList.take (xs.length * R.k) = xs.flatMap R.row) (hm : xs.length ≤ 9223372036854775807) (b : Nat) (hb : b = w.heap.size) :
    OwnL R e ((w.alloc (.cells cs e)).ext X) w.heap.size (.slice (some ⟨b, 0, none⟩) xs.length xs.length) xs := by
  subst hb
  refine OwnL.ext ?_ X
  refine ⟨R.flat_len xs, .inr ⟨w.heap.size, xs.length, cs, rfl, Nat.le_refl _, ?_, Nat.le_refl _, ?_, hsz, hc⟩⟩
  · show (w.heap.push (.cells cs e))[w.heap.size]? = _
    simp
  · unfold maxLen
    omega
theorem take_set1 {cs : Array Value} {n : Nat} {L : List Value} {v : Value} (h : cs.toList.take n = L) (hn : n < cs.size) : (cs.setIfInBounds n v).toList.take (n + 1) = L ++ [v] := by
  have hl : n < (cs.setIfInBounds n v).toList.length := by simpa using hn
  rw [List.take_succ_eq_append_getElem hl, ← h]
  congr 1
  · simp only [Array.toList_setIfInBounds]
    rw [List.take_set_of_le (Nat.le_refl n)]
  · simp
theorem RowOf.flat_step {α : Type} (R : RowOf α) (xs : List α) (n : Nat) (h : n < xs.length) : (xs.take (n + 1)).flatMap R.row = (xs.take n).flatMap R.row ++ R.row xs[n] := by
  simp only [List.take_succ_eq_append_getElem h, List.flatMap_append, List.flatMap_cons, List.flatMap_nil, List.append_nil]
theorem sum_take_step {α : Type} (f : α → Nat) (xs : List α) (n : Nat) (h : n < xs.length) : ((xs.take (n + 1)).map f).sum = ((xs.take n).map f).sum + f xs[n] := by
  simp only [List.take_succ_eq_append_getElem h, List.map_append, List.sum_append, List.map_cons, List.map_nil, List.sum_cons, List.sum_nil, Nat.add_zero]
theorem sum_take_le {α : Type} (f : α → Nat) (xs : List α) (n : Nat) : ((xs.take n).map f).sum ≤ (xs.map f).sum := by
  conv => rhs; rw [← List.take_append_drop n xs]
  rw [List.map_append, List.sum_append]
  omega
/-- the two worlds have one size, and agree from block B on -/
structure Agr (B : Nat) (a b : World) : Prop where
  size : a.heap.size = b.heap.size
  block : ∀ k, B ≤ k → a.heap[k]? = b.heap[k]?
theorem Agr.past {B : Nat} {a b : World} (h : a.heap.size = b.heap.size) (hb : a.heap.size ≤ B) : Agr B a b :=
  ⟨h, fun k hk => by rw [Array.getElem?_eq_none (by omega), Array.getElem?_eq_none (by omega)]⟩
theorem Agr.ext {B : Nat} {a b : World} (h : Agr B a b) (X : Ext) : Agr B (a.ext X) (b.ext X) := by
  refine ⟨by rw [World.ext_size, World.ext_size, h.size], fun k hk => ?_⟩
  show (a.heap ++ X.bs)[k]? = (b.heap ++ X.bs)[k]?
  rw [Array.getElem?_append, Array.getElem?_append, h.size, h.block k hk]
theorem Agr.alloc {B : Nat} {a b : World} (h : Agr B a b) (o : Obj) : Agr B (a.alloc o) (b.alloc o) := by
  refine ⟨by rw [World.size_alloc, World.size_alloc, h.size], fun k hk => ?_⟩
  show (a.heap.push o)[k]? = (b.heap.push o)[k]?
  rw [Array.getElem?_push, Array.getElem?_push, h.size, h.block k hk]
theorem OwnL.agr {α : Type} {R : RowOf α} {e : TypeId} {B : Nat} {a b : World} {v : Value} {xs : List α} (h : OwnL R e a B v xs) (g : Agr B a b) : OwnL R e b B v xs := by
  refine ⟨h.1, ?_⟩
  rcases h.2 with h | ⟨p, cap, cur, h1, h2, h3, h4⟩
  · exact .inl h
  · exact .inr ⟨p, cap, cur, h1, h2, (g.block p h2).symm.trans h3, h4⟩
/-- as RdL; an empty slice may lie anywhere: what a law is handed -/
def RdW {α : Type} (R : RowOf α) (w : World) (v : Value) (xs : List α) : Prop := RdL R w v xs ∨ (xs = [] ∧ ∃ a, v = .slice (some a) 0 0)
theorem RdW.ext {α : Type} {R : RowOf α} {w : World} {v : Value} {xs : List α} (h : RdW R w v xs) (X : Ext) : RdW R (w.ext X) v xs := h.imp (·.ext X) id
theorem RdW.alloc {α : Type} {R : RowOf α} {w : World} {v : Value} {xs : List α} (h : RdW R w v xs) (o : Obj) : RdW R (w.alloc o) v xs := h.imp (·.alloc o) id
theorem RdW.form {α : Type} {R : RowOf α} {w : World} {v : Value} {xs : List α} (h : RdW R w v xs) : ∃ ao cap, v = .slice ao xs.length cap := by
  rcases h with h | ⟨rfl, a, rfl⟩
  · obtain ⟨ao, cap, h, _⟩ := h.shape
    exact ⟨ao, cap, h⟩
  · exact ⟨_, _, rfl⟩
theorem RdW.shape {α : Type} {R : RowOf α} {w : World} {v : Value} {xs : List α} (h : RdW R w v xs) : ∃ ao cap, v = .slice ao xs.length cap ∧ xs.length ≤ cap ∧ cap ≤ maxLen ∧ (ao = none → cap = 0 ∧ xs = []) ∧
    (xs ≠ [] → ∃ b off, ao = some ⟨b, off, none⟩ ∧ (0 < R.k → b < w.heap.size) ∧ ∀ (i : Nat) (hi : i < xs.length) (j : Nat) (u : Value), (R.row xs[i])[j]? = some u → w.cell? ⟨b, off + i * R.k + j, none⟩ = some u) := by
  rcases h with h | ⟨rfl, a, rfl⟩
  · exact h.shape
  · exact ⟨some a, 0, rfl, Nat.le_refl _, Nat.zero_le _, (fun e => by cases e), fun e => absurd rfl e⟩
theorem RdW.shapeS {w : World} {v : Value} {xs : List ByteArray} (h : RdW rStr w v xs) : ∃ ao cap, v = .slice ao xs.length cap ∧ xs.length ≤ cap ∧ cap ≤ maxLen ∧ (ao = none → cap = 0 ∧ xs = []) ∧
    (xs ≠ [] → ∃ b off, ao = some ⟨b, off, none⟩ ∧ b < w.heap.size ∧ ∀ (i : Nat) (hi : i < xs.length), w.cell? ⟨b, off + i, none⟩ = some (.string xs[i])) := by
  obtain ⟨ao, cap, h0, h1, h2, h3, h4⟩ := h.shape
  refine ⟨ao, cap, h0, h1, h2, h3, fun hne => ?_⟩
  obtain ⟨b, off, e, hb, hc⟩ := h4 hne
  exact ⟨b, off, e, hb (by decide), fun i hi => by simpa [rStr] using hc i hi 0 _ rfl⟩
theorem World.cell?_of_get {w : World} {p i : Nat} {cs : Array Value} {t : TypeId} {f : Nat × Nat} (h : w.heap[p]? = some (.cells cs t f)) : w.cell? ⟨p, i, none⟩ = cs[i]? := by
  simp [World.cell?, h]
/-- block p may be anew -/
def SpF (w : World) (p : Nat) : Obj × Ext → World := fun x => (w.setB p x.1).ext x.2
attribute [go_sem] SpF
theorem Sp.start {w : World} {p : Nat} {o : Obj} (h : w.heap[p]? = some o) : Sf (SpF w p) w.drew := ⟨(o, ⟨#[], w.drawn + 1⟩), by unfold SpF; rw [World.setB_self h]; unfold World.ext World.drew; simp⟩
theorem Sp.got {w w1 w2 : World} {p : Nat} {o : Obj} (h : Sf (SpF w p) w1) (g : Got p w1 o w2) (hp : p < w.heap.size) : Sf (SpF w p) w2 := by
  obtain ⟨⟨o1, X⟩, rfl⟩ := h
  obtain ⟨Y, rfl⟩ := Got.then ⟨X, rfl⟩ g hp
  exact ⟨(o, Y), rfl⟩
theorem Sp.below {w w1 w2 : World} {p : Nat} (h : Sf (SpF w p) w1) (g : Below w1.heap.size w1 w2) : Sf (SpF w p) w2 := by
  obtain ⟨⟨o1, X⟩, rfl⟩ := h
  obtain ⟨Y, rfl⟩ := g.ext
  exact ⟨(o1, ⟨X.bs ++ Y.bs, Y.dr⟩), by unfold SpF; rw [World.ext_ext]⟩
theorem RdL.form {α : Type} {R : RowOf α} {w : World} {v : Value} {xs : List α} (h : RdL R w v xs) : ∃ ao cap, v = .slice ao xs.length cap := by
  rcases h with ⟨rfl, h, _⟩ | ⟨b, off, cap, rfl, _⟩
  · exact ⟨none, 0, by rw [h]⟩
  · exact ⟨_, _, rfl⟩
end Go
