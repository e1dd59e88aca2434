/- What putting a value under a key makes of a store: the reference's way and the program's way are one. No condition but the stated ones. -/
import Derived.Test.YtmhopglbgaijiaaKeyOk
import Derived.Test.YtmhopglbgaijiaaTCell
set_option linter.unusedVariables false
set_option linter.unusedSimpArgs false
namespace Go.Proofs.Ytmhopglbgaijiaa
open Go.ChangeShapes Go.WideShapes Go.ChangeAt Go.RowKit

theorem bytesLess_irrefl : ∀ l : List UInt8, Op.bytesLess l l = false
  | [] => rfl
  | x :: l => by
    simp only [Op.bytesLess, bytesLess_irrefl l, Bool.and_false, Bool.or_false]
    exact decide_eq_false (UInt8.lt_irrefl x)
theorem bytesLess_total : ∀ (a b : List UInt8), (Op.bytesLess a b || a == b) = !Op.bytesLess b a
  | [], [] => rfl
  | [], _ :: _ => rfl
  | _ :: _, [] => rfl
  | x :: a, y :: b => by
    have ih := bytesLess_total a b
    simp only [Op.bytesLess]
    by_cases h : x = y
    · subst h
      have hn : ¬ x < x := UInt8.lt_irrefl x
      have e : (x :: a == x :: b) = (a == b) := by simp [List.cons_beq_cons]
      rw [e, decide_eq_false hn]
      simpa using ih
    · have e : (x :: a == y :: b) = false := by simp [h]
      have e2 : (x == y) = false := by simp [h]
      have e3 : (y == x) = false := by simp [Ne.symm h]
      rw [e, e2, e3]
      have : ¬ x.toNat = y.toNat := fun q => h (UInt8.toNat_inj.1 q)
      by_cases hl : x < y
      · have hn : ¬ y < x := by rw [UInt8.lt_iff_toNat_lt] at hl ⊢; omega
        simp [hl, hn]
      · have hn : y < x := by rw [UInt8.lt_iff_toNat_lt] at hl ⊢; omega
        simp [hl, hn]
def isKey (key : ByteArray) (c : CellD) : Bool := c.key.toList == key.toList
def gtKey (key : ByteArray) (c : CellD) : Bool := Op.bytesLess key.toList c.key.toList
theorem gtKey_not {key : ByteArray} {c : CellD} (h : gtKey key c = true) : isKey key c = false := by
  cases hk : isKey key c with
  | false => rfl
  | true =>
    unfold isKey at hk
    unfold gtKey at h
    rw [eq_of_beq hk, bytesLess_irrefl] at h
    cases h
theorem less_gt {key : ByteArray} {c : CellD} (h : gtKey key c = true) : Op.bytesLess c.key.toList key.toList = false := by
  have := bytesLess_total c.key.toList key.toList
  unfold gtKey at h
  rw [h, Bool.not_true, Bool.or_eq_false_iff] at this
  exact this.1
theorem less_same {key : ByteArray} {c : CellD} (h : isKey key c = true) : Op.bytesLess c.key.toList key.toList = false := by
  unfold isKey at h
  rw [eq_of_beq h]
  exact bytesLess_irrefl _
theorem less_other {key : ByteArray} {c : CellD} (h : gtKey key c = false) (hk : isKey key c = false) : Op.bytesLess c.key.toList key.toList = true := by
  have := bytesLess_total c.key.toList key.toList
  unfold gtKey at h
  unfold isKey at hk
  rwa [h, hk, Bool.or_false, Bool.not_false] at this
def without (key : ByteArray) (xs : List CellD) : List CellD := xs.filter fun c => !isKey key c
/-- a cell laid before the first greater one -/
def insC (key val : ByteArray) (ys : List CellD) : List CellD := (ys.takeWhile fun c => !gtKey key c) ++ ⟨key, val⟩ :: (ys.dropWhile fun c => !gtKey key c)
def putC (key val : ByteArray) (xs : List CellD) : List CellD :=
  if keyOk key = false ∨ 60 < val.size then xs else if val.size = 0 then without key xs else insC key val (without key xs)
/-- the reference's state behind some cells -/
def putUp (key val : ByteArray) (zs : List CellD) : List CellD := if zs.any (gtKey key) then insC key val (without key zs) else without key zs
theorem without_snoc (key : ByteArray) (zs : List CellD) (c : CellD) : without key (zs ++ [c]) = without key zs ++ (if isKey key c then [] else [c]) := by
  unfold without
  rw [List.filter_append]
  congr 1
  cases hk : isKey key c <;> simp [hk]
theorem without_any (key : ByteArray) (zs : List CellD) : (without key zs).any (gtKey key) = zs.any (gtKey key) := by
  unfold without
  rw [List.any_filter]
  induction zs with
  | nil => rfl
  | cons c zs ih =>
    rw [List.any_cons, List.any_cons, ih]
    congr 1
    cases hg : gtKey key c with
    | false => exact Bool.and_false _
    | true => rw [gtKey_not hg]; rfl
theorem takeWhile_none {α : Type} (p : α → Bool) : ∀ l : List α, l.any p = false → (l.takeWhile fun c => !p c) = l ∧ (l.dropWhile fun c => !p c) = []
  | [], _ => ⟨rfl, rfl⟩
  | x :: l, h => by
    rw [List.any_cons, Bool.or_eq_false_iff] at h
    obtain ⟨h1, h2⟩ := takeWhile_none p l h.2
    simp [List.takeWhile_cons, List.dropWhile_cons, h.1, h1, h2]
theorem takeWhile_some {α : Type} (p : α → Bool) (c : α) : ∀ l : List α, l.any p = true → ((l ++ [c]).takeWhile fun c => !p c) = (l.takeWhile fun c => !p c) ∧ ((l ++ [c]).dropWhile fun c => !p c) = (l.dropWhile fun c => !p c) ++ [c]
  | [], h => by cases h
  | x :: l, h => by
    cases hp : p x with
    | true =>
      simp [List.takeWhile_cons, List.dropWhile_cons, hp]
    | false =>
      rw [List.any_cons, hp, Bool.false_or] at h
      obtain ⟨h1, h2⟩ := takeWhile_some p c l h
      simp [List.takeWhile_cons, List.dropWhile_cons, hp, h1, h2]
theorem insC_none {key val : ByteArray} {ys : List CellD} (h : ys.any (gtKey key) = false) : insC key val ys = ys ++ [⟨key, val⟩] := by
  unfold insC
  obtain ⟨h1, h2⟩ := takeWhile_none (gtKey key) ys h
  rw [h1, h2]
theorem insC_snoc {key val : ByteArray} {ys : List CellD} (c : CellD) (h : ys.any (gtKey key) = true) : insC key val (ys ++ [c]) = insC key val ys ++ [c] := by
  unfold insC
  obtain ⟨h1, h2⟩ := takeWhile_some (gtKey key) c ys h
  rw [h1, h2, List.append_assoc, List.cons_append]
/-- the next cell is greater, and none was before -/
theorem putUp_first {key val : ByteArray} {zs : List CellD} {c : CellD} (h : zs.any (gtKey key) = false) (hg : gtKey key c = true) : putUp key val (zs ++ [c]) = (putUp key val zs ++ [⟨key, val⟩]) ++ [c] := by
  unfold putUp
  rw [List.any_append, h, if_pos (by simp [hg]), if_neg (by simp), without_snoc, gtKey_not hg, if_neg (by simp)]
  have h' : (without key zs).any (gtKey key) = false := by rw [without_any]; exact h
  unfold insC
  obtain ⟨h1, h2⟩ := takeWhile_none (gtKey key) _ h'
  rw [List.takeWhile_append_of_pos, List.dropWhile_append_of_pos]
  · simp [List.takeWhile_cons, List.dropWhile_cons, hg]
  · intro x hx
    rw [List.any_eq_false] at h'
    simpa using h' x hx
  · intro x hx
    rw [List.any_eq_false] at h'
    simpa using h' x hx
/-- the next cell is of the key -/
theorem putUp_same {key val : ByteArray} {zs : List CellD} {c : CellD} (hk : isKey key c = true) : putUp key val (zs ++ [c]) = putUp key val zs := by
  have hg : gtKey key c = false := by
    cases hg : gtKey key c with
    | false => rfl
    | true => rw [gtKey_not hg] at hk; cases hk
  unfold putUp
  rw [List.any_append, without_snoc, hk, if_pos rfl, List.append_nil]
  simp [hg]
/-- the next cell is of another key, and it is not the first greater one -/
theorem putUp_other {key val : ByteArray} {zs : List CellD} {c : CellD} (hk : isKey key c = false) (h : zs.any (gtKey key) = true ∨ gtKey key c = false) : putUp key val (zs ++ [c]) = putUp key val zs ++ [c] := by
  have e : without key (zs ++ [c]) = without key zs ++ [c] := by rw [without_snoc, hk]; rfl
  have ea : (zs ++ [c]).any (gtKey key) = (zs.any (gtKey key) || gtKey key c) := by simp [List.any_append]
  unfold putUp
  rw [e, ea]
  cases hz : zs.any (gtKey key) with
  | true =>
    rw [if_pos (by simp), if_pos rfl]
    exact insC_snoc c (by rw [without_any]; exact hz)
  | false =>
    rcases h with h | h
    · rw [hz] at h; cases h
    · rw [h]
      rfl
theorem putUp_end {key val : ByteArray} {zs : List CellD} : (if zs.any (gtKey key) then putUp key val zs else putUp key val zs ++ [⟨key, val⟩]) = insC key val (without key zs) := by
  unfold putUp
  cases hz : zs.any (gtKey key) with
  | true => simp
  | false =>
    simp only [Bool.false_eq_true, if_false]
    exact (insC_none (by rw [without_any]; exact hz)).symm
theorem without_len (key : ByteArray) (xs : List CellD) : (without key xs).length ≤ xs.length := List.length_filter_le _ _
theorem insC_len (key val : ByteArray) (ys : List CellD) : (insC key val ys).length = ys.length + 1 := by
  unfold insC
  have := congrArg List.length (List.takeWhile_append_dropWhile (p := fun c => !gtKey key c) (l := ys))
  rw [List.length_append] at this ⊢
  rw [List.length_cons]
  omega
theorem putUp_len (key val : ByteArray) (zs : List CellD) : (putUp key val zs).length ≤ zs.length + 1 := by
  unfold putUp
  have := without_len key zs
  split
  · rw [insC_len]; omega
  · omega
theorem putC_len (key val : ByteArray) (xs : List CellD) : (putC key val xs).length ≤ xs.length + 1 := by
  unfold putC
  have := without_len key xs
  split
  · omega
  · split
    · omega
    · rw [insC_len]; omega
theorem without_ok {key : ByteArray} {xs : List CellD} (h : ∀ c ∈ xs, c.ok) : ∀ c ∈ without key xs, c.ok := fun c hc => h c (List.mem_filter.1 hc).1
theorem insC_ok {key val : ByteArray} {ys : List CellD} (h : ∀ c ∈ ys, c.ok) (hk : key.size ≤ 9223372036854775807) (hv : val.size ≤ 9223372036854775807) : ∀ c ∈ insC key val ys, c.ok := by
  intro c hc
  rcases List.mem_append.1 hc with hc | hc
  · exact h c ((List.takeWhile_sublist _).mem hc)
  · rcases List.mem_cons.1 hc with rfl | hc
    · exact ⟨hk, hv⟩
    · exact h c ((List.dropWhile_sublist _).mem hc)
theorem putC_ok {key val : ByteArray} {xs : List CellD} (h : ∀ c ∈ xs, c.ok) (hk : key.size ≤ 9223372036854775807) (hv : val.size ≤ 9223372036854775807) : ∀ c ∈ putC key val xs, c.ok := by
  unfold putC
  split
  · exact h
  · split
    · exact without_ok h
    · exact insC_ok (without_ok h) hk hv
end Go.Proofs.Ytmhopglbgaijiaa
