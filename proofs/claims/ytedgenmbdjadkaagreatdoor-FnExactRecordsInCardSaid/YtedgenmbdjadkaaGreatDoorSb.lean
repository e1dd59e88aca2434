/- A strings.Builder that the call itself made, in plain words. Each condition stands in its theorem. -/
import Derived.Test.YtedgenmbdjadkaaGreatDoorTexts
import Derived.Lib.FrozenHead
set_option linter.unusedVariables false
set_option linter.unusedSimpArgs false
namespace Go.Proofs.YtedgenmbdjadkaaGreatDoor
open Go.ChangeShapes Go.WideShapes Go.ChangeAt Go.RowKit
/-- block b holds a Builder of the call's own (all that it has lies at B or later), with the bytes l -/
def IsB (w : World) (B b : Nat) (l : List UInt8) : Prop := Lib.IsBuilderF 79 5 B b (bytesOf l) w
theorem IsB.fresh (w : World) : IsB (w.alloc (.cells #[.pointer none, .slice none 0 0] 79)) w.heap.size w.heap.size [] := Lib.IsBuilderF.of (Lib.fresh_isBuilder _ _ w)
theorem IsB.ext {w : World} {B b : Nat} {l : List UInt8} (h : IsB w B b l) (X : Ext) : IsB (w.ext X) B b l := by
  have go : ∀ p, Lib.BuilderAtF 79 5 B b p (bytesOf l) w → Lib.BuilderAtF 79 5 B b p (bytesOf l) (w.ext X) := by
    rintro p ⟨hB, v, hb, ho, hne⟩
    refine ⟨hB, v, (w.ext_get X (World.lt_of_get hb)).trans hb, ?_, hne⟩
    refine ho.kept (row := none) ⟨rfl, rfl, rfl, by rw [World.ext_size]; omega, fun k hk _ => w.ext_get X hk⟩ (by cases hv : v.ownBlock <;> simp)
  exact h.elim (fun x => .inl (go _ x)) (fun x => .inr (go _ x))
theorem IsB.alloc {w : World} {B b : Nat} {l : List UInt8} (h : IsB w B b l) (o : Obj) : IsB (w.alloc o) B b l := by
  have go : ∀ p, Lib.BuilderAtF 79 5 B b p (bytesOf l) w → Lib.BuilderAtF 79 5 B b p (bytesOf l) (w.alloc o) := fun p x => Lib.BuilderAtF.alloc x o
  exact h.elim (fun x => .inl (go _ x)) (fun x => .inr (go _ x))
theorem IsB.below {w w' : World} {B b : Nat} {l : List UInt8} (h : IsB w B b l) (hb : Below w.heap.size w w') : IsB w' B b l := by
  obtain ⟨X, rfl⟩ := hb.ext
  exact h.ext X
theorem IsB.same {w : World} {bs : Array Obj} {d0 dr : Nat} {B b : Nat} {l : List UInt8} (h : IsB (w.ext ⟨bs, d0⟩) B b l) : IsB (w.ext ⟨bs, dr⟩) B b l := by
  have := h.ext ⟨#[], dr⟩
  rwa [World.ext_ext, Array.append_empty] at this
theorem IsB.merge {w : World} {bs cs : Array Obj} {d0 dr : Nat} {B b : Nat} {l : List UInt8} (h : IsB (w.ext ⟨bs, d0⟩) B b l) : IsB (w.ext ⟨bs ++ cs, dr⟩) B b l := by
  have := h.ext ⟨cs, dr⟩
  rwa [World.ext_ext] at this
theorem sb_len (B b : Nat) (l : List UInt8) (w : World) (h : IsB w B b l) :
    Calls Tryz.prog 54 #[.pointer (some ⟨b, 0, none⟩)] w fun e w' => e = .returned (.int .i64 l.length) ∧ w' = w := by
  have := Tryz.Builder_Len_f B b (bytesOf l) w h
  rwa [bytesOf_length] at this
theorem sb_write (B b : Nat) (l : List UInt8) (s : ByteArray) (w : World) (h : IsB w B b l) (hlen : l.length + s.size ≤ 140737488355328) (hB : B ≤ w.heap.size) :
    Calls Tryz.prog 51 #[.pointer (some ⟨b, 0, none⟩), .string s] w fun e w' => e = .returned (.tuple #[.int .i64 s.size, .nilIface]) ∧ IsB w' B b (l ++ s.data.toList) ∧ Below B w w' := by
  refine (Tryz.Builder_WriteString_f B b (bytesOf l) s w h (by rw [bytesOf_length]; exact hlen) hB).mono ?_
  rintro e w' ⟨rfl, h1, h2⟩
  refine ⟨rfl, ?_, h2⟩
  unfold IsB
  rw [bytesOf_append, ← strCells_bytes]
  exact .inr h1
theorem sb_string (B b : Nat) (l : List UInt8) (w : World) (h : IsB w B b l) (hB : B ≤ w.heap.size) :
    Calls Tryz.prog 56 #[.pointer (some ⟨b, 0, none⟩)] w fun e w' => e = .returned (.string (strOf l)) ∧ IsB w' B b l ∧ Below B w w' :=
  Tryz.Builder_String_any_f B b l w h hB
end Go.Proofs.YtedgenmbdjadkaaGreatDoor
