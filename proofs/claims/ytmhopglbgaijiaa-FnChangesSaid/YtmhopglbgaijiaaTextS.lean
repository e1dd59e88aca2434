/- Hexadecimal and decimal texts: the reference's. Each condition stands in its theorem. -/
import Derived.Test.YtmhopglbgaijiaaBy
import Derived.Test.YtmhopglbgaijiaaIn
import Derived.Test.YtmhopglbgaijiaaOrdT
import Derived.Lib.HexFns
import Derived.Lib.ItoaNum
import Derived.Lib.AppendIntMem
set_option linter.unusedVariables false
set_option linter.unusedSimpArgs false
namespace Go.Proofs.Ytmhopglbgaijiaa
open Go.ChangeShapes Go.WideShapes Go.ChangeAt Go.RowKit

theorem Try.byteT : ByteT Try.prog 22 5 := ByteT.of Try.underlying22 Try.underlying5 (by kernel_rfl)
def strOf (l : List UInt8) : ByteArray := ⟨l.toArray⟩
theorem strOf_size (l : List UInt8) : (strOf l).size = l.length := by unfold strOf; show l.toArray.size = _; simp
theorem strOf_list (l : List UInt8) : (strOf l).data.toList = l := by simp [strOf]
def hexT (s : ByteArray) : ByteArray := if s.size ≤ 20000 then strOf (Lib.Hx.encode s.data.toList) else ⟨#[]⟩
theorem hexT_size (s : ByteArray) : (hexT s).size ≤ 40000 := by
  unfold hexT
  split
  · rw [strOf_size, Lib.Hx.encode_length]
    have : s.data.toList.length = s.size := by simp
    omega
  · decide
theorem digit_lo {x : Nat} (h : x < 10) : Lib.Hx.digit x = UInt8.ofNat (48 + x) := by
  match x, h with
  | 0, _ | 1, _ | 2, _ | 3, _ | 4, _ | 5, _ | 6, _ | 7, _ | 8, _ | 9, _ => rfl
theorem digit_hi {x : Nat} (h : 10 ≤ x) (h2 : x < 16) : Lib.Hx.digit x = UInt8.ofNat (87 + x) := by
  rcases (by omega : x = 10 ∨ x = 11 ∨ x = 12 ∨ x = 13 ∨ x = 14 ∨ x = 15) with rfl | rfl | rfl | rfl | rfl | rfl <;> rfl
theorem alloc_newA' (w : World) (cs : Array Value) (t : TypeId) {b : Nat} (hb : b = w.heap.size) : (w.alloc (.cells cs t)).heap[b]? = some (.cells cs t (0, 0)) := by
  subst hb
  exact heap_alloc_new w _
theorem enc_snoc (l : List UInt8) (c : UInt8) : Lib.Hx.encode (l ++ [c]) = Lib.Hx.encode l ++ [Lib.Hx.digit (c.toNat / 16), Lib.Hx.digit (c.toNat % 16)] := by
  simp [Lib.Hx.encode, List.flatMap_append]
theorem conv_1 (w : World) (c : UInt8) (x : Int) (hx : x = (c.toNat : Int)) (b : Nat) (hb : b = w.heap.size) :
    Sem.run Try.prog (convert 22 9 (.slice (some ⟨b, 0, none⟩) 1 1)) (w.alloc (.cells #[.int .u8 x] 5)) = .ok (.string ⟨#[c]⟩) (w.alloc (.cells #[.int .u8 x] 5)) := by
  subst hb hx
  refine run_convert_bytes_back (w := w.alloc (.cells #[.int .u8 (c.toNat : Int)] 5)) (P := Try.prog) 22 9 5 ⟨w.heap.size, 0, none⟩ 1 [c] Try.underlying22 Try.underlying5 Try.underlying9 ?_
  intro j hj
  have : j = 0 := by simpa using hj
  subst this
  show (w.alloc _).cell? ⟨w.heap.size, 0, none⟩ = _
  simp [go_sem]
def dec0 (m : Nat) : List UInt8 := if m = 0 then [] else Lib.decDigits m
theorem dec0_step {m : Nat} (h : m ≠ 0) : dec0 m = dec0 (m / 10) ++ [Lib.Hx.digit (m % 10)] := by
  unfold dec0
  rw [if_neg h, Lib.decDigits]
  split
  · rename_i h1
    rw [if_pos (by omega), Nat.mod_eq_of_lt h1, digit_lo h1]
    rfl
  · rw [if_neg (by omega), digit_lo (by omega)]
theorem dec0_len : ∀ (m : Nat), (dec0 m).length ≤ m / 2 + 1 := by
  intro m
  induction m using Nat.strongRecOn with
  | ind m ih =>
    by_cases h : m = 0
    · subst h; simp [dec0]
    · rw [dec0_step h, List.length_append]
      by_cases h2 : m < 10
      · rw [show m / 10 = 0 by omega]
        simp [dec0]
      · have := ih (m / 10) (by omega)
        simp
        omega
theorem decD_len (m : Nat) : (Lib.decDigits m).length ≤ m / 2 + 1 := by
  by_cases h : m = 0
  · subst h
    rw [Lib.decDigits, dif_pos (by decide)]
    simp
  · have := dec0_len m
    unfold dec0 at this
    rwa [if_neg h] at this
theorem strOf_cons (c : UInt8) (l : List UInt8) : (⟨#[c]⟩ : ByteArray) ++ strOf l = strOf (c :: l) := by
  apply ByteArray.ext
  simp [strOf, ByteArray.data_append]
theorem itoa_zero : Lib.itoa 0 = [48] := by
  unfold Lib.itoa
  rw [if_neg (by decide), Lib.decDigits, dif_pos (by decide)]
  rfl
theorem conv_bytes (w : World) (s : ByteArray) (hs : s.size ≤ 9223372036854775807) :
    ∃ v w1, Sem.run Try.prog (convert 9 22 (.string s)) w = .ok v w1 ∧ OwnB 5 w1 w.heap.size v s.data.toList ∧ Below w.heap.size w w1 := by
  refine ⟨_, _, run_bytes_of_string w 9 22 5 s Try.underlying9 Try.underlying22 Try.underlying5, OwnB.ofString 5 w s hs, ?_⟩
  exact (Below.refl _ _).drew.alloc (Nat.le_refl _) _
theorem Sl.lit1 (w : World) (c : UInt8) (x : Int) (hx : x = (c.toNat : Int)) (t : TypeId) (b : Nat) (hb : b = w.heap.size) : Sl (w.alloc (.cells #[.int .u8 x] t)) (.slice (some ⟨b, 0, none⟩) 1 1) ([c] : List UInt8).length (bytesOf [c]) := by
  subst hx
  exact Sl.of_block (t := t) (f := (0, 0)) (alloc_newA' _ _ _ hb) (by decide)
end Go.Proofs.Ytmhopglbgaijiaa
