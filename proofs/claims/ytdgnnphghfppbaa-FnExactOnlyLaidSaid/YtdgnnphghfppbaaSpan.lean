/- Spans and keys: begins, open spans, whether two spans meet; the program's and the reference's. Each condition stands in its theorem. -/
import Derived.Test.YtdgnnphghfppbaaOrd
import Derived.Test.YtdgnnphghfppbaaRow
import Derived.Lib.Hide
set_option linter.unusedVariables false
set_option linter.unusedSimpArgs false
namespace Go.Proofs.Ytdgnnphghfppbaa
open Go.ChangeShapes Go.WideShapes Go.ChangeAt Go.RowKit

def begins (a b : ByteArray) : Bool := decide (b.size ≤ a.size) && ((a.extract 0 b.size).toList == b.toList)
def isOpen (a : ByteArray) : Bool := decide (1 ≤ a.size) && ((a.extract (a.size - 1) a.size).toList == [42])
def openPre (a : ByteArray) : ByteArray := if isOpen a then a.extract 0 (a.size - 1) else a
def spanHas (s k : ByteArray) : Bool := if isOpen s then begins k (openPre s) else (s.toList == k.toList)
def spansMeet (a b : ByteArray) : Bool := if isOpen a then (if isOpen b then begins (openPre a) (openPre b) || begins (openPre b) (openPre a) else begins b (openPre a)) else spanHas b a
theorem spansMeet_comm (a b : ByteArray) : spansMeet a b = spansMeet b a := by
  unfold spansMeet spanHas
  cases isOpen a <;> cases isOpen b <;> simp [Bool.or_comm, Bool.beq_comm]
theorem openPre_size (a : ByteArray) : (openPre a).size ≤ a.size := by
  unfold openPre
  split
  · rw [ByteArray.size_extract]; omega
  · exact Nat.le_refl _
theorem last_is0 (a : ByteArray) (h : 0 < a.size) : (a.extract (a.size - 1) a.size) = ⟨#[a[a.size - 1]]⟩ := by
  apply ByteArray.ext
  apply Array.ext_getElem?
  intro i
  rw [ByteArray.data_extract, Array.getElem?_extract]
  cases i with
  | zero =>
    have : a.size - 1 < a.data.size := by show a.size - 1 < a.size; omega
    rw [Nat.add_zero]
    simp
    exact ⟨by omega, Array.getElem?_eq_getElem this⟩
  | succ n =>
    simp
    have e : a.data.size = a.size := rfl
    omega
theorem last_is1 (c : UInt8) : ((⟨#[c]⟩ : ByteArray).toList == [42]) = ((c.toNat : Int) == 42) := by
  have : (⟨#[c]⟩ : ByteArray).toList = [c] := by rw [ByteArray.toList_eq]
  rw [this]
  by_cases h : c = 42
  · subst h; rfl
  · have : c.toNat ≠ 42 := fun e => h (by rw [← UInt8.toNat_inj]; exact e)
    have h2 : ((c.toNat : Int) == 42) = false := by simp; omega
    rw [h2]
    simp [h]
theorem last_is (a : ByteArray) (h : 0 < a.size) : ((a[a.size - 1].toNat : Int) == 42) = isOpen a := by
  unfold isOpen
  have h1 : 1 ≤ a.size := h
  rw [last_is0 a h, last_is1]
  simp [h1]
theorem spec_l02Begins (a b : ByteArray) (w : World) (ha : a.size ≤ 9223372036854775807) (hb : b.size ≤ 9223372036854775807) : Calls Try.prog 72 #[.string a, .string b] w fun e w' => e = .returned (.bool (begins a b)) ∧ w = w' := by
  by_cases h : b.size ≤ a.size
  · have h' : (b.size : Int) ≤ a.size := by omega
    go_enter Try.func72, Try.ntmps72
    go_wp2
    go_ret
    exact ⟨by simp [begins, h], rfl⟩
  · have h' : ¬ (b.size : Int) ≤ a.size := by omega
    go_enter Try.func72, Try.ntmps72
    go_wp2
    go_ret
    exact ⟨by simp [begins, h], rfl⟩
theorem lite_HasPrefix (a b : ByteArray) (w : World) (ha : a.size ≤ 9223372036854775807) (hb : b.size ≤ 9223372036854775807) : Calls Try.prog 80 #[.string a, .string b] w fun e w' => e = .returned (.bool (begins a b)) ∧ w = w' := by
  by_cases h : b.size ≤ a.size
  · have h' : (b.size : Int) ≤ a.size := by omega
    go_enter Try.func80, Try.ntmps80
    go_wp2
    go_ret
    exact ⟨by simp [begins, h], rfl⟩
  · have h' : ¬ (b.size : Int) ≤ a.size := by omega
    go_enter Try.func80, Try.ntmps80
    go_wp2
    go_ret
    exact ⟨by simp [begins, h], rfl⟩
theorem strings_HasPrefix (a b : ByteArray) (w : World) (ha : a.size ≤ 9223372036854775807) (hb : b.size ≤ 9223372036854775807) : Calls Try.prog 74 #[.string a, .string b] w fun e w' => e = .returned (.bool (begins a b)) ∧ w = w' := by
  go_enter Try.func74, Try.ntmps74
  go_wp2_with fail
  (go_at_call 80; refine (lite_HasPrefix a b _ ha hb).mono ?_; rintro e w' ⟨rfl, rfl⟩)
  go_wp2
  go_ret
  exact ⟨rfl, rfl⟩
theorem lite_HasSuffix (a : ByteArray) (w : World) (ha : a.size ≤ 9223372036854775807) : Calls Try.prog 93 #[.string a, .string ⟨#[42]⟩] w fun e w' => e = .returned (.bool (isOpen a)) ∧ w = w' := by
  by_cases h : 1 ≤ a.size
  · have h' : (1 : Int) ≤ a.size := by omega
    go_enter Try.func93, Try.ntmps93
    go_wp2
    go_ret
    exact ⟨by simp [isOpen, h], rfl⟩
  · have h' : ¬ (1 : Int) ≤ a.size := by omega
    go_enter Try.func93, Try.ntmps93
    go_wp2
    go_ret
    exact ⟨by simp [isOpen, h], rfl⟩
theorem lite_CutSuffix (a : ByteArray) (w : World) (ha : a.size ≤ 9223372036854775807) : Calls Try.prog 79 #[.string a, .string ⟨#[42]⟩] w fun e w' => e = .returned (.tuple #[.string (openPre a), .bool (isOpen a)]) ∧ w = w' := by
  cases ho : isOpen a with
  | true =>
    have h1 : 1 ≤ a.size := by
      unfold isOpen at ho
      simp at ho
      exact ho.1
    have h2 : (1 : Int) ≤ a.size := by omega
    go_enter Try.func79, Try.ntmps79
    go_wp2_with fail
    (go_at_call 93; refine (lite_HasSuffix a _ ha).mono ?_; rintro e w' ⟨rfl, rfl⟩)
    rw [ho]
    go_wp2
    refine bodyPost_ret (by simp [results, Try.results79, go_sem]; rfl) rfl ?_
    exact ⟨by simp [openPre, ho], rfl⟩
  | false =>
    go_enter Try.func79, Try.ntmps79
    go_wp2_with fail
    (go_at_call 93; refine (lite_HasSuffix a _ ha).mono ?_; rintro e w' ⟨rfl, rfl⟩)
    rw [ho]
    go_wp2
    refine bodyPost_ret (by simp [results, Try.results79, go_sem]; rfl) rfl ?_
    exact ⟨by simp [openPre, ho], rfl⟩
theorem strings_CutSuffix (a : ByteArray) (w : World) (ha : a.size ≤ 9223372036854775807) : Calls Try.prog 73 #[.string a, .string ⟨#[42]⟩] w fun e w' => e = .returned (.tuple #[.string (openPre a), .bool (isOpen a)]) ∧ w = w' := by
  go_enter Try.func73, Try.ntmps73
  go_wp2_with fail
  (go_at_call 79; refine (lite_CutSuffix a _ ha).mono ?_; rintro e w' ⟨rfl, rfl⟩)
  go_wp2
  refine bodyPost_ret (by simp [results, Try.results73, go_sem]; rfl) rfl ?_
  exact ⟨rfl, rfl⟩
theorem spec_l03Open (a : ByteArray) (w : World) (ha : a.size ≤ 9223372036854775807) : Calls Try.prog 71 #[.string a] w fun e w' => e = .returned (.tuple #[.string (openPre a), .bool (isOpen a)]) ∧ w = w' := by
  by_cases h : 0 < a.size
  · have h' : (0 : Int) < a.size := by omega
    have hl := last_is a h
    cases ho : isOpen a with
    | true =>
      rw [ho] at hl
      go_enter Try.func71, Try.ntmps71
      go_wp2
      refine bodyPost_ret (by simp [results, Try.results71, go_sem]; rfl) rfl ?_
      exact ⟨by simp [openPre, ho], rfl⟩
    | false =>
      rw [ho] at hl
      go_enter Try.func71, Try.ntmps71
      go_wp2
      refine bodyPost_ret (by simp [results, Try.results71, go_sem]; rfl) rfl ?_
      exact ⟨by simp [openPre, ho], rfl⟩
  · have h' : ¬ (0 : Int) < a.size := by omega
    have ho : isOpen a = false := by unfold isOpen; simp; omega
    go_enter Try.func71, Try.ntmps71
    go_wp2
    refine bodyPost_ret (by simp [results, Try.results71, go_sem]; rfl) rfl ?_
    exact ⟨by simp [openPre, ho], rfl⟩
theorem spec_SpanHas (s k : ByteArray) (w : World) (hs : s.size ≤ 9223372036854775807) (hk : k.size ≤ 9223372036854775807) : Calls Try.prog 59 #[.string s, .string k] w fun e w' => e = .returned (.bool (spanHas s k)) ∧ w = w' := by
  cases ho : isOpen s with
  | true =>
    go_enter Try.func59, Try.ntmps59
    go_wp2_with fail
    (go_at_call 71; refine (spec_l03Open s _ hs).mono ?_; rintro e w' ⟨rfl, rfl⟩)
    rw [ho]
    go_wp2_with fail
    (go_at_call 72; refine (spec_l02Begins k (openPre s) _ hk (Nat.le_trans (openPre_size s) hs)).mono ?_; rintro e w' ⟨rfl, rfl⟩)
    go_wp2
    go_ret
    exact ⟨by simp [spanHas, ho], rfl⟩
  | false =>
    have hp : openPre s = s := by unfold openPre; rw [ho]; rfl
    go_enter Try.func59, Try.ntmps59
    go_wp2_with fail
    (go_at_call 71; refine (spec_l03Open s _ hs).mono ?_; rintro e w' ⟨rfl, rfl⟩)
    rw [ho]
    go_wp2
    go_ret
    exact ⟨by simp [spanHas, ho], rfl⟩
theorem impl_SpanHas (s k : ByteArray) (w : World) (hs : s.size ≤ 9223372036854775807) (hk : k.size ≤ 9223372036854775807) : Calls Try.prog 62 #[.string s, .string k] w fun e w' => e = .returned (.bool (spanHas s k)) ∧ w = w' := by
  cases ho : isOpen s with
  | true =>
    go_enter Try.func62, Try.ntmps62
    go_wp2_with fail
    (go_at_call 73; refine (strings_CutSuffix s _ hs).mono ?_; rintro e w' ⟨rfl, rfl⟩)
    rw [ho]
    go_wp2_with fail
    (go_at_call 74; refine (strings_HasPrefix k (openPre s) _ hk (Nat.le_trans (openPre_size s) hs)).mono ?_; rintro e w' ⟨rfl, rfl⟩)
    go_wp2
    go_ret
    exact ⟨by simp [spanHas, ho], rfl⟩
  | false =>
    have hp : openPre s = s := by unfold openPre; rw [ho]; rfl
    go_enter Try.func62, Try.ntmps62
    go_wp2_with fail
    (go_at_call 73; refine (strings_CutSuffix s _ hs).mono ?_; rintro e w' ⟨rfl, rfl⟩)
    rw [ho]
    go_wp2
    go_ret
    exact ⟨by simp [spanHas, ho], rfl⟩
end Go.Proofs.Ytdgnnphghfppbaa
