/- Spans and keys: begins, open spans, whether two spans meet; the program's and the reference's. Each condition stands in its theorem. -/
import Derived.Test.YtmhopglbgaijiaaOrd
import Derived.Test.YtmhopglbgaijiaaRow
import Derived.Lib.Hide
set_option linter.unusedVariables false
set_option linter.unusedSimpArgs false
namespace Go.Proofs.Ytmhopglbgaijiaa
open Go.ChangeShapes Go.WideShapes Go.ChangeAt Go.RowKit

def begins (a b : ByteArray) : Bool := decide (b.size ≤ a.size) && ((a.extract 0 b.size).toList == b.toList)
def isOpen (a : ByteArray) : Bool := decide (1 ≤ a.size) && ((a.extract (a.size - 1) a.size).toList == [42])
def openPre (a : ByteArray) : ByteArray := if isOpen a then a.extract 0 (a.size - 1) else a
def spanHas (s k : ByteArray) : Bool := if isOpen s then begins k (openPre s) else (s.toList == k.toList)
def spansMeet (a b : ByteArray) : Bool := if isOpen a then (if isOpen b then begins (openPre a) (openPre b) || begins (openPre b) (openPre a) else begins b (openPre a)) else spanHas b a
theorem spansMeet_comm (a b : ByteArray) : spansMeet a b = spansMeet b a := by
  unfold spansMeet spanHas
  cases isOpen a <;> cases isOpen b <;> simp [Bool.or_comm, Bool.beq_comm]
theorem openPre_size (a : ByteArray) : (openPre a).size ≤ a.size := by
  unfold openPre
  split
  · rw [ByteArray.size_extract]; omega
  · exact Nat.le_refl _
theorem last_is0 (a : ByteArray) (h : 0 < a.size) : (a.extract (a.size - 1) a.size) = ⟨#[a[a.size - 1]]⟩ := by
  apply ByteArray.ext
  apply Array.ext_getElem?
  intro i
  rw [ByteArray.data_extract, Array.getElem?_extract]
  cases i with
  | zero =>
    have : a.size - 1 < a.data.size := by show a.size - 1 < a.size; omega
    rw [Nat.add_zero]
    simp
    exact ⟨by omega, Array.getElem?_eq_getElem this⟩
  | succ n =>
    simp
    have e : a.data.size = a.size := rfl
    omega
theorem last_is1 (c : UInt8) : ((⟨#[c]⟩ : ByteArray).toList == [42]) = ((c.toNat : Int) == 42) := by
  have : (⟨#[c]⟩ : ByteArray).toList = [c] := by rw [ByteArray.toList_eq]
  rw [this]
  by_cases h : c = 42
  · subst h; rfl
  · have : c.toNat ≠ 42 := fun e => h (by rw [← UInt8.toNat_inj]; exact e)
    have h2 : ((c.toNat : Int) == 42) = false := by simp; omega
    rw [h2]
    simp [h]
theorem last_is (a : ByteArray) (h : 0 < a.size) : ((a[a.size - 1].toNat : Int) == 42) = isOpen a := by
  unfold isOpen
  have h1 : 1 ≤ a.size := h
  rw [last_is0 a h, last_is1]
  simp [h1]
theorem spec_l02Begins (a b : ByteArray) (w : World) (ha : a.size ≤ 9223372036854775807) (hb : b.size ≤ 9223372036854775807) : Calls Try.prog 104 #[.string a, .string b] w fun e w' => e = .returned (.bool (begins a b)) ∧ w = w' := by
  by_cases h : b.size ≤ a.size
  · have h' : (b.size : Int) ≤ a.size := by omega
    go_enter Try.func104, Try.ntmps104
    go_wp2
    go_ret
    exact ⟨by simp [begins, h], rfl⟩
  · have h' : ¬ (b.size : Int) ≤ a.size := by omega
    go_enter Try.func104, Try.ntmps104
    go_wp2
    go_ret
    exact ⟨by simp [begins, h], rfl⟩
theorem lite_HasPrefix (a b : ByteArray) (w : World) (ha : a.size ≤ 9223372036854775807) (hb : b.size ≤ 9223372036854775807) : Calls Try.prog 119 #[.string a, .string b] w fun e w' => e = .returned (.bool (begins a b)) ∧ w = w' := by
  by_cases h : b.size ≤ a.size
  · have h' : (b.size : Int) ≤ a.size := by omega
    go_enter Try.func119, Try.ntmps119
    go_wp2
    go_ret
    exact ⟨by simp [begins, h], rfl⟩
  · have h' : ¬ (b.size : Int) ≤ a.size := by omega
    go_enter Try.func119, Try.ntmps119
    go_wp2
    go_ret
    exact ⟨by simp [begins, h], rfl⟩
theorem strings_HasPrefix (a b : ByteArray) (w : World) (ha : a.size ≤ 9223372036854775807) (hb : b.size ≤ 9223372036854775807) : Calls Try.prog 101 #[.string a, .string b] w fun e w' => e = .returned (.bool (begins a b)) ∧ w = w' := by
  go_enter Try.func101, Try.ntmps101
  go_wp2_with fail
  (go_at_call 119; refine (lite_HasPrefix a b _ ha hb).mono ?_; rintro e w' ⟨rfl, rfl⟩)
  go_wp2
  go_ret
  exact ⟨rfl, rfl⟩
theorem lite_HasSuffix (a : ByteArray) (w : World) (ha : a.size ≤ 9223372036854775807) : Calls Try.prog 126 #[.string a, .string ⟨#[42]⟩] w fun e w' => e = .returned (.bool (isOpen a)) ∧ w = w' := by
  by_cases h : 1 ≤ a.size
  · have h' : (1 : Int) ≤ a.size := by omega
    go_enter Try.func126, Try.ntmps126
    go_wp2
    go_ret
    exact ⟨by simp [isOpen, h], rfl⟩
  · have h' : ¬ (1 : Int) ≤ a.size := by omega
    go_enter Try.func126, Try.ntmps126
    go_wp2
    go_ret
    exact ⟨by simp [isOpen, h], rfl⟩
theorem lite_CutSuffix (a : ByteArray) (w : World) (ha : a.size ≤ 9223372036854775807) : Calls Try.prog 118 #[.string a, .string ⟨#[42]⟩] w fun e w' => e = .returned (.tuple #[.string (openPre a), .bool (isOpen a)]) ∧ w = w' := by
  cases ho : isOpen a with
  | true =>
    have h1 : 1 ≤ a.size := by
      unfold isOpen at ho
      simp at ho
      exact ho.1
    have h2 : (1 : Int) ≤ a.size := by omega
    go_enter Try.func118, Try.ntmps118
    go_wp2_with fail
    (go_at_call 126; refine (lite_HasSuffix a _ ha).mono ?_; rintro e w' ⟨rfl, rfl⟩)
    rw [ho]
    go_wp2
    refine bodyPost_ret (by simp [results, Try.results118, go_sem]; rfl) rfl ?_
    exact ⟨by simp [openPre, ho], rfl⟩
  | false =>
    go_enter Try.func118, Try.ntmps118
    go_wp2_with fail
    (go_at_call 126; refine (lite_HasSuffix a _ ha).mono ?_; rintro e w' ⟨rfl, rfl⟩)
    rw [ho]
    go_wp2
    refine bodyPost_ret (by simp [results, Try.results118, go_sem]; rfl) rfl ?_
    exact ⟨by simp [openPre, ho], rfl⟩
theorem strings_CutSuffix (a : ByteArray) (w : World) (ha : a.size ≤ 9223372036854775807) : Calls Try.prog 100 #[.string a, .string ⟨#[42]⟩] w fun e w' => e = .returned (.tuple #[.string (openPre a), .bool (isOpen a)]) ∧ w = w' := by
  go_enter Try.func100, Try.ntmps100
  go_wp2_with fail
  (go_at_call 118; refine (lite_CutSuffix a _ ha).mono ?_; rintro e w' ⟨rfl, rfl⟩)
  go_wp2
  refine bodyPost_ret (by simp [results, Try.results100, go_sem]; rfl) rfl ?_
  exact ⟨rfl, rfl⟩
theorem spec_l03Open (a : ByteArray) (w : World) (ha : a.size ≤ 9223372036854775807) : Calls Try.prog 103 #[.string a] w fun e w' => e = .returned (.tuple #[.string (openPre a), .bool (isOpen a)]) ∧ w = w' := by
  by_cases h : 0 < a.size
  · have h' : (0 : Int) < a.size := by omega
    have hl := last_is a h
    cases ho : isOpen a with
    | true =>
      rw [ho] at hl
      go_enter Try.func103, Try.ntmps103
      go_wp2
      refine bodyPost_ret (by simp [results, Try.results103, go_sem]; rfl) rfl ?_
      exact ⟨by simp [openPre, ho], rfl⟩
    | false =>
      rw [ho] at hl
      go_enter Try.func103, Try.ntmps103
      go_wp2
      refine bodyPost_ret (by simp [results, Try.results103, go_sem]; rfl) rfl ?_
      exact ⟨by simp [openPre, ho], rfl⟩
  · have h' : ¬ (0 : Int) < a.size := by omega
    have ho : isOpen a = false := by unfold isOpen; simp; omega
    go_enter Try.func103, Try.ntmps103
    go_wp2
    refine bodyPost_ret (by simp [results, Try.results103, go_sem]; rfl) rfl ?_
    exact ⟨by simp [openPre, ho], rfl⟩
theorem spec_SpanHas (s k : ByteArray) (w : World) (hs : s.size ≤ 9223372036854775807) (hk : k.size ≤ 9223372036854775807) : Calls Try.prog 105 #[.string s, .string k] w fun e w' => e = .returned (.bool (spanHas s k)) ∧ w = w' := by
  cases ho : isOpen s with
  | true =>
    go_enter Try.func105, Try.ntmps105
    go_wp2_with fail
    (go_at_call 103; refine (spec_l03Open s _ hs).mono ?_; rintro e w' ⟨rfl, rfl⟩)
    rw [ho]
    go_wp2_with fail
    (go_at_call 104; refine (spec_l02Begins k (openPre s) _ hk (Nat.le_trans (openPre_size s) hs)).mono ?_; rintro e w' ⟨rfl, rfl⟩)
    go_wp2
    go_ret
    exact ⟨by simp [spanHas, ho], rfl⟩
  | false =>
    have hp : openPre s = s := by unfold openPre; rw [ho]; rfl
    go_enter Try.func105, Try.ntmps105
    go_wp2_with fail
    (go_at_call 103; refine (spec_l03Open s _ hs).mono ?_; rintro e w' ⟨rfl, rfl⟩)
    rw [ho]
    go_wp2
    go_ret
    exact ⟨by simp [spanHas, ho], rfl⟩
theorem impl_SpanHas (s k : ByteArray) (w : World) (hs : s.size ≤ 9223372036854775807) (hk : k.size ≤ 9223372036854775807) : Calls Try.prog 102 #[.string s, .string k] w fun e w' => e = .returned (.bool (spanHas s k)) ∧ w = w' := by
  cases ho : isOpen s with
  | true =>
    go_enter Try.func102, Try.ntmps102
    go_wp2_with fail
    (go_at_call 100; refine (strings_CutSuffix s _ hs).mono ?_; rintro e w' ⟨rfl, rfl⟩)
    rw [ho]
    go_wp2_with fail
    (go_at_call 101; refine (strings_HasPrefix k (openPre s) _ hk (Nat.le_trans (openPre_size s) hs)).mono ?_; rintro e w' ⟨rfl, rfl⟩)
    go_wp2
    go_ret
    exact ⟨by simp [spanHas, ho], rfl⟩
  | false =>
    have hp : openPre s = s := by unfold openPre; rw [ho]; rfl
    go_enter Try.func102, Try.ntmps102
    go_wp2_with fail
    (go_at_call 100; refine (strings_CutSuffix s _ hs).mono ?_; rintro e w' ⟨rfl, rfl⟩)
    rw [ho]
    go_wp2
    go_ret
    exact ⟨by simp [spanHas, ho], rfl⟩
theorem spec_SpansMeet (a b : ByteArray) (w : World) (ha : a.size ≤ 9223372036854775807) (hb : b.size ≤ 9223372036854775807) : Calls Try.prog 94 #[.string a, .string b] w fun e w' => e = .returned (.bool (spansMeet a b)) ∧ w = w' := by
  have hm : spansMeet a b = spansMeet a b := rfl
  conv at hm => rhs; unfold spansMeet
  rcases hoa : isOpen a with _ | _ <;> rcases hob : isOpen b with _ | _ <;> simp only [hoa, hob, if_true, if_false, Bool.false_eq_true] at hm
  · go_enter Try.func94, Try.ntmps94
    go_wp2_with fail
    (go_at_call 103; refine (spec_l03Open a _ ha).mono ?_; rintro e w' ⟨rfl, rfl⟩)
    rw [hoa]
    go_wp2_with fail
    (go_at_call 103; refine (spec_l03Open b _ hb).mono ?_; rintro e w' ⟨rfl, rfl⟩)
    rw [hob]
    go_wp2_with fail
    (go_at_call 105; refine (spec_SpanHas b a _ hb ha).mono ?_; rintro e w' ⟨rfl, rfl⟩)
    go_wp2
    go_ret
    exact ⟨by rw [hm]; rfl, rfl⟩
  · go_enter Try.func94, Try.ntmps94
    go_wp2_with fail
    (go_at_call 103; refine (spec_l03Open a _ ha).mono ?_; rintro e w' ⟨rfl, rfl⟩)
    rw [hoa]
    go_wp2_with fail
    (go_at_call 103; refine (spec_l03Open b _ hb).mono ?_; rintro e w' ⟨rfl, rfl⟩)
    rw [hob]
    go_wp2_with fail
    (go_at_call 105; refine (spec_SpanHas b a _ hb ha).mono ?_; rintro e w' ⟨rfl, rfl⟩)
    go_wp2
    go_ret
    exact ⟨by rw [hm]; rfl, rfl⟩
  · go_enter Try.func94, Try.ntmps94
    go_wp2_with fail
    (go_at_call 103; refine (spec_l03Open a _ ha).mono ?_; rintro e w' ⟨rfl, rfl⟩)
    rw [hoa]
    go_wp2_with fail
    (go_at_call 103; refine (spec_l03Open b _ hb).mono ?_; rintro e w' ⟨rfl, rfl⟩)
    rw [hob]
    go_wp2_with fail
    (go_at_call 104; refine (spec_l02Begins b (openPre a) _ hb (Nat.le_trans (openPre_size a) ha)).mono ?_; rintro e w' ⟨rfl, rfl⟩)
    go_wp2
    go_ret
    exact ⟨by rw [hm]; rfl, rfl⟩
  · cases hbg : begins (openPre a) (openPre b) with
    | true =>
      go_enter Try.func94, Try.ntmps94
      go_wp2_with fail
      (go_at_call 103; refine (spec_l03Open a _ ha).mono ?_; rintro e w' ⟨rfl, rfl⟩)
      rw [hoa]
      go_wp2_with fail
      (go_at_call 103; refine (spec_l03Open b _ hb).mono ?_; rintro e w' ⟨rfl, rfl⟩)
      rw [hob]
      go_wp2_with fail
      (go_at_call 104; refine (spec_l02Begins (openPre a) (openPre b) _ (Nat.le_trans (openPre_size a) ha) (Nat.le_trans (openPre_size b) hb)).mono ?_; rintro e w' ⟨rfl, rfl⟩)
      rw [hbg]
      go_wp2
      go_ret
      exact ⟨by rw [hm, hbg]; rfl, rfl⟩
    | false =>
      go_enter Try.func94, Try.ntmps94
      go_wp2_with fail
      (go_at_call 103; refine (spec_l03Open a _ ha).mono ?_; rintro e w' ⟨rfl, rfl⟩)
      rw [hoa]
      go_wp2_with fail
      (go_at_call 103; refine (spec_l03Open b _ hb).mono ?_; rintro e w' ⟨rfl, rfl⟩)
      rw [hob]
      go_wp2_with fail
      (go_at_call 104; refine (spec_l02Begins (openPre a) (openPre b) _ (Nat.le_trans (openPre_size a) ha) (Nat.le_trans (openPre_size b) hb)).mono ?_; rintro e w' ⟨rfl, rfl⟩)
      rw [hbg]
      go_wp2_with fail
      (go_at_call 104; refine (spec_l02Begins (openPre b) (openPre a) _ (Nat.le_trans (openPre_size b) hb) (Nat.le_trans (openPre_size a) ha)).mono ?_; rintro e w' ⟨rfl, rfl⟩)
      go_wp2
      go_ret
      exact ⟨by rw [hm, hbg, Bool.false_or]; rfl, rfl⟩
theorem impl_SpansMeet (a b : ByteArray) (w : World) (ha : a.size ≤ 9223372036854775807) (hb : b.size ≤ 9223372036854775807) : Calls Try.prog 93 #[.string a, .string b] w fun e w' => e = .returned (.bool (spansMeet a b)) ∧ w = w' := by
  have hm : spansMeet a b = spansMeet a b := rfl
  conv at hm => rhs; unfold spansMeet
  rcases hoa : isOpen a with _ | _ <;> rcases hob : isOpen b with _ | _ <;> simp only [hoa, hob, if_true, if_false, Bool.false_eq_true] at hm
  · go_enter Try.func93, Try.ntmps93
    go_wp2_with fail
    (go_at_call 100; refine (strings_CutSuffix a _ ha).mono ?_; rintro e w' ⟨rfl, rfl⟩)
    rw [hoa]
    go_wp2_with fail
    (go_at_call 100; refine (strings_CutSuffix b _ hb).mono ?_; rintro e w' ⟨rfl, rfl⟩)
    rw [hob]
    go_wp2_with fail
    (go_at_call 102; refine (impl_SpanHas b a _ hb ha).mono ?_; rintro e w' ⟨rfl, rfl⟩)
    go_wp2
    go_ret
    exact ⟨by rw [hm]; rfl, rfl⟩
  · go_enter Try.func93, Try.ntmps93
    go_wp2_with fail
    (go_at_call 100; refine (strings_CutSuffix a _ ha).mono ?_; rintro e w' ⟨rfl, rfl⟩)
    rw [hoa]
    go_wp2_with fail
    (go_at_call 100; refine (strings_CutSuffix b _ hb).mono ?_; rintro e w' ⟨rfl, rfl⟩)
    rw [hob]
    go_wp2_with fail
    (go_at_call 102; refine (impl_SpanHas b a _ hb ha).mono ?_; rintro e w' ⟨rfl, rfl⟩)
    go_wp2
    go_ret
    exact ⟨by rw [hm]; rfl, rfl⟩
  · go_enter Try.func93, Try.ntmps93
    go_wp2_with fail
    (go_at_call 100; refine (strings_CutSuffix a _ ha).mono ?_; rintro e w' ⟨rfl, rfl⟩)
    rw [hoa]
    go_wp2_with fail
    (go_at_call 100; refine (strings_CutSuffix b _ hb).mono ?_; rintro e w' ⟨rfl, rfl⟩)
    rw [hob]
    go_wp2_with fail
    have hsh : spanHas a b = begins b (openPre a) := by unfold spanHas; rw [hoa]; rfl
    (go_at_call 102; refine (impl_SpanHas a b _ ha hb).mono ?_; rintro e w' ⟨rfl, rfl⟩)
    rw [hsh]
    go_wp2
    go_ret
    exact ⟨by rw [hm]; rfl, rfl⟩
  · cases hbg : begins (openPre a) (openPre b) with
    | true =>
      go_enter Try.func93, Try.ntmps93
      go_wp2_with fail
      (go_at_call 100; refine (strings_CutSuffix a _ ha).mono ?_; rintro e w' ⟨rfl, rfl⟩)
      rw [hoa]
      go_wp2_with fail
      (go_at_call 100; refine (strings_CutSuffix b _ hb).mono ?_; rintro e w' ⟨rfl, rfl⟩)
      rw [hob]
      go_wp2_with fail
      (go_at_call 101; refine (strings_HasPrefix (openPre a) (openPre b) _ (Nat.le_trans (openPre_size a) ha) (Nat.le_trans (openPre_size b) hb)).mono ?_; rintro e w' ⟨rfl, rfl⟩)
      rw [hbg]
      go_wp2
      go_ret
      exact ⟨by rw [hm, hbg]; rfl, rfl⟩
    | false =>
      go_enter Try.func93, Try.ntmps93
      go_wp2_with fail
      (go_at_call 100; refine (strings_CutSuffix a _ ha).mono ?_; rintro e w' ⟨rfl, rfl⟩)
      rw [hoa]
      go_wp2_with fail
      (go_at_call 100; refine (strings_CutSuffix b _ hb).mono ?_; rintro e w' ⟨rfl, rfl⟩)
      rw [hob]
      go_wp2_with fail
      (go_at_call 101; refine (strings_HasPrefix (openPre a) (openPre b) _ (Nat.le_trans (openPre_size a) ha) (Nat.le_trans (openPre_size b) hb)).mono ?_; rintro e w' ⟨rfl, rfl⟩)
      rw [hbg]
      go_wp2_with fail
      (go_at_call 101; refine (strings_HasPrefix (openPre b) (openPre a) _ (Nat.le_trans (openPre_size b) hb) (Nat.le_trans (openPre_size a) ha)).mono ?_; rintro e w' ⟨rfl, rfl⟩)
      go_wp2
      go_ret
      exact ⟨by rw [hm, hbg, Bool.false_or]; rfl, rfl⟩
end Go.Proofs.Ytmhopglbgaijiaa
