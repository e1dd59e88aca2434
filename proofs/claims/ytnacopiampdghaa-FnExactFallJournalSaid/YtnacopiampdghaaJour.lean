/- Contracts of the journal's functions, in the reference and in the program. Each condition stands in its theorem. -/
import Derived.Test.YtnacopiampdghaaExt
set_option linter.unusedVariables false
namespace Go.Proofs.Ytnacopiampdghaa
open Go.ChangeShapes Go.WideShapes Go.ChangeAt Go.RowKit

def inB (x a b : Int) : Bool := decide (a ≤ x) && decide (x ≤ b)
theorem inB_t {x a b : Int} (h : a ≤ x) : decide (x ≤ b) = inB x a b := by simp [inB, h]
theorem inB_f {x a b : Int} (h : x < a) : false = inB x a b := by simp [inB, show ¬ a ≤ x by omega]

theorem spec_l01In (x a b : Int) (w : World) :
    Calls Try.prog 28 #[.int .i64 x, .int .i64 a, .int .i64 b] w fun e w' => e = .returned (.bool (inB x a b)) ∧ w = w' := by
  go_enter Try.func28, Try.ntmps28
  go_wp2
  all_goals go_ret
  · exact ⟨ret_bool (inB_t (by assumption)), rfl⟩
  · exact ⟨ret_bool (inB_f (by assumption)), rfl⟩

theorem impl_within (x a b : Int) (w : World) :
    Calls Try.prog 29 #[.int .i64 x, .int .i64 a, .int .i64 b] w fun e w' => e = .returned (.bool (inB x a b)) ∧ w = w' := by
  go_enter Try.func29, Try.ntmps29
  go_wp2
  all_goals go_ret
  · exact ⟨ret_bool (inB_t (by assumption)), rfl⟩
  · exact ⟨ret_bool (inB_f (by assumption)), rfl⟩

def jOk (t : ByteArray) (n : Int) : Bool := decide ((t.size : Int) ≤ 20000) && inB n 0 t.size
theorem jOk_t {t : ByteArray} {n : Int} (h : (t.size : Int) ≤ 20000) : inB n 0 t.size = jOk t n := by simp [jOk, h]
theorem jOk_f {t : ByteArray} {n : Int} (h : 20000 < (t.size : Int)) : false = jOk t n := by simp [jOk, show ¬ (t.size : Int) ≤ 20000 by omega]

theorem spec_JournalOk (t : ByteArray) (n : Int) (w : World) :
    Calls Try.prog 13 #[.agg #[.string t, .int .i64 n]] w fun e w' => e = .returned (.bool (jOk t n)) ∧ Below w.heap.size w w' := by
  go_enter Try.func13, Try.ntmps13
  go_wp2_with (go_at_call 28; refine (spec_l01In _ _ _ _).mono ?_; rintro e w' ⟨rfl, rfl⟩)
  all_goals go_ret
  · exact ⟨ret_bool (jOk_t (by assumption)), (by repeat (first | exact Below.refl _ _ | assumption | apply Below.drew | apply Below.ofAlloc | apply Below.ofExt | (refine Below.setCell ?_ (by first | exact Nat.le_refl _ | (simp [go_sem]; done) | (simp [go_sem]; omega)) _)))⟩
  · exact ⟨ret_bool (jOk_f (by assumption)), (by repeat (first | exact Below.refl _ _ | assumption | apply Below.drew | apply Below.ofAlloc | apply Below.ofExt | (refine Below.setCell ?_ (by first | exact Nat.le_refl _ | (simp [go_sem]; done) | (simp [go_sem]; omega)) _)))⟩

theorem impl_JournalOk (t : ByteArray) (n : Int) (w : World) :
    Calls Try.prog 15 #[.agg #[.string t, .int .i64 n]] w fun e w' => e = .returned (.bool (jOk t n)) ∧ Below w.heap.size w w' := by
  go_enter Try.func15, Try.ntmps15
  go_wp2_with (go_at_call 29; refine (impl_within _ _ _ _).mono ?_; rintro e w' ⟨rfl, rfl⟩)
  all_goals go_ret
  · exact ⟨ret_bool (jOk_t (by assumption)), (by repeat (first | exact Below.refl _ _ | assumption | apply Below.drew | apply Below.ofAlloc | apply Below.ofExt | (refine Below.setCell ?_ (by first | exact Nat.le_refl _ | (simp [go_sem]; done) | (simp [go_sem]; omega)) _)))⟩
  · exact ⟨ret_bool (jOk_f (by assumption)), (by repeat (first | exact Below.refl _ _ | assumption | apply Below.drew | apply Below.ofAlloc | apply Below.ofExt | (refine Below.setCell ?_ (by first | exact Nat.le_refl _ | (simp [go_sem]; done) | (simp [go_sem]; omega)) _)))⟩

theorem laws_toJournal (t : ByteArray) (n : Int) (w : World) :
    Calls Try.prog 14 #[.agg #[.string t, .int .i64 n]] w fun e w' => e = .returned (.agg #[.string t, .int .i64 n]) ∧ Below w.heap.size w w' := by
  go_enter Try.func14, Try.ntmps14
  go_wp2
  exact bodyPost_ret (v := .agg #[.string t, .int .i64 n]) (by simp [results, Try.results14, go_sem]) rfl ⟨rfl, (by repeat (first | exact Below.refl _ _ | assumption | apply Below.drew | apply Below.ofAlloc | apply Below.ofExt | (refine Below.setCell ?_ (by first | exact Nat.le_refl _ | (simp [go_sem]; done) | (simp [go_sem]; omega)) _)))⟩

theorem laws_szJournal (t : ByteArray) (n left : Int) (w : World) (hs : t.size ≤ maxLen) (h0 : 0 ≤ left) (h1 : left ≤ 1048576) :
    Calls Try.prog 12 #[.agg #[.string t, .int .i64 n], .int .i64 left] w fun e w' => e = .returned (.int .i64 (if left - t.size < 0 then -1 else left - t.size)) ∧ Below w.heap.size w w' := by
  unfold maxLen at hs
  go_enter Try.func12, Try.ntmps12
  go_wp2
  all_goals go_ret
  all_goals exact ⟨rfl, (by repeat (first | exact Below.refl _ _ | assumption | apply Below.drew | apply Below.ofAlloc | apply Below.ofExt | (refine Below.setCell ?_ (by first | exact Nat.le_refl _ | (simp [go_sem]; done) | (simp [go_sem]; omega)) _)))⟩

def flN (t : ByteArray) (n : Int) : Int := if jOk t n then t.size else n
theorem flN_t {t : ByteArray} {n : Int} (h : jOk t n = true) : (t.size : Int) = flN t n := by simp [flN, h]
theorem flN_f {t : ByteArray} {n : Int} (h : jOk t n = false) : n = flN t n := by simp [flN, h]
theorem ret_jour {t t' : ByteArray} {n n' : Int} (h : t = t') (h' : n = n') : Ending.returned (.agg #[.string t, .int .i64 n]) = .returned (.agg #[.string t', .int .i64 n']) := by rw [h, h']

theorem spec_Flush (t : ByteArray) (n : Int) (w : World) :
    Calls Try.prog 16 #[.agg #[.string t, .int .i64 n]] w fun e w' => e = .returned (.agg #[.string t, .int .i64 (flN t n)]) ∧ Below w.heap.size w w' := by
  go_enter Try.func16, Try.ntmps16
  go_wp2_with (go_at_call 13; refine (spec_JournalOk _ _ _).mono ?_; rintro e w' ⟨rfl, hb⟩; obtain ⟨X, rfl⟩ := hb.ext; clear hb)
  · refine bodyPost_ret (by simp [results, Try.results16, go_sem]; rfl) rfl ?_
    exact ⟨ret_jour rfl (flN_t (by assumption)), (by repeat (first | exact Below.refl _ _ | assumption | apply Below.drew | apply Below.ofAlloc | apply Below.ofExt | (refine Below.setCell ?_ (by first | exact Nat.le_refl _ | (simp [go_sem]; done) | (simp [go_sem]; omega)) _)))⟩
  · refine bodyPost_ret (by simp [results, Try.results16, go_sem]; rfl) rfl ?_
    exact ⟨ret_jour rfl (flN_f (by assumption)), (by repeat (first | exact Below.refl _ _ | assumption | apply Below.drew | apply Below.ofAlloc | apply Below.ofExt | (refine Below.setCell ?_ (by first | exact Nat.le_refl _ | (simp [go_sem]; done) | (simp [go_sem]; omega)) _)))⟩

theorem impl_Flush (t : ByteArray) (n : Int) (w : World) :
    Calls Try.prog 17 #[.agg #[.string t, .int .i64 n]] w fun e w' => e = .returned (.agg #[.string t, .int .i64 (flN t n)]) ∧ Below w.heap.size w w' := by
  go_enter Try.func17, Try.ntmps17
  go_wp2_with (go_at_call 15; refine (impl_JournalOk _ _ _).mono ?_; rintro e w' ⟨rfl, hb⟩; obtain ⟨X, rfl⟩ := hb.ext; clear hb)
  · refine bodyPost_ret (by simp [results, Try.results17, go_sem]; rfl) rfl ?_
    exact ⟨ret_jour rfl (flN_t (by assumption)), (by repeat (first | exact Below.refl _ _ | assumption | apply Below.drew | apply Below.ofAlloc | apply Below.ofExt | (refine Below.setCell ?_ (by first | exact Nat.le_refl _ | (simp [go_sem]; done) | (simp [go_sem]; omega)) _)))⟩
  · refine bodyPost_ret (by simp [results, Try.results17, go_sem]; rfl) rfl ?_
    exact ⟨ret_jour rfl (flN_f (by assumption)), (by repeat (first | exact Below.refl _ _ | assumption | apply Below.drew | apply Below.ofAlloc | apply Below.ofExt | (refine Below.setCell ?_ (by first | exact Nat.le_refl _ | (simp [go_sem]; done) | (simp [go_sem]; omega)) _)))⟩

theorem laws_eqJournal (t : ByteArray) (n : Int) (t' : ByteArray) (n' : Int) (w : World) :
    Calls Try.prog 18 #[.agg #[.string t, .int .i64 n], .agg #[.string t', .int .i64 n']] w fun e w' => e = .returned (.bool (decide (t = t') && decide (n = n'))) ∧ Below w.heap.size w w' := by
  go_enter Try.func18, Try.ntmps18
  go_wp2
  all_goals go_ret
  all_goals refine ⟨ret_bool ?_, (by repeat (first | exact Below.refl _ _ | assumption | apply Below.drew | apply Below.ofAlloc | apply Below.ofExt | (refine Below.setCell ?_ (by first | exact Nat.le_refl _ | (simp [go_sem]; done) | (simp [go_sem]; omega)) _)))⟩
  all_goals simp_all [beq_str]

def atJ (t : ByteArray) (n : Int) (s : ByteArray) : Bool := jOk t n && decide ((t.size : Int) + s.size ≤ 20000)
def adT (t : ByteArray) (n : Int) (s : ByteArray) : ByteArray := if atJ t n s then t ++ s else t
theorem jOk_le {t : ByteArray} {n : Int} (h : jOk t n = true) : (t.size : Int) ≤ 20000 := by simp [jOk] at h; omega
theorem atJ_t {t : ByteArray} {n : Int} {s : ByteArray} (h : jOk t n = true) (g : (t.size : Int) + s.size ≤ 20000) : true = atJ t n s := by simp [atJ, h, g]
theorem atJ_f {t : ByteArray} {n : Int} {s : ByteArray} (g : ¬ (t.size : Int) + s.size ≤ 20000) : false = atJ t n s := by simp [atJ, g]
theorem atJ_n {t : ByteArray} {n : Int} {s : ByteArray} (h : jOk t n = false) : false = atJ t n s := by simp [atJ, h]
theorem adT_t {t : ByteArray} {n : Int} {s : ByteArray} (h : jOk t n = true) (g : (t.size : Int) + s.size ≤ 20000) : t ++ s = adT t n s := by simp [adT, atJ, h, g]
theorem adT_f {t : ByteArray} {n : Int} {s : ByteArray} (h : false = atJ t n s) : t = adT t n s := by simp [adT, ← h]
theorem ret_add {t t' : ByteArray} {n : Int} {b b' : Bool} (h : t = t') (h' : b = b') : Ending.returned (.tuple #[.agg #[.string t, .int .i64 n], .bool b]) = .returned (.tuple #[.agg #[.string t', .int .i64 n], .bool b']) := by rw [h, h']

theorem spec_AddText (t : ByteArray) (n : Int) (s : ByteArray) (w : World) (hs : s.size ≤ 1048576) :
    Calls Try.prog 19 #[.agg #[.string t, .int .i64 n], .string s] w fun e w' => e = .returned (.tuple #[.agg #[.string (adT t n s), .int .i64 n], .bool (atJ t n s)]) ∧ Below w.heap.size w w' := by
  go_enter Try.func19, Try.ntmps19
  by_cases hj : jOk t n = true
  · have hl : (t.size : Int) ≤ 20000 := jOk_le hj
    by_cases hg : (t.size : Int) + s.size ≤ 20000
    · have hg' : (s.size : Int) ≤ 20000 - t.size := by omega
      have H := ret_add (adT_t hj hg) (n := n) (atJ_t hj hg)
      go_wp2_with (go_at_call 13; refine (spec_JournalOk _ _ _).mono ?_; rintro e w' ⟨rfl, hb⟩; obtain ⟨X, rfl⟩ := hb.ext; clear hb)
      refine bodyPost_ret (by simp [results, Try.results19, go_sem]; rfl) rfl ?_
      exact ⟨H, (by repeat (first | exact Below.refl _ _ | assumption | apply Below.drew | apply Below.ofAlloc | apply Below.ofExt | (refine Below.setCell ?_ (by first | exact Nat.le_refl _ | (simp [go_sem]; done) | (simp [go_sem]; omega)) _)))⟩
    · have hg' : (20000 : Int) - t.size < s.size := by omega
      have hg2 : (20000 : Int) < t.size + s.size := by omega
      have H := ret_add (adT_f (n := n) (atJ_f hg)) (n := n) (atJ_f (n := n) hg)
      clear hg
      go_wp2_with (go_at_call 13; refine (spec_JournalOk _ _ _).mono ?_; rintro e w' ⟨rfl, hb⟩; obtain ⟨X, rfl⟩ := hb.ext; clear hb)
      refine bodyPost_ret (by simp [results, Try.results19, go_sem]; rfl) rfl ?_
      exact ⟨H, (by repeat (first | exact Below.refl _ _ | assumption | apply Below.drew | apply Below.ofAlloc | apply Below.ofExt | (refine Below.setCell ?_ (by first | exact Nat.le_refl _ | (simp [go_sem]; done) | (simp [go_sem]; omega)) _)))⟩
  · have hj' : jOk t n = false := by simpa using hj
    have H := ret_add (adT_f (atJ_n (s := s) hj')) (n := n) (atJ_n (s := s) hj')
    clear hj
    go_wp2_with (go_at_call 13; refine (spec_JournalOk _ _ _).mono ?_; rintro e w' ⟨rfl, hb⟩; obtain ⟨X, rfl⟩ := hb.ext; clear hb)
    refine bodyPost_ret (by simp [results, Try.results19, go_sem]; rfl) rfl ?_
    exact ⟨H, (by repeat (first | exact Below.refl _ _ | assumption | apply Below.drew | apply Below.ofAlloc | apply Below.ofExt | (refine Below.setCell ?_ (by first | exact Nat.le_refl _ | (simp [go_sem]; done) | (simp [go_sem]; omega)) _)))⟩

theorem impl_AddText (t : ByteArray) (n : Int) (s : ByteArray) (w : World) (hs : s.size ≤ 1048576) :
    Calls Try.prog 20 #[.agg #[.string t, .int .i64 n], .string s] w fun e w' => e = .returned (.tuple #[.agg #[.string (adT t n s), .int .i64 n], .bool (atJ t n s)]) ∧ Below w.heap.size w w' := by
  go_enter Try.func20, Try.ntmps20
  by_cases hj : jOk t n = true
  · have hl : (t.size : Int) ≤ 20000 := jOk_le hj
    by_cases hg : (t.size : Int) + s.size ≤ 20000
    · have hg' : (s.size : Int) ≤ 20000 - t.size := by omega
      have H := ret_add (adT_t hj hg) (n := n) (atJ_t hj hg)
      go_wp2_with (go_at_call 15; refine (impl_JournalOk _ _ _).mono ?_; rintro e w' ⟨rfl, hb⟩; obtain ⟨X, rfl⟩ := hb.ext; clear hb)
      refine bodyPost_ret (by simp [results, Try.results20, go_sem]; rfl) rfl ?_
      exact ⟨H, (by repeat (first | exact Below.refl _ _ | assumption | apply Below.drew | apply Below.ofAlloc | apply Below.ofExt | (refine Below.setCell ?_ (by first | exact Nat.le_refl _ | (simp [go_sem]; done) | (simp [go_sem]; omega)) _)))⟩
    · have hg' : (20000 : Int) - t.size < s.size := by omega
      have hg2 : (20000 : Int) < t.size + s.size := by omega
      have H := ret_add (adT_f (n := n) (atJ_f hg)) (n := n) (atJ_f (n := n) hg)
      clear hg
      go_wp2_with (go_at_call 15; refine (impl_JournalOk _ _ _).mono ?_; rintro e w' ⟨rfl, hb⟩; obtain ⟨X, rfl⟩ := hb.ext; clear hb)
      refine bodyPost_ret (by simp [results, Try.results20, go_sem]; rfl) rfl ?_
      exact ⟨H, (by repeat (first | exact Below.refl _ _ | assumption | apply Below.drew | apply Below.ofAlloc | apply Below.ofExt | (refine Below.setCell ?_ (by first | exact Nat.le_refl _ | (simp [go_sem]; done) | (simp [go_sem]; omega)) _)))⟩
  · have hj' : jOk t n = false := by simpa using hj
    have H := ret_add (adT_f (atJ_n (s := s) hj')) (n := n) (atJ_n (s := s) hj')
    clear hj
    go_wp2_with (go_at_call 15; refine (impl_JournalOk _ _ _).mono ?_; rintro e w' ⟨rfl, hb⟩; obtain ⟨X, rfl⟩ := hb.ext; clear hb)
    refine bodyPost_ret (by simp [results, Try.results20, go_sem]; rfl) rfl ?_
    exact ⟨H, (by repeat (first | exact Below.refl _ _ | assumption | apply Below.drew | apply Below.ofAlloc | apply Below.ofExt | (refine Below.setCell ?_ (by first | exact Nat.le_refl _ | (simp [go_sem]; done) | (simp [go_sem]; omega)) _)))⟩

def bro (n a b : Int) : Int := max a (min n b)
theorem spec_Brought (n a b : Int) (w : World) :
    Calls Try.prog 30 #[.int .i64 n, .int .i64 a, .int .i64 b] w fun e w' => e = .returned (.int .i64 (bro n a b)) ∧ w = w' := by
  go_enter Try.func30, Try.ntmps30
  go_wp2
  all_goals go_ret
  all_goals exact ⟨ret_int (by unfold bro; omega), rfl⟩
theorem impl_Brought (n a b : Int) (w : World) :
    Calls Try.prog 31 #[.int .i64 n, .int .i64 a, .int .i64 b] w fun e w' => e = .returned (.int .i64 (bro n a b)) ∧ w = w' := by
  go_enter Try.func31, Try.ntmps31
  go_wp2
  all_goals go_ret
  all_goals exact ⟨ret_int (by unfold bro; omega), rfl⟩
end Go.Proofs.Ytnacopiampdghaa
