/- Contracts of the journal's functions, in the reference and in the program. Each condition stands in its theorem. -/
import Derived.Test.YtdehbojnflibhaaIn
set_option linter.unusedVariables false
namespace Go.Proofs.Ytdehbojnflibhaa
open Go.ChangeShapes Go.WideShapes Go.ChangeAt Go.RowKit

theorem inB_t {x a b : Int} (h : a ≤ x) : decide (x ≤ b) = inB x a b := by simp [inB, h]
theorem inB_f {x a b : Int} (h : x < a) : false = inB x a b := by simp [inB, show ¬ a ≤ x by omega]

def jOk (t : ByteArray) (n : Int) : Bool := decide ((t.size : Int) ≤ 20000) && inB n 0 t.size
theorem jOk_t {t : ByteArray} {n : Int} (h : (t.size : Int) ≤ 20000) : inB n 0 t.size = jOk t n := by simp [jOk, h]
theorem jOk_f {t : ByteArray} {n : Int} (h : 20000 < (t.size : Int)) : false = jOk t n := by simp [jOk, show ¬ (t.size : Int) ≤ 20000 by omega]

theorem spec_JournalOk (t : ByteArray) (n : Int) (w : World) :
    Calls Try.prog 9 #[.agg #[.string t, .int .i64 n]] w fun e w' => e = .returned (.bool (jOk t n)) ∧ Below w.heap.size w w' := by
  go_enter Try.func9, Try.ntmps9
  go_wp2_with (go_at_call 16; refine (spec_l01In _ _ _ _).mono ?_; rintro e w' ⟨rfl, rfl⟩)
  all_goals go_ret
  · exact ⟨ret_bool (jOk_t (by assumption)), (by repeat (first | with_reducible exact Below.refl _ _ | with_reducible apply Below.ofExt | with_reducible apply Below.ofAlloc | with_reducible apply Below.drew | with_reducible apply Below.ofDrewN | with_reducible assumption | (with_reducible refine Below.setCell ?_ (by first | exact Nat.le_refl _ | (simp [go_sem]; done) | (simp [go_sem]; omega)) _)))⟩
  · exact ⟨ret_bool (jOk_f (by assumption)), (by repeat (first | with_reducible exact Below.refl _ _ | with_reducible apply Below.ofExt | with_reducible apply Below.ofAlloc | with_reducible apply Below.drew | with_reducible apply Below.ofDrewN | with_reducible assumption | (with_reducible refine Below.setCell ?_ (by first | exact Nat.le_refl _ | (simp [go_sem]; done) | (simp [go_sem]; omega)) _)))⟩

theorem impl_JournalOk (t : ByteArray) (n : Int) (w : World) :
    Calls Try.prog 14 #[.agg #[.string t, .int .i64 n]] w fun e w' => e = .returned (.bool (jOk t n)) ∧ Below w.heap.size w w' := by
  go_enter Try.func14, Try.ntmps14
  go_wp2_with (go_at_call 21; refine (impl_within _ _ _ _).mono ?_; rintro e w' ⟨rfl, rfl⟩)
  all_goals go_ret
  · exact ⟨ret_bool (jOk_t (by assumption)), (by repeat (first | with_reducible exact Below.refl _ _ | with_reducible apply Below.ofExt | with_reducible apply Below.ofAlloc | with_reducible apply Below.drew | with_reducible apply Below.ofDrewN | with_reducible assumption | (with_reducible refine Below.setCell ?_ (by first | exact Nat.le_refl _ | (simp [go_sem]; done) | (simp [go_sem]; omega)) _)))⟩
  · exact ⟨ret_bool (jOk_f (by assumption)), (by repeat (first | with_reducible exact Below.refl _ _ | with_reducible apply Below.ofExt | with_reducible apply Below.ofAlloc | with_reducible apply Below.drew | with_reducible apply Below.ofDrewN | with_reducible assumption | (with_reducible refine Below.setCell ?_ (by first | exact Nat.le_refl _ | (simp [go_sem]; done) | (simp [go_sem]; omega)) _)))⟩

def flN (t : ByteArray) (n : Int) : Int := if jOk t n then t.size else n
theorem flN_t {t : ByteArray} {n : Int} (h : jOk t n = true) : (t.size : Int) = flN t n := by simp [flN, h]
theorem flN_f {t : ByteArray} {n : Int} (h : jOk t n = false) : n = flN t n := by simp [flN, h]
theorem ret_jour {t t' : ByteArray} {n n' : Int} (h : t = t') (h' : n = n') : Ending.returned (.agg #[.string t, .int .i64 n]) = .returned (.agg #[.string t', .int .i64 n']) := by rw [h, h']

theorem spec_Flush (t : ByteArray) (n : Int) (w : World) :
    Calls Try.prog 26 #[.agg #[.string t, .int .i64 n]] w fun e w' => e = .returned (.agg #[.string t, .int .i64 (flN t n)]) ∧ Below w.heap.size w w' := by
  go_enter Try.func26, Try.ntmps26
  go_wp2_with (go_at_call 9; refine (spec_JournalOk _ _ _).mono ?_; rintro e w' ⟨rfl, hb⟩; obtain ⟨X, rfl⟩ := hb.ext; clear hb)
  · refine bodyPost_ret (by simp [results, Try.results26, go_sem]; rfl) rfl ?_
    exact ⟨ret_jour rfl (flN_t (by assumption)), (by repeat (first | with_reducible exact Below.refl _ _ | with_reducible apply Below.ofExt | with_reducible apply Below.ofAlloc | with_reducible apply Below.drew | with_reducible apply Below.ofDrewN | with_reducible assumption | (with_reducible refine Below.setCell ?_ (by first | exact Nat.le_refl _ | (simp [go_sem]; done) | (simp [go_sem]; omega)) _)))⟩
  · refine bodyPost_ret (by simp [results, Try.results26, go_sem]; rfl) rfl ?_
    exact ⟨ret_jour rfl (flN_f (by assumption)), (by repeat (first | with_reducible exact Below.refl _ _ | with_reducible apply Below.ofExt | with_reducible apply Below.ofAlloc | with_reducible apply Below.drew | with_reducible apply Below.ofDrewN | with_reducible assumption | (with_reducible refine Below.setCell ?_ (by first | exact Nat.le_refl _ | (simp [go_sem]; done) | (simp [go_sem]; omega)) _)))⟩

theorem impl_Flush (t : ByteArray) (n : Int) (w : World) :
    Calls Try.prog 6 #[.agg #[.string t, .int .i64 n]] w fun e w' => e = .returned (.agg #[.string t, .int .i64 (flN t n)]) ∧ Below w.heap.size w w' := by
  go_enter Try.func6, Try.ntmps6
  go_wp2_with (go_at_call 14; refine (impl_JournalOk _ _ _).mono ?_; rintro e w' ⟨rfl, hb⟩; obtain ⟨X, rfl⟩ := hb.ext; clear hb)
  · refine bodyPost_ret (by simp [results, Try.results6, go_sem]; rfl) rfl ?_
    exact ⟨ret_jour rfl (flN_t (by assumption)), (by repeat (first | with_reducible exact Below.refl _ _ | with_reducible apply Below.ofExt | with_reducible apply Below.ofAlloc | with_reducible apply Below.drew | with_reducible apply Below.ofDrewN | with_reducible assumption | (with_reducible refine Below.setCell ?_ (by first | exact Nat.le_refl _ | (simp [go_sem]; done) | (simp [go_sem]; omega)) _)))⟩
  · refine bodyPost_ret (by simp [results, Try.results6, go_sem]; rfl) rfl ?_
    exact ⟨ret_jour rfl (flN_f (by assumption)), (by repeat (first | with_reducible exact Below.refl _ _ | with_reducible apply Below.ofExt | with_reducible apply Below.ofAlloc | with_reducible apply Below.drew | with_reducible apply Below.ofDrewN | with_reducible assumption | (with_reducible refine Below.setCell ?_ (by first | exact Nat.le_refl _ | (simp [go_sem]; done) | (simp [go_sem]; omega)) _)))⟩

def atJ (t : ByteArray) (n : Int) (s : ByteArray) : Bool := jOk t n && decide ((t.size : Int) + s.size ≤ 20000)
def adT (t : ByteArray) (n : Int) (s : ByteArray) : ByteArray := if atJ t n s then t ++ s else t
theorem jOk_le {t : ByteArray} {n : Int} (h : jOk t n = true) : (t.size : Int) ≤ 20000 := by simp [jOk] at h; omega
theorem atJ_t {t : ByteArray} {n : Int} {s : ByteArray} (h : jOk t n = true) (g : (t.size : Int) + s.size ≤ 20000) : true = atJ t n s := by simp [atJ, h, g]
theorem atJ_f {t : ByteArray} {n : Int} {s : ByteArray} (g : ¬ (t.size : Int) + s.size ≤ 20000) : false = atJ t n s := by simp [atJ, g]
theorem atJ_n {t : ByteArray} {n : Int} {s : ByteArray} (h : jOk t n = false) : false = atJ t n s := by simp [atJ, h]
theorem adT_t {t : ByteArray} {n : Int} {s : ByteArray} (h : jOk t n = true) (g : (t.size : Int) + s.size ≤ 20000) : t ++ s = adT t n s := by simp [adT, atJ, h, g]
theorem adT_f {t : ByteArray} {n : Int} {s : ByteArray} (h : false = atJ t n s) : t = adT t n s := by simp [adT, ← h]
theorem ret_add {t t' : ByteArray} {n : Int} {b b' : Bool} (h : t = t') (h' : b = b') : Ending.returned (.tuple #[.agg #[.string t, .int .i64 n], .bool b]) = .returned (.tuple #[.agg #[.string t', .int .i64 n], .bool b']) := by rw [h, h']

theorem spec_AddText (t : ByteArray) (n : Int) (s : ByteArray) (w : World) (hs : s.size ≤ 1048576) :
    Calls Try.prog 22 #[.agg #[.string t, .int .i64 n], .string s] w fun e w' => e = .returned (.tuple #[.agg #[.string (adT t n s), .int .i64 n], .bool (atJ t n s)]) ∧ Below w.heap.size w w' := by
  go_enter Try.func22, Try.ntmps22
  by_cases hj : jOk t n = true
  · have hl : (t.size : Int) ≤ 20000 := jOk_le hj
    by_cases hg : (t.size : Int) + s.size ≤ 20000
    · have hg' : (s.size : Int) ≤ 20000 - t.size := by omega
      have H := ret_add (adT_t hj hg) (n := n) (atJ_t hj hg)
      go_wp2_with (go_at_call 9; refine (spec_JournalOk _ _ _).mono ?_; rintro e w' ⟨rfl, hb⟩; obtain ⟨X, rfl⟩ := hb.ext; clear hb)
      refine bodyPost_ret (by simp [results, Try.results22, go_sem]; rfl) rfl ?_
      exact ⟨H, (by repeat (first | with_reducible exact Below.refl _ _ | with_reducible apply Below.ofExt | with_reducible apply Below.ofAlloc | with_reducible apply Below.drew | with_reducible apply Below.ofDrewN | with_reducible assumption | (with_reducible refine Below.setCell ?_ (by first | exact Nat.le_refl _ | (simp [go_sem]; done) | (simp [go_sem]; omega)) _)))⟩
    · have hg' : (20000 : Int) - t.size < s.size := by omega
      have hg2 : (20000 : Int) < t.size + s.size := by omega
      have H := ret_add (adT_f (n := n) (atJ_f hg)) (n := n) (atJ_f (n := n) hg)
      clear hg
      go_wp2_with (go_at_call 9; refine (spec_JournalOk _ _ _).mono ?_; rintro e w' ⟨rfl, hb⟩; obtain ⟨X, rfl⟩ := hb.ext; clear hb)
      refine bodyPost_ret (by simp [results, Try.results22, go_sem]; rfl) rfl ?_
      exact ⟨H, (by repeat (first | with_reducible exact Below.refl _ _ | with_reducible apply Below.ofExt | with_reducible apply Below.ofAlloc | with_reducible apply Below.drew | with_reducible apply Below.ofDrewN | with_reducible assumption | (with_reducible refine Below.setCell ?_ (by first | exact Nat.le_refl _ | (simp [go_sem]; done) | (simp [go_sem]; omega)) _)))⟩
  · have hj' : jOk t n = false := by simpa using hj
    have H := ret_add (adT_f (atJ_n (s := s) hj')) (n := n) (atJ_n (s := s) hj')
    clear hj
    go_wp2_with (go_at_call 9; refine (spec_JournalOk _ _ _).mono ?_; rintro e w' ⟨rfl, hb⟩; obtain ⟨X, rfl⟩ := hb.ext; clear hb)
    refine bodyPost_ret (by simp [results, Try.results22, go_sem]; rfl) rfl ?_
    exact ⟨H, (by repeat (first | with_reducible exact Below.refl _ _ | with_reducible apply Below.ofExt | with_reducible apply Below.ofAlloc | with_reducible apply Below.drew | with_reducible apply Below.ofDrewN | with_reducible assumption | (with_reducible refine Below.setCell ?_ (by first | exact Nat.le_refl _ | (simp [go_sem]; done) | (simp [go_sem]; omega)) _)))⟩

theorem impl_AddText (t : ByteArray) (n : Int) (s : ByteArray) (w : World) (hs : s.size ≤ 1048576) :
    Calls Try.prog 8 #[.agg #[.string t, .int .i64 n], .string s] w fun e w' => e = .returned (.tuple #[.agg #[.string (adT t n s), .int .i64 n], .bool (atJ t n s)]) ∧ Below w.heap.size w w' := by
  go_enter Try.func8, Try.ntmps8
  by_cases hj : jOk t n = true
  · have hl : (t.size : Int) ≤ 20000 := jOk_le hj
    by_cases hg : (t.size : Int) + s.size ≤ 20000
    · have hg' : (s.size : Int) ≤ 20000 - t.size := by omega
      have H := ret_add (adT_t hj hg) (n := n) (atJ_t hj hg)
      go_wp2_with (go_at_call 14; refine (impl_JournalOk _ _ _).mono ?_; rintro e w' ⟨rfl, hb⟩; obtain ⟨X, rfl⟩ := hb.ext; clear hb)
      refine bodyPost_ret (by simp [results, Try.results8, go_sem]; rfl) rfl ?_
      exact ⟨H, (by repeat (first | with_reducible exact Below.refl _ _ | with_reducible apply Below.ofExt | with_reducible apply Below.ofAlloc | with_reducible apply Below.drew | with_reducible apply Below.ofDrewN | with_reducible assumption | (with_reducible refine Below.setCell ?_ (by first | exact Nat.le_refl _ | (simp [go_sem]; done) | (simp [go_sem]; omega)) _)))⟩
    · have hg' : (20000 : Int) - t.size < s.size := by omega
      have hg2 : (20000 : Int) < t.size + s.size := by omega
      have H := ret_add (adT_f (n := n) (atJ_f hg)) (n := n) (atJ_f (n := n) hg)
      clear hg
      go_wp2_with (go_at_call 14; refine (impl_JournalOk _ _ _).mono ?_; rintro e w' ⟨rfl, hb⟩; obtain ⟨X, rfl⟩ := hb.ext; clear hb)
      refine bodyPost_ret (by simp [results, Try.results8, go_sem]; rfl) rfl ?_
      exact ⟨H, (by repeat (first | with_reducible exact Below.refl _ _ | with_reducible apply Below.ofExt | with_reducible apply Below.ofAlloc | with_reducible apply Below.drew | with_reducible apply Below.ofDrewN | with_reducible assumption | (with_reducible refine Below.setCell ?_ (by first | exact Nat.le_refl _ | (simp [go_sem]; done) | (simp [go_sem]; omega)) _)))⟩
  · have hj' : jOk t n = false := by simpa using hj
    have H := ret_add (adT_f (atJ_n (s := s) hj')) (n := n) (atJ_n (s := s) hj')
    clear hj
    go_wp2_with (go_at_call 14; refine (impl_JournalOk _ _ _).mono ?_; rintro e w' ⟨rfl, hb⟩; obtain ⟨X, rfl⟩ := hb.ext; clear hb)
    refine bodyPost_ret (by simp [results, Try.results8, go_sem]; rfl) rfl ?_
    exact ⟨H, (by repeat (first | with_reducible exact Below.refl _ _ | with_reducible apply Below.ofExt | with_reducible apply Below.ofAlloc | with_reducible apply Below.drew | with_reducible apply Below.ofDrewN | with_reducible assumption | (with_reducible refine Below.setCell ?_ (by first | exact Nat.le_refl _ | (simp [go_sem]; done) | (simp [go_sem]; omega)) _)))⟩

def bro (n a b : Int) : Int := max a (min n b)
theorem impl_Brought (n a b : Int) (w : World) :
    Calls Try.prog 15 #[.int .i64 n, .int .i64 a, .int .i64 b] w fun e w' => e = .returned (.int .i64 (bro n a b)) ∧ w = w' := by
  go_enter Try.func15, Try.ntmps15
  go_wp2
  all_goals go_ret
  all_goals exact ⟨ret_int (by unfold bro; omega), rfl⟩
end Go.Proofs.Ytdehbojnflibhaa
