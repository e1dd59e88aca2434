/- The laws on the journal: for every journal, of whatever size, the law returns true and leaves the memory as it was. No condition. -/
import Derived.Test.YtnacopiampdghaaFall
set_option linter.unusedVariables false
namespace Go.Proofs.Ytnacopiampdghaa
open Go.ChangeShapes Go.WideShapes Go.ChangeAt Go.RowKit

theorem sz_ok (t : ByteArray) (n left : Int) (w : World) (h1 : left ≤ 1048576) (hs : (t.size : Int) ≤ left) :
    Calls Try.prog 12 #[.agg #[.string t, .int .i64 n], .int .i64 left] w fun e w' => e = .returned (.int .i64 (left - t.size)) ∧ Below w.heap.size w w' :=
  (laws_szJournal t n left w (by unfold maxLen; omega) (by omega) h1).mono fun e w' ⟨h1, h2⟩ => ⟨by rw [h1, if_neg (by omega)], h2⟩
theorem sz_big (t : ByteArray) (n left : Int) (w : World) (hm : t.size ≤ maxLen) (h0 : 0 ≤ left) (h1 : left ≤ 1048576) (hs : left < t.size) :
    Calls Try.prog 12 #[.agg #[.string t, .int .i64 n], .int .i64 left] w fun e w' => e = .returned (.int .i64 (-1)) ∧ Below w.heap.size w w' :=
  (laws_szJournal t n left w hm h0 h1).mono fun e w' ⟨h1, h2⟩ => ⟨by rw [h1, if_pos (by omega)], h2⟩
theorem eq_same (t : ByteArray) (n : Int) (w : World) :
    Calls Try.prog 18 #[.agg #[.string t, .int .i64 n], .agg #[.string t, .int .i64 n]] w fun e w' => e = .returned (.bool true) ∧ Below w.heap.size w w' :=
  (laws_eqJournal t n t n w).mono fun e w' ⟨h1, h2⟩ => ⟨by rw [h1]; simp, h2⟩

theorem law_JournalOk (t : ByteArray) (n : Int) (w : World) (hm : t.size ≤ maxLen) :
    Calls Try.prog 4 #[.agg #[.string t, .int .i64 n]] w (Yes w) := by
  by_cases hs : t.size ≤ 1048576
  · go_enter Try.func4, Try.ntmps4
    go_wp2_with (first | (go_at_call 12; refine (sz_ok _ _ _ _ (by omega) (by omega)).mono ?_; rintro e w' ⟨rfl, hb⟩; obtain ⟨X, rfl⟩ := hb.ext; clear hb) | (go_at_call 14; refine (laws_toJournal _ _ _).mono ?_; rintro e w' ⟨rfl, hb⟩; obtain ⟨X, rfl⟩ := hb.ext; clear hb) | (go_at_call 13; refine (spec_JournalOk _ _ _).mono ?_; rintro e w' ⟨rfl, hb⟩; obtain ⟨X, rfl⟩ := hb.ext; clear hb) | (go_at_call 15; refine (impl_JournalOk _ _ _).mono ?_; rintro e w' ⟨rfl, hb⟩; obtain ⟨X, rfl⟩ := hb.ext; clear hb))
    all_goals go_ret
    all_goals exact ⟨rfl, (by repeat (first | with_reducible exact Below.refl _ _ | with_reducible apply Below.ofExt | with_reducible apply Below.ofAlloc | with_reducible apply Below.drew | with_reducible assumption | (with_reducible refine Below.setCell ?_ (by first | exact Nat.le_refl _ | (simp [go_sem]; done) | (simp [go_sem]; omega)) _)))⟩
  · have hs' : 1048576 < t.size := by omega
    go_enter Try.func4, Try.ntmps4
    go_wp2_with (go_at_call 12; refine (sz_big _ _ _ _ hm (by omega) (by omega) (by omega)).mono ?_; rintro e w' ⟨rfl, hb⟩; obtain ⟨X, rfl⟩ := hb.ext; clear hb)
    all_goals go_ret
    all_goals exact ⟨rfl, (by repeat (first | with_reducible exact Below.refl _ _ | with_reducible apply Below.ofExt | with_reducible apply Below.ofAlloc | with_reducible apply Below.drew | with_reducible assumption | (with_reducible refine Below.setCell ?_ (by first | exact Nat.le_refl _ | (simp [go_sem]; done) | (simp [go_sem]; omega)) _)))⟩

theorem law_Flush (t : ByteArray) (n : Int) (w : World) (hm : t.size ≤ maxLen) :
    Calls Try.prog 5 #[.agg #[.string t, .int .i64 n]] w (Yes w) := by
  by_cases hs : t.size ≤ 1048576
  · go_enter Try.func5, Try.ntmps5
    go_wp2_with (first | (go_at_call 12; refine (sz_ok _ _ _ _ (by omega) (by omega)).mono ?_; rintro e w' ⟨rfl, hb⟩; obtain ⟨X, rfl⟩ := hb.ext; clear hb) | (go_at_call 14; refine (laws_toJournal _ _ _).mono ?_; rintro e w' ⟨rfl, hb⟩; obtain ⟨X, rfl⟩ := hb.ext; clear hb) | (go_at_call 16; refine (spec_Flush _ _ _).mono ?_; rintro e w' ⟨rfl, hb⟩; obtain ⟨X, rfl⟩ := hb.ext; clear hb) | (go_at_call 17; refine (impl_Flush _ _ _).mono ?_; rintro e w' ⟨rfl, hb⟩; obtain ⟨X, rfl⟩ := hb.ext; clear hb) | (go_at_call 18; refine (eq_same _ _ _).mono ?_; rintro e w' ⟨rfl, hb⟩; obtain ⟨X, rfl⟩ := hb.ext; clear hb))
    all_goals go_ret
    all_goals exact ⟨rfl, (by repeat (first | with_reducible exact Below.refl _ _ | with_reducible apply Below.ofExt | with_reducible apply Below.ofAlloc | with_reducible apply Below.drew | with_reducible assumption | (with_reducible refine Below.setCell ?_ (by first | exact Nat.le_refl _ | (simp [go_sem]; done) | (simp [go_sem]; omega)) _)))⟩
  · have hs' : 1048576 < t.size := by omega
    go_enter Try.func5, Try.ntmps5
    go_wp2_with (go_at_call 12; refine (sz_big _ _ _ _ hm (by omega) (by omega) (by omega)).mono ?_; rintro e w' ⟨rfl, hb⟩; obtain ⟨X, rfl⟩ := hb.ext; clear hb)
    all_goals go_ret
    all_goals exact ⟨rfl, (by repeat (first | with_reducible exact Below.refl _ _ | with_reducible apply Below.ofExt | with_reducible apply Below.ofAlloc | with_reducible apply Below.drew | with_reducible assumption | (with_reducible refine Below.setCell ?_ (by first | exact Nat.le_refl _ | (simp [go_sem]; done) | (simp [go_sem]; omega)) _)))⟩

theorem law_FallJournal (t : ByteArray) (n : Int) (k : Int) (w : World) (hm : t.size ≤ maxLen) :
    Calls Try.prog 7 #[.agg #[.string t, .int .i64 n], .int .i64 k] w (Yes w) := by
  by_cases hs : t.size ≤ 1048576
  · go_enter Try.func7, Try.ntmps7
    go_wp2_with (first | (go_at_call 12; refine (sz_ok _ _ _ _ (by omega) (by omega)).mono ?_; rintro e w' ⟨rfl, hb⟩; obtain ⟨X, rfl⟩ := hb.ext; clear hb) | (go_at_call 14; refine (laws_toJournal _ _ _).mono ?_; rintro e w' ⟨rfl, hb⟩; obtain ⟨X, rfl⟩ := hb.ext; clear hb) | (go_at_call 21; refine (spec_FallJournal _ _ _ _ hs).mono ?_; rintro e w' ⟨rfl, hb⟩; obtain ⟨X, rfl⟩ := hb.ext; clear hb) | (go_at_call 22; refine (impl_FallJournal _ _ _ _ hs).mono ?_; rintro e w' ⟨rfl, hb⟩; obtain ⟨X, rfl⟩ := hb.ext; clear hb) | (go_at_call 18; refine (eq_same _ _ _).mono ?_; rintro e w' ⟨rfl, hb⟩; obtain ⟨X, rfl⟩ := hb.ext; clear hb))
    all_goals go_ret
    all_goals exact ⟨rfl, (by repeat (first | with_reducible exact Below.refl _ _ | with_reducible apply Below.ofExt | with_reducible apply Below.ofAlloc | with_reducible apply Below.drew | with_reducible assumption | (with_reducible refine Below.setCell ?_ (by first | exact Nat.le_refl _ | (simp [go_sem]; done) | (simp [go_sem]; omega)) _)))⟩
  · have hs' : 1048576 < t.size := by omega
    go_enter Try.func7, Try.ntmps7
    go_wp2_with (go_at_call 12; refine (sz_big _ _ _ _ hm (by omega) (by omega) (by omega)).mono ?_; rintro e w' ⟨rfl, hb⟩; obtain ⟨X, rfl⟩ := hb.ext; clear hb)
    all_goals go_ret
    all_goals exact ⟨rfl, (by repeat (first | with_reducible exact Below.refl _ _ | with_reducible apply Below.ofExt | with_reducible apply Below.ofAlloc | with_reducible apply Below.drew | with_reducible assumption | (with_reducible refine Below.setCell ?_ (by first | exact Nat.le_refl _ | (simp [go_sem]; done) | (simp [go_sem]; omega)) _)))⟩

theorem law_AddText (t : ByteArray) (n : Int) (s : ByteArray) (w : World) (hm : t.size ≤ maxLen) (hm2 : s.size ≤ maxLen) :
    Calls Try.prog 6 #[.agg #[.string t, .int .i64 n], .string s] w (Yes w) := by
  unfold maxLen at hm2
  by_cases hx : s.size ≤ 1048576
  · skip
    by_cases hs : t.size ≤ 1048576
    · go_enter Try.func6, Try.ntmps6
      go_wp2_with (first | (go_at_call 12; refine (sz_ok _ _ _ _ (by omega) (by omega)).mono ?_; rintro e w' ⟨rfl, hb⟩; obtain ⟨X, rfl⟩ := hb.ext; clear hb) | (go_at_call 14; refine (laws_toJournal _ _ _).mono ?_; rintro e w' ⟨rfl, hb⟩; obtain ⟨X, rfl⟩ := hb.ext; clear hb) | (go_at_call 19; refine (spec_AddText _ _ _ _ hx).mono ?_; rintro e w' ⟨rfl, hb⟩; obtain ⟨X, rfl⟩ := hb.ext; clear hb) | (go_at_call 20; refine (impl_AddText _ _ _ _ hx).mono ?_; rintro e w' ⟨rfl, hb⟩; obtain ⟨X, rfl⟩ := hb.ext; clear hb) | (go_at_call 18; refine (eq_same _ _ _).mono ?_; rintro e w' ⟨rfl, hb⟩; obtain ⟨X, rfl⟩ := hb.ext; clear hb))
      all_goals go_ret
      all_goals exact ⟨rfl, (by repeat (first | with_reducible exact Below.refl _ _ | with_reducible apply Below.ofExt | with_reducible apply Below.ofAlloc | with_reducible apply Below.drew | with_reducible assumption | (with_reducible refine Below.setCell ?_ (by first | exact Nat.le_refl _ | (simp [go_sem]; done) | (simp [go_sem]; omega)) _)))⟩
    · have hs' : 1048576 < t.size := by omega
      go_enter Try.func6, Try.ntmps6
      go_wp2_with (go_at_call 12; refine (sz_big _ _ _ _ hm (by omega) (by omega) (by omega)).mono ?_; rintro e w' ⟨rfl, hb⟩; obtain ⟨X, rfl⟩ := hb.ext; clear hb)
      all_goals go_ret
      all_goals exact ⟨rfl, (by repeat (first | with_reducible exact Below.refl _ _ | with_reducible apply Below.ofExt | with_reducible apply Below.ofAlloc | with_reducible apply Below.drew | with_reducible assumption | (with_reducible refine Below.setCell ?_ (by first | exact Nat.le_refl _ | (simp [go_sem]; done) | (simp [go_sem]; omega)) _)))⟩
  · have hx' : 1048576 < s.size := by omega
    go_enter Try.func6, Try.ntmps6
    go_wp2
    all_goals go_ret
    all_goals exact ⟨rfl, (by repeat (first | with_reducible exact Below.refl _ _ | with_reducible apply Below.ofExt | with_reducible apply Below.ofAlloc | with_reducible apply Below.drew | with_reducible assumption | (with_reducible refine Below.setCell ?_ (by first | exact Nat.le_refl _ | (simp [go_sem]; done) | (simp [go_sem]; omega)) _)))⟩
end Go.Proofs.Ytnacopiampdghaa
