/- Whether a log is one: the program's and the reference's. Each condition stands in its theorem. -/
import Derived.Test.YtdelkphahpbegaaIn
import Derived.Test.YtdelkphahpbegaaTJournal
set_option linter.unusedVariables false
set_option linter.unusedSimpArgs false
namespace Go.Proofs.Ytdelkphahpbegaa
open Go.ChangeShapes Go.WideShapes Go.ChangeAt Go.RowKit

def journalOk (j : JournalD) : Bool := decide ((j.text.size : Int) ≤ 20000) && inB j.sure 0 j.text.size
theorem spec_JournalOk (t : ByteArray) (n : Int) (w : World) (hz : t.size ≤ 9223372036854775807) :
    Calls Try.prog 43 #[.agg #[.string t, .int .i64 n]] w fun e w' => e = .returned (.bool (journalOk ⟨t, n⟩)) ∧ Below w.heap.size w w' := by
  by_cases h1 : (t.size : Int) ≤ 20000
  · have hq : journalOk ⟨t, n⟩ = inB n 0 t.size := by unfold journalOk; rw [decide_eq_true h1]; rfl
    rw [hq]
    clear hq
    go_enter Try.func43, Try.ntmps43
    go_wp2_with fail
    (go_at_call 41; refine (spec_l01In _ _ _ _).mono ?_; rintro e w' ⟨rfl, rfl⟩)
    go_wp2
    go_ret
    exact ⟨rfl, (by repeat (first | with_reducible exact Below.refl _ _ | with_reducible apply Below.ofExt | with_reducible apply Below.ofAlloc | with_reducible apply Below.drew | with_reducible apply Below.ofDrewN | with_reducible assumption | (with_reducible refine Below.setCell ?_ (by first | exact Nat.le_refl _ | (simp [go_sem]; done) | (simp [go_sem]; omega)) _)))⟩
  · have hq : journalOk ⟨t, n⟩ = false := by unfold journalOk; rw [decide_eq_false h1]; rfl
    rw [hq]
    clear hq
    go_enter Try.func43, Try.ntmps43
    go_wp2
    go_ret
    exact ⟨rfl, (by repeat (first | with_reducible exact Below.refl _ _ | with_reducible apply Below.ofExt | with_reducible apply Below.ofAlloc | with_reducible apply Below.drew | with_reducible apply Below.ofDrewN | with_reducible assumption | (with_reducible refine Below.setCell ?_ (by first | exact Nat.le_refl _ | (simp [go_sem]; done) | (simp [go_sem]; omega)) _)))⟩
theorem impl_JournalOk (t : ByteArray) (n : Int) (w : World) (hz : t.size ≤ 9223372036854775807) :
    Calls Try.prog 46 #[.agg #[.string t, .int .i64 n]] w fun e w' => e = .returned (.bool (journalOk ⟨t, n⟩)) ∧ Below w.heap.size w w' := by
  by_cases h1 : (t.size : Int) ≤ 20000
  · have hq : journalOk ⟨t, n⟩ = inB n 0 t.size := by unfold journalOk; rw [decide_eq_true h1]; rfl
    rw [hq]
    clear hq
    go_enter Try.func46, Try.ntmps46
    go_wp2_with fail
    (go_at_call 44; refine (impl_within _ _ _ _).mono ?_; rintro e w' ⟨rfl, rfl⟩)
    go_wp2
    go_ret
    exact ⟨rfl, (by repeat (first | with_reducible exact Below.refl _ _ | with_reducible apply Below.ofExt | with_reducible apply Below.ofAlloc | with_reducible apply Below.drew | with_reducible apply Below.ofDrewN | with_reducible assumption | (with_reducible refine Below.setCell ?_ (by first | exact Nat.le_refl _ | (simp [go_sem]; done) | (simp [go_sem]; omega)) _)))⟩
  · have hq : journalOk ⟨t, n⟩ = false := by unfold journalOk; rw [decide_eq_false h1]; rfl
    rw [hq]
    clear hq
    go_enter Try.func46, Try.ntmps46
    go_wp2
    go_ret
    exact ⟨rfl, (by repeat (first | with_reducible exact Below.refl _ _ | with_reducible apply Below.ofExt | with_reducible apply Below.ofAlloc | with_reducible apply Below.drew | with_reducible apply Below.ofDrewN | with_reducible assumption | (with_reducible refine Below.setCell ?_ (by first | exact Nat.le_refl _ | (simp [go_sem]; done) | (simp [go_sem]; omega)) _)))⟩
end Go.Proofs.Ytdelkphahpbegaa
