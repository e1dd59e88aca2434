/- The laws' measure, copy, comparison, marks of Journal and of its slices. Each condition stands in its theorem. -/
import Derived.Test.YtdelkphahpbegaaMark
set_option linter.unusedVariables false
set_option linter.unusedSimpArgs false
namespace Go.Proofs.Ytdelkphahpbegaa
open Go.ChangeShapes Go.WideShapes Go.ChangeAt Go.RowKit

structure JournalD where
  text : ByteArray
  sure : Int
def JournalD.row (d : JournalD) : List Value := [.string d.text, .int .i64 d.sure]
def JournalD.ok (d : JournalD) : Prop := d.text.size ≤ 9223372036854775807
def JournalD.wt (d : JournalD) : Nat := d.text.size
def vJournal : View JournalD := vRow JournalD.row 2 JournalD.ok (fun _ => rfl) (fun d u hu => by simp [JournalD.row] at hu; rcases hu with rfl | rfl <;> rfl)
def mkJournal (k : Int) : JournalD := ⟨mtext k, k + 1⟩
theorem mkJournal_ok (k : Int) (h : k ≤ 4294967280) : (mkJournal k).ok := mtext_size _ (by omega)
theorem marks_ok_Journal {k : Int} {n : Nat} (h : k + (2 * n : Nat) ≤ 4294967280) : ∀ d ∈ marks mkJournal 2 k n, d.ok := by
  intro d hd
  obtain ⟨i, hi, rfl⟩ := marks_mem hd
  exact mkJournal_ok _ (by omega)
theorem laws_szJournal (d : JournalD) (left : Int) (w : World) (hok : d.ok) (h0 : 0 ≤ left) (h1 : left ≤ 4294967296) :
    Calls Try.prog 25 #[.agg d.row.toArray, .int .i64 left] w fun e w' => e = .returned (.int .i64 (leftOf left d.wt)) ∧ Below w.heap.size w w' := by
  obtain ⟨f0, f1⟩ := d
  have z0 := hok
  unfold JournalD.ok at z0
  clear hok
  simp only at z0
  simp only [JournalD.row, JournalD.wt]
  have e0 : wrap64 (left - f0.size) = left - f0.size := IntWalk.wrap64_in _ (by omega)
  by_cases g0 : left - f0.size < 0
  · rw [leftOf_none (by omega)]
    go_enter Try.func25, Try.ntmps25
    go_wp2
    go_ret
    exact ⟨rfl, (by repeat (first | with_reducible exact Below.refl _ _ | with_reducible apply Below.ofExt | with_reducible apply Below.ofAlloc | with_reducible apply Below.drew | with_reducible apply Below.ofDrewN | with_reducible assumption | (with_reducible refine Below.setCell ?_ (by first | exact Nat.le_refl _ | (simp [go_sem]; done) | (simp [go_sem]; omega)) _)))⟩
  · skip
    rw [leftOf_pos (by omega)]
    go_enter Try.func25, Try.ntmps25
    go_wp2
    go_ret
    exact ⟨ret_int (by omega), (by repeat (first | with_reducible exact Below.refl _ _ | with_reducible apply Below.ofExt | with_reducible apply Below.ofAlloc | with_reducible apply Below.drew | with_reducible apply Below.ofDrewN | with_reducible assumption | (with_reducible refine Below.setCell ?_ (by first | exact Nat.le_refl _ | (simp [go_sem]; done) | (simp [go_sem]; omega)) _)))⟩
theorem laws_toJournal (x0 : ByteArray) (x1 : Int) (w : World) :
    Calls Try.prog 27 #[.agg #[.string x0, .int .i64 x1]] w fun e w' => e = .returned (.agg #[.string x0, .int .i64 x1]) ∧ Below w.heap.size w w' := by
  go_enter Try.func27, Try.ntmps27
  go_wp2
  refine bodyPost_ret (by simp [results, Try.results27, go_sem]; rfl) rfl ?_
  exact ⟨rfl, (by repeat (first | with_reducible exact Below.refl _ _ | with_reducible apply Below.ofExt | with_reducible apply Below.ofAlloc | with_reducible apply Below.drew | with_reducible apply Below.ofDrewN | with_reducible assumption | (with_reducible refine Below.setCell ?_ (by first | exact Nat.le_refl _ | (simp [go_sem]; done) | (simp [go_sem]; omega)) _)))⟩
theorem laws_eqJournal (x0 : ByteArray) (x1 : Int) (w : World) :
    Calls Try.prog 29 #[.agg #[.string x0, .int .i64 x1], .agg #[.string x0, .int .i64 x1]] w fun e w' => e = .returned (.bool true) ∧ Below w.heap.size w w' := by
  go_enter Try.func29, Try.ntmps29
  go_wp2
  go_ret
  exact ⟨rfl, (by repeat (first | with_reducible exact Below.refl _ _ | with_reducible apply Below.ofExt | with_reducible apply Below.ofAlloc | with_reducible apply Below.drew | with_reducible apply Below.ofDrewN | with_reducible assumption | (with_reducible refine Below.setCell ?_ (by first | exact Nat.le_refl _ | (simp [go_sem]; done) | (simp [go_sem]; omega)) _)))⟩
end Go.Proofs.Ytdelkphahpbegaa
