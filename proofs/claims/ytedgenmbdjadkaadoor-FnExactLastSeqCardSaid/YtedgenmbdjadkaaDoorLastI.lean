/- LastSeq: the reference's and the program's, and the law. Each condition stands in its theorem. -/
import Derived.Test.YtedgenmbdjadkaaDoorRecsI
set_option linter.unusedVariables false
set_option linter.unusedSimpArgs false
namespace Go.Proofs.YtedgenmbdjadkaaDoor
open Go.ChangeShapes Go.WideShapes Go.ChangeAt Go.RowKit

def lastI (s : ByteArray) (fr : Int) : Int := wrap64 (wrap64 (fr + (recsI s fr).1.length) - 1)
set_option maxRecDepth 100000 in
theorem spec_LastSeq (s : ByteArray) (fr : Int) (w : World) (hs : s.size ≤ 1048576) :
    Calls Tryd.prog 10 #[.string s, .int .i64 fr] w fun e w' => e = .returned (.int .i64 (lastI s fr)) ∧ Below w.heap.size w w' := by
  go_enter Tryd.func10, Tryd.ntmps10
  go_wp2_with fail
  (go_at_call 15; refine (spec_RecordsIn s fr _ hs).mono ?_; rintro e w1 ⟨v, sz, ls, hs, fps, rfl, ho, hr, hb⟩)
  obtain ⟨oa, oc, rfl⟩ := ho.form
  have hl : lastI s fr = wrap64 (wrap64 (fr + ls.length) - 1) := by unfold lastI; rw [hr]
  have HL := Lib.hid hl
  clear hl
  go_wp2
  refine bodyPost_ret (by simp [results, Tryd.results10, go_sem]; rfl) rfl ?_
  exact ⟨by rw [HL.out], hb⟩
set_option maxRecDepth 100000 in
theorem impl_LastSeq (s : ByteArray) (fr : Int) (w : World) (hg : Glob w) (hs : s.size ≤ 1048576) :
    Calls Tryd.prog 11 #[.string s, .int .i64 fr] w fun e w' => e = .returned (.int .i64 (lastI s fr)) ∧ Below w.heap.size w w' := by
  go_enter Tryd.func11, Tryd.ntmps11
  go_wp2_with fail
  (go_at_call 16; refine (impl_RecordsIn s fr _ hg hs).mono ?_; rintro e w1 ⟨v, sz, ls, hs, fps, rfl, ho, hr, hb⟩)
  obtain ⟨oa, oc, rfl⟩ := ho.form
  have hl : lastI s fr = wrap64 (wrap64 (fr + ls.length) - 1) := by unfold lastI; rw [hr]
  have HL := Lib.hid hl
  clear hl
  go_wp2
  refine bodyPost_ret (by simp [results, Tryd.results11, go_sem]; rfl) rfl ?_
  exact ⟨by rw [HL.out], hb⟩
set_option maxRecDepth 100000 in
theorem law_LastSeq (s : ByteArray) (fr : Int) (w : World) (hs : s.size ≤ 9223372036854775807) (hg : Glob w) : Calls Tryd.prog 4 #[.string s, .int .i64 fr] w (Yes w) := by
  unfold Yes
  have HG := Lib.hid hg
  clear hg
  go_enter Tryd.func4, Tryd.ntmps4
  by_cases hbig : (1048576 : Int) < s.size
  · go_wp2
    go_ret
    exact ⟨rfl, (by repeat (first | with_reducible exact Below.refl _ _ | with_reducible apply Below.ofExt | with_reducible apply Below.ofAlloc | with_reducible apply Below.drew | with_reducible apply Below.ofDrewN | with_reducible assumption | (with_reducible refine Below.setCell ?_ (by first | exact Nat.le_refl _ | (simp [go_sem]; done) | (simp [go_sem]; omega)) _)))⟩
  have hs2 : s.size ≤ 1048576 := by omega
  go_wp2_with fail
  (go_at_call 10; refine (spec_LastSeq s fr _ hs2).mono ?_; rintro e w1 ⟨rfl, hb⟩)
  go_wp2_with fail
  (go_at_call 11; refine (impl_LastSeq s fr _ (HG.out.below hb) hs2).mono ?_; rintro e w2 ⟨rfl, hb2⟩)
  have hbw := Below.then hb hb2
  have hne : (lastI s fr != lastI s fr) = false := by simp
  generalize lastI s fr = r at *
  go_wp2
  go_ret
  exact ⟨rfl, hbw⟩
end Go.Proofs.YtedgenmbdjadkaaDoor
