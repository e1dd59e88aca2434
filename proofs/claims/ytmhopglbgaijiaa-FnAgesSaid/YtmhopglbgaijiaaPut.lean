/- The spans of the reference: a text put into rising ones. Each condition stands in its theorem. -/
import Derived.Test.YtmhopglbgaijiaaRow
import Derived.Lib.Hide
set_option linter.unusedVariables false
namespace Go.Proofs.Ytmhopglbgaijiaa
open Go.ChangeShapes Go.WideShapes Go.ChangeAt Go.RowKit

def ltS (a b : ByteArray) : Bool := Op.bytesLess a.toList b.toList
/-- how many at the head are below x -/
def putAt (xs : List ByteArray) (x : ByteArray) : Nat := (xs.takeWhile (ltS · x)).length
def putS (xs : List ByteArray) (x : ByteArray) : List ByteArray := if xs[putAt xs x]? = some x then xs else xs.take (putAt xs x) ++ x :: xs.drop (putAt xs x)

theorem Try.elemStrs : Elem Try.prog 26 9 1 16 := Elem.of (.string ⟨#[]⟩) Try.underlying26 (by kernel_rfl) rfl (by decide)

theorem takeWhile_le {α : Type} (p : α → Bool) (l : List α) : (l.takeWhile p).length ≤ l.length := by
  induction l with
  | nil => simp
  | cons a l ih => simp only [List.takeWhile_cons]; split <;> simp <;> omega

theorem putAt_lt {xs : List ByteArray} {x : ByteArray} {k : Nat} (hk : k < putAt xs x) (h : k < xs.length) : ltS xs[k] x = true := by
  have h1 : (xs.takeWhile (ltS · x))[k]'hk = xs[k] := by
    have := List.takeWhile_prefix (ltS · x) (l := xs)
    exact List.IsPrefix.getElem this hk
  have h2 : ∀ (l : List ByteArray) (k : Nat) (h : k < (l.takeWhile (ltS · x)).length), ltS (l.takeWhile (ltS · x))[k] x = true := by
    intro l
    induction l with
    | nil => intro k h; simp at h
    | cons a l ih =>
      intro k h
      simp only [List.takeWhile_cons] at h ⊢
      split at h
      · rename_i ha
        simp only [ha, if_true]
        cases k with
        | zero => exact ha
        | succ k => exact ih k (by simpa using h)
      · simp at h
  have h3 := h2 xs k hk
  rw [h1] at h3
  exact h3
theorem putAt_ge {xs : List ByteArray} {x : ByteArray} (h : putAt xs x < xs.length) : ltS xs[putAt xs x] x = false := by
  have h2 : ∀ (l : List ByteArray) (h : (l.takeWhile (ltS · x)).length < l.length), ltS l[(l.takeWhile (ltS · x)).length] x = false := by
    intro l
    induction l with
    | nil => intro h; simp at h
    | cons a l ih =>
      intro h
      by_cases ha : ltS a x = true
      · simp only [List.takeWhile_cons, ha, if_true, List.length_cons] at h ⊢
        simpa using ih (by simpa using h)
      · have ha' : ltS a x = false := by simpa using ha
        simp only [List.takeWhile_cons, ha', Bool.false_eq_true, if_false, List.length_nil]
        exact ha'
  exact h2 xs h
theorem rd_cast {α : Type} {R : RowOf α} {w : World} {v : Value} {xs ys : List α} (h : RdL R w v xs) (e : ys = xs) : RdL R w v ys := by rw [e]; exact h

theorem spec_l02Put (v : Value) (xs : List ByteArray) (x : ByteArray) (w : World) (hs : RdL rStr w v xs) (hl : xs.length ≤ 4194304) :
    Calls Try.prog 73 #[v, .string x] w fun e w' => ∃ v', e = .returned v' ∧ RdL rStr w' v' (putS xs x) ∧ Below w.heap.size w w' := by
  obtain ⟨ao, cap, rfl, hc1, hc2, hnil, hcell⟩ := hs.shapeS
  have HN := Lib.hid hnil
  have HC := Lib.hid hcell
  have HS := Lib.hid hs
  clear hnil hcell hs
  have HM : Hid (cap ≤ maxLen) := hc2
  unfold maxLen at hc2
  have hp : putAt xs x ≤ xs.length := takeWhile_le (ltS · x) xs
  have hp0 : xs = [] → putAt xs x = 0 := fun e => by have h := hp; rw [e] at h; simpa [e] using h
  have HP0 := Lib.hid hp0
  clear hp0
  go_enter Try.func73, Try.ntmps73
  go_wp2
  go_loop [5] (fun i => ∃ k : Nat, k ≤ putAt xs x ∧ i = .int .i64 k) (fun i => xs.length - (intOf i).toNat)
  case atStart => exact ⟨0, Nat.zero_le _, rfl⟩
  case round =>
    obtain ⟨k, hk, rfl⟩ := hrel
    by_cases hlt : k < putAt xs x
    · obtain ⟨b, off, rfl, hbl, hcell⟩ := HC.out (fun e => by have h1 := HP0.out e; omega)
      have hkl : k < xs.length := by omega
      have hcc := hcell k hkl
      have hless : Op.bytesLess xs[k].toList x.toList = true := putAt_lt hlt hkl
      clear hcell
      go_wp2
      go_round
      case rel => exact ⟨k + 1, by omega, by go_num⟩
      case measure => simp [intOf]; omega
    · obtain rfl : k = putAt xs x := by omega
      by_cases hin : putAt xs x < xs.length
      · obtain ⟨b, off, rfl, hbl, hcell⟩ := HC.out (by intro e; simp [e] at hin)
        have hcc := hcell _ hin
        have hless : Op.bytesLess xs[putAt xs x].toList x.toList = false := putAt_ge hin
        by_cases heq : xs[putAt xs x] = x
        · have heq' : (xs[putAt xs x].toList == x.toList) = true := by rw [heq]; simp
          have H : Hid (putS xs x = xs) := by show putS xs x = xs; simp [putS, heq, hin]
          clear heq hcell
          go_wp2
          go_ret
          exact ⟨_, rfl, rd_cast HS.out H.out, Below.refl _ _⟩
        · have heq' : (xs[putAt xs x].toList == x.toList) = false := by rw [beq_str]; simpa using heq
          have H : Hid (putS xs x = xs.take (putAt xs x) ++ x :: xs.drop (putAt xs x)) := by show putS xs x = _; simp [putS, heq, hin]
          clear heq hcell
          have S1 := RdL.upto HS.out (putAt xs x) cap hp (by omega) HM.out
          have S3 := RdL.cut1 rfl HS.out (putAt xs x) xs.length (cap - putAt xs x) (Nat.le_refl _) (by omega) (by have := HM.out; omega)
          have hlk : (xs.take (putAt xs x)).length = putAt xs x := by simp; omega
          have hld : ((xs.drop (putAt xs x)).take (xs.length - putAt xs x)).length = xs.length - putAt xs x := by simp
          have HP := Lib.hid hlk
          have HQ := Lib.hid hld
          clear hlk hld
          generalize putAt xs x = k at *
          go_wp2_with (at_builtin; refine Stop.here ?_)
          refine wpList_appL rfl _ _ _ rfl Try.elemStrs (OwnL.empty rStr _ w) rfl (S1.alloc _) rfl (by rw [HP.out]; simp; omega) (by rw [HP.out]; unfold maxLen; simp; omega) (by simp) ?_
          intro v1 w1 hown1 hg1 _
          have hb1 : Below w.heap.size w w1 := Below.appL (by repeat (first | with_reducible exact Below.refl _ _ | with_reducible apply Below.ofExt | with_reducible apply Below.ofAlloc | with_reducible apply Below.drew | with_reducible apply Below.ofDrewN | with_reducible assumption | (with_reducible refine Below.setCell ?_ (by first | exact Nat.le_refl _ | (simp [go_sem]; done) | (simp [go_sem]; omega)) _))) hg1 (OwnL.empty rStr _ w)
          go_wp2_with (at_builtin; refine Stop.here ?_)
          refine wpList_appL rfl _ _ _ rfl Try.elemStrs (hown1.alloc _) rfl (RdL.one rStr w1 x _ rfl _) rfl (by simp only [List.nil_append, HP.out, List.length_singleton]; omega) (by simp only [List.nil_append, HP.out, List.length_singleton]; unfold maxLen; omega) (by have := hb1.size; simp; omega) ?_
          intro v2 w2 hown2 hg2 _
          have hb2 : Below w.heap.size w w2 := Below.appL (Below.ofAlloc hb1 _) hg2 (hown1.alloc _)
          clear hg1 hg2
          by_cases hcap : cap = k
          · omega
          go_wp2_with (at_builtin; refine Stop.here ?_)
          refine wpList_appL rfl _ _ _ rfl Try.elemStrs hown2 rfl (S3.below hb2) rfl (by simp only [List.nil_append, List.length_append, HP.out, HQ.out, List.length_singleton]; omega) (by simp only [List.nil_append, List.length_append, HP.out, HQ.out, List.length_singleton]; unfold maxLen; omega) hb2.size ?_
          intro v3 w3 hown3 hg3 _
          have hb3 : Below w.heap.size w w3 := Below.appL hb2 hg3 hown2
          go_wp2
          go_ret
          refine ⟨v3, rfl, rd_cast hown3.rd ?_, hb3⟩
          rw [H.out]
          simp [List.take_of_length_le]
      · have he : putAt xs x = xs.length := by omega
        have H : Hid (putS xs x = xs ++ [x]) := by show putS xs x = _; simp [putS, he]
        have hge : xs.length ≤ putAt xs x := by omega
        clear hin hk hlt
        have HE := Lib.hid he
        clear he
        rcases HS.out.cases with ⟨rfl, rfl, hl0, hx0⟩ | ⟨b, off, rfl, _, _, _⟩
        · subst hx0
          have hk0 : putAt [] x = 0 := rfl
          generalize putAt [] x = k at *
          subst hk0
          go_wp2_with (at_builtin; refine Stop.here ?_)
          refine wpList_appL rfl _ _ _ rfl Try.elemStrs (OwnL.empty rStr _ w) rfl (RdL.nil rStr _) rfl (by simp) (by simp) (by simp) ?_
          intro v1 w1 hown1 hg1 _
          have hb1 : Below w.heap.size w w1 := Below.appL (by repeat (first | with_reducible exact Below.refl _ _ | with_reducible apply Below.ofExt | with_reducible apply Below.ofAlloc | with_reducible apply Below.drew | with_reducible apply Below.ofDrewN | with_reducible assumption | (with_reducible refine Below.setCell ?_ (by first | exact Nat.le_refl _ | (simp [go_sem]; done) | (simp [go_sem]; omega)) _))) hg1 (OwnL.empty rStr _ w)
          go_wp2_with (at_builtin; refine Stop.here ?_)
          refine wpList_appL rfl _ _ _ rfl Try.elemStrs (hown1.alloc _) rfl (RdL.one rStr w1 x _ rfl _) rfl (by simp) (by simp; decide) (by have := hb1.size; simp; omega) ?_
          intro v2 w2 hown2 hg2 _
          have hb2 : Below w.heap.size w w2 := Below.appL (Below.ofAlloc hb1 _) hg2 (hown1.alloc _)
          clear hg1 hg2
          go_wp2_with (at_builtin; refine Stop.here ?_)
          refine wpList_appL rfl _ _ _ rfl Try.elemStrs hown2 rfl (RdL.nil rStr _) rfl (by simp) (by simp; decide) hb2.size ?_
          intro v3 w3 hown3 hg3 _
          have hb3 : Below w.heap.size w w3 := Below.appL hb2 hg3 hown2
          go_wp2
          go_ret
          refine ⟨v3, rfl, rd_cast hown3.rd ?_, hb3⟩
          rw [H.out]
          simp
        · have S1 := RdL.upto HS.out (putAt xs x) cap hp (by omega) HM.out
          have hlk : (xs.take (putAt xs x)).length = putAt xs x := by simp; omega
          have HP := Lib.hid hlk
          clear hlk
          generalize putAt xs x = k at *
          have hkc : k ≤ cap := by have := HE.out; omega
          go_wp2_with (at_builtin; refine Stop.here ?_)
          refine wpList_appL rfl _ _ _ rfl Try.elemStrs (OwnL.empty rStr _ w) rfl (S1.alloc _) rfl (by rw [HP.out]; simp; omega) (by rw [HP.out]; unfold maxLen; simp; omega) (by simp) ?_
          intro v1 w1 hown1 hg1 _
          have hb1 : Below w.heap.size w w1 := Below.appL (by repeat (first | with_reducible exact Below.refl _ _ | with_reducible apply Below.ofExt | with_reducible apply Below.ofAlloc | with_reducible apply Below.drew | with_reducible apply Below.ofDrewN | with_reducible assumption | (with_reducible refine Below.setCell ?_ (by first | exact Nat.le_refl _ | (simp [go_sem]; done) | (simp [go_sem]; omega)) _))) hg1 (OwnL.empty rStr _ w)
          go_wp2_with (at_builtin; refine Stop.here ?_)
          refine wpList_appL rfl _ _ _ rfl Try.elemStrs (hown1.alloc _) rfl (RdL.one rStr w1 x _ rfl _) rfl (by simp only [List.nil_append, HP.out, List.length_singleton]; omega) (by simp only [List.nil_append, HP.out, List.length_singleton]; unfold maxLen; omega) (by have := hb1.size; simp; omega) ?_
          intro v2 w2 hown2 hg2 _
          have hb2 : Below w.heap.size w w2 := Below.appL (Below.ofAlloc hb1 _) hg2 (hown1.alloc _)
          clear hg1 hg2
          go_wp2_with (at_builtin; refine Stop.here ?_)
          all_goals
            refine wpList_appL rfl _ _ _ rfl Try.elemStrs hown2 rfl (RdL.zero rStr w2 _ _ _ (by have := HM.out; omega)) rfl (by simp only [List.nil_append, List.length_append, HP.out, List.length_singleton, List.length_nil]; omega) (by simp only [List.nil_append, List.length_append, HP.out, List.length_singleton, List.length_nil]; unfold maxLen; omega) hb2.size ?_
            intro v3 w3 hown3 hg3 _
            have hb3 : Below w.heap.size w w3 := Below.appL hb2 hg3 hown2
            go_wp2
            go_ret
            refine ⟨v3, rfl, rd_cast hown3.rd ?_, hb3⟩
            rw [H.out, HE.out]
            simp
end Go.Proofs.Ytmhopglbgaijiaa
