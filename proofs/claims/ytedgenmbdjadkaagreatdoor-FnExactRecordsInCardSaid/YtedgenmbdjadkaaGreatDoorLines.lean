/- The lines of a text, in plain words; the reference's LinesIn. Each condition stands in its theorem. -/
import Derived.Test.YtedgenmbdjadkaaGreatDoorReadS
set_option linter.unusedVariables false
set_option linter.unusedSimpArgs false
namespace Go.Proofs.YtedgenmbdjadkaaGreatDoor
open Go.ChangeShapes Go.WideShapes Go.ChangeAt Go.RowKit

/-- the lines of a text: each ends with byte 10 -/
def linesL (l : List UInt8) : List (List UInt8) := (splitL 10 l).dropLast.map (· ++ [10])
theorem linesL_none {l : List UInt8} (h : (10 : UInt8) ∉ l) : linesL l = [] := by
  unfold linesL
  rw [splitL_none 10 l h]
  rfl
theorem linesL_app {a : List UInt8} (l : List UInt8) (h : (10 : UInt8) ∉ a) : linesL (a ++ 10 :: l) = (a ++ [10]) :: linesL l := by
  unfold linesL
  rw [splitL_app 10 a l h]
  cases hh : splitL 10 l with
  | nil => exact absurd hh (splitL_ne 10 l)
  | cons b c => simp [List.dropLast]
theorem linesL_len (l : List UInt8) : (linesL l).length ≤ l.length := by
  unfold linesL
  rw [List.length_map, List.length_dropLast]
  have := splitL_length 10 l
  omega
theorem linesL_mem {l w : List UInt8} (h : w ∈ linesL l) : w.length ≤ l.length + 1 := by
  unfold linesL at h
  obtain ⟨a, ha, rfl⟩ := List.mem_map.1 h
  have := splitL_mem 10 l a (List.dropLast_subset _ ha)
  simp
  omega
def LinesTo (L : List UInt8) (xs : List ByteArray) (b i : Nat) : Prop := i ≤ L.length ∧ b ≤ i ∧ (10 : UInt8) ∉ (L.drop b).take (i - b) ∧ xs.map (·.data.toList) ++ linesL (L.drop b) = linesL L
theorem LinesTo.nil (L : List UInt8) : LinesTo L [] 0 0 := ⟨by omega, by omega, by simp, by simp⟩
theorem LinesTo.same {L : List UInt8} {xs : List ByteArray} {b i : Nat} (h : LinesTo L xs b i) (hi : i < L.length) (hc : L[i] ≠ 10) : LinesTo L xs b (i + 1) := by
  obtain ⟨h1, h2, h3, h4⟩ := h
  refine ⟨by omega, by omega, ?_, h4⟩
  rw [take_drop_step L b i h2 hi]
  intro hm
  rcases List.mem_append.1 hm with hm | hm
  · exact h3 hm
  · exact hc (List.mem_singleton.1 hm).symm
theorem LinesTo.cut {L : List UInt8} {xs : List ByteArray} {b i : Nat} (h : LinesTo L xs b i) (hi : i < L.length) (hc : L[i] = 10) {s : ByteArray} (hs : s.data.toList = (L.drop b).take (i + 1 - b)) : LinesTo L (xs ++ [s]) (i + 1) (i + 1) := by
  obtain ⟨h1, h2, h3, h4⟩ := h
  refine ⟨by omega, by omega, by simp, ?_⟩
  have e : L.drop b = (L.drop b).take (i - b) ++ 10 :: L.drop (i + 1) := by
    conv => lhs; rw [← List.take_append_drop (i - b) (L.drop b)]
    rw [List.drop_drop, show b + (i - b) = i by omega, List.drop_eq_getElem_cons hi, hc]
  rw [e, linesL_app _ h3] at h4
  rw [take_drop_step L b i h2 hi, hc] at hs
  rw [List.map_append, List.append_assoc, ← h4, ← hs]
  rfl
theorem LinesTo.all {L : List UInt8} {xs : List ByteArray} {b i : Nat} (h : LinesTo L xs b i) (hi : L.length ≤ i) : xs.map (·.data.toList) = linesL L := by
  obtain ⟨h1, h2, h3, h4⟩ := h
  rw [List.take_of_length_le (by rw [List.length_drop]; omega)] at h3
  rw [linesL_none h3, List.append_nil] at h4
  exact h4
/-- what the readers of lines leave -/
def LnP (t : TypeId) (s : ByteArray) (w : World) (e : Ending) (w' : World) : Prop := ∃ v xs, e = .returned v ∧ OwnL rStr t w' w.heap.size v xs ∧ xs.map (·.data.toList) = linesL s.data.toList ∧ Below w.heap.size w w'
theorem LnP.mk {t : TypeId} {s : ByteArray} {v : Value} {xs : List ByteArray} {w w' : World} (h1 : OwnL rStr t w' w.heap.size v xs) (h2 : xs.map (·.data.toList) = linesL s.data.toList) (h3 : Below w.heap.size w w') : LnP t s w (.returned v) w' := ⟨v, xs, rfl, h1, h2, h3⟩
set_option maxRecDepth 100000 in
set_option maxHeartbeats 2000000 in
theorem spec_LinesIn (s : ByteArray) (w : World) (hs : s.size ≤ 1048576) :
    Calls Tryz.prog 35 #[.string s] w (LnP 9 s w) := by
  have hsl : s.data.toList.length = s.size := by simp
  go_enter Tryz.func35, Tryz.ntmps35
  go_wp2
  go_loopw [3, 4, 5] (fun o b k wr => ∃ (i j : Nat) (xs : List ByteArray), k = .int .i64 i ∧ b = .int .i64 j ∧ i ≤ s.size ∧ xs.length ≤ i ∧ Below w.heap.size w wr ∧ OwnL rStr 9 wr w.heap.size o xs ∧ LinesTo s.data.toList xs j i) (fun _ _ k _ => s.size - (intOf k).toNat)
  case atStart => exact ⟨0, 0, [], rfl, rfl, by omega, by simp, (by repeat (first | with_reducible exact Below.refl _ _ | with_reducible apply Below.ofExt | with_reducible apply Below.ofAlloc | with_reducible apply Below.drew | with_reducible apply Below.ofDrewN | with_reducible assumption | (with_reducible refine Below.setCell ?_ (by first | exact Nat.le_refl _ | (simp [go_sem]; done) | (simp [go_sem]; omega)) _))), OwnL.empty _ _ _, LinesTo.nil _⟩
  case round =>
    obtain ⟨i, j, xs, rfl, rfl, hi, hxl, hbel, ho, hc⟩ := hrel
    obtain ⟨X, rfl⟩ := hbel.ext
    obtain ⟨oa, oc, rfl⟩ := ho.rd.form
    have hji := hc.2.1
    have HO := Lib.hid ho
    have HC := Lib.hid hc
    have HSL := Lib.hid hsl
    clear ho hc hsl
    by_cases hlt : (i : Int) < s.size
    case pos =>
      have hk : i < s.size := by omega
      have hk2 : i < s.data.toList.length := by rw [HSL.out]; omega
      have e1 : s.data.toList[i]'hk2 = s[i] := rfl
      by_cases hcc : s[i] = 10
      · have hcc2 : ((s[i].toNat : Int) == 10) = true := by rw [hcc]; rfl
        have hst := HC.out.cut hk2 (by rw [e1]; exact hcc) (cut_list s j (i + 1))
        have HST := Lib.hid hst
        clear e1 hst
        go_wp2_with (at_builtin; refine Stop.here ?_)
        refine wpList_appL rfl _ _ _ rfl (R := rStr) (e := 9) Tryz.elemStrR (B := w.heap.size) (v := .slice oa xs.length oc) (xs := xs) (HO.out.alloc _) rfl (ys := [s.extract j (i + 1)]) (RdL.oneAt rStr _ (s.extract j (i + 1)) _ rfl _ _ (by simp [World.ext_size])) rfl (by simp only [List.length_singleton]; omega) (by simp only [List.length_singleton]; unfold maxLen; omega) (by simp [World.ext_size]; omega) ?_
        intro v4 w4 hown4 hgr4 _
        have hb4 : Below w.heap.size w w4 := Below.appL (a := w) (R := rStr) (e := 9) (v := .slice oa xs.length oc) (xs := xs) (by repeat (first | with_reducible exact Below.refl _ _ | with_reducible apply Below.ofExt | with_reducible apply Below.ofAlloc | with_reducible apply Below.drew | with_reducible apply Below.ofDrewN | with_reducible assumption | (with_reducible refine Below.setCell ?_ (by first | exact Nat.le_refl _ | (simp [go_sem]; done) | (simp [go_sem]; omega)) _))) hgr4 (HO.out.alloc _)
        obtain ⟨Y, rfl⟩ := hb4.ext
        have HO4 := Lib.hid hown4
        clear hown4 hgr4 hb4
        go_wp2
        go_roundw
        case rel => exact ⟨i + 1, i + 1, _, by go_num, by go_num, by omega, by rw [List.length_append, List.length_singleton]; omega, (by repeat (first | with_reducible exact Below.refl _ _ | with_reducible apply Below.ofExt | with_reducible apply Below.ofAlloc | with_reducible apply Below.drew | with_reducible apply Below.ofDrewN | with_reducible assumption | (with_reducible refine Below.setCell ?_ (by first | exact Nat.le_refl _ | (simp [go_sem]; done) | (simp [go_sem]; omega)) _))), HO4.out, HST.out⟩
        case measure => simp [intOf]; omega
      · have hcc2 : ((s[i].toNat : Int) == 10) = false := by
          rw [beq_eq_false_iff_ne]
          intro e
          exact hcc (UInt8.toNat_inj.1 (by show s[i].toNat = 10; omega))
        have hst := HC.out.same hk2 (by rw [e1]; exact hcc)
        have HST := Lib.hid hst
        clear hst hcc e1
        go_wp2
        go_roundw
        case rel => exact ⟨i + 1, j, xs, by go_num, rfl, by omega, by omega, (by repeat (first | with_reducible exact Below.refl _ _ | with_reducible apply Below.ofExt | with_reducible apply Below.ofAlloc | with_reducible apply Below.drew | with_reducible apply Below.ofDrewN | with_reducible assumption | (with_reducible refine Below.setCell ?_ (by first | exact Nat.le_refl _ | (simp [go_sem]; done) | (simp [go_sem]; omega)) _))), HO.out, HST.out⟩
        case measure => simp [intOf]; omega
    case neg =>
      have hx := HC.out.all (by rw [HSL.out]; omega)
      have HX := Lib.hid hx
      clear hx
      go_wp2
      go_ret
      exact LnP.mk HO.out HX.out (by repeat (first | with_reducible exact Below.refl _ _ | with_reducible apply Below.ofExt | with_reducible apply Below.ofAlloc | with_reducible apply Below.drew | with_reducible apply Below.ofDrewN | with_reducible assumption | (with_reducible refine Below.setCell ?_ (by first | exact Nat.le_refl _ | (simp [go_sem]; done) | (simp [go_sem]; omega)) _)))
end Go.Proofs.YtedgenmbdjadkaaGreatDoor
