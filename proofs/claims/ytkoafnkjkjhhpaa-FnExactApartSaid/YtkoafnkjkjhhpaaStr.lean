/- The laws' measure, copy and comparison of lists of strings. Each condition stands in its theorem. -/
import Derived.Test.YtkoafnkjkjhhpaaOrd
import Derived.Test.YtkoafnkjkjhhpaaRow
import Derived.Lib.Hide
set_option linter.unusedVariables false
set_option linter.unusedSimpArgs false
namespace Go.Proofs.Ytkoafnkjkjhhpaa
open Go.ChangeShapes Go.WideShapes Go.ChangeAt Go.RowKit

/-- what 'left' is behind a measure of wt -/
def leftOf (left : Int) (wt : Nat) : Int := if (wt : Int) ≤ left then left - wt else -1
def wtStrs (xs : List ByteArray) : Nat := xs.length + (xs.map ByteArray.size).sum
theorem Try.elemStrs : Elem Try.prog 22 9 1 16 := Elem.of (.string ⟨#[]⟩) Try.underlying22 (by kernel_rfl) rfl (by decide)

theorem laws_szStringS (v : Value) (xs : List ByteArray) (left : Int) (w : World) (hs : RdW rStr w v xs) (hz : ∀ s ∈ xs, s.size ≤ maxLen) (h0 : 0 ≤ left) (h1 : left ≤ 4294967296) :
    Calls Try.prog 9 #[v, .int .i64 left] w fun e w' => e = .returned (.int .i64 (leftOf left (wtStrs xs))) ∧ w = w' := by
  obtain ⟨ao, cap, rfl, hc1, hc2, hnil, hcell⟩ := hs.shapeS
  have HX := Lib.hid hcell
  have HZ := Lib.hid hz
  clear hcell hs hnil hz
  unfold maxLen at hc2
  have hsub : wrap64 (left - xs.length) = left - xs.length := IntWalk.wrap64_in _ (by omega)
  by_cases hl : left - xs.length < 0
  · go_enter Try.func9, Try.ntmps9
    go_wp2
    go_ret
    refine ⟨?_, rfl⟩
    have : leftOf left (wtStrs xs) = -1 := by unfold leftOf wtStrs; rw [if_neg (by omega)]
    rw [this]
    rfl
  · go_enter Try.func9, Try.ntmps9
    go_wp2
    go_loopw [1, 5] (fun l k wr => ∃ (n : Nat) (m : Int), k = .int .i64 n ∧ n ≤ xs.length ∧ wr = w ∧ l = .int .i64 m ∧ m + ((xs.take n).map ByteArray.size).sum = left - xs.length ∧ 0 ≤ m) (fun _ k _ => xs.length - (intOf k).toNat)
    case atStart => exact ⟨0, _, rfl, by omega, rfl, rfl, by simp, by omega⟩
    case round =>
      obtain ⟨n, m, rfl, hn, rfl, rfl, hsum, hm⟩ := hrel
      have HS := Lib.hid hsum
      have hm2 : m ≤ left := by omega
      clear hsum
      by_cases hlt : (n : Int) < xs.length
      · have hk : n < xs.length := by omega
        obtain ⟨b, off, rfl, hbl, hcell⟩ := HX.out (by intro e; simp [e] at hk)
        have hcc := hcell n hk
        have hstep := sum_take_step ByteArray.size xs n hk
        have hle := sum_take_le ByteArray.size xs (n + 1)
        have hsz : xs[n].size ≤ 2 ^ 63 - 1 := HZ.out _ (List.getElem_mem hk)
        generalize xs[n] = s at hcc hstep hsz
        have HT := Lib.hid hstep
        have HL := Lib.hid hle
        clear hcell hstep hle
        have hw : wrap64 (m - s.size) = m - s.size := IntWalk.wrap64_in _ (by omega)
        by_cases hneg : m - s.size < 0
        · go_wp2
          go_ret
          refine ⟨?_, rfl⟩
          have := HS.out
          have h2 := HT.out
          have h3 := HL.out
          have : leftOf left (wtStrs xs) = -1 := by unfold leftOf wtStrs; rw [if_neg (by omega)]
          rw [this]
          rfl
        · go_wp2
          go_roundw
          case rel => exact ⟨n + 1, m - s.size, by go_num, by omega, trivial, rfl, by rw [HT.out]; have := HS.out; omega, by omega⟩
          case measure => simp [intOf]; omega
      · go_wp2
        go_ret
        refine ⟨?_, rfl⟩
        have e : n = xs.length := by omega
        subst e
        have := HS.out
        rw [List.take_length] at this
        have : leftOf left (wtStrs xs) = m := by unfold leftOf wtStrs; rw [if_pos (by omega)]; omega
        rw [this]
        rfl

theorem laws_toStringS (v : Value) (xs : List ByteArray) (w : World) (hs : RdW rStr w v xs) (hl : xs.length ≤ 4194304) :
    Calls Try.prog 11 #[v] w fun e w' => ∃ v', e = .returned v' ∧ OwnL rStr 9 w' w.heap.size v' xs ∧ Below w.heap.size w w' := by
  obtain ⟨ao, cap, rfl, hc1, hc2, hnil, hcell⟩ := hs.shapeS
  have HX := Lib.hid hcell
  clear hcell hs hnil
  unfold maxLen at hc2
  obtain ⟨cs0, hsz0, hmk⟩ := Elem.make Try.elemStrs xs.length (by omega) (by omega)
  clear hl
  rw [Nat.mul_one] at hsz0
  go_enter Try.func11, Try.ntmps11
  go_wp2
  go_loopw [4] (fun k wr => ∃ (n : Nat) (cs : Array Value) (X : Ext), k = .int .i64 n ∧ n ≤ xs.length ∧ wr = (w.alloc (.cells cs 9)).ext X ∧ cs.size = xs.length ∧ cs.toList.take n = (xs.take n).flatMap rStr.row) (fun k _ => xs.length - (intOf k).toNat)
  case atStart => exact ⟨0, cs0, ⟨#[], _⟩, rfl, by omega, (World.ext_nil _ _ rfl).symm, hsz0, by simp⟩
  case round =>
    obtain ⟨n, cs, X, rfl, hn, rfl, hsz, htk⟩ := hrel
    have HT := Lib.hid htk
    clear htk hmk hsz0
    by_cases hlt : (n : Int) < xs.length
    · have hk : n < xs.length := by omega
      obtain ⟨b, off, rfl, hbl, hcell⟩ := HX.out (by intro e; simp [e] at hk)
      have hcc := hcell n hk
      have hcs : cs[n]? = some cs[n] := Array.getElem?_eq_getElem (by omega)
      generalize cs[n] = u at hcs
      clear hcell
      go_wp2
      go_roundw
      case rel =>
        refine ⟨n + 1, _, X, by go_num, by omega, rfl, by simpa using hsz, ?_⟩
        rw [rStr.flat_step xs n hk]
        exact take_set1 HT.out (by omega)
      case measure => simp [intOf]; omega
    · go_wp2
      go_ret
      have e : n = xs.length := by omega
      subst e
      have ht := HT.out
      rw [List.take_length] at ht
      exact ⟨_, rfl, OwnL.made rStr _ w cs X xs (by rw [hsz]; exact (Nat.mul_one _).symm) (by rw [← ht]; congr 1; exact Nat.mul_one _) (by omega) _ rfl, (by repeat (first | with_reducible exact Below.refl _ _ | with_reducible apply Below.ofExt | with_reducible apply Below.ofAlloc | with_reducible apply Below.drew | with_reducible assumption | (with_reducible refine Below.setCell ?_ (by first | exact Nat.le_refl _ | (simp [go_sem]; done) | (simp [go_sem]; omega)) _)))⟩
theorem laws_eqStringS (v v' : Value) (xs : List ByteArray) (w : World) (hs : RdL rStr w v xs) (hs' : RdL rStr w v' xs) :
    Calls Try.prog 13 #[v, v'] w fun e w' => e = .returned (.bool true) ∧ Below w.heap.size w w' := by
  obtain ⟨ao, cap, rfl, hc1, hc2, hnil, hcell⟩ := hs.shapeS
  obtain ⟨ao', cap', rfl, hc1', hc2', hnil', hcell'⟩ := hs'.shapeS
  have HX := Lib.hid hcell
  have HX' := Lib.hid hcell'
  clear hcell hs hnil hcell' hs' hnil'
  unfold maxLen at hc2 hc2'
  go_enter Try.func13, Try.ntmps13
  go_wp2
  go_loopw [5] (fun k wr => ∃ (n : Nat) (X : Ext), k = .int .i64 n ∧ n ≤ xs.length ∧ wr = w.ext X) (fun k _ => xs.length - (intOf k).toNat)
  case atStart => exact ⟨0, ⟨#[], _⟩, rfl, by omega, (World.ext_nil _ _ rfl).symm⟩
  case round =>
    obtain ⟨n, X, rfl, hn, rfl⟩ := hrel
    by_cases hlt : (n : Int) < xs.length
    · have hk : n < xs.length := by omega
      obtain ⟨b, off, rfl, hbl, hcell⟩ := HX.out (by intro e; simp [e] at hk)
      obtain ⟨b', off', rfl, hbl', hcell'⟩ := HX'.out (by intro e; simp [e] at hk)
      have hcc := hcell n hk
      have hcc' := hcell' n hk
      generalize xs[n] = s at hcc hcc'
      clear hcell hcell'
      go_wp2
      refine wp_region_ord [(0,true),(1,true),(2,true),(3,true),(4,true),(5,true),(6,true),(7,true),(8,true)] 9 (by kernel_rfl) (by kernel_rfl) ?_
      repeat (refine wpOrd_quiet rfl (fun K hK => ?_); go_simp; (try simp (disch := omega) only [IntWalk.i64_in]); refine hK _ ?_; clear hK K)
      refine wpOrd_nil ?_
      go_wp2
      go_roundw
      case rel => exact ⟨n + 1, _, by go_num, by omega, rfl⟩
      case measure => simp [intOf]; omega
    · go_wp2
      go_ret
      exact ⟨rfl, (by repeat (first | with_reducible exact Below.refl _ _ | with_reducible apply Below.ofExt | with_reducible apply Below.ofAlloc | with_reducible apply Below.drew | with_reducible assumption | (with_reducible refine Below.setCell ?_ (by first | exact Nat.le_refl _ | (simp [go_sem]; done) | (simp [go_sem]; omega)) _)))⟩
end Go.Proofs.Ytkoafnkjkjhhpaa
