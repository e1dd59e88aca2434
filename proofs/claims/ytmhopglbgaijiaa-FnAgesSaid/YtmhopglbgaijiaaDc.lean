/- Plain laws on ages: the program's and the reference's. Each condition stands in its theorem. -/
import Derived.Test.YtmhopglbgaijiaaDb
import Derived.Test.YtmhopglbgaijiaaOldest
set_option linter.unusedVariables false
set_option linter.unusedSimpArgs false
namespace Go.Proofs.Ytmhopglbgaijiaa
open Go.ChangeShapes Go.WideShapes Go.ChangeAt Go.RowKit

theorem olderB_iff (a b : TxD) : olderB a b = true ↔ a.age < b.age ∨ (a.age = b.age ∧ a.id < b.id) := by
  unfold olderB
  simp
theorem olderB_trans {a b c : TxD} (h : olderB a b = true) (h' : olderB b c = true) : olderB a c = true := by
  rw [olderB_iff] at *
  omega
theorem olderB_tri {a b : TxD} (h : olderB a b = false) (hne : a.id ≠ b.id) : olderB b a = true := by
  have h1 : ¬ olderB a b = true := by rw [h]; decide
  rw [olderB_iff] at *
  omega
theorem olderB_law (a b : TxD) : (!(olderB a b && olderB b a)) = true ∧ ((decide (a.age = b.age) && decide (a.id = b.id)) || olderB a b || olderB b a) = true := by
  constructor
  · cases h1 : olderB a b with
    | false => rfl
    | true =>
      cases h2 : olderB b a with
      | false => rfl
      | true => rw [olderB_iff] at h1 h2; omega
  · by_cases h : a.age = b.age ∧ a.id = b.id
    · simp [h]
    · cases h1 : olderB a b with
      | true => simp
      | false =>
        have h1' : ¬ olderB a b = true := by rw [h1]; decide
        have : olderB b a = true := by
          rw [olderB_iff] at *
          omega
        simp [this]
theorem oldUp_best (ds : List TxD) (hid : IdsUp ds) : ∀ n, n ≤ ds.length → ∀ i (hi : i < n) (hl : i < ds.length), ds[i].state = 1 → ∃ m, ∃ hm : m < ds.length, oldUp ds n = (m : Int) ∧ (i = m ∨ olderB ds[m] ds[i] = true)
  | 0, _, i, hi, _, _ => absurd hi (by omega)
  | n + 1, hn, i, hi, hl, hs => by
    have hk : n < ds.length := by omega
    rw [oldUp_step ds n hk]
    by_cases hin : i < n
    · obtain ⟨m, hm, he, h⟩ := oldUp_best ds hid n (by omega) i hin hl hs
      rw [he]
      by_cases hc : ((ds[n].state == 1) && (decide ((m : Int) < 0) || olderB ds[n] ((ds[(m : Int).toNat]?).getD ds[n]))) = true
      · rw [if_pos hc]
        refine ⟨n, hk, rfl, .inr ?_⟩
        rw [Bool.and_eq_true, Bool.or_eq_true] at hc
        have hc2 := hc.2.resolve_left (by simp)
        rw [Int.toNat_natCast, List.getElem?_eq_getElem hm, Option.getD_some] at hc2
        rcases h with rfl | h
        · exact hc2
        · exact olderB_trans hc2 h
      · rw [if_neg hc]
        exact ⟨m, hm, rfl, h⟩
    · have hin : i = n := by omega
      subst hin
      by_cases hc : ((ds[i].state == 1) && (decide (oldUp ds i < 0) || olderB ds[i] ((ds[(oldUp ds i).toNat]?).getD ds[i]))) = true
      · rw [if_pos hc]
        exact ⟨i, hl, rfl, .inl rfl⟩
      · rw [if_neg hc]
        rw [hs] at hc
        simp only [beq_self_eq_true, Bool.true_and, Bool.or_eq_true, not_or, decide_eq_true_eq, Bool.not_eq_true] at hc
        obtain ⟨h1, h2⟩ := hc
        have h3 := oldUp_hi ds i
        have hm : (oldUp ds i).toNat < ds.length := by omega
        rw [List.getElem?_eq_getElem hm, Option.getD_some] at h2
        refine ⟨(oldUp ds i).toNat, hm, by omega, .inr (olderB_tri h2 ?_)⟩
        rw [hid i hl, hid _ hm]
        omega
theorem oldest_law (ds : List TxD) (hid : IdsUp ds) (i k : Nat) (hi : i < ds.length) (hk : k < ds.length) (h0 : oldestLive ds > 0) (h1 : ds[k].id = oldestLive ds) (h2 : ds[i].id ≠ oldestLive ds) (h3 : ds[i].state = 1) : olderB ds[k] ds[i] = true := by
  obtain ⟨m, hm, he, h⟩ := oldUp_best ds hid ds.length (Nat.le_refl _) i hi hi h3
  have hv : oldestLive ds = ds[m].id := by
    unfold oldestLive
    rw [he, if_neg (by omega), Int.toNat_natCast, List.getElem?_eq_getElem hm]
    rfl
  rw [hv] at h1 h2
  have hkm : k = m := by rw [hid k hk, hid m hm] at h1; omega
  subst hkm
  rcases h with rfl | h
  · exact absurd rfl h2
  · exact h
set_option maxRecDepth 100000 in
theorem laws_sameInts (v v' : Value) (xs : List Int) (w : World) {e e' : TypeId} (hs : (vSlice vInt e).rd w [v] xs) (hs' : (vSlice vInt e').rd w [v'] xs) :
    Calls Try.prog 10 #[v, v'] w fun e w' => e = .returned (.bool true) ∧ Below w.heap.size w w' := by
  obtain ⟨ao, cap, rfl, hc1, hc2, _, hcell, _⟩ := vInt_shape hs
  obtain ⟨ao', cap', rfl, hc1', hc2', _, hcell', _⟩ := vInt_shape hs'
  have HX := Lib.hid hcell
  have HX' := Lib.hid hcell'
  clear hcell hcell' hs hs'
  unfold maxLen at hc2 hc2'
  go_enter Try.func10, Try.ntmps10
  go_wp2
  go_loopw [5] (fun k wr => ∃ (n : Nat), k = .int .i64 n ∧ n ≤ xs.length ∧ Below w.heap.size w wr) (fun k _ => xs.length - (intOf k).toNat)
  case atStart => exact ⟨0, rfl, by omega, (by repeat (first | with_reducible exact Below.refl _ _ | with_reducible apply Below.ofExt | with_reducible apply Below.ofAlloc | with_reducible apply Below.drew | with_reducible apply Below.ofDrewN | with_reducible assumption | (with_reducible refine Below.setCell ?_ (by first | exact Nat.le_refl _ | (simp [go_sem]; done) | (simp [go_sem]; omega)) _)))⟩
  case round =>
    obtain ⟨n, rfl, hn, hbel⟩ := hrel
    obtain ⟨X, rfl⟩ := hbel.ext
    clear hbel
    by_cases hlt : (n : Int) < xs.length
    · have hk : n < xs.length := by omega
      obtain ⟨b, off, rfl, hbl, hcell⟩ := HX.out (by intro e; simp [e] at hk)
      obtain ⟨b', off', rfl, hbl', hcell'⟩ := HX'.out (by intro e; simp [e] at hk)
      have hcc := hcell n hk
      have hcc' := hcell' n hk
      generalize xs[n] = x at hcc hcc'
      clear hcell hcell'
      go_wp2
      go_quiet (fail)
      go_wp2
      go_roundw
      case rel => exact ⟨n + 1, by go_num, by omega, (by repeat (first | with_reducible exact Below.refl _ _ | with_reducible apply Below.ofExt | with_reducible apply Below.ofAlloc | with_reducible apply Below.drew | with_reducible apply Below.ofDrewN | with_reducible assumption | (with_reducible refine Below.setCell ?_ (by first | exact Nat.le_refl _ | (simp [go_sem]; done) | (simp [go_sem]; omega)) _)))⟩
      case measure => simp [intOf]; omega
    · go_wp2
      go_ret
      exact ⟨rfl, (by repeat (first | with_reducible exact Below.refl _ _ | with_reducible apply Below.ofExt | with_reducible apply Below.ofAlloc | with_reducible apply Below.drew | with_reducible apply Below.ofDrewN | with_reducible assumption | (with_reducible refine Below.setCell ?_ (by first | exact Nat.le_refl _ | (simp [go_sem]; done) | (simp [go_sem]; omega)) _)))⟩
end Go.Proofs.Ytmhopglbgaijiaa
