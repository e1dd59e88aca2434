/- What a store holds under a key: the program's and the reference's. Each condition stands in its theorem. -/
import Derived.Test.YtmhopglbgaijiaaCfind
set_option linter.unusedVariables false
set_option linter.unusedSimpArgs false
namespace Go.Proofs.Ytmhopglbgaijiaa
open Go.ChangeShapes Go.WideShapes Go.ChangeAt Go.RowKit

theorem any_first' {α : Type} (p : α → Bool) : ∀ xs : List α, xs.any p = true → ∃ n, ∃ h : n < xs.length, (xs.take n).any p = false ∧ p xs[n] = true
  | [], h => by cases h
  | x :: xs, h => by
    cases hp : p x with
    | true => exact ⟨0, by simp, rfl, hp⟩
    | false =>
      rw [List.any_cons, hp, Bool.false_or] at h
      obtain ⟨n, hn, h1, h2⟩ := any_first' p xs h
      exact ⟨n + 1, by simpa using hn, by rw [List.take_succ_cons, List.any_cons, hp, h1]; rfl, by simpa using h2⟩
def getC (key : ByteArray) (xs : List CellD) : ByteArray := match xs.find? (isKey key) with
  | some c => c.val
  | none => ⟨#[]⟩
theorem getC_none (key : ByteArray) (xs : List CellD) (h : xs.any (isKey key) = false) : getC key xs = ⟨#[]⟩ := by
  unfold getC
  rw [List.find?_eq_none.2 (fun x hx => by rw [List.any_eq_false] at h; exact h x hx)]
theorem getC_at (key : ByteArray) (xs : List CellD) (n : Nat) (hn : n < xs.length) (h : (xs.take n).any (isKey key) = false) (h2 : isKey key xs[n] = true) : getC key xs = xs[n].val := by
  unfold getC
  have e : xs = xs.take n ++ xs[n] :: xs.drop (n + 1) := by rw [← List.drop_eq_getElem_cons hn, List.take_append_drop]
  have hf : xs.find? (isKey key) = some xs[n] := by
    conv => lhs; rw [e]
    rw [List.find?_append, List.find?_eq_none.2 (fun x hx => by rw [List.any_eq_false] at h; exact h x hx), List.find?_cons_of_pos h2]
    rfl
  rw [hf]
theorem getC_ok (key : ByteArray) (xs : List CellD) (h : ∀ c ∈ xs, c.ok) : (getC key xs).size ≤ 9223372036854775807 := by
  unfold getC
  cases hf : xs.find? (isKey key) with
  | none => show (0 : Nat) ≤ _; omega
  | some c => exact (h c (List.mem_of_find?_eq_some hf)).2
theorem impl_cellAt1 (c : CellD) (key : ByteArray) (b : Nat) (w : World) (hb : b < w.heap.size) (hc : w.cell? ⟨b, 0, none⟩ = some (.string key)) :
    Calls Try.prog 87 #[.agg #[.string c.key, .string c.val], .pointer (some ⟨b, 0, none⟩)] w fun e w' => e = .returned (.bool (isKey key c)) ∧ Below w.heap.size w w' := by
  have h : isKey key c = (c.key.toList == key.toList) := rfl
  rw [h]
  clear h
  go_enter Try.func87, Try.ntmps87
  go_wp2
  go_ret
  exact ⟨rfl, (by repeat (first | with_reducible exact Below.refl _ _ | with_reducible apply Below.ofExt | with_reducible apply Below.ofAlloc | with_reducible apply Below.drew | with_reducible apply Below.ofDrewN | with_reducible assumption | (with_reducible refine Below.setCell ?_ (by first | exact Nat.le_refl _ | (simp [go_sem]; done) | (simp [go_sem]; omega)) _)))⟩
set_option maxRecDepth 100000 in
theorem cells_IndexFunc3 (v : Value) (ds : List CellD) (key : ByteArray) (b0 : Nat) (w : World) (hs : RdL rCell w v ds) (hb0 : b0 < w.heap.size) (hc0 : w.cell? ⟨b0, 0, none⟩ = some (.string key)) :
    Calls Try.prog 77 #[v, .func (Fn.func 87) #[] #[.pointer (some ⟨b0, 0, none⟩)]] w fun e w' => e = .returned (.int .i64 (firstIdx (isKey key) ds)) ∧ Below w.heap.size w w' := by
  obtain ⟨ao, cap, rfl, hc1, hc2, hnil, hne⟩ := hs.shape
  have HX := Lib.hid hne
  have HC := Lib.hid hc0
  clear hs hne hnil hc0
  unfold maxLen at hc2
  go_enter Try.func77, Try.ntmps77
  go_wp2
  go_loopw [8] (fun k wr => ∃ (n : Nat), k = .int .i64 n ∧ n ≤ ds.length ∧ Below w.heap.size w wr ∧ (ds.take n).any (isKey key) = false) (fun k _ => ds.length - (intOf k).toNat)
  case atStart => exact ⟨0, rfl, by omega, (by repeat (first | with_reducible exact Below.refl _ _ | with_reducible apply Below.ofExt | with_reducible apply Below.ofAlloc | with_reducible apply Below.drew | with_reducible apply Below.ofDrewN | with_reducible assumption | (with_reducible refine Below.setCell ?_ (by first | exact Nat.le_refl _ | (simp [go_sem]; done) | (simp [go_sem]; omega)) _))), rfl⟩
  case round =>
    obtain ⟨n, rfl, hn, hbel, hany⟩ := hrel
    obtain ⟨X, rfl⟩ := hbel.ext
    have HA := Lib.hid hany
    clear hany
    by_cases hlt : (n : Int) < ds.length
    · have hk : n < ds.length := by omega
      obtain ⟨b, off, rfl, hbl, hcell⟩ := HX.out (by intro e; simp [e] at hk)
      have hc := hcell n hk
      have hst := any_take_step (isKey key) ds n hk
      have hff : (ds.take n).any (isKey key) = false → isKey key ds[n] = true → firstIdx (isKey key) ds = n := fun h h2 => firstIdx_found (isKey key) ds n hk h h2
      generalize ds[n] = d at hc hst hff
      have y0 : w.cell? ⟨b, off + n * 2, none⟩ = some (.string d.key) := hc 0 _ rfl
      have y1 : w.cell? ⟨b, off + n * 2 + 1, none⟩ = some (.string d.val) := hc 1 _ rfl
      clear hc hcell
      have hbl := hbl (by decide)
      have HT := Lib.hid hst
      have HF := Lib.hid hff
      clear hst hff
      cases hm : isKey key d with
      | true =>
        have HM := Lib.hid hm
        clear hm
        go_wp2_with fail
        (go_at_call 87; refine (impl_cellAt1 d key b0 _ (by simp [go_sem]; try omega) (by repeat (first | exact HC.out | refine Grew.cell (Grew.ext _ _) ?_ | refine Grew.cell (Grew.alloc _ _) ?_))).mono ?_; rintro e w' ⟨rfl, hb⟩; obtain ⟨X, rfl⟩ := hb.ext; clear hb)
        rw [HM.out]
        go_wp2
        go_ret
        exact ⟨by rw [HF.out HA.out HM.out]; rfl, (by repeat (first | with_reducible exact Below.refl _ _ | with_reducible apply Below.ofExt | with_reducible apply Below.ofAlloc | with_reducible apply Below.drew | with_reducible apply Below.ofDrewN | with_reducible assumption | (with_reducible refine Below.setCell ?_ (by first | exact Nat.le_refl _ | (simp [go_sem]; done) | (simp [go_sem]; omega)) _)))⟩
      | false =>
        have HM := Lib.hid hm
        clear hm
        go_wp2_with fail
        (go_at_call 87; refine (impl_cellAt1 d key b0 _ (by simp [go_sem]; try omega) (by repeat (first | exact HC.out | refine Grew.cell (Grew.ext _ _) ?_ | refine Grew.cell (Grew.alloc _ _) ?_))).mono ?_; rintro e w' ⟨rfl, hb⟩; obtain ⟨X, rfl⟩ := hb.ext; clear hb)
        rw [HM.out]
        go_wp2
        go_roundw
        case rel => exact ⟨n + 1, by go_num, by omega, (by repeat (first | with_reducible exact Below.refl _ _ | with_reducible apply Below.ofExt | with_reducible apply Below.ofAlloc | with_reducible apply Below.drew | with_reducible apply Below.ofDrewN | with_reducible assumption | (with_reducible refine Below.setCell ?_ (by first | exact Nat.le_refl _ | (simp [go_sem]; done) | (simp [go_sem]; omega)) _))), by rw [HT.out, HA.out, HM.out]; rfl⟩
        case measure => simp [intOf]; omega
    · go_wp2
      go_ret
      have e : n = ds.length := by omega
      subst e
      have ha := HA.out
      rw [List.take_length] at ha
      exact ⟨by rw [firstIdx_none (isKey key) ds ha]; rfl, (by repeat (first | with_reducible exact Below.refl _ _ | with_reducible apply Below.ofExt | with_reducible apply Below.ofAlloc | with_reducible apply Below.drew | with_reducible apply Below.ofDrewN | with_reducible assumption | (with_reducible refine Below.setCell ?_ (by first | exact Nat.le_refl _ | (simp [go_sem]; done) | (simp [go_sem]; omega)) _)))⟩
theorem impl_cellAt (v : Value) (ds : List CellD) (key : ByteArray) (w : World) (hs : RdL rCell w v ds) :
    Calls Try.prog 67 #[v, .string key] w fun e w' => e = .returned (.int .i64 (firstIdx (isKey key) ds)) ∧ Below w.heap.size w w' := by
  obtain ⟨ao, cap, rfl⟩ := hs.form
  have HS := Lib.hid hs
  clear hs
  go_enter Try.func67, Try.ntmps67
  go_wp2_with fail
  (go_at_call 77; refine (cells_IndexFunc3 _ ds key w.heap.size _ (HS.out.alloc _) (by simp) (by simp [go_sem])).mono ?_; rintro e w' ⟨rfl, hb⟩; obtain ⟨X, rfl⟩ := hb.ext; clear hb)
  go_wp2
  go_ret
  exact ⟨rfl, (by repeat (first | with_reducible exact Below.refl _ _ | with_reducible apply Below.ofExt | with_reducible apply Below.ofAlloc | with_reducible apply Below.drew | with_reducible apply Below.ofDrewN | with_reducible assumption | (with_reducible refine Below.setCell ?_ (by first | exact Nat.le_refl _ | (simp [go_sem]; done) | (simp [go_sem]; omega)) _)))⟩
set_option maxRecDepth 100000 in
theorem impl_GetKey (v : Value) (ds : List CellD) (key : ByteArray) (w : World) (hs : RdL rCell w v ds) :
    Calls Try.prog 42 #[v, .string key] w fun e w' => e = .returned (.string (getC key ds)) ∧ Below w.heap.size w w' := by
  obtain ⟨ao, cap, rfl, hc1, hc2, hnil, hne⟩ := hs.shape
  have HS := Lib.hid hs
  have HX := Lib.hid hne
  unfold maxLen at hc2
  clear hs hne hnil
  cases hany : ds.any (isKey key) with
  | false =>
    have HI : Hid (firstIdx (isKey key) ds = -1) := firstIdx_none _ _ hany
    have HG : Hid (getC key ds = ⟨#[]⟩) := getC_none key ds hany
    clear hany
    go_enter Try.func42, Try.ntmps42
    go_wp2_with fail
    (go_at_call 67; refine (impl_cellAt _ ds key _ HS.out).mono ?_; rintro e w' ⟨rfl, hb⟩; obtain ⟨X, rfl⟩ := hb.ext; clear hb)
    rw [HI.out]
    go_wp2
    go_ret
    exact ⟨by rw [HG.out]; rfl, (by repeat (first | with_reducible exact Below.refl _ _ | with_reducible apply Below.ofExt | with_reducible apply Below.ofAlloc | with_reducible apply Below.drew | with_reducible apply Below.ofDrewN | with_reducible assumption | (with_reducible refine Below.setCell ?_ (by first | exact Nat.le_refl _ | (simp [go_sem]; done) | (simp [go_sem]; omega)) _)))⟩
  | true =>
    obtain ⟨n, hn, hbef, hat⟩ := any_first' _ _ hany
    have HI : Hid (firstIdx (isKey key) ds = n) := firstIdx_found _ _ n hn hbef hat
    have hg := getC_at key ds n hn hbef hat
    obtain ⟨b, off, rfl, hbl, hcell⟩ := HX.out (by intro e; simp [e] at hn)
    have hc := hcell n hn
    clear hany hbef hat hcell
    generalize ds[n] = d at hc hg
    have HG := Lib.hid hg
    have y1 : w.cell? ⟨b, off + n * 2 + 1, none⟩ = some (.string d.val) := hc 1 _ rfl
    have hbl := hbl (by decide)
    clear hg hc
    go_enter Try.func42, Try.ntmps42
    go_wp2_with fail
    (go_at_call 67; refine (impl_cellAt _ ds key _ HS.out).mono ?_; rintro e w' ⟨rfl, hb⟩; obtain ⟨X, rfl⟩ := hb.ext; clear hb)
    rw [HI.out]
    go_wp2
    go_ret
    exact ⟨by rw [HG.out]; rfl, (by repeat (first | with_reducible exact Below.refl _ _ | with_reducible apply Below.ofExt | with_reducible apply Below.ofAlloc | with_reducible apply Below.drew | with_reducible apply Below.ofDrewN | with_reducible assumption | (with_reducible refine Below.setCell ?_ (by first | exact Nat.le_refl _ | (simp [go_sem]; done) | (simp [go_sem]; omega)) _)))⟩
set_option maxRecDepth 100000 in
theorem spec_GetKey (v : Value) (ds : List CellD) (key : ByteArray) (w : World) (hs : RdL rCell w v ds) :
    Calls Try.prog 46 #[v, .string key] w fun e w' => e = .returned (.string (getC key ds)) ∧ Below w.heap.size w w' := by
  obtain ⟨ao, cap, rfl, hc1, hc2, hnil, hne⟩ := hs.shape
  have HX := Lib.hid hne
  unfold maxLen at hc2
  clear hs hne hnil
  go_enter Try.func46, Try.ntmps46
  go_wp2
  go_loopw [5] (fun k wr => ∃ (n : Nat), k = .int .i64 n ∧ n ≤ ds.length ∧ Below w.heap.size w wr ∧ (ds.take n).any (isKey key) = false) (fun k _ => ds.length - (intOf k).toNat)
  case atStart => exact ⟨0, rfl, by omega, (by repeat (first | with_reducible exact Below.refl _ _ | with_reducible apply Below.ofExt | with_reducible apply Below.ofAlloc | with_reducible apply Below.drew | with_reducible apply Below.ofDrewN | with_reducible assumption | (with_reducible refine Below.setCell ?_ (by first | exact Nat.le_refl _ | (simp [go_sem]; done) | (simp [go_sem]; omega)) _))), rfl⟩
  case round =>
    obtain ⟨n, rfl, hn, hbel, hany⟩ := hrel
    obtain ⟨X, rfl⟩ := hbel.ext
    by_cases hlt : (n : Int) < ds.length
    case pos =>
      have hk : n < ds.length := by omega
      have hst := any_take_step (isKey key) ds n hk
      have hgt := fun h => getC_at key ds n hk hany h
      obtain ⟨b, off, rfl, hbl, hcell⟩ := HX.out (by intro e; simp [e] at hk)
      have hc := hcell n hk
      clear hcell
      generalize ds[n] = d at hc hst hgt
      have HA := Lib.hid hany
      have HT := Lib.hid hst
      have HG := Lib.hid hgt
      have y0 : w.cell? ⟨b, off + n * 2, none⟩ = some (.string d.key) := hc 0 _ rfl
      have y1 : w.cell? ⟨b, off + n * 2 + 1, none⟩ = some (.string d.val) := hc 1 _ rfl
      have hbl := hbl (by decide)
      clear hst hgt hany hc
      cases hik : isKey key d with
      | true =>
        have hke : (d.key.toList == key.toList) = true := hik
        go_wp2
        go_ret
        exact ⟨by rw [HG.out hik]; rfl, (by repeat (first | with_reducible exact Below.refl _ _ | with_reducible apply Below.ofExt | with_reducible apply Below.ofAlloc | with_reducible apply Below.drew | with_reducible apply Below.ofDrewN | with_reducible assumption | (with_reducible refine Below.setCell ?_ (by first | exact Nat.le_refl _ | (simp [go_sem]; done) | (simp [go_sem]; omega)) _)))⟩
      | false =>
        have hke : (d.key.toList == key.toList) = false := hik
        go_wp2
        go_roundw
        case rel => exact ⟨n + 1, by go_num, by omega, (by repeat (first | with_reducible exact Below.refl _ _ | with_reducible apply Below.ofExt | with_reducible apply Below.ofAlloc | with_reducible apply Below.drew | with_reducible apply Below.ofDrewN | with_reducible assumption | (with_reducible refine Below.setCell ?_ (by first | exact Nat.le_refl _ | (simp [go_sem]; done) | (simp [go_sem]; omega)) _))), by rw [HT.out, HA.out, hik]; rfl⟩
        case measure => simp [intOf]; omega
    case neg =>
      have e : n = ds.length := by omega
      rw [e, List.take_length] at hany
      have HG : Hid (getC key ds = ⟨#[]⟩) := getC_none key ds hany
      clear hany
      go_wp2
      go_ret
      exact ⟨by rw [HG.out]; rfl, (by repeat (first | with_reducible exact Below.refl _ _ | with_reducible apply Below.ofExt | with_reducible apply Below.ofAlloc | with_reducible apply Below.drew | with_reducible apply Below.ofDrewN | with_reducible assumption | (with_reducible refine Below.setCell ?_ (by first | exact Nat.le_refl _ | (simp [go_sem]; done) | (simp [go_sem]; omega)) _)))⟩
end Go.Proofs.Ytmhopglbgaijiaa
