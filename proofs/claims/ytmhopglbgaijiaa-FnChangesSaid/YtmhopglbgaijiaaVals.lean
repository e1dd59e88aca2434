/- The values of a store by key, as a map: the program's and the reference's. Each condition stands in its theorem. -/
import Derived.Test.YtmhopglbgaijiaaGet
import Derived.Maps.Own
import Derived.Maps.OwnSet
import Derived.Maps.RangeWalk
import Derived.Maps.StringElems
set_option linter.unusedVariables false
set_option linter.unusedSimpArgs false
namespace Go.Proofs.Ytmhopglbgaijiaa
open Go.ChangeShapes Go.WideShapes Go.ChangeAt Go.RowKit

theorem bl (s : ByteArray) : s.toList = s.data.toList := ByteArray.toList_eq s
def kS (s : ByteArray) : Lit := .string s.data.toList
theorem kS_lit (s : ByteArray) : WideAt.IsKeyLit (kS s) := by simp [kS, WideAt.IsKeyLit]
theorem isKey_iff {key : ByteArray} {c : CellD} : isKey key c = true ↔ c.key = key := by
  unfold isKey
  rw [beq_iff_eq, bl, bl]
  constructor
  · intro h
    exact ByteArray.ext (Array.toList_inj.1 h)
  · intro h
    rw [h]
theorem kS_inj {a b : ByteArray} (h : kS a = kS b) : a = b := by
  unfold kS at h
  injection h with h
  exact ByteArray.ext (Array.toList_inj.1 h)
theorem getC_snoc (key : ByteArray) (zs : List CellD) (c : CellD) : getC key (zs ++ [c]) = if zs.any (isKey key) then getC key zs else if isKey key c then c.val else ⟨#[]⟩ := by
  unfold getC
  rw [List.find?_append]
  cases ha : zs.any (isKey key) with
  | true =>
    rw [List.any_eq_true] at ha
    obtain ⟨x, hx, hp⟩ := ha
    have : (zs.find? (isKey key)).isSome = true := by rw [List.find?_isSome]; exact ⟨x, hx, hp⟩
    obtain ⟨y, hy⟩ := Option.isSome_iff_exists.1 this
    rw [hy]
    rfl
  | false =>
    have : zs.find? (isKey key) = none := List.find?_eq_none.2 (fun x hx => by rw [List.any_eq_false] at ha; exact ha x hx)
    rw [this]
    cases hk : isKey key c with
    | true => simp [List.find?_cons, hk]
    | false => simp [List.find?_cons, hk]
/-- a map reads as the first value of each key -/
structure VOf (D : DataW Unit) (zs : List CellD) : Prop where
  at_ : ∀ key : ByteArray, D.atKey (kS key) (.lit (.string [])) = .lit (.string (getC key zs).data.toList)
  has_ : ∀ key : ByteArray, Maps.has D (kS key) = zs.any (isKey key)
theorem VOf.start : VOf (.map []) [] := ⟨fun _ => rfl, fun _ => rfl⟩
theorem VOf.skip {D : DataW Unit} {zs : List CellD} {c : CellD} (h : VOf D zs) (hc : zs.any (isKey c.key) = true) : VOf D (zs ++ [c]) := by
  have e : ∀ key, isKey key c = true → zs.any (isKey key) = true := fun key hk => by
    rw [← isKey_iff.1 hk]; exact hc
  refine ⟨fun key => ?_, fun key => ?_⟩
  · rw [h.at_, getC_snoc]
    cases ha : zs.any (isKey key) with
    | true => rfl
    | false =>
      cases hk : isKey key c with
      | true => rw [e key hk] at ha; cases ha
      | false => rw [getC_none key zs ha]; rfl
  · rw [h.has_, List.any_append]
    cases hk : isKey key c with
    | true => rw [e key hk]; rfl
    | false => simp [hk]
theorem VOf.put {D : DataW Unit} {zs : List CellD} {c : CellD} (h : VOf D zs) (hm : Maps.IsMap D) (hc : zs.any (isKey c.key) = false) : VOf (D.put (kS c.key) (.lit (.string c.val.data.toList))) (zs ++ [c]) := by
  refine ⟨fun key => ?_, fun key => ?_⟩
  · rw [getC_snoc]
    cases hk : isKey key c with
    | true =>
      have e := isKey_iff.1 hk
      subst e
      rw [Maps.atKey_put_same hm (kS_lit _), hc]
      rfl
    | false =>
      have hne : kS key ≠ kS c.key := fun e => by
        have := isKey_iff.2 (kS_inj e).symm
        rw [this] at hk; cases hk
      rw [Maps.atKey_put_other hne, h.at_]
      cases ha : zs.any (isKey key) with
      | true => rfl
      | false => rw [getC_none key zs ha]; rfl
  · rw [List.any_append]
    cases hk : isKey key c with
    | true =>
      have e := isKey_iff.1 hk
      subst e
      rw [Maps.has_put_same hm (kS_lit _)]
      simp [hk]
    | false =>
      have hne : kS key ≠ kS c.key := fun e => by
        have := isKey_iff.2 (kS_inj e).symm
        rw [this] at hk; cases hk
      rw [Maps.has_put_other hne, h.has_]
      simp [hk]
theorem zeroS (w : World) : (zeroValue 9).run Try.prog w = .ok (.string ⟨#[]⟩) w := Try.zeroValue9 w
theorem below_grown {w w' : World} {b B : Nat} (h : w.grownBy w' (some b)) (hb : B ≤ b) (hB : B ≤ w.heap.size) : Below B w w' := ⟨h.os, h.tape, h.output, h.size, fun k hk => h.block k (by omega) (fun e => by simp only [Option.some.injEq] at e; omega)⟩
set_option maxRecDepth 100000 in
set_option maxHeartbeats 2000000 in
theorem impl_valuesOf (v : Value) (ds : List CellD) (w : World) (hs : RdL rCell w v ds) (hok : ∀ c ∈ ds, c.ok) (hl : ds.length ≤ 4194304) :
    Calls Try.prog 64 #[v] w fun e w' => ∃ (b : Nat), e = .returned (.map (some b)) ∧ w.heap.size ≤ b ∧ ∃ (D : DataW Unit), w'.ownsMap Try.prog 9 (plainElem (H := Unit) Try.prog 9) b ds.length D ∧ VOf D ds ∧ Below w.heap.size w w' := by
  obtain ⟨ao, cap, rfl, hc1, hc2, hnil, hne⟩ := hs.shape
  have HX := Lib.hid hne
  have HOK := Lib.hid hok
  clear hs hne hnil hok
  unfold maxLen at hc2
  have hmm := @run_makeMap Try.prog
  go_enter Try.func64, Try.ntmps64
  go_wp2
  clear hmm
  go_loopw [11] (fun k wr => ∃ (n : Nat) (D : DataW Unit), k = .int .i64 n ∧ n ≤ ds.length ∧ wr.ownsMap Try.prog 9 (plainElem (H := Unit) Try.prog 9) w.heap.size n D ∧ VOf D (ds.take n) ∧ Below w.heap.size w wr) (fun k _ => ds.length - (intOf k).toNat)
  case atStart => exact ⟨0, _, rfl, by omega, World.ownsMap_made _ _ _ _, VOf.start, (by repeat (first | with_reducible exact Below.refl _ _ | with_reducible apply Below.ofExt | with_reducible apply Below.ofAlloc | with_reducible apply Below.drew | with_reducible apply Below.ofDrewN | with_reducible assumption | (with_reducible refine Below.setCell ?_ (by first | exact Nat.le_refl _ | (simp [go_sem]; done) | (simp [go_sem]; omega)) _)))⟩
  case round =>
    obtain ⟨n, D, rfl, hn, hown, hD, hbel⟩ := hrel
    obtain ⟨X, rfl⟩ := hbel.ext
    have HOWN := Lib.hid hown
    have HD := Lib.hid hD
    clear hown hD hbel
    by_cases hlt : (n : Int) < ds.length
    case pos =>
      have hk : n < ds.length := by omega
      obtain ⟨b, off, rfl, hbl, hcell⟩ := HX.out (by intro e; simp [e] at hk)
      have hc := hcell n hk
      have hst : ds.take (n + 1) = ds.take n ++ [ds[n]] := List.take_succ_eq_append_getElem hk
      have hck := HOK.out _ (List.getElem_mem hk)
      generalize ds[n] = d at hc hst hck
      have y0 : w.cell? ⟨b, off + n * 2, none⟩ = some (.string d.key) := hc 0 _ rfl
      have y1 : w.cell? ⟨b, off + n * 2 + 1, none⟩ = some (.string d.val) := hc 1 _ rfl
      have hbl := hbl (by decide)
      have hbl2 : b < w.heap.size + X.bs.size := by omega
      clear hc hcell
      have hkm : keyOf Try.prog 9 (.string d.key) = some (kS d.key) := WideMaps.keyOf_string_mk Try.underlying9 hck.1
      have hvm : (plainElem (H := Unit) Try.prog 9) (.string d.val) = some (.lit (.string d.val.data.toList), []) := plainElem_string Try.underlying9 hck.2
      obtain ⟨v0, ps0, hrun, hR⟩ := (HOWN.out.alloc (.cells #[.string d.key, .string d.val] 53)).look_ok (Maps.string_keyed Try.underlying9) Try.underlying82 (zeroS _) (plainElem_string Try.underlying9 (by decide)) hkm
      rw [HD.out.has_] at hrun
      have HHK := Lib.hid hkm
      have HVM := Lib.hid hvm
      have HST := Lib.hid hst
      clear hR hkm hvm hst
      cases hh : (ds.take n).any (isKey d.key) with
      | true =>
        rw [hh] at hrun
        go_wp2
        go_roundw
        case rel => exact ⟨n + 1, D, by go_num, by omega, (HOWN.out.alloc _).mono (by omega), by rw [HST.out]; exact HD.out.skip hh, (by repeat (first | with_reducible exact Below.refl _ _ | with_reducible apply Below.ofExt | with_reducible apply Below.ofAlloc | with_reducible apply Below.drew | with_reducible apply Below.ofDrewN | with_reducible assumption | (with_reducible refine Below.setCell ?_ (by first | exact Nat.le_refl _ | (simp [go_sem]; done) | (simp [go_sem]; omega)) _)))⟩
        case measure => simp [intOf]; omega
      | false =>
        rw [hh] at hrun
        go_wp2_with (first | (at_mapUpdate; refine wpList_mapUpdate_own _ rfl _ _ _ 82 rfl 9 9 (Maps.string_keyed Try.underlying9) Try.underlying82 (plainElem (H := Unit) Try.prog 9) w.heap.size n D rfl (HOWN.out.alloc _) (by unfold maxLen; omega) _ _ (kS d.key) rfl rfl HHK.out _ [] HVM.out ?_; intro w1 hown1 hgr1))
        have hb1 := Below.trans (show Below w.heap.size w _ from (by repeat (first | with_reducible exact Below.refl _ _ | with_reducible apply Below.ofExt | with_reducible apply Below.ofAlloc | with_reducible apply Below.drew | with_reducible apply Below.ofDrewN | with_reducible assumption | (with_reducible refine Below.setCell ?_ (by first | exact Nat.le_refl _ | (simp [go_sem]; done) | (simp [go_sem]; omega)) _)))) (below_grown hgr1 (Nat.le_refl _) (by simp [World.ext_size]; try omega))
        go_roundw
        case rel => exact ⟨n + 1, _, by go_num, by omega, hown1, by rw [HST.out]; exact HD.out.put HOWN.out.isMap hh, hb1⟩
        case measure => simp [intOf]; omega
    case neg =>
      have e : n = ds.length := by omega
      go_wp2
      go_ret
      exact ⟨w.heap.size, rfl, Nat.le_refl _, D, e ▸ HOWN.out, by have := HD.out; rw [e, List.take_length] at this; exact this, (by repeat (first | with_reducible exact Below.refl _ _ | with_reducible apply Below.ofExt | with_reducible apply Below.ofAlloc | with_reducible apply Below.drew | with_reducible apply Below.ofDrewN | with_reducible assumption | (with_reducible refine Below.setCell ?_ (by first | exact Nat.le_refl _ | (simp [go_sem]; done) | (simp [go_sem]; omega)) _)))⟩
end Go.Proofs.Ytmhopglbgaijiaa
