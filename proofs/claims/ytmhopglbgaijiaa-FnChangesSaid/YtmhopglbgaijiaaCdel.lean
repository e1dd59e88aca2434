/- slices.DeleteFunc on cells: the program's and the reference's. Each condition stands in its theorem. -/
import Derived.Test.YtmhopglbgaijiaaCfind
import Derived.Test.YtmhopglbgaijiaaCopyK
set_option linter.unusedVariables false
set_option linter.unusedSimpArgs false
namespace Go.Proofs.Ytmhopglbgaijiaa
open Go.ChangeShapes Go.WideShapes Go.ChangeAt Go.RowKit

theorem any_first {α : Type} (p : α → Bool) : ∀ xs : List α, xs.any p = true → ∃ n, ∃ h : n < xs.length, (xs.take n).any p = false ∧ p xs[n] = true
  | [], h => by cases h
  | x :: xs, h => by
    cases hp : p x with
    | true => exact ⟨0, by simp, rfl, hp⟩
    | false =>
      rw [List.any_cons, hp, Bool.false_or] at h
      obtain ⟨n, hn, h1, h2⟩ := any_first p xs h
      exact ⟨n + 1, by simpa using hn, by rw [List.take_succ_cons, List.any_cons, hp, h1]; rfl, by simpa using h2⟩
theorem without_none (key : ByteArray) (xs : List CellD) (h : xs.any (isKey key) = false) : without key xs = xs := by
  unfold without
  rw [List.filter_eq_self]
  intro c hc
  rw [List.any_eq_false] at h
  simpa using h c hc
theorem rows_len (xs : List CellD) : (xs.flatMap CellD.row).length = xs.length * 2 := by
  have := rCell.flat_len xs
  exact this
theorem toList_get {cs : Array Value} {i : Nat} : cs.toList[i]? = cs[i]? := Array.getElem?_toList
set_option maxRecDepth 100000 in
set_option maxHeartbeats 4000000 in
theorem cells_DeleteFunc (v : Value) (ds : List CellD) (key : ByteArray) (b0 B : Nat) (w : World) (ho : OwnL rCell 53 w B v ds) (hb0 : b0 < w.heap.size) (hnb0 : v.ownBlock ≠ some b0) (hc0 : w.cell? ⟨b0, 0, none⟩ = some (.string key)) :
    Calls Try.prog 75 #[v, .func (Fn.func 76) #[] #[.pointer (some ⟨b0, 0, none⟩)]] w fun e w' => ∃ v', e = .returned v' ∧ OwnL rCell 53 w' B v' (without key ds) ∧ v'.ownBlock = v.ownBlock ∧ Upon v.ownBlock.toList w w' := by
  have HOWN := Lib.hid ho
  cases hany : ds.any (isKey key) with
  | false =>
    have HI : Hid (firstIdx (isKey key) ds = -1) := firstIdx_none _ _ hany
    have HW : Hid (without key ds = ds) := without_none key ds hany
    obtain ⟨ao, cap, rfl⟩ := ho.rd.form
    have HC := Lib.hid hc0
    clear ho hc0 hany
    go_enter Try.func75, Try.ntmps75
    go_wp2_with fail
    (go_at_call 77; refine (cells_IndexFunc1 _ ds key b0 _ HOWN.out.rd hb0 HC.out).mono ?_; rintro e w' ⟨rfl, hb⟩; obtain ⟨X, rfl⟩ := hb.ext; clear hb)
    rw [HI.out]
    go_wp2
    go_ret
    exact ⟨_, rfl, by rw [HW.out]; exact HOWN.out.ext _, rfl, Upon.below (by repeat (first | with_reducible exact Below.refl _ _ | with_reducible apply Below.ofExt | with_reducible apply Below.ofAlloc | with_reducible apply Below.drew | with_reducible apply Below.ofDrewN | with_reducible assumption | (with_reducible refine Below.setCell ?_ (by first | exact Nat.le_refl _ | (simp [go_sem]; done) | (simp [go_sem]; omega)) _)))⟩
  | true =>
    obtain ⟨i0, hi0, hbef, hat⟩ := any_first _ _ hany
    have HI : Hid (firstIdx (isKey key) ds = i0) := firstIdx_found _ _ i0 hi0 hbef hat
    have HST : Hid (without key (ds.take (i0 + 1)) = ds.take i0) := by
      show _ = _
      rw [List.take_succ_eq_append_getElem hi0, without_snoc, hat, if_pos rfl, List.append_nil, without_none key _ hbef]
    clear hany hbef hat
    rcases ho.2 with ⟨_, h0⟩ | ⟨g, cap, cur, rfl, hg, hh, hn, hm, hsz, ht⟩
    · have : ds = [] := List.eq_nil_of_length_eq_zero h0
      rw [this] at hi0
      simp at hi0
    have hgl := World.lt_of_get hh
    have hnb : b0 ≠ g := fun e => hnb0 (by rw [e]; rfl)
    have hnb' : ¬ g = b0 := fun e => hnb e.symm
    clear hnb0 ho
    have HH := Lib.hid hh
    have HT : Hid (cur.toList.take (ds.length * 2) = ds.flatMap CellD.row) := ht
    have HSZ : Hid (cur.size = cap * 2) := hsz
    have HE : Hid (w.setB g (.cells cur 53 (0, 0)) = w) := World.setB_self hh
    have HC := Lib.hid hc0
    have hce : ∀ (n : Nat) (hk : n < ds.length), cur[n * 2]? = some (.string ds[n].key) ∧ cur[n * 2 + 1]? = some (.string ds[n].val) := by
      intro n hk
      obtain ⟨ao', cp', e1, _, _, _, hne⟩ := HOWN.out.rd.shape
      obtain ⟨b', off', rfl, _, hcell⟩ := hne (by intro e; rw [e] at hk; simp at hk)
      simp only [Value.slice.injEq, Option.some.injEq, Addr.mk.injEq, and_true, true_and] at e1
      obtain ⟨⟨rfl, rfl⟩, rfl⟩ := e1
      have h0 := hcell n hk 0 _ rfl
      have h1 := hcell n hk 1 _ rfl
      rw [World.cell?_of_get HH.out] at h0 h1
      simp only [show rCell.k = 2 from rfl, Nat.zero_add, Nat.add_zero] at h0 h1
      exact ⟨h0, h1⟩
    clear hh ht hsz hc0
    unfold maxLen at hm
    refine World.at_block HH.out ?_
    go_enter Try.func75, Try.ntmps75
    go_wp2_with fail
    (go_at_call 77; refine (cells_IndexFunc1 _ ds key b0 _ (by rw [HE.out]; exact HOWN.out.rd) (by simp [go_sem]; omega) (by rw [HE.out]; exact HC.out)).mono ?_; rintro e w' ⟨rfl, hb⟩; obtain ⟨X, rfl⟩ := hb.ext; clear hb)
    rw [HI.out]
    have HCE := Lib.hid hce
    clear hce
    have hne1 : ((i0 : Int) == -1) = false := beq_false_of_ne (by omega)
    go_wp2
    go_loopw [5, 6] (fun iv jv wr => ∃ (k j : Nat) (cs : Array Value), iv = .int .i64 k ∧ jv = .int .i64 j ∧ k < j ∧ j ≤ ds.length ∧ Below (w.setB g (.cells cs 53)).heap.size (w.setB g (.cells cs 53)) wr ∧ cs.size = cap * 2 ∧ cs.toList.take (k * 2) = (without key (ds.take j)).flatMap CellD.row ∧ ∀ m, j * 2 ≤ m → m < ds.length * 2 → cs[m]? = cur[m]?) (fun _ jv _ => ds.length - (intOf jv).toNat)
    case atStart => exact ⟨i0, i0 + 1, cur, rfl, by go_num, by omega, by omega, (by repeat (first | with_reducible exact Below.refl _ _ | with_reducible apply Below.ofExt | with_reducible apply Below.ofAlloc | with_reducible apply Below.drew | with_reducible apply Below.ofDrewN | with_reducible assumption | (with_reducible refine Below.setCell ?_ (by first | exact Nat.le_refl _ | (simp [go_sem]; done) | (simp [go_sem]; omega)) _))), HSZ.out, by
      rw [HST.out]
      have h := HT.out
      have h2 := congrArg (List.take (i0 * 2)) h
      rw [List.take_take, Nat.min_eq_left (by omega)] at h2
      rw [h2]
      have e : ds.flatMap CellD.row = (ds.take i0).flatMap CellD.row ++ (ds.drop i0).flatMap CellD.row := by rw [← List.flatMap_append, List.take_append_drop]
      rw [e, List.take_left' (by rw [rows_len, List.length_take, Nat.min_eq_left (by omega)])], fun m _ _ => rfl⟩
    case round =>
      obtain ⟨k, j, cs, rfl, rfl, hkj, hj, hbel, hcs, htk, htl⟩ := hrel
      obtain ⟨Y, rfl⟩ := hbel.ext
      clear hbel
      have HTK := Lib.hid htk
      have HTL := Lib.hid htl
      have HCS := Lib.hid hcs
      clear htk htl hcs
      by_cases hlt : (j : Int) < ds.length
      case pos =>
        have hk : j < ds.length := by omega
        obtain ⟨y0, y1⟩ := HCE.out j hk
        rw [← HTL.out _ (by omega) (by omega)] at y0
        rw [← HTL.out _ (by omega) (by omega)] at y1
        have hst : ds.take (j + 1) = ds.take j ++ [ds[j]] := List.take_succ_eq_append_getElem hk
        generalize ds[j] = d at y0 y1 hst
        have l0 : k * 2 < cs.size := by rw [HCS.out]; omega
        have l1 : k * 2 + 1 < cs.size := by rw [HCS.out]; omega
        have l4 : g < w.heap.size + Y.bs.size := by omega
        have l5 : g < w.heap.size + Y.bs.size + 1 := by omega
        have l6 : ¬ g = w.heap.size + Y.bs.size := by omega
        cases hik : isKey key d with
        | true =>
          have HS : Hid (without key (ds.take (j + 1)) = without key (ds.take j)) := by show _ = _; rw [hst, without_snoc, hik, if_pos rfl, List.append_nil]
          clear hst
          go_wp2_with fail
          (go_at_call 76; refine (impl_put1 d key b0 _ (by simp [go_sem]; try omega) (by repeat (first | exact HC.out | refine Grew.cell (Grew.ext _ _) ?_ | refine Grew.cell (Grew.alloc _ _) ?_ | rw [World.cell?_setB_ne _ _ _ _ _ hnb]))).mono ?_; rintro e w' ⟨rfl, hb⟩; obtain ⟨X, rfl⟩ := hb.ext; clear hb)
          rw [hik]
          go_wp2
          go_roundw
          case rel => exact ⟨k, j + 1, cs, rfl, by go_num, by omega, by omega, (by repeat (first | with_reducible exact Below.refl _ _ | with_reducible apply Below.ofExt | with_reducible apply Below.ofAlloc | with_reducible apply Below.drew | with_reducible apply Below.ofDrewN | with_reducible assumption | (with_reducible refine Below.setCell ?_ (by first | exact Nat.le_refl _ | (simp [go_sem]; done) | (simp [go_sem]; omega)) _))), HCS.out, by rw [HS.out]; exact HTK.out, fun m h1 h2 => HTL.out m (by omega) h2⟩
          case measure => simp [intOf]; omega
        | false =>
          have HS : Hid (without key (ds.take (j + 1)) = without key (ds.take j) ++ [d]) := by show _ = _; rw [hst, without_snoc, hik]; rfl
          clear hst
          go_wp2_with fail
          (go_at_call 76; refine (impl_put1 d key b0 _ (by simp [go_sem]; try omega) (by repeat (first | exact HC.out | refine Grew.cell (Grew.ext _ _) ?_ | refine Grew.cell (Grew.alloc _ _) ?_ | rw [World.cell?_setB_ne _ _ _ _ _ hnb]))).mono ?_; rintro e w' ⟨rfl, hb⟩; obtain ⟨X, rfl⟩ := hb.ext; clear hb)
          rw [hik]
          go_wp2
          go_roundw
          case rel => exact ⟨k + 1, j + 1, _, by go_num, by go_num, by omega, by omega, (by repeat (first | with_reducible exact Below.refl _ _ | with_reducible apply Below.ofExt | with_reducible apply Below.ofAlloc | with_reducible apply Below.drew | with_reducible apply Below.ofDrewN | with_reducible assumption | (with_reducible refine Below.setCell ?_ (by first | exact Nat.le_refl _ | (simp [go_sem]; done) | (simp [go_sem]; omega)) _))), by simpa using HCS.out, by
            have h0 := take_set1' (v := .string d.key) HTK.out rfl rfl (by omega)
            have h1 := take_set1' (p := (k + 1) * 2) (v := .string d.val) h0 rfl (by omega) (by simp; omega)
            rw [HS.out, List.flatMap_append]
            simpa [CellD.row] using h1, fun m h1 h2 => by
            rw [Array.getElem?_setIfInBounds_ne (by omega), Array.getElem?_setIfInBounds_ne (by omega)]
            exact HTL.out m (by omega) h2⟩
          case measure => simp [intOf]; omega
      case neg =>
        have e : j = ds.length := by omega
        have hlen : k = (without key ds).length := by
          have := congrArg List.length HTK.out
          rw [e, List.take_length, rows_len, List.length_take, show cs.toList.length = cap * 2 from (Array.length_toList (xs := cs)).trans HCS.out] at this
          omega
        have HLEN := Lib.hid hlen
        have hck : ¬ cap = k := by have := HLEN.out; omega
        have HLC : Hid (cs.toList.length = cap * 2) := (Array.length_toList (xs := cs)).trans HCS.out
        have HG : Hid (((w.setB g (.cells cs 53)).ext Y).heap[g]? = some (.cells cs.toList.toArray 53 (0, 0))) := by
          show _ = _
          rw [World.ext_get _ _ (by rw [World.setB_size]; exact hgl), World.setB_at _ _ _ hgl, Array.toArray_toList]
        have hcl : ∀ ty, (Builtin.clear_ #[46] ty #[.slice (some ⟨g, k * 2, none⟩) (ds.length - k) (cap - k)]).run Try.prog ((w.setB g (.cells cs 53)).ext Y) = .ok (.tuple #[]) ((w.setB g (.cells (splice cs.toList (k * 2) (Builtin.zeroCells (Value.agg #[.string ⟨#[]⟩, .string ⟨#[]⟩]).cells (ds.length - k)).toList).toArray 53)).ext Y) := fun ty => by
          have := run_clearK (P := Try.prog) (w := (w.setB g (.cells cs 53)).ext Y) (t := 46) (e := 53) (.agg #[.string ⟨#[]⟩, .string ⟨#[]⟩]) Try.underlying46 (by kernel_rfl) (by decide) ty g (k * 2) (ds.length - k) (cap - k) (by omega) cs.toList 53 HG.out (by rw [HLC.out]; show k * 2 + (ds.length - k) * 2 ≤ _; omega)
          rw [this]
          congr 1
          rw [World.setB_ext _ _ _ _ (by rw [World.setB_size]; exact hgl), World.setB_setB]
        obtain ⟨L, hL⟩ : ∃ L, L = splice cs.toList (k * 2) (Builtin.zeroCells (Value.agg #[.string ⟨#[]⟩, .string ⟨#[]⟩]).cells (ds.length - k)).toList := ⟨_, rfl⟩
        rw [← hL] at hcl
        have HL : Hid (L.length = cap * 2 ∧ L.take (k * 2) = (without key ds).flatMap CellD.row) := by
          rw [hL]
          refine ⟨?_, ?_⟩
          · rw [length_splice _ _ _ (by rw [show (Builtin.zeroCells (Value.agg #[.string ⟨#[]⟩, .string ⟨#[]⟩]).cells (ds.length - k)).toList.length = (ds.length - k) * 2 by simp [Builtin.zeroCells, Value.cells], HLC.out]; omega), HLC.out]
          · rw [take_splice _ _ _ _ (Nat.le_refl _) (by rw [HLC.out]; omega), HTK.out, e, List.take_length]
        clear hL hlen
        go_wp2
        go_ret
        have hlen := HLEN.out
        refine ⟨_, rfl, ?_, rfl, ?_⟩
        · show OwnL rCell 53 _ B (.slice (some ⟨g, 0, none⟩) k cap) _
          rw [hlen]
          refine OwnL.ext ?_ _
          refine ⟨rCell.flat_len _, .inr ⟨g, cap, L.toArray, rfl, hg, World.setB_at _ _ _ hgl, by rw [← hlen]; omega, by unfold maxLen; omega, by show L.toArray.size = cap * 2; simpa using HL.out.1, by rw [← hlen]; show L.toArray.toList.take (k * 2) = _; exact HL.out.2⟩⟩
        · exact Upon.setBExt _ _ _ (by simp [Value.ownBlock])
end Go.Proofs.Ytmhopglbgaijiaa
