/- Putting a value under a key: the reference: the program's and the reference's. Each condition stands in its theorem. -/
import Derived.Test.YtmhopglbgaijiaaPutLaw
import Derived.Test.YtmhopglbgaijiaaCloneC
set_option linter.unusedVariables false
set_option linter.unusedSimpArgs false
namespace Go.Proofs.Ytmhopglbgaijiaa
open Go.ChangeShapes Go.WideShapes Go.ChangeAt Go.RowKit

theorem bytes_toList (s : ByteArray) : s.toList = s.data.toList := ByteArray.toList_eq s
theorem OwnL.merge2 {α : Type} {R : RowOf α} {e : TypeId} {w : World} {B : Nat} {v : Value} {xs : List α} {bs cs : Array Obj} {d0 dr : Nat} (h : OwnL R e (w.ext ⟨bs, d0⟩) B v xs) : OwnL R e (w.ext ⟨bs ++ cs, dr⟩) B v xs := by
  have := h.ext ⟨cs, dr⟩
  rwa [World.ext_ext] at this
theorem OwnL.drC {α : Type} {R : RowOf α} {e : TypeId} {w : World} {B : Nat} {v : Value} {xs : List α} {X : Ext} {d : Nat} (h : OwnL R e (w.ext X) B v xs) : OwnL R e (w.ext ⟨X.bs, d⟩) B v xs := by
  have := h.ext ⟨#[], d⟩
  rwa [World.ext_ext, Array.append_empty] at this
set_option maxRecDepth 100000 in
set_option maxHeartbeats 4000000 in
theorem spec_PutKey (v : Value) (ds : List CellD) (key val : ByteArray) (w : World) (hs : RdL rCell w v ds) (hl : ds.length ≤ 4194304) (hks : key.size ≤ 9223372036854775807) :
    Calls Try.prog 49 #[v, .string key, .string val] w fun e w' => ∃ v', e = .returned v' ∧ OwnL rCell 53 w' w.heap.size v' (putC key val ds) ∧ Below w.heap.size w w' := by
  obtain ⟨ao, cap, rfl, hc1, hc2, hnil, hne⟩ := hs.shape
  have HR := Lib.hid hs
  have HX := Lib.hid hne
  clear hs hne hnil
  unfold maxLen at hc2
  cases hk0 : keyOk key with
  | false =>
    have HK0 := Lib.hid hk0
    have HF : Hid (putC key val ds = ds) := by show _ = _; unfold putC; rw [if_pos (.inl hk0)]
    clear hk0
    go_enter Try.func49, Try.ntmps49
    go_wp2_with fail
    (go_at_call 50; refine (spec_KeyOk key _ hks).mono ?_; rintro e w' ⟨rfl, rfl⟩)
    rw [HK0.out]
    go_wp2_with (at_builtin; refine Stop.here ?_)
    refine wpList_appL rfl _ _ _ rfl Try.elemCellS (B := w.heap.size) (v := .slice (some ⟨w.heap.size, 0, none⟩) 0 0) (xs := []) (R := rCell) (OwnL.empty rCell _ w) rfl (ys := ds) (HR.out.alloc _) rfl (by simp only [List.length_nil]; (try simp only [List.length_append, List.length_nil]); omega) (by simp only [List.length_nil]; (try simp only [List.length_append, List.length_nil]); unfold maxLen; omega) (by simp [World.ext_size]; try omega) ?_
    intro v4 w4 hown4 hgr4 _
    have hb4 : Below w.heap.size w w4 := Below.appL (R := rCell) (e := 53) (v := .slice (some ⟨w.heap.size, 0, none⟩) 0 0) (xs := []) (by repeat (first | with_reducible exact Below.refl _ _ | with_reducible apply Below.ofExt | with_reducible apply Below.ofAlloc | with_reducible apply Below.drew | with_reducible apply Below.ofDrewN | with_reducible assumption | (with_reducible refine Below.setCell ?_ (by first | exact Nat.le_refl _ | (simp [go_sem]; done) | (simp [go_sem]; omega)) _))) hgr4 (OwnL.empty rCell _ w)
    clear hgr4
    go_wp2
    go_ret
    exact ⟨_, rfl, by rw [HF.out]; exact hown4, hb4⟩
  | true =>
    have HK0 := Lib.hid hk0
    clear hk0
    by_cases hv60 : (60 : Int) < val.size
    case pos =>
      have HF : Hid (putC key val ds = ds) := by show _ = _; unfold putC; rw [if_pos (.inr (by omega))]
      go_enter Try.func49, Try.ntmps49
      go_wp2_with fail
      (go_at_call 50; refine (spec_KeyOk key _ hks).mono ?_; rintro e w' ⟨rfl, rfl⟩)
      rw [HK0.out]
      go_wp2_with (at_builtin; refine Stop.here ?_)
      refine wpList_appL rfl _ _ _ rfl Try.elemCellS (B := w.heap.size) (v := .slice (some ⟨w.heap.size, 0, none⟩) 0 0) (xs := []) (R := rCell) (OwnL.empty rCell _ w) rfl (ys := ds) (HR.out.alloc _) rfl (by simp only [List.length_nil]; (try simp only [List.length_append, List.length_nil]); omega) (by simp only [List.length_nil]; (try simp only [List.length_append, List.length_nil]); unfold maxLen; omega) (by simp [World.ext_size]; try omega) ?_
      intro v4 w4 hown4 hgr4 _
      have hb4 : Below w.heap.size w w4 := Below.appL (R := rCell) (e := 53) (v := .slice (some ⟨w.heap.size, 0, none⟩) 0 0) (xs := []) (by repeat (first | with_reducible exact Below.refl _ _ | with_reducible apply Below.ofExt | with_reducible apply Below.ofAlloc | with_reducible apply Below.drew | with_reducible apply Below.ofDrewN | with_reducible assumption | (with_reducible refine Below.setCell ?_ (by first | exact Nat.le_refl _ | (simp [go_sem]; done) | (simp [go_sem]; omega)) _))) hgr4 (OwnL.empty rCell _ w)
      clear hgr4
      go_wp2
      go_ret
      exact ⟨_, rfl, by rw [HF.out]; exact hown4, hb4⟩
    case neg =>
      by_cases hv : val.size = 0
      case pos =>
        obtain rfl : val = ⟨#[]⟩ := by
          obtain ⟨⟨l⟩⟩ := val
          have : l = [] := List.eq_nil_of_length_eq_zero hv
          subst this
          rfl
        go_enter Try.func49, Try.ntmps49
        go_wp2_with fail
        (go_at_call 50; refine (spec_KeyOk key _ hks).mono ?_; rintro e w' ⟨rfl, rfl⟩)
        rw [HK0.out]
        go_wp2
        go_loopw [7, 8, 9] (fun o dv k wr => ∃ (n : Nat) (xs : List CellD) (dn : Bool), k = .int .i64 n ∧ n ≤ ds.length ∧ dv = .bool dn ∧ Below w.heap.size w wr ∧ OwnL rCell 53 wr w.heap.size o xs ∧ xs = without key (ds.take n) ∧ dn = true) (fun _ _ k _ => ds.length - (intOf k).toNat)
        case atStart => exact ⟨0, [], true, rfl, by omega, rfl, (by repeat (first | with_reducible exact Below.refl _ _ | with_reducible apply Below.ofExt | with_reducible apply Below.ofAlloc | with_reducible apply Below.drew | with_reducible apply Below.ofDrewN | with_reducible assumption | (with_reducible refine Below.setCell ?_ (by first | exact Nat.le_refl _ | (simp [go_sem]; done) | (simp [go_sem]; omega)) _))), OwnL.empty rCell _ w, rfl, rfl⟩
        case round =>
          obtain ⟨n, xs, dn, rfl, hn, rfl, hbel, ho, hxs, hdn⟩ := hrel
          have hxl : xs.length ≤ n + 1 := by rw [hxs]; have := without_len key (ds.take n); rw [List.length_take] at this; omega
          obtain ⟨X, rfl⟩ := hbel.ext
          obtain ⟨oa, oc, rfl⟩ := ho.rd.form
          have HO := Lib.hid ho
          clear ho
          by_cases hlt : (n : Int) < ds.length
          case pos =>
            have hk : n < ds.length := by omega
            obtain ⟨b, off, rfl, hbl, hcell⟩ := HX.out (by intro e; simp [e] at hk)
            have hc := hcell n hk
            have hst : ds.take (n + 1) = ds.take n ++ [ds[n]] := List.take_succ_eq_append_getElem hk
            have hsd : (ds.take (n + 1)).any (gtKey key) = ((ds.take n).any (gtKey key) || gtKey key ds[n]) := by rw [hst, List.any_append]; simp
            generalize ds[n] = d at hc hst hsd
            have y0 : w.cell? ⟨b, off + n * 2, none⟩ = some (.string d.key) := hc 0 _ rfl
            have y1 : w.cell? ⟨b, off + n * 2 + 1, none⟩ = some (.string d.val) := hc 1 _ rfl
            clear hc hcell
            have hbl := hbl (by decide)
            have hbl2 : b < w.heap.size + X.bs.size := by omega
            have hbl3 : b < w.heap.size + X.bs.size + 1 := by omega
            have hbl4 : ¬ b = w.heap.size + X.bs.size := by omega
            subst hdn
            have hdn : true = true := rfl
            cases hik : isKey key d with
            | true =>
              have hke : (d.key.toList == key.toList) = true := hik
              have HS : Hid (without key (ds.take (n + 1)) = xs) := by show _ = _; rw [hst, hxs]; rw [without_snoc, hik, if_pos rfl, List.append_nil]
              have HD2 : Hid (true = true) := by show _ = _; rfl
              clear hst hsd hxs hdn
              go_wp2
              go_roundw
              case rel => exact ⟨n + 1, xs, _, by go_num, by omega, rfl, (by repeat (first | with_reducible exact Below.refl _ _ | with_reducible apply Below.ofExt | with_reducible apply Below.ofAlloc | with_reducible apply Below.drew | with_reducible apply Below.ofDrewN | with_reducible assumption | (with_reducible refine Below.setCell ?_ (by first | exact Nat.le_refl _ | (simp [go_sem]; done) | (simp [go_sem]; omega)) _))), (by (try simp only [← Array.append_assoc]); (repeat (first | with_reducible exact HO.out | with_reducible exact hown | with_reducible exact OwnL.drC HO.out | with_reducible apply OwnL.merge2 | with_reducible apply OwnL.ext | with_reducible apply OwnL.alloc)); all_goals exact (0 : Nat)), by rw [HS.out], rfl⟩
              case measure => simp [intOf]; omega
            | false =>
              have hke : (d.key.toList == key.toList) = false := hik
              have HS : Hid (without key (ds.take (n + 1)) = xs ++ [d]) := by show _ = _; rw [hst, hxs]; rw [without_snoc, hik]; rfl
              have HD2 : Hid (true = true) := by show _ = _; rfl
              clear hst hsd hxs hdn
              go_wp2_with (at_builtin; refine Stop.here ?_)
              refine wpList_appL rfl _ _ _ rfl Try.elemCellS (B := w.heap.size) (v := .slice oa xs.length oc) (xs := xs) (R := rCell) (by (try simp only [← Array.append_assoc]); (repeat (first | with_reducible exact HO.out | with_reducible exact hown | with_reducible exact OwnL.drC HO.out | with_reducible apply OwnL.merge2 | with_reducible apply OwnL.ext | with_reducible apply OwnL.alloc)); all_goals exact (0 : Nat)) rfl (ys := [d]) (RdL.oneAt rCell _ (d) _ rfl _ _ (by simp [World.ext_size])) rfl (by simp only [List.length_singleton]; (try simp only [List.length_append, List.length_singleton]); omega) (by simp only [List.length_singleton]; (try simp only [List.length_append, List.length_singleton]); unfold maxLen; omega) (by simp [World.ext_size]; try omega) ?_
              intro v4 w4 hown4 hgr4 _
              have hb4 : Below w.heap.size w w4 := Below.appL (R := rCell) (e := 53) (v := .slice oa xs.length oc) (xs := xs) (by repeat (first | with_reducible exact Below.refl _ _ | with_reducible apply Below.ofExt | with_reducible apply Below.ofAlloc | with_reducible apply Below.drew | with_reducible apply Below.ofDrewN | with_reducible assumption | (with_reducible refine Below.setCell ?_ (by first | exact Nat.le_refl _ | (simp [go_sem]; done) | (simp [go_sem]; omega)) _))) hgr4 (by (try simp only [← Array.append_assoc]); (repeat (first | with_reducible exact HO.out | with_reducible exact hown | with_reducible exact OwnL.drC HO.out | with_reducible apply OwnL.merge2 | with_reducible apply OwnL.ext | with_reducible apply OwnL.alloc)); all_goals exact (0 : Nat))
              clear hgr4
              go_wp2
              go_roundw
              case rel => exact ⟨n + 1, xs ++ [d], _, by go_num, by omega, rfl, hb4, hown4, by rw [HS.out], rfl⟩
              case measure => simp [intOf]; omega
          case neg =>
            have e : n = ds.length := by omega
            have HF : Hid (putC key ⟨#[]⟩ ds = xs) := by show _ = _; unfold putC; rw [if_neg (fun h => h.elim (fun h => by rw [HK0.out] at h; cases h) (fun h => absurd h (by decide))), if_pos hv, hxs, e, List.take_length]
            subst hdn
            clear hxs
            go_wp2
            go_ret
            exact ⟨_, rfl, by rw [HF.out]; exact HO.out, (by repeat (first | with_reducible exact Below.refl _ _ | with_reducible apply Below.ofExt | with_reducible apply Below.ofAlloc | with_reducible apply Below.drew | with_reducible apply Below.ofDrewN | with_reducible assumption | (with_reducible refine Below.setCell ?_ (by first | exact Nat.le_refl _ | (simp [go_sem]; done) | (simp [go_sem]; omega)) _)))⟩
      case neg =>
        have hve : (val.toList == []) = false := by
          obtain ⟨⟨l⟩⟩ := val
          cases l with
          | nil => exact absurd rfl hv
          | cons a l => exact beq_false_of_ne (by rw [bytes_toList]; exact List.cons_ne_nil _ _)
        go_enter Try.func49, Try.ntmps49
        go_wp2_with fail
        (go_at_call 50; refine (spec_KeyOk key _ hks).mono ?_; rintro e w' ⟨rfl, rfl⟩)
        rw [HK0.out]
        go_wp2
        go_loopw [7, 8, 9] (fun o dv k wr => ∃ (n : Nat) (xs : List CellD) (dn : Bool), k = .int .i64 n ∧ n ≤ ds.length ∧ dv = .bool dn ∧ Below w.heap.size w wr ∧ OwnL rCell 53 wr w.heap.size o xs ∧ xs = putUp key val (ds.take n) ∧ dn = (ds.take n).any (gtKey key)) (fun _ _ k _ => ds.length - (intOf k).toNat)
        case atStart => exact ⟨0, [], false, rfl, by omega, rfl, (by repeat (first | with_reducible exact Below.refl _ _ | with_reducible apply Below.ofExt | with_reducible apply Below.ofAlloc | with_reducible apply Below.drew | with_reducible apply Below.ofDrewN | with_reducible assumption | (with_reducible refine Below.setCell ?_ (by first | exact Nat.le_refl _ | (simp [go_sem]; done) | (simp [go_sem]; omega)) _))), OwnL.empty rCell _ w, rfl, rfl⟩
        case round =>
          obtain ⟨n, xs, dn, rfl, hn, rfl, hbel, ho, hxs, hdn⟩ := hrel
          have hxl : xs.length ≤ n + 1 := by rw [hxs]; have := putUp_len key val (ds.take n); rw [List.length_take] at this; omega
          obtain ⟨X, rfl⟩ := hbel.ext
          obtain ⟨oa, oc, rfl⟩ := ho.rd.form
          have HO := Lib.hid ho
          clear ho
          by_cases hlt : (n : Int) < ds.length
          case pos =>
            have hk : n < ds.length := by omega
            obtain ⟨b, off, rfl, hbl, hcell⟩ := HX.out (by intro e; simp [e] at hk)
            have hc := hcell n hk
            have hst : ds.take (n + 1) = ds.take n ++ [ds[n]] := List.take_succ_eq_append_getElem hk
            have hsd : (ds.take (n + 1)).any (gtKey key) = ((ds.take n).any (gtKey key) || gtKey key ds[n]) := by rw [hst, List.any_append]; simp
            generalize ds[n] = d at hc hst hsd
            have y0 : w.cell? ⟨b, off + n * 2, none⟩ = some (.string d.key) := hc 0 _ rfl
            have y1 : w.cell? ⟨b, off + n * 2 + 1, none⟩ = some (.string d.val) := hc 1 _ rfl
            clear hc hcell
            have hbl := hbl (by decide)
            have hbl2 : b < w.heap.size + X.bs.size := by omega
            have hbl3 : b < w.heap.size + X.bs.size + 1 := by omega
            have hbl4 : ¬ b = w.heap.size + X.bs.size := by omega
            skip
            skip
            cases hgt : gtKey key d with
            | true =>
              have hik := gtKey_not hgt
              have hle := less_gt hgt
              have hge : Op.bytesLess key.toList d.key.toList = true := hgt
              have hke : (d.key.toList == key.toList) = false := hik
              cases dn with
              | true =>
                have HS : Hid (putUp key val (ds.take (n + 1)) = xs ++ [d]) := by show _ = _; rw [hst, hxs]; exact putUp_other hik (.inl hdn.symm)
                have HD2 : Hid ((ds.take (n + 1)).any (gtKey key) = true) := by show _ = _; rw [hsd, ← hdn]; rfl
                clear hst hsd hxs hdn
                go_wp2_with (at_builtin; refine Stop.here ?_)
                refine wpList_appL rfl _ _ _ rfl Try.elemCellS (B := w.heap.size) (v := .slice oa xs.length oc) (xs := xs) (R := rCell) (by (try simp only [← Array.append_assoc]); (repeat (first | with_reducible exact HO.out | with_reducible exact hown | with_reducible exact OwnL.drC HO.out | with_reducible apply OwnL.merge2 | with_reducible apply OwnL.ext | with_reducible apply OwnL.alloc)); all_goals exact (0 : Nat)) rfl (ys := [d]) (RdL.oneAt rCell _ (d) _ rfl _ _ (by simp [World.ext_size])) rfl (by simp only [List.length_singleton]; (try simp only [List.length_append, List.length_singleton]); omega) (by simp only [List.length_singleton]; (try simp only [List.length_append, List.length_singleton]); unfold maxLen; omega) (by simp [World.ext_size]; try omega) ?_
                intro v4 w4 hown4 hgr4 _
                have hb4 : Below w.heap.size w w4 := Below.appL (R := rCell) (e := 53) (v := .slice oa xs.length oc) (xs := xs) (by repeat (first | with_reducible exact Below.refl _ _ | with_reducible apply Below.ofExt | with_reducible apply Below.ofAlloc | with_reducible apply Below.drew | with_reducible apply Below.ofDrewN | with_reducible assumption | (with_reducible refine Below.setCell ?_ (by first | exact Nat.le_refl _ | (simp [go_sem]; done) | (simp [go_sem]; omega)) _))) hgr4 (by (try simp only [← Array.append_assoc]); (repeat (first | with_reducible exact HO.out | with_reducible exact hown | with_reducible exact OwnL.drC HO.out | with_reducible apply OwnL.merge2 | with_reducible apply OwnL.ext | with_reducible apply OwnL.alloc)); all_goals exact (0 : Nat))
                clear hgr4
                go_wp2
                go_roundw
                case rel => exact ⟨n + 1, xs ++ [d], _, by go_num, by omega, rfl, hb4, hown4, by rw [HS.out], by rw [HD2.out]⟩
                case measure => simp [intOf]; omega
              | false =>
                have HS : Hid (putUp key val (ds.take (n + 1)) = (xs ++ [CellD.mk key val]) ++ [d]) := by show _ = _; rw [hst, hxs]; exact putUp_first hdn.symm hgt
                have HD2 : Hid ((ds.take (n + 1)).any (gtKey key) = true) := by show _ = _; rw [hsd, hgt, Bool.or_true]
                clear hst hsd hxs hdn
                go_wp2_with (at_builtin; refine Stop.here ?_)
                refine wpList_appL rfl _ _ _ rfl Try.elemCellS (B := w.heap.size) (v := .slice oa xs.length oc) (xs := xs) (R := rCell) (by (try simp only [← Array.append_assoc]); (repeat (first | with_reducible exact HO.out | with_reducible exact hown | with_reducible exact OwnL.drC HO.out | with_reducible apply OwnL.merge2 | with_reducible apply OwnL.ext | with_reducible apply OwnL.alloc)); all_goals exact (0 : Nat)) rfl (ys := [CellD.mk key val]) (RdL.oneAt rCell _ (CellD.mk key val) _ rfl _ _ (by simp [World.ext_size])) rfl (by simp only [List.length_singleton]; (try simp only [List.length_append, List.length_singleton]); omega) (by simp only [List.length_singleton]; (try simp only [List.length_append, List.length_singleton]); unfold maxLen; omega) (by simp [World.ext_size]; try omega) ?_
                intro v4 w4 hown4 hgr4 _
                have hb4 : Below w.heap.size w w4 := Below.appL (R := rCell) (e := 53) (v := .slice oa xs.length oc) (xs := xs) (by repeat (first | with_reducible exact Below.refl _ _ | with_reducible apply Below.ofExt | with_reducible apply Below.ofAlloc | with_reducible apply Below.drew | with_reducible apply Below.ofDrewN | with_reducible assumption | (with_reducible refine Below.setCell ?_ (by first | exact Nat.le_refl _ | (simp [go_sem]; done) | (simp [go_sem]; omega)) _))) hgr4 (by (try simp only [← Array.append_assoc]); (repeat (first | with_reducible exact HO.out | with_reducible exact hown | with_reducible exact OwnL.drC HO.out | with_reducible apply OwnL.merge2 | with_reducible apply OwnL.ext | with_reducible apply OwnL.alloc)); all_goals exact (0 : Nat))
                clear hgr4
                obtain ⟨X4, rfl⟩ := hb4.ext
                obtain ⟨pa, pc, ev⟩ := hown4.rd.form
                subst ev
                have HO4 : Hid (OwnL rCell 53 (w.ext X4) w.heap.size (.slice pa (xs.length + 1) pc) (xs ++ [CellD.mk key val])) := by
                  rw [List.length_append, List.length_singleton] at hown4
                  exact hown4
                clear hown4 hb4
                go_wp2_with (at_builtin; refine Stop.here ?_)
                refine wpList_appL rfl _ _ _ rfl Try.elemCellS (B := w.heap.size) (v := .slice pa (xs.length + 1) pc) (xs := xs ++ [CellD.mk key val]) (R := rCell) (by (try simp only [← Array.append_assoc]); (repeat (first | with_reducible exact HO4.out | with_reducible exact hown | with_reducible exact OwnL.drC HO4.out | with_reducible apply OwnL.merge2 | with_reducible apply OwnL.ext | with_reducible apply OwnL.alloc)); all_goals exact (0 : Nat)) rfl (ys := [d]) (RdL.oneAt rCell _ (d) _ rfl _ _ (by simp [World.ext_size])) rfl (by simp only [List.length_singleton]; (try simp only [List.length_append, List.length_singleton]); omega) (by simp only [List.length_singleton]; (try simp only [List.length_append, List.length_singleton]); unfold maxLen; omega) (by simp [World.ext_size]; try omega) ?_
                intro v5 w5 hown5 hgr5 _
                have hb5 : Below w.heap.size w w5 := Below.appL (R := rCell) (e := 53) (v := .slice pa (xs.length + 1) pc) (xs := xs ++ [CellD.mk key val]) (by repeat (first | with_reducible exact Below.refl _ _ | with_reducible apply Below.ofExt | with_reducible apply Below.ofAlloc | with_reducible apply Below.drew | with_reducible apply Below.ofDrewN | with_reducible assumption | (with_reducible refine Below.setCell ?_ (by first | exact Nat.le_refl _ | (simp [go_sem]; done) | (simp [go_sem]; omega)) _))) hgr5 (by (try simp only [← Array.append_assoc]); (repeat (first | with_reducible exact HO4.out | with_reducible exact hown | with_reducible exact OwnL.drC HO4.out | with_reducible apply OwnL.merge2 | with_reducible apply OwnL.ext | with_reducible apply OwnL.alloc)); all_goals exact (0 : Nat))
                clear hgr5
                go_wp2
                go_roundw
                case rel => exact ⟨n + 1, (xs ++ [CellD.mk key val]) ++ [d], _, by go_num, by omega, rfl, hb5, hown5, by rw [HS.out], by rw [HD2.out]⟩
                case measure => simp [intOf]; omega
            | false =>
              have hge : Op.bytesLess key.toList d.key.toList = false := hgt
              cases hik : isKey key d with
              | true =>
                have hle := less_same hik
                have hke : (d.key.toList == key.toList) = true := hik
                cases dn with
                | true =>
                  have HS : Hid (putUp key val (ds.take (n + 1)) = xs) := by show _ = _; rw [hst, hxs]; exact putUp_same hik
                  have HD2 : Hid ((ds.take (n + 1)).any (gtKey key) = true) := by show _ = _; rw [hsd, ← hdn, hgt]; rfl
                  clear hst hsd hxs hdn
                  go_wp2
                  go_roundw
                  case rel => exact ⟨n + 1, xs, _, by go_num, by omega, rfl, (by repeat (first | with_reducible exact Below.refl _ _ | with_reducible apply Below.ofExt | with_reducible apply Below.ofAlloc | with_reducible apply Below.drew | with_reducible apply Below.ofDrewN | with_reducible assumption | (with_reducible refine Below.setCell ?_ (by first | exact Nat.le_refl _ | (simp [go_sem]; done) | (simp [go_sem]; omega)) _))), (by (try simp only [← Array.append_assoc]); (repeat (first | with_reducible exact HO.out | with_reducible exact hown | with_reducible exact OwnL.drC HO.out | with_reducible apply OwnL.merge2 | with_reducible apply OwnL.ext | with_reducible apply OwnL.alloc)); all_goals exact (0 : Nat)), by rw [HS.out], by rw [HD2.out]⟩
                  case measure => simp [intOf]; omega
                | false =>
                  have HS : Hid (putUp key val (ds.take (n + 1)) = xs) := by show _ = _; rw [hst, hxs]; exact putUp_same hik
                  have HD2 : Hid ((ds.take (n + 1)).any (gtKey key) = false) := by show _ = _; rw [hsd, ← hdn, hgt]; rfl
                  clear hst hsd hxs hdn
                  go_wp2
                  go_roundw
                  case rel => exact ⟨n + 1, xs, _, by go_num, by omega, rfl, (by repeat (first | with_reducible exact Below.refl _ _ | with_reducible apply Below.ofExt | with_reducible apply Below.ofAlloc | with_reducible apply Below.drew | with_reducible apply Below.ofDrewN | with_reducible assumption | (with_reducible refine Below.setCell ?_ (by first | exact Nat.le_refl _ | (simp [go_sem]; done) | (simp [go_sem]; omega)) _))), (by (try simp only [← Array.append_assoc]); (repeat (first | with_reducible exact HO.out | with_reducible exact hown | with_reducible exact OwnL.drC HO.out | with_reducible apply OwnL.merge2 | with_reducible apply OwnL.ext | with_reducible apply OwnL.alloc)); all_goals exact (0 : Nat)), by rw [HS.out], by rw [HD2.out]⟩
                  case measure => simp [intOf]; omega
              | false =>
                have hle := less_other hgt hik
                have hke : (d.key.toList == key.toList) = false := hik
                cases dn with
                | true =>
                  have HS : Hid (putUp key val (ds.take (n + 1)) = xs ++ [d]) := by show _ = _; rw [hst, hxs]; exact putUp_other hik (.inr hgt)
                  have HD2 : Hid ((ds.take (n + 1)).any (gtKey key) = true) := by show _ = _; rw [hsd, ← hdn]; rw [hgt]; rfl
                  clear hst hsd hxs hdn
                  go_wp2_with (at_builtin; refine Stop.here ?_)
                  refine wpList_appL rfl _ _ _ rfl Try.elemCellS (B := w.heap.size) (v := .slice oa xs.length oc) (xs := xs) (R := rCell) (by (try simp only [← Array.append_assoc]); (repeat (first | with_reducible exact HO.out | with_reducible exact hown | with_reducible exact OwnL.drC HO.out | with_reducible apply OwnL.merge2 | with_reducible apply OwnL.ext | with_reducible apply OwnL.alloc)); all_goals exact (0 : Nat)) rfl (ys := [d]) (RdL.oneAt rCell _ (d) _ rfl _ _ (by simp [World.ext_size])) rfl (by simp only [List.length_singleton]; (try simp only [List.length_append, List.length_singleton]); omega) (by simp only [List.length_singleton]; (try simp only [List.length_append, List.length_singleton]); unfold maxLen; omega) (by simp [World.ext_size]; try omega) ?_
                  intro v4 w4 hown4 hgr4 _
                  have hb4 : Below w.heap.size w w4 := Below.appL (R := rCell) (e := 53) (v := .slice oa xs.length oc) (xs := xs) (by repeat (first | with_reducible exact Below.refl _ _ | with_reducible apply Below.ofExt | with_reducible apply Below.ofAlloc | with_reducible apply Below.drew | with_reducible apply Below.ofDrewN | with_reducible assumption | (with_reducible refine Below.setCell ?_ (by first | exact Nat.le_refl _ | (simp [go_sem]; done) | (simp [go_sem]; omega)) _))) hgr4 (by (try simp only [← Array.append_assoc]); (repeat (first | with_reducible exact HO.out | with_reducible exact hown | with_reducible exact OwnL.drC HO.out | with_reducible apply OwnL.merge2 | with_reducible apply OwnL.ext | with_reducible apply OwnL.alloc)); all_goals exact (0 : Nat))
                  clear hgr4
                  go_wp2
                  go_roundw
                  case rel => exact ⟨n + 1, xs ++ [d], _, by go_num, by omega, rfl, hb4, hown4, by rw [HS.out], by rw [HD2.out]⟩
                  case measure => simp [intOf]; omega
                | false =>
                  have HS : Hid (putUp key val (ds.take (n + 1)) = xs ++ [d]) := by show _ = _; rw [hst, hxs]; exact putUp_other hik (.inr hgt)
                  have HD2 : Hid ((ds.take (n + 1)).any (gtKey key) = false) := by show _ = _; rw [hsd, ← hdn]; rw [hgt]; rfl
                  clear hst hsd hxs hdn
                  go_wp2_with (at_builtin; refine Stop.here ?_)
                  refine wpList_appL rfl _ _ _ rfl Try.elemCellS (B := w.heap.size) (v := .slice oa xs.length oc) (xs := xs) (R := rCell) (by (try simp only [← Array.append_assoc]); (repeat (first | with_reducible exact HO.out | with_reducible exact hown | with_reducible exact OwnL.drC HO.out | with_reducible apply OwnL.merge2 | with_reducible apply OwnL.ext | with_reducible apply OwnL.alloc)); all_goals exact (0 : Nat)) rfl (ys := [d]) (RdL.oneAt rCell _ (d) _ rfl _ _ (by simp [World.ext_size])) rfl (by simp only [List.length_singleton]; (try simp only [List.length_append, List.length_singleton]); omega) (by simp only [List.length_singleton]; (try simp only [List.length_append, List.length_singleton]); unfold maxLen; omega) (by simp [World.ext_size]; try omega) ?_
                  intro v4 w4 hown4 hgr4 _
                  have hb4 : Below w.heap.size w w4 := Below.appL (R := rCell) (e := 53) (v := .slice oa xs.length oc) (xs := xs) (by repeat (first | with_reducible exact Below.refl _ _ | with_reducible apply Below.ofExt | with_reducible apply Below.ofAlloc | with_reducible apply Below.drew | with_reducible apply Below.ofDrewN | with_reducible assumption | (with_reducible refine Below.setCell ?_ (by first | exact Nat.le_refl _ | (simp [go_sem]; done) | (simp [go_sem]; omega)) _))) hgr4 (by (try simp only [← Array.append_assoc]); (repeat (first | with_reducible exact HO.out | with_reducible exact hown | with_reducible exact OwnL.drC HO.out | with_reducible apply OwnL.merge2 | with_reducible apply OwnL.ext | with_reducible apply OwnL.alloc)); all_goals exact (0 : Nat))
                  clear hgr4
                  go_wp2
                  go_roundw
                  case rel => exact ⟨n + 1, xs ++ [d], _, by go_num, by omega, rfl, hb4, hown4, by rw [HS.out], by rw [HD2.out]⟩
                  case measure => simp [intOf]; omega
          case neg =>
            have e : n = ds.length := by omega
            have hf : putC key val ds = if dn then xs else xs ++ [CellD.mk key val] := by
              unfold putC
              rw [if_neg (fun h => h.elim (fun h => by rw [HK0.out] at h; cases h) (fun h => absurd h (by omega))), if_neg hv, ← putUp_end (val := val), hxs, hdn, e, List.take_length]
            have HF := Lib.hid hf
            clear hxs hf
            cases dn with
            | true =>
              clear hdn
              go_wp2
              go_ret
              exact ⟨_, rfl, by rw [HF.out]; exact HO.out, (by repeat (first | with_reducible exact Below.refl _ _ | with_reducible apply Below.ofExt | with_reducible apply Below.ofAlloc | with_reducible apply Below.drew | with_reducible apply Below.ofDrewN | with_reducible assumption | (with_reducible refine Below.setCell ?_ (by first | exact Nat.le_refl _ | (simp [go_sem]; done) | (simp [go_sem]; omega)) _)))⟩
            | false =>
              clear hdn
              go_wp2_with (at_builtin; refine Stop.here ?_)
              refine wpList_appL rfl _ _ _ rfl Try.elemCellS (B := w.heap.size) (v := .slice oa xs.length oc) (xs := xs) (R := rCell) (by (try simp only [← Array.append_assoc]); (repeat (first | with_reducible exact HO.out | with_reducible exact hown | with_reducible exact OwnL.drC HO.out | with_reducible apply OwnL.merge2 | with_reducible apply OwnL.ext | with_reducible apply OwnL.alloc)); all_goals exact (0 : Nat)) rfl (ys := [CellD.mk key val]) (RdL.oneAt rCell _ (CellD.mk key val) _ rfl _ _ (by simp [World.ext_size])) rfl (by simp only [List.length_singleton]; (try simp only [List.length_append, List.length_singleton]); omega) (by simp only [List.length_singleton]; (try simp only [List.length_append, List.length_singleton]); unfold maxLen; omega) (by simp [World.ext_size]; try omega) ?_
              intro v4 w4 hown4 hgr4 _
              have hb4 : Below w.heap.size w w4 := Below.appL (R := rCell) (e := 53) (v := .slice oa xs.length oc) (xs := xs) (by repeat (first | with_reducible exact Below.refl _ _ | with_reducible apply Below.ofExt | with_reducible apply Below.ofAlloc | with_reducible apply Below.drew | with_reducible apply Below.ofDrewN | with_reducible assumption | (with_reducible refine Below.setCell ?_ (by first | exact Nat.le_refl _ | (simp [go_sem]; done) | (simp [go_sem]; omega)) _))) hgr4 (by (try simp only [← Array.append_assoc]); (repeat (first | with_reducible exact HO.out | with_reducible exact hown | with_reducible exact OwnL.drC HO.out | with_reducible apply OwnL.merge2 | with_reducible apply OwnL.ext | with_reducible apply OwnL.alloc)); all_goals exact (0 : Nat))
              clear hgr4
              go_wp2
              go_ret
              exact ⟨_, rfl, by rw [HF.out]; exact hown4, hb4⟩
end Go.Proofs.Ytmhopglbgaijiaa
