/- Whether a transaction is older than all that are named, of a list: the program's and the reference's. Each condition stands in its theorem. -/
import Derived.Test.YtmhopglbgaijiaaYounger
import Derived.Test.YtmhopglbgaijiaaFindTx
set_option linter.unusedVariables false
set_option linter.unusedSimpArgs false
namespace Go.Proofs.Ytmhopglbgaijiaa
open Go.ChangeShapes Go.WideShapes Go.ChangeAt Go.RowKit

set_option maxRecDepth 100000 in
theorem young_IndexFunc (v : Value) (ds : List TxD) (vi : Value) (ids : List Int) (cx : List Value) (x : TxD) (bi bx : Nat) {e2 : TypeId} (w : World) {e : TypeId} (hs : (vSlice vTx e).rd w [v] ds) (hi : (vSlice vInt e2).rd w [vi] ids) (hx : vTx.rd w cx x) (hbi : bi < w.heap.size) (hbx : bx < w.heap.size) (hci : w.cell? ⟨bi, 0, none⟩ = some vi) (hcx : ∀ j u, cx[j]? = some u → w.cell? ⟨bx, j, none⟩ = some u) :
    Calls Try.prog 61 #[v, .func (Fn.func 37) #[] #[.pointer (some ⟨bi, 0, none⟩), .pointer (some ⟨bx, 0, none⟩)]] w fun e w' => e = .returned (.int .i64 (firstIdx (notYet ids x) ds)) ∧ Below w.heap.size w w' := by
  obtain ⟨ao, cap, rfl, hc1, hc2, hnil, hcell⟩ := vSlice.shape hs
  have HX := Lib.hid hcell
  clear hcell hnil
  unfold maxLen at hc2
  clear hs
  have HI := Lib.hid hi
  have HXX := Lib.hid hx
  have HCI := Lib.hid hci
  have HCX := Lib.hid hcx
  clear hi hx hci hcx
  go_enter Try.func61, Try.ntmps61
  go_wp2
  go_loopw [8] (fun k wr => ∃ (n : Nat), k = .int .i64 n ∧ n ≤ ds.length ∧ Below w.heap.size w wr ∧ (ds.take n).any (notYet ids x) = false) (fun k _ => ds.length - (intOf k).toNat)
  case atStart => exact ⟨0, rfl, by omega, (by repeat (first | with_reducible exact Below.refl _ _ | with_reducible apply Below.ofExt | with_reducible apply Below.ofAlloc | with_reducible apply Below.drew | with_reducible apply Below.ofDrewN | with_reducible assumption | (with_reducible refine Below.setCell ?_ (by first | exact Nat.le_refl _ | (simp [go_sem]; done) | (simp [go_sem]; omega)) _))), rfl⟩
  case round =>
    obtain ⟨n, rfl, hn, hbel, hany⟩ := hrel
    obtain ⟨X, rfl⟩ := hbel.ext
    have HA := Lib.hid hany
    clear hany
    by_cases hlt : (n : Int) < ds.length
    · have hk : n < ds.length := by omega
      obtain ⟨b, off, cs, rfl, hbly, hrd, hcell⟩ := HX.out n hk
      have hst := any_take_step (notYet ids x) ds n hk
      have hff : (ds.take n).any (notYet ids x) = false → (notYet ids x) ds[n] = true → firstIdx (notYet ids x) ds = n := fun h h2 => firstIdx_found (notYet ids x) ds n hk h h2
      generalize ds[n] = d at hrd hst hff
      have HD := Lib.hid hrd
      obtain ⟨a0, c0, a1, c1, a2, c2, a3, c3, a4, c4, rfl⟩ := vTx_shape hrd
      clear hrd
      have y0 := hcell 0 _ rfl
      have y1 := hcell 1 _ rfl
      have y2 := hcell 2 _ rfl
      have y3 := hcell 3 _ rfl
      have y4 := hcell 4 _ rfl
      have y5 := hcell 5 _ rfl
      have y6 := hcell 6 _ rfl
      have y7 := hcell 7 _ rfl
      have y8 := hcell 8 _ rfl
      have y9 := hcell 9 _ rfl
      clear hcell
      simp only [show vTx.k = 10 from rfl, Nat.add_zero] at y0 y1 y2 y3 y4 y5 y6 y7 y8 y9
      have HT := Lib.hid hst
      have HF := Lib.hid hff
      clear hst hff
      cases hm : (notYet ids x) d with
      | true =>
        have HM := Lib.hid hm
        go_wp2_with fail
        (go_at_call 37; refine (impl_YoungerAll1 _ d vi ids cx x bi bx _ (by (try simp only [← Array.append_assoc]); (repeat (first | with_reducible exact HD.out | with_reducible apply View.rdMerge | with_reducible apply View.rdExt | with_reducible apply View.rdAlloc | with_reducible apply View.rdDrew)); all_goals exact (0 : Nat)) (by (try simp only [← Array.append_assoc]); (repeat (first | with_reducible exact HI.out | with_reducible apply View.rdMerge | with_reducible apply View.rdExt | with_reducible apply View.rdAlloc | with_reducible apply View.rdDrew)); all_goals exact (0 : Nat)) (by (try simp only [← Array.append_assoc]); (repeat (first | with_reducible exact HXX.out | with_reducible apply View.rdMerge | with_reducible apply View.rdExt | with_reducible apply View.rdAlloc | with_reducible apply View.rdDrew)); all_goals exact (0 : Nat)) (by simp [go_sem]; omega) (by simp [go_sem]; omega) ((Grew.ext _ _).cell HCI.out) (fun j u hj => (Grew.ext _ _).cell (HCX.out j u hj))).mono ?_; rintro e w' ⟨rfl, hb⟩; obtain ⟨X, rfl⟩ := hb.ext; clear hb)
        rw [HM.out]
        go_wp2
        go_ret
        exact ⟨by rw [HF.out HA.out HM.out]; rfl, (by repeat (first | with_reducible exact Below.refl _ _ | with_reducible apply Below.ofExt | with_reducible apply Below.ofAlloc | with_reducible apply Below.drew | with_reducible apply Below.ofDrewN | with_reducible assumption | (with_reducible refine Below.setCell ?_ (by first | exact Nat.le_refl _ | (simp [go_sem]; done) | (simp [go_sem]; omega)) _)))⟩
      | false =>
        have HM := Lib.hid hm
        go_wp2_with fail
        (go_at_call 37; refine (impl_YoungerAll1 _ d vi ids cx x bi bx _ (by (try simp only [← Array.append_assoc]); (repeat (first | with_reducible exact HD.out | with_reducible apply View.rdMerge | with_reducible apply View.rdExt | with_reducible apply View.rdAlloc | with_reducible apply View.rdDrew)); all_goals exact (0 : Nat)) (by (try simp only [← Array.append_assoc]); (repeat (first | with_reducible exact HI.out | with_reducible apply View.rdMerge | with_reducible apply View.rdExt | with_reducible apply View.rdAlloc | with_reducible apply View.rdDrew)); all_goals exact (0 : Nat)) (by (try simp only [← Array.append_assoc]); (repeat (first | with_reducible exact HXX.out | with_reducible apply View.rdMerge | with_reducible apply View.rdExt | with_reducible apply View.rdAlloc | with_reducible apply View.rdDrew)); all_goals exact (0 : Nat)) (by simp [go_sem]; omega) (by simp [go_sem]; omega) ((Grew.ext _ _).cell HCI.out) (fun j u hj => (Grew.ext _ _).cell (HCX.out j u hj))).mono ?_; rintro e w' ⟨rfl, hb⟩; obtain ⟨X, rfl⟩ := hb.ext; clear hb)
        rw [HM.out]
        go_wp2
        go_roundw
        case rel => exact ⟨n + 1, by go_num, by omega, (by repeat (first | with_reducible exact Below.refl _ _ | with_reducible apply Below.ofExt | with_reducible apply Below.ofAlloc | with_reducible apply Below.drew | with_reducible apply Below.ofDrewN | with_reducible assumption | (with_reducible refine Below.setCell ?_ (by first | exact Nat.le_refl _ | (simp [go_sem]; done) | (simp [go_sem]; omega)) _))), by rw [HT.out, HA.out, HM.out]; rfl⟩
        case measure => simp [intOf]; omega
    · go_wp2
      go_ret
      have e : n = ds.length := by omega
      subst e
      have ha := HA.out
      rw [List.take_length] at ha
      exact ⟨by rw [firstIdx_none (notYet ids x) ds ha]; rfl, (by repeat (first | with_reducible exact Below.refl _ _ | with_reducible apply Below.ofExt | with_reducible apply Below.ofAlloc | with_reducible apply Below.drew | with_reducible apply Below.ofDrewN | with_reducible assumption | (with_reducible refine Below.setCell ?_ (by first | exact Nat.le_refl _ | (simp [go_sem]; done) | (simp [go_sem]; omega)) _)))⟩
theorem young_ContainsFunc (v : Value) (ds : List TxD) (vi : Value) (ids : List Int) (cx : List Value) (x : TxD) (bi bx : Nat) {e2 : TypeId} (w : World) {e : TypeId} (hs : (vSlice vTx e).rd w [v] ds) (hi : (vSlice vInt e2).rd w [vi] ids) (hx : vTx.rd w cx x)
    (hbi : bi < w.heap.size) (hbx : bx < w.heap.size) (hci : w.cell? ⟨bi, 0, none⟩ = some vi) (hcx : ∀ j u, cx[j]? = some u → w.cell? ⟨bx, j, none⟩ = some u) :
    Calls Try.prog 36 #[v, .func (Fn.func 37) #[] #[.pointer (some ⟨bi, 0, none⟩), .pointer (some ⟨bx, 0, none⟩)]] w fun e w' => e = .returned (.bool (ds.any (notYet ids x))) ∧ Below w.heap.size w w' := by
  have hg := firstIdx_ge (notYet ids x) ds
  have HG := Lib.hid hg
  obtain ⟨a0, c0, rfl⟩ := vSlice.form hs
  have HS := Lib.hid hs
  have HI := Lib.hid hi
  have HXX := Lib.hid hx
  have HCI := Lib.hid hci
  have HCX := Lib.hid hcx
  clear hg hs hi hx hci hcx
  go_enter Try.func36, Try.ntmps36
  go_wp2_with fail
  (go_at_call 61; refine (young_IndexFunc _ ds vi ids cx x bi bx _ HS.out HI.out HXX.out hbi hbx HCI.out HCX.out).mono ?_; rintro e w' ⟨rfl, hb⟩; obtain ⟨X, rfl⟩ := hb.ext; clear hb)
  go_wp2
  go_ret
  exact ⟨by rw [← HG.out]; rfl, (by repeat (first | with_reducible exact Below.refl _ _ | with_reducible apply Below.ofExt | with_reducible apply Below.ofAlloc | with_reducible apply Below.drew | with_reducible apply Below.ofDrewN | with_reducible assumption | (with_reducible refine Below.setCell ?_ (by first | exact Nat.le_refl _ | (simp [go_sem]; done) | (simp [go_sem]; omega)) _)))⟩
def youngerAll (ds : List TxD) (ids : List Int) (x : TxD) : Bool := !ds.any (notYet ids x)
theorem impl_YoungerAll (v : Value) (ds : List TxD) (vi : Value) (ids : List Int) (cx : List Value) (x : TxD) (w : World) {e e2 : TypeId} (hs : (vSlice vTx e).rd w [v] ds) (hi : (vSlice vInt e2).rd w [vi] ids) (hx : vTx.rd w cx x) :
    Calls Try.prog 16 #[v, vi, .agg cx.toArray] w fun e w' => e = .returned (.bool (youngerAll ds ids x)) ∧ Below w.heap.size w w' := by
  obtain ⟨a0, c0, rfl⟩ := vSlice.form hs
  obtain ⟨ai, ci, rfl⟩ := vSlice.form hi
  have HS := Lib.hid hs
  have HI := Lib.hid hi
  have HXX := Lib.hid hx
  obtain ⟨p0, q0, p1, q1, p2, q2, p3, q3, p4, q4, rfl⟩ := vTx_shape hx
  clear hs hi hx
  go_enter Try.func16, Try.ntmps16
  go_wp2_with fail
  (go_at_call 36; refine (young_ContainsFunc _ ds _ ids _ x _ _ _ (by (try simp only [← Array.append_assoc]); (repeat (first | with_reducible exact HS.out | with_reducible apply View.rdMerge | with_reducible apply View.rdExt | with_reducible apply View.rdAlloc | with_reducible apply View.rdDrew)); all_goals exact (0 : Nat)) (by (try simp only [← Array.append_assoc]); (repeat (first | with_reducible exact HI.out | with_reducible apply View.rdMerge | with_reducible apply View.rdExt | with_reducible apply View.rdAlloc | with_reducible apply View.rdDrew)); all_goals exact (0 : Nat)) (by (try simp only [← Array.append_assoc]); (repeat (first | with_reducible exact HXX.out | with_reducible apply View.rdMerge | with_reducible apply View.rdExt | with_reducible apply View.rdAlloc | with_reducible apply View.rdDrew)); all_goals exact (0 : Nat)) (by simp [go_sem]) (by simp [go_sem]) (by simp [go_sem]) (fun j u hj => (World.cell?_of_get (heap_alloc2_new w _ _)).trans (by simpa using hj))).mono ?_; rintro e w' ⟨rfl, hb⟩; obtain ⟨X, rfl⟩ := hb.ext; clear hb)
  go_wp2
  go_ret
  exact ⟨rfl, (by repeat (first | with_reducible exact Below.refl _ _ | with_reducible apply Below.ofExt | with_reducible apply Below.ofAlloc | with_reducible apply Below.drew | with_reducible apply Below.ofDrewN | with_reducible assumption | (with_reducible refine Below.setCell ?_ (by first | exact Nat.le_refl _ | (simp [go_sem]; done) | (simp [go_sem]; omega)) _)))⟩
set_option maxRecDepth 100000 in
set_option maxHeartbeats 4000000 in
theorem spec_YoungerAll (v : Value) (ds : List TxD) (vi : Value) (ids : List Int) (cx : List Value) (x : TxD) (w : World) {e e2 : TypeId} (hs : (vSlice vTx e).rd w [v] ds) (hi : (vSlice vInt e2).rd w [vi] ids) (hx : vTx.rd w cx x) :
    Calls Try.prog 17 #[v, vi, .agg cx.toArray] w fun e w' => e = .returned (.bool (youngerAll ds ids x)) ∧ Below w.heap.size w w' := by
  obtain ⟨ao, cap, rfl, hc1, hc2, hnil, hcell⟩ := vSlice.shape hs
  have HX := Lib.hid hcell
  clear hcell hnil
  unfold maxLen at hc2
  clear hs
  obtain ⟨ai, ci, rfl⟩ := vSlice.form hi
  have HI := Lib.hid hi
  have HXX := Lib.hid hx
  obtain ⟨p0, q0, p1, q1, p2, q2, p3, q3, p4, q4, rfl⟩ := vTx_shape hx
  clear hi hx
  go_enter Try.func17, Try.ntmps17
  go_wp2
  go_loopw [7] (fun k wr => ∃ (n : Nat) (X : Ext), k = .int .i64 n ∧ n ≤ ds.length ∧ wr = (w.alloc (.cells #[.int .i64 x.id, .int .i64 x.age, .int .i64 x.proc, .int .i64 x.began, .slice p0 x.calls.length q0, .slice p1 x.answers.length q1, .slice p2 x.touch.reads.length q2, .slice p3 x.touch.writes.length q3, .slice p4 x.marks.length q4, .int .i64 x.state] 31)).ext X ∧ (ds.take n).any (notYet ids x) = false) (fun k _ => ds.length - (intOf k).toNat)
  case atStart => exact ⟨0, ⟨#[], _⟩, rfl, by omega, (World.ext_nil _ _ rfl).symm, rfl⟩
  case round =>
    obtain ⟨n, X, rfl, hn, rfl, hany⟩ := hrel
    have HA := Lib.hid hany
    clear hany
    by_cases hlt : (n : Int) < ds.length
    · have hk : n < ds.length := by omega
      obtain ⟨b, off, cs, rfl, hbly, hrd, hcell⟩ := HX.out n hk
      have hst := any_take_step (notYet ids x) ds n hk
      generalize ds[n] = d at hrd hst
      have HD := Lib.hid hrd
      obtain ⟨a0, c0, a1, c1, a2, c2, a3, c3, a4, c4, rfl⟩ := vTx_shape hrd
      clear hrd
      have y0 := hcell 0 _ rfl
      have y1 := hcell 1 _ rfl
      have y2 := hcell 2 _ rfl
      have y3 := hcell 3 _ rfl
      have y4 := hcell 4 _ rfl
      have y5 := hcell 5 _ rfl
      have y6 := hcell 6 _ rfl
      have y7 := hcell 7 _ rfl
      have y8 := hcell 8 _ rfl
      have y9 := hcell 9 _ rfl
      clear hcell
      simp only [show vTx.k = 10 from rfl, Nat.add_zero] at y0 y1 y2 y3 y4 y5 y6 y7 y8 y9
      have HT := Lib.hid hst
      clear hst
      have hm : notYet ids x d = notYet ids x d := rfl
      conv at hm => rhs; unfold notYet
      cases h1 : ids.any (isNum d.id) with
      | false =>
        rw [h1, Bool.false_and] at hm
        have HM := Lib.hid hm
        have H1 := Lib.hid h1
        clear hm h1
        go_wp2
        refine wp_region_ord [(0,true),(1,true),(2,true),(3,true),(4,true),(5,true),(6,false),(7,true),(8,true),(9,true),(10,true),(11,true),(12,true),(13,false),(14,true),(15,true)] 16 (by kernel_rfl) (by kernel_rfl) ?_
        repeat (refine wpOrd_quiet rfl (fun K hK => ?_); go_simp; (try simp (disch := omega) only [IntWalk.i64_in]); refine hK _ ?_; clear hK K)
        refine wpOrd_grow rfl (fun K hK => ?_); go_simp; go_at_call 39; refine (spec_l19Has _ ids d.id _ (by (try simp only [← Array.append_assoc]); (repeat (first | with_reducible exact HI.out | with_reducible apply View.rdMerge | with_reducible apply View.rdExt | with_reducible apply View.rdAlloc | with_reducible apply View.rdDrew)); all_goals exact (0 : Nat))).mono ?_; rintro e w' ⟨rfl, hb⟩; obtain ⟨X, rfl⟩ := hb.ext; clear hb; try go_simp; refine hK _ _ (by show Sx _ _; (try simp only [← Array.append_assoc]); repeat (first | with_reducible exact Sx.drew _ | with_reducible exact Sx.same _ _ _ _ | with_reducible exact ⟨_, rfl⟩ | with_reducible apply Sx.more | with_reducible apply Sx.ext | with_reducible apply Sx.alloc | with_reducible apply Sx.draw | with_reducible exact Sx.refl _)) ?_; clear hK K
        rw [H1.out]
        repeat (refine wpOrd_quiet rfl (fun K hK => ?_); go_simp; (try simp (disch := omega) only [IntWalk.i64_in]); refine hK _ ?_; clear hK K)
        refine wpOrd_grow rfl (fun K hK => ?_); go_simp; refine hK _ _ (by show Sx _ _; (try simp only [← Array.append_assoc]); repeat (first | with_reducible exact Sx.drew _ | with_reducible exact Sx.same _ _ _ _ | with_reducible exact ⟨_, rfl⟩ | with_reducible apply Sx.more | with_reducible apply Sx.ext | with_reducible apply Sx.alloc | with_reducible apply Sx.draw | with_reducible exact Sx.refl _)) ?_; clear hK K
        repeat (refine wpOrd_quiet rfl (fun K hK => ?_); go_simp; (try simp (disch := omega) only [IntWalk.i64_in]); refine hK _ ?_; clear hK K)
        refine wpOrd_nil ?_
        go_wp2
        go_roundw
        case rel => exact ⟨n + 1, _, by go_num, by omega, rfl, by rw [HT.out, HA.out, HM.out]; rfl⟩
        case measure => simp [intOf]; omega
      | true =>
        rw [h1, Bool.true_and] at hm
        have HM := Lib.hid hm
        have H1 := Lib.hid h1
        clear hm h1
        cases h2 : olderB x d with
        | true =>
          have H2 := Lib.hid h2
          clear h2
          go_wp2
          refine wp_region_ord [(0,true),(1,true),(2,true),(3,true),(4,true),(5,true),(6,false),(7,true),(8,true),(9,true),(10,true),(11,true),(12,true),(13,false),(14,true),(15,true)] 16 (by kernel_rfl) (by kernel_rfl) ?_
          repeat (refine wpOrd_quiet rfl (fun K hK => ?_); go_simp; (try simp (disch := omega) only [IntWalk.i64_in]); refine hK _ ?_; clear hK K)
          refine wpOrd_grow rfl (fun K hK => ?_); go_simp; go_at_call 39; refine (spec_l19Has _ ids d.id _ (by (try simp only [← Array.append_assoc]); (repeat (first | with_reducible exact HI.out | with_reducible apply View.rdMerge | with_reducible apply View.rdExt | with_reducible apply View.rdAlloc | with_reducible apply View.rdDrew)); all_goals exact (0 : Nat))).mono ?_; rintro e w' ⟨rfl, hb⟩; obtain ⟨X, rfl⟩ := hb.ext; clear hb; try go_simp; refine hK _ _ (by show Sx _ _; (try simp only [← Array.append_assoc]); repeat (first | with_reducible exact Sx.drew _ | with_reducible exact Sx.same _ _ _ _ | with_reducible exact ⟨_, rfl⟩ | with_reducible apply Sx.more | with_reducible apply Sx.ext | with_reducible apply Sx.alloc | with_reducible apply Sx.draw | with_reducible exact Sx.refl _)) ?_; clear hK K
          rw [H1.out]
          repeat (refine wpOrd_quiet rfl (fun K hK => ?_); go_simp; (try simp (disch := omega) only [IntWalk.i64_in]); refine hK _ ?_; clear hK K)
          refine wpOrd_grow rfl (fun K hK => ?_); go_simp; go_at_call 12; refine (spec_Older _ x _ d _ (by (try simp only [← Array.append_assoc]); (repeat (first | with_reducible exact HXX.out | with_reducible apply View.rdMerge | with_reducible apply View.rdExt | with_reducible apply View.rdAlloc | with_reducible apply View.rdDrew)); all_goals exact (0 : Nat)) (by (try simp only [← Array.append_assoc]); (repeat (first | with_reducible exact HD.out | with_reducible apply View.rdMerge | with_reducible apply View.rdExt | with_reducible apply View.rdAlloc | with_reducible apply View.rdDrew)); all_goals exact (0 : Nat))).mono ?_; rintro e w' ⟨rfl, hb⟩; obtain ⟨X, rfl⟩ := hb.ext; clear hb; try go_simp; refine hK _ _ (by show Sx _ _; (try simp only [← Array.append_assoc]); repeat (first | with_reducible exact Sx.drew _ | with_reducible exact Sx.same _ _ _ _ | with_reducible exact ⟨_, rfl⟩ | with_reducible apply Sx.more | with_reducible apply Sx.ext | with_reducible apply Sx.alloc | with_reducible apply Sx.draw | with_reducible exact Sx.refl _)) ?_; clear hK K
          rw [H2.out]
          repeat (refine wpOrd_quiet rfl (fun K hK => ?_); go_simp; (try simp (disch := omega) only [IntWalk.i64_in]); refine hK _ ?_; clear hK K)
          refine wpOrd_nil ?_
          go_wp2
          go_roundw
          case rel => exact ⟨n + 1, _, by go_num, by omega, rfl, by rw [HT.out, HA.out, HM.out, H2.out]; rfl⟩
          case measure => simp [intOf]; omega
        | false =>
          have H2 := Lib.hid h2
          clear h2
          go_wp2
          refine wp_region_ord [(0,true),(1,true),(2,true),(3,true),(4,true),(5,true),(6,false),(7,true),(8,true),(9,true),(10,true),(11,true),(12,true),(13,false),(14,true),(15,true)] 16 (by kernel_rfl) (by kernel_rfl) ?_
          repeat (refine wpOrd_quiet rfl (fun K hK => ?_); go_simp; (try simp (disch := omega) only [IntWalk.i64_in]); refine hK _ ?_; clear hK K)
          refine wpOrd_grow rfl (fun K hK => ?_); go_simp; go_at_call 39; refine (spec_l19Has _ ids d.id _ (by (try simp only [← Array.append_assoc]); (repeat (first | with_reducible exact HI.out | with_reducible apply View.rdMerge | with_reducible apply View.rdExt | with_reducible apply View.rdAlloc | with_reducible apply View.rdDrew)); all_goals exact (0 : Nat))).mono ?_; rintro e w' ⟨rfl, hb⟩; obtain ⟨X, rfl⟩ := hb.ext; clear hb; try go_simp; refine hK _ _ (by show Sx _ _; (try simp only [← Array.append_assoc]); repeat (first | with_reducible exact Sx.drew _ | with_reducible exact Sx.same _ _ _ _ | with_reducible exact ⟨_, rfl⟩ | with_reducible apply Sx.more | with_reducible apply Sx.ext | with_reducible apply Sx.alloc | with_reducible apply Sx.draw | with_reducible exact Sx.refl _)) ?_; clear hK K
          rw [H1.out]
          repeat (refine wpOrd_quiet rfl (fun K hK => ?_); go_simp; (try simp (disch := omega) only [IntWalk.i64_in]); refine hK _ ?_; clear hK K)
          refine wpOrd_grow rfl (fun K hK => ?_); go_simp; go_at_call 12; refine (spec_Older _ x _ d _ (by (try simp only [← Array.append_assoc]); (repeat (first | with_reducible exact HXX.out | with_reducible apply View.rdMerge | with_reducible apply View.rdExt | with_reducible apply View.rdAlloc | with_reducible apply View.rdDrew)); all_goals exact (0 : Nat)) (by (try simp only [← Array.append_assoc]); (repeat (first | with_reducible exact HD.out | with_reducible apply View.rdMerge | with_reducible apply View.rdExt | with_reducible apply View.rdAlloc | with_reducible apply View.rdDrew)); all_goals exact (0 : Nat))).mono ?_; rintro e w' ⟨rfl, hb⟩; obtain ⟨X, rfl⟩ := hb.ext; clear hb; try go_simp; refine hK _ _ (by show Sx _ _; (try simp only [← Array.append_assoc]); repeat (first | with_reducible exact Sx.drew _ | with_reducible exact Sx.same _ _ _ _ | with_reducible exact ⟨_, rfl⟩ | with_reducible apply Sx.more | with_reducible apply Sx.ext | with_reducible apply Sx.alloc | with_reducible apply Sx.draw | with_reducible exact Sx.refl _)) ?_; clear hK K
          rw [H2.out]
          repeat (refine wpOrd_quiet rfl (fun K hK => ?_); go_simp; (try simp (disch := omega) only [IntWalk.i64_in]); refine hK _ ?_; clear hK K)
          refine wpOrd_nil ?_
          go_wp2
          go_ret
          exact ⟨by unfold youngerAll; rw [any_take_true (notYet ids x) ds (n + 1) (by rw [HT.out, HM.out, H2.out]; simp)]; rfl, (by repeat (first | with_reducible exact Below.refl _ _ | with_reducible apply Below.ofExt | with_reducible apply Below.ofAlloc | with_reducible apply Below.drew | with_reducible apply Below.ofDrewN | with_reducible assumption | (with_reducible refine Below.setCell ?_ (by first | exact Nat.le_refl _ | (simp [go_sem]; done) | (simp [go_sem]; omega)) _)))⟩
    · go_wp2
      go_ret
      have e : n = ds.length := by omega
      subst e
      have ha := HA.out
      rw [List.take_length] at ha
      exact ⟨by unfold youngerAll; rw [ha]; rfl, (by repeat (first | with_reducible exact Below.refl _ _ | with_reducible apply Below.ofExt | with_reducible apply Below.ofAlloc | with_reducible apply Below.drew | with_reducible apply Below.ofDrewN | with_reducible assumption | (with_reducible refine Below.setCell ?_ (by first | exact Nat.le_refl _ | (simp [go_sem]; done) | (simp [go_sem]; omega)) _)))⟩
end Go.Proofs.Ytmhopglbgaijiaa
