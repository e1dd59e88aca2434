/- Texts of this claim, merged: the laws of the walks and what they stand on. Each condition stands in its theorem. -/
import Derived.Test.YtedgenmbdjadkaaGreatDoorJN2
import Derived.Lib.SplitLaws
import Derived.Lib.Hide
import Derived.Deep.OwnRows
set_option linter.unusedVariables false
set_option linter.unusedSimpArgs false
namespace Go.Proofs.YtedgenmbdjadkaaGreatDoor
open Go.ChangeShapes Go.WideShapes Go.ChangeAt Go.RowKit
theorem opqC {P : Program} {c : Code} {Q : Exit → Act → World → Prop} {a : Act} {W : World} (S : World → Prop) (h : S W) (H : ∀ W0, S W0 → c.wp P Q a W0) : c.wp P Q a W := H W h
theorem recStep_fits (l : List UInt8) (a b : ByteArray) (hl : (l.length : Int) ≤ 4000) (h1 : a.size ≤ 40000) (h2 : b.size ≤ 40000) : l.length + (⟨#[32]⟩ ++ a ++ ⟨#[61]⟩ ++ b : ByteArray).size ≤ 140737488355328 := by
  have e1 : (⟨#[32]⟩ : ByteArray).size = 1 := rfl
  have e2 : (⟨#[61]⟩ : ByteArray).size = 1 := rfl
  simp only [ByteArray.size_append]
  omega
theorem recStep_list (l : List UInt8) (dk dv : ByteArray) : l ++ (⟨#[32]⟩ ++ hexT dk ++ ⟨#[61]⟩ ++ hexT dv : ByteArray).data.toList = recAdd l ⟨dk, dv⟩ := by simp [recAdd, ByteArray.data_append]
theorem vt0 (w : World) {X Y : Ext} (h : Tab10 w) : Tab10 (w.ext X) := h.below (Below.ofExt (Below.refl _ _) _)
set_option maxRecDepth 100000 in
set_option maxHeartbeats 4000000 in
theorem impl_RecordText (seq : Int) (v : Value) (ds : List CellD) (w : World) {e : TypeId} (ht : Tab10 w) (hs : (vSlice vCell e).rd w [v] ds) (hlen : ds.length ≤ 1048576) :
    Calls Tryz.prog 18 #[.int .i64 seq, v] w fun e w' => e = .returned (.string (recText seq ds)) ∧ Below w.heap.size w w' := by
  obtain ⟨ao, cap, rfl, hc1, hc2, hnil, hcell⟩ := vSlice.shape hs
  have HX := Lib.hid hcell
  have HT := Lib.hid ht
  clear hcell hnil ht
  unfold maxLen at hc2
  clear hs
  go_enter Tryz.func18, Tryz.ntmps18
  go_wp2_with fail
  (go_at_call 38; refine (impl_in _ _ _ _).mono ?_; rintro e w' ⟨rfl, rfl⟩)
  cases hin : inB seq 1 100000 with
  | false =>
    go_wp2
    go_ret
    refine ⟨?_, (by repeat (first | with_reducible exact Below.refl _ _ | with_reducible apply Below.ofExt | with_reducible apply Below.ofAlloc | with_reducible apply Below.drew | with_reducible apply Below.ofDrewN | with_reducible assumption | (with_reducible refine Below.setCell ?_ (by first | exact Nat.le_refl _ | (simp [go_sem]; done) | (simp [go_sem]; omega)) _)))⟩
    unfold recText
    rw [hin]
    rfl
  | true =>
    have hq1 : 1 ≤ seq := by unfold inB at hin; simp at hin; omega
    have hq2 : seq ≤ 100000 := by unfold inB at hin; simp at hin; omega
    have HIN := Lib.hid hin
    clear hin
    go_wp2_with fail
    (go_at_call 52; refine (impl_Decimal seq _ (by omega) (by omega) (HT.out.below (by repeat (first | with_reducible exact Below.refl _ _ | with_reducible apply Below.ofExt | with_reducible apply Below.ofAlloc | with_reducible apply Below.drew | with_reducible apply Below.ofDrewN | with_reducible assumption | (with_reducible refine Below.setCell ?_ (by first | exact Nat.le_refl _ | (simp [go_sem]; done) | (simp [go_sem]; omega)) _))))).mono ?_; rintro e w' ⟨rfl, hb⟩; obtain ⟨X, rfl⟩ := hb.ext; clear hb)
    have hsm := small_itoa seq hq1 hq2
    go_wp2_with fail
    (go_at_call 51; refine (sb_write w.heap.size w.heap.size [] (strOf (Lib.itoa seq)) _ ((IsB.fresh w).ext X) (by rw [strOf_size]; simp; omega) (by simp [World.ext_size]; omega)).mono ?_; rintro e w' ⟨rfl, ho, hb⟩)
    have hb0 : Below w.heap.size w w' := Below.trans (by repeat (first | with_reducible exact Below.refl _ _ | with_reducible apply Below.ofExt | with_reducible apply Below.ofAlloc | with_reducible apply Below.drew | with_reducible apply Below.ofDrewN | with_reducible assumption | (with_reducible refine Below.setCell ?_ (by first | exact Nat.le_refl _ | (simp [go_sem]; done) | (simp [go_sem]; omega)) _))) hb
    obtain ⟨X1, rfl⟩ := hb0.ext
    rw [strOf_list, List.nil_append] at ho
    have HO := Lib.hid ho
    clear ho hb hb0
    go_wp2
    go_loopw [4, 7, 17] (fun r _ k wr => ∃ (n : Nat) (l : List UInt8), r = .string ⟨#[]⟩ ∧ k = .int .i64 n ∧ n ≤ ds.length ∧ Below w.heap.size w wr ∧ IsB wr w.heap.size w.heap.size l ∧ l.length ≤ 90000 ∧ recGo (Lib.itoa seq) ds = recGo l (ds.drop n)) (fun _ _ k _ => ds.length - (intOf k).toNat)
    case atStart => exact ⟨0, _, rfl, rfl, by omega, (by repeat (first | with_reducible exact Below.refl _ _ | with_reducible apply Below.ofExt | with_reducible apply Below.ofAlloc | with_reducible apply Below.drew | with_reducible apply Below.ofDrewN | with_reducible assumption | (with_reducible refine Below.setCell ?_ (by first | exact Nat.le_refl _ | (simp [go_sem]; done) | (simp [go_sem]; omega)) _))), HO.out, by omega, rfl⟩
    case round =>
      obtain ⟨n, l, rfl, rfl, hn, hbel, ho, hll, hgo⟩ := hrel
      obtain ⟨X2, rfl⟩ := hbel.ext
      have HO := Lib.hid ho
      have HGO := Lib.hid hgo
      clear ho hgo
      by_cases hlt : (n : Int) < ds.length
      case pos =>
        have hk : n < ds.length := by omega
        have hst := recGo_drop hk l
        obtain ⟨b, off, csy, rfl, hbly, hrdy, hcelly⟩ := HX.out n hk
        generalize ds[n] = d at hrdy hst
        obtain ⟨rfl, hoky⟩ := hrdy
        obtain ⟨dk, dv⟩ := d
        have y0 := hcelly 0 _ rfl
        have y1 := hcelly 1 _ rfl
        clear hcelly
        simp only [show vCell.k = 2 from rfl, Nat.add_zero] at y0 y1
        have hz1 : dk.size ≤ 9223372036854775807 := hoky.1
        have hz2 : dv.size ≤ 9223372036854775807 := hoky.2
        clear hoky
        cases hkk : keyOk dk with
        | false =>
          rw [recOne_false1 hkk, if_neg (by decide)] at hst
          have HS := Lib.hid (hst)
          have HK := Lib.hid hkk
          clear hst hkk
          go_wp2_with fail
          (go_at_call 53; refine (impl_KeyOk dk _ hz1).mono ?_; rintro e w' ⟨rfl, rfl⟩)
          rw [HK.out]
          go_wp2
          go_ret
          exact ⟨by rw [recText_none (HGO.out.trans HS.out)]; rfl, (by repeat (first | with_reducible exact Below.refl _ _ | with_reducible apply Below.ofExt | with_reducible apply Below.ofAlloc | with_reducible apply Below.drew | with_reducible apply Below.ofDrewN | with_reducible assumption | (with_reducible refine Below.setCell ?_ (by first | exact Nat.le_refl _ | (simp [go_sem]; done) | (simp [go_sem]; omega)) _)))⟩
        | true =>
          have HK := Lib.hid hkk
          by_cases hv : 60 < (dv.size : Int)
          · rw [recOne_false2 hv, if_neg (by decide)] at hst
            have HS := Lib.hid (hst)
            clear hst hkk
            go_wp2_with fail
            (go_at_call 53; refine (impl_KeyOk dk _ hz1).mono ?_; rintro e w' ⟨rfl, rfl⟩)
            rw [HK.out]
            go_wp2
            go_ret
            exact ⟨by rw [recText_none (HGO.out.trans HS.out)]; rfl, (by repeat (first | with_reducible exact Below.refl _ _ | with_reducible apply Below.ofExt | with_reducible apply Below.ofAlloc | with_reducible apply Below.drew | with_reducible apply Below.ofDrewN | with_reducible assumption | (with_reducible refine Below.setCell ?_ (by first | exact Nat.le_refl _ | (simp [go_sem]; done) | (simp [go_sem]; omega)) _)))⟩
          by_cases hl4 : 4000 < (l.length : Int)
          · rw [recOne_false3 hl4, if_neg (by decide)] at hst
            have HS := Lib.hid (hst)
            clear hst hkk
            go_wp2_with fail
            (go_at_call 53; refine (impl_KeyOk dk _ hz1).mono ?_; rintro e w' ⟨rfl, rfl⟩)
            rw [HK.out]
            go_wp2_with fail
            (go_at_call 54; refine (sb_len w.heap.size w.heap.size l _ (HO.out.alloc _)).mono ?_; rintro e w' ⟨rfl, rfl⟩)
            go_wp2
            go_ret
            exact ⟨by rw [recText_none (HGO.out.trans HS.out)]; rfl, (by repeat (first | with_reducible exact Below.refl _ _ | with_reducible apply Below.ofExt | with_reducible apply Below.ofAlloc | with_reducible apply Below.drew | with_reducible apply Below.ofDrewN | with_reducible assumption | (with_reducible refine Below.setCell ?_ (by first | exact Nat.le_refl _ | (simp [go_sem]; done) | (simp [go_sem]; omega)) _)))⟩
          rw [recOne_true hkk (by omega) (by omega), if_pos rfl] at hst
          have HS := Lib.hid (hst)
          clear hst hkk
          have hs1 := hexT_size dk
          have hs2 := hexT_size dv
          go_wp2_with fail
          (go_at_call 53; refine (impl_KeyOk dk _ hz1).mono ?_; rintro e w' ⟨rfl, rfl⟩)
          rw [HK.out]
          go_wp2_with fail
          (go_at_call 54; refine (sb_len w.heap.size w.heap.size l _ (HO.out.alloc _)).mono ?_; rintro e w' ⟨rfl, rfl⟩)
          go_wp2
          refine opqC (fun W => Below w.heap.size w W ∧ IsB W w.heap.size w.heap.size l ∧ W.heap[w.heap.size + X2.bs.size]? = some (.cells #[.string dk, .string dv] 39)) ⟨(by repeat (first | with_reducible exact Below.refl _ _ | with_reducible apply Below.ofExt | with_reducible apply Below.ofAlloc | with_reducible apply Below.drew | with_reducible apply Below.ofDrewN | with_reducible assumption | (with_reducible refine Below.setCell ?_ (by first | exact Nat.le_refl _ | (simp [go_sem]; done) | (simp [go_sem]; omega)) _))), HO.out.alloc _, alloc_newA' _ _ _ (by simp [World.ext_size])⟩ ?_
          rintro W0 ⟨hbW, hoW, heW⟩
          have d0 : W0.cell? ⟨w.heap.size + X2.bs.size, 0, none⟩ = some (.string dk) := World.cell?_of_get heW
          have d1 : W0.cell? ⟨w.heap.size + X2.bs.size, 1, none⟩ = some (.string dv) := World.cell?_of_get heW
          have HO := Lib.hid hoW
          have HBW := Lib.hid hbW
          have hzW := hbW.size
          clear hbW hoW
          have hlt2 := World.lt_of_get heW
          clear heW
          refine wp_region_ordT [(0,true),(1,true),(5,true),(6,true),(2,false),(3,true),(4,true),(7,false),(8,true),(9,false)] 9 (by kernel_rfl) (by kernel_rfl) ?_
          repeat (refine wpOrd_quiet rfl (fun K hK => ?_); go_simp; (try simp (disch := omega) only [IntWalk.i64_in]); refine hK _ ?_; clear hK K)
          refine wpOrd_grow rfl (fun K hK => ?_); go_simp; go_at_call 55; refine (impl_hexOf dk _ hz1).mono ?_; rintro e w' ⟨rfl, hb⟩; obtain ⟨X3, rfl⟩ := hb.ext; clear hb; try go_simp; refine hK _ _ (by show Sx _ _; (try simp only [← Array.append_assoc]); repeat (first | with_reducible exact Sx.drew _ | with_reducible exact Sx.same _ _ _ _ | with_reducible exact ⟨_, rfl⟩ | with_reducible apply Sx.more | with_reducible apply Sx.ext | with_reducible apply Sx.alloc | with_reducible apply Sx.draw | with_reducible exact Sx.refl _)) ?_; clear hK K
          refine wpOrd_quiet rfl (fun K hK => ?_); go_simp; refine ⟨Value.string (⟨#[32]⟩ ++ hexT dk), fun x => ?_, ?_⟩; (rw [if_neg (by omega)]); (try go_simp); refine hK _ ?_; clear hK K
          refine wpOrd_quiet rfl (fun K hK => ?_); go_simp; refine ⟨Value.string (⟨#[32]⟩ ++ hexT dk ++ ⟨#[61]⟩), fun x => ?_, ?_⟩; (rw [if_neg (by omega)]); (try go_simp); refine hK _ ?_; clear hK K
          refine wpOrd_grow rfl (fun K hK => ?_); go_simp; go_at_call 55; refine (impl_hexOf dv _ hz2).mono ?_; rintro e w' ⟨rfl, hb⟩; obtain ⟨X4, rfl⟩ := hb.ext; clear hb; try go_simp; refine hK _ _ (by show Sx _ _; (try simp only [← Array.append_assoc]); repeat (first | with_reducible exact Sx.drew _ | with_reducible exact Sx.same _ _ _ _ | with_reducible exact ⟨_, rfl⟩ | with_reducible apply Sx.more | with_reducible apply Sx.ext | with_reducible apply Sx.alloc | with_reducible apply Sx.draw | with_reducible exact Sx.refl _)) ?_; clear hK K
          refine wpOrd_quiet rfl (fun K hK => ?_); go_simp; refine ⟨Value.string (⟨#[32]⟩ ++ hexT dk ++ ⟨#[61]⟩ ++ hexT dv), fun x => ?_, ?_⟩; (rw [if_neg (by omega)]); (try go_simp); refine hK _ ?_; clear hK K
          refine wpOrd_tail rfl rfl (fun K hK => ?_)
          go_simp
          go_at_call 51
          have A := HO.out.ext (⟨X3.bs ++ X4.bs, X4.dr⟩ : Ext)
          have B := recStep_fits l _ _ hl4 hs1 hs2
          have C : w.heap.size ≤ (W0.ext (⟨X3.bs ++ X4.bs, X4.dr⟩ : Ext)).heap.size := Nat.le_trans hzW (by rw [World.ext_size]; exact Nat.le_add_right _ _)
          have D := sb_write w.heap.size w.heap.size l _ _ A B C
          refine D.mono ?_
          clear A B C D
          rintro e w' ⟨rfl, ho4, hb4⟩
          try go_simp
          refine hK _ _ ?_
          clear hK K
          have hb5 : Below w.heap.size w w' := Below.trans (Below.then HBW.out (Below.ofExt (Below.refl _ _) _)) hb4
          obtain ⟨X5, rfl⟩ := hb5.ext
          rw [recStep_list] at ho4
          have HO4 := Lib.hid ho4
          clear ho4 hb4 hb5
          repeat (refine wpOrd_tail rfl rfl (fun K hK => ?_); go_simp; refine hK _ _ ?_; clear hK K)
          refine wpOrd_nil ?_
          go_wp2
          go_roundw
          case rel => exact ⟨n + 1, _, rfl, by go_num, by omega, (by repeat (first | with_reducible exact Below.refl _ _ | with_reducible apply Below.ofExt | with_reducible apply Below.ofAlloc | with_reducible apply Below.drew | with_reducible apply Below.ofDrewN | with_reducible assumption | (with_reducible refine Below.setCell ?_ (by first | exact Nat.le_refl _ | (simp [go_sem]; done) | (simp [go_sem]; omega)) _))), HO4.out, recAdd_len _ _ (by omega), HGO.out.trans HS.out⟩
          case measure => simp [intOf]; omega
      case neg =>
        have e : n = ds.length := by omega
        have hgo := HGO.out
        rw [e, List.drop_length] at hgo
        have hsl : (strOf l).size ≤ 90000 := by rw [strOf_size]; exact hll
        have hbs := bsum_bd l
        have hsi : (strOf (Lib.itoa (bsum l))).size ≤ 4611686018427387920 := by rw [strOf_size]; exact itoa_len _ (by omega) (by omega)
        have HF := Lib.hid hgo
        clear hgo HGO
        go_wp2_with fail
        (go_at_call 56; refine (sb_string w.heap.size w.heap.size l _ HO.out (by simp [World.ext_size])).mono ?_; rintro e w' ⟨rfl, ho3, hb3⟩)
        have hb3' : Below w.heap.size w w' := Below.trans (by repeat (first | with_reducible exact Below.refl _ _ | with_reducible apply Below.ofExt | with_reducible apply Below.ofAlloc | with_reducible apply Below.drew | with_reducible apply Below.ofDrewN | with_reducible assumption | (with_reducible refine Below.setCell ?_ (by first | exact Nat.le_refl _ | (simp [go_sem]; done) | (simp [go_sem]; omega)) _))) hb3
        obtain ⟨X3, rfl⟩ := hb3'.ext
        have HO3 := Lib.hid ho3
        clear ho3 hb3 hb3'
        go_wp2_with fail
        (go_at_call 56; refine (sb_string w.heap.size w.heap.size l _ HO3.out (by simp [World.ext_size])).mono ?_; rintro e w' ⟨rfl, ho3, hb3⟩)
        have hb3' : Below w.heap.size w w' := Below.trans (by repeat (first | with_reducible exact Below.refl _ _ | with_reducible apply Below.ofExt | with_reducible apply Below.ofAlloc | with_reducible apply Below.drew | with_reducible apply Below.ofDrewN | with_reducible assumption | (with_reducible refine Below.setCell ?_ (by first | exact Nat.le_refl _ | (simp [go_sem]; done) | (simp [go_sem]; omega)) _))) hb3
        obtain ⟨X4, rfl⟩ := hb3'.ext
        clear ho3 hb3 hb3'
        go_wp2_with fail
        (go_at_call 57; refine (impl_bsum l _ hll).mono ?_; rintro e w' ⟨rfl, rfl⟩)
        go_wp2_with fail
        (go_at_call 52; refine (impl_Decimal (bsum l) _ (by omega) (by omega) (HT.out.below (by repeat (first | with_reducible exact Below.refl _ _ | with_reducible apply Below.ofExt | with_reducible apply Below.ofAlloc | with_reducible apply Below.drew | with_reducible apply Below.ofDrewN | with_reducible assumption | (with_reducible refine Below.setCell ?_ (by first | exact Nat.le_refl _ | (simp [go_sem]; done) | (simp [go_sem]; omega)) _))))).mono ?_; rintro e w' ⟨rfl, hb⟩; obtain ⟨X5, rfl⟩ := hb.ext; clear hb)
        have hre := recEnd_str l
        have HRE := Lib.hid hre
        clear hre
        have hsz := strOf_size (recEnd l)
        have HRT := Lib.hid (recText_some HIN.out HF.out)
        have hse : (strOf l ++ ⟨#[32, 35]⟩ ++ strOf (Lib.itoa (bsum l)) ++ ⟨#[10]⟩ : ByteArray).size = (strOf (recEnd l)).size := by rw [HRE.out]
        by_cases h4 : ((recEnd l).length : Int) ≤ 4000
        · have h4' : ((strOf l ++ ⟨#[32, 35]⟩ ++ strOf (Lib.itoa (bsum l)) ++ ⟨#[10]⟩ : ByteArray).size : Int) ≤ 4000 := by omega
          have h5 : ((strOf l).size : Int) + 2 + ((strOf (Lib.itoa (bsum l))).size : Int) + 1 ≤ 4000 := by simp only [ByteArray.size_append] at h4'; simp at h4'; exact h4'
          clear hsz hse
          go_wp2
          go_ret
          exact ⟨by rw [HRT.out, if_pos h4, ← HRE.out]; rfl, (by repeat (first | with_reducible exact Below.refl _ _ | with_reducible apply Below.ofExt | with_reducible apply Below.ofAlloc | with_reducible apply Below.drew | with_reducible apply Below.ofDrewN | with_reducible assumption | (with_reducible refine Below.setCell ?_ (by first | exact Nat.le_refl _ | (simp [go_sem]; done) | (simp [go_sem]; omega)) _)))⟩
        · have h4' : 4000 < ((strOf l ++ ⟨#[32, 35]⟩ ++ strOf (Lib.itoa (bsum l)) ++ ⟨#[10]⟩ : ByteArray).size : Int) := by omega
          have h5 : 4000 < ((strOf l).size : Int) + 2 + ((strOf (Lib.itoa (bsum l))).size : Int) + 1 := by simp only [ByteArray.size_append] at h4'; simp at h4'; exact h4'
          clear hsz hse
          go_wp2
          go_ret
          exact ⟨by rw [HRT.out, if_neg (by omega)]; rfl, (by repeat (first | with_reducible exact Below.refl _ _ | with_reducible apply Below.ofExt | with_reducible apply Below.ofAlloc | with_reducible apply Below.drew | with_reducible apply Below.ofDrewN | with_reducible assumption | (with_reducible refine Below.setCell ?_ (by first | exact Nat.le_refl _ | (simp [go_sem]; done) | (simp [go_sem]; omega)) _)))⟩
end Go.Proofs.YtedgenmbdjadkaaGreatDoor
namespace Go.Proofs.YtedgenmbdjadkaaGreatDoor
open Go.ChangeShapes Go.WideShapes Go.ChangeAt Go.RowKit

/-- what the library's variables hold -/
structure Glob (w : World) : Prop where
  tab : Tab10 w
  max : ∃ m, w.cell? ⟨0, 0, none⟩ = some (.int .i64 m)
  odd : ∃ ev, w.cell? ⟨1, 0, none⟩ = some ev ∧ (ev = .nilIface ∨ ∃ te pe, ev = .iface te pe)
  syn : ∃ ev, w.cell? ⟨4, 0, none⟩ = some ev ∧ (ev = .nilIface ∨ ∃ te pe, ev = .iface te pe)
  rng : ∃ ev, w.cell? ⟨5, 0, none⟩ = some ev ∧ (ev = .nilIface ∨ ∃ te pe, ev = .iface te pe)
theorem cell_below {w w' : World} (hb : Below w.heap.size w w') {a : Addr} {v : Value} (h : w.cell? a = some v) : w'.cell? a = some v := (Grew.below hb).cell h
theorem Glob.below {w w' : World} (h : Glob w) (hb : Below w.heap.size w w') : Glob w' := by
  obtain ⟨ht, ⟨m, hm⟩, ⟨e1, h1, g1⟩, ⟨e2, h2, g2⟩, ⟨e3, h3, g3⟩⟩ := h
  exact ⟨ht.below hb, ⟨m, cell_below hb hm⟩, ⟨e1, cell_below hb h1, g1⟩, ⟨e2, cell_below hb h2, g2⟩, ⟨e3, cell_below hb h3, g3⟩⟩
theorem Glob.ext {w : World} (h : Glob w) (X : Ext) : Glob (w.ext X) := h.below (Below.ofExt (Below.refl _ _) _)
theorem Glob.alloc {w : World} (h : Glob w) (o : Obj) : Glob (w.alloc o) := h.below (Below.ofAlloc (Below.refl _ _) _)
theorem own_bytes {w w' : World} {v : Value} {l : List UInt8} (h : w'.ownsRow w.heap.size 5 1 v l.length (l.map fun b => Value.int .u8 (b.toNat : Int))) : OwnB 5 w' w.heap.size v l := by
  refine OwnB.ofL ?_
  unfold OwnL
  rw [flat_B]
  exact h
theorem num_ends (x : Lib.NumEnd Int) : x = Lib.atoiAll [] ∨ x = .range ∨ ∃ n, x = .ok n := by
  cases x
  case ok n => exact .inr (.inr ⟨n, rfl⟩)
  case range => exact .inr (.inl rfl)
  exact .inl rfl
theorem str_ne {l : List UInt8} {s : ByteArray} (h : ¬ l = s.data.toList) : ((strOf l).toList == s.toList) = false := by
  rw [beq_eq_false_iff_ne, bl1, bl1]
  exact fun e => h (by rw [← e, strOf_list])
set_option maxRecDepth 100000 in
set_option maxHeartbeats 1000000 in
theorem impl_Unhex (s : ByteArray) (w : World) (hg : Glob w) (hs : s.size ≤ 1048576) :
    Calls Tryz.prog 75 #[.string s] w (UnhP s w) := by
  obtain ⟨ev, hE, hev⟩ := hg.odd
  clear hg
  have D := Tryz.hex_DecodeString_owns s w ev hE (by omega)
  obtain ⟨d, x, hdx⟩ : ∃ d x, Lib.Hx.decode s.data.toList = (d, x) := ⟨_, _, rfl⟩
  rw [hdx] at D
  obtain ⟨E, hEE⟩ : ∃ E, E = Lib.Hx.errVal 146 ev x := ⟨_, rfl⟩
  simp only [← hEE] at D
  have HD := Lib.hid D
  have hdl := Lib.Hx.decode_len s.data.toList
  rw [hdx] at hdl
  have hsl : s.data.toList.length = s.size := by simp
  have hdl2 : d.length ≤ 1048576 := by
    have : d.length ≤ s.data.toList.length / 2 := by simpa using hdl
    omega
  have hno : (x ≠ .ok ∨ 20000 < d.length ∨ Lib.Hx.encode d ≠ s.data.toList) → ∀ r, Unh s.data.toList r := fun h r => Unh.no hdx h r
  have HNO := Lib.hid hno
  have hyes : x = .ok → Unh s.data.toList (strOf d) := fun h => Unh.dec (by rw [hdx, h])
  have HY := Lib.hid hyes
  have hcs : x = .ok ∧ E = .nilIface ∨ x ≠ .ok ∧ (E = .nilIface ∨ ∃ te pe, E = .iface te pe) := by
    cases x with
    | ok => exact .inl ⟨rfl, hEE⟩
    | bad c => exact .inr ⟨by simp, .inr ⟨_, _, hEE⟩⟩
    | odd => exact .inr ⟨by simp, by rw [hEE]; exact hev⟩
  have HCS := Lib.hid hcs
  clear D hdx hE hdl hsl hno hyes hcs hEE hev
  go_enter Tryz.func75, Tryz.ntmps75
  go_wp2_with fail
  (go_at_call 100; refine HD.out.mono ?_; rintro e w1 ⟨v, rfl, ho, hb⟩)
  have HB := Lib.hid (own_bytes ho)
  have HBW := Lib.hid hb
  clear ho hb HD
  obtain ⟨oa, oc, rfl⟩ := HB.out.form
  by_cases hif : ∃ te pe, E = .iface te pe
  · obtain ⟨te, pe, rfl⟩ := hif
    have hx : x ≠ .ok := by
      rcases HCS.out with ⟨_, h⟩ | ⟨h, _⟩
      · cases h
      · exact h
    have hu := HNO.out (.inl hx) ⟨#[]⟩
    have HU := Lib.hid hu
    clear hu hx
    go_wp2
    refine bodyPost_ret (by simp [results, Tryz.results75, go_sem]; rfl) rfl ?_
    exact UnhP.mk (by decide) HU.out HBW.out
  have hE : E = .nilIface := by
    rcases HCS.out with ⟨_, h⟩ | ⟨_, h | h⟩
    · exact h
    · exact h
    · exact absurd h hif
  subst hE
  clear hif
  by_cases hlen : (20000 : Int) < d.length
  · have hu := HNO.out (.inr (.inl (by omega))) ⟨#[]⟩
    have HU := Lib.hid hu
    clear hu
    go_wp2
    refine bodyPost_ret (by simp [results, Tryz.results75, go_sem]; rfl) rfl ?_
    exact UnhP.mk (by decide) HU.out HBW.out
  have henc := lib_enc (.slice oa d.length oc) d w.heap.size w1 HB.out (by omega)
  have HENC := Lib.hid henc
  clear henc
  go_wp2_with fail
  (go_at_call 101; refine HENC.out.mono ?_; rintro e w2 ⟨rfl, hb2⟩)
  have hbw2 : Below w.heap.size w w2 := Below.then HBW.out hb2
  by_cases he : Lib.Hx.encode d = s.data.toList
  · have hxo : x = .ok ∨ x ≠ .ok := by cases x <;> simp
    rcases hxo with hxo | hxo
    · have HU := Lib.hid (HY.out hxo)
      have hr := run_string_of (P := Tryz.prog) w2 Tryz.byteT Tryz.underlying9 (HB.out.below hb2).sl
      have heq : strOf (Lib.Hx.encode d) = s := by rw [he, strOf_data]
      have hsz : (strOf d).size ≤ 20000 := by rw [strOf_size]; omega
      have HSZ := Lib.hid hsz
      clear hxo he hsz
      rw [heq]
      go_wp2
      refine bodyPost_ret (by simp [results, Tryz.results75, go_sem]; rfl) rfl ?_
      exact UnhP.mk HSZ.out HU.out hbw2
    · have HU := Lib.hid (HNO.out (.inl hxo) (strOf d))
      have hr := run_string_of (P := Tryz.prog) w2 Tryz.byteT Tryz.underlying9 (HB.out.below hb2).sl
      have heq : strOf (Lib.Hx.encode d) = s := by rw [he, strOf_data]
      have hsz : (strOf d).size ≤ 20000 := by rw [strOf_size]; omega
      have HSZ := Lib.hid hsz
      clear hxo he hsz
      rw [heq]
      go_wp2
      refine bodyPost_ret (by simp [results, Tryz.results75, go_sem]; rfl) rfl ?_
      exact UnhP.mk HSZ.out HU.out hbw2
  · have HU := Lib.hid (HNO.out (.inr (.inr he)) ⟨#[]⟩)
    have heq := str_ne he
    clear he
    go_wp2
    refine bodyPost_ret (by simp [results, Tryz.results75, go_sem]; rfl) rfl ?_
    exact UnhP.mk (by decide) HU.out hbw2
set_option maxRecDepth 100000 in
set_option maxHeartbeats 1000000 in
theorem impl_ReadDecimal (s : ByteArray) (w : World) (hg : Glob w) (hs : s.size ≤ 1048576) :
    Calls Tryz.prog 73 #[.string s] w (NumP s w) := by
  have HG := Lib.hid hg
  obtain ⟨e2, h2, g2⟩ := hg.syn
  obtain ⟨e3, h3, g3⟩ := hg.rng
  clear hg
  go_enter Tryz.func73, Tryz.ntmps73
  rcases num_ends (Lib.atoiAll s.data.toList) with ha | ha | ⟨n, ha⟩
  ·
    have hn := Num.atoi (l := s.data.toList) (fun n => by rw [ha]; intro h; cases h)
    have HN := Lib.hid hn
    have D := Tryz.strconv_Atoi_syntax s (by omega) ha e2 w h2 g2
    clear hn
    go_wp2_with fail
    (go_at_call 98; refine D.mono ?_; rintro e w1 ⟨N, rfl, _, _, hb⟩)
    clear D
    go_wp2
    refine bodyPost_ret (by simp [results, Tryz.results73, go_sem]; rfl) rfl ?_
    exact NumP.mk HN.out hb
  ·
    have hn := Num.atoi (l := s.data.toList) (fun n => by rw [ha]; intro h; cases h)
    have HN := Lib.hid hn
    have D := Tryz.strconv_Atoi_range s (by omega) ha e3 w h3 g3
    clear hn
    go_wp2_with fail
    (go_at_call 98; refine D.mono ?_; rintro e w1 ⟨N, rfl, _, _, hb⟩)
    clear D
    go_wp2
    refine bodyPost_ret (by simp [results, Tryz.results73, go_sem]; rfl) rfl ?_
    exact NumP.mk HN.out hb
  ·
    have hbd := Lib.atoiAll_bounds ha
    have D := Tryz.strconv_Atoi_ok s (by omega) n ha w
    have HA := Lib.hid ha
    clear ha
    go_wp2_with fail
    (go_at_call 98; refine D.mono ?_; rintro e w1 ⟨rfl, hww⟩)
    have hb : Below w.heap.size w w1 := by
      rcases hww with rfl | ⟨t, rfl⟩
      · exact (by repeat (first | with_reducible exact Below.refl _ _ | with_reducible apply Below.ofExt | with_reducible apply Below.ofAlloc | with_reducible apply Below.drew | with_reducible apply Below.ofDrewN | with_reducible assumption | (with_reducible refine Below.setCell ?_ (by first | exact Nat.le_refl _ | (simp [go_sem]; done) | (simp [go_sem]; omega)) _)))
      · exact Lib.bytesWorld_below _ _ _
    clear D hww h2 h3 g2 g3
    cases hin : inB n 0 1000000000 with
    | false =>
      have hn := Num.atoiNo HA.out (by unfold inB at hin; simp at hin; omega)
      have HN := Lib.hid hn
      have HIN := Lib.hid hin
      clear hn hin
      go_wp2_with fail
      (go_at_call 38; refine (impl_in _ _ _ _).mono ?_; rintro e w' ⟨rfl, rfl⟩)
      rw [HIN.out]
      go_wp2
      refine bodyPost_ret (by simp [results, Tryz.results73, go_sem]; rfl) rfl ?_
      exact NumP.mk HN.out hb
    | true =>
      have hi2 : 0 ≤ n ∧ n ≤ 1000000000 := by unfold inB at hin; simp at hin; omega
      have HIN := Lib.hid hin
      clear hin
      go_wp2_with fail
      (go_at_call 38; refine (impl_in _ _ _ _).mono ?_; rintro e w' ⟨rfl, rfl⟩)
      rw [HIN.out]
      have DD := Lib.hid (impl_Decimal n w1 (by omega) (by omega) (HG.out.below hb).tab)
      go_wp2_with fail
      (go_at_call 52; refine DD.out.mono ?_; rintro e w2 ⟨rfl, hb2⟩)
      have hbw2 : Below w.heap.size w w2 := Below.then hb hb2
      by_cases he : Lib.itoa n = s.data.toList
      · have HU := Lib.hid (Num.atoiOk HA.out hi2.1 hi2.2)
        have heq : strOf (Lib.itoa n) = s := by rw [he, strOf_data]
        clear he
        rw [heq]
        go_wp2
        refine bodyPost_ret (by simp [results, Tryz.results73, go_sem]; rfl) rfl ?_
        exact NumP.mk HU.out hbw2
      · have HU := Lib.hid (Num.atoiNo HA.out (.inr (.inr he)))
        have heq := str_ne he
        clear he
        go_wp2
        refine bodyPost_ret (by simp [results, Tryz.results73, go_sem]; rfl) rfl ?_
        exact NumP.mk HU.out hbw2
end Go.Proofs.YtedgenmbdjadkaaGreatDoor
namespace Go.Proofs.YtedgenmbdjadkaaGreatDoor
open Go.ChangeShapes Go.WideShapes Go.ChangeAt Go.RowKit

theorem lib_split (s : ByteArray) (c : UInt8) (w : World) (hg : Glob w) (hs : s.size ≤ 1048576) :
    Calls Tryz.prog 72 #[.string s, .string ⟨#[c]⟩] w (SplP 9 c s w) := by
  obtain ⟨m, hm⟩ := hg.max
  refine (Tryz.strings_Split s ⟨#[c]⟩ m w (by omega) hm (Nat.le_refl 1)).mono ?_
  rintro e w' ⟨rfl, rfl⟩
  have hx := splitB_eq c s
  have hl : (Lib.splitB ⟨#[c]⟩ 0 (Lib.countB s ⟨#[c]⟩) s).length = Lib.countB s ⟨#[c]⟩ + 1 := Lib.splitB_all ⟨#[c]⟩ (Nat.le_refl 1) 0 _ s rfl
  have hle : Lib.countB s ⟨#[c]⟩ + 1 ≤ 1048577 := by
    have := splitL_length c s.data.toList
    rw [← hx, List.length_map, hl] at this
    have e : s.data.toList.length = s.size := by simp
    omega
  refine SplP.mk (OwnL.lit rStr w (Lib.splitB ⟨#[c]⟩ 0 (Lib.countB s ⟨#[c]⟩) s) _ hl.symm (by unfold maxLen; omega) _ ?_ 9) hx (by repeat (first | with_reducible exact Below.refl _ _ | with_reducible apply Below.ofExt | with_reducible apply Below.ofAlloc | with_reducible apply Below.drew | with_reducible apply Below.ofDrewN | with_reducible assumption | (with_reducible refine Below.setCell ?_ (by first | exact Nat.le_refl _ | (simp [go_sem]; done) | (simp [go_sem]; omega)) _)))
  congr 1
  generalize Lib.splitB ⟨#[c]⟩ 0 (Lib.countB s ⟨#[c]⟩) s = xs
  induction xs with
  | nil => rfl
  | cons x xs ih => rw [List.map_cons, List.flatMap_cons, ih]; rfl
theorem lib_cut (s : ByteArray) (c : UInt8) (w : World) (hg : Glob w) (hs : s.size ≤ 1048576) :
    Calls Tryz.prog 74 #[.string s, .string ⟨#[c]⟩] w fun e w' => ∃ b, e = .returned (.tuple #[.string (strOf (Lib.cut s.data.toList [c]).1), .string (strOf (Lib.cut s.data.toList [c]).2.1), .bool b]) ∧ Below w.heap.size w w' := by
  obtain ⟨m, hm⟩ := hg.max
  refine (Tryz.strings_Cut s ⟨#[c]⟩ m w (by omega) hm).mono ?_
  rintro e w' ⟨rfl, k, rfl⟩
  exact ⟨_, rfl, (by repeat (first | with_reducible exact Below.refl _ _ | with_reducible apply Below.ofExt | with_reducible apply Below.ofAlloc | with_reducible apply Below.drew | with_reducible apply Below.ofDrewN | with_reducible assumption | (with_reducible refine Below.setCell ?_ (by first | exact Nat.le_refl _ | (simp [go_sem]; done) | (simp [go_sem]; omega)) _)))⟩
theorem cut_len (l : List UInt8) (c : UInt8) : (Lib.cut l [c]).1.length ≤ l.length ∧ (Lib.cut l [c]).2.1.length ≤ l.length := by
  rw [Lib.cut_eq]
  split
  · simp only [List.length_take, List.length_drop]
    omega
  · simp
theorem size_nil {s : ByteArray} (h : s.toList = []) : s.size = 0 := by
  rw [bl1] at h
  have : s.data.toList.length = s.size := by simp
  rw [h] at this
  exact this.symm
theorem size_ne {s : ByteArray} (h : ¬ s.toList = []) : s.size ≠ 0 := fun e => h (by
  rw [bl1]
  apply List.eq_nil_of_length_eq_zero
  have : s.data.toList.length = s.size := by simp
  rw [this, e])
theorem str_same {r s : ByteArray} (h : (r.toList == s.toList) = true) : r = s := by
  apply ByteArray.ext
  apply Array.toList_inj.1
  rw [← bl1, ← bl1]
  exact eq_of_beq h
set_option maxRecDepth 100000 in
set_option maxHeartbeats 4000000 in
theorem impl_ReadRecord (s : ByteArray) (w : World) (hg : Glob w) (hs : s.size ≤ 1048576) :
    Calls Tryz.prog 39 #[.string s] w (RrP s w) := by
  have HG := Lib.hid hg
  clear hg
  go_enter Tryz.func39, Tryz.ntmps39
  by_cases hbig : (4000 : Int) < s.size
  · have hr := readI_big (t := s) (by omega)
    have HR := Lib.hid hr
    clear hr
    go_wp2
    refine bodyPost_ret (by simp [results, Tryz.results39, go_sem]; rfl) rfl ?_
    exact RrP.mk (OwnL.nil rCell _ _ _) (RrOk.no HR.out) (by repeat (first | with_reducible exact Below.refl _ _ | with_reducible apply Below.ofExt | with_reducible apply Below.ofAlloc | with_reducible apply Below.drew | with_reducible apply Below.ofDrewN | with_reducible assumption | (with_reducible refine Below.setCell ?_ (by first | exact Nat.le_refl _ | (simp [go_sem]; done) | (simp [go_sem]; omega)) _)))
  go_wp2_with fail
  (go_at_call 72; refine (lib_split s 32 _ HG.out hs).mono ?_; rintro e w1 ⟨pv, xs, rfl, hp, hxs, hb1⟩)
  have hbw : Below w.heap.size w w1 := hb1
  have HG1 := Lib.hid (HG.out.below hb1)
  obtain ⟨pa, pc, rfl⟩ := hp.rd.form
  obtain ⟨ws, hws⟩ : ∃ ws, ws = splitL 32 s.data.toList := ⟨_, rfl⟩
  rw [← hws] at hxs
  have HXS := Lib.hid hxs
  have hwl : ws.length = xs.length := by rw [← hxs, List.length_map]
  have hne : 0 < xs.length := by
    rw [← hwl, hws]
    have := splitL_ne 32 s.data.toList
    cases hh : splitL 32 s.data.toList with
    | nil => exact absurd hh this
    | cons a b => simp
  have hxl : xs.length ≤ 4001 := by
    rw [← hwl, hws]
    have := splitL_length 32 s.data.toList
    have e : s.data.toList.length = s.size := by simp
    omega
  have hh0 : ws.headD [] = xs[0].data.toList := by
    obtain ⟨h2, h3⟩ := map_get xs ws hxs hne
    rw [← h3]
    cases ws with
    | nil => simp at h2
    | cons a b => rfl
  obtain ⟨_, pb, po, rfl, hpl, y0⟩ := str_at hp hne
  have hpc : xs.length ≤ pc := by
    obtain ⟨_, _, hv, h1, _⟩ := hp.rd.shapeS
    cases hv
    exact h1
  have HWS := Lib.hid hws
  have HH0 := Lib.hid hh0
  have hsm : ∀ x ∈ xs, x.size ≤ s.size := split_small (c := 32) (by rw [hxs, hws])
  have hsz0 : xs[0].size ≤ 1048576 := Nat.le_trans (hsm _ (List.getElem_mem hne)) hs
  have HSM := Lib.hid hsm
  have HP := Lib.hid hp
  clear hsm
  generalize xs[0] = x0 at *
  clear hp hb1 hxs hws hh0
  rw [Nat.add_zero] at y0
  go_wp2_with fail
  (go_at_call 73; refine (impl_ReadDecimal x0 _ HG1.out hsz0).mono ?_; rintro e w2 ⟨n, ok, rfl, hnum, hb2⟩)
  have hb2s := hb2.size
  have hbw2 : Below w.heap.size w w2 := Below.then hbw hb2
  have hnr : 0 ≤ n ∧ n ≤ 1000000000 := hnum.1
  have HG2 := Lib.hid (HG.out.below hbw2)
  have HP2 := Lib.hid (own_bel HP.out hb2)
  rw [← HH0.out] at hnum
  have HN := Lib.hid hnum
  clear hnum hb2 HP HH0 y0 hpl hbw HG1
  have hKK : (max (xs.length : Int) 2).toNat - 1 - 1 = xs.length - 2 := by omega
  by_cases hp1 : pc = 1
  · go_wp2
    go_loopw [8, 10, 11, 12, 13, 14, 15, 16, 17, 37] (fun o _ _ _ _ _ _ _ _ k wr => ∃ (j : Nat) (cs : List CellD), k = .int .i64 j ∧ j ≤ xs.length - 2 ∧ Below w.heap.size w wr ∧ OwnL rCell 39 wr w.heap.size o cs ∧ OwnL rStr 9 wr w.heap.size (.slice (some ⟨pb, po, none⟩) xs.length pc) xs ∧ ReadsTo ((midL ws).take j) cs ∧ Sm cs ∧ cs.length ≤ j) (fun _ _ _ _ _ _ _ _ _ k _ => xs.length - (intOf k).toNat)
    case atStart => exact ⟨0, [], rfl, by omega, hbw2, OwnL.nil _ _ _ _, HP2.out, by rw [List.take_zero]; exact ReadsTo.nil, Sm.nil, by simp⟩
    case round =>
      clear HP2
      obtain ⟨j, cs, rfl, hj, hbel, ho, hp, hrt, hsmc, hcl⟩ := hrel
      rename_i wr
      obtain ⟨oa, oc, rfl⟩ := ho.rd.form
      have HO := Lib.hid ho
      have HP := Lib.hid hp
      have HRT := Lib.hid hrt
      have HSC := Lib.hid hsmc
      have hws := hbel.size
      clear ho hrt hsmc
      by_cases hlt : (j : Int) < ((xs.length - 2 : Nat) : Int)
      case pos =>
        exact absurd hlt (by omega)
      case neg =>
        have hall := mid_all (ws := ws) (j := j) (by omega)
        have hrt := HRT.out
        rw [hall] at hrt
        have hml := mid_len ws
        have hcs := hrt.length
        have hrd := cells_rdS HO.out HSC.out
        rw [HWS.out] at hrt
        have hnum := HN.out
        rw [HWS.out] at hnum
        have HNO := Lib.hid (fun h => read_no (t := s) hnum hrt h)
        have hcl2 : cs.length ≤ 1048576 := by omega
        have D := impl_RecordText n (.slice oa cs.length oc) cs wr (HG.out.below hbel).tab hrd hcl2
        have HD := Lib.hid D
        clear hrt hnum hp D hrd hall hml hcs
        by_cases h0 : s.toList = []
        · have h1 : s.toList.isEmpty = true := by rw [h0]; rfl
          have hno := HNO.out (.inr (.inl (size_nil h0)))
          have HNN := Lib.hid hno
          clear hno HNO
          go_wp2
          refine bodyPost_ret (by simp [results, Tryz.results39, go_sem]; rfl) rfl ?_
          exact RrP.mk (OwnL.nil rCell _ _ _) (RrOk.no HNN.out) hbel
        have h1 : s.toList.isEmpty = false := by rw [List.isEmpty_eq_false_iff]; exact h0
        go_wp2_with fail
        (go_at_call 18; refine HD.out.mono ?_; rintro e w3 ⟨rfl, hb3⟩)
        have hbw3 : Below w.heap.size w w3 := Below.then hbel hb3
        have HO3 := Lib.hid (own_bel HO.out hb3)
        obtain ⟨r, hr⟩ : ∃ r, r = recText n cs := ⟨_, rfl⟩
        rw [← hr] at HNO ⊢
        have HR := Lib.hid hr
        clear hb3 HO hr HD
        cases h2 : (r.toList == s.toList) with
        | false =>
          have hno := HNO.out (.inl (fun e => by rw [e] at h2; simp at h2))
          have HNN := Lib.hid hno
          clear hno HNO
          go_wp2
          refine bodyPost_ret (by simp [results, Tryz.results39, go_sem]; rfl) rfl ?_
          exact RrP.mk (OwnL.nil rCell _ _ _) (RrOk.no HNN.out) hbw3
        | true =>
          have hyes := str_same h2
          have HY := Lib.hid (RrOk.yes (n := n) (cs := cs) (s := s) (by rw [← HR.out]; exact hyes) (size_ne h0))
          clear hyes HNO
          go_wp2
          refine bodyPost_ret (by simp [results, Tryz.results39, go_sem]; rfl) rfl ?_
          exact RrP.mk HO3.out HY.out hbw3
  · go_wp2
    go_loopw [8, 10, 11, 12, 13, 14, 15, 16, 17, 37] (fun o _ _ _ _ _ _ _ _ k wr => ∃ (j : Nat) (cs : List CellD), k = .int .i64 j ∧ j ≤ xs.length - 2 ∧ Below w.heap.size w wr ∧ OwnL rCell 39 wr w.heap.size o cs ∧ OwnL rStr 9 wr w.heap.size (.slice (some ⟨pb, po, none⟩) xs.length pc) xs ∧ ReadsTo ((midL ws).take j) cs ∧ Sm cs ∧ cs.length ≤ j) (fun _ _ _ _ _ _ _ _ _ k _ => xs.length - (intOf k).toNat)
    case atStart => exact ⟨0, [], rfl, by omega, hbw2, OwnL.nil _ _ _ _, HP2.out, by rw [List.take_zero]; exact ReadsTo.nil, Sm.nil, by simp⟩
    case round =>
      clear HP2
      obtain ⟨j, cs, rfl, hj, hbel, ho, hp, hrt, hsmc, hcl⟩ := hrel
      rename_i wr
      obtain ⟨oa, oc, rfl⟩ := ho.rd.form
      have HO := Lib.hid ho
      have HP := Lib.hid hp
      have HRT := Lib.hid hrt
      have HSC := Lib.hid hsmc
      have hws := hbel.size
      clear ho hrt hsmc
      by_cases hlt : (j : Int) < ((xs.length - 2 : Nat) : Int)
      case pos =>
        have hk : j + 1 < xs.length := by omega
        obtain ⟨hk2, hwx⟩ := map_get xs ws HXS.out hk
        obtain ⟨_, pb', po', hpe, hpl, y0⟩ := str_at hp hk
        cases hpe
        rw [show po + (j + 1) = po + 1 + j by omega] at y0
        have hsx : xs[j + 1].size ≤ 1048576 := Nat.le_trans (HSM.out _ (List.getElem_mem hk)) hs
        have hms := mid_step (ws := ws) (j := j) (by omega)
        rw [hwx] at hms
        have HMS := Lib.hid hms
        generalize xs[j + 1] = x at *
        clear hp hms
        have hgw := HG.out.below hbel
        have HGW := Lib.hid hgw
        clear hgw
        have hcl := cut_len x.data.toList 61
        have hxe : x.data.toList.length = x.size := by simp
        have hk1 : (strOf (Lib.cut x.data.toList [61]).1).size ≤ 1048576 := by rw [strOf_size]; omega
        have hk2' : (strOf (Lib.cut x.data.toList [61]).2.1).size ≤ 1048576 := by rw [strOf_size]; omega
        have DC := Lib.hid (lib_cut x 61 wr HGW.out hsx)
        have hcr : ∀ k v, Unh (Lib.cut x.data.toList [61]).1 k → Unh (Lib.cut x.data.toList [61]).2.1 v → CellR x.data.toList ⟨k, v⟩ := fun k v a b => cellR_cut a b
        obtain ⟨ca, hca⟩ : ∃ ca, ca = (Lib.cut x.data.toList [61]).1 := ⟨_, rfl⟩
        obtain ⟨cb, hcb⟩ : ∃ cb, cb = (Lib.cut x.data.toList [61]).2.1 := ⟨_, rfl⟩
        rw [← hca, ← hcb] at hcr
        rw [← hca] at hk1
        rw [← hcb] at hk2'
        simp only [← hca, ← hcb] at DC
        have HCR := Lib.hid hcr
        clear hcl hcr hca hcb hxe
        go_wp2_with fail
        (go_at_call 74; refine DC.out.mono ?_; rintro e w3 ⟨cok, rfl, hb3⟩)
        have hbw3 : Below w.heap.size w w3 := Below.then hbel hb3
        have HP3 := Lib.hid (own_bel HP.out hb3)
        have HO3 := Lib.hid (own_bel HO.out hb3)
        clear hb3 HP HO hbel y0 hpl DC HGW
        have DU := Lib.hid (impl_Unhex (strOf ca) w3 (HG.out.below hbw3) hk1)
        go_wp2_with fail
        (go_at_call 75; refine DU.out.mono ?_; rintro e w4 ⟨rk, okk, rfl, hrk, huk, hb4⟩)
        have hbw4 : Below w.heap.size w w4 := Below.then hbw3 hb4
        have HP4 := Lib.hid (own_bel HP3.out hb4)
        have HO4 := Lib.hid (own_bel HO3.out hb4)
        rw [strOf_list] at huk
        have HUK := Lib.hid huk
        clear hb4 HP3 HO3 hbw3 huk DU
        have DV := Lib.hid (impl_Unhex (strOf cb) w4 (HG.out.below hbw4) hk2')
        go_wp2_with fail
        (go_at_call 75; refine DV.out.mono ?_; rintro e w5 ⟨rv, okv, rfl, hrv, huv, hb5⟩)
        have hbw5 : Below w.heap.size w w5 := Below.then hbw4 hb5
        have HP5 := Lib.hid (own_bel HP4.out hb5)
        have HO5 := Lib.hid (own_bel HO4.out hb5)
        have hws5 := hbw5.size
        rw [strOf_list] at huv
        have hrt2 := HRT.out.snoc (HCR.out rk rv HUK.out huv)
        rw [← HMS.out] at hrt2
        have HRT2 := Lib.hid hrt2
        have HAP := Lib.hid (own_apart HP5.out HO5.out (by decide))
        clear hb5 HP4 HO4 hbw4 huv hrt2 DV
        go_wp2_with (at_builtin; refine Stop.here ?_)
        refine wpList_appL rfl _ _ _ rfl (R := rCell) (e := 39) Tryz.elemCellS (B := w.heap.size) (v := .slice oa cs.length oc) (xs := cs) (HO5.out.alloc _) rfl (ys := [⟨rk, rv⟩]) (RdL.oneAt rCell _ ⟨rk, rv⟩ _ rfl _ _ rfl) rfl (by simp only [List.length_singleton]; omega) (by simp only [List.length_singleton]; unfold maxLen; omega) (by rw [World.size_alloc]; omega) ?_
        intro w6v w6 ho6 hg6 _
        have hb6 : Below w.heap.size w w6 := Below.appL (a := w) (R := rCell) (e := 39) (v := .slice oa cs.length oc) (xs := cs) (by repeat (first | with_reducible exact Below.refl _ _ | with_reducible apply Below.ofExt | with_reducible apply Below.ofAlloc | with_reducible apply Below.drew | with_reducible apply Below.ofDrewN | with_reducible assumption | (with_reducible refine Below.setCell ?_ (by first | exact Nat.le_refl _ | (simp [go_sem]; done) | (simp [go_sem]; omega)) _))) hg6 (HO5.out.alloc _)
        have hp6 := OwnL.kept (v := .slice (some ⟨pb, po, none⟩) xs.length pc) (HP5.out.alloc _) hg6 HAP.out
        have HO6 := Lib.hid ho6
        have HP6 := Lib.hid hp6
        clear ho6 hp6 hg6 HO5 HP5 HAP
        go_wp2
        go_roundw
        case rel => exact ⟨j + 1, _, by go_num, by omega, hb6, HO6.out, HP6.out, HRT2.out, HSC.out.snoc hrk hrv, by rw [List.length_append, List.length_singleton]; omega⟩
        case measure => simp [intOf]; omega
      case neg =>
        have hall := mid_all (ws := ws) (j := j) (by omega)
        have hrt := HRT.out
        rw [hall] at hrt
        have hml := mid_len ws
        have hcs := hrt.length
        have hrd := cells_rdS HO.out HSC.out
        rw [HWS.out] at hrt
        have hnum := HN.out
        rw [HWS.out] at hnum
        have HNO := Lib.hid (fun h => read_no (t := s) hnum hrt h)
        have hcl2 : cs.length ≤ 1048576 := by omega
        have D := impl_RecordText n (.slice oa cs.length oc) cs wr (HG.out.below hbel).tab hrd hcl2
        have HD := Lib.hid D
        clear hrt hnum hp D hrd hall hml hcs
        by_cases h0 : s.toList = []
        · have h1 : s.toList.isEmpty = true := by rw [h0]; rfl
          have hno := HNO.out (.inr (.inl (size_nil h0)))
          have HNN := Lib.hid hno
          clear hno HNO
          go_wp2
          refine bodyPost_ret (by simp [results, Tryz.results39, go_sem]; rfl) rfl ?_
          exact RrP.mk (OwnL.nil rCell _ _ _) (RrOk.no HNN.out) hbel
        have h1 : s.toList.isEmpty = false := by rw [List.isEmpty_eq_false_iff]; exact h0
        go_wp2_with fail
        (go_at_call 18; refine HD.out.mono ?_; rintro e w3 ⟨rfl, hb3⟩)
        have hbw3 : Below w.heap.size w w3 := Below.then hbel hb3
        have HO3 := Lib.hid (own_bel HO.out hb3)
        obtain ⟨r, hr⟩ : ∃ r, r = recText n cs := ⟨_, rfl⟩
        rw [← hr] at HNO ⊢
        have HR := Lib.hid hr
        clear hb3 HO hr HD
        cases h2 : (r.toList == s.toList) with
        | false =>
          have hno := HNO.out (.inl (fun e => by rw [e] at h2; simp at h2))
          have HNN := Lib.hid hno
          clear hno HNO
          go_wp2
          refine bodyPost_ret (by simp [results, Tryz.results39, go_sem]; rfl) rfl ?_
          exact RrP.mk (OwnL.nil rCell _ _ _) (RrOk.no HNN.out) hbw3
        | true =>
          have hyes := str_same h2
          have HY := Lib.hid (RrOk.yes (n := n) (cs := cs) (s := s) (by rw [← HR.out]; exact hyes) (size_ne h0))
          clear hyes HNO
          go_wp2
          refine bodyPost_ret (by simp [results, Tryz.results39, go_sem]; rfl) rfl ?_
          exact RrP.mk HO3.out HY.out hbw3
end Go.Proofs.YtedgenmbdjadkaaGreatDoor
namespace Go.Proofs.YtedgenmbdjadkaaGreatDoor
open Go.ChangeShapes Go.WideShapes Go.ChangeAt Go.RowKit

theorem OwnSS.lt {w : World} {B : Nat} {v : Value} {ls : List (List CellD)} {hs : List SlH} {fps : List (List Nat)} (h : OwnSS w B v ls hs fps) : ∀ b ∈ fps.flatten, b < w.heap.size := h.el.lt
/-- what a round of the reading of records comes upon -/
def RecRel (fr : Int) (s : ByteArray) (B : Nat) (w wr : World) (o : Value) (n : Nat) (ls : List (List CellD)) (hs : List SlH) (fps : List (List Nat)) (sz : Int) : Prop :=
  OwnSS wr B o ls hs fps ∧ recs fr ((linesB s).drop n) ls sz = recsI s fr ∧ ls.length ≤ n ∧ (0 ≤ sz ∧ sz ≤ n * 1048577) ∧ Below B w wr
set_option maxRecDepth 100000 in
set_option maxHeartbeats 4000000 in
theorem spec_RecordsIn (s : ByteArray) (fr : Int) (w : World) (hs : s.size ≤ 1048576) :
    Calls Tryz.prog 7 #[.string s, .int .i64 fr] w (RsP s fr w) := by
  go_enter Tryz.func7, Tryz.ntmps7
  go_wp2_with fail
  (go_at_call 36; refine (spec_in fr 1 100000 _).mono ?_; rintro e w' ⟨rfl, rfl⟩)
  have hE0 := OwnSS.empty w
  cases hin : inB fr 1 100000 with
  | false =>
    have HR := Lib.hid (recsI_out (s := s) hin)
    have HE := Lib.hid hE0
    clear hE0
    go_wp2
    refine bodyPost_ret (by simp [results, Tryz.results7, go_sem]; rfl) rfl ?_
    exact RsP.mk HE.out HR.out (by repeat (first | with_reducible exact Below.refl _ _ | with_reducible apply Below.ofExt | with_reducible apply Below.ofAlloc | with_reducible apply Below.drew | with_reducible apply Below.ofDrewN | with_reducible assumption | (with_reducible refine Below.setCell ?_ (by first | exact Nat.le_refl _ | (simp [go_sem]; done) | (simp [go_sem]; omega)) _)))
  | true =>
    have hfr : 1 ≤ fr ∧ fr ≤ 100000 := by unfold inB at hin; simp at hin; omega
    have HR := Lib.hid (recsI_in (s := s) hin)
    clear hin
    have HE := Lib.hid hE0
    clear hE0
    go_wp2_with fail
    (go_at_call 35; refine (spec_LinesIn s _ hs).mono ?_; rintro e w1 ⟨lv, xs, rfl, hl, hx, hb1⟩)
    obtain rfl := linesB_eq hx
    obtain ⟨la, lc, rfl⟩ := hl.rd.form
    have hll := linesB_len s
    have HL0 := Lib.hid hl
    have HE1 := Lib.hid (HE.out.bel hb1)
    have hbw := Below.then (Below.ofAlloc (Below.refl w.heap.size w) (.cells #[] 35)) hb1
    clear hb1 hl hx HE
    go_wp2
    go_loopw [6, 8, 9, 10, 11, 12] (fun o sz k _ _ _ wr => ∃ (n : Nat) (ls : List (List CellD)) (hs : List SlH) (fps : List (List Nat)) (z : Int), k = .int .i64 n ∧ sz = .int .i64 z ∧ n ≤ (linesB s).length ∧ RecRel fr s w.heap.size w wr o n ls hs fps z ∧ OwnL rStr 9 wr (w.alloc (.cells #[] 35)).heap.size (.slice la (linesB s).length lc) (linesB s)) (fun _ _ k _ _ _ _ => (linesB s).length - (intOf k).toNat)
    case atStart => exact ⟨0, [], [], [], 0, rfl, rfl, by omega, ⟨HE1.out, by rw [List.drop_zero, HR.out], by simp, by omega, hbw⟩, HL0.out⟩
    case round =>
      clear HE1 HL0 hbw
      obtain ⟨n, ls, hs, fps, z, rfl, rfl, hn, ⟨ho, hrec, hln, hz, hbel⟩, hl⟩ := hrel
      rename_i wr
      obtain ⟨oa, oc, rfl⟩ := ho.form
      have HO := Lib.hid ho
      have HRC := Lib.hid hrec
      have HL := Lib.hid hl
      have hws := hbel.size
      have hlen2 := ho.len
      clear ho hrec
      by_cases hlt : (n : Int) < (linesB s).length
      case neg =>
        have he := recs_end fr (linesB s) n ls z (by omega)
        have HX := Lib.hid (HRC.out.symm.trans he)
        clear hl he
        go_wp2
        refine bodyPost_ret (by simp [results, Tryz.results7, go_sem]; rfl) rfl ?_
        exact RsP.mk HO.out HX.out hbel
      have hk : n < (linesB s).length := by omega
      obtain ⟨_, pb, po, hpe, hpl, y0⟩ := str_at hl hk
      cases hpe
      have hsx := linesB_mem (List.getElem_mem hk)
      have hdrop := fun p (a : recStep fr ls z (linesB s)[n] = some p) => recs_some hk a
      have hnone := fun (a : recStep fr ls z (linesB s)[n] = none) => recs_none hk a
      generalize (linesB s)[n] = x at *
      have HD := Lib.hid hdrop
      have HN := Lib.hid hnone
      clear hl hdrop hnone
      go_wp2_with fail
      (go_at_call 37; refine (spec_ReadRecord x _ (by omega)).mono ?_; rintro e w3 ⟨q, rv, b, cs, rfl, hrv, hok, hb3⟩)
      obtain ⟨ra, rc, rfl⟩ := hrv.rd.form
      have hbw3 : Below w.heap.size w w3 := Below.then hbel hb3
      have HO3 := Lib.hid (HO.out.bel hb3)
      have HL3 := Lib.hid (own_bel HL.out hb3)
      have y3 := (Grew.below hb3).cell y0
      have hpl3 := Nat.lt_of_lt_of_le hpl hb3.size
      have hws3 := hb3.size
      have HLT := Lib.hid HO.out.lt
      have HRV := Lib.hid hrv
      clear hb3 HO HL y0 hpl hbel hrv
      cases b with
      | false =>
        have hno := (hok.2 rfl).2.2
        have HX := Lib.hid (HRC.out.symm.trans (HN.out (step_no hno)))
        clear hok hno
        go_wp2
        refine bodyPost_ret (by simp [results, Tryz.results7, go_sem]; rfl) rfl ?_
        exact RsP.mk HO3.out HX.out hbw3
      | true =>
        have hyes := hok.1 rfl
        obtain ⟨hq, _, _, hcz⟩ := readI_inv hyes
        have HCZ := Lib.hid hcz
        clear hok hcz
        by_cases hA : ls.length = 0 ∧ q < fr
        case pos =>
          have hst := HD.out _ (step_skip hyes hA.1 hA.2)
          have HX := Lib.hid (hst.symm.trans HRC.out)
          have e1 : (q == fr + (ls.length : Int)) = false := by rw [beq_eq_false_iff_ne]; omega
          have e2 : (q != fr + (ls.length : Int)) = true := by rw [bne, e1]; rfl
          obtain ⟨hA1, hA2⟩ := hA
          obtain rfl := List.eq_nil_of_length_eq_zero hA1
          clear hst hyes hA1
          go_wp2
          go_roundw
          case rel => exact ⟨n + 1, [], hs, fps, z + x.size, by go_num, by go_num, by omega, ⟨HO3.out, HX.out, by simp, by omega, hbw3⟩, HL3.out⟩
          case measure => simp [intOf]; omega
        case neg =>
          by_cases hB : q = fr + ls.length
          case neg =>
            have HX := Lib.hid (HRC.out.symm.trans (HN.out (step_stop hyes hA hB)))
            have e1 : (q == fr + (ls.length : Int)) = false := by rw [beq_eq_false_iff_ne]; omega
            have e2 : (q != fr + (ls.length : Int)) = true := by rw [bne, e1]; rfl
            clear hyes
            by_cases h0 : ls.length = 0
            · have h2 : fr < q := by omega
              obtain rfl := List.eq_nil_of_length_eq_zero h0
              clear h0
              go_wp2
              refine bodyPost_ret (by simp [results, Tryz.results7, go_sem]; rfl) rfl ?_
              exact RsP.mk HO3.out HX.out hbw3
            · have h1 : (0 : Int) < ls.length := by omega
              go_wp2
              refine bodyPost_ret (by simp [results, Tryz.results7, go_sem]; rfl) rfl ?_
              exact RsP.mk HO3.out HX.out hbw3
          case pos =>
            have HX := Lib.hid ((HD.out _ (step_add hyes hB)).symm.trans HRC.out)
            have e1 : (q == fr + (ls.length : Int)) = true := by rw [beq_iff_eq]; exact hB
            have e2 : (q != fr + (ls.length : Int)) = false := by rw [bne, e1]; rfl
            clear hyes
            go_wp2_with (at_builtin; refine Stop.here ?_)
            refine wpList_appL rfl _ _ _ rfl (R := rSl) (e := 35) Tryz.elemCellSS (B := w.heap.size) (v := .slice oa ls.length oc) (xs := hs) (HO3.out.row.alloc _) rfl (ys := [⟨ra, cs.length, rc⟩]) (RdL.oneAt rSl _ ⟨ra, cs.length, rc⟩ _ rfl _ _ rfl) rfl (by simp only [List.length_singleton]; omega) (by simp only [List.length_singleton]; unfold maxLen; omega) (by simp [World.ext_size]; omega) ?_
            intro v6 w6 ho6 hg6 _
            obtain ⟨fp, hc1, hc2, hc3⟩ := own_of_cells HRV.out (fun d hd => by have := HCZ.out d hd; exact ⟨by omega, by omega⟩)
            have hO6 := (HO3.out.alloc (.cells #[.slice ra cs.length rc] 35)).snoc (View.ownGrow hc1 (Grew.alloc _ _)) hc2 (fun b hb => by have := hc3 b hb; omega) (fun b hb hb' => by have := HLT.out b hb; have := hc3 b hb'; omega) ho6 hg6
            have hb6 : Below w.heap.size w w6 := (Below.ofAlloc hbw3 _).grown hg6 (by simp; omega) (fun k e => ((HO3.out.row.alloc (.cells #[.slice ra cs.length rc] 35)).lt k e).1)
            have hap := own_apart (HL3.out.alloc (.cells #[.slice ra cs.length rc] 35)) (HO3.out.row.alloc (.cells #[.slice ra cs.length rc] 35)) (by decide)
            have hL6 := OwnL.kept (HL3.out.alloc (.cells #[.slice ra cs.length rc] 35)) hg6 hap
            obtain ⟨oa6, oc6, rfl⟩ := hO6.form
            rw [List.length_append, List.length_singleton] at hO6
            have HO6 := Lib.hid hO6
            have HL6 := Lib.hid hL6
            have hnb : some pb ≠ (Value.slice oa ls.length oc).ownBlock := by
              rcases hap with h | h
              · simp [Value.ownBlock] at h
              · exact h
            have y6 := (World.cell?_of_block (w := w3.alloc (.cells #[.slice ra cs.length rc] 35)) (w' := w6) (a := ⟨pb, po + n, none⟩) (hg6.block pb (by simp; omega) hnb)).trans ((Grew.alloc w3 _).cell y3)
            have hpl6 : pb < w6.heap.size := by have := hg6.size; simp at this; omega
            have HB6 := Lib.hid hb6
            clear ho6 hg6 hO6 hL6 hc1 hc2 hc3 HO3 HL3 hb6 y3 hpl3 hap hnb
            go_wp2
            go_roundw
            case rel => exact ⟨n + 1, ls ++ [cs], _, _, z + x.size, by go_num, by go_num, by omega, ⟨HO6.out, HX.out, by rw [List.length_append, List.length_singleton]; omega, by omega, HB6.out⟩, HL6.out⟩
            case measure => simp [intOf]; omega
set_option maxRecDepth 100000 in
set_option maxHeartbeats 4000000 in
theorem impl_RecordsIn (s : ByteArray) (fr : Int) (w : World) (hg : Glob w) (hs : s.size ≤ 1048576) :
    Calls Tryz.prog 8 #[.string s, .int .i64 fr] w (RsP s fr w) := by
  have HG := Lib.hid hg
  clear hg
  go_enter Tryz.func8, Tryz.ntmps8
  go_wp2_with fail
  (go_at_call 38; refine (impl_in fr 1 100000 _).mono ?_; rintro e w' ⟨rfl, rfl⟩)
  have hE0 := OwnSS.nil w w.heap.size
  cases hin : inB fr 1 100000 with
  | false =>
    have HR := Lib.hid (recsI_out (s := s) hin)
    have HE := Lib.hid hE0
    clear hE0
    go_wp2
    refine bodyPost_ret (by simp [results, Tryz.results8, go_sem]; rfl) rfl ?_
    exact RsP.mk HE.out HR.out (by repeat (first | with_reducible exact Below.refl _ _ | with_reducible apply Below.ofExt | with_reducible apply Below.ofAlloc | with_reducible apply Below.drew | with_reducible apply Below.ofDrewN | with_reducible assumption | (with_reducible refine Below.setCell ?_ (by first | exact Nat.le_refl _ | (simp [go_sem]; done) | (simp [go_sem]; omega)) _)))
  | true =>
    have hfr : 1 ≤ fr ∧ fr ≤ 100000 := by unfold inB at hin; simp at hin; omega
    have HR := Lib.hid (recsI_in (s := s) hin)
    clear hin
    have HE := Lib.hid hE0
    clear hE0
    go_wp2_with fail
    (go_at_call 34; refine (impl_LinesIn s _ HG.out.max hs).mono ?_; rintro e w1 ⟨lv, xs, rfl, hl, hx, hb1⟩)
    obtain rfl := linesB_eq hx
    obtain ⟨la, lc, rfl⟩ := hl.rd.form
    have hll := linesB_len s
    have HL0 := Lib.hid hl
    have HE1 := Lib.hid (HE.out.bel hb1)
    have hbw := hb1
    clear hl hx HE
    go_wp2
    go_loopw [6, 7, 9, 10, 11, 12, 13, 20] (fun o sz _ _ _ _ _ k wr => ∃ (n : Nat) (ls : List (List CellD)) (hs : List SlH) (fps : List (List Nat)) (z : Int), k = .int .i64 n ∧ sz = .int .i64 z ∧ n ≤ (linesB s).length ∧ RecRel fr s w.heap.size w wr o n ls hs fps z ∧ OwnL rStr 9 wr w.heap.size (.slice la (linesB s).length lc) (linesB s)) (fun _ _ _ _ _ _ _ k _ => (linesB s).length - (intOf k).toNat)
    case atStart => exact ⟨0, [], [], [], 0, rfl, rfl, by omega, ⟨HE1.out, by rw [List.drop_zero, HR.out], by simp, by omega, hbw⟩, HL0.out⟩
    case round =>
      clear HE1 HL0 hbw
      obtain ⟨n, ls, hs, fps, z, rfl, rfl, hn, ⟨ho, hrec, hln, hz, hbel⟩, hl⟩ := hrel
      rename_i wr
      obtain ⟨oa, oc, rfl⟩ := ho.form
      have HO := Lib.hid ho
      have HRC := Lib.hid hrec
      have HL := Lib.hid hl
      have hws := hbel.size
      have hlen2 := ho.len
      clear ho hrec
      by_cases hlt : (n : Int) < (linesB s).length
      case neg =>
        have he := recs_end fr (linesB s) n ls z (by omega)
        have HX := Lib.hid (HRC.out.symm.trans he)
        clear hl he
        go_wp2
        refine bodyPost_ret (by simp [results, Tryz.results8, go_sem]; rfl) rfl ?_
        exact RsP.mk HO.out HX.out hbel
      have hk : n < (linesB s).length := by omega
      obtain ⟨_, pb, po, hpe, hpl, y0⟩ := str_at hl hk
      cases hpe
      have hsx := linesB_mem (List.getElem_mem hk)
      have hdrop := fun p (a : recStep fr ls z (linesB s)[n] = some p) => recs_some hk a
      have hnone := fun (a : recStep fr ls z (linesB s)[n] = none) => recs_none hk a
      generalize (linesB s)[n] = x at *
      have HD := Lib.hid hdrop
      have HN := Lib.hid hnone
      clear hl hdrop hnone
      go_wp2_with fail
      (go_at_call 39; refine (impl_ReadRecord x _ (HG.out.below hbel) (by omega)).mono ?_; rintro e w3 ⟨q, rv, b, cs, rfl, hrv, hok, hb3⟩)
      obtain ⟨ra, rc, rfl⟩ := hrv.rd.form
      have hbw3 : Below w.heap.size w w3 := Below.then hbel hb3
      have HO3 := Lib.hid (HO.out.bel hb3)
      have HL3 := Lib.hid (own_bel HL.out hb3)
      have y3 := (Grew.below hb3).cell y0
      have hpl3 := Nat.lt_of_lt_of_le hpl hb3.size
      have hws3 := hb3.size
      have HLT := Lib.hid HO.out.lt
      have HRV := Lib.hid hrv
      clear hb3 HO HL y0 hpl hbel hrv
      cases b with
      | false =>
        obtain ⟨rfl, rfl, hno⟩ := hok.2 rfl
        have HX := Lib.hid (HRC.out.symm.trans (HN.out (step_no hno)))
        clear hok hno
        by_cases h0 : ls.length = 0
        · obtain rfl := List.eq_nil_of_length_eq_zero h0
          clear h0
          have h3 : (0 : Int) < fr := by omega
          go_wp2
          refine bodyPost_ret (by simp [results, Tryz.results8, go_sem]; rfl) rfl ?_
          exact RsP.mk HO3.out HX.out hbw3
        · have h1 : ((ls.length : Int) == 0) = false := by rw [beq_eq_false_iff_ne]; omega
          go_wp2
          refine bodyPost_ret (by simp [results, Tryz.results8, go_sem]; rfl) rfl ?_
          exact RsP.mk HO3.out HX.out hbw3
      | true =>
        have hyes := hok.1 rfl
        obtain ⟨hq, _, _, hcz⟩ := readI_inv hyes
        have HCZ := Lib.hid hcz
        clear hok hcz
        by_cases hA : ls.length = 0 ∧ q < fr
        case pos =>
          have hst := HD.out _ (step_skip hyes hA.1 hA.2)
          have HX := Lib.hid (hst.symm.trans HRC.out)
          have e1 : (q == fr + (ls.length : Int)) = false := by rw [beq_eq_false_iff_ne]; omega
          have e2 : (q != fr + (ls.length : Int)) = true := by rw [bne, e1]; rfl
          obtain ⟨hA1, hA2⟩ := hA
          obtain rfl := List.eq_nil_of_length_eq_zero hA1
          clear hst hyes hA1
          go_wp2
          go_roundw
          case rel => exact ⟨n + 1, [], hs, fps, z + x.size, by go_num, by go_num, by omega, ⟨HO3.out, HX.out, by simp, by omega, hbw3⟩, HL3.out⟩
          case measure => simp [intOf]; omega
        case neg =>
          by_cases hB : q = fr + ls.length
          case neg =>
            have HX := Lib.hid (HRC.out.symm.trans (HN.out (step_stop hyes hA hB)))
            have e1 : (q == fr + (ls.length : Int)) = false := by rw [beq_eq_false_iff_ne]; omega
            have e2 : (q != fr + (ls.length : Int)) = true := by rw [bne, e1]; rfl
            clear hyes
            by_cases h0 : ls.length = 0
            · have h2 : fr < q := by omega
              obtain rfl := List.eq_nil_of_length_eq_zero h0
              have e3 : (q != fr) = true := by rw [bne_iff_ne]; omega
              have h3 : ¬ q < fr := by omega
              have h4 : decide (q < fr) = false := decide_eq_false h3
              have h5 : (!decide (q < fr)) = true := by rw [h4]; rfl
              clear h0 e1 e2
              go_wp2
              refine bodyPost_ret (by simp [results, Tryz.results8, go_sem]; rfl) rfl ?_
              exact RsP.mk HO3.out HX.out hbw3
            · have h1 : ((ls.length : Int) == 0) = false := by rw [beq_eq_false_iff_ne]; omega
              go_wp2
              refine bodyPost_ret (by simp [results, Tryz.results8, go_sem]; rfl) rfl ?_
              exact RsP.mk HO3.out HX.out hbw3
          case pos =>
            have HX := Lib.hid ((HD.out _ (step_add hyes hB)).symm.trans HRC.out)
            have e1 : (q == fr + (ls.length : Int)) = true := by rw [beq_iff_eq]; exact hB
            have e2 : (q != fr + (ls.length : Int)) = false := by rw [bne, e1]; rfl
            clear hyes
            have hqf : ¬ q < fr := by omega
            by_cases h0 : ls.length = 0
            case neg =>
              have h1 : ((ls.length : Int) == 0) = false := by rw [beq_eq_false_iff_ne]; omega
              go_wp2_with (at_builtin; refine Stop.here ?_)
              refine wpList_appL rfl _ _ _ rfl (R := rSl) (e := 35) Tryz.elemCellSS (B := w.heap.size) (v := .slice oa ls.length oc) (xs := hs) (HO3.out.row.alloc _) rfl (ys := [⟨ra, cs.length, rc⟩]) (RdL.oneAt rSl _ ⟨ra, cs.length, rc⟩ _ rfl _ _ rfl) rfl (by simp only [List.length_singleton]; omega) (by simp only [List.length_singleton]; unfold maxLen; omega) (by simp [World.ext_size]; omega) ?_
              intro v6 w6 ho6 hg6 _
              obtain ⟨fp, hc1, hc2, hc3⟩ := own_of_cells HRV.out (fun d hd => by have := HCZ.out d hd; exact ⟨by omega, by omega⟩)
              have hO6 := (HO3.out.alloc (.cells #[.slice ra cs.length rc] 35)).snoc (View.ownGrow hc1 (Grew.alloc _ _)) hc2 (fun b hb => by have := hc3 b hb; omega) (fun b hb hb' => by have := HLT.out b hb; have := hc3 b hb'; omega) ho6 hg6
              have hb6 : Below w.heap.size w w6 := (Below.ofAlloc hbw3 _).grown hg6 (by simp; omega) (fun k e => ((HO3.out.row.alloc (.cells #[.slice ra cs.length rc] 35)).lt k e).1)
              have hap := own_apart (HL3.out.alloc (.cells #[.slice ra cs.length rc] 35)) (HO3.out.row.alloc (.cells #[.slice ra cs.length rc] 35)) (by decide)
              have hL6 := OwnL.kept (HL3.out.alloc (.cells #[.slice ra cs.length rc] 35)) hg6 hap
              obtain ⟨oa6, oc6, rfl⟩ := hO6.form
              rw [List.length_append, List.length_singleton] at hO6
              have HO6 := Lib.hid hO6
              have HL6 := Lib.hid hL6
              have hnb : some pb ≠ (Value.slice oa ls.length oc).ownBlock := by
                rcases hap with h | h
                · simp [Value.ownBlock] at h
                · exact h
              have y6 := (World.cell?_of_block (w := w3.alloc (.cells #[.slice ra cs.length rc] 35)) (w' := w6) (a := ⟨pb, po + n, none⟩) (hg6.block pb (by simp; omega) hnb)).trans ((Grew.alloc w3 _).cell y3)
              have hpl6 : pb < w6.heap.size := by have := hg6.size; simp at this; omega
              have HB6 := Lib.hid hb6
              clear ho6 hg6 hO6 hL6 hc1 hc2 hc3 HO3 HL3 hb6 y3 hpl3 hap hnb
              go_wp2
              go_roundw
              case rel => exact ⟨n + 1, ls ++ [cs], _, _, z + x.size, by go_num, by go_num, by omega, ⟨HO6.out, HX.out, by rw [List.length_append, List.length_singleton]; omega, by omega, HB6.out⟩, HL6.out⟩
              case measure => simp [intOf]; omega
            case pos =>
              obtain rfl := List.eq_nil_of_length_eq_zero h0
              simp only [List.length_nil, Int.natCast_zero, Int.add_zero] at hB
              subst hB
              have e3 : (q != q) = false := by simp
              have h3 : ¬ q < q := by omega
              have h4 : decide (q < q) = false := decide_eq_false h3
              have h5 : (!decide (q < q)) = true := by rw [h4]; rfl
              clear h0 e1 e2 hqf hA
              go_wp2_with (at_builtin; refine Stop.here ?_)
              refine wpList_appL rfl _ _ _ rfl (R := rSl) (e := 35) Tryz.elemCellSS (B := w.heap.size) (v := .slice oa 0 oc) (xs := hs) (HO3.out.row.alloc _) rfl (ys := [⟨ra, cs.length, rc⟩]) (RdL.oneAt rSl _ ⟨ra, cs.length, rc⟩ _ rfl _ _ rfl) rfl (by simp only [List.length_singleton]; omega) (by simp only [List.length_singleton]; unfold maxLen; omega) (by simp [World.ext_size]; omega) ?_
              intro v6 w6 ho6 hg6 _
              obtain ⟨fp, hc1, hc2, hc3⟩ := own_of_cells HRV.out (fun d hd => by have := HCZ.out d hd; exact ⟨by omega, by omega⟩)
              have hO6 := (HO3.out.alloc (.cells #[.slice ra cs.length rc] 35)).snoc (View.ownGrow hc1 (Grew.alloc _ _)) hc2 (fun b hb => by have := hc3 b hb; omega) (fun b hb hb' => by have := HLT.out b hb; have := hc3 b hb'; omega) ho6 hg6
              have hb6 : Below w.heap.size w w6 := (Below.ofAlloc hbw3 _).grown hg6 (by simp; omega) (fun k e => ((HO3.out.row.alloc (.cells #[.slice ra cs.length rc] 35)).lt k e).1)
              have hap := own_apart (HL3.out.alloc (.cells #[.slice ra cs.length rc] 35)) (HO3.out.row.alloc (.cells #[.slice ra cs.length rc] 35)) (by decide)
              have hL6 := OwnL.kept (HL3.out.alloc (.cells #[.slice ra cs.length rc] 35)) hg6 hap
              obtain ⟨oa6, oc6, rfl⟩ := hO6.form
              rw [List.length_append, List.length_singleton] at hO6
              have HO6 := Lib.hid hO6
              have HL6 := Lib.hid hL6
              have hnb : some pb ≠ (Value.slice oa 0 oc).ownBlock := by
                rcases hap with h | h
                · simp [Value.ownBlock] at h
                · exact h
              have y6 := (World.cell?_of_block (w := w3.alloc (.cells #[.slice ra cs.length rc] 35)) (w' := w6) (a := ⟨pb, po + n, none⟩) (hg6.block pb (by simp; omega) hnb)).trans ((Grew.alloc w3 _).cell y3)
              have hpl6 : pb < w6.heap.size := by have := hg6.size; simp at this; omega
              have HB6 := Lib.hid hb6
              clear ho6 hg6 hO6 hL6 hc1 hc2 hc3 HO3 HL3 hb6 y3 hpl3 hap hnb
              go_wp2
              go_roundw
              case rel => exact ⟨n + 1, [] ++ [cs], _, _, z + x.size, by go_num, by go_num, by omega, ⟨HO6.out, HX.out, by rw [List.length_append, List.length_singleton]; omega, by omega, HB6.out⟩, HL6.out⟩
              case measure => simp [intOf]; omega
end Go.Proofs.YtedgenmbdjadkaaGreatDoor
namespace Go.Proofs.YtedgenmbdjadkaaGreatDoor
open Go.ChangeShapes Go.WideShapes Go.ChangeAt Go.RowKit

set_option maxRecDepth 100000 in
theorem laws_sameCellsC (v v' : Value) (xs : List CellD) (w : World) (hs : RdL rCell w v xs) (hs' : RdL rCell w v' xs) :
    Calls Tryz.prog 15 #[v, v'] w fun e w' => e = .returned (.bool true) ∧ Below w.heap.size w w' := by
  obtain ⟨ao, cap, rfl, hc1, hc2, _, hcell⟩ := hs.shape
  obtain ⟨ao', cap', rfl, hc1', hc2', _, hcell'⟩ := hs'.shape
  have HX := Lib.hid hcell
  have HX' := Lib.hid hcell'
  clear hcell hcell' hs hs'
  unfold maxLen at hc2 hc2'
  go_enter Tryz.func15, Tryz.ntmps15
  go_wp2
  go_loopw [5] (fun k wr => ∃ (n : Nat), k = .int .i64 n ∧ n ≤ xs.length ∧ Below w.heap.size w wr) (fun k _ => xs.length - (intOf k).toNat)
  case atStart => exact ⟨0, rfl, by omega, (by repeat (first | with_reducible exact Below.refl _ _ | with_reducible apply Below.ofExt | with_reducible apply Below.ofAlloc | with_reducible apply Below.drew | with_reducible apply Below.ofDrewN | with_reducible assumption | (with_reducible refine Below.setCell ?_ (by first | exact Nat.le_refl _ | (simp [go_sem]; done) | (simp [go_sem]; omega)) _)))⟩
  case round =>
    obtain ⟨n, rfl, hn, hbel⟩ := hrel
    obtain ⟨X, rfl⟩ := hbel.ext
    clear hbel
    by_cases hlt : (n : Int) < xs.length
    · have hk : n < xs.length := by omega
      obtain ⟨b, off, rfl, hbl, hcell⟩ := HX.out (by intro e; simp [e] at hk)
      obtain ⟨b', off', rfl, hbl', hcell'⟩ := HX'.out (by intro e; simp [e] at hk)
      have hcc := hcell n hk
      have hcc' := hcell' n hk
      generalize xs[n] = x at hcc hcc'
      have y0 : w.cell? ⟨b, off + n * 2, none⟩ = some (.string x.key) := hcc 0 _ rfl
      have y1 : w.cell? ⟨b, off + n * 2 + 1, none⟩ = some (.string x.val) := hcc 1 _ rfl
      have z0 : w.cell? ⟨b', off' + n * 2, none⟩ = some (.string x.key) := hcc' 0 _ rfl
      have z1 : w.cell? ⟨b', off' + n * 2 + 1, none⟩ = some (.string x.val) := hcc' 1 _ rfl
      have hbl := hbl (by decide)
      have hbl' := hbl' (by decide)
      clear hcell hcell' hcc hcc'
      go_wp2
      go_quiet (fail)
      go_wp2
      go_roundw
      case rel => exact ⟨n + 1, by go_num, by omega, (by repeat (first | with_reducible exact Below.refl _ _ | with_reducible apply Below.ofExt | with_reducible apply Below.ofAlloc | with_reducible apply Below.drew | with_reducible apply Below.ofDrewN | with_reducible assumption | (with_reducible refine Below.setCell ?_ (by first | exact Nat.le_refl _ | (simp [go_sem]; done) | (simp [go_sem]; omega)) _)))⟩
      case measure => simp [intOf]; omega
    · go_wp2
      go_ret
      exact ⟨rfl, (by repeat (first | with_reducible exact Below.refl _ _ | with_reducible apply Below.ofExt | with_reducible apply Below.ofAlloc | with_reducible apply Below.drew | with_reducible apply Below.ofDrewN | with_reducible assumption | (with_reducible refine Below.setCell ?_ (by first | exact Nat.le_refl _ | (simp [go_sem]; done) | (simp [go_sem]; omega)) _)))⟩
theorem OwnSS.at {w : World} {B : Nat} {v : Value} {ls : List (List CellD)} {hs : List SlH} {fps : List (List Nat)} (h : OwnSS w B v ls hs fps) {i : Nat} (hi : i < ls.length) :
    ∃ b off ao cap acap, v = .slice (some ⟨b, off, none⟩) ls.length acap ∧ b < w.heap.size ∧ w.cell? ⟨b, off + i, none⟩ = some (.slice ao ls[i].length cap) ∧ RdL rCell w (.slice ao ls[i].length cap) ls[i] := by
  have hl := h.len
  obtain ⟨ao, cap, rfl, h1, h2, h3, h4⟩ := h.row.rd.shape
  obtain ⟨b, off, rfl, hb, hc⟩ := h4 (by intro e; rw [e] at hl; simp at hl; omega)
  have hcell := hc i (by omega) 0 _ rfl
  have he := h.el.el i hi (by rw [h.el.cl]; exact hi) (by rw [h.el.fl]; exact hi)
  have e1 : (hs.map rSl.row)[i]'(by rw [h.el.cl]; exact hi) = [hs[i].val] := by simp [rSl]
  rw [e1] at he
  obtain ⟨a, c, e2⟩ := vSlice.form (View.toRd _ he)
  rw [e2] at he
  refine ⟨b, off, a, c, cap, by rw [hl], hb (by decide), ?_, rdl_of_own rfl he⟩
  rw [e2] at hcell
  simpa [rSl] using hcell
end Go.Proofs.YtedgenmbdjadkaaGreatDoor
namespace Go.Proofs.YtedgenmbdjadkaaGreatDoor
open Go.ChangeShapes Go.WideShapes Go.ChangeAt Go.RowKit

def ltS (a b : ByteArray) : Bool := Op.bytesLess a.toList b.toList
/-- how many at the head are below x -/
def putAt (xs : List ByteArray) (x : ByteArray) : Nat := (xs.takeWhile (ltS · x)).length
def putS (xs : List ByteArray) (x : ByteArray) : List ByteArray := if xs[putAt xs x]? = some x then xs else xs.take (putAt xs x) ++ x :: xs.drop (putAt xs x)

theorem Tryz.elemStrs : Elem Tryz.prog 61 9 1 16 := Elem.of (.string ⟨#[]⟩) Tryz.underlying61 (by kernel_rfl) rfl (by decide)

theorem takeWhile_le {α : Type} (p : α → Bool) (l : List α) : (l.takeWhile p).length ≤ l.length := by
  induction l with
  | nil => simp
  | cons a l ih => simp only [List.takeWhile_cons]; split <;> simp <;> omega

theorem putAt_lt {xs : List ByteArray} {x : ByteArray} {k : Nat} (hk : k < putAt xs x) (h : k < xs.length) : ltS xs[k] x = true := by
  have h1 : (xs.takeWhile (ltS · x))[k]'hk = xs[k] := by
    have := List.takeWhile_prefix (ltS · x) (l := xs)
    exact List.IsPrefix.getElem this hk
  have h2 : ∀ (l : List ByteArray) (k : Nat) (h : k < (l.takeWhile (ltS · x)).length), ltS (l.takeWhile (ltS · x))[k] x = true := by
    intro l
    induction l with
    | nil => intro k h; simp at h
    | cons a l ih =>
      intro k h
      simp only [List.takeWhile_cons] at h ⊢
      split at h
      · rename_i ha
        simp only [ha, if_true]
        cases k with
        | zero => exact ha
        | succ k => exact ih k (by simpa using h)
      · simp at h
  have h3 := h2 xs k hk
  rw [h1] at h3
  exact h3
theorem putAt_ge {xs : List ByteArray} {x : ByteArray} (h : putAt xs x < xs.length) : ltS xs[putAt xs x] x = false := by
  have h2 : ∀ (l : List ByteArray) (h : (l.takeWhile (ltS · x)).length < l.length), ltS l[(l.takeWhile (ltS · x)).length] x = false := by
    intro l
    induction l with
    | nil => intro h; simp at h
    | cons a l ih =>
      intro h
      by_cases ha : ltS a x = true
      · simp only [List.takeWhile_cons, ha, if_true, List.length_cons] at h ⊢
        simpa using ih (by simpa using h)
      · have ha' : ltS a x = false := by simpa using ha
        simp only [List.takeWhile_cons, ha', Bool.false_eq_true, if_false, List.length_nil]
        exact ha'
  exact h2 xs h
theorem rd_cast {α : Type} {R : RowOf α} {w : World} {v : Value} {xs ys : List α} (h : RdL R w v xs) (e : ys = xs) : RdL R w v ys := by rw [e]; exact h

end Go.Proofs.YtedgenmbdjadkaaGreatDoor
namespace Go.Proofs.YtedgenmbdjadkaaGreatDoor
open Go.ChangeShapes Go.WideShapes Go.ChangeAt Go.RowKit

/-- block p is a cursor over bytes -/
def curObj (vb : Value) (i h : Int) : Obj := .cells #[vb, .int .i64 i, .int .i64 h] 106 (0, 0)
structure Cur (w : World) (p : Nat) (vb : Value) (bs : List UInt8) (i h : Int) : Prop where
  blk : w.heap[p]? = some (curObj vb i h)
  bytes : Sl w vb bs.length (bytesOf bs)
  lo : 0 ≤ i
  hi : i ≤ bs.length
  off : vb.ownBlock ≠ some p
  len : bs.length ≤ 140737488351232

theorem Cur.ext {w : World} {p : Nat} {vb : Value} {bs : List UInt8} {i h : Int} (c : Cur w p vb bs i h) (X : Ext) : Cur (w.ext X) p vb bs i h :=
  ⟨by rw [w.ext_get X (World.lt_of_get c.blk)]; exact c.blk, c.bytes.ext X, c.lo, c.hi, c.off, c.len⟩
theorem Cur.alloc {w : World} {p : Nat} {vb : Value} {bs : List UInt8} {i h : Int} (c : Cur w p vb bs i h) (o : Obj) : Cur (w.alloc o) p vb bs i h :=
  ⟨by rw [Below.heap_alloc w o p (World.lt_of_get c.blk)]; exact c.blk, c.bytes.alloc o, c.lo, c.hi, c.off, c.len⟩
theorem Cur.drew {w : World} {p : Nat} {vb : Value} {bs : List UInt8} {i h : Int} (c : Cur w p vb bs i h) : Cur w.drew p vb bs i h :=
  ⟨c.blk, c.bytes, c.lo, c.hi, c.off, c.len⟩
theorem Cur.set {w : World} {p : Nat} {vb : Value} {bs : List UInt8} {i h : Int} (c : Cur w p vb bs i h) {i' h' : Int} (h0 : 0 ≤ i') (h1 : i' ≤ bs.length) : Cur (w.setB p (curObj vb i' h')) p vb bs i' h' :=
  ⟨w.setB_at p _ (World.lt_of_get c.blk), c.bytes.setB c.off _, h0, h1, c.off, c.len⟩

theorem Cur.got {w w' : World} {p : Nat} {vb : Value} {bs : List UInt8} {i h i' h' : Int} (c : Cur w p vb bs i h) (g : Got p w (curObj vb i' h') w') (h0 : 0 ≤ i') (h1 : i' ≤ bs.length) : Cur w' p vb bs i' h' := by
  obtain ⟨X, rfl⟩ := g
  exact (c.set h0 h1).ext X
theorem Cur.below {w w' : World} {p : Nat} {vb : Value} {bs : List UInt8} {i h : Int} (c : Cur w p vb bs i h) (g : Below w.heap.size w w') : Cur w' p vb bs i h := by
  obtain ⟨X, rfl⟩ := g.ext
  exact c.ext X
theorem Cur.lt {w : World} {p : Nat} {vb : Value} {bs : List UInt8} {i h : Int} (c : Cur w p vb bs i h) : p < w.heap.size := World.lt_of_get c.blk

theorem and255 (x : Int) : 0 ≤ bits BinOp.and IntKind.i64 x 255 ∧ bits BinOp.and IntKind.i64 x 255 ≤ 255 := by
  have h : ∀ n : Nat, IntKind.i64.wrap ((n &&& 255 : Nat) : Int) = ((n &&& 255 : Nat) : Int) := fun n => by
    have := Nat.and_le_right (n := n) (m := 255)
    exact IntWalk.i64_in _ (by omega)
  unfold bits
  simp only [BitVec.toNat_and]
  have e : (BitVec.ofInt IntKind.i64.bits 255).toNat = 255 := by decide
  rw [e, h]
  have := Nat.and_le_right (n := (BitVec.ofInt IntKind.i64.bits x).toNat) (m := 255)
  omega

theorem spec_l01Byte (p : Nat) (vb : Value) (bs : List UInt8) (i h : Int) (w : World) (hc : Cur w p vb bs i h) :
    Calls Tryz.prog 81 #[.pointer (some ⟨p, 0, none⟩)] w fun e w' => ∃ x i' h', e = .returned (.int .i64 x) ∧ 0 ≤ x ∧ x ≤ 255 ∧ Got p w (curObj vb i' h') w' ∧ 0 ≤ i' ∧ i' ≤ bs.length := by
  obtain ⟨hb, hs, h0, h1, ho, hl⟩ := hc
  have hp := World.lt_of_get hb
  refine World.at_block hb ?_
  unfold curObj
  clear hb
  have ha := fun x => and255 x
  have HA := Lib.hid ha
  clear ha
  rcases hs with ⟨rfl, hn, _⟩ | ⟨b, off, cap, rfl, hc1, hc2, hcell⟩
  · have hlt : ¬ i < 0 := by omega
    go_enter Tryz.func81, Tryz.ntmps81
    go_wp2
    refine wp_region_ord [(0,true),(1,true),(2,true),(3,true),(4,true),(5,true),(6,true),(7,true),(8,true),(9,true),(10,true),(11,true),(12,false)] 12 (by kernel_rfl) (by kernel_rfl) ?_
    repeat (refine wpOrd_quiet rfl (fun K hK => ?_); go_simp; (try simp (disch := omega) only [IntWalk.i64_in]); refine hK _ ?_; clear hK K)
    repeat (refine wpOrd_tail rfl rfl (fun K hK => ?_); go_simp; refine hK _ _ ?_; clear hK K)
    refine wpOrd_nil ?_
    generalize hx : bits BinOp.and IntKind.i64 _ 255 = x
    have hx0 : 0 ≤ x ∧ x ≤ 255 := hx ▸ HA.out _
    clear hx
    go_wp2
    refine wp_region_ord [(0,true),(1,true),(2,true),(3,true),(4,true),(5,true),(6,true),(7,true),(8,true),(9,true)] 10 (by kernel_rfl) (by kernel_rfl) ?_
    repeat (refine wpOrd_quiet rfl (fun K hK => ?_); go_simp; (try simp (disch := omega) only [IntWalk.i64_in]); refine hK _ ?_; clear hK K)
    repeat (refine wpOrd_tail rfl rfl (fun K hK => ?_); go_simp; refine hK _ _ ?_; clear hK K)
    refine wpOrd_nil ?_
    go_wp2
    go_ret
    exact ⟨x, i, _, rfl, hx0.1, hx0.2, (by repeat (first | with_reducible exact Got.mk _ _ _ | with_reducible apply Got.ext | with_reducible apply Got.drew | with_reducible apply Got.alloc)), h0, h1⟩
  · have hbp : b ≠ p := fun e => ho (by simp [Value.ownBlock, e])
    by_cases hi : i < bs.length
    · obtain ⟨k, rfl⟩ := Int.eq_ofNat_of_zero_le h0
      have hk : k < bs.length := by omega
      have hcc : w.cell? ⟨b, off + k, none⟩ = some (.int .u8 (bs[k].toNat)) := hcell k _ (by simp [bytesOf, hk])
      have hbk : bs[k].toNat < 256 := bs[k].toNat_lt
      generalize bs[k].toNat = q at hcc hbk
      have hbl := World.block_lt_of_cell? w _ hcc
      clear hcell h0
      go_enter Tryz.func81, Tryz.ntmps81
      go_wp2
      refine wp_region_ord [(0,true),(1,true),(2,true),(3,true),(4,true),(5,true),(6,true),(7,true),(8,true),(9,true),(10,true),(11,true),(12,false)] 12 (by kernel_rfl) (by kernel_rfl) ?_
      repeat (refine wpOrd_quiet rfl (fun K hK => ?_); go_simp; (try simp (disch := omega) only [IntWalk.i64_in]); refine hK _ ?_; clear hK K)
      repeat (refine wpOrd_tail rfl rfl (fun K hK => ?_); go_simp; refine hK _ _ ?_; clear hK K)
      refine wpOrd_nil ?_
      generalize hx : bits BinOp.and IntKind.i64 _ 255 = x
      have hx0 : 0 ≤ x ∧ x ≤ 255 := hx ▸ HA.out _
      clear hx
      go_wp2
      refine wp_region_ord [(0,true),(1,true),(2,true),(3,true),(4,true),(5,true),(6,true),(7,true),(8,true),(9,true)] 10 (by kernel_rfl) (by kernel_rfl) ?_
      repeat (refine wpOrd_quiet rfl (fun K hK => ?_); go_simp; (try simp (disch := omega) only [IntWalk.i64_in]); refine hK _ ?_; clear hK K)
      repeat (refine wpOrd_tail rfl rfl (fun K hK => ?_); go_simp; refine hK _ _ ?_; clear hK K)
      refine wpOrd_nil ?_
      go_wp2
      refine wp_region_ord [(0,true),(1,true),(2,true),(3,true),(4,true),(5,true),(6,true),(7,true),(8,true),(9,true),(10,true),(11,true),(12,true),(13,true),(14,false)] 14 (by kernel_rfl) (by kernel_rfl) ?_
      repeat (refine wpOrd_quiet rfl (fun K hK => ?_); go_simp; (try simp (disch := omega) only [IntWalk.i64_in]); refine hK _ ?_; clear hK K)
      repeat (refine wpOrd_tail rfl rfl (fun K hK => ?_); go_simp; refine hK _ _ ?_; clear hK K)
      refine wpOrd_nil ?_
      generalize hx : bits BinOp.and IntKind.i64 _ 255 = y
      have hy0 : 0 ≤ y ∧ y ≤ 255 := hx ▸ HA.out _
      clear hx
      go_wp2
      go_ret
      exact ⟨y, k + 1, _, rfl, hy0.1, hy0.2, (by repeat (first | with_reducible exact Got.mk _ _ _ | with_reducible apply Got.ext | with_reducible apply Got.drew | with_reducible apply Got.alloc)), by omega, by omega⟩
    · have hi' : ¬ i < (bs.length : Int) := hi
      clear hcell hi
      go_enter Tryz.func81, Tryz.ntmps81
      go_wp2
      refine wp_region_ord [(0,true),(1,true),(2,true),(3,true),(4,true),(5,true),(6,true),(7,true),(8,true),(9,true),(10,true),(11,true),(12,false)] 12 (by kernel_rfl) (by kernel_rfl) ?_
      repeat (refine wpOrd_quiet rfl (fun K hK => ?_); go_simp; (try simp (disch := omega) only [IntWalk.i64_in]); refine hK _ ?_; clear hK K)
      repeat (refine wpOrd_tail rfl rfl (fun K hK => ?_); go_simp; refine hK _ _ ?_; clear hK K)
      refine wpOrd_nil ?_
      generalize hx : bits BinOp.and IntKind.i64 _ 255 = x
      have hx0 : 0 ≤ x ∧ x ≤ 255 := hx ▸ HA.out _
      clear hx
      go_wp2
      refine wp_region_ord [(0,true),(1,true),(2,true),(3,true),(4,true),(5,true),(6,true),(7,true),(8,true),(9,true)] 10 (by kernel_rfl) (by kernel_rfl) ?_
      repeat (refine wpOrd_quiet rfl (fun K hK => ?_); go_simp; (try simp (disch := omega) only [IntWalk.i64_in]); refine hK _ ?_; clear hK K)
      repeat (refine wpOrd_tail rfl rfl (fun K hK => ?_); go_simp; refine hK _ _ ?_; clear hK K)
      refine wpOrd_nil ?_
      go_wp2
      go_ret
      exact ⟨x, i, _, rfl, hx0.1, hx0.2, (by repeat (first | with_reducible exact Got.mk _ _ _ | with_reducible apply Got.ext | with_reducible apply Got.drew | with_reducible apply Got.alloc)), h0, h1⟩
end Go.Proofs.YtedgenmbdjadkaaGreatDoor
namespace Go.Proofs.YtedgenmbdjadkaaGreatDoor
open Go.ChangeShapes Go.WideShapes Go.ChangeAt Go.RowKit

theorem Got.self {w : World} {p : Nat} {o : Obj} (h : w.heap[p]? = some o) : Got p w o w := ⟨⟨#[], w.drawn⟩, by rw [World.setB_self h]; unfold World.ext; simp⟩
def Drawn (p : Nat) (vb : Value) (bs : List UInt8) (w w' : World) : Prop := ∃ i' h', Got p w (curObj vb i' h') w' ∧ 0 ≤ i' ∧ i' ≤ bs.length

theorem spec_l01Below (p : Nat) (vb : Value) (bs : List UInt8) (i h n : Int) (w : World) (hc : Cur w p vb bs i h) (hn : n ≤ 4294967296) :
    Calls Tryz.prog 46 #[.pointer (some ⟨p, 0, none⟩), .int .i64 n] w fun e w' => ∃ x i' h', e = .returned (.int .i64 x) ∧ (0 ≤ x ∧ (1 ≤ n → x < n) ∧ (n ≤ 0 → x = 0)) ∧ Got p w (curObj vb i' h') w' ∧ 0 ≤ i' ∧ i' ≤ bs.length := by
  have hp := World.lt_of_get hc.blk
  have HC := Lib.hid hc
  clear hc
  by_cases hn0 : n ≤ 0
  · go_enter Tryz.func46, Tryz.ntmps46
    go_wp2
    go_ret
    exact ⟨0, i, h, rfl, ⟨by omega, fun _ => by omega, fun _ => rfl⟩, Got.self HC.out.blk, HC.out.lo, HC.out.hi⟩
  · by_cases hn1 : n ≤ 256
    · go_enter Tryz.func46, Tryz.ntmps46
      go_wp2_with (go_at_call 81; refine (spec_l01Byte p vb bs i h _ HC.out).mono ?_; rintro e w' ⟨x, i1, h1, rfl, hx0, hx1, ⟨X, rfl⟩, hi0, hi1⟩)
      go_ret
      exact ⟨_, i1, h1, rfl, ⟨by have := Int.emod_nonneg x (show n ≠ 0 by omega); exact this, fun _ => Int.emod_lt_of_pos _ (by omega), fun _ => by omega⟩, (by repeat (first | with_reducible exact Got.mk _ _ _ | with_reducible apply Got.ext | with_reducible apply Got.drew | with_reducible apply Got.alloc)), hi0, hi1⟩
    · go_enter Tryz.func46, Tryz.ntmps46
      go_wp2_with fail
      (go_at_call 81; refine (spec_l01Byte p vb bs _ _ _ (by repeat (first | with_reducible exact HC.out | with_reducible assumption | with_reducible apply Cur.ext | with_reducible apply Cur.alloc | with_reducible apply Cur.drew | with_reducible apply Cur.set))).mono ?_; rintro e w' ⟨x, i1, h1, rfl, hx0, hx1, ⟨X, rfl⟩, hi0, hi1⟩)
      go_wp2_with fail
      (go_at_call 81; refine (spec_l01Byte p vb bs _ _ _ (by repeat (first | with_reducible exact HC.out | with_reducible assumption | with_reducible apply Cur.ext | with_reducible apply Cur.alloc | with_reducible apply Cur.drew | with_reducible apply Cur.set))).mono ?_; rintro e w' ⟨y, i2, h2, rfl, hy0, hy1, ⟨X2, rfl⟩, hj0, hj1⟩)
      go_wp2_with fail
      (go_at_call 81; refine (spec_l01Byte p vb bs _ _ _ (by repeat (first | with_reducible exact HC.out | with_reducible assumption | with_reducible apply Cur.ext | with_reducible apply Cur.alloc | with_reducible apply Cur.drew | with_reducible apply Cur.set))).mono ?_; rintro e w' ⟨z, i3, h3, rfl, hz0, hz1, ⟨X3, rfl⟩, hk0, hk1⟩)
      go_wp2_with fail
      (go_at_call 81; refine (spec_l01Byte p vb bs _ _ _ (by repeat (first | with_reducible exact HC.out | with_reducible assumption | with_reducible apply Cur.ext | with_reducible apply Cur.alloc | with_reducible apply Cur.drew | with_reducible apply Cur.set))).mono ?_; rintro e w' ⟨u, i4, h4, rfl, hu0, hu1, ⟨X4, rfl⟩, hl0, hl1⟩)
      go_wp2
      go_ret
      refine ⟨_, i4, h4, rfl, ⟨?_, fun _ => Int.emod_lt_of_pos _ (by omega), fun _ => by omega⟩, (by repeat (first | with_reducible exact Got.mk _ _ _ | with_reducible apply Got.ext | with_reducible apply Got.drew | with_reducible apply Got.alloc)), hl0, hl1⟩
      have := Int.emod_nonneg (x * 16777216 + y * 65536 + z * 256 + u) (show n ≠ 0 by omega)
      exact this

theorem spec_l01PickInt (p : Nat) (vb : Value) (bs : List UInt8) (i h : Int) (v : Value) (xs : List Int) (w : World) (hc : Cur w p vb bs i h) (hs : RdL rInt w v xs) (hne : xs ≠ []) (hl : xs.length ≤ 4294967296) (ho : v.ownBlock ≠ some p) :
    Calls Tryz.prog 45 #[.pointer (some ⟨p, 0, none⟩), v] w fun e w' => ∃ x i' h', e = .returned (.int .i64 x) ∧ x ∈ xs ∧ Got p w (curObj vb i' h') w' ∧ 0 ≤ i' ∧ i' ≤ bs.length := by
  have hp := World.lt_of_get hc.blk
  have HC := Lib.hid hc
  clear hc
  obtain ⟨ao, cap, rfl, hc1, hc2, hnil, hcell⟩ := hs.shapeI
  obtain ⟨b, off, rfl, hbl, hcell⟩ := hcell hne
  have hbp : b ≠ p := fun e => ho (by simp [Value.ownBlock, e])
  have hpos : 0 < xs.length := by cases xs; exact absurd rfl hne; simp
  have HX := Lib.hid hcell
  clear hcell hnil hs ho hne
  unfold maxLen at hc2
  go_enter Tryz.func45, Tryz.ntmps45
  go_wp2_with fail
  (go_at_call 46; refine (spec_l01Below p vb bs _ _ _ _ (by repeat (first | with_reducible exact HC.out | with_reducible assumption | with_reducible apply Cur.ext | with_reducible apply Cur.alloc | with_reducible apply Cur.drew | with_reducible apply Cur.set)) (by omega)).mono ?_; rintro e w' ⟨x, i1, h1, rfl, ⟨hx0, hx1, _⟩, ⟨X, rfl⟩, hi0, hi1⟩)
  have hx2 := hx1 (by omega)
  obtain ⟨k, rfl⟩ := Int.eq_ofNat_of_zero_le hx0
  have hk : k < xs.length := by omega
  have hcc := HX.out k hk
  clear hx1 hx2
  go_wp2
  go_ret
  exact ⟨_, i1, h1, rfl, List.getElem_mem hk, (by repeat (first | with_reducible exact Got.mk _ _ _ | with_reducible apply Got.ext | with_reducible apply Got.drew | with_reducible apply Got.alloc)), hi0, hi1⟩

theorem spec_l01Pick (p : Nat) (vb : Value) (bs : List UInt8) (i h : Int) (v : Value) (xs : List ByteArray) (w : World) (hc : Cur w p vb bs i h) (hs : RdL rStr w v xs) (hne : xs ≠ []) (hl : xs.length ≤ 4294967296) (ho : v.ownBlock ≠ some p) :
    Calls Tryz.prog 80 #[.pointer (some ⟨p, 0, none⟩), v] w fun e w' => ∃ x i' h', e = .returned (.string x) ∧ x ∈ xs ∧ Got p w (curObj vb i' h') w' ∧ 0 ≤ i' ∧ i' ≤ bs.length := by
  have hp := World.lt_of_get hc.blk
  have HC := Lib.hid hc
  clear hc
  obtain ⟨ao, cap, rfl, hc1, hc2, hnil, hcell⟩ := hs.shapeS
  obtain ⟨b, off, rfl, hbl, hcell⟩ := hcell hne
  have hbp : b ≠ p := fun e => ho (by simp [Value.ownBlock, e])
  have hpos : 0 < xs.length := by cases xs; exact absurd rfl hne; simp
  have HX := Lib.hid hcell
  clear hcell hnil hs ho hne
  unfold maxLen at hc2
  go_enter Tryz.func80, Tryz.ntmps80
  go_wp2_with fail
  (go_at_call 46; refine (spec_l01Below p vb bs _ _ _ _ (by repeat (first | with_reducible exact HC.out | with_reducible assumption | with_reducible apply Cur.ext | with_reducible apply Cur.alloc | with_reducible apply Cur.drew | with_reducible apply Cur.set)) (by omega)).mono ?_; rintro e w' ⟨x, i1, h1, rfl, ⟨hx0, hx1, _⟩, ⟨X, rfl⟩, hi0, hi1⟩)
  have hx2 := hx1 (by omega)
  obtain ⟨k, rfl⟩ := Int.eq_ofNat_of_zero_le hx0
  have hk : k < xs.length := by omega
  have hcc := HX.out k hk
  clear hx1 hx2
  go_wp2
  go_ret
  exact ⟨_, i1, h1, rfl, List.getElem_mem hk, (by repeat (first | with_reducible exact Got.mk _ _ _ | with_reducible apply Got.ext | with_reducible apply Got.drew | with_reducible apply Got.alloc)), hi0, hi1⟩
end Go.Proofs.YtedgenmbdjadkaaGreatDoor
namespace Go.Proofs.YtedgenmbdjadkaaGreatDoor
open Go.ChangeShapes Go.WideShapes Go.ChangeAt Go.RowKit

theorem putS_length (xs : List ByteArray) (x : ByteArray) : (putS xs x).length ≤ xs.length + 1 := by
  unfold putS
  split
  · omega
  · simp [List.length_take]; omega

def keysLit : List ByteArray := [⟨#[97]⟩, ⟨#[98]⟩, ⟨#[110, 47, 120]⟩, ⟨#[110, 47, 121]⟩, ⟨#[110, 47, 121, 121]⟩, ⟨#[105, 47, 49, 47, 115]⟩, ⟨#[105, 47, 49, 47, 98, 47, 48]⟩, ⟨#[105, 47, 49, 50, 47, 115]⟩, ⟨#[99, 47, 112, 105, 112, 101]⟩, ⟨#[112, 47, 49, 47, 104]⟩]
theorem spec_l02Key (p : Nat) (vb : Value) (bs : List UInt8) (i h : Int) (w : World) (hc : Cur w p vb bs i h) :
    Calls Tryz.prog 102 #[.pointer (some ⟨p, 0, none⟩)] w fun e w' => ∃ x i' h', e = .returned (.string x) ∧ x ∈ keysLit ∧ Got p w (curObj vb i' h') w' ∧ 0 ≤ i' ∧ i' ≤ bs.length := by
  have hp := World.lt_of_get hc.blk
  have HC := Lib.hid hc
  clear hc
  go_enter Tryz.func102, Tryz.ntmps102
  go_wp2_with fail
  (go_at_call 80; refine (spec_l01Pick p vb bs _ _ _ keysLit _ (by repeat (first | with_reducible exact HC.out | with_reducible assumption | with_reducible apply Cur.ext | with_reducible apply Cur.alloc | with_reducible apply Cur.drew | with_reducible apply Cur.set)) (RdL.lit rStr w keysLit 10 rfl (by decide) _ rfl _) (by decide) (by decide) (by simp [Value.ownBlock]; omega)).mono ?_; rintro e w' ⟨x, i1, h1, rfl, hx, ⟨X, rfl⟩, hi0, hi1⟩)
  go_wp2
  go_ret
  exact ⟨x, i1, h1, rfl, hx, (by repeat (first | with_reducible exact Got.mk _ _ _ | with_reducible apply Got.ext | with_reducible apply Got.drew | with_reducible apply Got.alloc)), hi0, hi1⟩
end Go.Proofs.YtedgenmbdjadkaaGreatDoor
namespace Go.Proofs.YtedgenmbdjadkaaGreatDoor
open Go.ChangeShapes Go.WideShapes Go.ChangeAt Go.RowKit

def spansLit : List ByteArray := [⟨#[97]⟩, ⟨#[98]⟩, ⟨#[110, 47, 120]⟩, ⟨#[110, 47, 121]⟩, ⟨#[110, 47, 121, 121]⟩, ⟨#[110, 47, 42]⟩, ⟨#[110, 47, 121, 42]⟩, ⟨#[105, 47, 49, 47, 42]⟩, ⟨#[105, 47, 49, 47, 115]⟩, ⟨#[105, 47, 42]⟩, ⟨#[42]⟩, ⟨#[105, 47, 49, 50, 47, 115]⟩]
end Go.Proofs.YtedgenmbdjadkaaGreatDoor
namespace Go.Proofs.YtedgenmbdjadkaaGreatDoor
open Go.ChangeShapes Go.WideShapes Go.ChangeAt Go.RowKit

def nilS : Value := .slice none 0 0
end Go.Proofs.YtedgenmbdjadkaaGreatDoor
namespace Go.Proofs.YtedgenmbdjadkaaGreatDoor
open Go.ChangeShapes Go.WideShapes Go.ChangeAt Go.RowKit

theorem World.alloc_new (w : World) (o : Obj) : (w.alloc o).heap[w.heap.size]? = some o := by
  show (w.heap.push o)[w.heap.size]? = some o
  simp
theorem newCur {w : World} {X : Ext} {v : Value} {bs : List UInt8} {x : Int} (hsz : (w.ext X).heap.size = w.heap.size) (hs : Sl w v bs.length (bytesOf bs)) (hb : ∀ b, v.ownBlock = some b → b < w.heap.size) (hl : bs.length ≤ 140737488351232) :
    Cur ((w.ext X).alloc (.cells #[v, .int .i64 0, .int .i64 x] 106)) w.heap.size v bs 0 x := by
  refine ⟨?_, (hs.ext X).alloc _, Int.le_refl _, by omega, fun e => absurd (hb _ e) (Nat.lt_irrefl _), hl⟩
  rw [← hsz]
  exact World.alloc_new _ _

theorem spec_l01New (v : Value) (bs : List UInt8) (w : World) (hs : Sl w v bs.length (bytesOf bs)) (hl : bs.length ≤ 140737488351232) (hb : ∀ b, v.ownBlock = some b → b < w.heap.size) :
    Calls Tryz.prog 43 #[v] w fun e w' => ∃ p, e = .returned (.pointer (some ⟨p, 0, none⟩)) ∧ (∃ h, Cur w' p v bs 0 h) ∧ Below w.heap.size w w' ∧ w.heap.size ≤ p := by
  have HS := Lib.hid hs
  have HB := Lib.hid hb
  obtain ⟨ao, cap, rfl, hc1, hc2, hnil, hcell⟩ := hs.shape
  have HX := Lib.hid hcell
  clear hcell hs hb hnil
  unfold maxLen at hc2
  go_enter Tryz.func43, Tryz.ntmps43
  go_wp2
  go_loopw [3, 4] (fun hv iv wr => ∃ (x : Int) (n : Nat), hv = .int .i64 x ∧ iv = .int .i64 n ∧ n ≤ bs.length ∧ n ≤ 4000 ∧ Below w.heap.size w wr ∧ wr.heap.size = w.heap.size) (fun _ k _ => 4000 - (intOf k).toNat)
  case atStart => exact ⟨_, 0, rfl, rfl, by omega, by omega, (by repeat (first | with_reducible exact Below.refl _ _ | with_reducible apply Below.ofExt | with_reducible apply Below.ofAlloc | with_reducible apply Below.drew | with_reducible apply Below.ofDrewN | with_reducible assumption | (with_reducible refine Below.setCell ?_ (by first | exact Nat.le_refl _ | (simp [go_sem]; done) | (simp [go_sem]; omega)) _))), rfl⟩
  case round =>
    obtain ⟨x, n, rfl, rfl, hn1, hn2, hbel, hsz⟩ := hrel
    obtain ⟨X, rfl⟩ := hbel.ext
    by_cases h1 : (n : Int) < bs.length
    · by_cases h2 : (n : Int) < 4000
      · obtain ⟨b, off, rfl, hcell⟩ := HX.out (by omega)
        have hk : n < bs.length := by omega
        have hcc : w.cell? ⟨b, off + n, none⟩ = some (.int .u8 (bs[n].toNat)) := hcell n _ (by simp [bytesOf, hk])
        have hbk : bs[n].toNat < 256 := bs[n].toNat_lt
        generalize bs[n].toNat = q at hcc hbk
        have hbl := World.block_lt_of_cell? w _ hcc
        clear hcell
        go_wp2
        go_roundw
        case rel => exact ⟨_, n + 1, rfl, by go_num, by omega, by omega, (by repeat (first | with_reducible exact Below.refl _ _ | with_reducible apply Below.ofExt | with_reducible apply Below.ofAlloc | with_reducible apply Below.drew | with_reducible apply Below.ofDrewN | with_reducible assumption | (with_reducible refine Below.setCell ?_ (by first | exact Nat.le_refl _ | (simp [go_sem]; done) | (simp [go_sem]; omega)) _))), by simpa using hsz⟩
        case measure => simp [intOf]; omega
      · go_wp2
        go_ret
        exact ⟨w.heap.size, rfl, ⟨x, newCur (by simpa using hsz) HS.out HB.out hl⟩, (by repeat (first | with_reducible exact Below.refl _ _ | with_reducible apply Below.ofExt | with_reducible apply Below.ofAlloc | with_reducible apply Below.drew | with_reducible apply Below.ofDrewN | with_reducible assumption | (with_reducible refine Below.setCell ?_ (by first | exact Nat.le_refl _ | (simp [go_sem]; done) | (simp [go_sem]; omega)) _))), Nat.le_refl _⟩
    · go_wp2
      go_ret
      exact ⟨w.heap.size, rfl, ⟨x, newCur (by simpa using hsz) HS.out HB.out hl⟩, (by repeat (first | with_reducible exact Below.refl _ _ | with_reducible apply Below.ofExt | with_reducible apply Below.ofAlloc | with_reducible apply Below.drew | with_reducible apply Below.ofDrewN | with_reducible assumption | (with_reducible refine Below.setCell ?_ (by first | exact Nat.le_refl _ | (simp [go_sem]; done) | (simp [go_sem]; omega)) _))), Nat.le_refl _⟩

/-- a slice as it lies in a row -/
structure Raw where
  a : Option Addr
  n : Nat
  cap : Nat
def Raw.v (r : Raw) : Value := .slice r.a r.n r.cap
/-- a transaction as it lies in a row -/
structure TxR where
  id : Int
  age : Int
  proc : Int
  began : Int
  calls : Raw
  answers : Raw
  tr : Raw
  tw : Raw
  marks : Raw
  state : Int
def TxR.cells (x : TxR) : List Value := [.int .i64 x.id, .int .i64 x.age, .int .i64 x.proc, .int .i64 x.began, x.calls.v, x.answers.v, x.tr.v, x.tw.v, x.marks.v, .int .i64 x.state]
def TxR.v (x : TxR) : Value := .agg #[.int .i64 x.id, .int .i64 x.age, .int .i64 x.proc, .int .i64 x.began, x.calls.v, x.answers.v, x.tr.v, x.tw.v, x.marks.v, .int .i64 x.state]
def rTx : RowOf TxR := ⟨TxR.cells, 10, fun _ => rfl, by intro x; simp [TxR.cells, Value.oneCell', Raw.v]⟩

end Go.Proofs.YtedgenmbdjadkaaGreatDoor
namespace Go.Proofs.YtedgenmbdjadkaaGreatDoor
open Go.ChangeShapes Go.WideShapes Go.ChangeAt Go.RowKit

theorem _root_.Go.Got.toBelow {a w w' : World} {p : Nat} {o : Obj} (h : Got p w o w') (hb : Below a.heap.size a w) (hp : a.heap.size ≤ p) : Below a.heap.size a w' := by
  obtain ⟨X, rfl⟩ := hb.ext
  obtain ⟨Y, rfl⟩ := h
  rw [World.ext_setB_past _ _ _ _ hp]
  exact ((Below.refl _ _).ofExt _).ofExt _

theorem _root_.Go.RdL.shapeT {w : World} {v : Value} {xs : List TxR} (h : RdL rTx w v xs) : ∃ ao cap, v = .slice ao xs.length cap ∧ xs.length ≤ cap ∧ cap ≤ maxLen ∧ (ao = none → cap = 0 ∧ xs = []) ∧
    (xs ≠ [] → ∃ b off, ao = some ⟨b, off, none⟩ ∧ b < w.heap.size ∧ ∀ (i : Nat) (hi : i < xs.length),
      w.cell? ⟨b, off + i * 10, none⟩ = some (.int .i64 xs[i].id) ∧ w.cell? ⟨b, off + i * 10 + 1, none⟩ = some (.int .i64 xs[i].age) ∧
      w.cell? ⟨b, off + i * 10 + 2, none⟩ = some (.int .i64 xs[i].proc) ∧ w.cell? ⟨b, off + i * 10 + 3, none⟩ = some (.int .i64 xs[i].began) ∧
      w.cell? ⟨b, off + i * 10 + 4, none⟩ = some (.slice xs[i].calls.a xs[i].calls.n xs[i].calls.cap) ∧ w.cell? ⟨b, off + i * 10 + 5, none⟩ = some (.slice xs[i].answers.a xs[i].answers.n xs[i].answers.cap) ∧
      w.cell? ⟨b, off + i * 10 + 6, none⟩ = some (.slice xs[i].tr.a xs[i].tr.n xs[i].tr.cap) ∧ w.cell? ⟨b, off + i * 10 + 7, none⟩ = some (.slice xs[i].tw.a xs[i].tw.n xs[i].tw.cap) ∧
      w.cell? ⟨b, off + i * 10 + 8, none⟩ = some (.slice xs[i].marks.a xs[i].marks.n xs[i].marks.cap) ∧ w.cell? ⟨b, off + i * 10 + 9, none⟩ = some (.int .i64 xs[i].state)) := by
  obtain ⟨ao, cap, h0, h1, h2, h3, h4⟩ := h.shape
  refine ⟨ao, cap, h0, h1, h2, h3, fun hne => ?_⟩
  obtain ⟨b, off, e, hb, hc⟩ := h4 hne
  refine ⟨b, off, e, hb (by decide), fun i hi => ?_⟩
  have hc := fun j u h => hc i hi j u h
  exact ⟨hc 0 _ rfl, hc 1 _ rfl, hc 2 _ rfl, hc 3 _ rfl, hc 4 _ rfl, hc 5 _ rfl, hc 6 _ rfl, hc 7 _ rfl, hc 8 _ rfl, hc 9 _ rfl⟩

theorem _root_.Go.RowKit.Below.past {a w : World} (h : Below a.heap.size a w) {b : Nat} (hb : a.heap.size ≤ b) (o : Obj) : Below a.heap.size a (w.setB b o) := by
  obtain ⟨X, rfl⟩ := h.ext
  rw [World.ext_setB_past _ _ _ _ hb]
  exact (Below.refl _ _).ofExt _
theorem _root_.Go.World.alloc_new' (w : World) (o : Obj) (b : Nat) (h : b = w.heap.size) : (w.alloc o).heap[b]? = some o := by subst h; exact World.alloc_new w o
def older (x y : TxR) : Bool := decide (x.age < y.age) || (decide (x.age = y.age) && decide (x.id < y.id))
def nextAge (xs : List TxR) : Int := (xs.map TxR.age).foldl max 0
theorem laws_big (v : Value) (n : Nat) (cs : List Value) (w : World) (hs : Sl w v n cs) : Calls Tryz.prog 12 #[v] w fun e w' => e = .returned (.bool (decide (1048576 < n))) ∧ w = w' := by
  obtain ⟨ao, cap, rfl, hc1, hc2, hnil, hcell⟩ := hs.shape
  clear hs hnil hcell
  by_cases h : (1048576 : Int) < n
  · have h' : 1048576 < n := by omega
    go_enter Tryz.func12, Tryz.ntmps12
    go_wp2
    go_ret
    exact ⟨by simp [h'], rfl⟩
  · have h' : ¬ 1048576 < n := by omega
    go_enter Tryz.func12, Tryz.ntmps12
    go_wp2
    go_ret
    exact ⟨by simp [h'], rfl⟩
end Go.Proofs.YtedgenmbdjadkaaGreatDoor
namespace Go.Proofs.YtedgenmbdjadkaaGreatDoor
open Go.ChangeShapes Go.WideShapes Go.ChangeAt Go.RowKit
theorem _root_.Go.OwnB.setB {e : TypeId} {w : World} {B : Nat} {v : Value} {l : List UInt8} (h : OwnB e w B v l) {p : Nat} (hp : v.ownBlock ≠ some p) (o : Obj) : OwnB e (w.setB p o) B v l := by
  rcases h with hn | ⟨g, cap, cur, fz, rfl, h1, h2, rest⟩
  · exact .inl hn
  · exact .inr ⟨g, cap, cur, fz, rfl, h1, (World.setB_get w p o g (fun e => hp (by simp [Value.ownBlock, e]))).trans h2, rest⟩
theorem _root_.Go.OwnB.got {e : TypeId} {w w' : World} {B : Nat} {v : Value} {l : List UInt8} {p : Nat} {o : Obj} (h : OwnB e w B v l) (g : Got p w o w') (hp : v.ownBlock ≠ some p) : OwnB e w' B v l := by
  obtain ⟨X, rfl⟩ := g
  exact (h.setB hp o).ext X
theorem Got.appB {e : TypeId} {w w1 w2 : World} {v : Value} {l : List UInt8} {p : Nat} {o : Obj} (h : Got p w o w1) (hg : w1.grownBy w2 v.ownBlock) (ho : OwnB e w1 w.heap.size v l) : Got p w o w2 := by
  obtain ⟨X, rfl⟩ := h
  have ho' : OwnB e ((w.setB p o).ext X) (w.setB p o).heap.size v l := by rw [World.setB_size]; exact ho
  exact (RowKit.Below.appB (a := w.setB p o) ((Below.refl _ _).ofExt X) hg ho').ext
theorem u8_in (x : Int) (h0 : 0 ≤ x) (h1 : x ≤ 255) : IntKind.u8.wrap x = x := by
  unfold IntKind.wrap
  simp [IntKind.bits, IntKind.signed]
  omega
theorem spec_l01Once (p : Nat) (vb : Value) (bs : List UInt8) (i h n : Int) (w : World) (hc : Cur w p vb bs i h) (hn : n ≤ 4294967296) :
    Calls Tryz.prog 79 #[.pointer (some ⟨p, 0, none⟩), .int .i64 n] w fun e w' => ∃ b, e = .returned (.bool b) ∧ Drawn p vb bs w w' := by
  have hp := hc.lt
  have HC := Lib.hid hc
  clear hc
  go_enter Tryz.func79, Tryz.ntmps79
  go_wp2_with fail
  (go_at_call 46; refine (spec_l01Below p vb bs _ _ _ _ HC.out hn).mono ?_; rintro e w' ⟨x, i1, h1, rfl, ⟨hx0, _, _⟩, hg, hi0, hi1⟩)
  go_wp2
  go_ret
  exact ⟨_, rfl, ⟨i1, h1, hg, hi0, hi1⟩⟩
def longT (n : Nat) (c : UInt8) : ByteArray := strOf (List.replicate n c)
theorem longT_size (n : Nat) (c : UInt8) : (longT n c).size = n := by unfold longT; rw [strOf_size, List.length_replicate]
theorem sl_row {w : World} {b n : Nat} {t : TypeId} {x : Int} {c : UInt8} (hx : x = (c.toNat : Int)) (hr : w.rowIs b t n (fun _ => .int .u8 x)) (hn : n ≤ maxLen) : Sl w (.slice (some ⟨b, 0, none⟩) n n) (List.replicate n c).length (bytesOf (List.replicate n c)) := by
  subst hx
  refine .inr ⟨b, 0, n, by rw [List.length_replicate], by simp, hn, fun j u hj => ?_⟩
  unfold bytesOf at hj
  rw [List.map_replicate, List.getElem?_replicate] at hj
  split at hj
  · rw [Nat.zero_add]
    cases hj
    exact hr.cell (by assumption)
  · cases hj
theorem Tryz.info_u8 : (Tryz.prog.info? 5).map (fun i => (i.zero, i.size, i.bytes)) = some (some (.int .u8 0), 1, 1) := by kernel_rfl
set_option maxRecDepth 100000 in
theorem spec_l01Long (n : Nat) (c : UInt8) (w : World) (hn : n ≤ 100000) :
    Calls Tryz.prog 93 #[.int .i64 n, .int .u8 (c.toNat : Int)] w fun e w' => e = .returned (.string (longT n c)) ∧ Below w.heap.size w w' := by
  have hmk := run_make_row' (P := Tryz.prog) 28 5 (.int .u8 0) 1 Tryz.underlying28 Tryz.info_u8 rfl .i64 .i64 n (by omega) (by omega)
  have hmade := World.rowIs_made w (.int .u8 0) n 5
  have HMD := Lib.hid hmade
  clear hmade
  go_enter Tryz.func93, Tryz.ntmps93
  go_wp2
  clear hmk
  go_loopw [6] (fun k wr => ∃ m : Nat, k = .int .i64 m ∧ m ≤ n ∧ wr.rowIs w.heap.size 5 n (fun j => .int .u8 (if j < m then (c.toNat : Int) else 0)) ∧ Below w.heap.size w wr) (fun k _ => n - (intOf k).toNat)
  case atStart => exact ⟨0, rfl, by omega, HMD.out.congr (fun j _ => by simp), (by repeat (first | with_reducible exact Below.refl _ _ | with_reducible apply Below.ofExt | with_reducible apply Below.ofAlloc | with_reducible apply Below.drew | with_reducible apply Below.ofDrewN | with_reducible assumption | (with_reducible refine Below.setCell ?_ (by first | exact Nat.le_refl _ | (simp [go_sem]; done) | (simp [go_sem]; omega)) _)))⟩
  case round =>
    obtain ⟨m, rfl, hm, hr, hb⟩ := hrel
    by_cases hlt : (m : Int) < n
    · have hk : m < n := by omega
      have hcell := hr.cell hk
      have hfro := hr.frozen m
      have hset := (hr.set m (.int .u8 (c.toNat : Int))).congr (g := fun j => .int .u8 (if j < m + 1 then (c.toNat : Int) else 0)) (fun j _ => by
        by_cases e : j = m
        · subst e; simp
        · by_cases e2 : j < m
          · rw [if_neg e, if_pos e2, if_pos (by omega)]
          · rw [if_neg e, if_neg e2, if_neg (by omega)])
      have hbs := hb.setCell (p := ⟨w.heap.size, m, none⟩) (Nat.le_refl _) (.int .u8 (c.toNat : Int))
      have HS := Lib.hid hset
      have HB := Lib.hid hbs
      clear hset hbs hr hb
      go_wp2
      go_roundw
      case rel => exact ⟨m + 1, by go_num, by omega, HS.out, HB.out⟩
      case measure => simp [intOf]; omega
    · have e : m = n := by omega
      subst e
      have hs := sl_row rfl (hr.congr (g := fun _ => .int .u8 (c.toNat : Int)) (fun j hj => by rw [if_pos hj])) (by unfold maxLen; omega)
      have hcv := run_string_of (P := Tryz.prog) wr Tryz.byteT Tryz.underlying9 hs
      clear hs hr
      go_wp2
      go_ret
      exact ⟨rfl, hb⟩
set_option maxRecDepth 100000 in
theorem spec_l01Text (p : Nat) (vb : Value) (bs : List UInt8) (i h : Int) (n : Nat) (w : World) (hc : Cur w p vb bs i h) (hn : n ≤ 5000) :
    Calls Tryz.prog 64 #[.pointer (some ⟨p, 0, none⟩), .int .i64 n] w fun e w' => ∃ s, e = .returned (.string s) ∧ s.size = n ∧ Drawn p vb bs w w' := by
  have hp := hc.lt
  have HC := Lib.hid hc
  clear hc
  go_enter Tryz.func64, Tryz.ntmps64
  go_wp2
  go_loopw [5, 6] (fun v k wr => ∃ (m : Nat) (l : List UInt8) (i' h' : Int), k = .int .i64 m ∧ m ≤ n ∧ l.length = m ∧ OwnB 5 wr w.heap.size v l ∧ Got p w (curObj vb i' h') wr ∧ 0 ≤ i' ∧ i' ≤ bs.length) (fun _ k _ => n - (intOf k).toNat)
  case atStart => exact ⟨0, [], i, h, rfl, by omega, rfl, OwnB.empty _ _, (Got.self HC.out.blk).alloc _, HC.out.lo, HC.out.hi⟩
  case round =>
    obtain ⟨m, l, i1, h1, rfl, hm, rfl, ho, hg, hi0, hi1⟩ := hrel
    have hc1 := HC.out.got hg hi0 hi1
    have hvl := ho.lt
    by_cases hlt : (l.length : Int) < n
    · obtain ⟨oa, oc, rfl⟩ := ho.form
      have hne : (Value.slice oa l.length oc).ownBlock ≠ some p := fun e => by have := (hvl p e).1; omega
      have HO := Lib.hid ho
      have HN := Lib.hid hne
      clear ho hne hvl
      go_wp2_with fail
      (go_at_call 81; refine (spec_l01Byte p vb bs _ _ _ hc1).mono ?_; rintro e w2 ⟨x, i2, h2, rfl, hx0, hx1, hg2, hj0, hj1⟩)
      have ho2 := HO.out.got hg2 HN.out
      have hgg := hg.then hg2 hp
      have hz := hgg.size
      have hw8 := u8_in x hx0 hx1
      obtain ⟨k, rfl⟩ := Int.eq_ofNat_of_zero_le hx0
      have hkc : (k : Int) = ((UInt8.ofNat k).toNat : Int) := by simp; omega
      have HO2 := Lib.hid ho2
      have HKC := Lib.hid hkc
      clear ho2 hkc
      go_wp2_with (at_builtin; refine Stop.here ?_)
      refine wpList_appB _ Tryz.byteT rfl (.tmp 15) (.tmp 19) rfl (B := w.heap.size) (l := l) (m := [UInt8.ofNat k]) (HO2.out.alloc _) rfl (Sl.lit1 _ (UInt8.ofNat k) k HKC.out _ _ rfl) rfl (by simp; omega) (by simp; omega) ?_
      intro v4 w4 hown4 hgr4
      have hg4 : Got p w _ w4 := Got.appB (hgg.alloc _) hgr4 (HO2.out.alloc _)
      clear hgr4
      go_wp2
      go_roundw
      case rel => exact ⟨l.length + 1, _, i2, h2, by go_num, by omega, by simp, hown4, hg4, hj0, hj1⟩
      case measure => simp [intOf]; omega
    · have e : l.length = n := by omega
      subst e
      have hcv := run_string_of (P := Tryz.prog) wr Tryz.byteT Tryz.underlying9 ho.sl
      obtain ⟨oa, oc, rfl⟩ := ho.form
      clear ho hvl
      go_wp2
      go_ret
      exact ⟨_, rfl, strOf_size l, ⟨i1, h1, hg, hi0, hi1⟩⟩
end Go.Proofs.YtedgenmbdjadkaaGreatDoor
namespace Go.Proofs.YtedgenmbdjadkaaGreatDoor
open Go.ChangeShapes Go.WideShapes Go.ChangeAt Go.RowKit
theorem spec_l01LongI (m : Int) (n : Nat) (x : Int) (c : UInt8) (w : World) (hm : m = (n : Int)) (hx : x = (c.toNat : Int)) (hn : n ≤ 100000) :
    Calls Tryz.prog 93 #[.int .i64 m, .int .u8 x] w fun e w' => ∃ s, e = .returned (.string s) ∧ s.size = n ∧ Below w.heap.size w w' := by
  subst hm hx
  refine (spec_l01Long n c w hn).mono ?_
  rintro e w' ⟨rfl, hb⟩
  exact ⟨_, rfl, longT_size n c, hb⟩
theorem Tryz.elemCellD : Elem Tryz.prog 35 39 2 32 := Elem.of (.agg #[.string ⟨#[]⟩, .string ⟨#[]⟩]) Tryz.underlying35 (by kernel_rfl) rfl (by decide)
theorem spec_l01TextI (p : Nat) (vb : Value) (bs : List UInt8) (i h m : Int) (w : World) (hc : Cur w p vb bs i h) (h0 : 0 ≤ m) (h1 : m ≤ 5000) :
    Calls Tryz.prog 64 #[.pointer (some ⟨p, 0, none⟩), .int .i64 m] w fun e w' => ∃ s, e = .returned (.string s) ∧ (s.size : Int) = m ∧ Drawn p vb bs w w' := by
  obtain ⟨n, rfl⟩ := Int.eq_ofNat_of_zero_le h0
  refine (spec_l01Text p vb bs i h n w hc (by omega)).mono ?_
  rintro e w' ⟨s, rfl, hs, hd⟩
  exact ⟨s, rfl, by omega, hd⟩
theorem keys2_small {t1 t2 x : ByteArray} (h1 : t1.size = 40) (h2 : t2.size = 41) (hx : x ∈ ([⟨#[]⟩, ⟨#[97, 32, 98]⟩, ⟨#[110, 47, 42]⟩, ⟨#[127]⟩, t1, t2] : List ByteArray)) : x.size ≤ 100 := by
  simp only [List.mem_cons, List.not_mem_nil, or_false] at hx
  rcases hx with rfl | rfl | rfl | rfl | rfl | rfl
  · decide
  · decide
  · decide
  · decide
  · omega
  · omega
theorem keys1_small : ∀ s ∈ keysLit, s.size ≤ 100 := by decide
set_option maxRecDepth 100000 in
theorem spec_l02AnyKey (p : Nat) (vb : Value) (bs : List UInt8) (i h : Int) (w : World) (hc : Cur w p vb bs i h) :
    Calls Tryz.prog 103 #[.pointer (some ⟨p, 0, none⟩)] w fun e w' => ∃ s, e = .returned (.string s) ∧ s.size ≤ 100 ∧ Drawn p vb bs w w' := by
  have hp := hc.lt
  have HC := Lib.hid hc
  clear hc
  go_enter Tryz.func103, Tryz.ntmps103
  go_wp2_with fail
  (go_at_call 79; refine (spec_l01Once p vb bs _ _ 12 _ HC.out (by omega)).mono ?_; rintro e w1 ⟨b, rfl, i1, h1, hg1, ha1, hb1⟩)
  have hc1 := HC.out.got hg1 ha1 hb1
  cases b with
  | true =>
    go_wp2_with fail
    (go_at_call 93; refine (spec_l01LongI 40 40 97 97 _ (by decide) (by decide) (by omega)).mono ?_; rintro e w2 ⟨t1, rfl, ht1, hb2⟩)
    go_wp2_with fail
    (go_at_call 93; refine (spec_l01LongI 41 41 97 97 _ (by decide) (by decide) (by omega)).mono ?_; rintro e w3 ⟨t2, rfl, ht2, hb3⟩)
    go_wp2_with fail
    have hc3 := (hc1.below hb2).below hb3
    have hlt := hc3.lt
    (go_at_call 80; refine (spec_l01Pick p vb bs _ _ _ [⟨#[]⟩, ⟨#[97, 32, 98]⟩, ⟨#[110, 47, 42]⟩, ⟨#[127]⟩, t1, t2] _ (hc3.alloc _) (RdL.lit rStr w3 [⟨#[]⟩, ⟨#[97, 32, 98]⟩, ⟨#[110, 47, 42]⟩, ⟨#[127]⟩, t1, t2] 6 rfl (by decide) _ rfl _) (by simp) (by simp) (by simp [Value.ownBlock, World.ext_size]; omega)).mono ?_; rintro e w' ⟨x, i2, h2, rfl, hx, hg2, hj0, hj1⟩)
    go_wp2
    go_ret
    exact ⟨_, rfl, keys2_small ht1 ht2 hx, ⟨i2, h2, (((hg1.ofBelow hb2).ofBelow hb3).alloc _).then hg2 hp, hj0, hj1⟩⟩
  | false =>
    go_wp2_with fail
    (go_at_call 102; refine (spec_l02Key p vb bs _ _ _ hc1).mono ?_; rintro e w' ⟨x, i2, h2, rfl, hx, hg2, hj0, hj1⟩)
    go_wp2
    go_ret
    exact ⟨_, rfl, keys1_small x hx, ⟨i2, h2, hg1.then hg2 hp, hj0, hj1⟩⟩
set_option maxRecDepth 100000 in
theorem spec_l02Val (p : Nat) (vb : Value) (bs : List UInt8) (i h : Int) (w : World) (hc : Cur w p vb bs i h) :
    Calls Tryz.prog 104 #[.pointer (some ⟨p, 0, none⟩)] w fun e w' => ∃ s, e = .returned (.string s) ∧ s.size ≤ 100 ∧ Drawn p vb bs w w' := by
  have hp := hc.lt
  have HC := Lib.hid hc
  clear hc
  go_enter Tryz.func104, Tryz.ntmps104
  go_wp2_with fail
  (go_at_call 79; refine (spec_l01Once p vb bs _ _ 16 _ HC.out (by omega)).mono ?_; rintro e w1 ⟨b, rfl, i1, h1, hg1, ha1, hb1⟩)
  have hc1 := HC.out.got hg1 ha1 hb1
  cases b with
  | true =>
    go_wp2_with fail
    (go_at_call 46; refine (spec_l01Below p vb bs _ _ _ _ hc1 (by omega)).mono ?_; rintro e w2 ⟨x, i2, h2, rfl, ⟨hx0, hx1, _⟩, hg2, hj0, hj1⟩)
    have hx2 := hx1 (by omega)
    clear hx1
    obtain ⟨k, rfl⟩ := Int.eq_ofNat_of_zero_le hx0
    go_wp2_with fail
    (go_at_call 93; refine (spec_l01LongI (60 + (k : Int)) (60 + k) 5 5 _ (by omega) (by decide) (by omega)).mono ?_; rintro e w' ⟨t1, rfl, ht1, hb⟩; obtain ⟨X, rfl⟩ := hb.ext; clear hb)
    go_wp2
    go_ret
    exact ⟨_, rfl, by omega, ⟨i2, h2, (hg1.then hg2 hp).ext _, hj0, hj1⟩⟩
  | false =>
    go_wp2_with fail
    (go_at_call 46; refine (spec_l01Below p vb bs _ _ _ _ hc1 (by omega)).mono ?_; rintro e w2 ⟨x, i2, h2, rfl, ⟨hx0, hx1, _⟩, hg2, hj0, hj1⟩)
    have hx2 := hx1 (by omega)
    clear hx1
    have hc2 := hc1.got hg2 hj0 hj1
    go_wp2_with fail
    (go_at_call 64; refine (spec_l01TextI p vb bs _ _ _ _ hc2 hx0 (by omega)).mono ?_; rintro e w3 ⟨t, rfl, ht, i3, h3, hg3, hk0, hk1⟩)
    go_wp2
    go_ret
    exact ⟨t, rfl, by omega, ⟨i3, h3, (hg1.then hg2 hp).then hg3 hp, hk0, hk1⟩⟩
def SmallC (c : CellD) : Prop := c.key.size ≤ 100 ∧ c.val.size ≤ 100
def DrawnCs (p : Nat) (vb : Value) (bs : List UInt8) (w : World) (v : Value) (w' : World) : Prop := ∃ xs, OwnL rCell 39 w' w.heap.size v xs ∧ xs.length ≤ 40 ∧ (∀ x ∈ xs, SmallC x) ∧ Drawn p vb bs w w'
theorem small_snoc {xs : List CellD} {c : CellD} (h : ∀ x ∈ xs, SmallC x) (hc : SmallC c) : ∀ x ∈ xs ++ [c], SmallC x := by
  intro x hx
  rcases List.mem_append.1 hx with hx | hx
  · exact h x hx
  · rw [List.mem_singleton.1 hx]; exact hc
set_option maxRecDepth 100000 in
theorem spec_l21List (p : Nat) (vb : Value) (bs : List UInt8) (i h : Int) (w : World) (hc : Cur w p vb bs i h) :
    Calls Tryz.prog 78 #[.pointer (some ⟨p, 0, none⟩)] w fun e w' => ∃ v, e = .returned v ∧ DrawnCs p vb bs w v w' := by
  have hp := hc.lt
  have HC := Lib.hid hc
  clear hc
  go_enter Tryz.func78, Tryz.ntmps78
  go_wp2
  go_loopw [3, 4] (fun v k wr => ∃ (n : Nat) (xs : List CellD) (i' h' : Int), k = .int .i64 n ∧ n ≤ 4 ∧ xs.length = n ∧ (∀ x ∈ xs, SmallC x) ∧ OwnL rCell 39 wr w.heap.size v xs ∧ Got p w (curObj vb i' h') wr ∧ 0 ≤ i' ∧ i' ≤ bs.length) (fun _ k _ => 4 - (intOf k).toNat)
  case atStart => exact ⟨0, [], i, h, rfl, by omega, rfl, by simp, OwnL.empty rCell _ _, (Got.self HC.out.blk).alloc _, HC.out.lo, HC.out.hi⟩
  case round =>
    obtain ⟨n, xs, i1, h1, rfl, hn, rfl, hsm, ho, hg, hi0, hi1⟩ := hrel
    have hc1 := HC.out.got hg hi0 hi1
    have hvl := ho.lt
    obtain ⟨ao, co, rfl⟩ := ho.rd.form
    have hne : (Value.slice ao xs.length co).ownBlock ≠ some p := fun e => by have := (hvl p e).1; omega
    have HO := Lib.hid ho
    have HP := Lib.hid hne
    have HSM := Lib.hid hsm
    clear ho hne hvl hsm
    go_wp2_with fail
    (go_at_call 46; refine (spec_l01Below p vb bs _ _ _ _ hc1 (by omega)).mono ?_; rintro e w2 ⟨x, i2, h2, rfl, ⟨hx0, hx1, _⟩, hg2, hj0, hj1⟩)
    have hc2 := hc1.got hg2 hj0 hj1
    have hx2 := hx1 (by omega)
    clear hx1
    by_cases hlt : (xs.length : Int) < x
    · go_wp2_with fail
      (go_at_call 102; refine (spec_l02Key p vb bs _ _ _ hc2).mono ?_; rintro e w3 ⟨key, i3, h3, rfl, hkey, hg3, hk0, hk1⟩)
      have hc3 := hc2.got hg3 hk0 hk1
      go_wp2_with fail
      (go_at_call 46; refine (spec_l01Below p vb bs _ _ _ _ hc3 (by omega)).mono ?_; rintro e w4 ⟨y, i4, h4, rfl, ⟨hy0, hy1, _⟩, hg4, hl0, hl1⟩)
      have hc4 := hc3.got hg4 hl0 hl1
      have hy2 := hy1 (by omega)
      clear hy1
      go_wp2_with fail
      (go_at_call 64; refine (spec_l01TextI p vb bs _ _ _ _ hc4 hy0 (by omega)).mono ?_; rintro e w5 ⟨t, rfl, ht, i5, h5, hg5, hm0, hm1⟩)
      have ho5 := (((HO.out.got hg2 HP.out).got hg3 HP.out).got hg4 HP.out).got hg5 HP.out
      have hgg := (((hg.then hg2 hp).then hg3 hp).then hg4 hp).then hg5 hp
      have hz := hgg.size
      have HK := Lib.hid hkey
      clear hkey
      go_wp2_with (at_builtin; refine Stop.here ?_)
      refine wpList_appL rfl _ _ _ rfl Tryz.elemCellD (ho5.alloc _) rfl (RdL.oneAt rCell _ ⟨key, t⟩ _ rfl _ _ rfl) rfl (by simp only [List.length_singleton]; omega) (by simp only [List.length_singleton]; unfold maxLen; omega) (by simp; omega) ?_
      intro v6 w6 hown6 hgr6 _
      have hg6 : Got p w _ w6 := Got.app (hgg.alloc _) hgr6 (ho5.alloc _)
      clear hgr6
      go_wp2
      go_roundw
      case rel => exact ⟨xs.length + 1, _, i5, h5, by go_num, by omega, by simp, small_snoc HSM.out ⟨keys1_small key HK.out, by show t.size ≤ 100; omega⟩, hown6, hg6, hm0, hm1⟩
      case measure => simp [intOf]; omega
    · have ho2 := HO.out.got hg2 HP.out
      have hgg := hg.then hg2 hp
      have hz := hgg.size
      go_wp2_with fail
      (go_at_call 79; refine (spec_l01Once p vb bs _ _ 12 _ hc2 (by omega)).mono ?_; rintro e w3 ⟨b, rfl, i3, h3, hg3, ha3, hb3⟩)
      have hc3 := hc2.got hg3 ha3 hb3
      have hg3' := hgg.then hg3 hp
      have ho3 := ho2.got hg3 HP.out
      have hz3 := hg3'.size
      cases b with
      | true =>
        go_wp2_with fail
        (go_at_call 103; refine (spec_l02AnyKey p vb bs _ _ _ hc3).mono ?_; rintro e w4 ⟨key, rfl, hkey, i4, h4, hg4, hk0, hk1⟩)
        have hc4 := hc3.got hg4 hk0 hk1
        go_wp2_with fail
        (go_at_call 104; refine (spec_l02Val p vb bs _ _ _ hc4).mono ?_; rintro e w5 ⟨t, rfl, ht, i5, h5, hg5, hm0, hm1⟩)
        have hc5 := hc4.got hg5 hm0 hm1
        have ho5 := (ho3.got hg4 HP.out).got hg5 HP.out
        have hgg5 := (hg3'.then hg4 hp).then hg5 hp
        have hz5 := hgg5.size
        go_wp2_with (at_builtin; refine Stop.here ?_)
        refine wpList_appL rfl _ _ _ rfl Tryz.elemCellD (ho5.alloc _) rfl (RdL.oneAt rCell _ ⟨key, t⟩ _ rfl _ _ rfl) rfl (by simp only [List.length_singleton]; omega) (by simp only [List.length_singleton]; unfold maxLen; omega) (by simp; omega) ?_
        intro v6 w6 hown6 hgr6 _
        have hg6 : Got p w _ w6 := Got.app (hgg5.alloc _) hgr6 (ho5.alloc _)
        clear hgr6
        have hsm6 := small_snoc HSM.out (c := ⟨key, t⟩) ⟨hkey, ht⟩
        have hl6 : (xs ++ [(⟨key, t⟩ : CellD)]).length ≤ 5 := by simp; omega
        generalize xs ++ [(⟨key, t⟩ : CellD)] = ys at hown6 hsm6 hl6
        have hc6 := HC.out.got hg6 hm0 hm1
        obtain ⟨ay, cy, rfl⟩ := hown6.rd.form
        have hne6 : (Value.slice ay ys.length cy).ownBlock ≠ some p := fun e => by have := (hown6.lt p e).1; omega
        have HO6 := Lib.hid hown6
        have HP6 := Lib.hid hne6
        have HS6 := Lib.hid hsm6
        have hz6 := hg6.size
        clear hown6 hne6 hsm6
        go_wp2_with fail
        (go_at_call 79; refine (spec_l01Once p vb bs _ _ 40 _ hc6 (by omega)).mono ?_; rintro e w7 ⟨b, rfl, i7, h7, hg7, ha7, hb7⟩)
        have hc7 := hc6.got hg7 ha7 hb7
        have hg7' := hg6.then hg7 hp
        have ho7 := HO6.out.got hg7 HP6.out
        have HO7 := Lib.hid ho7
        clear ho7
        have hz7 := hg7'.size
        cases b with
        | false =>
          go_wp2
          go_ret
          exact ⟨_, rfl, ys, HO7.out, by omega, HS6.out, ⟨_, _, hg7', ha7, hb7⟩⟩
        | true =>
          go_wp2
          go_loopw [3, 5] (fun v k wr => ∃ (n : Nat) (zs : List CellD) (i' h' : Int), k = .int .i64 n ∧ n ≤ 30 ∧ zs.length ≤ 5 + n ∧ (∀ x ∈ zs, SmallC x) ∧ OwnL rCell 39 wr w.heap.size v zs ∧ Got p w (curObj vb i' h') wr ∧ 0 ≤ i' ∧ i' ≤ bs.length) (fun _ k _ => 30 - (intOf k).toNat)
          case atStart => exact ⟨0, ys, _, _, rfl, by omega, by omega, HS6.out, HO7.out, hg7', ha7, hb7⟩
          case round =>
            obtain ⟨n8, zs, i8, h8, rfl, hn8, hl8, hsm8, ho8, hg8, ha8, hb8⟩ := hrel
            obtain ⟨az, cz, rfl⟩ := ho8.rd.form
            have HO8 := Lib.hid ho8
            have HS8 := Lib.hid hsm8
            have hz8 := hg8.size
            clear ho8 hsm8
            by_cases hlt8 : (n8 : Int) < 30
            · go_wp2_with fail
              (go_at_call 93; refine (spec_l01LongI 60 60 5 5 _ (by decide) (by decide) (by omega)).mono ?_; rintro e w9 ⟨t9, rfl, ht9, hb9⟩)
              have ho9 : OwnL rCell 39 w9 w.heap.size _ zs := (by obtain ⟨X9, rfl⟩ := hb9.ext; exact HO8.out.ext X9)
              have hg9 := hg8.ofBelow hb9
              have hz9 := hg9.size
              go_wp2_with (at_builtin; refine Stop.here ?_)
              refine wpList_appL rfl _ _ _ rfl Tryz.elemCellD (ho9.alloc _) rfl (RdL.oneAt rCell _ ⟨⟨#[97]⟩, t9⟩ _ rfl _ _ rfl) rfl (by simp only [List.length_singleton]; omega) (by simp only [List.length_singleton]; unfold maxLen; omega) (by simp; omega) ?_
              intro v10 w10 hown10 hgr10 _
              have hg10 : Got p w _ w10 := Got.app (hg9.alloc _) hgr10 (ho9.alloc _)
              clear hgr10
              go_wp2
              go_roundw
              case rel => exact ⟨n8 + 1, _, i8, h8, by go_num, by omega, by simp; omega, small_snoc HS8.out ⟨by show (⟨#[97]⟩ : ByteArray).size ≤ 100; decide, by show t9.size ≤ 100; omega⟩, hown10, hg10, ha8, hb8⟩
              case measure => simp [intOf]; omega
            · go_wp2
              go_ret
              exact ⟨_, rfl, zs, HO8.out, by omega, HS8.out, ⟨_, _, hg8, ha8, hb8⟩⟩
      | false =>
        have hown6 := ho3
        have hg6 := hg3'
        have hsm6 := HSM.out
        have hl6 : xs.length ≤ 5 := by omega
        have hc6 := hc3
        have hne6 : (Value.slice ao xs.length co).ownBlock ≠ some p := fun e => by have := (hown6.lt p e).1; omega
        have HO6 := Lib.hid hown6
        have HP6 := Lib.hid hne6
        have HS6 := Lib.hid hsm6
        have hz6 := hg6.size
        clear hown6 hne6 hsm6
        go_wp2_with fail
        (go_at_call 79; refine (spec_l01Once p vb bs _ _ 40 _ hc6 (by omega)).mono ?_; rintro e w7 ⟨b, rfl, i7, h7, hg7, ha7, hb7⟩)
        have hc7 := hc6.got hg7 ha7 hb7
        have hg7' := hg6.then hg7 hp
        have ho7 := HO6.out.got hg7 HP6.out
        have HO7 := Lib.hid ho7
        clear ho7
        have hz7 := hg7'.size
        cases b with
        | false =>
          go_wp2
          go_ret
          exact ⟨_, rfl, xs, HO7.out, by omega, HS6.out, ⟨_, _, hg7', ha7, hb7⟩⟩
        | true =>
          go_wp2
          go_loopw [3, 5] (fun v k wr => ∃ (n : Nat) (zs : List CellD) (i' h' : Int), k = .int .i64 n ∧ n ≤ 30 ∧ zs.length ≤ 5 + n ∧ (∀ x ∈ zs, SmallC x) ∧ OwnL rCell 39 wr w.heap.size v zs ∧ Got p w (curObj vb i' h') wr ∧ 0 ≤ i' ∧ i' ≤ bs.length) (fun _ k _ => 30 - (intOf k).toNat)
          case atStart => exact ⟨0, xs, _, _, rfl, by omega, by omega, HS6.out, HO7.out, hg7', ha7, hb7⟩
          case round =>
            obtain ⟨n8, zs, i8, h8, rfl, hn8, hl8, hsm8, ho8, hg8, ha8, hb8⟩ := hrel
            obtain ⟨az, cz, rfl⟩ := ho8.rd.form
            have HO8 := Lib.hid ho8
            have HS8 := Lib.hid hsm8
            have hz8 := hg8.size
            clear ho8 hsm8
            by_cases hlt8 : (n8 : Int) < 30
            · go_wp2_with fail
              (go_at_call 93; refine (spec_l01LongI 60 60 5 5 _ (by decide) (by decide) (by omega)).mono ?_; rintro e w9 ⟨t9, rfl, ht9, hb9⟩)
              have ho9 : OwnL rCell 39 w9 w.heap.size _ zs := (by obtain ⟨X9, rfl⟩ := hb9.ext; exact HO8.out.ext X9)
              have hg9 := hg8.ofBelow hb9
              have hz9 := hg9.size
              go_wp2_with (at_builtin; refine Stop.here ?_)
              refine wpList_appL rfl _ _ _ rfl Tryz.elemCellD (ho9.alloc _) rfl (RdL.oneAt rCell _ ⟨⟨#[97]⟩, t9⟩ _ rfl _ _ rfl) rfl (by simp only [List.length_singleton]; omega) (by simp only [List.length_singleton]; unfold maxLen; omega) (by simp; omega) ?_
              intro v10 w10 hown10 hgr10 _
              have hg10 : Got p w _ w10 := Got.app (hg9.alloc _) hgr10 (ho9.alloc _)
              clear hgr10
              go_wp2
              go_roundw
              case rel => exact ⟨n8 + 1, _, i8, h8, by go_num, by omega, by simp; omega, small_snoc HS8.out ⟨by show (⟨#[97]⟩ : ByteArray).size ≤ 100; decide, by show t9.size ≤ 100; omega⟩, hown10, hg10, ha8, hb8⟩
              case measure => simp [intOf]; omega
            · go_wp2
              go_ret
              exact ⟨_, rfl, zs, HO8.out, by omega, HS8.out, ⟨_, _, hg8, ha8, hb8⟩⟩
end Go.Proofs.YtedgenmbdjadkaaGreatDoor
namespace Go
section
variable {P : Program} {ops : Array Oper} {Q : Exit → Act → World → Prop} {S : World → Prop} {n : Nat}
/-- it works on slots alone -/
def slotOp (o : Oper) : Bool := match o.op with
  | .extract _ _ => true
  | .move _ => true
  | _ => false
theorem slot_run {o : Oper} (h : slotOp o = true) {a : Act} {v : Value} {w : World} (hr : RetQ P w v ((execOp a.eval o).run P w)) (w' : World) : RetQ P w' v ((execOp a.eval o).run P w') := by
  unfold slotOp at h
  split at h
  · rename_i t k e
    unfold execOp at hr ⊢
    rw [e] at hr ⊢
    dsimp only at hr ⊢
    unfold Instr.extract at hr ⊢
    generalize a.eval t = u at hr ⊢
    cases u <;> first | exact hr.elim | skip
    simp only [Sem.run_bind] at hr ⊢
    split at hr <;> rename_i e2 <;> first | exact hr.elim | exact ⟨hr.1, rfl⟩
  · rename_i t e
    unfold execOp at hr ⊢
    rw [e] at hr ⊢
    exact ⟨hr.1, rfl⟩
  · cases h
theorem wpAnyB_firstP {i : Nat} {oi : Oper} {v : Value} (hi : ops[i]? = some oi) (hs : Region.noSelect ops = true)
    (hQ : ∀ c a w, Q (.panic c) (a.put oi.dst v) w → Q (.panic c) a w) (hn : n ≤ i) :
    ∀ (fuel : Nat) (listed : Array Bool) (a : Act) (w : World),
      (∀ j oj, ops[j]? = some oj → j ≠ i → listed.getD j true = false → (∀ e ∈ oj.after, Region.binds .any e = true → e.on ≠ i) → oi.apart ops oj = true) →
      i ∈ Region.ready .any ops listed → YieldsQ P ops (fun _ => True) oi v a →
      wpAnyB P ops Q S n fuel (listed.setIfInBounds i true) (a.put oi.dst v) w → wpAnyB P ops Q S n (fuel + 1) listed a w := by
  have hsel := Region.noSelect_spec hs
  intro fuel
  induction fuel with
  | zero =>
    intro listed a w _ hr hy H
    refine ⟨fun h => (by rw [h] at hr; cases hr), fun j hj => ?_⟩
    by_cases hji : j = i
    · subst hji; exact hy.wpOp hi trivial ⟨fun h => absurd h (by omega), H⟩
    · have := ready_mono hj hji
      rw [H.1] at this
      cases this
  | succ fuel ih =>
    intro listed a w hfree hr hy H
    refine ⟨fun h => (by rw [h] at hr; cases hr), fun j hj => ?_⟩
    by_cases hji : j = i
    · subst hji; exact hy.wpOp hi trivial ⟨fun h => absurd h (by omega), H⟩
    · have h1 := H.2 j (ready_mono hj hji)
      obtain ⟨hjun, oj, hoj, hall⟩ := mem_ready.1 hj
      have hnot : ∀ e ∈ oj.after, Region.binds .any e = true → e.on ≠ i := fun e he hb heq =>
        unlisted_not (mem_ready.1 hr).1 (heq ▸ hall e he hb)
      have h2 := wpOp_putQ hoj (hfree j oj hoj hji hjun hnot) (fun cs b => hsel i oi cs b hi) (fun cs b => hsel j oj cs b hoj) hQ hy h1
      have hfree' : ∀ k ok, ops[k]? = some ok → k ≠ i → (listed.setIfInBounds j true).getD k true = false →
          (∀ e ∈ ok.after, Region.binds .any e = true → e.on ≠ i) → oi.apart ops ok = true := fun k ok hk hki hun hno => by
        refine hfree k ok hk hki ?_ hno
        by_cases hjk : j = k
        · subst hjk; exact hjun
        · rw [getD_set_ne true hjk] at hun; exact hun
      refine wpOp_mono (fun a' w' h3 => ⟨fun h => h3.2.1 h, ih (listed.setIfInBounds j true) a' w' hfree' (ready_mono hr (Ne.symm hji)) h3.1 ?_⟩) h2
      rw [Array.setIfInBounds_comm _ _ hji]
      exact h3.2.2
def slotAt (ops : Array Oper) (i : Nat) : Bool := match ops[i]? with
  | some o => slotOp o
  | none => false
def ordOkP (ops : Array Oper) (n : Nat) : List (Nat × Bool) → Array Bool → Bool
  | [], listed => (Region.ready .any ops listed).isEmpty
  | (i, true) :: r, listed => ((decide (i < n) && tailReach ops n i) || (decide (n ≤ i) && slotAt ops i)) && (Region.ready .any ops listed).contains i && Region.free .any ops listed i && ordOkP ops n r (listed.setIfInBounds i true)
  | (i, false) :: r, listed => (decide (i < n) || r.all fun x => decide (n ≤ x.1)) && (match Region.ready .any ops listed with | [j] => j == i | _ => false) && ordOkP ops n r (listed.setIfInBounds i true)

theorem wpAnyB_of_ordP {ι : Type} {F : ι → World} (x0 : ι) (hs : Region.noSelect ops = true) (hQ : ∀ c (a : Act) (d : Option Tmp) (v : Value) w, Q (.panic c) (a.put d v) w → Q (.panic c) a w) :
    ∀ (ord : List (Nat × Bool)) (listed : Array Bool) (a : Act) (w : World), Closed ops listed → ordOkP ops n ord listed = true → ((∃ x ∈ ord, x.1 < n) → Sf F w) → wpOrd P ops Q F n ord a w →
      wpAnyB P ops Q (Sf F) n ord.length listed a w
  | [], listed, a, w, _, hok, _, h => by
    simp only [ordOkP, List.isEmpty_iff] at hok
    exact ⟨hok, h⟩
  | (i, true) :: r, listed, a, w, hcl, hok, hS, h => by
    simp only [ordOkP, Bool.and_eq_true, Bool.or_eq_true, decide_eq_true_eq] at hok
    obtain ⟨⟨⟨hin, hr⟩, hf⟩, hok⟩ := hok
    simp only [wpOrd] at h
    cases ho : ops[i]? with
    | none => simp [ho] at h
    | some o =>
      simp only [ho] at h
      have again := fun a' h' => wpAnyB_of_ordP x0 hs hQ r (listed.setIfInBounds i true) a' w (closed_set hcl (by simpa using hr)) hok (fun ⟨x, hx, hxn⟩ => hS ⟨x, List.mem_cons_of_mem _ hx, hxn⟩) h'
      rcases hin with ⟨hin, ht⟩ | ⟨hin, hsl⟩
      · have hw := hS ⟨(i, true), by simp, hin⟩
        by_cases hwt : Region.wanted o (yielded ops a.tmps) = true
        · simp only [hwt, if_true] at h
          obtain ⟨v, hv, hk⟩ := h
          exact wpAnyB_firstT ho hs (fun c a w => hQ c a _ _ w) ht _ listed a w hcl (Region.free_spec ho hf) (by simpa using hr)
            (Or.inl ⟨hwt, fun w' hw' => by obtain ⟨X, rfl⟩ := hw'; exact hv X⟩) hw (again _ hk)
        · have hwt' : Region.wanted o (yielded ops a.tmps) = false := by simpa using hwt
          simp only [hwt', Bool.false_eq_true, if_false] at h
          exact wpAnyB_firstT ho hs (fun c a w => hQ c a _ _ w) ht _ listed a w hcl (Region.free_spec ho hf) (by simpa using hr)
            (Or.inr ⟨hwt', rfl⟩) hw (again _ h)
      · simp only [slotAt, ho] at hsl
        by_cases hwt : Region.wanted o (yielded ops a.tmps) = true
        · simp only [hwt, if_true] at h
          obtain ⟨v, hv, hk⟩ := h
          exact wpAnyB_firstP ho hs (fun c a w => hQ c a _ _ w) hin _ listed a w (Region.free_spec ho hf) (by simpa using hr)
            (Or.inl ⟨hwt, fun w' _ => slot_run hsl (hv x0) w'⟩) (again _ hk)
        · have hwt' : Region.wanted o (yielded ops a.tmps) = false := by simpa using hwt
          simp only [hwt', Bool.false_eq_true, if_false] at h
          exact wpAnyB_firstP ho hs (fun c a w => hQ c a _ _ w) hin _ listed a w (Region.free_spec ho hf) (by simpa using hr)
            (Or.inr ⟨hwt', rfl⟩) (again _ h)
  | (i, false) :: r, listed, a, w, hcl, hok, hS, h => by
    simp only [ordOkP, Bool.and_eq_true, Bool.or_eq_true, decide_eq_true_eq] at hok
    obtain ⟨⟨hin, hr⟩, hok⟩ := hok
    have hr' : Region.ready .any ops listed = [i] := by
      split at hr
      · rename_i j hj; rw [hj]; simp at hr; rw [hr]
      · cases hr
    refine ⟨fun h0 => (by rw [h0] at hr'; cases hr'), fun j hj => ?_⟩
    rw [hr', List.mem_singleton] at hj
    subst hj
    simp only [wpOrd] at h
    cases ho : ops[j]? with
    | none => simp [ho] at h
    | some o =>
      simp only [ho] at h
      unfold wpOp
      simp only [ho]
      have again := fun (a' : Act) (w' : World) (hw' : (∃ x ∈ r, x.1 < n) → Sf F w') h' => wpAnyB_of_ordP (F := F) x0 hs hQ r (listed.setIfInBounds j true) a' w' (closed_set hcl (by rw [hr']; simp)) hok hw' h'
      have later : (∃ x ∈ r, x.1 < n) → j < n := fun ⟨x, hx, hxn⟩ => by
        rcases hin with h1 | h1
        · exact h1
        · have := List.all_eq_true.1 h1 x hx
          simp only [decide_eq_true_eq] at this
          omega
      by_cases hwt : Region.wanted o (yielded ops a.tmps) = true
      · simp only [hwt, if_true] at h ⊢
        exact Or.inl (Oper.wp_mono (fun a' w' h' => ⟨h'.1, again a' w' (fun hx => h'.1 (later hx)) h'.2⟩) h)
      · have hwt' : Region.wanted o (yielded ops a.tmps) = false := by simpa using hwt
        simp only [hwt', Bool.false_eq_true, if_false] at h ⊢
        exact ⟨fun hj => hS ⟨(j, false), by simp, hj⟩, again _ _ (fun hx => hS ⟨(j, false), by simp, later hx⟩) h⟩

theorem wp_region_ordPF {ι : Type} (F : ι → World) {id : Nat} {l : List Oper} {a : Act} {w : World} (ord : List (Nat × Bool)) (n : Nat) (hm : P.follows .mixedOrders = true)
    (hok : (ordOkP l.toArray n ord (Array.replicate l.toArray.size false) && Region.noSelect l.toArray && ord.length == l.toArray.size) = true)
    (h0 : Sf F w.drew) (h : wpOrd P l.toArray (NoPan Q) F n ord a w.drew) : (Code.region id l.toArray true).wp P Q a w := by
  simp only [Bool.and_eq_true, beq_iff_eq] at hok
  have h1 : (Code.region id l.toArray true).wp P (NoPan Q) a w := by
    refine wp_region_any hm ?_
    rw [← hok.2]
    have h00 := h0
    obtain ⟨x0, _⟩ := h00
    exact wpAny_of_B _ _ _ _ (wpAnyB_of_ordP x0 hok.1.2 (fun _ _ _ _ _ h => h) ord _ a _ (closed_none _ _) (hok.2 ▸ hok.1.1) (fun _ => h0) h)
  exact Code.wp_mono (fun e a w h => by cases e <;> first | exact h | exact h.elim) h1
theorem wp_region_ordP {id : Nat} {l : List Oper} {a : Act} {w : World} (ord : List (Nat × Bool)) (n : Nat) (hm : P.follows .mixedOrders = true)
    (hok : (ordOkP l.toArray n ord (Array.replicate l.toArray.size false) && Region.noSelect l.toArray && ord.length == l.toArray.size) = true)
    (h : wpOrd P l.toArray (NoPan Q) (fun X => w.ext X) n ord a w.drew) : (Code.region id l.toArray true).wp P Q a w := wp_region_ordPF (fun X => w.ext X) ord n hm hok (Sx.drew w) h
end
end Go
namespace Go.Proofs.YtedgenmbdjadkaaGreatDoor
open Go.ChangeShapes Go.WideShapes Go.ChangeAt Go.RowKit

theorem _root_.Go.Got.toBelowR {a w w' : World} {p : Nat} {o : Obj} (h : Got p w o w') (hb : Below a.heap.size a w) (hp : a.heap.size ≤ p) : Below a.heap.size a w' := by
  obtain ⟨X, rfl⟩ := h
  refine hb.trans ⟨rfl, rfl, rfl, by rw [World.ext_size, World.setB_size]; omega, fun k hk => ?_⟩
  have := hb.size
  rw [World.ext_get _ _ (by rw [World.setB_size]; omega), World.setB_get _ _ _ _ (by omega)]
def SeqL : List Int := [1, 2, 9, 100000, 100001, 0, -1]
theorem seqL_in : ∀ x ∈ SeqL, -1 ≤ x ∧ x ≤ 100001 := by decide
/-- a drawn list of cells -/
def DrawnL (w : World) (v : Value) (w' : World) : Prop := ∃ xs, OwnL rCell 39 w' w.heap.size v xs ∧ xs.length ≤ 40 ∧ (∀ x ∈ xs, SmallC x) ∧ Below w.heap.size w w'
theorem Tryz.elemIntD : Elem Tryz.prog 32 3 1 8 := Elem.of (.int .i64 0) Tryz.underlying32 (by kernel_rfl) rfl (by decide)
/-- drawn places -/
def DrawnPl (w : World) (v : Value) (w' : World) : Prop := ∃ xs, OwnL rInt 3 w' w.heap.size v xs ∧ xs.length = 12 ∧ (∀ x ∈ xs, 0 ≤ x ∧ x < 10000) ∧ Below w.heap.size w w'
set_option maxRecDepth 100000 in
theorem spec_DrawPlaces (v : Value) (bs : List UInt8) (w : World) (hs : Sl w v bs.length (bytesOf bs)) (hl : bs.length ≤ 140737488351232) (hb : ∀ b, v.ownBlock = some b → b < w.heap.size) :
    Calls Tryz.prog 14 #[v] w fun e w' => ∃ v', e = .returned v' ∧ DrawnPl w v' w' := by
  go_enter Tryz.func14, Tryz.ntmps14
  go_wp2_with fail
  (go_at_call 43; refine (spec_l01New v bs _ hs hl hb).mono ?_; rintro e w1 ⟨p, rfl, ⟨h, hc⟩, hb1, hp⟩)
  have hpl := hc.lt
  have hz1 := hb1.size
  have HC := Lib.hid hc
  clear hc
  go_wp2
  go_loopw [4, 5] (fun o k wr => ∃ (n : Nat) (xs : List Int) (i' h' : Int), k = .int .i64 n ∧ n ≤ 12 ∧ xs.length = n ∧ (∀ x ∈ xs, 0 ≤ x ∧ x < 10000) ∧ OwnL rInt 3 wr w1.heap.size o xs ∧ Got p w1 (curObj v i' h') wr ∧ 0 ≤ i' ∧ i' ≤ bs.length) (fun _ k _ => 12 - (intOf k).toNat)
  case atStart => exact ⟨0, [], _, h, rfl, by omega, rfl, by simp, OwnL.empty rInt _ _, (Got.self HC.out.blk).alloc _, HC.out.lo, HC.out.hi⟩
  case round =>
    obtain ⟨n, xs, i1, h1, rfl, hn, rfl, hsm, ho, hg, hi0, hi1⟩ := hrel
    have hc1 := HC.out.got hg hi0 hi1
    have hvl := ho.lt
    obtain ⟨ao, co, rfl⟩ := ho.rd.form
    have hne : (Value.slice ao xs.length co).ownBlock ≠ some p := fun e => by have := (hvl p e).1; omega
    have HO := Lib.hid ho
    have HP := Lib.hid hne
    have HSM := Lib.hid hsm
    clear ho hne hvl hsm
    by_cases hlt : (xs.length : Int) < 12
    · go_wp2_with fail
      (go_at_call 46; refine (spec_l01Below p v bs _ _ _ _ hc1 (by omega)).mono ?_; rintro e w2 ⟨x, i2, h2, rfl, ⟨hx0, hx1, _⟩, hg2, hj0, hj1⟩)
      have hx2 := hx1 (by omega)
      clear hx1
      have ho2 := HO.out.got hg2 HP.out
      have hgg := hg.then hg2 hpl
      have hz := hgg.size
      go_wp2_with (at_builtin; refine Stop.here ?_)
      refine wpList_appL rfl _ _ _ rfl Tryz.elemIntD (ho2.alloc _) rfl (RdL.oneAt rInt _ x _ rfl _ _ rfl) rfl (by simp only [List.length_singleton]; omega) (by simp only [List.length_singleton]; unfold maxLen; omega) (by simp; omega) ?_
      intro v6 w6 hown6 hgr6 _
      have hg6 : Got p w1 _ w6 := Got.app (hgg.alloc _) hgr6 (ho2.alloc _)
      clear hgr6
      have HO6 := Lib.hid hown6
      clear hown6
      go_wp2
      go_roundw
      case rel =>
        refine ⟨xs.length + 1, _, i2, h2, by go_num, by omega, by simp, fun y hy => ?_, HO6.out, hg6, hj0, hj1⟩
        rcases List.mem_append.1 hy with hy | hy
        · exact HSM.out y hy
        · rw [List.mem_singleton.1 hy]
          exact ⟨hx0, hx2⟩
      case measure => simp [intOf]; omega
    · have HB := Lib.hid (hg.toBelowR hb1 hp)
      go_wp2
      go_ret
      exact ⟨_, rfl, xs, HO.out.base (by omega), by omega, HSM.out, HB.out⟩
end Go.Proofs.YtedgenmbdjadkaaGreatDoor
namespace Go.Proofs.YtedgenmbdjadkaaGreatDoor
open Go.ChangeShapes Go.WideShapes Go.ChangeAt Go.RowKit

theorem inB_t {x a b : Int} (h : a ≤ x) : decide (x ≤ b) = inB x a b := by simp [inB, h]
theorem inB_f {x a b : Int} (h : x < a) : false = inB x a b := by simp [inB, show ¬ a ≤ x by omega]

def jOk (t : ByteArray) (n : Int) : Bool := decide ((t.size : Int) ≤ 20000) && inB n 0 t.size
theorem jOk_t {t : ByteArray} {n : Int} (h : (t.size : Int) ≤ 20000) : inB n 0 t.size = jOk t n := by simp [jOk, h]
theorem jOk_f {t : ByteArray} {n : Int} (h : 20000 < (t.size : Int)) : false = jOk t n := by simp [jOk, show ¬ (t.size : Int) ≤ 20000 by omega]

theorem spec_JournalOk (t : ByteArray) (n : Int) (w : World) :
    Calls Tryz.prog 29 #[.agg #[.string t, .int .i64 n]] w fun e w' => e = .returned (.bool (jOk t n)) ∧ Below w.heap.size w w' := by
  go_enter Tryz.func29, Tryz.ntmps29
  go_wp2_with (go_at_call 36; refine (spec_l01In _ _ _ _).mono ?_; rintro e w' ⟨rfl, rfl⟩)
  all_goals go_ret
  · exact ⟨ret_bool (jOk_t (by assumption)), (by repeat (first | with_reducible exact Below.refl _ _ | with_reducible apply Below.ofExt | with_reducible apply Below.ofAlloc | with_reducible apply Below.drew | with_reducible apply Below.ofDrewN | with_reducible assumption | (with_reducible refine Below.setCell ?_ (by first | exact Nat.le_refl _ | (simp [go_sem]; done) | (simp [go_sem]; omega)) _)))⟩
  · exact ⟨ret_bool (jOk_f (by assumption)), (by repeat (first | with_reducible exact Below.refl _ _ | with_reducible apply Below.ofExt | with_reducible apply Below.ofAlloc | with_reducible apply Below.drew | with_reducible apply Below.ofDrewN | with_reducible assumption | (with_reducible refine Below.setCell ?_ (by first | exact Nat.le_refl _ | (simp [go_sem]; done) | (simp [go_sem]; omega)) _)))⟩

theorem impl_JournalOk (t : ByteArray) (n : Int) (w : World) :
    Calls Tryz.prog 28 #[.agg #[.string t, .int .i64 n]] w fun e w' => e = .returned (.bool (jOk t n)) ∧ Below w.heap.size w w' := by
  go_enter Tryz.func28, Tryz.ntmps28
  go_wp2_with (go_at_call 38; refine (impl_within _ _ _ _).mono ?_; rintro e w' ⟨rfl, rfl⟩)
  all_goals go_ret
  · exact ⟨ret_bool (jOk_t (by assumption)), (by repeat (first | with_reducible exact Below.refl _ _ | with_reducible apply Below.ofExt | with_reducible apply Below.ofAlloc | with_reducible apply Below.drew | with_reducible apply Below.ofDrewN | with_reducible assumption | (with_reducible refine Below.setCell ?_ (by first | exact Nat.le_refl _ | (simp [go_sem]; done) | (simp [go_sem]; omega)) _)))⟩
  · exact ⟨ret_bool (jOk_f (by assumption)), (by repeat (first | with_reducible exact Below.refl _ _ | with_reducible apply Below.ofExt | with_reducible apply Below.ofAlloc | with_reducible apply Below.drew | with_reducible apply Below.ofDrewN | with_reducible assumption | (with_reducible refine Below.setCell ?_ (by first | exact Nat.le_refl _ | (simp [go_sem]; done) | (simp [go_sem]; omega)) _)))⟩

def flN (t : ByteArray) (n : Int) : Int := if jOk t n then t.size else n
theorem flN_t {t : ByteArray} {n : Int} (h : jOk t n = true) : (t.size : Int) = flN t n := by simp [flN, h]
theorem flN_f {t : ByteArray} {n : Int} (h : jOk t n = false) : n = flN t n := by simp [flN, h]
theorem ret_jour {t t' : ByteArray} {n n' : Int} (h : t = t') (h' : n = n') : Ending.returned (.agg #[.string t, .int .i64 n]) = .returned (.agg #[.string t', .int .i64 n']) := by rw [h, h']

theorem spec_Flush (t : ByteArray) (n : Int) (w : World) :
    Calls Tryz.prog 31 #[.agg #[.string t, .int .i64 n]] w fun e w' => e = .returned (.agg #[.string t, .int .i64 (flN t n)]) ∧ Below w.heap.size w w' := by
  go_enter Tryz.func31, Tryz.ntmps31
  go_wp2_with (go_at_call 29; refine (spec_JournalOk _ _ _).mono ?_; rintro e w' ⟨rfl, hb⟩; obtain ⟨X, rfl⟩ := hb.ext; clear hb)
  · refine bodyPost_ret (by simp [results, Tryz.results31, go_sem]; rfl) rfl ?_
    exact ⟨ret_jour rfl (flN_t (by assumption)), (by repeat (first | with_reducible exact Below.refl _ _ | with_reducible apply Below.ofExt | with_reducible apply Below.ofAlloc | with_reducible apply Below.drew | with_reducible apply Below.ofDrewN | with_reducible assumption | (with_reducible refine Below.setCell ?_ (by first | exact Nat.le_refl _ | (simp [go_sem]; done) | (simp [go_sem]; omega)) _)))⟩
  · refine bodyPost_ret (by simp [results, Tryz.results31, go_sem]; rfl) rfl ?_
    exact ⟨ret_jour rfl (flN_f (by assumption)), (by repeat (first | with_reducible exact Below.refl _ _ | with_reducible apply Below.ofExt | with_reducible apply Below.ofAlloc | with_reducible apply Below.drew | with_reducible apply Below.ofDrewN | with_reducible assumption | (with_reducible refine Below.setCell ?_ (by first | exact Nat.le_refl _ | (simp [go_sem]; done) | (simp [go_sem]; omega)) _)))⟩

theorem impl_Flush (t : ByteArray) (n : Int) (w : World) :
    Calls Tryz.prog 30 #[.agg #[.string t, .int .i64 n]] w fun e w' => e = .returned (.agg #[.string t, .int .i64 (flN t n)]) ∧ Below w.heap.size w w' := by
  go_enter Tryz.func30, Tryz.ntmps30
  go_wp2_with (go_at_call 28; refine (impl_JournalOk _ _ _).mono ?_; rintro e w' ⟨rfl, hb⟩; obtain ⟨X, rfl⟩ := hb.ext; clear hb)
  · refine bodyPost_ret (by simp [results, Tryz.results30, go_sem]; rfl) rfl ?_
    exact ⟨ret_jour rfl (flN_t (by assumption)), (by repeat (first | with_reducible exact Below.refl _ _ | with_reducible apply Below.ofExt | with_reducible apply Below.ofAlloc | with_reducible apply Below.drew | with_reducible apply Below.ofDrewN | with_reducible assumption | (with_reducible refine Below.setCell ?_ (by first | exact Nat.le_refl _ | (simp [go_sem]; done) | (simp [go_sem]; omega)) _)))⟩
  · refine bodyPost_ret (by simp [results, Tryz.results30, go_sem]; rfl) rfl ?_
    exact ⟨ret_jour rfl (flN_f (by assumption)), (by repeat (first | with_reducible exact Below.refl _ _ | with_reducible apply Below.ofExt | with_reducible apply Below.ofAlloc | with_reducible apply Below.drew | with_reducible apply Below.ofDrewN | with_reducible assumption | (with_reducible refine Below.setCell ?_ (by first | exact Nat.le_refl _ | (simp [go_sem]; done) | (simp [go_sem]; omega)) _)))⟩

def atJ (t : ByteArray) (n : Int) (s : ByteArray) : Bool := jOk t n && decide ((t.size : Int) + s.size ≤ 20000)
def adT (t : ByteArray) (n : Int) (s : ByteArray) : ByteArray := if atJ t n s then t ++ s else t
theorem jOk_le {t : ByteArray} {n : Int} (h : jOk t n = true) : (t.size : Int) ≤ 20000 := by simp [jOk] at h; omega
theorem atJ_t {t : ByteArray} {n : Int} {s : ByteArray} (h : jOk t n = true) (g : (t.size : Int) + s.size ≤ 20000) : true = atJ t n s := by simp [atJ, h, g]
theorem atJ_f {t : ByteArray} {n : Int} {s : ByteArray} (g : ¬ (t.size : Int) + s.size ≤ 20000) : false = atJ t n s := by simp [atJ, g]
theorem atJ_n {t : ByteArray} {n : Int} {s : ByteArray} (h : jOk t n = false) : false = atJ t n s := by simp [atJ, h]
theorem adT_t {t : ByteArray} {n : Int} {s : ByteArray} (h : jOk t n = true) (g : (t.size : Int) + s.size ≤ 20000) : t ++ s = adT t n s := by simp [adT, atJ, h, g]
theorem adT_f {t : ByteArray} {n : Int} {s : ByteArray} (h : false = atJ t n s) : t = adT t n s := by simp [adT, ← h]
theorem ret_add {t t' : ByteArray} {n : Int} {b b' : Bool} (h : t = t') (h' : b = b') : Ending.returned (.tuple #[.agg #[.string t, .int .i64 n], .bool b]) = .returned (.tuple #[.agg #[.string t', .int .i64 n], .bool b']) := by rw [h, h']

theorem spec_AddText (t : ByteArray) (n : Int) (s : ByteArray) (w : World) (hs : s.size ≤ 1048576) :
    Calls Tryz.prog 24 #[.agg #[.string t, .int .i64 n], .string s] w fun e w' => e = .returned (.tuple #[.agg #[.string (adT t n s), .int .i64 n], .bool (atJ t n s)]) ∧ Below w.heap.size w w' := by
  go_enter Tryz.func24, Tryz.ntmps24
  by_cases hj : jOk t n = true
  · have hl : (t.size : Int) ≤ 20000 := jOk_le hj
    by_cases hg : (t.size : Int) + s.size ≤ 20000
    · have hg' : (s.size : Int) ≤ 20000 - t.size := by omega
      have H := ret_add (adT_t hj hg) (n := n) (atJ_t hj hg)
      go_wp2_with (go_at_call 29; refine (spec_JournalOk _ _ _).mono ?_; rintro e w' ⟨rfl, hb⟩; obtain ⟨X, rfl⟩ := hb.ext; clear hb)
      refine bodyPost_ret (by simp [results, Tryz.results24, go_sem]; rfl) rfl ?_
      exact ⟨H, (by repeat (first | with_reducible exact Below.refl _ _ | with_reducible apply Below.ofExt | with_reducible apply Below.ofAlloc | with_reducible apply Below.drew | with_reducible apply Below.ofDrewN | with_reducible assumption | (with_reducible refine Below.setCell ?_ (by first | exact Nat.le_refl _ | (simp [go_sem]; done) | (simp [go_sem]; omega)) _)))⟩
    · have hg' : (20000 : Int) - t.size < s.size := by omega
      have hg2 : (20000 : Int) < t.size + s.size := by omega
      have H := ret_add (adT_f (n := n) (atJ_f hg)) (n := n) (atJ_f (n := n) hg)
      clear hg
      go_wp2_with (go_at_call 29; refine (spec_JournalOk _ _ _).mono ?_; rintro e w' ⟨rfl, hb⟩; obtain ⟨X, rfl⟩ := hb.ext; clear hb)
      refine bodyPost_ret (by simp [results, Tryz.results24, go_sem]; rfl) rfl ?_
      exact ⟨H, (by repeat (first | with_reducible exact Below.refl _ _ | with_reducible apply Below.ofExt | with_reducible apply Below.ofAlloc | with_reducible apply Below.drew | with_reducible apply Below.ofDrewN | with_reducible assumption | (with_reducible refine Below.setCell ?_ (by first | exact Nat.le_refl _ | (simp [go_sem]; done) | (simp [go_sem]; omega)) _)))⟩
  · have hj' : jOk t n = false := by simpa using hj
    have H := ret_add (adT_f (atJ_n (s := s) hj')) (n := n) (atJ_n (s := s) hj')
    clear hj
    go_wp2_with (go_at_call 29; refine (spec_JournalOk _ _ _).mono ?_; rintro e w' ⟨rfl, hb⟩; obtain ⟨X, rfl⟩ := hb.ext; clear hb)
    refine bodyPost_ret (by simp [results, Tryz.results24, go_sem]; rfl) rfl ?_
    exact ⟨H, (by repeat (first | with_reducible exact Below.refl _ _ | with_reducible apply Below.ofExt | with_reducible apply Below.ofAlloc | with_reducible apply Below.drew | with_reducible apply Below.ofDrewN | with_reducible assumption | (with_reducible refine Below.setCell ?_ (by first | exact Nat.le_refl _ | (simp [go_sem]; done) | (simp [go_sem]; omega)) _)))⟩

theorem impl_AddText (t : ByteArray) (n : Int) (s : ByteArray) (w : World) (hs : s.size ≤ 1048576) :
    Calls Tryz.prog 23 #[.agg #[.string t, .int .i64 n], .string s] w fun e w' => e = .returned (.tuple #[.agg #[.string (adT t n s), .int .i64 n], .bool (atJ t n s)]) ∧ Below w.heap.size w w' := by
  go_enter Tryz.func23, Tryz.ntmps23
  by_cases hj : jOk t n = true
  · have hl : (t.size : Int) ≤ 20000 := jOk_le hj
    by_cases hg : (t.size : Int) + s.size ≤ 20000
    · have hg' : (s.size : Int) ≤ 20000 - t.size := by omega
      have H := ret_add (adT_t hj hg) (n := n) (atJ_t hj hg)
      go_wp2_with (go_at_call 28; refine (impl_JournalOk _ _ _).mono ?_; rintro e w' ⟨rfl, hb⟩; obtain ⟨X, rfl⟩ := hb.ext; clear hb)
      refine bodyPost_ret (by simp [results, Tryz.results23, go_sem]; rfl) rfl ?_
      exact ⟨H, (by repeat (first | with_reducible exact Below.refl _ _ | with_reducible apply Below.ofExt | with_reducible apply Below.ofAlloc | with_reducible apply Below.drew | with_reducible apply Below.ofDrewN | with_reducible assumption | (with_reducible refine Below.setCell ?_ (by first | exact Nat.le_refl _ | (simp [go_sem]; done) | (simp [go_sem]; omega)) _)))⟩
    · have hg' : (20000 : Int) - t.size < s.size := by omega
      have hg2 : (20000 : Int) < t.size + s.size := by omega
      have H := ret_add (adT_f (n := n) (atJ_f hg)) (n := n) (atJ_f (n := n) hg)
      clear hg
      go_wp2_with (go_at_call 28; refine (impl_JournalOk _ _ _).mono ?_; rintro e w' ⟨rfl, hb⟩; obtain ⟨X, rfl⟩ := hb.ext; clear hb)
      refine bodyPost_ret (by simp [results, Tryz.results23, go_sem]; rfl) rfl ?_
      exact ⟨H, (by repeat (first | with_reducible exact Below.refl _ _ | with_reducible apply Below.ofExt | with_reducible apply Below.ofAlloc | with_reducible apply Below.drew | with_reducible apply Below.ofDrewN | with_reducible assumption | (with_reducible refine Below.setCell ?_ (by first | exact Nat.le_refl _ | (simp [go_sem]; done) | (simp [go_sem]; omega)) _)))⟩
  · have hj' : jOk t n = false := by simpa using hj
    have H := ret_add (adT_f (atJ_n (s := s) hj')) (n := n) (atJ_n (s := s) hj')
    clear hj
    go_wp2_with (go_at_call 28; refine (impl_JournalOk _ _ _).mono ?_; rintro e w' ⟨rfl, hb⟩; obtain ⟨X, rfl⟩ := hb.ext; clear hb)
    refine bodyPost_ret (by simp [results, Tryz.results23, go_sem]; rfl) rfl ?_
    exact ⟨H, (by repeat (first | with_reducible exact Below.refl _ _ | with_reducible apply Below.ofExt | with_reducible apply Below.ofAlloc | with_reducible apply Below.drew | with_reducible apply Below.ofDrewN | with_reducible assumption | (with_reducible refine Below.setCell ?_ (by first | exact Nat.le_refl _ | (simp [go_sem]; done) | (simp [go_sem]; omega)) _)))⟩

def bro (n a b : Int) : Int := max a (min n b)
theorem spec_Brought (n a b : Int) (w : World) :
    Calls Tryz.prog 66 #[.int .i64 n, .int .i64 a, .int .i64 b] w fun e w' => e = .returned (.int .i64 (bro n a b)) ∧ w = w' := by
  go_enter Tryz.func66, Tryz.ntmps66
  go_wp2
  all_goals go_ret
  all_goals exact ⟨ret_int (by unfold bro; omega), rfl⟩
theorem impl_Brought (n a b : Int) (w : World) :
    Calls Tryz.prog 65 #[.int .i64 n, .int .i64 a, .int .i64 b] w fun e w' => e = .returned (.int .i64 (bro n a b)) ∧ w = w' := by
  go_enter Tryz.func65, Tryz.ntmps65
  go_wp2
  all_goals go_ret
  all_goals exact ⟨ret_int (by unfold bro; omega), rfl⟩
end Go.Proofs.YtedgenmbdjadkaaGreatDoor
namespace Go.Proofs.YtedgenmbdjadkaaGreatDoor
open Go.ChangeShapes Go.WideShapes Go.ChangeAt Go.RowKit

def fallN (t : ByteArray) (n keep : Int) : Nat := (n + bro keep 0 (t.size - n)).toNat
theorem fallN_eq {t : ByteArray} {n : Int} (keep : Int) (h : jOk t n = true) : n + bro keep 0 (t.size - n) = (fallN t n keep : Int) ∧ fallN t n keep ≤ t.size := by
  have hn : 0 ≤ n ∧ n ≤ t.size := by simp [jOk, inB] at h; omega
  unfold fallN bro
  omega

def fallT (t : ByteArray) (n keep : Int) : ByteArray := if jOk t n then t.extract 0 (fallN t n keep) else t
def fallM (t : ByteArray) (n keep : Int) : Int := if jOk t n then (fallN t n keep : Int) else n
theorem fallT_t {t : ByteArray} {n keep : Int} (h : jOk t n = true) : t.extract 0 (fallN t n keep) = fallT t n keep := by simp [fallT, h]
theorem fallM_t {t : ByteArray} {n keep : Int} (h : jOk t n = true) : (fallN t n keep : Int) = fallM t n keep := by simp [fallM, h]
theorem fallT_f {t : ByteArray} {n keep : Int} (h : jOk t n = false) : t = fallT t n keep := by simp [fallT, h]
theorem fallM_f {t : ByteArray} {n keep : Int} (h : jOk t n = false) : n = fallM t n keep := by simp [fallM, h]

set_option maxRecDepth 100000 in
theorem spec_FallJournal (t : ByteArray) (n keep : Int) (w : World) (hs : t.size ≤ 1048576) :
    Calls Tryz.prog 27 #[.agg #[.string t, .int .i64 n], .int .i64 keep] w fun e w' => e = .returned (.agg #[.string (fallT t n keep), .int .i64 (fallM t n keep)]) ∧ Below w.heap.size w w' := by
  by_cases h : jOk t n = true
  · have hn : 0 ≤ n ∧ n ≤ t.size ∧ (t.size : Int) ≤ 20000 := by simp [jOk, inB] at h; omega
    have hb : 0 ≤ bro keep 0 (t.size - n) ∧ bro keep 0 (t.size - n) ≤ t.size - n := by unfold bro; omega
    obtain ⟨hq, hle⟩ := fallN_eq keep h
    have H := ret_jour (fallT_t (keep := keep) h) (fallM_t (keep := keep) h)
    go_enter Tryz.func27, Tryz.ntmps27
    go_wp2_with (go_at_call 29; refine (spec_JournalOk _ _ _).mono ?_; rintro e w' ⟨rfl, hb⟩; obtain ⟨X, rfl⟩ := hb.ext; clear hb)
    refine wp_region_ord [(0,true),(1,true),(2,true),(3,true),(4,true),(5,true),(6,true),(7,true),(8,true),(9,true),(10,true),(11,false),(12,true),(13,true),(14,false),(15,false)] 14 (by kernel_rfl) (by kernel_rfl) ?_
    repeat (refine wpOrd_quiet rfl (fun K hK => ?_); go_simp; (try simp (disch := omega) only [IntWalk.i64_in]); refine hK _ ?_; clear hK K)
    refine wpOrd_grow rfl (fun K hK => ?_); go_simp; go_at_call 66; refine (spec_Brought _ _ _ _).mono ?_; rintro e w' ⟨rfl, rfl⟩; try go_simp; refine hK _ _ (by show Sx _ _; (try simp only [← Array.append_assoc]); repeat (first | with_reducible exact Sx.drew _ | with_reducible exact Sx.same _ _ _ _ | with_reducible exact ⟨_, rfl⟩ | with_reducible apply Sx.more | with_reducible apply Sx.ext | with_reducible apply Sx.alloc | with_reducible apply Sx.draw | with_reducible exact Sx.refl _)) ?_; clear hK K
    repeat (refine wpOrd_quiet rfl (fun K hK => ?_); go_simp; (try simp (disch := omega) only [IntWalk.i64_in]); refine hK _ ?_; clear hK K)
    repeat (refine wpOrd_tail rfl rfl (fun K hK => ?_); go_simp; refine hK _ _ ?_; clear hK K)
    refine wpOrd_nil ?_
    go_wp2
    refine bodyPost_ret (by simp [results, Tryz.results27, go_sem]; rfl) rfl ?_
    exact ⟨H, (by repeat (first | with_reducible exact Below.refl _ _ | with_reducible apply Below.ofExt | with_reducible apply Below.ofAlloc | with_reducible apply Below.drew | with_reducible apply Below.ofDrewN | with_reducible assumption | (with_reducible refine Below.setCell ?_ (by first | exact Nat.le_refl _ | (simp [go_sem]; done) | (simp [go_sem]; omega)) _)))⟩
  · have hj : jOk t n = false := by simpa using h
    have H := ret_jour (fallT_f (keep := keep) hj) (fallM_f (keep := keep) hj)
    clear h
    go_enter Tryz.func27, Tryz.ntmps27
    go_wp2_with (go_at_call 29; refine (spec_JournalOk _ _ _).mono ?_; rintro e w' ⟨rfl, hb⟩; obtain ⟨X, rfl⟩ := hb.ext; clear hb)
    refine bodyPost_ret (by simp [results, Tryz.results27, go_sem]; rfl) rfl ?_
    exact ⟨H, (by repeat (first | with_reducible exact Below.refl _ _ | with_reducible apply Below.ofExt | with_reducible apply Below.ofAlloc | with_reducible apply Below.drew | with_reducible apply Below.ofDrewN | with_reducible assumption | (with_reducible refine Below.setCell ?_ (by first | exact Nat.le_refl _ | (simp [go_sem]; done) | (simp [go_sem]; omega)) _)))⟩

set_option maxRecDepth 100000 in
theorem impl_FallJournal (t : ByteArray) (n keep : Int) (w : World) (hs : t.size ≤ 1048576) :
    Calls Tryz.prog 26 #[.agg #[.string t, .int .i64 n], .int .i64 keep] w fun e w' => e = .returned (.agg #[.string (fallT t n keep), .int .i64 (fallM t n keep)]) ∧ Below w.heap.size w w' := by
  by_cases h : jOk t n = true
  · have hn : 0 ≤ n ∧ n ≤ t.size ∧ (t.size : Int) ≤ 20000 := by simp [jOk, inB] at h; omega
    have hb : 0 ≤ bro keep 0 (t.size - n) ∧ bro keep 0 (t.size - n) ≤ t.size - n := by unfold bro; omega
    obtain ⟨hq, hle⟩ := fallN_eq keep h
    have H := ret_jour (fallT_t (keep := keep) h) (fallM_t (keep := keep) h)
    go_enter Tryz.func26, Tryz.ntmps26
    go_wp2_with (go_at_call 28; refine (impl_JournalOk _ _ _).mono ?_; rintro e w' ⟨rfl, hb⟩; obtain ⟨X, rfl⟩ := hb.ext; clear hb)
    refine wp_region_ord [(0,true),(1,true),(2,true),(3,true),(4,true),(5,true),(6,true),(7,true),(8,true),(9,false),(10,true),(11,false)] 11 (by kernel_rfl) (by kernel_rfl) ?_
    repeat (refine wpOrd_quiet rfl (fun K hK => ?_); go_simp; (try simp (disch := omega) only [IntWalk.i64_in]); refine hK _ ?_; clear hK K)
    refine wpOrd_grow rfl (fun K hK => ?_); go_simp; go_at_call 65; refine (impl_Brought _ _ _ _).mono ?_; rintro e w' ⟨rfl, rfl⟩; try go_simp; refine hK _ _ (by show Sx _ _; (try simp only [← Array.append_assoc]); repeat (first | with_reducible exact Sx.drew _ | with_reducible exact Sx.same _ _ _ _ | with_reducible exact ⟨_, rfl⟩ | with_reducible apply Sx.more | with_reducible apply Sx.ext | with_reducible apply Sx.alloc | with_reducible apply Sx.draw | with_reducible exact Sx.refl _)) ?_; clear hK K
    repeat (refine wpOrd_quiet rfl (fun K hK => ?_); go_simp; (try simp (disch := omega) only [IntWalk.i64_in]); refine hK _ ?_; clear hK K)
    repeat (refine wpOrd_tail rfl rfl (fun K hK => ?_); go_simp; refine hK _ _ ?_; clear hK K)
    refine wpOrd_nil ?_
    go_wp2
    refine bodyPost_ret (by simp [results, Tryz.results26, go_sem]; rfl) rfl ?_
    exact ⟨H, (by repeat (first | with_reducible exact Below.refl _ _ | with_reducible apply Below.ofExt | with_reducible apply Below.ofAlloc | with_reducible apply Below.drew | with_reducible apply Below.ofDrewN | with_reducible assumption | (with_reducible refine Below.setCell ?_ (by first | exact Nat.le_refl _ | (simp [go_sem]; done) | (simp [go_sem]; omega)) _)))⟩
  · have hj : jOk t n = false := by simpa using h
    have H := ret_jour (fallT_f (keep := keep) hj) (fallM_f (keep := keep) hj)
    clear h
    go_enter Tryz.func26, Tryz.ntmps26
    go_wp2_with (go_at_call 28; refine (impl_JournalOk _ _ _).mono ?_; rintro e w' ⟨rfl, hb⟩; obtain ⟨X, rfl⟩ := hb.ext; clear hb)
    refine bodyPost_ret (by simp [results, Tryz.results26, go_sem]; rfl) rfl ?_
    exact ⟨H, (by repeat (first | with_reducible exact Below.refl _ _ | with_reducible apply Below.ofExt | with_reducible apply Below.ofAlloc | with_reducible apply Below.drew | with_reducible apply Below.ofDrewN | with_reducible assumption | (with_reducible refine Below.setCell ?_ (by first | exact Nat.le_refl _ | (simp [go_sem]; done) | (simp [go_sem]; omega)) _)))⟩

end Go.Proofs.YtedgenmbdjadkaaGreatDoor
namespace Go.Proofs.YtedgenmbdjadkaaGreatDoor
open Go.ChangeShapes Go.WideShapes Go.ChangeAt Go.RowKit
def jObj (t : ByteArray) (n : Int) : Obj := .cells #[.string t, .int .i64 n] 44 (0, 0)
/-- the cursor has gone on, and two journals lie at the first two new blocks -/
def JW (p : Nat) (vb : Value) (bs : List UInt8) (w : World) (t0 : ByteArray) (n0 : Int) (t : ByteArray) (n : Int) (w' : World) : Prop :=
  ∃ i' h', Got p w (curObj vb i' h') w' ∧ 0 ≤ i' ∧ i' ≤ bs.length ∧ w'.heap[w.heap.size]? = some (jObj t0 n0) ∧ w'.heap[w.heap.size + 1]? = some (jObj t n)
section
variable {p : Nat} {vb : Value} {bs : List UInt8} {w w1 w2 : World} {t0 t : ByteArray} {n0 n : Int}
theorem JW.drew (h : JW p vb bs w t0 n0 t n w1) : JW p vb bs w t0 n0 t n w1.drew := by
  obtain ⟨i, h', a, b, c, d, e⟩ := h
  exact ⟨i, h', by obtain ⟨X, rfl⟩ := a; exact ⟨⟨X.bs, X.dr + 1⟩, by unfold World.ext World.drew; rfl⟩, b, c, d, e⟩
theorem JW.draw {i' h' : Int} (h : JW p vb bs w t0 n0 t n w1) (g : Got p w1 (curObj vb i' h') w2) (h0 : 0 ≤ i') (h1 : i' ≤ bs.length) (hp : p < w.heap.size) : JW p vb bs w t0 n0 t n w2 := by
  obtain ⟨i, hh, a, b, c, d, e⟩ := h
  exact ⟨i', h', a.then g hp, h0, h1, (g.other (World.lt_of_get d) (by omega)).trans d, (g.other (World.lt_of_get e) (by omega)).trans e⟩
theorem JW.below (h : JW p vb bs w t0 n0 t n w1) (g : Below w1.heap.size w1 w2) : JW p vb bs w t0 n0 t n w2 := by
  obtain ⟨i, hh, a, b, c, d, e⟩ := h
  exact ⟨i, hh, a.ofBelow g, b, c, (g.block _ (World.lt_of_get d)).trans d, (g.block _ (World.lt_of_get e)).trans e⟩
theorem JW.set (h : JW p vb bs w t0 n0 t n w1) (t' : ByteArray) (n' : Int) : JW p vb bs w t0 n0 t' n' (w1.setB (w.heap.size + 1) (jObj t' n')) := by
  obtain ⟨i, hh, a, b, c, d, e⟩ := h
  exact ⟨i, hh, a.past (by omega) _, b, c, by rw [World.setB_get _ _ _ _ (by omega)]; exact d, World.setB_at _ _ _ (World.lt_of_get e)⟩
theorem JW.set0 (h : JW p vb bs w t0 n0 t n w1) (t' : ByteArray) (n' : Int) : JW p vb bs w t' n' t n (w1.setB w.heap.size (jObj t' n')) := by
  obtain ⟨i, hh, a, b, c, d, e⟩ := h
  exact ⟨i, hh, a.past (by omega) _, b, c, World.setB_at _ _ _ (World.lt_of_get d), by rw [World.setB_get _ _ _ _ (by omega)]; exact e⟩
theorem JW.self (h : JW p vb bs w t0 n0 t n w1) : w1.setB (w.heap.size + 1) (jObj t n) = w1 := by
  obtain ⟨i, hh, a, b, c, d, e⟩ := h
  exact World.setB_self e
theorem JW.self0 (h : JW p vb bs w t0 n0 t n w1) : w1.setB w.heap.size (jObj t0 n0) = w1 := by
  obtain ⟨i, hh, a, b, c, d, e⟩ := h
  exact World.setB_self d
theorem JW.got (h : JW p vb bs w t0 n0 t n w1) : ∃ i' h', Got p w (curObj vb i' h') w1 ∧ 0 ≤ i' ∧ i' ≤ bs.length := by
  obtain ⟨i, hh, a, b, c, d, e⟩ := h
  exact ⟨i, hh, a, b, c⟩
theorem JW.at1 (h : JW p vb bs w t0 n0 t n w1) : w1.heap[w.heap.size + 1]? = some (jObj t n) := by
  obtain ⟨i, hh, a, b, c, d, e⟩ := h
  exact e
theorem JW.cur {i h : Int} (h2 : JW p vb bs w t0 n0 t n w1) (hc : Cur w p vb bs i h) : ∃ i' h', Cur w1 p vb bs i' h' := by
  obtain ⟨i', h', a, b, c⟩ := h2.got
  exact ⟨i', h', hc.got a b c⟩
theorem JW.cell0 (h : JW p vb bs w t0 n0 t n w1) : w1.cell? ⟨w.heap.size + 1, 0, none⟩ = some (.string t) := by rw [World.cell?_of_get h.at1]; rfl
theorem JW.cell1 (h : JW p vb bs w t0 n0 t n w1) : w1.cell? ⟨w.heap.size + 1, 1, none⟩ = some (.int .i64 n) := by rw [World.cell?_of_get h.at1]; rfl
end
theorem JW.start {p : Nat} {vb : Value} {bs : List UInt8} {i h : Int} {w : World} (hc : Cur w p vb bs i h) (t0 t : ByteArray) (n0 n : Int) : JW p vb bs w t0 n0 t n ((w.alloc (jObj t0 n0)).alloc (jObj t n)) := by
  refine ⟨i, h, ((Got.self hc.blk).alloc _).alloc _, hc.lo, hc.hi, ?_, ?_⟩
  · show ((w.heap.push _).push _)[w.heap.size]? = _
    rw [Array.getElem?_push, if_neg (by simp), Array.getElem?_push, if_pos rfl]
  · show ((w.heap.push _).push _)[w.heap.size + 1]? = _
    rw [Array.getElem?_push, if_pos (by simp)]
theorem adT_size {t : ByteArray} {n : Int} {s : ByteArray} (h : t.size ≤ 20001) : (adT t n s).size ≤ 20001 := by
  unfold adT
  split
  · rename_i h2
    unfold atJ at h2
    simp at h2
    rw [ByteArray.size_append]
    omega
  · exact h
theorem cells_rd {w : World} {B : Nat} {v : Value} {xs : List CellD} (h : OwnL rCell 39 w B v xs) (hs : ∀ x ∈ xs, SmallC x) : (vSlice vCell 39).rd w [v] xs := by
  obtain ⟨fp, ho, _⟩ := own_of_cells h (fun d hd => by have := hs d hd; unfold SmallC at this; exact ⟨by omega, by omega⟩)
  exact View.toRd _ ho
def PickJ : List ByteArray := [⟨#[51, 32, 54, 49, 61]⟩, ⟨#[120, 10]⟩, ⟨#[10]⟩]
theorem pickJ_small : ∀ s ∈ PickJ, s.size ≤ 5 := by decide
def DrawnJ (p : Nat) (vb : Value) (bs : List UInt8) (w : World) (t : ByteArray) (w' : World) : Prop := t.size ≤ 20001 ∧ Drawn p vb bs w w'
set_option maxRecDepth 100000 in
set_option maxHeartbeats 2000000 in
theorem spec_l22Journal (p : Nat) (vb : Value) (bs : List UInt8) (i h : Int) (w : World) (hc : Cur w p vb bs i h) :
    Calls Tryz.prog 44 #[.pointer (some ⟨p, 0, none⟩)] w fun e w' => ∃ t n, e = .returned (.agg #[.string t, .int .i64 n]) ∧ DrawnJ p vb bs w t w' := by
  have hp := hc.lt
  have HC := Lib.hid hc
  clear hc
  go_enter Tryz.func44, Tryz.ntmps44
  have hj := JW.start HC.out ⟨#[]⟩ ⟨#[]⟩ 0 0
  unfold jObj at hj
  have HJ := Lib.hid hj
  clear hj
  go_wp2_with fail
  obtain ⟨i0, h0, hc0⟩ := HJ.out.cur HC.out
  (go_at_call 46; refine (spec_l01Below p vb bs _ _ _ _ hc0 (by omega)).mono ?_; rintro e w1 ⟨x, i1, h1, rfl, ⟨hx0, hx1, _⟩, hg1, ha1, hb1⟩)
  have hx2 := hx1 (by omega)
  clear hx1
  have HJ1 := Lib.hid (JW.draw (t0 := ⟨#[]⟩) (t := ⟨#[]⟩) (n0 := 0) (n := 0) HJ.out hg1 ha1 hb1 hp)
  clear HJ hg1 ha1 hb1
  go_wp2
  go_loopw [4, 5] (fun q k wr => ∃ (m : Nat) (s : Int) (t : ByteArray) (n : Int), k = .int .i64 m ∧ m ≤ 5 ∧ q = .int .i64 s ∧ 1 ≤ s ∧ s ≤ 5 + m ∧ t.size ≤ 20001 ∧ JW p vb bs w ⟨#[]⟩ 0 t n wr) (fun _ k _ => 5 - (intOf k).toNat)
  case atStart => exact ⟨0, _, ⟨#[]⟩, 0, rfl, by omega, rfl, by omega, by omega, by decide, HJ1.out⟩
  case round =>
    obtain ⟨m, q, t, n, rfl, hm, rfl, hq1, hq2, ht, hjw⟩ := hrel
    have HW := Lib.hid hjw
    clear hjw
    obtain ⟨i1, h1, hc1⟩ := HW.out.cur HC.out
    go_wp2_with fail
    (go_at_call 46; refine (spec_l01Below p vb bs _ _ _ _ hc1 (by omega)).mono ?_; rintro e w2 ⟨x, i2, h2, rfl, ⟨hx0, hx1, _⟩, hg2, ha2, hb2⟩)
    have hx2 := hx1 (by omega)
    clear hx1
    have HW2 := Lib.hid (HW.out.draw hg2 ha2 hb2 hp)
    have hc2 := hc1.got hg2 ha2 hb2
    clear HW
    by_cases hlt : (m : Int) < x
    · go_wp2
      have hl1 := HW2.out.cell0
      have hl2 := HW2.out.cell1
      have hz2 := World.lt_of_get HW2.out.at1
      have hbp : w.heap.size + 1 ≠ p := by omega
      refine wp_region_ordPF (SpF w2 p) [(0,true),(1,true),(2,true),(3,false),(4,false),(5,false),(6,true),(7,true),(8,true),(9,false)] 6 (by kernel_rfl) (by kernel_rfl) (Sp.start hc2.blk) ?_
      repeat (refine wpOrd_quiet rfl (fun K hK => ?_); go_simp; (try simp (disch := omega) only [IntWalk.i64_in]); refine hK _ ?_; clear hK K)
      refine wpOrd_grow rfl (fun K hK => ?_); go_simp; go_at_call 78; refine (spec_l21List p vb bs _ _ _ hc2.drew).mono ?_; rintro e w3 ⟨v3, rfl, xs, ho3, hl3, hs3, i3, h3, hg3, ha3, hb3⟩; try go_simp; refine hK _ _ (Sp.got (Sp.start hc2.blk) hg3 hc2.lt) ?_; clear hK K
      have HW3 := Lib.hid (JW.draw (JW.drew HW2.out) hg3 ha3 hb3 hp)
      have hrd := cells_rd ho3 hs3
      refine wpOrd_grow rfl (fun K hK => ?_); go_simp; go_at_call 16; refine (spec_RecordText _ _ xs _ hrd (by omega)).mono ?_; rintro e w4 ⟨rfl, hb4⟩; try go_simp; refine hK _ _ (Sp.below (Sp.got (Sp.start hc2.blk) hg3 hc2.lt) hb4) ?_; clear hK K
      have HW4 := Lib.hid (JW.below HW3.out hb4)
      have hrt := recText_size q xs
      refine wpOrd_grow rfl (fun K hK => ?_); go_simp; go_at_call 24; refine (spec_AddText t n (recText q xs) _ (by omega)).mono ?_; rintro e w5 ⟨rfl, hb5⟩; try go_simp; refine hK _ _ (Sp.below (Sp.below (Sp.got (Sp.start hc2.blk) hg3 hc2.lt) hb4) hb5) ?_; clear hK K
      have HW5 := Lib.hid (JW.below HW4.out hb5)
      have h5 := HW5.out.at1
      have hz5 := World.lt_of_get h5
      repeat (refine wpOrd_quiet rfl (fun K hK => ?_); go_simp; (try simp (disch := omega) only [IntWalk.i64_in]); refine hK _ ?_; clear hK K)
      refine wpOrd_at_block h5 ?_
      clear h5
      unfold jObj
      repeat (refine wpOrd_tail rfl rfl (fun K hK => ?_); go_simp; refine hK _ _ ?_; clear hK K)
      refine wpOrd_nil ?_
      have hts := adT_size (n := n) (s := recText q xs) ht
      have HW6 := Lib.hid (HW5.out.set (adT t n (recText q xs)) n)
      unfold jObj at HW6
      generalize adT t n (recText q xs) = t6 at *
      clear HW2 HW3 HW4 HW5 hrd
      obtain ⟨i6, h6, hc6⟩ := HW6.out.cur HC.out
      go_wp2_with fail
      (go_at_call 79; refine (spec_l01Once p vb bs _ _ 4 _ hc6 (by omega)).mono ?_; rintro e w7 ⟨b, rfl, i7, h7, hg7, ha7, hb7⟩)
      have HW7 := Lib.hid (HW6.out.draw hg7 ha7 hb7 hp)
      obtain ⟨i7, h7, hc7⟩ := HW7.out.cur HC.out
      clear HW6
      cases b with
      | true =>
        have hl1 := HW7.out.cell0
        have hl2 := HW7.out.cell1
        go_wp2_with fail
        (go_at_call 31; refine (spec_Flush _ _ _).mono ?_; rintro e w8 ⟨rfl, hb8⟩)
        have HW8 := Lib.hid (HW7.out.below hb8)
        have hz8 := World.lt_of_get HW8.out.at1
        rw [← HW8.out.self]
        have HW9 := Lib.hid (HW8.out.set t6 (flN t6 n))
        unfold jObj at HW9
        unfold jObj
        clear HW8 HW7 hl1 hl2
        obtain ⟨i9, h9, hc9⟩ := HW9.out.cur HC.out
        go_wp2_with fail
        (go_at_call 79; refine (spec_l01Once p vb bs _ _ 12 _ hc9 (by omega)).mono ?_; rintro e w11 ⟨b, rfl, i11, h11, hg11, ha11, hb11⟩)
        have HW11 := Lib.hid (HW9.out.draw hg11 ha11 hb11 hp)
        have hc11 := hc9.got hg11 ha11 hb11
        cases b with
        | true =>
          go_wp2_with fail
          (go_at_call 46; refine (spec_l01Below p vb bs _ _ _ _ hc11 (by omega)).mono ?_; rintro e w12 ⟨x12, i12, h12, rfl, ⟨hy0, hy1, _⟩, hg12, ha12, hb12⟩)
          have hy2 := hy1 (by omega)
          clear hy1
          have HW12 := Lib.hid (HW11.out.draw hg12 ha12 hb12 hp)
          go_wp2
          go_roundw
          case rel => exact ⟨m + 1, _, t6, flN t6 n, by go_num, by omega, rfl, by omega, by omega, hts, HW12.out⟩
          case measure => simp [intOf]; omega
        | false =>
          go_wp2
          go_roundw
          case rel => exact ⟨m + 1, _, t6, flN t6 n, by go_num, by omega, rfl, by omega, by omega, hts, HW11.out⟩
          case measure => simp [intOf]; omega
      | false =>
        go_wp2_with fail
        (go_at_call 79; refine (spec_l01Once p vb bs _ _ 12 _ hc7 (by omega)).mono ?_; rintro e w11 ⟨b, rfl, i11, h11, hg11, ha11, hb11⟩)
        have HW11 := Lib.hid (HW7.out.draw hg11 ha11 hb11 hp)
        have hc11 := hc7.got hg11 ha11 hb11
        cases b with
        | true =>
          go_wp2_with fail
          (go_at_call 46; refine (spec_l01Below p vb bs _ _ _ _ hc11 (by omega)).mono ?_; rintro e w12 ⟨x12, i12, h12, rfl, ⟨hy0, hy1, _⟩, hg12, ha12, hb12⟩)
          have hy2 := hy1 (by omega)
          clear hy1
          have HW12 := Lib.hid (HW11.out.draw hg12 ha12 hb12 hp)
          go_wp2
          go_roundw
          case rel => exact ⟨m + 1, _, t6, n, by go_num, by omega, rfl, by omega, by omega, hts, HW12.out⟩
          case measure => simp [intOf]; omega
        | false =>
          go_wp2
          go_roundw
          case rel => exact ⟨m + 1, _, t6, n, by go_num, by omega, rfl, by omega, by omega, hts, HW11.out⟩
          case measure => simp [intOf]; omega
    · go_wp2_with fail
      (go_at_call 79; refine (spec_l01Once p vb bs _ _ 4 _ hc2 (by omega)).mono ?_; rintro e w3 ⟨b, rfl, i3, h3, hg3, ha3, hb3⟩)
      have HW3 := Lib.hid (HW2.out.draw hg3 ha3 hb3 hp)
      have hc3 := hc2.got hg3 ha3 hb3
      clear HW2
      cases b with
      | true =>
        go_wp2
        have hl1 := HW3.out.cell0
        have hl2 := HW3.out.cell1
        have hz3 := World.lt_of_get HW3.out.at1
        have hbp : w.heap.size + 1 ≠ p := by omega
        have hlt3 := hc3.lt
        refine wp_region_ordPF (SpF w3 p) [(0,true),(1,true),(2,false),(3,false),(4,false),(5,true),(6,true),(7,true),(8,false)] 5 (by kernel_rfl) (by kernel_rfl) (Sp.start hc3.blk) ?_
        repeat (refine wpOrd_quiet rfl (fun K hK => ?_); go_simp; (try simp (disch := omega) only [IntWalk.i64_in]); refine hK _ ?_; clear hK K)
        refine wpOrd_grow rfl (fun K hK => ?_); go_simp; refine hK _ _ (Sp.below (Sp.start hc3.blk) (Below.ofAlloc (Below.refl _ _) _)) ?_; clear hK K
        refine wpOrd_grow rfl (fun K hK => ?_); go_simp; go_at_call 80; refine (spec_l01Pick p vb bs _ _ _ PickJ _ (hc3.drew.alloc _) (RdL.lit rStr w3.drew PickJ 3 rfl (by decide) _ rfl _) (by decide) (by decide) (by simp [Value.ownBlock]; omega)).mono ?_; rintro e w4 ⟨s4, i4, h4, rfl, hs4, hg4, ha4, hb4⟩; try go_simp; refine hK _ _ (Sp.got (Sp.below (Sp.start hc3.blk) (Below.ofAlloc (Below.refl _ _) _)) hg4 hc3.lt) ?_; clear hK K
        have HW4 := Lib.hid (JW.draw (JW.below (JW.drew HW3.out) (Below.ofAlloc (Below.refl _ _) _)) hg4 ha4 hb4 hp)
        have hss := pickJ_small s4 hs4
        refine wpOrd_grow rfl (fun K hK => ?_); go_simp; go_at_call 24; refine (spec_AddText t n s4 _ (by omega)).mono ?_; rintro e w5 ⟨rfl, hb5⟩; try go_simp; refine hK _ _ (Sp.below (Sp.got (Sp.below (Sp.start hc3.blk) (Below.ofAlloc (Below.refl _ _) _)) hg4 hc3.lt) hb5) ?_; clear hK K
        have HW5 := Lib.hid (JW.below HW4.out hb5)
        have h5 := HW5.out.at1
        have hz5 := World.lt_of_get h5
        repeat (refine wpOrd_quiet rfl (fun K hK => ?_); go_simp; (try simp (disch := omega) only [IntWalk.i64_in]); refine hK _ ?_; clear hK K)
        refine wpOrd_at_block h5 ?_
        clear h5
        unfold jObj
        repeat (refine wpOrd_tail rfl rfl (fun K hK => ?_); go_simp; refine hK _ _ ?_; clear hK K)
        refine wpOrd_nil ?_
        have hts := adT_size (n := n) (s := s4) ht
        have HW6 := Lib.hid (HW5.out.set (adT t n s4) n)
        unfold jObj at HW6
        generalize adT t n s4 = t6 at *
        clear HW3 HW4 HW5
        have HW20 := Lib.hid (HW6.out.set0 ⟨#[]⟩ 0)
        have HW21 := Lib.hid (HW6.out.set0 t6 n)
        have hl1 := HW20.out.cell0
        have hl2 := HW20.out.cell1
        have hz20 := World.lt_of_get HW6.out.at1
        have hz21 := Nat.lt_of_succ_lt hz20
        try simp only [World.setB_size] at hz20 hz21
        rw [← HW6.out.self0]
        unfold jObj at hl1 hl2 ⊢
        go_wp2
        refine bodyPost_ret (by simp [results, Tryz.results44, go_sem, hz20, hz21]; rfl) rfl ?_
        obtain ⟨i20, h20, hg20, ha20, hb20⟩ := HW21.out.got
        exact ⟨_, _, rfl, by assumption, ⟨i20, h20, hg20, ha20, hb20⟩⟩
      | false => 
        have HW20 := Lib.hid (HW3.out.set0 ⟨#[]⟩ 0)
        have HW21 := Lib.hid (HW3.out.set0 t n)
        have hl1 := HW20.out.cell0
        have hl2 := HW20.out.cell1
        have hz20 := World.lt_of_get HW3.out.at1
        have hz21 := Nat.lt_of_succ_lt hz20
        try simp only [World.setB_size] at hz20 hz21
        rw [← HW3.out.self0]
        unfold jObj at hl1 hl2 ⊢
        go_wp2
        refine bodyPost_ret (by simp [results, Tryz.results44, go_sem, hz20, hz21]; rfl) rfl ?_
        obtain ⟨i20, h20, hg20, ha20, hb20⟩ := HW21.out.got
        exact ⟨_, _, rfl, by assumption, ⟨i20, h20, hg20, ha20, hb20⟩⟩
end Go.Proofs.YtedgenmbdjadkaaGreatDoor
namespace Go.Proofs.YtedgenmbdjadkaaGreatDoor
open Go.ChangeShapes Go.WideShapes Go.ChangeAt Go.RowKit

def FromL : List Int := [1, 1, 2, 3, 0, 100000, 100001, -1]
theorem fromL_in : ∀ x ∈ FromL, -1 ≤ x ∧ x ≤ 100001 := by decide
def DrawnRI (w : World) (e : Ending) (w' : World) : Prop := ∃ (t : ByteArray) (fr : Int), e = .returned (.tuple #[.string t, .int .i64 fr]) ∧ t.size ≤ 20001 ∧ (-1 ≤ fr ∧ fr ≤ 100001) ∧ Below w.heap.size w w'
theorem DrawnRI.mk {w w' : World} {t : ByteArray} {fr : Int} (h : t.size ≤ 20001) (hf : -1 ≤ fr ∧ fr ≤ 100001) (hb : Below w.heap.size w w') : DrawnRI w (.returned (.tuple #[.string t, .int .i64 fr])) w' := ⟨t, fr, rfl, h, hf, hb⟩
theorem field_text (t : ByteArray) (n : Int) (w : World) : Sem.run Tryz.prog (Instr.field 44 (.agg #[.string t, .int .i64 n]) 0) w = .ok (.string t) w := by
  simp [Instr.field, go_sem, Tryz.underlying44, asAgg]
set_option maxRecDepth 100000 in
theorem spec_DrawRecordsIn (v : Value) (bs : List UInt8) (w : World) (hs : Sl w v bs.length (bytesOf bs)) (hl : bs.length ≤ 140737488351232) (hb : ∀ b, v.ownBlock = some b → b < w.heap.size) :
    Calls Tryz.prog 13 #[v] w (DrawnRI w) := by
  go_enter Tryz.func13, Tryz.ntmps13
  go_wp2_with fail
  (go_at_call 43; refine (spec_l01New v bs _ hs hl hb).mono ?_; rintro e w1 ⟨p, rfl, ⟨h, hc⟩, hb1, hp⟩)
  have hpl := hc.lt
  have hz1 := hb1.size
  go_wp2_with fail
  (go_at_call 44; refine (spec_l22Journal p v bs _ _ _ hc).mono ?_; rintro e w2 ⟨t, n, rfl, ht, i2, h2, hg2, ha2, hc2⟩)
  have hcur2 := hc.got hg2 ha2 hc2
  have hb2 := hg2.toBelowR hb1 (by omega)
  have hz2 := hg2.size
  have qF := field_text t n
  go_wp2_with fail
  (go_at_call 45; refine (spec_l01PickInt p v bs _ _ _ FromL _ (hcur2.alloc _) (RdL.lit rInt w2 FromL 8 rfl (by decide) _ rfl _) (by decide) (by decide) (by simp [Value.ownBlock]; omega)).mono ?_; rintro e w3 ⟨z, i3, h3, rfl, hz, hg3, hk0, hk1⟩)
  have hzz := fromL_in z hz
  have hb3 := hg3.toBelowR (hb2.ofAlloc _) (by omega)
  clear hz
  go_wp2
  refine bodyPost_ret (by simp [results, Tryz.results13, go_sem]; rfl) rfl ?_
  exact DrawnRI.mk ht hzz hb3
end Go.Proofs.YtedgenmbdjadkaaGreatDoor
namespace Go.Proofs.YtedgenmbdjadkaaGreatDoor
open Go.ChangeShapes Go.WideShapes Go.ChangeAt Go.RowKit

theorem digit_ne10 (d : Nat) (h : d < 16) : Lib.Hx.digit d ≠ 10 := by
  have hall : ∀ x : Fin 16, Lib.Hx.digit x.val ≠ 10 := by decide
  exact hall ⟨d, h⟩
theorem enc_no10 (l : List UInt8) : (10 : UInt8) ∉ Lib.Hx.encode l := by
  intro hb
  unfold Lib.Hx.encode at hb
  obtain ⟨a, _, hb⟩ := List.mem_flatMap.1 hb
  have := a.toNat_lt
  simp only [List.mem_cons, List.not_mem_nil, or_false] at hb
  rcases hb with hb | hb
  · exact digit_ne10 _ (by omega) hb.symm
  · exact digit_ne10 _ (by omega) hb.symm
theorem itoa_no10 {n : Int} (h0 : 0 ≤ n) (h1 : n ≤ 1000000000) : (10 : UInt8) ∉ Lib.itoa n := by
  intro h
  have := (itoa_val h0 h1).2.1 _ h
  unfold digL at this
  exact absurd this.1 (by decide)
theorem word_no10 (c : CellD) : (10 : UInt8) ∉ wordL c := by
  unfold wordL
  intro h
  rcases List.mem_append.1 h with h | h
  · exact enc_no10 _ h
  · rcases List.mem_cons.1 h with h | h
    · exact absurd h (by decide)
    · exact enc_no10 _ h
theorem bsum_small (l : List UInt8) : 0 ≤ bsum l ∧ bsum l ≤ 999999 := by
  have := bsum_bd l
  omega
theorem recGo_no10 {seq : Int} {cs : List CellD} {l : List UInt8} (h : recGo (Lib.itoa seq) cs = some l) (h0 : 0 ≤ seq) (h1 : seq ≤ 1000000000) : (10 : UInt8) ∉ l := by
  rw [(recGo_form cs _ l h).1]
  intro hm
  rcases List.mem_append.1 hm with hm | hm
  · exact itoa_no10 h0 h1 hm
  · obtain ⟨c, _, hc⟩ := List.mem_flatMap.1 hm
    rcases List.mem_cons.1 hc with hc | hc
    · exact absurd hc (by decide)
    · exact word_no10 c hc
/-- a record's bytes: no byte 10 but the last -/
theorem rec_bytes {seq : Int} {cs : List CellD} {t : ByteArray} (h : recText seq cs = t) (ht : t.size ≠ 0) : ∃ m : List UInt8, t.data.toList = m ++ [10] ∧ (10 : UInt8) ∉ m := by
  obtain ⟨hi, l, hg, hl, rfl⟩ := recText_inv h ht
  have h1 : 1 ≤ seq ∧ seq ≤ 100000 := by unfold inB at hi; simp at hi; omega
  refine ⟨l ++ 32 :: 35 :: Lib.itoa (bsum l), ?_, ?_⟩
  · rw [strOf_list]
    unfold recEnd
    simp
  · have hb := bsum_small l
    intro hm
    rcases List.mem_append.1 hm with hm | hm
    · exact recGo_no10 hg (by omega) (by omega) hm
    · rcases List.mem_cons.1 hm with hm | hm
      · exact absurd hm (by decide)
      · rcases List.mem_cons.1 hm with hm | hm
        · exact absurd hm (by decide)
        · exact itoa_no10 hb.1 (by omega) hm
/-- WHAT IS TORN FROM A RECORD IS NONE. -/
theorem torn_no {seq : Int} {cs : List CellD} {t : ByteArray} (h : recText seq cs = t) (ht : t.size ≠ 0) {n : Nat} (hn : n < t.size) : readI (t.extract 0 n) = none := by
  cases hr : readI (t.extract 0 n) with
  | none => rfl
  | some p =>
    obtain ⟨h1, h2⟩ := (readI_some (seq := p.1) (cs := p.2)).1 hr
    obtain ⟨m, e1, hm⟩ := rec_bytes h ht
    obtain ⟨m', e2, _⟩ := rec_bytes h1 h2
    have hsz : t.data.toList.length = t.size := by simp
    have e3 : (t.extract 0 n).data.toList = t.data.toList.take n := by
      rw [ByteArray.data_extract, Array.toList_extract]
      simp [List.extract_eq_take_drop]
    rw [e3, e1, List.take_append_of_le_length (by rw [e1] at hsz; simp at hsz; omega)] at e2
    exact absurd (List.mem_of_mem_take (by rw [e2]; simp : (10 : UInt8) ∈ m.take n)) hm
theorem whole_yes {seq : Int} {cs : List CellD} {t : ByteArray} (h : recText seq cs = t) (ht : t.size ≠ 0) : readI t = some (seq, cs) := readI_some.2 ⟨h, ht⟩
theorem itoa_len6 {n : Int} (h0 : 0 ≤ n) (h1 : n ≤ 999999) : (Lib.itoa n).length ≤ 6 := by
  unfold Lib.itoa
  rw [if_neg (by omega)]
  exact dec_len 5 _ (by omega)
theorem itoa_len5 {n : Int} (h0 : 0 ≤ n) (h1 : n ≤ 99999) : (Lib.itoa n).length ≤ 5 := by
  unfold Lib.itoa
  rw [if_neg (by omega)]
  exact dec_len 4 _ (by omega)
theorem itoa_pos {n : Int} (h0 : 0 ≤ n) : 1 ≤ (Lib.itoa n).length := by
  unfold Lib.itoa
  rw [if_neg (by omega)]
  obtain ⟨c, r, e, _⟩ := decD_head n.toNat
  rw [e]
  simp
theorem rec_len {seq : Int} {cs : List CellD} {t : ByteArray} (h : recText seq cs = t) (ht : t.size ≠ 0) : ∃ k : Nat, (1 ≤ k ∧ k ≤ 6) ∧ t.size = (Lib.itoa seq).length + (cs.flatMap (fun c => 32 :: wordL c)).length + 3 + k := by
  obtain ⟨hi, l, hg, hl, rfl⟩ := recText_inv h ht
  have hb := bsum_small l
  have e := (recGo_form cs _ l hg).1
  refine ⟨(Lib.itoa (bsum l)).length, ⟨itoa_pos hb.1, itoa_len6 hb.1 hb.2⟩, ?_⟩
  rw [strOf_size]
  unfold recEnd
  have e2 : l.length = (Lib.itoa seq).length + (cs.flatMap (fun c => 32 :: wordL c)).length := by conv => lhs; rw [e]; rw [List.length_append]
  simp only [List.length_append, List.length_cons, List.length_nil]
  omega
theorem dec_lo : ∀ (k u : Nat), 10 ^ k ≤ u → k + 1 ≤ (Lib.decDigits u).length
  | 0, u, h => by
    obtain ⟨c, r, e, _⟩ := decD_head u
    rw [e]
    simp
  | k + 1, u, h => by
    rw [Nat.pow_succ] at h
    have hp : 0 < 10 ^ k := Nat.pow_pos (by decide)
    rw [Lib.decDigits, dif_neg (by omega), List.length_append, List.length_singleton]
    have := dec_lo k (u / 10) (by omega)
    omega
/-- A RECORD IS AT MOST FOUR BYTES LONGER THAN ITS SIZE. -/
theorem rec_size {seq : Int} {cs : List CellD} (h1 : seq ≤ 99999) (h : (recText 100000 cs).size ≠ 0) : (recText seq cs).size ≤ (recText 100000 cs).size + 4 := by
  by_cases hz : (recText seq cs).size = 0
  · omega
  · obtain ⟨k, hk, e⟩ := rec_len rfl hz
    obtain ⟨k', hk', e'⟩ := rec_len rfl h
    obtain ⟨hi, _⟩ := recText_inv (t := recText seq cs) rfl hz
    have h2 : 1 ≤ seq := by unfold inB at hi; simp at hi; omega
    have := itoa_len5 (by omega) h1
    have h6 : 6 ≤ (Lib.itoa 100000).length := by
      unfold Lib.itoa
      rw [if_neg (by omega)]
      exact dec_lo 5 _ (by decide)
    omega
theorem rec7 : (recText 7 []).size ≠ 0 := by
  have hi : inB 7 1 100000 = true := by decide
  have hb := bsum_small (Lib.itoa 7)
  have h2 := itoa_len6 hb.1 hb.2
  have h1 := itoa_len6 (n := 7) (by decide) (by decide)
  rw [recText_some hi (l := Lib.itoa 7) rfl, if_pos (by unfold recEnd; simp only [List.length_append, List.length_cons, List.length_nil]; omega), strOf_size]
  unfold recEnd
  simp
end Go.Proofs.YtedgenmbdjadkaaGreatDoor
namespace Go.Proofs.YtedgenmbdjadkaaGreatDoor
open Go.ChangeShapes Go.WideShapes Go.ChangeAt Go.RowKit

theorem linesL_take : ∀ (m : Nat) (l : List UInt8), l.length ≤ m → ∀ n, linesL (l.take n) <+: linesL l
  | 0, l, h, n => by
    have : l = [] := List.eq_nil_of_length_eq_zero (by omega)
    subst this
    simp
  | m + 1, l, h, n => by
    by_cases hm : (10 : UInt8) ∈ l
    · obtain ⟨a, r, rfl, ha⟩ := first10 hm
      rw [linesL_app r ha]
      by_cases hn : n ≤ a.length
      · rw [List.take_append_of_le_length hn, linesL_none (fun hx => ha (List.mem_of_mem_take hx))]
        exact List.nil_prefix
      · obtain ⟨k, rfl⟩ : ∃ k, n = a.length + (k + 1) := ⟨n - a.length - 1, by omega⟩
        rw [List.take_length_add_append, List.take_succ_cons, linesL_app _ ha]
        rw [List.length_append, List.length_cons] at h
        exact (List.cons_prefix_cons).2 ⟨rfl, linesL_take m r (by omega) k⟩
    · rw [linesL_none (fun hx => hm (List.mem_of_mem_take hx))]
      exact List.nil_prefix
theorem linesB_take (s : ByteArray) (n : Nat) : linesB (s.extract 0 n) <+: linesB s := by
  unfold linesB
  have e3 : (s.extract 0 n).data.toList = s.data.toList.take n := by
    rw [ByteArray.data_extract, Array.toList_extract]
    simp [List.extract_eq_take_drop]
  rw [e3]
  exact List.IsPrefix.map _ (linesL_take _ _ (Nat.le_refl _) n)
def sizes (ls : List ByteArray) : Nat := (ls.map ByteArray.size).sum
theorem linesB_sum (s : ByteArray) : sizes (linesB s) ≤ s.size := by
  unfold sizes linesB
  rw [List.map_map]
  have h := linesL_sum _ s.data.toList (Nat.le_refl _)
  have e : (linesL s.data.toList).map (ByteArray.size ∘ strOf) = (linesL s.data.toList).map List.length := List.map_congr_left fun x _ => strOf_size x
  rw [e]
  have e2 : s.data.toList.length = s.size := by simp
  omega
theorem step_grow {fr : Int} {out : List (List CellD)} {sz : Int} {line : ByteArray} {p : List (List CellD) × Int} (h : recStep fr out sz line = some p) : out <+: p.1 ∧ p.2 = sz + line.size ∧ p.1.length ≤ out.length + 1 := by
  unfold recStep at h
  split at h
  · cases h
  · split at h
    · injection h with h
      subst h
      exact ⟨List.prefix_refl _, rfl, by simp⟩
    · split at h
      · injection h with h
        subst h
        exact ⟨List.prefix_append _ _, rfl, by simp⟩
      · cases h
theorem recs_grow (fr : Int) : ∀ (ls : List ByteArray) (out : List (List CellD)) (sz : Int), out <+: (recs fr ls out sz).1
  | [], out, sz => List.prefix_refl _
  | l :: ls, out, sz => by
    unfold recs
    cases h : recStep fr out sz l with
    | none => exact List.prefix_refl _
    | some p => exact (step_grow h).1.trans (recs_grow fr ls p.1 p.2)
theorem recs_prefix (fr : Int) (ms : List ByteArray) : ∀ (ls : List ByteArray) (out : List (List CellD)) (sz : Int), (recs fr ls out sz).1 <+: (recs fr (ls ++ ms) out sz).1
  | [], out, sz => recs_grow fr ms out sz
  | l :: ls, out, sz => by
    rw [List.cons_append]
    unfold recs
    cases h : recStep fr out sz l with
    | none => exact List.prefix_refl _
    | some p => exact recs_prefix fr ms ls p.1 p.2
theorem recs_size (fr : Int) : ∀ (ls : List ByteArray) (out : List (List CellD)) (sz : Int), (recs fr ls out sz).2 ≤ sz + sizes ls ∧ sz ≤ (recs fr ls out sz).2 ∧ (recs fr ls out sz).1.length ≤ out.length + ls.length
  | [], out, sz => by simp [recs, sizes]
  | l :: ls, out, sz => by
    unfold recs
    cases h : recStep fr out sz l with
    | none =>
      simp only [sizes, List.map_cons, List.sum_cons, List.length_cons]
      omega
    | some p =>
      obtain ⟨_, h2, h3⟩ := step_grow h
      have := recs_size fr ls p.1 p.2
      simp only [sizes, List.map_cons, List.sum_cons, List.length_cons] at this ⊢
      omega
/-- OF A JOURNAL THAT IS CUT THE RECORDS ARE THE FIRST OF THOSE THAT THERE WERE. -/
theorem cut_records (t : ByteArray) (fr : Int) {n : Nat} (hn : n ≤ t.size) : (recsI (t.extract 0 n) fr).1 <+: (recsI t fr).1 ∧ (recsI (t.extract 0 n) fr).2 ≤ n := by
  unfold recsI
  split
  · obtain ⟨ms, h⟩ := linesB_take t n
    refine ⟨?_, ?_⟩
    · rw [← h]
      exact recs_prefix fr ms _ _ _
    · have h1 := (recs_size fr (linesB (t.extract 0 n)) [] 0).1
      have h2 := linesB_sum (t.extract 0 n)
      have h3 : (t.extract 0 n).size ≤ n := by rw [ByteArray.size_extract]; omega
      omega
  · exact ⟨List.prefix_refl _, by simp⟩
/-- a text that is one record -/
theorem recs_one {cs : List CellD} {t : ByteArray} (h : recText 1 cs = t) (ht : t.size ≠ 0) : recsI t 1 = ([cs], (t.size : Int)) := by
  obtain ⟨m, hm, hm2⟩ := rec_bytes h ht
  have hl : linesB t = [t] := by
    unfold linesB
    rw [hm, linesL_app [] hm2, show linesL [] = [] from rfl]
    show [strOf (m ++ [10])] = [t]
    rw [← hm, strOf_data]
  rw [recsI_in (by decide), hl]
  unfold recs
  rw [step_add (whole_yes h ht) (by decide)]
  simp [recs]
theorem rec1_nil : (recText 1 []).size ≠ 0 := by
  have hi : inB 1 1 100000 = true := by decide
  have hb := bsum_small (Lib.itoa 1)
  have h2 := itoa_len6 hb.1 hb.2
  have h1 := itoa_len6 (n := 1) (by decide) (by decide)
  rw [recText_some hi (l := Lib.itoa 1) rfl, if_pos (by unfold recEnd; simp only [List.length_append, List.length_cons, List.length_nil]; omega), strOf_size]
  unfold recEnd
  simp
end Go.Proofs.YtedgenmbdjadkaaGreatDoor
namespace Go.Proofs.YtedgenmbdjadkaaGreatDoor
open Go.ChangeShapes Go.WideShapes Go.ChangeAt Go.RowKit

def lastI (s : ByteArray) (fr : Int) : Int := wrap64 (wrap64 (fr + (recsI s fr).1.length) - 1)
set_option maxRecDepth 100000 in
theorem spec_LastSeq (s : ByteArray) (fr : Int) (w : World) (hs : s.size ≤ 1048576) :
    Calls Tryz.prog 32 #[.string s, .int .i64 fr] w fun e w' => e = .returned (.int .i64 (lastI s fr)) ∧ Below w.heap.size w w' := by
  go_enter Tryz.func32, Tryz.ntmps32
  go_wp2_with fail
  (go_at_call 7; refine (spec_RecordsIn s fr _ hs).mono ?_; rintro e w1 ⟨v, sz, ls, hs, fps, rfl, ho, hr, hb⟩)
  obtain ⟨oa, oc, rfl⟩ := ho.form
  have hl : lastI s fr = wrap64 (wrap64 (fr + ls.length) - 1) := by unfold lastI; rw [hr]
  have HL := Lib.hid hl
  clear hl
  go_wp2
  refine bodyPost_ret (by simp [results, Tryz.results32, go_sem]; rfl) rfl ?_
  exact ⟨by rw [HL.out], hb⟩
set_option maxRecDepth 100000 in
theorem impl_LastSeq (s : ByteArray) (fr : Int) (w : World) (hg : Glob w) (hs : s.size ≤ 1048576) :
    Calls Tryz.prog 17 #[.string s, .int .i64 fr] w fun e w' => e = .returned (.int .i64 (lastI s fr)) ∧ Below w.heap.size w w' := by
  go_enter Tryz.func17, Tryz.ntmps17
  go_wp2_with fail
  (go_at_call 8; refine (impl_RecordsIn s fr _ hg hs).mono ?_; rintro e w1 ⟨v, sz, ls, hs, fps, rfl, ho, hr, hb⟩)
  obtain ⟨oa, oc, rfl⟩ := ho.form
  have hl : lastI s fr = wrap64 (wrap64 (fr + ls.length) - 1) := by unfold lastI; rw [hr]
  have HL := Lib.hid hl
  clear hl
  go_wp2
  refine bodyPost_ret (by simp [results, Tryz.results17, go_sem]; rfl) rfl ?_
  exact ⟨by rw [HL.out], hb⟩
end Go.Proofs.YtedgenmbdjadkaaGreatDoor
