/- The text of a record: the program's and the reference's. Each condition stands in its theorem. -/
import Derived.Test.YtedgenmbdjadkaaGreatDoorRec
import Derived.Test.YtedgenmbdjadkaaGreatDoorSb
import Derived.Test.YtedgenmbdjadkaaGreatDoorTCell
import Derived.Test.YtedgenmbdjadkaaGreatDoorKeyOk
import Derived.Test.YtedgenmbdjadkaaGreatDoorByteSum
set_option linter.unusedVariables false
set_option linter.unusedSimpArgs false
namespace Go.Proofs.YtedgenmbdjadkaaGreatDoor
open Go.ChangeShapes Go.WideShapes Go.ChangeAt Go.RowKit
theorem opqC {P : Program} {c : Code} {Q : Exit → Act → World → Prop} {a : Act} {W : World} (S : World → Prop) (h : S W) (H : ∀ W0, S W0 → c.wp P Q a W0) : c.wp P Q a W := H W h
theorem recStep_fits (l : List UInt8) (a b : ByteArray) (hl : (l.length : Int) ≤ 4000) (h1 : a.size ≤ 40000) (h2 : b.size ≤ 40000) : l.length + (⟨#[32]⟩ ++ a ++ ⟨#[61]⟩ ++ b : ByteArray).size ≤ 140737488355328 := by
  have e1 : (⟨#[32]⟩ : ByteArray).size = 1 := rfl
  have e2 : (⟨#[61]⟩ : ByteArray).size = 1 := rfl
  simp only [ByteArray.size_append]
  omega
theorem recStep_list (l : List UInt8) (dk dv : ByteArray) : l ++ (⟨#[32]⟩ ++ hexT dk ++ ⟨#[61]⟩ ++ hexT dv : ByteArray).data.toList = recAdd l ⟨dk, dv⟩ := by simp [recAdd, ByteArray.data_append]
theorem vt0 (w : World) {X Y : Ext} (h : Tab10 w) : Tab10 (w.ext X) := h.below (Below.ofExt (Below.refl _ _) _)
set_option maxRecDepth 100000 in
set_option maxHeartbeats 4000000 in
theorem impl_RecordText (seq : Int) (v : Value) (ds : List CellD) (w : World) {e : TypeId} (ht : Tab10 w) (hs : (vSlice vCell e).rd w [v] ds) (hlen : ds.length ≤ 1048576) :
    Calls Tryz.prog 18 #[.int .i64 seq, v] w fun e w' => e = .returned (.string (recText seq ds)) ∧ Below w.heap.size w w' := by
  obtain ⟨ao, cap, rfl, hc1, hc2, hnil, hcell⟩ := vSlice.shape hs
  have HX := Lib.hid hcell
  have HT := Lib.hid ht
  clear hcell hnil ht
  unfold maxLen at hc2
  clear hs
  go_enter Tryz.func18, Tryz.ntmps18
  go_wp2_with fail
  (go_at_call 38; refine (impl_in _ _ _ _).mono ?_; rintro e w' ⟨rfl, rfl⟩)
  cases hin : inB seq 1 100000 with
  | false =>
    go_wp2
    go_ret
    refine ⟨?_, (by repeat (first | with_reducible exact Below.refl _ _ | with_reducible apply Below.ofExt | with_reducible apply Below.ofAlloc | with_reducible apply Below.drew | with_reducible apply Below.ofDrewN | with_reducible assumption | (with_reducible refine Below.setCell ?_ (by first | exact Nat.le_refl _ | (simp [go_sem]; done) | (simp [go_sem]; omega)) _)))⟩
    unfold recText
    rw [hin]
    rfl
  | true =>
    have hq1 : 1 ≤ seq := by unfold inB at hin; simp at hin; omega
    have hq2 : seq ≤ 100000 := by unfold inB at hin; simp at hin; omega
    have HIN := Lib.hid hin
    clear hin
    go_wp2_with fail
    (go_at_call 52; refine (impl_Decimal seq _ (by omega) (by omega) (HT.out.below (by repeat (first | with_reducible exact Below.refl _ _ | with_reducible apply Below.ofExt | with_reducible apply Below.ofAlloc | with_reducible apply Below.drew | with_reducible apply Below.ofDrewN | with_reducible assumption | (with_reducible refine Below.setCell ?_ (by first | exact Nat.le_refl _ | (simp [go_sem]; done) | (simp [go_sem]; omega)) _))))).mono ?_; rintro e w' ⟨rfl, hb⟩; obtain ⟨X, rfl⟩ := hb.ext; clear hb)
    have hsm := small_itoa seq hq1 hq2
    go_wp2_with fail
    (go_at_call 51; refine (sb_write w.heap.size w.heap.size [] (strOf (Lib.itoa seq)) _ ((IsB.fresh w).ext X) (by rw [strOf_size]; simp; omega) (by simp [World.ext_size]; omega)).mono ?_; rintro e w' ⟨rfl, ho, hb⟩)
    have hb0 : Below w.heap.size w w' := Below.trans (by repeat (first | with_reducible exact Below.refl _ _ | with_reducible apply Below.ofExt | with_reducible apply Below.ofAlloc | with_reducible apply Below.drew | with_reducible apply Below.ofDrewN | with_reducible assumption | (with_reducible refine Below.setCell ?_ (by first | exact Nat.le_refl _ | (simp [go_sem]; done) | (simp [go_sem]; omega)) _))) hb
    obtain ⟨X1, rfl⟩ := hb0.ext
    rw [strOf_list, List.nil_append] at ho
    have HO := Lib.hid ho
    clear ho hb hb0
    go_wp2
    go_loopw [4, 7, 17] (fun r _ k wr => ∃ (n : Nat) (l : List UInt8), r = .string ⟨#[]⟩ ∧ k = .int .i64 n ∧ n ≤ ds.length ∧ Below w.heap.size w wr ∧ IsB wr w.heap.size w.heap.size l ∧ l.length ≤ 90000 ∧ recGo (Lib.itoa seq) ds = recGo l (ds.drop n)) (fun _ _ k _ => ds.length - (intOf k).toNat)
    case atStart => exact ⟨0, _, rfl, rfl, by omega, (by repeat (first | with_reducible exact Below.refl _ _ | with_reducible apply Below.ofExt | with_reducible apply Below.ofAlloc | with_reducible apply Below.drew | with_reducible apply Below.ofDrewN | with_reducible assumption | (with_reducible refine Below.setCell ?_ (by first | exact Nat.le_refl _ | (simp [go_sem]; done) | (simp [go_sem]; omega)) _))), HO.out, by omega, rfl⟩
    case round =>
      obtain ⟨n, l, rfl, rfl, hn, hbel, ho, hll, hgo⟩ := hrel
      obtain ⟨X2, rfl⟩ := hbel.ext
      have HO := Lib.hid ho
      have HGO := Lib.hid hgo
      clear ho hgo
      by_cases hlt : (n : Int) < ds.length
      case pos =>
        have hk : n < ds.length := by omega
        have hst := recGo_drop hk l
        obtain ⟨b, off, csy, rfl, hbly, hrdy, hcelly⟩ := HX.out n hk
        generalize ds[n] = d at hrdy hst
        obtain ⟨rfl, hoky⟩ := hrdy
        obtain ⟨dk, dv⟩ := d
        have y0 := hcelly 0 _ rfl
        have y1 := hcelly 1 _ rfl
        clear hcelly
        simp only [show vCell.k = 2 from rfl, Nat.add_zero] at y0 y1
        have hz1 : dk.size ≤ 9223372036854775807 := hoky.1
        have hz2 : dv.size ≤ 9223372036854775807 := hoky.2
        clear hoky
        cases hkk : keyOk dk with
        | false =>
          rw [recOne_false1 hkk, if_neg (by decide)] at hst
          have HS := Lib.hid (hst)
          have HK := Lib.hid hkk
          clear hst hkk
          go_wp2_with fail
          (go_at_call 53; refine (impl_KeyOk dk _ hz1).mono ?_; rintro e w' ⟨rfl, rfl⟩)
          rw [HK.out]
          go_wp2
          go_ret
          exact ⟨by rw [recText_none (HGO.out.trans HS.out)]; rfl, (by repeat (first | with_reducible exact Below.refl _ _ | with_reducible apply Below.ofExt | with_reducible apply Below.ofAlloc | with_reducible apply Below.drew | with_reducible apply Below.ofDrewN | with_reducible assumption | (with_reducible refine Below.setCell ?_ (by first | exact Nat.le_refl _ | (simp [go_sem]; done) | (simp [go_sem]; omega)) _)))⟩
        | true =>
          have HK := Lib.hid hkk
          by_cases hv : 60 < (dv.size : Int)
          · rw [recOne_false2 hv, if_neg (by decide)] at hst
            have HS := Lib.hid (hst)
            clear hst hkk
            go_wp2_with fail
            (go_at_call 53; refine (impl_KeyOk dk _ hz1).mono ?_; rintro e w' ⟨rfl, rfl⟩)
            rw [HK.out]
            go_wp2
            go_ret
            exact ⟨by rw [recText_none (HGO.out.trans HS.out)]; rfl, (by repeat (first | with_reducible exact Below.refl _ _ | with_reducible apply Below.ofExt | with_reducible apply Below.ofAlloc | with_reducible apply Below.drew | with_reducible apply Below.ofDrewN | with_reducible assumption | (with_reducible refine Below.setCell ?_ (by first | exact Nat.le_refl _ | (simp [go_sem]; done) | (simp [go_sem]; omega)) _)))⟩
          by_cases hl4 : 4000 < (l.length : Int)
          · rw [recOne_false3 hl4, if_neg (by decide)] at hst
            have HS := Lib.hid (hst)
            clear hst hkk
            go_wp2_with fail
            (go_at_call 53; refine (impl_KeyOk dk _ hz1).mono ?_; rintro e w' ⟨rfl, rfl⟩)
            rw [HK.out]
            go_wp2_with fail
            (go_at_call 54; refine (sb_len w.heap.size w.heap.size l _ (HO.out.alloc _)).mono ?_; rintro e w' ⟨rfl, rfl⟩)
            go_wp2
            go_ret
            exact ⟨by rw [recText_none (HGO.out.trans HS.out)]; rfl, (by repeat (first | with_reducible exact Below.refl _ _ | with_reducible apply Below.ofExt | with_reducible apply Below.ofAlloc | with_reducible apply Below.drew | with_reducible apply Below.ofDrewN | with_reducible assumption | (with_reducible refine Below.setCell ?_ (by first | exact Nat.le_refl _ | (simp [go_sem]; done) | (simp [go_sem]; omega)) _)))⟩
          rw [recOne_true hkk (by omega) (by omega), if_pos rfl] at hst
          have HS := Lib.hid (hst)
          clear hst hkk
          have hs1 := hexT_size dk
          have hs2 := hexT_size dv
          go_wp2_with fail
          (go_at_call 53; refine (impl_KeyOk dk _ hz1).mono ?_; rintro e w' ⟨rfl, rfl⟩)
          rw [HK.out]
          go_wp2_with fail
          (go_at_call 54; refine (sb_len w.heap.size w.heap.size l _ (HO.out.alloc _)).mono ?_; rintro e w' ⟨rfl, rfl⟩)
          go_wp2
          refine opqC (fun W => Below w.heap.size w W ∧ IsB W w.heap.size w.heap.size l ∧ W.heap[w.heap.size + X2.bs.size]? = some (.cells #[.string dk, .string dv] 39)) ⟨(by repeat (first | with_reducible exact Below.refl _ _ | with_reducible apply Below.ofExt | with_reducible apply Below.ofAlloc | with_reducible apply Below.drew | with_reducible apply Below.ofDrewN | with_reducible assumption | (with_reducible refine Below.setCell ?_ (by first | exact Nat.le_refl _ | (simp [go_sem]; done) | (simp [go_sem]; omega)) _))), HO.out.alloc _, alloc_newA' _ _ _ (by simp [World.ext_size])⟩ ?_
          rintro W0 ⟨hbW, hoW, heW⟩
          have d0 : W0.cell? ⟨w.heap.size + X2.bs.size, 0, none⟩ = some (.string dk) := World.cell?_of_get heW
          have d1 : W0.cell? ⟨w.heap.size + X2.bs.size, 1, none⟩ = some (.string dv) := World.cell?_of_get heW
          have HO := Lib.hid hoW
          have HBW := Lib.hid hbW
          have hzW := hbW.size
          clear hbW hoW
          have hlt2 := World.lt_of_get heW
          clear heW
          refine wp_region_ordT [(0,true),(1,true),(5,true),(6,true),(2,false),(3,true),(4,true),(7,false),(8,true),(9,false)] 9 (by kernel_rfl) (by kernel_rfl) ?_
          repeat (refine wpOrd_quiet rfl (fun K hK => ?_); go_simp; (try simp (disch := omega) only [IntWalk.i64_in]); refine hK _ ?_; clear hK K)
          refine wpOrd_grow rfl (fun K hK => ?_); go_simp; go_at_call 55; refine (impl_hexOf dk _ hz1).mono ?_; rintro e w' ⟨rfl, hb⟩; obtain ⟨X3, rfl⟩ := hb.ext; clear hb; try go_simp; refine hK _ _ (by show Sx _ _; (try simp only [← Array.append_assoc]); repeat (first | with_reducible exact Sx.drew _ | with_reducible exact Sx.same _ _ _ _ | with_reducible exact ⟨_, rfl⟩ | with_reducible apply Sx.more | with_reducible apply Sx.ext | with_reducible apply Sx.alloc | with_reducible apply Sx.draw | with_reducible exact Sx.refl _)) ?_; clear hK K
          refine wpOrd_quiet rfl (fun K hK => ?_); go_simp; refine ⟨Value.string (⟨#[32]⟩ ++ hexT dk), fun x => ?_, ?_⟩; (rw [if_neg (by omega)]); (try go_simp); refine hK _ ?_; clear hK K
          refine wpOrd_quiet rfl (fun K hK => ?_); go_simp; refine ⟨Value.string (⟨#[32]⟩ ++ hexT dk ++ ⟨#[61]⟩), fun x => ?_, ?_⟩; (rw [if_neg (by omega)]); (try go_simp); refine hK _ ?_; clear hK K
          refine wpOrd_grow rfl (fun K hK => ?_); go_simp; go_at_call 55; refine (impl_hexOf dv _ hz2).mono ?_; rintro e w' ⟨rfl, hb⟩; obtain ⟨X4, rfl⟩ := hb.ext; clear hb; try go_simp; refine hK _ _ (by show Sx _ _; (try simp only [← Array.append_assoc]); repeat (first | with_reducible exact Sx.drew _ | with_reducible exact Sx.same _ _ _ _ | with_reducible exact ⟨_, rfl⟩ | with_reducible apply Sx.more | with_reducible apply Sx.ext | with_reducible apply Sx.alloc | with_reducible apply Sx.draw | with_reducible exact Sx.refl _)) ?_; clear hK K
          refine wpOrd_quiet rfl (fun K hK => ?_); go_simp; refine ⟨Value.string (⟨#[32]⟩ ++ hexT dk ++ ⟨#[61]⟩ ++ hexT dv), fun x => ?_, ?_⟩; (rw [if_neg (by omega)]); (try go_simp); refine hK _ ?_; clear hK K
          refine wpOrd_tail rfl rfl (fun K hK => ?_)
          go_simp
          go_at_call 51
          have A := HO.out.ext (⟨X3.bs ++ X4.bs, X4.dr⟩ : Ext)
          have B := recStep_fits l _ _ hl4 hs1 hs2
          have C : w.heap.size ≤ (W0.ext (⟨X3.bs ++ X4.bs, X4.dr⟩ : Ext)).heap.size := Nat.le_trans hzW (by rw [World.ext_size]; exact Nat.le_add_right _ _)
          have D := sb_write w.heap.size w.heap.size l _ _ A B C
          refine D.mono ?_
          clear A B C D
          rintro e w' ⟨rfl, ho4, hb4⟩
          try go_simp
          refine hK _ _ ?_
          clear hK K
          have hb5 : Below w.heap.size w w' := Below.trans (Below.then HBW.out (Below.ofExt (Below.refl _ _) _)) hb4
          obtain ⟨X5, rfl⟩ := hb5.ext
          rw [recStep_list] at ho4
          have HO4 := Lib.hid ho4
          clear ho4 hb4 hb5
          repeat (refine wpOrd_tail rfl rfl (fun K hK => ?_); go_simp; refine hK _ _ ?_; clear hK K)
          refine wpOrd_nil ?_
          go_wp2
          go_roundw
          case rel => exact ⟨n + 1, _, rfl, by go_num, by omega, (by repeat (first | with_reducible exact Below.refl _ _ | with_reducible apply Below.ofExt | with_reducible apply Below.ofAlloc | with_reducible apply Below.drew | with_reducible apply Below.ofDrewN | with_reducible assumption | (with_reducible refine Below.setCell ?_ (by first | exact Nat.le_refl _ | (simp [go_sem]; done) | (simp [go_sem]; omega)) _))), HO4.out, recAdd_len _ _ (by omega), HGO.out.trans HS.out⟩
          case measure => simp [intOf]; omega
      case neg =>
        have e : n = ds.length := by omega
        have hgo := HGO.out
        rw [e, List.drop_length] at hgo
        have hsl : (strOf l).size ≤ 90000 := by rw [strOf_size]; exact hll
        have hbs := bsum_bd l
        have hsi : (strOf (Lib.itoa (bsum l))).size ≤ 4611686018427387920 := by rw [strOf_size]; exact itoa_len _ (by omega) (by omega)
        have HF := Lib.hid hgo
        clear hgo HGO
        go_wp2_with fail
        (go_at_call 56; refine (sb_string w.heap.size w.heap.size l _ HO.out (by simp [World.ext_size])).mono ?_; rintro e w' ⟨rfl, ho3, hb3⟩)
        have hb3' : Below w.heap.size w w' := Below.trans (by repeat (first | with_reducible exact Below.refl _ _ | with_reducible apply Below.ofExt | with_reducible apply Below.ofAlloc | with_reducible apply Below.drew | with_reducible apply Below.ofDrewN | with_reducible assumption | (with_reducible refine Below.setCell ?_ (by first | exact Nat.le_refl _ | (simp [go_sem]; done) | (simp [go_sem]; omega)) _))) hb3
        obtain ⟨X3, rfl⟩ := hb3'.ext
        have HO3 := Lib.hid ho3
        clear ho3 hb3 hb3'
        go_wp2_with fail
        (go_at_call 56; refine (sb_string w.heap.size w.heap.size l _ HO3.out (by simp [World.ext_size])).mono ?_; rintro e w' ⟨rfl, ho3, hb3⟩)
        have hb3' : Below w.heap.size w w' := Below.trans (by repeat (first | with_reducible exact Below.refl _ _ | with_reducible apply Below.ofExt | with_reducible apply Below.ofAlloc | with_reducible apply Below.drew | with_reducible apply Below.ofDrewN | with_reducible assumption | (with_reducible refine Below.setCell ?_ (by first | exact Nat.le_refl _ | (simp [go_sem]; done) | (simp [go_sem]; omega)) _))) hb3
        obtain ⟨X4, rfl⟩ := hb3'.ext
        clear ho3 hb3 hb3'
        go_wp2_with fail
        (go_at_call 57; refine (impl_bsum l _ hll).mono ?_; rintro e w' ⟨rfl, rfl⟩)
        go_wp2_with fail
        (go_at_call 52; refine (impl_Decimal (bsum l) _ (by omega) (by omega) (HT.out.below (by repeat (first | with_reducible exact Below.refl _ _ | with_reducible apply Below.ofExt | with_reducible apply Below.ofAlloc | with_reducible apply Below.drew | with_reducible apply Below.ofDrewN | with_reducible assumption | (with_reducible refine Below.setCell ?_ (by first | exact Nat.le_refl _ | (simp [go_sem]; done) | (simp [go_sem]; omega)) _))))).mono ?_; rintro e w' ⟨rfl, hb⟩; obtain ⟨X5, rfl⟩ := hb.ext; clear hb)
        have hre := recEnd_str l
        have HRE := Lib.hid hre
        clear hre
        have hsz := strOf_size (recEnd l)
        have HRT := Lib.hid (recText_some HIN.out HF.out)
        have hse : (strOf l ++ ⟨#[32, 35]⟩ ++ strOf (Lib.itoa (bsum l)) ++ ⟨#[10]⟩ : ByteArray).size = (strOf (recEnd l)).size := by rw [HRE.out]
        by_cases h4 : ((recEnd l).length : Int) ≤ 4000
        · have h4' : ((strOf l ++ ⟨#[32, 35]⟩ ++ strOf (Lib.itoa (bsum l)) ++ ⟨#[10]⟩ : ByteArray).size : Int) ≤ 4000 := by omega
          have h5 : ((strOf l).size : Int) + 2 + ((strOf (Lib.itoa (bsum l))).size : Int) + 1 ≤ 4000 := by simp only [ByteArray.size_append] at h4'; simp at h4'; exact h4'
          clear hsz hse
          go_wp2
          go_ret
          exact ⟨by rw [HRT.out, if_pos h4, ← HRE.out]; rfl, (by repeat (first | with_reducible exact Below.refl _ _ | with_reducible apply Below.ofExt | with_reducible apply Below.ofAlloc | with_reducible apply Below.drew | with_reducible apply Below.ofDrewN | with_reducible assumption | (with_reducible refine Below.setCell ?_ (by first | exact Nat.le_refl _ | (simp [go_sem]; done) | (simp [go_sem]; omega)) _)))⟩
        · have h4' : 4000 < ((strOf l ++ ⟨#[32, 35]⟩ ++ strOf (Lib.itoa (bsum l)) ++ ⟨#[10]⟩ : ByteArray).size : Int) := by omega
          have h5 : 4000 < ((strOf l).size : Int) + 2 + ((strOf (Lib.itoa (bsum l))).size : Int) + 1 := by simp only [ByteArray.size_append] at h4'; simp at h4'; exact h4'
          clear hsz hse
          go_wp2
          go_ret
          exact ⟨by rw [HRT.out, if_neg (by omega)]; rfl, (by repeat (first | with_reducible exact Below.refl _ _ | with_reducible apply Below.ofExt | with_reducible apply Below.ofAlloc | with_reducible apply Below.drew | with_reducible apply Below.ofDrewN | with_reducible assumption | (with_reducible refine Below.setCell ?_ (by first | exact Nat.le_refl _ | (simp [go_sem]; done) | (simp [go_sem]; omega)) _)))⟩
end Go.Proofs.YtedgenmbdjadkaaGreatDoor
