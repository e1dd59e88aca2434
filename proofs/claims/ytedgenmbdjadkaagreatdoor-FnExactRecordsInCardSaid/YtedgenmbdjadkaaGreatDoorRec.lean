/- The text of a record: the program's and the reference's. Each condition stands in its theorem. -/
import Derived.Test.YtedgenmbdjadkaaGreatDoorTextS
import Derived.Test.YtedgenmbdjadkaaGreatDoorTCell
import Derived.Test.YtedgenmbdjadkaaGreatDoorKeyOk
import Derived.Test.YtedgenmbdjadkaaGreatDoorByteSum
set_option linter.unusedVariables false
set_option linter.unusedSimpArgs false
namespace Go.Proofs.YtedgenmbdjadkaaGreatDoor
open Go.ChangeShapes Go.WideShapes Go.ChangeAt Go.RowKit
theorem strOf_app (a b : List UInt8) : strOf a ++ strOf b = strOf (a ++ b) := by
  apply ByteArray.ext
  simp [strOf, ByteArray.data_append]
theorem strOf_lit (s : ByteArray) : s = strOf s.data.toList := by
  apply ByteArray.ext
  simp [strOf]
theorem itoa_len (n : Int) (h0 : -9223372036854775808 ≤ n) (h1 : n ≤ 9223372036854775807) : (Lib.itoa n).length ≤ 4611686018427387920 := by
  unfold Lib.itoa
  split
  · have := decD_len n.natAbs
    rw [List.length_cons]
    omega
  · have := decD_len n.toNat
    omega
theorem spec_in (x a b : Int) (w : World) : Calls Tryz.prog 36 #[.int .i64 x, .int .i64 a, .int .i64 b] w fun e w' => e = .returned (.bool (inB x a b)) ∧ w = w' := (spec_l01In x a b w).mono fun e w' h => ⟨h.1, h.2.symm⟩
theorem impl_in (x a b : Int) (w : World) : Calls Tryz.prog 38 #[.int .i64 x, .int .i64 a, .int .i64 b] w fun e w' => e = .returned (.bool (inB x a b)) ∧ w = w' := (impl_within x a b w).mono fun e w' h => ⟨h.1, h.2.symm⟩
theorem spec_bsum (l : List UInt8) (w : World) (hl : l.length ≤ 90000) : Calls Tryz.prog 50 #[.string (strOf l)] w fun e w' => e = .returned (.int .i64 (bsum l)) ∧ w = w' := by
  refine (spec_ByteSum (strOf l) w (by rw [strOf_size]; unfold maxLen; omega)).mono fun e w' h => ⟨?_, h.2.symm⟩
  rw [h.1, strOf_list]
theorem impl_bsum (l : List UInt8) (w : World) (hl : l.length ≤ 90000) : Calls Tryz.prog 57 #[.string (strOf l)] w fun e w' => e = .returned (.int .i64 (bsum l)) ∧ w = w' := by
  refine (impl_ByteSum (strOf l) w (by rw [strOf_size]; unfold maxLen; omega)).mono fun e w' h => ⟨?_, h.2.symm⟩
  rw [h.1, strOf_list]
def recAdd (acc : List UInt8) (c : CellD) : List UInt8 := acc ++ 32 :: ((hexT c.key).data.toList ++ 61 :: (hexT c.val).data.toList)
def recOne (acc : List UInt8) (c : CellD) : Bool := keyOk c.key && (decide ((c.val.size : Int) ≤ 60) && decide ((acc.length : Int) ≤ 4000))
def recGo : List UInt8 → List CellD → Option (List UInt8)
  | acc, [] => some acc
  | acc, c :: cs => if recOne acc c then recGo (recAdd acc c) cs else none
def recEnd (l : List UInt8) : List UInt8 := l ++ 32 :: 35 :: (Lib.itoa (bsum l) ++ [10])
def recText (seq : Int) (cs : List CellD) : ByteArray :=
  if inB seq 1 100000 then
    match recGo (Lib.itoa seq) cs with
    | none => ⟨#[]⟩
    | some l => if ((recEnd l).length : Int) ≤ 4000 then strOf (recEnd l) else ⟨#[]⟩
  else ⟨#[]⟩
theorem recText_size (seq : Int) (cs : List CellD) : (recText seq cs).size ≤ 4000 := by
  unfold recText
  split
  · split
    · decide
    · split
      · rw [strOf_size]; omega
      · decide
  · decide
theorem recAdd_len (acc : List UInt8) (c : CellD) (h : acc.length ≤ 4000) : (recAdd acc c).length ≤ 90000 := by
  unfold recAdd
  have h1 := hexT_size c.key
  have h2 := hexT_size c.val
  have e1 : (hexT c.key).data.toList.length = (hexT c.key).size := by simp
  have e2 : (hexT c.val).data.toList.length = (hexT c.val).size := by simp
  simp only [List.length_append, List.length_cons, e1, e2]
  omega
theorem recGo_drop {ds : List CellD} {n : Nat} (hn : n < ds.length) (acc : List UInt8) : recGo acc (ds.drop n) = if recOne acc ds[n] then recGo (recAdd acc ds[n]) (ds.drop (n + 1)) else none := by
  rw [List.drop_eq_getElem_cons hn]
  rfl
theorem recText_none {seq : Int} {ds : List CellD} (h : recGo (Lib.itoa seq) ds = none) : recText seq ds = ⟨#[]⟩ := by
  unfold recText
  rw [h]
  split <;> rfl
theorem recOne_false1 {l : List UInt8} {k v : ByteArray} (h : keyOk k = false) : recOne l ⟨k, v⟩ = false := by unfold recOne; rw [h, Bool.false_and]
theorem recOne_false2 {l : List UInt8} {k v : ByteArray} (h : 60 < (v.size : Int)) : recOne l ⟨k, v⟩ = false := by unfold recOne; rw [decide_eq_false (by show ¬ (v.size : Int) ≤ 60; omega), Bool.false_and, Bool.and_false]
theorem recOne_false3 {l : List UInt8} {k v : ByteArray} (h : 4000 < (l.length : Int)) : recOne l ⟨k, v⟩ = false := by unfold recOne; rw [decide_eq_false (p := (l.length : Int) ≤ 4000) (by omega), Bool.and_false, Bool.and_false]
theorem recOne_true {l : List UInt8} {k v : ByteArray} (h1 : keyOk k = true) (h2 : (v.size : Int) ≤ 60) (h3 : (l.length : Int) ≤ 4000) : recOne l ⟨k, v⟩ = true := by
  unfold recOne
  rw [h1, decide_eq_true (by exact h2), decide_eq_true h3]
  rfl
theorem recEnd_str (l : List UInt8) : strOf l ++ ⟨#[32, 35]⟩ ++ strOf (Lib.itoa (bsum l)) ++ ⟨#[10]⟩ = strOf (recEnd l) := by
  apply ByteArray.ext
  simp [strOf, recEnd, ByteArray.data_append]
theorem recText_some {seq : Int} {ds : List CellD} {l : List UInt8} (hi : inB seq 1 100000 = true) (h : recGo (Lib.itoa seq) ds = some l) : recText seq ds = if ((recEnd l).length : Int) ≤ 4000 then strOf (recEnd l) else ⟨#[]⟩ := by
  unfold recText
  rw [hi, h]
  rfl
theorem small_itoa (n : Int) (h0 : 1 ≤ n) (h1 : n ≤ 100000) : (Lib.itoa n).length ≤ 50010 := by
  unfold Lib.itoa
  rw [if_neg (by omega)]
  have := decD_len n.toNat
  omega
set_option maxRecDepth 100000 in
set_option maxHeartbeats 4000000 in
theorem spec_RecordText (seq : Int) (v : Value) (ds : List CellD) (w : World) {e : TypeId} (hs : (vSlice vCell e).rd w [v] ds) (hlen : ds.length ≤ 1048576) :
    Calls Tryz.prog 16 #[.int .i64 seq, v] w fun e w' => e = .returned (.string (recText seq ds)) ∧ Below w.heap.size w w' := by
  obtain ⟨ao, cap, rfl, hc1, hc2, hnil, hcell⟩ := vSlice.shape hs
  have HX := Lib.hid hcell
  clear hcell hnil
  unfold maxLen at hc2
  clear hs
  go_enter Tryz.func16, Tryz.ntmps16
  go_wp2_with fail
  (go_at_call 36; refine (spec_in _ _ _ _).mono ?_; rintro e w' ⟨rfl, rfl⟩)
  cases hin : inB seq 1 100000 with
  | false =>
    go_wp2
    go_ret
    refine ⟨?_, (by repeat (first | with_reducible exact Below.refl _ _ | with_reducible apply Below.ofExt | with_reducible apply Below.ofAlloc | with_reducible apply Below.drew | with_reducible apply Below.ofDrewN | with_reducible assumption | (with_reducible refine Below.setCell ?_ (by first | exact Nat.le_refl _ | (simp [go_sem]; done) | (simp [go_sem]; omega)) _)))⟩
    unfold recText
    rw [hin]
    rfl
  | true =>
    have hq1 : 1 ≤ seq := by unfold inB at hin; simp at hin; omega
    have hq2 : seq ≤ 100000 := by unfold inB at hin; simp at hin; omega
    have HIN := Lib.hid hin
    clear hin
    go_wp2_with fail
    (go_at_call 47; refine (spec_Decimal seq _ (by omega) (by omega)).mono ?_; rintro e w' ⟨rfl, hb⟩; obtain ⟨X, rfl⟩ := hb.ext; clear hb)
    obtain ⟨v1, w1, hcv, ho, hbl⟩ := conv_bytes (w.ext X) (strOf (Lib.itoa seq)) (by rw [strOf_size]; have := small_itoa seq hq1 hq2; omega)
    obtain ⟨X1, rfl⟩ := hbl.ext
    rw [strOf_list, World.ext_ext] at ho
    have ho := ho.base (B' := w.heap.size) (by simp [World.ext_size])
    obtain ⟨oa, oc, rfl⟩ := ho.form
    have HO := Lib.hid ho
    clear ho hbl
    go_wp2
    go_loopw [5, 6, 7, 8, 9, 10] (fun o k _ _ _ _ wr => ∃ (n : Nat) (l : List UInt8), k = .int .i64 n ∧ n ≤ ds.length ∧ Below w.heap.size w wr ∧ OwnB 5 wr w.heap.size o l ∧ l.length ≤ 90000 ∧ recGo (Lib.itoa seq) ds = recGo l (ds.drop n)) (fun _ k _ _ _ _ _ => ds.length - (intOf k).toNat)
    case atStart => exact ⟨0, _, rfl, by omega, (by repeat (first | with_reducible exact Below.refl _ _ | with_reducible apply Below.ofExt | with_reducible apply Below.ofAlloc | with_reducible apply Below.drew | with_reducible apply Below.ofDrewN | with_reducible assumption | (with_reducible refine Below.setCell ?_ (by first | exact Nat.le_refl _ | (simp [go_sem]; done) | (simp [go_sem]; omega)) _))), HO.out, by have := small_itoa seq hq1 hq2; omega, rfl⟩
    case round =>
      obtain ⟨n, l, rfl, hn, hbel, ho, hll, hgo⟩ := hrel
      obtain ⟨X2, rfl⟩ := hbel.ext
      obtain ⟨oa2, oc2, rfl⟩ := ho.form
      have HO := Lib.hid ho
      have HGO := Lib.hid hgo
      clear ho hgo
      by_cases hlt : (n : Int) < ds.length
      case pos =>
        have hk : n < ds.length := by omega
        have hst := recGo_drop hk l
        obtain ⟨b, off, csy, rfl, hbly, hrdy, hcelly⟩ := HX.out n hk
        generalize ds[n] = d at hrdy hst
        obtain ⟨rfl, hoky⟩ := hrdy
        obtain ⟨dk, dv⟩ := d
        have y0 := hcelly 0 _ rfl
        have y1 := hcelly 1 _ rfl
        clear hcelly
        simp only [show vCell.k = 2 from rfl, Nat.add_zero] at y0 y1
        have hz1 : dk.size ≤ 9223372036854775807 := hoky.1
        have hz2 : dv.size ≤ 9223372036854775807 := hoky.2
        clear hoky
        cases hkk : keyOk dk with
        | false =>
          rw [recOne_false1 hkk, if_neg (by decide)] at hst
          have HS := Lib.hid (hst)
          have HK := Lib.hid hkk
          clear hst hkk
          go_wp2_with fail
          (go_at_call 48; refine (spec_KeyOk dk _ hz1).mono ?_; rintro e w' ⟨rfl, rfl⟩)
          rw [HK.out]
          go_wp2
          go_ret
          exact ⟨by rw [recText_none (HGO.out.trans HS.out)]; rfl, (by repeat (first | with_reducible exact Below.refl _ _ | with_reducible apply Below.ofExt | with_reducible apply Below.ofAlloc | with_reducible apply Below.drew | with_reducible apply Below.ofDrewN | with_reducible assumption | (with_reducible refine Below.setCell ?_ (by first | exact Nat.le_refl _ | (simp [go_sem]; done) | (simp [go_sem]; omega)) _)))⟩
        | true =>
          have HK := Lib.hid hkk
          by_cases hv : 60 < (dv.size : Int)
          · rw [recOne_false2 hv, if_neg (by decide)] at hst
            have HS := Lib.hid (hst)
            clear hst hkk
            go_wp2_with fail
            (go_at_call 48; refine (spec_KeyOk dk _ hz1).mono ?_; rintro e w' ⟨rfl, rfl⟩)
            rw [HK.out]
            go_wp2
            go_ret
            exact ⟨by rw [recText_none (HGO.out.trans HS.out)]; rfl, (by repeat (first | with_reducible exact Below.refl _ _ | with_reducible apply Below.ofExt | with_reducible apply Below.ofAlloc | with_reducible apply Below.drew | with_reducible apply Below.ofDrewN | with_reducible assumption | (with_reducible refine Below.setCell ?_ (by first | exact Nat.le_refl _ | (simp [go_sem]; done) | (simp [go_sem]; omega)) _)))⟩
          by_cases hl4 : 4000 < (l.length : Int)
          · rw [recOne_false3 hl4, if_neg (by decide)] at hst
            have HS := Lib.hid (hst)
            clear hst hkk
            go_wp2_with fail
            (go_at_call 48; refine (spec_KeyOk dk _ hz1).mono ?_; rintro e w' ⟨rfl, rfl⟩)
            rw [HK.out]
            go_wp2
            go_ret
            exact ⟨by rw [recText_none (HGO.out.trans HS.out)]; rfl, (by repeat (first | with_reducible exact Below.refl _ _ | with_reducible apply Below.ofExt | with_reducible apply Below.ofAlloc | with_reducible apply Below.drew | with_reducible apply Below.ofDrewN | with_reducible assumption | (with_reducible refine Below.setCell ?_ (by first | exact Nat.le_refl _ | (simp [go_sem]; done) | (simp [go_sem]; omega)) _)))⟩
          rw [recOne_true hkk (by omega) (by omega), if_pos rfl] at hst
          have HS := Lib.hid (hst)
          clear hst hkk
          have hs1 := hexT_size dk
          have hs2 := hexT_size dv
          go_wp2_with fail
          (go_at_call 48; refine (spec_KeyOk dk _ hz1).mono ?_; rintro e w' ⟨rfl, rfl⟩)
          rw [HK.out]
          go_wp2_with fail
          (go_at_call 49; refine (spec_Hex dk _ hz1).mono ?_; rintro e w' ⟨rfl, hb⟩; obtain ⟨X3, rfl⟩ := hb.ext; clear hb)
          go_wp2_with fail
          (go_at_call 49; refine (spec_Hex dv _ hz2).mono ?_; rintro e w' ⟨rfl, hb⟩; obtain ⟨X4, rfl⟩ := hb.ext; clear hb)
          go_wp2_with (at_builtin; refine Stop.here ?_)
          have o0 := (OwnB.merge (cs := X3.bs ++ X4.bs) (dr := X4.dr) HO.out).alloc (.cells #[.int .u8 32] 5)
          refine wpList_appB _ Tryz.byteT rfl (.tmp 63) (.tmp 64) rfl (B := w.heap.size) (l := l) (m := [32]) o0 rfl (Sl.lit1 _ 32 32 rfl _ _ (by simp [World.ext_size])) rfl (by simp; omega) (by simp [World.ext_size]; omega) ?_
          intro v1 w1 ho1 hg1
          have hb1 : Below w.heap.size w w1 := Below.appB (by repeat (first | with_reducible exact Below.refl _ _ | with_reducible apply Below.ofExt | with_reducible apply Below.ofAlloc | with_reducible apply Below.drew | with_reducible apply Below.ofDrewN | with_reducible assumption | (with_reducible refine Below.setCell ?_ (by first | exact Nat.le_refl _ | (simp [go_sem]; done) | (simp [go_sem]; omega)) _))) hg1 o0
          obtain ⟨Y1, rfl⟩ := hb1.ext
          have HO1 := Lib.hid ho1
          clear ho1 hg1 hb1 o0
          go_wp2_with (at_builtin; refine Stop.here ?_)
          refine wpList_appBs _ Tryz.byteT Tryz.underlying9 rfl (.tmp 65) (.tmp 66) rfl (B := w.heap.size) (l := l ++ [32]) HO1.out rfl (m := hexT dk) rfl (by simp; omega) (by simp [World.ext_size]) ?_
          intro v2 w2 ho2 hg2
          have hb2 : Below w.heap.size w w2 := Below.appB (by repeat (first | with_reducible exact Below.refl _ _ | with_reducible apply Below.ofExt | with_reducible apply Below.ofAlloc | with_reducible apply Below.drew | with_reducible apply Below.ofDrewN | with_reducible assumption | (with_reducible refine Below.setCell ?_ (by first | exact Nat.le_refl _ | (simp [go_sem]; done) | (simp [go_sem]; omega)) _))) hg2 HO1.out
          obtain ⟨Y2, rfl⟩ := hb2.ext
          have HO2 := Lib.hid ho2
          clear ho2 hg2 hb2
          have hs1' : (hexT dk).data.toList.length = (hexT dk).size := by simp
          go_wp2_with (at_builtin; refine Stop.here ?_)
          have o2 := HO2.out.alloc (.cells #[.int .u8 61] 5)
          refine wpList_appB _ Tryz.byteT rfl (.tmp 67) (.tmp 68) rfl (B := w.heap.size) (l := l ++ [32] ++ (hexT dk).data.toList) (m := [61]) o2 rfl (Sl.lit1 _ 61 61 rfl _ _ (by simp [World.ext_size])) rfl (by simp; omega) (by simp [World.ext_size]; omega) ?_
          intro v3 w3 ho3 hg3
          have hb3 : Below w.heap.size w w3 := Below.appB (by repeat (first | with_reducible exact Below.refl _ _ | with_reducible apply Below.ofExt | with_reducible apply Below.ofAlloc | with_reducible apply Below.drew | with_reducible apply Below.ofDrewN | with_reducible assumption | (with_reducible refine Below.setCell ?_ (by first | exact Nat.le_refl _ | (simp [go_sem]; done) | (simp [go_sem]; omega)) _))) hg3 o2
          obtain ⟨Y3, rfl⟩ := hb3.ext
          have HO3 := Lib.hid ho3
          clear ho3 hg3 hb3 o2
          go_wp2_with (at_builtin; refine Stop.here ?_)
          refine wpList_appBs _ Tryz.byteT Tryz.underlying9 rfl (.tmp 69) (.tmp 70) rfl (B := w.heap.size) (l := l ++ [32] ++ (hexT dk).data.toList ++ [61]) HO3.out rfl (m := hexT dv) rfl (by simp; omega) (by simp [World.ext_size]) ?_
          intro v4 w4 ho4 hg4
          have hb4 : Below w.heap.size w w4 := Below.appB (by repeat (first | with_reducible exact Below.refl _ _ | with_reducible apply Below.ofExt | with_reducible apply Below.ofAlloc | with_reducible apply Below.drew | with_reducible apply Below.ofDrewN | with_reducible assumption | (with_reducible refine Below.setCell ?_ (by first | exact Nat.le_refl _ | (simp [go_sem]; done) | (simp [go_sem]; omega)) _))) hg4 HO3.out
          obtain ⟨Y4, rfl⟩ := hb4.ext
          rw [show l ++ [32] ++ (hexT dk).data.toList ++ [61] ++ (hexT dv).data.toList = recAdd l ⟨dk, dv⟩ by simp [recAdd]] at ho4
          have HO4 := Lib.hid ho4
          clear ho4 hg4 hb4 hs1'
          go_wp2
          go_roundw
          case rel => exact ⟨n + 1, _, by go_num, by omega, (by repeat (first | with_reducible exact Below.refl _ _ | with_reducible apply Below.ofExt | with_reducible apply Below.ofAlloc | with_reducible apply Below.drew | with_reducible apply Below.ofDrewN | with_reducible assumption | (with_reducible refine Below.setCell ?_ (by first | exact Nat.le_refl _ | (simp [go_sem]; done) | (simp [go_sem]; omega)) _))), HO4.out, recAdd_len _ _ (by omega), HGO.out.trans HS.out⟩
          case measure => simp [intOf]; omega
      case neg =>
        have e : n = ds.length := by omega
        have hgo := HGO.out
        rw [e, List.drop_length] at hgo
        have hr : ∀ x : Ext, Sem.run Tryz.prog (convert 28 9 (.slice oa2 l.length oc2)) (w.ext ⟨X2.bs ++ x.bs, x.dr⟩) = .ok (.string (strOf l)) (w.ext ⟨X2.bs ++ x.bs, x.dr⟩) := fun x => run_string_of (P := Tryz.prog) _ Tryz.byteT Tryz.underlying9 (OwnB.merge HO.out).sl
        have HR := Lib.hid hr
        clear hr
        have hsl : (strOf l).size ≤ 90000 := by rw [strOf_size]; exact hll
        have hbs := bsum_bd l
        have hsi : (strOf (Lib.itoa (bsum l))).size ≤ 4611686018427387920 := by rw [strOf_size]; exact itoa_len _ (by omega) (by omega)
        have HF := Lib.hid hgo
        clear hgo HGO
        go_wp2
        refine wp_region_ord [(0,true),(1,true),(2,true),(3,true),(4,true),(5,false),(6,false),(7,true),(8,true),(9,true)] 10 (by kernel_rfl) (by kernel_rfl) ?_
        repeat (refine wpOrd_quiet rfl (fun K hK => ?_); go_simp; (try simp (disch := omega) only [IntWalk.i64_in]); refine hK _ ?_; clear hK K)
        refine wpOrd_quiet rfl (fun K hK => ?_); go_simp; refine ⟨Value.string (strOf l), fun x => ?_, ?_⟩; (rw [HR.out x]; rfl); (try go_simp); refine hK _ ?_; clear hK K
        refine wpOrd_quiet rfl (fun K hK => ?_); go_simp; refine ⟨Value.string (strOf l ++ ⟨#[32, 35]⟩), fun x => ?_, ?_⟩; (rw [if_neg (by omega)]); (try go_simp); refine hK _ ?_; clear hK K
        repeat (refine wpOrd_quiet rfl (fun K hK => ?_); go_simp; (try simp (disch := omega) only [IntWalk.i64_in]); refine hK _ ?_; clear hK K)
        refine wpOrd_quiet rfl (fun K hK => ?_); go_simp; refine ⟨Value.string (strOf l), fun x => ?_, ?_⟩; (rw [HR.out x]; rfl); (try go_simp); refine hK _ ?_; clear hK K
        refine wpOrd_grow rfl (fun K hK => ?_); go_simp; go_at_call 50; refine (spec_bsum l _ hll).mono ?_; rintro e w' ⟨rfl, rfl⟩; try go_simp; refine hK _ _ (by show Sx _ _; (try simp only [← Array.append_assoc]); repeat (first | with_reducible exact Sx.drew _ | with_reducible exact Sx.same _ _ _ _ | with_reducible exact ⟨_, rfl⟩ | with_reducible apply Sx.more | with_reducible apply Sx.ext | with_reducible apply Sx.alloc | with_reducible apply Sx.draw | with_reducible exact Sx.refl _)) ?_; clear hK K
        refine wpOrd_grow rfl (fun K hK => ?_); go_simp; go_at_call 47; refine (spec_Decimal (bsum l) _ (by omega) (by omega)).mono ?_; rintro e w' ⟨rfl, hb⟩; obtain ⟨X, rfl⟩ := hb.ext; clear hb; try go_simp; refine hK _ _ (by show Sx _ _; (try simp only [← Array.append_assoc]); repeat (first | with_reducible exact Sx.drew _ | with_reducible exact Sx.same _ _ _ _ | with_reducible exact ⟨_, rfl⟩ | with_reducible apply Sx.more | with_reducible apply Sx.ext | with_reducible apply Sx.alloc | with_reducible apply Sx.draw | with_reducible exact Sx.refl _)) ?_; clear hK K
        refine wpOrd_quiet rfl (fun K hK => ?_); go_simp; refine ⟨Value.string (strOf l ++ ⟨#[32, 35]⟩ ++ strOf (Lib.itoa (bsum l))), fun x => ?_, ?_⟩; (rw [if_neg (by omega)]); (try go_simp); refine hK _ ?_; clear hK K
        refine wpOrd_quiet rfl (fun K hK => ?_); go_simp; refine ⟨Value.string (strOf l ++ ⟨#[32, 35]⟩ ++ strOf (Lib.itoa (bsum l)) ++ ⟨#[10]⟩), fun x => ?_, ?_⟩; (rw [if_neg (by omega)]); (try go_simp); refine hK _ ?_; clear hK K
        repeat (refine wpOrd_quiet rfl (fun K hK => ?_); go_simp; (try simp (disch := omega) only [IntWalk.i64_in]); refine hK _ ?_; clear hK K)
        refine wpOrd_nil ?_
        rw [recEnd_str]
        have hsz := strOf_size (recEnd l)
        have HRT := Lib.hid (recText_some HIN.out HF.out)
        by_cases h4 : ((recEnd l).length : Int) ≤ 4000
        · have h4' : ((strOf (recEnd l)).size : Int) ≤ 4000 := by omega
          clear hsz
          go_wp2
          go_ret
          exact ⟨by rw [HRT.out, if_pos h4]; rfl, (by repeat (first | with_reducible exact Below.refl _ _ | with_reducible apply Below.ofExt | with_reducible apply Below.ofAlloc | with_reducible apply Below.drew | with_reducible apply Below.ofDrewN | with_reducible assumption | (with_reducible refine Below.setCell ?_ (by first | exact Nat.le_refl _ | (simp [go_sem]; done) | (simp [go_sem]; omega)) _)))⟩
        · have h4' : 4000 < ((strOf (recEnd l)).size : Int) := by omega
          clear hsz
          go_wp2
          go_ret
          exact ⟨by rw [HRT.out, if_neg (by omega)]; rfl, (by repeat (first | with_reducible exact Below.refl _ _ | with_reducible apply Below.ofExt | with_reducible apply Below.ofAlloc | with_reducible apply Below.drew | with_reducible apply Below.ofDrewN | with_reducible assumption | (with_reducible refine Below.setCell ?_ (by first | exact Nat.le_refl _ | (simp [go_sem]; done) | (simp [go_sem]; omega)) _)))⟩
end Go.Proofs.YtedgenmbdjadkaaGreatDoor
