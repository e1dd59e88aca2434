/- Drawn stores: how long they are. Each condition stands in its theorem. -/
import Derived.Test.YtmhopglbgaijiaaDrawD
import Derived.Test.YtmhopglbgaijiaaSput
set_option linter.unusedVariables false
set_option linter.unusedSimpArgs false
namespace Go.Proofs.Ytmhopglbgaijiaa
open Go.ChangeShapes Go.WideShapes Go.ChangeAt Go.RowKit
theorem putC_small {key val : ByteArray} {xs : List CellD} (h : ∀ c ∈ xs, SmallC c) (hk : key.size ≤ 100) (hv : val.size ≤ 100) : ∀ c ∈ putC key val xs, SmallC c := by
  intro c hc
  unfold putC at hc
  split at hc
  · exact h c hc
  · split at hc
    · exact h c (List.mem_filter.1 hc).1
    · unfold insC at hc
      rw [List.mem_append, List.mem_cons] at hc
      have hw : ∀ d ∈ without key xs, SmallC d := fun d hd => h d (List.mem_filter.1 hd).1
      rcases hc with hc | rfl | hc
      · exact hw c ((List.takeWhile_sublist _).subset hc)
      · exact ⟨hk, hv⟩
      · exact hw c ((List.dropWhile_sublist _).subset hc)
theorem own_belowC {w w' : World} {B : Nat} {e : TypeId} {v : Value} {xs : List CellD} (h : OwnL rCell e w B v xs) (hb : Below w.heap.size w w') : OwnL rCell e w' B v xs := by
  obtain ⟨X, rfl⟩ := hb.ext
  exact h.ext X
/-- a drawn list of at most n cells, of the call's own -/
def DrawnN (n : Nat) (p : Nat) (vb : Value) (bs : List UInt8) (w : World) (v : Value) (w' : World) : Prop := ∃ xs, OwnL rCell 53 w' w.heap.size v xs ∧ xs.length ≤ n ∧ (∀ x ∈ xs, SmallC x) ∧ Drawn p vb bs w w'
set_option maxRecDepth 100000 in
theorem spec_l02Store (p : Nat) (vb : Value) (bs : List UInt8) (i h : Int) (w : World) (hc : Cur w p vb bs i h) :
    Calls Try.prog 68 #[.pointer (some ⟨p, 0, none⟩)] w fun e w' => ∃ v, e = .returned v ∧ DrawnN 8 p vb bs w v w' := by
  have hp := hc.lt
  have HC := Lib.hid hc
  clear hc
  go_enter Try.func68, Try.ntmps68
  go_wp2
  go_loopw [3, 4] (fun v k wr => ∃ (n : Nat) (xs : List CellD) (i' h' : Int), k = .int .i64 n ∧ n ≤ 8 ∧ xs.length ≤ n ∧ (∀ x ∈ xs, SmallC x) ∧ OwnL rCell 53 wr w.heap.size v xs ∧ Got p w (curObj vb i' h') wr ∧ 0 ≤ i' ∧ i' ≤ bs.length) (fun _ k _ => 8 - (intOf k).toNat)
  case atStart => exact ⟨0, [], i, h, rfl, by omega, by simp, by simp, OwnL.empty rCell _ _, (Got.self HC.out.blk).alloc _, HC.out.lo, HC.out.hi⟩
  case round =>
    obtain ⟨n, xs, i1, h1, rfl, hn, hl, hsm, ho, hg, hi0, hi1⟩ := hrel
    have hc1 := HC.out.got hg hi0 hi1
    have hvl := ho.lt
    obtain ⟨ao, co, rfl⟩ := ho.rd.form
    have hne : (Value.slice ao xs.length co).ownBlock ≠ some p := fun e => by have := (hvl p e).1; omega
    have HO := Lib.hid ho
    have HP := Lib.hid hne
    have HSM := Lib.hid hsm
    clear ho hne hvl hsm
    go_wp2_with fail
    (go_at_call 35; refine (spec_l01Below p vb bs _ _ _ _ hc1 (by omega)).mono ?_; rintro e w2 ⟨x, i2, h2, rfl, ⟨hx0, hx1, _⟩, hg2, hj0, hj1⟩)
    have hc2 := hc1.got hg2 hj0 hj1
    have hx2 := hx1 (by omega)
    clear hx1
    by_cases hlt : (n : Int) < x
    · go_wp2_with fail
      (go_at_call 55; refine (spec_l02Key p vb bs _ _ _ hc2).mono ?_; rintro e w3 ⟨key, i3, h3, rfl, hkey, hg3, hk0, hk1⟩)
      have hc3 := hc2.got hg3 hk0 hk1
      have hkz := keys1_small key hkey
      clear hkey
      go_wp2_with fail
      (go_at_call 63; refine (spec_l02Val p vb bs _ _ _ hc3).mono ?_; rintro e w4 ⟨t, rfl, ht, i4, h4, hg4, hl0, hl1⟩)
      have ho4 := ((HO.out.got hg2 HP.out).got hg3 HP.out).got hg4 HP.out
      have hgg := ((hg.then hg2 hp).then hg3 hp).then hg4 hp
      have hz := hgg.size
      go_wp2_with fail
      (go_at_call 49; refine (spec_PutKey _ xs key t _ ho4.rd (by omega) (by omega)).mono ?_; rintro e w5 ⟨v5, rfl, ho5, hb5⟩)
      have hpl := putC_len key t xs
      have hps := putC_small HSM.out hkz ht
      have hg5 := hgg.ofBelow hb5
      have HO5 := Lib.hid (ho5.base hz)
      clear ho5
      go_wp2
      go_roundw
      case rel => exact ⟨n + 1, _, i4, h4, by go_num, by omega, by omega, hps, HO5.out, hg5, hl0, hl1⟩
      case measure => simp [intOf]; omega
    · have ho2 := HO.out.got hg2 HP.out
      have hgg := hg.then hg2 hp
      go_wp2
      go_ret
      exact ⟨_, rfl, xs, ho2, by omega, HSM.out, ⟨i2, h2, hgg, hj0, hj1⟩⟩
set_option maxRecDepth 100000 in
theorem spec_l02Any (p : Nat) (vb : Value) (bs : List UInt8) (i h : Int) (w : World) (hc : Cur w p vb bs i h) :
    Calls Try.prog 43 #[.pointer (some ⟨p, 0, none⟩)] w fun e w' => ∃ v, e = .returned v ∧ DrawnN 9 p vb bs w v w' := by
  have hp := hc.lt
  have HC := Lib.hid hc
  clear hc
  go_enter Try.func43, Try.ntmps43
  go_wp2_with fail
  (go_at_call 68; refine (spec_l02Store p vb bs _ _ _ HC.out).mono ?_; rintro e w1 ⟨v, rfl, xs, ho, hl, hsm, i1, h1, hg, hi0, hi1⟩)
  have hc1 := HC.out.got hg hi0 hi1
  have hvl := ho.lt
  obtain ⟨ao, co, rfl⟩ := ho.rd.form
  have hne : (Value.slice ao xs.length co).ownBlock ≠ some p := fun e => by have := (hvl p e).1; omega
  have HO := Lib.hid ho
  have HP := Lib.hid hne
  have HSM := Lib.hid hsm
  clear ho hne hvl hsm
  go_wp2_with fail
  (go_at_call 69; refine (spec_l01Once p vb bs _ _ 8 _ hc1 (by omega)).mono ?_; rintro e w3 ⟨b, rfl, i3, h3, hg3, ha3, hb3⟩)
  have hc3 := hc1.got hg3 ha3 hb3
  have hg3' := hg.then hg3 hp
  have ho3 := HO.out.got hg3 HP.out
  cases b with
  | true =>
    go_wp2_with fail
    (go_at_call 70; refine (spec_l02AnyKey p vb bs _ _ _ hc3).mono ?_; rintro e w4 ⟨key, rfl, hkey, i4, h4, hg4, hk0, hk1⟩)
    have hc4 := hc3.got hg4 hk0 hk1
    go_wp2_with fail
    (go_at_call 63; refine (spec_l02Val p vb bs _ _ _ hc4).mono ?_; rintro e w5 ⟨t, rfl, ht, i5, h5, hg5, hm0, hm1⟩)
    have ho5 := (ho3.got hg4 HP.out).got hg5 HP.out
    have hgg5 := (hg3'.then hg4 hp).then hg5 hp
    have hz5 := hgg5.size
    go_wp2_with (at_builtin; refine Stop.here ?_)
    refine wpList_appL rfl _ _ _ rfl Try.elemCellD (ho5.alloc _) rfl (RdL.oneAt rCell _ ⟨key, t⟩ _ rfl _ _ rfl) rfl (by simp only [List.length_singleton]; omega) (by simp only [List.length_singleton]; unfold maxLen; omega) (by simp; omega) ?_
    intro v6 w6 hown6 hgr6 _
    have hg6 : Got p w _ w6 := Got.app (hgg5.alloc _) hgr6 (ho5.alloc _)
    clear hgr6
    have HO6 := Lib.hid hown6
    clear hown6
    go_wp2
    go_ret
    exact ⟨_, rfl, _, HO6.out, by simp; omega, small_snoc HSM.out ⟨hkey, ht⟩, ⟨i5, h5, hg6, hm0, hm1⟩⟩
  | false =>
    go_wp2
    go_ret
    exact ⟨_, rfl, xs, ho3, by omega, HSM.out, ⟨_, _, hg3', ha3, hb3⟩⟩
/-- two drawn lists -/
def DrawnTwo (w : World) (va vb : Value) (w' : World) : Prop := ∃ a b Ba Bb, OwnL rCell 53 w' Ba va a ∧ OwnL rCell 53 w' Bb vb b ∧ a.length ≤ 40 ∧ b.length ≤ 40 ∧ (∀ x ∈ a, SmallC x) ∧ (∀ x ∈ b, SmallC x) ∧ Below w.heap.size w w'
theorem _root_.Go.Got.toBelowS {a w w' : World} {p : Nat} {o : Obj} (h : Got p w o w') (hb : Below a.heap.size a w) (hp : a.heap.size ≤ p) : Below a.heap.size a w' := by
  obtain ⟨X, rfl⟩ := h
  refine hb.trans ⟨rfl, rfl, rfl, by rw [World.ext_size, World.setB_size]; omega, fun k hk => ?_⟩
  have := hb.size
  rw [World.ext_get _ _ (by rw [World.setB_size]; omega), World.setB_get _ _ _ _ (by omega)]
set_option maxRecDepth 100000 in
theorem spec_l02Two (v : Value) (bs : List UInt8) (w : World) (hs : Sl w v bs.length (bytesOf bs)) (hl : bs.length ≤ 140737488351232) (hb : ∀ b, v.ownBlock = some b → b < w.heap.size) :
    Calls Try.prog 40 #[v] w fun e w' => ∃ va vb, e = .returned (.tuple #[va, vb]) ∧ DrawnTwo w va vb w' := by
  go_enter Try.func40, Try.ntmps40
  go_wp2_with fail
  (go_at_call 29; refine (spec_l01New v bs _ hs hl hb).mono ?_; rintro e w1 ⟨p, rfl, ⟨h, hc⟩, hb1, hp⟩)
  have hpl := hc.lt
  have hz1 := hb1.size
  go_wp2_with fail
  (go_at_call 43; refine (spec_l02Any p v bs _ _ _ hc).mono ?_; rintro e w2 ⟨va, rfl, xs, ho, hlx, hsm, i1, h1, hg, hi0, hi1⟩)
  have hc2 := hc.got hg hi0 hi1
  have hvl := ho.lt
  obtain ⟨ao, co, rfl⟩ := ho.rd.form
  have hne : (Value.slice ao xs.length co).ownBlock ≠ some p := fun e => by have := (hvl p e).1; omega
  have HO := Lib.hid ho
  have HP := Lib.hid hne
  have HSM := Lib.hid hsm
  clear ho hne hvl hsm
  go_wp2_with fail
  (go_at_call 35; refine (spec_l01Below p v bs _ _ _ _ hc2 (by omega)).mono ?_; rintro e w3 ⟨x, i3, h3, rfl, ⟨hx0, hx1, _⟩, hg3, ha3, hb3⟩)
  have hc3 := hc2.got hg3 ha3 hb3
  have ho3 := HO.out.got hg3 HP.out
  have hb3' := hg3.toBelowS (hg.toBelowS hb1 hp) hp
  have hz3 := hb3'.size
  have HO3 := Lib.hid ho3
  clear ho3 hx1
  by_cases c0 : x = 0
  · have k0 : (x == 0) = true := by simp [c0]
    go_wp2_with (at_builtin; refine Stop.here ?_)
    refine wpList_appL rfl _ _ _ rfl Try.elemCellD (B := w3.heap.size) (v := .slice (some ⟨w3.heap.size, 0, none⟩) 0 0) (xs := []) (R := rCell) (OwnL.empty rCell _ w3) rfl (ys := xs) (HO3.out.rd.alloc _) rfl (by simp only [List.length_nil]; omega) (by simp only [List.length_nil]; unfold maxLen; omega) (by simp) ?_
    intro v4 w4 hown4 hgr4 _
    have hb4 : Below w3.heap.size w3 w4 := Below.appL (R := rCell) (e := 53) (v := .slice (some ⟨w3.heap.size, 0, none⟩) 0 0) (xs := []) ((Below.refl _ _).ofAlloc _) hgr4 (OwnL.empty rCell _ w3)
    clear hgr4
    simp only [List.nil_append] at hown4
    have HO4 := Lib.hid hown4
    have HO34 := Lib.hid (own_belowC HO3.out hb4)
    clear hown4
    go_wp2
    refine bodyPost_ret (by simp [results, Try.results40, go_sem]; rfl) rfl ?_
    exact ⟨_, _, rfl, xs, xs, _, _, HO34.out, HO4.out, by omega, by omega, HSM.out, HSM.out, Below.then hb3' hb4⟩
  · have k0 : (x == 0) = false := by simp [c0]
    by_cases c1 : x = 1
    · have k1 : (x == 1) = true := by simp [c1]
      go_wp2_with fail
      (go_at_call 55; refine (spec_l02Key p v bs _ _ _ hc3).mono ?_; rintro e w4 ⟨key, i4, h4, rfl, hkey, hg4, ha4, hb4⟩)
      have hc4 := hc3.got hg4 ha4 hb4
      have hkz := keys1_small key hkey
      clear hkey
      go_wp2_with fail
      (go_at_call 63; refine (spec_l02Val p v bs _ _ _ hc4).mono ?_; rintro e w5 ⟨t, rfl, ht, i5, h5, hg5, ha5, hb5⟩)
      have ho5 := (HO3.out.got hg4 HP.out).got hg5 HP.out
      have hb5' := hg5.toBelowS (hg4.toBelowS hb3' hp) hp
      have HO5 := Lib.hid ho5
      clear ho5
      go_wp2_with fail
      (go_at_call 49; refine (spec_PutKey _ xs key t _ HO5.out.rd (by omega) (by omega)).mono ?_; rintro e w6 ⟨v6, rfl, ho6, hb6⟩)
      have hpl2 := putC_len key t xs
      have hps := putC_small HSM.out hkz ht
      have HO56 := Lib.hid (own_belowC HO5.out hb6)
      have HO6 := Lib.hid ho6
      clear ho6
      go_wp2
      refine bodyPost_ret (by simp [results, Try.results40, go_sem]; rfl) rfl ?_
      exact ⟨_, _, rfl, xs, _, _, _, HO56.out, HO6.out, by omega, by omega, HSM.out, hps, Below.then hb5' hb6⟩
    · have k1 : (x == 1) = false := by simp [c1]
      go_wp2_with fail
      (go_at_call 43; refine (spec_l02Any p v bs _ _ _ hc3).mono ?_; rintro e w4 ⟨va4, rfl, ys, ho4, hly, hsy, i4, h4, hg4, ha4, hb4⟩)
      have HO34 := Lib.hid (HO3.out.got hg4 HP.out)
      have HO4 := Lib.hid ho4
      have hb4' := hg4.toBelowS hb3' hp
      clear ho4
      go_wp2
      refine bodyPost_ret (by simp [results, Try.results40, go_sem]; rfl) rfl ?_
      exact ⟨_, _, rfl, xs, ys, _, _, HO34.out, HO4.out, by omega, by omega, HSM.out, hsy, hb4'⟩
theorem spec_DrawChanges (v : Value) (bs : List UInt8) (w : World) (hs : Sl w v bs.length (bytesOf bs)) (hl : bs.length ≤ 140737488351232) (hb : ∀ b, v.ownBlock = some b → b < w.heap.size) :
    Calls Try.prog 21 #[v] w fun e w' => ∃ va vb, e = .returned (.tuple #[va, vb]) ∧ DrawnTwo w va vb w' := by
  go_enter Try.func21, Try.ntmps21
  go_wp2_with fail
  (go_at_call 40; refine (spec_l02Two v bs _ hs hl hb).mono ?_; rintro e w1 ⟨va, vb, rfl, hd⟩)
  have HD := Lib.hid hd
  clear hd
  go_wp2
  refine bodyPost_ret (by simp [results, Try.results21, go_sem]; rfl) rfl ?_
  exact ⟨_, _, rfl, HD.out⟩
set_option maxRecDepth 100000 in
theorem spec_DrawApplyRecord (v : Value) (bs : List UInt8) (w : World) (hs : Sl w v bs.length (bytesOf bs)) (hl : bs.length ≤ 140737488351232) (hb : ∀ b, v.ownBlock = some b → b < w.heap.size) :
    Calls Try.prog 23 #[v] w fun e w' => ∃ va vb, e = .returned (.tuple #[va, vb]) ∧ DrawnTwo w va vb w' := by
  go_enter Try.func23, Try.ntmps23
  go_wp2_with fail
  (go_at_call 29; refine (spec_l01New v bs _ hs hl hb).mono ?_; rintro e w1 ⟨p, rfl, ⟨h, hc⟩, hb1, hp⟩)
  have hpl := hc.lt
  go_wp2_with fail
  (go_at_call 43; refine (spec_l02Any p v bs _ _ _ hc).mono ?_; rintro e w2 ⟨va, rfl, xs, ho, hlx, hsm, i1, h1, hg, hi0, hi1⟩)
  have hc2 := hc.got hg hi0 hi1
  have hvl := ho.lt
  have hne : va.ownBlock ≠ some p := fun e => by have := (hvl p e).1; omega
  have HO := Lib.hid ho
  have HP := Lib.hid hne
  have HSM := Lib.hid hsm
  clear ho hne hvl hsm
  go_wp2_with fail
  (go_at_call 44; refine (spec_l21List p v bs _ _ _ hc2).mono ?_; rintro e w3 ⟨vb, rfl, ys, ho3, hly, hsy, i3, h3, hg3, ha3, hb3⟩)
  have HO23 := Lib.hid (HO.out.got hg3 HP.out)
  have HO3 := Lib.hid ho3
  have HSY := Lib.hid hsy
  have hb3' := hg3.toBelowS (hg.toBelowS hb1 hp) hp
  clear ho3 hsy
  go_wp2
  refine bodyPost_ret (by simp [results, Try.results23, go_sem]; rfl) rfl ?_
  exact ⟨_, _, rfl, xs, ys, _, _, HO23.out, HO3.out, by omega, by omega, HSM.out, HSY.out, hb3'⟩
set_option maxRecDepth 100000 in
theorem laws_sameCells (v v' : Value) (xs : List CellD) (w : World) (hs : RdL rCell w v xs) (hs' : RdL rCell w v' xs) :
    Calls Try.prog 24 #[v, v'] w fun e w' => e = .returned (.bool true) ∧ Below w.heap.size w w' := by
  obtain ⟨ao, cap, rfl, hc1, hc2, _, hcell⟩ := hs.shape
  obtain ⟨ao', cap', rfl, hc1', hc2', _, hcell'⟩ := hs'.shape
  have HX := Lib.hid hcell
  have HX' := Lib.hid hcell'
  clear hcell hcell' hs hs'
  unfold maxLen at hc2 hc2'
  go_enter Try.func24, Try.ntmps24
  go_wp2
  go_loopw [5] (fun k wr => ∃ (n : Nat), k = .int .i64 n ∧ n ≤ xs.length ∧ Below w.heap.size w wr) (fun k _ => xs.length - (intOf k).toNat)
  case atStart => exact ⟨0, rfl, by omega, (by repeat (first | with_reducible exact Below.refl _ _ | with_reducible apply Below.ofExt | with_reducible apply Below.ofAlloc | with_reducible apply Below.drew | with_reducible apply Below.ofDrewN | with_reducible assumption | (with_reducible refine Below.setCell ?_ (by first | exact Nat.le_refl _ | (simp [go_sem]; done) | (simp [go_sem]; omega)) _)))⟩
  case round =>
    obtain ⟨n, rfl, hn, hbel⟩ := hrel
    obtain ⟨X, rfl⟩ := hbel.ext
    clear hbel
    by_cases hlt : (n : Int) < xs.length
    · have hk : n < xs.length := by omega
      obtain ⟨b, off, rfl, hbl, hcell⟩ := HX.out (by intro e; simp [e] at hk)
      obtain ⟨b', off', rfl, hbl', hcell'⟩ := HX'.out (by intro e; simp [e] at hk)
      have hcc := hcell n hk
      have hcc' := hcell' n hk
      generalize xs[n] = x at hcc hcc'
      have y0 : w.cell? ⟨b, off + n * 2, none⟩ = some (.string x.key) := hcc 0 _ rfl
      have y1 : w.cell? ⟨b, off + n * 2 + 1, none⟩ = some (.string x.val) := hcc 1 _ rfl
      have z0 : w.cell? ⟨b', off' + n * 2, none⟩ = some (.string x.key) := hcc' 0 _ rfl
      have z1 : w.cell? ⟨b', off' + n * 2 + 1, none⟩ = some (.string x.val) := hcc' 1 _ rfl
      have hbl := hbl (by decide)
      have hbl' := hbl' (by decide)
      clear hcell hcell' hcc hcc'
      go_wp2
      go_quiet (fail)
      go_wp2
      go_roundw
      case rel => exact ⟨n + 1, by go_num, by omega, (by repeat (first | with_reducible exact Below.refl _ _ | with_reducible apply Below.ofExt | with_reducible apply Below.ofAlloc | with_reducible apply Below.drew | with_reducible apply Below.ofDrewN | with_reducible assumption | (with_reducible refine Below.setCell ?_ (by first | exact Nat.le_refl _ | (simp [go_sem]; done) | (simp [go_sem]; omega)) _)))⟩
      case measure => simp [intOf]; omega
    · go_wp2
      go_ret
      exact ⟨rfl, (by repeat (first | with_reducible exact Below.refl _ _ | with_reducible apply Below.ofExt | with_reducible apply Below.ofAlloc | with_reducible apply Below.drew | with_reducible apply Below.ofDrewN | with_reducible assumption | (with_reducible refine Below.setCell ?_ (by first | exact Nat.le_refl _ | (simp [go_sem]; done) | (simp [go_sem]; omega)) _)))⟩
end Go.Proofs.Ytmhopglbgaijiaa
