/- Drawn texts and lists of cells: how long they are. Each condition stands in its theorem. -/
import Derived.Test.YtkfkbojcnbpmdaaGreatDoorDrawC
set_option linter.unusedVariables false
set_option linter.unusedSimpArgs false
namespace Go.Proofs.YtkfkbojcnbpmdaaGreatDoor
open Go.ChangeShapes Go.WideShapes Go.ChangeAt Go.RowKit
theorem spec_l01LongI (m : Int) (n : Nat) (x : Int) (c : UInt8) (w : World) (hm : m = (n : Int)) (hx : x = (c.toNat : Int)) (hn : n ≤ 100000) :
    Calls Tryz.prog 47 #[.int .i64 m, .int .u8 x] w fun e w' => ∃ s, e = .returned (.string s) ∧ s.size = n ∧ Below w.heap.size w w' := by
  subst hm hx
  refine (spec_l01Long n c w hn).mono ?_
  rintro e w' ⟨rfl, hb⟩
  exact ⟨_, rfl, longT_size n c, hb⟩
theorem Tryz.elemCellD : Elem Tryz.prog 24 34 2 32 := Elem.of (.agg #[.string ⟨#[]⟩, .string ⟨#[]⟩]) Tryz.underlying24 (by kernel_rfl) rfl (by decide)
theorem spec_l01TextI (p : Nat) (vb : Value) (bs : List UInt8) (i h m : Int) (w : World) (hc : Cur w p vb bs i h) (h0 : 0 ≤ m) (h1 : m ≤ 5000) :
    Calls Tryz.prog 41 #[.pointer (some ⟨p, 0, none⟩), .int .i64 m] w fun e w' => ∃ s, e = .returned (.string s) ∧ (s.size : Int) = m ∧ Drawn p vb bs w w' := by
  obtain ⟨n, rfl⟩ := Int.eq_ofNat_of_zero_le h0
  refine (spec_l01Text p vb bs i h n w hc (by omega)).mono ?_
  rintro e w' ⟨s, rfl, hs, hd⟩
  exact ⟨s, rfl, by omega, hd⟩
theorem keys2_small {t1 t2 x : ByteArray} (h1 : t1.size = 40) (h2 : t2.size = 41) (hx : x ∈ ([⟨#[]⟩, ⟨#[97, 32, 98]⟩, ⟨#[110, 47, 42]⟩, ⟨#[127]⟩, t1, t2] : List ByteArray)) : x.size ≤ 100 := by
  simp only [List.mem_cons, List.not_mem_nil, or_false] at hx
  rcases hx with rfl | rfl | rfl | rfl | rfl | rfl
  · decide
  · decide
  · decide
  · decide
  · omega
  · omega
theorem keys1_small : ∀ s ∈ keysLit, s.size ≤ 100 := by decide
set_option maxRecDepth 100000 in
theorem spec_l02AnyKey (p : Nat) (vb : Value) (bs : List UInt8) (i h : Int) (w : World) (hc : Cur w p vb bs i h) :
    Calls Tryz.prog 45 #[.pointer (some ⟨p, 0, none⟩)] w fun e w' => ∃ s, e = .returned (.string s) ∧ s.size ≤ 100 ∧ Drawn p vb bs w w' := by
  have hp := hc.lt
  have HC := Lib.hid hc
  clear hc
  go_enter Tryz.func45, Tryz.ntmps45
  go_wp2_with fail
  (go_at_call 44; refine (spec_l01Once p vb bs _ _ 12 _ HC.out (by omega)).mono ?_; rintro e w1 ⟨b, rfl, i1, h1, hg1, ha1, hb1⟩)
  have hc1 := HC.out.got hg1 ha1 hb1
  cases b with
  | true =>
    go_wp2_with fail
    (go_at_call 47; refine (spec_l01LongI 40 40 97 97 _ (by decide) (by decide) (by omega)).mono ?_; rintro e w2 ⟨t1, rfl, ht1, hb2⟩)
    go_wp2_with fail
    (go_at_call 47; refine (spec_l01LongI 41 41 97 97 _ (by decide) (by decide) (by omega)).mono ?_; rintro e w3 ⟨t2, rfl, ht2, hb3⟩)
    go_wp2_with fail
    have hc3 := (hc1.below hb2).below hb3
    have hlt := hc3.lt
    (go_at_call 33; refine (spec_l01Pick p vb bs _ _ _ [⟨#[]⟩, ⟨#[97, 32, 98]⟩, ⟨#[110, 47, 42]⟩, ⟨#[127]⟩, t1, t2] _ (hc3.alloc _) (RdL.lit rStr w3 [⟨#[]⟩, ⟨#[97, 32, 98]⟩, ⟨#[110, 47, 42]⟩, ⟨#[127]⟩, t1, t2] 6 rfl (by decide) _ rfl _) (by simp) (by simp) (by simp [Value.ownBlock, World.ext_size]; omega)).mono ?_; rintro e w' ⟨x, i2, h2, rfl, hx, hg2, hj0, hj1⟩)
    go_wp2
    go_ret
    exact ⟨_, rfl, keys2_small ht1 ht2 hx, ⟨i2, h2, (((hg1.ofBelow hb2).ofBelow hb3).alloc _).then hg2 hp, hj0, hj1⟩⟩
  | false =>
    go_wp2_with fail
    (go_at_call 43; refine (spec_l02Key p vb bs _ _ _ hc1).mono ?_; rintro e w' ⟨x, i2, h2, rfl, hx, hg2, hj0, hj1⟩)
    go_wp2
    go_ret
    exact ⟨_, rfl, keys1_small x hx, ⟨i2, h2, hg1.then hg2 hp, hj0, hj1⟩⟩
set_option maxRecDepth 100000 in
theorem spec_l02Val (p : Nat) (vb : Value) (bs : List UInt8) (i h : Int) (w : World) (hc : Cur w p vb bs i h) :
    Calls Tryz.prog 46 #[.pointer (some ⟨p, 0, none⟩)] w fun e w' => ∃ s, e = .returned (.string s) ∧ s.size ≤ 100 ∧ Drawn p vb bs w w' := by
  have hp := hc.lt
  have HC := Lib.hid hc
  clear hc
  go_enter Tryz.func46, Tryz.ntmps46
  go_wp2_with fail
  (go_at_call 44; refine (spec_l01Once p vb bs _ _ 16 _ HC.out (by omega)).mono ?_; rintro e w1 ⟨b, rfl, i1, h1, hg1, ha1, hb1⟩)
  have hc1 := HC.out.got hg1 ha1 hb1
  cases b with
  | true =>
    go_wp2_with fail
    (go_at_call 31; refine (spec_l01Below p vb bs _ _ _ _ hc1 (by omega)).mono ?_; rintro e w2 ⟨x, i2, h2, rfl, ⟨hx0, hx1, _⟩, hg2, hj0, hj1⟩)
    have hx2 := hx1 (by omega)
    clear hx1
    obtain ⟨k, rfl⟩ := Int.eq_ofNat_of_zero_le hx0
    go_wp2_with fail
    (go_at_call 47; refine (spec_l01LongI (60 + (k : Int)) (60 + k) 5 5 _ (by omega) (by decide) (by omega)).mono ?_; rintro e w' ⟨t1, rfl, ht1, hb⟩; obtain ⟨X, rfl⟩ := hb.ext; clear hb)
    go_wp2
    go_ret
    exact ⟨_, rfl, by omega, ⟨i2, h2, (hg1.then hg2 hp).ext _, hj0, hj1⟩⟩
  | false =>
    go_wp2_with fail
    (go_at_call 31; refine (spec_l01Below p vb bs _ _ _ _ hc1 (by omega)).mono ?_; rintro e w2 ⟨x, i2, h2, rfl, ⟨hx0, hx1, _⟩, hg2, hj0, hj1⟩)
    have hx2 := hx1 (by omega)
    clear hx1
    have hc2 := hc1.got hg2 hj0 hj1
    go_wp2_with fail
    (go_at_call 41; refine (spec_l01TextI p vb bs _ _ _ _ hc2 hx0 (by omega)).mono ?_; rintro e w3 ⟨t, rfl, ht, i3, h3, hg3, hk0, hk1⟩)
    go_wp2
    go_ret
    exact ⟨t, rfl, by omega, ⟨i3, h3, (hg1.then hg2 hp).then hg3 hp, hk0, hk1⟩⟩
def SmallC (c : CellD) : Prop := c.key.size ≤ 100 ∧ c.val.size ≤ 100
def DrawnCs (p : Nat) (vb : Value) (bs : List UInt8) (w : World) (v : Value) (w' : World) : Prop := ∃ xs, OwnL rCell 34 w' w.heap.size v xs ∧ xs.length ≤ 40 ∧ (∀ x ∈ xs, SmallC x) ∧ Drawn p vb bs w w'
theorem small_snoc {xs : List CellD} {c : CellD} (h : ∀ x ∈ xs, SmallC x) (hc : SmallC c) : ∀ x ∈ xs ++ [c], SmallC x := by
  intro x hx
  rcases List.mem_append.1 hx with hx | hx
  · exact h x hx
  · rw [List.mem_singleton.1 hx]; exact hc
set_option maxRecDepth 100000 in
theorem spec_l21List (p : Nat) (vb : Value) (bs : List UInt8) (i h : Int) (w : World) (hc : Cur w p vb bs i h) :
    Calls Tryz.prog 19 #[.pointer (some ⟨p, 0, none⟩)] w fun e w' => ∃ v, e = .returned v ∧ DrawnCs p vb bs w v w' := by
  have hp := hc.lt
  have HC := Lib.hid hc
  clear hc
  go_enter Tryz.func19, Tryz.ntmps19
  go_wp2
  go_loopw [3, 4] (fun v k wr => ∃ (n : Nat) (xs : List CellD) (i' h' : Int), k = .int .i64 n ∧ n ≤ 4 ∧ xs.length = n ∧ (∀ x ∈ xs, SmallC x) ∧ OwnL rCell 34 wr w.heap.size v xs ∧ Got p w (curObj vb i' h') wr ∧ 0 ≤ i' ∧ i' ≤ bs.length) (fun _ k _ => 4 - (intOf k).toNat)
  case atStart => exact ⟨0, [], i, h, rfl, by omega, rfl, by simp, OwnL.empty rCell _ _, (Got.self HC.out.blk).alloc _, HC.out.lo, HC.out.hi⟩
  case round =>
    obtain ⟨n, xs, i1, h1, rfl, hn, rfl, hsm, ho, hg, hi0, hi1⟩ := hrel
    have hc1 := HC.out.got hg hi0 hi1
    have hvl := ho.lt
    obtain ⟨ao, co, rfl⟩ := ho.rd.form
    have hne : (Value.slice ao xs.length co).ownBlock ≠ some p := fun e => by have := (hvl p e).1; omega
    have HO := Lib.hid ho
    have HP := Lib.hid hne
    have HSM := Lib.hid hsm
    clear ho hne hvl hsm
    go_wp2_with fail
    (go_at_call 31; refine (spec_l01Below p vb bs _ _ _ _ hc1 (by omega)).mono ?_; rintro e w2 ⟨x, i2, h2, rfl, ⟨hx0, hx1, _⟩, hg2, hj0, hj1⟩)
    have hc2 := hc1.got hg2 hj0 hj1
    have hx2 := hx1 (by omega)
    clear hx1
    by_cases hlt : (xs.length : Int) < x
    · go_wp2_with fail
      (go_at_call 43; refine (spec_l02Key p vb bs _ _ _ hc2).mono ?_; rintro e w3 ⟨key, i3, h3, rfl, hkey, hg3, hk0, hk1⟩)
      have hc3 := hc2.got hg3 hk0 hk1
      go_wp2_with fail
      (go_at_call 31; refine (spec_l01Below p vb bs _ _ _ _ hc3 (by omega)).mono ?_; rintro e w4 ⟨y, i4, h4, rfl, ⟨hy0, hy1, _⟩, hg4, hl0, hl1⟩)
      have hc4 := hc3.got hg4 hl0 hl1
      have hy2 := hy1 (by omega)
      clear hy1
      go_wp2_with fail
      (go_at_call 41; refine (spec_l01TextI p vb bs _ _ _ _ hc4 hy0 (by omega)).mono ?_; rintro e w5 ⟨t, rfl, ht, i5, h5, hg5, hm0, hm1⟩)
      have ho5 := (((HO.out.got hg2 HP.out).got hg3 HP.out).got hg4 HP.out).got hg5 HP.out
      have hgg := (((hg.then hg2 hp).then hg3 hp).then hg4 hp).then hg5 hp
      have hz := hgg.size
      have HK := Lib.hid hkey
      clear hkey
      go_wp2_with (at_builtin; refine Stop.here ?_)
      refine wpList_appL rfl _ _ _ rfl Tryz.elemCellD (ho5.alloc _) rfl (RdL.oneAt rCell _ ⟨key, t⟩ _ rfl _ _ rfl) rfl (by simp only [List.length_singleton]; omega) (by simp only [List.length_singleton]; unfold maxLen; omega) (by simp; omega) ?_
      intro v6 w6 hown6 hgr6 _
      have hg6 : Got p w _ w6 := Got.app (hgg.alloc _) hgr6 (ho5.alloc _)
      clear hgr6
      go_wp2
      go_roundw
      case rel => exact ⟨xs.length + 1, _, i5, h5, by go_num, by omega, by simp, small_snoc HSM.out ⟨keys1_small key HK.out, by show t.size ≤ 100; omega⟩, hown6, hg6, hm0, hm1⟩
      case measure => simp [intOf]; omega
    · have ho2 := HO.out.got hg2 HP.out
      have hgg := hg.then hg2 hp
      have hz := hgg.size
      go_wp2_with fail
      (go_at_call 44; refine (spec_l01Once p vb bs _ _ 12 _ hc2 (by omega)).mono ?_; rintro e w3 ⟨b, rfl, i3, h3, hg3, ha3, hb3⟩)
      have hc3 := hc2.got hg3 ha3 hb3
      have hg3' := hgg.then hg3 hp
      have ho3 := ho2.got hg3 HP.out
      have hz3 := hg3'.size
      cases b with
      | true =>
        go_wp2_with fail
        (go_at_call 45; refine (spec_l02AnyKey p vb bs _ _ _ hc3).mono ?_; rintro e w4 ⟨key, rfl, hkey, i4, h4, hg4, hk0, hk1⟩)
        have hc4 := hc3.got hg4 hk0 hk1
        go_wp2_with fail
        (go_at_call 46; refine (spec_l02Val p vb bs _ _ _ hc4).mono ?_; rintro e w5 ⟨t, rfl, ht, i5, h5, hg5, hm0, hm1⟩)
        have hc5 := hc4.got hg5 hm0 hm1
        have ho5 := (ho3.got hg4 HP.out).got hg5 HP.out
        have hgg5 := (hg3'.then hg4 hp).then hg5 hp
        have hz5 := hgg5.size
        go_wp2_with (at_builtin; refine Stop.here ?_)
        refine wpList_appL rfl _ _ _ rfl Tryz.elemCellD (ho5.alloc _) rfl (RdL.oneAt rCell _ ⟨key, t⟩ _ rfl _ _ rfl) rfl (by simp only [List.length_singleton]; omega) (by simp only [List.length_singleton]; unfold maxLen; omega) (by simp; omega) ?_
        intro v6 w6 hown6 hgr6 _
        have hg6 : Got p w _ w6 := Got.app (hgg5.alloc _) hgr6 (ho5.alloc _)
        clear hgr6
        have hsm6 := small_snoc HSM.out (c := ⟨key, t⟩) ⟨hkey, ht⟩
        have hl6 : (xs ++ [(⟨key, t⟩ : CellD)]).length ≤ 5 := by simp; omega
        generalize xs ++ [(⟨key, t⟩ : CellD)] = ys at hown6 hsm6 hl6
        have hc6 := HC.out.got hg6 hm0 hm1
        obtain ⟨ay, cy, rfl⟩ := hown6.rd.form
        have hne6 : (Value.slice ay ys.length cy).ownBlock ≠ some p := fun e => by have := (hown6.lt p e).1; omega
        have HO6 := Lib.hid hown6
        have HP6 := Lib.hid hne6
        have HS6 := Lib.hid hsm6
        have hz6 := hg6.size
        clear hown6 hne6 hsm6
        go_wp2_with fail
        (go_at_call 44; refine (spec_l01Once p vb bs _ _ 40 _ hc6 (by omega)).mono ?_; rintro e w7 ⟨b, rfl, i7, h7, hg7, ha7, hb7⟩)
        have hc7 := hc6.got hg7 ha7 hb7
        have hg7' := hg6.then hg7 hp
        have ho7 := HO6.out.got hg7 HP6.out
        have HO7 := Lib.hid ho7
        clear ho7
        have hz7 := hg7'.size
        cases b with
        | false =>
          go_wp2
          go_ret
          exact ⟨_, rfl, ys, HO7.out, by omega, HS6.out, ⟨_, _, hg7', ha7, hb7⟩⟩
        | true =>
          go_wp2
          go_loopw [3, 5] (fun v k wr => ∃ (n : Nat) (zs : List CellD) (i' h' : Int), k = .int .i64 n ∧ n ≤ 30 ∧ zs.length ≤ 5 + n ∧ (∀ x ∈ zs, SmallC x) ∧ OwnL rCell 34 wr w.heap.size v zs ∧ Got p w (curObj vb i' h') wr ∧ 0 ≤ i' ∧ i' ≤ bs.length) (fun _ k _ => 30 - (intOf k).toNat)
          case atStart => exact ⟨0, ys, _, _, rfl, by omega, by omega, HS6.out, HO7.out, hg7', ha7, hb7⟩
          case round =>
            obtain ⟨n8, zs, i8, h8, rfl, hn8, hl8, hsm8, ho8, hg8, ha8, hb8⟩ := hrel
            obtain ⟨az, cz, rfl⟩ := ho8.rd.form
            have HO8 := Lib.hid ho8
            have HS8 := Lib.hid hsm8
            have hz8 := hg8.size
            clear ho8 hsm8
            by_cases hlt8 : (n8 : Int) < 30
            · go_wp2_with fail
              (go_at_call 47; refine (spec_l01LongI 60 60 5 5 _ (by decide) (by decide) (by omega)).mono ?_; rintro e w9 ⟨t9, rfl, ht9, hb9⟩)
              have ho9 : OwnL rCell 34 w9 w.heap.size _ zs := (by obtain ⟨X9, rfl⟩ := hb9.ext; exact HO8.out.ext X9)
              have hg9 := hg8.ofBelow hb9
              have hz9 := hg9.size
              go_wp2_with (at_builtin; refine Stop.here ?_)
              refine wpList_appL rfl _ _ _ rfl Tryz.elemCellD (ho9.alloc _) rfl (RdL.oneAt rCell _ ⟨⟨#[97]⟩, t9⟩ _ rfl _ _ rfl) rfl (by simp only [List.length_singleton]; omega) (by simp only [List.length_singleton]; unfold maxLen; omega) (by simp; omega) ?_
              intro v10 w10 hown10 hgr10 _
              have hg10 : Got p w _ w10 := Got.app (hg9.alloc _) hgr10 (ho9.alloc _)
              clear hgr10
              go_wp2
              go_roundw
              case rel => exact ⟨n8 + 1, _, i8, h8, by go_num, by omega, by simp; omega, small_snoc HS8.out ⟨by show (⟨#[97]⟩ : ByteArray).size ≤ 100; decide, by show t9.size ≤ 100; omega⟩, hown10, hg10, ha8, hb8⟩
              case measure => simp [intOf]; omega
            · go_wp2
              go_ret
              exact ⟨_, rfl, zs, HO8.out, by omega, HS8.out, ⟨_, _, hg8, ha8, hb8⟩⟩
      | false =>
        have hown6 := ho3
        have hg6 := hg3'
        have hsm6 := HSM.out
        have hl6 : xs.length ≤ 5 := by omega
        have hc6 := hc3
        have hne6 : (Value.slice ao xs.length co).ownBlock ≠ some p := fun e => by have := (hown6.lt p e).1; omega
        have HO6 := Lib.hid hown6
        have HP6 := Lib.hid hne6
        have HS6 := Lib.hid hsm6
        have hz6 := hg6.size
        clear hown6 hne6 hsm6
        go_wp2_with fail
        (go_at_call 44; refine (spec_l01Once p vb bs _ _ 40 _ hc6 (by omega)).mono ?_; rintro e w7 ⟨b, rfl, i7, h7, hg7, ha7, hb7⟩)
        have hc7 := hc6.got hg7 ha7 hb7
        have hg7' := hg6.then hg7 hp
        have ho7 := HO6.out.got hg7 HP6.out
        have HO7 := Lib.hid ho7
        clear ho7
        have hz7 := hg7'.size
        cases b with
        | false =>
          go_wp2
          go_ret
          exact ⟨_, rfl, xs, HO7.out, by omega, HS6.out, ⟨_, _, hg7', ha7, hb7⟩⟩
        | true =>
          go_wp2
          go_loopw [3, 5] (fun v k wr => ∃ (n : Nat) (zs : List CellD) (i' h' : Int), k = .int .i64 n ∧ n ≤ 30 ∧ zs.length ≤ 5 + n ∧ (∀ x ∈ zs, SmallC x) ∧ OwnL rCell 34 wr w.heap.size v zs ∧ Got p w (curObj vb i' h') wr ∧ 0 ≤ i' ∧ i' ≤ bs.length) (fun _ k _ => 30 - (intOf k).toNat)
          case atStart => exact ⟨0, xs, _, _, rfl, by omega, by omega, HS6.out, HO7.out, hg7', ha7, hb7⟩
          case round =>
            obtain ⟨n8, zs, i8, h8, rfl, hn8, hl8, hsm8, ho8, hg8, ha8, hb8⟩ := hrel
            obtain ⟨az, cz, rfl⟩ := ho8.rd.form
            have HO8 := Lib.hid ho8
            have HS8 := Lib.hid hsm8
            have hz8 := hg8.size
            clear ho8 hsm8
            by_cases hlt8 : (n8 : Int) < 30
            · go_wp2_with fail
              (go_at_call 47; refine (spec_l01LongI 60 60 5 5 _ (by decide) (by decide) (by omega)).mono ?_; rintro e w9 ⟨t9, rfl, ht9, hb9⟩)
              have ho9 : OwnL rCell 34 w9 w.heap.size _ zs := (by obtain ⟨X9, rfl⟩ := hb9.ext; exact HO8.out.ext X9)
              have hg9 := hg8.ofBelow hb9
              have hz9 := hg9.size
              go_wp2_with (at_builtin; refine Stop.here ?_)
              refine wpList_appL rfl _ _ _ rfl Tryz.elemCellD (ho9.alloc _) rfl (RdL.oneAt rCell _ ⟨⟨#[97]⟩, t9⟩ _ rfl _ _ rfl) rfl (by simp only [List.length_singleton]; omega) (by simp only [List.length_singleton]; unfold maxLen; omega) (by simp; omega) ?_
              intro v10 w10 hown10 hgr10 _
              have hg10 : Got p w _ w10 := Got.app (hg9.alloc _) hgr10 (ho9.alloc _)
              clear hgr10
              go_wp2
              go_roundw
              case rel => exact ⟨n8 + 1, _, i8, h8, by go_num, by omega, by simp; omega, small_snoc HS8.out ⟨by show (⟨#[97]⟩ : ByteArray).size ≤ 100; decide, by show t9.size ≤ 100; omega⟩, hown10, hg10, ha8, hb8⟩
              case measure => simp [intOf]; omega
            · go_wp2
              go_ret
              exact ⟨_, rfl, zs, HO8.out, by omega, HS8.out, ⟨_, _, hg8, ha8, hb8⟩⟩
end Go.Proofs.YtkfkbojcnbpmdaaGreatDoor
