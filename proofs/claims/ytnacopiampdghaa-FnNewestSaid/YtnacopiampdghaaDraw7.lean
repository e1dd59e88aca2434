/- Who is older is transitive; the next age is the greatest: the laws' walks. Each condition stands in its theorem. -/
import Derived.Test.YtnacopiampdghaaDraw6
set_option linter.unusedVariables false
set_option linter.unusedSimpArgs false
namespace Go.Proofs.Ytnacopiampdghaa
open Go.ChangeShapes Go.WideShapes Go.ChangeAt Go.RowKit

theorem flat_bytes (bs : List UInt8) : bs.flatMap rByte.row = bytesOf bs := by
  induction bs with
  | nil => rfl
  | cons b bs ih => rw [List.flatMap_cons, ih]; rfl
theorem _root_.Go.RdL.bytes {w : World} {v : Value} {bs : List UInt8} (h : RdL rByte w v bs) : Sl w v bs.length (bytesOf bs) := by
  unfold RdL at h
  rwa [flat_bytes] at h
theorem Try.elemBytes : Elem Try.prog 38 5 1 1 := Elem.of (.int .u8 0) Try.underlying38 (by kernel_rfl) rfl (by decide)

theorem older_trans {a b c : TxR} (h1 : older a b = true) (h2 : older b c = true) : older a c = true := by
  unfold older at *
  simp only [Bool.or_eq_true, Bool.and_eq_true, decide_eq_true_eq] at *
  omega
theorem _root_.Go.World.ext_nil (w : World) (d : Nat) (h : d = w.drawn) : w.ext ⟨#[], d⟩ = w := by subst h; unfold World.ext; simp
theorem foldl_max_le {l : List Int} {m : Int} {k : Int} (h : ∀ x ∈ l, x ≤ k) (hm : m ≤ k) : l.foldl max m ≤ k := by
  induction l generalizing m with
  | nil => exact hm
  | cons a l ih => exact ih (fun x hx => h x (by simp [hx])) (by have := h a (by simp); omega)
theorem foldl_max_ge (l : List Int) (m : Int) : m ≤ l.foldl max m ∧ ∀ x ∈ l, x ≤ l.foldl max m := by
  induction l generalizing m with
  | nil => exact ⟨Int.le_refl _, by simp⟩
  | cons a l ih =>
    have := ih (max m a)
    simp only [List.foldl_cons, List.mem_cons]
    refine ⟨by omega, fun x hx => ?_⟩
    rcases hx with rfl | hx
    · omega
    · exact this.2 x hx
theorem nextAge_le {xs : List TxR} (h : ∀ x ∈ xs, 0 ≤ x.age ∧ x.age ≤ 5) : 0 ≤ nextAge xs ∧ nextAge xs ≤ 5 :=
  ⟨(foldl_max_ge _ 0).1, foldl_max_le (fun x hx => by obtain ⟨y, hy, rfl⟩ := List.mem_map.1 hx; exact (h y hy).2) (by decide)⟩
theorem nextAge_gt {xs : List TxR} {x : TxR} (h : x ∈ xs) : x.age ≤ nextAge xs := (foldl_max_ge _ 0).2 _ (List.mem_map.2 ⟨x, h, rfl⟩)
def tx1 : TxR := ⟨1, 1, 0, 0, ⟨none, 0, 0⟩, ⟨none, 0, 0⟩, ⟨none, 0, 0⟩, ⟨none, 0, 0⟩, ⟨none, 0, 0⟩, 0⟩
def tx2 : TxR := ⟨2, 1, 0, 0, ⟨none, 0, 0⟩, ⟨none, 0, 0⟩, ⟨none, 0, 0⟩, ⟨none, 0, 0⟩, ⟨none, 0, 0⟩, 0⟩
set_option maxHeartbeats 4000000 in
theorem law_OlderChain (v : Value) (bs : List UInt8) (w : World) (hs : Sl w v bs.length (bytesOf bs)) (hb : ∀ b, v.ownBlock = some b → b < w.heap.size) : Calls Try.prog 8 #[v] w (Yes w) := by
  have HS := Lib.hid hs
  have HB := Lib.hid hb
  unfold Yes
  by_cases hbig : 1048576 < bs.length
  · go_enter Try.func8, Try.ntmps8
    go_wp2_with fail
    (go_at_call 23; refine (laws_big v bs.length _ _ hs).mono ?_; rintro e w' ⟨rfl, rfl⟩)
    go_wp2
    go_ret
    exact ⟨rfl, (by repeat (first | with_reducible exact Below.refl _ _ | with_reducible apply Below.ofExt | with_reducible apply Below.ofAlloc | with_reducible apply Below.drew | with_reducible assumption | (with_reducible refine Below.setCell ?_ (by first | exact Nat.le_refl _ | (simp [go_sem]; done) | (simp [go_sem]; omega)) _)))⟩
  · clear hs hb
    go_enter Try.func8, Try.ntmps8
    go_wp2_with fail
    (go_at_call 23; refine (laws_big v bs.length _ _ HS.out).mono ?_; rintro e w' ⟨rfl, rfl⟩)
    go_wp2_with fail
    (go_at_call 24; refine (spec_DrawOlder v bs _ HS.out (by omega) HB.out).mono ?_; rintro e w' ⟨x, y, rfl, hb⟩; obtain ⟨X, rfl⟩ := hb.ext; clear hb; unfold TxR.v Raw.v)
    go_wp2_with (at_builtin; refine Stop.here ?_)
    have hrb : RdL rByte w v bs := by unfold RdL; rw [flat_bytes]; exact HS.out
    refine wpList_appL rfl _ _ _ rfl Try.elemBytes (OwnL.oneAt rByte _ 7 _ rfl 5 _ (by simp [World.ext_size])) rfl ((((hrb.ext X).alloc _).alloc _).alloc _) rfl (by simp only [List.length_singleton]; omega) (by simp only [List.length_singleton]; unfold maxLen; omega) (by simp) ?_
    intro v1 w1 hown1 hg1 hz1
    have hb1 := Below.appL (Below.ofAlloc (Below.refl _ _) _) hg1 (OwnL.oneAt rByte _ 7 _ rfl 5 _ (by simp [World.ext_size]))
    obtain ⟨X1, rfl⟩ := hb1.ext
    have hsl := hown1.rd.bytes
    have hlt := hown1.lt
    clear hb1 hown1 hz1 hg1
    go_wp2_with fail
    (go_at_call 24; refine (spec_DrawOlder v1 ([7] ++ bs) _ hsl (by simp; omega) (fun b hb => (hlt b hb).2)).mono ?_; rintro e w' ⟨z, z', rfl, hb⟩; obtain ⟨X2, rfl⟩ := hb.ext; clear hb; unfold TxR.v Raw.v)
    have h12 : older tx1 tx2 = true := rfl
    have h11 : older tx1 tx1 = false := rfl
    cases hab : older x y with
    | false =>
      go_wp2_with fail
      (go_at_call 25; refine (impl_Older x y _).mono ?_; rintro e w' ⟨rfl, hb⟩; obtain ⟨X, rfl⟩ := hb.ext; clear hb)
      rw [hab]
      go_wp2_with fail
      (go_at_call 25; refine (impl_Older tx1 tx2 _).mono ?_; rintro e w' ⟨rfl, hb⟩; obtain ⟨X, rfl⟩ := hb.ext; clear hb)
      rw [h12]
      go_wp2_with fail
      (go_at_call 25; refine (impl_Older tx1 tx1 _).mono ?_; rintro e w' ⟨rfl, hb⟩; obtain ⟨X, rfl⟩ := hb.ext; clear hb)
      rw [h11]
      go_wp2
      go_ret
      exact ⟨rfl, (by repeat (first | with_reducible exact Below.refl _ _ | with_reducible apply Below.ofExt | with_reducible apply Below.ofAlloc | with_reducible apply Below.drew | with_reducible assumption | (with_reducible refine Below.setCell ?_ (by first | exact Nat.le_refl _ | (simp [go_sem]; done) | (simp [go_sem]; omega)) _)))⟩
    | true =>
      cases hbc : older y z with
      | false =>
        go_wp2_with fail
        (go_at_call 25; refine (impl_Older x y _).mono ?_; rintro e w' ⟨rfl, hb⟩; obtain ⟨X, rfl⟩ := hb.ext; clear hb)
        rw [hab]
        go_wp2_with fail
        (go_at_call 25; refine (impl_Older y z _).mono ?_; rintro e w' ⟨rfl, hb⟩; obtain ⟨X, rfl⟩ := hb.ext; clear hb)
        rw [hbc]
        go_wp2_with fail
        (go_at_call 25; refine (impl_Older tx1 tx2 _).mono ?_; rintro e w' ⟨rfl, hb⟩; obtain ⟨X, rfl⟩ := hb.ext; clear hb)
        rw [h12]
        go_wp2_with fail
        (go_at_call 25; refine (impl_Older tx1 tx1 _).mono ?_; rintro e w' ⟨rfl, hb⟩; obtain ⟨X, rfl⟩ := hb.ext; clear hb)
        rw [h11]
        go_wp2
        go_ret
        exact ⟨rfl, (by repeat (first | with_reducible exact Below.refl _ _ | with_reducible apply Below.ofExt | with_reducible apply Below.ofAlloc | with_reducible apply Below.drew | with_reducible assumption | (with_reducible refine Below.setCell ?_ (by first | exact Nat.le_refl _ | (simp [go_sem]; done) | (simp [go_sem]; omega)) _)))⟩
      | true =>
        have hac := older_trans hab hbc
        go_wp2_with fail
        (go_at_call 25; refine (impl_Older x y _).mono ?_; rintro e w' ⟨rfl, hb⟩; obtain ⟨X, rfl⟩ := hb.ext; clear hb)
        rw [hab]
        go_wp2_with fail
        (go_at_call 25; refine (impl_Older y z _).mono ?_; rintro e w' ⟨rfl, hb⟩; obtain ⟨X, rfl⟩ := hb.ext; clear hb)
        rw [hbc]
        go_wp2_with fail
        (go_at_call 25; refine (impl_Older x z _).mono ?_; rintro e w' ⟨rfl, hb⟩; obtain ⟨X, rfl⟩ := hb.ext; clear hb)
        rw [hac]
        go_wp2_with fail
        (go_at_call 25; refine (impl_Older tx1 tx2 _).mono ?_; rintro e w' ⟨rfl, hb⟩; obtain ⟨X, rfl⟩ := hb.ext; clear hb)
        rw [h12]
        go_wp2_with fail
        (go_at_call 25; refine (impl_Older tx1 tx1 _).mono ?_; rintro e w' ⟨rfl, hb⟩; obtain ⟨X, rfl⟩ := hb.ext; clear hb)
        rw [h11]
        go_wp2
        go_ret
        exact ⟨rfl, (by repeat (first | with_reducible exact Below.refl _ _ | with_reducible apply Below.ofExt | with_reducible apply Below.ofAlloc | with_reducible apply Below.drew | with_reducible assumption | (with_reducible refine Below.setCell ?_ (by first | exact Nat.le_refl _ | (simp [go_sem]; done) | (simp [go_sem]; omega)) _)))⟩
theorem law_Newest (v : Value) (bs : List UInt8) (W : World) (hs : Sl W v bs.length (bytesOf bs)) (hb : ∀ b, v.ownBlock = some b → b < W.heap.size) : Calls Try.prog 9 #[v] W (Yes W) := by
  have HS := Lib.hid hs
  have HB := Lib.hid hb
  unfold Yes
  by_cases hbig : 1048576 < bs.length
  · go_enter Try.func9, Try.ntmps9
    go_wp2_with fail
    (go_at_call 23; refine (laws_big v bs.length _ _ hs).mono ?_; rintro e w' ⟨rfl, rfl⟩)
    go_wp2
    go_ret
    exact ⟨rfl, (by repeat (first | with_reducible exact Below.refl _ _ | with_reducible apply Below.ofExt | with_reducible apply Below.ofAlloc | with_reducible apply Below.drew | with_reducible assumption | (with_reducible refine Below.setCell ?_ (by first | exact Nat.le_refl _ | (simp [go_sem]; done) | (simp [go_sem]; omega)) _)))⟩
  · clear hs hb
    go_enter Try.func9, Try.ntmps9
    go_wp2_with fail
    (go_at_call 23; refine (laws_big v bs.length _ _ HS.out).mono ?_; rintro e w' ⟨rfl, rfl⟩)
    go_wp2_with fail
    (go_at_call 26; refine (spec_DrawNextAge v bs _ HS.out (by omega) HB.out).mono ?_; rintro e w1 ⟨u, xs, rfl, hr, hn, hx, hb1⟩)
    go_wp2_with fail
    (go_at_call 27; refine (impl_NextAge u xs _ hr).mono ?_; rintro e w2 ⟨rfl, hb2⟩)
    have hr2 := hr.below hb2
    have hb := hb1.then hb2
    obtain ⟨ao, cap, rfl⟩ := hr2.form
    have hna : wrap64 (nextAge xs + 1) = nextAge xs + 1 := by
      have := nextAge_le hx
      exact IntWalk.wrap64_in (nextAge xs + 1) (by omega)
    rw [hna]
    have HXS := Lib.hid hx
    have HR := Lib.hid hr2
    have HB2 := Lib.hid hb
    clear hx hr hr2 hb hb1 hb2 hna
    go_wp2
    go_loopw [5] (fun v wr => ∃ (n : Nat) (Y : Ext), v = .int .i64 n ∧ n ≤ xs.length ∧ wr = (w2.alloc (.cells #[.int .i64 99, .int .i64 (nextAge xs + 1), .int .i64 0, .int .i64 0, .slice none 0 0, .slice none 0 0, .slice none 0 0, .slice none 0 0, .slice none 0 0, .int .i64 0] 47)).ext Y) (fun v _ => xs.length - (intOf v).toNat)
    case atStart => exact ⟨0, ⟨#[], w2.drawn⟩, rfl, by omega, (World.ext_nil _ _ (by rfl)).symm⟩
    case round =>
      obtain ⟨n, Y, rfl, hn2, rfl⟩ := hrel
      by_cases hlt : (n : Int) < xs.length
      · have hk : n < xs.length := by omega
        obtain ⟨ao', cap', e0, hc1, hc2, hnil, hcell⟩ := HR.out.shapeT
        cases e0
        obtain ⟨b, off, rfl, hbl, hcell⟩ := hcell (by intro e; simp [e] at hk)
        obtain ⟨f0, f1, f2, f3, f4, f5, f6, f7, f8, f9⟩ := hcell n hk
        have hold : older xs[n] ⟨99, nextAge xs + 1, 0, 0, ⟨none, 0, 0⟩, ⟨none, 0, 0⟩, ⟨none, 0, 0⟩, ⟨none, 0, 0⟩, ⟨none, 0, 0⟩, 0⟩ = true := by
          have := nextAge_gt (List.getElem_mem hk)
          unfold older
          simp only [Bool.or_eq_true, decide_eq_true_eq]
          left
          omega
        generalize xs[n] = x at *
        clear hcell hc1 hc2 hnil
        go_wp2
        refine wp_region_ord [(0,true),(1,true),(2,true),(3,true),(4,true),(5,false),(6,true)] 7 (by kernel_rfl) (by kernel_rfl) ?_
        repeat (refine wpOrd_quiet rfl (fun K hK => ?_); go_simp; (try simp (disch := omega) only [IntWalk.i64_in]); refine hK _ ?_; clear hK K)
        refine wpOrd_grow rfl (fun K hK => ?_); go_simp; go_at_call 25; refine (impl_Older x ⟨99, nextAge xs + 1, 0, 0, ⟨none, 0, 0⟩, ⟨none, 0, 0⟩, ⟨none, 0, 0⟩, ⟨none, 0, 0⟩, ⟨none, 0, 0⟩, 0⟩ _).mono ?_; rintro e w' ⟨rfl, hb⟩; obtain ⟨X, rfl⟩ := hb.ext; clear hb; try go_simp; refine hK _ _ (by show Sx _ _; repeat (first | exact Sx.drew _ | exact ⟨_, rfl⟩ | exact Sx.merge _ _ _ _ | apply Sx.ext | apply Sx.alloc | apply Sx.draw)) ?_; clear hK K
        repeat (refine wpOrd_quiet rfl (fun K hK => ?_); go_simp; (try simp (disch := omega) only [IntWalk.i64_in]); refine hK _ ?_; clear hK K)
        refine wpOrd_nil ?_
        go_wp2
        go_roundw
        case rel => exact ⟨n + 1, ⟨Y.bs ++ X.bs, X.dr⟩, by go_num, by omega, rfl⟩
        case measure => simp [intOf]; omega
      · go_wp2_with fail
        (go_at_call 27; refine (impl_NextAge (.slice none 0 0) [] _ (RdL.nil _ _)).mono ?_; rintro e w' ⟨rfl, hb⟩; obtain ⟨X, rfl⟩ := hb.ext; clear hb)
        go_wp2
        go_ret
        exact ⟨congrArg (fun b => Ending.returned (Value.bool b)) (show (wrap64 (nextAge [] + 1) == 1) = true by simp [nextAge, wrap64]), (HB2.out.ofAlloc _).ofExt _⟩
end Go.Proofs.Ytnacopiampdghaa
