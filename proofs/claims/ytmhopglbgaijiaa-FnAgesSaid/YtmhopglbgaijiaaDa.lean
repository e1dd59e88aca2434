/- The drawn access sets and transactions, owned: the program's and the reference's. Each condition stands in its theorem. -/
import Derived.Test.YtmhopglbgaijiaaDraw5
import Derived.Test.YtmhopglbgaijiaaCTxS
set_option linter.unusedVariables false
set_option linter.unusedSimpArgs false
namespace Go.Proofs.Ytmhopglbgaijiaa
open Go.ChangeShapes Go.WideShapes Go.ChangeAt Go.RowKit

theorem spans_small : ∀ s ∈ spansLit, s.size ≤ 100 := by decide
theorem keys_small : ∀ s ∈ keysLit, s.size ≤ 100 := by decide
theorem putS_small {xs : List ByteArray} {y : ByteArray} (h : ∀ s ∈ xs, s.size ≤ 100) (hy : y.size ≤ 100) : ∀ s ∈ putS xs y, s.size ≤ 100 := by
  intro s hs
  unfold putS at hs
  split at hs
  · exact h s hs
  · rcases List.mem_append.1 hs with hs | hs
    · exact h s (List.mem_of_mem_take hs)
    · rcases List.mem_cons.1 hs with rfl | hs
      · exact hy
      · exact h s (List.mem_of_mem_drop hs)
theorem own_belowL {α : Type} {R : RowOf α} {e : TypeId} {w w' : World} {B : Nat} {v : Value} {xs : List α} (h : OwnL R e w B v xs) (hb : Below w.heap.size w w') : OwnL R e w' B v xs := by
  obtain ⟨X, rfl⟩ := hb.ext
  exact h.ext X
theorem own_of_strs {e : TypeId} {w : World} {B : Nat} {v : Value} {xs : List ByteArray} (h : OwnL rStr e w B v xs) (hok : ∀ s ∈ xs, s.size ≤ 100) : ∃ fp : List Nat, (vSlice vStr e).own w fp [v] xs ∧ fp.Nodup ∧ ∀ b ∈ fp, B ≤ b := by
  rcases h.2 with ⟨rfl, h0⟩ | ⟨g, cap, cur, rfl, hg, hh, hn, hm, hsz, ht⟩
  · have : xs = [] := List.eq_nil_of_length_eq_zero h0
    subst this
    exact ⟨[], .inl ⟨rfl, rfl, rfl⟩, List.nodup_nil, by simp⟩
  · exact ⟨[g], vSlice.ownRow hh rfl hn hm hsz ht (fun d hd => Nat.le_trans (hok d hd) (by decide)), by simp, by simpa using hg⟩
/-- the numbers run from one on -/
def IdsUp (ds : List TxD) : Prop := ∀ i (h : i < ds.length), ds[i].id = i + 1
theorem IdsUp.nil : IdsUp [] := fun i h => absurd h (by simp)
theorem IdsUp.snoc {ds : List TxD} {d : TxD} {n : Nat} (h : IdsUp ds) (hn : n = ds.length) : IdsUp (ds ++ [{ d with id := n + 1 }]) := by
  subst hn
  intro i hi
  simp only [List.length_append, List.length_singleton] at hi
  by_cases e : i < ds.length
  · rw [List.getElem_append_left e]
    exact h i e
  · have : i = ds.length := by omega
    subst this
    rw [List.getElem_append_right (by omega)]
    simp
theorem rows_got {w w' : World} {p : Nat} {o : Obj} {css : List (List Value)} {fps : List (List Nat)} {ds : List TxD} (h : RowsOwn vTx w css fps ds) (g : Got p w o w') (hp : ∀ b ∈ fps.flatten, b ≠ p) : RowsOwn vTx w' css fps ds :=
  h.frame fun b hb => g.other (h.lt b hb) (hp b hb)
theorem own_id {w : World} {fp : List Nat} {y : TxR} {d : TxD} (h : vTx.own w fp y.cells d) (n : Int) : vTx.own w fp (TxR.cells ⟨n, y.age, y.proc, y.began, y.calls, y.answers, y.tr, y.tw, y.marks, y.state⟩) { d with id := n } := by
  obtain ⟨s0, s1, s2, s3, s4, f0, f1, f2, f3, f4, hc, rfl, h0, h1, h2, h3, h4⟩ := h
  unfold TxR.cells at hc ⊢
  simp only [List.cons.injEq, and_true] at hc
  obtain ⟨_, e1, e2, e3, e4, e5, e6, e7, e8, e9⟩ := hc
  refine ⟨s0, s1, s2, s3, s4, f0, f1, f2, f3, f4, ?_, rfl, h0, h1, h2, h3, h4⟩
  rw [e1, e2, e3, e4, e5, e6, e7, e8, e9]
/-- what a transaction owns lies in no row of transactions -/
theorem sl_tag {α : Type} {row : α → List Value} {k : Nat} {ok : α → Prop} {hk : ∀ d, (row d).length = k} {h1 : ∀ d, ∀ u ∈ row d, u.oneCell' = true} {e : TypeId} {w : World} {fp : List Nat} {v : Value} {xs : List α} (h : (vSlice (vRow row k ok hk h1) e).own w fp [v] xs) : ∀ b ∈ fp, ∃ blk, w.heap[b]? = some (.cells blk e (0, 0)) := by
  intro b hb
  rcases h with ⟨_, _, rfl⟩ | ⟨g, cap, blk, css, fps, _, hh, _, _, _, _, rfl, _, h8, h9⟩
  · simp at hb
  · rcases List.mem_cons.1 hb with rfl | hb
    · exact ⟨blk, hh⟩
    · obtain ⟨l, hl, hbl⟩ := List.mem_flatten.1 hb
      obtain ⟨i, hi, rfl⟩ := List.getElem_of_mem hl
      have := (h9 i (by omega) (by omega) hi).1
      rw [this] at hbl
      simp at hbl
theorem tx_tag {w : World} {fp : List Nat} {cs : List Value} {d : TxD} (h : vTx.own w fp cs d) : ∀ b ∈ fp, ∃ blk t, w.heap[b]? = some (.cells blk t (0, 0)) ∧ t ≠ 31 := by
  obtain ⟨s0, s1, s2, s3, s4, f0, f1, f2, f3, f4, hc, rfl, h0, h1, h2, h3, h4⟩ := h
  intro b hb
  simp only [List.mem_append] at hb
  rcases hb with (((hb | hb) | hb) | hb) | hb
  · obtain ⟨k, hk⟩ := sl_tag h0 b hb; exact ⟨k, _, hk, by decide⟩
  · obtain ⟨k, hk⟩ := sl_tag h1 b hb; exact ⟨k, _, hk, by decide⟩
  · obtain ⟨k, hk⟩ := sl_tag h2 b hb; exact ⟨k, _, hk, by decide⟩
  · obtain ⟨k, hk⟩ := sl_tag h3 b hb; exact ⟨k, _, hk, by decide⟩
  · obtain ⟨k, hk⟩ := sl_tag h4 b hb; exact ⟨k, _, hk, by decide⟩
theorem rows_app {w w' : World} {B : Nat} {v : Value} {xs : List TxR} {css : List (List Value)} {fps : List (List Nat)} {ds : List TxD} (h : RowsOwn vTx w css fps ds) (ho : OwnL rTx 31 w B v xs) (hg : w.grownBy w' v.ownBlock) : RowsOwn vTx w' css fps ds := by
  refine h.frame fun b hb => hg.block b (h.lt b hb) fun e => ?_
  obtain ⟨l, hl, hbl⟩ := List.mem_flatten.1 hb
  obtain ⟨i, hi, rfl⟩ := List.getElem_of_mem hl
  obtain ⟨blk, t, hh, ht⟩ := tx_tag (h.el i (by have := h.fl; omega) (by have := h.fl; have := h.cl; omega) hi) b hbl
  rcases ho.2 with ⟨rfl, _⟩ | ⟨g, cap, cur, rfl, _, hh', _⟩
  · simp [Value.ownBlock] at e
  · have e : b = g := by simpa [Value.ownBlock] using e
    subst e
    rw [hh] at hh'
    injection hh' with hh'
    injection hh' with _ hh'
    exact ht hh'
theorem own_txs {w : World} {B : Nat} {v : Value} {xs : List TxR} {fps : List (List Nat)} {ds : List TxD} (ho : OwnL rTx 31 w B v xs) (h : RowsOwn vTx w (xs.map TxR.cells) fps ds) (hlo : ∀ b ∈ fps.flatten, B ≤ b) : ∃ fp : List Nat, (vSlice vTx 31).own w fp [v] ds ∧ ∀ b ∈ fp, B ≤ b := by
  have hl : xs.length = ds.length := by have := h.cl; simpa using this
  rcases ho.2 with ⟨rfl, h0⟩ | ⟨g, cap, cur, rfl, hg, hh, hn, hm, hsz, ht⟩
  · have : ds = [] := List.eq_nil_of_length_eq_zero (by omega)
    subst this
    exact ⟨[], .inl ⟨rfl, rfl, rfl⟩, by simp⟩
  · refine ⟨g :: fps.flatten, vSlice.ownRows hh hl hn hm hsz (by rw [← List.flatMap_def]; exact ht) h, ?_⟩
    intro b hb
    rcases List.mem_cons.1 hb with rfl | hb
    · exact hg
    · exact hlo b hb
set_option maxRecDepth 100000 in
theorem spec_l03ListA (p : Nat) (vb : Value) (bs : List UInt8) (i h : Int) (w : World) (hc : Cur w p vb bs i h) :
    Calls Try.prog 53 #[.pointer (some ⟨p, 0, none⟩)] w fun e w' => ∃ v xs i' h', e = .returned v ∧ OwnL rStr 9 w' w.heap.size v xs ∧ xs.length ≤ 4 ∧ (∀ s ∈ xs, s.size ≤ 100) ∧ Got p w (curObj vb i' h') w' ∧ 0 ≤ i' ∧ i' ≤ bs.length := by
  have hp := World.lt_of_get hc.blk
  have HC := Lib.hid hc
  clear hc
  go_enter Try.func53, Try.ntmps53
  go_wp2
  go_loopw [3, 4] (fun v k wr => ∃ (n : Nat) (xs : List ByteArray) (i' h' : Int), k = .int .i64 n ∧ n ≤ 4 ∧ xs.length ≤ n ∧ (∀ s ∈ xs, s.size ≤ 100) ∧ OwnL rStr 9 wr w.heap.size v xs ∧ Got p w (curObj vb i' h') wr ∧ 0 ≤ i' ∧ i' ≤ bs.length) (fun _ k _ => 4 - (intOf k).toNat)
  case atStart =>
    exact ⟨0, [], i, h, rfl, by omega, by simp, by simp, OwnL.empty rStr _ _, (Got.self HC.out.blk).alloc _, HC.out.lo, HC.out.hi⟩
  case round =>
    obtain ⟨n, xs, i1, h1, rfl, hn, hx, hsz, hr, hg, hi0, hi1⟩ := hrel
    have hvb := hr.lt
    have hc1 := HC.out.got hg hi0 hi1
    have hvp : u3.ownBlock ≠ some p := fun e => by have := (hvb p e).1; omega
    have HV := Lib.hid hvb
    have HP := Lib.hid hvp
    have HSZ := Lib.hid hsz
    clear hvb hvp hsz
    go_wp2_with fail
    (go_at_call 35; refine (spec_l01Below p vb bs _ _ _ _ hc1 (by omega)).mono ?_; rintro e w2 ⟨x, i2, h2, rfl, ⟨hx0, hx1, _⟩, hg2, hj0, hj1⟩)
    have hc2 := hc1.got hg2 hj0 hj1
    have hr2 := hr.got hg2 HP.out
    have hx2 := hx1 (by omega)
    clear hx1
    by_cases hlt : (n : Int) < x
    · go_wp2_with fail
      (go_at_call 80; refine (spec_l03Span p vb bs _ _ _ hc2).mono ?_; rintro e w3 ⟨y, i3, h3, rfl, hy, hg3, hk0, hk1⟩)
      have hr3 := hr2.got hg3 HP.out
      go_wp2_with fail
      (go_at_call 54; refine (spec_AddSpan _ xs _ _ hr3.rd (by omega)).mono ?_; rintro e w4 ⟨v', rfl, hv', hb⟩)
      have hlen := putS_length xs y
      go_wp2
      go_roundw
      case rel => exact ⟨n + 1, putS xs y, i3, h3, by go_num, by omega, by omega, putS_small HSZ.out (spans_small y hy), hv'.base (by have := hg.size; have := hg2.size; have := hg3.size; omega), ((hg.then hg2 hp).then hg3 hp).ofBelow hb, hk0, hk1⟩
      case measure => simp [intOf]; omega
    · go_wp2
      go_ret
      exact ⟨_, xs, i2, h2, rfl, hr2, by omega, HSZ.out, hg.then hg2 hp, hj0, hj1⟩
set_option maxRecDepth 100000 in
theorem spec_l03TouchA (p : Nat) (vb : Value) (bs : List UInt8) (i h : Int) (w : World) (hc : Cur w p vb bs i h) :
    Calls Try.prog 32 #[.pointer (some ⟨p, 0, none⟩)] w fun e w' => ∃ vr vw rs ws i' h', e = .returned (.agg #[vr, vw]) ∧ OwnL rStr 9 w' w.heap.size vr rs ∧ OwnL rStr 9 w' w.heap.size vw ws ∧ (∀ s ∈ rs, s.size ≤ 100) ∧ (∀ s ∈ ws, s.size ≤ 100) ∧ Got p w (curObj vb i' h') w' ∧ 0 ≤ i' ∧ i' ≤ bs.length := by
  have hp := hc.lt
  have HC := Lib.hid hc
  clear hc
  go_enter Try.func32, Try.ntmps32
  go_wp2_with fail
  (go_at_call 53; refine (spec_l03ListA p vb bs _ _ _ (HC.out.alloc _)).mono ?_; rintro e w1 ⟨vr, rs, i1, h1, rfl, hr, hl, hsr, hg, hi0, hi1⟩; have hv := hr.lt; have HSR := Lib.hid hsr; clear hsr)
  obtain ⟨ar, cr, rfl⟩ := hr.rd.form
  have hg1 := hg.ofAlloc hp
  have hz1 := hg.size
  have h2 : w1.heap[w.heap.size]? = some (touchObj nilS nilS) := by
    rw [hg.other (by simp) (by omega)]
    show (w.heap.push _)[w.heap.size]? = _
    simp [touchObj, nilS]
  have HG := Lib.hid hg1
  have HV := Lib.hid hv
  have H2 := Lib.hid h2
  have HR := Lib.hid hr
  clear hg hg1 hv h2 hr
  go_wp2
  go_loopw [4] (fun k wr => ∃ (n : Nat) (vw : Value) (ws : List ByteArray) (i' h' : Int), k = .int .i64 n ∧ n ≤ 3 ∧ ws.length ≤ n ∧ OwnL rStr 9 wr w.heap.size vw ws ∧ (∀ s ∈ ws, s.size ≤ 100) ∧ (∀ b, vw.ownBlock = some b → w.heap.size ≤ b ∧ b < wr.heap.size ∧ b ≠ w1.heap.size ∧ b ≠ w.heap.size) ∧
    wr.heap[w1.heap.size]? = some (touchObj (.slice ar rs.length cr) vw) ∧ wr.heap[w.heap.size]? = some (touchObj nilS nilS) ∧ OwnL rStr 9 wr w.heap.size (.slice ar rs.length cr) rs ∧ Got p w (curObj vb i' h') wr ∧ 0 ≤ i' ∧ i' ≤ bs.length) (fun k _ => 3 - (intOf k).toNat)
  case atStart =>
    refine ⟨0, nilS, [], i1, h1, rfl, by omega, by simp, OwnL.nil _ _ _ _, by simp, fun b hb => by simp [Value.ownBlock, nilS] at hb, ?_, ?_, (HR.out.base (by simp)).alloc _, HG.out.alloc _, hi0, hi1⟩
    · show (w1.heap.push _)[w1.heap.size]? = _
      simp [touchObj, nilS]
    · rw [Below.heap_alloc _ _ _ (by simp at hz1; omega)]
      exact H2.out
  case round =>
    obtain ⟨n, vw, ws, i2, h2, rfl, hn, hl2, hr2, hsw, hv2, hb3, hb2, hr1, hg2, hj0, hj1⟩ := hrel
    have HSW := Lib.hid hsw
    clear hsw
    have hc2 := HC.out.got hg2 hj0 hj1
    obtain ⟨aw, cw, rfl⟩ := hr2.rd.form
    go_wp2_with fail
    (go_at_call 35; refine (spec_l01Below p vb bs _ _ _ _ hc2 (by omega)).mono ?_; rintro e w3 ⟨x, i3, h3, rfl, ⟨hx0, hx1, _⟩, hg3, hk0, hk1⟩)
    have hc3 := hc2.got hg3 hk0 hk1
    have hx2 := hx1 (by omega)
    clear hx1
    have hzr := World.lt_of_get hb3
    have hz3 := hg3.size
    have hne3 : w1.heap.size ≠ p := by simp at hz1; omega
    have hb3' := (hg3.other hzr hne3).trans hb3
    have hb2' := (hg3.other (World.lt_of_get hb2) (by omega)).trans hb2
    have hr1' := hr1.got hg3 (fun e => by have := (HV.out p e).1; simp at this; omega)
    have hr2' := hr2.got hg3 (fun e => by have := (hv2 p e).1; omega)
    have hg3' := hg2.then hg3 hp
    have HB3 := Lib.hid hb3'
    have HB2 := Lib.hid hb2'
    have HR1 := Lib.hid hr1'
    have HR2 := Lib.hid hr2'
    have HV2 := Lib.hid hv2
    have HZ1 := Lib.hid hz1
    clear hb3 hb2 hr1 hr2 hb3' hb2' hr1' hr2' hv2 hz1
    by_cases hlt : (n : Int) < x
    · go_wp2
      have hzz : w1.heap.size < w3.heap.size := by omega
      have hcl : w3.cell? ⟨w1.heap.size, 1, none⟩ = some (.slice aw ws.length cw) := World.cell?_of_get HB3.out
      have hb1 : w1.heap.size ≠ p := hne3
      refine wp_region_ordF (SpF w3 p) [(0,true),(1,true),(2,true),(3,false),(4,false),(5,false),(6,false)] 5 (by kernel_rfl) (by kernel_rfl) (Sp.start hc3.blk) ?_
      repeat (refine wpOrd_quiet rfl (fun K hK => ?_); go_simp; (try simp (disch := omega) only [IntWalk.i64_in]); refine hK _ ?_; clear hK K)
      refine wpOrd_grow rfl (fun K hK => ?_); go_simp; go_at_call 55; refine (spec_l02Key p vb bs _ _ _ hc3.drew).mono ?_; rintro e w4 ⟨y, i4, h4, rfl, hy, hg4, hm0, hm1⟩; try go_simp; refine hK _ _ (Sp.got (Sp.start hc3.blk) hg4 hc3.lt) ?_; clear hK K
      have hc4 := hc3.drew.got hg4 hm0 hm1
      have hz4 := hg4.size
      have hr4 := OwnL.got (HR2.out : OwnL rStr 9 w3.drew w.heap.size _ ws) hg4 (fun e => by have := (HV2.out p e).1; omega)
      have hr14 := OwnL.got (HR1.out : OwnL rStr 9 w3.drew w.heap.size _ rs) hg4 (fun e => by have := (HV.out p e).1; simp at this; omega)
      have h34 : w4.heap[w1.heap.size]? = some (touchObj (.slice ar rs.length cr) (.slice aw ws.length cw)) := (hg4.other (by simpa using hzz) hne3).trans HB3.out
      have h24 : w4.heap[w.heap.size]? = some (touchObj nilS nilS) := (hg4.other (World.lt_of_get HB2.out) (by omega)).trans HB2.out
      have hg4' := hg3'.then (show Got p w3 _ w4 from hg4) hp
      have HR4 := Lib.hid hr4
      have HR14 := Lib.hid hr14
      have H34 := Lib.hid h34
      have H24 := Lib.hid h24
      clear hr4 hr14 h34 h24
      refine wpOrd_grow rfl (fun K hK => ?_); go_simp; go_at_call 54; refine (spec_AddSpan _ ws _ _ HR4.out.rd (by omega)).mono ?_; rintro e w5 ⟨v5, rfl, ho5, hb5⟩; try go_simp; refine hK _ _ (Sp.below (Sp.got (Sp.start hc3.blk) hg4 hc3.lt) hb5) ?_; clear hK K
      have hz5 := hb5.size
      have hr15 := own_belowL HR14.out hb5
      have h35 : w5.heap[w1.heap.size]? = _ := (hb5.block _ (World.lt_of_get H34.out)).trans H34.out
      have h25 : w5.heap[w.heap.size]? = _ := (hb5.block _ (World.lt_of_get H24.out)).trans H24.out
      have hzl : w1.heap.size < w5.heap.size := World.lt_of_get h35
      obtain ⟨a5, c5, rfl⟩ := ho5.rd.form
      have hlen := putS_length ws y
      refine wpOrd_at_block h35 ?_
      unfold touchObj
      repeat (refine wpOrd_tail rfl rfl (fun K hK => ?_); go_simp; refine hK _ _ ?_; clear hK K)
      refine wpOrd_nil ?_
      go_wp2
      go_roundw
      case rel =>
        refine ⟨n + 1, _, putS ws y, i4, h4, by go_num, by omega, by omega, ?_, putS_small HSW.out (keys_small y hy), fun b hb => by have := ho5.lt b hb; have := hg4'.size; have := HG.out.size; have := World.lt_of_get H34.out; have := World.lt_of_get H24.out; simp only [World.setB_size]; omega, World.setB_at _ _ _ hzl, ?_, ?_, ?_, hm0, hm1⟩
        · exact (ho5.base (by have := World.lt_of_get H24.out; omega)).setB (fun e => by have := (ho5.lt _ e).1; have := World.lt_of_get H34.out; omega) _
        · rw [World.setB_get _ _ _ _ (by have := HZ1.out; simp at this; omega)]
          exact h25
        · exact hr15.setB (fun e => by have := (HV.out _ e).2; omega) _
        · exact (hg4'.ofBelow hb5).past (by have := HG.out.size; omega) _
      case measure => simp [intOf]; omega
    · have hw1 : w1.heap.size < w3.heap.size := World.lt_of_get HB3.out
      have hw0 : w.heap.size < w3.heap.size := World.lt_of_get HB2.out
      have hw01 : w.heap.size < w1.heap.size := by have := HZ1.out; simp at this; omega
      have hb2s : (w3.setB w1.heap.size (touchObj (.slice ar rs.length cr) (.slice aw ws.length cw))).heap[w.heap.size]? = some (touchObj nilS nilS) := by
        rw [World.setB_get _ _ _ _ (by omega)]
        exact HB2.out
      have hn01 : w1.heap.size ≠ w.heap.size := by omega
      have hnp : w.heap.size ≠ p := by omega
      rw [← World.setB_self HB3.out, ← World.setB_self hb2s]
      unfold touchObj nilS
      clear hb2s
      go_wp2
      refine bodyPost_ret (by simp [results, Try.results32, go_sem, hw0]; rfl) rfl ?_
      refine ⟨_, _, rs, ws, i3, h3, rfl, ?_, ?_, HSR.out, HSW.out, (hg3'.past (by omega) _).past (by omega) _, hk0, hk1⟩
      · exact (HR1.out.setB (fun e => by have := (HV.out _ e).2; omega) _).setB (fun e => by have := (HV.out _ e).1; simp at this; omega) _
      · exact (HR2.out.setB (fun e => (HV2.out _ e).2.2.1 rfl) _).setB (fun e => (HV2.out _ e).2.2.2 rfl) _
set_option maxRecDepth 100000 in
theorem spec_l20SmallA (p : Nat) (vb : Value) (bs : List UInt8) (i h : Int) (w : World) (hc : Cur w p vb bs i h) :
    Calls Try.prog 30 #[.pointer (some ⟨p, 0, none⟩)] w fun e w' => ∃ (x : TxR) (d : TxD) (fp : List Nat) (i' h' : Int), e = .returned x.v ∧ vTx.own w' fp x.cells d ∧ (∀ b ∈ fp, w.heap.size ≤ b) ∧ 0 ≤ d.age ∧ d.age ≤ 5 ∧ Got p w (curObj vb i' h') w' ∧ 0 ≤ i' ∧ i' ≤ bs.length := by
  have hp := hc.lt
  have HC := Lib.hid hc
  clear hc
  go_enter Try.func30, Try.ntmps30
  go_wp2_with fail
  (go_at_call 35; refine (spec_l01Below p vb bs _ _ _ _ (HC.out.alloc _) (by omega)).mono ?_; rintro e w1 ⟨x, i1, h1, rfl, ⟨hx0, hx1, _⟩, hg1, hi0, hi1⟩)
  have hc1 := (HC.out.alloc _).got hg1 hi0 hi1
  have hx2 := hx1 (by omega)
  clear hx1
  go_wp2_with fail
  (go_at_call 35; refine (spec_l01Below p vb bs _ _ _ _ hc1 (by omega)).mono ?_; rintro e w2 ⟨y, i2, h2, rfl, ⟨hy0, hy1, _⟩, hg2, hj0, hj1⟩)
  have hc2 := hc1.got hg2 hj0 hj1
  have hy2 := hy1 (by omega)
  clear hy1
  go_wp2_with fail
  (go_at_call 52; refine (spec_l01PickInt p vb bs _ _ _ [1, 1, 1, 2, 3] _ (hc2.alloc _) (RdL.lit rInt w2 [1, 1, 1, 2, 3] 5 rfl (by decide) _ rfl _) (by decide) (by decide) (by have := hc2.lt; simp [Value.ownBlock]; omega)).mono ?_; rintro e w3 ⟨z, i3, h3, rfl, hz, hg3, hk0, hk1⟩)
  have hc3 := (hc2.alloc _).got hg3 hk0 hk1
  go_wp2_with fail
  (go_at_call 32; refine (spec_l03TouchA p vb bs _ _ _ hc3).mono ?_; rintro e w4 ⟨vr, vw, rs, ws, i4, h4, rfl, hr, hw, hsr, hsw, hg4, hm0, hm1⟩)
  obtain ⟨ar, cr, rfl⟩ := hr.rd.form
  obtain ⟨aw, cw, rfl⟩ := hw.rd.form
  have hb1 := (hg1.other (b := w.heap.size) (by simp) (by omega)).trans (World.alloc_new _ _)
  have hb2 := (hg2.other (World.lt_of_get hb1) (by omega)).trans hb1
  have hb3 := (hg3.other (b := w.heap.size) (by have := World.lt_of_get hb2; simp; omega) (by omega)).trans ((Below.heap_alloc w2 _ _ (World.lt_of_get hb2)).trans hb2)
  have hb4 := (hg4.other (World.lt_of_get hb3) (by omega)).trans hb3
  have hlt := World.lt_of_get hb4
  have hgg := (((hg1.ofAlloc hp).then hg2 hp).then (hg3.ofAlloc (by have := hg1.size; have := hg2.size; simp at *; omega)) hp).then hg4 hp
  have hl3 := World.lt_of_get hb3
  have HRR := Lib.hid hr
  have HWW := Lib.hid hw
  have HSR := Lib.hid hsr
  have HSW := Lib.hid hsw
  clear hr hw hsr hsw
  rw [← World.setB_self hb4]
  clear hb1 hb2 hb3 hb4
  go_wp2
  refine bodyPost_ret (by simp [results, Try.results30, go_sem, hlt]; rfl) rfl ?_
  obtain ⟨f2, o2, _, l2⟩ := own_of_strs (OwnL.setB (p := w.heap.size) HRR.out (fun e => by have := (HRR.out.lt _ e).1; omega) _) HSR.out
  obtain ⟨f3, o3, _, l3⟩ := own_of_strs (OwnL.setB (p := w.heap.size) HWW.out (fun e => by have := (HWW.out.lt _ e).1; omega) _) HSW.out
  refine ⟨⟨1 + x, y, 0, 0, ⟨none, 0, 0⟩, ⟨none, 0, 0⟩, ⟨ar, _, cr⟩, ⟨aw, _, cw⟩, ⟨none, 0, 0⟩, z⟩, ⟨1 + x, y, 0, 0, [], [], ⟨rs, ws⟩, [], z⟩, [] ++ [] ++ f2 ++ f3 ++ [], i4, h4, rfl, ⟨_, _, _, _, _, [], [], f2, f3, [], rfl, rfl, .inl ⟨rfl, rfl, rfl⟩, .inl ⟨rfl, rfl, rfl⟩, o2, o3, .inl ⟨rfl, rfl, rfl⟩⟩, ?_, hy0, by show y ≤ 5; omega, hgg.past (Nat.le_refl _) _, hm0, hm1⟩
  intro b hb
  simp only [List.nil_append, List.append_nil, List.mem_append] at hb
  rcases hb with hb | hb
  · have := l2 b hb; omega
  · have := l3 b hb; omega
set_option maxRecDepth 100000 in
theorem spec_l20ListA (p : Nat) (vb : Value) (bs : List UInt8) (i h : Int) (w : World) (hc : Cur w p vb bs i h) :
    Calls Try.prog 31 #[.pointer (some ⟨p, 0, none⟩)] w fun e w' => ∃ (v : Value) (ds : List TxD) (fp : List Nat) (i' h' : Int), e = .returned v ∧ (vSlice vTx 31).own w' fp [v] ds ∧ (∀ b ∈ fp, w.heap.size ≤ b) ∧ ds.length ≤ 4 ∧ (∀ x ∈ ds, 0 ≤ x.age ∧ x.age ≤ 5) ∧ IdsUp ds ∧ Got p w (curObj vb i' h') w' ∧ 0 ≤ i' ∧ i' ≤ bs.length := by
  have hp := hc.lt
  have HC := Lib.hid hc
  clear hc
  go_enter Try.func31, Try.ntmps31
  go_wp2
  go_loopw [3, 4] (fun v k wr => ∃ (n : Nat) (xs : List TxR) (ds : List TxD) (fps : List (List Nat)) (i' h' : Int), k = .int .i64 n ∧ n ≤ 4 ∧ xs.length = n ∧ (∀ x ∈ ds, 0 ≤ x.age ∧ x.age ≤ 5) ∧ IdsUp ds ∧ RowsOwn vTx wr (xs.map TxR.cells) fps ds ∧ (∀ b ∈ fps.flatten, w.heap.size ≤ b) ∧ OwnL rTx 31 wr w.heap.size v xs ∧ Got p w (curObj vb i' h') wr ∧ 0 ≤ i' ∧ i' ≤ bs.length) (fun _ k _ => 4 - (intOf k).toNat)
  case atStart =>
    exact ⟨0, [], [], [], i, h, rfl, by omega, rfl, by simp, IdsUp.nil, RowsOwn.nil _ _, by simp, OwnL.empty rTx _ _, (Got.self HC.out.blk).alloc _, HC.out.lo, HC.out.hi⟩
  case round =>
    obtain ⟨n, xs, ds, fps, i1, h1, rfl, hn, rfl, hxs, hid, hro, hlo, ho, hg, hi0, hi1⟩ := hrel
    have HID := Lib.hid hid
    have HRO := Lib.hid hro
    have HLO := Lib.hid hlo
    clear hid hro hlo
    have hc1 := HC.out.got hg hi0 hi1
    obtain ⟨ao, co, rfl⟩ := ho.rd.form
    have hvp : (Value.slice ao xs.length co).ownBlock ≠ some p := fun e => by have := (ho.lt p e).1; omega
    have HO := Lib.hid ho
    have HP := Lib.hid hvp
    have HXS := Lib.hid hxs
    clear ho hvp hxs
    go_wp2_with fail
    (go_at_call 35; refine (spec_l01Below p vb bs _ _ _ _ hc1 (by omega)).mono ?_; rintro e w2 ⟨x, i2, h2', rfl, ⟨hx0, hx1, _⟩, hg2, hj0, hj1⟩)
    have hc2 := hc1.got hg2 hj0 hj1
    have hx2 := hx1 (by omega)
    clear hx1
    by_cases hlt : (xs.length : Int) < x
    · go_wp2_with fail
      (go_at_call 30; refine (spec_l20SmallA p vb bs _ _ _ hc2).mono ?_; rintro e w3 ⟨y, d, fy, i3, h3, rfl, hoy, hly, hy0, hy1, hg3, hk0, hk1⟩; have HOY := Lib.hid hoy; have HLY := Lib.hid hly; clear hoy hly)
      have hc3 := hc2.got hg3 hk0 hk1
      unfold TxR.v Raw.v
      have hown3 : OwnL rTx 31 w3 w.heap.size _ xs := (HO.out.got hg2 HP.out).got hg3 HP.out
      have hgg := (hg.then hg2 hp).then hg3 hp
      have hs3 := hgg.size
      have hr3 : Hid (RowsOwn vTx w3 (xs.map TxR.cells) fps ds) := rows_got (rows_got HRO.out hg2 (fun b hb => by have := HLO.out b hb; omega)) hg3 (fun b hb => by have := HLO.out b hb; omega)
      have hz2 := hg2.size
      have hz0 := hg.size
      go_wp2_with (at_builtin; refine Stop.here ?_)
      refine wpList_appL rfl _ _ _ rfl Try.elemTxs ((hown3.alloc _).alloc _) rfl (RdL.oneAt rTx (w3.alloc _) ⟨xs.length + 1, y.age, y.proc, y.began, y.calls, y.answers, y.tr, y.tw, y.marks, y.state⟩ _ rfl _ (w3.heap.size + 1) (by simp)) rfl (by simp only [List.length_singleton]; omega) (by simp only [List.length_singleton]; unfold maxLen; omega) (by simp; omega) ?_
      intro v4 w4 hown4 hgr4 _
      have hg4 : Got p w _ w4 := Got.app ((hgg.alloc _).alloc _) hgr4 ((hown3.alloc _).alloc _)
      have hro4 : Hid (RowsOwn vTx w4 ((xs ++ [(⟨xs.length + 1, y.age, y.proc, y.began, y.calls, y.answers, y.tr, y.tw, y.marks, y.state⟩ : TxR)]).map TxR.cells) (fps ++ [fy]) (ds ++ [{ d with id := xs.length + 1 }])) := by
        show RowsOwn _ _ _ _ _
        rw [List.map_append]
        have hdl : xs.length = ds.length := by have := HRO.out.cl; simpa using this
        have h1 : RowsOwn vTx w3 (xs.map TxR.cells ++ [_]) (fps ++ [fy]) (ds ++ [_]) := hr3.out.snoc (own_id HOY.out (xs.length + 1))
        exact rows_app ((h1.frame (fun b hb => Below.heap_alloc _ _ _ (h1.lt b hb))).frame (fun b hb => Below.heap_alloc _ _ _ (by simp; have := h1.lt b hb; omega))) ((hown3.alloc _).alloc _) hgr4
      clear hgr4
      go_wp2
      go_roundw
      case rel => exact ⟨xs.length + 1, _, _, _, i3, h3, by go_num, by omega, by simp, by
        intro x hx
        rcases List.mem_append.1 hx with hx | hx
        · exact HXS.out x hx
        · rw [List.mem_singleton.1 hx]; exact ⟨hy0, hy1⟩, HID.out.snoc (by have := HRO.out.cl; simp at this; omega), hro4.out, by
        intro b hb
        rw [List.flatten_append, List.mem_append] at hb
        rcases hb with hb | hb
        · exact HLO.out b hb
        · have := HLY.out b (by simpa using hb); omega, hown4, hg4, hk0, hk1⟩
      case measure => simp [intOf]; omega
    · go_wp2
      go_ret
      have hr2 := rows_got HRO.out hg2 (fun b hb => by have := HLO.out b hb; omega)
      obtain ⟨fp, h1, h2⟩ := own_txs (HO.out.got hg2 HP.out) hr2 HLO.out
      exact ⟨_, ds, fp, i2, h2', rfl, h1, h2, by have := HRO.out.cl; simp at this; omega, HXS.out, HID.out, hg.then hg2 hp, hj0, hj1⟩
end Go.Proofs.Ytmhopglbgaijiaa
