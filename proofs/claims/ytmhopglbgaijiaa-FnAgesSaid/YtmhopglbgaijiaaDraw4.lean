/- The drawing functions of the reference: access sets. Each condition stands in its theorem. -/
import Derived.Test.YtmhopglbgaijiaaDraw3
set_option linter.unusedVariables false
set_option linter.unusedSimpArgs false
namespace Go.Proofs.Ytmhopglbgaijiaa
open Go.ChangeShapes Go.WideShapes Go.ChangeAt Go.RowKit

def nilS : Value := .slice none 0 0
def touchObj (vr vw : Value) : Obj := .cells #[vr, vw] 28 (0, 0)
set_option maxRecDepth 100000 in
theorem spec_l03Touch (p : Nat) (vb : Value) (bs : List UInt8) (i h : Int) (w : World) (hc : Cur w p vb bs i h) :
    Calls Try.prog 32 #[.pointer (some ⟨p, 0, none⟩)] w fun e w' => ∃ vr vw rs ws i' h', e = .returned (.agg #[vr, vw]) ∧ RdL rStr w' vr rs ∧ RdL rStr w' vw ws ∧ rs.length ≤ 4 ∧ ws.length ≤ 4 ∧
      (∀ b, vr.ownBlock = some b → w.heap.size ≤ b ∧ b < w'.heap.size) ∧ (∀ b, vw.ownBlock = some b → w.heap.size ≤ b ∧ b < w'.heap.size) ∧ Got p w (curObj vb i' h') w' ∧ 0 ≤ i' ∧ i' ≤ bs.length := by
  have hp := hc.lt
  have HC := Lib.hid hc
  clear hc
  go_enter Try.func32, Try.ntmps32
  go_wp2_with fail
  (go_at_call 53; refine (spec_l03List p vb bs _ _ _ (HC.out.alloc _)).mono ?_; rintro e w1 ⟨vr, rs, i1, h1, rfl, hr, hl, hv, hg, hi0, hi1⟩)
  obtain ⟨ar, cr, rfl⟩ := hr.form
  have hg1 := hg.ofAlloc hp
  have hz1 := hg.size
  have h2 : w1.heap[w.heap.size]? = some (touchObj nilS nilS) := by
    rw [hg.other (by simp) (by omega)]
    show (w.heap.push _)[w.heap.size]? = _
    simp [touchObj, nilS]
  have HG := Lib.hid hg1
  have HV := Lib.hid hv
  have H2 := Lib.hid h2
  have HR := Lib.hid hr
  clear hg hg1 hv h2 hr
  go_wp2
  go_loopw [4] (fun k wr => ∃ (n : Nat) (vw : Value) (ws : List ByteArray) (i' h' : Int), k = .int .i64 n ∧ n ≤ 3 ∧ ws.length ≤ n ∧ RdL rStr wr vw ws ∧ (∀ b, vw.ownBlock = some b → w.heap.size ≤ b ∧ b < wr.heap.size ∧ b ≠ w1.heap.size ∧ b ≠ w.heap.size) ∧
    wr.heap[w1.heap.size]? = some (touchObj (.slice ar rs.length cr) vw) ∧ wr.heap[w.heap.size]? = some (touchObj nilS nilS) ∧ RdL rStr wr (.slice ar rs.length cr) rs ∧ Got p w (curObj vb i' h') wr ∧ 0 ≤ i' ∧ i' ≤ bs.length) (fun k _ => 3 - (intOf k).toNat)
  case atStart =>
    refine ⟨0, nilS, [], i1, h1, rfl, by omega, by simp, RdL.nil _ _, fun b hb => by simp [Value.ownBlock, nilS] at hb, ?_, ?_, HR.out.alloc _, HG.out.alloc _, hi0, hi1⟩
    · show (w1.heap.push _)[w1.heap.size]? = _
      simp [touchObj, nilS]
    · rw [Below.heap_alloc _ _ _ (by simp at hz1; omega)]
      exact H2.out
  case round =>
    obtain ⟨n, vw, ws, i2, h2, rfl, hn, hl2, hr2, hv2, hb3, hb2, hr1, hg2, hj0, hj1⟩ := hrel
    have hc2 := HC.out.got hg2 hj0 hj1
    obtain ⟨aw, cw, rfl⟩ := hr2.form
    go_wp2_with fail
    (go_at_call 35; refine (spec_l01Below p vb bs _ _ _ _ hc2 (by omega)).mono ?_; rintro e w3 ⟨x, i3, h3, rfl, ⟨hx0, hx1, _⟩, hg3, hk0, hk1⟩)
    have hc3 := hc2.got hg3 hk0 hk1
    have hx2 := hx1 (by omega)
    clear hx1
    have hzr := World.lt_of_get hb3
    have hz3 := hg3.size
    have hne3 : w1.heap.size ≠ p := by simp at hz1; omega
    have hb3' := (hg3.other hzr hne3).trans hb3
    have hb2' := (hg3.other (World.lt_of_get hb2) (by omega)).trans hb2
    have hr1' := hr1.got hg3 (fun e => by have := (HV.out p e).1; simp at this; omega)
    have hr2' := hr2.got hg3 (fun e => by have := (hv2 p e).1; omega)
    have hg3' := hg2.then hg3 hp
    have HB3 := Lib.hid hb3'
    have HB2 := Lib.hid hb2'
    have HR1 := Lib.hid hr1'
    have HR2 := Lib.hid hr2'
    have HV2 := Lib.hid hv2
    have HZ1 := Lib.hid hz1
    clear hb3 hb2 hr1 hr2 hb3' hb2' hr1' hr2' hv2 hz1
    by_cases hlt : (n : Int) < x
    · go_wp2
      have hzz : w1.heap.size < w3.heap.size := by omega
      have hcl : w3.cell? ⟨w1.heap.size, 1, none⟩ = some (.slice aw ws.length cw) := World.cell?_of_get HB3.out
      have hb1 : w1.heap.size ≠ p := hne3
      refine wp_region_ordF (SpF w3 p) [(0,true),(1,true),(2,true),(3,false),(4,false),(5,false),(6,false)] 5 (by kernel_rfl) (by kernel_rfl) (Sp.start hc3.blk) ?_
      repeat (refine wpOrd_quiet rfl (fun K hK => ?_); go_simp; (try simp (disch := omega) only [IntWalk.i64_in]); refine hK _ ?_; clear hK K)
      refine wpOrd_grow rfl (fun K hK => ?_); go_simp; go_at_call 55; refine (spec_l02Key p vb bs _ _ _ hc3.drew).mono ?_; rintro e w4 ⟨y, i4, h4, rfl, hy, hg4, hm0, hm1⟩; try go_simp; refine hK _ _ (Sp.got (Sp.start hc3.blk) hg4 hc3.lt) ?_; clear hK K
      have hc4 := hc3.drew.got hg4 hm0 hm1
      have hz4 := hg4.size
      have hr4 := RdL.got (HR2.out : RdL rStr w3.drew _ ws) hg4 (fun e => by have := (HV2.out p e).1; omega)
      have hr14 := RdL.got (HR1.out : RdL rStr w3.drew _ rs) hg4 (fun e => by have := (HV.out p e).1; simp at this; omega)
      have h34 : w4.heap[w1.heap.size]? = some (touchObj (.slice ar rs.length cr) (.slice aw ws.length cw)) := (hg4.other (by simpa using hzz) hne3).trans HB3.out
      have h24 : w4.heap[w.heap.size]? = some (touchObj nilS nilS) := (hg4.other (World.lt_of_get HB2.out) (by omega)).trans HB2.out
      have hg4' := hg3'.then (show Got p w3 _ w4 from hg4) hp
      have HR4 := Lib.hid hr4
      have HR14 := Lib.hid hr14
      have H34 := Lib.hid h34
      have H24 := Lib.hid h24
      clear hr4 hr14 h34 h24
      refine wpOrd_grow rfl (fun K hK => ?_); go_simp; go_at_call 54; refine (spec_AddSpan _ ws _ _ HR4.out (by omega)).mono ?_; rintro e w5 ⟨v5, rfl, ho5, hb5⟩; try go_simp; refine hK _ _ (Sp.below (Sp.got (Sp.start hc3.blk) hg4 hc3.lt) hb5) ?_; clear hK K
      have hz5 := hb5.size
      have hr15 := HR14.out.below hb5
      have h35 : w5.heap[w1.heap.size]? = _ := (hb5.block _ (World.lt_of_get H34.out)).trans H34.out
      have h25 : w5.heap[w.heap.size]? = _ := (hb5.block _ (World.lt_of_get H24.out)).trans H24.out
      have hzl : w1.heap.size < w5.heap.size := World.lt_of_get h35
      obtain ⟨a5, c5, rfl⟩ := ho5.rd.form
      have hlen := putS_length ws y
      refine wpOrd_at_block h35 ?_
      unfold touchObj
      repeat (refine wpOrd_tail rfl rfl (fun K hK => ?_); go_simp; refine hK _ _ ?_; clear hK K)
      refine wpOrd_nil ?_
      go_wp2
      go_roundw
      case rel =>
        refine ⟨n + 1, _, putS ws y, i4, h4, by go_num, by omega, by omega, ?_, fun b hb => by have := ho5.lt b hb; have := hg4'.size; have := HG.out.size; have := World.lt_of_get H34.out; have := World.lt_of_get H24.out; simp only [World.setB_size]; omega, World.setB_at _ _ _ hzl, ?_, ?_, ?_, hm0, hm1⟩
        · exact ho5.rd.setB (fun e => by have := (ho5.lt _ e).1; have := World.lt_of_get H34.out; omega) _
        · rw [World.setB_get _ _ _ _ (by have := HZ1.out; simp at this; omega)]
          exact h25
        · exact hr15.past (fun k e => (HV.out k e).2) _
        · exact (hg4'.ofBelow hb5).past (by have := HG.out.size; omega) _
      case measure => simp [intOf]; omega
    · have hw1 : w1.heap.size < w3.heap.size := World.lt_of_get HB3.out
      have hw0 : w.heap.size < w3.heap.size := World.lt_of_get HB2.out
      have hw01 : w.heap.size < w1.heap.size := by have := HZ1.out; simp at this; omega
      have hb2s : (w3.setB w1.heap.size (touchObj (.slice ar rs.length cr) (.slice aw ws.length cw))).heap[w.heap.size]? = some (touchObj nilS nilS) := by
        rw [World.setB_get _ _ _ _ (by omega)]
        exact HB2.out
      have hn01 : w1.heap.size ≠ w.heap.size := by omega
      have hnp : w.heap.size ≠ p := by omega
      rw [← World.setB_self HB3.out, ← World.setB_self hb2s]
      unfold touchObj nilS
      clear hb2s
      go_wp2
      refine bodyPost_ret (by simp [results, Try.results32, go_sem, hw0]; rfl) rfl ?_
      refine ⟨_, _, rs, ws, i3, h3, rfl, ?_, ?_, hl, by omega, ?_, ?_, (hg3'.past (by omega) _).past (by omega) _, hk0, hk1⟩
      · exact (HR1.out.past (fun k e => (HV.out k e).2) _).setB (fun e => by have := (HV.out _ e).1; simp at this; omega) _
      · exact (HR2.out.setB (fun e => (HV2.out _ e).2.2.1 rfl) _).setB (fun e => (HV2.out _ e).2.2.2 rfl) _
      · intro b hb
        have := HV.out b hb
        simp only [World.setB_size]
        simp at this
        omega
      · intro b hb
        have := HV2.out b hb
        simp only [World.setB_size]
        simp at this
        omega
end Go.Proofs.Ytmhopglbgaijiaa
