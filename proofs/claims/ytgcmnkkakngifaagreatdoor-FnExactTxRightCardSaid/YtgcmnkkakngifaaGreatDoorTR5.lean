/- Texts of this claim, merged: the walks and what they stand on. Each condition stands in its theorem. -/
import Derived.Test.YtgcmnkkakngifaaGreatDoorTR4
set_option linter.unusedVariables false
set_option linter.unusedSimpArgs false
set_option maxRecDepth 100000
set_option maxHeartbeats 8000000
namespace Go.Proofs.YtgcmnkkakngifaaGreatDoor
open Go.ChangeShapes Go.WideShapes Go.ChangeAt Go.RowKit
theorem law_TxRight (v0:Value) (d0:List CellD) (cs1:List Value) (d1:TxD) (w:World) (hg:Glob w) (hs0:(vSlice zfN 68).rd w [v0] d0) (hs1:(vWith vTx TxD.rng).rd w cs1 d1):Calls Tryz.prog 3 #[v0,.agg cs1.toArray] w (Yes w):=by
 unfold Yes
 have HRNG:Hid d1.rng:=hs1.2
 have HF:Hid (∀ s ∈ stepsOf d1,s.fine):=steps_fine hs1.1 hs1.2
 have hs1:=hs1.1
 obtain ⟨ba0,bc0,ba1,bc1,ba2,bc2,ba3,bc3,ba4,bc4,rfl⟩:=vTx_shape hs1
 obtain ⟨a0,c0,rfl⟩:=vSlice.form hs0
 have H0:=Lib.hid hs0
 have H1:Hid (vTx.rd w _ d1):=hs1
 have HG:=Lib.hid hg
 clear hs0 hs1 hg
 go_enter Tryz.func3,Tryz.ntmps3
 have BX:=Lib.hid (Below.refl (w.alloc (.cells #[.int .i64 d1.id,.int .i64 d1.age,.int .i64 d1.proc,.int .i64 d1.began,.slice ba0 d1.calls.length bc0,.slice ba1 d1.answers.length bc1,.slice ba2 d1.touch.reads.length bc2,.slice ba3 d1.touch.writes.length bc3,.slice ba4 d1.marks.length bc4,.int .i64 d1.state] 30)).heap.size (w.alloc (.cells #[.int .i64 d1.id,.int .i64 d1.age,.int .i64 d1.proc,.int .i64 d1.began,.slice ba0 d1.calls.length bc0,.slice ba1 d1.answers.length bc1,.slice ba2 d1.touch.reads.length bc2,.slice ba3 d1.touch.writes.length bc3,.slice ba4 d1.marks.length bc4,.int .i64 d1.state] 30)))
 have BW:Hid (Below w.heap.size w (w.alloc (.cells #[.int .i64 d1.id,.int .i64 d1.age,.int .i64 d1.proc,.int .i64 d1.began,.slice ba0 d1.calls.length bc0,.slice ba1 d1.answers.length bc1,.slice ba2 d1.touch.reads.length bc2,.slice ba3 d1.touch.writes.length bc3,.slice ba4 d1.marks.length bc4,.int .i64 d1.state] 30))):=Lib.hid (by repeat (first|with_reducible exact Below.refl _ _|with_reducible apply Below.ofAlloc))
 go_wp2_with fail
 (go_at_call 9;refine (laws_szCellS _ d0 _ _ (View.grow _ H0.out (Grew.below BW.out)) (by omega) (by omega)).mono ?_;rintro e w1 ⟨rfl,hb⟩)
 replace BW:=Lib.hid (Below.then BW.out hb)
 replace BX:=Lib.hid (Below.then BX.out hb)
 clear hb
 obtain ⟨⟨z1,y1⟩,rfl⟩:=BX.out.ext
 obtain ⟨q0,q0e⟩ : ∃ q:Nat,q=wtS CellD.wt d0:=⟨_,rfl⟩
 rw [<- q0e]
 have Q0:=Lib.hid q0e
 clear q0e
 by_cases g0:(q0:Int)<=1048576
 case neg =>
  rw [zbD g0]
  go_wp2
  go_ret
  exact ⟨rfl,BW.out⟩
 rw [zek g0]
 have n0:¬ (1048576 - (q0:Int):Int) < 0:=by omega
 go_wp2_with fail
 (go_at_call 10;refine (laws_szTx _ d1 _ _ (View.grow _ H1.out (Grew.below BW.out)) (by omega) (by omega)).mono ?_;rintro e w2 ⟨rfl,hb⟩)
 replace BW:=Lib.hid (Below.then BW.out hb)
 replace BX:=Lib.hid (Below.then BX.out hb)
 clear hb
 obtain ⟨⟨z2,y2⟩,rfl⟩:=BX.out.ext
 obtain ⟨q1,q1e⟩ : ∃ q:Nat,q=d1.wt:=⟨_,rfl⟩
 rw [<- q1e]
 have Q1:=Lib.hid q1e
 clear q1e
 by_cases g1:(q1:Int)<=1048576 - (q0:Int)
 case neg =>
  rw [zbD g1]
  go_wp2
  go_ret
  exact ⟨rfl,BW.out⟩
 rw [zek g1]
 have n1:¬ (1048576 - (q0:Int) - (q1:Int):Int) < 0:=by omega
 have HSUM:Hid (wtS CellD.wt d0 + d1.wt<=1048576):=by
  have t0:=Q0.out
  have t1:=Q1.out
  show _<=_
  omega
 have HL0:Hid (d0.length<=1048576):=by have:=HSUM.out;unfold wtS at this;show _<=_;omega
 have L1:Hid (d1.wt<=1048576):=by have:=HSUM.out;show _<=_;omega
 have HLC:Hid (d1.calls.length<=1048576):=(Tx_lens L1.out).1
 have HLW:Hid (d1.touch.writes.length<=1048576):=by
  have:=L1.out
  show _<=_
  unfold TxD.wt zio wtS at this
  omega
 have HCNT:Hid ((1:Int) + (2 * d0.length:Nat) + (cntTx d1:Nat)<=4294960000):=by
  have h1:cntTx d1<=6 * d1.wt:=by unfold cntTx cntTouch TxD.wt zio wtS;omega
  have:=L1.out
  have:=HL0.out
  show _<=_
  omega
 have HW:=Lib.hid (view_whole HF.out HSUM.out)
 obtain ⟨ans,m,hr⟩ : ∃ ans m,(K.runAll (stepsOf d1)).run ⟨d0,[],[]⟩ = (ans,m):=⟨_,_,rfl⟩
 have HSM:Hid (Mp.Small m):=by have:=Mp.fits_end HW.out.2.1;rw [hr] at this;exact this
 have HOK:Hid (∀ a ∈ ans,a.ok):=by have:=HW.out.2.2.1;rw [hr] at this;exact this
 have HR:=Lib.hid hr
 clear hr
 obtain ⟨bb,hbb⟩ : ∃ bb,bb=rightOf ans m d1:=⟨_,rfl⟩
 have HBB:=Lib.hid hbb
 clear hbb
 go_wp2
 refine zgv [(0,true),(2,true),(1,false),(3,false),(4,false),(5,false)] 5 (by kernel_rfl) (by kernel_rfl) ?_
 have hb:=below_dr (w.alloc (.cells #[.int .i64 d1.id,.int .i64 d1.age,.int .i64 d1.proc,.int .i64 d1.began,.slice ba0 d1.calls.length bc0,.slice ba1 d1.answers.length bc1,.slice ba2 d1.touch.reads.length bc2,.slice ba3 d1.touch.writes.length bc3,.slice ba4 d1.marks.length bc4,.int .i64 d1.state] 30)) z2 y2 (y2 + 1)
 have BR:=Lib.hid hb
 replace BW:=Lib.hid (Below.then BW.out hb)
 replace BX:=Lib.hid (Below.then BX.out hb)
 clear hb
 repeat (refine zl rfl (fun K hK=>?_);go_simp;(try simp (disch:=omega) only [IntWalk.i64_in]);refine hK _ ?_;clear hK K)
 refine zt rfl (fun K hK=>?_);go_simp;go_at_call 12;refine (laws_toCellS _ d0 _ (View.grow _ H0.out (Grew.below BW.out)) HL0.out).mono ?_;rintro e w3 ⟨u,fpA0,rfl,hf,hb⟩;obtain ⟨xA0,yA0,rfl⟩:=vSlice.form (View.toRd _ hf.own);try go_simp;refine hK _ _ ((Below.then BR.out hb).ext) ?_;clear hK K
 have OO:=Lib.hid hf.own
 clear hf
 replace BR:=Lib.hid (Below.then BR.out hb)
 replace BW:=Lib.hid (Below.then BW.out hb)
 replace BX:=Lib.hid (Below.then BX.out hb)
 clear hb
 have OA0:=Lib.hid OO.out
 clear OO
 obtain ⟨⟨z3,y3⟩,rfl⟩:=BX.out.ext
 refine zt rfl (fun K hK=>?_);go_simp;go_at_call 13;refine (laws_toTx _ d1 _ (View.grow _ H1.out (Grew.below BW.out)) L1.out).mono ?_;rintro e w4 ⟨csqA1,fpA1,rfl,hf,hb⟩;obtain ⟨A1a0,A1c0,A1a1,A1c1,A1a2,A1c2,A1a3,A1c3,A1a4,A1c4,rfl⟩:=vTx_shape (View.toRd _ hf.own);try go_simp;refine hK _ _ ((Below.then BR.out hb).ext) ?_;clear hK K
 have OO:=Lib.hid hf.own
 clear hf
 replace BR:=Lib.hid (Below.then BR.out hb)
 replace BW:=Lib.hid (Below.then BW.out hb)
 replace BX:=Lib.hid (Below.then BX.out hb)
 replace OA0:=Lib.hid (View.own_below OA0.out hb)
 clear hb
 have OA1:=Lib.hid OO.out
 clear OO
 obtain ⟨⟨z4,y4⟩,rfl⟩:=BX.out.ext
 have DS:=Lib.hid (spec_TxRight _ _ d0 d1 _ (rdl_of_own (R:=zu) rfl OA0.out) (View.toRd _ OA1.out) HF.out HL0.out HLC.out HW.out.1 ans m HR.out HSM.out HOK.out)
 rw [<- HBB.out] at DS
 refine zt rfl (fun K hK=>?_);go_simp;go_at_call 11;refine (DS.out).mono ?_;rintro e W ⟨rfl,hb⟩;try go_simp;refine hK _ _ ((Below.then BR.out hb).ext) ?_;clear hK K
 clear DS
 replace BR:=Lib.hid (Below.then BR.out hb)
 replace BW:=Lib.hid (Below.then BW.out hb)
 replace BX:=Lib.hid (Below.then BX.out hb)
 clear hb OA0 OA1
 obtain ⟨⟨z5,y5⟩,rfl⟩:=BX.out.ext
 have BS:Hid (w.heap.size<=((w.alloc (.cells #[.int .i64 d1.id,.int .i64 d1.age,.int .i64 d1.proc,.int .i64 d1.began,.slice ba0 d1.calls.length bc0,.slice ba1 d1.answers.length bc1,.slice ba2 d1.touch.reads.length bc2,.slice ba3 d1.touch.writes.length bc3,.slice ba4 d1.marks.length bc4,.int .i64 d1.state] 30)).ext ⟨z5,y5⟩).heap.size):=BW.out.size
 have BSX:Hid ((w.alloc (.cells #[.int .i64 d1.id,.int .i64 d1.age,.int .i64 d1.proc,.int .i64 d1.began,.slice ba0 d1.calls.length bc0,.slice ba1 d1.answers.length bc1,.slice ba2 d1.touch.reads.length bc2,.slice ba3 d1.touch.writes.length bc3,.slice ba4 d1.marks.length bc4,.int .i64 d1.state] 30)).heap.size<=((w.alloc (.cells #[.int .i64 d1.id,.int .i64 d1.age,.int .i64 d1.proc,.int .i64 d1.began,.slice ba0 d1.calls.length bc0,.slice ba1 d1.answers.length bc1,.slice ba2 d1.touch.reads.length bc2,.slice ba3 d1.touch.writes.length bc3,.slice ba4 d1.marks.length bc4,.int .i64 d1.state] 30)).ext ⟨z5,y5⟩).heap.size):=BX.out.size
 have BC:=Lib.hid (Below.refl ((w.alloc (.cells #[.int .i64 d1.id,.int .i64 d1.age,.int .i64 d1.proc,.int .i64 d1.began,.slice ba0 d1.calls.length bc0,.slice ba1 d1.answers.length bc1,.slice ba2 d1.touch.reads.length bc2,.slice ba3 d1.touch.writes.length bc3,.slice ba4 d1.marks.length bc4,.int .i64 d1.state] 30)).ext ⟨z5,y5⟩).heap.size ((w.alloc (.cells #[.int .i64 d1.id,.int .i64 d1.age,.int .i64 d1.proc,.int .i64 d1.began,.slice ba0 d1.calls.length bc0,.slice ba1 d1.answers.length bc1,.slice ba2 d1.touch.reads.length bc2,.slice ba3 d1.touch.writes.length bc3,.slice ba4 d1.marks.length bc4,.int .i64 d1.state] 30)).ext ⟨z5,y5⟩))
 repeat (refine zw rfl rfl (fun K hK=>?_);go_simp;refine hK _ _ ?_;clear hK K)
 refine zae ?_
 clear BR
 go_wp2_with fail
 (go_at_call 12;refine (laws_toCellS _ d0 _ (View.grow _ H0.out (Grew.below BW.out)) HL0.out).mono ?_;rintro e w5 ⟨u,fpK0,rfl,hf,hb⟩;obtain ⟨xK0,yK0,rfl⟩:=vSlice.form (View.toRd _ hf.own))
 have OO:=Lib.hid hf.own
 clear hf
 replace BW:=Lib.hid (Below.then BW.out hb)
 replace BX:=Lib.hid (Below.then BX.out hb)
 replace BC:=Lib.hid (Below.then BC.out hb)
 clear hb
 have OK0:=Lib.hid OO.out
 clear OO
 obtain ⟨⟨z6,y6⟩,rfl⟩:=BX.out.ext
 go_wp2_with fail
 (go_at_call 13;refine (laws_toTx _ d1 _ (View.grow _ H1.out (Grew.below BW.out)) L1.out).mono ?_;rintro e w6 ⟨csqK1,fpK1,rfl,hf,hb⟩;obtain ⟨K1a0,K1c0,K1a1,K1c1,K1a2,K1c2,K1a3,K1c3,K1a4,K1c4,rfl⟩:=vTx_shape (View.toRd _ hf.own))
 have OO:=Lib.hid hf.own
 clear hf
 replace BW:=Lib.hid (Below.then BW.out hb)
 replace BX:=Lib.hid (Below.then BX.out hb)
 replace BC:=Lib.hid (Below.then BC.out hb)
 replace OK0:=Lib.hid (View.own_below OK0.out hb)
 clear hb
 have OK1:=Lib.hid OO.out
 clear OO
 obtain ⟨⟨z7,y7⟩,rfl⟩:=BX.out.ext
 go_wp2_with fail
 have XB:Hid ((((w.alloc (.cells #[.int .i64 d1.id,.int .i64 d1.age,.int .i64 d1.proc,.int .i64 d1.began,.slice ba0 d1.calls.length bc0,.slice ba1 d1.answers.length bc1,.slice ba2 d1.touch.reads.length bc2,.slice ba3 d1.touch.writes.length bc3,.slice ba4 d1.marks.length bc4,.int .i64 d1.state] 30)).ext ⟨z7,y7⟩).alloc (.cells #[.int .i64 d1.id,.int .i64 d1.age,.int .i64 d1.proc,.int .i64 d1.began,.slice K1a0 d1.calls.length K1c0,.slice K1a1 d1.answers.length K1c1,.slice K1a2 d1.touch.reads.length K1c2,.slice K1a3 d1.touch.writes.length K1c3,.slice K1a4 d1.marks.length K1c4,.int .i64 d1.state] 40)).heap[((w.alloc (.cells #[.int .i64 d1.id,.int .i64 d1.age,.int .i64 d1.proc,.int .i64 d1.began,.slice ba0 d1.calls.length bc0,.slice ba1 d1.answers.length bc1,.slice ba2 d1.touch.reads.length bc2,.slice ba3 d1.touch.writes.length bc3,.slice ba4 d1.marks.length bc4,.int .i64 d1.state] 30)).ext ⟨z7,y7⟩).heap.size]?=some (.cells #[.int .i64 d1.id,.int .i64 d1.age,.int .i64 d1.proc,.int .i64 d1.began,.slice K1a0 d1.calls.length K1c0,.slice K1a1 d1.answers.length K1c1,.slice K1a2 d1.touch.reads.length K1c2,.slice K1a3 d1.touch.writes.length K1c3,.slice K1a4 d1.marks.length K1c4,.int .i64 d1.state] 40)):=alloc_at _ _
 have PK:Hid (∀ x ∈ fpK0,x < ((w.alloc (.cells #[.int .i64 d1.id,.int .i64 d1.age,.int .i64 d1.proc,.int .i64 d1.began,.slice ba0 d1.calls.length bc0,.slice ba1 d1.answers.length bc1,.slice ba2 d1.touch.reads.length bc2,.slice ba3 d1.touch.writes.length bc3,.slice ba4 d1.marks.length bc4,.int .i64 d1.state] 30)).ext ⟨z7,y7⟩).heap.size):=fun x h=>View.lt _ OK0.out x h
 have hb:=Below.ofAlloc (Below.refl ((w.alloc (.cells #[.int .i64 d1.id,.int .i64 d1.age,.int .i64 d1.proc,.int .i64 d1.began,.slice ba0 d1.calls.length bc0,.slice ba1 d1.answers.length bc1,.slice ba2 d1.touch.reads.length bc2,.slice ba3 d1.touch.writes.length bc3,.slice ba4 d1.marks.length bc4,.int .i64 d1.state] 30)).ext ⟨z7,y7⟩).heap.size ((w.alloc (.cells #[.int .i64 d1.id,.int .i64 d1.age,.int .i64 d1.proc,.int .i64 d1.began,.slice ba0 d1.calls.length bc0,.slice ba1 d1.answers.length bc1,.slice ba2 d1.touch.reads.length bc2,.slice ba3 d1.touch.writes.length bc3,.slice ba4 d1.marks.length bc4,.int .i64 d1.state] 30)).ext ⟨z7,y7⟩)) (.cells #[.int .i64 d1.id,.int .i64 d1.age,.int .i64 d1.proc,.int .i64 d1.began,.slice K1a0 d1.calls.length K1c0,.slice K1a1 d1.answers.length K1c1,.slice K1a2 d1.touch.reads.length K1c2,.slice K1a3 d1.touch.writes.length K1c3,.slice K1a4 d1.marks.length K1c4,.int .i64 d1.state] 40)
 replace BW:=Lib.hid (Below.then BW.out hb)
 replace BX:=Lib.hid (Below.then BX.out hb)
 replace BC:=Lib.hid (Below.then BC.out hb)
 replace OK0:=Lib.hid (View.own_below OK0.out hb)
 replace OK1:=Lib.hid (View.own_below OK1.out hb)
 clear hb
 have BX2:=Lib.hid (Below.refl (((w.alloc (.cells #[.int .i64 d1.id,.int .i64 d1.age,.int .i64 d1.proc,.int .i64 d1.began,.slice ba0 d1.calls.length bc0,.slice ba1 d1.answers.length bc1,.slice ba2 d1.touch.reads.length bc2,.slice ba3 d1.touch.writes.length bc3,.slice ba4 d1.marks.length bc4,.int .i64 d1.state] 30)).ext ⟨z7,y7⟩).alloc (.cells #[.int .i64 d1.id,.int .i64 d1.age,.int .i64 d1.proc,.int .i64 d1.began,.slice K1a0 d1.calls.length K1c0,.slice K1a1 d1.answers.length K1c1,.slice K1a2 d1.touch.reads.length K1c2,.slice K1a3 d1.touch.writes.length K1c3,.slice K1a4 d1.marks.length K1c4,.int .i64 d1.state] 40)).heap.size (((w.alloc (.cells #[.int .i64 d1.id,.int .i64 d1.age,.int .i64 d1.proc,.int .i64 d1.began,.slice ba0 d1.calls.length bc0,.slice ba1 d1.answers.length bc1,.slice ba2 d1.touch.reads.length bc2,.slice ba3 d1.touch.writes.length bc3,.slice ba4 d1.marks.length bc4,.int .i64 d1.state] 30)).ext ⟨z7,y7⟩).alloc (.cells #[.int .i64 d1.id,.int .i64 d1.age,.int .i64 d1.proc,.int .i64 d1.began,.slice K1a0 d1.calls.length K1c0,.slice K1a1 d1.answers.length K1c1,.slice K1a2 d1.touch.reads.length K1c2,.slice K1a3 d1.touch.writes.length K1c3,.slice K1a4 d1.marks.length K1c4,.int .i64 d1.state] 40)))
 have DI:=Lib.hid (impl_TxRight _ _ d0 d1 _ (HG.out.below BW.out) (rdl_of_own (R:=zu) rfl OK0.out) (View.toRd _ OK1.out) HF.out HL0.out HLC.out HW.out.2.1 ans m HR.out HSM.out HOK.out)
 rw [<- HBB.out] at DI
 (go_at_call 14;refine (DI.out).mono ?_;rintro e w7 ⟨rfl,hb⟩)
 clear DI
 replace BW:=Lib.hid (Below.then BW.out hb)
 replace BX:=Lib.hid (Below.then BX.out hb)
 replace BX2:=Lib.hid (Below.then BX2.out hb)
 replace XB:=Lib.hid ((Grew.below hb _ (za XB.out)).trans XB.out)
 replace BC:=Lib.hid (Below.then BC.out hb)
 replace OK0:=Lib.hid (View.own_below OK0.out hb)
 replace OK1:=Lib.hid (View.own_below OK1.out hb)
 clear hb
 obtain ⟨⟨z8,y8⟩,rfl⟩:=BX2.out.ext
 have hne:(bb != bb)=false:=by cases bb<;>rfl
 go_wp2_with fail
 (go_at_call 12;refine (laws_toCellS _ d0 _ (View.grow _ H0.out (Grew.below BW.out)) HL0.out).mono ?_;rintro e w8 ⟨u,fpE0,rfl,hf,hb⟩;obtain ⟨xE0,yE0,rfl⟩:=vSlice.form (View.toRd _ hf.own))
 have OO:=Lib.hid hf.own
 clear hf
 replace BW:=Lib.hid (Below.then BW.out hb)
 replace BX:=Lib.hid (Below.then BX.out hb)
 replace BX2:=Lib.hid (Below.then BX2.out hb)
 replace XB:=Lib.hid ((Grew.below hb _ (za XB.out)).trans XB.out)
 replace BC:=Lib.hid (Below.then BC.out hb)
 replace OK0:=Lib.hid (View.own_below OK0.out hb)
 replace OK1:=Lib.hid (View.own_below OK1.out hb)
 clear hb
 have OE0:=Lib.hid OO.out
 clear OO
 obtain ⟨⟨z9,y9⟩,rfl⟩:=BX2.out.ext
 go_wp2_with fail
 (go_at_call 15;refine (laws_eqCellS _ _ d0 _ (View.toRd _ OK0.out) (View.toRd _ OE0.out)).mono ?_;rintro e w9 ⟨rfl,hb⟩)
 replace BW:=Lib.hid (Below.then BW.out hb)
 replace BX:=Lib.hid (Below.then BX.out hb)
 replace BX2:=Lib.hid (Below.then BX2.out hb)
 replace XB:=Lib.hid ((Grew.below hb _ (za XB.out)).trans XB.out)
 replace BC:=Lib.hid (Below.then BC.out hb)
 replace OK0:=Lib.hid (View.own_below OK0.out hb)
 replace OK1:=Lib.hid (View.own_below OK1.out hb)
 replace OE0:=Lib.hid (View.own_below OE0.out hb)
 clear hb
 obtain ⟨⟨z10,y10⟩,rfl⟩:=BX2.out.ext
 clear OE0
 go_wp2
 refine zgv [(0,true),(1,true),(2,false),(3,false),(4,true)] 5 (by kernel_rfl) (by kernel_rfl) ?_
 have hb:=below_dr ((((w.alloc (.cells #[.int .i64 d1.id,.int .i64 d1.age,.int .i64 d1.proc,.int .i64 d1.began,.slice ba0 d1.calls.length bc0,.slice ba1 d1.answers.length bc1,.slice ba2 d1.touch.reads.length bc2,.slice ba3 d1.touch.writes.length bc3,.slice ba4 d1.marks.length bc4,.int .i64 d1.state] 30)).ext ⟨z7,y7⟩).alloc (.cells #[.int .i64 d1.id,.int .i64 d1.age,.int .i64 d1.proc,.int .i64 d1.began,.slice K1a0 d1.calls.length K1c0,.slice K1a1 d1.answers.length K1c1,.slice K1a2 d1.touch.reads.length K1c2,.slice K1a3 d1.touch.writes.length K1c3,.slice K1a4 d1.marks.length K1c4,.int .i64 d1.state] 40))) z10 y10 (y10 + 1)
 have BR:=Lib.hid hb
 replace BW:=Lib.hid (Below.then BW.out hb)
 replace BX:=Lib.hid (Below.then BX.out hb)
 replace BX2:=Lib.hid (Below.then BX2.out hb)
 replace XB:=Lib.hid ((Grew.below hb _ (za XB.out)).trans XB.out)
 replace BC:=Lib.hid (Below.then BC.out hb)
 replace OK0:=Lib.hid (View.own_below OK0.out hb)
 replace OK1:=Lib.hid (View.own_below OK1.out hb)
 clear hb
 repeat (refine zl rfl (fun K hK=>?_);go_simp;(try simp (disch:=omega) only [IntWalk.i64_in]);refine hK _ ?_;clear hK K)
 refine zt rfl (fun K hK=>?_);go_simp;go_at_call 13;refine (laws_toTx _ d1 _ (View.grow _ H1.out (Grew.below BW.out)) L1.out).mono ?_;rintro e w10 ⟨csqE1,fpE1,rfl,hf,hb⟩;obtain ⟨E1a0,E1c0,E1a1,E1c1,E1a2,E1c2,E1a3,E1c3,E1a4,E1c4,rfl⟩:=vTx_shape (View.toRd _ hf.own);try go_simp;refine hK _ _ ((Below.then BR.out hb).ext) ?_;clear hK K
 have OO:=Lib.hid hf.own
 clear hf
 replace BR:=Lib.hid (Below.then BR.out hb)
 replace BW:=Lib.hid (Below.then BW.out hb)
 replace BX:=Lib.hid (Below.then BX.out hb)
 replace BX2:=Lib.hid (Below.then BX2.out hb)
 replace XB:=Lib.hid ((Grew.below hb _ (za XB.out)).trans XB.out)
 replace BC:=Lib.hid (Below.then BC.out hb)
 replace OK0:=Lib.hid (View.own_below OK0.out hb)
 replace OK1:=Lib.hid (View.own_below OK1.out hb)
 clear hb
 have OE1:=Lib.hid OO.out
 clear OO
 obtain ⟨⟨z11,y11⟩,rfl⟩:=BX2.out.ext
 refine zt rfl (fun K hK=>?_);go_simp;go_at_call 16;refine (laws_eqTx _ _ d1 _ (View.toRd _ OK1.out) (View.toRd _ OE1.out)).mono ?_;rintro e w11 ⟨rfl,hb⟩;try go_simp;refine hK _ _ ((Below.then BR.out hb).ext) ?_;clear hK K
 replace BR:=Lib.hid (Below.then BR.out hb)
 replace BW:=Lib.hid (Below.then BW.out hb)
 replace BX:=Lib.hid (Below.then BX.out hb)
 replace BX2:=Lib.hid (Below.then BX2.out hb)
 replace XB:=Lib.hid ((Grew.below hb _ (za XB.out)).trans XB.out)
 replace BC:=Lib.hid (Below.then BC.out hb)
 replace OK0:=Lib.hid (View.own_below OK0.out hb)
 replace OK1:=Lib.hid (View.own_below OK1.out hb)
 replace OE1:=Lib.hid (View.own_below OE1.out hb)
 clear hb
 obtain ⟨⟨z12,y12⟩,rfl⟩:=BX2.out.ext
 clear OE1
 repeat (refine zl rfl (fun K hK=>?_);go_simp;(try simp (disch:=omega) only [IntWalk.i64_in]);refine hK _ ?_;clear hK K)
 refine zae ?_
 clear BR
 go_wp2
 go_ret
 exact ⟨rfl,BW.out⟩
end Go.Proofs.YtgcmnkkakngifaaGreatDoor
