/- Texts of this claim, merged: the walks and what they stand on. Each condition stands in its theorem. -/
import Derived.Test.YtgcmnkkakngifaaGreatDoorTL4
set_option linter.unusedVariables false
set_option linter.unusedSimpArgs false
set_option maxRecDepth 100000
set_option maxHeartbeats 8000000
namespace Go.Proofs.YtgcmnkkakngifaaGreatDoor
open Go.ChangeShapes Go.WideShapes Go.ChangeAt Go.RowKit
theorem nd2 {A B:List Nat} (h:(A ++ B).Nodup):A.Nodup/\B.Nodup/\∀ x ∈ B,x ∉ A:=by
 rw [List.nodup_append] at h
 exact ⟨h.1,h.2.1,fun x hx hx'=>h.2.2 x hx' x hx rfl⟩
theorem rebox {fp:List Nat} {W w':World} {q:Nat} {o:Obj} (hu:Upon fp W w') (hq:W.heap[q]?=some o) (hn:q ∉ fp):∃ w1:World,w'=w1.setB q o/\q < w1.heap.size :=
 ⟨w',(zf ((hu.block q (za hq) hn).trans hq)).symm,Nat.lt_of_lt_of_le (za hq) hu.size⟩
theorem alloc_at (w:World) (o:Obj):(w.alloc o).heap[w.heap.size]?=some o:=by
 show (w.heap.push o)[w.heap.size]? = _
 simp
theorem upon_alloc (fp:List Nat) (w:World) (o:Obj):Upon fp w (w.alloc o):=Upon.below ((Below.refl _ _).ofAlloc o)
def cntTouch (d:TouchD):Nat:=1 * d.reads.length + 1 * d.writes.length
theorem laws_markTouch (cs:List Value) (fp:List Nat) (d:TouchD) (k:Int) (w:World) (hs:vTouch.own w fp cs d) (hn:fp.Nodup) (h0 : 0<=k) (h1:k + (cntTouch d:Nat)<=1125899906842000) :
  Calls Tryz.prog 29 #[.agg cs.toArray,.int .i64 k] w fun e w'=>e = .returned (.int .i64 (k + (cntTouch d:Nat)))/\Upon fp w w':=by
 have hlt:=View.lt _ hs
 obtain ⟨s0,s1,f0,f1,rfl,rfl,o0,o1⟩:=hs
 obtain ⟨a0,c0,rfl⟩:=vSlice.form (View.toRd _ o0)
 obtain ⟨a1,c1,rfl⟩:=vSlice.form (View.toRd _ o1)
 have HLT:=Lib.hid hlt
 have O0:=Lib.hid o0
 have O1:=Lib.hid o1
 have HN:=Lib.hid hn
 clear hlt o0 o1 hn
 have hcd:(cntTouch d:Int)=d.reads.length + d.writes.length:=by unfold cntTouch;omega
 have HC:=Lib.hid hcd
 have h2:k + (d.reads.length:Int) + (d.writes.length:Int)<=1125899906842000:=by rw [hcd] at h1;omega
 clear hcd h1
 go_enter Tryz.func29,Tryz.ntmps29
 go_wp2_with fail
 (go_at_call 71;refine (laws_markStringS _ f0 d.reads k _ (View.ownAlloc O0.out _) h0 (by omega)).mono ?_;rintro e w' ⟨rfl,_,hu⟩)
 have hU:=(upon_alloc (f0 ++ f1) w (.cells #[.slice a0 d.reads.length c0,.slice a1 d.writes.length c1] 38)).trans (hu.mono (fun x hx=>List.mem_append_left _ hx))
 have hO:=View.ownUpon (View.ownAlloc O1.out (.cells #[.slice a0 d.reads.length c0,.slice a1 d.writes.length c1] 38)) hu (nd2 HN.out).2.2
 obtain ⟨w1,rfl,hq1⟩:=rebox hu (alloc_at w _) (fun h=>absurd (HLT.out _ (List.mem_append_left _ h)) (Nat.lt_irrefl _))
 have HU:=Lib.hid hU
 have HO:=Lib.hid hO
 clear hu hU hO
 go_wp2_with fail
 (go_at_call 71;refine (laws_markStringS _ f1 d.writes _ _ HO.out (by omega) (by omega)).mono ?_;rintro e w' ⟨rfl,_,hu⟩)
 have HV:=Lib.hid hu
 clear hu
 go_wp2
 go_ret
 exact ⟨zgA (by rw [HC.out];omega),HU.out.trans (HV.out.mono (fun x hx=>List.mem_append_right _ hx))⟩
def cntTx (d:TxD):Nat:=6 * d.calls.length + 3 * d.answers.length + cntTouch d.touch + 1 * d.marks.length
theorem laws_markTx (cs:List Value) (fp:List Nat) (d:TxD) (k:Int) (w:World) (hs:vTx.own w fp cs d) (hn:fp.Nodup) (h0 : 0<=k) (h1:k + (cntTx d:Nat)<=4294960000) :
  Calls Tryz.prog 20 #[.agg cs.toArray,.int .i64 k] w fun e w'=>e = .returned (.int .i64 (k + (cntTx d:Nat)))/\Upon fp w w':=by
 have hlt:=View.lt _ hs
 obtain ⟨s0,s1,s2,s3,s4,f0,f1,f2,f3,f4,rfl,rfl,o0,o1,o2,o3,o4⟩:=hs
 obtain ⟨a0,c0,rfl⟩:=vSlice.form (View.toRd _ o0)
 obtain ⟨a1,c1,rfl⟩:=vSlice.form (View.toRd _ o1)
 obtain ⟨a2,c2,rfl⟩:=vSlice.form (View.toRd _ o2)
 obtain ⟨a3,c3,rfl⟩:=vSlice.form (View.toRd _ o3)
 obtain ⟨a4,c4,rfl⟩:=vSlice.form (View.toRd _ o4)
 have HLT:=Lib.hid hlt
 have O0:=Lib.hid (View.ownAlloc o0 (.cells #[.int .i64 d.id,.int .i64 d.age,.int .i64 d.proc,.int .i64 d.began,.slice a0 d.calls.length c0,.slice a1 d.answers.length c1,.slice a2 d.touch.reads.length c2,.slice a3 d.touch.writes.length c3,.slice a4 d.marks.length c4,.int .i64 d.state] 40))
 have O1:=Lib.hid (View.ownAlloc o1 (.cells #[.int .i64 d.id,.int .i64 d.age,.int .i64 d.proc,.int .i64 d.began,.slice a0 d.calls.length c0,.slice a1 d.answers.length c1,.slice a2 d.touch.reads.length c2,.slice a3 d.touch.writes.length c3,.slice a4 d.marks.length c4,.int .i64 d.state] 40))
 have O2:=Lib.hid (View.ownAlloc o2 (.cells #[.int .i64 d.id,.int .i64 d.age,.int .i64 d.proc,.int .i64 d.began,.slice a0 d.calls.length c0,.slice a1 d.answers.length c1,.slice a2 d.touch.reads.length c2,.slice a3 d.touch.writes.length c3,.slice a4 d.marks.length c4,.int .i64 d.state] 40))
 have O3:=Lib.hid (View.ownAlloc o3 (.cells #[.int .i64 d.id,.int .i64 d.age,.int .i64 d.proc,.int .i64 d.began,.slice a0 d.calls.length c0,.slice a1 d.answers.length c1,.slice a2 d.touch.reads.length c2,.slice a3 d.touch.writes.length c3,.slice a4 d.marks.length c4,.int .i64 d.state] 40))
 have O4:=Lib.hid (View.ownAlloc o4 (.cells #[.int .i64 d.id,.int .i64 d.age,.int .i64 d.proc,.int .i64 d.began,.slice a0 d.calls.length c0,.slice a1 d.answers.length c1,.slice a2 d.touch.reads.length c2,.slice a3 d.touch.writes.length c3,.slice a4 d.marks.length c4,.int .i64 d.state] 40))
 have n4:=nd2 hn
 have n3:=nd2 n4.1
 have n2:=nd2 n3.1
 have n1:=nd2 n2.1
 have N4:=Lib.hid n4
 have N3:=Lib.hid n3
 have N2:=Lib.hid n2
 have N1:=Lib.hid n1
 clear hlt o0 o1 o2 o3 o4 hn n1 n2 n3 n4
 have hcd:(cntTx d:Int)=6 * d.calls.length + 3 * d.answers.length + cntTouch d.touch + d.marks.length:=by unfold cntTx;omega
 have HC:=Lib.hid hcd
 rw [hcd] at h1
 clear hcd
 obtain ⟨ct,hct⟩ : ∃ ct:Nat,ct=cntTouch d.touch:=⟨_,rfl⟩
 rw [<- hct] at h1
 have HCT:=Lib.hid hct
 clear hct
 have hw0:w.heap.size ∉ f0 ++ f1 ++ f2 ++ f3 ++ f4:=fun h=>absurd (HLT.out _ h) (Nat.lt_irrefl _)
 have HW0:=Lib.hid hw0
 clear hw0
 go_enter Tryz.func20,Tryz.ntmps20
 go_wp2_with fail
 (go_at_call 63;refine (laws_markCallS _ f0 d.calls k _ O0.out h0 (by omega)).mono ?_;rintro e w' ⟨rfl,_,hu⟩)
 have hU:=(upon_alloc (f0 ++ f1 ++ f2 ++ f3 ++ f4) w (.cells #[.int .i64 d.id,.int .i64 d.age,.int .i64 d.proc,.int .i64 d.began,.slice a0 d.calls.length c0,.slice a1 d.answers.length c1,.slice a2 d.touch.reads.length c2,.slice a3 d.touch.writes.length c3,.slice a4 d.marks.length c4,.int .i64 d.state] 40)).trans (hu.mono (fun x hx=>by simp [hx]))
 have p1:=View.ownUpon O1.out hu N1.out.2.2
 have p2:=View.ownUpon O2.out hu (fun x hx h=>N2.out.2.2 x hx (by simp [h]))
 have p3:=View.ownUpon O3.out hu (fun x hx h=>N3.out.2.2 x hx (by simp [h]))
 have p4:=View.ownUpon O4.out hu (fun x hx h=>N4.out.2.2 x hx (by simp [h]))
 obtain ⟨w1,rfl,hq1⟩:=rebox hu (alloc_at w _) (fun h=>HW0.out (by simp [h]))
 have U1:=Lib.hid hU
 have P1:=Lib.hid p1
 have P2:=Lib.hid p2
 have P3:=Lib.hid p3
 have P4:=Lib.hid p4
 clear hu hU p1 p2 p3 p4 O0 O1 O2 O3 O4
 go_wp2_with fail
 (go_at_call 64;refine (laws_markAnswerS _ f1 d.answers _ _ P1.out (by omega) (by omega)).mono ?_;rintro e w' ⟨rfl,_,hu⟩)
 have hU:=U1.out.trans (hu.mono (fp':=f0 ++ f1 ++ f2 ++ f3 ++ f4) (fun x hx=>by simp [hx]))
 have p2:=View.ownUpon P2.out hu (fun x hx h=>N2.out.2.2 x hx (by simp [h]))
 have p3:=View.ownUpon P3.out hu (fun x hx h=>N3.out.2.2 x hx (by simp [h]))
 have p4:=View.ownUpon P4.out hu (fun x hx h=>N4.out.2.2 x hx (by simp [h]))
 obtain ⟨w2,rfl,hq2⟩:=rebox hu (zy _ _ _ hq1) (fun h=>HW0.out (by simp [h]))
 have U2:=Lib.hid hU
 have R2:=Lib.hid p2
 have R3:=Lib.hid p3
 have R4:=Lib.hid p4
 clear hu hU p2 p3 p4 P1 P2 P3 P4 U1 hq1
 go_wp2_with fail
 (go_at_call 29;refine (laws_markTouch _ (f2 ++ f3) d.touch _ _ ⟨_,_,f2,f3,rfl,rfl,R2.out,R3.out⟩ (List.nodup_append.2 ⟨N2.out.2.1,N3.out.2.1,fun x hx y hy e=>N3.out.2.2 y hy (by simp [<- e,hx])⟩) (by omega) (by rw [<- HCT.out];omega)).mono ?_;rintro e w' ⟨rfl,hu⟩)
 have hU:=U2.out.trans (hu.mono (fp':=f0 ++ f1 ++ f2 ++ f3 ++ f4) (fun x hx=>by simp at hx ⊢;rcases hx with h|h<;>simp [h]))
 have p4:=View.ownUpon R4.out hu (fun x hx h=>N4.out.2.2 x hx (by simp at h ⊢;rcases h with h|h<;>simp [h]))
 obtain ⟨w3,rfl,hq3⟩:=rebox hu (zy _ _ _ hq2) (fun h=>HW0.out (by simp at h ⊢;rcases h with h|h<;>simp [h]))
 have U3:=Lib.hid hU
 have S4:=Lib.hid p4
 clear hu hU p4 R2 R3 R4 U2 hq2
 rw [<- HCT.out]
 go_wp2_with fail
 (go_at_call 65;refine (laws_markIntS _ f4 d.marks _ _ S4.out (by omega) (by omega)).mono ?_;rintro e w' ⟨rfl,_,hu⟩)
 have U4:=Lib.hid (U3.out.trans (hu.mono (fp':=f0 ++ f1 ++ f2 ++ f3 ++ f4) (fun x hx=>by simp [hx])))
 clear hu
 go_wp2
 go_ret
 exact ⟨zgA (by rw [HC.out,<- HCT.out];omega),U4.out⟩
theorem law_TxLaid (v0:Value) (d0:List CellD) (cs1:List Value) (d1:TxD) (w:World) (hg:Glob w) (hs0:(vSlice zfN 68).rd w [v0] d0) (hs1:(vWith vTx TxD.rng).rd w cs1 d1):Calls Tryz.prog 5 #[v0,.agg cs1.toArray] w (Yes w):=by
 unfold Yes
 have HRNG:Hid d1.rng:=hs1.2
 have HF:Hid (∀ s ∈ stepsOf d1,s.fine):=steps_fine hs1.1 hs1.2
 have hs1:=hs1.1
 obtain ⟨ba0,bc0,ba1,bc1,ba2,bc2,ba3,bc3,ba4,bc4,rfl⟩:=vTx_shape hs1
 obtain ⟨a0,c0,rfl⟩:=vSlice.form hs0
 have H0:=Lib.hid hs0
 have H1:Hid (vTx.rd w _ d1):=hs1
 have HG:=Lib.hid hg
 clear hs0 hs1 hg
 go_enter Tryz.func5,Tryz.ntmps5
 have BX:=Lib.hid (Below.refl (w.alloc (.cells #[.int .i64 d1.id,.int .i64 d1.age,.int .i64 d1.proc,.int .i64 d1.began,.slice ba0 d1.calls.length bc0,.slice ba1 d1.answers.length bc1,.slice ba2 d1.touch.reads.length bc2,.slice ba3 d1.touch.writes.length bc3,.slice ba4 d1.marks.length bc4,.int .i64 d1.state] 30)).heap.size (w.alloc (.cells #[.int .i64 d1.id,.int .i64 d1.age,.int .i64 d1.proc,.int .i64 d1.began,.slice ba0 d1.calls.length bc0,.slice ba1 d1.answers.length bc1,.slice ba2 d1.touch.reads.length bc2,.slice ba3 d1.touch.writes.length bc3,.slice ba4 d1.marks.length bc4,.int .i64 d1.state] 30)))
 have BW:Hid (Below w.heap.size w (w.alloc (.cells #[.int .i64 d1.id,.int .i64 d1.age,.int .i64 d1.proc,.int .i64 d1.began,.slice ba0 d1.calls.length bc0,.slice ba1 d1.answers.length bc1,.slice ba2 d1.touch.reads.length bc2,.slice ba3 d1.touch.writes.length bc3,.slice ba4 d1.marks.length bc4,.int .i64 d1.state] 30))):=Lib.hid (by repeat (first|with_reducible exact Below.refl _ _|with_reducible apply Below.ofAlloc))
 go_wp2_with fail
 (go_at_call 9;refine (laws_szCellS _ d0 _ _ (View.grow _ H0.out (Grew.below BW.out)) (by omega) (by omega)).mono ?_;rintro e w1 ⟨rfl,hb⟩)
 replace BW:=Lib.hid (Below.then BW.out hb)
 replace BX:=Lib.hid (Below.then BX.out hb)
 clear hb
 obtain ⟨⟨z1,y1⟩,rfl⟩:=BX.out.ext
 obtain ⟨q0,q0e⟩ : ∃ q:Nat,q=wtS CellD.wt d0:=⟨_,rfl⟩
 rw [<- q0e]
 have Q0:=Lib.hid q0e
 clear q0e
 by_cases g0:(q0:Int)<=1048576
 case neg =>
  rw [zbD g0]
  go_wp2
  go_ret
  exact ⟨rfl,BW.out⟩
 rw [zek g0]
 have n0:¬ (1048576 - (q0:Int):Int) < 0:=by omega
 go_wp2_with fail
 (go_at_call 10;refine (laws_szTx _ d1 _ _ (View.grow _ H1.out (Grew.below BW.out)) (by omega) (by omega)).mono ?_;rintro e w2 ⟨rfl,hb⟩)
 replace BW:=Lib.hid (Below.then BW.out hb)
 replace BX:=Lib.hid (Below.then BX.out hb)
 clear hb
 obtain ⟨⟨z2,y2⟩,rfl⟩:=BX.out.ext
 obtain ⟨q1,q1e⟩ : ∃ q:Nat,q=d1.wt:=⟨_,rfl⟩
 rw [<- q1e]
 have Q1:=Lib.hid q1e
 clear q1e
 by_cases g1:(q1:Int)<=1048576 - (q0:Int)
 case neg =>
  rw [zbD g1]
  go_wp2
  go_ret
  exact ⟨rfl,BW.out⟩
 rw [zek g1]
 have n1:¬ (1048576 - (q0:Int) - (q1:Int):Int) < 0:=by omega
 have HSUM:Hid (wtS CellD.wt d0 + d1.wt<=1048576):=by
  have t0:=Q0.out
  have t1:=Q1.out
  show _<=_
  omega
 have HL0:Hid (d0.length<=1048576):=by have:=HSUM.out;unfold wtS at this;show _<=_;omega
 have L1:Hid (d1.wt<=1048576):=by have:=HSUM.out;show _<=_;omega
 have HLC:Hid (d1.calls.length<=1048576):=(Tx_lens L1.out).1
 have HLW:Hid (d1.touch.writes.length<=1048576):=by
  have:=L1.out
  show _<=_
  unfold TxD.wt zio wtS at this
  omega
 have HCNT:Hid ((1:Int) + (2 * d0.length:Nat) + (cntTx d1:Nat)<=4294960000):=by
  have h1:cntTx d1<=6 * d1.wt:=by unfold cntTx cntTouch TxD.wt zio wtS;omega
  have:=L1.out
  have:=HL0.out
  show _<=_
  omega
 have HW:=Lib.hid (view_whole HF.out HSUM.out)
 have CK:Hid ((∀ c ∈ laidOf d0 d1,c.ok)/\(laidOf d0 d1).length<=549755813888):=laid_whole (vCells_ok H0.out) HL0.out HLW.out (vTx_writesOk H1.out) HW.out.2.2.2.2.1
 obtain ⟨ids,hids⟩ : ∃ ids,ids=laidOf d0 d1:=⟨_,rfl⟩
 rw [<- hids] at CK
 have HIDS:=Lib.hid hids
 clear hids
 go_wp2
 refine zgv [(0,true),(2,true),(1,false),(3,false),(4,false),(5,false)] 5 (by kernel_rfl) (by kernel_rfl) ?_
 have hb:=below_dr (w.alloc (.cells #[.int .i64 d1.id,.int .i64 d1.age,.int .i64 d1.proc,.int .i64 d1.began,.slice ba0 d1.calls.length bc0,.slice ba1 d1.answers.length bc1,.slice ba2 d1.touch.reads.length bc2,.slice ba3 d1.touch.writes.length bc3,.slice ba4 d1.marks.length bc4,.int .i64 d1.state] 30)) z2 y2 (y2 + 1)
 have BR:=Lib.hid hb
 replace BW:=Lib.hid (Below.then BW.out hb)
 replace BX:=Lib.hid (Below.then BX.out hb)
 clear hb
 repeat (refine zl rfl (fun K hK=>?_);go_simp;(try simp (disch:=omega) only [IntWalk.i64_in]);refine hK _ ?_;clear hK K)
 refine zt rfl (fun K hK=>?_);go_simp;go_at_call 12;refine (laws_toCellS _ d0 _ (View.grow _ H0.out (Grew.below BW.out)) HL0.out).mono ?_;rintro e w3 ⟨u,fpA0,rfl,hf,hb⟩;obtain ⟨xA0,yA0,rfl⟩:=vSlice.form (View.toRd _ hf.own);try go_simp;refine hK _ _ ((Below.then BR.out hb).ext) ?_;clear hK K
 have OO:=Lib.hid hf.own
 clear hf
 replace BR:=Lib.hid (Below.then BR.out hb)
 replace BW:=Lib.hid (Below.then BW.out hb)
 replace BX:=Lib.hid (Below.then BX.out hb)
 clear hb
 have OA0:=Lib.hid OO.out
 clear OO
 obtain ⟨⟨z3,y3⟩,rfl⟩:=BX.out.ext
 refine zt rfl (fun K hK=>?_);go_simp;go_at_call 13;refine (laws_toTx _ d1 _ (View.grow _ H1.out (Grew.below BW.out)) L1.out).mono ?_;rintro e w4 ⟨csqA1,fpA1,rfl,hf,hb⟩;obtain ⟨A1a0,A1c0,A1a1,A1c1,A1a2,A1c2,A1a3,A1c3,A1a4,A1c4,rfl⟩:=vTx_shape (View.toRd _ hf.own);try go_simp;refine hK _ _ ((Below.then BR.out hb).ext) ?_;clear hK K
 have OO:=Lib.hid hf.own
 clear hf
 replace BR:=Lib.hid (Below.then BR.out hb)
 replace BW:=Lib.hid (Below.then BW.out hb)
 replace BX:=Lib.hid (Below.then BX.out hb)
 replace OA0:=Lib.hid (View.own_below OA0.out hb)
 clear hb
 have OA1:=Lib.hid OO.out
 clear OO
 obtain ⟨⟨z4,y4⟩,rfl⟩:=BX.out.ext
 have DS:=Lib.hid (spec_TxLaid _ _ d0 d1 _ (rdl_of_own (R:=zu) rfl OA0.out) (View.toRd _ OA1.out) HF.out HL0.out HLC.out HLW.out HW.out.1)
 rw [<- HIDS.out] at DS
 refine zt rfl (fun K hK=>?_);go_simp;go_at_call 22;refine (DS.out).mono ?_;rintro e W ⟨u0,rfl,h0,hb⟩;obtain ⟨xW0,yW0,rfl⟩:=h0.rd.form;try go_simp;refine hK _ _ ((Below.then BR.out hb).ext) ?_;clear hK K
 have R0:Hid ((vSlice zfN 78).rd W _ ids):=rd_of_RdL rfl rfl (by decide) h0.rd CK.out.1
 clear h0 DS
 replace BR:=Lib.hid (Below.then BR.out hb)
 replace BW:=Lib.hid (Below.then BW.out hb)
 replace BX:=Lib.hid (Below.then BX.out hb)
 clear hb OA0 OA1
 obtain ⟨⟨z5,y5⟩,rfl⟩:=BX.out.ext
 have BS:Hid (w.heap.size<=((w.alloc (.cells #[.int .i64 d1.id,.int .i64 d1.age,.int .i64 d1.proc,.int .i64 d1.began,.slice ba0 d1.calls.length bc0,.slice ba1 d1.answers.length bc1,.slice ba2 d1.touch.reads.length bc2,.slice ba3 d1.touch.writes.length bc3,.slice ba4 d1.marks.length bc4,.int .i64 d1.state] 30)).ext ⟨z5,y5⟩).heap.size):=BW.out.size
 have BSX:Hid ((w.alloc (.cells #[.int .i64 d1.id,.int .i64 d1.age,.int .i64 d1.proc,.int .i64 d1.began,.slice ba0 d1.calls.length bc0,.slice ba1 d1.answers.length bc1,.slice ba2 d1.touch.reads.length bc2,.slice ba3 d1.touch.writes.length bc3,.slice ba4 d1.marks.length bc4,.int .i64 d1.state] 30)).heap.size<=((w.alloc (.cells #[.int .i64 d1.id,.int .i64 d1.age,.int .i64 d1.proc,.int .i64 d1.began,.slice ba0 d1.calls.length bc0,.slice ba1 d1.answers.length bc1,.slice ba2 d1.touch.reads.length bc2,.slice ba3 d1.touch.writes.length bc3,.slice ba4 d1.marks.length bc4,.int .i64 d1.state] 30)).ext ⟨z5,y5⟩).heap.size):=BX.out.size
 have BC:=Lib.hid (Below.refl ((w.alloc (.cells #[.int .i64 d1.id,.int .i64 d1.age,.int .i64 d1.proc,.int .i64 d1.began,.slice ba0 d1.calls.length bc0,.slice ba1 d1.answers.length bc1,.slice ba2 d1.touch.reads.length bc2,.slice ba3 d1.touch.writes.length bc3,.slice ba4 d1.marks.length bc4,.int .i64 d1.state] 30)).ext ⟨z5,y5⟩).heap.size ((w.alloc (.cells #[.int .i64 d1.id,.int .i64 d1.age,.int .i64 d1.proc,.int .i64 d1.began,.slice ba0 d1.calls.length bc0,.slice ba1 d1.answers.length bc1,.slice ba2 d1.touch.reads.length bc2,.slice ba3 d1.touch.writes.length bc3,.slice ba4 d1.marks.length bc4,.int .i64 d1.state] 30)).ext ⟨z5,y5⟩))
 repeat (refine zw rfl rfl (fun K hK=>?_);go_simp;refine hK _ _ ?_;clear hK K)
 refine zae ?_
 clear BR
 go_wp2_with fail
 (go_at_call 12;refine (laws_toCellS _ d0 _ (View.grow _ H0.out (Grew.below BW.out)) HL0.out).mono ?_;rintro e w5 ⟨u,fpK0,rfl,hf,hb⟩;obtain ⟨xK0,yK0,rfl⟩:=vSlice.form (View.toRd _ hf.own))
 have OO:=Lib.hid hf.own
 have LK0:Hid (∀ x ∈ fpK0,((w.alloc (.cells #[.int .i64 d1.id,.int .i64 d1.age,.int .i64 d1.proc,.int .i64 d1.began,.slice ba0 d1.calls.length bc0,.slice ba1 d1.answers.length bc1,.slice ba2 d1.touch.reads.length bc2,.slice ba3 d1.touch.writes.length bc3,.slice ba4 d1.marks.length bc4,.int .i64 d1.state] 30)).ext ⟨z5,y5⟩).heap.size<=x):=fun x hx=>Nat.le_trans BC.out.size (hf.lo x hx)
 clear hf
 replace BW:=Lib.hid (Below.then BW.out hb)
 replace BX:=Lib.hid (Below.then BX.out hb)
 replace BC:=Lib.hid (Below.then BC.out hb)
 clear hb
 have OK0:=Lib.hid OO.out
 clear OO
 obtain ⟨⟨z6,y6⟩,rfl⟩:=BX.out.ext
 go_wp2_with fail
 (go_at_call 13;refine (laws_toTx _ d1 _ (View.grow _ H1.out (Grew.below BW.out)) L1.out).mono ?_;rintro e w6 ⟨csqK1,fpK1,rfl,hf,hb⟩;obtain ⟨K1a0,K1c0,K1a1,K1c1,K1a2,K1c2,K1a3,K1c3,K1a4,K1c4,rfl⟩:=vTx_shape (View.toRd _ hf.own))
 have OO:=Lib.hid hf.own
 have NK1:Hid fpK1.Nodup:=hf.nodup
 have LK1:Hid (∀ x ∈ fpK1,((w.alloc (.cells #[.int .i64 d1.id,.int .i64 d1.age,.int .i64 d1.proc,.int .i64 d1.began,.slice ba0 d1.calls.length bc0,.slice ba1 d1.answers.length bc1,.slice ba2 d1.touch.reads.length bc2,.slice ba3 d1.touch.writes.length bc3,.slice ba4 d1.marks.length bc4,.int .i64 d1.state] 30)).ext ⟨z5,y5⟩).heap.size<=x):=fun x hx=>Nat.le_trans BC.out.size (hf.lo x hx)
 have DK1K0:Hid (∀ x ∈ fpK1,x ∉ fpK0):=fun x hx h=>by have h1:=hf.lo x hx;have h2:=View.lt _ OK0.out x h;omega
 clear hf
 replace BW:=Lib.hid (Below.then BW.out hb)
 replace BX:=Lib.hid (Below.then BX.out hb)
 replace BC:=Lib.hid (Below.then BC.out hb)
 replace OK0:=Lib.hid (View.own_below OK0.out hb)
 clear hb
 have OK1:=Lib.hid OO.out
 clear OO
 obtain ⟨⟨z7,y7⟩,rfl⟩:=BX.out.ext
 go_wp2_with fail
 have XB:Hid ((((w.alloc (.cells #[.int .i64 d1.id,.int .i64 d1.age,.int .i64 d1.proc,.int .i64 d1.began,.slice ba0 d1.calls.length bc0,.slice ba1 d1.answers.length bc1,.slice ba2 d1.touch.reads.length bc2,.slice ba3 d1.touch.writes.length bc3,.slice ba4 d1.marks.length bc4,.int .i64 d1.state] 30)).ext ⟨z7,y7⟩).alloc (.cells #[.int .i64 d1.id,.int .i64 d1.age,.int .i64 d1.proc,.int .i64 d1.began,.slice K1a0 d1.calls.length K1c0,.slice K1a1 d1.answers.length K1c1,.slice K1a2 d1.touch.reads.length K1c2,.slice K1a3 d1.touch.writes.length K1c3,.slice K1a4 d1.marks.length K1c4,.int .i64 d1.state] 40)).heap[((w.alloc (.cells #[.int .i64 d1.id,.int .i64 d1.age,.int .i64 d1.proc,.int .i64 d1.began,.slice ba0 d1.calls.length bc0,.slice ba1 d1.answers.length bc1,.slice ba2 d1.touch.reads.length bc2,.slice ba3 d1.touch.writes.length bc3,.slice ba4 d1.marks.length bc4,.int .i64 d1.state] 30)).ext ⟨z7,y7⟩).heap.size]?=some (.cells #[.int .i64 d1.id,.int .i64 d1.age,.int .i64 d1.proc,.int .i64 d1.began,.slice K1a0 d1.calls.length K1c0,.slice K1a1 d1.answers.length K1c1,.slice K1a2 d1.touch.reads.length K1c2,.slice K1a3 d1.touch.writes.length K1c3,.slice K1a4 d1.marks.length K1c4,.int .i64 d1.state] 40)):=alloc_at _ _
 have PK:Hid (∀ x ∈ fpK0,x < ((w.alloc (.cells #[.int .i64 d1.id,.int .i64 d1.age,.int .i64 d1.proc,.int .i64 d1.began,.slice ba0 d1.calls.length bc0,.slice ba1 d1.answers.length bc1,.slice ba2 d1.touch.reads.length bc2,.slice ba3 d1.touch.writes.length bc3,.slice ba4 d1.marks.length bc4,.int .i64 d1.state] 30)).ext ⟨z7,y7⟩).heap.size):=fun x h=>View.lt _ OK0.out x h
 have hb:=Below.ofAlloc (Below.refl ((w.alloc (.cells #[.int .i64 d1.id,.int .i64 d1.age,.int .i64 d1.proc,.int .i64 d1.began,.slice ba0 d1.calls.length bc0,.slice ba1 d1.answers.length bc1,.slice ba2 d1.touch.reads.length bc2,.slice ba3 d1.touch.writes.length bc3,.slice ba4 d1.marks.length bc4,.int .i64 d1.state] 30)).ext ⟨z7,y7⟩).heap.size ((w.alloc (.cells #[.int .i64 d1.id,.int .i64 d1.age,.int .i64 d1.proc,.int .i64 d1.began,.slice ba0 d1.calls.length bc0,.slice ba1 d1.answers.length bc1,.slice ba2 d1.touch.reads.length bc2,.slice ba3 d1.touch.writes.length bc3,.slice ba4 d1.marks.length bc4,.int .i64 d1.state] 30)).ext ⟨z7,y7⟩)) (.cells #[.int .i64 d1.id,.int .i64 d1.age,.int .i64 d1.proc,.int .i64 d1.began,.slice K1a0 d1.calls.length K1c0,.slice K1a1 d1.answers.length K1c1,.slice K1a2 d1.touch.reads.length K1c2,.slice K1a3 d1.touch.writes.length K1c3,.slice K1a4 d1.marks.length K1c4,.int .i64 d1.state] 40)
 replace BW:=Lib.hid (Below.then BW.out hb)
 replace BX:=Lib.hid (Below.then BX.out hb)
 replace BC:=Lib.hid (Below.then BC.out hb)
 replace OK0:=Lib.hid (View.own_below OK0.out hb)
 replace OK1:=Lib.hid (View.own_below OK1.out hb)
 clear hb
 have BX2:=Lib.hid (Below.refl (((w.alloc (.cells #[.int .i64 d1.id,.int .i64 d1.age,.int .i64 d1.proc,.int .i64 d1.began,.slice ba0 d1.calls.length bc0,.slice ba1 d1.answers.length bc1,.slice ba2 d1.touch.reads.length bc2,.slice ba3 d1.touch.writes.length bc3,.slice ba4 d1.marks.length bc4,.int .i64 d1.state] 30)).ext ⟨z7,y7⟩).alloc (.cells #[.int .i64 d1.id,.int .i64 d1.age,.int .i64 d1.proc,.int .i64 d1.began,.slice K1a0 d1.calls.length K1c0,.slice K1a1 d1.answers.length K1c1,.slice K1a2 d1.touch.reads.length K1c2,.slice K1a3 d1.touch.writes.length K1c3,.slice K1a4 d1.marks.length K1c4,.int .i64 d1.state] 40)).heap.size (((w.alloc (.cells #[.int .i64 d1.id,.int .i64 d1.age,.int .i64 d1.proc,.int .i64 d1.began,.slice ba0 d1.calls.length bc0,.slice ba1 d1.answers.length bc1,.slice ba2 d1.touch.reads.length bc2,.slice ba3 d1.touch.writes.length bc3,.slice ba4 d1.marks.length bc4,.int .i64 d1.state] 30)).ext ⟨z7,y7⟩).alloc (.cells #[.int .i64 d1.id,.int .i64 d1.age,.int .i64 d1.proc,.int .i64 d1.began,.slice K1a0 d1.calls.length K1c0,.slice K1a1 d1.answers.length K1c1,.slice K1a2 d1.touch.reads.length K1c2,.slice K1a3 d1.touch.writes.length K1c3,.slice K1a4 d1.marks.length K1c4,.int .i64 d1.state] 40)))
 have DI:=Lib.hid (impl_TxLaid _ _ d0 d1 _ (HG.out.below BW.out) (rdl_of_own (R:=zu) rfl OK0.out) (View.toRd _ OK1.out) HF.out HL0.out HLC.out HLW.out HW.out.2.1)
 rw [<- HIDS.out] at DI
 (go_at_call 23;refine (DI.out).mono ?_;rintro e w7 ⟨u0,rfl,h0,hb⟩;obtain ⟨fpG,P0,nd,lo⟩:=own_of_cells h0 CK.out.1;obtain ⟨xG,yG,rfl⟩:=vSlice.form (View.toRd _ P0))
 clear DI h0
 have OO:=Lib.hid P0
 have NG:Hid fpG.Nodup:=nd
 have LG:Hid (∀ x ∈ fpG,((w.alloc (.cells #[.int .i64 d1.id,.int .i64 d1.age,.int .i64 d1.proc,.int .i64 d1.began,.slice ba0 d1.calls.length bc0,.slice ba1 d1.answers.length bc1,.slice ba2 d1.touch.reads.length bc2,.slice ba3 d1.touch.writes.length bc3,.slice ba4 d1.marks.length bc4,.int .i64 d1.state] 30)).ext ⟨z5,y5⟩).heap.size<=x):=fun x hx=>Nat.le_trans BC.out.size (lo x hx)
 have DGK0:Hid (∀ x ∈ fpG,x ∉ fpK0):=fun x hx h=>by have h1:=lo x hx;have h2:=View.lt _ OK0.out x h;omega
 have DGK1:Hid (∀ x ∈ fpG,x ∉ fpK1):=fun x hx h=>by have h1:=lo x hx;have h2:=View.lt _ OK1.out x h;omega
 clear P0 nd lo
 replace BW:=Lib.hid (Below.then BW.out hb)
 replace BX:=Lib.hid (Below.then BX.out hb)
 replace BX2:=Lib.hid (Below.then BX2.out hb)
 replace XB:=Lib.hid ((Grew.below hb _ (za XB.out)).trans XB.out)
 replace BC:=Lib.hid (Below.then BC.out hb)
 replace OK0:=Lib.hid (View.own_below OK0.out hb)
 replace OK1:=Lib.hid (View.own_below OK1.out hb)
 clear hb
 have OG:=Lib.hid OO.out
 clear OO
 obtain ⟨⟨z8,y8⟩,rfl⟩:=BX2.out.ext
 go_wp2_with fail
 (go_at_call 15;refine (laws_eqCellS _ _ ids _ (View.toRd _ OG.out) (View.grow _ R0.out (Grew.below BC.out))).mono ?_;rintro e w8 ⟨rfl,hb⟩)
 replace BW:=Lib.hid (Below.then BW.out hb)
 replace BX:=Lib.hid (Below.then BX.out hb)
 replace BX2:=Lib.hid (Below.then BX2.out hb)
 replace XB:=Lib.hid ((Grew.below hb _ (za XB.out)).trans XB.out)
 replace BC:=Lib.hid (Below.then BC.out hb)
 replace OK0:=Lib.hid (View.own_below OK0.out hb)
 replace OK1:=Lib.hid (View.own_below OK1.out hb)
 replace OG:=Lib.hid (View.own_below OG.out hb)
 clear hb
 obtain ⟨⟨z9,y9⟩,rfl⟩:=BX2.out.ext
 go_wp2_with fail
 (go_at_call 12;refine (laws_toCellS _ d0 _ (View.grow _ H0.out (Grew.below BW.out)) HL0.out).mono ?_;rintro e w9 ⟨u,fpE0,rfl,hf,hb⟩;obtain ⟨xE0,yE0,rfl⟩:=vSlice.form (View.toRd _ hf.own))
 have OO:=Lib.hid hf.own
 clear hf
 replace BW:=Lib.hid (Below.then BW.out hb)
 replace BX:=Lib.hid (Below.then BX.out hb)
 replace BX2:=Lib.hid (Below.then BX2.out hb)
 replace XB:=Lib.hid ((Grew.below hb _ (za XB.out)).trans XB.out)
 replace BC:=Lib.hid (Below.then BC.out hb)
 replace OK0:=Lib.hid (View.own_below OK0.out hb)
 replace OK1:=Lib.hid (View.own_below OK1.out hb)
 replace OG:=Lib.hid (View.own_below OG.out hb)
 clear hb
 have OE0:=Lib.hid OO.out
 clear OO
 obtain ⟨⟨z10,y10⟩,rfl⟩:=BX2.out.ext
 go_wp2_with fail
 (go_at_call 15;refine (laws_eqCellS _ _ d0 _ (View.toRd _ OK0.out) (View.toRd _ OE0.out)).mono ?_;rintro e w10 ⟨rfl,hb⟩)
 replace BW:=Lib.hid (Below.then BW.out hb)
 replace BX:=Lib.hid (Below.then BX.out hb)
 replace BX2:=Lib.hid (Below.then BX2.out hb)
 replace XB:=Lib.hid ((Grew.below hb _ (za XB.out)).trans XB.out)
 replace BC:=Lib.hid (Below.then BC.out hb)
 replace OK0:=Lib.hid (View.own_below OK0.out hb)
 replace OK1:=Lib.hid (View.own_below OK1.out hb)
 replace OG:=Lib.hid (View.own_below OG.out hb)
 replace OE0:=Lib.hid (View.own_below OE0.out hb)
 clear hb
 obtain ⟨⟨z11,y11⟩,rfl⟩:=BX2.out.ext
 clear OE0
 go_wp2
 refine zgv [(0,true),(1,true),(2,false),(3,false),(4,true)] 5 (by kernel_rfl) (by kernel_rfl) ?_
 have hb:=below_dr ((((w.alloc (.cells #[.int .i64 d1.id,.int .i64 d1.age,.int .i64 d1.proc,.int .i64 d1.began,.slice ba0 d1.calls.length bc0,.slice ba1 d1.answers.length bc1,.slice ba2 d1.touch.reads.length bc2,.slice ba3 d1.touch.writes.length bc3,.slice ba4 d1.marks.length bc4,.int .i64 d1.state] 30)).ext ⟨z7,y7⟩).alloc (.cells #[.int .i64 d1.id,.int .i64 d1.age,.int .i64 d1.proc,.int .i64 d1.began,.slice K1a0 d1.calls.length K1c0,.slice K1a1 d1.answers.length K1c1,.slice K1a2 d1.touch.reads.length K1c2,.slice K1a3 d1.touch.writes.length K1c3,.slice K1a4 d1.marks.length K1c4,.int .i64 d1.state] 40))) z11 y11 (y11 + 1)
 have BR:=Lib.hid hb
 replace BW:=Lib.hid (Below.then BW.out hb)
 replace BX:=Lib.hid (Below.then BX.out hb)
 replace BX2:=Lib.hid (Below.then BX2.out hb)
 replace XB:=Lib.hid ((Grew.below hb _ (za XB.out)).trans XB.out)
 replace BC:=Lib.hid (Below.then BC.out hb)
 replace OK0:=Lib.hid (View.own_below OK0.out hb)
 replace OK1:=Lib.hid (View.own_below OK1.out hb)
 replace OG:=Lib.hid (View.own_below OG.out hb)
 clear hb
 repeat (refine zl rfl (fun K hK=>?_);go_simp;(try simp (disch:=omega) only [IntWalk.i64_in]);refine hK _ ?_;clear hK K)
 refine zt rfl (fun K hK=>?_);go_simp;go_at_call 13;refine (laws_toTx _ d1 _ (View.grow _ H1.out (Grew.below BW.out)) L1.out).mono ?_;rintro e w11 ⟨csqE1,fpE1,rfl,hf,hb⟩;obtain ⟨E1a0,E1c0,E1a1,E1c1,E1a2,E1c2,E1a3,E1c3,E1a4,E1c4,rfl⟩:=vTx_shape (View.toRd _ hf.own);try go_simp;refine hK _ _ ((Below.then BR.out hb).ext) ?_;clear hK K
 have OO:=Lib.hid hf.own
 clear hf
 replace BR:=Lib.hid (Below.then BR.out hb)
 replace BW:=Lib.hid (Below.then BW.out hb)
 replace BX:=Lib.hid (Below.then BX.out hb)
 replace BX2:=Lib.hid (Below.then BX2.out hb)
 replace XB:=Lib.hid ((Grew.below hb _ (za XB.out)).trans XB.out)
 replace BC:=Lib.hid (Below.then BC.out hb)
 replace OK0:=Lib.hid (View.own_below OK0.out hb)
 replace OK1:=Lib.hid (View.own_below OK1.out hb)
 replace OG:=Lib.hid (View.own_below OG.out hb)
 clear hb
 have OE1:=Lib.hid OO.out
 clear OO
 obtain ⟨⟨z12,y12⟩,rfl⟩:=BX2.out.ext
 refine zt rfl (fun K hK=>?_);go_simp;go_at_call 16;refine (laws_eqTx _ _ d1 _ (View.toRd _ OK1.out) (View.toRd _ OE1.out)).mono ?_;rintro e w12 ⟨rfl,hb⟩;try go_simp;refine hK _ _ ((Below.then BR.out hb).ext) ?_;clear hK K
 replace BR:=Lib.hid (Below.then BR.out hb)
 replace BW:=Lib.hid (Below.then BW.out hb)
 replace BX:=Lib.hid (Below.then BX.out hb)
 replace BX2:=Lib.hid (Below.then BX2.out hb)
 replace XB:=Lib.hid ((Grew.below hb _ (za XB.out)).trans XB.out)
 replace BC:=Lib.hid (Below.then BC.out hb)
 replace OK0:=Lib.hid (View.own_below OK0.out hb)
 replace OK1:=Lib.hid (View.own_below OK1.out hb)
 replace OG:=Lib.hid (View.own_below OG.out hb)
 replace OE1:=Lib.hid (View.own_below OE1.out hb)
 clear hb
 obtain ⟨⟨z13,y13⟩,rfl⟩:=BX2.out.ext
 clear OE1
 repeat (refine zl rfl (fun K hK=>?_);go_simp;(try simp (disch:=omega) only [IntWalk.i64_in]);refine hK _ ?_;clear hK K)
 refine zae ?_
 clear BR
 go_wp2_with fail
 (go_at_call 19;refine (laws_markCellS _ fpK0 d0 _ _ OK0.out (by omega) (by have:=HL0.out;omega)).mono ?_;rintro e w13 ⟨rfl,hm,hu⟩)
 have hbc:=hu.toBelow BC.out.size LK0.out
 replace BW:=Lib.hid (Below.trans BW.out (hu.toBelow BW.out.size (fun x hx=>Nat.le_trans BS.out (LK0.out x hx))))
 replace BX:=Lib.hid (Below.trans BX.out (hu.toBelow BX.out.size (fun x hx=>Nat.le_trans BSX.out (LK0.out x hx))))
 replace BC:=Lib.hid (Below.trans BC.out hbc)
 clear hbc
 replace XB:=Lib.hid ((hu.block _ (za XB.out) (fun h=>absurd (PK.out _ h) (Nat.lt_irrefl _))).trans XB.out)
 clear BX2 PK
 replace OK1:=Lib.hid (View.ownUpon OK1.out hu DK1K0.out)
 replace OG:=Lib.hid (View.ownUpon OG.out hu DGK0.out)
 clear OK0
 clear hu hm
 have xb:=XB.out
 simp only [zm,World.size_alloc] at xb
 clear XB
 have yl:=za xb
 rw [<- zf xb]
 go_wp2_with fail
 rw [zf xb]
 clear xb yl
 (go_at_call 20;refine (laws_markTx _ fpK1 d1 _ _ OK1.out NK1.out (by omega) HCNT.out).mono ?_;rintro e w14 ⟨rfl,hu⟩)
 have hbc:=hu.toBelow BC.out.size LK1.out
 replace BW:=Lib.hid (Below.trans BW.out (hu.toBelow BW.out.size (fun x hx=>Nat.le_trans BS.out (LK1.out x hx))))
 replace BX:=Lib.hid (Below.trans BX.out (hu.toBelow BX.out.size (fun x hx=>Nat.le_trans BSX.out (LK1.out x hx))))
 replace BC:=Lib.hid (Below.trans BC.out hbc)
 clear hbc
 replace OG:=Lib.hid (View.ownUpon OG.out hu DGK1.out)
 clear OK1
 clear hu
 obtain ⟨⟨z14,y14⟩,rfl⟩:=BX.out.ext
 have hk1:¬ ((1:Int) + ((2 * d0.length:Nat):Int) + (cntTx d1:Nat)) < 0:=by omega
 go_wp2_with fail
 (go_at_call 15;refine (laws_eqCellS _ _ ids _ (View.toRd _ OG.out) (View.grow _ R0.out (Grew.below BC.out))).mono ?_;rintro e w15 ⟨rfl,hb⟩)
 replace BW:=Lib.hid (Below.then BW.out hb)
 replace BX:=Lib.hid (Below.then BX.out hb)
 replace BC:=Lib.hid (Below.then BC.out hb)
 replace OG:=Lib.hid (View.own_below OG.out hb)
 clear hb
 obtain ⟨⟨z15,y15⟩,rfl⟩:=BX.out.ext
 go_wp2_with fail
 (go_at_call 19;refine (laws_markCellS _ fpG ids 1 _ OG.out (by omega) (by have:=CK.out.2;omega)).mono ?_;rintro e w16 ⟨rfl,hm,hu⟩)
 have hbc:=hu.toBelow BC.out.size LG.out
 replace BW:=Lib.hid (Below.trans BW.out (hu.toBelow BW.out.size (fun x hx=>Nat.le_trans BS.out (LG.out x hx))))
 replace BX:=Lib.hid (Below.trans BX.out (hu.toBelow BX.out.size (fun x hx=>Nat.le_trans BSX.out (LG.out x hx))))
 replace BC:=Lib.hid (Below.trans BC.out hbc)
 clear hbc
 clear OG
 have OG:=Lib.hid hm
 clear hu hm
 obtain ⟨⟨z16,y16⟩,rfl⟩:=BX.out.ext
 have hq0:¬ (1:Int) + (2 * ids.length:Nat) < 0:=by omega
 go_wp2_with fail
 (go_at_call 21;refine (laws_heldCellS _ 1 ids.length _ (View.toRd _ OG.out) (by omega) (by have:=CK.out.2;omega)).mono ?_;rintro e w17 ⟨rfl,hb⟩)
 replace BW:=Lib.hid (Below.then BW.out hb)
 replace BX:=Lib.hid (Below.then BX.out hb)
 replace BC:=Lib.hid (Below.then BC.out hb)
 replace OG:=Lib.hid (View.own_below OG.out hb)
 clear hb
 obtain ⟨⟨z17,y17⟩,rfl⟩:=BX.out.ext
 go_wp2
 refine zgv [(0,true),(2,true),(1,false),(3,false),(4,false),(5,false)] 5 (by kernel_rfl) (by kernel_rfl) ?_
 have hb:=below_dr (w.alloc (.cells #[.int .i64 d1.id,.int .i64 d1.age,.int .i64 d1.proc,.int .i64 d1.began,.slice ba0 d1.calls.length bc0,.slice ba1 d1.answers.length bc1,.slice ba2 d1.touch.reads.length bc2,.slice ba3 d1.touch.writes.length bc3,.slice ba4 d1.marks.length bc4,.int .i64 d1.state] 30)) z17 y17 (y17 + 1)
 have BR:=Lib.hid hb
 replace BW:=Lib.hid (Below.then BW.out hb)
 replace BX:=Lib.hid (Below.then BX.out hb)
 replace BC:=Lib.hid (Below.then BC.out hb)
 replace OG:=Lib.hid (View.own_below OG.out hb)
 clear hb
 repeat (refine zl rfl (fun K hK=>?_);go_simp;(try simp (disch:=omega) only [IntWalk.i64_in]);refine hK _ ?_;clear hK K)
 refine zt rfl (fun K hK=>?_);go_simp;go_at_call 12;refine (laws_toCellS _ d0 _ (View.grow _ H0.out (Grew.below BW.out)) HL0.out).mono ?_;rintro e w18 ⟨u,fpB0,rfl,hf,hb⟩;obtain ⟨xB0,yB0,rfl⟩:=vSlice.form (View.toRd _ hf.own);try go_simp;refine hK _ _ ((Below.then BR.out hb).ext) ?_;clear hK K
 have OO:=Lib.hid hf.own
 clear hf
 replace BR:=Lib.hid (Below.then BR.out hb)
 replace BW:=Lib.hid (Below.then BW.out hb)
 replace BX:=Lib.hid (Below.then BX.out hb)
 replace BC:=Lib.hid (Below.then BC.out hb)
 replace OG:=Lib.hid (View.own_below OG.out hb)
 clear hb
 have OB0:=Lib.hid OO.out
 clear OO
 obtain ⟨⟨z18,y18⟩,rfl⟩:=BX.out.ext
 refine zt rfl (fun K hK=>?_);go_simp;go_at_call 13;refine (laws_toTx _ d1 _ (View.grow _ H1.out (Grew.below BW.out)) L1.out).mono ?_;rintro e w19 ⟨csqB1,fpB1,rfl,hf,hb⟩;obtain ⟨B1a0,B1c0,B1a1,B1c1,B1a2,B1c2,B1a3,B1c3,B1a4,B1c4,rfl⟩:=vTx_shape (View.toRd _ hf.own);try go_simp;refine hK _ _ ((Below.then BR.out hb).ext) ?_;clear hK K
 have OO:=Lib.hid hf.own
 clear hf
 replace BR:=Lib.hid (Below.then BR.out hb)
 replace BW:=Lib.hid (Below.then BW.out hb)
 replace BX:=Lib.hid (Below.then BX.out hb)
 replace BC:=Lib.hid (Below.then BC.out hb)
 replace OG:=Lib.hid (View.own_below OG.out hb)
 replace OB0:=Lib.hid (View.own_below OB0.out hb)
 clear hb
 have OB1:=Lib.hid OO.out
 clear OO
 obtain ⟨⟨z19,y19⟩,rfl⟩:=BX.out.ext
 have DI:=Lib.hid (impl_TxLaid _ _ d0 d1 _ (HG.out.below BW.out) (rdl_of_own (R:=zu) rfl OB0.out) (View.toRd _ OB1.out) HF.out HL0.out HLC.out HLW.out HW.out.2.1)
 rw [<- HIDS.out] at DI
 refine zt rfl (fun K hK=>?_);go_simp;go_at_call 23;refine (DI.out).mono ?_;rintro e w20 ⟨u0,rfl,h0,hb⟩;obtain ⟨fpH,P0,nd,lo⟩:=own_of_cells h0 CK.out.1;obtain ⟨xH,yH,rfl⟩:=vSlice.form (View.toRd _ P0);try go_simp;refine hK _ _ ((Below.then BR.out hb).ext) ?_;clear hK K
 clear DI h0
 have OO:=Lib.hid P0
 have NH:Hid fpH.Nodup:=nd
 have LH:Hid (∀ x ∈ fpH,((w.alloc (.cells #[.int .i64 d1.id,.int .i64 d1.age,.int .i64 d1.proc,.int .i64 d1.began,.slice ba0 d1.calls.length bc0,.slice ba1 d1.answers.length bc1,.slice ba2 d1.touch.reads.length bc2,.slice ba3 d1.touch.writes.length bc3,.slice ba4 d1.marks.length bc4,.int .i64 d1.state] 30)).ext ⟨z5,y5⟩).heap.size<=x):=fun x hx=>Nat.le_trans BC.out.size (lo x hx)
 clear P0 nd lo
 replace BR:=Lib.hid (Below.then BR.out hb)
 replace BW:=Lib.hid (Below.then BW.out hb)
 replace BX:=Lib.hid (Below.then BX.out hb)
 replace BC:=Lib.hid (Below.then BC.out hb)
 replace OG:=Lib.hid (View.own_below OG.out hb)
 replace OB0:=Lib.hid (View.own_below OB0.out hb)
 replace OB1:=Lib.hid (View.own_below OB1.out hb)
 clear hb
 have OH:=Lib.hid OO.out
 clear OO
 obtain ⟨⟨z20,y20⟩,rfl⟩:=BX.out.ext
 repeat (refine zw rfl rfl (fun K hK=>?_);go_simp;refine hK _ _ ?_;clear hK K)
 refine zae ?_
 clear BR
 go_wp2_with fail
 (go_at_call 15;refine (laws_eqCellS _ _ ids _ (View.toRd _ OH.out) (View.grow _ R0.out (Grew.below BC.out))).mono ?_;rintro e w21 ⟨rfl,hb⟩)
 replace BW:=Lib.hid (Below.then BW.out hb)
 replace BX:=Lib.hid (Below.then BX.out hb)
 replace BC:=Lib.hid (Below.then BC.out hb)
 replace OG:=Lib.hid (View.own_below OG.out hb)
 replace OB0:=Lib.hid (View.own_below OB0.out hb)
 replace OB1:=Lib.hid (View.own_below OB1.out hb)
 replace OH:=Lib.hid (View.own_below OH.out hb)
 clear hb
 obtain ⟨⟨z21,y21⟩,rfl⟩:=BX.out.ext
 go_wp2_with fail
 (go_at_call 21;refine (laws_heldCellS _ 1 ids.length _ (View.toRd _ OG.out) (by omega) (by have:=CK.out.2;omega)).mono ?_;rintro e w22 ⟨rfl,hb⟩)
 replace BW:=Lib.hid (Below.then BW.out hb)
 replace BX:=Lib.hid (Below.then BX.out hb)
 replace BC:=Lib.hid (Below.then BC.out hb)
 replace OG:=Lib.hid (View.own_below OG.out hb)
 replace OB0:=Lib.hid (View.own_below OB0.out hb)
 replace OB1:=Lib.hid (View.own_below OB1.out hb)
 replace OH:=Lib.hid (View.own_below OH.out hb)
 clear hb
 obtain ⟨⟨z22,y22⟩,rfl⟩:=BX.out.ext
 go_wp2
 go_ret
 exact ⟨rfl,BW.out⟩
end Go.Proofs.YtgcmnkkakngifaaGreatDoor
