/- Walks. Each condition stands in its theorem. -/
import Derived.Test.YtodokkpnafabpaaGreatDoorTW6
import Derived.Test.YtodokkpnafabpaaGreatDoorTW7
set_option linter.unusedVariables false
set_option linter.unusedSimpArgs false
set_option maxRecDepth 100000
set_option maxHeartbeats 8000000
namespace Go.Proofs.YtodokkpnafabpaaGreatDoor
open Go.ChangeShapes Go.WideShapes Go.ChangeAt Go.RowKit
set_option maxHeartbeats 16000000 in
theorem law_WouldTouch (v0:Value) (d0:List CellD) (cs1:List Value) (d1:TxD) (cs2:List Value) (d2:CallD) (w:World) (hg:Glob w) (hs0:(vSlice zfO 56).rd w [v0] d0) (hs1:(vWith vTx TxD.rng).rd w cs1 d1) (hs2:vCallR.rd w cs2 d2):Calls Tryz.prog 3 #[v0,.agg cs1.toArray,.agg cs2.toArray] w (Yes w):=by
 unfold Yes
 have HRNG:Hid d1.rng:=hs1.2
 have HF:Hid (∀ s ∈ zqa d1,s.fine):=zqaK hs1.1 hs1.2
 have hs1:=hs1.1
 obtain ⟨ba0,bc0,ba1,bc1,ba2,bc2,ba3,bc3,ba4,bc4,rfl⟩:=zqk hs1
 obtain ⟨a0,c0,rfl⟩:=vSlice.form hs0
 obtain ⟨ck,cn,cx,ca,cb,ct⟩:=d2
 obtain ⟨rfl,hc⟩:=hs2
 have HC:=Hd hc
 have H0:=Hd hs0
 have H1:Hid (vTx.rd w _ d1):=hs1
 have HG:=Hd hg
 clear hs0 hs1 hg hc
 unfold CallD.row
 go_enter Tryz.func3,Tryz.ntmps3
 go_wp2_with fail
 obtain ⟨xT,xC⟩:=zci w (.cells #[.int .i64 d1.id,.int .i64 d1.age,.int .i64 d1.proc,.int .i64 d1.began,.slice ba0 d1.calls.length bc0,.slice ba1 d1.answers.length bc1,.slice ba2 d1.touch.reads.length bc2,.slice ba3 d1.touch.writes.length bc3,.slice ba4 d1.marks.length bc4,.int .i64 d1.state] 30) (.cells #[.int .i64 ck,.string cn,.string cx,.int .i64 ca,.int .i64 cb,.string ct] 32) _ rfl
 have hW:Below w.heap.size w ((w.alloc (.cells #[.int .i64 d1.id,.int .i64 d1.age,.int .i64 d1.proc,.int .i64 d1.began,.slice ba0 d1.calls.length bc0,.slice ba1 d1.answers.length bc1,.slice ba2 d1.touch.reads.length bc2,.slice ba3 d1.touch.writes.length bc3,.slice ba4 d1.marks.length bc4,.int .i64 d1.state] 30)).alloc (.cells #[.int .i64 ck,.string cn,.string cx,.int .i64 ca,.int .i64 cb,.string ct] 32)):=(by repeat (first|with_reducible exact Below.refl _ _|with_reducible apply Below.ofAlloc))
 generalize ((w.alloc (.cells #[.int .i64 d1.id,.int .i64 d1.age,.int .i64 d1.proc,.int .i64 d1.began,.slice ba0 d1.calls.length bc0,.slice ba1 d1.answers.length bc1,.slice ba2 d1.touch.reads.length bc2,.slice ba3 d1.touch.writes.length bc3,.slice ba4 d1.marks.length bc4,.int .i64 d1.state] 30)).alloc (.cells #[.int .i64 ck,.string cn,.string cx,.int .i64 ca,.int .i64 cb,.string ct] 32))=w0 at xT xC hW ⊢
 have XT:=Hd xT
 have XC:=Hd xC
 have BW:=Hd hW
 clear xT xC hW
 (go_at_call 4;refine (laws_szCellS _ d0 _ _ (View.grow _ H0.out (Grew.below BW.out)) (by omega) (by omega)).mono ?_;rintro e w1 ⟨rfl,hb⟩)
 replace BW:=Hd (Below.then BW.out hb)
 replace XT:=Zgr hb XT
 replace XC:=Zgr hb XC
 clear hb
 obtain ⟨q0,q0e⟩ : ∃ q:Nat,q=wtS CellD.wt d0:=⟨_,rfl⟩
 rw [<- q0e]
 have Q0:=Hd q0e
 clear q0e
 by_cases g0:(q0:Int)<=1048576
 case neg =>
  rw [zbG g0]
  go_wp2
  go_ret
  exact ⟨rfl,BW.out⟩
 rw [zel g0]
 have n0:¬ (1048576 - (q0:Int):Int)<0:=by omega
 have xT:=XT.out
 have zT:=za xT
 obtain ⟨pT0,pT1,pT2,pT3,pT4,pT5,pT6,pT7,pT8,pT9⟩:=Zc10 xT
 go_wp2_with fail
 (go_at_call 5;refine (zqaY _ d1 _ _ (View.grow _ H1.out (Grew.below BW.out)) (by omega) (by omega)).mono ?_;rintro e w2 ⟨rfl,hb⟩)
 clear pT0 pT1 pT2 pT3 pT4 pT5 pT6 pT7 pT8 pT9 xT zT
 replace BW:=Hd (Below.then BW.out hb)
 replace XT:=Zgr hb XT
 replace XC:=Zgr hb XC
 clear hb
 obtain ⟨q1,q1e⟩ : ∃ q:Nat,q=d1.wt:=⟨_,rfl⟩
 rw [<- q1e]
 have Q1:=Hd q1e
 clear q1e
 by_cases g1:(q1:Int)<=1048576 - (q0:Int)
 case neg =>
  rw [zbG g1]
  go_wp2
  go_ret
  exact ⟨rfl,BW.out⟩
 rw [zel g1]
 have n1:¬ (1048576 - (q0:Int) - (q1:Int):Int)<0:=by omega
 have HSZ:=Hd (zqN ⟨ck,cn,cx,ca,cb,ct⟩)
 have xC:=XC.out
 have zC:=za xC
 obtain ⟨pC0,pC1,pC2,pC3,pC4,pC5⟩:=Zc6 xC
 go_wp2_with fail
 (go_at_call 6;refine (HSZ.out _ _ HC.out.1 (by omega) (by omega)).mono ?_;rintro e w3 ⟨rfl,hb⟩)
 clear pC0 pC1 pC2 pC3 pC4 pC5 xC zC
 replace BW:=Hd (Below.then BW.out hb)
 replace XT:=Zgr hb XT
 replace XC:=Zgr hb XC
 clear hb
 obtain ⟨q2,q2e⟩ : ∃ q:Nat,q=CallD.wt ⟨ck,cn,cx,ca,cb,ct⟩:=⟨_,rfl⟩
 rw [<- q2e]
 have Q2:=Hd q2e
 clear q2e
 by_cases g2:(q2:Int)<=1048576 - (q0:Int) - (q1:Int)
 case neg =>
  rw [zbG g2]
  go_wp2
  go_ret
  exact ⟨rfl,BW.out⟩
 rw [zel g2]
 have n2:¬ (1048576 - (q0:Int) - (q1:Int) - (q2:Int):Int)<0:=by omega
 have HSUM:Hid (wtS CellD.wt d0+d1.wt<=1048576):=by
  have t0:=Q0.out
  have t1:=Q1.out
  show _<=_
  omega
 have HL0:Hid (d0.length<=1048576):=by have:=HSUM.out;unfold wtS at this;show _<=_;omega
 have L1:Hid (d1.wt<=1048576):=by have:=HSUM.out;show _<=_;omega
 have HLC:Hid (d1.calls.length<=1048576):=(zqaw L1.out).1
 have HCNT:Hid ((1:Int)+(2*d0.length:Nat)+(zqav d1:Nat)<=4294960000):=by
  have h1:zqav d1<=6*d1.wt:=by unfold zqav zqd TxD.wt zip wtS;omega
  have:=L1.out
  have:=HL0.out
  show _<=_
  omega
 have HW:=Hd (zqaJ HF.out HSUM.out)
 have HP:Hid (InR d1.proc):=HRNG.out.1
 have HFC:Hid ((K.doCall d1.proc ⟨ck,cn,cx,ca,cb,ct⟩).fits ⟨zqh d0 d1,[],[]⟩):=zqaR HF.out HP.out HC.out.2.1 HSUM.out
 obtain ⟨ans,m,hr⟩ : ∃ ans m,zqA d0 d1 ⟨ck,cn,cx,ca,cb,ct⟩=(ans,m):=⟨_,_,rfl⟩
 have HSM:Hid (Mp.Small m):=by have:=Mp.fits_end HFC.out;rw [show (K.doCall d1.proc ⟨ck,cn,cx,ca,cb,ct⟩).run ⟨zqh d0 d1,[],[]⟩=(ans,m) from hr] at this;exact this
 have HR:=Hd hr
 clear hr Q0 Q1 Q2 HSZ
 go_wp2
 have DC:=Hd (fun W (hB:Below w3.heap.size w3 W)=>laws_toCellS _ d0 W (View.grow _ H0.out (Grew.below (Below.then BW.out hB))) HL0.out)
 have DT:=Hd (fun W (hB:Below w3.heap.size w3 W)=>zqD _ d1 W (View.grow _ H1.out (Grew.below (Below.then BW.out hB))) L1.out)
 have DS:=Hd (fun W v cs (hB:Below w3.heap.size w3 W) hv hc=>zqK v cs d0 d1 ⟨ck,cn,cx,ca,cb,ct⟩ W hv hc HF.out HL0.out HLC.out HW.out.1 HP.out HC.out.1 HC.out.2.1 HC.out.2.2 HFC.out)
 rw [HR.out] at DS
 unfold zbx at DS
 dsimp only at DS
 have HU:Hid (RUp (fun W c d=>RdL zx W c m.rd/\RdL zx W d m.wr)):=Hd (rup_rd HSM.out.rn HSM.out.wn)
 refine zcm (fun L a W=>∃ y11x0 y11x1 y11x2 y11x3 y11x4 y11x5 y11x6 y11x7,a=⟨#[.slice a0 d0.length c0,.agg #[.int .i64 d1.id,.int .i64 d1.age,.int .i64 d1.proc,.int .i64 d1.began,.slice ba0 d1.calls.length bc0,.slice ba1 d1.answers.length bc1,.slice ba2 d1.touch.reads.length bc2,.slice ba3 d1.touch.writes.length bc3,.slice ba4 d1.marks.length bc4,.int .i64 d1.state],.agg #[.int .i64 ck,.string cn,.string cx,.int .i64 ca,.int .i64 cb,.string ct],undef,.pointer (some ⟨w.heap.size,0,none⟩),.pointer (some ⟨w.heap.size+1,0,none⟩),.bool false,.int .i64 (1048576 - (q0:Int) - (q1:Int) - (q2:Int)),y11x7,undef,undef,undef,undef,undef,undef,undef,.slice a0 d0.length c0,.int .i64 1048576,.int .i64 (1048576 - (q0:Int)),.int .i64 (1048576 - (q0:Int)),.bool (decide (1048576 - (q0:Int)<0)),.agg #[.int .i64 d1.id,.int .i64 d1.age,.int .i64 d1.proc,.int .i64 d1.began,.slice ba0 d1.calls.length bc0,.slice ba1 d1.answers.length bc1,.slice ba2 d1.touch.reads.length bc2,.slice ba3 d1.touch.writes.length bc3,.slice ba4 d1.marks.length bc4,.int .i64 d1.state],.int .i64 (1048576 - (q0:Int)),.int .i64 (1048576 - (q0:Int) - (q1:Int)),.int .i64 (1048576 - (q0:Int) - (q1:Int)),.bool (decide (1048576 - (q0:Int) - (q1:Int)<0)),.agg #[.int .i64 ck,.string cn,.string cx,.int .i64 ca,.int .i64 cb,.string ct],.int .i64 (1048576 - (q0:Int) - (q1:Int)),.int .i64 (1048576 - (q0:Int) - (q1:Int) - (q2:Int)),.int .i64 (1048576 - (q0:Int) - (q1:Int) - (q2:Int)),.bool (decide (1048576 - (q0:Int) - (q1:Int) - (q2:Int)<0)),y11x0,y11x1,y11x2,y11x3,y11x4,y11x5,y11x6,undef,undef,undef,undef,undef,undef,undef,undef,undef,undef,undef,undef,undef,undef,undef,undef,undef,undef,undef,undef,undef,undef,undef,undef,undef,undef,undef,undef,undef,undef,undef,undef,undef,undef,undef,undef,undef,undef,undef,undef,undef,undef,undef,undef,undef,undef,undef,undef,undef,undef,undef,undef,undef,undef,undef,undef,undef,undef,undef,undef,undef,undef,undef,undef,undef,undef,undef],[]⟩/\LI w3 (.slice a0 d0.length c0) (.agg #[.int .i64 d1.id,.int .i64 d1.age,.int .i64 d1.proc,.int .i64 d1.began,.slice ba0 d1.calls.length bc0,.slice ba1 d1.answers.length bc1,.slice ba2 d1.touch.reads.length bc2,.slice ba3 d1.touch.writes.length bc3,.slice ba4 d1.marks.length bc4,.int .i64 d1.state]) (.agg #[.int .i64 ck,.string cn,.string cx,.int .i64 ca,.int .i64 cb,.string ct]) (.agg #[.int .i64 ck,.string cn,.string cx,.int .i64 ca,.int .i64 cb,.string ct]) d0 d1 (fun W c d=>RdL zx W c m.rd/\RdL zx W d m.wr) L W y11x0 y11x1 y11x2 y11x3 y11x4 y11x5 y11x6 y11x7) (by kernel_rfl) ?_ ?_ ?_
 ·have N:∀ j,¬ (Array.replicate 9 false).getD j false=true:=zh0 9
  exact ⟨_,_,_,_,_,_,_,_,rfl,⟨by simp,fun k=>absurd k (N _),fun k=>absurd k (N _),HU.out,Below.drew (Below.refl _ _),fun k=>absurd k (N _),fun k=>absurd k (N _),fun k=>absurd k (N _),fun k=>absurd k (N _),fun k=>absurd k (N _),fun k=>absurd k (N _),fun k=>absurd k (N _),fun k=>absurd k (N _)⟩⟩
 ·rintro L a W i ⟨y11x0,y11x1,y11x2,y11x3,y11x4,y11x5,y11x6,y11x7,rfl,H⟩ hi
  have hlt:=zgD hi
  have hun:=zgC hi
  have hW:Hid (∀ j,zdD _ i j=true->L.getD j false=true):=fun j h=>zdp hi h
  have hin:i<9:=hlt
  clear hlt hi
  have hcs:i=0 ∨ i=1 ∨ i=2 ∨ i=3 ∨ i=4 ∨ i=5 ∨ i=6 ∨ i=7 ∨ i=8:=by omega
  clear hin
  rcases hcs with rfl|rfl|rfl|rfl|rfl|rfl|rfl|rfl|rfl
  ·refine zN rfl (fun K hK=>?_)
   go_simp
   refine hK _ _ ⟨_,_,_,_,_,_,_,_,rfl,H.set (i:=0) (by decide) (by decide) (by simp) (by simp) (by simp) (by simp) (by simp) (by simp) (by simp) (by simp)⟩
  ·obtain rfl:=H.f0 (hW.out 0 (by kernel_rfl))
   refine zN rfl (fun K hK=>?_)
   go_simp
   go_at_call 8
   refine (DC.out W H.bel).mono ?_
   rintro e W' ⟨u,fp,rfl,hf,hb⟩
   try go_simp
   refine hK _ _ ⟨_,_,_,_,_,_,_,_,rfl,(H.grow (hb)).set (i:=1) (by decide) (by decide) (by simp) (by rw [if_pos rfl];exact fun _=>rdl_of_own (R:=zu) rfl hf.own) (by simp) (by simp) (by simp) (by simp) (by simp) (by simp)⟩
  ·have hx:=(Grew.below H.bel _ (za XT.out)).trans XT.out
   have hz:=za hx
   obtain ⟨p0,p1,p2,p3,p4,p5,p6,p7,p8,p9⟩:=Zc10 hx
   refine zN rfl (fun K hK=>?_)
   go_simp
   refine hK _ _ ⟨_,_,_,_,_,_,_,_,rfl,H.set (i:=2) (by decide) (by decide) (by simp) (by simp) (by simp) (by simp) (by simp) (by simp) (by simp) (by simp)⟩
  ·obtain rfl:=H.f2 (hW.out 2 (by kernel_rfl))
   refine zN rfl (fun K hK=>?_)
   go_simp
   go_at_call 9
   refine (DT.out W H.bel).mono ?_
   rintro e W' ⟨csq,fp,rfl,hf,hb⟩
   try go_simp
   refine hK _ _ ⟨_,_,_,_,_,_,_,_,rfl,(H.grow (hb)).set (i:=3) (by decide) (by decide) (by simp) (by simp) (by simp) (by rw [if_pos rfl];exact fun _=>⟨_,rfl,View.toRd _ hf.own⟩) (by simp) (by simp) (by simp) (by simp)⟩
  ·have hx:=(Grew.below H.bel _ (za XC.out)).trans XC.out
   have hz:=za hx
   obtain ⟨p0,p1,p2,p3,p4,p5⟩:=Zc6 hx
   refine zN rfl (fun K hK=>?_)
   go_simp
   refine hK _ _ ⟨_,_,_,_,_,_,_,_,rfl,H.set (i:=4) (by decide) (by decide) (by simp) (by simp) (by simp) (by simp) (by simp) (by simp) (by simp) (by simp)⟩
  ·obtain rfl:=H.f4 (hW.out 4 (by kernel_rfl))
   refine zN rfl (fun K hK=>?_)
   go_simp
   go_at_call 10
   refine (zqr ck cn cx ca cb ct W).mono ?_
   rintro e W' ⟨rfl,hb⟩
   try go_simp
   refine hK _ _ ⟨_,_,_,_,_,_,_,_,rfl,(H.grow (hb)).set (i:=5) (by decide) (by decide) (by simp) (by simp) (by simp) (by simp) (by simp) (by simp) (by simp) (by simp)⟩
  ·have k8:L.getD 8 false=false:=by cases h:L.getD 8 false with|false=>rfl|true=>exact absurd (H.c8 h) (by rw [hun];decide)
   have h1:=H.f1 (hW.out 1 (by kernel_rfl)) k8
   obtain ⟨cs3,rfl,h3⟩:=H.f3 (hW.out 3 (by kernel_rfl)) k8
   obtain rfl:=H.f5 (hW.out 5 (by kernel_rfl))
   refine zN rfl (fun K hK=>?_)
   go_simp
   go_at_call 7
   refine (DS.out W _ cs3 H.bel h1 h3).mono ?_
   rintro e W' ⟨u0,u1,rfl,h0,h1,hb⟩
   try go_simp
   refine hK _ _ ⟨_,_,_,_,_,_,_,_,rfl,(H.grow (hb)).set (i:=6) (by decide) (by decide) (by simp) (by simp) (by simp) (by simp) (by simp) (by simp) (by rw [if_pos rfl];exact ⟨_,_,rfl,h0,h1⟩) (by simp)⟩
  ·have k8:L.getD 8 false=false:=by cases h:L.getD 8 false with|false=>rfl|true=>exact absurd (H.c8b h) (by rw [hun];decide)
   refine zN rfl (fun K hK=>?_)
   go_simp
   refine hK _ _ ⟨_,_,_,_,_,_,_,_,rfl,(H.grow (Below.ofAlloc (Below.refl _ _) _)).set (i:=7) (by decide) (by decide) (by simp) (by simp) (by simp) (by simp) (by simp) (by simp) (by simp) (by rw [if_pos rfl];exact ⟨_,rfl,H.bel.size,.inl ⟨k8,heap_alloc_new _ _⟩⟩)⟩
  ·obtain ⟨b,u0,u1,rfl,rfl,⟨⟨_,_,_,rfl⟩,_,_,_,rfl⟩,hB,H'⟩:=H.st (hW.out 6 (by kernel_rfl)) (hW.out 7 (by kernel_rfl)) hun
   have e1:=zf hB
   have hz:=za hB
   refine zN rfl (fun K hK=>?_)
   rw [<- e1]
   clear e1
   go_simp
   exact hK _ _ ⟨_,_,_,_,_,_,_,_,rfl,H'⟩
 rintro L a WB ⟨y11x0,y11x1,y11x2,y11x3,y11x4,y11x5,y11x6,y11x7,rfl,H⟩ hr
 have hall:=zej (ops:=_) H.sz hr (zcu (by kernel_rfl))
 obtain ⟨bW,rfl,hloW,h9⟩:=H.f7 (hall 7 (by decide))
 have k8:=hall 8 (by decide)
 rcases h9 with h9|⟨_,u0,u1,h9,hm⟩
 ·rw [k8] at h9;cases h9.1
 obtain ⟨EW0,FW0,rfl⟩:=hm.1.form
 obtain ⟨EW1,FW1,rfl⟩:=hm.2.form
 have hb:=H.bel
 replace BW:=Hd (Below.then BW.out hb)
 replace XT:=Zgr hb XT
 replace XC:=Zgr hb XC
 clear hb
 have XW:=Hd h9
 clear H hr hall k8 h9
 have R0:Hid (zqy.rd WB [_,_] ⟨m.rd,m.wr⟩):=⟨_,_,rfl,rd_of_RdL (R:=zx) rfl rfl (by decide) hm.1 (fun s hs=>Nat.le_trans (HSM.out.rz s hs) (by decide)),rd_of_RdL (R:=zx) rfl rfl (by decide) hm.2 (fun s hs=>Nat.le_trans (HSM.out.wz s hs) (by decide))⟩
 have BS:Hid (w.heap.size<=WB.heap.size):=BW.out.size
 have BC:=Hd (Below.refl WB.heap.size WB)
 have GT:=Hd (za XT.out)
 have GC:=Hd (za XC.out)
 have GW:=Hd (za XW.out)
 clear hm DC DT DS HU hloW
 go_wp2_with fail
 (go_at_call 8;refine (laws_toCellS _ d0 _ (View.grow _ H0.out (Grew.below BW.out)) HL0.out).mono ?_;rintro e w4 ⟨u,fpK0,rfl,hf,hb⟩;obtain ⟨xK0,yK0,rfl⟩:=vSlice.form (View.toRd _ hf.own))
 have OO:=Hd hf.own
 have LK0:Hid (∀ x ∈ fpK0,WB.heap.size<=x):=fun x hx=>Nat.le_trans BC.out.size (hf.lo x hx)
 clear hf
 replace BW:=Hd (Below.then BW.out hb)
 replace BC:=Hd (Below.then BC.out hb)
 replace XT:=Zgr hb XT
 replace XC:=Zgr hb XC
 replace XW:=Zgr hb XW
 clear hb
 have OK0:=Hd OO.out
 clear OO
 have xT:=XT.out
 have zT:=za xT
 obtain ⟨pT0,pT1,pT2,pT3,pT4,pT5,pT6,pT7,pT8,pT9⟩:=Zc10 xT
 go_wp2_with fail
 (go_at_call 9;refine (zqD _ d1 _ (View.grow _ H1.out (Grew.below BW.out)) L1.out).mono ?_;rintro e w5 ⟨csqK1,fpK1,rfl,hf,hb⟩;obtain ⟨K1a0,K1c0,K1a1,K1c1,K1a2,K1c2,K1a3,K1c3,K1a4,K1c4,rfl⟩:=zqk (View.toRd _ hf.own))
 clear pT0 pT1 pT2 pT3 pT4 pT5 pT6 pT7 pT8 pT9 xT zT
 have OO:=Hd hf.own
 have NK1:Hid fpK1.Nodup:=hf.nodup
 have LK1:Hid (∀ x ∈ fpK1,WB.heap.size<=x):=fun x hx=>Nat.le_trans BC.out.size (hf.lo x hx)
 have DK1K0:Hid (∀ x ∈ fpK1,x ∉ fpK0):=fun x hx h=>by have h1:=hf.lo x hx;have h2:=View.lt _ OK0.out x h;omega
 clear hf
 replace BW:=Hd (Below.then BW.out hb)
 replace BC:=Hd (Below.then BC.out hb)
 replace XT:=Zgr hb XT
 replace XC:=Zgr hb XC
 replace XW:=Zgr hb XW
 replace OK0:=Hd (View.own_below OK0.out hb)
 clear hb
 have OK1:=Hd OO.out
 clear OO
 go_wp2
 have xK:(w5.alloc (.cells #[.int .i64 d1.id,.int .i64 d1.age,.int .i64 d1.proc,.int .i64 d1.began,.slice K1a0 d1.calls.length K1c0,.slice K1a1 d1.answers.length K1c1,.slice K1a2 d1.touch.reads.length K1c2,.slice K1a3 d1.touch.writes.length K1c3,.slice K1a4 d1.marks.length K1c4,.int .i64 d1.state] 43)).heap[w5.heap.size]?=some (.cells #[.int .i64 d1.id,.int .i64 d1.age,.int .i64 d1.proc,.int .i64 d1.began,.slice K1a0 d1.calls.length K1c0,.slice K1a1 d1.answers.length K1c1,.slice K1a2 d1.touch.reads.length K1c2,.slice K1a3 d1.touch.writes.length K1c3,.slice K1a4 d1.marks.length K1c4,.int .i64 d1.state] 43):=heap_alloc_new _ _
 have hb:=Below.ofAlloc (Below.refl w5.heap.size w5) (.cells #[.int .i64 d1.id,.int .i64 d1.age,.int .i64 d1.proc,.int .i64 d1.began,.slice K1a0 d1.calls.length K1c0,.slice K1a1 d1.answers.length K1c1,.slice K1a2 d1.touch.reads.length K1c2,.slice K1a3 d1.touch.writes.length K1c3,.slice K1a4 d1.marks.length K1c4,.int .i64 d1.state] 43)
 have PK0:Hid (∀ x ∈ fpK0,x<w5.heap.size):=fun x h=>View.lt _ OK0.out x h
 have PK1:Hid (∀ x ∈ fpK1,x<w5.heap.size):=fun x h=>View.lt _ OK1.out x h
 generalize w5.alloc (.cells #[.int .i64 d1.id,.int .i64 d1.age,.int .i64 d1.proc,.int .i64 d1.began,.slice K1a0 d1.calls.length K1c0,.slice K1a1 d1.answers.length K1c1,.slice K1a2 d1.touch.reads.length K1c2,.slice K1a3 d1.touch.writes.length K1c3,.slice K1a4 d1.marks.length K1c4,.int .i64 d1.state] 43)=w6 at xK hb ⊢
 have GK:Hid (w5.heap.size<=w6.heap.size):=hb.size
 replace BW:=Hd (Below.then BW.out hb)
 replace BC:=Hd (Below.then BC.out hb)
 replace XT:=Zgr hb XT
 replace XC:=Zgr hb XC
 replace XW:=Zgr hb XW
 replace OK0:=Hd (View.own_below OK0.out hb)
 replace OK1:=Hd (View.own_below OK1.out hb)
 clear hb
 have XK:=Hd xK
 clear xK
 have HB14:Hid (WB.heap.size<=w6.heap.size):=BC.out.size
 have DS:=Hd (fun W (hB:Below w6.heap.size w6 W)=>zqt _ _ d0 d1 ⟨ck,cn,cx,ca,cb,ct⟩ W (HG.out.below (Below.then BW.out hB)) (rdl_of_own (R:=zu) rfl (View.own_below OK0.out hB)) (View.toRd _ (View.own_below OK1.out hB)) HF.out HL0.out HLC.out HW.out.2.1 HW.out.2.2.2.2.2 HP.out HC.out.1 HC.out.2.1 HC.out.2.2 HFC.out)
 rw [HR.out] at DS
 unfold zbx at DS
 dsimp only at DS
 refine zcm (fun L a W=>∃ y14x0 y14x1 y14x2 y14x3 y14x4 y14x5,a=⟨#[.slice a0 d0.length c0,.agg #[.int .i64 d1.id,.int .i64 d1.age,.int .i64 d1.proc,.int .i64 d1.began,.slice ba0 d1.calls.length bc0,.slice ba1 d1.answers.length bc1,.slice ba2 d1.touch.reads.length bc2,.slice ba3 d1.touch.writes.length bc3,.slice ba4 d1.marks.length bc4,.int .i64 d1.state],.agg #[.int .i64 ck,.string cn,.string cx,.int .i64 ca,.int .i64 cb,.string ct],undef,.pointer (some ⟨w.heap.size,0,none⟩),.pointer (some ⟨w.heap.size+1,0,none⟩),.bool false,.int .i64 (1048576 - (q0:Int) - (q1:Int) - (q2:Int)),.pointer (some ⟨bW,0,none⟩),.slice xK0 d0.length yK0,.pointer (some ⟨w5.heap.size,0,none⟩),y14x5,undef,undef,undef,undef,.slice a0 d0.length c0,.int .i64 1048576,.int .i64 (1048576 - (q0:Int)),.int .i64 (1048576 - (q0:Int)),.bool (decide (1048576 - (q0:Int)<0)),.agg #[.int .i64 d1.id,.int .i64 d1.age,.int .i64 d1.proc,.int .i64 d1.began,.slice ba0 d1.calls.length bc0,.slice ba1 d1.answers.length bc1,.slice ba2 d1.touch.reads.length bc2,.slice ba3 d1.touch.writes.length bc3,.slice ba4 d1.marks.length bc4,.int .i64 d1.state],.int .i64 (1048576 - (q0:Int)),.int .i64 (1048576 - (q0:Int) - (q1:Int)),.int .i64 (1048576 - (q0:Int) - (q1:Int)),.bool (decide (1048576 - (q0:Int) - (q1:Int)<0)),.agg #[.int .i64 ck,.string cn,.string cx,.int .i64 ca,.int .i64 cb,.string ct],.int .i64 (1048576 - (q0:Int) - (q1:Int)),.int .i64 (1048576 - (q0:Int) - (q1:Int) - (q2:Int)),.int .i64 (1048576 - (q0:Int) - (q1:Int) - (q2:Int)),.bool (decide (1048576 - (q0:Int) - (q1:Int) - (q2:Int)<0)),y11x0,y11x1,y11x2,y11x3,y11x4,y11x5,y11x6,.slice a0 d0.length c0,.slice xK0 d0.length yK0,.agg #[.int .i64 d1.id,.int .i64 d1.age,.int .i64 d1.proc,.int .i64 d1.began,.slice ba0 d1.calls.length bc0,.slice ba1 d1.answers.length bc1,.slice ba2 d1.touch.reads.length bc2,.slice ba3 d1.touch.writes.length bc3,.slice ba4 d1.marks.length bc4,.int .i64 d1.state],.agg #[.int .i64 d1.id,.int .i64 d1.age,.int .i64 d1.proc,.int .i64 d1.began,.slice K1a0 d1.calls.length K1c0,.slice K1a1 d1.answers.length K1c1,.slice K1a2 d1.touch.reads.length K1c2,.slice K1a3 d1.touch.writes.length K1c3,.slice K1a4 d1.marks.length K1c4,.int .i64 d1.state],y14x0,y14x1,y14x2,y14x3,y14x4,undef,undef,undef,undef,undef,undef,undef,undef,undef,undef,undef,undef,undef,undef,undef,undef,undef,undef,undef,undef,undef,undef,undef,undef,undef,undef,undef,undef,undef,undef,undef,undef,undef,undef,undef,undef,undef,undef,undef,undef,undef,undef,undef,undef,undef,undef,undef,undef,undef,undef,undef,undef,undef,undef,undef,undef,undef,undef],[]⟩/\LJ w6 (.slice xK0 d0.length yK0) (.agg #[.int .i64 d1.id,.int .i64 d1.age,.int .i64 d1.proc,.int .i64 d1.began,.slice K1a0 d1.calls.length K1c0,.slice K1a1 d1.answers.length K1c1,.slice K1a2 d1.touch.reads.length K1c2,.slice K1a3 d1.touch.writes.length K1c3,.slice K1a4 d1.marks.length K1c4,.int .i64 d1.state]) (.agg #[.int .i64 ck,.string cn,.string cx,.int .i64 ca,.int .i64 cb,.string ct]) (.agg #[.int .i64 ck,.string cn,.string cx,.int .i64 ca,.int .i64 cb,.string ct]) (fun W c d=>OwnL zx 9 W w6.heap.size c m.rd/\OwnL zx 9 W w6.heap.size d m.wr/\∀ k,c.ownBlock=some k->d.ownBlock ≠ some k) L W y14x0 y14x1 y14x2 y14x3 y14x4 y14x5) (by kernel_rfl) ?_ ?_ ?_
 ·have N:∀ j,¬ (Array.replicate 7 false).getD j false=true:=zh0 7
  exact ⟨_,_,_,_,_,_,rfl,⟨by simp,fun k=>absurd k (N _),fun k=>absurd k (N _),zqaM,Below.drew (Below.refl _ _),fun k=>absurd k (N _),fun k=>absurd k (N _),fun k=>absurd k (N _),fun k=>absurd k (N _),fun k=>absurd k (N _),fun k=>absurd k (N _)⟩⟩
 ·rintro L a W i ⟨y14x0,y14x1,y14x2,y14x3,y14x4,y14x5,rfl,H⟩ hi
  have hlt:=zgD hi
  have hun:=zgC hi
  have hW:Hid (∀ j,zdD _ i j=true->L.getD j false=true):=fun j h=>zdp hi h
  have hin:i<7:=hlt
  clear hlt hi
  have hcs:i=0 ∨ i=1 ∨ i=2 ∨ i=3 ∨ i=4 ∨ i=5 ∨ i=6:=by omega
  clear hin
  rcases hcs with rfl|rfl|rfl|rfl|rfl|rfl|rfl
  ·refine zN rfl (fun K hK=>?_)
   go_simp
   refine hK _ _ ⟨_,_,_,_,_,_,rfl,H.set (i:=0) (by decide) (by decide) (by simp) (by simp) (by simp) (by simp) (by simp) (by simp)⟩
  ·have hx:=(Grew.below H.bel _ (za XK.out)).trans XK.out
   have hz:=za hx
   obtain ⟨p0,p1,p2,p3,p4,p5,p6,p7,p8,p9⟩:=Zc10 hx
   refine zN rfl (fun K hK=>?_)
   go_simp
   refine hK _ _ ⟨_,_,_,_,_,_,rfl,H.set (i:=1) (by decide) (by decide) (by simp) (by simp) (by simp) (by simp) (by simp) (by simp)⟩
  ·have hx:=(Grew.below H.bel _ (za XC.out)).trans XC.out
   have hz:=za hx
   obtain ⟨p0,p1,p2,p3,p4,p5⟩:=Zc6 hx
   refine zN rfl (fun K hK=>?_)
   go_simp
   refine hK _ _ ⟨_,_,_,_,_,_,rfl,H.set (i:=2) (by decide) (by decide) (by simp) (by simp) (by simp) (by simp) (by simp) (by simp)⟩
  ·obtain rfl:=H.f2 (hW.out 2 (by kernel_rfl))
   refine zN rfl (fun K hK=>?_)
   go_simp
   go_at_call 10
   refine (zqr ck cn cx ca cb ct W).mono ?_
   rintro e W' ⟨rfl,hb⟩
   try go_simp
   refine hK _ _ ⟨_,_,_,_,_,_,rfl,(H.grow (hb)).set (i:=3) (by decide) (by decide) (by simp) (by simp) (by simp) (by simp) (by simp) (by simp)⟩
  ·obtain rfl:=H.f0 (hW.out 0 (by kernel_rfl))
   obtain rfl:=H.f1 (hW.out 1 (by kernel_rfl))
   obtain rfl:=H.f3 (hW.out 3 (by kernel_rfl))
   refine zN rfl (fun K hK=>?_)
   go_simp
   go_at_call 11
   refine (DS.out W H.bel).mono ?_
   rintro e W' ⟨u0,u1,rfl,h0,h1,hd,hb⟩
   try go_simp
   refine hK _ _ ⟨_,_,_,_,_,_,rfl,(H.grow (hb)).set (i:=4) (by decide) (by decide) (by simp) (by simp) (by simp) (by simp) (by rw [if_pos rfl];exact ⟨_,_,rfl,h0.base H.bel.size,h1.base H.bel.size,hd⟩) (by simp)⟩
  ·have k6:L.getD 6 false=false:=by cases h:L.getD 6 false with|false=>rfl|true=>exact absurd (H.c6b h) (by rw [hun];decide)
   refine zN rfl (fun K hK=>?_)
   go_simp
   refine hK _ _ ⟨_,_,_,_,_,_,rfl,(H.grow (Below.ofAlloc (Below.refl _ _) _)).set (i:=5) (by decide) (by decide) (by simp) (by simp) (by simp) (by simp) (by simp) (by rw [if_pos rfl];exact ⟨_,rfl,H.bel.size,.inl ⟨k6,heap_alloc_new _ _⟩⟩)⟩
  ·obtain ⟨b,u0,u1,rfl,rfl,⟨⟨_,_,_,rfl⟩,_,_,_,rfl⟩,hB,H'⟩:=H.st (hW.out 4 (by kernel_rfl)) (hW.out 5 (by kernel_rfl)) hun
   have e1:=zf hB
   have hz:=za hB
   refine zN rfl (fun K hK=>?_)
   rw [<- e1]
   clear e1
   go_simp
   exact hK _ _ ⟨_,_,_,_,_,_,rfl,H'⟩
 rintro L a WG ⟨y14x0,y14x1,y14x2,y14x3,y14x4,y14x5,rfl,H⟩ hr
 have hall:=zej (ops:=_) H.sz hr (zcu (by kernel_rfl))
 obtain ⟨bG,rfl,hloG,h9⟩:=H.f5 (hall 5 (by decide))
 have k8:=hall 6 (by decide)
 rcases h9 with h9|⟨_,u0,u1,h9,hm⟩
 ·rw [k8] at h9;cases h9.1
 obtain ⟨EG0,FG0,rfl⟩:=hm.1.rd.form
 obtain ⟨EG1,FG1,rfl⟩:=hm.2.1.rd.form
 have hb:=H.bel
 replace BW:=Hd (Below.then BW.out hb)
 replace BC:=Hd (Below.then BC.out hb)
 replace XT:=Zgr hb XT
 replace XC:=Zgr hb XC
 replace XW:=Zgr hb XW
 replace XK:=Zgr hb XK
 replace OK0:=Hd (View.own_below OK0.out hb)
 replace OK1:=Hd (View.own_below OK1.out hb)
 clear hb
 have XG:=Hd h9
 clear H hr hall k8 h9
 obtain ⟨fpG,P0,ndG,loG⟩:=zqF hm.1 hm.2.1 hm.2.2 (fun s hs=>Nat.le_trans (HSM.out.rz s hs) (by decide)) (fun s hs=>Nat.le_trans (HSM.out.wz s hs) (by decide))
 have NGG:Hid (bG ∉ fpG):=touch_nb P0 XG.out
 have NG:Hid fpG.Nodup:=ndG
 have LG:Hid (∀ x ∈ fpG,WB.heap.size<=x):=fun x hx=>Nat.le_trans HB14.out (loG x hx)
 have DGK0:Hid (∀ x ∈ fpG,x ∉ fpK0):=fun x hx h=>by have h1:=loG x hx;have h2:=PK0.out x h;have h3:=GK.out;omega
 have DGK1:Hid (∀ x ∈ fpG,x ∉ fpK1):=fun x hx h=>by have h1:=loG x hx;have h2:=PK1.out x h;have h3:=GK.out;omega
 have GG:Hid (w6.heap.size<=bG):=hloG
 have OG:=Hd P0
 clear P0 ndG loG hm DS hloG
 have xG:=XG.out
 have zG:=za xG
 obtain ⟨pG0,pG1⟩:=Zc2 xG
 have xW:=XW.out
 have zW:=za xW
 obtain ⟨pW0,pW1⟩:=Zc2 xW
 go_wp2_with fail
 (go_at_call 12;refine (zqn _ _ ⟨m.rd,m.wr⟩ _ (View.toRd _ OG.out) (View.grow _ R0.out (Grew.below BC.out))).mono ?_;rintro e w7 ⟨rfl,hb⟩)
 clear pG0 pG1 xG zG
 clear pW0 pW1 xW zW
 replace BW:=Hd (Below.then BW.out hb)
 replace BC:=Hd (Below.then BC.out hb)
 replace XT:=Zgr hb XT
 replace XC:=Zgr hb XC
 replace XW:=Zgr hb XW
 replace XK:=Zgr hb XK
 replace XG:=Zgr hb XG
 replace OK0:=Hd (View.own_below OK0.out hb)
 replace OK1:=Hd (View.own_below OK1.out hb)
 replace OG:=Hd (View.own_below OG.out hb)
 clear hb
 go_wp2_with fail
 (go_at_call 8;refine (laws_toCellS _ d0 _ (View.grow _ H0.out (Grew.below BW.out)) HL0.out).mono ?_;rintro e w8 ⟨u,fpE0,rfl,hf,hb⟩;obtain ⟨xE0,yE0,rfl⟩:=vSlice.form (View.toRd _ hf.own))
 have OO:=Hd hf.own
 clear hf
 replace BW:=Hd (Below.then BW.out hb)
 replace BC:=Hd (Below.then BC.out hb)
 replace XT:=Zgr hb XT
 replace XC:=Zgr hb XC
 replace XW:=Zgr hb XW
 replace XK:=Zgr hb XK
 replace XG:=Zgr hb XG
 replace OK0:=Hd (View.own_below OK0.out hb)
 replace OK1:=Hd (View.own_below OK1.out hb)
 replace OG:=Hd (View.own_below OG.out hb)
 clear hb
 have OE0:=Hd OO.out
 clear OO
 go_wp2_with fail
 (go_at_call 13;refine (laws_eqCellS _ _ d0 _ (View.toRd _ OK0.out) (View.toRd _ OE0.out)).mono ?_;rintro e w9 ⟨rfl,hb⟩)
 replace BW:=Hd (Below.then BW.out hb)
 replace BC:=Hd (Below.then BC.out hb)
 replace XT:=Zgr hb XT
 replace XC:=Zgr hb XC
 replace XW:=Zgr hb XW
 replace XK:=Zgr hb XK
 replace XG:=Zgr hb XG
 replace OK0:=Hd (View.own_below OK0.out hb)
 replace OK1:=Hd (View.own_below OK1.out hb)
 replace OG:=Hd (View.own_below OG.out hb)
 replace OE0:=Hd (View.own_below OE0.out hb)
 clear hb
 clear OE0
 go_wp2
 have xK:=XK.out
 have zK:=za xK
 obtain ⟨pK0,pK1,pK2,pK3,pK4,pK5,pK6,pK7,pK8,pK9⟩:=Zc10 xK
 have xT:=XT.out
 have zT:=za xT
 obtain ⟨pT0,pT1,pT2,pT3,pT4,pT5,pT6,pT7,pT8,pT9⟩:=Zc10 xT
 refine zgw [(0,true),(1,true),(2,false),(3,false),(4,true)] 5 (by kernel_rfl) (by kernel_rfl) ?_
 have hb:=Below.drew (Below.refl w9.heap.size w9)
 repeat (refine zm rfl (fun K hK=>?_);go_simp;(try simp (disch:=omega) only [IntWalk.i64_in]);refine hK _ ?_;clear hK K)
 clear pK0 pK1 pK2 pK3 pK4 pK5 pK6 pK7 pK8 pK9 xK zK
 clear pT0 pT1 pT2 pT3 pT4 pT5 pT6 pT7 pT8 pT9 xT zT
 have BR:=Hd hb
 replace BW:=Hd (Below.then BW.out hb)
 replace BC:=Hd (Below.then BC.out hb)
 replace XT:=Zgr hb XT
 replace XC:=Zgr hb XC
 replace XW:=Zgr hb XW
 replace XK:=Zgr hb XK
 replace XG:=Zgr hb XG
 replace OK0:=Hd (View.own_below OK0.out hb)
 replace OK1:=Hd (View.own_below OK1.out hb)
 replace OG:=Hd (View.own_below OG.out hb)
 clear hb
 refine zt rfl (fun K hK=>?_);go_simp;go_at_call 9;refine (zqD _ d1 _ (View.grow _ H1.out (Grew.below BW.out)) L1.out).mono ?_;rintro e w10 ⟨csqE1,fpE1,rfl,hf,hb⟩;obtain ⟨E1a0,E1c0,E1a1,E1c1,E1a2,E1c2,E1a3,E1c3,E1a4,E1c4,rfl⟩:=zqk (View.toRd _ hf.own);try go_simp;refine hK _ _ ((Below.then BR.out hb).ext) ?_;clear hK K
 have OO:=Hd hf.own
 clear hf
 replace BR:=Hd (Below.then BR.out hb)
 replace BW:=Hd (Below.then BW.out hb)
 replace BC:=Hd (Below.then BC.out hb)
 replace XT:=Zgr hb XT
 replace XC:=Zgr hb XC
 replace XW:=Zgr hb XW
 replace XK:=Zgr hb XK
 replace XG:=Zgr hb XG
 replace OK0:=Hd (View.own_below OK0.out hb)
 replace OK1:=Hd (View.own_below OK1.out hb)
 replace OG:=Hd (View.own_below OG.out hb)
 clear hb
 have OE1:=Hd OO.out
 clear OO
 refine zt rfl (fun K hK=>?_);go_simp;go_at_call 14;refine (zqaZ _ _ d1 _ (View.toRd _ OK1.out) (View.toRd _ OE1.out)).mono ?_;rintro e w11 ⟨rfl,hb⟩;try go_simp;refine hK _ _ ((Below.then BR.out hb).ext) ?_;clear hK K
 replace BR:=Hd (Below.then BR.out hb)
 replace BW:=Hd (Below.then BW.out hb)
 replace BC:=Hd (Below.then BC.out hb)
 replace XT:=Zgr hb XT
 replace XC:=Zgr hb XC
 replace XW:=Zgr hb XW
 replace XK:=Zgr hb XK
 replace XG:=Zgr hb XG
 replace OK0:=Hd (View.own_below OK0.out hb)
 replace OK1:=Hd (View.own_below OK1.out hb)
 replace OG:=Hd (View.own_below OG.out hb)
 replace OE1:=Hd (View.own_below OE1.out hb)
 clear hb
 clear OE1
 repeat (refine zm rfl (fun K hK=>?_);go_simp;(try simp (disch:=omega) only [IntWalk.i64_in]);refine hK _ ?_;clear hK K)
 refine zaf ?_
 clear BR
 go_wp2_with fail
 (go_at_call 15;refine (zqT _ fpK0 d0 _ _ OK0.out (by omega) (by have:=HL0.out;omega)).mono ?_;rintro e w12 ⟨rfl,hm,hu⟩)
 replace BW:=Hd (Below.trans BW.out (hu.toBelow BW.out.size (fun x hx=>Nat.le_trans BS.out (LK0.out x hx))))
 replace BC:=Hd (Below.trans BC.out (hu.toBelow BC.out.size LK0.out))
 replace XT:=Hd ((hu.block _ (za XT.out) (fun h=>absurd (LK0.out _ h) (Nat.not_le.2 GT.out))).trans XT.out)
 replace XC:=Hd ((hu.block _ (za XC.out) (fun h=>absurd (LK0.out _ h) (Nat.not_le.2 GC.out))).trans XC.out)
 replace XW:=Hd ((hu.block _ (za XW.out) (fun h=>absurd (LK0.out _ h) (Nat.not_le.2 GW.out))).trans XW.out)
 replace XK:=Hd ((hu.block _ (za XK.out) (fun h=>absurd (PK0.out _ h) (Nat.lt_irrefl _))).trans XK.out)
 replace XG:=Hd ((hu.block _ (za XG.out) (fun h=>absurd (PK0.out _ h) (Nat.not_lt.2 (Nat.le_trans GK.out GG.out)))).trans XG.out)
 replace OK1:=Hd (View.ownUpon OK1.out hu DK1K0.out)
 replace OG:=Hd (View.ownUpon OG.out hu DGK0.out)
 clear OK0
 clear hu hm
 have xK:=XK.out
 have zK:=za xK
 obtain ⟨pK0,pK1,pK2,pK3,pK4,pK5,pK6,pK7,pK8,pK9⟩:=Zc10 xK
 go_wp2_with fail
 (go_at_call 16;refine (zqaC _ fpK1 d1 _ _ OK1.out NK1.out (by omega) HCNT.out).mono ?_;rintro e w13 ⟨rfl,hu⟩)
 clear pK0 pK1 pK2 pK3 pK4 pK5 pK6 pK7 pK8 pK9 xK zK
 replace BW:=Hd (Below.trans BW.out (hu.toBelow BW.out.size (fun x hx=>Nat.le_trans BS.out (LK1.out x hx))))
 replace BC:=Hd (Below.trans BC.out (hu.toBelow BC.out.size LK1.out))
 replace XT:=Hd ((hu.block _ (za XT.out) (fun h=>absurd (LK1.out _ h) (Nat.not_le.2 GT.out))).trans XT.out)
 replace XC:=Hd ((hu.block _ (za XC.out) (fun h=>absurd (LK1.out _ h) (Nat.not_le.2 GC.out))).trans XC.out)
 replace XW:=Hd ((hu.block _ (za XW.out) (fun h=>absurd (LK1.out _ h) (Nat.not_le.2 GW.out))).trans XW.out)
 replace XK:=Hd ((hu.block _ (za XK.out) (fun h=>absurd (PK1.out _ h) (Nat.lt_irrefl _))).trans XK.out)
 replace XG:=Hd ((hu.block _ (za XG.out) (fun h=>absurd (PK1.out _ h) (Nat.not_lt.2 (Nat.le_trans GK.out GG.out)))).trans XG.out)
 replace OG:=Hd (View.ownUpon OG.out hu DGK1.out)
 clear OK1
 clear hu
 have hk1:¬ ((1:Int)+((2*d0.length:Nat):Int)+(zqav d1:Nat))<0:=by omega
 have xG:=XG.out
 have zG:=za xG
 obtain ⟨pG0,pG1⟩:=Zc2 xG
 have xW:=XW.out
 have zW:=za xW
 obtain ⟨pW0,pW1⟩:=Zc2 xW
 go_wp2_with fail
 (go_at_call 12;refine (zqn _ _ ⟨m.rd,m.wr⟩ _ (View.toRd _ OG.out) (View.grow _ R0.out (Grew.below BC.out))).mono ?_;rintro e w14 ⟨rfl,hb⟩)
 clear pG0 pG1 xG zG
 clear pW0 pW1 xW zW
 replace BW:=Hd (Below.then BW.out hb)
 replace BC:=Hd (Below.then BC.out hb)
 replace XT:=Zgr hb XT
 replace XC:=Zgr hb XC
 replace XW:=Zgr hb XW
 replace XK:=Zgr hb XK
 replace XG:=Zgr hb XG
 replace OG:=Hd (View.own_below OG.out hb)
 clear hb
 have xG:=XG.out
 have zG:=za xG
 obtain ⟨pG0,pG1⟩:=Zc2 xG
 go_wp2_with fail
 (go_at_call 17;refine (zqM _ fpG ⟨m.rd,m.wr⟩ 1 _ OG.out NG.out (by omega) (by have:=HSM.out.rl;have:=HSM.out.wl;rw [show zqd ⟨m.rd,m.wr⟩=1*m.rd.length+1*m.wr.length from rfl];omega)).mono ?_;rintro e w15 ⟨rfl,hm,hu⟩)
 clear pG0 pG1 xG zG
 replace BW:=Hd (Below.trans BW.out (hu.toBelow BW.out.size (fun x hx=>Nat.le_trans BS.out (LG.out x hx))))
 replace BC:=Hd (Below.trans BC.out (hu.toBelow BC.out.size LG.out))
 replace XT:=Hd ((hu.block _ (za XT.out) (fun h=>absurd (LG.out _ h) (Nat.not_le.2 GT.out))).trans XT.out)
 replace XC:=Hd ((hu.block _ (za XC.out) (fun h=>absurd (LG.out _ h) (Nat.not_le.2 GC.out))).trans XC.out)
 replace XW:=Hd ((hu.block _ (za XW.out) (fun h=>absurd (LG.out _ h) (Nat.not_le.2 GW.out))).trans XW.out)
 clear XK
 replace XG:=Hd ((hu.block _ (za XG.out) NGG.out).trans XG.out)
 clear OG
 have OG:=Hd hm
 clear hu hm
 rw [show zqd ⟨m.rd,m.wr⟩=1*m.rd.length+1*m.wr.length from rfl]
 have hq0:¬ (1:Int)+((1*m.rd.length+1*m.wr.length:Nat):Int)<0:=by omega
 have xG:=XG.out
 have zG:=za xG
 obtain ⟨pG0,pG1⟩:=Zc2 xG
 go_wp2_with fail
 (go_at_call 18;refine (zqs _ 1 m.rd.length m.wr.length _ (View.toRd _ OG.out) (by omega) (by have:=HSM.out.rl;have:=HSM.out.wl;omega)).mono ?_;rintro e w16 ⟨rfl,hb⟩)
 clear pG0 pG1 xG zG
 replace BW:=Hd (Below.then BW.out hb)
 replace BC:=Hd (Below.then BC.out hb)
 replace XT:=Zgr hb XT
 replace XC:=Zgr hb XC
 replace XW:=Zgr hb XW
 replace XG:=Zgr hb XG
 replace OG:=Hd (View.own_below OG.out hb)
 clear hb
 go_wp2
 have DC:=Hd (fun W (hB:Below w16.heap.size w16 W)=>laws_toCellS _ d0 W (View.grow _ H0.out (Grew.below (Below.then BW.out hB))) HL0.out)
 have DT:=Hd (fun W (hB:Below w16.heap.size w16 W)=>zqD _ d1 W (View.grow _ H1.out (Grew.below (Below.then BW.out hB))) L1.out)
 have DS:=Hd (fun W v cs (hB:Below w16.heap.size w16 W) hv hc=>zqt v cs d0 d1 ⟨ck,cn,cx,ca,cb,ct⟩ W (HG.out.below (Below.then BW.out hB)) hv hc HF.out HL0.out HLC.out HW.out.2.1 HW.out.2.2.2.2.2 HP.out HC.out.1 HC.out.2.1 HC.out.2.2 HFC.out)
 rw [HR.out] at DS
 unfold zbx at DS
 dsimp only at DS
 refine zcm (fun L a W=>∃ y34x0 y34x1 y34x2 y34x3 y34x4 y34x5 y34x6 y34x7,a=⟨#[.slice a0 d0.length c0,.agg #[.int .i64 d1.id,.int .i64 d1.age,.int .i64 d1.proc,.int .i64 d1.began,.slice ba0 d1.calls.length bc0,.slice ba1 d1.answers.length bc1,.slice ba2 d1.touch.reads.length bc2,.slice ba3 d1.touch.writes.length bc3,.slice ba4 d1.marks.length bc4,.int .i64 d1.state],.agg #[.int .i64 ck,.string cn,.string cx,.int .i64 ca,.int .i64 cb,.string ct],undef,.pointer (some ⟨w.heap.size,0,none⟩),.pointer (some ⟨w.heap.size+1,0,none⟩),.bool false,.int .i64 (1048576 - (q0:Int) - (q1:Int) - (q2:Int)),.pointer (some ⟨bW,0,none⟩),.slice xK0 d0.length yK0,.pointer (some ⟨w5.heap.size,0,none⟩),.pointer (some ⟨bG,0,none⟩),.int .i64 (1+2*(d0.length:Int)+((zqav d1:Nat):Int)),.int .i64 (1+((m.rd.length:Int)+(m.wr.length:Int))),.int .i64 (1+((m.rd.length:Int)+(m.wr.length:Int))),y34x7,.slice a0 d0.length c0,.int .i64 1048576,.int .i64 (1048576 - (q0:Int)),.int .i64 (1048576 - (q0:Int)),.bool (decide (1048576 - (q0:Int)<0)),.agg #[.int .i64 d1.id,.int .i64 d1.age,.int .i64 d1.proc,.int .i64 d1.began,.slice ba0 d1.calls.length bc0,.slice ba1 d1.answers.length bc1,.slice ba2 d1.touch.reads.length bc2,.slice ba3 d1.touch.writes.length bc3,.slice ba4 d1.marks.length bc4,.int .i64 d1.state],.int .i64 (1048576 - (q0:Int)),.int .i64 (1048576 - (q0:Int) - (q1:Int)),.int .i64 (1048576 - (q0:Int) - (q1:Int)),.bool (decide (1048576 - (q0:Int) - (q1:Int)<0)),.agg #[.int .i64 ck,.string cn,.string cx,.int .i64 ca,.int .i64 cb,.string ct],.int .i64 (1048576 - (q0:Int) - (q1:Int)),.int .i64 (1048576 - (q0:Int) - (q1:Int) - (q2:Int)),.int .i64 (1048576 - (q0:Int) - (q1:Int) - (q2:Int)),.bool (decide (1048576 - (q0:Int) - (q1:Int) - (q2:Int)<0)),y11x0,y11x1,y11x2,y11x3,y11x4,y11x5,y11x6,.slice a0 d0.length c0,.slice xK0 d0.length yK0,.agg #[.int .i64 d1.id,.int .i64 d1.age,.int .i64 d1.proc,.int .i64 d1.began,.slice ba0 d1.calls.length bc0,.slice ba1 d1.answers.length bc1,.slice ba2 d1.touch.reads.length bc2,.slice ba3 d1.touch.writes.length bc3,.slice ba4 d1.marks.length bc4,.int .i64 d1.state],.agg #[.int .i64 d1.id,.int .i64 d1.age,.int .i64 d1.proc,.int .i64 d1.began,.slice K1a0 d1.calls.length K1c0,.slice K1a1 d1.answers.length K1c1,.slice K1a2 d1.touch.reads.length K1c2,.slice K1a3 d1.touch.writes.length K1c3,.slice K1a4 d1.marks.length K1c4,.int .i64 d1.state],y14x0,y14x1,y14x2,y14x3,y14x4,.agg #[.slice EG0 m.rd.length FG0,.slice EG1 m.wr.length FG1],.agg #[.slice EW0 m.rd.length FW0,.slice EW1 m.wr.length FW1],.bool true,.bool false,.slice xK0 d0.length yK0,.slice a0 d0.length c0,.slice xE0 d0.length yE0,.bool true,.bool false,.agg #[.int .i64 d1.id,.int .i64 d1.age,.int .i64 d1.proc,.int .i64 d1.began,.slice K1a0 d1.calls.length K1c0,.slice K1a1 d1.answers.length K1c1,.slice K1a2 d1.touch.reads.length K1c2,.slice K1a3 d1.touch.writes.length K1c3,.slice K1a4 d1.marks.length K1c4,.int .i64 d1.state],.agg #[.int .i64 d1.id,.int .i64 d1.age,.int .i64 d1.proc,.int .i64 d1.began,.slice ba0 d1.calls.length bc0,.slice ba1 d1.answers.length bc1,.slice ba2 d1.touch.reads.length bc2,.slice ba3 d1.touch.writes.length bc3,.slice ba4 d1.marks.length bc4,.int .i64 d1.state],.agg #[.int .i64 d1.id,.int .i64 d1.age,.int .i64 d1.proc,.int .i64 d1.began,.slice E1a0 d1.calls.length E1c0,.slice E1a1 d1.answers.length E1c1,.slice E1a2 d1.touch.reads.length E1c2,.slice E1a3 d1.touch.writes.length E1c3,.slice E1a4 d1.marks.length E1c4,.int .i64 d1.state],.bool true,.bool false,.slice xK0 d0.length yK0,.int .i64 1,.int .i64 (1+2*(d0.length:Int)),.agg #[.int .i64 d1.id,.int .i64 d1.age,.int .i64 d1.proc,.int .i64 d1.began,.slice K1a0 d1.calls.length K1c0,.slice K1a1 d1.answers.length K1c1,.slice K1a2 d1.touch.reads.length K1c2,.slice K1a3 d1.touch.writes.length K1c3,.slice K1a4 d1.marks.length K1c4,.int .i64 d1.state],.int .i64 (1+2*(d0.length:Int)),.int .i64 (1+2*(d0.length:Int)+((zqav d1:Nat):Int)),.int .i64 (1+2*(d0.length:Int)+((zqav d1:Nat):Int)),.bool (decide (1+2*(d0.length:Int)+((zqav d1:Nat):Int)<0)),.bool (decide (1+2*(d0.length:Int)+((zqav d1:Nat):Int)<0)),.agg #[.slice EG0 m.rd.length FG0,.slice EG1 m.wr.length FG1],.agg #[.slice EW0 m.rd.length FW0,.slice EW1 m.wr.length FW1],.bool true,.bool false,.bool (decide (1+2*(d0.length:Int)+((zqav d1:Nat):Int)<0)),.agg #[.slice EG0 m.rd.length FG0,.slice EG1 m.wr.length FG1],.int .i64 1,.int .i64 (1+((m.rd.length:Int)+(m.wr.length:Int))),.agg #[.slice EG0 m.rd.length FG0,.slice EG1 m.wr.length FG1],.int .i64 1,.int .i64 (1+((m.rd.length:Int)+(m.wr.length:Int))),.int .i64 (1+((m.rd.length:Int)+(m.wr.length:Int))),.bool (decide (1+((m.rd.length:Int)+(m.wr.length:Int))<0)),.int .i64 (1+((m.rd.length:Int)+(m.wr.length:Int))),.int .i64 (1+((m.rd.length:Int)+(m.wr.length:Int))),.bool false,y34x0,y34x1,y34x2,y34x3,y34x4,y34x5,y34x6,undef,undef,undef,undef,undef,undef,undef,undef,undef,undef,undef,undef],[]⟩/\LI w16 (.slice a0 d0.length c0) (.agg #[.int .i64 d1.id,.int .i64 d1.age,.int .i64 d1.proc,.int .i64 d1.began,.slice ba0 d1.calls.length bc0,.slice ba1 d1.answers.length bc1,.slice ba2 d1.touch.reads.length bc2,.slice ba3 d1.touch.writes.length bc3,.slice ba4 d1.marks.length bc4,.int .i64 d1.state]) (.agg #[.int .i64 ck,.string cn,.string cx,.int .i64 ca,.int .i64 cb,.string ct]) (.agg #[.int .i64 ck,.string cn,.string cx,.int .i64 ca,.int .i64 cb,.string ct]) d0 d1 (fun W c d=>OwnL zx 9 W w16.heap.size c m.rd/\OwnL zx 9 W w16.heap.size d m.wr/\∀ k,c.ownBlock=some k->d.ownBlock ≠ some k) L W y34x0 y34x1 y34x2 y34x3 y34x4 y34x5 y34x6 y34x7) (by kernel_rfl) ?_ ?_ ?_
 ·have N:∀ j,¬ (Array.replicate 9 false).getD j false=true:=zh0 9
  exact ⟨_,_,_,_,_,_,_,_,rfl,⟨by simp,fun k=>absurd k (N _),fun k=>absurd k (N _),zqaM,Below.drew (Below.refl _ _),fun k=>absurd k (N _),fun k=>absurd k (N _),fun k=>absurd k (N _),fun k=>absurd k (N _),fun k=>absurd k (N _),fun k=>absurd k (N _),fun k=>absurd k (N _),fun k=>absurd k (N _)⟩⟩
 ·rintro L a W i ⟨y34x0,y34x1,y34x2,y34x3,y34x4,y34x5,y34x6,y34x7,rfl,H⟩ hi
  have hlt:=zgD hi
  have hun:=zgC hi
  have hW:Hid (∀ j,zdD _ i j=true->L.getD j false=true):=fun j h=>zdp hi h
  have hin:i<9:=hlt
  clear hlt hi
  have hcs:i=0 ∨ i=1 ∨ i=2 ∨ i=3 ∨ i=4 ∨ i=5 ∨ i=6 ∨ i=7 ∨ i=8:=by omega
  clear hin
  rcases hcs with rfl|rfl|rfl|rfl|rfl|rfl|rfl|rfl|rfl
  ·refine zN rfl (fun K hK=>?_)
   go_simp
   refine hK _ _ ⟨_,_,_,_,_,_,_,_,rfl,H.set (i:=0) (by decide) (by decide) (by simp) (by simp) (by simp) (by simp) (by simp) (by simp) (by simp) (by simp)⟩
  ·obtain rfl:=H.f0 (hW.out 0 (by kernel_rfl))
   refine zN rfl (fun K hK=>?_)
   go_simp
   go_at_call 8
   refine (DC.out W H.bel).mono ?_
   rintro e W' ⟨u,fp,rfl,hf,hb⟩
   try go_simp
   refine hK _ _ ⟨_,_,_,_,_,_,_,_,rfl,(H.grow (hb)).set (i:=1) (by decide) (by decide) (by simp) (by rw [if_pos rfl];exact fun _=>rdl_of_own (R:=zu) rfl hf.own) (by simp) (by simp) (by simp) (by simp) (by simp) (by simp)⟩
  ·have hx:=(Grew.below H.bel _ (za XT.out)).trans XT.out
   have hz:=za hx
   obtain ⟨p0,p1,p2,p3,p4,p5,p6,p7,p8,p9⟩:=Zc10 hx
   refine zN rfl (fun K hK=>?_)
   go_simp
   refine hK _ _ ⟨_,_,_,_,_,_,_,_,rfl,H.set (i:=2) (by decide) (by decide) (by simp) (by simp) (by simp) (by simp) (by simp) (by simp) (by simp) (by simp)⟩
  ·obtain rfl:=H.f2 (hW.out 2 (by kernel_rfl))
   refine zN rfl (fun K hK=>?_)
   go_simp
   go_at_call 9
   refine (DT.out W H.bel).mono ?_
   rintro e W' ⟨csq,fp,rfl,hf,hb⟩
   try go_simp
   refine hK _ _ ⟨_,_,_,_,_,_,_,_,rfl,(H.grow (hb)).set (i:=3) (by decide) (by decide) (by simp) (by simp) (by simp) (by rw [if_pos rfl];exact fun _=>⟨_,rfl,View.toRd _ hf.own⟩) (by simp) (by simp) (by simp) (by simp)⟩
  ·have hx:=(Grew.below H.bel _ (za XC.out)).trans XC.out
   have hz:=za hx
   obtain ⟨p0,p1,p2,p3,p4,p5⟩:=Zc6 hx
   refine zN rfl (fun K hK=>?_)
   go_simp
   refine hK _ _ ⟨_,_,_,_,_,_,_,_,rfl,H.set (i:=4) (by decide) (by decide) (by simp) (by simp) (by simp) (by simp) (by simp) (by simp) (by simp) (by simp)⟩
  ·obtain rfl:=H.f4 (hW.out 4 (by kernel_rfl))
   refine zN rfl (fun K hK=>?_)
   go_simp
   go_at_call 10
   refine (zqr ck cn cx ca cb ct W).mono ?_
   rintro e W' ⟨rfl,hb⟩
   try go_simp
   refine hK _ _ ⟨_,_,_,_,_,_,_,_,rfl,(H.grow (hb)).set (i:=5) (by decide) (by decide) (by simp) (by simp) (by simp) (by simp) (by simp) (by simp) (by simp) (by simp)⟩
  ·have k8:L.getD 8 false=false:=by cases h:L.getD 8 false with|false=>rfl|true=>exact absurd (H.c8 h) (by rw [hun];decide)
   have h1:=H.f1 (hW.out 1 (by kernel_rfl)) k8
   obtain ⟨cs3,rfl,h3⟩:=H.f3 (hW.out 3 (by kernel_rfl)) k8
   obtain rfl:=H.f5 (hW.out 5 (by kernel_rfl))
   refine zN rfl (fun K hK=>?_)
   go_simp
   go_at_call 11
   refine (DS.out W _ cs3 H.bel h1 h3).mono ?_
   rintro e W' ⟨u0,u1,rfl,h0,h1,hd,hb⟩
   try go_simp
   refine hK _ _ ⟨_,_,_,_,_,_,_,_,rfl,(H.grow (hb)).set (i:=6) (by decide) (by decide) (by simp) (by simp) (by simp) (by simp) (by simp) (by simp) (by rw [if_pos rfl];exact ⟨_,_,rfl,h0.base H.bel.size,h1.base H.bel.size,hd⟩) (by simp)⟩
  ·have k8:L.getD 8 false=false:=by cases h:L.getD 8 false with|false=>rfl|true=>exact absurd (H.c8b h) (by rw [hun];decide)
   refine zN rfl (fun K hK=>?_)
   go_simp
   refine hK _ _ ⟨_,_,_,_,_,_,_,_,rfl,(H.grow (Below.ofAlloc (Below.refl _ _) _)).set (i:=7) (by decide) (by decide) (by simp) (by simp) (by simp) (by simp) (by simp) (by simp) (by simp) (by rw [if_pos rfl];exact ⟨_,rfl,H.bel.size,.inl ⟨k8,heap_alloc_new _ _⟩⟩)⟩
  ·obtain ⟨b,u0,u1,rfl,rfl,⟨⟨_,_,_,rfl⟩,_,_,_,rfl⟩,hB,H'⟩:=H.st (hW.out 6 (by kernel_rfl)) (hW.out 7 (by kernel_rfl)) hun
   have e1:=zf hB
   have hz:=za hB
   refine zN rfl (fun K hK=>?_)
   rw [<- e1]
   clear e1
   go_simp
   exact hK _ _ ⟨_,_,_,_,_,_,_,_,rfl,H'⟩
 rintro L a WH ⟨y34x0,y34x1,y34x2,y34x3,y34x4,y34x5,y34x6,y34x7,rfl,H⟩ hr
 have hall:=zej (ops:=_) H.sz hr (zcu (by kernel_rfl))
 obtain ⟨bH,rfl,hloH,h9⟩:=H.f7 (hall 7 (by decide))
 have k8:=hall 8 (by decide)
 rcases h9 with h9|⟨_,u0,u1,h9,hm⟩
 ·rw [k8] at h9;cases h9.1
 obtain ⟨EH0,FH0,rfl⟩:=hm.1.rd.form
 obtain ⟨EH1,FH1,rfl⟩:=hm.2.1.rd.form
 have hb:=H.bel
 replace BW:=Hd (Below.then BW.out hb)
 replace BC:=Hd (Below.then BC.out hb)
 replace XT:=Zgr hb XT
 replace XC:=Zgr hb XC
 replace XW:=Zgr hb XW
 replace XG:=Zgr hb XG
 replace OG:=Hd (View.own_below OG.out hb)
 clear hb
 have XH:=Hd h9
 clear H hr hall k8 h9
 obtain ⟨fpH,P0,_,_⟩:=zqF hm.1 hm.2.1 hm.2.2 (fun s hs=>Nat.le_trans (HSM.out.rz s hs) (by decide)) (fun s hs=>Nat.le_trans (HSM.out.wz s hs) (by decide))
 have OH:=Hd P0
 clear P0 hm DC DT DS hloH
 have xH:=XH.out
 have zH:=za xH
 obtain ⟨pH0,pH1⟩:=Zc2 xH
 have xW:=XW.out
 have zW:=za xW
 obtain ⟨pW0,pW1⟩:=Zc2 xW
 go_wp2_with fail
 (go_at_call 12;refine (zqn _ _ ⟨m.rd,m.wr⟩ _ (View.toRd _ OH.out) (View.grow _ R0.out (Grew.below BC.out))).mono ?_;rintro e w17 ⟨rfl,hb⟩)
 clear pH0 pH1 xH zH
 clear pW0 pW1 xW zW
 replace BW:=Hd (Below.then BW.out hb)
 replace BC:=Hd (Below.then BC.out hb)
 replace XT:=Zgr hb XT
 replace XC:=Zgr hb XC
 replace XW:=Zgr hb XW
 replace XG:=Zgr hb XG
 replace XH:=Zgr hb XH
 replace OG:=Hd (View.own_below OG.out hb)
 replace OH:=Hd (View.own_below OH.out hb)
 clear hb
 have xG:=XG.out
 have zG:=za xG
 obtain ⟨pG0,pG1⟩:=Zc2 xG
 go_wp2_with fail
 (go_at_call 18;refine (zqs _ 1 m.rd.length m.wr.length _ (View.toRd _ OG.out) (by omega) (by have:=HSM.out.rl;have:=HSM.out.wl;omega)).mono ?_;rintro e w18 ⟨rfl,hb⟩)
 clear pG0 pG1 xG zG
 replace BW:=Hd (Below.then BW.out hb)
 replace BC:=Hd (Below.then BC.out hb)
 replace XT:=Zgr hb XT
 replace XC:=Zgr hb XC
 replace XW:=Zgr hb XW
 replace XG:=Zgr hb XG
 replace XH:=Zgr hb XH
 replace OG:=Hd (View.own_below OG.out hb)
 replace OH:=Hd (View.own_below OH.out hb)
 clear hb
 go_wp2
 go_ret
 exact ⟨rfl,BW.out⟩
end Go.Proofs.YtodokkpnafabpaaGreatDoor
