/- Texts of this claim, merged: the walks and what they stand on. Each condition stands in its theorem. -/
import Derived.Test.YtncnbihlngapbaaGreatCB30
set_option linter.unusedVariables false
set_option linter.unusedSimpArgs false
set_option maxRecDepth 100000
set_option maxHeartbeats 8000000
namespace Go.Proofs.YtncnbihlngapbaaGreat
open Go.ChangeShapes Go.WideShapes Go.ChangeAt Go.RowKit
theorem TxO.got {w w':World} {B:Nat} {x:TxR} {d:TxD} (h:TxO w B x d) {p:Nat} {o:Obj} (g:Got p w o w') (hp:p<B):TxO w' B x d:=by
 have hd:=h.setB hp o
 obtain ⟨X,rfl⟩:=g
 exact hd.below (Below.ofExt (Below.refl _ _) X)
theorem zhC (id age proc:Int) (w:World):Calls Tryz.prog 37 #[.int .i64 id,.int .i64 age,.int .i64 proc] w fun e w'=>e=.returned (.agg #[.int .i64 id,.int .i64 age,.int .i64 proc,.int .i64 0,.slice none 0 0,.slice none 0 0,.slice none 0 0,.slice none 0 0,.slice none 0 0,.int .i64 1])/\Below w.heap.size w w':=by
 go_enter Tryz.func37,Tryz.ntmps37
 go_wp2
 refine bodyPost_ret (by simp [results,Tryz.results37,go_sem];rfl) rfl ?_
 exact ⟨rfl,(by repeat (first|with_reducible exact Below.refl _ _|with_reducible apply Below.ofExt|with_reducible apply Below.ofAlloc|with_reducible apply Below.drew|with_reducible apply Below.ofDrewN|with_reducible assumption|(with_reducible refine Below.setCell ?_ (by first|exact Nat.le_refl _|(simp [go_sem];done)|(simp [go_sem];omega)) _)))⟩
theorem txO_new (w:World) (B:Nat) (a b c:Int):TxO w B ⟨a,b,c,0,⟨none,0,0⟩,⟨none,0,0⟩,⟨none,0,0⟩,⟨none,0,0⟩,⟨none,0,0⟩,1⟩ ⟨a,b,c,0,[],[],⟨[],[]⟩,[],1⟩ :=
 ⟨rfl,rfl,rfl,rfl,rfl,OwnL.nil _ _ _ _,OwnL.nil _ _ _ _,⟨RdL.nil _ _,fun k hk=>by simp [Raw.v,Value.ownBlock] at hk⟩,⟨RdL.nil _ _,fun k hk=>by simp [Raw.v,Value.ownBlock] at hk⟩,OwnL.nil _ _ _ _,fun o _=>⟨.inl rfl,.inl rfl⟩,fun g hg=>by simp [Raw.v,Value.ownBlock] at hg,fun g hg=>by simp [Raw.v,Value.ownBlock] at hg⟩
theorem txB_new (a b c:Int) (hc:zbE c):TxB (2*0) ⟨a,b,c,0,[],[],⟨[],[]⟩,[],1⟩ :=
 ⟨fun _ h=>(by cases h),Nat.le_refl _,Nat.le_refl _,fun _ h=>(by cases h),Nat.le_refl _,Nat.le_refl _,Nat.le_refl _,fun _ h=>(by cases h),fun _ h=>(by cases h),hc⟩
theorem ziy (p:Nat) (vb:Value) (bs:List UInt8) (i h:Int) (v:Value) (zs:List CellD) (k:Nat) (hst:StoreN k zs) (hk:k<=40) (id:Int) (w:World) (hc:Cur w p vb bs i h) (hz:RdL zE w v zs) :
  Calls Tryz.prog 26 #[.pointer (some ⟨p,0,none⟩),v,.int .i64 id] w fun e w'=>∃ x d,e=.returned x.v/\TxO w' w.heap.size x d/\TxB 9 d/\d.state=1/\d.id=id/\zh7 p vb bs w w':=by
 have hp:=hc.lt
 have HC:=Hd hc
 have HZ:=Hd hz
 clear hc hz
 obtain ⟨az,cz,rfl⟩:=HZ.out.form
 go_enter Tryz.func26,Tryz.ntmps26
 go_wp2_with fail
 (go_at_call 11;refine (zW p vb bs _ _ _ _ (HC.out.alloc _) (by omega)).mono ?_;rintro e w1 ⟨x,i1,h1,rfl,⟨hx0,hx1,_⟩,hg1,hi0,hi1⟩)
 have hx2:=hx1 (by omega)
 clear hx1
 go_wp2_with fail
 (go_at_call 37;refine (zhC _ _ _ _).mono ?_;rintro e w2 ⟨rfl,hb2⟩)
 have R1:=(hg1.other (b:=w.heap.size) (by simp) (by omega)).trans (World.alloc_new _ _)
 have R2:=(hb2.block _ (zb R1)).trans R1
 have G2:Hid (Got p w (zaE vb i1 h1) w2):=((((zcn HC.out.blk).alloc _).then hg1 hp).ofBelow hb2)
 clear hb2 hg1 R1
 have hlr:w.heap.size<w2.heap.size:=zb R2
 have R3:=Hd R2
 clear R2
 go_wp2
 go_loopw [8] (fun k wr=>∃ (n:Nat) (x:TxR) (d:TxD) (i' h':Int),k=.int .i64 n/\n<=4/\TxO wr (w2.heap.size+1) x d/\TxB (2*n) d/\d.state=1/\d.id=id/\wr.heap[w2.heap.size]?=some (.cells #[.int .i64 x.id,.int .i64 x.age,.int .i64 x.proc,.int .i64 x.began,.slice x.calls.a x.calls.n x.calls.cap,.slice x.answers.a x.answers.n x.answers.cap,.slice x.tr.a x.tr.n x.tr.cap,.slice x.tw.a x.tw.n x.tw.cap,.slice x.marks.a x.marks.n x.marks.cap,.int .i64 x.state] 35 (0,0))/\wr.heap[w.heap.size]?=some (.cells #[.int .i64 0,.int .i64 0,.int .i64 0,.int .i64 0,.slice none 0 0,.slice none 0 0,.slice none 0 0,.slice none 0 0,.slice none 0 0,.int .i64 0] 35 (0,0))/\Got p w (zaE vb i' h') wr/\0<=i'/\i'<=bs.length) (fun k _=>4 - (intOf k).toNat)
 case atStart=>exact ⟨0,⟨id,id,1+x,0,⟨none,0,0⟩,⟨none,0,0⟩,⟨none,0,0⟩,⟨none,0,0⟩,⟨none,0,0⟩,1⟩,⟨id,id,1+x,0,[],[],⟨[],[]⟩,[],1⟩,i1,h1,rfl,by omega,txO_new _ _ _ _ _,txB_new _ _ _ ⟨by omega,by omega⟩,rfl,rfl,World.alloc_new _ _,(Below.heap_alloc _ _ _ hlr).trans R3.out,G2.out.alloc _,hi0,hi1⟩
 case round =>
  clear G2 R3 hi0 hi1 hx0 hx2
  obtain ⟨n,⟨xid,xage,xproc,xbegan,⟨ya,yn,yc⟩,⟨za,zn,zc⟩,⟨ra,rn,rc⟩,⟨ta,tn,tc⟩,⟨ma,mn,mc⟩,xs⟩,d,i2,h2,rfl,hn,hO,hB,hs,hid,hq,hr,hg,hi0,hi1⟩:=hrel
  dsimp only at hq
  have hc1:=HC.out.got hg hi0 hi1
  have HZ1:=Hd (zci (zh _) HZ.out HC.out hg)
  have HO:=Hd hO
  have HQ:=Hd hq
  have HRR:=Hd hr
  clear hO hq hr
  go_wp2_with fail
  (go_at_call 11;refine (zW p vb bs _ _ _ _ hc1 (by omega)).mono ?_;rintro e w3 ⟨t,i3,h3,rfl,⟨ht0,ht1,_⟩,hg3,hj0,hj1⟩)
  have hc3:=hc1.got hg3 hj0 hj1
  have ht2:=ht1 (by omega)
  clear ht1
  have HZ3:=Hd (zci (zh _) HZ1.out hc1 hg3)
  have HO3:=Hd (HO.out.got hg3 (by omega))
  have hq3:=(hg3.other (zb HQ.out) (by omega)).trans HQ.out
  have hr3:=(hg3.other (zb HRR.out) (by omega)).trans HRR.out
  have hgg3:=hg.then hg3 hp
  by_cases hlt:(n:Int)<t
  ·go_wp2_with fail
   have hqp:w2.heap.size ≠ p:=by omega
   have hzz:=zb hq3
   have y0:w3.cell? ⟨w2.heap.size,0,none⟩=some (.int .i64 xid):=(zg (i:=0) hq3).trans rfl
   have y1:w3.cell? ⟨w2.heap.size,1,none⟩=some (.int .i64 xage):=(zg (i:=1) hq3).trans rfl
   have y2:w3.cell? ⟨w2.heap.size,2,none⟩=some (.int .i64 xproc):=(zg (i:=2) hq3).trans rfl
   have y3:w3.cell? ⟨w2.heap.size,3,none⟩=some (.int .i64 xbegan):=(zg (i:=3) hq3).trans rfl
   have y4:w3.cell? ⟨w2.heap.size,4,none⟩=some (.slice ya yn yc):=(zg (i:=4) hq3).trans rfl
   have y5:w3.cell? ⟨w2.heap.size,5,none⟩=some (.slice za zn zc):=(zg (i:=5) hq3).trans rfl
   have y6:w3.cell? ⟨w2.heap.size,6,none⟩=some (.slice ra rn rc):=(zg (i:=6) hq3).trans rfl
   have y7:w3.cell? ⟨w2.heap.size,7,none⟩=some (.slice ta tn tc):=(zg (i:=7) hq3).trans rfl
   have y8:w3.cell? ⟨w2.heap.size,8,none⟩=some (.slice ma mn mc):=(zg (i:=8) hq3).trans rfl
   have y9:w3.cell? ⟨w2.heap.size,9,none⟩=some (.int .i64 xs):=(zg (i:=9) hq3).trans rfl
   refine zcU (SpF w3 p) [(0,true),(1,true),(2,true),(3,false),(4,false),(5,true),(6,true),(7,true),(8,false)] 5 (by kernel_rfl) (by kernel_rfl) (zdn hc3.blk) ?_
   repeat (refine zq rfl (fun K hK=>?_);go_simp;(try simp (disch:=omega) only [IntWalk.i64_in]);refine hK _ ?_;clear hK K)
   clear y0 y1 y2 y3 y4 y5 y6 y7 y8 y9
   refine zo rfl (fun K hK=>?_);go_simp;go_at_call 29;refine (zeH p vb bs _ _ _ hc3.drew).mono ?_;rintro e w4 ⟨⟨kd,nm,tm,ca,cb,tx⟩,rfl,hsm,i4,h4,hg4,hk0,hk1⟩;unfold zbk;dsimp only;try go_simp;refine hK _ _ (Sp.got (zdn hc3.blk) hg4 hc3.lt) ?_;clear hK K
   have hc4:=hc3.drew.got hg4 hk0 hk1
   have HZ4:=Hd (zci (zh _) (show RdL zE w3.drew _ _ from HZ3.out) hc3.drew hg4)
   have HO4:=Hd (TxO.got (show TxO w3.drew _ _ _ from HO3.out.drew) hg4 (by omega))
   have hq4:=(hg4.other (show w2.heap.size<w3.drew.heap.size from hzz) hqp).trans hq3
   have hr4:=(hg4.other (show w.heap.size<w3.drew.heap.size from zb hr3) (by omega)).trans hr3
   have hgg4:=hgg3.then (show Got p w3 _ w4 from hg4) hp
   have hz4:=zb hq4
   have HAK:=Hd (fun W hz h=>ziA (.slice az zs.length cz) zs k hst ⟨xid,xage,xproc,xbegan,⟨ya,yn,yc⟩,⟨za,zn,zc⟩,⟨ra,rn,rc⟩,⟨ta,tn,tc⟩,⟨ma,mn,mc⟩,xs⟩ d (2*n) hB (by omega) (by omega) hs ⟨kd,nm,tm,ca,cb,tx⟩ hsm W hz h)
   unfold TxR.v Raw.v zbk at HAK
   dsimp only at HAK
   refine zo rfl (fun K hK=>?_);go_simp;go_at_call 38;refine (HAK.out _ HZ4.out (HO4.out.read hB (by omega))).mono ?_;rintro e w5 ⟨⟨yid,yage,yproc,ybegan,⟨yya,yyn,yyc⟩,⟨yza,yzn,yzc⟩,⟨yra,yrn,yrc⟩,⟨yta,ytn,ytc⟩,⟨yma,ymn,ymc⟩,ys⟩,an,d',rfl,hO5,hB5,hs5,hid5,hb5⟩;dsimp only;try go_simp;refine hK _ _ (Sp.below (Sp.got (zdn hc3.blk) hg4 hc3.lt) hb5) ?_;clear hK K
   have hq5:=(hb5.block _ hz4).trans hq4
   have hr5:=(hb5.block _ (zb hr4)).trans hr4
   have hz5:=zb hq5
   have hzr5:=zb hr5
   have HO5:=Hd (hO5.base (B':=w2.heap.size+1) (by omega))
   have hgg5:=hgg4.ofBelow hb5
   clear HAK hO5 hb5
   refine zdq hq5 ?_
   repeat (refine zq rfl (fun K hK=>?_);go_simp;(try simp (disch:=omega) only [IntWalk.i64_in]);refine hK _ ?_;clear hK K)
   repeat (refine zy rfl rfl (fun K hK=>?_);go_simp;refine hK _ _ ?_;clear hK K)
   refine zX ?_
   have HO6:=Hd (HO5.out.setB (p:=w2.heap.size) (by omega) (.cells #[.int .i64 yid,.int .i64 yage,.int .i64 yproc,.int .i64 ybegan,.slice yya yyn yyc,.slice yza yzn yzc,.slice yra yrn yrc,.slice yta ytn ytc,.slice yma ymn ymc,.int .i64 ys] 35 (0,0)))
   have hgg6:=hgg5.past (b:=w2.heap.size) (by omega) (.cells #[.int .i64 yid,.int .i64 yage,.int .i64 yproc,.int .i64 ybegan,.slice yya yyn yyc,.slice yza yzn yzc,.slice yra yrn yrc,.slice yta ytn ytc,.slice yma ymn ymc,.int .i64 ys] 35 (0,0))
   have hc6:=HC.out.got hgg6 hk0 hk1
   go_wp2_with fail
   (go_at_call 10;refine (zcZ p vb bs _ _ 5 _ hc6 (by omega)).mono ?_;rintro e w7 ⟨bb,rfl,i7,h7,hg7,hm0,hm1⟩)
   have HO7:=Hd (HO6.out.got hg7 (by omega))
   have hq7:=(hg7.other (b:=w2.heap.size) (by rw [zd];exact hz5) hqp).trans (World.setB_at _ _ _ hz5)
   have hr7:=(hg7.other (b:=w.heap.size) (by rw [zd];exact hzr5) (by omega)).trans ((World.setB_get _ _ _ _ (by omega)).trans hr5)
   have hgg7:=hgg6.then hg7 hp
   have hz7:=zb hq7
   clear hg7 hc6 hgg6 hgg5 HO6 HO5 hq5 hr5
   cases bb with
   | false =>
    go_wp2
    go_roundw
    case rel=>exact ⟨n+1,⟨yid,yage,yproc,ybegan,⟨yya,yyn,yyc⟩,⟨yza,yzn,yzc⟩,⟨yra,yrn,yrc⟩,⟨yta,ytn,ytc⟩,⟨yma,ymn,ymc⟩,ys⟩,d',i7,h7,by go_num,by omega,HO7.out,hB5.le (by omega),hs5,hid5.trans hid,hq7,hr7,hgg7,hm0,hm1⟩
    case measure=>simp [intOf];omega
   | true =>
    have HMK:=Hd (fun W h=>zhD ⟨yid,yage,yproc,ybegan,⟨yya,yyn,yyc⟩,⟨yza,yzn,yzc⟩,⟨yra,yrn,yrc⟩,⟨yta,ytn,ytc⟩,⟨yma,ymn,ymc⟩,ys⟩ d' (2*n+1) hB5 (by omega) hs5 W h)
    unfold TxR.v Raw.v at HMK
    dsimp only at HMK
    rw [<- zi hq7]
    go_wp2_with fail
    rw [zi hq7]
    (go_at_call 39;refine (HMK.out _ (HO7.out.read hB5 (by omega))).mono ?_;rintro e w8 ⟨⟨vid,vage,vproc,vbegan,⟨vya,vyn,vyc⟩,⟨vza,vzn,vzc⟩,⟨vra,vrn,vrc⟩,⟨vta,vtn,vtc⟩,⟨vma,vmn,vmc⟩,vs⟩,mm,d2,rfl,hO8,hB8,hs8,hid8,hb8⟩)
    dsimp only
    have hq8:=(hb8.block _ hz7).trans hq7
    have hr8:=(hb8.block _ (zb hr7)).trans hr7
    have hz8:=zb hq8
    have HO8:=Hd (hO8.base (B':=w2.heap.size+1) (by omega))
    have hgg8:=hgg7.ofBelow hb8
    clear hO8 hb8 HMK
    rw [<- zi hq8]
    clear hq8 hq7
    go_wp2
    go_roundw
    case rel=>exact ⟨n+1,⟨vid,vage,vproc,vbegan,⟨vya,vyn,vyc⟩,⟨vza,vzn,vzc⟩,⟨vra,vrn,vrc⟩,⟨vta,vtn,vtc⟩,⟨vma,vmn,vmc⟩,vs⟩,d2,i7,h7,by go_num,by omega,HO8.out.setB (by omega) _,hB8.le (by omega),hs8,(hid8.trans hid5).trans hid,World.setB_at _ _ _ hz8,(World.setB_get _ _ _ _ (by omega)).trans hr8,hgg8.past (by omega) _,hm0,hm1⟩
    case measure=>simp [intOf];omega
  ·have hz3:=zb hq3
   have hzr3:=zb hr3
   have n1:¬ w2.heap.size=w.heap.size:=by omega
   have n2:¬ w.heap.size=w2.heap.size:=by omega
   have hr3s:∀ o,(w3.setB w2.heap.size o).heap[w.heap.size]? = _:=fun o=>(World.setB_get _ _ _ _ (by omega)).trans hr3
   rw [<- zi hq3,<- zi (hr3s _)]
   clear hq3 hr3 hr3s
   go_wp2
   refine bodyPost_ret (by simp [results,Tryz.results26,go_sem,hz3,hzr3,n1,n2];rfl) rfl ?_
   exact ⟨⟨xid,xage,xproc,xbegan,⟨ya,yn,yc⟩,⟨za,zn,zc⟩,⟨ra,rn,rc⟩,⟨ta,tn,tc⟩,⟨ma,mn,mc⟩,xs⟩,d,rfl,((HO3.out.setB (p:=w2.heap.size) (by omega) _).setB (p:=w.heap.size) (by omega) _).base (by omega),hB.le (by omega),hs,hid,i3,h3,(hgg3.past (by omega) _).past (Nat.le_refl _) _,hj0,hj1⟩
def RowE {α : Type} (R:RowOf α) (w:World) (B:Nat) (o v:Value) (xs:List α):Prop:=RdL R w v xs/\(∀ k,v.ownBlock=some k->B<=k)/\Off xs v o
theorem RowE.got {α : Type} {R:RowOf α} {w w':World} {B:Nat} {o v:Value} {xs:List α} (h:RowE R w B o v xs) {p:Nat} {c:Obj} (g:Got p w c w') (hp:p<B):RowE R w' B o v xs :=
 ⟨h.1.got g (fun e=>by have:=h.2.1 _ e;omega),h.2.1,h.2.2⟩
theorem RowE.app {α : Type} {R:RowOf α} {w w':World} {B:Nat} {o o' v:Value} {xs:List α} (h:RowE R w B o v xs) (hk : 0<R.k) (g:w.grownBy w' o.ownBlock) (ho:o'.ownBlock=o.ownBlock ∨ o'.ownBlock=some w.heap.size):RowE R w' B o' v xs :=
 ⟨h.1.keptO h.2.2 g,h.2.1,Off.next hk h.2.2 h.1 ho⟩
structure TxE (w:World) (B:Nat) (o:Value) (x:TxR) (d:TxD):Prop where
 id:x.id=d.id
 age:x.age=d.age
 proc:x.proc=d.proc
 began:x.began=d.began
 state:x.state=d.state
 calls:RowE zcj w B o x.calls.v d.calls
 answers:RowE zbD w B o x.answers.v d.answers
 tr:RowE zH w B o x.tr.v d.touch.reads
 tw:RowE zH w B o x.tw.v d.touch.writes
 marks:RowE zbY w B o x.marks.v d.marks
theorem TxE.got {w w':World} {B:Nat} {o:Value} {x:TxR} {d:TxD} (h:TxE w B o x d) {p:Nat} {c:Obj} (g:Got p w c w') (hp:p<B):TxE w' B o x d :=
 ⟨h.id,h.age,h.proc,h.began,h.state,h.calls.got g hp,h.answers.got g hp,h.tr.got g hp,h.tw.got g hp,h.marks.got g hp⟩
theorem TxE.app {w w':World} {B:Nat} {o o':Value} {x:TxR} {d:TxD} (h:TxE w B o x d) (g:w.grownBy w' o.ownBlock) (ho:o'.ownBlock=o.ownBlock ∨ o'.ownBlock=some w.heap.size):TxE w' B o' x d :=
 ⟨h.id,h.age,h.proc,h.began,h.state,h.calls.app (by decide) g ho,h.answers.app (by decide) g ho,h.tr.app (by decide) g ho,h.tw.app (by decide) g ho,h.marks.app (by decide) g ho⟩
theorem TxO.toE {w:World} {B B0:Nat} {o:Value} {x:TxR} {d:TxD} (h:TxO w B x d) (hB:B0<=B) (ho:∀ k,o.ownBlock=some k->k<B):TxE w B0 o x d :=
 ⟨h.id,h.age,h.proc,h.began,h.state,⟨h.calls.rd,fun k hk=>by have:=(h.calls.lt k hk).1;omega,.inr fun k hk e=>by have:=(h.calls.lt k e).1;have:=ho k hk;omega⟩,⟨h.answers.rd,fun k hk=>by have:=(h.answers.lt k hk).1;omega,.inr fun k hk e=>by have:=(h.answers.lt k e).1;have:=ho k hk;omega⟩,
  ⟨h.tr.1,fun k hk=>by have:=h.tr.2 k hk;omega,.inr fun k hk e=>by have:=h.tr.2 k e;have:=ho k hk;omega⟩,⟨h.tw.1,fun k hk=>by have:=h.tw.2 k hk;omega,.inr fun k hk e=>by have:=h.tw.2 k e;have:=ho k hk;omega⟩,⟨h.marks.rd,fun k hk=>by have:=(h.marks.lt k hk).1;omega,.inr fun k hk e=>by have:=(h.marks.lt k e).1;have:=ho k hk;omega⟩⟩
theorem TxE.state_ {w:World} {B:Nat} {o:Value} {x:TxR} {d:TxD} (h:TxE w B o x d) (s:Int):TxE w B o { x with state:=s } { d with state:=s } :=
 ⟨h.id,h.age,h.proc,h.began,rfl,h.calls,h.answers,h.tr,h.tw,h.marks⟩
theorem TxB.state_ {n:Nat} {d:TxD} (h:TxB n d) (s:Int):TxB n { d with state:=s } :=
 ⟨h.calls,h.ncalls,h.nans,h.ans,h.nmarks,h.nrd,h.nwr,h.rd,h.wr,h.proc⟩
def TxsE (w:World) (B:Nat) (o:Value) (xs:List TxR) (ds:List TxD):Prop:=xs.length=ds.length/\∀ q ∈ xs.zip ds,TxE w B o q.1 q.2/\TxB 9 q.2
theorem TxsE.got {w w':World} {B:Nat} {o:Value} {xs:List TxR} {ds:List TxD} (h:TxsE w B o xs ds) {p:Nat} {c:Obj} (g:Got p w c w') (hp:p<B):TxsE w' B o xs ds :=
 ⟨h.1,fun q hq=>⟨(h.2 q hq).1.got g hp,(h.2 q hq).2⟩⟩
theorem TxsE.app {w w':World} {B:Nat} {o o':Value} {xs:List TxR} {ds:List TxD} (h:TxsE w B o xs ds) {x:TxR} {d:TxD} (hx:TxE w B o x d) (hb:TxB 9 d) (g:w.grownBy w' o.ownBlock) (ho:o'.ownBlock=o.ownBlock ∨ o'.ownBlock=some w.heap.size):TxsE w' B o' (xs ++ [x]) (ds ++ [d]):=by
 refine ⟨by simp [h.1],fun q hq=>?_⟩
 rw [List.zip_append h.1,List.mem_append] at hq
 rcases hq with hq|hq
 ·exact ⟨(h.2 q hq).1.app g ho,(h.2 q hq).2⟩
 ·simp only [List.zip_cons_cons,List.zip_nil_right,List.mem_singleton] at hq
  subst hq
  exact ⟨hx.app g ho,hb⟩
theorem RowE.setB {α : Type} {R:RowOf α} {w:World} {B:Nat} {o v:Value} {xs:List α} (h:RowE R w B o v xs) {r:Nat} (hr:r<B) (c:Obj):RowE R (w.setB r c) B o v xs :=
 ⟨h.1.setB (fun e=>by have:=h.2.1 _ e;omega) c,h.2.1,h.2.2⟩
theorem TxE.setB {w:World} {B:Nat} {o:Value} {x:TxR} {d:TxD} (h:TxE w B o x d) {r:Nat} (hr:r<B) (c:Obj):TxE (w.setB r c) B o x d :=
 ⟨h.id,h.age,h.proc,h.began,h.state,h.calls.setB hr c,h.answers.setB hr c,h.tr.setB hr c,h.tw.setB hr c,h.marks.setB hr c⟩
theorem TxsE.setB {w:World} {B:Nat} {o:Value} {xs:List TxR} {ds:List TxD} (h:TxsE w B o xs ds) {r:Nat} (hr:r<B) (c:Obj):TxsE (w.setB r c) B o xs ds :=
 ⟨h.1,fun q hq=>⟨(h.2 q hq).1.setB hr c,(h.2 q hq).2⟩⟩
theorem TxE.below {w w':World} {B:Nat} {o:Value} {x:TxR} {d:TxD} (h:TxE w B o x d) (hb:Below w.heap.size w w'):TxE w' B o x d :=
 ⟨h.id,h.age,h.proc,h.began,h.state,⟨h.calls.1.below hb,h.calls.2⟩,⟨h.answers.1.below hb,h.answers.2⟩,⟨h.tr.1.below hb,h.tr.2⟩,⟨h.tw.1.below hb,h.tw.2⟩,⟨h.marks.1.below hb,h.marks.2⟩⟩
theorem TxsE.below {w w':World} {B:Nat} {o:Value} {xs:List TxR} {ds:List TxD} (h:TxsE w B o xs ds) (hb:Below w.heap.size w w'):TxsE w' B o xs ds :=
 ⟨h.1,fun q hq=>⟨(h.2 q hq).1.below hb,(h.2 q hq).2⟩⟩
theorem TxE.vrd {w:World} {B:Nat} {o:Value} {x:TxR} {d:TxD} (h:TxE w B o x d) {n:Nat} (b:TxB n d):vTx.rd w x.cells d :=
 ⟨x.calls.v,x.answers.v,x.tr.v,x.tw.v,x.marks.v,by unfold TxR.cells;rw [h.id,h.age,h.proc,h.began,h.state],zax (R:=zcj) rfl rfl (by decide) h.calls.1 (fun c hc=>(b.calls c hc).ok),zax (R:=zbD) rfl rfl (by decide) h.answers.1 b.ans,zax (R:=zH) rfl rfl (by decide) h.tr.1 (fun s hs=>by have:=b.rd s hs;omega),zax (R:=zH) rfl rfl (by decide) h.tw.1 (fun s hs=>by have:=b.wr s hs;omega),zax (R:=zbY) rfl rfl (by decide) h.marks.1 (fun _ _=>trivial)⟩
theorem TxsE.vrd {w:World} {B:Nat} {o v:Value} {xs:List TxR} {ds:List TxD} (h:TxsE w B o xs ds) (hv:RdL rTx w v xs) {e:TypeId}:(vSlice vTx e).rd w [v] ds:=by
 have hl:=h.1
 have hel:∀ i (hi:i<ds.length) (hc:i<(xs.map TxR.cells).length),vTx.rd w (xs.map TxR.cells)[i] ds[i]:=fun i hi hc=>by
  have hx:i<xs.length:=by omega
  have hz:i<(xs.zip ds).length:=by rw [List.length_zip];omega
  have hm:=h.2 _ (List.getElem_mem hz)
  rw [List.getElem_zip] at hm
  rw [List.getElem_map]
  exact hm.1.vrd hm.2
 rcases hv with ⟨rfl,hz,_⟩|⟨b,off,cap,rfl,h2,h3,h4⟩
 ·have:xs = []:=List.eq_nil_of_length_eq_zero hz
  subst this
  have:ds = []:=List.eq_nil_of_length_eq_zero hl.symm
  subst this
  exact ⟨none,0,[],rfl,Nat.le_refl _,Nat.zero_le _,fun _=>rfl,rfl,fun i hi=>absurd hi (by simp),fun h=>absurd rfl h⟩
 ·refine ⟨_,cap,xs.map TxR.cells,by rw [hl],by omega,h3,(fun h=>by cases h),by simp [hl],hel,fun hne=>⟨b,off,rfl,?_,fun j u hj=>h4 j u (by rw [List.flatMap_def];exact hj)⟩⟩
  cases xs with
  | nil=>exact absurd (List.eq_nil_of_length_eq_zero hl.symm) hne
  | cons x xs=>exact World.block_lt_of_cell? w _ (h4 0 (.int .i64 x.id) (by rw [List.flatMap_cons];rfl))
theorem zgW (p:Nat) (vb:Value) (bs:List UInt8) (i h:Int) (v:Value) (zs:List CellD) (k:Nat) (hst:StoreN k zs) (hk:k<=40) (w:World) (hc:Cur w p vb bs i h) (hz:RdL zE w v zs) :
  Calls Tryz.prog 18 #[.pointer (some ⟨p,0,none⟩),v] w fun e w'=>∃ v xs ds,e=.returned v/\OwnL rTx 35 w' w.heap.size v xs/\TxsE w' w.heap.size v xs ds/\ds.length<=4/\zh7 p vb bs w w':=by
 have hp:=hc.lt
 have HC:=Hd hc
 have HZ:=Hd hz
 clear hc hz
 obtain ⟨az,cz,rfl⟩:=HZ.out.form
 go_enter Tryz.func18,Tryz.ntmps18
 go_wp2
 go_loopw [5,6] (fun v k wr=>∃ (n:Nat) (xs:List TxR) (ds:List TxD) (i' h':Int),k=.int .i64 n/\n<=4/\xs.length=n/\OwnL rTx 35 wr w.heap.size v xs/\TxsE wr w.heap.size v xs ds/\Got p w (zaE vb i' h') wr/\0<=i'/\i'<=bs.length) (fun _ k _=>4 - (intOf k).toNat)
 case atStart=>exact ⟨0,[],[],i,h,rfl,by omega,rfl,OwnL.empty rTx _ _,⟨rfl,fun q hq=>by cases hq⟩,(zcn HC.out.blk).alloc _,HC.out.lo,HC.out.hi⟩
 case round =>
  obtain ⟨n,xs,ds,i1,h1,rfl,hn,rfl,hov,htx,hg,hi0,hi1⟩:=hrel
  have hc1:=HC.out.got hg hi0 hi1
  obtain ⟨ao,co,rfl⟩:=hov.rd.form
  have hne:(Value.slice ao xs.length co).ownBlock ≠ some p:=fun e=>by have:=(hov.lt p e).1;omega
  have HOW:=Hd hov
  have HTX:=Hd htx
  have HZ1:=Hd (zci (zh _) HZ.out HC.out hg)
  have hzz:=hg.size
  clear hov htx
  go_wp2_with fail
  (go_at_call 11;refine (zW p vb bs _ _ _ _ hc1 (by omega)).mono ?_;rintro e w2 ⟨t,i2,h2,rfl,⟨ht0,ht1,_⟩,hg2,hj0,hj1⟩)
  have hc2:=hc1.got hg2 hj0 hj1
  have ht2:=ht1 (by omega)
  clear ht1
  have HOW2:=Hd (HOW.out.got hg2 hne)
  have HTX2:=Hd (HTX.out.got hg2 hp)
  have HZ2:=Hd (zci (zh _) HZ1.out hc1 hg2)
  have hgg2:=hg.then hg2 hp
  have hz2:=hgg2.size
  by_cases hlt:(xs.length:Int)<t
  ·go_wp2_with fail
   (go_at_call 26;refine (ziy p vb bs _ _ _ zs k hst hk _ _ hc2 HZ2.out).mono ?_;rintro e w3 ⟨⟨yid,yage,yproc,ybegan,⟨yya,yyn,yyc⟩,⟨yza,yzn,yzc⟩,⟨yra,yrn,yrc⟩,⟨yta,ytn,ytc⟩,⟨yma,ymn,ymc⟩,ys⟩,d,rfl,hO,hB,hs,hid,i3,h3,hg3,hk0,hk1⟩;unfold TxR.v Raw.v;dsimp only)
   have hc3:=hc2.got hg3 hk0 hk1
   have HOW3:=Hd (HOW2.out.got hg3 hne)
   have HTX3:=Hd (HTX2.out.got hg3 hp)
   have HY:=Hd (hO.toE (B0:=w.heap.size) (o:=.slice ao xs.length co) (by omega) (fun q hq=>(HOW2.out.lt q hq).2))
   have hgg3:=hgg2.then hg3 hp
   have hz3:=hgg3.size
   have hp3:=hc3.lt
   clear hO
   go_wp2_with fail
   (go_at_call 10;refine (zcZ p vb bs _ _ 5 _ (hc3.alloc _) (by omega)).mono ?_;rintro e w4 ⟨bb,rfl,i4,h4,hg4,hm0,hm1⟩)
   have hq4:=(hg4.other (b:=w3.heap.size) (by simp) (by omega)).trans (World.alloc_new _ _)
   have gA:=((zcn hc3.blk).alloc _).then hg4 hp3
   have hz4:=gA.size
   have hq4z:=zb hq4
   clear hg4
   cases bb with
   | false =>
    rw [<- zi hq4]
    clear hq4
    go_wp2_with (at_builtin;refine zP ?_)
    have gB:=(gA.past (Nat.le_refl _) (.cells #[.int .i64 yid,.int .i64 yage,.int .i64 yproc,.int .i64 ybegan,.slice yya yyn yyc,.slice yza yzn yzc,.slice yra yrn yrc,.slice yta ytn ytc,.slice yma ymn ymc,.int .i64 ys] 35 (0,0))).alloc (.cells #[.int .i64 yid,.int .i64 yage,.int .i64 yproc,.int .i64 ybegan,.slice yya yyn yyc,.slice yza yzn yzc,.slice yra yrn yrc,.slice yta ytn ytc,.slice yma ymn ymc,.int .i64 ys] 35 (0,0))
    refine zb3 rfl _ _ _ rfl zeP (HOW3.out.got gB hne) rfl (zat rTx (w4.setB _ _) ⟨yid,yage,yproc,ybegan,⟨yya,yyn,yyc⟩,⟨yza,yzn,yzc⟩,⟨yra,yrn,yrc⟩,⟨yta,ytn,ytc⟩,⟨yma,ymn,ymc⟩,ys⟩ _ rfl _ _ (by simp [zd])) rfl (by simp only [List.length_singleton];omega) (by simp only [List.length_singleton];unfold maxLen;omega) (by simp [zd];omega) ?_
    intro v6 w6 o6 g6 hv6
    have HT6:=Hd ((HTX3.out.got gB hp).app ((HY.out).got gB hp) (hB) g6 hv6)
    have hgg6:=Got.app (hgg3.then gB hp) g6 (HOW3.out.got gB hne)
    have HO6:=Hd o6
    clear o6 g6 hv6
    go_wp2
    go_roundw
    case rel=>exact ⟨xs.length+1,_,_,i4,h4,by go_num,by omega,by simp,HO6.out,HT6.out,hgg6,hm0,hm1⟩
    case measure=>simp [intOf];omega
   | true =>
    have hc4:=hc3.got gA hm0 hm1
    go_wp2_with fail
    (go_at_call 11;refine (zW p vb bs _ _ _ _ hc4 (by omega)).mono ?_;rintro e w5 ⟨t5,i5,h5,rfl,⟨hr0,hr1,_⟩,hg5,hn0,hn1⟩)
    have hq5:=(hg5.other hq4z (by omega)).trans hq4
    have hq5z:=zb hq5
    have gC:=gA.then hg5 hp3
    have hz5:=gC.size
    have hr2:=hr1 (by omega)
    clear hr1 hg5 hq4
    rw [<- zi hq5]
    clear hq5
    go_wp2_with (at_builtin;refine zP ?_)
    have gB:=(gC.past (Nat.le_refl _) (.cells #[.int .i64 yid,.int .i64 yage,.int .i64 yproc,.int .i64 ybegan,.slice yya yyn yyc,.slice yza yzn yzc,.slice yra yrn yrc,.slice yta ytn ytc,.slice yma ymn ymc,.int .i64 (1+t5)] 35 (0,0))).alloc (.cells #[.int .i64 yid,.int .i64 yage,.int .i64 yproc,.int .i64 ybegan,.slice yya yyn yyc,.slice yza yzn yzc,.slice yra yrn yrc,.slice yta ytn ytc,.slice yma ymn ymc,.int .i64 (1+t5)] 35 (0,0))
    refine zb3 rfl _ _ _ rfl zeP (HOW3.out.got gB hne) rfl (zat rTx (w5.setB _ _) ⟨yid,yage,yproc,ybegan,⟨yya,yyn,yyc⟩,⟨yza,yzn,yzc⟩,⟨yra,yrn,yrc⟩,⟨yta,ytn,ytc⟩,⟨yma,ymn,ymc⟩,1+t5⟩ _ rfl _ _ (by simp [zd])) rfl (by simp only [List.length_singleton];omega) (by simp only [List.length_singleton];unfold maxLen;omega) (by simp [zd];omega) ?_
    intro v6 w6 o6 g6 hv6
    have HT6:=Hd ((HTX3.out.got gB hp).app ((HY.out.state_ (1+t5)).got gB hp) (hB.state_ (1+t5)) g6 hv6)
    have hgg6:=Got.app (hgg3.then gB hp) g6 (HOW3.out.got gB hne)
    have HO6:=Hd o6
    clear o6 g6 hv6
    go_wp2
    go_roundw
    case rel=>exact ⟨xs.length+1,_,_,i5,h5,by go_num,by omega,by simp,HO6.out,HT6.out,hgg6,hn0,hn1⟩
    case measure=>simp [intOf];omega
  ·go_wp2
   refine bodyPost_ret (by simp [results,Tryz.results18,go_sem];rfl) rfl ?_
   exact ⟨_,xs,ds,rfl,HOW2.out,HTX2.out,by have:=HTX2.out.1;omega,i2,h2,hgg2,hj0,hj1⟩
end Go.Proofs.YtncnbihlngapbaaGreat
