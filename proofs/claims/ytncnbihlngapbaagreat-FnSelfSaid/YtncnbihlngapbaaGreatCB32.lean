/- Texts of this claim, merged: the walks and what they stand on. Each condition stands in its theorem. -/
import Derived.Test.YtncnbihlngapbaaGreatCB22
import Derived.Test.YtncnbihlngapbaaGreatCB23
import Derived.Test.YtncnbihlngapbaaGreatCB31
set_option linter.unusedVariables false
set_option linter.unusedSimpArgs false
set_option maxRecDepth 100000
set_option maxHeartbeats 8000000
namespace Go.Proofs.YtncnbihlngapbaaGreat
open Go.ChangeShapes Go.WideShapes Go.ChangeAt Go.RowKit
theorem zbs {a w w':World} {p:Nat} {o:Obj} (h:Got p w o w') (hb:Below a.heap.size a w) (hp:a.heap.size<=p):Below a.heap.size a w':=by
 obtain ⟨X,rfl⟩:=h
 exact (zp hb hp o).ofExt X
theorem zgX (v:Value) (bs:List UInt8) (w:World) (hs:Sl w v bs.length (zU bs)) (hl:bs.length<=140737488351232) (hb:∀ b,v.ownBlock=some b->b<w.heap.size) :
  Calls Tryz.prog 8 #[v] w fun e w'=>∃ u xs ds B,e=.returned u/\OwnL rTx 35 w' w.heap.size u xs/\TxsE w' B u xs ds/\w.heap.size<=B/\ds.length<=4/\Below w.heap.size w w':=by
 go_enter Tryz.func8,Tryz.ntmps8
 go_wp2_with fail
 (go_at_call 9;refine (zfo v bs _ hs hl hb).mono ?_;rintro e w1 ⟨p,rfl,⟨h,hc⟩,hb1,hp⟩)
 have hpl:=hc.lt
 go_wp2_with fail
 (go_at_call 19;refine (zgo p v bs _ _ 4 (by decide) _ hc).mono ?_;rintro e w2 ⟨vz,zs,rfl,hz,hst,i2,h2,hg2,hi0,hi1⟩)
 have hc2:=hc.got hg2 hi0 hi1
 obtain ⟨az,cz,rfl⟩:=hz.form
 have HZ:=Hd hz
 clear hz
 go_wp2_with fail
 (go_at_call 18;refine (zgW p v bs _ _ _ zs 4 hst (by decide) _ hc2 HZ.out).mono ?_;rintro e w3 ⟨u,xs,ds,rfl,ho,ht,hl4,i3,h3,hg3,hj0,hj1⟩)
 obtain ⟨au,cu,rfl⟩:=ho.rd.form
 have hz1:=hb1.size
 have hz2:=hg2.size
 have hB:=zbs (hg2.then hg3 hpl) hb1 hp
 have HO:=Hd ho
 have HT:=Hd ht
 clear ho ht
 go_wp2
 go_ret
 exact ⟨_,xs,ds,_,rfl,HO.out.base (by omega),HT.out,by omega,hl4,hB⟩
theorem Cl1 {L:Array Bool} {a b i:Nat} (h:L.getD a false=true->L.getD b false=true) (hz:b<L.size) (hi:i=a->L.getD b false=true):(L.setIfInBounds i true).getD a false=true->(L.setIfInBounds i true).getD b false=true:=fun k=>by
 have hb:L.getD b false=true:=by
  by_cases e:i=a
  ·exact hi e
  ·exact h (by rw [zj e] at k;exact k)
 by_cases e:i=b
 ·subst e;exact zaN hz
 ·rw [zj e];exact hb
structure KD (w1:World) (p q:Nat) (v lst tv:Value) (bs:List UInt8) (xo:Obj) (idn:Int) (L:Array Bool) (W:World) (x27 x28 x29 x30 x31 x32 x33 x34 x2:Value):Prop where
 sz:L.size=11
 bel:Below w1.heap.size w1 W
 X:W.heap[q]?=some xo
 cur:∃ i h,Cur W p v bs i h
 f0:L.getD 0 false=true->x27=lst
 f1:L.getD 1 false=true->x28=.pointer (some ⟨q,6,none⟩)
 f2:L.getD 2 false=true->x29=tv
 f3:L.getD 3 false=true->x30=.pointer (some ⟨p,0,none⟩)
 f4:L.getD 4 false=true->x31=.pointer (some ⟨q,0,none⟩)
 f5:L.getD 5 false=true->x32=.int .i64 idn
 f6:L.getD 6 false=true->RdL zbY W x33 [idn,0]/\(∀ k,x33.ownBlock=some k->k ≠ p)
 f7:L.getD 7 false=true->∃ z,x34=.int .i64 z
 f8:L.getD 8 false=true->x2=lst
section
variable {w1:World} {p q:Nat} {v lst tv:Value} {bs:List UInt8} {xo:Obj} {idn:Int} {L:Array Bool} {W W':World} {x27 x28 x29 x30 x31 x32 x33 x34 x2:Value}
theorem KD.grow (h:KD w1 p q v lst tv bs xo idn L W x27 x28 x29 x30 x31 x32 x33 x34 x2) (hb:Below W.heap.size W W'):KD w1 p q v lst tv bs xo idn L W' x27 x28 x29 x30 x31 x32 x33 x34 x2:=by
 have G:=fun {k:Nat} {o:Obj} (hk:W.heap[k]?=some o)=>(Grew.below hb k (zb hk)).trans hk
 refine ⟨h.sz,Below.then h.bel hb,G h.X,(by obtain ⟨i0,h0,hc⟩:=h.cur;exact ⟨_,_,hc.below hb⟩),h.f0,h.f1,h.f2,h.f3,h.f4,h.f5,fun k=>⟨(h.f6 k).1.below hb,(h.f6 k).2⟩,h.f7,h.f8⟩
theorem KD.set (h:KD w1 p q v lst tv bs xo idn L W x27 x28 x29 x30 x31 x32 x33 x34 x2) {i:Nat} (hi:i<11)  {y27 y28 y29 y30 y31 y32 y33 y34 y2:Value}
  (e0:if i=0 then y27=lst else y27=x27)
  (e1:if i=1 then y28=.pointer (some ⟨q,6,none⟩) else y28=x28)
  (e2:if i=2 then y29=tv else y29=x29)
  (e3:if i=3 then y30=.pointer (some ⟨p,0,none⟩) else y30=x30)
  (e4:if i=4 then y31=.pointer (some ⟨q,0,none⟩) else y31=x31)
  (e5:if i=5 then y32=.int .i64 idn else y32=x32)
  (e6:if i=6 then RdL zbY W y33 [idn,0]/\(∀ k,y33.ownBlock=some k->k ≠ p) else y33=x33)
  (e7:if i=7 then ∃ z,y34=.int .i64 z else y34=x34)
  (e8:if i=8 then y2=lst else y2=x2) :
  KD w1 p q v lst tv bs xo idn (L.setIfInBounds i true) W y27 y28 y29 y30 y31 y32 y33 y34 y2:=by
 have up:∀ j,L.getD j false=true->(L.setIfInBounds i true).getD j false=true:=fun j hj=>by
  by_cases hx:i=j
  ·subst hx;exact zaN (by have:=h.sz;omega)
  ·rw [zj hx];exact hj
 refine ⟨by rw [Array.size_setIfInBounds];exact h.sz,h.bel,h.X,h.cur,fun k=>?_,fun k=>?_,fun k=>?_,fun k=>?_,fun k=>?_,fun k=>?_,fun k=>?_,fun k=>?_,fun k=>?_⟩
 ·by_cases hx:i=0
  ·rwa [if_pos hx] at e0
  ·rw [if_neg hx] at e0;rw [zj hx] at k;rw [e0];exact h.f0 k
 ·by_cases hx:i=1
  ·rwa [if_pos hx] at e1
  ·rw [if_neg hx] at e1;rw [zj hx] at k;rw [e1];exact h.f1 k
 ·by_cases hx:i=2
  ·rwa [if_pos hx] at e2
  ·rw [if_neg hx] at e2;rw [zj hx] at k;rw [e2];exact h.f2 k
 ·by_cases hx:i=3
  ·rwa [if_pos hx] at e3
  ·rw [if_neg hx] at e3;rw [zj hx] at k;rw [e3];exact h.f3 k
 ·by_cases hx:i=4
  ·rwa [if_pos hx] at e4
  ·rw [if_neg hx] at e4;rw [zj hx] at k;rw [e4];exact h.f4 k
 ·by_cases hx:i=5
  ·rwa [if_pos hx] at e5
  ·rw [if_neg hx] at e5;rw [zj hx] at k;rw [e5];exact h.f5 k
 ·by_cases hx:i=6
  ·rwa [if_pos hx] at e6
  ·rw [if_neg hx] at e6;rw [zj hx] at k;rw [e6];exact h.f6 k
 ·by_cases hx:i=7
  ·rwa [if_pos hx] at e7
  ·rw [if_neg hx] at e7;rw [zj hx] at k;rw [e7];exact h.f7 k
 ·by_cases hx:i=8
  ·rwa [if_pos hx] at e8
  ·rw [if_neg hx] at e8;rw [zj hx] at k;rw [e8];exact h.f8 k
theorem KD.got (h:KD w1 p q v lst tv bs xo idn L W x27 x28 x29 x30 x31 x32 x33 x34 x2) {i' h':Int} (g:Got p W (zaE v i' h') W') (h0 : 0<=i') (h1:i'<=bs.length) (hp:w1.heap.size<=p) (hq:q ≠ p):KD w1 p q v lst tv bs xo idn L W' x27 x28 x29 x30 x31 x32 x33 x34 x2 :=
 ⟨h.sz,zbs g h.bel hp,(g.other (zb h.X) hq).trans h.X,(by obtain ⟨i0,h0',hc⟩:=h.cur;exact ⟨_,_,hc.got g h0 h1⟩),h.f0,h.f1,h.f2,h.f3,h.f4,h.f5,fun k=>⟨(h.f6 k).1.got g (fun e=>(h.f6 k).2 _ e rfl),(h.f6 k).2⟩,h.f7,h.f8⟩
end
theorem zd3 (v:Value) (bs:List UInt8) (w:World) (hs:Sl w v bs.length (zU bs)) (hl:bs.length<=140737488351232) (hb:∀ b,v.ownBlock=some b->b<w.heap.size) :
  Calls Tryz.prog 5 #[v] w fun e w'=>∃ (u:Value) (ds:List TxD) (ct:List Value) (t:TouchD) (n:Int),e=.returned (.tuple #[u,.agg ct.toArray,.int .i64 n])/\(vSlice vTx 35).rd w' [u] ds/\zbv.rd w' ct t/\ds.length<=4/\Below w.heap.size w w':=by
 go_enter Tryz.func5,Tryz.ntmps5
 go_wp2_with fail
 (go_at_call 8;refine (zgX v bs _ (hs.alloc _) hl (fun b e=>by have:=hb b e;simp;omega)).mono ?_;rintro e w1 ⟨u,xs,ds,B,rfl,ho,ht,hB,hl4,hb1⟩)
 have b1:Below w.heap.size w w1:=Below.then (by repeat (first|with_reducible exact Below.refl _ _|with_reducible apply Below.ofExt|with_reducible apply Below.ofAlloc|with_reducible apply Below.drew|with_reducible apply Below.ofDrewN|with_reducible assumption|(with_reducible refine Below.setCell ?_ (by first|exact Nat.le_refl _|(simp [go_sem];done)|(simp [go_sem];omega)) _))) hb1
 have R1:=(hb1.block w.heap.size (by simp)).trans (World.alloc_new _ _)
 obtain ⟨au,cu,rfl⟩:=ho.rd.form
 have hxl:=ht.1
 rw [hxl] at ho ht ⊢
 have HO:=Hd (ho.base (B':=w.heap.size+1) (by simp))
 have HT:=Hd ht
 have hB':w.heap.size+1<=B:=by simpa using hB
 have hw1:=b1.size
 have HSV:=Hd (hs.below b1)
 clear ho ht hb1 hB hs
 go_wp2_with fail
 (go_at_call 9;refine (zfo v bs _ HSV.out hl (fun b e=>by have:=hb b e;omega)).mono ?_;rintro e w2 ⟨p,rfl,⟨h,hc⟩,hb2,hp⟩)
 have hpl:=hc.lt
 have hz2:=hb2.size
 have zr1:=zb R1
 have HXL:=Hd hxl
 clear hxl
 by_cases hx0:ds.length=0
 ·have hxs:¬ (0:Int)<ds.length:=by omega
  clear hx0
  go_wp2_with fail
  (go_at_call 13;refine (zdt p v bs _ _ _ hc).mono ?_;rintro e w5 ⟨vr,vw,rs,ws,i5,h5,rfl,hr,hw,hsr,hsw,hg5,hm0,hm1⟩)
  have hc5:=Cur.got hc hg5 hm0 hm1
  have B5:=zbs hg5 hb2 hp
  obtain ⟨ar,cr,rfl⟩:=hr.rd.form
  obtain ⟨aw,cw,rfl⟩:=hw.rd.form
  have hner:(Value.slice ar rs.length cr).ownBlock ≠ some p:=fun e=>by have:=(hr.lt p e).1;have:=hc.lt;omega
  have hnew:(Value.slice aw ws.length cw).ownBlock ≠ some p:=fun e=>by have:=(hw.lt p e).1;have:=hc.lt;omega
  have HRS:=Hd hr
  have HWS:=Hd hw
  have HSR:=Hd hsr
  have HSW:=Hd hsw
  have hcl:=hc.lt
  clear hr hw hsr hsw
  go_wp2_with fail
  (go_at_call 11;refine (zW p v bs _ _ _ _ hc5 (by omega)).mono ?_;rintro e w6 ⟨t6,i6,h6,rfl,_,hg6,hn0,hn1⟩)
  have B6:=zbs hg6 B5 hp
  have R6:=(B6.block _ (zb R1)).trans R1
  have z6:=zb R6
  have HRS6:=Hd (HRS.out.got hg6 hner)
  have HWS6:=Hd (HWS.out.got hg6 hnew)
  rw [<- zi R6]
  clear R6
  go_wp2
  refine bodyPost_ret (by simp [results,Tryz.results5,go_sem,z6];rfl) rfl ?_
  refine ⟨_,ds,[.slice ar rs.length cr,.slice aw ws.length cw],⟨rs,ws⟩,t6,rfl,(TxsE.setB (r:=w.heap.size) (HT.out.below B6) (by omega) _).vrd (OwnL.setB (p:=w.heap.size) (zau HO.out B6) (fun e=>by have:=(HO.out.lt _ e).1;omega) _).rd,⟨_,_,rfl,zax (R:=zH) rfl rfl (by decide) (OwnL.setB (p:=w.heap.size) HRS6.out (fun e=>by have:=(HRS6.out.lt _ e).1;omega) _).rd (fun s hs=>by have:=HSR.out s hs;omega),zax (R:=zH) rfl rfl (by decide) (OwnL.setB (p:=w.heap.size) HWS6.out (fun e=>by have:=(HWS6.out.lt _ e).1;omega) _).rd (fun s hs=>by have:=HSW.out s hs;omega)⟩,hl4,zp (Below.then b1 B6) (Nat.le_refl _) _⟩
 ·have hxs:(0:Int)<ds.length:=by omega
  clear hx0
  go_wp2_with fail
  (go_at_call 10;refine (zcZ p v bs _ _ 4 _ hc (by omega)).mono ?_;rintro e w3 ⟨bb,rfl,i3,h3,hg3,hi0,hi1⟩)
  have hc3:=hc.got hg3 hi0 hi1
  have B3:=zbs hg3 hb2 hp
  have hz3:=hg3.size
  cases bb with
  | true =>
   go_wp2_with fail
   (go_at_call 13;refine (zdt p v bs _ _ _ hc3).mono ?_;rintro e w5 ⟨vr,vw,rs,ws,i5,h5,rfl,hr,hw,hsr,hsw,hg5,hm0,hm1⟩)
   have hc5:=Cur.got hc3 hg5 hm0 hm1
   have B5:=zbs hg5 B3 hp
   obtain ⟨ar,cr,rfl⟩:=hr.rd.form
   obtain ⟨aw,cw,rfl⟩:=hw.rd.form
   have hner:(Value.slice ar rs.length cr).ownBlock ≠ some p:=fun e=>by have:=(hr.lt p e).1;have:=hc3.lt;omega
   have hnew:(Value.slice aw ws.length cw).ownBlock ≠ some p:=fun e=>by have:=(hw.lt p e).1;have:=hc3.lt;omega
   have HRS:=Hd hr
   have HWS:=Hd hw
   have HSR:=Hd hsr
   have HSW:=Hd hsw
   have hcl:=hc3.lt
   clear hr hw hsr hsw
   go_wp2_with fail
   (go_at_call 11;refine (zW p v bs _ _ _ _ hc5 (by omega)).mono ?_;rintro e w6 ⟨t6,i6,h6,rfl,_,hg6,hn0,hn1⟩)
   have B6:=zbs hg6 B5 hp
   have R6:=(B6.block _ (zb R1)).trans R1
   have z6:=zb R6
   have HRS6:=Hd (HRS.out.got hg6 hner)
   have HWS6:=Hd (HWS.out.got hg6 hnew)
   rw [<- zi R6]
   clear R6
   go_wp2
   refine bodyPost_ret (by simp [results,Tryz.results5,go_sem,z6];rfl) rfl ?_
   refine ⟨_,ds,[.slice ar rs.length cr,.slice aw ws.length cw],⟨rs,ws⟩,t6,rfl,(TxsE.setB (r:=w.heap.size) (HT.out.below B6) (by omega) _).vrd (OwnL.setB (p:=w.heap.size) (zau HO.out B6) (fun e=>by have:=(HO.out.lt _ e).1;omega) _).rd,⟨_,_,rfl,zax (R:=zH) rfl rfl (by decide) (OwnL.setB (p:=w.heap.size) HRS6.out (fun e=>by have:=(HRS6.out.lt _ e).1;omega) _).rd (fun s hs=>by have:=HSR.out s hs;omega),zax (R:=zH) rfl rfl (by decide) (OwnL.setB (p:=w.heap.size) HWS6.out (fun e=>by have:=(HWS6.out.lt _ e).1;omega) _).rd (fun s hs=>by have:=HSW.out s hs;omega)⟩,hl4,zp (Below.then b1 B6) (Nat.le_refl _) _⟩
  | false =>
   go_wp2_with fail
   (go_at_call 11;refine (zW p v bs _ _ _ _ hc3 (by omega)).mono ?_;rintro e w4 ⟨t,i4,h4,rfl,⟨ht0,ht1,_⟩,hg4,hj0,hj1⟩)
   have ht2:=ht1 (by omega)
   clear ht1
   obtain ⟨n,rfl⟩:=Int.eq_ofNat_of_zero_le ht0
   have hc4:=hc3.got hg4 hj0 hj1
   have B4:=zbs hg4 B3 hp
   have hk:n<ds.length:=by omega
   have hkx:n<xs.length:=by rw [HXL.out];exact hk
   have hzz:n<(xs.zip ds).length:=by rw [List.length_zip];omega
   have hm:=HT.out.2 _ (List.getElem_mem hzz)
   rw [List.getElem_zip] at hm
   obtain ⟨ao,cap,hsl,hc1,hc2,hnil,hcell⟩:=HO.out.rd.shape
   obtain ⟨b,off,hao,hbl,hcl2⟩:=hcell (fun e=>by rw [e] at hkx;simp at hkx)
   have hbl:=hbl (by decide)
   have hcells:=fun j u h=>hcl2 n hkx j u h
   clear hcl2
   injection hsl with e1 e2 e3
   subst e1
   subst hao
   have HM:=Hd hm
   clear hm hcell hnil hc1 hc2 e2 e3
   generalize xs[n]=x at HM hcells
   generalize ds[n]=d at HM
   obtain ⟨xid,xage,xproc,xbegan,⟨a0,m0,k0⟩,⟨a1,m1,k1⟩,⟨a2,m2,k2⟩,⟨a3,m3,k3⟩,⟨a4,m4,k4⟩,xst⟩:=x
   have GC:=fun {a:Addr} {u:Value} (h:w1.cell? a=some u)=>(Grew.below B4).cell h
   have y0:=GC (hcells 0 (.int .i64 xid) rfl)
   have y1:=GC (hcells 1 (.int .i64 xage) rfl)
   have y2:=GC (hcells 2 (.int .i64 xproc) rfl)
   have y3:=GC (hcells 3 (.int .i64 xbegan) rfl)
   have y4:=GC (hcells 4 (.slice a0 m0 k0) rfl)
   have y5:=GC (hcells 5 (.slice a1 m1 k1) rfl)
   have y6:=GC (hcells 6 (.slice a2 m2 k2) rfl)
   have y7:=GC (hcells 7 (.slice a3 m3 k3) rfl)
   have y8:=GC (hcells 8 (.slice a4 m4 k4) rfl)
   have y9:=GC (hcells 9 (.int .i64 xst) rfl)
   simp only [show rTx.k=10 from rfl,Nat.add_zero] at y0 y1 y2 y3 y4 y5 y6 y7 y8 y9
   have hkk:(n:Int)<ds.length:=ht2
   have hbl4:b<w4.heap.size:=Nat.lt_of_lt_of_le hbl B4.size
   clear hcells GC
   go_wp2_with fail
   clear y0 y1 y2 y3 y4 y5 y6 y7 y8 y9
   have hqp:w4.heap.size ≠ p:=by have:=hc4.lt;omega
   refine zaF (fun L a W=>(L.getD 9 false=false/\L.getD 10 false=false/\((L.getD 8 false=true->L.getD 7 false=true)/\(L.getD 7 false=true->L.getD 3 false=true)/\(L.getD 7 false=true->L.getD 6 false=true)/\(L.getD 6 false=true->L.getD 5 false=true)/\(L.getD 5 false=true->L.getD 4 false=true))/\∃ x27 x28 x29 x30 x31 x32 x33 x34 x2,a=⟨#[v,undef,x2,.pointer (some ⟨w.heap.size,0,none⟩),.int .i64 0,.slice (some ⟨b,off,none⟩) ds.length cu,.pointer (some ⟨p,0,none⟩),.pointer (some ⟨w4.heap.size,0,none⟩),v,.slice (some ⟨b,off,none⟩) ds.length cu,v,.pointer (some ⟨p,0,none⟩),.slice (some ⟨b,off,none⟩) ds.length cu,.int .i64 ds.length,.bool true,.bool true,.pointer (some ⟨p,0,none⟩),.bool false,.bool true,.bool true,.slice (some ⟨b,off,none⟩) ds.length cu,.pointer (some ⟨p,0,none⟩),.slice (some ⟨b,off,none⟩) ds.length cu,.int .i64 ds.length,.int .i64 n,.pointer (some ⟨b,off+n*10,none⟩),.agg #[.int .i64 xid,.int .i64 xage,.int .i64 xproc,.int .i64 xbegan,.slice a0 m0 k0,.slice a1 m1 k1,.slice a2 m2 k2,.slice a3 m3 k3,.slice a4 m4 k4,.int .i64 xst],x27,x28,x29,x30,x31,x32,x33,x34,undef,undef,undef,undef,undef],[]⟩/\KD w1 p w4.heap.size v (.slice (some ⟨b,off,none⟩) ds.length cu) (.agg #[.slice a2 m2 k2,.slice a3 m3 k3]) bs (.cells #[.int .i64 xid,.int .i64 xage,.int .i64 xproc,.int .i64 xbegan,.slice a0 m0 k0,.slice a1 m1 k1,.slice a2 m2 k2,.slice a3 m3 k3,.slice a4 m4 k4,.int .i64 xst] 35 (0,0)) xid L W x27 x28 x29 x30 x31 x32 x33 x34 x2) ∨ ((∀ j,j<10->L.getD j false=true)/\L.size=11/\∃ x27 x28 x29 x30 x31 x32 x33 x34 x4 z,a=⟨#[v,undef,.slice (some ⟨b,off,none⟩) ds.length cu,.pointer (some ⟨w.heap.size,0,none⟩),x4,.slice (some ⟨b,off,none⟩) ds.length cu,.pointer (some ⟨p,0,none⟩),.pointer (some ⟨w4.heap.size,0,none⟩),v,.slice (some ⟨b,off,none⟩) ds.length cu,v,.pointer (some ⟨p,0,none⟩),.slice (some ⟨b,off,none⟩) ds.length cu,.int .i64 ds.length,.bool true,.bool true,.pointer (some ⟨p,0,none⟩),.bool false,.bool true,.bool true,.slice (some ⟨b,off,none⟩) ds.length cu,.pointer (some ⟨p,0,none⟩),.slice (some ⟨b,off,none⟩) ds.length cu,.int .i64 ds.length,.int .i64 n,.pointer (some ⟨b,off+n*10,none⟩),.agg #[.int .i64 xid,.int .i64 xage,.int .i64 xproc,.int .i64 xbegan,.slice a0 m0 k0,.slice a1 m1 k1,.slice a2 m2 k2,.slice a3 m3 k3,.slice a4 m4 k4,.int .i64 xst],x27,x28,x29,x30,x31,x32,x33,x34,undef,undef,undef,undef,undef],[]⟩/\x34=.int .i64 z/\(L.getD 10 false=true->x4=.int .i64 z)/\∃ W',W=W'.setB w.heap.size (.cells #[.slice a2 m2 k2,.slice a3 m3 k3] 27 (0,0))/\Below w1.heap.size w1 W')) (by kernel_rfl) ?_ ?_ ?_
   ·have N:∀ j,¬ (Array.replicate 11 false).getD j false=true:=zc3 11
    exact .inl ⟨rfl,rfl,⟨fun k=>absurd k (N _),fun k=>absurd k (N _),fun k=>absurd k (N _),fun k=>absurd k (N _),fun k=>absurd k (N _)⟩,_,_,_,_,_,_,_,_,_,rfl,⟨by simp,Below.drew (B4.ofAlloc _),World.alloc_new _ _,⟨_,_,(hc4.alloc _).drew⟩,fun k=>absurd k (N _),fun k=>absurd k (N _),fun k=>absurd k (N _),fun k=>absurd k (N _),fun k=>absurd k (N _),fun k=>absurd k (N _),fun k=>absurd k (N _),fun k=>absurd k (N _),fun k=>absurd k (N _)⟩⟩
   ·rintro L a W i (⟨h9,hten,CL,x27,x28,x29,x30,x31,x32,x33,x34,x2,rfl,H⟩|⟨hall,hsz,x27,x28,x29,x30,x31,x32,x33,x34,x4,z,rfl,e34,e4,W',rfl,hb'⟩) hi
    case inr =>
     have hlt:=zbN hi
     have hun:=zbM hi
     have h11:i<11:=hlt
     by_cases hi10:i=10
     ·subst hi10
      subst e34
      refine zz rfl (fun K hK=>?_)
      go_simp
      exact hK _ _ (.inr ⟨fun j hj=>by rw [zj (by omega)];exact hall j hj,by rw [Array.size_setIfInBounds];exact hsz,_,_,_,_,_,_,_,_,_,z,rfl,rfl,fun _=>rfl,W',rfl,hb'⟩)
     ·rw [hall i (by omega)] at hun
      cases hun
    have hlt:=zbN hi
    have hun:=zbM hi
    have hW:Hid (∀ j,zbL _ i j=true->L.getD j false=true):=fun j h=>za1 hi h
    have h11:i<11:=hlt
    clear hlt hi
    have hcs:i=0 ∨ i=1 ∨ i=2 ∨ i=3 ∨ i=4 ∨ i=5 ∨ i=6 ∨ i=7 ∨ i=8 ∨ i=9 ∨ i=10:=by omega
    clear h11
    rcases hcs with rfl|rfl|rfl|rfl|rfl|rfl|rfl|rfl|rfl|rfl|rfl
    ·refine zz rfl (fun K hK=>?_)
     go_simp
     refine hK _ _ (.inl ⟨(zj (by decide)).trans h9,(zj (by decide)).trans hten,⟨Cl1 CL.1 (by rw [H.sz];decide) (fun e=>absurd e (by decide)),Cl1 CL.2.1 (by rw [H.sz];decide) (fun e=>absurd e (by decide)),Cl1 CL.2.2.1 (by rw [H.sz];decide) (fun e=>absurd e (by decide)),Cl1 CL.2.2.2.1 (by rw [H.sz];decide) (fun e=>absurd e (by decide)),Cl1 CL.2.2.2.2 (by rw [H.sz];decide) (fun e=>absurd e (by decide))⟩,_,_,_,_,_,_,_,_,_,rfl,H.set (i:=0) (by decide) (by rw [if_pos rfl]) (by first|(simp;done)|(rw [if_neg (by decide)];rfl)) (by first|(simp;done)|(rw [if_neg (by decide)];rfl)) (by first|(simp;done)|(rw [if_neg (by decide)];rfl)) (by first|(simp;done)|(rw [if_neg (by decide)];rfl)) (by first|(simp;done)|(rw [if_neg (by decide)];rfl)) (by first|(simp;done)|(rw [if_neg (by decide)];rfl)) (by first|(simp;done)|(rw [if_neg (by decide)];rfl)) (by first|(simp;done)|(rw [if_neg (by decide)];rfl))⟩)
    ·refine zz rfl (fun K hK=>?_)
     go_simp
     refine hK _ _ (.inl ⟨(zj (by decide)).trans h9,(zj (by decide)).trans hten,⟨Cl1 CL.1 (by rw [H.sz];decide) (fun e=>absurd e (by decide)),Cl1 CL.2.1 (by rw [H.sz];decide) (fun e=>absurd e (by decide)),Cl1 CL.2.2.1 (by rw [H.sz];decide) (fun e=>absurd e (by decide)),Cl1 CL.2.2.2.1 (by rw [H.sz];decide) (fun e=>absurd e (by decide)),Cl1 CL.2.2.2.2 (by rw [H.sz];decide) (fun e=>absurd e (by decide))⟩,_,_,_,_,_,_,_,_,_,rfl,H.set (i:=1) (by decide) (by first|(simp;done)|(rw [if_neg (by decide)];rfl)) (by rw [if_pos rfl]) (by first|(simp;done)|(rw [if_neg (by decide)];rfl)) (by first|(simp;done)|(rw [if_neg (by decide)];rfl)) (by first|(simp;done)|(rw [if_neg (by decide)];rfl)) (by first|(simp;done)|(rw [if_neg (by decide)];rfl)) (by first|(simp;done)|(rw [if_neg (by decide)];rfl)) (by first|(simp;done)|(rw [if_neg (by decide)];rfl)) (by first|(simp;done)|(rw [if_neg (by decide)];rfl))⟩)
    ·obtain rfl:=H.f1 (hW.out 1 (by kernel_rfl))
     have hx:=H.X
     have hz:=zb hx
     have p6:W.cell? ⟨w4.heap.size,6,none⟩=some (.slice a2 m2 k2):=(zg (i:=6) hx).trans rfl
     have p7:W.cell? ⟨w4.heap.size,7,none⟩=some (.slice a3 m3 k3):=(zg (i:=7) hx).trans rfl
     refine zz rfl (fun K hK=>?_)
     go_simp
     refine hK _ _ (.inl ⟨(zj (by decide)).trans h9,(zj (by decide)).trans hten,⟨Cl1 CL.1 (by rw [H.sz];decide) (fun e=>absurd e (by decide)),Cl1 CL.2.1 (by rw [H.sz];decide) (fun e=>absurd e (by decide)),Cl1 CL.2.2.1 (by rw [H.sz];decide) (fun e=>absurd e (by decide)),Cl1 CL.2.2.2.1 (by rw [H.sz];decide) (fun e=>absurd e (by decide)),Cl1 CL.2.2.2.2 (by rw [H.sz];decide) (fun e=>absurd e (by decide))⟩,_,_,_,_,_,_,_,_,_,rfl,H.set (i:=2) (by decide) (by first|(simp;done)|(rw [if_neg (by decide)];rfl)) (by first|(simp;done)|(rw [if_neg (by decide)];rfl)) (by rw [if_pos rfl]) (by first|(simp;done)|(rw [if_neg (by decide)];rfl)) (by first|(simp;done)|(rw [if_neg (by decide)];rfl)) (by first|(simp;done)|(rw [if_neg (by decide)];rfl)) (by first|(simp;done)|(rw [if_neg (by decide)];rfl)) (by first|(simp;done)|(rw [if_neg (by decide)];rfl)) (by first|(simp;done)|(rw [if_neg (by decide)];rfl))⟩)
    ·refine zz rfl (fun K hK=>?_)
     go_simp
     refine hK _ _ (.inl ⟨(zj (by decide)).trans h9,(zj (by decide)).trans hten,⟨Cl1 CL.1 (by rw [H.sz];decide) (fun e=>absurd e (by decide)),Cl1 CL.2.1 (by rw [H.sz];decide) (fun e=>absurd e (by decide)),Cl1 CL.2.2.1 (by rw [H.sz];decide) (fun e=>absurd e (by decide)),Cl1 CL.2.2.2.1 (by rw [H.sz];decide) (fun e=>absurd e (by decide)),Cl1 CL.2.2.2.2 (by rw [H.sz];decide) (fun e=>absurd e (by decide))⟩,_,_,_,_,_,_,_,_,_,rfl,H.set (i:=3) (by decide) (by first|(simp;done)|(rw [if_neg (by decide)];rfl)) (by first|(simp;done)|(rw [if_neg (by decide)];rfl)) (by first|(simp;done)|(rw [if_neg (by decide)];rfl)) (by rw [if_pos rfl]) (by first|(simp;done)|(rw [if_neg (by decide)];rfl)) (by first|(simp;done)|(rw [if_neg (by decide)];rfl)) (by first|(simp;done)|(rw [if_neg (by decide)];rfl)) (by first|(simp;done)|(rw [if_neg (by decide)];rfl)) (by first|(simp;done)|(rw [if_neg (by decide)];rfl))⟩)
    ·refine zz rfl (fun K hK=>?_)
     go_simp
     refine hK _ _ (.inl ⟨(zj (by decide)).trans h9,(zj (by decide)).trans hten,⟨Cl1 CL.1 (by rw [H.sz];decide) (fun e=>absurd e (by decide)),Cl1 CL.2.1 (by rw [H.sz];decide) (fun e=>absurd e (by decide)),Cl1 CL.2.2.1 (by rw [H.sz];decide) (fun e=>absurd e (by decide)),Cl1 CL.2.2.2.1 (by rw [H.sz];decide) (fun e=>absurd e (by decide)),Cl1 CL.2.2.2.2 (by rw [H.sz];decide) (fun e=>absurd e (by decide))⟩,_,_,_,_,_,_,_,_,_,rfl,H.set (i:=4) (by decide) (by first|(simp;done)|(rw [if_neg (by decide)];rfl)) (by first|(simp;done)|(rw [if_neg (by decide)];rfl)) (by first|(simp;done)|(rw [if_neg (by decide)];rfl)) (by first|(simp;done)|(rw [if_neg (by decide)];rfl)) (by rw [if_pos rfl]) (by first|(simp;done)|(rw [if_neg (by decide)];rfl)) (by first|(simp;done)|(rw [if_neg (by decide)];rfl)) (by first|(simp;done)|(rw [if_neg (by decide)];rfl)) (by first|(simp;done)|(rw [if_neg (by decide)];rfl))⟩)
    ·obtain rfl:=H.f4 (hW.out 4 (by kernel_rfl))
     have hx:=H.X
     have hz:=zb hx
     have p0:W.cell? ⟨w4.heap.size,0,none⟩=some (.int .i64 xid):=(zg (i:=0) hx).trans rfl
     refine zz rfl (fun K hK=>?_)
     go_simp
     refine hK _ _ (.inl ⟨(zj (by decide)).trans h9,(zj (by decide)).trans hten,⟨Cl1 CL.1 (by rw [H.sz];decide) (fun e=>absurd e (by decide)),Cl1 CL.2.1 (by rw [H.sz];decide) (fun e=>absurd e (by decide)),Cl1 CL.2.2.1 (by rw [H.sz];decide) (fun e=>absurd e (by decide)),Cl1 CL.2.2.2.1 (by rw [H.sz];decide) (fun e=>absurd e (by decide)),Cl1 CL.2.2.2.2 (by rw [H.sz];decide) (fun e=>hW.out 4 (by kernel_rfl))⟩,_,_,_,_,_,_,_,_,_,rfl,H.set (i:=5) (by decide) (by first|(simp;done)|(rw [if_neg (by decide)];rfl)) (by first|(simp;done)|(rw [if_neg (by decide)];rfl)) (by first|(simp;done)|(rw [if_neg (by decide)];rfl)) (by first|(simp;done)|(rw [if_neg (by decide)];rfl)) (by first|(simp;done)|(rw [if_neg (by decide)];rfl)) (by rw [if_pos rfl]) (by first|(simp;done)|(rw [if_neg (by decide)];rfl)) (by first|(simp;done)|(rw [if_neg (by decide)];rfl)) (by first|(simp;done)|(rw [if_neg (by decide)];rfl))⟩)
    ·obtain rfl:=H.f5 (hW.out 5 (by kernel_rfl))
     obtain ⟨i0,h0,hcur⟩:=H.cur
     have hpl2:=hcur.lt
     refine zz rfl (fun K hK=>?_)
     go_simp
     refine hK _ _ (.inl ⟨(zj (by decide)).trans h9,(zj (by decide)).trans hten,⟨Cl1 CL.1 (by rw [H.sz];decide) (fun e=>absurd e (by decide)),Cl1 CL.2.1 (by rw [H.sz];decide) (fun e=>absurd e (by decide)),Cl1 CL.2.2.1 (by rw [H.sz];decide) (fun e=>absurd e (by decide)),Cl1 CL.2.2.2.1 (by rw [H.sz];decide) (fun e=>hW.out 5 (by kernel_rfl)),Cl1 CL.2.2.2.2 (by rw [H.sz];decide) (fun e=>absurd e (by decide))⟩,_,_,_,_,_,_,_,_,_,rfl,(H.grow (Below.ofAlloc (Below.refl _ _) _)).set (i:=6) (by decide) (by first|(simp;done)|(rw [if_neg (by decide)];rfl)) (by first|(simp;done)|(rw [if_neg (by decide)];rfl)) (by first|(simp;done)|(rw [if_neg (by decide)];rfl)) (by first|(simp;done)|(rw [if_neg (by decide)];rfl)) (by first|(simp;done)|(rw [if_neg (by decide)];rfl)) (by first|(simp;done)|(rw [if_neg (by decide)];rfl)) (by rw [if_pos rfl];exact ⟨RdL.lit zbY W [xid,0] 2 rfl (by decide) _ rfl _,fun k hk=>by simp [Value.ownBlock] at hk;omega⟩) (by first|(simp;done)|(rw [if_neg (by decide)];rfl)) (by first|(simp;done)|(rw [if_neg (by decide)];rfl))⟩)
    ·obtain rfl:=H.f3 (hW.out 3 (by kernel_rfl))
     obtain ⟨hr3,hn3⟩:=H.f6 (hW.out 6 (by kernel_rfl))
     obtain ⟨i0,h0,hcur⟩:=H.cur
     refine zz rfl (fun K hK=>?_)
     go_simp
     go_at_call 12
     refine (zcY p v bs _ _ _ [xid,0] _ hcur hr3 (by simp) (by simp) (fun e=>hn3 _ e rfl)).mono ?_
     rintro e W' ⟨z,i',h',rfl,_,hg,hi0,hi1⟩
     try go_simp
     refine hK _ _ (.inl ⟨(zj (by decide)).trans h9,(zj (by decide)).trans hten,⟨Cl1 CL.1 (by rw [H.sz];decide) (fun e=>absurd e (by decide)),Cl1 CL.2.1 (by rw [H.sz];decide) (fun e=>hW.out 3 (by kernel_rfl)),Cl1 CL.2.2.1 (by rw [H.sz];decide) (fun e=>hW.out 6 (by kernel_rfl)),Cl1 CL.2.2.2.1 (by rw [H.sz];decide) (fun e=>absurd e (by decide)),Cl1 CL.2.2.2.2 (by rw [H.sz];decide) (fun e=>absurd e (by decide))⟩,_,_,_,_,_,_,_,_,_,rfl,(H.got hg hi0 hi1 hp hqp).set (i:=7) (by decide) (by first|(simp;done)|(rw [if_neg (by decide)];rfl)) (by first|(simp;done)|(rw [if_neg (by decide)];rfl)) (by first|(simp;done)|(rw [if_neg (by decide)];rfl)) (by first|(simp;done)|(rw [if_neg (by decide)];rfl)) (by first|(simp;done)|(rw [if_neg (by decide)];rfl)) (by first|(simp;done)|(rw [if_neg (by decide)];rfl)) (by first|(simp;done)|(rw [if_neg (by decide)];rfl)) (by rw [if_pos rfl];exact ⟨_,rfl⟩) (by first|(simp;done)|(rw [if_neg (by decide)];rfl))⟩)
    ·obtain rfl:=H.f0 (hW.out 0 (by kernel_rfl))
     refine zz rfl (fun K hK=>?_)
     go_simp
     refine hK _ _ (.inl ⟨(zj (by decide)).trans h9,(zj (by decide)).trans hten,⟨Cl1 CL.1 (by rw [H.sz];decide) (fun e=>hW.out 7 (by kernel_rfl)),Cl1 CL.2.1 (by rw [H.sz];decide) (fun e=>absurd e (by decide)),Cl1 CL.2.2.1 (by rw [H.sz];decide) (fun e=>absurd e (by decide)),Cl1 CL.2.2.2.1 (by rw [H.sz];decide) (fun e=>absurd e (by decide)),Cl1 CL.2.2.2.2 (by rw [H.sz];decide) (fun e=>absurd e (by decide))⟩,_,_,_,_,_,_,_,_,_,rfl,H.set (i:=8) (by decide) (by first|(simp;done)|(rw [if_neg (by decide)];rfl)) (by first|(simp;done)|(rw [if_neg (by decide)];rfl)) (by first|(simp;done)|(rw [if_neg (by decide)];rfl)) (by first|(simp;done)|(rw [if_neg (by decide)];rfl)) (by first|(simp;done)|(rw [if_neg (by decide)];rfl)) (by first|(simp;done)|(rw [if_neg (by decide)];rfl)) (by first|(simp;done)|(rw [if_neg (by decide)];rfl)) (by first|(simp;done)|(rw [if_neg (by decide)];rfl)) (by rw [if_pos rfl])⟩)
    ·obtain rfl:=H.f2 (hW.out 2 (by kernel_rfl))
     have hR:=(H.bel.block _ (zb R1)).trans R1
     have e1:=Hd (zi hR)
     have hz:=zb hR
     have d8:=hW.out 8 (by kernel_rfl)
     have d7:=CL.1 d8
     have d3:=CL.2.1 d7
     have d6:=CL.2.2.1 d7
     have d5:=CL.2.2.2.1 d6
     have d4:=CL.2.2.2.2 d5
     obtain ⟨z,rfl⟩:=H.f7 d7
     obtain rfl:=H.f8 (hW.out 8 (by kernel_rfl))
     refine zz rfl (fun K hK=>?_)
     rw [<- e1.out]
     clear e1 hR
     go_simp
     refine hK _ _ (.inr ⟨fun j hj=>?_,by rw [Array.size_setIfInBounds];exact H.sz,_,_,_,_,_,_,_,_,_,z,rfl,rfl,fun k=>?_,W,rfl,H.bel⟩)
     ·by_cases hj2:j=9
      ·subst hj2;exact zaN (by rw [H.sz];decide)
      ·rw [zj (by omega)]
       have:j=0 ∨ j=1 ∨ j=2 ∨ j=3 ∨ j=4 ∨ j=5 ∨ j=6 ∨ j=7 ∨ j=8:=by omega
       rcases this with rfl|rfl|rfl|rfl|rfl|rfl|rfl|rfl|rfl
       ·exact hW.out 0 (by kernel_rfl)
       ·exact hW.out 1 (by kernel_rfl)
       ·exact hW.out 2 (by kernel_rfl)
       ·exact d3
       ·exact d4
       ·exact d5
       ·exact d6
       ·exact d7
       ·exact d8
     ·rw [zj (by decide)] at k
      exact absurd k (by rw [hten];decide)
    ·have:=hW.out 9 (by kernel_rfl)
     rw [h9] at this
     cases this
   ·rintro L a W (⟨h9,_,_,x27,x28,x29,x30,x31,x32,x33,x34,x2,rfl,H⟩|⟨hall,hsz,x27,x28,x29,x30,x31,x32,x33,x34,x4,z,rfl,rfl,e4,W',rfl,hb'⟩) hr
    ·have hall:=za9 (ops:=_) H.sz hr (zaA (by kernel_rfl))
     have:=hall 9 (by decide)
     rw [h9] at this
     cases this
    have hall2:=za9 (ops:=_) hsz hr (zaA (by kernel_rfl))
    obtain rfl:=e4 (hall2 10 (by decide))
    clear hall hall2 hr e4 hsz
    have zr:=Nat.lt_of_lt_of_le zr1 hb'.size
    have HTE:=(HM.out.1.below hb').setB (r:=w.heap.size) (by omega) (.cells #[.slice a2 m2 k2,.slice a3 m3 k3] 27 (0,0))
    have e2:=HM.out.1.tr.1.form
    have e3:=HM.out.1.tw.1.form
    have HTE:=Hd HTE
    have HMB:=Hd HM.out.2
    go_wp2
    refine bodyPost_ret (by simp [results,Tryz.results5,go_sem,zr];rfl) rfl ?_
    refine ⟨_,ds,[.slice a2 m2 k2,.slice a3 m3 k3],⟨z,rfl⟩,(TxsE.setB (r:=w.heap.size) (HT.out.below hb') (by omega) _).vrd (OwnL.setB (p:=w.heap.size) (zau HO.out hb') (fun e=>by have:=(HO.out.lt _ e).1;omega) _).rd,⟨d.touch,_,_,rfl,zax (R:=zH) rfl rfl (by decide) HTE.out.tr.1 (fun s hs=>by have:=HMB.out.rd s hs;omega),zax (R:=zH) rfl rfl (by decide) HTE.out.tw.1 (fun s hs=>by have:=HMB.out.wr s hs;omega)⟩,hl4,zp (Below.then b1 hb') (Nat.le_refl _) _⟩
theorem zf2 (t:TouchD) (but:Int) (ds:List TxD):∀ x ∈ zaK t but ds,x ≠ but:=by
 intro x hx
 unfold zaK at hx
 obtain ⟨d,hd,rfl⟩:=List.mem_map.1 hx
 have h:=(List.mem_filter.1 hd).2
 unfold za5 at h
 simp at h
 exact h.2.1
theorem zdK {α : Type} (V:View α) {e:TypeId} (w:World):(vSlice V e).rd w [.slice none 0 0] [] :=
 ⟨none,0,[],rfl,Nat.le_refl _,Nat.zero_le _,fun _=>rfl,rfl,fun i hi=>absurd hi (by simp),fun h=>absurd rfl h⟩
theorem zhK {α : Type} (V:View α) {e:TypeId} {w:World} {b:Nat} {cs:List Value} {d : α} {t:TypeId} (h:V.rd w cs d) (hb:w.heap[b]?=some (.cells cs.toArray t (0,0))):(vSlice V e).rd w [.slice (some ⟨b,0,none⟩) 1 1] [d] :=
 ⟨_,1,[cs],rfl,Nat.le_refl _,by unfold maxLen;omega,(fun h=>by cases h),rfl,fun i hi hc=>by
  have:i=0:=by simp at hi;omega
  subst this
  exact h,fun _=>⟨b,0,rfl,zb hb,fun j u hj=>by
  rw [zg hb,Nat.zero_add]
  simpa using hj⟩⟩
def oneF:TxD:=⟨4,0,0,0,[],[],⟨[],[⟨#[97]⟩]⟩,[],1⟩
theorem ziX (ds:List TxD):zaK ⟨[],[]⟩ 0 ds = []:=by
 unfold zaK
 rw [List.filter_eq_nil_iff.2]
 ·rfl
 ·intro d _
  have hn:∀ xs:List ByteArray,zaP xs []=false:=fun xs=>by
   unfold zaP
   rw [Bool.eq_false_iff]
   intro h
   rw [List.any_eq_true] at h
   obtain ⟨x,_,hx⟩:=h
   simp at hx
  unfold za5 zfD
  simp [hn]
theorem ziW:zaK ⟨[⟨#[42]⟩],[]⟩ 0 [oneF] = [4]:=by decide +kernel
theorem zho (t:TouchD) (but:Int) (ds:List TxD):(zaK t but ds).length<=ds.length:=by
 unfold zaK
 rw [List.length_map]
 exact List.length_filter_le _ _
theorem law_FnSelf (v:Value) (bs:List UInt8) (W:World) (hs:Sl W v bs.length (zU bs)) (hb:∀ b,v.ownBlock=some b->b<W.heap.size):Calls Tryz.prog 3 #[v] W (Yes W):=by
 have HS:=Hd hs
 have HB:=Hd hb
 unfold Yes
 by_cases hbig : 1048576<bs.length
 ·go_enter Tryz.func3,Tryz.ntmps3
  go_wp2_with fail
  (go_at_call 4;refine (zie v bs.length _ _ hs).mono ?_;rintro e w' ⟨rfl,rfl⟩)
  go_wp2
  go_ret
  exact ⟨rfl,(by repeat (first|with_reducible exact Below.refl _ _|with_reducible apply Below.ofExt|with_reducible apply Below.ofAlloc|with_reducible apply Below.drew|with_reducible apply Below.ofDrewN|with_reducible assumption|(with_reducible refine Below.setCell ?_ (by first|exact Nat.le_refl _|(simp [go_sem];done)|(simp [go_sem];omega)) _)))⟩
 clear hs hb
 go_enter Tryz.func3,Tryz.ntmps3
 go_wp2_with fail
 (go_at_call 4;refine (zie v bs.length _ _ HS.out).mono ?_;rintro e w' ⟨rfl,rfl⟩)
 go_wp2_with fail
 (go_at_call 5;refine (zd3 v bs _ HS.out (by omega) HB.out).mono ?_;rintro e w1 ⟨u,ds,ct,t,m,rfl,hl,ht,hl4,hb1⟩)
 obtain ⟨au,cu,rfl⟩:=vSlice.form hl
 obtain ⟨s0,s1,rfl,ht0,ht1⟩:=ht
 obtain ⟨b0,d0,rfl⟩:=vSlice.form ht0
 obtain ⟨b1,d1,rfl⟩:=vSlice.form ht1
 have HL:=Hd hl
 have HT:Hid (zbv.rd w1 [_,_] t):=⟨_,_,rfl,ht0,ht1⟩
 have HB1:=Hd hb1
 clear hl ht0 ht1 HS HB hb1
 go_wp2
 refine zb8 (fun W0=>Below W.heap.size W W0/\(vSlice vTx 35).rd W0 [.slice au ds.length cu] ds/\zbv.rd W0 [.slice b0 t.reads.length d0,.slice b1 t.writes.length d1] t/\W0.heap[w1.heap.size]?=some (.cells #[.slice b0 t.reads.length d0,.slice b1 t.writes.length d1] 27 (0,0))) ⟨HB1.out.ofAlloc _,View.grow _ HL.out (Grew.below (Below.ofAlloc (Below.refl _ _) _)),View.grow _ HT.out (Grew.below (Below.ofAlloc (Below.refl _ _) _)),World.alloc_new _ _⟩ ?_
 rintro w2 ⟨B2,L2,T2,X2⟩
 clear HL HT HB1
 have HL:=Hd L2
 have HT:=Hd T2
 have HX:=Hd X2
 have HB:=Hd B2
 obtain ⟨ao,cap,hsl,hc1,hc2,hnil,hcell⟩:=vSlice.shape L2
 injection hsl with e1 e2 e3
 subst e1
 clear e2 e3 hc1 hc2 hnil
 have HCE:=Hd hcell
 clear hcell L2 T2 X2 B2
 go_loopw [2,6,7,8] (fun r2 k r7 r8 wr=>∃ (n:Nat),k=.int .i64 n/\n<=ds.length/\Below w2.heap.size w2 wr) (fun _ k _ _ _=>ds.length - (intOf k).toNat)
 case atStart=>exact ⟨0,rfl,Nat.zero_le _,Below.refl _ _⟩
 case round =>
  obtain ⟨wo,hwo⟩ : ∃ wo,wo=wr:=⟨_,rfl⟩
  subst hwo
  obtain ⟨n,rfl,hn,hbr⟩:=hrel
  have HBR:=Hd hbr
  have hwr:=hbr.size
  clear hbr
  by_cases hlt:(n:Int)<ds.length
  ·have hk:n<ds.length:=by omega
   obtain ⟨b,off,cs,rfl,hbl,hrd,hcells⟩:=HCE.out n hk
   generalize ds[n]=d at hrd
   obtain ⟨s0,s1,s2,s3,s4,rfl,p0,p1,p2,p3,p4⟩:=hrd
   obtain ⟨a0,k0,rfl⟩:=vSlice.form p0
   obtain ⟨a1,k1,rfl⟩:=vSlice.form p1
   obtain ⟨a2,k2,rfl⟩:=vSlice.form p2
   obtain ⟨a3,k3,rfl⟩:=vSlice.form p3
   obtain ⟨a4,k4,rfl⟩:=vSlice.form p4
   have Q2:=Hd (View.grow _ p2 (Grew.below HBR.out))
   have Q3:=Hd (View.grow _ p3 (Grew.below HBR.out))
   have HLr:=Hd (View.grow _ HL.out (Grew.below HBR.out))
   have y0:=(Grew.below HBR.out).cell (hcells 0 _ rfl)
   have y6:=(Grew.below HBR.out).cell (hcells 6 _ rfl)
   have y7:=(Grew.below HBR.out).cell (hcells 7 _ rfl)
   simp only [show vTx.k=10 from rfl,Nat.add_zero] at y0 y6 y7
   have hbl4:b<wo.heap.size:=by omega
   clear p0 p1 p2 p3 p4 hcells
   go_wp2_with fail
   (first|refine zk (id:=7) [(0,true),(1,true),(2,true),(3,true),(4,true),(5,true),(6,true),(7,true),(8,true),(9,true),(10,true),(11,false),(12,false)] 12 (by kernel_rfl) (by kernel_rfl) ?_|refine zk (id:=11) [(0,true),(1,true),(2,true),(3,true),(4,true),(5,true),(6,true),(7,true),(8,true),(9,true)] 10 (by kernel_rfl) (by kernel_rfl) ?_|refine zk (id:=14) [(0,true),(1,false),(2,false),(3,true),(4,true),(5,true),(6,true),(7,false),(8,false),(9,false),(10,true),(11,true),(12,true),(13,true),(14,true),(15,true),(18,true),(19,true),(16,false),(17,true),(20,false),(21,true),(22,false),(23,false),(24,false)] 22 (by kernel_rfl) (by kernel_rfl) ?_)
   repeat (refine zq rfl (fun K hK=>?_);go_simp;(try simp (disch:=omega) only [IntWalk.i64_in]);refine hK _ ?_;clear hK K)
   clear y6 y7
   refine zo rfl (fun K hK=>?_)
   go_simp
   go_at_call 6
   refine (zbP _ ds [_,_] d.touch d.id _ (View.grow _ HLr.out (Grew.below (by repeat (first|with_reducible exact Below.refl _ _|with_reducible apply Below.ofExt|with_reducible apply Below.ofAlloc|with_reducible apply Below.drew|with_reducible apply Below.ofDrewN|with_reducible assumption|(with_reducible refine Below.setCell ?_ (by first|exact Nat.le_refl _|(simp [go_sem];done)|(simp [go_sem];omega)) _))))) ⟨_,_,rfl,View.grow _ Q2.out (Grew.below (by repeat (first|with_reducible exact Below.refl _ _|with_reducible apply Below.ofExt|with_reducible apply Below.ofAlloc|with_reducible apply Below.drew|with_reducible apply Below.ofDrewN|with_reducible assumption|(with_reducible refine Below.setCell ?_ (by first|exact Nat.le_refl _|(simp [go_sem];done)|(simp [go_sem];omega)) _)))),View.grow _ Q3.out (Grew.below (by repeat (first|with_reducible exact Below.refl _ _|with_reducible apply Below.ofExt|with_reducible apply Below.ofAlloc|with_reducible apply Below.drew|with_reducible apply Below.ofDrewN|with_reducible assumption|(with_reducible refine Below.setCell ?_ (by first|exact Nat.le_refl _|(simp [go_sem];done)|(simp [go_sem];omega)) _))))⟩ (by omega)).mono ?_
   rintro e w' ⟨v',fp,rfl,hf,hb⟩
   have hri:RdL zbY w' v' (zaK d.touch d.id ds):=zf7 (R:=zbY) rfl hf.own
   obtain ⟨X,rfl⟩:=hb.ext
   clear hb hf
   obtain ⟨ai,ci,rfl⟩:=hri.form
   have HRI:=Hd hri
   clear hri
   (try go_simp)
   refine hK _ _ (by show Sx _ _;(try simp only [<- Array.append_assoc]);repeat (first|with_reducible exact Sx.drew _|with_reducible exact Sx.same _ _ _ _|with_reducible exact ⟨_,rfl⟩|with_reducible apply Sx.more|with_reducible apply Sx.ext|with_reducible apply Sx.alloc|with_reducible apply zL|with_reducible exact Sx.refl _)) ?_
   clear hK K
   repeat (refine zy rfl rfl (fun K hK=>?_);go_simp;refine hK _ _ ?_;clear hK K)
   refine zX ?_
   have hnn:=zf2 d.touch d.id ds
   have hil:=zho d.touch d.id ds
   generalize zaK d.touch d.id ds=ids at HRI hnn hil ⊢
   have HNN:=Hd hnn
   have HRJ:Hid (RdL zbY (wo.ext X) (.slice ai ids.length ci) ids):=HRI.out
   clear hnn HRI Q2 Q3 HLr
   go_wp2
   go_loopw [2,8] (fun r2 k wr2=>∃ (q:Nat),k=.int .i64 q/\q<=ids.length/\Below wo.heap.size wo wr2/\RdL zbY wr2 (.slice ai ids.length ci) ids) (fun _ k _=>ids.length - (intOf k).toNat)
   case atStart=>exact ⟨0,rfl,Nat.zero_le _,(by repeat (first|with_reducible exact Below.refl _ _|with_reducible apply Below.ofExt|with_reducible apply Below.ofAlloc|with_reducible apply Below.drew|with_reducible apply Below.ofDrewN|with_reducible assumption|(with_reducible refine Below.setCell ?_ (by first|exact Nat.le_refl _|(simp [go_sem];done)|(simp [go_sem];omega)) _))),HRJ.out⟩
   case round =>
    obtain ⟨q,rfl,hq,hb2,hr2⟩:=hrel
    have HB2:=Hd hb2
    have HR2:=Hd hr2
    have hz2:=hb2.size
    clear hb2
    by_cases hlt2:(q:Int)<ids.length
    ·have hkq:q<ids.length:=by omega
     obtain ⟨ao2,cap2,hs2,_,_,_,h4⟩:=hr2.shapeI
     obtain ⟨bi,oi,hao,hbi,hci⟩:=h4 (fun e=>by rw [e] at hkq;simp at hkq)
     injection hs2 with e1 e2 e3
     subst e1
     subst e3
     clear e2
     subst hao
     have z:=hci q hkq
     have hne:=HNN.out _ (List.getElem_mem hkq)
     generalize ids[q]=xq at z hne
     have y1:=(Grew.below HB2.out).cell y0
     have hbl5:b<wr.heap.size:=by omega
     clear hci h4 hr2
     go_wp2_with fail
     (first|refine zk (id:=7) [(0,true),(1,true),(2,true),(3,true),(4,true),(5,true),(6,true),(7,true),(8,true),(9,true),(10,true),(11,false),(12,false)] 12 (by kernel_rfl) (by kernel_rfl) ?_|refine zk (id:=11) [(0,true),(1,true),(2,true),(3,true),(4,true),(5,true),(6,true),(7,true),(8,true),(9,true)] 10 (by kernel_rfl) (by kernel_rfl) ?_|refine zk (id:=14) [(0,true),(1,false),(2,false),(3,true),(4,true),(5,true),(6,true),(7,false),(8,false),(9,false),(10,true),(11,true),(12,true),(13,true),(14,true),(15,true),(18,true),(19,true),(16,false),(17,true),(20,false),(21,true),(22,false),(23,false),(24,false)] 22 (by kernel_rfl) (by kernel_rfl) ?_)
     repeat (refine zq rfl (fun K hK=>?_);go_simp;(try simp (disch:=omega) only [IntWalk.i64_in]);refine hK _ ?_;clear hK K)
     repeat (refine zy rfl rfl (fun K hK=>?_);go_simp;refine hK _ _ ?_;clear hK K)
     refine zX ?_
     go_wp2
     go_roundw
     case rel=>exact ⟨q+1,by go_num,by omega,HB2.out.drew,HR2.out.drew⟩
     case measure=>simp [intOf];omega
    ·clear hr2
     go_wp2
     go_roundw
     case rel=>exact ⟨n+1,by go_num,by omega,Below.then HBR.out HB2.out⟩
     case measure=>simp [intOf];omega
  ·have hbo:=Below.then HB.out HBR.out
   have HL3:=View.grow _ HL.out (Grew.below HBR.out)
   have HT3:=View.grow _ HT.out (Grew.below HBR.out)
   have HX3:=(HBR.out.block _ (zb HX.out)).trans HX.out
   clear HL HT HX HB HBR HCE
   go_wp2_with fail
   have h1:((wo.alloc (.cells #[.string ⟨#[97]⟩] 9)).alloc (.cells #[.int .i64 4,.int .i64 0,.int .i64 0,.int .i64 0,.slice none 0 0,.slice none 0 0,.slice none 0 0,.slice (some ⟨wo.heap.size,0,none⟩) 1 1,.slice none 0 0,.int .i64 1] 35)).heap[wo.heap.size]?=some _:=(Below.heap_alloc _ _ _ (by simp)).trans (World.alloc_new _ _)
   have h2:((wo.alloc (.cells #[.string ⟨#[97]⟩] 9)).alloc (.cells #[.int .i64 4,.int .i64 0,.int .i64 0,.int .i64 0,.slice none 0 0,.slice none 0 0,.slice none 0 0,.slice (some ⟨wo.heap.size,0,none⟩) 1 1,.slice none 0 0,.int .i64 1] 35)).heap[wo.heap.size+1]?=some _:=zcl (by simp)
   have hone:(vSlice vTx 35).rd ((wo.alloc (.cells #[.string ⟨#[97]⟩] 9)).alloc (.cells #[.int .i64 4,.int .i64 0,.int .i64 0,.int .i64 0,.slice none 0 0,.slice none 0 0,.slice none 0 0,.slice (some ⟨wo.heap.size,0,none⟩) 1 1,.slice none 0 0,.int .i64 1] 35)) [.slice (some ⟨wo.heap.size+1,0,none⟩) 1 1] [oneF]:=zhK vTx (cs:=[_,_,_,_,_,_,_,_,_,_]) ⟨_,_,_,_,_,rfl,zdK _ _,zdK _ _,zdK _ _,zhK zgl (cs:=[.string ⟨#[97]⟩]) ⟨rfl,by decide⟩ h1,zdK _ _⟩ h2
   clear h1 h2
   refine zb8 (fun W0=>Below W.heap.size W W0/\(vSlice vTx 35).rd W0 [.slice au ds.length cu] ds/\zbv.rd W0 [.slice b0 t.reads.length d0,.slice b1 t.writes.length d1] t/\W0.heap[w1.heap.size]?=some (.cells #[.slice b0 t.reads.length d0,.slice b1 t.writes.length d1] 27 (0,0))/\(vSlice vTx 35).rd W0 [.slice (some ⟨wo.heap.size+1,0,none⟩) 1 1] [oneF]) ⟨(hbo.ofAlloc _).ofAlloc _,View.grow _ HL3 (Grew.below (by repeat (first|with_reducible exact Below.refl _ _|with_reducible apply Below.ofExt|with_reducible apply Below.ofAlloc|with_reducible apply Below.drew|with_reducible apply Below.ofDrewN|with_reducible assumption|(with_reducible refine Below.setCell ?_ (by first|exact Nat.le_refl _|(simp [go_sem];done)|(simp [go_sem];omega)) _)))),View.grow _ HT3 (Grew.below (by repeat (first|with_reducible exact Below.refl _ _|with_reducible apply Below.ofExt|with_reducible apply Below.ofAlloc|with_reducible apply Below.drew|with_reducible apply Below.ofDrewN|with_reducible assumption|(with_reducible refine Below.setCell ?_ (by first|exact Nat.le_refl _|(simp [go_sem];done)|(simp [go_sem];omega)) _)))),(Below.heap_alloc _ _ _ (by have:=zb HX3;simp;omega)).trans ((Below.heap_alloc _ _ _ (zb HX3)).trans HX3),hone⟩ ?_
   rintro w5 ⟨B5,L5,T5,X5,O5⟩
   have HL:=Hd L5
   have HT:=Hd T5
   have HO:=Hd O5
   have HB5:=Hd B5
   have x0:w5.cell? ⟨w1.heap.size,0,none⟩=some (.slice b0 t.reads.length d0):=(zg (i:=0) X5).trans rfl
   have x1:w5.cell? ⟨w1.heap.size,1,none⟩=some (.slice b1 t.writes.length d1):=(zg (i:=1) X5).trans rfl
   have xz:=zb X5
   clear L5 T5 X5 O5 B5 hone HL3 HT3 HX3 hbo
   (first|refine zk (id:=7) [(0,true),(1,true),(2,true),(3,true),(4,true),(5,true),(6,true),(7,true),(8,true),(9,true),(10,true),(11,false),(12,false)] 12 (by kernel_rfl) (by kernel_rfl) ?_|refine zk (id:=11) [(0,true),(1,true),(2,true),(3,true),(4,true),(5,true),(6,true),(7,true),(8,true),(9,true)] 10 (by kernel_rfl) (by kernel_rfl) ?_|refine zk (id:=14) [(0,true),(1,false),(2,false),(3,true),(4,true),(5,true),(6,true),(7,false),(8,false),(9,false),(10,true),(11,true),(12,true),(13,true),(14,true),(15,true),(18,true),(19,true),(16,false),(17,true),(20,false),(21,true),(22,false),(23,false),(24,false)] 22 (by kernel_rfl) (by kernel_rfl) ?_)
   repeat (refine zq rfl (fun K hK=>?_);go_simp;(try simp (disch:=omega) only [IntWalk.i64_in]);refine hK _ ?_;clear hK K)
   refine zo rfl (fun K hK=>?_);go_simp;refine hK _ _ (by show Sx _ _;(try simp only [<- Array.append_assoc]);repeat (first|with_reducible exact Sx.drew _|with_reducible exact Sx.same _ _ _ _|with_reducible exact ⟨_,rfl⟩|with_reducible apply Sx.more|with_reducible apply Sx.ext|with_reducible apply Sx.alloc|with_reducible apply zL|with_reducible exact Sx.refl _)) ?_;clear hK K
   refine zo rfl (fun K hK=>?_)
   go_simp
   go_at_call 6
   refine (zbP _ ds [_,_] ⟨[],[]⟩ 0 _ (View.grow _ HL.out (Grew.below (by repeat (first|with_reducible exact Below.refl _ _|with_reducible apply Below.ofExt|with_reducible apply Below.ofAlloc|with_reducible apply Below.drew|with_reducible apply Below.ofDrewN|with_reducible assumption|(with_reducible refine Below.setCell ?_ (by first|exact Nat.le_refl _|(simp [go_sem];done)|(simp [go_sem];omega)) _))))) ⟨_,_,rfl,zdK _ _,zdK _ _⟩ (by omega)).mono ?_
   rintro e w' ⟨v',fp,rfl,hf,hb⟩
   have hrd:=View.toRd _ hf.own
   rw [ziX] at hrd
   obtain ⟨a8,c8,rfl⟩:=vSlice.form hrd
   obtain ⟨X1,rfl⟩:=hb.ext
   clear hb hf hrd
   (try go_simp)
   refine hK _ _ (by show Sx _ _;(try simp only [<- Array.append_assoc]);repeat (first|with_reducible exact Sx.drew _|with_reducible exact Sx.same _ _ _ _|with_reducible exact ⟨_,rfl⟩|with_reducible apply Sx.more|with_reducible apply Sx.ext|with_reducible apply Sx.alloc|with_reducible apply zL|with_reducible exact Sx.refl _)) ?_
   clear hK K
   repeat (refine zq rfl (fun K hK=>?_);go_simp;(try simp (disch:=omega) only [IntWalk.i64_in]);refine hK _ ?_;clear hK K)
   refine zo rfl (fun K hK=>?_);go_simp;refine hK _ _ (by show Sx _ _;(try simp only [<- Array.append_assoc]);repeat (first|with_reducible exact Sx.drew _|with_reducible exact Sx.same _ _ _ _|with_reducible exact ⟨_,rfl⟩|with_reducible apply Sx.more|with_reducible apply Sx.ext|with_reducible apply Sx.alloc|with_reducible apply zL|with_reducible exact Sx.refl _)) ?_;clear hK K
   refine zo rfl (fun K hK=>?_);go_simp;refine hK _ _ (by show Sx _ _;(try simp only [<- Array.append_assoc]);repeat (first|with_reducible exact Sx.drew _|with_reducible exact Sx.same _ _ _ _|with_reducible exact ⟨_,rfl⟩|with_reducible apply Sx.more|with_reducible apply Sx.ext|with_reducible apply Sx.alloc|with_reducible apply zL|with_reducible exact Sx.refl _)) ?_;clear hK K
   refine zo rfl (fun K hK=>?_)
   go_simp
   go_at_call 6
   refine (zbP _ [oneF] [_,_] ⟨[⟨#[42]⟩],[]⟩ 0 _ (View.grow _ HO.out (Grew.below (by repeat (first|with_reducible exact Below.refl _ _|with_reducible apply Below.ofExt|with_reducible apply Below.ofAlloc|with_reducible apply Below.drew|with_reducible apply Below.ofDrewN|with_reducible assumption|(with_reducible refine Below.setCell ?_ (by first|exact Nat.le_refl _|(simp [go_sem];done)|(simp [go_sem];omega)) _))))) ⟨_,_,rfl,zhK zgl (cs:=[.string ⟨#[42]⟩]) ⟨rfl,by decide⟩ (zcl (by simp [zw])),zdK _ _⟩ (by decide)).mono ?_
   rintro e w' ⟨v',fp12,rfl,hf,hb⟩
   have hrd:=View.toRd _ hf.own
   rw [ziW] at hrd
   obtain ⟨a12,c12,rfl⟩:=vSlice.form hrd
   obtain ⟨X12,rfl⟩:=hb.ext
   clear hb hf hrd
   (try go_simp)
   refine hK _ _ (by show Sx _ _;(try simp only [<- Array.append_assoc]);repeat (first|with_reducible exact Sx.drew _|with_reducible exact Sx.same _ _ _ _|with_reducible exact ⟨_,rfl⟩|with_reducible apply Sx.more|with_reducible apply Sx.ext|with_reducible apply Sx.alloc|with_reducible apply zL|with_reducible exact Sx.refl _)) ?_
   clear hK K
   repeat (refine zq rfl (fun K hK=>?_);go_simp;(try simp (disch:=omega) only [IntWalk.i64_in]);refine hK _ ?_;clear hK K)
   refine zo rfl (fun K hK=>?_)
   go_simp
   go_at_call 6
   refine (zbP _ ds [_,_] t (-1) _ (View.grow _ HL.out (Grew.below (by repeat (first|with_reducible exact Below.refl _ _|with_reducible apply Below.ofExt|with_reducible apply Below.ofAlloc|with_reducible apply Below.drew|with_reducible apply Below.ofDrewN|with_reducible assumption|(with_reducible refine Below.setCell ?_ (by first|exact Nat.le_refl _|(simp [go_sem];done)|(simp [go_sem];omega)) _))))) (View.grow _ HT.out (Grew.below (by repeat (first|with_reducible exact Below.refl _ _|with_reducible apply Below.ofExt|with_reducible apply Below.ofAlloc|with_reducible apply Below.drew|with_reducible apply Below.ofDrewN|with_reducible assumption|(with_reducible refine Below.setCell ?_ (by first|exact Nat.le_refl _|(simp [go_sem];done)|(simp [go_sem];omega)) _))))) (by omega)).mono ?_
   rintro e w' ⟨v',fp13,rfl,hf,hb⟩
   have hrd:=View.toRd _ hf.own
   obtain ⟨a13,c13,rfl⟩:=vSlice.form hrd
   obtain ⟨X13,rfl⟩:=hb.ext
   clear hb hf hrd
   (try go_simp)
   refine hK _ _ (by show Sx _ _;(try simp only [<- Array.append_assoc]);repeat (first|with_reducible exact Sx.drew _|with_reducible exact Sx.same _ _ _ _|with_reducible exact ⟨_,rfl⟩|with_reducible apply Sx.more|with_reducible apply Sx.ext|with_reducible apply Sx.alloc|with_reducible apply zL|with_reducible exact Sx.refl _)) ?_
   clear hK K
   repeat (refine zq rfl (fun K hK=>?_);go_simp;(try simp (disch:=omega) only [IntWalk.i64_in]);refine hK _ ?_;clear hK K)
   refine zo rfl (fun K hK=>?_)
   go_simp
   go_at_call 7
   refine (zfW _ ds [_,_] t (-1) _ (View.grow _ HL.out (Grew.below (by repeat (first|with_reducible exact Below.refl _ _|with_reducible apply Below.ofExt|with_reducible apply Below.ofAlloc|with_reducible apply Below.drew|with_reducible apply Below.ofDrewN|with_reducible assumption|(with_reducible refine Below.setCell ?_ (by first|exact Nat.le_refl _|(simp [go_sem];done)|(simp [go_sem];omega)) _))))) (View.grow _ HT.out (Grew.below (by repeat (first|with_reducible exact Below.refl _ _|with_reducible apply Below.ofExt|with_reducible apply Below.ofAlloc|with_reducible apply Below.drew|with_reducible apply Below.ofDrewN|with_reducible assumption|(with_reducible refine Below.setCell ?_ (by first|exact Nat.le_refl _|(simp [go_sem];done)|(simp [go_sem];omega)) _))))) (by omega)).mono ?_
   rintro e w' ⟨v',fp14,rfl,hf,hb⟩
   have hrd:=View.toRd _ hf.own
   obtain ⟨a14,c14,rfl⟩:=vSlice.form hrd
   obtain ⟨X14,rfl⟩:=hb.ext
   clear hb hf hrd
   (try go_simp)
   refine hK _ _ (by show Sx _ _;(try simp only [<- Array.append_assoc]);repeat (first|with_reducible exact Sx.drew _|with_reducible exact Sx.same _ _ _ _|with_reducible exact ⟨_,rfl⟩|with_reducible apply Sx.more|with_reducible apply Sx.ext|with_reducible apply Sx.alloc|with_reducible apply zL|with_reducible exact Sx.refl _)) ?_
   clear hK K
   repeat (refine zq rfl (fun K hK=>?_);go_simp;(try simp (disch:=omega) only [IntWalk.i64_in]);refine hK _ ?_;clear hK K)
   repeat (refine zy rfl rfl (fun K hK=>?_);go_simp;refine hK _ _ ?_;clear hK K)
   refine zX ?_
   go_wp2
   go_ret
   exact ⟨rfl,((HB5.out.ofExt _).ofAlloc _).ofExt _⟩
end Go.Proofs.YtncnbihlngapbaaGreat
