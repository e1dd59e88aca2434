/- Texts of this claim, merged: the walks and what they stand on. Each condition stands in its theorem. -/
import Derived.Test.YtncnbihlngapbaaGreatCB28
set_option linter.unusedVariables false
set_option linter.unusedSimpArgs false
set_option maxRecDepth 100000
set_option maxHeartbeats 8000000
namespace Go.Proofs.YtncnbihlngapbaaGreat
open Go.ChangeShapes Go.WideShapes Go.ChangeAt Go.RowKit
theorem SmallCall.in_ {c:CallD} (h:SmallCall c):zbE c.a/\zbE c.b:=⟨⟨by have:=h.2.2.2.1;omega,by have:=h.2.2.2.1;omega⟩,⟨by have:=h.2.2.2.2;omega,by have:=h.2.2.2.2;omega⟩⟩
theorem Cur.noS {w:World} {p:Nat} {vb:Value} {bs:List UInt8} {i h:Int} (c:Cur w p vb bs i h):∀ u ∈ (#[vb,.int .i64 i,.int .i64 h]:Array Value),∀ s,u ≠ .string s:=by
 intro u hu s
 have hb:∃ a n k,vb=.slice a n k:=by
  rcases c.bytes with ⟨rfl,_⟩|⟨b,off,cap,rfl,_⟩
  ·exact ⟨_,_,_,rfl⟩
  ·exact ⟨_,_,_,rfl⟩
 obtain ⟨a,n,k,rfl⟩:=hb
 simp at hu
 rcases hu with rfl|rfl|rfl<;>simp
theorem zci {α : Type} {R:RowOf α} {w w':World} {v:Value} {xs:List α} (hstr:∀ u ∈ xs.flatMap R.row,∃ s,u=.string s) (h:RdL R w v xs) {p:Nat} {vb:Value} {bs:List UInt8} {i h0:Int} (c:Cur w p vb bs i h0) {o:Obj} (g:Got p w o w'):RdL R w' v xs:=by
 obtain ⟨X,rfl⟩:=g
 exact (zaz hstr h c.blk c.noS o).ext X
theorem zgo (p:Nat) (vb:Value) (bs:List UInt8) (i h:Int) (most:Nat) (hm:most<=30) (w:World) (hc:Cur w p vb bs i h) :
  Calls Tryz.prog 19 #[.pointer (some ⟨p,0,none⟩),.int .i64 most] w fun e w'=>∃ v cs,e=.returned v/\RdL zE w' v cs/\StoreN most cs/\zh7 p vb bs w w':=by
 have hp:=hc.lt
 have HC:=Hd hc
 clear hc
 go_enter Tryz.func19,Tryz.ntmps19
 go_wp2_with fail
 (go_at_call 27;refine (zjl _).mono ?_;rintro e w1 ⟨v,rfl,hv,hb⟩)
 have hg0:Hid (Got p w (zaE vb i h) w1):=(zcn HC.out.blk).ofBelow hb
 have hv0:=Hd hv
 clear hv hb
 go_wp2
 go_loopw [5,6] (fun v k wr=>∃ (n:Nat) (cs:List CellD) (i' h':Int),k=.int .i64 n/\n<=most/\StoreN n cs/\RdL zE wr v cs/\Got p w (zaE vb i' h') wr/\0<=i'/\i'<=bs.length) (fun _ k _=>most - (intOf k).toNat)
 case atStart=>exact ⟨0,bootC,i,h,rfl,Nat.zero_le _,ziO,hv0.out,hg0.out,HC.out.lo,HC.out.hi⟩
 case round =>
  clear hg0 hv0
  obtain ⟨n,cs,i1,h1,rfl,hn,hst,hv,hg,hi0,hi1⟩:=hrel
  have hc1:=HC.out.got hg hi0 hi1
  obtain ⟨ao,co,rfl⟩:=hv.form
  have HV:=Hd hv
  have HST:=Hd hst
  clear hv hst
  go_wp2_with fail
  (go_at_call 11;refine (zW p vb bs _ _ _ _ hc1 (by omega)).mono ?_;rintro e w2 ⟨x,i2,h2,rfl,⟨hx0,hx1,_⟩,hg2,hj0,hj1⟩)
  have hc2:=hc1.got hg2 hj0 hj1
  have hx2:=hx1 (by omega)
  clear hx1
  have HV2:=Hd (zci (zh _) HV.out hc1 hg2)
  have hgg2:=hg.then hg2 hp
  by_cases hlt:(n:Int)<x
  ·go_wp2_with fail
   (go_at_call 11;refine (zW p vb bs _ _ _ _ hc2 (by omega)).mono ?_;rintro e w3 ⟨y,i3,h3,rfl,⟨hy0,hy1,_⟩,hg3,hk0,hk1⟩)
   have hc3:=hc2.got hg3 hk0 hk1
   have hy2:=hy1 (by omega)
   clear hy1
   have HV3:=Hd (zci (zh _) HV2.out hc2 hg3)
   go_wp2_with fail
   (go_at_call 29;refine (zeH p vb bs _ _ _ hc3).mono ?_;rintro e w4 ⟨c,rfl,hsm,i4,h4,hg4,hl0,hl1⟩)
   have HV4:=Hd (zci (zh _) HV3.out hc3 hg4)
   have hgg4:=(hgg2.then hg3 hp).then hg4 hp
   have hin:=hsm.in_
   have hpr:zbE (1+y):=⟨by omega,by omega⟩
   have DC:=Hd (fun W (h:RdL zE W (.slice ao cs.length co) cs)=>zdI (.slice ao cs.length co) cs (1+y) hpr.1 hpr.2 c hsm.ok hin.1.1 hin.1.2 hin.2.1 hin.2.2 W h (HST.out.fits (by omega) hpr hin.1))
   have HN:=Hd (HST.out.next (by omega) hpr hin.1)
   obtain ⟨kd,nm,tn,ca,cb,tx⟩:=c
   unfold zbk at DC ⊢
   dsimp only at DC ⊢
   clear hsm hin
   generalize (K.doCall (1+y) ⟨kd,nm,tn,ca,cb,tx⟩).run ⟨cs,[],[]⟩=R at DC HN
   obtain ⟨an,m⟩:=R
   dsimp only at DC HN
   unfold zca at DC
   go_wp2_with fail
   (go_at_call 28;refine (DC.out _ HV4.out).mono ?_;rintro e w5 ⟨v0,v1,v2,rfl,⟨u0,u1,u2,he,r0,r1,r2⟩,hb5⟩)
   cases he
   obtain ⟨b0,d0,rfl⟩:=r0.form
   obtain ⟨b1,d1,rfl⟩:=r1.form
   obtain ⟨b2,d2,rfl⟩:=r2.form
   have hg5:=hgg4.ofBelow hb5
   have HR:=Hd r0
   clear r0 r1 r2 hb5 DC
   go_wp2
   go_roundw
   case rel=>exact ⟨n+1,m.cells,i4,h4,by go_num,by omega,HN.out,HR.out,hg5,hl0,hl1⟩
   case measure=>simp [intOf];omega
  ·go_wp2
   go_ret
   exact ⟨_,cs,rfl,HV2.out,HST.out.le (by omega),⟨i2,h2,hgg2,hj0,hj1⟩⟩
structure TxB (n:Nat) (d:TxD):Prop where
 calls:∀ c ∈ d.calls,SmallCall c
 ncalls:d.calls.length<=n
 nans:d.answers.length<=n
 ans:∀ a ∈ d.answers,a.ok
 nmarks:d.marks.length<=n
 nrd:d.touch.reads.length<=n*8589934592
 nwr:d.touch.writes.length<=n*8589934592
 rd:∀ s ∈ d.touch.reads,s.size<=1048700
 wr:∀ s ∈ d.touch.writes,s.size<=1048700
 proc:zbE d.proc
theorem TxB.le {n m:Nat} {d:TxD} (h:TxB n d) (hm:n<=m):TxB m d :=
 ⟨h.calls,Nat.le_trans h.ncalls hm,Nat.le_trans h.nans hm,h.ans,Nat.le_trans h.nmarks hm,Nat.le_trans h.nrd (Nat.mul_le_mul_right _ hm),Nat.le_trans h.nwr (Nat.mul_le_mul_right _ hm),h.rd,h.wr,h.proc⟩
theorem TxO.read {w:World} {B n:Nat} {x:TxR} {d:TxD} (h:TxO w B x d) (b:TxB n d) (hn:n<=60):TxN w x d :=
 ⟨h.id,h.age,h.proc,h.began,h.state,h.calls.rd,h.answers.rd,h.tr.1,h.tw.1,h.marks.rd,by have:=b.ncalls;omega,by have:=b.nans;omega,by have:=b.nrd;omega,by have:=b.nwr;omega,by have:=b.nmarks;omega⟩
theorem TxO.base {w:World} {B B':Nat} {x:TxR} {d:TxD} (h:TxO w B x d) (hb:B'<=B):TxO w B' x d :=
 ⟨h.id,h.age,h.proc,h.began,h.state,h.calls.base hb,h.answers.base hb,h.tr.base hb,h.tw.base hb,h.marks.base hb,h.off,h.sc,h.sa⟩
theorem TxO.below {w w':World} {B:Nat} {x:TxR} {d:TxD} (h:TxO w B x d) (hb:Below w.heap.size w w'):TxO w' B x d :=
 ⟨h.id,h.age,h.proc,h.began,h.state,zau h.calls hb,zau h.answers hb,h.tr.below hb,h.tw.below hb,zau h.marks hb,h.off,h.sc.frame (fun q hq=>Grew.below hb q (h.calls.lt q hq).2),h.sa.frame (fun q hq=>Grew.below hb q (h.answers.lt q hq).2)⟩
theorem TxO.setB {w:World} {B:Nat} {x:TxR} {d:TxD} (h:TxO w B x d) {p:Nat} (hp:p<B) (o:Obj):TxO (w.setB p o) B x d :=
 ⟨h.id,h.age,h.proc,h.began,h.state,h.calls.setB (fun e=>by have:=(h.calls.lt _ e).1;omega) o,h.answers.setB (fun e=>by have:=(h.answers.lt _ e).1;omega) o,h.tr.setB hp o,h.tw.setB hp o,h.marks.setB (fun e=>by have:=(h.marks.lt _ e).1;omega) o,h.off,h.sc.frame (fun q hq=>World.setB_get _ _ _ _ (by have:=(h.calls.lt q hq).1;omega)),h.sa.frame (fun q hq=>World.setB_get _ _ _ _ (by have:=(h.answers.lt q hq).1;omega))⟩
theorem TxO.alloc {w:World} {B:Nat} {x:TxR} {d:TxD} (h:TxO w B x d) (o:Obj):TxO (w.alloc o) B x d :=
 ⟨h.id,h.age,h.proc,h.began,h.state,h.calls.alloc o,h.answers.alloc o,⟨h.tr.1.alloc o,h.tr.2⟩,⟨h.tw.1.alloc o,h.tw.2⟩,h.marks.alloc o,h.off,h.sc.frame (fun q hq=>Below.heap_alloc _ _ _ (h.calls.lt q hq).2),h.sa.frame (fun q hq=>Below.heap_alloc _ _ _ (h.answers.lt q hq).2)⟩
theorem TxO.drew {w:World} {B:Nat} {x:TxR} {d:TxD} (h:TxO w B x d):TxO w.drew B x d :=
 ⟨h.id,h.age,h.proc,h.began,h.state,h.calls.drew,h.answers.drew,⟨h.tr.1.drew,h.tr.2⟩,⟨h.tw.1.drew,h.tw.2⟩,h.marks.drew,h.off,h.sc,h.sa⟩
theorem zdg {α β : Type} {R:RowOf α} {R':RowOf β} {e e':TypeId} {w w':World} {B B' n:Nat} {v v':Value} {xs:List α} {ys:List β} (h:OwnL R e w B v xs) (h':OwnL R' e' w B' v' ys) (he:e ≠ e') (g:w.grownBy w' v'.ownBlock) (hs:Spare w v n):Spare w' v n :=
 hs.frame fun q hq=>g.block q (h.lt q hq).2 fun e=>by
  rcases zbi h h' he with h1|h1
  ·rw [hq] at h1;cases h1
  ·exact h1 (hq.trans e)
theorem TxO.vrd {w:World} {B n:Nat} {x:TxR} {d:TxD} (h:TxO w B x d) (b:TxB n d):vTx.rd w x.cells d :=
 ⟨x.calls.v,x.answers.v,x.tr.v,x.tw.v,x.marks.v,by unfold TxR.cells;rw [h.id,h.age,h.proc,h.began,h.state],zax (R:=zcj) rfl rfl (by decide) h.calls.rd (fun c hc=>(b.calls c hc).ok),zax (R:=zbD) rfl rfl (by decide) h.answers.rd b.ans,zax (R:=zH) rfl rfl (by decide) h.tr.1 (fun s hs=>by have:=b.rd s hs;omega),zax (R:=zH) rfl rfl (by decide) h.tw.1 (fun s hs=>by have:=b.wr s hs;omega),zax (R:=zbY) rfl rfl (by decide) h.marks.rd (fun _ _=>trivial)⟩
theorem TxO.appM {w w':World} {B:Nat} {id age proc began:Int} {c a r t m m':Raw} {st:Int} {d:TxD} (h:TxO w B ⟨id,age,proc,began,c,a,r,t,m,st⟩ d) {xs:List Int} (o2:OwnL zbY 3 w' B m'.v (d.marks++xs)) (g:w.grownBy w' m.v.ownBlock) (hv:m'.v.ownBlock=m.v.ownBlock ∨ m'.v.ownBlock=some w.heap.size):TxO w' B ⟨id,age,proc,began,c,a,r,t,m',st⟩ { d with marks:=d.marks++xs }:=by
 have f:=h.off _ (.inr (.inr rfl))
 refine ⟨h.id,h.age,h.proc,h.began,h.state,h.calls.kept g (zbi h.calls h.marks (by decide)),h.answers.kept g (zbi h.answers h.marks (by decide)),⟨h.tr.1.keptO f.1 g,h.tr.2⟩,⟨h.tw.1.keptO f.2 g,h.tw.2⟩,o2,?_,zdg h.calls h.marks (by decide) g h.sc,zdg h.answers h.marks (by decide) g h.sa⟩
 rintro o (rfl|rfl|rfl)
 ·exact h.off _ (.inl rfl)
 ·exact h.off _ (.inr (.inl rfl))
 ·exact ⟨Off.next (by decide) f.1 h.tr.1 hv,Off.next (by decide) f.2 h.tw.1 hv⟩
theorem TxO.appC {w w':World} {B:Nat} {id age proc began:Int} {c c' a r t m:Raw} {st:Int} {d:TxD} (h:TxO w B ⟨id,age,proc,began,c,a,r,t,m,st⟩ d) {xs:List CallD} (o2:OwnL zcj 63 w' B c'.v (d.calls++xs)) (g:w.grownBy w' c.v.ownBlock) (hv:c'.v.ownBlock=c.v.ownBlock ∨ c'.v.ownBlock=some w.heap.size) (sp:Spare w' c'.v ((d.calls++xs).length*6)):TxO w' B ⟨id,age,proc,began,c',a,r,t,m,st⟩ { d with calls:=d.calls++xs }:=by
 have f:=h.off _ (.inl rfl)
 refine ⟨h.id,h.age,h.proc,h.began,h.state,o2,h.answers.kept g (zbi h.answers h.calls (by decide)),⟨h.tr.1.keptO f.1 g,h.tr.2⟩,⟨h.tw.1.keptO f.2 g,h.tw.2⟩,h.marks.kept g (zbi h.marks h.calls (by decide)),?_,sp,zdg h.answers h.calls (by decide) g h.sa⟩
 rintro o (rfl|rfl|rfl)
 ·exact ⟨Off.next (by decide) f.1 h.tr.1 hv,Off.next (by decide) f.2 h.tw.1 hv⟩
 ·exact h.off _ (.inr (.inl rfl))
 ·exact h.off _ (.inr (.inr rfl))
theorem TxO.appA {w w':World} {B:Nat} {id age proc began:Int} {c a a' r t m:Raw} {st:Int} {d:TxD} (h:TxO w B ⟨id,age,proc,began,c,a,r,t,m,st⟩ d) {xs:List AnswerD} (o2:OwnL zbD 59 w' B a'.v (d.answers++xs)) (g:w.grownBy w' a.v.ownBlock) (hv:a'.v.ownBlock=a.v.ownBlock ∨ a'.v.ownBlock=some w.heap.size) (sp:Spare w' a'.v ((d.answers++xs).length*3)):TxO w' B ⟨id,age,proc,began,c,a',r,t,m,st⟩ { d with answers:=d.answers++xs }:=by
 have f:=h.off _ (.inr (.inl rfl))
 refine ⟨h.id,h.age,h.proc,h.began,h.state,h.calls.kept g (zbi h.calls h.answers (by decide)),o2,⟨h.tr.1.keptO f.1 g,h.tr.2⟩,⟨h.tw.1.keptO f.2 g,h.tw.2⟩,h.marks.kept g (zbi h.marks h.answers (by decide)),?_,zdg h.calls h.answers (by decide) g h.sc,sp⟩
 rintro o (rfl|rfl|rfl)
 ·exact h.off _ (.inl rfl)
 ·exact ⟨Off.next (by decide) f.1 h.tr.1 hv,Off.next (by decide) f.2 h.tw.1 hv⟩
 ·exact h.off _ (.inr (.inr rfl))
theorem TxO.touch {w w':World} {B n:Nat} {id age proc began:Int} {c a r t r' t' m:Raw} {st:Int} {d:TxD} (h:TxO w B ⟨id,age,proc,began,c,a,r,t,m,st⟩ d) (hB:B<=w.heap.size) (hb:Below w.heap.size w w') {rs ws:List ByteArray} (h0:RdF w.heap.size w' r'.v rs) (h1:RdF w.heap.size w' t'.v ws):TxO w' B ⟨id,age,proc,began,c,a,r',t',m,st⟩ { d with touch:=⟨rs,ws⟩ }:=by
 refine ⟨h.id,h.age,h.proc,h.began,h.state,zau h.calls hb,zau h.answers hb,h0.base hB,h1.base hB,zau h.marks hb,?_,h.sc.frame (fun q hq=>Grew.below hb q (h.calls.lt q hq).2),h.sa.frame (fun q hq=>Grew.below hb q (h.answers.lt q hq).2)⟩
 rintro o (rfl|rfl|rfl)
 ·exact ⟨.inr fun k hk e=>by have:=(h.calls.lt _ hk).2;have:=h0.2 _ e;omega,.inr fun k hk e=>by have:=(h.calls.lt _ hk).2;have:=h1.2 _ e;omega⟩
 ·exact ⟨.inr fun k hk e=>by have:=(h.answers.lt _ hk).2;have:=h0.2 _ e;omega,.inr fun k hk e=>by have:=(h.answers.lt _ hk).2;have:=h1.2 _ e;omega⟩
 ·exact ⟨.inr fun k hk e=>by have:=(h.marks.lt _ hk).2;have:=h0.2 _ e;omega,.inr fun k hk e=>by have:=(h.marks.lt _ hk).2;have:=h1.2 _ e;omega⟩
theorem TxN.below {w w':World} {x:TxR} {d:TxD} (h:TxN w x d) (hb:Below w.heap.size w w'):TxN w' x d :=
 ⟨h.id,h.age,h.proc,h.began,h.state,h.calls.below hb,h.answers.below hb,h.tr.below hb,h.tw.below hb,h.marks.below hb,h.lens⟩
structure KM (v24 mk:Value) (ml:Int) (p:Nat) (L:Array Bool) (W:World) (x24 x25 x26 x27 x3:Value):Prop where
 sz:L.size=6
 f0:L.getD 0 false=true->x24=v24
 f1:L.getD 1 false=true->x25=.pointer (some ⟨p,8,none⟩)
 f2:L.getD 2 false=true->x26=mk
 f3:L.getD 3 false=true->x27=.int .i64 ml
 f5:L.getD 5 false=true->x3=.int .i64 ml
section
variable {v24 mk:Value} {ml:Int} {p:Nat} {L:Array Bool} {W W':World} {x24 x25 x26 x27 x3:Value}
theorem KM.grow (h:KM v24 mk ml p L W x24 x25 x26 x27 x3) (hb:Below W.heap.size W W'):KM v24 mk ml p L W' x24 x25 x26 x27 x3:=by
 refine ⟨h.sz,h.f0,h.f1,h.f2,h.f3,h.f5⟩
theorem KM.set (h:KM v24 mk ml p L W x24 x25 x26 x27 x3) {i:Nat} (hi:i<6)  {y24 y25 y26 y27 y3:Value}
  (e0:if i=0 then y24=v24 else y24=x24)
  (e1:if i=1 then y25=.pointer (some ⟨p,8,none⟩) else y25=x25)
  (e2:if i=2 then y26=mk else y26=x26)
  (e3:if i=3 then y27=.int .i64 ml else y27=x27)
  (e5:if i=5 then y3=.int .i64 ml else y3=x3) :
  KM v24 mk ml p (L.setIfInBounds i true) W y24 y25 y26 y27 y3:=by
 have up:∀ j,L.getD j false=true->(L.setIfInBounds i true).getD j false=true:=fun j hj=>by
  by_cases hx:i=j
  ·subst hx;exact zaN (by have:=h.sz;omega)
  ·rw [zj hx];exact hj
 refine ⟨by rw [Array.size_setIfInBounds];exact h.sz,fun k=>?_,fun k=>?_,fun k=>?_,fun k=>?_,fun k=>?_⟩
 ·by_cases hx:i=0
  ·rwa [if_pos hx] at e0
  ·rw [if_neg hx] at e0;rw [zj hx] at k;rw [e0];exact h.f0 k
 ·by_cases hx:i=1
  ·rwa [if_pos hx] at e1
  ·rw [if_neg hx] at e1;rw [zj hx] at k;rw [e1];exact h.f1 k
 ·by_cases hx:i=2
  ·rwa [if_pos hx] at e2
  ·rw [if_neg hx] at e2;rw [zj hx] at k;rw [e2];exact h.f2 k
 ·by_cases hx:i=3
  ·rwa [if_pos hx] at e3
  ·rw [if_neg hx] at e3;rw [zj hx] at k;rw [e3];exact h.f3 k
 ·by_cases hx:i=5
  ·rwa [if_pos hx] at e5
  ·rw [if_neg hx] at e5;rw [zj hx] at k;rw [e5];exact h.f5 k
theorem KM.any (h:KM v24 mk ml p L W x24 x25 x26 x27 x3):KM v24 mk ml p L W' x24 x25 x26 x27 x3:=⟨h.sz,h.f0,h.f1,h.f2,h.f3,h.f5⟩
end
theorem zhD (x:TxR) (d:TxD) (n:Nat) (b:TxB n d) (hn:n<=50) (hs:d.state=1) (w:World) (h:TxN w x d) :
  Calls Tryz.prog 39 #[x.v] w fun e w'=>∃ (y:TxR) (m:Int) (d':TxD),e=.returned (.tuple #[y.v,.int .i64 m])/\TxO w' w.heap.size y d'/\TxB (n+1) d'/\d'.state=1/\d'.id=d.id/\Below w.heap.size w w':=by
 have DC:=Hd (fun W (h:TxN W x d)=>zeG x d W h)
 have HX:=Hd h
 clear h
 obtain ⟨xid,xage,xproc,xbegan,xc,xa,xr,xw,xm,xs⟩:=x
 unfold TxR.v Raw.v at DC ⊢
 dsimp only at DC ⊢
 go_enter Tryz.func39,Tryz.ntmps39
 go_wp2_with fail
 (go_at_call 52;refine (DC.out _ (HX.out.below (by repeat (first|with_reducible exact Below.refl _ _|with_reducible apply Below.ofExt|with_reducible apply Below.ofAlloc|with_reducible apply Below.drew|with_reducible apply Below.ofDrewN|with_reducible assumption|(with_reducible refine Below.setCell ?_ (by first|exact Nat.le_refl _|(simp [go_sem];done)|(simp [go_sem];omega)) _))))).mono ?_;rintro e w1 ⟨y,rfl,ho,hb⟩)
 have O:Hid (TxO w1 (w.heap.size+2) y d):=ho.base (by simp)
 have b1:Below w.heap.size w w1:=Below.then (by repeat (first|with_reducible exact Below.refl _ _|with_reducible apply Below.ofExt|with_reducible apply Below.ofAlloc|with_reducible apply Below.drew|with_reducible apply Below.ofDrewN|with_reducible assumption|(with_reducible refine Below.setCell ?_ (by first|exact Nat.le_refl _|(simp [go_sem];done)|(simp [go_sem];omega)) _))) hb
 have P1:=(hb.block w.heap.size (by simp;omega)).trans ((Below.heap_alloc _ _ _ (by simp)).trans (World.alloc_new _ _))
 have R1:=(hb.block (w.heap.size+1) (by simp)).trans (zcl (by simp))
 clear ho hb DC HX
 obtain ⟨yid,yage,yproc,ybegan,⟨ca,cn,cc⟩,⟨aa,an,ac⟩,⟨ra,rn,rc⟩,⟨ta,tn,tc⟩,⟨ma,mn,mc⟩,ys⟩:=y
 obtain rfl:ys=1:=O.out.state.trans hs
 have hmn:mn=d.marks.length:=by
  obtain ⟨a,c,e⟩:=O.out.marks.rd.form
  injection e
 subst hmn
 have l1:=zb P1
 have m1:=zb R1
 have n1:¬ w.heap.size+1=w.heap.size:=by omega
 have n2:¬ w.heap.size=w.heap.size+1:=by omega
 have R1s:∀ o,(w1.setB w.heap.size o).heap[w.heap.size+1]? = _:=fun o=>(World.setB_get _ _ _ _ (by omega)).trans R1
 by_cases h4:(4:Int)<=d.marks.length
 ·rw [<- zi P1,<- zi (R1s _)]
  clear P1 R1 R1s
  go_wp2
  refine bodyPost_ret (by simp [results,Tryz.results39,go_sem,l1,m1,n1,n2];rfl) rfl ?_
  exact ⟨_,_,_,rfl,((O.out.setB (by omega) _).setB (by omega) _).base (by omega),b.le (by omega),hs,rfl,zp (zp b1 (Nat.le_refl _) _) (by omega) _⟩
 ·rw [<- zi P1]
  clear P1
  go_wp2_with (at_builtin;refine zP ?_)
  refine zb3 rfl _ _ _ rfl zeo ((O.out.marks.setB (fun e=>by have:=(O.out.marks.lt _ e).1;omega) _).alloc _) rfl (zat zbY (w1.setB _ _) (cn:Int) _ rfl _ _ (by simp [zd])) rfl (by simp only [List.length_singleton];have:=b.nmarks;omega) (by simp only [List.length_singleton];unfold maxLen;omega) (by simp [zd];omega) ?_
  intro v2 w2 o2 g2 hv2
  have b2:Below w.heap.size w w2:=Below.appL (a:=w) (R:=zbY) (e:=3) ((zp b1 (Nat.le_refl _) _).ofAlloc _) g2 (((O.out.marks.setB (fun e=>by have:=(O.out.marks.lt _ e).1;omega) _).alloc _).base (by omega))
  have P2:=(g2.block w.heap.size (by simp [zd];omega) (fun e=>by have:=(O.out.marks.lt _ e.symm).1;omega)).trans ((Below.heap_alloc _ _ _ (by rw [zd];exact l1)).trans (World.setB_at _ _ _ l1))
  have R2:=(g2.block (w.heap.size+1) (by simp [zd];omega) (fun e=>by have:=(O.out.marks.lt _ e.symm).1;omega)).trans ((Below.heap_alloc _ _ _ (by rw [zd];exact m1)).trans (R1s _))
  have l2:=zb P2
  have m2:=zb R2
  obtain ⟨a2,c2,rfl⟩:=o2.rd.form
  have O2:=Hd (TxO.appM (m':=⟨a2,_,c2⟩) (xs:=[(cn:Int)]) ((O.out.setB (by omega) _).alloc _) o2 g2 hv2)
  have R2s:∀ o,(w2.setB w.heap.size o).heap[w.heap.size+1]? = _:=fun o=>(World.setB_get _ _ _ _ (by omega)).trans R2
  rw [<- zi P2,<- zi (R2s _)]
  clear P2 R2 R2s R1 R1s g2 o2 hv2 O
  go_wp2_with fail
  generalize (decide ((4:Int)<=(d.marks.length:Int)))=bb
  refine zaF (fun L a W=>∃ x24 x25 x26 x27 x3,a=⟨#[.agg #[.int .i64 xid,.int .i64 xage,.int .i64 xproc,.int .i64 xbegan,.slice xc.a xc.n xc.cap,.slice xa.a xa.n xa.cap,.slice xr.a xr.n xr.cap,.slice xw.a xw.n xw.cap,.slice xm.a xm.n xm.cap,.int .i64 xs],.pointer (some ⟨w.heap.size,0,none⟩),.pointer (some ⟨w.heap.size+1,0,none⟩),x3,.agg #[.int .i64 xid,.int .i64 xage,.int .i64 xproc,.int .i64 xbegan,.slice xc.a xc.n xc.cap,.slice xa.a xa.n xa.cap,.slice xr.a xr.n xr.cap,.slice xw.a xw.n xw.cap,.slice xm.a xm.n xm.cap,.int .i64 xs],.agg #[.int .i64 yid,.int .i64 yage,.int .i64 yproc,.int .i64 ybegan,.slice ca cn cc,.slice aa an ac,.slice ra rn rc,.slice ta tn tc,.slice ma d.marks.length mc,.int .i64 1],.pointer (some ⟨w.heap.size,9,none⟩),.int .i64 1,.bool false,.bool false,.pointer (some ⟨w.heap.size,8,none⟩),.slice ma d.marks.length mc,.int .i64 d.marks.length,.bool bb,.bool bb,undef,.pointer (some ⟨w.heap.size,8,none⟩),.slice ma d.marks.length mc,.pointer (some ⟨w.heap.size,4,none⟩),.slice ca cn cc,.int .i64 cn,.slice (some ⟨w1.heap.size,0,none⟩) 1 1,.slice a2 (d.marks.length+1) c2,.pointer (some ⟨w.heap.size,8,none⟩),x24,x25,x26,x27],[]⟩/\KM (.agg #[.int .i64 yid,.int .i64 yage,.int .i64 yproc,.int .i64 ybegan,.slice ca cn cc,.slice aa an ac,.slice ra rn rc,.slice ta tn tc,.slice a2 (d.marks.length+1) c2,.int .i64 1]) (.slice a2 (d.marks.length+1) c2) (d.marks.length+1) w.heap.size L W x24 x25 x26 x27 x3/\((L.getD 4 false=false/\W=((w2.setB w.heap.size (.cells #[.int .i64 yid,.int .i64 yage,.int .i64 yproc,.int .i64 ybegan,.slice ca cn cc,.slice aa an ac,.slice ra rn rc,.slice ta tn tc,.slice a2 (d.marks.length+1) c2,.int .i64 1] 35 (0,0))).setB (w.heap.size+1) (.cells #[.int .i64 0,.int .i64 0,.int .i64 0,.int .i64 0,.slice none 0 0,.slice none 0 0,.slice none 0 0,.slice none 0 0,.slice none 0 0,.int .i64 0] 35 (0,0))).drew) ∨ (L.getD 4 false=true/\W=((w2.setB w.heap.size (.cells #[.int .i64 yid,.int .i64 yage,.int .i64 yproc,.int .i64 ybegan,.slice ca cn cc,.slice aa an ac,.slice ra rn rc,.slice ta tn tc,.slice a2 (d.marks.length+1) c2,.int .i64 1] 35 (0,0))).setB (w.heap.size+1) (.cells #[.int .i64 yid,.int .i64 yage,.int .i64 yproc,.int .i64 ybegan,.slice ca cn cc,.slice aa an ac,.slice ra rn rc,.slice ta tn tc,.slice a2 (d.marks.length+1) c2,.int .i64 1] 35 (0,0))).drew))) (by kernel_rfl) ?_ ?_ ?_
  ·have N:∀ j,¬ (Array.replicate 6 false).getD j false=true:=zc3 6
   exact ⟨_,_,_,_,_,rfl,⟨by simp,fun k=>absurd k (N _),fun k=>absurd k (N _),fun k=>absurd k (N _),fun k=>absurd k (N _),fun k=>absurd k (N _)⟩,.inl ⟨rfl,rfl⟩⟩
  ·rintro L a W i ⟨x24,x25,x26,x27,x3,rfl,H,hV⟩ hi
   have hlt:=zbN hi
   have hun:=zbM hi
   have hW:Hid (∀ j,zbL _ i j=true->L.getD j false=true):=fun j h=>za1 hi h
   have h6:i<6:=hlt
   clear hlt hi
   have hcs:i=0 ∨ i=1 ∨ i=2 ∨ i=3 ∨ i=4 ∨ i=5:=by omega
   clear h6
   rcases hcs with rfl|rfl|rfl|rfl|rfl|rfl
   ·rcases hV with ⟨hv,rfl⟩|⟨hv,rfl⟩
    ·refine zz rfl (fun K hK=>?_)
     go_simp
     exact hK _ _ ⟨_,_,_,_,_,rfl,H.set (i:=0) (by decide) (by rw [if_pos rfl]) (by first|(simp;done)|(rw [if_neg (by decide)];rfl)) (by first|(simp;done)|(rw [if_neg (by decide)];rfl)) (by first|(simp;done)|(rw [if_neg (by decide)];rfl)) (by first|(simp;done)|(rw [if_neg (by decide)];rfl)),.inl ⟨(zj (by decide)).trans hv,rfl⟩⟩
    ·refine zz rfl (fun K hK=>?_)
     go_simp
     exact hK _ _ ⟨_,_,_,_,_,rfl,H.set (i:=0) (by decide) (by rw [if_pos rfl]) (by first|(simp;done)|(rw [if_neg (by decide)];rfl)) (by first|(simp;done)|(rw [if_neg (by decide)];rfl)) (by first|(simp;done)|(rw [if_neg (by decide)];rfl)) (by first|(simp;done)|(rw [if_neg (by decide)];rfl)),.inr ⟨(zj (by decide)).trans hv,rfl⟩⟩
   ·rcases hV with ⟨hv,rfl⟩|⟨hv,rfl⟩
    ·refine zz rfl (fun K hK=>?_)
     go_simp
     exact hK _ _ ⟨_,_,_,_,_,rfl,H.set (i:=1) (by decide) (by first|(simp;done)|(rw [if_neg (by decide)];rfl)) (by rw [if_pos rfl]) (by first|(simp;done)|(rw [if_neg (by decide)];rfl)) (by first|(simp;done)|(rw [if_neg (by decide)];rfl)) (by first|(simp;done)|(rw [if_neg (by decide)];rfl)),.inl ⟨(zj (by decide)).trans hv,rfl⟩⟩
    ·refine zz rfl (fun K hK=>?_)
     go_simp
     exact hK _ _ ⟨_,_,_,_,_,rfl,H.set (i:=1) (by decide) (by first|(simp;done)|(rw [if_neg (by decide)];rfl)) (by rw [if_pos rfl]) (by first|(simp;done)|(rw [if_neg (by decide)];rfl)) (by first|(simp;done)|(rw [if_neg (by decide)];rfl)) (by first|(simp;done)|(rw [if_neg (by decide)];rfl)),.inr ⟨(zj (by decide)).trans hv,rfl⟩⟩
   ·obtain rfl:=H.f1 (hW.out 1 (by kernel_rfl))
    rcases hV with ⟨hv,rfl⟩|⟨hv,rfl⟩
    ·refine zz rfl (fun K hK=>?_)
     go_simp
     exact hK _ _ ⟨_,_,_,_,_,rfl,H.set (i:=2) (by decide) (by first|(simp;done)|(rw [if_neg (by decide)];rfl)) (by first|(simp;done)|(rw [if_neg (by decide)];rfl)) (by rw [if_pos rfl]) (by first|(simp;done)|(rw [if_neg (by decide)];rfl)) (by first|(simp;done)|(rw [if_neg (by decide)];rfl)),.inl ⟨(zj (by decide)).trans hv,rfl⟩⟩
    ·refine zz rfl (fun K hK=>?_)
     go_simp
     exact hK _ _ ⟨_,_,_,_,_,rfl,H.set (i:=2) (by decide) (by first|(simp;done)|(rw [if_neg (by decide)];rfl)) (by first|(simp;done)|(rw [if_neg (by decide)];rfl)) (by rw [if_pos rfl]) (by first|(simp;done)|(rw [if_neg (by decide)];rfl)) (by first|(simp;done)|(rw [if_neg (by decide)];rfl)),.inr ⟨(zj (by decide)).trans hv,rfl⟩⟩
   ·obtain rfl:=H.f2 (hW.out 2 (by kernel_rfl))
    rcases hV with ⟨hv,rfl⟩|⟨hv,rfl⟩
    ·refine zz rfl (fun K hK=>?_)
     go_simp
     exact hK _ _ ⟨_,_,_,_,_,rfl,H.set (i:=3) (by decide) (by first|(simp;done)|(rw [if_neg (by decide)];rfl)) (by first|(simp;done)|(rw [if_neg (by decide)];rfl)) (by first|(simp;done)|(rw [if_neg (by decide)];rfl)) (by rw [if_pos rfl]) (by first|(simp;done)|(rw [if_neg (by decide)];rfl)),.inl ⟨(zj (by decide)).trans hv,rfl⟩⟩
    ·refine zz rfl (fun K hK=>?_)
     go_simp
     exact hK _ _ ⟨_,_,_,_,_,rfl,H.set (i:=3) (by decide) (by first|(simp;done)|(rw [if_neg (by decide)];rfl)) (by first|(simp;done)|(rw [if_neg (by decide)];rfl)) (by first|(simp;done)|(rw [if_neg (by decide)];rfl)) (by rw [if_pos rfl]) (by first|(simp;done)|(rw [if_neg (by decide)];rfl)),.inr ⟨(zj (by decide)).trans hv,rfl⟩⟩
   ·obtain rfl:=H.f0 (hW.out 0 (by kernel_rfl))
    rcases hV with ⟨hv,rfl⟩|⟨hv,rfl⟩
    ·refine zz rfl (fun K hK=>?_)
     go_simp
     exact hK _ _ ⟨_,_,_,_,_,rfl,H.any.set (i:=4) (by decide) (by first|(simp;done)|(rw [if_neg (by decide)];rfl)) (by first|(simp;done)|(rw [if_neg (by decide)];rfl)) (by first|(simp;done)|(rw [if_neg (by decide)];rfl)) (by first|(simp;done)|(rw [if_neg (by decide)];rfl)) (by first|(simp;done)|(rw [if_neg (by decide)];rfl)),.inr ⟨zaN (by rw [H.sz];decide),rfl⟩⟩
    ·rw [hv] at hun;cases hun
   ·obtain rfl:=H.f3 (hW.out 3 (by kernel_rfl))
    rcases hV with ⟨hv,rfl⟩|⟨hv,rfl⟩
    ·refine zz rfl (fun K hK=>?_)
     go_simp
     exact hK _ _ ⟨_,_,_,_,_,rfl,H.set (i:=5) (by decide) (by first|(simp;done)|(rw [if_neg (by decide)];rfl)) (by first|(simp;done)|(rw [if_neg (by decide)];rfl)) (by first|(simp;done)|(rw [if_neg (by decide)];rfl)) (by first|(simp;done)|(rw [if_neg (by decide)];rfl)) (by rw [if_pos rfl]),.inl ⟨(zj (by decide)).trans hv,rfl⟩⟩
    ·refine zz rfl (fun K hK=>?_)
     go_simp
     exact hK _ _ ⟨_,_,_,_,_,rfl,H.set (i:=5) (by decide) (by first|(simp;done)|(rw [if_neg (by decide)];rfl)) (by first|(simp;done)|(rw [if_neg (by decide)];rfl)) (by first|(simp;done)|(rw [if_neg (by decide)];rfl)) (by first|(simp;done)|(rw [if_neg (by decide)];rfl)) (by rw [if_pos rfl]),.inr ⟨(zj (by decide)).trans hv,rfl⟩⟩
  ·rintro L a W ⟨x24,x25,x26,x27,x3,rfl,H,hV⟩ hr
   have hall:=za9 (ops:=_) H.sz hr (zaA (by kernel_rfl))
   obtain rfl:=H.f5 (hall 5 (by decide))
   rcases hV with ⟨hv,rfl⟩|⟨_,rfl⟩
   ·rw [hall 4 (by decide)] at hv;cases hv
   clear hall hr H
   go_wp2
   refine bodyPost_ret (by simp [results,Tryz.results39,go_sem,l2,m2,n1,n2];rfl) rfl ?_
   refine ⟨⟨yid,yage,yproc,ybegan,⟨ca,cn,cc⟩,⟨aa,an,ac⟩,⟨ra,rn,rc⟩,⟨ta,tn,tc⟩,⟨a2,_,c2⟩,1⟩,_,{ d with marks:=d.marks ++ [(cn:Int)] },rfl,?_,⟨b.calls,Nat.le_trans b.ncalls (by omega),Nat.le_trans b.nans (by omega),b.ans,?_,Nat.le_trans b.nrd (by omega),Nat.le_trans b.nwr (by omega),b.rd,b.wr,b.proc⟩,hs,rfl,Below.drew (zp (zp b2 (Nat.le_refl _) _) (by omega) _)⟩
   ·have O3:=O2.out
    rw [List.length_append,List.length_singleton] at O3
    exact TxO.drew (((O3.setB (p:=w.heap.size) (by omega) _).setB (p:=w.heap.size+1) (by omega) _).base (B':=w.heap.size) (by omega))
   ·have:=b.nmarks
    simp
    omega
structure RUp (R:World->Value->Value->Prop):Prop where
 shp:∀ {W c d},R W c d->(∃ a n k,c=.slice a n k)/\∃ a n k,d=.slice a n k
 grow:∀ {W W' c d},R W c d->Below W.heap.size W W'->R W' c d
 ans:∀ {W c d b},R W c d->W.heap[b]?=some (.cells #[.int .i64 0,.int .i64 0,.string ⟨#[]⟩] 59 (0,0))->∀ o,R (W.setB b o) c d
 tch:∀ {W c d b},R W c d->W.heap[b]?=some (.cells #[.slice none 0 0,.slice none 0 0] 27 (0,0))->∀ o,R (W.setB b o) c d
theorem rup_rd {rd wr:List ByteArray} (hr:∀ s ∈ rd,s.size ≠ 0) (hw:∀ s ∈ wr,s.size ≠ 0):RUp (fun W c d=>RdL zH W c rd/\RdL zH W d wr) :=
 ⟨fun h=>⟨(by obtain ⟨a,n,e⟩:=h.1.form;exact ⟨_,_,_,e⟩),(by obtain ⟨a,n,e⟩:=h.2.form;exact ⟨_,_,_,e⟩)⟩,fun h hb=>⟨h.1.below hb,h.2.below hb⟩,fun h hB o=>⟨zbg hr h.1 hB o,zbg hw h.2 hB o⟩,fun h hB o=>⟨zaz (ze _) h.1 hB zbA o,zaz (ze _) h.2 hB zbA o⟩⟩
structure WI (w:World) (v xv:Value) (proc:Int) (c:CallD) (vs:List CellD) (an:AnswerD) (xo co:Obj) (R:World->Value->Value->Prop) (L:Array Bool) (W:World) (x11 x12 x13 x14 x15 x16 x17 x10 x18 x19 x20 x8 x9 x7:Value):Prop where
 sz:L.size=16
 c14:L.getD 14 false=true->L.getD 11 false=true
 c15:L.getD 15 false=true->L.getD 12 false=true
 up:RUp R
 bel:Below w.heap.size w W
 X:W.heap[w.heap.size]?=some xo
 C:W.heap[w.heap.size+1]?=some co
 P:W.heap[w.heap.size+1+1]?=some (.cells #[.slice none 0 0,.slice none 0 0] 27 (0,0))
 f0:L.getD 0 false=true->x11=v
 f1:L.getD 1 false=true->x12=xv
 f2:L.getD 2 false=true->RdL zE W x13 vs
 f3:L.getD 3 false=true->x14=.pointer (some ⟨w.heap.size,2,none⟩)
 f4:L.getD 4 false=true->x15=.int .i64 proc
 f5:L.getD 5 false=true->x16=zbk c
 f6:L.getD 6 false=true->∃ c0 c1 c2,x17=.tuple #[c0,zca an,.agg #[c1,c2]]/\R W c1 c2
 f7:L.getD 7 false=true->∃ c0 c1 c2,x10=.tuple #[c0,zca an,.agg #[c1,c2]]/\R W c1 c2
 f8:L.getD 8 false=true->x18=x18 ∨ True
 f9:L.getD 9 false=true->x19=zca an
 f10:L.getD 10 false=true->∃ c d,x20=.agg #[c,d]/\R W c d
 f11:L.getD 11 false=true->∃ b,x8=.pointer (some ⟨b,0,none⟩)/\w.heap.size+3<=b/\((L.getD 14 false=false/\W.heap[b]?=some (.cells #[.int .i64 0,.int .i64 0,.string ⟨#[]⟩] 59 (0,0))) ∨ (L.getD 14 false=true/\W.heap[b]?=some (.cells #[.int .i64 an.code,.int .i64 an.n,.string an.text] 59 (0,0))))
 f12:L.getD 12 false=true->∃ b,x9=.pointer (some ⟨b,0,none⟩)/\w.heap.size+3<=b/\((L.getD 15 false=false/\W.heap[b]?=some (.cells #[.slice none 0 0,.slice none 0 0] 27 (0,0))) ∨ (L.getD 15 false=true/\∃ c d,W.heap[b]?=some (.cells #[c,d] 27 (0,0))/\R W c d))
 f13:L.getD 13 false=true->x7=x7 ∨ True
section
variable {w:World} {v xv:Value} {proc:Int} {c:CallD} {vs:List CellD} {an:AnswerD} {xo co:Obj} {R:World->Value->Value->Prop} {L:Array Bool} {W W':World} {x11 x12 x13 x14 x15 x16 x17 x10 x18 x19 x20 x8 x9 x7:Value}
theorem WI.grow (h:WI w v xv proc c vs an xo co R L W x11 x12 x13 x14 x15 x16 x17 x10 x18 x19 x20 x8 x9 x7) (hb:Below W.heap.size W W'):WI w v xv proc c vs an xo co R L W' x11 x12 x13 x14 x15 x16 x17 x10 x18 x19 x20 x8 x9 x7:=by
 have G:=fun {k:Nat} {o:Obj} (hk:W.heap[k]?=some o)=>(Grew.below hb k (zb hk)).trans hk
 refine ⟨h.sz,h.c14,h.c15,h.up,Below.then h.bel hb,G h.X,G h.C,G h.P,h.f0,h.f1,fun k=>(h.f2 k).below hb,h.f3,h.f4,h.f5,fun k=>?_,fun k=>?_,h.f8,h.f9,fun k=>?_,fun k=>?_,fun k=>?_,h.f13⟩
 ·obtain ⟨c0,c1,c2,e,hm⟩:=(h.f6 k);exact ⟨c0,c1,c2,e,h.up.grow hm hb⟩
 ·obtain ⟨c0,c1,c2,e,hm⟩:=(h.f7 k);exact ⟨c0,c1,c2,e,h.up.grow hm hb⟩
 ·obtain ⟨c,d,e,hm⟩:=(h.f10 k);exact ⟨c,d,e,h.up.grow hm hb⟩
 ·obtain ⟨b,e,h1,h4|h4⟩:=(h.f11 k)<;>first|exact ⟨b,e,h1,.inl ⟨h4.1,G h4.2⟩⟩|exact ⟨b,e,h1,.inr ⟨h4.1,G h4.2⟩⟩
 ·obtain ⟨b,e,h1,h4|⟨h4,c,d,h5,h6⟩⟩:=(h.f12 k)<;>first|exact ⟨b,e,h1,.inl ⟨h4.1,G h4.2⟩⟩|exact ⟨b,e,h1,.inr ⟨h4,c,d,G h5,h.up.grow h6 hb⟩⟩
end
structure WJ (w0:World) (p:Nat) (v xv:Value) (proc:Int) (c:CallD) (vs:List CellD) (an:AnswerD) (xo co:Obj) (R:World->Value->Value->Prop) (L:Array Bool) (W:World) (x11 x12 x13 x14 x15 x16 x17 x10 x18 x19 x20 x8 x9 x7:Value):Prop where
 sz:L.size=16
 c14:L.getD 14 false=true->L.getD 11 false=true
 c15:L.getD 15 false=true->L.getD 12 false=true
 up:RUp R
 pz:p+1<w0.heap.size
 bel:Below w0.heap.size w0 W
 X:W.heap[p]?=some xo
 C:W.heap[p+1]?=some co
 f0:L.getD 0 false=true->x11=v
 f1:L.getD 1 false=true->x12=xv
 f2:L.getD 2 false=true->RdL zE W x13 vs
 f3:L.getD 3 false=true->x14=.pointer (some ⟨p,2,none⟩)
 f4:L.getD 4 false=true->x15=.int .i64 proc
 f5:L.getD 5 false=true->x16=zbk c
 f6:L.getD 6 false=true->∃ c0 c1 c2,x17=.tuple #[c0,zca an,.agg #[c1,c2]]/\R W c1 c2
 f7:L.getD 7 false=true->∃ c0 c1 c2,x10=.tuple #[c0,zca an,.agg #[c1,c2]]/\R W c1 c2
 f8:L.getD 8 false=true->x18=x18 ∨ True
 f9:L.getD 9 false=true->x19=zca an
 f10:L.getD 10 false=true->∃ c d,x20=.agg #[c,d]/\R W c d
 f11:L.getD 11 false=true->∃ b,x8=.pointer (some ⟨b,0,none⟩)/\w0.heap.size<=b/\((L.getD 14 false=false/\W.heap[b]?=some (.cells #[.int .i64 0,.int .i64 0,.string ⟨#[]⟩] 59 (0,0))) ∨ (L.getD 14 false=true/\W.heap[b]?=some (.cells #[.int .i64 an.code,.int .i64 an.n,.string an.text] 59 (0,0))))
 f12:L.getD 12 false=true->∃ b,x9=.pointer (some ⟨b,0,none⟩)/\w0.heap.size<=b/\((L.getD 15 false=false/\W.heap[b]?=some (.cells #[.slice none 0 0,.slice none 0 0] 27 (0,0))) ∨ (L.getD 15 false=true/\∃ c d,W.heap[b]?=some (.cells #[c,d] 27 (0,0))/\R W c d))
 f13:L.getD 13 false=true->x7=x7 ∨ True
section
variable {w0:World} {p:Nat} {v xv:Value} {proc:Int} {c:CallD} {vs:List CellD} {an:AnswerD} {xo co:Obj} {R:World->Value->Value->Prop} {L:Array Bool} {W W':World} {x11 x12 x13 x14 x15 x16 x17 x10 x18 x19 x20 x8 x9 x7:Value}
theorem WJ.grow (h:WJ w0 p v xv proc c vs an xo co R L W x11 x12 x13 x14 x15 x16 x17 x10 x18 x19 x20 x8 x9 x7) (hb:Below W.heap.size W W'):WJ w0 p v xv proc c vs an xo co R L W' x11 x12 x13 x14 x15 x16 x17 x10 x18 x19 x20 x8 x9 x7:=by
 have G:=fun {k:Nat} {o:Obj} (hk:W.heap[k]?=some o)=>(Grew.below hb k (zb hk)).trans hk
 refine ⟨h.sz,h.c14,h.c15,h.up,h.pz,Below.then h.bel hb,G h.X,G h.C,h.f0,h.f1,fun k=>(h.f2 k).below hb,h.f3,h.f4,h.f5,fun k=>?_,fun k=>?_,h.f8,h.f9,fun k=>?_,fun k=>?_,fun k=>?_,h.f13⟩
 ·obtain ⟨c0,c1,c2,e,hm⟩:=(h.f6 k);exact ⟨c0,c1,c2,e,h.up.grow hm hb⟩
 ·obtain ⟨c0,c1,c2,e,hm⟩:=(h.f7 k);exact ⟨c0,c1,c2,e,h.up.grow hm hb⟩
 ·obtain ⟨c,d,e,hm⟩:=(h.f10 k);exact ⟨c,d,e,h.up.grow hm hb⟩
 ·obtain ⟨b,e,h1,h4|h4⟩:=(h.f11 k)<;>first|exact ⟨b,e,h1,.inl ⟨h4.1,G h4.2⟩⟩|exact ⟨b,e,h1,.inr ⟨h4.1,G h4.2⟩⟩
 ·obtain ⟨b,e,h1,h4|⟨h4,c,d,h5,h6⟩⟩:=(h.f12 k)<;>first|exact ⟨b,e,h1,.inl ⟨h4.1,G h4.2⟩⟩|exact ⟨b,e,h1,.inr ⟨h4,c,d,G h5,h.up.grow h6 hb⟩⟩
theorem WJ.set (h:WJ w0 p v xv proc c vs an xo co R L W x11 x12 x13 x14 x15 x16 x17 x10 x18 x19 x20 x8 x9 x7) {i:Nat} (hi:i<16) (hi14:i ≠ 14) (hi15:i ≠ 15) {y11 y12 y13 y14 y15 y16 y17 y10 y18 y19 y20 y8 y9 y7:Value}
  (e0:if i=0 then y11=v else y11=x11)
  (e1:if i=1 then y12=xv else y12=x12)
  (e2:if i=2 then RdL zE W y13 vs else y13=x13)
  (e3:if i=3 then y14=.pointer (some ⟨p,2,none⟩) else y14=x14)
  (e4:if i=4 then y15=.int .i64 proc else y15=x15)
  (e5:if i=5 then y16=zbk c else y16=x16)
  (e6:if i=6 then ∃ c0 c1 c2,y17=.tuple #[c0,zca an,.agg #[c1,c2]]/\R W c1 c2 else y17=x17)
  (e7:if i=7 then ∃ c0 c1 c2,y10=.tuple #[c0,zca an,.agg #[c1,c2]]/\R W c1 c2 else y10=x10)
  (e8:if i=8 then y18=y18 ∨ True else y18=x18)
  (e9:if i=9 then y19=zca an else y19=x19)
  (e10:if i=10 then ∃ c d,y20=.agg #[c,d]/\R W c d else y20=x20)
  (e11:if i=11 then ∃ b,y8=.pointer (some ⟨b,0,none⟩)/\w0.heap.size<=b/\((L.getD 14 false=false/\W.heap[b]?=some (.cells #[.int .i64 0,.int .i64 0,.string ⟨#[]⟩] 59 (0,0))) ∨ (L.getD 14 false=true/\W.heap[b]?=some (.cells #[.int .i64 an.code,.int .i64 an.n,.string an.text] 59 (0,0)))) else y8=x8)
  (e12:if i=12 then ∃ b,y9=.pointer (some ⟨b,0,none⟩)/\w0.heap.size<=b/\((L.getD 15 false=false/\W.heap[b]?=some (.cells #[.slice none 0 0,.slice none 0 0] 27 (0,0))) ∨ (L.getD 15 false=true/\∃ c d,W.heap[b]?=some (.cells #[c,d] 27 (0,0))/\R W c d)) else y9=x9)
  (e13:if i=13 then y7=y7 ∨ True else y7=x7) :
  WJ w0 p v xv proc c vs an xo co R (L.setIfInBounds i true) W y11 y12 y13 y14 y15 y16 y17 y10 y18 y19 y20 y8 y9 y7:=by
 have up:∀ j,L.getD j false=true->(L.setIfInBounds i true).getD j false=true:=fun j hj=>by
  by_cases hx:i=j
  ·subst hx;exact zaN (by have:=h.sz;omega)
  ·rw [zj hx];exact hj
 refine ⟨by rw [Array.size_setIfInBounds];exact h.sz,fun k=>up _ (h.c14 (by rw [zj hi14] at k;exact k)),fun k=>up _ (h.c15 (by rw [zj hi15] at k;exact k)),h.up,h.pz,h.bel,h.X,h.C,fun k=>?_,fun k=>?_,fun k=>?_,fun k=>?_,fun k=>?_,fun k=>?_,fun k=>?_,fun k=>?_,fun k=>?_,fun k=>?_,fun k=>?_,fun k=>?_,fun k=>?_,fun k=>?_⟩
 ·(try rw [zj hi14]);(try rw [zj hi15]);by_cases hx:i=0
  ·rwa [if_pos hx] at e0
  ·rw [if_neg hx] at e0;rw [zj hx] at k;rw [e0];exact h.f0 k
 ·(try rw [zj hi14]);(try rw [zj hi15]);by_cases hx:i=1
  ·rwa [if_pos hx] at e1
  ·rw [if_neg hx] at e1;rw [zj hx] at k;rw [e1];exact h.f1 k
 ·(try rw [zj hi14]);(try rw [zj hi15]);by_cases hx:i=2
  ·rwa [if_pos hx] at e2
  ·rw [if_neg hx] at e2;rw [zj hx] at k;rw [e2];exact h.f2 k
 ·(try rw [zj hi14]);(try rw [zj hi15]);by_cases hx:i=3
  ·rwa [if_pos hx] at e3
  ·rw [if_neg hx] at e3;rw [zj hx] at k;rw [e3];exact h.f3 k
 ·(try rw [zj hi14]);(try rw [zj hi15]);by_cases hx:i=4
  ·rwa [if_pos hx] at e4
  ·rw [if_neg hx] at e4;rw [zj hx] at k;rw [e4];exact h.f4 k
 ·(try rw [zj hi14]);(try rw [zj hi15]);by_cases hx:i=5
  ·rwa [if_pos hx] at e5
  ·rw [if_neg hx] at e5;rw [zj hx] at k;rw [e5];exact h.f5 k
 ·(try rw [zj hi14]);(try rw [zj hi15]);by_cases hx:i=6
  ·rwa [if_pos hx] at e6
  ·rw [if_neg hx] at e6;rw [zj hx] at k;rw [e6];exact h.f6 k
 ·(try rw [zj hi14]);(try rw [zj hi15]);by_cases hx:i=7
  ·rwa [if_pos hx] at e7
  ·rw [if_neg hx] at e7;rw [zj hx] at k;rw [e7];exact h.f7 k
 ·(try rw [zj hi14]);(try rw [zj hi15]);by_cases hx:i=8
  ·rwa [if_pos hx] at e8
  ·rw [if_neg hx] at e8;rw [zj hx] at k;rw [e8];exact h.f8 k
 ·(try rw [zj hi14]);(try rw [zj hi15]);by_cases hx:i=9
  ·rwa [if_pos hx] at e9
  ·rw [if_neg hx] at e9;rw [zj hx] at k;rw [e9];exact h.f9 k
 ·(try rw [zj hi14]);(try rw [zj hi15]);by_cases hx:i=10
  ·rwa [if_pos hx] at e10
  ·rw [if_neg hx] at e10;rw [zj hx] at k;rw [e10];exact h.f10 k
 ·(try rw [zj hi14]);(try rw [zj hi15]);by_cases hx:i=11
  ·rwa [if_pos hx] at e11
  ·rw [if_neg hx] at e11;rw [zj hx] at k;rw [e11];exact h.f11 k
 ·(try rw [zj hi14]);(try rw [zj hi15]);by_cases hx:i=12
  ·rwa [if_pos hx] at e12
  ·rw [if_neg hx] at e12;rw [zj hx] at k;rw [e12];exact h.f12 k
 ·(try rw [zj hi14]);(try rw [zj hi15]);by_cases hx:i=13
  ·rwa [if_pos hx] at e13
  ·rw [if_neg hx] at e13;rw [zj hx] at k;rw [e13];exact h.f13 k
theorem WJ.st14 (h:WJ w0 p v xv proc c vs an xo co R L W x11 x12 x13 x14 x15 x16 x17 x10 x18 x19 x20 x8 x9 x7) (k9:L.getD 9 false=true) (k11:L.getD 11 false=true) (k14:L.getD 14 false=false) :
  ∃ b,x8=.pointer (some ⟨b,0,none⟩)/\x19=zca an/\W.heap[b]?=some (.cells #[.int .i64 0,.int .i64 0,.string ⟨#[]⟩] 59 (0,0))/\WJ w0 p v xv proc c vs an xo co R (L.setIfInBounds 14 true) (W.setB b (.cells #[.int .i64 an.code,.int .i64 an.n,.string an.text] 59 (0,0))) x11 x12 x13 x14 x15 x16 x17 x10 x18 x19 x20 x8 x9 x7:=by
 obtain ⟨b,e8,hb,h1|h1⟩:=h.f11 k11
 case inr=>rw [h1.1] at k14;cases k14
 have hB:=h1.2
 have hz:=zb hB
 have kk:=fun {j:Nat} (hj : 14 ≠ j) (k:(L.setIfInBounds 14 true).getD j false=true)=>(zj (L:=L) hj) ▸ k
 have N:∀ k,b ≠ k->(W.setB b (.cells #[.int .i64 an.code,.int .i64 an.n,.string an.text] 59 (0,0))).heap[k]?=W.heap[k]?:=fun k hk=>World.setB_get _ _ _ _ (Ne.symm hk)
 refine ⟨b,e8,h.f9 k9,hB,⟨by rw [Array.size_setIfInBounds];exact h.sz,fun _=>by rw [zj (by decide)];exact k11,fun k=>by rw [zj (by decide)];exact h.c15 (kk (by decide) k),h.up,h.pz,zp h.bel (by omega) _,(N _ (by have:=h.pz;omega)).trans h.X,(N _ (by have:=h.pz;omega)).trans h.C,
  fun k=>h.f0 (kk (by decide) k),fun k=>h.f1 (kk (by decide) k),fun k=>zcM (h.f2 (kk (by decide) k)) hB _,fun k=>h.f3 (kk (by decide) k),fun k=>h.f4 (kk (by decide) k),fun k=>h.f5 (kk (by decide) k),fun k=>?_,fun k=>?_,fun k=>h.f8 (kk (by decide) k),fun k=>h.f9 (kk (by decide) k),fun k=>?_,fun k=>?_,fun k=>?_,fun k=>.inr trivial⟩⟩
 ·obtain ⟨c0,c1,c2,e,hm⟩:=h.f6 (kk (by decide) k)
  exact ⟨c0,c1,c2,e,h.up.ans hm hB _⟩
 ·obtain ⟨c0,c1,c2,e,hm⟩:=h.f7 (kk (by decide) k)
  exact ⟨c0,c1,c2,e,h.up.ans hm hB _⟩
 ·obtain ⟨c,d,e,hm⟩:=h.f10 (kk (by decide) k)
  exact ⟨c,d,e,h.up.ans hm hB _⟩
 ·exact ⟨b,e8,hb,.inr ⟨zaN (by rw [h.sz];decide),World.setB_at _ _ _ hz⟩⟩
 ·obtain ⟨b',e,h3,h6⟩:=h.f12 (kk (by decide) k)
  have hne:b ≠ b':=by
   rintro rfl
   rcases h6 with h6|⟨_,c,d,h6,_⟩
   ·have h7:=h6.2;rw [hB] at h7;cases h7
   ·rw [hB] at h6;cases h6
  refine ⟨b',e,h3,?_⟩
  rw [zj (by decide),N b' hne]
  rcases h6 with h6|⟨h7,c,d,h6,h8⟩
  ·exact .inl h6
  ·exact .inr ⟨h7,c,d,h6,h.up.ans h8 hB _⟩
theorem WJ.st15 (h:WJ w0 p v xv proc c vs an xo co R L W x11 x12 x13 x14 x15 x16 x17 x10 x18 x19 x20 x8 x9 x7) (k10:L.getD 10 false=true) (k12:L.getD 12 false=true) (k15:L.getD 15 false=false) :
  ∃ b u0 u1,x9=.pointer (some ⟨b,0,none⟩)/\x20=.agg #[u0,u1]/\((∃ a n k,u0=.slice a n k)/\∃ a n k,u1=.slice a n k)/\W.heap[b]?=some (.cells #[.slice none 0 0,.slice none 0 0] 27 (0,0))/\WJ w0 p v xv proc c vs an xo co R (L.setIfInBounds 15 true) (W.setB b (.cells #[u0,u1] 27 (0,0))) x11 x12 x13 x14 x15 x16 x17 x10 x18 x19 x20 x8 x9 x7:=by
 obtain ⟨b,e9,hb,h1|h1⟩:=h.f12 k12
 case inr=>rw [h1.1] at k15;cases k15
 have hB:=h1.2
 have hz:=zb hB
 obtain ⟨u0,u1,e20,q⟩:=h.f10 k10
 have kk:=fun {j:Nat} (hj : 15 ≠ j) (k:(L.setIfInBounds 15 true).getD j false=true)=>(zj (L:=L) hj) ▸ k
 have N:∀ k,b ≠ k->(W.setB b (.cells #[u0,u1] 27 (0,0))).heap[k]?=W.heap[k]?:=fun k hk=>World.setB_get _ _ _ _ (Ne.symm hk)
 refine ⟨b,u0,u1,e9,e20,h.up.shp q,hB,⟨by rw [Array.size_setIfInBounds];exact h.sz,fun k=>by rw [zj (by decide)];exact h.c14 (kk (by decide) k),fun _=>by rw [zj (by decide)];exact k12,h.up,h.pz,zp h.bel (by omega) _,(N _ (by have:=h.pz;omega)).trans h.X,(N _ (by have:=h.pz;omega)).trans h.C,
  fun k=>h.f0 (kk (by decide) k),fun k=>h.f1 (kk (by decide) k),fun k=>zaz (zh _) (h.f2 (kk (by decide) k)) hB zbA _,fun k=>h.f3 (kk (by decide) k),fun k=>h.f4 (kk (by decide) k),fun k=>h.f5 (kk (by decide) k),fun k=>?_,fun k=>?_,fun k=>h.f8 (kk (by decide) k),fun k=>h.f9 (kk (by decide) k),fun k=>?_,fun k=>?_,fun k=>?_,fun k=>.inr trivial⟩⟩
 ·obtain ⟨c0,c1,c2,e,hm⟩:=h.f6 (kk (by decide) k)
  exact ⟨c0,c1,c2,e,h.up.tch hm hB _⟩
 ·obtain ⟨c0,c1,c2,e,hm⟩:=h.f7 (kk (by decide) k)
  exact ⟨c0,c1,c2,e,h.up.tch hm hB _⟩
 ·obtain ⟨c,d,e,hm⟩:=h.f10 (kk (by decide) k)
  exact ⟨c,d,e,h.up.tch hm hB _⟩
 ·obtain ⟨b',e,h3,h6⟩:=h.f11 (kk (by decide) k)
  have hne:b ≠ b':=by
   rintro rfl
   rcases h6 with h6|h6<;>(have h7:=h6.2;rw [hB] at h7;cases h7)
  refine ⟨b',e,h3,?_⟩
  rw [zj (by decide),N b' hne]
  exact h6
 ·exact ⟨b,e9,hb,.inr ⟨zaN (by rw [h.sz];decide),_,_,World.setB_at _ _ _ hz,h.up.tch q hB _⟩⟩
end
end Go.Proofs.YtncnbihlngapbaaGreat
