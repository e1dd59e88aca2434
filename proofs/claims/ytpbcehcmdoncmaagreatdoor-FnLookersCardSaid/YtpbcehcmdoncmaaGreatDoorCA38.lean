/- Texts of this claim, merged: the walks and what they stand on. Each condition stands in its theorem. -/
import Derived.Test.YtpbcehcmdoncmaaGreatDoorCA37
set_option linter.unusedVariables false
set_option linter.unusedSimpArgs false
set_option maxRecDepth 100000
set_option maxHeartbeats 8000000
namespace Go.Proofs.YtpbcehcmdoncmaaGreatDoor
open Go.ChangeShapes Go.WideShapes Go.ChangeAt Go.RowKit
theorem zf7 (cs:List Value) (d:TouchD) (cs':List Value) (e:TouchD) (w:World) (hs:zeT.rd w cs d) (hs':zeT.rd w cs' e) :
  Calls Tryz.prog 10 #[.agg cs.toArray,.agg cs'.toArray] w fun x w'=>x=.returned (.bool (!zht d e))/\Below w.heap.size w w':=by
 have HU:=Hd hs
 have HV:=Hd hs'
 obtain ⟨s0,s1,rfl,h0,h1⟩:=hs
 obtain ⟨t0,t1,rfl,g0,g1⟩:=hs'
 obtain ⟨a0,c0,rfl⟩:=vSlice.form h0
 obtain ⟨a1,c1,rfl⟩:=vSlice.form h1
 obtain ⟨a2,c2,rfl⟩:=vSlice.form g0
 obtain ⟨a3,c3,rfl⟩:=vSlice.form g1
 clear h0 h1 g0 g1
 go_enter Tryz.func10,Tryz.ntmps10
 go_wp2_with fail
 (go_at_call 22;refine (zjR _ d _ e _ (View.grow _ HU.out (Grew.below (by repeat (first|with_reducible exact Below.refl _ _|with_reducible apply Below.ofAlloc)))) (View.grow _ HV.out (Grew.below (by repeat (first|with_reducible exact Below.refl _ _|with_reducible apply Below.ofAlloc))))).mono ?_;rintro e w' ⟨rfl,hb⟩;obtain ⟨X,rfl⟩:=hb.ext;clear hb)
 go_wp2
 go_ret
 exact ⟨rfl,(by repeat (first|with_reducible exact Below.refl _ _|with_reducible apply Below.ofExt|with_reducible apply Below.ofAlloc))⟩
theorem zgS (k:Int) (s:ByteArray) (w:World):Calls Tryz.prog 7 #[.int .i64 k,.string s] w fun e w'=>e=.returned (zaC ⟨k,s,⟨#[]⟩,0,0,⟨#[]⟩⟩)/\Below w.heap.size w w':=by
 unfold zaC
 dsimp only
 go_enter Tryz.func7,Tryz.ntmps7
 go_wp2
 refine bodyPost_ret (by simp [results,Tryz.results7,go_sem];rfl) rfl ?_
 exact ⟨rfl,(by repeat (first|with_reducible exact Below.refl _ _|with_reducible apply Below.ofAlloc))⟩
def zfW:List CallD:=[⟨5,⟨#[]⟩,⟨#[]⟩,0,0,⟨#[]⟩⟩,⟨6,⟨#[120]⟩,⟨#[]⟩,0,5,⟨#[]⟩⟩,⟨15,⟨#[]⟩,⟨#[]⟩,0,0,⟨#[]⟩⟩,⟨21,⟨#[]⟩,⟨#[]⟩,1,0,⟨#[]⟩⟩]
structure LookC (c:CallD):Prop where
 ro:(K.doCall 1 c).RO
 ok:c.ok
 a:zbo c.a
 b:zbo c.b
theorem zgQ:∀ c ∈ zfW,LookC c:=by
 intro c hc
 simp only [zfW,List.mem_cons,List.not_mem_nil,or_false] at hc
 rcases hc with rfl|rfl|rfl|rfl
 ·exact ⟨ro_names _ _ rfl,⟨by decide,by decide,by decide⟩,⟨by decide,by decide⟩,⟨by decide,by decide⟩⟩
 ·exact ⟨ro_read _ _ rfl,⟨by decide,by decide,by decide⟩,⟨by decide,by decide⟩,⟨by decide,by decide⟩⟩
 ·exact ⟨ro_kids _ _ rfl,⟨by decide,by decide,by decide⟩,⟨by decide,by decide⟩,⟨by decide,by decide⟩⟩
 ·exact ⟨ro_load _ _ rfl,⟨by decide,by decide,by decide⟩,⟨by decide,by decide⟩,⟨by decide,by decide⟩⟩
theorem clash_ro (r r':List ByteArray):zht ⟨r,[]⟩ ⟨r',[]⟩=false:=by
 have hn:∀ xs:List ByteArray,zaO xs []=false:=fun xs=>by
  unfold zaO
  rw [Bool.eq_false_iff]
  intro h
  rw [List.any_eq_true] at h
  obtain ⟨x,_,hx⟩:=h
  simp at hx
 unfold zht
 show (zaO [] r' || (zaO [] [] || zaO r []))=false
 rw [hn r,hn []]
 rfl
theorem zjf {w:World} {v1 v2:Value} {r s:List ByteArray} (h1:RdL zv w v1 r) (h2:RdL zv w v2 s) (z1:∀ x ∈ r,x.size<=1048700) (z2:∀ x ∈ s,x.size<=1048700):zeT.rd w [v1,v2] ⟨r,s⟩ :=
 ⟨_,_,rfl,zhU (R:=zv) rfl rfl (by decide) h1 (fun x hx=>Nat.le_trans (z1 x hx) (by decide)),zhU (R:=zv) rfl rfl (by decide) h2 (fun x hx=>Nat.le_trans (z2 x hx) (by decide))⟩
theorem StoreN.touch {k:Nat} {cs:List CellD} (h:StoreN k cs) (hk:k+1<=60) {proc:Int} {c:CallD} (hp:zbo proc) (ha:zbo c.a):(∀ x ∈ ((K.doCall proc c).run ⟨cs,[],[]⟩).2.rd,x.size<=1048700)/\∀ x ∈ ((K.doCall proc c).run ⟨cs,[],[]⟩).2.wr,x.size<=1048700:=by
 have h1:Good (60 - (k+1)+1) ⟨cs,[],[]⟩:=by rw [show 60 - (k+1)+1=60 - k by omega];exact h.1
 have h2:=(h1.step hp ha).touch
 exact ⟨h2.1.2,h2.2.2⟩
theorem zkA (j:Nat) (h:j<4):∃ c ∈ zfW,([.int .i64 5,.string ⟨#[]⟩,.string ⟨#[]⟩,.int .i64 0,.int .i64 0,.string ⟨#[]⟩,.int .i64 6,.string ⟨#[120]⟩,.string ⟨#[]⟩,.int .i64 0,.int .i64 5,.string ⟨#[]⟩,.int .i64 15,.string ⟨#[]⟩,.string ⟨#[]⟩,.int .i64 0,.int .i64 0,.string ⟨#[]⟩,.int .i64 21,.string ⟨#[]⟩,.string ⟨#[]⟩,.int .i64 1,.int .i64 0,.string ⟨#[]⟩]:List Value)[j*6]?=some (.int .i64 c.kind)/\([.int .i64 5,.string ⟨#[]⟩,.string ⟨#[]⟩,.int .i64 0,.int .i64 0,.string ⟨#[]⟩,.int .i64 6,.string ⟨#[120]⟩,.string ⟨#[]⟩,.int .i64 0,.int .i64 5,.string ⟨#[]⟩,.int .i64 15,.string ⟨#[]⟩,.string ⟨#[]⟩,.int .i64 0,.int .i64 0,.string ⟨#[]⟩,.int .i64 21,.string ⟨#[]⟩,.string ⟨#[]⟩,.int .i64 1,.int .i64 0,.string ⟨#[]⟩]:List Value)[j*6+1]?=some (.string c.name)/\([.int .i64 5,.string ⟨#[]⟩,.string ⟨#[]⟩,.int .i64 0,.int .i64 0,.string ⟨#[]⟩,.int .i64 6,.string ⟨#[120]⟩,.string ⟨#[]⟩,.int .i64 0,.int .i64 5,.string ⟨#[]⟩,.int .i64 15,.string ⟨#[]⟩,.string ⟨#[]⟩,.int .i64 0,.int .i64 0,.string ⟨#[]⟩,.int .i64 21,.string ⟨#[]⟩,.string ⟨#[]⟩,.int .i64 1,.int .i64 0,.string ⟨#[]⟩]:List Value)[j*6+2]?=some (.string c.to)/\([.int .i64 5,.string ⟨#[]⟩,.string ⟨#[]⟩,.int .i64 0,.int .i64 0,.string ⟨#[]⟩,.int .i64 6,.string ⟨#[120]⟩,.string ⟨#[]⟩,.int .i64 0,.int .i64 5,.string ⟨#[]⟩,.int .i64 15,.string ⟨#[]⟩,.string ⟨#[]⟩,.int .i64 0,.int .i64 0,.string ⟨#[]⟩,.int .i64 21,.string ⟨#[]⟩,.string ⟨#[]⟩,.int .i64 1,.int .i64 0,.string ⟨#[]⟩]:List Value)[j*6+3]?=some (.int .i64 c.a)/\([.int .i64 5,.string ⟨#[]⟩,.string ⟨#[]⟩,.int .i64 0,.int .i64 0,.string ⟨#[]⟩,.int .i64 6,.string ⟨#[120]⟩,.string ⟨#[]⟩,.int .i64 0,.int .i64 5,.string ⟨#[]⟩,.int .i64 15,.string ⟨#[]⟩,.string ⟨#[]⟩,.int .i64 0,.int .i64 0,.string ⟨#[]⟩,.int .i64 21,.string ⟨#[]⟩,.string ⟨#[]⟩,.int .i64 1,.int .i64 0,.string ⟨#[]⟩]:List Value)[j*6+4]?=some (.int .i64 c.b)/\([.int .i64 5,.string ⟨#[]⟩,.string ⟨#[]⟩,.int .i64 0,.int .i64 0,.string ⟨#[]⟩,.int .i64 6,.string ⟨#[120]⟩,.string ⟨#[]⟩,.int .i64 0,.int .i64 5,.string ⟨#[]⟩,.int .i64 15,.string ⟨#[]⟩,.string ⟨#[]⟩,.int .i64 0,.int .i64 0,.string ⟨#[]⟩,.int .i64 21,.string ⟨#[]⟩,.string ⟨#[]⟩,.int .i64 1,.int .i64 0,.string ⟨#[]⟩]:List Value)[j*6+5]?=some (.string c.text):=by
 have:j=0 ∨ j=1 ∨ j=2 ∨ j=3:=by omega
 rcases this with rfl|rfl|rfl|rfl
 ·exact ⟨_,.head _,rfl,rfl,rfl,rfl,rfl,rfl⟩
 ·exact ⟨_,.tail _ (.head _),rfl,rfl,rfl,rfl,rfl,rfl⟩
 ·exact ⟨_,.tail _ (.tail _ (.head _)),rfl,rfl,rfl,rfl,rfl,rfl⟩
 ·exact ⟨_,.tail _ (.tail _ (.tail _ (.head _))),rfl,rfl,rfl,rfl,rfl,rfl⟩
theorem zh3 (cs:List CellD) (k:Nat) (hst:StoreN k cs) (hk:k+1<=60) (c:CallD) (h:LookC c) (v:Value) (w:World) (hg:Glob w) (hr:RdL zu w v cs) :
  Calls Tryz.prog 8 #[v,.int .i64 1,zaC c] w fun e w'=>∃ v0 a v1 v2 r,e=.returned (.tuple #[v0,zcF a,.agg #[v1,v2]])/\zeT.rd w' [v1,v2] ⟨r,[]⟩/\0<r.length/\Below w.heap.size w w':=by
 have hp:zbo 1:=⟨by decide,by decide⟩
 refine (zf6 v cs 1 (by decide) (by decide) c h.ok h.a.1 h.a.2 h.b.1 h.b.2 w hg hr (Nat.le_trans (Good.len hst.1) (by decide)) (hst.fits hk hp h.a)).mono ?_
 rintro e w' ⟨v0,v1,v2,rfl,o1,o2,_,hb⟩
 have hz:=hst.touch hk (c:=c) hp h.a
 have hw:=(Mp.ro_run _ ⟨cs,[],[]⟩ h.ro).1
 rw [hw] at o2 hz
 exact ⟨v0,_,v1,v2,_,rfl,zjf o1.rd o2.rd hz.1 hz.2,zjX 1 c cs,hb⟩
theorem zkw (v:Value) (w:World) (hg:Glob w) (hr:RdL zu w v bootC) :
  Calls Tryz.prog 8 #[v,.int .i64 1,zaC zjL] w fun e w'=>∃ v0 a v1 v2 t,e=.returned (.tuple #[v0,zcF a,.agg #[v1,v2]])/\zeT.rd w' [v1,v2] t/\zht t t=true/\Below w.heap.size w w':=by
 have hp:zbo 1:=⟨by decide,by decide⟩
 have ha:zbo zjL.a:=⟨by decide,by decide⟩
 refine (zf6 v bootC 1 (by decide) (by decide) zjL ⟨by decide,by decide,by decide⟩ ha.1 ha.2 (by decide) (by decide) w hg hr (Nat.le_trans (Good.len (m:=⟨bootC,[],[]⟩) zcz.1) (by decide)) (zcz.fits (by decide) hp ha)).mono ?_
 rintro e w' ⟨v0,v1,v2,rfl,o1,o2,_,hb⟩
 have hz:=zcz.touch (by decide) (c:=zjL) hp ha
 exact ⟨v0,_,v1,v2,_,rfl,zjf o1.rd o2.rd hz.1 hz.2,zjK,hb⟩
theorem ziO {w:World} (a b:Obj) {n:Nat} (h:n<w.heap.size):((w.alloc a).alloc b).heap[n]?=w.heap[n]? :=
 (Below.heap_alloc _ _ _ (by simp;omega)).trans (Below.heap_alloc _ _ _ h)
theorem law_FnLookers (v:Value) (bs:List UInt8) (W:World) (hgl:Glob W) (hs:Sl W v bs.length (zG bs)) (hb:∀ b,v.ownBlock=some b->b<W.heap.size):Calls Tryz.prog 3 #[v] W (Yes W):=by
 have HS:=Hd hs
 have HB:=Hd hb
 have HG:=Hd hgl
 unfold Yes
 by_cases hbig : 1048576<bs.length
 ·go_enter Tryz.func3,Tryz.ntmps3
  go_wp2_with fail
  (go_at_call 4;refine (zjj v bs.length _ _ hs).mono ?_;rintro e w' ⟨rfl,rfl⟩)
  go_wp2
  go_ret
  exact ⟨rfl,(by repeat (with_reducible exact Below.refl _ _))⟩
 clear hs hb hgl
 go_enter Tryz.func3,Tryz.ntmps3
 go_wp2_with fail
 (go_at_call 4;refine (zjj v bs.length _ _ HS.out).mono ?_;rintro e w' ⟨rfl,rfl⟩)
 go_wp2_with fail
 (go_at_call 5;refine (zfN v bs _ HS.out (by omega) HB.out).mono ?_;rintro e w1 ⟨u,cs,n,c,rfl,hu,hst,hn,hcc,hb1⟩)
 obtain ⟨ao,co,rfl⟩:=hu.form
 obtain ⟨kd,nm,tn,ca,cb,tx⟩:=c
 unfold zaC
 dsimp only
 have HU:=Hd hu
 have HST:=Hd hst
 have HB1:Hid (Below W.heap.size W w1):=hb1
 have hz1:=hb1.size
 clear hu hst hn hcc hb1
 go_wp2_with fail
 (go_at_call 6;refine (zfM v bs _ (HS.out.below (Below.then HB1.out (by repeat (first|with_reducible exact Below.refl _ _|with_reducible apply Below.ofAlloc)))) (by omega) (fun b hb=>by have:=HB.out b hb;simp;omega)).mono ?_;rintro e w2 ⟨pv,rfl,ps,hop,hlp,hpp,hb2⟩)
 obtain ⟨ap,cp,hpv⟩:=hop.rd.form
 subst hpv
 obtain ⟨ao2,cap2,hs2,_,_,_,h4⟩:=hop.rd.shapeI
 obtain ⟨bi,oi,hao,hbi,hci⟩:=h4 (fun e=>by rw [e] at hlp;simp at hlp)
 injection hs2 with e1 e2 e3
 subst e1
 subst e3
 clear e2
 subst hao
 have q0:=hci 0 (by omega)
 have q1:=hci 1 (by omega)
 have r0:=hpp _ (List.getElem_mem (by omega : 0<ps.length))
 have r1:=hpp _ (List.getElem_mem (by omega : 1<ps.length))
 rw [hlp]
 generalize ps[0]=x0 at q0 r0
 generalize ps[1]=x1 at q1 r1
 simp only [Nat.add_zero] at q0
 have HU2:=Hd (HU.out.below (Below.then (by repeat (first|with_reducible exact Below.refl _ _|with_reducible apply Below.ofAlloc)) hb2))
 have HB2:Hid (Below W.heap.size W w2):=Below.then HB1.out (Below.then (by repeat (first|with_reducible exact Below.refl _ _|with_reducible apply Below.ofAlloc)) hb2)
 clear h4 hci hop hpp hb2 HU HB1 hlp
 obtain ⟨j0,hj0⟩ : ∃ j:Nat,x0 % 4=(j:Int):=⟨(x0 % 4).toNat,by omega⟩
 obtain ⟨j1,hj1⟩ : ∃ j:Nat,x1 % 4=(j:Int):=⟨(x1 % 4).toNat,by omega⟩
 go_wp2_with fail
 (go_at_call 7;refine (zgS 5 ⟨#[]⟩ _).mono ?_;rintro e w3 ⟨rfl,hb3⟩)
 unfold zaC
 dsimp only
 have HU3:=Hd (HU2.out.below hb3)
 have HB3:Hid (Below W.heap.size W w3):=Below.then HB2.out hb3
 have q30:=(Grew.below hb3).cell q0
 have q31:=(Grew.below hb3).cell q1
 have l3:=Nat.lt_of_lt_of_le hbi hb3.size
 clear hb3 q0 q1 HU2 HB2
 obtain ⟨c0,hm0,y0,y1,y2,y3,y4,y5⟩:=zkA j0 (by omega)
 have lc0:=zgQ c0 hm0
 have D0:=Hd (fun v w hg hr=>zh3 cs 13 HST.out (by decide) c0 lc0 v w hg hr)
 obtain ⟨k0,n0,t0,a0,b0,x0⟩:=c0
 unfold zaC at D0
 dsimp only at y0 y1 y2 y3 y4 y5 D0
 clear lc0 hm0
 go_wp2_with fail
 (go_at_call 8;refine (D0.out _ _ (HG.out.below (Below.then HB3.out (by repeat (first|with_reducible exact Below.refl _ _|with_reducible apply Below.ofAlloc)))) (HU3.out.alloc _)).mono ?_;rintro e w4 ⟨u0,⟨c4,n4,t4⟩,v1,v2,r4,rfl,ht4,hl4,hb4⟩)
 unfold zcF
 dsimp only
 have hq4:=ht4
 obtain ⟨_,_,hh,g1,g2⟩:=hq4
 cases hh
 obtain ⟨a1,d1,rfl⟩:=vSlice.form g1
 obtain ⟨a2,d2,rfl⟩:=vSlice.form g2
 have HT4:=Hd ht4
 have HU4:=Hd ((HU3.out.alloc _).below hb4)
 have HB4:Hid (Below W.heap.size W w4):=Below.then HB3.out (Below.then (by repeat (first|with_reducible exact Below.refl _ _|with_reducible apply Below.ofAlloc)) hb4)
 have q41:=(Grew.below (Below.then ((by repeat (first|with_reducible exact Below.refl _ _|with_reducible apply Below.ofAlloc)):Below w3.heap.size w3 (w3.alloc (.cells #[.int .i64 5,.string ⟨#[]⟩,.string ⟨#[]⟩,.int .i64 0,.int .i64 0,.string ⟨#[]⟩,.int .i64 6,.string ⟨#[120]⟩,.string ⟨#[]⟩,.int .i64 0,.int .i64 5,.string ⟨#[]⟩,.int .i64 15,.string ⟨#[]⟩,.string ⟨#[]⟩,.int .i64 0,.int .i64 0,.string ⟨#[]⟩,.int .i64 21,.string ⟨#[]⟩,.string ⟨#[]⟩,.int .i64 1,.int .i64 0,.string ⟨#[]⟩] 26))) hb4)).cell q31
 have K4:=(hb4.block w3.heap.size (by simp)).trans (World.alloc_new w3 (.cells #[.int .i64 5,.string ⟨#[]⟩,.string ⟨#[]⟩,.int .i64 0,.int .i64 0,.string ⟨#[]⟩,.int .i64 6,.string ⟨#[120]⟩,.string ⟨#[]⟩,.int .i64 0,.int .i64 5,.string ⟨#[]⟩,.int .i64 15,.string ⟨#[]⟩,.string ⟨#[]⟩,.int .i64 0,.int .i64 0,.string ⟨#[]⟩,.int .i64 21,.string ⟨#[]⟩,.string ⟨#[]⟩,.int .i64 1,.int .i64 0,.string ⟨#[]⟩] 26))
 have l4:=Nat.lt_of_lt_of_le l3 (show w3.heap.size<=w4.heap.size by have:=hb4.size;simp at this;omega)
 have lk4:=za K4
 clear g1 g2 ht4 hb4 q30 q31 y0 y1 y2 y3 y4 y5 D0 HU3 HB3
 obtain ⟨c1,hm1,y0,y1,y2,y3,y4,y5⟩:=zkA j1 (by omega)
 have lc1:=zgQ c1 hm1
 have D1:=Hd (fun v w hg hr=>zh3 cs 13 HST.out (by decide) c1 lc1 v w hg hr)
 obtain ⟨k1,n1,t1,a1',b1',x1'⟩:=c1
 unfold zaC at D1
 dsimp only at y0 y1 y2 y3 y4 y5 D1
 replace y0:w4.cell? ⟨w3.heap.size,j1*6,none⟩ = _:=(zd K4).trans ((by simp : _ = _).trans y0)
 replace y1:w4.cell? ⟨w3.heap.size,j1*6+1,none⟩ = _:=(zd K4).trans ((by simp : _ = _).trans y1)
 replace y2:w4.cell? ⟨w3.heap.size,j1*6+2,none⟩ = _:=(zd K4).trans ((by simp : _ = _).trans y2)
 replace y3:w4.cell? ⟨w3.heap.size,j1*6+3,none⟩ = _:=(zd K4).trans ((by simp : _ = _).trans y3)
 replace y4:w4.cell? ⟨w3.heap.size,j1*6+4,none⟩ = _:=(zd K4).trans ((by simp : _ = _).trans y4)
 replace y5:w4.cell? ⟨w3.heap.size,j1*6+5,none⟩ = _:=(zd K4).trans ((by simp : _ = _).trans y5)
 clear lc1 hm1 K4
 go_wp2_with fail
 (go_at_call 8;refine (D1.out _ _ (HG.out.below (Below.then HB4.out (by repeat (first|with_reducible exact Below.refl _ _|with_reducible apply Below.ofAlloc)))) ((HU4.out.alloc _).alloc _)).mono ?_;rintro e w5 ⟨u0',⟨c5,n5,t5⟩,v1',v2',r5,rfl,ht5,hl5,hb5⟩)
 unfold zcF
 dsimp only
 have hq5:=ht5
 obtain ⟨_,_,hh,g1,g2⟩:=hq5
 cases hh
 obtain ⟨a3,d3,rfl⟩:=vSlice.form g1
 obtain ⟨a4,d4,rfl⟩:=vSlice.form g2
 have HT5:=Hd ht5
 have X5:=(hb5.block (w4.heap.size+1) (by simp)).trans (zcb w4 _ (.cells #[.slice a1 r4.length d1,.slice a2 0 d2] 37) w4.heap.size rfl).2
 have HT45:=Hd (View.grow _ HT4.out (Grew.below (Below.then (by repeat (first|with_reducible exact Below.refl _ _|with_reducible apply Below.ofAlloc)) hb5)))
 have HB5:Hid (Below W.heap.size W w5):=Below.then HB4.out (Below.then (by repeat (first|with_reducible exact Below.refl _ _|with_reducible apply Below.ofAlloc)) hb5)
 replace X5:=Hd X5
 clear g1 g2 ht5 hb5 q41 y0 y1 y2 y3 y4 y5 D1 HU4 HB4 HT4 l4 lk4
 go_wp2_with fail
 (go_at_call 9;refine (zkO _ (HG.out.below (Below.then HB5.out (by repeat (first|with_reducible exact Below.refl _ _|with_reducible apply Below.ofAlloc))))).mono ?_;rintro e w6 ⟨v6,rfl,hb6,hbb6⟩)
 obtain ⟨a6,d6,rfl⟩:=hb6.form
 have HU6:=Hd hb6
 have HT46:=Hd (View.grow _ HT45.out (Grew.below (Below.then (by repeat (first|with_reducible exact Below.refl _ _|with_reducible apply Below.ofAlloc)) hbb6)))
 have HT56:=Hd (View.grow _ HT5.out (Grew.below (Below.then (by repeat (first|with_reducible exact Below.refl _ _|with_reducible apply Below.ofAlloc)) hbb6)))
 have HB6:Hid (Below W.heap.size W w6):=Below.then HB5.out (Below.then (by repeat (first|with_reducible exact Below.refl _ _|with_reducible apply Below.ofAlloc)) hbb6)
 have X46:=Hd ((hbb6.block _ (by have:=za X5.out;simp;omega)).trans ((ziO _ _ (za X5.out)).trans X5.out))
 have X56:=Hd ((hbb6.block (w5.heap.size+1) (by simp)).trans (zcb w5 _ (.cells #[.slice a3 r5.length d3,.slice a4 0 d4] 37) w5.heap.size rfl).2)
 clear hb6 hbb6 HT45 HT5 HB5 X5
 go_wp2_with fail
 (go_at_call 7;refine (zgS 1 ⟨#[120]⟩ _).mono ?_;rintro e w7 ⟨rfl,hb7⟩)
 have HU7:=Hd (HU6.out.below hb7)
 have HT47:=Hd (View.grow _ HT46.out (Grew.below hb7))
 have HT57:=Hd (View.grow _ HT56.out (Grew.below hb7))
 have HB7:Hid (Below W.heap.size W w7):=Below.then HB6.out hb7
 have X47:=Hd ((hb7.block _ (za X46.out)).trans X46.out)
 have X57:=Hd ((hb7.block _ (za X56.out)).trans X56.out)
 clear hb7 HU6 HT46 HT56 HB6 X46 X56
 have D2:=Hd zkw
 unfold zjL at D2
 unfold zaC at D2 ⊢
 dsimp only at D2 ⊢
 go_wp2_with fail
 (go_at_call 8;refine (D2.out _ _ (HG.out.below HB7.out) HU7.out).mono ?_;rintro e w8 ⟨u8,⟨c8,n8,t8⟩,v1',v2',tw,rfl,ht8,hc8,hb8⟩)
 unfold zcF
 dsimp only
 have hq8:=ht8
 obtain ⟨_,_,hh,g1,g2⟩:=hq8
 cases hh
 obtain ⟨a7,d7,rfl⟩:=vSlice.form g1
 obtain ⟨a8,d8,rfl⟩:=vSlice.form g2
 have HT8:=Hd ht8
 have HT48:=Hd (View.grow _ HT47.out (Grew.below hb8))
 have HT58:=Hd (View.grow _ HT57.out (Grew.below hb8))
 have HB8:Hid (Below W.heap.size W w8):=Below.then HB7.out hb8
 have X48:=(hb8.block _ (za X47.out)).trans X47.out
 have X58:=(hb8.block _ (za X57.out)).trans X57.out
 clear g1 g2 ht8 hb8 HU7 HT47 HT57 HB7 X47 X57 D2
 have z48:=za X48
 have z58:=za X58
 have p0:w8.cell? ⟨w4.heap.size+1,0,none⟩=some (.slice a1 r4.length d1):=(zd (i:=0) X48).trans rfl
 have p1:w8.cell? ⟨w4.heap.size+1,1,none⟩=some (.slice a2 0 d2):=(zd (i:=1) X48).trans rfl
 have p2:w8.cell? ⟨w5.heap.size+1,0,none⟩=some (.slice a3 r5.length d3):=(zd (i:=0) X58).trans rfl
 have p3:w8.cell? ⟨w5.heap.size+1,1,none⟩=some (.slice a4 0 d4):=(zd (i:=1) X58).trans rfl
 clear X48 X58
 have z48':w4.heap.size<w8.heap.size:=by omega
 have z58':w5.heap.size<w8.heap.size:=by omega
 have z48n:w4.heap.size ≠ w8.heap.size:=by omega
 have z58n:w5.heap.size ≠ w8.heap.size:=by omega
 go_wp2_with fail
 have hl4':(0:Int)<r4.length:=by omega
 (go_at_call 10;refine (zf7 [.slice a1 r4.length d1,.slice a2 0 d2] ⟨r4,[]⟩ [.slice a3 r5.length d3,.slice a4 0 d4] ⟨r5,[]⟩ _ (View.grow _ HT48.out (Grew.below (by repeat (first|with_reducible exact Below.refl _ _|with_reducible apply Below.ofAlloc)))) (View.grow _ HT58.out (Grew.below (by repeat (first|with_reducible exact Below.refl _ _|with_reducible apply Below.ofAlloc))))).mono ?_;rintro e w' ⟨rfl,hb⟩;obtain ⟨X,rfl⟩:=hb.ext;clear hb)
 rw [clash_ro]
 go_wp2_with fail
 (go_at_call 10;refine (zf7 [.slice a7 tw.reads.length d7,.slice a8 tw.writes.length d8] tw [.slice a7 tw.reads.length d7,.slice a8 tw.writes.length d8] tw _ (View.grow _ HT8.out (Grew.below (by repeat (first|with_reducible exact Below.refl _ _|with_reducible apply Below.ofExt|with_reducible apply Below.ofAlloc)))) (View.grow _ HT8.out (Grew.below (by repeat (first|with_reducible exact Below.refl _ _|with_reducible apply Below.ofExt|with_reducible apply Below.ofAlloc))))).mono ?_;rintro e w' ⟨rfl,hb⟩;obtain ⟨X,rfl⟩:=hb.ext;clear hb)
 rw [hc8]
 go_wp2
 go_ret
 exact ⟨rfl,Below.then HB8.out (by repeat (first|with_reducible exact Below.refl _ _|with_reducible apply Below.ofExt|with_reducible apply Below.ofAlloc))⟩
end Go.Proofs.YtpbcehcmdoncmaaGreatDoor
