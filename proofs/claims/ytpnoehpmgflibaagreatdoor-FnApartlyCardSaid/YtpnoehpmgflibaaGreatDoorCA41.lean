/- Texts of this claim, merged: the walks and what they stand on. Each condition stands in its theorem. -/
import Derived.Test.YtpnoehpmgflibaaGreatDoorCA31
import Derived.Test.YtpnoehpmgflibaaGreatDoorCA40
set_option linter.unusedVariables false
set_option linter.unusedSimpArgs false
set_option maxRecDepth 100000
set_option maxHeartbeats 8000000
namespace Go.Proofs.YtpnoehpmgflibaaGreatDoor
open Go.ChangeShapes Go.WideShapes Go.ChangeAt Go.RowKit
theorem zgX (bs:List UInt8):bs.flatMap zde.row=zL bs:=by
 induction bs with
 | nil=>rfl
 | cons b bs ih=>rw [List.flatMap_cons,ih];rfl
theorem zk3 {w:World} {v:Value} {bs:List UInt8} (h:RdL zde w v bs):Sl w v bs.length (zL bs):=by
 unfold RdL at h
 rwa [zgX] at h
theorem Tryz.elemBytesA:Elem Tryz.prog 22 5 1 1:=Elem.of (.int .u8 0) Tryz.underlying22 (by kernel_rfl) rfl (by decide)
theorem zhx {k:Nat} {cs:List CellD} (hst:StoreN k cs) (hk:k+1<=60) {proc:Int} (hp:zby proc) {c:CallD} (hc:AnyCall c) {a:AnswerD} {m:MachD} (hr:(K.doCall proc c).run ⟨cs,[],[]⟩=(a,m)) (v:Value) (w:World) (h:RdL zu w v cs) :
  Calls Tryz.prog 22 #[v,.int .i64 proc,zaM c] w fun e w'=>∃ v0 v1 v2,e=.returned (.tuple #[v0,zdc a,.agg #[v1,v2]])/\RdL zu w' v0 m.cells/\zdf.rd w' [v1,v2] ⟨m.rd,m.wr⟩/\Below w.heap.size w w':=by
 have hz:=hst.touch hk (c:=c) hp hc.a
 refine (zgz v cs proc hp.1 hp.2 c hc.ok hc.a.1 hc.a.2 hc.b.1 hc.b.2 w h (hst.fits hk hp hc.a)).mono ?_
 rintro e w' ⟨v0,v1,v2,rfl,⟨u0,u1,u2,he,r0,r1,r2⟩,hb⟩
 cases he
 rw [hr] at r0 r1 r2 hz ⊢
 exact ⟨_,_,_,rfl,r0,zky r1 r2 hz.1 hz.2,hb⟩
theorem zhL {k:Nat} {cs:List CellD} (hst:StoreN k cs) (hk:k+1<=60) {proc:Int} (hp:zby proc) {c:CallD} (hc:AnyCall c) {a:AnswerD} {m:MachD} (hr:(K.doCall proc c).run ⟨cs,[],[]⟩=(a,m)) (v:Value) (w:World) (hg:Glob w) (h:RdL zu w v cs) :
  Calls Tryz.prog 7 #[v,.int .i64 proc,zaM c] w fun e w'=>∃ v0 v1 v2,e=.returned (.tuple #[v0,zdc a,.agg #[v1,v2]])/\RdL zu w' v0 m.cells/\zdf.rd w' [v1,v2] ⟨m.rd,m.wr⟩/\Below w.heap.size w w':=by
 have hz:=hst.touch hk (c:=c) hp hc.a
 refine (zjn v cs proc hp.1 hp.2 c hc.ok hc.a.1 hc.a.2 hc.b.1 hc.b.2 w hg h (Nat.le_trans (Good.len hst.1) (by decide)) (hst.fits hk hp hc.a)).mono ?_
 rintro e w' ⟨v0,v1,v2,rfl,r0,o1,o2,_,hb⟩
 rw [hr] at r0 o1 o2 hz ⊢
 exact ⟨_,_,_,rfl,r0,zky o1.rd o2.rd hz.1 hz.2,hb⟩
theorem rd_nilA {α : Type} (V:View α) {e:TypeId} (w:World):(vSlice V e).rd w [.slice none 0 0] [] :=
 ⟨none,0,[],rfl,Nat.le_refl _,Nat.zero_le _,fun _=>rfl,rfl,fun i hi=>absurd hi (by simp),fun h=>absurd rfl h⟩
theorem rd_oneA {w:World} {b:Nat} {s:ByteArray} {t:TypeId} (h:s.size<=maxLen) (hb:w.heap[b]?=some (.cells #[.string s] t (0,0))):(vSlice zkq 9).rd w [.slice (some ⟨b,0,none⟩) 1 1] [s] :=
 ⟨_,1,[[.string s]],rfl,Nat.le_refl _,by unfold maxLen;omega,(fun h=>by cases h),rfl,fun i hi hc=>by
  have:i=0:=by simp at hi;omega
  subst this
  exact ⟨rfl,h⟩,fun _=>⟨b,0,rfl,za hb,fun j u hj=>by
  rw [zb hb,Nat.zero_add]
  simpa using hj⟩⟩
theorem opqA {P:Program} {md:Region.Mode} {ops:Array Oper} {Q:Exit->Act->World->Prop} {fuel:Nat} {listed:Array Bool} {a:Act} {W:World} (S:World->Prop) (h:S W) (H:∀ W0,S W0->wpAny P md ops Q fuel listed a W0):wpAny P md ops Q fuel listed a W:=H W h
theorem zbK {w:World} {b:Nat} {t:TypeId} (hb:w.heap[b]?=some (.cells #[.string ⟨#[97]⟩] t (0,0))):zdf.rd w [.slice (some ⟨b,0,none⟩) 1 1,.slice none 0 0] ⟨[⟨#[97]⟩],[]⟩ :=
 ⟨_,_,rfl,rd_oneA (by decide) hb,rd_nilA _ _⟩
theorem zdw (r r':List ByteArray):zel ⟨r,[]⟩ ⟨r',[]⟩=false:=by
 have hn:∀ xs:List ByteArray,zaC xs []=false:=fun xs=>by
  unfold zaC
  rw [Bool.eq_false_iff]
  intro h
  rw [List.any_eq_true] at h
  obtain ⟨x,_,hx⟩:=h
  simp at hx
 unfold zel
 show (zaC [] r' || (zaC [] [] || zaC r []))=false
 rw [hn r,hn []]
 rfl
set_option maxHeartbeats 16000000 in
theorem law_FnApartly (v:Value) (bs:List UInt8) (W:World) (hgl:Glob W) (hs:Sl W v bs.length (zL bs)) (hb:∀ b,v.ownBlock=some b->b<W.heap.size):Calls Tryz.prog 4 #[v] W (Yes W):=by
 have HS:=Hd hs
 have HB:=Hd hb
 have HG:=Hd hgl
 unfold Yes
 by_cases hbig : 1048576<bs.length
 ·go_enter Tryz.func4,Tryz.ntmps4
  go_wp2_with fail
  (go_at_call 5;refine (zkD v bs.length _ _ hs).mono ?_;rintro e w' ⟨rfl,rfl⟩)
  go_wp2
  go_ret
  exact ⟨rfl,(by repeat (first|with_reducible exact Below.refl _ _|with_reducible apply Below.ofExt|with_reducible apply Below.ofAlloc|with_reducible apply Below.drew|with_reducible apply Below.ofDrewN|with_reducible assumption|(with_reducible refine Below.setCell ?_ (by first|exact Nat.le_refl _|(simp [go_sem];done)|(simp [go_sem];omega)) _)))⟩
 clear hs hb hgl
 go_enter Tryz.func4,Tryz.ntmps4
 go_wp2_with fail
 (go_at_call 5;refine (zkD v bs.length _ _ HS.out).mono ?_;rintro e w' ⟨rfl,rfl⟩)
 go_wp2_with fail
 (go_at_call 20;refine (zgy v bs _ HS.out (by omega) HB.out).mono ?_;rintro e w1 ⟨u,cs,n,⟨ck,cn,ct,ca,cb,cx⟩,rfl,hu,hst,hn,hcc,hb1⟩)
 obtain ⟨ao,co,rfl⟩:=hu.form
 unfold zaM
 dsimp only
 have HU1:=Hd hu
 have HST:=Hd hst
 have HCC:=Hd hcc
 have HP:Hid (zby n):=⟨by omega,by omega⟩
 have HB1:Hid (Below W.heap.size W w1):=hb1
 clear hu hst hn hcc hb1
 go_wp2_with (at_builtin;refine zA ?_)
 have hrb:RdL zde W v bs:=by unfold RdL;rw [zgX];exact HS.out
 refine zI rfl _ _ _ rfl Tryz.elemBytesA (OwnL.oneAt zde _ 5 _ rfl 5 _ (by simp)) rfl (hrb.below (Below.then HB1.out (by repeat (first|with_reducible exact Below.refl _ _|with_reducible apply Below.ofExt|with_reducible apply Below.ofAlloc|with_reducible apply Below.drew|with_reducible apply Below.ofDrewN|with_reducible assumption|(with_reducible refine Below.setCell ?_ (by first|exact Nat.le_refl _|(simp [go_sem];done)|(simp [go_sem];omega)) _))))) rfl (by simp only [List.length_singleton];omega) (by simp only [List.length_singleton];unfold maxLen;omega) (by simp) ?_
 intro v1 w2 hown1 hg1 hz1
 have hb2:=Below.appL (Below.ofAlloc (Below.refl _ _) _) hg1 (OwnL.oneAt zde (w1.alloc (.cells #[.int .i64 ck,.string cn,.string ct,.int .i64 ca,.int .i64 cb,.string cx] 26)) 5 _ rfl 5 _ (by simp))
 have HB:Hid (Below W.heap.size W w2):=Below.then HB1.out (Below.then (by repeat (first|with_reducible exact Below.refl _ _|with_reducible apply Below.ofExt|with_reducible apply Below.ofAlloc|with_reducible apply Below.drew|with_reducible apply Below.ofDrewN|with_reducible assumption|(with_reducible refine Below.setCell ?_ (by first|exact Nat.le_refl _|(simp [go_sem];done)|(simp [go_sem];omega)) _))) hb2)
 have Rs:=Hd ((HU1.out.alloc _).below hb2)
 have X5:=Hd ((hb2.block w1.heap.size (by simp)).trans (World.alloc_new w1 (.cells #[.int .i64 ck,.string cn,.string ct,.int .i64 ca,.int .i64 cb,.string cx] 26)))
 have hsl:=zk3 hown1.rd
 have hlt:=hown1.lt
 clear hrb hown1 hg1 hz1 hb2 HU1 HB1
 go_wp2_with fail
 (go_at_call 21;refine (zgx v1 ([5]++bs) _ hsl (by simp;omega) (fun b hb=>(hlt b hb).2)).mono ?_;rintro e w3 ⟨m0,q0,k0,m1,q1,k1,m2,q2,k2,n',⟨dk,dn,dt,da,db,dx⟩,rfl,hdc,hb3⟩)
 unfold zaM
 dsimp only
 have HDC:=Hd hdc
 clear hsl hlt hdc
 replace HB:=Hd (Below.then HB.out hb3)
 replace X5:=Hd ((hb3.block _ (za X5.out)).trans X5.out)
 replace Rs:=Hd (Rs.out.below hb3)
 clear hb3
 obtain ⟨⟨ac,an,ax⟩,m,hm⟩ : ∃ a m,(K.doCall n ⟨ck,cn,ct,ca,cb,cx⟩).run ⟨cs,[],[]⟩=(a,m):=⟨_,_,rfl⟩
 obtain ⟨⟨bc,bn,bx⟩,m',hm'⟩ : ∃ a m,(K.doCall 1 ⟨dk,dn,dt,da,db,dx⟩).run ⟨cs,[],[]⟩=(a,m):=⟨_,_,rfl⟩
 have D1:=Hd (fun v w h=>zhx HST.out (by decide) HP.out HCC.out hm v w h)
 have D2:=Hd (fun v w h=>zhx HST.out (by decide) (⟨by decide,by decide⟩ : zby 1) HDC.out hm' v w h)
 unfold zaM zdc at D1 D2
 dsimp only at D1 D2
 have HM:=Hd hm
 have HM':=Hd hm'
 clear hm hm'
 have x5:=X5.out
 have z5:=za x5
 have p50:w3.cell? ⟨w1.heap.size,0,none⟩=some (.int .i64 ck):=(zb (i:=0) x5).trans rfl
 have p51:w3.cell? ⟨w1.heap.size,1,none⟩=some (.string cn):=(zb (i:=1) x5).trans rfl
 have p52:w3.cell? ⟨w1.heap.size,2,none⟩=some (.string ct):=(zb (i:=2) x5).trans rfl
 have p53:w3.cell? ⟨w1.heap.size,3,none⟩=some (.int .i64 ca):=(zb (i:=3) x5).trans rfl
 have p54:w3.cell? ⟨w1.heap.size,4,none⟩=some (.int .i64 cb):=(zb (i:=4) x5).trans rfl
 have p55:w3.cell? ⟨w1.heap.size,5,none⟩=some (.string cx):=(zb (i:=5) x5).trans rfl
 clear x5
 go_wp2_with fail
 (go_at_call 22;refine (D1.out _ _ ((Rs.out.alloc _).alloc _)).mono ?_;rintro e w4 ⟨v0,s1,s2,rfl,hx,ht,hb⟩)
 have hq:=ht
 obtain ⟨_,_,hh,g1,g2⟩:=hq
 cases hh
 obtain ⟨t0,t3,rfl⟩:=hx.form
 obtain ⟨t1,t4,rfl⟩:=vSlice.form g1
 obtain ⟨t2,t5,rfl⟩:=vSlice.form g2
 clear p50 p51 p52 p53 p54 p55 z5
 replace HB:=Hd (Below.then HB.out (Below.then (by repeat (first|with_reducible exact Below.refl _ _|with_reducible apply Below.ofExt|with_reducible apply Below.ofAlloc|with_reducible apply Below.drew|with_reducible apply Below.ofDrewN|with_reducible assumption|(with_reducible refine Below.setCell ?_ (by first|exact Nat.le_refl _|(simp [go_sem];done)|(simp [go_sem];omega)) _))) hb))
 replace X5:=Hd ((hb.block _ (by have:=za X5.out;simp;omega)).trans ((zas _ _ (za X5.out)).trans X5.out))
 replace Rs:=Hd (((Rs.out.alloc _).alloc _).below hb)
 have Rt:=Hd hx
 have Tt:=Hd ht
 clear hx ht g1 g2
 have X8:=Hd ((hb.block (w3.heap.size+1) (by first|(simp;done)|(simp;omega))).trans (zaq w3 (.cells #[.slice m0 q0 k0,.slice m1 q1 k1,.slice m2 q2 k2] 54) (.cells #[.int .i64 dk,.string dn,.string dt,.int .i64 da,.int .i64 db,.string dx] 26) w3.heap.size rfl).2)
 clear hb
 have x8:=X8.out
 have z8:=za x8
 have p80:w4.cell? ⟨w3.heap.size+1,0,none⟩=some (.int .i64 dk):=(zb (i:=0) x8).trans rfl
 have p81:w4.cell? ⟨w3.heap.size+1,1,none⟩=some (.string dn):=(zb (i:=1) x8).trans rfl
 have p82:w4.cell? ⟨w3.heap.size+1,2,none⟩=some (.string dt):=(zb (i:=2) x8).trans rfl
 have p83:w4.cell? ⟨w3.heap.size+1,3,none⟩=some (.int .i64 da):=(zb (i:=3) x8).trans rfl
 have p84:w4.cell? ⟨w3.heap.size+1,4,none⟩=some (.int .i64 db):=(zb (i:=4) x8).trans rfl
 have p85:w4.cell? ⟨w3.heap.size+1,5,none⟩=some (.string dx):=(zb (i:=5) x8).trans rfl
 clear x8
 have zl8:w3.heap.size<w4.heap.size:=by omega
 have zn8:w3.heap.size ≠ w4.heap.size:=by omega
 go_wp2_with fail
 (go_at_call 22;refine (D2.out _ _ ((Rs.out.alloc _).alloc _)).mono ?_;rintro e w5 ⟨v0,s1,s2,rfl,hx,ht,hb⟩)
 have hq:=ht
 obtain ⟨_,_,hh,g1,g2⟩:=hq
 cases hh
 obtain ⟨u0,u3,rfl⟩:=hx.form
 obtain ⟨u1,u4,rfl⟩:=vSlice.form g1
 obtain ⟨u2,u5,rfl⟩:=vSlice.form g2
 clear p80 p81 p82 p83 p84 p85 z8 zl8 zn8
 replace HB:=Hd (Below.then HB.out (Below.then (by repeat (first|with_reducible exact Below.refl _ _|with_reducible apply Below.ofExt|with_reducible apply Below.ofAlloc|with_reducible apply Below.drew|with_reducible apply Below.ofDrewN|with_reducible assumption|(with_reducible refine Below.setCell ?_ (by first|exact Nat.le_refl _|(simp [go_sem];done)|(simp [go_sem];omega)) _))) hb))
 replace X5:=Hd ((hb.block _ (by have:=za X5.out;simp;omega)).trans ((zas _ _ (za X5.out)).trans X5.out))
 replace X8:=Hd ((hb.block _ (by have:=za X8.out;simp;omega)).trans ((zas _ _ (za X8.out)).trans X8.out))
 replace Rs:=Hd (((Rs.out.alloc _).alloc _).below hb)
 replace Rt:=Hd (((Rt.out.alloc _).alloc _).below hb)
 replace Tt:=Hd (View.grow _ Tt.out (Grew.below (Below.then (by repeat (first|with_reducible exact Below.refl _ _|with_reducible apply Below.ofExt|with_reducible apply Below.ofAlloc|with_reducible apply Below.drew|with_reducible apply Below.ofDrewN|with_reducible assumption|(with_reducible refine Below.setCell ?_ (by first|exact Nat.le_refl _|(simp [go_sem];done)|(simp [go_sem];omega)) _))) hb)))
 have Ru:=Hd hx
 have Tu:=Hd ht
 clear hx ht g1 g2
 have X10:=Hd ((hb.block w4.heap.size (by first|(simp;done)|(simp;omega))).trans (zaq w4 (.cells #[.int .i64 ac,.int .i64 an,.string ax] 30) (.cells #[.slice t1 m.rd.length t4,.slice t2 m.wr.length t5] 33) w4.heap.size rfl).1)
 have X11:=Hd ((hb.block (w4.heap.size+1) (by first|(simp;done)|(simp;omega))).trans (zaq w4 (.cells #[.int .i64 ac,.int .i64 an,.string ax] 30) (.cells #[.slice t1 m.rd.length t4,.slice t2 m.wr.length t5] 33) w4.heap.size rfl).2)
 clear hb D1 D2
 have hok:∀ c ∈ cs,c.ok:=fun c hc=>⟨by have h1:=(HST.out.2.2 c hc).1;unfold zbc inB at h1;simp at h1;omega,by have h1:=(HST.out.2.2 c hc).2;omega⟩
 go_wp2_with fail
 (go_at_call 23;refine (ziP _ cs _ (e:=47) (zgE (R:=zu) rfl rfl (by decide) ((Rs.out.alloc _).alloc _) hok)).mono ?_;rintro e w6 ⟨rfl,hb⟩)
 replace HB:=Hd (Below.then HB.out (Below.then (by repeat (first|with_reducible exact Below.refl _ _|with_reducible apply Below.ofExt|with_reducible apply Below.ofAlloc|with_reducible apply Below.drew|with_reducible apply Below.ofDrewN|with_reducible assumption|(with_reducible refine Below.setCell ?_ (by first|exact Nat.le_refl _|(simp [go_sem];done)|(simp [go_sem];omega)) _))) hb))
 replace X5:=Hd ((hb.block _ (by have:=za X5.out;simp;omega)).trans ((zas _ _ (za X5.out)).trans X5.out))
 replace X8:=Hd ((hb.block _ (by have:=za X8.out;simp;omega)).trans ((zas _ _ (za X8.out)).trans X8.out))
 replace X10:=Hd ((hb.block _ (by have:=za X10.out;simp;omega)).trans ((zas _ _ (za X10.out)).trans X10.out))
 replace X11:=Hd ((hb.block _ (by have:=za X11.out;simp;omega)).trans ((zas _ _ (za X11.out)).trans X11.out))
 replace Rs:=Hd (((Rs.out.alloc _).alloc _).below hb)
 replace Rt:=Hd (((Rt.out.alloc _).alloc _).below hb)
 replace Ru:=Hd (((Ru.out.alloc _).alloc _).below hb)
 replace Tt:=Hd (View.grow _ Tt.out (Grew.below (Below.then (by repeat (first|with_reducible exact Below.refl _ _|with_reducible apply Below.ofExt|with_reducible apply Below.ofAlloc|with_reducible apply Below.drew|with_reducible apply Below.ofDrewN|with_reducible assumption|(with_reducible refine Below.setCell ?_ (by first|exact Nat.le_refl _|(simp [go_sem];done)|(simp [go_sem];omega)) _))) hb)))
 replace Tu:=Hd (View.grow _ Tu.out (Grew.below (Below.then (by repeat (first|with_reducible exact Below.refl _ _|with_reducible apply Below.ofExt|with_reducible apply Below.ofAlloc|with_reducible apply Below.drew|with_reducible apply Below.ofDrewN|with_reducible assumption|(with_reducible refine Below.setCell ?_ (by first|exact Nat.le_refl _|(simp [go_sem];done)|(simp [go_sem];omega)) _))) hb)))
 have X13:=Hd ((hb.block w5.heap.size (by first|(simp;done)|(simp;omega))).trans (zaq w5 (.cells #[.int .i64 bc,.int .i64 bn,.string bx] 30) (.cells #[.slice u1 m'.rd.length u4,.slice u2 m'.wr.length u5] 33) w5.heap.size rfl).1)
 have X14:=Hd ((hb.block (w5.heap.size+1) (by first|(simp;done)|(simp;omega))).trans (zaq w5 (.cells #[.int .i64 bc,.int .i64 bn,.string bx] 30) (.cells #[.slice u1 m'.rd.length u4,.slice u2 m'.wr.length u5] 33) w5.heap.size rfl).2)
 clear hb hok
 have x11:=X11.out
 have z11:=za x11
 have p110:w6.cell? ⟨w4.heap.size+1,0,none⟩=some (.slice t1 m.rd.length t4):=(zb (i:=0) x11).trans rfl
 have p111:w6.cell? ⟨w4.heap.size+1,1,none⟩=some (.slice t2 m.wr.length t5):=(zb (i:=1) x11).trans rfl
 clear x11
 have x14:=X14.out
 have z14:=za x14
 have p140:w6.cell? ⟨w5.heap.size+1,0,none⟩=some (.slice u1 m'.rd.length u4):=(zb (i:=0) x14).trans rfl
 have p141:w6.cell? ⟨w5.heap.size+1,1,none⟩=some (.slice u2 m'.wr.length u5):=(zb (i:=1) x14).trans rfl
 clear x14
 cases hq:zcE cs with
 | false =>
  go_wp2_with fail
  refine zdU [(0,true),(1,true),(3,true),(4,true),(2,false),(5,false),(6,true),(7,true),(8,true)] 9 7 (by kernel_rfl) (by kernel_rfl) ?_
  repeat (refine zk rfl (fun K hK=>?_);go_simp;(try simp (disch:=omega) only [IntWalk.i64_in]);refine hK _ ?_;clear hK K)
  refine zr rfl (fun K hK=>?_)
  go_simp
  go_at_call 24
  refine (za6 [.slice t1 m.rd.length t4,.slice t2 m.wr.length t5] ⟨m.rd,m.wr⟩ [.slice u1 m'.rd.length u4,.slice u2 m'.wr.length u5] ⟨m'.rd,m'.wr⟩ _ (View.grow _ Tt.out (Grew.below (by repeat (first|with_reducible exact Below.refl _ _|with_reducible apply Below.ofExt|with_reducible apply Below.ofAlloc|with_reducible apply Below.drew|with_reducible apply Below.ofDrewN|with_reducible assumption|(with_reducible refine Below.setCell ?_ (by first|exact Nat.le_refl _|(simp [go_sem];done)|(simp [go_sem];omega)) _))))) (View.grow _ Tu.out (Grew.below (by repeat (first|with_reducible exact Below.refl _ _|with_reducible apply Below.ofExt|with_reducible apply Below.ofAlloc|with_reducible apply Below.drew|with_reducible apply Below.ofDrewN|with_reducible assumption|(with_reducible refine Below.setCell ?_ (by first|exact Nat.le_refl _|(simp [go_sem];done)|(simp [go_sem];omega)) _)))))).mono ?_
  rintro e w' ⟨rfl,hb⟩
  obtain ⟨X,rfl⟩:=hb.ext
  clear hb
  (try go_simp)
  refine hK _ _ (by show Sx _ _;(try simp only [<- Array.append_assoc]);repeat (first|with_reducible exact Sx.drew _|with_reducible exact Sx.same _ _ _ _|with_reducible exact ⟨_,rfl⟩|with_reducible apply Sx.more|with_reducible apply Sx.ext|with_reducible apply Sx.alloc|with_reducible apply ziw|with_reducible exact Sx.refl _)) ?_
  clear hK K
  repeat (refine zk rfl (fun K hK=>?_);go_simp;(try simp (disch:=omega) only [IntWalk.i64_in]);refine hK _ ?_;clear hK K)
  refine zr rfl (fun K hK=>?_)
  go_simp
  go_at_call 25
  refine (zhy [.slice t1 m.rd.length t4,.slice t2 m.wr.length t5] ⟨m.rd,m.wr⟩ [.slice u1 m'.rd.length u4,.slice u2 m'.wr.length u5] ⟨m'.rd,m'.wr⟩ _ (View.grow _ Tt.out (Grew.below (by repeat (first|with_reducible exact Below.refl _ _|with_reducible apply Below.ofExt|with_reducible apply Below.ofAlloc|with_reducible apply Below.drew|with_reducible apply Below.ofDrewN|with_reducible assumption|(with_reducible refine Below.setCell ?_ (by first|exact Nat.le_refl _|(simp [go_sem];done)|(simp [go_sem];omega)) _))))) (View.grow _ Tu.out (Grew.below (by repeat (first|with_reducible exact Below.refl _ _|with_reducible apply Below.ofExt|with_reducible apply Below.ofAlloc|with_reducible apply Below.drew|with_reducible apply Below.ofDrewN|with_reducible assumption|(with_reducible refine Below.setCell ?_ (by first|exact Nat.le_refl _|(simp [go_sem];done)|(simp [go_sem];omega)) _)))))).mono ?_
  rintro e w' ⟨rfl,hb⟩
  obtain ⟨X,rfl⟩:=hb.ext
  clear hb
  (try go_simp)
  refine hK _ _ (by show Sx _ _;(try simp only [<- Array.append_assoc]);repeat (first|with_reducible exact Sx.drew _|with_reducible exact Sx.same _ _ _ _|with_reducible exact ⟨_,rfl⟩|with_reducible apply Sx.more|with_reducible apply Sx.ext|with_reducible apply Sx.alloc|with_reducible apply ziw|with_reducible exact Sx.refl _)) ?_
  clear hK K
  repeat (refine zk rfl (fun K hK=>?_);go_simp;(try simp (disch:=omega) only [IntWalk.i64_in]);refine hK _ ?_;clear hK K)
  refine zQ ?_
  unfold EndQ
  dsimp only
  refine opqA (fun W0=>Below W.heap.size W W0) (Below.then HB.out (by repeat (first|with_reducible exact Below.refl _ _|with_reducible apply Below.ofExt|with_reducible apply Below.ofAlloc|with_reducible apply Below.drew|with_reducible apply Below.ofDrewN|with_reducible assumption|(with_reducible refine Below.setCell ?_ (by first|exact Nat.le_refl _|(simp [go_sem];done)|(simp [go_sem];omega)) _)))) ?_
  rintro wz hbz
  have HBZ:=Hd hbz
  clear hbz
  refine wpAny_ready (rs:=[9,11]) (by kernel_rfl) (by simp) (AllReady.cons rfl (fun K hK=>?_) (AllReady.cons rfl (fun K hK=>?_) AllReady.nil))
  all_goals (go_simp;refine hK _ _ ?_;clear hK K)
  ·skip
   refine wpAny_take (i:=10) (v:=?_) rfl (by kernel_rfl) (by kernel_rfl) (by kernel_rfl) (fun _ _ _ h=>h) (Or.inl ⟨by rfl,?_⟩) ?_
   rotate_left
   (intro wq;go_simp;try (with_reducible rfl))
   refine wpAny_ready (rs:=[11]) (by kernel_rfl) (by simp) (AllReady.cons rfl (fun K hK=>?_) AllReady.nil)
   go_simp
   refine hK _ _ ?_
   clear hK K
   refine wpAny_take (i:=12) (v:=?_) rfl (by kernel_rfl) (by kernel_rfl) (by kernel_rfl) (fun _ _ _ h=>h) (Or.inl ⟨by rfl,?_⟩) ?_
   rotate_left
   (intro wq;go_simp;try (with_reducible rfl))
   refine wpAny_ready (rs:=[13]) (by kernel_rfl) (by simp) (AllReady.cons rfl (fun K hK=>?_) AllReady.nil)
   go_simp
   go_at_call 24
   refine (za6 [_,_] ⟨[⟨#[97]⟩],[]⟩ [_,_] ⟨[⟨#[97]⟩],[]⟩ _ (by first|exact zbK (zaq wz _ _ wz.heap.size rfl).1|exact zbK (zaq wz _ _ wz.heap.size rfl).2) (by first|exact zbK (zaq wz _ _ wz.heap.size rfl).1|exact zbK (zaq wz _ _ wz.heap.size rfl).2)).mono ?_
   rintro e w' ⟨rfl,hb⟩
   rw [zdw]
   obtain ⟨X,rfl⟩:=hb.ext
   clear hb
   (try go_simp)
   refine hK _ _ ?_
   clear hK K
   refine wpAny_ready (rs:=[14]) (by kernel_rfl) (by simp) (AllReady.cons rfl (fun K hK=>?_) AllReady.nil)
   go_simp
   refine hK _ _ ?_
   clear hK K
   refine wpAny_ready (rs:=[15]) (by kernel_rfl) (by simp) (AllReady.cons rfl (fun K hK=>?_) AllReady.nil)
   go_simp
   refine hK _ _ ?_
   clear hK K
   refine wpAny_done (by kernel_rfl) ?_ _
   unfold zbX
   dsimp only
   go_wp2
   go_ret
   exact ⟨rfl,Below.then HBZ.out (by repeat (first|with_reducible exact Below.refl _ _|with_reducible apply Below.ofExt|with_reducible apply Below.ofAlloc|with_reducible apply Below.drew|with_reducible apply Below.ofDrewN|with_reducible assumption|(with_reducible refine Below.setCell ?_ (by first|exact Nat.le_refl _|(simp [go_sem];done)|(simp [go_sem];omega)) _)))⟩
  ·skip
   refine wpAny_take (i:=12) (v:=?_) rfl (by kernel_rfl) (by kernel_rfl) (by kernel_rfl) (fun _ _ _ h=>h) (Or.inl ⟨by rfl,?_⟩) ?_
   rotate_left
   (intro wq;go_simp;try (with_reducible rfl))
   refine wpAny_ready (rs:=[9]) (by kernel_rfl) (by simp) (AllReady.cons rfl (fun K hK=>?_) AllReady.nil)
   go_simp
   refine hK _ _ ?_
   clear hK K
   refine wpAny_take (i:=10) (v:=?_) rfl (by kernel_rfl) (by kernel_rfl) (by kernel_rfl) (fun _ _ _ h=>h) (Or.inl ⟨by rfl,?_⟩) ?_
   rotate_left
   (intro wq;go_simp;try (with_reducible rfl))
   refine wpAny_ready (rs:=[13]) (by kernel_rfl) (by simp) (AllReady.cons rfl (fun K hK=>?_) AllReady.nil)
   go_simp
   go_at_call 24
   refine (za6 [_,_] ⟨[⟨#[97]⟩],[]⟩ [_,_] ⟨[⟨#[97]⟩],[]⟩ _ (by first|exact zbK (zaq wz _ _ wz.heap.size rfl).1|exact zbK (zaq wz _ _ wz.heap.size rfl).2) (by first|exact zbK (zaq wz _ _ wz.heap.size rfl).1|exact zbK (zaq wz _ _ wz.heap.size rfl).2)).mono ?_
   rintro e w' ⟨rfl,hb⟩
   rw [zdw]
   obtain ⟨X,rfl⟩:=hb.ext
   clear hb
   (try go_simp)
   refine hK _ _ ?_
   clear hK K
   refine wpAny_ready (rs:=[14]) (by kernel_rfl) (by simp) (AllReady.cons rfl (fun K hK=>?_) AllReady.nil)
   go_simp
   refine hK _ _ ?_
   clear hK K
   refine wpAny_ready (rs:=[15]) (by kernel_rfl) (by simp) (AllReady.cons rfl (fun K hK=>?_) AllReady.nil)
   go_simp
   refine hK _ _ ?_
   clear hK K
   refine wpAny_done (by kernel_rfl) ?_ _
   unfold zbX
   dsimp only
   go_wp2
   go_ret
   exact ⟨rfl,Below.then HBZ.out (by repeat (first|with_reducible exact Below.refl _ _|with_reducible apply Below.ofExt|with_reducible apply Below.ofAlloc|with_reducible apply Below.drew|with_reducible apply Below.ofDrewN|with_reducible assumption|(with_reducible refine Below.setCell ?_ (by first|exact Nat.le_refl _|(simp [go_sem];done)|(simp [go_sem];omega)) _)))⟩
 | true =>
  go_wp2_with fail
  (go_at_call 24;refine (za6 [.slice t1 m.rd.length t4,.slice t2 m.wr.length t5] ⟨m.rd,m.wr⟩ [.slice u1 m'.rd.length u4,.slice u2 m'.wr.length u5] ⟨m'.rd,m'.wr⟩ _ Tt.out Tu.out).mono ?_;rintro e w7 ⟨rfl,hb⟩)
  clear p110 p111 z11
  clear p140 p141 z14
  replace HB:=Hd (Below.then HB.out hb)
  replace X5:=Hd ((hb.block _ (za X5.out)).trans X5.out)
  replace X8:=Hd ((hb.block _ (za X8.out)).trans X8.out)
  replace X10:=Hd ((hb.block _ (za X10.out)).trans X10.out)
  replace X11:=Hd ((hb.block _ (za X11.out)).trans X11.out)
  replace X13:=Hd ((hb.block _ (za X13.out)).trans X13.out)
  replace X14:=Hd ((hb.block _ (za X14.out)).trans X14.out)
  replace Rs:=Hd (Rs.out.below hb)
  replace Rt:=Hd (Rt.out.below hb)
  replace Ru:=Hd (Ru.out.below hb)
  replace Tt:=Hd (View.grow _ Tt.out (Grew.below hb))
  replace Tu:=Hd (View.grow _ Tu.out (Grew.below hb))
  clear hb
  cases hc:zel ⟨m.rd,m.wr⟩ ⟨m'.rd,m'.wr⟩ with
  | true =>
   have x11:=X11.out
   have z11:=za x11
   have p110:w7.cell? ⟨w4.heap.size+1,0,none⟩=some (.slice t1 m.rd.length t4):=(zb (i:=0) x11).trans rfl
   have p111:w7.cell? ⟨w4.heap.size+1,1,none⟩=some (.slice t2 m.wr.length t5):=(zb (i:=1) x11).trans rfl
   clear x11
   have x14:=X14.out
   have z14:=za x14
   have p140:w7.cell? ⟨w5.heap.size+1,0,none⟩=some (.slice u1 m'.rd.length u4):=(zb (i:=0) x14).trans rfl
   have p141:w7.cell? ⟨w5.heap.size+1,1,none⟩=some (.slice u2 m'.wr.length u5):=(zb (i:=1) x14).trans rfl
   clear x14
   go_wp2_with fail
   refine zdU [(0,true),(1,true),(3,true),(4,true),(2,false),(5,false),(6,true),(7,true),(8,true)] 9 7 (by kernel_rfl) (by kernel_rfl) ?_
   repeat (refine zk rfl (fun K hK=>?_);go_simp;(try simp (disch:=omega) only [IntWalk.i64_in]);refine hK _ ?_;clear hK K)
   refine zr rfl (fun K hK=>?_)
   go_simp
   go_at_call 24
   refine (za6 [.slice t1 m.rd.length t4,.slice t2 m.wr.length t5] ⟨m.rd,m.wr⟩ [.slice u1 m'.rd.length u4,.slice u2 m'.wr.length u5] ⟨m'.rd,m'.wr⟩ _ (View.grow _ Tt.out (Grew.below (by repeat (first|with_reducible exact Below.refl _ _|with_reducible apply Below.ofExt|with_reducible apply Below.ofAlloc|with_reducible apply Below.drew|with_reducible apply Below.ofDrewN|with_reducible assumption|(with_reducible refine Below.setCell ?_ (by first|exact Nat.le_refl _|(simp [go_sem];done)|(simp [go_sem];omega)) _))))) (View.grow _ Tu.out (Grew.below (by repeat (first|with_reducible exact Below.refl _ _|with_reducible apply Below.ofExt|with_reducible apply Below.ofAlloc|with_reducible apply Below.drew|with_reducible apply Below.ofDrewN|with_reducible assumption|(with_reducible refine Below.setCell ?_ (by first|exact Nat.le_refl _|(simp [go_sem];done)|(simp [go_sem];omega)) _)))))).mono ?_
   rintro e w' ⟨rfl,hb⟩
   obtain ⟨X,rfl⟩:=hb.ext
   clear hb
   (try go_simp)
   refine hK _ _ (by show Sx _ _;(try simp only [<- Array.append_assoc]);repeat (first|with_reducible exact Sx.drew _|with_reducible exact Sx.same _ _ _ _|with_reducible exact ⟨_,rfl⟩|with_reducible apply Sx.more|with_reducible apply Sx.ext|with_reducible apply Sx.alloc|with_reducible apply ziw|with_reducible exact Sx.refl _)) ?_
   clear hK K
   repeat (refine zk rfl (fun K hK=>?_);go_simp;(try simp (disch:=omega) only [IntWalk.i64_in]);refine hK _ ?_;clear hK K)
   refine zr rfl (fun K hK=>?_)
   go_simp
   go_at_call 25
   refine (zhy [.slice t1 m.rd.length t4,.slice t2 m.wr.length t5] ⟨m.rd,m.wr⟩ [.slice u1 m'.rd.length u4,.slice u2 m'.wr.length u5] ⟨m'.rd,m'.wr⟩ _ (View.grow _ Tt.out (Grew.below (by repeat (first|with_reducible exact Below.refl _ _|with_reducible apply Below.ofExt|with_reducible apply Below.ofAlloc|with_reducible apply Below.drew|with_reducible apply Below.ofDrewN|with_reducible assumption|(with_reducible refine Below.setCell ?_ (by first|exact Nat.le_refl _|(simp [go_sem];done)|(simp [go_sem];omega)) _))))) (View.grow _ Tu.out (Grew.below (by repeat (first|with_reducible exact Below.refl _ _|with_reducible apply Below.ofExt|with_reducible apply Below.ofAlloc|with_reducible apply Below.drew|with_reducible apply Below.ofDrewN|with_reducible assumption|(with_reducible refine Below.setCell ?_ (by first|exact Nat.le_refl _|(simp [go_sem];done)|(simp [go_sem];omega)) _)))))).mono ?_
   rintro e w' ⟨rfl,hb⟩
   obtain ⟨X,rfl⟩:=hb.ext
   clear hb
   (try go_simp)
   refine hK _ _ (by show Sx _ _;(try simp only [<- Array.append_assoc]);repeat (first|with_reducible exact Sx.drew _|with_reducible exact Sx.same _ _ _ _|with_reducible exact ⟨_,rfl⟩|with_reducible apply Sx.more|with_reducible apply Sx.ext|with_reducible apply Sx.alloc|with_reducible apply ziw|with_reducible exact Sx.refl _)) ?_
   clear hK K
   repeat (refine zk rfl (fun K hK=>?_);go_simp;(try simp (disch:=omega) only [IntWalk.i64_in]);refine hK _ ?_;clear hK K)
   refine zQ ?_
   unfold EndQ
   dsimp only
   refine opqA (fun W0=>Below W.heap.size W W0) (Below.then HB.out (by repeat (first|with_reducible exact Below.refl _ _|with_reducible apply Below.ofExt|with_reducible apply Below.ofAlloc|with_reducible apply Below.drew|with_reducible apply Below.ofDrewN|with_reducible assumption|(with_reducible refine Below.setCell ?_ (by first|exact Nat.le_refl _|(simp [go_sem];done)|(simp [go_sem];omega)) _)))) ?_
   rintro wz hbz
   have HBZ:=Hd hbz
   clear hbz
   refine wpAny_ready (rs:=[9,11]) (by kernel_rfl) (by simp) (AllReady.cons rfl (fun K hK=>?_) (AllReady.cons rfl (fun K hK=>?_) AllReady.nil))
   all_goals (go_simp;refine hK _ _ ?_;clear hK K)
   ·skip
    refine wpAny_take (i:=10) (v:=?_) rfl (by kernel_rfl) (by kernel_rfl) (by kernel_rfl) (fun _ _ _ h=>h) (Or.inl ⟨by rfl,?_⟩) ?_
    rotate_left
    (intro wq;go_simp;try (with_reducible rfl))
    refine wpAny_ready (rs:=[11]) (by kernel_rfl) (by simp) (AllReady.cons rfl (fun K hK=>?_) AllReady.nil)
    go_simp
    refine hK _ _ ?_
    clear hK K
    refine wpAny_take (i:=12) (v:=?_) rfl (by kernel_rfl) (by kernel_rfl) (by kernel_rfl) (fun _ _ _ h=>h) (Or.inl ⟨by rfl,?_⟩) ?_
    rotate_left
    (intro wq;go_simp;try (with_reducible rfl))
    refine wpAny_ready (rs:=[13]) (by kernel_rfl) (by simp) (AllReady.cons rfl (fun K hK=>?_) AllReady.nil)
    go_simp
    go_at_call 24
    refine (za6 [_,_] ⟨[⟨#[97]⟩],[]⟩ [_,_] ⟨[⟨#[97]⟩],[]⟩ _ (by first|exact zbK (zaq wz _ _ wz.heap.size rfl).1|exact zbK (zaq wz _ _ wz.heap.size rfl).2) (by first|exact zbK (zaq wz _ _ wz.heap.size rfl).1|exact zbK (zaq wz _ _ wz.heap.size rfl).2)).mono ?_
    rintro e w' ⟨rfl,hb⟩
    rw [zdw]
    obtain ⟨X,rfl⟩:=hb.ext
    clear hb
    (try go_simp)
    refine hK _ _ ?_
    clear hK K
    refine wpAny_ready (rs:=[14]) (by kernel_rfl) (by simp) (AllReady.cons rfl (fun K hK=>?_) AllReady.nil)
    go_simp
    refine hK _ _ ?_
    clear hK K
    refine wpAny_ready (rs:=[15]) (by kernel_rfl) (by simp) (AllReady.cons rfl (fun K hK=>?_) AllReady.nil)
    go_simp
    refine hK _ _ ?_
    clear hK K
    refine wpAny_done (by kernel_rfl) ?_ _
    unfold zbX
    dsimp only
    go_wp2
    go_ret
    exact ⟨rfl,Below.then HBZ.out (by repeat (first|with_reducible exact Below.refl _ _|with_reducible apply Below.ofExt|with_reducible apply Below.ofAlloc|with_reducible apply Below.drew|with_reducible apply Below.ofDrewN|with_reducible assumption|(with_reducible refine Below.setCell ?_ (by first|exact Nat.le_refl _|(simp [go_sem];done)|(simp [go_sem];omega)) _)))⟩
   ·skip
    refine wpAny_take (i:=12) (v:=?_) rfl (by kernel_rfl) (by kernel_rfl) (by kernel_rfl) (fun _ _ _ h=>h) (Or.inl ⟨by rfl,?_⟩) ?_
    rotate_left
    (intro wq;go_simp;try (with_reducible rfl))
    refine wpAny_ready (rs:=[9]) (by kernel_rfl) (by simp) (AllReady.cons rfl (fun K hK=>?_) AllReady.nil)
    go_simp
    refine hK _ _ ?_
    clear hK K
    refine wpAny_take (i:=10) (v:=?_) rfl (by kernel_rfl) (by kernel_rfl) (by kernel_rfl) (fun _ _ _ h=>h) (Or.inl ⟨by rfl,?_⟩) ?_
    rotate_left
    (intro wq;go_simp;try (with_reducible rfl))
    refine wpAny_ready (rs:=[13]) (by kernel_rfl) (by simp) (AllReady.cons rfl (fun K hK=>?_) AllReady.nil)
    go_simp
    go_at_call 24
    refine (za6 [_,_] ⟨[⟨#[97]⟩],[]⟩ [_,_] ⟨[⟨#[97]⟩],[]⟩ _ (by first|exact zbK (zaq wz _ _ wz.heap.size rfl).1|exact zbK (zaq wz _ _ wz.heap.size rfl).2) (by first|exact zbK (zaq wz _ _ wz.heap.size rfl).1|exact zbK (zaq wz _ _ wz.heap.size rfl).2)).mono ?_
    rintro e w' ⟨rfl,hb⟩
    rw [zdw]
    obtain ⟨X,rfl⟩:=hb.ext
    clear hb
    (try go_simp)
    refine hK _ _ ?_
    clear hK K
    refine wpAny_ready (rs:=[14]) (by kernel_rfl) (by simp) (AllReady.cons rfl (fun K hK=>?_) AllReady.nil)
    go_simp
    refine hK _ _ ?_
    clear hK K
    refine wpAny_ready (rs:=[15]) (by kernel_rfl) (by simp) (AllReady.cons rfl (fun K hK=>?_) AllReady.nil)
    go_simp
    refine hK _ _ ?_
    clear hK K
    refine wpAny_done (by kernel_rfl) ?_ _
    unfold zbX
    dsimp only
    go_wp2
    go_ret
    exact ⟨rfl,Below.then HBZ.out (by repeat (first|with_reducible exact Below.refl _ _|with_reducible apply Below.ofExt|with_reducible apply Below.ofAlloc|with_reducible apply Below.drew|with_reducible apply Below.ofDrewN|with_reducible assumption|(with_reducible refine Below.setCell ?_ (by first|exact Nat.le_refl _|(simp [go_sem];done)|(simp [go_sem];omega)) _)))⟩
  | false =>
   obtain ⟨e1,e2,e3⟩:=zkb hq HM.out HM'.out hc
   obtain ⟨m3,hm3⟩ : ∃ m3,(K.doCall 1 ⟨dk,dn,dt,da,db,dx⟩).run ⟨m.cells,[],[]⟩=(⟨bc,bn,bx⟩,m3):=⟨_,Prod.ext e1 rfl⟩
   obtain ⟨m4,hm4⟩ : ∃ m4,(K.doCall n ⟨ck,cn,ct,ca,cb,cx⟩).run ⟨m'.cells,[],[]⟩=(⟨ac,an,ax⟩,m4):=⟨_,Prod.ext e2 rfl⟩
   rw [hm3,hm4] at e3
   dsimp only at e3
   have st3:=HST.out.next (by decide) HP.out HCC.out.a
   rw [HM.out] at st3
   have st4:=HST.out.next (by decide) (⟨by decide,by decide⟩ : zby 1) HDC.out.a
   rw [HM'.out] at st4
   have D3:=Hd (fun v w g h=>zhL st3 (by decide) (⟨by decide,by decide⟩ : zby 1) HDC.out hm3 v w g h)
   have D4:=Hd (fun v w g h=>zhL st4 (by decide) HP.out HCC.out hm4 v w g h)
   unfold zaM zdc at D3 D4
   dsimp only at D3 D4
   have HE:=Hd e3
   clear e1 e2 e3 hm3 hm4 st3 st4 hc hq
   have x8:=X8.out
   have z8:=za x8
   have p80:w7.cell? ⟨w3.heap.size+1,0,none⟩=some (.int .i64 dk):=(zb (i:=0) x8).trans rfl
   have p81:w7.cell? ⟨w3.heap.size+1,1,none⟩=some (.string dn):=(zb (i:=1) x8).trans rfl
   have p82:w7.cell? ⟨w3.heap.size+1,2,none⟩=some (.string dt):=(zb (i:=2) x8).trans rfl
   have p83:w7.cell? ⟨w3.heap.size+1,3,none⟩=some (.int .i64 da):=(zb (i:=3) x8).trans rfl
   have p84:w7.cell? ⟨w3.heap.size+1,4,none⟩=some (.int .i64 db):=(zb (i:=4) x8).trans rfl
   have p85:w7.cell? ⟨w3.heap.size+1,5,none⟩=some (.string dx):=(zb (i:=5) x8).trans rfl
   clear x8
   go_wp2_with fail
   (go_at_call 7;refine (D3.out _ _ (HG.out.below HB.out) Rt.out).mono ?_;rintro e w8 ⟨v0,s1,s2,rfl,hx,ht,hb⟩)
   have hq:=ht
   obtain ⟨_,_,hh,g1,g2⟩:=hq
   cases hh
   obtain ⟨f0,f3,rfl⟩:=hx.form
   obtain ⟨f1,f4,rfl⟩:=vSlice.form g1
   obtain ⟨f2,f5,rfl⟩:=vSlice.form g2
   clear p80 p81 p82 p83 p84 p85 z8
   replace HB:=Hd (Below.then HB.out hb)
   replace X5:=Hd ((hb.block _ (za X5.out)).trans X5.out)
   replace X8:=Hd ((hb.block _ (za X8.out)).trans X8.out)
   replace X10:=Hd ((hb.block _ (za X10.out)).trans X10.out)
   replace X11:=Hd ((hb.block _ (za X11.out)).trans X11.out)
   replace X13:=Hd ((hb.block _ (za X13.out)).trans X13.out)
   replace X14:=Hd ((hb.block _ (za X14.out)).trans X14.out)
   replace Rs:=Hd (Rs.out.below hb)
   replace Rt:=Hd (Rt.out.below hb)
   replace Ru:=Hd (Ru.out.below hb)
   replace Tt:=Hd (View.grow _ Tt.out (Grew.below hb))
   replace Tu:=Hd (View.grow _ Tu.out (Grew.below hb))
   have Rf:=Hd hx
   clear hx ht g1 g2
   clear hb
   have x5:=X5.out
   have z5:=za x5
   have p50:w8.cell? ⟨w1.heap.size,0,none⟩=some (.int .i64 ck):=(zb (i:=0) x5).trans rfl
   have p51:w8.cell? ⟨w1.heap.size,1,none⟩=some (.string cn):=(zb (i:=1) x5).trans rfl
   have p52:w8.cell? ⟨w1.heap.size,2,none⟩=some (.string ct):=(zb (i:=2) x5).trans rfl
   have p53:w8.cell? ⟨w1.heap.size,3,none⟩=some (.int .i64 ca):=(zb (i:=3) x5).trans rfl
   have p54:w8.cell? ⟨w1.heap.size,4,none⟩=some (.int .i64 cb):=(zb (i:=4) x5).trans rfl
   have p55:w8.cell? ⟨w1.heap.size,5,none⟩=some (.string cx):=(zb (i:=5) x5).trans rfl
   clear x5
   go_wp2_with fail
   (go_at_call 7;refine (D4.out _ _ (HG.out.below (Below.then HB.out (by repeat (first|with_reducible exact Below.refl _ _|with_reducible apply Below.ofExt|with_reducible apply Below.ofAlloc|with_reducible apply Below.drew|with_reducible apply Below.ofDrewN|with_reducible assumption|(with_reducible refine Below.setCell ?_ (by first|exact Nat.le_refl _|(simp [go_sem];done)|(simp [go_sem];omega)) _))))) ((Ru.out.alloc _).alloc _)).mono ?_;rintro e w9 ⟨v0,s1,s2,rfl,hx,ht,hb⟩)
   have hq:=ht
   obtain ⟨_,_,hh,g1,g2⟩:=hq
   cases hh
   obtain ⟨g0,g3,rfl⟩:=hx.form
   obtain ⟨g1,g4,rfl⟩:=vSlice.form g1
   obtain ⟨g2,g5,rfl⟩:=vSlice.form g2
   clear p50 p51 p52 p53 p54 p55 z5
   replace HB:=Hd (Below.then HB.out (Below.then (by repeat (first|with_reducible exact Below.refl _ _|with_reducible apply Below.ofExt|with_reducible apply Below.ofAlloc|with_reducible apply Below.drew|with_reducible apply Below.ofDrewN|with_reducible assumption|(with_reducible refine Below.setCell ?_ (by first|exact Nat.le_refl _|(simp [go_sem];done)|(simp [go_sem];omega)) _))) hb))
   replace X5:=Hd ((hb.block _ (by have:=za X5.out;simp;omega)).trans ((zas _ _ (za X5.out)).trans X5.out))
   replace X8:=Hd ((hb.block _ (by have:=za X8.out;simp;omega)).trans ((zas _ _ (za X8.out)).trans X8.out))
   replace X10:=Hd ((hb.block _ (by have:=za X10.out;simp;omega)).trans ((zas _ _ (za X10.out)).trans X10.out))
   replace X11:=Hd ((hb.block _ (by have:=za X11.out;simp;omega)).trans ((zas _ _ (za X11.out)).trans X11.out))
   replace X13:=Hd ((hb.block _ (by have:=za X13.out;simp;omega)).trans ((zas _ _ (za X13.out)).trans X13.out))
   replace X14:=Hd ((hb.block _ (by have:=za X14.out;simp;omega)).trans ((zas _ _ (za X14.out)).trans X14.out))
   replace Rs:=Hd (((Rs.out.alloc _).alloc _).below hb)
   replace Rt:=Hd (((Rt.out.alloc _).alloc _).below hb)
   replace Ru:=Hd (((Ru.out.alloc _).alloc _).below hb)
   replace Rf:=Hd (((Rf.out.alloc _).alloc _).below hb)
   replace Tt:=Hd (View.grow _ Tt.out (Grew.below (Below.then (by repeat (first|with_reducible exact Below.refl _ _|with_reducible apply Below.ofExt|with_reducible apply Below.ofAlloc|with_reducible apply Below.drew|with_reducible apply Below.ofDrewN|with_reducible assumption|(with_reducible refine Below.setCell ?_ (by first|exact Nat.le_refl _|(simp [go_sem];done)|(simp [go_sem];omega)) _))) hb)))
   replace Tu:=Hd (View.grow _ Tu.out (Grew.below (Below.then (by repeat (first|with_reducible exact Below.refl _ _|with_reducible apply Below.ofExt|with_reducible apply Below.ofAlloc|with_reducible apply Below.drew|with_reducible apply Below.ofDrewN|with_reducible assumption|(with_reducible refine Below.setCell ?_ (by first|exact Nat.le_refl _|(simp [go_sem];done)|(simp [go_sem];omega)) _))) hb)))
   have Rg:=Hd hx
   clear hx ht g1 g2
   have X16:=Hd ((hb.block w8.heap.size (by first|(simp;done)|(simp;omega))).trans (zaq w8 (.cells #[.int .i64 bc,.int .i64 bn,.string bx] 30) (.cells #[.slice f1 m3.rd.length f4,.slice f2 m3.wr.length f5] 33) w8.heap.size rfl).1)
   clear hb
   replace Rg:Hid (RdL zu w9 (.slice g0 m4.cells.length g3) m3.cells):=by rw [HE.out];exact Rg.out
   have x10:=X10.out
   have z10:=za x10
   have p100:w9.cell? ⟨w4.heap.size,0,none⟩=some (.int .i64 ac):=(zb (i:=0) x10).trans rfl
   have p101:w9.cell? ⟨w4.heap.size,1,none⟩=some (.int .i64 an):=(zb (i:=1) x10).trans rfl
   have p102:w9.cell? ⟨w4.heap.size,2,none⟩=some (.string ax):=(zb (i:=2) x10).trans rfl
   clear x10
   have x13:=X13.out
   have z13:=za x13
   have p130:w9.cell? ⟨w5.heap.size,0,none⟩=some (.int .i64 bc):=(zb (i:=0) x13).trans rfl
   have p131:w9.cell? ⟨w5.heap.size,1,none⟩=some (.int .i64 bn):=(zb (i:=1) x13).trans rfl
   have p132:w9.cell? ⟨w5.heap.size,2,none⟩=some (.string bx):=(zb (i:=2) x13).trans rfl
   clear x13
   have x16:=X16.out
   have z16:=za x16
   have p160:w9.cell? ⟨w8.heap.size,0,none⟩=some (.int .i64 bc):=(zb (i:=0) x16).trans rfl
   have p161:w9.cell? ⟨w8.heap.size,1,none⟩=some (.int .i64 bn):=(zb (i:=1) x16).trans rfl
   have p162:w9.cell? ⟨w8.heap.size,2,none⟩=some (.string bx):=(zb (i:=2) x16).trans rfl
   clear x16
   go_wp2_with fail
   (go_at_call 17;refine (zhg _ _ m3.cells _ ((Rf.out.alloc _).alloc _) ((Rg.out.alloc _).alloc _)).mono ?_;rintro e w10 ⟨rfl,hb⟩)
   replace HB:=Hd (Below.then HB.out (Below.then (by repeat (first|with_reducible exact Below.refl _ _|with_reducible apply Below.ofExt|with_reducible apply Below.ofAlloc|with_reducible apply Below.drew|with_reducible apply Below.ofDrewN|with_reducible assumption|(with_reducible refine Below.setCell ?_ (by first|exact Nat.le_refl _|(simp [go_sem];done)|(simp [go_sem];omega)) _))) hb))
   clear hb
   go_wp2_with fail
   (go_at_call 24;refine (za6 [_,_] ⟨[⟨#[97]⟩],[]⟩ [_,_] ⟨[⟨#[97]⟩],[]⟩ _ (zbK (zaq w10 _ _ w10.heap.size rfl).1) (zbK (zaq w10 _ _ w10.heap.size rfl).2)).mono ?_;rintro e w11 ⟨rfl,hb⟩)
   rw [zdw]
   go_wp2
   go_ret
   exact ⟨rfl,Below.then HB.out (Below.then (by repeat (first|with_reducible exact Below.refl _ _|with_reducible apply Below.ofExt|with_reducible apply Below.ofAlloc|with_reducible apply Below.drew|with_reducible apply Below.ofDrewN|with_reducible assumption|(with_reducible refine Below.setCell ?_ (by first|exact Nat.le_refl _|(simp [go_sem];done)|(simp [go_sem];omega)) _))) hb)⟩
end Go.Proofs.YtpnoehpmgflibaaGreatDoor
