/- Texts of this claim, merged: the walks and what they stand on. Each condition stands in its theorem. -/
import Derived.Test.YtpnoehpmgflibaaGreatDoorTR5
import Derived.Test.YtpnoehpmgflibaaGreatDoorTR6
set_option linter.unusedVariables false
set_option linter.unusedSimpArgs false
set_option maxRecDepth 100000
set_option maxHeartbeats 8000000
namespace Go.Proofs.YtpnoehpmgflibaaGreatDoor
open Go.ChangeShapes Go.WideShapes Go.ChangeAt Go.RowKit
theorem impl_callR {k:Nat} {cs:List CellD} (hst:StoreN k cs) (hk:k+1<=60) {proc:Int} (hp:zby proc) {c:CallD} (hc:AnyCall c) {a:AnswerD} {m:MachD} (hr:(K.doCall proc c).run ⟨cs,[],[]⟩=(a,m)) (v:Value) (w:World) (hg:Glob w) (h:RdL zu w v cs) :
  Calls Tryz.prog 7 #[v,.int .i64 proc,zaM c] w fun e w'=>∃ v0 v1 v2,e=.returned (.tuple #[v0,zdc a,.agg #[v1,v2]])/\RdL zu w' v0 m.cells/\zdf.rd w' [v1,v2] ⟨m.rd,m.wr⟩/\Below w.heap.size w w':=by
 have hz:=hst.touch hk (c:=c) hp hc.a
 refine (zjn v cs proc hp.1 hp.2 c hc.ok hc.a.1 hc.a.2 hc.b.1 hc.b.2 w hg h (Nat.le_trans (Good.len hst.1) (by decide)) (hst.fits hk hp hc.a)).mono ?_
 rintro e w' ⟨v0,v1,v2,rfl,r0,o1,o2,_,hb⟩
 rw [hr] at r0 o1 o2 hz ⊢
 exact ⟨_,_,_,rfl,r0,zky o1.rd o2.rd hz.1 hz.2,hb⟩
theorem Right.oks {cs:List CellD} (h:Right cs):∀ c ∈ cs,c.ok:=fun c hc=>⟨by have h1:=(h.2 c hc).1;unfold zbc inB at h1;simp at h1;omega,by have h1:=(h.2 c hc).2;omega⟩
def StepAny (s:StepD):Prop:=(-1<=s.proc/\s.proc<=3)/\AnyCall s.call
theorem StepAny.fine {s:StepD} (h:StepAny s):s.fine:=⟨h.2.ok,⟨by have:=h.1;omega,by have:=h.1;omega⟩,h.2.a,h.2.b⟩
theorem StepAny.in_ {s:StepD} (h:StepAny s):zby s.proc/\zby s.call.a:=⟨⟨by have:=h.1;omega,by have:=h.1;omega⟩,h.2.a⟩
theorem small_runR {cs:List CellD} {l:List StepD} (h:zmG l ⟨cs,[],[]⟩) {r:List AnswerD} {m:MachD} (hr:(K.runAll l).run ⟨cs,[],[]⟩=(r,m)):(K.runAll l).fits ⟨cs,[],[]⟩/\Mp.Small m/\∀ x ∈ r,x.ok:=by
 have g:=run_all l [] ⟨cs,[],[]⟩ h (by simp)
 have e:=Mp.fits_end g.1
 have o:=g.2.1
 change Mp.Small ((K.runAll l).run ⟨cs,[],[]⟩).2 at e
 change ∀ a ∈ ((K.runAll l).run ⟨cs,[],[]⟩).1,a.ok at o
 rw [hr] at e o
 exact ⟨g.1,e,o⟩
theorem impl_stepsR {k j:Nat} {a b:List CellD} {l:List StepD} (ha:StoreN k a) (hk:k+l.length<=60) (hb:WideN j b) (hl:l.length<=5) (hs:∀ s ∈ l,StepAny s) (va vb vs:Value) (w:World) (hg:Glob w) (h0:RdL zu w va a) (h1:RdL zu w vb b) (h2:RdL rStepM w vs l) :
  Calls Tryz.prog 11 #[va,vb,vs] w fun e w'=>e=.returned (.bool true)/\Below w.heap.size w w':=by
 have fa:=Good.fits ha.1 (l:=l) (by omega) (fun s h=>(hs s h).in_)
 have fb:=hb.fits hl (fun s h=>(hs s h).in_)
 obtain ⟨r,m,hr⟩ : ∃ r m,(K.runAll l).run ⟨a,[],[]⟩=(r,m):=⟨_,_,rfl⟩
 obtain ⟨r',m',hr'⟩ : ∃ r m,(K.runAll l).run ⟨b,[],[]⟩=(r,m):=⟨_,_,rfl⟩
 have ga:=small_runR fa hr
 have gb:=small_runR fb hr'
 refine (impl_StepsRestOn va vb vs a b l w hg h0 h1 h2 ha.2.oks hb.2.oks (fun s h=>(hs s h).fine) (Nat.le_trans (Good.len (m:=⟨a,[],[]⟩) ha.1) (by decide)) (Nat.le_trans hb.len (by decide)) (by omega) ga.1 gb.1 r r' m m' hr hr' ga.2.1 gb.2.1 ga.2.2 gb.2.2).mono ?_
 rintro e w' ⟨rfl,hbw⟩
 exact ⟨by rw [rest_true l ha.2 hb.2 hr hr'],hbw⟩
theorem impl_oneR {k j:Nat} {a b:List CellD} {n:Int} {c:CallD} (ha:StoreN k a) (hk:k+1<=60) (hb:WideN j b) (hs:StepAny ⟨n,c⟩) (va vb:Value) (w:World) (hg:Glob w) (h0:RdL zu w va a) (h1:RdL zu w vb b) :
  Calls Tryz.prog 10 #[va,vb,.int .i64 n,zaM c] w fun e w'=>e=.returned (.bool true)/\Below w.heap.size w w':=by
 have hs':∀ s ∈ [(⟨n,c⟩ : StepD)],StepAny s:=by simp only [List.mem_singleton];rintro s rfl;exact hs
 have fa:=Good.fits ha.1 (l:=[⟨n,c⟩]) (by show 1<=_;omega) (fun s h=>(hs' s h).in_)
 have fb:=hb.fits (l:=[⟨n,c⟩]) (by show 1<=5;omega) (fun s h=>(hs' s h).in_)
 obtain ⟨r,m,hr⟩ : ∃ r m,(K.runAll [⟨n,c⟩]).run ⟨a,[],[]⟩=(r,m):=⟨_,_,rfl⟩
 obtain ⟨r',m',hr'⟩ : ∃ r m,(K.runAll [⟨n,c⟩]).run ⟨b,[],[]⟩=(r,m):=⟨_,_,rfl⟩
 have ga:=small_runR fa hr
 have gb:=small_runR fb hr'
 refine (impl_RestsOn va vb a b n c w hg h0 h1 ha.2.oks hb.2.oks hs.fine (Nat.le_trans (Good.len (m:=⟨a,[],[]⟩) ha.1) (by decide)) (Nat.le_trans hb.len (by decide)) ga.1 gb.1 r r' m m' hr hr' ga.2.1 gb.2.1 ga.2.2 gb.2.2).mono ?_
 rintro e w' ⟨rfl,hbw⟩
 exact ⟨by rw [rest_true _ ha.2 hb.2 hr hr'],hbw⟩
theorem one_ok:∀ c ∈ oneC,c.ok:=fun c hc=>by
 simp only [oneC,List.mem_cons,List.not_mem_nil,or_false] at hc
 subst hc
 exact ⟨by decide,by decide⟩
theorem opqA {P:Program} {md:Region.Mode} {ops:Array Oper} {Q:Exit->Act->World->Prop} {fuel:Nat} {listed:Array Bool} {a:Act} {W:World} (S:World->Prop) (h:S W) (H:∀ W0,S W0->wpAny P md ops Q fuel listed a W0):wpAny P md ops Q fuel listed a W:=H W h
theorem smallC_ok {cs:List CellD} (h:∀ c ∈ cs,SmallC c):∀ c ∈ cs,c.ok:=fun c hc=>⟨Nat.le_trans (h c hc).1 (by decide),Nat.le_trans (h c hc).2 (by decide)⟩
theorem one_rd {w:World} {b:Nat} {t:TypeId} (h:w.heap[b]?=some (.cells #[.string ⟨#[97]⟩,.string ⟨#[49]⟩] t (0,0))):RdL zu w (.slice (some ⟨b,0,none⟩) 1 1) oneC:=by
 refine .inr ⟨b,0,1,rfl,?_,?_,fun j u hj=>?_⟩
 ·decide
 ·decide
 ·rw [zb h,Nat.zero_add]
  have e:oneC.flatMap zu.row = [Value.string ⟨#[97]⟩,.string ⟨#[49]⟩]:=rfl
  rw [e] at hj
  simpa using hj
set_option maxHeartbeats 16000000 in
theorem law_FnRestsOn (v:Value) (bs:List UInt8) (W:World) (hgl:Glob W) (hs:Sl W v bs.length (zL bs)) (hb:∀ b,v.ownBlock=some b->b<W.heap.size):Calls Tryz.prog 3 #[v] W (Yes W):=by
 have HS:=Hd hs
 have HBO:=Hd hb
 have HG:=Hd hgl
 unfold Yes
 by_cases hbig : 1048576<bs.length
 ·go_enter Tryz.func3,Tryz.ntmps3
  go_wp2_with fail
  (go_at_call 5;refine (zkD v bs.length _ _ hs).mono ?_;rintro e w' ⟨rfl,rfl⟩)
  go_wp2
  go_ret
  exact ⟨rfl,(by repeat (first|with_reducible exact Below.refl _ _|with_reducible apply Below.ofExt|with_reducible apply Below.ofAlloc|with_reducible apply Below.drew|with_reducible apply Below.ofDrewN|with_reducible assumption|(with_reducible refine Below.setCell ?_ (by first|exact Nat.le_refl _|(simp [go_sem];done)|(simp [go_sem];omega)) _)))⟩
 clear hs hb hgl
 go_enter Tryz.func3,Tryz.ntmps3
 go_wp2_with fail
 (go_at_call 5;refine (zkD v bs.length _ _ HS.out).mono ?_;rintro e w' ⟨rfl,rfl⟩)
 go_wp2_with fail
 (go_at_call 6;refine (spec_DrawRestsOn v bs _ HS.out (by omega) HBO.out).mono ?_;rintro e w1 ⟨va,vb,a,b,n,⟨ck,cn,ct,ca,cb,cx⟩,rfl,ha,hb',hst,hwd,hn,hcc,hb1⟩)
 obtain ⟨a0,a1,rfl⟩:=ha.form
 obtain ⟨b0,b1,rfl⟩:=hb'.form
 have HST:=Hd hst
 have HWD:=Hd hwd
 have HCC:=Hd hcc
 have HSA:Hid (StepAny ⟨n,⟨ck,cn,ct,ca,cb,cx⟩⟩):=⟨hn,hcc⟩
 have HP:Hid (zby n):=⟨by omega,by omega⟩
 have HB:Hid (Below W.heap.size W w1):=hb1
 have Ra:=Hd ha
 have Rb:=Hd hb'
 clear ha hb' hst hwd hn hcc hb1
 obtain ⟨⟨ac,an,ax⟩,m,hm⟩ : ∃ q m,(K.doCall n ⟨ck,cn,ct,ca,cb,cx⟩).run ⟨a,[],[]⟩=(q,m):=⟨_,_,rfl⟩
 have hcov:=only_laid (K.doCall n ⟨ck,cn,ct,ca,cb,cx⟩) a
 rw [hm] at hcov
 dsimp only at hcov
 have hfit:=Mp.fits_end (HST.out.fits (by decide) HP.out (c:=⟨ck,cn,ct,ca,cb,cx⟩) HCC.out.a)
 have hrx:=Right.run (K.doCall n ⟨ck,cn,ct,ca,cb,cx⟩) ⟨a,[],[]⟩ HST.out.2
 rw [hm] at hfit hrx
 have HF:=Hd hfit
 have HRX:=Hd hrx
 have D1:=Hd (fun v w g h=>impl_callR HST.out (by decide) HP.out HCC.out hm v w g h)
 have D2:=Hd (fun va vb w g h0 h1=>impl_oneR HST.out (by decide) HWD.out HSA.out va vb w g h0 h1)
 unfold zaM zdc at D1
 unfold zaM at D2 ⊢
 dsimp only at D1 D2 ⊢
 clear hfit hrx hm
 go_wp2_with fail
 (go_at_call 7;refine (D1.out _ _ (HG.out.below (Below.then HB.out (by repeat (first|with_reducible exact Below.refl _ _|with_reducible apply Below.ofExt|with_reducible apply Below.ofAlloc|with_reducible apply Below.drew|with_reducible apply Below.ofDrewN|with_reducible assumption|(with_reducible refine Below.setCell ?_ (by first|exact Nat.le_refl _|(simp [go_sem];done)|(simp [go_sem];omega)) _))))) (Ra.out.alloc _)).mono ?_;rintro e w2 ⟨v0,s1,s2,rfl,hx,ht,hb⟩)
 have hq:=ht
 obtain ⟨_,_,hh,g1,g2⟩:=hq
 cases hh
 obtain ⟨t0,t3,rfl⟩:=hx.form
 obtain ⟨t1,t4,rfl⟩:=vSlice.form g1
 obtain ⟨t2,t5,rfl⟩:=vSlice.form g2
 replace HB:=Hd (Below.then HB.out (Below.then (by repeat (first|with_reducible exact Below.refl _ _|with_reducible apply Below.ofExt|with_reducible apply Below.ofAlloc|with_reducible apply Below.drew|with_reducible apply Below.ofDrewN|with_reducible assumption|(with_reducible refine Below.setCell ?_ (by first|exact Nat.le_refl _|(simp [go_sem];done)|(simp [go_sem];omega)) _))) hb))
 replace Ra:=Hd ((Ra.out.alloc _).below hb)
 replace Rb:=Hd ((Rb.out.alloc _).below hb)
 have Rx:=Hd hx
 have Tt:=Hd ht
 have X6:=Hd ((hb.block w1.heap.size (by simp)).trans (World.alloc_new w1 (.cells #[.int .i64 ck,.string cn,.string ct,.int .i64 ca,.int .i64 cb,.string cx] 26)))
 clear hx ht g1 g2 hb D1
 go_wp2_with fail
 (go_at_call 8;refine (spec_DrawStepsRestOn v bs _ (HS.out.below (Below.then HB.out (by repeat (first|with_reducible exact Below.refl _ _|with_reducible apply Below.ofExt|with_reducible apply Below.ofAlloc|with_reducible apply Below.drew|with_reducible apply Below.ofDrewN|with_reducible assumption|(with_reducible refine Below.setCell ?_ (by first|exact Nat.le_refl _|(simp [go_sem];done)|(simp [go_sem];omega)) _))))) (by omega) (fun b hb=>by have h1:=HBO.out b hb;have h2:=HB.out.size;simp;omega)).mono ?_;rintro e w3 ⟨vd,ve,vs,d,e',l,rfl,hd,he,hl',hst6,hwd6,hll,hls,hb⟩)
 obtain ⟨d0,d1,rfl⟩:=hd.form
 obtain ⟨e0,e1,rfl⟩:=he.form
 obtain ⟨l0,l1,rfl⟩:=hl'.form
 replace HB:=Hd (Below.then HB.out (Below.then (by repeat (first|with_reducible exact Below.refl _ _|with_reducible apply Below.ofExt|with_reducible apply Below.ofAlloc|with_reducible apply Below.drew|with_reducible apply Below.ofDrewN|with_reducible assumption|(with_reducible refine Below.setCell ?_ (by first|exact Nat.le_refl _|(simp [go_sem];done)|(simp [go_sem];omega)) _))) hb))
 replace X6:=Hd ((hb.block _ (by have:=za X6.out;simp;omega)).trans ((zas _ _ (za X6.out)).trans X6.out))
 replace Ra:=Hd (((Ra.out.alloc _).alloc _).below hb)
 replace Rb:=Hd (((Rb.out.alloc _).alloc _).below hb)
 replace Rx:=Hd (((Rx.out.alloc _).alloc _).below hb)
 replace Tt:=Hd (View.grow _ Tt.out (Grew.below (Below.then (by repeat (first|with_reducible exact Below.refl _ _|with_reducible apply Below.ofExt|with_reducible apply Below.ofAlloc|with_reducible apply Below.drew|with_reducible apply Below.ofDrewN|with_reducible assumption|(with_reducible refine Below.setCell ?_ (by first|exact Nat.le_refl _|(simp [go_sem];done)|(simp [go_sem];omega)) _))) hb)))
 have Rd:=Hd hd
 have Re:=Hd he
 have Rl:=Hd hl'
 have X9:=Hd ((hb.block (w2.heap.size+1) (by first|(simp;done)|(simp;omega))).trans (zaq w2 (.cells #[.int .i64 ac,.int .i64 an,.string ax] 30) (.cells #[.slice t1 m.rd.length t4,.slice t2 m.wr.length t5] 33) w2.heap.size rfl).2)
 have D3:=Hd (fun va vb vs w g h0 h1 h2=>impl_stepsR hst6 (by omega) hwd6 (by omega) hls va vb vs w g h0 h1 h2)
 clear hd he hl' hb hst6 hwd6 hls
 have x9:=X9.out
 have z9:=za x9
 have p90:w3.cell? ⟨w2.heap.size+1,0,none⟩=some (.slice t1 m.rd.length t4):=(zb (i:=0) x9).trans rfl
 have p91:w3.cell? ⟨w2.heap.size+1,1,none⟩=some (.slice t2 m.wr.length t5):=(zb (i:=1) x9).trans rfl
 clear x9
 have x6:=X6.out
 have z6:=za x6
 have p60:w3.cell? ⟨w1.heap.size,0,none⟩=some (.int .i64 ck):=(zb (i:=0) x6).trans rfl
 have p61:w3.cell? ⟨w1.heap.size,1,none⟩=some (.string cn):=(zb (i:=1) x6).trans rfl
 have p62:w3.cell? ⟨w1.heap.size,2,none⟩=some (.string ct):=(zb (i:=2) x6).trans rfl
 have p63:w3.cell? ⟨w1.heap.size,3,none⟩=some (.int .i64 ca):=(zb (i:=3) x6).trans rfl
 have p64:w3.cell? ⟨w1.heap.size,4,none⟩=some (.int .i64 cb):=(zb (i:=4) x6).trans rfl
 have p65:w3.cell? ⟨w1.heap.size,5,none⟩=some (.string cx):=(zb (i:=5) x6).trans rfl
 clear x6
 go_wp2_with fail
 (go_at_call 9;refine (impl_OnlyLaid _ _ a m.cells [.slice t1 m.rd.length t4,.slice t2 m.wr.length t5] ⟨m.rd,m.wr⟩ _ Ra.out Rx.out Tt.out HST.out.2.oks HRX.out.oks (Nat.le_trans (Good.len (m:=⟨a,[],[]⟩) HST.out.1) (by decide)) HF.out.cl).mono ?_;rintro e w4 ⟨rfl,hb⟩)
 rw [hcov]
 clear p90 p91 z9
 clear p60 p61 p62 p63 p64 p65 z6
 replace HB:=Hd (Below.then HB.out hb)
 replace X6:=Hd ((hb.block _ (za X6.out)).trans X6.out)
 replace X9:=Hd ((hb.block _ (za X9.out)).trans X9.out)
 replace Ra:=Hd (Ra.out.below hb)
 replace Rb:=Hd (Rb.out.below hb)
 replace Rx:=Hd (Rx.out.below hb)
 replace Rd:=Hd (Rd.out.below hb)
 replace Re:=Hd (Re.out.below hb)
 replace Rl:=Hd (Rl.out.below hb)
 replace Tt:=Hd (View.grow _ Tt.out (Grew.below hb))
 clear hb
 have x6:=X6.out
 have z6:=za x6
 have p60:w4.cell? ⟨w1.heap.size,0,none⟩=some (.int .i64 ck):=(zb (i:=0) x6).trans rfl
 have p61:w4.cell? ⟨w1.heap.size,1,none⟩=some (.string cn):=(zb (i:=1) x6).trans rfl
 have p62:w4.cell? ⟨w1.heap.size,2,none⟩=some (.string ct):=(zb (i:=2) x6).trans rfl
 have p63:w4.cell? ⟨w1.heap.size,3,none⟩=some (.int .i64 ca):=(zb (i:=3) x6).trans rfl
 have p64:w4.cell? ⟨w1.heap.size,4,none⟩=some (.int .i64 cb):=(zb (i:=4) x6).trans rfl
 have p65:w4.cell? ⟨w1.heap.size,5,none⟩=some (.string cx):=(zb (i:=5) x6).trans rfl
 clear x6
 go_wp2_with fail
 (go_at_call 10;refine (D2.out _ _ _ (HG.out.below HB.out) Ra.out Rb.out).mono ?_;rintro e w5 ⟨rfl,hb⟩)
 clear p60 p61 p62 p63 p64 p65 z6
 clear X6 X9
 clear Ra Rb Rx
 clear Tt
 replace HB:=Hd (Below.then HB.out hb)
 replace Rd:=Hd (Rd.out.below hb)
 replace Re:=Hd (Re.out.below hb)
 replace Rl:=Hd (Rl.out.below hb)
 clear hb D2 HST HWD HF HRX HCC HSA HP hcov
 go_wp2_with fail
 (go_at_call 11;refine (D3.out _ _ _ _ (HG.out.below HB.out) Rd.out Re.out Rl.out).mono ?_;rintro e w6 ⟨rfl,hb⟩)
 clear Rd Re Rl D3
 replace HB:=Hd (Below.then HB.out hb)
 clear hb
 go_wp2_with fail
 (go_at_call 12;refine (spec_DrawAgreeOn v bs _ (HS.out.below HB.out) (by omega) (fun b hb=>by have h1:=HBO.out b hb;have h2:=HB.out.size;omega)).mono ?_;rintro e w7 ⟨vf,vg,vh,f,g,hh,rfl,hf,hg',hs,hlf,hlg,hsf,hsg,hsh,hlh,hb⟩)
 obtain ⟨f0,f1,rfl⟩:=hf.form
 obtain ⟨g0,g1,rfl⟩:=hg'.form
 obtain ⟨h0,h1,rfl⟩:=hs.form
 replace HB:=Hd (Below.then HB.out hb)
 have Rf:=Hd hf
 have Rg:=Hd hg'
 have Rh:=Hd hs
 clear hf hg' hs hb
 go_wp2_with fail
 (go_at_call 13;refine (spec_DrawOnlyLaid v bs _ (HS.out.below HB.out) (by omega) (fun b hb=>by have h1:=HBO.out b hb;have h2:=HB.out.size;omega)).mono ?_;rintro e w8 ⟨vi,vj,vr,vw,i,j,t,rfl,hi,hj,ht,hli,hlj,hsi,hsj,hlt,hb⟩)
 obtain ⟨i0,i1,rfl⟩:=hi.form
 obtain ⟨j0,j1,rfl⟩:=hj.form
 have hq:=ht
 obtain ⟨_,_,hh',g1',g2'⟩:=hq
 cases hh'
 obtain ⟨t1,t4,rfl⟩:=vSlice.form g1'
 obtain ⟨t2,t5,rfl⟩:=vSlice.form g2'
 replace HB:=Hd (Below.then HB.out hb)
 replace Rf:=Hd (Rf.out.below hb)
 replace Rg:=Hd (Rg.out.below hb)
 replace Rh:=Hd (Rh.out.below hb)
 have Ri:=Hd hi
 have Rj:=Hd hj
 have Tt:=Hd ht
 clear hi hj ht hb g1' g2'
 have SF:=Hd hsf
 have SG:=Hd hsg
 have SH:=Hd hsh
 have SI:=Hd hsi
 have SJ:=Hd hsj
 clear hsf hsg hsh hsi hsj
 go_wp2_with fail
 refine zcK (fun W0=>Below W.heap.size W W0/\RdL zu W0 (.slice f0 f.length f1) f/\RdL zu W0 (.slice g0 g.length g1) g/\RdL zx W0 (.slice h0 hh.length h1) hh/\RdL zu W0 (.slice i0 i.length i1) i/\RdL zu W0 (.slice j0 j.length j1) j/\zdf.rd W0 [.slice t1 t.reads.length t4,.slice t2 t.writes.length t5] t/\W0.heap[w8.heap.size]?=some (.cells #[.slice t1 t.reads.length t4,.slice t2 t.writes.length t5] 33 (0,0))/\W0.heap[w8.heap.size+1]?=some (.cells #[.string ⟨#[97]⟩,.string ⟨#[49]⟩] 47 (0,0))) ⟨Below.then HB.out (by repeat (first|with_reducible exact Below.refl _ _|with_reducible apply Below.ofExt|with_reducible apply Below.ofAlloc|with_reducible apply Below.drew|with_reducible apply Below.ofDrewN|with_reducible assumption|(with_reducible refine Below.setCell ?_ (by first|exact Nat.le_refl _|(simp [go_sem];done)|(simp [go_sem];omega)) _))),(Rf.out.alloc _).alloc _,(Rg.out.alloc _).alloc _,(Rh.out.alloc _).alloc _,(Ri.out.alloc _).alloc _,(Rj.out.alloc _).alloc _,View.grow _ Tt.out (Grew.below (by repeat (first|with_reducible exact Below.refl _ _|with_reducible apply Below.ofExt|with_reducible apply Below.ofAlloc|with_reducible apply Below.drew|with_reducible apply Below.ofDrewN|with_reducible assumption|(with_reducible refine Below.setCell ?_ (by first|exact Nat.le_refl _|(simp [go_sem];done)|(simp [go_sem];omega)) _)))),(zaq w8 _ _ w8.heap.size rfl).1,(zaq w8 _ _ w8.heap.size rfl).2⟩ ?_
 rintro w9 ⟨hb9,rf,rg,rh,ri,rj,tt,x18,x19⟩
 clear HB Rf Rg Rh Ri Rj Tt
 have HB:=Hd hb9
 have Rf:=Hd rf
 have Rg:=Hd rg
 have Rh:=Hd rh
 have Ri:=Hd ri
 have Rj:=Hd rj
 have Tt:=Hd tt
 have R1:Hid (RdL zu w9 (.slice (some ⟨w8.heap.size+1,0,none⟩) 1 1) oneC):=one_rd x19
 have z18:=za x18
 have p0:w9.cell? ⟨w8.heap.size,0,none⟩=some (.slice t1 t.reads.length t4):=(zb (i:=0) x18).trans rfl
 have p1:w9.cell? ⟨w8.heap.size,1,none⟩=some (.slice t2 t.writes.length t5):=(zb (i:=1) x18).trans rfl
 clear hb9 rf rg rh ri rj tt x18 x19
 refine wp_region_ordS (by kernel_rfl) (fun hcl=>?_)
 refine opqA (fun W0=>Below w9.heap.size w9 W0) (by repeat (first|with_reducible exact Below.refl _ _|with_reducible apply Below.ofExt|with_reducible apply Below.ofAlloc|with_reducible apply Below.drew|with_reducible apply Below.ofDrewN|with_reducible assumption|(with_reducible refine Below.setCell ?_ (by first|exact Nat.le_refl _|(simp [go_sem];done)|(simp [go_sem];omega)) _))) ?_
 rintro wS0 hbs
 have B0:=Hd hbs
 clear hbs
 have BR:=Hd (Below.refl wS0.heap.size wS0)
 have p2:=(Grew.below B0.out).cell p0
 have p3:=(Grew.below B0.out).cell p1
 have z2:w8.heap.size<wS0.heap.size:=Nat.lt_of_lt_of_le z18 B0.out.size
 refine wpAny_ordW hcl [(0,true),(1,true),(2,true),(4,true),(5,true),(6,true),(3,false),(7,false),(8,true),(9,true)] 10 33 (by as_aux_lemma=>kernel_rfl) ?_
 clear hcl
 repeat (refine zk rfl (fun K hK=>?_);go_simp;(try simp (disch:=omega) only [IntWalk.i64_in]);refine hK _ ?_;clear hK K)
 refine zr rfl (fun K hK=>?_)
 go_simp
 (go_at_call 14;refine (impl_AgreeOn _ _ _ f g hh _ (Rf.out.below (Below.then B0.out BR.out)) (Rg.out.below (Below.then B0.out BR.out)) (RdS.ofL (Rh.out.below (Below.then B0.out BR.out)) (fun s hs=>Nat.le_trans (SH.out s hs) (by decide))) (smallC_ok SF.out) (smallC_ok SG.out) (by omega) (by omega)).mono ?_;rintro e wx1 ⟨rfl,hb⟩;(try go_simp))
 refine hK _ _ (Below.then BR.out hb).ext ?_
 replace BR:=Hd (Below.then BR.out hb)
 
 clear hK K hb
 refine zr rfl (fun K hK=>?_)
 go_simp
 (go_at_call 15;refine (spec_AgreeOn _ _ _ f g hh _ (Rf.out.below (Below.then B0.out BR.out)) (Rg.out.below (Below.then B0.out BR.out)) (RdS.ofL (Rh.out.below (Below.then B0.out BR.out)) (fun s hs=>Nat.le_trans (SH.out s hs) (by decide))) (smallC_ok SF.out) (smallC_ok SG.out) (by omega) (by omega)).mono ?_;rintro e wx2 ⟨rfl,hb⟩;(try go_simp))
 refine hK _ _ (Below.then BR.out hb).ext ?_
 replace BR:=Hd (Below.then BR.out hb)
 
 clear hK K hb
 repeat (refine zk rfl (fun K hK=>?_);go_simp;(try simp (disch:=omega) only [IntWalk.i64_in]);refine hK _ ?_;clear hK K)
 refine zQ ?_
 unfold EndQ
 dsimp only
 intro hcl
 have BRP:=BR
 clear p2 p3 z2
 refine opqA (fun W0=>Below w9.heap.size w9 W0) (Below.then B0.out BRP.out) ?_
 rintro wS1 hbs
 have B1:=Hd hbs
 clear hbs
 clear B0 BR BRP
 have BR:=Hd (Below.refl wS1.heap.size wS1)
 have p2:=(Grew.below B1.out).cell p0
 have p3:=(Grew.below B1.out).cell p1
 have z2:w8.heap.size<wS1.heap.size:=Nat.lt_of_lt_of_le z18 B1.out.size
 refine wpAny_ordW hcl [(10,true),(11,true),(12,true),(14,true),(15,true),(16,true),(13,false),(17,false),(18,true),(19,true),(20,true)] 21 22 (by as_aux_lemma=>kernel_rfl) ?_
 clear hcl
 repeat (refine zk rfl (fun K hK=>?_);go_simp;(try simp (disch:=omega) only [IntWalk.i64_in]);refine hK _ ?_;clear hK K)
 refine zr rfl (fun K hK=>?_)
 go_simp
 (go_at_call 9;refine (impl_OnlyLaid _ _ i j [.slice t1 t.reads.length t4,.slice t2 t.writes.length t5] t _ (Ri.out.below (Below.then B1.out BR.out)) (Rj.out.below (Below.then B1.out BR.out)) (View.grow _ Tt.out (Grew.below (Below.then B1.out BR.out))) (smallC_ok SI.out) (smallC_ok SJ.out) (by omega) (by omega)).mono ?_;rintro e wx3 ⟨rfl,hb⟩;(try go_simp))
 refine hK _ _ (Below.then BR.out hb).ext ?_
 replace BR:=Hd (Below.then BR.out hb)
 
 clear hK K hb
 refine zr rfl (fun K hK=>?_)
 go_simp
 (go_at_call 16;refine (spec_OnlyLaid _ _ i j [.slice t1 t.reads.length t4,.slice t2 t.writes.length t5] t _ (Ri.out.below (Below.then B1.out BR.out)) (Rj.out.below (Below.then B1.out BR.out)) (View.grow _ Tt.out (Grew.below (Below.then B1.out BR.out))) (smallC_ok SI.out) (smallC_ok SJ.out) (by omega) (by omega)).mono ?_;rintro e wx4 ⟨rfl,hb⟩;(try go_simp))
 refine hK _ _ (Below.then BR.out hb).ext ?_
 replace BR:=Hd (Below.then BR.out hb)
 
 clear hK K hb
 repeat (refine zk rfl (fun K hK=>?_);go_simp;(try simp (disch:=omega) only [IntWalk.i64_in]);refine hK _ ?_;clear hK K)
 refine zQ ?_
 unfold EndQ
 dsimp only
 intro hcl
 have BRP:=BR
 clear p2 p3 z2
 refine opqA (fun W0=>Below w9.heap.size w9 W0) (Below.then B1.out BRP.out) ?_
 rintro wS2 hbs
 have B2:=Hd hbs
 clear hbs
 clear B1 BR BRP
 have BR:=Hd (Below.refl wS2.heap.size wS2)
 have p2:=(Grew.below B2.out).cell p0
 have p3:=(Grew.below B2.out).cell p1
 have z2:w8.heap.size<wS2.heap.size:=Nat.lt_of_lt_of_le z18 B2.out.size
 refine wpAny_ordW hcl [(21,true),(22,true),(23,true),(25,true),(26,true),(27,true),(24,false),(28,false),(29,false),(30,true),(31,true)] 32 11 (by as_aux_lemma=>kernel_rfl) ?_
 clear hcl
 repeat (refine zk rfl (fun K hK=>?_);go_simp;(try simp (disch:=omega) only [IntWalk.i64_in]);refine hK _ ?_;clear hK K)
 refine zr rfl (fun K hK=>?_)
 go_simp
 (go_at_call 18;refine (impl_LaidOver _ _ i j [.slice t1 t.reads.length t4,.slice t2 t.writes.length t5] t _ (Ri.out.below (Below.then B2.out BR.out)) (Rj.out.below (Below.then B2.out BR.out)) (View.grow _ Tt.out (Grew.below (Below.then B2.out BR.out))) (by omega) (by omega)).mono ?_;rintro e wx5 ⟨vL1,rfl,ho,hb⟩;obtain ⟨aL1,kL1,rfl⟩:=ho.rd.form;(try go_simp))
 refine hK _ _ (Below.then BR.out hb).ext ?_
 replace BR:=Hd (Below.then BR.out hb)
 have HL1:=Hd ho.rd
 clear ho
 clear hK K hb
 refine zr rfl (fun K hK=>?_)
 go_simp
 (go_at_call 19;refine (spec_LaidOver _ _ i j [.slice t1 t.reads.length t4,.slice t2 t.writes.length t5] t _ (Ri.out.below (Below.then B2.out BR.out)) (Rj.out.below (Below.then B2.out BR.out)) (View.grow _ Tt.out (Grew.below (Below.then B2.out BR.out))) (by omega) (by omega)).mono ?_;rintro e wx6 ⟨vL2,rfl,ho,hb⟩;obtain ⟨aL2,kL2,rfl⟩:=ho.rd.form;(try go_simp))
 refine hK _ _ (Below.then BR.out hb).ext ?_
 replace BR:=Hd (Below.then BR.out hb)
 have HL2:=Hd ho.rd
 clear ho
 replace HL1:=Hd (HL1.out.below hb)
 clear hK K hb
 refine zr rfl (fun K hK=>?_)
 go_simp
 (go_at_call 17;refine (zhg _ _ (laidC i j t.writes) _ HL1.out HL2.out).mono ?_;rintro e wx7 ⟨rfl,hb⟩;(try go_simp))
 refine hK _ _ (Below.then BR.out hb).ext ?_
 replace BR:=Hd (Below.then BR.out hb)
 
 clear hK K hb
 repeat (refine zk rfl (fun K hK=>?_);go_simp;(try simp (disch:=omega) only [IntWalk.i64_in]);refine hK _ ?_;clear hK K)
 refine zQ ?_
 unfold EndQ
 dsimp only
 intro hcl
 have BRP:=BR
 clear p2 p3 z2
 refine opqA (fun W0=>Below w9.heap.size w9 W0) (Below.then B2.out BRP.out) ?_
 rintro wS3 hbs
 have B3:=Hd hbs
 clear hbs
 clear B2 BR BRP
 have BR:=Hd (Below.refl wS3.heap.size wS3)
 have p2:=(Grew.below B3.out).cell p0
 have p3:=(Grew.below B3.out).cell p1
 have z2:w8.heap.size<wS3.heap.size:=Nat.lt_of_lt_of_le z18 B3.out.size
 refine wpAny_ordW hcl [(32,true),(33,false),(34,false),(35,true),(36,true),(37,true)] 38 5 (by as_aux_lemma=>kernel_rfl) ?_
 clear hcl
 repeat (refine zk rfl (fun K hK=>?_);go_simp;(try simp (disch:=omega) only [IntWalk.i64_in]);refine hK _ ?_;clear hK K)
 refine zr rfl (fun K hK=>?_)
 go_simp
 refine hK _ _ (Below.then BR.out (by repeat (first|with_reducible exact Below.refl _ _|with_reducible apply Below.ofExt|with_reducible apply Below.ofAlloc|with_reducible apply Below.drew|with_reducible apply Below.ofDrewN|with_reducible assumption|(with_reducible refine Below.setCell ?_ (by first|exact Nat.le_refl _|(simp [go_sem];done)|(simp [go_sem];omega)) _)))).ext ?_
 clear hK K
 refine zr rfl (fun K hK=>?_)
 go_simp
 (go_at_call 14;refine (impl_AgreeOn _ _ _ oneC [] [⟨#[97]⟩] _ (R1.out.below (Below.then B3.out (Below.then BR.out (by repeat (first|with_reducible exact Below.refl _ _|with_reducible apply Below.ofExt|with_reducible apply Below.ofAlloc|with_reducible apply Below.drew|with_reducible apply Below.ofDrewN|with_reducible assumption|(with_reducible refine Below.setCell ?_ (by first|exact Nat.le_refl _|(simp [go_sem];done)|(simp [go_sem];omega)) _)))))) (RdL.nil _ _) (RdS.ofL (RdL.oneAt zx _ ⟨#[97]⟩ _ rfl _ _ rfl) (by decide)) one_ok (by simp) (by decide) (by decide)).mono ?_;rintro e wx8 ⟨rfl,hb⟩;rw [show (!((diffC oneC []).any (zbR [⟨#[97]⟩])))=agreeOn oneC [] [⟨#[97]⟩] from rfl,one_a];(try go_simp))
 refine hK _ _ (Below.then (Below.then BR.out (by repeat (first|with_reducible exact Below.refl _ _|with_reducible apply Below.ofExt|with_reducible apply Below.ofAlloc|with_reducible apply Below.drew|with_reducible apply Below.ofDrewN|with_reducible assumption|(with_reducible refine Below.setCell ?_ (by first|exact Nat.le_refl _|(simp [go_sem];done)|(simp [go_sem];omega)) _)))) hb).ext ?_
 replace BR:=Hd (Below.then (Below.then BR.out (by repeat (first|with_reducible exact Below.refl _ _|with_reducible apply Below.ofExt|with_reducible apply Below.ofAlloc|with_reducible apply Below.drew|with_reducible apply Below.ofDrewN|with_reducible assumption|(with_reducible refine Below.setCell ?_ (by first|exact Nat.le_refl _|(simp [go_sem];done)|(simp [go_sem];omega)) _)))) hb)
 
 clear hK K hb
 repeat (refine zk rfl (fun K hK=>?_);go_simp;(try simp (disch:=omega) only [IntWalk.i64_in]);refine hK _ ?_;clear hK K)
 refine zQ ?_
 unfold EndQ
 dsimp only
 intro hcl
 have BRP:=BR
 clear p2 p3 z2
 refine opqA (fun W0=>Below w9.heap.size w9 W0) (Below.then B3.out BRP.out) ?_
 rintro wS4 hbs
 have B4:=Hd hbs
 clear hbs
 clear B3 BR BRP
 have BR:=Hd (Below.refl wS4.heap.size wS4)
 have p2:=(Grew.below B4.out).cell p0
 have p3:=(Grew.below B4.out).cell p1
 have z2:w8.heap.size<wS4.heap.size:=Nat.lt_of_lt_of_le z18 B4.out.size
 refine wpAny_ordW hcl [(38,true),(39,false),(40,false),(41,false),(42,false)] 41 0 (by as_aux_lemma=>kernel_rfl) ?_
 clear hcl
 repeat (refine zk rfl (fun K hK=>?_);go_simp;(try simp (disch:=omega) only [IntWalk.i64_in]);refine hK _ ?_;clear hK K)
 refine zr rfl (fun K hK=>?_)
 go_simp
 refine hK _ _ (Below.then BR.out (by repeat (first|with_reducible exact Below.refl _ _|with_reducible apply Below.ofExt|with_reducible apply Below.ofAlloc|with_reducible apply Below.drew|with_reducible apply Below.ofDrewN|with_reducible assumption|(with_reducible refine Below.setCell ?_ (by first|exact Nat.le_refl _|(simp [go_sem];done)|(simp [go_sem];omega)) _)))).ext ?_
 clear hK K
 refine zr rfl (fun K hK=>?_)
 go_simp
 (go_at_call 14;refine (impl_AgreeOn _ _ _ oneC [] [⟨#[98]⟩] _ (R1.out.below (Below.then B4.out (Below.then BR.out (by repeat (first|with_reducible exact Below.refl _ _|with_reducible apply Below.ofExt|with_reducible apply Below.ofAlloc|with_reducible apply Below.drew|with_reducible apply Below.ofDrewN|with_reducible assumption|(with_reducible refine Below.setCell ?_ (by first|exact Nat.le_refl _|(simp [go_sem];done)|(simp [go_sem];omega)) _)))))) (RdL.nil _ _) (RdS.ofL (RdL.oneAt zx _ ⟨#[98]⟩ _ rfl _ _ rfl) (by decide)) one_ok (by simp) (by decide) (by decide)).mono ?_;rintro e wx9 ⟨rfl,hb⟩;rw [show (!((diffC oneC []).any (zbR [⟨#[98]⟩])))=agreeOn oneC [] [⟨#[98]⟩] from rfl,one_b];(try go_simp))
 refine hK _ _ (Below.then (Below.then BR.out (by repeat (first|with_reducible exact Below.refl _ _|with_reducible apply Below.ofExt|with_reducible apply Below.ofAlloc|with_reducible apply Below.drew|with_reducible apply Below.ofDrewN|with_reducible assumption|(with_reducible refine Below.setCell ?_ (by first|exact Nat.le_refl _|(simp [go_sem];done)|(simp [go_sem];omega)) _)))) hb).ext ?_
 replace BR:=Hd (Below.then (Below.then BR.out (by repeat (first|with_reducible exact Below.refl _ _|with_reducible apply Below.ofExt|with_reducible apply Below.ofAlloc|with_reducible apply Below.drew|with_reducible apply Below.ofDrewN|with_reducible assumption|(with_reducible refine Below.setCell ?_ (by first|exact Nat.le_refl _|(simp [go_sem];done)|(simp [go_sem];omega)) _)))) hb)
 
 clear hK K hb
 refine zr rfl (fun K hK=>?_)
 go_simp
 refine hK _ _ BR.out.ext ?_
 clear hK K
 refine zr rfl (fun K hK=>?_)
 go_simp
 refine hK _ _ BR.out.ext ?_
 clear hK K
 refine zQ ?_
 unfold EndQ
 dsimp only
 intro hcl
 have BRP:=BR
 clear p2 p3 z2
 refine wpAny_done (by kernel_rfl) ?_ _
 unfold zbX
 dsimp only
 go_wp2
 go_ret
 exact ⟨rfl,Below.then HB.out (Below.then B4.out BRP.out)⟩
end Go.Proofs.YtpnoehpmgflibaaGreatDoor
