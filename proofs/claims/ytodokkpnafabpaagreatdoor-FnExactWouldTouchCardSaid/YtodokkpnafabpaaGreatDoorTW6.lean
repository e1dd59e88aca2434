/- Walks. Each condition stands in its theorem. -/
import Derived.Test.YtodokkpnafabpaaGreatDoorCA38
import Derived.Test.YtodokkpnafabpaaGreatDoorTW4
import Derived.Test.YtodokkpnafabpaaGreatDoorTW5
set_option linter.unusedVariables false
set_option linter.unusedSimpArgs false
set_option maxRecDepth 100000
set_option maxHeartbeats 8000000
namespace Go.Proofs.YtodokkpnafabpaaGreatDoor
open Go.ChangeShapes Go.WideShapes Go.ChangeAt Go.RowKit
def zqA (zs:List CellD) (d:TxD) (c:CallD):AnswerD × MachD:=(K.doCall d.proc c).run ⟨zqh zs d,[],[]⟩
theorem zqK (v:Value) (ct:List Value) (zs:List CellD) (d:TxD) (c:CallD) (w:World) (h:RdL zu w v zs) (ht:vTx.rd w ct d) (hf:∀ s ∈ zqa d,s.fine) (hl:zs.length<=1048576) (hl2:d.calls.length<=1048576) (hfit:zfM (zqa d) ⟨zs,[],[]⟩) (hp:InR d.proc) (hc:c.ok) (ha:InR c.a) (hb:InR c.b) (hfit2:(K.doCall d.proc c).fits ⟨zqh zs d,[],[]⟩) :
  Calls Tryz.prog 7 #[v,.agg ct.toArray,zbx c] w fun e w'=>∃ v1 v2,e=.returned (.agg #[v1,v2])/\RdL zx w' v1 (zqA zs d c).2.rd/\RdL zx w' v2 (zqA zs d c).2.wr/\Below w.heap.size w w':=by
 have D1:=Hd (fun w' (hB:Below w.heap.size w w')=>zqax v ct zs d w' (h.below hB) (View.grow _ ht (Grew.below hB)) hf hl hl2 hfit)
 have hsm:=Mp.fits_end hfit2
 have D2:Hid (∀ W u,RdL zu W u (zqh zs d)->Below w.heap.size w W->Calls Tryz.prog 24 #[u,.int .i64 d.proc,zbx c] W fun e w'=>∃ c0 c1 c2,e=.returned (.tuple #[c0,zbO (zqA zs d c).1,.agg #[c1,c2]])/\(RdL zx w' c1 (zqA zs d c).2.rd/\RdL zx w' c2 (zqA zs d c).2.wr)/\Below W.heap.size W w'):=Hd (fun W u hu _=>(zhT u (zqh zs d) d.proc hp.1 hp.2 c hc ha.1 ha.2 hb.1 hb.2 W hu hfit2).mono fun e w' ⟨c0,c1,c2,e1,⟨_,_,_,e2,h0,h1,h2⟩,h3⟩=>by
  cases e2
  exact ⟨c0,c1,c2,e1,⟨h1,h2⟩,h3⟩)
 obtain ⟨an,m,hr⟩ : ∃ an m,zqA zs d c=(an,m):=⟨_,_,rfl⟩
 rw [show (K.doCall d.proc c).run ⟨zqh zs d,[],[]⟩=(an,m) from hr] at hsm
 rw [hr] at D2 ⊢
 dsimp only at D2 hsm ⊢
 have HR:Hid (RUp (fun W c d=>RdL zx W c m.rd/\RdL zx W d m.wr)):=Hd (rup_rd hsm.rn hsm.wn)
 obtain ⟨vv,hvv⟩ : ∃ vv,zqh zs d=vv:=⟨_,rfl⟩
 rw [hvv] at D1 D2
 obtain ⟨a0,c0,a1,c1,a2,c2,a3,c3,a4,c4,rfl⟩:=zqk ht
 obtain ⟨az,cz,rfl⟩:=h.form
 obtain ⟨kd,nm,tn,ca,cb,tx⟩:=c
 unfold zbx at D2 ⊢
 clear hr h ht hf hfit hfit2 hp hc ha hb hsm hvv
 go_enter Tryz.func7,Tryz.ntmps7
 (repeat (first|go_skip|go_guarded|go_step|go_upon|go_back))
 refine zcm (fun L a W=>∃ x11 x12 x13 x14 x15 x16 x17 x10 x18 x19 x20 x8 x9 x7,a=⟨#[.slice az zs.length cz,.agg #[.int .i64 d.id,.int .i64 d.age,.int .i64 d.proc,.int .i64 d.began,.slice a0 d.calls.length c0,.slice a1 d.answers.length c1,.slice a2 d.touch.reads.length c2,.slice a3 d.touch.writes.length c3,.slice a4 d.marks.length c4,.int .i64 d.state],.agg #[.int .i64 kd,.string nm,.string tn,.int .i64 ca,.int .i64 cb,.string tx],undef,.pointer (some ⟨w.heap.size,0,none⟩),.pointer (some ⟨w.heap.size+1,0,none⟩),.pointer (some ⟨w.heap.size+1+1,0,none⟩),x7,x8,x9,x10,x11,x12,x13,x14,x15,x16,x17,x18,x19,x20,undef],[]⟩/\WI w (.slice az zs.length cz) (.agg #[.int .i64 d.id,.int .i64 d.age,.int .i64 d.proc,.int .i64 d.began,.slice a0 d.calls.length c0,.slice a1 d.answers.length c1,.slice a2 d.touch.reads.length c2,.slice a3 d.touch.writes.length c3,.slice a4 d.marks.length c4,.int .i64 d.state]) d.proc ⟨kd,nm,tn,ca,cb,tx⟩ vv an (.cells #[.int .i64 d.id,.int .i64 d.age,.int .i64 d.proc,.int .i64 d.began,.slice a0 d.calls.length c0,.slice a1 d.answers.length c1,.slice a2 d.touch.reads.length c2,.slice a3 d.touch.writes.length c3,.slice a4 d.marks.length c4,.int .i64 d.state] 43) (.cells #[.int .i64 kd,.string nm,.string tn,.int .i64 ca,.int .i64 cb,.string tx] 45) (fun W c d=>RdL zx W c m.rd/\RdL zx W d m.wr) L W x11 x12 x13 x14 x15 x16 x17 x10 x18 x19 x20 x8 x9 x7) (by kernel_rfl) ?_ ?_ ?_
 ·have N:∀ j,¬ (Array.replicate 16 false).getD j false=true:=zh0 16
  have h3:=ziA w (.cells #[.int .i64 d.id,.int .i64 d.age,.int .i64 d.proc,.int .i64 d.began,.slice a0 d.calls.length c0,.slice a1 d.answers.length c1,.slice a2 d.touch.reads.length c2,.slice a3 d.touch.writes.length c3,.slice a4 d.marks.length c4,.int .i64 d.state] 43) (.cells #[.int .i64 kd,.string nm,.string tn,.int .i64 ca,.int .i64 cb,.string tx] 45) (.cells #[.slice none 0 0,.slice none 0 0] 36) w.heap.size rfl
  refine ⟨_,_,_,_,_,_,_,_,_,_,_,_,_,_,rfl,⟨by simp,fun k=>absurd k (N _),fun k=>absurd k (N _),HR.out,(by repeat (first|with_reducible exact Below.refl _ _|with_reducible apply Below.ofAlloc|with_reducible apply Below.drew)),h3.1,h3.2.1,h3.2.2,fun k=>absurd k (N _),fun k=>absurd k (N _),fun k=>absurd k (N _),fun k=>absurd k (N _),fun k=>absurd k (N _),fun k=>absurd k (N _),fun k=>absurd k (N _),fun k=>absurd k (N _),fun k=>absurd k (N _),fun k=>absurd k (N _),fun k=>absurd k (N _),fun k=>absurd k (N _),fun k=>absurd k (N _),fun k=>absurd k (N _)⟩⟩
 ·rintro L a W i ⟨x11,x12,x13,x14,x15,x16,x17,x10,x18,x19,x20,x8,x9,x7,rfl,H⟩ hi
  have hlt:=zgD hi
  have hun:=zgC hi
  have hW:Hid (∀ j,zdD _ i j=true->L.getD j false=true):=fun j h=>zdp hi h
  have h16:i<16:=hlt
  clear hlt hi
  have hcs:i=0 ∨ i=1 ∨ i=2 ∨ i=3 ∨ i=4 ∨ i=5 ∨ i=6 ∨ i=7 ∨ i=8 ∨ i=9 ∨ i=10 ∨ i=11 ∨ i=12 ∨ i=13 ∨ i=14 ∨ i=15:=by omega
  clear h16
  rcases hcs with rfl|rfl|rfl|rfl|rfl|rfl|rfl|rfl|rfl|rfl|rfl|rfl|rfl|rfl|rfl|rfl
  ·refine zN rfl (fun K hK=>?_)
   go_simp
   refine hK _ _ ⟨_,_,_,_,_,_,_,_,_,_,_,_,_,_,rfl,H.set (i:=0) (by decide) (by decide) (by decide) (by simp) (by simp) (by simp) (by simp) (by simp) (by simp) (by simp) (by simp) (by simp) (by simp) (by simp) (by simp) (by simp) (by simp)⟩
  ·have hx:=H.X
   have hz:=za hx
   obtain ⟨p0,p1,p2,p3,p4,p5,p6,p7,p8,p9⟩:=Zc10 hx
   refine zN rfl (fun K hK=>?_)
   go_simp
   refine hK _ _ ⟨_,_,_,_,_,_,_,_,_,_,_,_,_,_,rfl,H.set (i:=1) (by decide) (by decide) (by decide) (by simp) (by rw [if_pos rfl]) (by simp) (by simp) (by simp) (by simp) (by simp) (by simp) (by simp) (by simp) (by simp) (by simp) (by simp) (by simp)⟩
  ·obtain rfl:=H.f0 (hW.out 0 (by kernel_rfl))
   obtain rfl:=H.f1 (hW.out 1 (by kernel_rfl))
   refine zN rfl (fun K hK=>?_)
   go_simp
   go_at_call 25
   refine (D1.out W H.bel).mono ?_
   rintro e W' ⟨u,rfl,ho,hb⟩
   try go_simp
   refine hK _ _ ⟨_,_,_,_,_,_,_,_,_,_,_,_,_,_,rfl,(H.grow (hb)).set (i:=2) (by decide) (by decide) (by decide) (by simp) (by simp) (by rw [if_pos rfl];exact ho) (by simp) (by simp) (by simp) (by simp) (by simp) (by simp) (by simp) (by simp) (by simp) (by simp) (by simp)⟩
  ·refine zN rfl (fun K hK=>?_)
   go_simp
   refine hK _ _ ⟨_,_,_,_,_,_,_,_,_,_,_,_,_,_,rfl,H.set (i:=3) (by decide) (by decide) (by decide) (by simp) (by simp) (by simp) (by simp) (by simp) (by simp) (by simp) (by simp) (by simp) (by simp) (by simp) (by simp) (by simp) (by simp)⟩
  ·obtain rfl:=H.f3 (hW.out 3 (by kernel_rfl))
   have hx:=H.X
   have hz:=za hx
   have p2:W.cell? ⟨w.heap.size,2,none⟩=some (.int .i64 d.proc):=(zd (i:=2) hx).trans rfl
   refine zN rfl (fun K hK=>?_)
   go_simp
   refine hK _ _ ⟨_,_,_,_,_,_,_,_,_,_,_,_,_,_,rfl,H.set (i:=4) (by decide) (by decide) (by decide) (by simp) (by simp) (by simp) (by simp) (by simp) (by simp) (by simp) (by simp) (by simp) (by simp) (by simp) (by simp) (by simp) (by simp)⟩
  ·have hx:=H.C
   have hz:=za hx
   obtain ⟨p0,p1,p2,p3,p4,p5⟩:=Zc6 hx
   refine zN rfl (fun K hK=>?_)
   go_simp
   refine hK _ _ ⟨_,_,_,_,_,_,_,_,_,_,_,_,_,_,rfl,H.set (i:=5) (by decide) (by decide) (by decide) (by simp) (by simp) (by simp) (by simp) (by simp) (by rw [if_pos rfl];rfl) (by simp) (by simp) (by simp) (by simp) (by simp) (by simp) (by simp) (by simp)⟩
  ·have h2:=H.f2 (hW.out 2 (by kernel_rfl))
   obtain rfl:=H.f4 (hW.out 4 (by kernel_rfl))
   obtain rfl:=H.f5 (hW.out 5 (by kernel_rfl))
   unfold zbx
   refine zN rfl (fun K hK=>?_)
   go_simp
   go_at_call 24
   refine (D2.out W _ h2 H.bel).mono ?_
   rintro e W' ⟨c0,c1,c2,rfl,hm,hb⟩
   try go_simp
   refine hK _ _ ⟨_,_,_,_,_,_,_,_,_,_,_,_,_,_,rfl,(H.grow (hb)).set (i:=6) (by decide) (by decide) (by decide) (by simp) (by simp) (by simp) (by simp) (by simp) (by ((rw [if_neg (by decide)];rfl))) (by rw [if_pos rfl];exact ⟨_,_,_,rfl,hm⟩) (by simp) (by simp) (by simp) (by simp) (by simp) (by simp) (by simp)⟩
  ·obtain ⟨c0,c1,c2,e1,hm1⟩:=H.f6 (hW.out 6 (by kernel_rfl))
   rw [e1] at H ⊢
   refine zN rfl (fun K hK=>?_)
   go_simp
   refine hK _ _ ⟨_,_,_,_,_,_,_,_,_,_,_,_,_,_,rfl,H.set (i:=7) (by decide) (by decide) (by decide) (by simp) (by simp) (by simp) (by simp) (by simp) (by simp) (by simp) (by rw [if_pos rfl];exact ⟨_,_,_,rfl,hm1⟩) (by simp) (by simp) (by simp) (by simp) (by simp) (by simp)⟩
  ·obtain ⟨c0,c1,c2,e1,hm1⟩:=H.f7 (hW.out 7 (by kernel_rfl))
   rw [e1] at H ⊢
   refine zN rfl (fun K hK=>?_)
   go_simp
   refine hK _ _ ⟨_,_,_,_,_,_,_,_,_,_,_,_,_,_,rfl,H.set (i:=8) (by decide) (by decide) (by decide) (by simp) (by simp) (by simp) (by simp) (by simp) (by simp) (by simp) (by simp) (by simp) (by simp) (by simp) (by simp) (by simp) (by simp)⟩
  ·obtain ⟨c0,c1,c2,e1,hm1⟩:=H.f7 (hW.out 7 (by kernel_rfl))
   rw [e1] at H ⊢
   refine zN rfl (fun K hK=>?_)
   go_simp
   refine hK _ _ ⟨_,_,_,_,_,_,_,_,_,_,_,_,_,_,rfl,H.set (i:=9) (by decide) (by decide) (by decide) (by simp) (by simp) (by simp) (by simp) (by simp) (by simp) (by simp) (by simp) (by simp) (by rw [if_pos rfl]) (by simp) (by simp) (by simp) (by simp)⟩
  ·obtain ⟨c0,c1,c2,e1,hm1⟩:=H.f7 (hW.out 7 (by kernel_rfl))
   rw [e1] at H ⊢
   refine zN rfl (fun K hK=>?_)
   go_simp
   refine hK _ _ ⟨_,_,_,_,_,_,_,_,_,_,_,_,_,_,rfl,H.set (i:=10) (by decide) (by decide) (by decide) (by simp) (by simp) (by simp) (by simp) (by simp) (by simp) (by simp) (by simp) (by simp) (by simp) (by rw [if_pos rfl];exact ⟨_,_,rfl,hm1⟩) (by simp) (by simp) (by simp)⟩
  ·have k14:L.getD 14 false=false:=by cases h:L.getD 14 false with|false=>rfl|true=>exact absurd (H.c14 h) (by rw [hun];decide)
   have hq1:=za H.P
   refine zN rfl (fun K hK=>?_)
   go_simp
   refine hK _ _ ⟨_,_,_,_,_,_,_,_,_,_,_,_,_,_,rfl,(H.grow (Below.ofAlloc (Below.refl _ _) _)).set (i:=11) (by decide) (by decide) (by decide) (by simp) (by simp) (by simp) (by simp) (by simp) (by simp) (by simp) (by simp) (by simp) (by simp) (by simp) (by rw [if_pos rfl];exact ⟨_,rfl,by omega,.inl ⟨k14,heap_alloc_new _ _⟩⟩) (by simp) (by simp)⟩
  ·have k15:L.getD 15 false=false:=by cases h:L.getD 15 false with|false=>rfl|true=>exact absurd (H.c15 h) (by rw [hun];decide)
   have hq1:=za H.P
   refine zN rfl (fun K hK=>?_)
   go_simp
   refine hK _ _ ⟨_,_,_,_,_,_,_,_,_,_,_,_,_,_,rfl,(H.grow (Below.ofAlloc (Below.refl _ _) _)).set (i:=12) (by decide) (by decide) (by decide) (by simp) (by simp) (by simp) (by simp) (by simp) (by simp) (by simp) (by simp) (by simp) (by simp) (by simp) (by simp) (by rw [if_pos rfl];exact ⟨_,rfl,by omega,.inl ⟨k15,heap_alloc_new _ _⟩⟩) (by simp)⟩
  ·refine zN rfl (fun K hK=>?_)
   go_simp
   refine hK _ _ ⟨_,_,_,_,_,_,_,_,_,_,_,_,_,_,rfl,H.set (i:=13) (by decide) (by decide) (by decide) (by simp) (by simp) (by simp) (by simp) (by simp) (by simp) (by simp) (by simp) (by simp) (by simp) (by simp) (by simp) (by simp) (by simp)⟩
  ·obtain ⟨b,rfl,rfl,hB,H'⟩:=H.st14 (hW.out 9 (by kernel_rfl)) (hW.out 11 (by kernel_rfl)) hun
   have e1:=zf hB
   have hz:=za hB
   unfold zbO
   refine zN rfl (fun K hK=>?_)
   rw [<- e1]
   clear e1
   go_simp
   exact hK _ _ ⟨_,_,_,_,_,_,_,_,_,_,_,_,_,_,rfl,H'⟩
  ·obtain ⟨b,u0,u1,rfl,rfl,⟨⟨_,_,_,rfl⟩,_,_,_,rfl⟩,hB,H'⟩:=H.st15 (hW.out 10 (by kernel_rfl)) (hW.out 12 (by kernel_rfl)) hun
   have e1:=zf hB
   have hz:=za hB
   refine zN rfl (fun K hK=>?_)
   rw [<- e1]
   clear e1
   go_simp
   exact hK _ _ ⟨_,_,_,_,_,_,_,_,_,_,_,_,_,_,rfl,H'⟩
 ·rintro L a W ⟨x11,x12,x13,x14,x15,x16,x17,x10,x18,x19,x20,x8,x9,x7,rfl,H⟩ hr
  have hall:=zej (ops:=_) H.sz hr (zcu (by kernel_rfl))
  obtain ⟨b9,rfl,hb9,h9⟩:=H.f12 (hall 12 (by decide))
  have k15:=hall 15 (by decide)
  rcases h9 with h9|⟨_,u0,u1,h9,hm⟩
  ·rw [k15] at h9;cases h9.1
  obtain ⟨⟨_,_,_,rfl⟩,_,_,_,rfl⟩:=HR.out.shp hm
  have hP:=H.P
  have HB:=Hd H.bel
  have y2:=za hP
  have z9:=za h9
  have HM:=Hd (fun o=>HR.out.tch hm hP o)
  have p0:∀ o,(W.setB (w.heap.size+1+1) o).cell? ⟨b9,0,none⟩=some _:=fun o=>(zd (i:=0) ((World.setB_get _ _ _ _ (by omega)).trans h9)).trans rfl
  have p1:∀ o,(W.setB (w.heap.size+1+1) o).cell? ⟨b9,1,none⟩=some _:=fun o=>(zd (i:=1) ((World.setB_get _ _ _ _ (by omega)).trans h9)).trans rfl
  have e1:=zf hP
  rw [<- e1]
  clear e1 hP h9 hm H hall k15 hr
  (repeat (first|go_skip|go_guarded|go_step|go_upon|go_back))
  refine bodyPost_ret (by simp [results,Tryz.results7,go_sem,y2];rfl) rfl ?_
  exact ⟨_,_,rfl,(HM.out _).1,(HM.out _).2,zr HB.out (by omega) _⟩
theorem zqt (v:Value) (ct:List Value) (zs:List CellD) (d:TxD) (c:CallD) (w:World) (hg:Glob w) (h:RdL zu w v zs) (ht:vTx.rd w ct d) (hf:∀ s ∈ zqa d,s.fine) (hl:zs.length<=1048576) (hl2:d.calls.length<=1048576) (hfit:(K.runAll (zqa d)).fits ⟨zs,[],[]⟩) (hvl:(zqh zs d).length<=549755813888) (hp:InR d.proc) (hc:c.ok) (ha:InR c.a) (hb:InR c.b) (hfit2:(K.doCall d.proc c).fits ⟨zqh zs d,[],[]⟩) :
  Calls Tryz.prog 11 #[v,.agg ct.toArray,zbx c] w fun e w'=>∃ v1 v2,e=.returned (.agg #[v1,v2])/\OwnL zx 9 w' w.heap.size v1 (zqA zs d c).2.rd/\OwnL zx 9 w' w.heap.size v2 (zqA zs d c).2.wr/\(∀ k,v1.ownBlock=some k->v2.ownBlock ≠ some k)/\Below w.heap.size w w':=by
 have D1:=Hd (fun w' (hB:Below w.heap.size w w')=>zqaF v ct zs d w' (hg.below hB) (h.below hB) (View.grow _ ht (Grew.below hB)) hf hl hl2 hfit)
 have hsm:=Mp.fits_end hfit2
 have D2:Hid (∀ W u,RdL zu W u (zqh zs d)->Below w.heap.size w W->Calls Tryz.prog 31 #[u,.int .i64 d.proc,zbx c] W fun e w'=>∃ c0 c1 c2,e=.returned (.tuple #[c0,zbO (zqA zs d c).1,.agg #[c1,c2]])/\(OwnL zx 9 w' w.heap.size c1 (zqA zs d c).2.rd/\OwnL zx 9 w' w.heap.size c2 (zqA zs d c).2.wr/\∀ k,c1.ownBlock=some k->c2.ownBlock ≠ some k)/\Below W.heap.size W w'):=Hd (fun W u hu hB=>(zqaG u (zqh zs d) d.proc hp.1 hp.2 c hc ha.1 ha.2 hb.1 hb.2 W (hg.below hB) hu (by omega) hfit2).mono fun e w' ⟨c0,c1,c2,e1,h1,h2,h4,h3⟩=>⟨c0,c1,c2,e1,⟨h1.base hB.size,h2.base hB.size,h4⟩,h3⟩)
 obtain ⟨an,m,hr⟩ : ∃ an m,zqA zs d c=(an,m):=⟨_,_,rfl⟩
 rw [show (K.doCall d.proc c).run ⟨zqh zs d,[],[]⟩=(an,m) from hr] at hsm
 rw [hr] at D2 ⊢
 dsimp only at D2 hsm ⊢
 have HR:Hid (RUp (fun W c d=>OwnL zx 9 W w.heap.size c m.rd/\OwnL zx 9 W w.heap.size d m.wr/\∀ k,c.ownBlock=some k->d.ownBlock ≠ some k)):=Hd (zqaM)
 obtain ⟨vv,hvv⟩ : ∃ vv,zqh zs d=vv:=⟨_,rfl⟩
 rw [hvv] at D1 D2
 obtain ⟨a0,c0,a1,c1,a2,c2,a3,c3,a4,c4,rfl⟩:=zqk ht
 obtain ⟨az,cz,rfl⟩:=h.form
 obtain ⟨kd,nm,tn,ca,cb,tx⟩:=c
 unfold zbx at D2 ⊢
 clear hr h ht hf hfit hfit2 hp hc ha hb hsm hvv hg hvl
 go_enter Tryz.func11,Tryz.ntmps11
 (repeat (first|go_skip|go_guarded|go_step|go_upon|go_back))
 refine zcm (fun L a W=>∃ x11 x12 x13 x14 x15 x16 x17 x10 x18 x19 x20 x8 x9 x7,a=⟨#[.slice az zs.length cz,.agg #[.int .i64 d.id,.int .i64 d.age,.int .i64 d.proc,.int .i64 d.began,.slice a0 d.calls.length c0,.slice a1 d.answers.length c1,.slice a2 d.touch.reads.length c2,.slice a3 d.touch.writes.length c3,.slice a4 d.marks.length c4,.int .i64 d.state],.agg #[.int .i64 kd,.string nm,.string tn,.int .i64 ca,.int .i64 cb,.string tx],undef,.pointer (some ⟨w.heap.size,0,none⟩),.pointer (some ⟨w.heap.size+1,0,none⟩),.pointer (some ⟨w.heap.size+1+1,0,none⟩),x7,x8,x9,x10,x11,x12,x13,x14,x15,x16,x17,x18,x19,x20,undef],[]⟩/\WI w (.slice az zs.length cz) (.agg #[.int .i64 d.id,.int .i64 d.age,.int .i64 d.proc,.int .i64 d.began,.slice a0 d.calls.length c0,.slice a1 d.answers.length c1,.slice a2 d.touch.reads.length c2,.slice a3 d.touch.writes.length c3,.slice a4 d.marks.length c4,.int .i64 d.state]) d.proc ⟨kd,nm,tn,ca,cb,tx⟩ vv an (.cells #[.int .i64 d.id,.int .i64 d.age,.int .i64 d.proc,.int .i64 d.began,.slice a0 d.calls.length c0,.slice a1 d.answers.length c1,.slice a2 d.touch.reads.length c2,.slice a3 d.touch.writes.length c3,.slice a4 d.marks.length c4,.int .i64 d.state] 43) (.cells #[.int .i64 kd,.string nm,.string tn,.int .i64 ca,.int .i64 cb,.string tx] 45) (fun W c d=>OwnL zx 9 W w.heap.size c m.rd/\OwnL zx 9 W w.heap.size d m.wr/\∀ k,c.ownBlock=some k->d.ownBlock ≠ some k) L W x11 x12 x13 x14 x15 x16 x17 x10 x18 x19 x20 x8 x9 x7) (by kernel_rfl) ?_ ?_ ?_
 ·have N:∀ j,¬ (Array.replicate 16 false).getD j false=true:=zh0 16
  have h3:=ziA w (.cells #[.int .i64 d.id,.int .i64 d.age,.int .i64 d.proc,.int .i64 d.began,.slice a0 d.calls.length c0,.slice a1 d.answers.length c1,.slice a2 d.touch.reads.length c2,.slice a3 d.touch.writes.length c3,.slice a4 d.marks.length c4,.int .i64 d.state] 43) (.cells #[.int .i64 kd,.string nm,.string tn,.int .i64 ca,.int .i64 cb,.string tx] 45) (.cells #[.slice none 0 0,.slice none 0 0] 36) w.heap.size rfl
  refine ⟨_,_,_,_,_,_,_,_,_,_,_,_,_,_,rfl,⟨by simp,fun k=>absurd k (N _),fun k=>absurd k (N _),HR.out,(by repeat (first|with_reducible exact Below.refl _ _|with_reducible apply Below.ofAlloc|with_reducible apply Below.drew)),h3.1,h3.2.1,h3.2.2,fun k=>absurd k (N _),fun k=>absurd k (N _),fun k=>absurd k (N _),fun k=>absurd k (N _),fun k=>absurd k (N _),fun k=>absurd k (N _),fun k=>absurd k (N _),fun k=>absurd k (N _),fun k=>absurd k (N _),fun k=>absurd k (N _),fun k=>absurd k (N _),fun k=>absurd k (N _),fun k=>absurd k (N _),fun k=>absurd k (N _)⟩⟩
 ·rintro L a W i ⟨x11,x12,x13,x14,x15,x16,x17,x10,x18,x19,x20,x8,x9,x7,rfl,H⟩ hi
  have hlt:=zgD hi
  have hun:=zgC hi
  have hW:Hid (∀ j,zdD _ i j=true->L.getD j false=true):=fun j h=>zdp hi h
  have h16:i<16:=hlt
  clear hlt hi
  have hcs:i=0 ∨ i=1 ∨ i=2 ∨ i=3 ∨ i=4 ∨ i=5 ∨ i=6 ∨ i=7 ∨ i=8 ∨ i=9 ∨ i=10 ∨ i=11 ∨ i=12 ∨ i=13 ∨ i=14 ∨ i=15:=by omega
  clear h16
  rcases hcs with rfl|rfl|rfl|rfl|rfl|rfl|rfl|rfl|rfl|rfl|rfl|rfl|rfl|rfl|rfl|rfl
  ·refine zN rfl (fun K hK=>?_)
   go_simp
   refine hK _ _ ⟨_,_,_,_,_,_,_,_,_,_,_,_,_,_,rfl,H.set (i:=0) (by decide) (by decide) (by decide) (by simp) (by simp) (by simp) (by simp) (by simp) (by simp) (by simp) (by simp) (by simp) (by simp) (by simp) (by simp) (by simp) (by simp)⟩
  ·have hx:=H.X
   have hz:=za hx
   obtain ⟨p0,p1,p2,p3,p4,p5,p6,p7,p8,p9⟩:=Zc10 hx
   refine zN rfl (fun K hK=>?_)
   go_simp
   refine hK _ _ ⟨_,_,_,_,_,_,_,_,_,_,_,_,_,_,rfl,H.set (i:=1) (by decide) (by decide) (by decide) (by simp) (by rw [if_pos rfl]) (by simp) (by simp) (by simp) (by simp) (by simp) (by simp) (by simp) (by simp) (by simp) (by simp) (by simp) (by simp)⟩
  ·obtain rfl:=H.f0 (hW.out 0 (by kernel_rfl))
   obtain rfl:=H.f1 (hW.out 1 (by kernel_rfl))
   refine zN rfl (fun K hK=>?_)
   go_simp
   go_at_call 32
   refine (D1.out W H.bel).mono ?_
   rintro e W' ⟨u,rfl,ho,hb⟩
   try go_simp
   refine hK _ _ ⟨_,_,_,_,_,_,_,_,_,_,_,_,_,_,rfl,(H.grow (hb)).set (i:=2) (by decide) (by decide) (by decide) (by simp) (by simp) (by rw [if_pos rfl];exact ho.rd) (by simp) (by simp) (by simp) (by simp) (by simp) (by simp) (by simp) (by simp) (by simp) (by simp) (by simp)⟩
  ·refine zN rfl (fun K hK=>?_)
   go_simp
   refine hK _ _ ⟨_,_,_,_,_,_,_,_,_,_,_,_,_,_,rfl,H.set (i:=3) (by decide) (by decide) (by decide) (by simp) (by simp) (by simp) (by simp) (by simp) (by simp) (by simp) (by simp) (by simp) (by simp) (by simp) (by simp) (by simp) (by simp)⟩
  ·obtain rfl:=H.f3 (hW.out 3 (by kernel_rfl))
   have hx:=H.X
   have hz:=za hx
   have p2:W.cell? ⟨w.heap.size,2,none⟩=some (.int .i64 d.proc):=(zd (i:=2) hx).trans rfl
   refine zN rfl (fun K hK=>?_)
   go_simp
   refine hK _ _ ⟨_,_,_,_,_,_,_,_,_,_,_,_,_,_,rfl,H.set (i:=4) (by decide) (by decide) (by decide) (by simp) (by simp) (by simp) (by simp) (by simp) (by simp) (by simp) (by simp) (by simp) (by simp) (by simp) (by simp) (by simp) (by simp)⟩
  ·have hx:=H.C
   have hz:=za hx
   obtain ⟨p0,p1,p2,p3,p4,p5⟩:=Zc6 hx
   refine zN rfl (fun K hK=>?_)
   go_simp
   refine hK _ _ ⟨_,_,_,_,_,_,_,_,_,_,_,_,_,_,rfl,H.set (i:=5) (by decide) (by decide) (by decide) (by simp) (by simp) (by simp) (by simp) (by simp) (by rw [if_pos rfl];rfl) (by simp) (by simp) (by simp) (by simp) (by simp) (by simp) (by simp) (by simp)⟩
  ·have h2:=H.f2 (hW.out 2 (by kernel_rfl))
   obtain rfl:=H.f4 (hW.out 4 (by kernel_rfl))
   obtain rfl:=H.f5 (hW.out 5 (by kernel_rfl))
   unfold zbx
   refine zN rfl (fun K hK=>?_)
   go_simp
   go_at_call 31
   refine (D2.out W _ h2 H.bel).mono ?_
   rintro e W' ⟨c0,c1,c2,rfl,hm,hb⟩
   try go_simp
   refine hK _ _ ⟨_,_,_,_,_,_,_,_,_,_,_,_,_,_,rfl,(H.grow (hb)).set (i:=6) (by decide) (by decide) (by decide) (by simp) (by simp) (by simp) (by simp) (by simp) (by ((rw [if_neg (by decide)];rfl))) (by rw [if_pos rfl];exact ⟨_,_,_,rfl,hm⟩) (by simp) (by simp) (by simp) (by simp) (by simp) (by simp) (by simp)⟩
  ·obtain ⟨c0,c1,c2,e1,hm1⟩:=H.f6 (hW.out 6 (by kernel_rfl))
   rw [e1] at H ⊢
   refine zN rfl (fun K hK=>?_)
   go_simp
   refine hK _ _ ⟨_,_,_,_,_,_,_,_,_,_,_,_,_,_,rfl,H.set (i:=7) (by decide) (by decide) (by decide) (by simp) (by simp) (by simp) (by simp) (by simp) (by simp) (by simp) (by rw [if_pos rfl];exact ⟨_,_,_,rfl,hm1⟩) (by simp) (by simp) (by simp) (by simp) (by simp) (by simp)⟩
  ·obtain ⟨c0,c1,c2,e1,hm1⟩:=H.f7 (hW.out 7 (by kernel_rfl))
   rw [e1] at H ⊢
   refine zN rfl (fun K hK=>?_)
   go_simp
   refine hK _ _ ⟨_,_,_,_,_,_,_,_,_,_,_,_,_,_,rfl,H.set (i:=8) (by decide) (by decide) (by decide) (by simp) (by simp) (by simp) (by simp) (by simp) (by simp) (by simp) (by simp) (by simp) (by simp) (by simp) (by simp) (by simp) (by simp)⟩
  ·obtain ⟨c0,c1,c2,e1,hm1⟩:=H.f7 (hW.out 7 (by kernel_rfl))
   rw [e1] at H ⊢
   refine zN rfl (fun K hK=>?_)
   go_simp
   refine hK _ _ ⟨_,_,_,_,_,_,_,_,_,_,_,_,_,_,rfl,H.set (i:=9) (by decide) (by decide) (by decide) (by simp) (by simp) (by simp) (by simp) (by simp) (by simp) (by simp) (by simp) (by simp) (by rw [if_pos rfl]) (by simp) (by simp) (by simp) (by simp)⟩
  ·obtain ⟨c0,c1,c2,e1,hm1⟩:=H.f7 (hW.out 7 (by kernel_rfl))
   rw [e1] at H ⊢
   refine zN rfl (fun K hK=>?_)
   go_simp
   refine hK _ _ ⟨_,_,_,_,_,_,_,_,_,_,_,_,_,_,rfl,H.set (i:=10) (by decide) (by decide) (by decide) (by simp) (by simp) (by simp) (by simp) (by simp) (by simp) (by simp) (by simp) (by simp) (by simp) (by rw [if_pos rfl];exact ⟨_,_,rfl,hm1⟩) (by simp) (by simp) (by simp)⟩
  ·have k14:L.getD 14 false=false:=by cases h:L.getD 14 false with|false=>rfl|true=>exact absurd (H.c14 h) (by rw [hun];decide)
   have hq1:=za H.P
   refine zN rfl (fun K hK=>?_)
   go_simp
   refine hK _ _ ⟨_,_,_,_,_,_,_,_,_,_,_,_,_,_,rfl,(H.grow (Below.ofAlloc (Below.refl _ _) _)).set (i:=11) (by decide) (by decide) (by decide) (by simp) (by simp) (by simp) (by simp) (by simp) (by simp) (by simp) (by simp) (by simp) (by simp) (by simp) (by rw [if_pos rfl];exact ⟨_,rfl,by omega,.inl ⟨k14,heap_alloc_new _ _⟩⟩) (by simp) (by simp)⟩
  ·have k15:L.getD 15 false=false:=by cases h:L.getD 15 false with|false=>rfl|true=>exact absurd (H.c15 h) (by rw [hun];decide)
   have hq1:=za H.P
   refine zN rfl (fun K hK=>?_)
   go_simp
   refine hK _ _ ⟨_,_,_,_,_,_,_,_,_,_,_,_,_,_,rfl,(H.grow (Below.ofAlloc (Below.refl _ _) _)).set (i:=12) (by decide) (by decide) (by decide) (by simp) (by simp) (by simp) (by simp) (by simp) (by simp) (by simp) (by simp) (by simp) (by simp) (by simp) (by simp) (by rw [if_pos rfl];exact ⟨_,rfl,by omega,.inl ⟨k15,heap_alloc_new _ _⟩⟩) (by simp)⟩
  ·refine zN rfl (fun K hK=>?_)
   go_simp
   refine hK _ _ ⟨_,_,_,_,_,_,_,_,_,_,_,_,_,_,rfl,H.set (i:=13) (by decide) (by decide) (by decide) (by simp) (by simp) (by simp) (by simp) (by simp) (by simp) (by simp) (by simp) (by simp) (by simp) (by simp) (by simp) (by simp) (by simp)⟩
  ·obtain ⟨b,rfl,rfl,hB,H'⟩:=H.st14 (hW.out 9 (by kernel_rfl)) (hW.out 11 (by kernel_rfl)) hun
   have e1:=zf hB
   have hz:=za hB
   unfold zbO
   refine zN rfl (fun K hK=>?_)
   rw [<- e1]
   clear e1
   go_simp
   exact hK _ _ ⟨_,_,_,_,_,_,_,_,_,_,_,_,_,_,rfl,H'⟩
  ·obtain ⟨b,u0,u1,rfl,rfl,⟨⟨_,_,_,rfl⟩,_,_,_,rfl⟩,hB,H'⟩:=H.st15 (hW.out 10 (by kernel_rfl)) (hW.out 12 (by kernel_rfl)) hun
   have e1:=zf hB
   have hz:=za hB
   refine zN rfl (fun K hK=>?_)
   rw [<- e1]
   clear e1
   go_simp
   exact hK _ _ ⟨_,_,_,_,_,_,_,_,_,_,_,_,_,_,rfl,H'⟩
 ·rintro L a W ⟨x11,x12,x13,x14,x15,x16,x17,x10,x18,x19,x20,x8,x9,x7,rfl,H⟩ hr
  have hall:=zej (ops:=_) H.sz hr (zcu (by kernel_rfl))
  obtain ⟨b9,rfl,hb9,h9⟩:=H.f12 (hall 12 (by decide))
  have k15:=hall 15 (by decide)
  rcases h9 with h9|⟨_,u0,u1,h9,hm⟩
  ·rw [k15] at h9;cases h9.1
  obtain ⟨⟨_,_,_,rfl⟩,_,_,_,rfl⟩:=HR.out.shp hm
  have hP:=H.P
  have HB:=Hd H.bel
  have y2:=za hP
  have z9:=za h9
  have HM:=Hd (fun o=>HR.out.tch hm hP o)
  have p0:∀ o,(W.setB (w.heap.size+1+1) o).cell? ⟨b9,0,none⟩=some _:=fun o=>(zd (i:=0) ((World.setB_get _ _ _ _ (by omega)).trans h9)).trans rfl
  have p1:∀ o,(W.setB (w.heap.size+1+1) o).cell? ⟨b9,1,none⟩=some _:=fun o=>(zd (i:=1) ((World.setB_get _ _ _ _ (by omega)).trans h9)).trans rfl
  have e1:=zf hP
  rw [<- e1]
  clear e1 hP h9 hm H hall k15 hr
  (repeat (first|go_skip|go_guarded|go_step|go_upon|go_back))
  refine bodyPost_ret (by simp [results,Tryz.results11,go_sem,y2];rfl) rfl ?_
  exact ⟨_,_,rfl,(HM.out _).1,(HM.out _).2.1,(HM.out (.cells #[] 36)).2.2,zr HB.out (by omega) _⟩
section
variable {B:World} {v txl cl cv:Value} {d0:List CellD} {d1:TxD} {R:World->Value->Value->Prop} {L:Array Bool} {W W':World} {y0 y1 y2 y3 y4 y5 y6 y7:Value}
theorem LI.st (h:LI B v txl cl cv d0 d1 R L W y0 y1 y2 y3 y4 y5 y6 y7) (kr:L.getD 6 false=true) (kb:L.getD 7 false=true) (k0:L.getD 8 false=false) :
  ∃ b u0 u1,y7=.pointer (some ⟨b,0,none⟩)/\y6=.agg #[u0,u1]/\((∃ a n k,u0=.slice a n k)/\∃ a n k,u1=.slice a n k)/\W.heap[b]?=some (.cells #[.slice none 0 0,.slice none 0 0] 36 (0,0))/\LI B v txl cl cv d0 d1 R (L.setIfInBounds 8 true) (W.setB b (.cells #[u0,u1] 36 (0,0))) y0 y1 y2 y3 y4 y5 y6 y7:=by
 obtain ⟨b,e9,hb,h1|h1⟩:=h.f7 kb
 case inr=>rw [h1.1] at k0;cases k0
 have hB:=h1.2
 have hz:=za hB
 obtain ⟨u0,u1,e20,q⟩:=h.f6 kr
 have kk:=fun {j:Nat} (hj : 8 ≠ j) (k:(L.setIfInBounds 8 true).getD j false=true)=>(zi (L:=L) hj) ▸ k
 refine ⟨b,u0,u1,e9,e20,h.up.shp q,hB,⟨by rw [Array.size_setIfInBounds];exact h.sz,fun _=>by rw [zi (by decide)];exact kr,fun _=>by rw [zi (by decide)];exact kb,h.up,zr h.bel hb _,
  fun k=>h.f0 (kk (by decide) k),fun k k8=>absurd k8 (by rw [zbF (by rw [h.sz];decide)];decide),fun k=>h.f2 (kk (by decide) k),fun k k8=>absurd k8 (by rw [zbF (by rw [h.sz];decide)];decide),fun k=>h.f4 (kk (by decide) k),fun k=>h.f5 (kk (by decide) k),fun k=>?_,fun k=>?_⟩⟩
 ·obtain ⟨c,d,e,hm⟩:=h.f6 (kk (by decide) k)
  exact ⟨c,d,e,h.up.tch hm hB _⟩
 ·exact ⟨b,e9,hb,.inr ⟨zbF (by rw [h.sz];decide),_,_,zy _ _ _ hz,h.up.tch q hB _⟩⟩
end
section
variable {B:World} {v txi cl cv:Value} {R:World->Value->Value->Prop} {L:Array Bool} {W W':World} {y0 y1 y2 y3 y4 y5:Value}
theorem LJ.st (h:LJ B v txi cl cv R L W y0 y1 y2 y3 y4 y5) (kr:L.getD 4 false=true) (kb:L.getD 5 false=true) (k0:L.getD 6 false=false) :
  ∃ b u0 u1,y5=.pointer (some ⟨b,0,none⟩)/\y4=.agg #[u0,u1]/\((∃ a n k,u0=.slice a n k)/\∃ a n k,u1=.slice a n k)/\W.heap[b]?=some (.cells #[.slice none 0 0,.slice none 0 0] 36 (0,0))/\LJ B v txi cl cv R (L.setIfInBounds 6 true) (W.setB b (.cells #[u0,u1] 36 (0,0))) y0 y1 y2 y3 y4 y5:=by
 obtain ⟨b,e9,hb,h1|h1⟩:=h.f5 kb
 case inr=>rw [h1.1] at k0;cases k0
 have hB:=h1.2
 have hz:=za hB
 obtain ⟨u0,u1,e20,q⟩:=h.f4 kr
 have kk:=fun {j:Nat} (hj : 6 ≠ j) (k:(L.setIfInBounds 6 true).getD j false=true)=>(zi (L:=L) hj) ▸ k
 refine ⟨b,u0,u1,e9,e20,h.up.shp q,hB,⟨by rw [Array.size_setIfInBounds];exact h.sz,fun _=>by rw [zi (by decide)];exact kr,fun _=>by rw [zi (by decide)];exact kb,h.up,zr h.bel hb _,
  fun k=>h.f0 (kk (by decide) k),fun k=>h.f1 (kk (by decide) k),fun k=>h.f2 (kk (by decide) k),fun k=>h.f3 (kk (by decide) k),fun k=>?_,fun k=>?_⟩⟩
 ·obtain ⟨c,d,e,hm⟩:=h.f4 (kk (by decide) k)
  exact ⟨c,d,e,h.up.tch hm hB _⟩
 ·exact ⟨b,e9,hb,.inr ⟨zbF (by rw [h.sz];decide),_,_,zy _ _ _ hz,h.up.tch q hB _⟩⟩
end
theorem str_nb {w:World} {fp:List Nat} {v:Value} {xs:List ByteArray} {b:Nat} {cs:Array Value} {t:TypeId} (h:(vSlice vStr 9).own w fp [v] xs) (hx:w.heap[b]?=some (.cells cs t (0,0))) (ht:t ≠ 9):b ∉ fp:=by
 rcases h with ⟨hv,_,hf⟩|⟨b',cap,blk,css,fps,hv,hb,hn,hm,hsz,hk,hf,hcl,hfl,hel⟩
 ·rw [hf];simp
 ·rw [hf]
  intro hm2
  rcases List.mem_cons.1 hm2 with e|h
  ·subst e
   rw [hb] at hx
   injection hx with hx
   injection hx with _ h2
   exact ht h2.symm
  ·obtain ⟨l,hl,hbl⟩:=List.mem_flatten.1 h
   obtain ⟨i,hi,rfl⟩:=List.getElem_of_mem hl
   have:=(hel i (by omega) (by omega) hi).1
   rw [this] at hbl
   cases hbl
theorem touch_nb {w:World} {fp:List Nat} {vs:List Value} {d:TouchD} {b:Nat} {cs:Array Value} (h:zqy.own w fp vs d) (hx:w.heap[b]?=some (.cells cs 36 (0,0))):b ∉ fp:=by
 obtain ⟨s0,s1,f0,f1,_,rfl,o0,o1⟩:=h
 intro hm
 rcases List.mem_append.1 hm with h|h
 ·exact str_nb o0 hx (by decide) h
 ·exact str_nb o1 hx (by decide) h
end Go.Proofs.YtodokkpnafabpaaGreatDoor
