/- Texts of this claim, merged: the walks and what they stand on. Each condition stands in its theorem. -/
import Derived.Test.YtpnoehpmgflibaaGreatDoorCA29
import Derived.Test.YtpnoehpmgflibaaGreatDoorCA32
import Derived.Test.YtpnoehpmgflibaaGreatDoorCA38
set_option linter.unusedVariables false
set_option linter.unusedSimpArgs false
set_option maxRecDepth 100000
set_option maxHeartbeats 8000000
namespace Go.Proofs.YtpnoehpmgflibaaGreatDoor
open Go.ChangeShapes Go.WideShapes Go.ChangeAt Go.RowKit
theorem zjn (v:Value) (cs:List CellD) (proc:Int) (hp0 : -9223372036854775808<=proc) (hp1:proc<=9223372036854775807) (c:CallD) (hc:c.ok) (ha0 : -9223372036854775808<=c.a) (ha1:c.a<=9223372036854775807) (hb0 : -9223372036854775808<=c.b) (hb1:c.b<=9223372036854775807) (w:World) (hg:Glob w) (h:RdL zu w v cs) (hl:cs.length<=1099511627776) (hf:(K.doCall proc c).fits ⟨cs,[],[]⟩) :
  Calls Tryz.prog 7 #[v,.int .i64 proc,zaM c] w fun e w'=>∃ v0 v1 v2,e=.returned (.tuple #[v0,zdc ((K.doCall proc c).run ⟨cs,[],[]⟩).1,.agg #[v1,v2]])/\RdL zu w' v0 ((K.doCall proc c).run ⟨cs,[],[]⟩).2.cells/\OwnL zx 9 w' w.heap.size v1 ((K.doCall proc c).run ⟨cs,[],[]⟩).2.rd/\OwnL zx 9 w' w.heap.size v2 ((K.doCall proc c).run ⟨cs,[],[]⟩).2.wr/\(∀ k,v1.ownBlock=some k->v2.ownBlock ≠ some k)/\Below w.heap.size w w':=by
 have D:=Hd (fun w' (hB:Below w.heap.size w w')=>zj3 v cs w' (h.below hB) hl)
 have D2:=Hd (fun w0 w1 fp p (H:IM w0 w1 p fp ⟨cs,[],[]⟩)=>impl_do proc hp0 hp1 c hc ha0 ha1 hb0 hb1 w0 w1 fp p ⟨cs,[],[]⟩ H hf)
 obtain ⟨res,m,hr⟩ : ∃ res mres,(K.doCall proc c).run ⟨cs,[],[]⟩=(res,mres):=⟨_,_,rfl⟩
 rw [hr] at D2 ⊢
 obtain ⟨xc,xn,xt⟩:=res
 obtain ⟨az,cz,rfl⟩:=h.form
 have HG:=Hd hg
 obtain ⟨kd,nm,tn,ca,cb,tx⟩:=c
 unfold zaM zdc at *
 dsimp only at D2 ⊢
 clear hr h hf hg
 go_enter Tryz.func7,Tryz.ntmps7
 (repeat (first|go_skip|go_guarded|go_step|go_upon|go_back))
 (go_at_call 31;refine (D.out _ (by repeat (first|with_reducible exact Below.refl _ _|with_reducible apply Below.ofAlloc))).mono ?_;rintro e w1 ⟨ma,mc,rfl,ho,hb⟩)
 have h3:=zkH w (.cells #[.int .i64 kd,.string nm,.string tn,.int .i64 ca,.int .i64 cb,.string tx] 26) (.cells #[.int .i64 0,.int .i64 0,.string ⟨#[]⟩] 30) (.cells #[.slice none 0 0,.slice none 0 0] 33) _ rfl
 have HO:=Hd ho
 have HB:=Hd hb
 have hsz:w.heap.size+3<=w1.heap.size:=by have:=hb.size;simp at this;omega
 have HA0:Hid (Below w.heap.size w (((w.alloc (.cells #[.int .i64 kd,.string nm,.string tn,.int .i64 ca,.int .i64 cb,.string tx] 26)).alloc (.cells #[.int .i64 0,.int .i64 0,.string ⟨#[]⟩] 30)).alloc (.cells #[.slice none 0 0,.slice none 0 0] 33))):=Hd (by repeat (first|with_reducible exact Below.refl _ _|with_reducible apply Below.ofAlloc))
 have q:=(Grew.below hb w.heap.size (by first|(simp;done)|(simp;omega))).trans h3.1
 have y0:w1.cell? ⟨w.heap.size,0,none⟩=some (.int .i64 kd):=(zb (i:=0) q).trans rfl
 have y1:w1.cell? ⟨w.heap.size,1,none⟩=some (.string nm):=(zb (i:=1) q).trans rfl
 have y2:w1.cell? ⟨w.heap.size,2,none⟩=some (.string tn):=(zb (i:=2) q).trans rfl
 have y3:w1.cell? ⟨w.heap.size,3,none⟩=some (.int .i64 ca):=(zb (i:=3) q).trans rfl
 have y4:w1.cell? ⟨w.heap.size,4,none⟩=some (.int .i64 cb):=(zb (i:=4) q).trans rfl
 have y5:w1.cell? ⟨w.heap.size,5,none⟩=some (.string tx):=(zb (i:=5) q).trans rfl
 have hql:=za q
 have H3:=Hd h3
 clear ho hb q h3 D
 ((try simp only []);repeat (first|go_skip|go_guarded|go_step|go_upon|go_back))
 have hM:IM (((w.alloc (.cells #[.int .i64 kd,.string nm,.string tn,.int .i64 ca,.int .i64 cb,.string tx] 26)).alloc (.cells #[.int .i64 0,.int .i64 0,.string ⟨#[]⟩] 30)).alloc (.cells #[.slice none 0 0,.slice none 0 0] 33)) (w1.alloc (.cells #[.slice ma cs.length mc,.slice none 0 0,.slice none 0 0] 54)) w1.heap.size (w1.heap.size :: (Value.slice ma cs.length mc).ownBlock.toList) ⟨cs,[],[]⟩:=by
  refine ⟨⟨ma,mc,none,0,none,0,heap_alloc_new w1 _,HO.out.alloc _,OwnL.nil zx _ _ _,OwnL.nil zx _ _ _,(fun k hk=>by cases hk),(fun k hk=>?_),(fun k hk=>by cases hk),(fun k hk=>by cases hk)⟩,List.mem_cons_self,(fun b hb=>?_),(fun b hb=>?_),HB.out.ofAlloc _,HG.out.below HA0.out⟩
  ·simp only [List.mem_cons,Option.mem_toList];exact .inr hk
  ·simp only [List.mem_cons,Option.mem_toList] at hb
   rcases hb with rfl|hb
   ·exact HB.out.size
   ·exact (HO.out.lt b hb).1
  ·simp only [List.mem_cons,Option.mem_toList] at hb
   rcases hb with rfl|hb
   ·simp
   ·have:=(HO.out.lt b hb).2;simp;omega
 have HM:=Hd hM
 clear hM y0 y1 y2 y3 y4 y5
 (go_at_call 32;refine (D2.out _ _ _ _ HM.out).mono ?_;rintro e w2 ⟨rfl,fp2,hm,ht⟩)
 clear HM HO HB D2 ht
 have HM:=Hd hm
 clear hm
 ((try simp only []);repeat (first|go_skip|go_guarded|go_step|go_upon|go_back))
 generalize hW:w2.alloc (.cells #[.int .i64 xc,.int .i64 xn,.string xt] 30)=W
 have h10:W.heap[w2.heap.size]?=some (.cells #[.int .i64 xc,.int .i64 xn,.string xt] 30):=by rw [<- hW];exact heap_alloc_new w2 _
 have hb2:Below w2.heap.size w2 W:=by rw [<- hW];exact Below.ofAlloc (Below.refl _ _) _
 obtain ⟨⟨a0,c0,a1,c1,a2,c2,h9,o0,o1,o2,hd,_⟩,_,_,_,bel,_⟩:=HM.out.below hb2
 have s3:(((w.alloc (.cells #[.int .i64 kd,.string nm,.string tn,.int .i64 ca,.int .i64 cb,.string tx] 26)).alloc (.cells #[.int .i64 0,.int .i64 0,.string ⟨#[]⟩] 30)).alloc (.cells #[.slice none 0 0,.slice none 0 0] 33)).heap.size=w.heap.size+3:=by simp
 have s2:w1.heap.size<w2.heap.size:=by
  obtain ⟨⟨_,_,_,_,_,_,hp,_⟩,_⟩:=HM.out
  exact za hp
 have hA:=(Grew.below bel (w.heap.size+1) (by first|(simp;done)|(simp;omega))).trans H3.out.2.1
 have hT:=(Grew.below bel (w.heap.size+1+1) (by first|(simp;done)|(simp;omega))).trans H3.out.2.2
 have y1:=za hA
 have y2:=za hT
 have z9:=za h9
 have z10:=za h10
 have hc9:∀ i o r,((W.setB (w.heap.size+1) o).setB (w.heap.size+1+1) r).cell? ⟨w1.heap.size,i,none⟩=(#[.slice a0 m.cells.length c0,.slice a1 m.rd.length c1,.slice a2 m.wr.length c2]:Array Value)[i]?:=fun i o r=>by
  rw [zb (((World.setB_get _ _ _ _ (by omega)).trans ((World.setB_get _ _ _ _ (by omega)).trans h9)))]
 have hc10:∀ i o r,((W.setB (w.heap.size+1) o).setB (w.heap.size+1+1) r).cell? ⟨w2.heap.size,i,none⟩=(#[.int .i64 xc,.int .i64 xn,.string xt]:Array Value)[i]?:=fun i o r=>by
  rw [zb (((World.setB_get _ _ _ _ (by omega)).trans ((World.setB_get _ _ _ _ (by omega)).trans h10)))]
 have p0:=fun o r=>hc9 0 o r
 have p1:=fun o r=>hc9 1 o r
 have p2:=fun o r=>hc9 2 o r
 have r0:=fun o r=>hc10 0 o r
 have r1:=fun o r=>hc10 1 o r
 have r2:=fun o r=>hc10 2 o r
 simp at p0 p1 p2 r0 r1 r2
 have HO0:Hid (∀ o r,RdL zu ((W.setB (w.heap.size+1) o).setB (w.heap.size+1+1) r) (.slice a0 m.cells.length c0) m.cells):=Hd (fun o r=>((o0.setB (fun hk=>by have:=(o0.lt _ hk).1;omega) o).setB (fun hk=>by have:=(o0.lt _ hk).1;omega) r).rd)
 have HO1:Hid (∀ o r,OwnL zx 9 ((W.setB (w.heap.size+1) o).setB (w.heap.size+1+1) r) w.heap.size (.slice a1 m.rd.length c1) m.rd):=Hd (fun o r=>((o1.setB (fun hk=>by have:=(o1.lt _ hk).1;omega) o).setB (fun hk=>by have:=(o1.lt _ hk).1;omega) r).base (by omega))
 have HO2:Hid (∀ o r,OwnL zx 9 ((W.setB (w.heap.size+1) o).setB (w.heap.size+1+1) r) w.heap.size (.slice a2 m.wr.length c2) m.wr):=Hd (fun o r=>((o2.setB (fun hk=>by have:=(o2.lt _ hk).1;omega) o).setB (fun hk=>by have:=(o2.lt _ hk).1;omega) r).base (by omega))
 have HD:=Hd hd
 have HBL:=Hd (Below.then HA0.out bel)
 have e1:(W.setB (w.heap.size+1) (.cells #[.int .i64 0,.int .i64 0,.string ⟨#[]⟩] 30 (0,0))).setB (w.heap.size+1+1) (.cells #[.slice none 0 0,.slice none 0 0] 33 (0,0))=W:=by rw [ze hA,ze hT]
 rw [<- e1]
 clear e1 hA hT hc9 hc10 h9 h10 o0 o1 o2 hd bel hb2 hW HM H3 HA0 HG s3
 (repeat (first|go_skip|go_guarded|go_step|go_upon|go_back))
 go_region
 all_goals (repeat (first|go_skip|go_guarded|go_step|go_upon|go_back))
 all_goals (
  refine bodyPost_ret (by simp [results,Tryz.results7,go_sem,y1,y2];rfl) rfl ?_
  exact ⟨_,_,_,rfl,(HO0.out _ _).drew,(HO1.out _ _).drew,(HO2.out _ _).drew,HD.out,Below.drew (zo (zo HBL.out (by omega) _) (by omega) _)⟩)
open Mp
open Classical
def Good (k:Nat) (m:MachD):Prop:=∃ (L:Nat) (D:List ByteArray),(∀ x ∈ gk,x ∈ D)/\Inv L D m/\2 ^ (12 - (prc m).toNat)*(D.length+L+14+12*k)<=8589934592
theorem Good.le {k j:Nat} {m:MachD} (h:Good k m) (hj:j<=k):Good j m:=by
 obtain ⟨L,D,h1,h2,h3⟩:=h
 exact ⟨L,D,h1,h2,Nat.le_trans (Nat.mul_le_mul_left _ (by omega)) h3⟩
theorem Good.fresh {k:Nat} {m:MachD} (h:Good k m):Good k ⟨m.cells,[],[]⟩:=by
 obtain ⟨L,D,h1,h2,h3⟩:=h
 exact ⟨L,D,h1,h2.fresh,h3⟩
theorem Good.fits {k:Nat} {m:MachD} (h:Good k m) {l:List StepD} (hl:l.length<=k) (hs:∀ s ∈ l,zby s.proc/\zby s.call.a):zmG l m:=by
 obtain ⟨L,D,h1,h2,h3⟩:=h.le hl
 exact zmq l m D hs h1 h2 (Nat.le_trans h3 (by decide))
theorem Good.len {k:Nat} {m:MachD} (h:Good k m):m.cells.length<=8589934592:=by
 obtain ⟨L,D,h1,h2,h3⟩:=h
 have h4:=h2.clen
 have h5:=Nat.le_mul_of_pos_left (D.length+L+14+12*k) (Nat.two_pow_pos (12 - (prc m).toNat))
 omega
theorem Good.touch {k:Nat} {m:MachD} (h:Good k m):(m.rd.length<=8589934592/\∀ s ∈ m.rd,s.size<=1048700)/\m.wr.length<=8589934592/\∀ s ∈ m.wr,s.size<=1048700:=by
 obtain ⟨L,D,h1,h2,h3⟩:=h
 have r1:=zec (zdE h2.rs) h2.rn
 have w1:=zec (zdE h2.ws) h2.wn
 have h5:=Nat.le_mul_of_pos_left (D.length+L+14+12*k) (Nat.two_pow_pos (12 - (prc m).toNat))
 exact ⟨⟨by omega,fun s hs=>(h2.rk s hs).2⟩,by omega,fun s hs=>(h2.wk s hs).2⟩
theorem Good.step {k:Nat} {m:MachD} (h:Good (k+1) m) {proc:Int} {c:CallD} (hp:zby proc) (ha:zby c.a):Good k ((K.doCall proc c).run m).2:=by
 obtain ⟨L,D,hG,I,hb⟩:=h
 have hpr:=zlX m
 obtain ⟨h1,h2⟩:=zg0 hp ha hG I
 refine ⟨L,_,fun x hx=>zcn _ m D x (hG x hx),zb9 _ L m D I h1,?_⟩
 rcases h2 with h|h
 ·rw [h.1]
  refine Nat.le_trans (Nat.mul_le_mul_left _ ?_) hb
  omega
 ·obtain ⟨h1,h3,h4⟩:=h
  have e : 12 - (prc m).toNat=(12 - (prc ((K.doCall proc c).run m).2).toNat)+1:=by omega
  rw [e,Nat.pow_succ,Nat.mul_assoc] at hb
  refine Nat.le_trans (Nat.mul_le_mul_left _ ?_) hb
  omega
theorem zjp:Inv 0 (gk.foldr (fun k D=>zcg D k) []) ⟨[],[],[]⟩:=by
 have hn:=zkE gk
 revert hn
 generalize gk.foldr (fun k D=>zcg D k) []=G
 intro hn
 exact ⟨hn,(fun c h=>by cases h),(fun k h=>by cases h),(fun k h=>by cases h),(fun k h=>by cases h),(fun k h=>by cases h),List.Pairwise.nil,List.Pairwise.nil,(fun c h=>by cases h),[],List.nodup_nil,(fun k h=>by cases h),Nat.le_refl _,List.nodup_nil⟩
theorem zjo:(gk.foldr (fun k D=>zcg D k) []).length<=1137136:=by
 have hk:=zjb gk
 rw [gk_len] at hk
 revert hk
 generalize (gk.foldr (fun k D=>zcg D k) []).length=n
 intro hk
 omega
theorem zmr:∀ x ∈ gk,x ∈ gk.foldr (fun k D=>zcg D k) []:=zja _
theorem zlg:Good 60 ⟨((K.spawn 0).run ⟨[],[],[]⟩).2.cells,[],[]⟩:=by
 have hI:=zjp
 have hl:=zjo
 have hh:=zmr
 revert hI hl hh
 generalize gk.foldr (fun k D=>zcg D k) []=G
 intro I hl hh
 obtain ⟨h1,h2,h3⟩:=zg3 (L:=0) (m:=⟨[],[],[]⟩) (D:=G) 0 I
 refine Good.fresh ⟨0,_,fun x hx=>zcn _ _ _ x (hh x hx),zb9 _ 0 _ _ I h1,?_⟩
 have h4 : 2 ^ (12 - (prc ((K.spawn 0).run ⟨[],[],[]⟩).2).toNat)<=2 ^ 12:=Nat.pow_le_pow_right (by decide) (by omega)
 have h5:((K.spawn 0).news ⟨[],[],[]⟩ G).length+0+14+12*60<=1137875:=by omega
 have h6:=Nat.mul_le_mul h4 h5
 exact Nat.le_trans h6 (by decide)
theorem zlj:(K.spawn 0).fits ⟨[],[],[]⟩:=by
 have hI:=zjp
 have hl:=zjo
 revert hI hl
 generalize gk.foldr (fun k D=>zcg D k) []=G
 intro I hl
 obtain ⟨h1,h2,h3⟩:=zg3 (L:=0) (m:=⟨[],[],[]⟩) (D:=G) 0 I
 exact zg5 _ 0 _ _ I h1 (by omega)
def bootC:List CellD:=((K.spawn 0).run ⟨[],[],[]⟩).2.cells
theorem zlI (w:World):Calls Tryz.prog 62 #[] w fun e w'=>∃ v,e=.returned v/\RdL zu w' v bootC/\Below w.heap.size w w':=by
 have D1:=Hd (fun v w' (h:RdL zu w' v [])=>zef v [] w' h (by decide))
 have D2:=Hd (fun v w' (h:MRd w' v ⟨[],[],[]⟩)=>zcP 0 (by decide) (by decide) w' v ⟨[],[],[]⟩ h zlj)
 have hb:bootC=((K.spawn 0).run ⟨[],[],[]⟩).2.cells:=rfl
 generalize (K.spawn 0).run ⟨[],[],[]⟩=R at D2 hb
 obtain ⟨r,m⟩:=R
 dsimp only at D2 hb
 rw [hb]
 clear hb
 go_enter Tryz.func62,Tryz.ntmps62
 (repeat (first|go_skip|go_guarded|go_step|go_upon|go_back))
 (go_at_call 54;refine (D1.out _ _ (OwnL.empty zu _ _).rd).mono ?_;rintro e w1 ⟨v,rfl,ho,hb1⟩)
 have HO:=Hd ho
 clear ho
 ((try simp only []);repeat (first|go_skip|go_guarded|go_step|go_upon|go_back))
 (go_at_call 134;refine (D2.out _ _ ⟨_,_,_,rfl,HO.out.rd,RdL.nil _ _,RdL.nil _ _⟩).mono ?_;rintro e w2 ⟨v2,rfl,hs⟩)
 obtain ⟨⟨v0,v1,v3,rfl,h0,h1,h3⟩,hb2⟩:=hs
 obtain ⟨a0,c0,rfl⟩:=h0.form
 obtain ⟨a1,c1,rfl⟩:=h1.form
 obtain ⟨a3,c3,rfl⟩:=h3.form
 have H0:=Hd h0
 have HB:Hid (Below w.heap.size w w2):=Below.then (Below.then (by repeat (first|with_reducible exact Below.refl _ _|with_reducible apply Below.ofAlloc)) hb1) hb2
 clear h0 h1 h3 hb1 hb2 HO
 ((try simp only []);repeat (first|go_skip|go_guarded|go_step|go_upon|go_back))
 refine bodyPost_ret (by simp [results,Tryz.results62,go_sem];rfl) rfl ?_
 exact ⟨_,rfl,H0.out.alloc _,HB.out.ofAlloc _⟩
def StoreN (k:Nat) (cs:List CellD):Prop:=Good (60 - k) ⟨cs,[],[]⟩/\Right cs
theorem zjA:StoreN 0 bootC:=⟨zlg,Right.run _ _ Right.nil⟩
theorem StoreN.next {k:Nat} {cs:List CellD} (h:StoreN k cs) (hk:k+1<=60) {proc:Int} {c:CallD} (hp:zby proc) (ha:zby c.a):StoreN (k+1) ((K.doCall proc c).run ⟨cs,[],[]⟩).2.cells:=by
 have h1:Good (60 - (k+1)+1) ⟨cs,[],[]⟩:=by rw [show 60 - (k+1)+1=60 - k by omega];exact h.1
 exact ⟨(h1.step hp ha).fresh,Right.run _ _ h.2⟩
theorem StoreN.le {k j:Nat} {cs:List CellD} (h:StoreN k cs) (hj:k<=j):StoreN j cs:=⟨Good.le h.1 (by omega),h.2⟩
theorem StoreN.fits {k:Nat} {cs:List CellD} (h:StoreN k cs) (hk:k+1<=60) {proc:Int} {c:CallD} (hp:zby proc) (ha:zby c.a):(K.doCall proc c).fits ⟨cs,[],[]⟩ :=
 (Good.fits h.1 (l:=[⟨proc,c⟩]) (by show 1<=_;omega) (by simp only [List.mem_singleton];rintro s rfl;exact ⟨hp,ha⟩)).1
theorem SmallCall.in_ {c:CallD} (h:SmallCall c):zby c.a/\zby c.b:=⟨⟨by have:=h.2.2.2.1;omega,by have:=h.2.2.2.1;omega⟩,⟨by have:=h.2.2.2.2;omega,by have:=h.2.2.2.2;omega⟩⟩
theorem Cur.noS {w:World} {p:Nat} {vb:Value} {bs:List UInt8} {i h:Int} (c:Cur w p vb bs i h):∀ u ∈ (#[vb,.int .i64 i,.int .i64 h]:Array Value),∀ s,u ≠ .string s:=by
 intro u hu s
 have hb:∃ a n k,vb=.slice a n k:=by
  rcases c.bytes with ⟨rfl,_⟩|⟨b,off,cap,rfl,_⟩
  ·exact ⟨_,_,_,rfl⟩
  ·exact ⟨_,_,_,rfl⟩
 obtain ⟨a,n,k,rfl⟩:=hb
 simp at hu
 rcases hu with rfl|rfl|rfl<;>simp
theorem zbh {α : Type} {R:RowOf α} {w w':World} {v:Value} {xs:List α} (hstr:∀ u ∈ xs.flatMap R.row,∃ s,u=.string s) (h:RdL R w v xs) {p:Nat} {vb:Value} {bs:List UInt8} {i h0:Int} (c:Cur w p vb bs i h0) {o:Obj} (g:Got p w o w'):RdL R w' v xs:=by
 obtain ⟨X,rfl⟩:=g
 exact (zfl hstr h c.blk c.noS o).ext X
theorem zez (p:Nat) (vb:Value) (bs:List UInt8) (i h:Int) (most:Nat) (hm:most<=30) (w:World) (hc:Cur w p vb bs i h) :
  Calls Tryz.prog 27 #[.pointer (some ⟨p,0,none⟩),.int .i64 most] w fun e w'=>∃ v cs,e=.returned v/\RdL zu w' v cs/\StoreN most cs/\zko p vb bs w w':=by
 have hp:=hc.lt
 have HC:=Hd hc
 clear hc
 go_enter Tryz.func27,Tryz.ntmps27
 go_wp2_with fail
 (go_at_call 62;refine (zlI _).mono ?_;rintro e w1 ⟨v,rfl,hv,hb⟩)
 have hg0:Hid (Got p w (zad vb i h) w1):=(zdS HC.out.blk).ofBelow hb
 have hv0:=Hd hv
 clear hv hb
 go_wp2
 go_loopw [5,6] (fun v k wr=>∃ (n:Nat) (cs:List CellD) (i' h':Int),k=.int .i64 n/\n<=most/\StoreN n cs/\RdL zu wr v cs/\Got p w (zad vb i' h') wr/\0<=i'/\i'<=bs.length) (fun _ k _=>most - (intOf k).toNat)
 case atStart=>exact ⟨0,bootC,i,h,rfl,Nat.zero_le _,zjA,hv0.out,hg0.out,HC.out.lo,HC.out.hi⟩
 case round =>
  clear hg0 hv0
  obtain ⟨n,cs,i1,h1,rfl,hn,hst,hv,hg,hi0,hi1⟩:=hrel
  have hc1:=HC.out.got hg hi0 hi1
  obtain ⟨ao,co,rfl⟩:=hv.form
  have HV:=Hd hv
  have HST:=Hd hst
  clear hv hst
  go_wp2_with fail
  (go_at_call 63;refine (zao p vb bs _ _ _ _ hc1 (by omega)).mono ?_;rintro e w2 ⟨x,i2,h2,rfl,⟨hx0,hx1,_⟩,hg2,hj0,hj1⟩)
  have hc2:=hc1.got hg2 hj0 hj1
  have hx2:=hx1 (by omega)
  clear hx1
  have HV2:=Hd (zbh (zf _) HV.out hc1 hg2)
  have hgg2:=hg.then hg2 hp
  by_cases hlt:(n:Int)<x
  ·go_wp2_with fail
   (go_at_call 63;refine (zao p vb bs _ _ _ _ hc2 (by omega)).mono ?_;rintro e w3 ⟨y,i3,h3,rfl,⟨hy0,hy1,_⟩,hg3,hk0,hk1⟩)
   have hc3:=hc2.got hg3 hk0 hk1
   have hy2:=hy1 (by omega)
   clear hy1
   have HV3:=Hd (zbh (zf _) HV2.out hc2 hg3)
   go_wp2_with fail
   (go_at_call 64;refine (zfF p vb bs _ _ _ hc3).mono ?_;rintro e w4 ⟨c,rfl,hsm,i4,h4,hg4,hl0,hl1⟩)
   have HV4:=Hd (zbh (zf _) HV3.out hc3 hg4)
   have hgg4:=(hgg2.then hg3 hp).then hg4 hp
   have hin:=hsm.in_
   have hpr:zby (1+y):=⟨by omega,by omega⟩
   have DC:=Hd (fun W (h:RdL zu W (.slice ao cs.length co) cs)=>zgz (.slice ao cs.length co) cs (1+y) hpr.1 hpr.2 c hsm.ok hin.1.1 hin.1.2 hin.2.1 hin.2.2 W h (HST.out.fits (by omega) hpr hin.1))
   have HN:=Hd (HST.out.next (by omega) hpr hin.1)
   obtain ⟨kd,nm,tn,ca,cb,tx⟩:=c
   unfold zaM at DC ⊢
   dsimp only at DC ⊢
   clear hsm hin
   generalize (K.doCall (1+y) ⟨kd,nm,tn,ca,cb,tx⟩).run ⟨cs,[],[]⟩=R at DC HN
   obtain ⟨an,m⟩:=R
   dsimp only at DC HN
   unfold zdc at DC
   go_wp2_with fail
   (go_at_call 22;refine (DC.out _ HV4.out).mono ?_;rintro e w5 ⟨v0,v1,v2,rfl,⟨u0,u1,u2,he,r0,r1,r2⟩,hb5⟩)
   cases he
   obtain ⟨b0,d0,rfl⟩:=r0.form
   obtain ⟨b1,d1,rfl⟩:=r1.form
   obtain ⟨b2,d2,rfl⟩:=r2.form
   have hg5:=hgg4.ofBelow hb5
   have HR:=Hd r0
   clear r0 r1 r2 hb5 DC
   go_wp2
   go_roundw
   case rel=>exact ⟨n+1,m.cells,i4,h4,by go_num,by omega,HN.out,HR.out,hg5,hl0,hl1⟩
   case measure=>simp [intOf];omega
  ·go_wp2
   go_ret
   exact ⟨_,cs,rfl,HV2.out,HST.out.le (by omega),⟨i2,h2,hgg2,hj0,hj1⟩⟩
theorem Good.put {k:Nat} {cs:List CellD} (h:Good (k+1) ⟨cs,[],[]⟩) {key:ByteArray} (hk:zhS key) (hp:K.cProc ≠ key) (v:ByteArray):Good k ⟨zbM key v cs,[],[]⟩:=by
 obtain ⟨L,D,h1,I,h3⟩:=h
 have e:prc ⟨zbM key v cs,[],[]⟩=prc ⟨cs,[],[]⟩:=by
  show za0 (zbm K.cProc (zbM key v cs))=za0 (zbm K.cProc cs)
  rw [zfw hp]
 refine ⟨L,zcg D key,fun x hx=>zau.2 (.inl (h1 x hx)),(I.write hk v).fresh,?_⟩
 rw [e]
 refine Nat.le_trans (Nat.mul_le_mul_left _ ?_) h3
 have:=zcv D key
 omega
theorem StoreN.put {k:Nat} {cs:List CellD} (h:StoreN k cs) (hk:k+1<=60) {key:ByteArray} (hb:zhS key) (hp:K.cProc ≠ key) (v:ByteArray):StoreN (k+1) (zbM key v cs):=by
 have h1:Good (60 - (k+1)+1) ⟨cs,[],[]⟩:=by rw [show 60 - (k+1)+1=60 - k by omega];exact h.1
 exact ⟨h1.put hb hp v,h.2.put key v⟩
def zfm:List ByteArray:=[⟨#[105,47,49,47,115]⟩,⟨#[99,47,102,105,108,101]⟩,⟨#[114,47,49,47,115]⟩,⟨#[112,47,49,47,116]⟩]
def zhB:List ByteArray:=[⟨#[53]⟩,⟨#[120]⟩,⟨#[57,57,57]⟩,⟨#[49]⟩]
theorem zk6:∀ s ∈ zfm,s.size ≠ 0/\s.size<=100/\K.cProc ≠ s:=by decide
def zkP:List Int:=[0,23,-1,5]
def anyA:List Int:=[-1,99,9223372036854775807,-9223372036854775808]
def anyB:List Int:=[0,-1,9223372036854775807]
theorem anyA_in:∀ x ∈ anyA,-9223372036854775808<=x/\x<=9223372036854775807:=by decide
theorem anyB_in:∀ x ∈ anyB,-9223372036854775808<=x/\x<=9223372036854775807:=by decide
structure AnyCall (c:CallD):Prop where
 n:c.name.size<=100
 t:c.to.size<=100
 x:c.text.size<=100
 a:zby c.a
 b:zby c.b
theorem AnyCall.ok {c:CallD} (h:AnyCall c):c.ok:=⟨by have:=h.n;omega,by have:=h.t;omega,by have:=h.x;omega⟩
theorem SmallCall.any {c:CallD} (h:SmallCall c):AnyCall c:=⟨h.1,h.2.1,h.2.2.1,h.in_.1,h.in_.2⟩
theorem zbS {w:World} {r q:Nat} {o o':Obj} (h:w.heap[r]?=some o) (h2:w.heap[q]?=some o'):(w.setB r o).setB q o'=w:=by rw [ze h,ze h2]
theorem zc3 (p:Nat) (vb:Value) (bs:List UInt8) (i h:Int) (w:World) (hc:Cur w p vb bs i h) :
  Calls Tryz.prog 30 #[.pointer (some ⟨p,0,none⟩)] w fun e w'=>∃ c:CallD,e=.returned (zaM c)/\AnyCall c/\zko p vb bs w w':=by
 have hp:=hc.lt
 have HC:=Hd hc
 clear hc
 have hbp:w.heap.size ≠ p:=by omega
 go_enter Tryz.func30,Tryz.ntmps30
 go_wp2_with fail
 (go_at_call 64;refine (zfF p vb bs _ _ _ (HC.out.alloc _)).mono ?_;rintro e w1 ⟨c,rfl,hsm,i1,h1,hg,hi0,hi1⟩)
 have G1:Hid (Got p w (zad vb i1 h1) w1):=((zdS HC.out.blk).alloc _).then hg hp
 have A1:=(hg.other (b:=w.heap.size) (by simp) hbp).trans (World.alloc_new _ _)
 have hq:w.heap.size<w1.heap.size:=za A1
 have hqp:w1.heap.size ≠ p:=by omega
 have hqr:w1.heap.size ≠ w.heap.size:=by omega
 have hrq:w.heap.size ≠ w1.heap.size:=by omega
 replace A1:=Hd A1
 obtain ⟨kd,nm,tn,ca,cb,tx⟩:=c
 have HS:Hid (AnyCall ⟨kd,nm,tn,ca,cb,tx⟩):=hsm.any
 clear hsm hg
 unfold zaM
 dsimp only
 go_wp2_with fail
 (go_at_call 63;refine (zao p vb bs _ _ _ _ (HC.out.got (G1.out.alloc _) hi0 hi1) (by omega)).mono ?_;rintro e w2 ⟨n,i2,h2,rfl,⟨hn,hm,_⟩,hg,hi0,hi1⟩)
 have G2:Hid (Got p w (zad vb i2 h2) w2):=(G1.out.alloc _).then hg hp
 have B2:=(hg.other (b:=w1.heap.size) (by simp [zd]<;>omega) hqp).trans (ziv rfl)
 have l2:=za B2
 have A2:=Hd ((hg.other (b:=w.heap.size) (by simp [zd]<;>omega) hbp).trans ((Below.heap_alloc _ _ _ (by omega)).trans A1.out))
 replace B2:=Hd B2
 clear hg hm
 by_cases e0:n=0
 ·subst e0
  go_wp2_with fail
  (go_at_call 65;refine (za4 p vb bs _ _ _ zkP _ (HC.out.got (G2.out.alloc _) hi0 hi1) (zbH zep w2 zkP 4 rfl (by decide) _ rfl _ _ rfl) (by decide) (by decide) (by simp [Value.ownBlock]<;>omega)).mono ?_;rintro e w3 ⟨x3,i3,h3,rfl,hx,hg,hi0,hi1⟩)
  have G3:Hid (Got p w (zad vb i3 h3) w3):=(G2.out.alloc _).then hg hp
  have B3:=(hg.other (b:=w1.heap.size) (by simp [zd]<;>omega) hqp).trans ((Below.heap_alloc _ _ _ (by omega)).trans B2.out)
  have A3:=(hg.other (b:=w.heap.size) (by simp [zd]<;>omega) hbp).trans ((Below.heap_alloc _ _ _ (by omega)).trans A2.out)
  clear hg
  have l3:=za B3
  have m3:=za A3
  rw [<- zbS A3 B3]
  clear A3 B3
  go_wp2
  refine bodyPost_ret (by simp [results,Tryz.results30,go_sem,m3,l3,hqr,hrq];rfl) rfl ?_
  exact ⟨⟨x3,nm,tn,ca,cb,tx⟩,rfl,⟨HS.out.n,HS.out.t,HS.out.x,HS.out.a,HS.out.b⟩,i3,h3,(by repeat (first|exact G3.out|refine Got.past ?_ (by omega) _)),hi0,hi1⟩
 by_cases e1:n=1
 ·subst e1
  go_wp2_with fail
  (go_at_call 66;refine (zeD 21 21 97 97 _ (by decide) (by decide) (by omega)).mono ?_;rintro e w3 ⟨s3,rfl,hs3,hb⟩)
  have B3:=Hd ((hb.block _ l2).trans B2.out)
  have A3:=Hd ((hb.block _ (by omega)).trans A2.out)
  have G3:Hid (Got p w (zad vb i2 h2) w3):=G2.out.ofBelow hb
  have l3:=hb.size
  clear hb
  go_wp2_with fail
  (go_at_call 53;refine (zbp p vb bs _ _ _ [⟨#[]⟩,⟨#[65]⟩,s3] _ (HC.out.got (G3.out.alloc _) hi0 hi1) (zbH zx w3 [⟨#[]⟩,⟨#[65]⟩,s3] 3 rfl (by decide) _ rfl _ _ rfl) (by simp) (by simp) (by simp [Value.ownBlock]<;>omega)).mono ?_;rintro e w4 ⟨s4,i4,h4,rfl,hs4,hg,hi0,hi1⟩)
  have hz4:s4.size<=100:=by
   simp only [List.mem_cons,List.not_mem_nil,or_false] at hs4
   rcases hs4 with rfl|rfl|rfl
   ·decide
   ·decide
   ·omega
  have G4:Hid (Got p w (zad vb i4 h4) w4):=(G3.out.alloc _).then hg hp
  have B4:=(hg.other (b:=w1.heap.size) (by simp [zd]<;>omega) hqp).trans ((Below.heap_alloc _ _ _ (by omega)).trans B3.out)
  have A4:=(hg.other (b:=w.heap.size) (by simp [zd]<;>omega) hbp).trans ((Below.heap_alloc _ _ _ (by omega)).trans A3.out)
  clear hg
  have l4:=za B4
  have m4:=za A4
  rw [<- zbS A4 B4]
  clear A4 B4
  go_wp2
  refine bodyPost_ret (by simp [results,Tryz.results30,go_sem,m4,l4,hqr,hrq];rfl) rfl ?_
  exact ⟨⟨kd,s4,tn,ca,cb,tx⟩,rfl,⟨hz4,HS.out.t,HS.out.x,HS.out.a,HS.out.b⟩,i4,h4,(by repeat (first|exact G4.out|refine Got.past ?_ (by omega) _)),hi0,hi1⟩
 by_cases e2:n=2
 ·subst e2
  go_wp2_with fail
  (go_at_call 65;refine (za4 p vb bs _ _ _ anyA _ (HC.out.got (G2.out.alloc _) hi0 hi1) (zbH zep w2 anyA 4 rfl (by decide) _ rfl _ _ rfl) (by decide) (by decide) (by simp [Value.ownBlock]<;>omega)).mono ?_;rintro e w3 ⟨x3,i3,h3,rfl,hx,hg,hi0,hi1⟩)
  have G3:Hid (Got p w (zad vb i3 h3) w3):=(G2.out.alloc _).then hg hp
  have B3:=(hg.other (b:=w1.heap.size) (by simp [zd]<;>omega) hqp).trans ((Below.heap_alloc _ _ _ (by omega)).trans B2.out)
  have A3:=(hg.other (b:=w.heap.size) (by simp [zd]<;>omega) hbp).trans ((Below.heap_alloc _ _ _ (by omega)).trans A2.out)
  clear hg
  have l3:=za B3
  have m3:=za A3
  rw [<- zbS A3 B3]
  clear A3 B3
  go_wp2
  refine bodyPost_ret (by simp [results,Tryz.results30,go_sem,m3,l3,hqr,hrq];rfl) rfl ?_
  exact ⟨⟨kd,nm,tn,x3,cb,tx⟩,rfl,⟨HS.out.n,HS.out.t,HS.out.x,anyA_in _ hx,HS.out.b⟩,i3,h3,(by repeat (first|exact G3.out|refine Got.past ?_ (by omega) _)),hi0,hi1⟩
 by_cases e3:n=3
 ·subst e3
  go_wp2_with fail
  (go_at_call 63;refine (zao p vb bs _ _ _ _ (HC.out.got G2.out hi0 hi1) (by omega)).mono ?_;rintro e w3 ⟨n3,i3,h3,rfl,⟨hn3,hm3,_⟩,hg,hi0,hi1⟩)
  have G3:Hid (Got p w (zad vb i3 h3) w3):=(G2.out).then hg hp
  have B3:=(hg.other (b:=w1.heap.size) (by omega) hqp).trans (B2.out)
  have A3:=(hg.other (b:=w.heap.size) (by omega) hbp).trans (A2.out)
  clear hg
  have hk3:=hm3 (by omega)
  clear hm3
  have l3:=za B3
  go_wp2_with fail
  (go_at_call 66;refine (zeD (20+n3) (20+n3.toNat) 5 5 _ (by omega) (by decide) (by omega)).mono ?_;rintro e w4 ⟨s4,rfl,hs4,hb⟩)
  have B4:=(hb.block _ l3).trans B3
  have A4:=(hb.block _ (by omega)).trans A3
  clear B3 A3
  have G4:Hid (Got p w (zad vb i3 h3) w4):=G3.out.ofBelow hb
  clear hb
  have l4:=za B4
  have m4:=za A4
  rw [<- zbS A4 B4]
  clear A4 B4
  go_wp2
  refine bodyPost_ret (by simp [results,Tryz.results30,go_sem,m4,l4,hqr,hrq];rfl) rfl ?_
  exact ⟨⟨kd,nm,tn,ca,cb,s4⟩,rfl,⟨HS.out.n,HS.out.t,(by show s4.size<=100;omega),HS.out.a,HS.out.b⟩,i3,h3,(by repeat (first|exact G4.out|refine Got.past ?_ (by omega) _)),hi0,hi1⟩
 by_cases e4:n=4
 ·subst e4
  go_wp2_with fail
  (go_at_call 65;refine (za4 p vb bs _ _ _ anyB _ (HC.out.got (G2.out.alloc _) hi0 hi1) (zbH zep w2 anyB 3 rfl (by decide) _ rfl _ _ rfl) (by decide) (by decide) (by simp [Value.ownBlock]<;>omega)).mono ?_;rintro e w3 ⟨x3,i3,h3,rfl,hx,hg,hi0,hi1⟩)
  have G3:Hid (Got p w (zad vb i3 h3) w3):=(G2.out.alloc _).then hg hp
  have B3:=(hg.other (b:=w1.heap.size) (by simp [zd]<;>omega) hqp).trans ((Below.heap_alloc _ _ _ (by omega)).trans B2.out)
  have A3:=(hg.other (b:=w.heap.size) (by simp [zd]<;>omega) hbp).trans ((Below.heap_alloc _ _ _ (by omega)).trans A2.out)
  clear hg
  have l3:=za B3
  have m3:=za A3
  rw [<- zbS A3 B3]
  clear A3 B3
  go_wp2
  refine bodyPost_ret (by simp [results,Tryz.results30,go_sem,m3,l3,hqr,hrq];rfl) rfl ?_
  exact ⟨⟨kd,nm,tn,ca,x3,tx⟩,rfl,⟨HS.out.n,HS.out.t,HS.out.x,HS.out.a,anyB_in _ hx⟩,i3,h3,(by repeat (first|exact G3.out|refine Got.past ?_ (by omega) _)),hi0,hi1⟩
 have A2:=A2.out
 have B2:=B2.out
 have l2:=za B2
 have m2:=za A2
 rw [<- zbS A2 B2]
 clear A2 B2
 go_wp2
 refine bodyPost_ret (by simp [results,Tryz.results30,go_sem,m2,l2,hqr,hrq];rfl) rfl ?_
 exact ⟨⟨kd,nm,tn,ca,cb,tx⟩,rfl,HS.out,i2,h2,(by repeat (first|exact G2.out|refine Got.past ?_ (by omega) _)),hi0,hi1⟩
def zh6:List Int:=[1,1,1,1,2,3,0,-1]
theorem procs_in:∀ x ∈ zh6,-1<=x/\x<=3:=by decide
theorem zb6 (p:Nat) (vb:Value) (bs:List UInt8) (i h:Int) (w:World) (hc:Cur w p vb bs i h) :
  Calls Tryz.prog 29 #[.pointer (some ⟨p,0,none⟩)] w fun e w'=>∃ n,e=.returned (.int .i64 n)/\(-1<=n/\n<=3)/\zko p vb bs w w':=by
 have hp:=hc.lt
 have HC:=Hd hc
 clear hc
 go_enter Tryz.func29,Tryz.ntmps29
 go_wp2_with fail
 (go_at_call 65;refine (za4 p vb bs _ _ _ zh6 _ (HC.out.alloc _) (RdL.lit zep w zh6 8 rfl (by decide) _ rfl _) (by decide) (by decide) (by simp [Value.ownBlock]<;>omega)).mono ?_;rintro e w3 ⟨z,i3,h3,rfl,hz,hg3,hk0,hk1⟩)
 have hzz:=procs_in z hz
 clear hz
 go_wp2
 go_ret
 exact ⟨_,rfl,hzz,i3,h3,((zdS HC.out.blk).alloc _).then hg3 hp,hk0,hk1⟩
theorem rdl_zc {w:World} {v:Value} {xs:List CellD} (hn:∀ c ∈ xs,c.key.size ≠ 0) (h:RdL zu w v xs) {p:Nat} {cs:Array Value} {t:TypeId} (hp:w.heap[p]?=some (.cells cs t (0,0))) (hz:∀ u ∈ cs,∀ s,u=.string s->s.size=0) (o:Obj):RdL zu (w.setB p o) v xs:=by
 by_cases hq:v.ownBlock=some p
 ·rcases h with h|⟨b,off,cap,hv,h1,h2,h3⟩
  ·exact .inl h
  ·cases xs with
   | nil=>exact .inr ⟨b,off,cap,hv,h1,h2,fun j u hj=>by simp at hj⟩
   | cons c xs =>
    exfalso
    subst hv
    have e:b=p:=by simpa [Value.ownBlock] using hq
    subst e
    have hc:=h3 0 (.string c.key) (by rw [List.flatMap_cons];rfl)
    rw [zb hp] at hc
    exact hn c List.mem_cons_self (hz _ (Array.mem_of_getElem? hc) _ rfl)
 ·exact h.setB hq o
theorem zhp {t:TypeId}:∀ u ∈ (#[.int .i64 0,.string ⟨#[]⟩,.string ⟨#[]⟩,.int .i64 0,.int .i64 0,.string ⟨#[]⟩]:Array Value),∀ s,u=.string s->s.size=0:=by
 intro u hu s hs
 subst hs
 simp at hu
 rcases hu with rfl|rfl|rfl<;>rfl
theorem zdK {a w w':World} {p:Nat} {o:Obj} (h:Got p w o w') (hb:Below a.heap.size a w) (hp:a.heap.size<=p):Below a.heap.size a w':=by
 obtain ⟨X,rfl⟩:=h
 exact (zo hb hp o).ofExt X
theorem zgy (v:Value) (bs:List UInt8) (w:World) (hs:Sl w v bs.length (zL bs)) (hl:bs.length<=140737488351232) (hb:∀ b,v.ownBlock=some b->b<w.heap.size) :
  Calls Tryz.prog 20 #[v] w fun e w'=>∃ u cs n c,e=.returned (.tuple #[u,.int .i64 n,zaM c])/\RdL zu w' u cs/\StoreN 13 cs/\(-1<=n/\n<=3)/\AnyCall c/\Below w.heap.size w w':=by
 have HS:=Hd hs
 have HB:=Hd hb
 clear hs hb
 go_enter Tryz.func20,Tryz.ntmps20
 go_wp2_with fail
 (go_at_call 26;refine (zgu v bs _ (HS.out.alloc _) hl (fun b hb=>by have:=HB.out b hb;simp;omega)).mono ?_;rintro e w1 ⟨p,rfl,⟨h,hc⟩,hb1,hp⟩)
 have R1:=Hd ((hb1.block w.heap.size (by simp)).trans (World.alloc_new _ _))
 have hz1:=hb1.size
 have hpl:=hc.lt
 have HC:=Hd hc
 have HB1:Hid (Below w.heap.size w w1):=Below.then (by repeat (first|with_reducible exact Below.refl _ _|with_reducible apply Below.ofAlloc)) hb1
 clear hc hb1
 rw [show (w.alloc _).heap.size=w.heap.size+1 by simp] at hp hz1
 have hrp:w.heap.size ≠ p:=by omega
 go_wp2_with fail
 (go_at_call 27;refine (zez p v bs _ _ 12 (by decide) _ HC.out).mono ?_;rintro e w2 ⟨u,cs,rfl,hu,hst,i2,h2,hg,hi0,hi1⟩)
 have G2:Hid (Got p w1 (zad v i2 h2) w2):=hg
 obtain ⟨ao,co,rfl⟩:=hu.form
 have HU:=Hd hu
 have HST:=Hd hst
 clear hu hst hg
 go_wp2_with fail
 (go_at_call 52;refine (zfG p v bs _ _ _ _ (HC.out.got G2.out hi0 hi1) (by decide)).mono ?_;rintro e w3 ⟨b3,rfl,i3,h3,hg,hj0,hj1⟩)
 have HU3:=Hd (zbh (zf _) HU.out (HC.out.got G2.out hi0 hi1) hg)
 have G3:Hid (Got p w1 (zad v i3 h3) w3):=G2.out.then hg hpl
 clear hg HU
 replace hi0:=hj0
 replace hi1:=hj1
 cases b3 with
 | false =>
  have HST2:=Hd (HST.out.le (show 12<=13 by decide))
  go_wp2_with fail
  (go_at_call 29;refine (zb6 p v bs _ _ _ (HC.out.got G3.out hi0 hi1)).mono ?_;rintro e wa ⟨n,rfl,hn,ia,ha,hg,q0,q1⟩)
  have HUa:=Hd (zbh (zf _) HU3.out (HC.out.got G3.out hi0 hi1) hg)
  have Ga:Hid (Got p w1 (zad v ia ha) wa):=G3.out.then hg hpl
  clear hg
  go_wp2_with fail
  (go_at_call 30;refine (zc3 p v bs _ _ _ (HC.out.got Ga.out q0 q1)).mono ?_;rintro e wb ⟨c,rfl,hcc,ib,hbb,hg,r0,r1⟩)
  have HUb:=Hd (zbh (zf _) HUa.out (HC.out.got Ga.out q0 q1) hg)
  have Gb:Hid (Got p w1 (zad v ib hbb) wb):=Ga.out.then hg hpl
  clear hg
  have Rb:=(Gb.out.other (b:=w.heap.size) (by omega) hrp).trans R1.out
  have lr:=za Rb
  have HUc:=Hd (fun o=>rdl_zc HST2.out.2.key HUb.out Rb (zhp (t:=26)) o)
  have HBb:=Hd (zdK Gb.out HB1.out (by omega))
  obtain ⟨kd,nm,tn,ca,cb,tx⟩:=c
  unfold zaM
  dsimp only
  rw [<- ze Rb]
  clear Rb
  go_wp2
  refine bodyPost_ret (by simp [results,Tryz.results20,go_sem,lr];rfl) rfl ?_
  exact ⟨_,cs,n,⟨kd,nm,tn,ca,cb,tx⟩,rfl,HUc.out _,HST2.out,hn,hcc,zo HBb.out (Nat.le_refl _) _⟩
 | true =>
  go_wp2_with fail
  have hz3:=G3.out.size
  (go_at_call 53;refine (zbp p v bs _ _ _ zfm _ (HC.out.got (G3.out.alloc _) hi0 hi1) (zbH zx w3 zfm 4 rfl (by decide) _ rfl _ _ rfl) (by decide) (by decide) (by simp [Value.ownBlock]<;>omega)).mono ?_;rintro e w4 ⟨s4,i4,h4,rfl,hs4,hg,hj0,hj1⟩)
  have HU4:=Hd (zbh (zf _) (HU3.out.alloc _) (HC.out.got (G3.out.alloc _) hi0 hi1) hg)
  have G4:Hid (Got p w1 (zad v i4 h4) w4):=(G3.out.alloc _).then hg hpl
  clear hg HU3
  replace hi0:=hj0
  replace hi1:=hj1
  go_wp2_with fail
  have hz4:=G4.out.size
  (go_at_call 53;refine (zbp p v bs _ _ _ zhB _ (HC.out.got (G4.out.alloc _) hi0 hi1) (zbH zx w4 zhB 4 rfl (by decide) _ rfl _ _ rfl) (by decide) (by decide) (by simp [Value.ownBlock]<;>omega)).mono ?_;rintro e w5 ⟨s5,i5,h5,rfl,hs5,hg,hj0,hj1⟩)
  have HU5:=Hd (zbh (zf _) (HU4.out.alloc _) (HC.out.got (G4.out.alloc _) hi0 hi1) hg)
  have G5:Hid (Got p w1 (zad v i5 h5) w5):=(G4.out.alloc _).then hg hpl
  clear hg HU4
  replace hi0:=hj0
  replace hi1:=hj1
  have hk:=zk6 s4 hs4
  go_wp2_with fail
  (go_at_call 50;refine (zgv _ cs s4 s5 _ HU5.out (Nat.le_trans (Good.len HST.out.1) (by decide)) (by omega)).mono ?_;rintro e w6 ⟨v6,rfl,ho,hb6⟩)
  obtain ⟨a6,c6,rfl⟩:=ho.rd.form
  have HU6:=Hd ho.rd
  have G6:Hid (Got p w1 (zad v i5 h5) w6):=G5.out.ofBelow hb6
  have HST2:=Hd (HST.out.put (by decide) (key:=s4) ⟨hk.1,Nat.le_trans hk.2.1 (by decide)⟩ hk.2.2 s5)
  clear ho hb6 HST HU5
  generalize zbM s4 s5 cs=cs' at HU6 HST2 ⊢
  go_wp2_with fail
  (go_at_call 29;refine (zb6 p v bs _ _ _ (HC.out.got G6.out hi0 hi1)).mono ?_;rintro e wa ⟨n,rfl,hn,ia,ha,hg,q0,q1⟩)
  have HUa:=Hd (zbh (zf _) HU6.out (HC.out.got G6.out hi0 hi1) hg)
  have Ga:Hid (Got p w1 (zad v ia ha) wa):=G6.out.then hg hpl
  clear hg
  go_wp2_with fail
  (go_at_call 30;refine (zc3 p v bs _ _ _ (HC.out.got Ga.out q0 q1)).mono ?_;rintro e wb ⟨c,rfl,hcc,ib,hbb,hg,r0,r1⟩)
  have HUb:=Hd (zbh (zf _) HUa.out (HC.out.got Ga.out q0 q1) hg)
  have Gb:Hid (Got p w1 (zad v ib hbb) wb):=Ga.out.then hg hpl
  clear hg
  have Rb:=(Gb.out.other (b:=w.heap.size) (by omega) hrp).trans R1.out
  have lr:=za Rb
  have HUc:=Hd (fun o=>rdl_zc HST2.out.2.key HUb.out Rb (zhp (t:=26)) o)
  have HBb:=Hd (zdK Gb.out HB1.out (by omega))
  obtain ⟨kd,nm,tn,ca,cb,tx⟩:=c
  unfold zaM
  dsimp only
  rw [<- ze Rb]
  clear Rb
  go_wp2
  refine bodyPost_ret (by simp [results,Tryz.results20,go_sem,lr];rfl) rfl ?_
  exact ⟨_,cs',n,⟨kd,nm,tn,ca,cb,tx⟩,rfl,HUc.out _,HST2.out,hn,hcc,zo HBb.out (Nat.le_refl _) _⟩
end Go.Proofs.YtpnoehpmgflibaaGreatDoor
