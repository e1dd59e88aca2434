/- Texts of this claim, merged: the walks and what they stand on. Each condition stands in its theorem. -/
import Derived.Test.YtpnoehpmgflibaaGreatDoorCA30
import Derived.Test.YtpnoehpmgflibaaGreatDoorCA39
set_option linter.unusedVariables false
set_option linter.unusedSimpArgs false
set_option maxRecDepth 100000
set_option maxHeartbeats 8000000
namespace Go.Proofs.YtpnoehpmgflibaaGreatDoor
open Go.ChangeShapes Go.WideShapes Go.ChangeAt Go.RowKit
theorem zc7 {p:Nat} {w w1:World} {o:Obj} (h:Got p w o w1):Got p w o w1.drew:=h.ofBelow (Below.drew (Below.refl _ _))
theorem zl3 {w:World} {v:Value} {m:MachD} (h:MRd w v m):∃ (b0:Option Addr) (q0 d0:Nat) (b1:Option Addr) (q1 d1:Nat) (b2:Option Addr) (q2 d2:Nat),v=.agg #[.slice b0 q0 d0,.slice b1 q1 d1,.slice b2 q2 d2]:=by
 obtain ⟨v0,v1,v2,rfl,h0,h1,h2⟩:=h
 obtain ⟨a0,c0,rfl⟩:=h0.form
 obtain ⟨a1,c1,rfl⟩:=h1.form
 obtain ⟨a2,c2,rfl⟩:=h2.form
 exact ⟨_,_,_,_,_,_,_,_,_,rfl⟩
theorem zia:∀ s ∈ zfq,s.size<=100/\s.size ≠ 0:=by decide
theorem zk9 {k:Nat} {cs:List CellD} (h:StoreN k cs) {key:ByteArray} (hk:key ∈ zfq):(K.look key).fits ⟨cs,[],[]⟩:=by
 have hz:=zia key hk
 obtain ⟨⟨L,D,h1,I,h3⟩,hr⟩:=h
 have h5:=Nat.le_mul_of_pos_left (D.length+L+14+12*(60 - k)) (Nat.two_pow_pos (12 - (prc ⟨cs,[],[]⟩).toNat))
 have kb:zhS key:=⟨hz.2,by omega⟩
 have hd:=zcv D key
 exact ⟨I.small (by omega),by omega,(I.read kb).small (by omega)⟩
theorem zgx (v:Value) (bs:List UInt8) (w:World) (hs:Sl w v bs.length (zL bs)) (hl:bs.length<=140737488351232) (hb:∀ b,v.ownBlock=some b->b<w.heap.size) :
  Calls Tryz.prog 21 #[v] w fun e w'=>∃ (a0:Option Addr) (n0 k0:Nat) (a1:Option Addr) (n1 k1:Nat) (a2:Option Addr) (n2 k2:Nat) (n:Int) (c:CallD),e=.returned (.tuple #[.agg #[.slice a0 n0 k0,.slice a1 n1 k1,.slice a2 n2 k2],.int .i64 n,zaM c])/\AnyCall c/\Below w.heap.size w w':=by
 have HS:=Hd hs
 have HB:=Hd hb
 clear hs hb
 go_enter Tryz.func21,Tryz.ntmps21
 go_wp2_with fail
 (go_at_call 26;refine (zgu v bs _ ((HS.out.alloc _).alloc _) hl (fun b hb=>by have:=HB.out b hb;simp;omega)).mono ?_;rintro e w1 ⟨p,rfl,⟨h,hc⟩,hb1,hp⟩)
 have R2:=Hd ((hb1.block w.heap.size (by simp;omega)).trans (zaq w (.cells #[.slice none 0 0,.slice none 0 0,.slice none 0 0] 54) _ w.heap.size rfl).1)
 have R4:=Hd ((hb1.block (w.heap.size+1) (by simp)).trans (zaq w _ (.cells #[.int .i64 0,.string ⟨#[]⟩,.string ⟨#[]⟩,.int .i64 0,.int .i64 0,.string ⟨#[]⟩] 26) w.heap.size rfl).2)
 have hz1:=hb1.size
 have hpl:=hc.lt
 have HC:=Hd hc
 have HB1:Hid (Below w.heap.size w w1):=Below.then (by repeat (first|with_reducible exact Below.refl _ _|with_reducible apply Below.ofAlloc)) hb1
 clear hc hb1
 replace hp:w.heap.size+1+1<=p:=by simpa using hp
 replace hz1:w.heap.size+1+1<=w1.heap.size:=by simpa using hz1
 have hrp:w.heap.size ≠ p:=by omega
 have hsp:w.heap.size+1 ≠ p:=by omega
 go_wp2_with fail
 (go_at_call 27;refine (zez p v bs _ _ 12 (by decide) _ HC.out).mono ?_;rintro e w2 ⟨u,cs,rfl,hu,hst,i2,h2,hg,hi0,hi1⟩)
 have G2:Hid (Got p w1 (zad v i2 h2) w2):=hg
 have l2:=hg.size
 obtain ⟨ao,co,rfl⟩:=hu.form
 have HU:=Hd hu
 have HST:=Hd hst
 clear hu hst hg
 go_wp2_with fail
 (go_at_call 54;refine (zef _ cs _ HU.out (Nat.le_trans (Good.len HST.out.1) (by decide))).mono ?_;rintro e w3 ⟨v3,rfl,ho3,hb3⟩)
 obtain ⟨a3,c3,rfl⟩:=ho3.rd.form
 have HO:=Hd ho3.rd
 have G3:Hid (Got p w1 (zad v i2 h2) w3):=G2.out.ofBelow hb3
 obtain ⟨mb,hmb⟩ : ∃ mb,mb=w3.heap.size:=⟨_,rfl⟩
 have lm1:w.heap.size+1<mb:=by have:=hb3.size;omega
 have lm0:w1.heap.size<=mb:=by have:=hb3.size;omega
 have hmp:mb ≠ p:=by have:=hb3.size;omega
 clear ho3 hb3 HU
 go_wp2_with fail
 (go_at_call 52;refine (zfG p v bs _ _ _ _ (HC.out.got (G3.out.alloc _) hi0 hi1) (by decide)).mono ?_;rintro e w4 ⟨b4,rfl,i4,h4,hg,hj0,hj1⟩)
 have HO4:=Hd (zbh (zf _) (HO.out.alloc _) (HC.out.got (G3.out.alloc _) hi0 hi1) hg)
 have G4:Hid (Got p w1 (zad v i4 h4) w4):=(G3.out.alloc _).then hg hpl
 have X4:=(hg.other (b:=mb) (by rw [hmb];simp) hmp).trans (ziv hmb)
 rw [<- hmb]
 clear hg HO hmb G3 G2
 replace hi0:=hj0
 replace hi1:=hj1
 have hm2:mb ≠ w.heap.size:=by omega
 have hm4:mb ≠ w.heap.size+1:=by omega
 have hm2':w.heap.size ≠ mb:=by omega
 have hm4':w.heap.size+1 ≠ mb:=by omega
 have x0:=(zb (i:=0) X4).trans rfl
 have x1:=(zb (i:=1) X4).trans rfl
 have x2:=(zb (i:=2) X4).trans rfl
 simp at x0 x1 x2
 have l4:=za X4
 replace X4:=Hd X4
 cases b4 with
 | false =>
  go_wp2
  go_region_with (first
   | (go_at_call 29;refine (zb6 p v bs _ _ _ (HC.out.got (zc7 G4.out) hi0 hi1)).mono ?_;rintro e wa ⟨n,rfl,hn,ia,ha,hg,q0,q1⟩;have Ga:Hid (Got p w1 (zad v ia ha) wa):=(zc7 G4.out).then hg hpl;have Xa:=(hg.other (b:=mb) (za X4.out) hmp).trans X4.out;(have y0:=(zb (i:=0) Xa).trans rfl;have y1:=(zb (i:=1) Xa).trans rfl;have y2:=(zb (i:=2) Xa).trans rfl);simp at y0 y1 y2;have Xa:=Hd Xa;clear hg;try go_simp)
   | (go_at_call 30;refine (zc3 p v bs _ _ _ (HC.out.got Ga.out q0 q1)).mono ?_;rintro e wb ⟨⟨kd,nm,tn,ca,cb,tx⟩,rfl,hcc,ib,hbb,hg,r0,r1⟩;have Gb:Hid (Got p w1 (zad v ib hbb) wb):=Ga.out.then hg hpl;have Xb:=(hg.other (b:=mb) (za Xa.out) hmp).trans Xa.out;(have y3:=(zb (i:=0) Xb).trans rfl;have y4:=(zb (i:=1) Xb).trans rfl;have y5:=(zb (i:=2) Xb).trans rfl);simp at y3 y4 y5;have lb:=za Xb;have Rb:=(Gb.out.other (b:=w.heap.size) (by omega) hrp).trans R2.out;have Sb:=(Gb.out.other (b:=w.heap.size+1) (by omega) hsp).trans R4.out;have lr:=za Rb;have ls:=za Sb;clear hg Xb;unfold zaM;dsimp only;rw [<- zbS Rb Sb];clear Rb Sb;try go_simp))
  all_goals (repeat (first|go_skip|go_guarded|go_step|go_upon|go_back))
  all_goals refine bodyPost_ret (by simp [results,Tryz.results21,go_sem,lr,ls];rfl) rfl ?_
  all_goals exact ⟨_,_,_,_,_,_,_,_,_,n,⟨kd,nm,tn,ca,cb,tx⟩,rfl,hcc,zo (zo (zdK Gb.out HB1.out (by omega)) (Nat.le_refl _) _) (by omega) _⟩
 | true =>
  have DL:=Hd (fun k (hk:k ∈ zfq) w' h=>za3 k w' (.agg #[.slice a3 cs.length c3,.slice none 0 0,.slice none 0 0]) ⟨cs,[],[]⟩ h (zk9 HST.out hk))
  go_wp2
  go_region_with (first
   | (go_at_call 56;refine (zjD p v bs _ _ _ (HC.out.got (zc7 G4.out) hi0 hi1)).mono ?_;rintro e w5 ⟨k5,i5,h5,rfl,hk5,hg,hj0,hj1⟩;have HO5:=Hd (zbh (zf _) (RdL.drew HO4.out) (HC.out.got (zc7 G4.out) hi0 hi1) hg);have G5:Hid (Got p w1 (zad v i5 h5) w5):=(zc7 G4.out).then hg hpl;have X5:=(hg.other (b:=mb) l4 hmp).trans X4.out;(have z0:=(zb (i:=0) X5).trans rfl;have z1:=(zb (i:=1) X5).trans rfl;have z2:=(zb (i:=2) X5).trans rfl);simp at z0 z1 z2;have l5:=za X5;have X5:=Hd X5;clear hg;try go_simp)
   | (go_at_call 55;refine (DL.out _ hk5 _ ⟨_,_,_,rfl,HO5.out,RdL.nil _ _,RdL.nil _ _⟩).mono ?_;rintro e w6 ⟨v6,rfl,hm6,hb6⟩;obtain ⟨b0,q0,d0,b1,q1,d1,b2,q2,d2,rfl⟩:=zl3 hm6;have G6:Hid (Got p w1 (zad v i5 h5) w6):=G5.out.ofBelow hb6;have X6:=(hb6.block mb l5).trans X5.out;clear hm6 hb6;rw [<- ze X6];have l6:=za X6;clear X6;try go_simp))
  all_goals (
   replace hi0:=hj0
   replace hi1:=hj1
   have g7:Got p w1 (zad v i5 h5) (w6.setB mb (.cells #[.slice b0 q0 d0,.slice b1 q1 d1,.slice b2 q2 d2] 54 (0,0))):=G6.out.past lm0 _
   have X7:(w6.setB mb (.cells #[.slice b0 q0 d0,.slice b1 q1 d1,.slice b2 q2 d2] 54 (0,0))).heap[mb]?=some (.cells #[.slice b0 q0 d0,.slice b1 q1 d1,.slice b2 q2 d2] 54 (0,0)):=World.setB_at _ _ _ l6
   generalize w6.setB mb (.cells #[.slice b0 q0 d0,.slice b1 q1 d1,.slice b2 q2 d2] 54 (0,0))=w7 at g7 X7 ⊢
   have G7:=Hd g7
   have x0:=(zb (i:=0) X7).trans rfl
   have x1:=(zb (i:=1) X7).trans rfl
   have x2:=(zb (i:=2) X7).trans rfl
   simp at x0 x1 x2
   replace X7:=Hd X7
   clear g7 G6 G5 G4 HO4 HO5
   go_wp2
   go_region_with (first
    | (go_at_call 29;refine (zb6 p v bs _ _ _ (HC.out.got (zc7 G7.out) hi0 hi1)).mono ?_;rintro e wa ⟨n,rfl,hn,ia,ha,hg,q0,q1⟩;have Ga:Hid (Got p w1 (zad v ia ha) wa):=(zc7 G7.out).then hg hpl;have Xa:=(hg.other (b:=mb) (za X7.out) hmp).trans X7.out;(have y0:=(zb (i:=0) Xa).trans rfl;have y1:=(zb (i:=1) Xa).trans rfl;have y2:=(zb (i:=2) Xa).trans rfl);simp at y0 y1 y2;have Xa:=Hd Xa;clear hg;try go_simp)
    | (go_at_call 30;refine (zc3 p v bs _ _ _ (HC.out.got Ga.out q0 q1)).mono ?_;rintro e wb ⟨⟨kd,nm,tn,ca,cb,tx⟩,rfl,hcc,ib,hbb,hg,r0,r1⟩;have Gb:Hid (Got p w1 (zad v ib hbb) wb):=Ga.out.then hg hpl;have Xb:=(hg.other (b:=mb) (za Xa.out) hmp).trans Xa.out;(have y3:=(zb (i:=0) Xb).trans rfl;have y4:=(zb (i:=1) Xb).trans rfl;have y5:=(zb (i:=2) Xb).trans rfl);simp at y3 y4 y5;have lb:=za Xb;have Rb:=(Gb.out.other (b:=w.heap.size) (by omega) hrp).trans R2.out;have Sb:=(Gb.out.other (b:=w.heap.size+1) (by omega) hsp).trans R4.out;have lr:=za Rb;have ls:=za Sb;clear hg Xb;unfold zaM;dsimp only;rw [<- zbS Rb Sb];clear Rb Sb;try go_simp))
   all_goals (repeat (first|go_skip|go_guarded|go_step|go_upon|go_back))
   all_goals refine bodyPost_ret (by simp [results,Tryz.results21,go_sem,lr,ls];rfl) rfl ?_
   all_goals exact ⟨_,_,_,_,_,_,_,_,_,n,⟨kd,nm,tn,ca,cb,tx⟩,rfl,hcc,zo (zo (zdK Gb.out HB1.out (by omega)) (Nat.le_refl _) _) (by omega) _⟩)
open Mp
theorem Right.star {s:List CellD} (h:Right s) (p:ByteArray):∀ k ∈ zK p s,NoStar k:=by
 intro k hk
 unfold zK at hk
 obtain ⟨c,hc,rfl⟩:=List.mem_map.1 hk
 exact NoStar.ofOk (h.2 c (List.mem_filter.1 hc).1).1
/-! ### spans -/
theorem ziq {a b:ByteArray}:(a.toList==b.toList)=true ↔ a=b:=by
 rw [beq_iff_eq,ByteArray.toList_eq,ByteArray.toList_eq]
 exact ⟨fun h=>ByteArray.ext (Array.toList_inj.1 h),fun h=>by rw [h]⟩
theorem zln (a:ByteArray) (n:Nat) (hn:n<=a.size):zaj a (a.extract 0 n)=true:=by
 unfold zaj
 have e:(a.extract 0 n).size=n:=by rw [ByteArray.size_extract];omega
 rw [Bool.and_eq_true,decide_eq_true_eq,ziq,e]
 exact ⟨hn,rfl⟩
theorem zfI (k:ByteArray):zaZ k k=true:=by
 unfold zaZ
 split
 ·rename_i h
  unfold zY
  rw [if_pos h]
  exact zln k _ (by omega)
 ·exact ziq.2 rfl
theorem zgA {k x:ByteArray} (h:NoStar k):zaZ k x=true ↔ x=k:=by
 unfold zaZ
 rw [h.shut,if_neg (by decide),ziq]
 exact eq_comm
theorem ziR (p k:ByteArray):zaZ (p++star) k=zaj k p:=by
 have hs:(p++star).size=p.size+1:=by rw [ByteArray.size_append];rfl
 have hd:(p++star).data.toList=p.data.toList ++ [42]:=by rw [ByteArray.data_append,Array.toList_append];rfl
 have h1:zaG (p++star)=true:=by
  unfold zaG
  rw [Bool.and_eq_true,decide_eq_true_eq,beq_iff_eq,ByteArray.toList_eq,ByteArray.data_extract,Array.toList_extract,List.extract_eq_take_drop,hd,hs]
  refine ⟨by omega,?_⟩
  have hl:p.data.toList.length=p.size:=by simp
  rw [show p.size+1 - 1=p.data.toList.length by omega,List.drop_left,show p.size+1 - p.data.toList.length=1 by omega]
  rfl
 have h2:(p++star).extract 0 p.size=p:=by
  apply ByteArray.ext
  apply Array.toList_inj.1
  rw [ByteArray.data_extract,Array.toList_extract,List.extract_eq_take_drop,hd,List.drop_zero,Nat.sub_zero]
  have hl:p.data.toList.length=p.size:=by simp
  rw [<- hl,List.take_left]
 unfold zaZ zY
 rw [if_pos h1,if_pos h1,hs,show p.size+1 - 1=p.size by omega,h2]
theorem zgb {ss:List ByteArray} {s k:ByteArray} (h:s ∈ ss) (hk:zaZ s k=true):zbR ss k=true:=List.any_eq_true.2 ⟨s,h,hk⟩
theorem have_put {ss:List ByteArray} {s k:ByteArray} (h:NoStar s) (hk:zbR (zb3 ss s) k=true):zbR ss k=true ∨ k=s:=by
 obtain ⟨x,hx,hh⟩:=List.any_eq_true.1 hk
 rcases (zbi _ _ _).1 hx with hx|rfl
 ·exact .inl (zgb hx hh)
 ·exact .inr ((zgA h).1 hh)
/-! ### what a run reads and lays -/
theorem zkz {α : Type} (x:Mp α) (m:MachD):∀ k ∈ m.rd,k ∈ (x.run m).2.rd:=by
 induction x generalizing m with
 | ret a=>exact fun _ h=>h
 | look k g ih=>exact fun y h=>ih _ _ y ((zbi _ _ _).2 (.inl h))
 | lay k v n ih=>exact fun y h=>ih (m.lay k v) y h
 | under p g ih=>exact fun y h=>ih _ _ y ((zbi _ _ _).2 (.inl h))
theorem wr_grows {α : Type} (x:Mp α) (m:MachD):∀ k ∈ m.wr,k ∈ (x.run m).2.wr:=by
 induction x generalizing m with
 | ret a=>exact fun _ h=>h
 | look k g ih=>exact fun y h=>ih _ _ y h
 | lay k v n ih=>exact fun y h=>ih (m.lay k v) y ((zbi _ _ _).2 (.inl h))
 | under p g ih=>exact fun y h=>ih _ _ y h
theorem zeR {α : Type} (x:Mp α) (m:MachD) (k:ByteArray):k ∉ (x.run m).2.wr->zbm k (x.run m).2.cells=zbm k m.cells:=by
 induction x generalizing m with
 | ret a=>exact fun _=>rfl
 | look k' g ih=>exact fun h=>ih _ _ h
 | lay k' v n ih =>
  intro h
  have h1:=ih (m.lay k' v) h
  have hne:k ≠ k':=fun e=>h (wr_grows n (m.lay k' v) k ((zbi _ _ _).2 (.inr e)))
  exact h1.trans (zfw hne m.cells)
 | under p g ih=>exact fun h=>ih _ _ h
theorem zly {α : Type} {Q : α->Prop} (x:Mp α) (m:MachD) (hx:x.Sm Q) (h:Right m.cells) (hw:∀ k ∈ m.wr,NoStar k):∀ k ∈ (x.run m).2.wr,NoStar k:=by
 induction x generalizing m with
 | ret a=>exact hw
 | look k g ih=>exact ih _ (m.look k) (hx _ (h.val k)) h hw
 | lay k v n ih =>
  refine ih (m.lay k v) hx.2.2 (h.put k v) fun y hy=>?_
  rcases (zbi _ _ _).1 hy with hy|rfl
  ·exact hw y hy
  ·exact hx.1
 | under p g ih=>exact ih _ (m.under p) (hx _ (h.star p)) h hw
theorem zkT {a b:List CellD} (ha:Right a) (hb:Right b) (p:ByteArray) (h:∀ k,zaj k p=true->zbm k a=zbm k b):zK p a=zK p b:=by
 unfold zK
 have sa:zdA (a.filter fun c=>zaj c.key p):=⟨List.Pairwise.filter _ ha.1.1,fun c hc=>ha.1.2 c (List.mem_filter.1 hc).1⟩
 have sb:zdA (b.filter fun c=>zaj c.key p):=⟨List.Pairwise.filter _ hb.1.1,fun c hc=>hb.1.2 c (List.mem_filter.1 hc).1⟩
 have hg:∀ (s:List CellD),Right s->zdA (s.filter fun c=>zaj c.key p)->∀ k,zbm k (s.filter fun c=>zaj c.key p)=if zaj k p=true then zbm k s else ⟨#[]⟩:=by
  intro s hs hf k
  by_cases hk:zaj k p=true
  ·rw [if_pos hk]
   by_cases hex:∃ c ∈ s,c.key=k
   ·obtain ⟨c,hc,rfl⟩:=hex
    rw [zdL hf.1 c (List.mem_filter.2 ⟨hc,hk⟩),zdL hs.1.1 c hc]
   ·rw [zcL fun c hc e=>hex ⟨c,(List.mem_filter.1 hc).1,e⟩,zcL fun c hc e=>hex ⟨c,hc,e⟩]
  ·rw [if_neg hk,zcL fun c hc e=>hk (by rw [<- e];exact (List.mem_filter.1 hc).2)]
 rw [ziI sa sb fun k=>by
  rw [hg a ha sa,hg b hb sb]
  split
  ·rename_i hk;exact h k hk
  ·rfl]
theorem zkw {α : Type} {Q : α->Prop} (x:Mp α) (m m':MachD) (hx:x.Sm Q) (h:Right m.cells) (h':Right m'.cells) (er:m'.rd=m.rd) (ew:m'.wr=m.wr)
  (hag:∀ k,zbR (x.run m).2.rd k=true->zbm k m.cells=zbm k m'.cells) (hw:∀ k,zbR m.wr k=true->zbm k m.cells=zbm k m'.cells) :
  (x.run m').1=(x.run m).1/\(x.run m').2.rd=(x.run m).2.rd/\(x.run m').2.wr=(x.run m).2.wr/\∀ k,zbR (x.run m).2.wr k=true->zbm k (x.run m).2.cells=zbm k (x.run m').2.cells:=by
 induction x generalizing m m' with
 | ret a=>exact ⟨rfl,er,ew,hw⟩
 | look k g ih =>
  have hk:zbm k m'.cells=zbm k m.cells:=(hag k (zgb (zkz (g _) (m.look k) k ((zbi _ _ _).2 (.inr rfl))) (zfI k))).symm
  show ((g (zbm k m'.cells)).run (m'.look k)).1 = _/\((g (zbm k m'.cells)).run (m'.look k)).2.rd = _/\((g (zbm k m'.cells)).run (m'.look k)).2.wr = _/\∀ x,_->_=zbm x ((g (zbm k m'.cells)).run (m'.look k)).2.cells
  rw [hk]
  exact ih _ (m.look k) (m'.look k) (hx _ (h.val k)) h h' (by show zb3 m'.rd k=zb3 m.rd k;rw [er]) ew hag hw
 | lay k v n ih =>
  have hp:∀ y,y=k ∨ zbm y m.cells=zbm y m'.cells->zbm y (zbM k v m.cells)=zbm y (zbM k v m'.cells):=by
   intro y hy
   cases hk:zbc k with
   | true =>
    rw [zkI h.1 hk hx.2.1,zkI h'.1 hk hx.2.1]
    split
    ·rfl
    ·rename_i hne
     exact hy.resolve_left hne
   | false =>
    rw [zjT (.inl hk),zjT (.inl hk)]
    rcases hy with rfl|hy
    ·rw [zcL (s:=m.cells) (fun c hc e=>by (have:=(h.2 c hc).1);rw [e,hk] at this;cases this),zcL (s:=m'.cells) (fun c hc e=>by (have:=(h'.2 c hc).1);rw [e,hk] at this;cases this)]
    ·exact hy
  refine ih (m.lay k v) (m'.lay k v) hx.2.2 (h.put k v) (h'.put k v) er (by show zb3 m'.wr k=zb3 m.wr k;rw [ew]) (fun y hy=>hp y (.inr (hag y hy))) fun y hy=>hp y ?_
  rcases have_put hx.1 hy with hy|rfl
  ·exact .inr (hw y hy)
  ·exact .inl rfl
 | under p g ih =>
  have hk:zK p m'.cells=zK p m.cells:=(zkT h h' p fun y hy=>hag y (zgb (zkz (g _) (m.under p) (p++star) ((zbi _ _ _).2 (.inr rfl))) (by rw [ziR];exact hy))).symm
  show ((g (zK p m'.cells)).run (m'.under p)).1 = _/\((g (zK p m'.cells)).run (m'.under p)).2.rd = _/\((g (zK p m'.cells)).run (m'.under p)).2.wr = _/\∀ x,_->_=zbm x ((g (zK p m'.cells)).run (m'.under p)).2.cells
  rw [hk]
  exact ih _ (m.under p) (m'.under p) (hx _ (h.star p)) h h' (by show zb3 m'.rd (p++star)=zb3 m.rd (p++star);rw [er]) ew hag hw
theorem zls {α β : Type} {Q : α->Prop} {R : β->Prop} (x:Mp α) (y:Mp β) (s:List CellD) (hx:x.Sm Q) (hy:y.Sm R) (hs:Right s)
  (hc:zel ⟨(x.run ⟨s,[],[]⟩).2.rd,(x.run ⟨s,[],[]⟩).2.wr⟩ ⟨(y.run ⟨s,[],[]⟩).2.rd,(y.run ⟨s,[],[]⟩).2.wr⟩=false) :
  (y.run ⟨(x.run ⟨s,[],[]⟩).2.cells,[],[]⟩).1=(y.run ⟨s,[],[]⟩).1/\(x.run ⟨(y.run ⟨s,[],[]⟩).2.cells,[],[]⟩).1=(x.run ⟨s,[],[]⟩).1 /\
  (y.run ⟨(x.run ⟨s,[],[]⟩).2.cells,[],[]⟩).2.cells=(x.run ⟨(y.run ⟨s,[],[]⟩).2.cells,[],[]⟩).2.cells:=by
 have rx:=Right.run x ⟨s,[],[]⟩ hs
 have ry:=Right.run y ⟨s,[],[]⟩ hs
 have nx:=zly x ⟨s,[],[]⟩ hx hs fun k hk=>by cases hk
 have ny:=zly y ⟨s,[],[]⟩ hy hs fun k hk=>by cases hk
 have tx:=zeR x ⟨s,[],[]⟩
 have ty:=zeR y ⟨s,[],[]⟩
 unfold zel zaC at hc
 rw [Bool.or_eq_false_iff,Bool.or_eq_false_iff] at hc
 obtain ⟨c1,c2,c3⟩:=hc
 have no:∀ {A B:List ByteArray},(A.any fun a=>B.any fun b=>zR a b)=false->∀ a ∈ A,∀ b ∈ B,zR a b=false:=by
  intro A B h a ha b hb
  rw [List.any_eq_false] at h
  have h1:=h a ha
  rw [Bool.not_eq_true,List.any_eq_false] at h1
  simpa using h1 b hb
 have off:∀ {A B:List ByteArray},(∀ a ∈ A,NoStar a)->(∀ a ∈ A,∀ b ∈ B,zR a b=false)->∀ k ∈ A,zbR B k ≠ true:=by
  intro A B hA h k hk hh
  obtain ⟨b,hb,hs⟩:=List.any_eq_true.1 hh
  have:=h k hk b hb
  unfold zR at this
  rw [(hA k hk).shut,if_neg (by decide),hs] at this
  cases this
 have o1:=off nx (no c1)
 have o2:=off nx (no c2)
 have o3:=off ny fun a ha b hb=>by rw [zcG];exact no c3 b hb a ha
 have memW:∀ {A:List ByteArray} {k:ByteArray},(∀ a ∈ A,NoStar a)->(zbR A k=true ↔ k ∈ A):=by
  intro A k hA
  constructor
  ·intro h
   obtain ⟨a,ha,hh⟩:=List.any_eq_true.1 h
   rw [(zgA (hA a ha)).1 hh]
   exact ha
  ·exact fun h=>zgb h (zfI k)
 have Ry:=zkw y ⟨s,[],[]⟩ ⟨(x.run ⟨s,[],[]⟩).2.cells,[],[]⟩ hy hs rx rfl rfl (fun k hk=>(tx k fun h=>o1 k h hk).symm) (fun k hk=>by cases hk)
 have Rx:=zkw x ⟨s,[],[]⟩ ⟨(y.run ⟨s,[],[]⟩).2.cells,[],[]⟩ hx hs ry rfl rfl (fun k hk=>(ty k fun h=>o3 k h hk).symm) (fun k hk=>by cases hk)
 refine ⟨Ry.1,Rx.1,ziI (Right.run y ⟨(x.run ⟨s,[],[]⟩).2.cells,[],[]⟩ rx).1 (Right.run x ⟨(y.run ⟨s,[],[]⟩).2.cells,[],[]⟩ ry).1 fun k=>?_⟩
 have ky:=zeR y ⟨(x.run ⟨s,[],[]⟩).2.cells,[],[]⟩ k
 have kx:=zeR x ⟨(y.run ⟨s,[],[]⟩).2.cells,[],[]⟩ k
 rw [Ry.2.2.1] at ky
 rw [Rx.2.2.1] at kx
 by_cases hy1:k ∈ (y.run ⟨s,[],[]⟩).2.wr
 ·have hx1:k ∉ (x.run ⟨s,[],[]⟩).2.wr:=fun h=>o2 k h ((memW ny).2 hy1)
  rw [<- Ry.2.2.2 k ((memW ny).2 hy1),kx hx1]
 ·by_cases hx1:k ∈ (x.run ⟨s,[],[]⟩).2.wr
  ·rw [<- Rx.2.2.2 k ((memW nx).2 hx1),ky hy1]
  ·rw [ky hy1,kx hx1]
   exact (tx k hx1).trans (ty k hy1).symm
open Mp
theorem zjP {ds:List CellD} (h:zcE ds=true):Right ds:=⟨(zed h).1,fun c hc=>⟨((zed h).2 c hc).1,((zed h).2 c hc).2.2⟩⟩
theorem zkb {s:List CellD} {p q:Int} {c d:CallD} (hs:zcE s=true) {a b:AnswerD} {m n:MachD} (hm:(K.doCall p c).run ⟨s,[],[]⟩=(a,m)) (hn:(K.doCall q d).run ⟨s,[],[]⟩=(b,n)) (h:zel ⟨m.rd,m.wr⟩ ⟨n.rd,n.wr⟩=false) :
  ((K.doCall q d).run ⟨m.cells,[],[]⟩).1=b/\((K.doCall p c).run ⟨n.cells,[],[]⟩).1=a/\((K.doCall q d).run ⟨m.cells,[],[]⟩).2.cells=((K.doCall p c).run ⟨n.cells,[],[]⟩).2.cells:=by
 have h1:=zls (K.doCall p c) (K.doCall q d) s (ziW p c) (ziW q d) (zjP hs) (by rw [hm,hn];exact h)
 rw [hm,hn] at h1
 exact h1
theorem za6 (cs:List Value) (d:TouchD) (cs':List Value) (e:TouchD) (w:World) (hs:zdf.rd w cs d) (hs':zdf.rd w cs' e) :
  Calls Tryz.prog 24 #[.agg cs.toArray,.agg cs'.toArray] w fun x w'=>x=.returned (.bool (!zel d e))/\Below w.heap.size w w':=by
 have HU:=Hd hs
 have HV:=Hd hs'
 obtain ⟨s0,s1,rfl,h0,h1⟩:=hs
 obtain ⟨t0,t1,rfl,g0,g1⟩:=hs'
 obtain ⟨a0,c0,rfl⟩:=vSlice.form h0
 obtain ⟨a1,c1,rfl⟩:=vSlice.form h1
 obtain ⟨a2,c2,rfl⟩:=vSlice.form g0
 obtain ⟨a3,c3,rfl⟩:=vSlice.form g1
 clear h0 h1 g0 g1
 go_enter Tryz.func24,Tryz.ntmps24
 go_wp2_with fail
 (go_at_call 60;refine (zlf _ d _ e _ (View.grow _ HU.out (Grew.below (by repeat (first|with_reducible exact Below.refl _ _|with_reducible apply Below.ofAlloc)))) (View.grow _ HV.out (Grew.below (by repeat (first|with_reducible exact Below.refl _ _|with_reducible apply Below.ofAlloc))))).mono ?_;rintro e w' ⟨rfl,hb⟩;obtain ⟨X,rfl⟩:=hb.ext;clear hb)
 go_wp2
 go_ret
 exact ⟨rfl,(by repeat (first|with_reducible exact Below.refl _ _|with_reducible apply Below.ofExt|with_reducible apply Below.ofAlloc))⟩
theorem zky {w:World} {v1 v2:Value} {r s:List ByteArray} (h1:RdL zx w v1 r) (h2:RdL zx w v2 s) (z1:∀ x ∈ r,x.size<=1048700) (z2:∀ x ∈ s,x.size<=1048700):zdf.rd w [v1,v2] ⟨r,s⟩ :=
 ⟨_,_,rfl,zgE (R:=zx) rfl rfl (by decide) h1 (fun x hx=>Nat.le_trans (z1 x hx) (by decide)),zgE (R:=zx) rfl rfl (by decide) h2 (fun x hx=>Nat.le_trans (z2 x hx) (by decide))⟩
theorem StoreN.touch {k:Nat} {cs:List CellD} (h:StoreN k cs) (hk:k+1<=60) {proc:Int} {c:CallD} (hp:zby proc) (ha:zby c.a):(∀ x ∈ ((K.doCall proc c).run ⟨cs,[],[]⟩).2.rd,x.size<=1048700)/\∀ x ∈ ((K.doCall proc c).run ⟨cs,[],[]⟩).2.wr,x.size<=1048700:=by
 have h1:Good (60 - (k+1)+1) ⟨cs,[],[]⟩:=by rw [show 60 - (k+1)+1=60 - k by omega];exact h.1
 have h2:=(h1.step hp ha).touch
 exact ⟨h2.1.2,h2.2.2⟩
theorem zas {w:World} (a b:Obj) {n:Nat} (h:n<w.heap.size):((w.alloc a).alloc b).heap[n]?=w.heap[n]? :=
 (Below.heap_alloc _ _ _ (by simp;omega)).trans (Below.heap_alloc _ _ _ h)
end Go.Proofs.YtpnoehpmgflibaaGreatDoor
