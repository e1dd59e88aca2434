/- Texts of this claim, merged: the walks and what they stand on. Each condition stands in its theorem. -/
import Derived.Test.YtpnoehpmgflibaaGreatDoorCA23
import Derived.Test.YtpnoehpmgflibaaGreatDoorCA24
import Derived.Test.YtpnoehpmgflibaaGreatDoorCA25
set_option linter.unusedVariables false
set_option linter.unusedSimpArgs false
set_option maxRecDepth 100000
set_option maxHeartbeats 8000000
namespace Go.Proofs.YtpnoehpmgflibaaGreatDoor
open Go.ChangeShapes Go.WideShapes Go.ChangeAt Go.RowKit
theorem zkc {kd:Int} {nm tn tx:ByteArray} {ca cb:Int} (h:K.callOk ⟨kd,nm,tn,ca,cb,tx⟩=true):(1<=kd/\kd<=22)/\nm.size<=20/\tn.size<=20/\tx.size<=64:=by
 unfold K.callOk inB at h
 simp at h
 omega
set_option maxHeartbeats 40000000 in
theorem zha (proc:Int) (hp0 : -9223372036854775808<=proc) (hp1:proc<=9223372036854775807) (c:CallD) (hc:c.ok) (ha0 : -9223372036854775808<=c.a) (ha1:c.a<=9223372036854775807) (hb0 : -9223372036854775808<=c.b) (hb1:c.b<=9223372036854775807):SC 57 (fun x=>#[x,.int .i64 proc,zaM c]) (K.doCall proc c) (fun v' a=>.tuple #[v',zdc a]):=by
 obtain ⟨kd,nm,tn,ca,cb,tx⟩:=c
 dsimp only at ha0 ha1 hb0 hb1
 have D:Hid (∀ w,Calls Tryz.prog 114 #[.agg #[.int .i64 kd,.string nm,.string tn,.int .i64 ca,.int .i64 cb,.string tx]] w fun e w'=>e=.returned (.bool (K.callOk ⟨kd,nm,tn,ca,cb,tx⟩))/\Below w.heap.size w w'):=fun w=>zjE ⟨kd,nm,tn,ca,cb,tx⟩ hc w
 clear hc
 refine zeq (fun w m a0 c0 a1 c1 a2 c2 res mres H0 H1 H2 HL=>?_)
 unfold K.doCall at HL
 unfold zaM
 dsimp only at HL ⊢
 go_enter Tryz.func57,Tryz.ntmps57
 (try simp only [])
 ((repeat (first|((with_reducible refine zcK (fun W0=>Below w.heap.size w W0/\W0.heap[w.heap.size]?=some (.cells #[.slice a0 m.cells.length c0,.slice a1 m.rd.length c1,.slice a2 m.wr.length c2] 54)/\W0.heap[w.heap.size+1]?=some (.cells #[.int .i64 kd,.string nm,.string tn,.int .i64 ca,.int .i64 cb,.string tx] 26)/\W0.heap[w.heap.size+1+1]?=some (.cells #[.slice none 0 0,.slice none 0 0,.slice none 0 0] 54)/\W0.heap[w.heap.size+1+1+1]?=some (.cells #[.int .i64 0,.int .i64 0,.string ⟨#[]⟩] 30)) ?_ ?_);(· with_reducible exact zkK w (.cells #[.slice a0 m.cells.length c0,.slice a1 m.rd.length c1,.slice a2 m.wr.length c2] 54) (.cells #[.int .i64 kd,.string nm,.string tn,.int .i64 ca,.int .i64 cb,.string tx] 26) (.cells #[.slice none 0 0,.slice none 0 0,.slice none 0 0] 54) (.cells #[.int .i64 0,.int .i64 0,.string ⟨#[]⟩] 30) (by repeat (first|with_reducible exact Below.refl _ _|with_reducible apply Below.ofAlloc))))|go_skip|go_guarded|go_step|go_upon|go_back));have HSM:=Hd (Mp.fits_small HL.out.1);rintro w1 ⟨B,P,C,R,A⟩;have q0:=H0.out.below B;have q1:=H1.out.below B;have q2:=H2.out.below B;clear H0 H1 H2;(have e1:=zlh P C R A;rw [<- e1];clear e1;have HW0:=Hd (fun o r s=>zfx (zf _) (zz _) q0 P C R A o r s);have HW1:=Hd (fun o r s=>zfx (zc _) (zn HSM.out.rn) q1 P C R A o r s);have HW2:=Hd (fun o r s=>zfx (zc _) (zn HSM.out.wn) q2 P C R A o r s);(have y0:=za P;have y1:=za C;have y2:=za R;have y3:=za A);clear P C R A q0 q1 q2))
 (repeat (first|go_skip|go_guarded|go_step|go_upon|go_back))
 (((go_at_call 113;refine (SC.use (zbA _ (by omega) (by omega)) (fun a=>0<=a/\a<=999) (fun m _=>zac _ m) (by first|exact HL.out|exact HL.out.last) (⟨_,_,_,rfl,HW0.out _ _ _,HW1.out _ _ _,HW2.out _ _ _⟩ : MRd _ _ _)).mono ?_));((rintro e w2 ⟨v2,x,m2,rfl,hx,hm,hb,HL2⟩);obtain ⟨b0,d0,b1,d1,b2,d2,rfl,q0,q1,q2⟩:=hm.form;obtain ⟨B',P,C,R,A,Z⟩:=zin B (by omega) hb;clear hm hb HW0 HW1 HW2 B HSM y0 y1 y2 y3;have B:=B';clear B';have HSM:=Hd (Mp.fits_small HL2.1);(have e1:=zlh P C R A;rw [<- e1];clear e1;have HW0:=Hd (fun o r s=>zfx (zf _) (zz _) q0 P C R A o r s);have HW1:=Hd (fun o r s=>zfx (zc _) (zn HSM.out.rn) q1 P C R A o r s);have HW2:=Hd (fun o r s=>zfx (zc _) (zn HSM.out.wn) q2 P C R A o r s);(have y0:=za P;have y1:=za C;have y2:=za R;have y3:=za A);clear P C R A q0 q1 q2;(try simp only []));clear HL;have HL:=Hd HL2;clear HL2))
 rcases HL.out.ite with ⟨hgx,HL2⟩|⟨hgx,HL2⟩<;>(clear HL;have HL:=Hd HL2;clear HL2)
 ·(repeat (first|go_skip|go_guarded|go_step|go_upon|go_back))
  obtain ⟨rfl,rfl⟩:=HL.out.end
  refine bodyPost_ret (by simp [results,Tryz.results57,go_sem,y0,y1,y2,y3];rfl) rfl ?_
  exact ⟨_,rfl,⟨_,_,_,rfl,HW0.out _ _ _,HW1.out _ _ _,HW2.out _ _ _⟩,fo_B B _ _ _ _⟩
 have hx1:=Decidable.not_not.1 hgx
 subst hx1
 clear hgx
 (repeat (first|go_skip|go_guarded|go_step|go_upon|go_back))
 (go_at_call 114;refine (D.out _).mono ?_;rintro e w2 ⟨rfl,hb⟩)
 have k0:=(HW0.out _ _ _).below hb
 have k1:=(HW1.out _ _ _).below hb
 have k2:=(HW2.out _ _ _).below hb
 obtain ⟨B',P,C,R,A,Z'⟩:=zin B (by omega) hb
 have e1:=zlh P C R A
 rw [<- e1]
 have HX0:=Hd (zio (by decide) (by omega) HW0.out k0 C)
 have HX1:=Hd (zio (by decide) (by omega) HW1.out k1 C)
 have HX2:=Hd (zio (by decide) (by omega) HW2.out k2 C)
 clear e1 hb k0 k1 k2 HW0 HW1 HW2 B Z y0 y1 y2 y3 D
 (have y0:=za P;have y1:=za C;have y2:=za R;have y3:=za A)
 clear P C R A
 have HW0:=HX0
 have HW1:=HX1
 have HW2:=HX2
 have B:=B'
 have Z:=Z'
 clear HX0 HX1 HX2 B' Z'
 try simp only []
 rcases HL.out.ite with ⟨hcb,HL2⟩|⟨hcb,HL2⟩<;>(clear HL;have HL:=Hd HL2;clear HL2)
 ·rw [hcb]
  clear hcb
  (repeat (first|go_skip|go_guarded|go_step|go_upon|go_back))
  obtain ⟨rfl,rfl⟩:=HL.out.end
  refine bodyPost_ret (by simp [results,Tryz.results57,go_sem,y0,y1,y2,y3];rfl) rfl ?_
  exact ⟨_,rfl,⟨_,_,_,rfl,HW0.out _ _ _,HW1.out _ _ _,HW2.out _ _ _⟩,fo_B B _ _ _ _⟩
 have hcb2:K.callOk ⟨kd,nm,tn,ca,cb,tx⟩=true:=by simpa using hcb
 rw [hcb2]
 obtain ⟨hkd,hnz,htz0,htz⟩:=zkc hcb2
 clear hcb hcb2
 ((repeat (first|(with_reducible refine zcK (fun W0=>Below w.heap.size w W0/\W0.heap[w.heap.size]?=some (.cells #[.slice b0 m2.cells.length d0,.slice b1 m2.rd.length d1,.slice b2 m2.wr.length d2] 54)/\W0.heap[w.heap.size+1]?=some (.cells #[.int .i64 kd,.string nm,.string tn,.int .i64 ca,.int .i64 cb,.string tx] 26)/\W0.heap[w.heap.size+1+1]?=some (.cells #[.slice none 0 0,.slice none 0 0,.slice none 0 0] 54)/\W0.heap[w.heap.size+1+1+1]?=some (.cells #[.int .i64 0,.int .i64 0,.string ⟨#[]⟩] 30)/\W0.heap[w2.heap.size]?=some (.cells #[.int .i64 0,.int .i64 0,.string ⟨#[]⟩] 30)/\RdL zu W0 (.slice b0 m2.cells.length d0) m2.cells/\RdL zx W0 (.slice b1 m2.rd.length d1) m2.rd/\RdL zx W0 (.slice b2 m2.wr.length d2) m2.wr) ?_ ?_;(· with_reducible exact zgd _ B Z (HW0.out _ _ _) (HW1.out _ _ _) (HW2.out _ _ _)))|go_skip|go_guarded|go_step|go_upon|go_back));rintro w3 ⟨B',P,C,R,A,Q,q0,q1,q2⟩;clear HW0 HW1 HW2 B y0 y1 y2 y3;have B:=B';have Z4:=Z;clear B' Z;generalize w2.heap.size=q at Z4 Q ⊢;(have n0:¬ w.heap.size=q:=by omega);(have n0':¬ q=w.heap.size:=by omega);(have n1:¬ w.heap.size+1=q:=by omega);(have n1':¬ q=w.heap.size+1:=by omega);(have n2:¬ w.heap.size+1+1=q:=by omega);(have n2':¬ q=w.heap.size+1+1:=by omega);(have n3:¬ w.heap.size+1+1+1=q:=by omega);(have n3':¬ q=w.heap.size+1+1+1:=by omega);(have e1:=zaQ P C R A Q;rw [<- e1];clear e1;have HW0:=Hd (fun o r s a=>zF (zf _) (zz _) q0 Z4 P C R A Q o r s a);have HW1:=Hd (fun o r s a=>zF (zc _) (zn HSM.out.rn) q1 Z4 P C R A Q o r s a);have HW2:=Hd (fun o r s a=>zF (zc _) (zn HSM.out.wn) q2 Z4 P C R A Q o r s a);((have y0:=za P;have y1:=za C;have y2:=za R;have y3:=za A);have yq:=za Q);clear P C R A Q q0 q1 q2))
 have hk:kd=1 ∨ kd=2 ∨ kd=3 ∨ kd=4 ∨ kd=5 ∨ kd=6 ∨ kd=7 ∨ kd=8 ∨ kd=9 ∨ kd=10 ∨ kd=11 ∨ kd=12 ∨ kd=13 ∨ kd=14 ∨ kd=15 ∨ kd=16 ∨ kd=17 ∨ kd=18 ∨ kd=19 ∨ kd=20 ∨ kd=21 ∨ kd=22:=by omega
 clear hkd
 rcases hk with rfl|rfl|rfl|rfl|rfl|rfl|rfl|rfl|rfl|rfl|rfl|rfl|rfl|rfl|rfl|rfl|rfl|rfl|rfl|rfl|rfl|rfl
 ·have HL2:Hid (Lft (K.codeN (K.makeName nm)) m2 (res,mres)):=HL
  clear HL
  have HL:=HL2
  clear HL2
  unfold K.codeN at HL
  (repeat (first|go_skip|go_guarded|go_step|go_upon|go_back))
  (((go_at_call 115;refine (SC.use2 (zfX _ (by omega)) (fun _=>True) (fun _ _=>trivial) (by first|exact HL.out|exact HL.out.last) (⟨_,_,_,rfl,HW0.out _ _ _ _,HW1.out _ _ _ _,HW2.out _ _ _ _⟩ : MRd _ _ _)).mono ?_));((rintro e w2 ⟨v2,x,y,m2,rfl,hx,hm,hb,HL2⟩);obtain ⟨b0,d0,b1,d1,b2,d2,rfl,q0,q1,q2⟩:=hm.form;obtain ⟨B',P,C,R,A,Q,Z'⟩:=z7 B Z4 yq hb;clear hm hb HW0 HW1 HW2 B HSM y0 y1 y2 y3 yq Z';have B:=B';clear B';have HSM:=Hd (Mp.fits_small HL2.1);(have e1:=zaQ P C R A Q;rw [<- e1];clear e1;have HW0:=Hd (fun o r s a=>zF (zf _) (zz _) q0 Z4 P C R A Q o r s a);have HW1:=Hd (fun o r s a=>zF (zc _) (zn HSM.out.rn) q1 Z4 P C R A Q o r s a);have HW2:=Hd (fun o r s a=>zF (zc _) (zn HSM.out.wn) q2 Z4 P C R A Q o r s a);((have y0:=za P;have y1:=za C;have y2:=za R;have y3:=za A);have yq:=za Q);clear P C R A Q q0 q1 q2;(try simp only []));(try dsimp only at HL2);clear HL;have HL:=Hd HL2;clear HL2))
  ((repeat (first|go_skip|go_guarded|go_step|go_upon|go_back));go_region;(all_goals (repeat (first|go_skip|go_guarded|go_step|go_upon|go_back)));(all_goals (obtain ⟨rfl,rfl⟩:=HL.out.end;refine bodyPost_ret (by simp [results,Tryz.results57,go_sem,y0,y1,y2,y3,yq,n0,n0',n1,n1',n2,n2',n3,n3'];rfl) rfl ?_;(exact ⟨_,rfl,⟨_,_,_,rfl,RdL.drew (HW0.out _ _ _ _),RdL.drew (HW1.out _ _ _ _),RdL.drew (HW2.out _ _ _ _)⟩,Below.drew (zdM B Z4 _ _ _ _ _)⟩))))
 ·have HL2:Hid (Lft (K.code (K.linkName nm tn)) m2 (res,mres)):=HL
  clear HL
  have HL:=HL2
  clear HL2
  unfold K.code at HL
  (repeat (first|go_skip|go_guarded|go_step|go_upon|go_back))
  (((go_at_call 116;refine (SC.use (zfY _ (by omega) _ (by omega)) (fun _=>True) (fun _ _=>trivial) (by first|exact HL.out|exact HL.out.last) (⟨_,_,_,rfl,HW0.out _ _ _ _,HW1.out _ _ _ _,HW2.out _ _ _ _⟩ : MRd _ _ _)).mono ?_));((rintro e w2 ⟨v2,x,m2,rfl,hx,hm,hb,HL2⟩);obtain ⟨b0,d0,b1,d1,b2,d2,rfl,q0,q1,q2⟩:=hm.form;obtain ⟨B',P,C,R,A,Q,Z'⟩:=z7 B Z4 yq hb;clear hm hb HW0 HW1 HW2 B HSM y0 y1 y2 y3 yq Z';have B:=B';clear B';have HSM:=Hd (Mp.fits_small HL2.1);(have e1:=zaQ P C R A Q;rw [<- e1];clear e1;have HW0:=Hd (fun o r s a=>zF (zf _) (zz _) q0 Z4 P C R A Q o r s a);have HW1:=Hd (fun o r s a=>zF (zc _) (zn HSM.out.rn) q1 Z4 P C R A Q o r s a);have HW2:=Hd (fun o r s a=>zF (zc _) (zn HSM.out.wn) q2 Z4 P C R A Q o r s a);((have y0:=za P;have y1:=za C;have y2:=za R;have y3:=za A);have yq:=za Q);clear P C R A Q q0 q1 q2;(try simp only []));clear HL;have HL:=Hd HL2;clear HL2))
  ((repeat (first|go_skip|go_guarded|go_step|go_upon|go_back));go_region;(all_goals (repeat (first|go_skip|go_guarded|go_step|go_upon|go_back)));(all_goals (obtain ⟨rfl,rfl⟩:=HL.out.end;refine bodyPost_ret (by simp [results,Tryz.results57,go_sem,y0,y1,y2,y3,yq,n0,n0',n1,n1',n2,n2',n3,n3'];rfl) rfl ?_;(exact ⟨_,rfl,⟨_,_,_,rfl,RdL.drew (HW0.out _ _ _ _),RdL.drew (HW1.out _ _ _ _),RdL.drew (HW2.out _ _ _ _)⟩,Below.drew (zdM B Z4 _ _ _ _ _)⟩))))
 ·have HL2:Hid (Lft (K.code (K.unlinkName nm)) m2 (res,mres)):=HL
  clear HL
  have HL:=HL2
  clear HL2
  unfold K.code at HL
  (repeat (first|go_skip|go_guarded|go_step|go_upon|go_back))
  (((go_at_call 117;refine (SC.use (zcs _ (by omega)) (fun _=>True) (fun _ _=>trivial) (by first|exact HL.out|exact HL.out.last) (⟨_,_,_,rfl,HW0.out _ _ _ _,HW1.out _ _ _ _,HW2.out _ _ _ _⟩ : MRd _ _ _)).mono ?_));((rintro e w2 ⟨v2,x,m2,rfl,hx,hm,hb,HL2⟩);obtain ⟨b0,d0,b1,d1,b2,d2,rfl,q0,q1,q2⟩:=hm.form;obtain ⟨B',P,C,R,A,Q,Z'⟩:=z7 B Z4 yq hb;clear hm hb HW0 HW1 HW2 B HSM y0 y1 y2 y3 yq Z';have B:=B';clear B';have HSM:=Hd (Mp.fits_small HL2.1);(have e1:=zaQ P C R A Q;rw [<- e1];clear e1;have HW0:=Hd (fun o r s a=>zF (zf _) (zz _) q0 Z4 P C R A Q o r s a);have HW1:=Hd (fun o r s a=>zF (zc _) (zn HSM.out.rn) q1 Z4 P C R A Q o r s a);have HW2:=Hd (fun o r s a=>zF (zc _) (zn HSM.out.wn) q2 Z4 P C R A Q o r s a);((have y0:=za P;have y1:=za C;have y2:=za R;have y3:=za A);have yq:=za Q);clear P C R A Q q0 q1 q2;(try simp only []));clear HL;have HL:=Hd HL2;clear HL2))
  ((repeat (first|go_skip|go_guarded|go_step|go_upon|go_back));go_region;(all_goals (repeat (first|go_skip|go_guarded|go_step|go_upon|go_back)));(all_goals (obtain ⟨rfl,rfl⟩:=HL.out.end;refine bodyPost_ret (by simp [results,Tryz.results57,go_sem,y0,y1,y2,y3,yq,n0,n0',n1,n1',n2,n2',n3,n3'];rfl) rfl ?_;(exact ⟨_,rfl,⟨_,_,_,rfl,RdL.drew (HW0.out _ _ _ _),RdL.drew (HW1.out _ _ _ _),RdL.drew (HW2.out _ _ _ _)⟩,Below.drew (zdM B Z4 _ _ _ _ _)⟩))))
 ·have HL2:Hid (Lft (K.code (K.renameName nm tn)) m2 (res,mres)):=HL
  clear HL
  have HL:=HL2
  clear HL2
  unfold K.code at HL
  (repeat (first|go_skip|go_guarded|go_step|go_upon|go_back))
  (((go_at_call 118;refine (SC.use (zeB _ (by omega) _ (by omega)) (fun _=>True) (fun _ _=>trivial) (by first|exact HL.out|exact HL.out.last) (⟨_,_,_,rfl,HW0.out _ _ _ _,HW1.out _ _ _ _,HW2.out _ _ _ _⟩ : MRd _ _ _)).mono ?_));((rintro e w2 ⟨v2,x,m2,rfl,hx,hm,hb,HL2⟩);obtain ⟨b0,d0,b1,d1,b2,d2,rfl,q0,q1,q2⟩:=hm.form;obtain ⟨B',P,C,R,A,Q,Z'⟩:=z7 B Z4 yq hb;clear hm hb HW0 HW1 HW2 B HSM y0 y1 y2 y3 yq Z';have B:=B';clear B';have HSM:=Hd (Mp.fits_small HL2.1);(have e1:=zaQ P C R A Q;rw [<- e1];clear e1;have HW0:=Hd (fun o r s a=>zF (zf _) (zz _) q0 Z4 P C R A Q o r s a);have HW1:=Hd (fun o r s a=>zF (zc _) (zn HSM.out.rn) q1 Z4 P C R A Q o r s a);have HW2:=Hd (fun o r s a=>zF (zc _) (zn HSM.out.wn) q2 Z4 P C R A Q o r s a);((have y0:=za P;have y1:=za C;have y2:=za R;have y3:=za A);have yq:=za Q);clear P C R A Q q0 q1 q2;(try simp only []));clear HL;have HL:=Hd HL2;clear HL2))
  ((repeat (first|go_skip|go_guarded|go_step|go_upon|go_back));go_region;(all_goals (repeat (first|go_skip|go_guarded|go_step|go_upon|go_back)));(all_goals (obtain ⟨rfl,rfl⟩:=HL.out.end;refine bodyPost_ret (by simp [results,Tryz.results57,go_sem,y0,y1,y2,y3,yq,n0,n0',n1,n1',n2,n2',n3,n3'];rfl) rfl ?_;(exact ⟨_,rfl,⟨_,_,_,rfl,RdL.drew (HW0.out _ _ _ _),RdL.drew (HW1.out _ _ _ _),RdL.drew (HW2.out _ _ _ _)⟩,Below.drew (zdM B Z4 _ _ _ _ _)⟩))))
 ·have HL2:Hid (Lft K.doNames m2 (res,mres)):=HL
  clear HL
  have HL:=HL2
  clear HL2
  (repeat (first|go_skip|go_guarded|go_step|go_upon|go_back))
  (((go_at_call 119;refine (SC.use (zhW) (fun _=>True) (fun _ _=>trivial) (by first|exact HL.out|exact HL.out.last) (⟨_,_,_,rfl,HW0.out _ _ _ _,HW1.out _ _ _ _,HW2.out _ _ _ _⟩ : MRd _ _ _)).mono ?_));rintro e w2 ⟨v2,x,m2,rfl,hx,hm,hb,HL2⟩;obtain ⟨xc,xn,xt⟩:=x;unfold zdc;(try simp only []);obtain ⟨b0,d0,b1,d1,b2,d2,rfl,q0,q1,q2⟩:=hm.form;obtain ⟨B',P,C,R,A,Q,Z'⟩:=z7 B Z4 yq hb;clear hm hb HW0 HW1 HW2 B HSM y0 y1 y2 y3 yq Z';have B:=B';clear B';have HSM:=Hd (Mp.fits_small HL2.1);(have e1:=zaQ P C R A Q;rw [<- e1];clear e1;have HW0:=Hd (fun o r s a=>zF (zf _) (zz _) q0 Z4 P C R A Q o r s a);have HW1:=Hd (fun o r s a=>zF (zc _) (zn HSM.out.rn) q1 Z4 P C R A Q o r s a);have HW2:=Hd (fun o r s a=>zF (zc _) (zn HSM.out.wn) q2 Z4 P C R A Q o r s a);((have y0:=za P;have y1:=za C;have y2:=za R;have y3:=za A);have yq:=za Q);clear P C R A Q q0 q1 q2);clear HL;have HL:=Hd HL2;clear HL2)
  ((repeat (first|go_skip|go_guarded|go_step|go_upon|go_back));obtain ⟨rfl,rfl⟩:=HL.out.end;refine bodyPost_ret (by simp [results,Tryz.results57,go_sem,y0,y1,y2,y3,yq,n0,n0',n1,n1',n2,n2',n3,n3'];rfl) rfl ?_;exact ⟨_,rfl,⟨_,_,_,rfl,HW0.out _ _ _ _,HW1.out _ _ _ _,HW2.out _ _ _ _⟩,zdM B Z4 _ _ _ _ _⟩)
 ·have HL2:Hid (Lft (K.doFile ⟨6,nm,tn,ca,cb,tx⟩) m2 (res,mres)):=HL
  clear HL
  have HL:=HL2
  clear HL2
  (repeat (first|go_skip|go_guarded|go_step|go_upon|go_back))
  (((go_at_call 120;refine (SC.use (zdi ⟨_,nm,tn,ca,cb,tx⟩ hnz htz ha0 ha1 hb0 hb1) (fun _=>True) (fun _ _=>trivial) (by first|exact HL.out|exact HL.out.last) (⟨_,_,_,rfl,HW0.out _ _ _ _,HW1.out _ _ _ _,HW2.out _ _ _ _⟩ : MRd _ _ _)).mono ?_));rintro e w2 ⟨v2,x,m2,rfl,hx,hm,hb,HL2⟩;obtain ⟨xc,xn,xt⟩:=x;unfold zdc;(try simp only []);obtain ⟨b0,d0,b1,d1,b2,d2,rfl,q0,q1,q2⟩:=hm.form;obtain ⟨B',P,C,R,A,Q,Z'⟩:=z7 B Z4 yq hb;clear hm hb HW0 HW1 HW2 B HSM y0 y1 y2 y3 yq Z';have B:=B';clear B';have HSM:=Hd (Mp.fits_small HL2.1);(have e1:=zaQ P C R A Q;rw [<- e1];clear e1;have HW0:=Hd (fun o r s a=>zF (zf _) (zz _) q0 Z4 P C R A Q o r s a);have HW1:=Hd (fun o r s a=>zF (zc _) (zn HSM.out.rn) q1 Z4 P C R A Q o r s a);have HW2:=Hd (fun o r s a=>zF (zc _) (zn HSM.out.wn) q2 Z4 P C R A Q o r s a);((have y0:=za P;have y1:=za C;have y2:=za R;have y3:=za A);have yq:=za Q);clear P C R A Q q0 q1 q2);clear HL;have HL:=Hd HL2;clear HL2)
  ((repeat (first|go_skip|go_guarded|go_step|go_upon|go_back));obtain ⟨rfl,rfl⟩:=HL.out.end;refine bodyPost_ret (by simp [results,Tryz.results57,go_sem,y0,y1,y2,y3,yq,n0,n0',n1,n1',n2,n2',n3,n3'];rfl) rfl ?_;exact ⟨_,rfl,⟨_,_,_,rfl,HW0.out _ _ _ _,HW1.out _ _ _ _,HW2.out _ _ _ _⟩,zdM B Z4 _ _ _ _ _⟩)
 ·have HL2:Hid (Lft (K.doFile ⟨7,nm,tn,ca,cb,tx⟩) m2 (res,mres)):=HL
  clear HL
  have HL:=HL2
  clear HL2
  (repeat (first|go_skip|go_guarded|go_step|go_upon|go_back))
  (((go_at_call 120;refine (SC.use (zdi ⟨_,nm,tn,ca,cb,tx⟩ hnz htz ha0 ha1 hb0 hb1) (fun _=>True) (fun _ _=>trivial) (by first|exact HL.out|exact HL.out.last) (⟨_,_,_,rfl,HW0.out _ _ _ _,HW1.out _ _ _ _,HW2.out _ _ _ _⟩ : MRd _ _ _)).mono ?_));rintro e w2 ⟨v2,x,m2,rfl,hx,hm,hb,HL2⟩;obtain ⟨xc,xn,xt⟩:=x;unfold zdc;(try simp only []);obtain ⟨b0,d0,b1,d1,b2,d2,rfl,q0,q1,q2⟩:=hm.form;obtain ⟨B',P,C,R,A,Q,Z'⟩:=z7 B Z4 yq hb;clear hm hb HW0 HW1 HW2 B HSM y0 y1 y2 y3 yq Z';have B:=B';clear B';have HSM:=Hd (Mp.fits_small HL2.1);(have e1:=zaQ P C R A Q;rw [<- e1];clear e1;have HW0:=Hd (fun o r s a=>zF (zf _) (zz _) q0 Z4 P C R A Q o r s a);have HW1:=Hd (fun o r s a=>zF (zc _) (zn HSM.out.rn) q1 Z4 P C R A Q o r s a);have HW2:=Hd (fun o r s a=>zF (zc _) (zn HSM.out.wn) q2 Z4 P C R A Q o r s a);((have y0:=za P;have y1:=za C;have y2:=za R;have y3:=za A);have yq:=za Q);clear P C R A Q q0 q1 q2);clear HL;have HL:=Hd HL2;clear HL2)
  ((repeat (first|go_skip|go_guarded|go_step|go_upon|go_back));obtain ⟨rfl,rfl⟩:=HL.out.end;refine bodyPost_ret (by simp [results,Tryz.results57,go_sem,y0,y1,y2,y3,yq,n0,n0',n1,n1',n2,n2',n3,n3'];rfl) rfl ?_;exact ⟨_,rfl,⟨_,_,_,rfl,HW0.out _ _ _ _,HW1.out _ _ _ _,HW2.out _ _ _ _⟩,zdM B Z4 _ _ _ _ _⟩)
 ·have HL2:Hid (Lft (K.doFile ⟨8,nm,tn,ca,cb,tx⟩) m2 (res,mres)):=HL
  clear HL
  have HL:=HL2
  clear HL2
  (repeat (first|go_skip|go_guarded|go_step|go_upon|go_back))
  (((go_at_call 120;refine (SC.use (zdi ⟨_,nm,tn,ca,cb,tx⟩ hnz htz ha0 ha1 hb0 hb1) (fun _=>True) (fun _ _=>trivial) (by first|exact HL.out|exact HL.out.last) (⟨_,_,_,rfl,HW0.out _ _ _ _,HW1.out _ _ _ _,HW2.out _ _ _ _⟩ : MRd _ _ _)).mono ?_));rintro e w2 ⟨v2,x,m2,rfl,hx,hm,hb,HL2⟩;obtain ⟨xc,xn,xt⟩:=x;unfold zdc;(try simp only []);obtain ⟨b0,d0,b1,d1,b2,d2,rfl,q0,q1,q2⟩:=hm.form;obtain ⟨B',P,C,R,A,Q,Z'⟩:=z7 B Z4 yq hb;clear hm hb HW0 HW1 HW2 B HSM y0 y1 y2 y3 yq Z';have B:=B';clear B';have HSM:=Hd (Mp.fits_small HL2.1);(have e1:=zaQ P C R A Q;rw [<- e1];clear e1;have HW0:=Hd (fun o r s a=>zF (zf _) (zz _) q0 Z4 P C R A Q o r s a);have HW1:=Hd (fun o r s a=>zF (zc _) (zn HSM.out.rn) q1 Z4 P C R A Q o r s a);have HW2:=Hd (fun o r s a=>zF (zc _) (zn HSM.out.wn) q2 Z4 P C R A Q o r s a);((have y0:=za P;have y1:=za C;have y2:=za R;have y3:=za A);have yq:=za Q);clear P C R A Q q0 q1 q2);clear HL;have HL:=Hd HL2;clear HL2)
  ((repeat (first|go_skip|go_guarded|go_step|go_upon|go_back));obtain ⟨rfl,rfl⟩:=HL.out.end;refine bodyPost_ret (by simp [results,Tryz.results57,go_sem,y0,y1,y2,y3,yq,n0,n0',n1,n1',n2,n2',n3,n3'];rfl) rfl ?_;exact ⟨_,rfl,⟨_,_,_,rfl,HW0.out _ _ _ _,HW1.out _ _ _ _,HW2.out _ _ _ _⟩,zdM B Z4 _ _ _ _ _⟩)
 ·have HL2:Hid (Lft (K.codeN K.makePipe) m2 (res,mres)):=HL
  clear HL
  have HL:=HL2
  clear HL2
  unfold K.codeN at HL
  (repeat (first|go_skip|go_guarded|go_step|go_upon|go_back))
  (((go_at_call 121;refine (SC.use2 (zfV) (fun _=>True) (fun _ _=>trivial) (by first|exact HL.out|exact HL.out.last) (⟨_,_,_,rfl,HW0.out _ _ _ _,HW1.out _ _ _ _,HW2.out _ _ _ _⟩ : MRd _ _ _)).mono ?_));((rintro e w2 ⟨v2,x,y,m2,rfl,hx,hm,hb,HL2⟩);obtain ⟨b0,d0,b1,d1,b2,d2,rfl,q0,q1,q2⟩:=hm.form;obtain ⟨B',P,C,R,A,Q,Z'⟩:=z7 B Z4 yq hb;clear hm hb HW0 HW1 HW2 B HSM y0 y1 y2 y3 yq Z';have B:=B';clear B';have HSM:=Hd (Mp.fits_small HL2.1);(have e1:=zaQ P C R A Q;rw [<- e1];clear e1;have HW0:=Hd (fun o r s a=>zF (zf _) (zz _) q0 Z4 P C R A Q o r s a);have HW1:=Hd (fun o r s a=>zF (zc _) (zn HSM.out.rn) q1 Z4 P C R A Q o r s a);have HW2:=Hd (fun o r s a=>zF (zc _) (zn HSM.out.wn) q2 Z4 P C R A Q o r s a);((have y0:=za P;have y1:=za C;have y2:=za R;have y3:=za A);have yq:=za Q);clear P C R A Q q0 q1 q2;(try simp only []));(try dsimp only at HL2);clear HL;have HL:=Hd HL2;clear HL2))
  ((repeat (first|go_skip|go_guarded|go_step|go_upon|go_back));go_region;(all_goals (repeat (first|go_skip|go_guarded|go_step|go_upon|go_back)));(all_goals (obtain ⟨rfl,rfl⟩:=HL.out.end;refine bodyPost_ret (by simp [results,Tryz.results57,go_sem,y0,y1,y2,y3,yq,n0,n0',n1,n1',n2,n2',n3,n3'];rfl) rfl ?_;(exact ⟨_,rfl,⟨_,_,_,rfl,RdL.drew (HW0.out _ _ _ _),RdL.drew (HW1.out _ _ _ _),RdL.drew (HW2.out _ _ _ _)⟩,Below.drew (zdM B Z4 _ _ _ _ _)⟩))))
 ·have HL2:Hid (Lft (K.code (K.putPipe ca tx)) m2 (res,mres)):=HL
  clear HL
  have HL:=HL2
  clear HL2
  unfold K.code at HL
  (repeat (first|go_skip|go_guarded|go_step|go_upon|go_back))
  (((go_at_call 122;refine (SC.use (zgq _ (by omega) (by omega) _ (by omega)) (fun _=>True) (fun _ _=>trivial) (by first|exact HL.out|exact HL.out.last) (⟨_,_,_,rfl,HW0.out _ _ _ _,HW1.out _ _ _ _,HW2.out _ _ _ _⟩ : MRd _ _ _)).mono ?_));((rintro e w2 ⟨v2,x,m2,rfl,hx,hm,hb,HL2⟩);obtain ⟨b0,d0,b1,d1,b2,d2,rfl,q0,q1,q2⟩:=hm.form;obtain ⟨B',P,C,R,A,Q,Z'⟩:=z7 B Z4 yq hb;clear hm hb HW0 HW1 HW2 B HSM y0 y1 y2 y3 yq Z';have B:=B';clear B';have HSM:=Hd (Mp.fits_small HL2.1);(have e1:=zaQ P C R A Q;rw [<- e1];clear e1;have HW0:=Hd (fun o r s a=>zF (zf _) (zz _) q0 Z4 P C R A Q o r s a);have HW1:=Hd (fun o r s a=>zF (zc _) (zn HSM.out.rn) q1 Z4 P C R A Q o r s a);have HW2:=Hd (fun o r s a=>zF (zc _) (zn HSM.out.wn) q2 Z4 P C R A Q o r s a);((have y0:=za P;have y1:=za C;have y2:=za R;have y3:=za A);have yq:=za Q);clear P C R A Q q0 q1 q2;(try simp only []));clear HL;have HL:=Hd HL2;clear HL2))
  ((repeat (first|go_skip|go_guarded|go_step|go_upon|go_back));go_region;(all_goals (repeat (first|go_skip|go_guarded|go_step|go_upon|go_back)));(all_goals (obtain ⟨rfl,rfl⟩:=HL.out.end;refine bodyPost_ret (by simp [results,Tryz.results57,go_sem,y0,y1,y2,y3,yq,n0,n0',n1,n1',n2,n2',n3,n3'];rfl) rfl ?_;(exact ⟨_,rfl,⟨_,_,_,rfl,RdL.drew (HW0.out _ _ _ _),RdL.drew (HW1.out _ _ _ _),RdL.drew (HW2.out _ _ _ _)⟩,Below.drew (zdM B Z4 _ _ _ _ _)⟩))))
 ·have HL2:Hid (Lft (K.codeT (K.takePipe ca)) m2 (res,mres)):=HL
  clear HL
  have HL:=HL2
  clear HL2
  unfold K.codeT at HL
  (repeat (first|go_skip|go_guarded|go_step|go_upon|go_back))
  (((go_at_call 123;refine (SC.use2 (zfU _ (by omega) (by omega)) (fun _=>True) (fun _ _=>trivial) (by first|exact HL.out|exact HL.out.last) (⟨_,_,_,rfl,HW0.out _ _ _ _,HW1.out _ _ _ _,HW2.out _ _ _ _⟩ : MRd _ _ _)).mono ?_));((rintro e w2 ⟨v2,x,y,m2,rfl,hx,hm,hb,HL2⟩);obtain ⟨b0,d0,b1,d1,b2,d2,rfl,q0,q1,q2⟩:=hm.form;obtain ⟨B',P,C,R,A,Q,Z'⟩:=z7 B Z4 yq hb;clear hm hb HW0 HW1 HW2 B HSM y0 y1 y2 y3 yq Z';have B:=B';clear B';have HSM:=Hd (Mp.fits_small HL2.1);(have e1:=zaQ P C R A Q;rw [<- e1];clear e1;have HW0:=Hd (fun o r s a=>zF (zf _) (zz _) q0 Z4 P C R A Q o r s a);have HW1:=Hd (fun o r s a=>zF (zc _) (zn HSM.out.rn) q1 Z4 P C R A Q o r s a);have HW2:=Hd (fun o r s a=>zF (zc _) (zn HSM.out.wn) q2 Z4 P C R A Q o r s a);((have y0:=za P;have y1:=za C;have y2:=za R;have y3:=za A);have yq:=za Q);clear P C R A Q q0 q1 q2;(try simp only []));(try dsimp only at HL2);clear HL;have HL:=Hd HL2;clear HL2))
  ((repeat (first|go_skip|go_guarded|go_step|go_upon|go_back));go_region;(all_goals (repeat (first|go_skip|go_guarded|go_step|go_upon|go_back)));(all_goals (obtain ⟨rfl,rfl⟩:=HL.out.end;refine bodyPost_ret (by simp [results,Tryz.results57,go_sem,y0,y1,y2,y3,yq,n0,n0',n1,n1',n2,n2',n3,n3'];rfl) rfl ?_;(exact ⟨_,rfl,⟨_,_,_,rfl,RdL.drew (HW0.out _ _ _ _),RdL.drew (HW1.out _ _ _ _),RdL.drew (HW2.out _ _ _ _)⟩,Below.drew (zdM B Z4 _ _ _ _ _)⟩))))
 ·have HL2:Hid (Lft (zdR proc ⟨12,nm,tn,ca,cb,tx⟩) m2 (res,mres)):=HL
  clear HL
  have HL:=HL2
  clear HL2
  (repeat (first|go_skip|go_guarded|go_step|go_upon|go_back))
  (((go_at_call 131;refine (SC.use (zcq proc hp0 hp1 ⟨_,nm,tn,ca,cb,tx⟩ ha0 ha1) (fun _=>True) (fun _ _=>trivial) (by first|exact HL.out|exact HL.out.last) (⟨_,_,_,rfl,HW0.out _ _ _ _,HW1.out _ _ _ _,HW2.out _ _ _ _⟩ : MRd _ _ _)).mono ?_));rintro e w2 ⟨v2,x,m2,rfl,hx,hm,hb,HL2⟩;obtain ⟨xc,xn,xt⟩:=x;unfold zdc;(try simp only []);obtain ⟨b0,d0,b1,d1,b2,d2,rfl,q0,q1,q2⟩:=hm.form;obtain ⟨B',P,C,R,A,Q,Z'⟩:=z7 B Z4 yq hb;clear hm hb HW0 HW1 HW2 B HSM y0 y1 y2 y3 yq Z';have B:=B';clear B';have HSM:=Hd (Mp.fits_small HL2.1);(have e1:=zaQ P C R A Q;rw [<- e1];clear e1;have HW0:=Hd (fun o r s a=>zF (zf _) (zz _) q0 Z4 P C R A Q o r s a);have HW1:=Hd (fun o r s a=>zF (zc _) (zn HSM.out.rn) q1 Z4 P C R A Q o r s a);have HW2:=Hd (fun o r s a=>zF (zc _) (zn HSM.out.wn) q2 Z4 P C R A Q o r s a);((have y0:=za P;have y1:=za C;have y2:=za R;have y3:=za A);have yq:=za Q);clear P C R A Q q0 q1 q2);clear HL;have HL:=Hd HL2;clear HL2)
  ((repeat (first|go_skip|go_guarded|go_step|go_upon|go_back));obtain ⟨rfl,rfl⟩:=HL.out.end;refine bodyPost_ret (by simp [results,Tryz.results57,go_sem,y0,y1,y2,y3,yq,n0,n0',n1,n1',n2,n2',n3,n3'];rfl) rfl ?_;exact ⟨_,rfl,⟨_,_,_,rfl,HW0.out _ _ _ _,HW1.out _ _ _ _,HW2.out _ _ _ _⟩,zdM B Z4 _ _ _ _ _⟩)
 ·have HL2:Hid (Lft (zdR proc ⟨13,nm,tn,ca,cb,tx⟩) m2 (res,mres)):=HL
  clear HL
  have HL:=HL2
  clear HL2
  (repeat (first|go_skip|go_guarded|go_step|go_upon|go_back))
  (((go_at_call 131;refine (SC.use (zcq proc hp0 hp1 ⟨_,nm,tn,ca,cb,tx⟩ ha0 ha1) (fun _=>True) (fun _ _=>trivial) (by first|exact HL.out|exact HL.out.last) (⟨_,_,_,rfl,HW0.out _ _ _ _,HW1.out _ _ _ _,HW2.out _ _ _ _⟩ : MRd _ _ _)).mono ?_));rintro e w2 ⟨v2,x,m2,rfl,hx,hm,hb,HL2⟩;obtain ⟨xc,xn,xt⟩:=x;unfold zdc;(try simp only []);obtain ⟨b0,d0,b1,d1,b2,d2,rfl,q0,q1,q2⟩:=hm.form;obtain ⟨B',P,C,R,A,Q,Z'⟩:=z7 B Z4 yq hb;clear hm hb HW0 HW1 HW2 B HSM y0 y1 y2 y3 yq Z';have B:=B';clear B';have HSM:=Hd (Mp.fits_small HL2.1);(have e1:=zaQ P C R A Q;rw [<- e1];clear e1;have HW0:=Hd (fun o r s a=>zF (zf _) (zz _) q0 Z4 P C R A Q o r s a);have HW1:=Hd (fun o r s a=>zF (zc _) (zn HSM.out.rn) q1 Z4 P C R A Q o r s a);have HW2:=Hd (fun o r s a=>zF (zc _) (zn HSM.out.wn) q2 Z4 P C R A Q o r s a);((have y0:=za P;have y1:=za C;have y2:=za R;have y3:=za A);have yq:=za Q);clear P C R A Q q0 q1 q2);clear HL;have HL:=Hd HL2;clear HL2)
  ((repeat (first|go_skip|go_guarded|go_step|go_upon|go_back));obtain ⟨rfl,rfl⟩:=HL.out.end;refine bodyPost_ret (by simp [results,Tryz.results57,go_sem,y0,y1,y2,y3,yq,n0,n0',n1,n1',n2,n2',n3,n3'];rfl) rfl ?_;exact ⟨_,rfl,⟨_,_,_,rfl,HW0.out _ _ _ _,HW1.out _ _ _ _,HW2.out _ _ _ _⟩,zdM B Z4 _ _ _ _ _⟩)
 ·have HL2:Hid (Lft (zdR proc ⟨14,nm,tn,ca,cb,tx⟩) m2 (res,mres)):=HL
  clear HL
  have HL:=HL2
  clear HL2
  (repeat (first|go_skip|go_guarded|go_step|go_upon|go_back))
  (((go_at_call 131;refine (SC.use (zcq proc hp0 hp1 ⟨_,nm,tn,ca,cb,tx⟩ ha0 ha1) (fun _=>True) (fun _ _=>trivial) (by first|exact HL.out|exact HL.out.last) (⟨_,_,_,rfl,HW0.out _ _ _ _,HW1.out _ _ _ _,HW2.out _ _ _ _⟩ : MRd _ _ _)).mono ?_));rintro e w2 ⟨v2,x,m2,rfl,hx,hm,hb,HL2⟩;obtain ⟨xc,xn,xt⟩:=x;unfold zdc;(try simp only []);obtain ⟨b0,d0,b1,d1,b2,d2,rfl,q0,q1,q2⟩:=hm.form;obtain ⟨B',P,C,R,A,Q,Z'⟩:=z7 B Z4 yq hb;clear hm hb HW0 HW1 HW2 B HSM y0 y1 y2 y3 yq Z';have B:=B';clear B';have HSM:=Hd (Mp.fits_small HL2.1);(have e1:=zaQ P C R A Q;rw [<- e1];clear e1;have HW0:=Hd (fun o r s a=>zF (zf _) (zz _) q0 Z4 P C R A Q o r s a);have HW1:=Hd (fun o r s a=>zF (zc _) (zn HSM.out.rn) q1 Z4 P C R A Q o r s a);have HW2:=Hd (fun o r s a=>zF (zc _) (zn HSM.out.wn) q2 Z4 P C R A Q o r s a);((have y0:=za P;have y1:=za C;have y2:=za R;have y3:=za A);have yq:=za Q);clear P C R A Q q0 q1 q2);clear HL;have HL:=Hd HL2;clear HL2)
  ((repeat (first|go_skip|go_guarded|go_step|go_upon|go_back));obtain ⟨rfl,rfl⟩:=HL.out.end;refine bodyPost_ret (by simp [results,Tryz.results57,go_sem,y0,y1,y2,y3,yq,n0,n0',n1,n1',n2,n2',n3,n3'];rfl) rfl ?_;exact ⟨_,rfl,⟨_,_,_,rfl,HW0.out _ _ _ _,HW1.out _ _ _ _,HW2.out _ _ _ _⟩,zdM B Z4 _ _ _ _ _⟩)
 ·have HL2:Hid (Lft (zdR proc ⟨15,nm,tn,ca,cb,tx⟩) m2 (res,mres)):=HL
  clear HL
  have HL:=HL2
  clear HL2
  (repeat (first|go_skip|go_guarded|go_step|go_upon|go_back))
  (((go_at_call 131;refine (SC.use (zcq proc hp0 hp1 ⟨_,nm,tn,ca,cb,tx⟩ ha0 ha1) (fun _=>True) (fun _ _=>trivial) (by first|exact HL.out|exact HL.out.last) (⟨_,_,_,rfl,HW0.out _ _ _ _,HW1.out _ _ _ _,HW2.out _ _ _ _⟩ : MRd _ _ _)).mono ?_));rintro e w2 ⟨v2,x,m2,rfl,hx,hm,hb,HL2⟩;obtain ⟨xc,xn,xt⟩:=x;unfold zdc;(try simp only []);obtain ⟨b0,d0,b1,d1,b2,d2,rfl,q0,q1,q2⟩:=hm.form;obtain ⟨B',P,C,R,A,Q,Z'⟩:=z7 B Z4 yq hb;clear hm hb HW0 HW1 HW2 B HSM y0 y1 y2 y3 yq Z';have B:=B';clear B';have HSM:=Hd (Mp.fits_small HL2.1);(have e1:=zaQ P C R A Q;rw [<- e1];clear e1;have HW0:=Hd (fun o r s a=>zF (zf _) (zz _) q0 Z4 P C R A Q o r s a);have HW1:=Hd (fun o r s a=>zF (zc _) (zn HSM.out.rn) q1 Z4 P C R A Q o r s a);have HW2:=Hd (fun o r s a=>zF (zc _) (zn HSM.out.wn) q2 Z4 P C R A Q o r s a);((have y0:=za P;have y1:=za C;have y2:=za R;have y3:=za A);have yq:=za Q);clear P C R A Q q0 q1 q2);clear HL;have HL:=Hd HL2;clear HL2)
  ((repeat (first|go_skip|go_guarded|go_step|go_upon|go_back));obtain ⟨rfl,rfl⟩:=HL.out.end;refine bodyPost_ret (by simp [results,Tryz.results57,go_sem,y0,y1,y2,y3,yq,n0,n0',n1,n1',n2,n2',n3,n3'];rfl) rfl ?_;exact ⟨_,rfl,⟨_,_,_,rfl,HW0.out _ _ _ _,HW1.out _ _ _ _,HW2.out _ _ _ _⟩,zdM B Z4 _ _ _ _ _⟩)
 ·have HL2:Hid (Lft (K.code (K.send ca cb)) m2 (res,mres)):=HL
  clear HL
  have HL:=HL2
  clear HL2
  unfold K.code at HL
  (repeat (first|go_skip|go_guarded|go_step|go_upon|go_back))
  (((go_at_call 124;refine (SC.use (zcr _ (by omega) (by omega) _ (by omega) (by omega)) (fun _=>True) (fun _ _=>trivial) (by first|exact HL.out|exact HL.out.last) (⟨_,_,_,rfl,HW0.out _ _ _ _,HW1.out _ _ _ _,HW2.out _ _ _ _⟩ : MRd _ _ _)).mono ?_));((rintro e w2 ⟨v2,x,m2,rfl,hx,hm,hb,HL2⟩);obtain ⟨b0,d0,b1,d1,b2,d2,rfl,q0,q1,q2⟩:=hm.form;obtain ⟨B',P,C,R,A,Q,Z'⟩:=z7 B Z4 yq hb;clear hm hb HW0 HW1 HW2 B HSM y0 y1 y2 y3 yq Z';have B:=B';clear B';have HSM:=Hd (Mp.fits_small HL2.1);(have e1:=zaQ P C R A Q;rw [<- e1];clear e1;have HW0:=Hd (fun o r s a=>zF (zf _) (zz _) q0 Z4 P C R A Q o r s a);have HW1:=Hd (fun o r s a=>zF (zc _) (zn HSM.out.rn) q1 Z4 P C R A Q o r s a);have HW2:=Hd (fun o r s a=>zF (zc _) (zn HSM.out.wn) q2 Z4 P C R A Q o r s a);((have y0:=za P;have y1:=za C;have y2:=za R;have y3:=za A);have yq:=za Q);clear P C R A Q q0 q1 q2;(try simp only []));clear HL;have HL:=Hd HL2;clear HL2))
  ((repeat (first|go_skip|go_guarded|go_step|go_upon|go_back));go_region;(all_goals (repeat (first|go_skip|go_guarded|go_step|go_upon|go_back)));(all_goals (obtain ⟨rfl,rfl⟩:=HL.out.end;refine bodyPost_ret (by simp [results,Tryz.results57,go_sem,y0,y1,y2,y3,yq,n0,n0',n1,n1',n2,n2',n3,n3'];rfl) rfl ?_;(exact ⟨_,rfl,⟨_,_,_,rfl,RdL.drew (HW0.out _ _ _ _),RdL.drew (HW1.out _ _ _ _),RdL.drew (HW2.out _ _ _ _)⟩,Below.drew (zdM B Z4 _ _ _ _ _)⟩))))
 ·have HL2:Hid (Lft (K.codeN (K.takeSignal proc)) m2 (res,mres)):=HL
  clear HL
  have HL:=HL2
  clear HL2
  unfold K.codeN at HL
  (repeat (first|go_skip|go_guarded|go_step|go_upon|go_back))
  (((go_at_call 125;refine (SC.use2 (zeA _ (by omega) (by omega)) (fun _=>True) (fun _ _=>trivial) (by first|exact HL.out|exact HL.out.last) (⟨_,_,_,rfl,HW0.out _ _ _ _,HW1.out _ _ _ _,HW2.out _ _ _ _⟩ : MRd _ _ _)).mono ?_));((rintro e w2 ⟨v2,x,y,m2,rfl,hx,hm,hb,HL2⟩);obtain ⟨b0,d0,b1,d1,b2,d2,rfl,q0,q1,q2⟩:=hm.form;obtain ⟨B',P,C,R,A,Q,Z'⟩:=z7 B Z4 yq hb;clear hm hb HW0 HW1 HW2 B HSM y0 y1 y2 y3 yq Z';have B:=B';clear B';have HSM:=Hd (Mp.fits_small HL2.1);(have e1:=zaQ P C R A Q;rw [<- e1];clear e1;have HW0:=Hd (fun o r s a=>zF (zf _) (zz _) q0 Z4 P C R A Q o r s a);have HW1:=Hd (fun o r s a=>zF (zc _) (zn HSM.out.rn) q1 Z4 P C R A Q o r s a);have HW2:=Hd (fun o r s a=>zF (zc _) (zn HSM.out.wn) q2 Z4 P C R A Q o r s a);((have y0:=za P;have y1:=za C;have y2:=za R;have y3:=za A);have yq:=za Q);clear P C R A Q q0 q1 q2;(try simp only []));(try dsimp only at HL2);clear HL;have HL:=Hd HL2;clear HL2))
  ((repeat (first|go_skip|go_guarded|go_step|go_upon|go_back));go_region;(all_goals (repeat (first|go_skip|go_guarded|go_step|go_upon|go_back)));(all_goals (obtain ⟨rfl,rfl⟩:=HL.out.end;refine bodyPost_ret (by simp [results,Tryz.results57,go_sem,y0,y1,y2,y3,yq,n0,n0',n1,n1',n2,n2',n3,n3'];rfl) rfl ?_;(exact ⟨_,rfl,⟨_,_,_,rfl,RdL.drew (HW0.out _ _ _ _),RdL.drew (HW1.out _ _ _ _),RdL.drew (HW2.out _ _ _ _)⟩,Below.drew (zdM B Z4 _ _ _ _ _)⟩))))
 ·have HL2:Hid (Lft (K.code (K.setTimer proc ca)) m2 (res,mres)):=HL
  clear HL
  have HL:=HL2
  clear HL2
  unfold K.code at HL
  (repeat (first|go_skip|go_guarded|go_step|go_upon|go_back))
  (((go_at_call 126;refine (SC.use (zfS _ (by omega) (by omega) _ (by omega) (by omega)) (fun _=>True) (fun _ _=>trivial) (by first|exact HL.out|exact HL.out.last) (⟨_,_,_,rfl,HW0.out _ _ _ _,HW1.out _ _ _ _,HW2.out _ _ _ _⟩ : MRd _ _ _)).mono ?_));((rintro e w2 ⟨v2,x,m2,rfl,hx,hm,hb,HL2⟩);obtain ⟨b0,d0,b1,d1,b2,d2,rfl,q0,q1,q2⟩:=hm.form;obtain ⟨B',P,C,R,A,Q,Z'⟩:=z7 B Z4 yq hb;clear hm hb HW0 HW1 HW2 B HSM y0 y1 y2 y3 yq Z';have B:=B';clear B';have HSM:=Hd (Mp.fits_small HL2.1);(have e1:=zaQ P C R A Q;rw [<- e1];clear e1;have HW0:=Hd (fun o r s a=>zF (zf _) (zz _) q0 Z4 P C R A Q o r s a);have HW1:=Hd (fun o r s a=>zF (zc _) (zn HSM.out.rn) q1 Z4 P C R A Q o r s a);have HW2:=Hd (fun o r s a=>zF (zc _) (zn HSM.out.wn) q2 Z4 P C R A Q o r s a);((have y0:=za P;have y1:=za C;have y2:=za R;have y3:=za A);have yq:=za Q);clear P C R A Q q0 q1 q2;(try simp only []));clear HL;have HL:=Hd HL2;clear HL2))
  ((repeat (first|go_skip|go_guarded|go_step|go_upon|go_back));go_region;(all_goals (repeat (first|go_skip|go_guarded|go_step|go_upon|go_back)));(all_goals (obtain ⟨rfl,rfl⟩:=HL.out.end;refine bodyPost_ret (by simp [results,Tryz.results57,go_sem,y0,y1,y2,y3,yq,n0,n0',n1,n1',n2,n2',n3,n3'];rfl) rfl ?_;(exact ⟨_,rfl,⟨_,_,_,rfl,RdL.drew (HW0.out _ _ _ _),RdL.drew (HW1.out _ _ _ _),RdL.drew (HW2.out _ _ _ _)⟩,Below.drew (zdM B Z4 _ _ _ _ _)⟩))))
 ·have HL2:Hid (Lft (K.codeN (K.tick ca)) m2 (res,mres)):=HL
  clear HL
  have HL:=HL2
  clear HL2
  unfold K.codeN at HL
  (repeat (first|go_skip|go_guarded|go_step|go_upon|go_back))
  (((go_at_call 127;refine (SC.use2 (ziL _ (by omega) (by omega)) (fun _=>True) (fun _ _=>trivial) (by first|exact HL.out|exact HL.out.last) (⟨_,_,_,rfl,HW0.out _ _ _ _,HW1.out _ _ _ _,HW2.out _ _ _ _⟩ : MRd _ _ _)).mono ?_));((rintro e w2 ⟨v2,x,y,m2,rfl,hx,hm,hb,HL2⟩);obtain ⟨b0,d0,b1,d1,b2,d2,rfl,q0,q1,q2⟩:=hm.form;obtain ⟨B',P,C,R,A,Q,Z'⟩:=z7 B Z4 yq hb;clear hm hb HW0 HW1 HW2 B HSM y0 y1 y2 y3 yq Z';have B:=B';clear B';have HSM:=Hd (Mp.fits_small HL2.1);(have e1:=zaQ P C R A Q;rw [<- e1];clear e1;have HW0:=Hd (fun o r s a=>zF (zf _) (zz _) q0 Z4 P C R A Q o r s a);have HW1:=Hd (fun o r s a=>zF (zc _) (zn HSM.out.rn) q1 Z4 P C R A Q o r s a);have HW2:=Hd (fun o r s a=>zF (zc _) (zn HSM.out.wn) q2 Z4 P C R A Q o r s a);((have y0:=za P;have y1:=za C;have y2:=za R;have y3:=za A);have yq:=za Q);clear P C R A Q q0 q1 q2;(try simp only []));(try dsimp only at HL2);clear HL;have HL:=Hd HL2;clear HL2))
  ((repeat (first|go_skip|go_guarded|go_step|go_upon|go_back));go_region;(all_goals (repeat (first|go_skip|go_guarded|go_step|go_upon|go_back)));(all_goals (obtain ⟨rfl,rfl⟩:=HL.out.end;refine bodyPost_ret (by simp [results,Tryz.results57,go_sem,y0,y1,y2,y3,yq,n0,n0',n1,n1',n2,n2',n3,n3'];rfl) rfl ?_;(exact ⟨_,rfl,⟨_,_,_,rfl,RdL.drew (HW0.out _ _ _ _),RdL.drew (HW1.out _ _ _ _),RdL.drew (HW2.out _ _ _ _)⟩,Below.drew (zdM B Z4 _ _ _ _ _)⟩))))
 ·have HL2:Hid (Lft (K.code (K.storePage proc ca tx)) m2 (res,mres)):=HL
  clear HL
  have HL:=HL2
  clear HL2
  unfold K.code at HL
  (repeat (first|go_skip|go_guarded|go_step|go_upon|go_back))
  (((go_at_call 128;refine (SC.use (zfg _ (by omega) (by omega) _ (by omega) (by omega) _ (by omega)) (fun _=>True) (fun _ _=>trivial) (by first|exact HL.out|exact HL.out.last) (⟨_,_,_,rfl,HW0.out _ _ _ _,HW1.out _ _ _ _,HW2.out _ _ _ _⟩ : MRd _ _ _)).mono ?_));((rintro e w2 ⟨v2,x,m2,rfl,hx,hm,hb,HL2⟩);obtain ⟨b0,d0,b1,d1,b2,d2,rfl,q0,q1,q2⟩:=hm.form;obtain ⟨B',P,C,R,A,Q,Z'⟩:=z7 B Z4 yq hb;clear hm hb HW0 HW1 HW2 B HSM y0 y1 y2 y3 yq Z';have B:=B';clear B';have HSM:=Hd (Mp.fits_small HL2.1);(have e1:=zaQ P C R A Q;rw [<- e1];clear e1;have HW0:=Hd (fun o r s a=>zF (zf _) (zz _) q0 Z4 P C R A Q o r s a);have HW1:=Hd (fun o r s a=>zF (zc _) (zn HSM.out.rn) q1 Z4 P C R A Q o r s a);have HW2:=Hd (fun o r s a=>zF (zc _) (zn HSM.out.wn) q2 Z4 P C R A Q o r s a);((have y0:=za P;have y1:=za C;have y2:=za R;have y3:=za A);have yq:=za Q);clear P C R A Q q0 q1 q2;(try simp only []));clear HL;have HL:=Hd HL2;clear HL2))
  ((repeat (first|go_skip|go_guarded|go_step|go_upon|go_back));go_region;(all_goals (repeat (first|go_skip|go_guarded|go_step|go_upon|go_back)));(all_goals (obtain ⟨rfl,rfl⟩:=HL.out.end;refine bodyPost_ret (by simp [results,Tryz.results57,go_sem,y0,y1,y2,y3,yq,n0,n0',n1,n1',n2,n2',n3,n3'];rfl) rfl ?_;(exact ⟨_,rfl,⟨_,_,_,rfl,RdL.drew (HW0.out _ _ _ _),RdL.drew (HW1.out _ _ _ _),RdL.drew (HW2.out _ _ _ _)⟩,Below.drew (zdM B Z4 _ _ _ _ _)⟩))))
 ·have HL2:Hid (Lft (K.codeT (K.loadPage proc ca)) m2 (res,mres)):=HL
  clear HL
  have HL:=HL2
  clear HL2
  unfold K.codeT at HL
  (repeat (first|go_skip|go_guarded|go_step|go_upon|go_back))
  (((go_at_call 129;refine (SC.use2 (zfR _ (by omega) (by omega) _ (by omega) (by omega)) (fun _=>True) (fun _ _=>trivial) (by first|exact HL.out|exact HL.out.last) (⟨_,_,_,rfl,HW0.out _ _ _ _,HW1.out _ _ _ _,HW2.out _ _ _ _⟩ : MRd _ _ _)).mono ?_));((rintro e w2 ⟨v2,x,y,m2,rfl,hx,hm,hb,HL2⟩);obtain ⟨b0,d0,b1,d1,b2,d2,rfl,q0,q1,q2⟩:=hm.form;obtain ⟨B',P,C,R,A,Q,Z'⟩:=z7 B Z4 yq hb;clear hm hb HW0 HW1 HW2 B HSM y0 y1 y2 y3 yq Z';have B:=B';clear B';have HSM:=Hd (Mp.fits_small HL2.1);(have e1:=zaQ P C R A Q;rw [<- e1];clear e1;have HW0:=Hd (fun o r s a=>zF (zf _) (zz _) q0 Z4 P C R A Q o r s a);have HW1:=Hd (fun o r s a=>zF (zc _) (zn HSM.out.rn) q1 Z4 P C R A Q o r s a);have HW2:=Hd (fun o r s a=>zF (zc _) (zn HSM.out.wn) q2 Z4 P C R A Q o r s a);((have y0:=za P;have y1:=za C;have y2:=za R;have y3:=za A);have yq:=za Q);clear P C R A Q q0 q1 q2;(try simp only []));(try dsimp only at HL2);clear HL;have HL:=Hd HL2;clear HL2))
  ((repeat (first|go_skip|go_guarded|go_step|go_upon|go_back));go_region;(all_goals (repeat (first|go_skip|go_guarded|go_step|go_upon|go_back)));(all_goals (obtain ⟨rfl,rfl⟩:=HL.out.end;refine bodyPost_ret (by simp [results,Tryz.results57,go_sem,y0,y1,y2,y3,yq,n0,n0',n1,n1',n2,n2',n3,n3'];rfl) rfl ?_;(exact ⟨_,rfl,⟨_,_,_,rfl,RdL.drew (HW0.out _ _ _ _),RdL.drew (HW1.out _ _ _ _),RdL.drew (HW2.out _ _ _ _)⟩,Below.drew (zdM B Z4 _ _ _ _ _)⟩))))
 ·have HL2:Hid (Lft (K.code (K.putOut tx)) m2 (res,mres)):=HL
  clear HL
  have HL:=HL2
  clear HL2
  unfold K.code at HL
  (repeat (first|go_skip|go_guarded|go_step|go_upon|go_back))
  (((go_at_call 130;refine (SC.use (zhb _ (by omega)) (fun _=>True) (fun _ _=>trivial) (by first|exact HL.out|exact HL.out.last) (⟨_,_,_,rfl,HW0.out _ _ _ _,HW1.out _ _ _ _,HW2.out _ _ _ _⟩ : MRd _ _ _)).mono ?_));((rintro e w2 ⟨v2,x,m2,rfl,hx,hm,hb,HL2⟩);obtain ⟨b0,d0,b1,d1,b2,d2,rfl,q0,q1,q2⟩:=hm.form;obtain ⟨B',P,C,R,A,Q,Z'⟩:=z7 B Z4 yq hb;clear hm hb HW0 HW1 HW2 B HSM y0 y1 y2 y3 yq Z';have B:=B';clear B';have HSM:=Hd (Mp.fits_small HL2.1);(have e1:=zaQ P C R A Q;rw [<- e1];clear e1;have HW0:=Hd (fun o r s a=>zF (zf _) (zz _) q0 Z4 P C R A Q o r s a);have HW1:=Hd (fun o r s a=>zF (zc _) (zn HSM.out.rn) q1 Z4 P C R A Q o r s a);have HW2:=Hd (fun o r s a=>zF (zc _) (zn HSM.out.wn) q2 Z4 P C R A Q o r s a);((have y0:=za P;have y1:=za C;have y2:=za R;have y3:=za A);have yq:=za Q);clear P C R A Q q0 q1 q2;(try simp only []));clear HL;have HL:=Hd HL2;clear HL2))
  ((repeat (first|go_skip|go_guarded|go_step|go_upon|go_back));go_region;(all_goals (repeat (first|go_skip|go_guarded|go_step|go_upon|go_back)));(all_goals (obtain ⟨rfl,rfl⟩:=HL.out.end;refine bodyPost_ret (by simp [results,Tryz.results57,go_sem,y0,y1,y2,y3,yq,n0,n0',n1,n1',n2,n2',n3,n3'];rfl) rfl ?_;(exact ⟨_,rfl,⟨_,_,_,rfl,RdL.drew (HW0.out _ _ _ _),RdL.drew (HW1.out _ _ _ _),RdL.drew (HW2.out _ _ _ _)⟩,Below.drew (zdM B Z4 _ _ _ _ _)⟩))))
end Go.Proofs.YtpnoehpmgflibaaGreatDoor
