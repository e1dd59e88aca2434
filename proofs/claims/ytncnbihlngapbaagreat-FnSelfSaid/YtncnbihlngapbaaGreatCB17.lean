/- Texts of this claim, merged: the walks and what they stand on. Each condition stands in its theorem. -/
import Derived.Test.YtncnbihlngapbaaGreatCB14
import Derived.Test.YtncnbihlngapbaaGreatCB15
import Derived.Test.YtncnbihlngapbaaGreatCB16
set_option linter.unusedVariables false
set_option linter.unusedSimpArgs false
set_option maxRecDepth 100000
set_option maxHeartbeats 8000000
namespace Go.Proofs.YtncnbihlngapbaaGreat
open Go.ChangeShapes Go.WideShapes Go.ChangeAt Go.RowKit
theorem zhV {kd:Int} {nm tn tx:ByteArray} {ca cb:Int} (h:K.callOk ⟨kd,nm,tn,ca,cb,tx⟩=true):(1<=kd/\kd<=22)/\nm.size<=20/\tn.size<=20/\tx.size<=64:=by
 unfold K.callOk inB at h
 simp at h
 omega
set_option maxHeartbeats 40000000 in
theorem zfR (proc:Int) (hp0 : -9223372036854775808<=proc) (hp1:proc<=9223372036854775807) (c:CallD) (hc:c.ok) (ha0 : -9223372036854775808<=c.a) (ha1:c.a<=9223372036854775807) (hb0 : -9223372036854775808<=c.b) (hb1:c.b<=9223372036854775807):SC 42 (fun x=>#[x,.int .i64 proc,zbk c]) (K.doCall proc c) (fun v' a=>.tuple #[v',zca a]):=by
 obtain ⟨kd,nm,tn,ca,cb,tx⟩:=c
 dsimp only at ha0 ha1 hb0 hb1
 have D:Hid (∀ w,Calls Tryz.prog 60 #[.agg #[.int .i64 kd,.string nm,.string tn,.int .i64 ca,.int .i64 cb,.string tx]] w fun e w'=>e=.returned (.bool (K.callOk ⟨kd,nm,tn,ca,cb,tx⟩))/\Below w.heap.size w w'):=fun w=>zhF ⟨kd,nm,tn,ca,cb,tx⟩ hc w
 clear hc
 refine zdR (fun w m a0 c0 a1 c1 a2 c2 res mres H0 H1 H2 HL=>?_)
 unfold K.doCall at HL
 unfold zbk
 dsimp only at HL ⊢
 go_enter Tryz.func42,Tryz.ntmps42
 (try simp only [])
 ((repeat (first|((with_reducible refine zb8 (fun W0=>Below w.heap.size w W0/\W0.heap[w.heap.size]?=some (.cells #[.slice a0 m.cells.length c0,.slice a1 m.rd.length c1,.slice a2 m.wr.length c2] 76)/\W0.heap[w.heap.size+1]?=some (.cells #[.int .i64 kd,.string nm,.string tn,.int .i64 ca,.int .i64 cb,.string tx] 63)/\W0.heap[w.heap.size+1+1]?=some (.cells #[.slice none 0 0,.slice none 0 0,.slice none 0 0] 76)/\W0.heap[w.heap.size+1+1+1]?=some (.cells #[.int .i64 0,.int .i64 0,.string ⟨#[]⟩] 59)) ?_ ?_);(· with_reducible exact zih w (.cells #[.slice a0 m.cells.length c0,.slice a1 m.rd.length c1,.slice a2 m.wr.length c2] 76) (.cells #[.int .i64 kd,.string nm,.string tn,.int .i64 ca,.int .i64 cb,.string tx] 63) (.cells #[.slice none 0 0,.slice none 0 0,.slice none 0 0] 76) (.cells #[.int .i64 0,.int .i64 0,.string ⟨#[]⟩] 59) (by repeat (first|with_reducible exact Below.refl _ _|with_reducible apply Below.ofAlloc))))|go_skip|go_guarded|go_step|go_upon|go_back));have HSM:=Hd (Mp.fits_small HL.out.1);rintro w1 ⟨B,P,C,R,A⟩;have q0:=H0.out.below B;have q1:=H1.out.below B;have q2:=H2.out.below B;clear H0 H1 H2;(have e1:=ziQ P C R A;rw [<- e1];clear e1;have HW0:=Hd (fun o r s=>zeA (zh _) (zN _) q0 P C R A o r s);have HW1:=Hd (fun o r s=>zeA (ze _) (zu HSM.out.rn) q1 P C R A o r s);have HW2:=Hd (fun o r s=>zeA (ze _) (zu HSM.out.wn) q2 P C R A o r s);(have y0:=zb P;have y1:=zb C;have y2:=zb R;have y3:=zb A);clear P C R A q0 q1 q2))
 (repeat (first|go_skip|go_guarded|go_step|go_upon|go_back))
 (((go_at_call 59;refine (SC.use (zaO _ (by omega) (by omega)) (fun a=>0<=a/\a<=999) (fun m _=>zay _ m) (by first|exact HL.out|exact HL.out.last) (⟨_,_,_,rfl,HW0.out _ _ _,HW1.out _ _ _,HW2.out _ _ _⟩ : MRd _ _ _)).mono ?_));((rintro e w2 ⟨v2,x,m2,rfl,hx,hm,hb,HL2⟩);obtain ⟨b0,d0,b1,d1,b2,d2,rfl,q0,q1,q2⟩:=hm.form;obtain ⟨B',P,C,R,A,Z⟩:=zgD B (by omega) hb;clear hm hb HW0 HW1 HW2 B HSM y0 y1 y2 y3;have B:=B';clear B';have HSM:=Hd (Mp.fits_small HL2.1);(have e1:=ziQ P C R A;rw [<- e1];clear e1;have HW0:=Hd (fun o r s=>zeA (zh _) (zN _) q0 P C R A o r s);have HW1:=Hd (fun o r s=>zeA (ze _) (zu HSM.out.rn) q1 P C R A o r s);have HW2:=Hd (fun o r s=>zeA (ze _) (zu HSM.out.wn) q2 P C R A o r s);(have y0:=zb P;have y1:=zb C;have y2:=zb R;have y3:=zb A);clear P C R A q0 q1 q2;(try simp only []));clear HL;have HL:=Hd HL2;clear HL2))
 rcases HL.out.ite with ⟨hgx,HL2⟩|⟨hgx,HL2⟩<;>(clear HL;have HL:=Hd HL2;clear HL2)
 ·(repeat (first|go_skip|go_guarded|go_step|go_upon|go_back))
  obtain ⟨rfl,rfl⟩:=HL.out.end
  refine bodyPost_ret (by simp [results,Tryz.results42,go_sem,y0,y1,y2,y3];rfl) rfl ?_
  exact ⟨_,rfl,⟨_,_,_,rfl,HW0.out _ _ _,HW1.out _ _ _,HW2.out _ _ _⟩,fo_B B _ _ _ _⟩
 have hx1:=Decidable.not_not.1 hgx
 subst hx1
 clear hgx
 (repeat (first|go_skip|go_guarded|go_step|go_upon|go_back))
 (go_at_call 60;refine (D.out _).mono ?_;rintro e w2 ⟨rfl,hb⟩)
 have k0:=(HW0.out _ _ _).below hb
 have k1:=(HW1.out _ _ _).below hb
 have k2:=(HW2.out _ _ _).below hb
 obtain ⟨B',P,C,R,A,Z'⟩:=zgD B (by omega) hb
 have e1:=ziQ P C R A
 rw [<- e1]
 have HX0:=Hd (zgE (by decide) (by omega) HW0.out k0 C)
 have HX1:=Hd (zgE (by decide) (by omega) HW1.out k1 C)
 have HX2:=Hd (zgE (by decide) (by omega) HW2.out k2 C)
 clear e1 hb k0 k1 k2 HW0 HW1 HW2 B Z y0 y1 y2 y3 D
 (have y0:=zb P;have y1:=zb C;have y2:=zb R;have y3:=zb A)
 clear P C R A
 have HW0:=HX0
 have HW1:=HX1
 have HW2:=HX2
 have B:=B'
 have Z:=Z'
 clear HX0 HX1 HX2 B' Z'
 try simp only []
 rcases HL.out.ite with ⟨hcb,HL2⟩|⟨hcb,HL2⟩<;>(clear HL;have HL:=Hd HL2;clear HL2)
 ·rw [hcb]
  clear hcb
  (repeat (first|go_skip|go_guarded|go_step|go_upon|go_back))
  obtain ⟨rfl,rfl⟩:=HL.out.end
  refine bodyPost_ret (by simp [results,Tryz.results42,go_sem,y0,y1,y2,y3];rfl) rfl ?_
  exact ⟨_,rfl,⟨_,_,_,rfl,HW0.out _ _ _,HW1.out _ _ _,HW2.out _ _ _⟩,fo_B B _ _ _ _⟩
 have hcb2:K.callOk ⟨kd,nm,tn,ca,cb,tx⟩=true:=by simpa using hcb
 rw [hcb2]
 obtain ⟨hkd,hnz,htz0,htz⟩:=zhV hcb2
 clear hcb hcb2
 ((repeat (first|(with_reducible refine zb8 (fun W0=>Below w.heap.size w W0/\W0.heap[w.heap.size]?=some (.cells #[.slice b0 m2.cells.length d0,.slice b1 m2.rd.length d1,.slice b2 m2.wr.length d2] 76)/\W0.heap[w.heap.size+1]?=some (.cells #[.int .i64 kd,.string nm,.string tn,.int .i64 ca,.int .i64 cb,.string tx] 63)/\W0.heap[w.heap.size+1+1]?=some (.cells #[.slice none 0 0,.slice none 0 0,.slice none 0 0] 76)/\W0.heap[w.heap.size+1+1+1]?=some (.cells #[.int .i64 0,.int .i64 0,.string ⟨#[]⟩] 59)/\W0.heap[w2.heap.size]?=some (.cells #[.int .i64 0,.int .i64 0,.string ⟨#[]⟩] 59)/\RdL zE W0 (.slice b0 m2.cells.length d0) m2.cells/\RdL zH W0 (.slice b1 m2.rd.length d1) m2.rd/\RdL zH W0 (.slice b2 m2.wr.length d2) m2.wr) ?_ ?_;(· with_reducible exact ze7 _ B Z (HW0.out _ _ _) (HW1.out _ _ _) (HW2.out _ _ _)))|go_skip|go_guarded|go_step|go_upon|go_back));rintro w3 ⟨B',P,C,R,A,Q,q0,q1,q2⟩;clear HW0 HW1 HW2 B y0 y1 y2 y3;have B:=B';have Z4:=Z;clear B' Z;generalize w2.heap.size=q at Z4 Q ⊢;(have n0:¬ w.heap.size=q:=by omega);(have n0':¬ q=w.heap.size:=by omega);(have n1:¬ w.heap.size+1=q:=by omega);(have n1':¬ q=w.heap.size+1:=by omega);(have n2:¬ w.heap.size+1+1=q:=by omega);(have n2':¬ q=w.heap.size+1+1:=by omega);(have n3:¬ w.heap.size+1+1+1=q:=by omega);(have n3':¬ q=w.heap.size+1+1+1:=by omega);(have e1:=zaR P C R A Q;rw [<- e1];clear e1;have HW0:=Hd (fun o r s a=>zQ (zh _) (zN _) q0 Z4 P C R A Q o r s a);have HW1:=Hd (fun o r s a=>zQ (ze _) (zu HSM.out.rn) q1 Z4 P C R A Q o r s a);have HW2:=Hd (fun o r s a=>zQ (ze _) (zu HSM.out.wn) q2 Z4 P C R A Q o r s a);((have y0:=zb P;have y1:=zb C;have y2:=zb R;have y3:=zb A);have yq:=zb Q);clear P C R A Q q0 q1 q2))
 have hk:kd=1 ∨ kd=2 ∨ kd=3 ∨ kd=4 ∨ kd=5 ∨ kd=6 ∨ kd=7 ∨ kd=8 ∨ kd=9 ∨ kd=10 ∨ kd=11 ∨ kd=12 ∨ kd=13 ∨ kd=14 ∨ kd=15 ∨ kd=16 ∨ kd=17 ∨ kd=18 ∨ kd=19 ∨ kd=20 ∨ kd=21 ∨ kd=22:=by omega
 clear hkd
 rcases hk with rfl|rfl|rfl|rfl|rfl|rfl|rfl|rfl|rfl|rfl|rfl|rfl|rfl|rfl|rfl|rfl|rfl|rfl|rfl|rfl|rfl|rfl
 ·have HL2:Hid (Lft (K.codeN (K.makeName nm)) m2 (res,mres)):=HL
  clear HL
  have HL:=HL2
  clear HL2
  unfold K.codeN at HL
  (repeat (first|go_skip|go_guarded|go_step|go_upon|go_back))
  (((go_at_call 61;refine (zdb (zeW _ (by omega)) (fun _=>True) (fun _ _=>trivial) (by first|exact HL.out|exact HL.out.last) (⟨_,_,_,rfl,HW0.out _ _ _ _,HW1.out _ _ _ _,HW2.out _ _ _ _⟩ : MRd _ _ _)).mono ?_));((rintro e w2 ⟨v2,x,y,m2,rfl,hx,hm,hb,HL2⟩);obtain ⟨b0,d0,b1,d1,b2,d2,rfl,q0,q1,q2⟩:=hm.form;obtain ⟨B',P,C,R,A,Q,Z'⟩:=zae B Z4 yq hb;clear hm hb HW0 HW1 HW2 B HSM y0 y1 y2 y3 yq Z';have B:=B';clear B';have HSM:=Hd (Mp.fits_small HL2.1);(have e1:=zaR P C R A Q;rw [<- e1];clear e1;have HW0:=Hd (fun o r s a=>zQ (zh _) (zN _) q0 Z4 P C R A Q o r s a);have HW1:=Hd (fun o r s a=>zQ (ze _) (zu HSM.out.rn) q1 Z4 P C R A Q o r s a);have HW2:=Hd (fun o r s a=>zQ (ze _) (zu HSM.out.wn) q2 Z4 P C R A Q o r s a);((have y0:=zb P;have y1:=zb C;have y2:=zb R;have y3:=zb A);have yq:=zb Q);clear P C R A Q q0 q1 q2;(try simp only []));(try dsimp only at HL2);clear HL;have HL:=Hd HL2;clear HL2))
  ((repeat (first|go_skip|go_guarded|go_step|go_upon|go_back));go_region;(all_goals (repeat (first|go_skip|go_guarded|go_step|go_upon|go_back)));(all_goals (obtain ⟨rfl,rfl⟩:=HL.out.end;refine bodyPost_ret (by simp [results,Tryz.results42,go_sem,y0,y1,y2,y3,yq,n0,n0',n1,n1',n2,n2',n3,n3'];rfl) rfl ?_;(exact ⟨_,rfl,⟨_,_,_,rfl,RdL.drew (HW0.out _ _ _ _),RdL.drew (HW1.out _ _ _ _),RdL.drew (HW2.out _ _ _ _)⟩,Below.drew (zdl B Z4 _ _ _ _ _)⟩))))
 ·have HL2:Hid (Lft (K.code (K.linkName nm tn)) m2 (res,mres)):=HL
  clear HL
  have HL:=HL2
  clear HL2
  unfold K.code at HL
  (repeat (first|go_skip|go_guarded|go_step|go_upon|go_back))
  (((go_at_call 62;refine (SC.use (zeX _ (by omega) _ (by omega)) (fun _=>True) (fun _ _=>trivial) (by first|exact HL.out|exact HL.out.last) (⟨_,_,_,rfl,HW0.out _ _ _ _,HW1.out _ _ _ _,HW2.out _ _ _ _⟩ : MRd _ _ _)).mono ?_));((rintro e w2 ⟨v2,x,m2,rfl,hx,hm,hb,HL2⟩);obtain ⟨b0,d0,b1,d1,b2,d2,rfl,q0,q1,q2⟩:=hm.form;obtain ⟨B',P,C,R,A,Q,Z'⟩:=zae B Z4 yq hb;clear hm hb HW0 HW1 HW2 B HSM y0 y1 y2 y3 yq Z';have B:=B';clear B';have HSM:=Hd (Mp.fits_small HL2.1);(have e1:=zaR P C R A Q;rw [<- e1];clear e1;have HW0:=Hd (fun o r s a=>zQ (zh _) (zN _) q0 Z4 P C R A Q o r s a);have HW1:=Hd (fun o r s a=>zQ (ze _) (zu HSM.out.rn) q1 Z4 P C R A Q o r s a);have HW2:=Hd (fun o r s a=>zQ (ze _) (zu HSM.out.wn) q2 Z4 P C R A Q o r s a);((have y0:=zb P;have y1:=zb C;have y2:=zb R;have y3:=zb A);have yq:=zb Q);clear P C R A Q q0 q1 q2;(try simp only []));clear HL;have HL:=Hd HL2;clear HL2))
  ((repeat (first|go_skip|go_guarded|go_step|go_upon|go_back));go_region;(all_goals (repeat (first|go_skip|go_guarded|go_step|go_upon|go_back)));(all_goals (obtain ⟨rfl,rfl⟩:=HL.out.end;refine bodyPost_ret (by simp [results,Tryz.results42,go_sem,y0,y1,y2,y3,yq,n0,n0',n1,n1',n2,n2',n3,n3'];rfl) rfl ?_;(exact ⟨_,rfl,⟨_,_,_,rfl,RdL.drew (HW0.out _ _ _ _),RdL.drew (HW1.out _ _ _ _),RdL.drew (HW2.out _ _ _ _)⟩,Below.drew (zdl B Z4 _ _ _ _ _)⟩))))
 ·have HL2:Hid (Lft (K.code (K.unlinkName nm)) m2 (res,mres)):=HL
  clear HL
  have HL:=HL2
  clear HL2
  unfold K.code at HL
  (repeat (first|go_skip|go_guarded|go_step|go_upon|go_back))
  (((go_at_call 63;refine (SC.use (zcf _ (by omega)) (fun _=>True) (fun _ _=>trivial) (by first|exact HL.out|exact HL.out.last) (⟨_,_,_,rfl,HW0.out _ _ _ _,HW1.out _ _ _ _,HW2.out _ _ _ _⟩ : MRd _ _ _)).mono ?_));((rintro e w2 ⟨v2,x,m2,rfl,hx,hm,hb,HL2⟩);obtain ⟨b0,d0,b1,d1,b2,d2,rfl,q0,q1,q2⟩:=hm.form;obtain ⟨B',P,C,R,A,Q,Z'⟩:=zae B Z4 yq hb;clear hm hb HW0 HW1 HW2 B HSM y0 y1 y2 y3 yq Z';have B:=B';clear B';have HSM:=Hd (Mp.fits_small HL2.1);(have e1:=zaR P C R A Q;rw [<- e1];clear e1;have HW0:=Hd (fun o r s a=>zQ (zh _) (zN _) q0 Z4 P C R A Q o r s a);have HW1:=Hd (fun o r s a=>zQ (ze _) (zu HSM.out.rn) q1 Z4 P C R A Q o r s a);have HW2:=Hd (fun o r s a=>zQ (ze _) (zu HSM.out.wn) q2 Z4 P C R A Q o r s a);((have y0:=zb P;have y1:=zb C;have y2:=zb R;have y3:=zb A);have yq:=zb Q);clear P C R A Q q0 q1 q2;(try simp only []));clear HL;have HL:=Hd HL2;clear HL2))
  ((repeat (first|go_skip|go_guarded|go_step|go_upon|go_back));go_region;(all_goals (repeat (first|go_skip|go_guarded|go_step|go_upon|go_back)));(all_goals (obtain ⟨rfl,rfl⟩:=HL.out.end;refine bodyPost_ret (by simp [results,Tryz.results42,go_sem,y0,y1,y2,y3,yq,n0,n0',n1,n1',n2,n2',n3,n3'];rfl) rfl ?_;(exact ⟨_,rfl,⟨_,_,_,rfl,RdL.drew (HW0.out _ _ _ _),RdL.drew (HW1.out _ _ _ _),RdL.drew (HW2.out _ _ _ _)⟩,Below.drew (zdl B Z4 _ _ _ _ _)⟩))))
 ·have HL2:Hid (Lft (K.code (K.renameName nm tn)) m2 (res,mres)):=HL
  clear HL
  have HL:=HL2
  clear HL2
  unfold K.code at HL
  (repeat (first|go_skip|go_guarded|go_step|go_upon|go_back))
  (((go_at_call 64;refine (SC.use (zd1 _ (by omega) _ (by omega)) (fun _=>True) (fun _ _=>trivial) (by first|exact HL.out|exact HL.out.last) (⟨_,_,_,rfl,HW0.out _ _ _ _,HW1.out _ _ _ _,HW2.out _ _ _ _⟩ : MRd _ _ _)).mono ?_));((rintro e w2 ⟨v2,x,m2,rfl,hx,hm,hb,HL2⟩);obtain ⟨b0,d0,b1,d1,b2,d2,rfl,q0,q1,q2⟩:=hm.form;obtain ⟨B',P,C,R,A,Q,Z'⟩:=zae B Z4 yq hb;clear hm hb HW0 HW1 HW2 B HSM y0 y1 y2 y3 yq Z';have B:=B';clear B';have HSM:=Hd (Mp.fits_small HL2.1);(have e1:=zaR P C R A Q;rw [<- e1];clear e1;have HW0:=Hd (fun o r s a=>zQ (zh _) (zN _) q0 Z4 P C R A Q o r s a);have HW1:=Hd (fun o r s a=>zQ (ze _) (zu HSM.out.rn) q1 Z4 P C R A Q o r s a);have HW2:=Hd (fun o r s a=>zQ (ze _) (zu HSM.out.wn) q2 Z4 P C R A Q o r s a);((have y0:=zb P;have y1:=zb C;have y2:=zb R;have y3:=zb A);have yq:=zb Q);clear P C R A Q q0 q1 q2;(try simp only []));clear HL;have HL:=Hd HL2;clear HL2))
  ((repeat (first|go_skip|go_guarded|go_step|go_upon|go_back));go_region;(all_goals (repeat (first|go_skip|go_guarded|go_step|go_upon|go_back)));(all_goals (obtain ⟨rfl,rfl⟩:=HL.out.end;refine bodyPost_ret (by simp [results,Tryz.results42,go_sem,y0,y1,y2,y3,yq,n0,n0',n1,n1',n2,n2',n3,n3'];rfl) rfl ?_;(exact ⟨_,rfl,⟨_,_,_,rfl,RdL.drew (HW0.out _ _ _ _),RdL.drew (HW1.out _ _ _ _),RdL.drew (HW2.out _ _ _ _)⟩,Below.drew (zdl B Z4 _ _ _ _ _)⟩))))
 ·have HL2:Hid (Lft K.doNames m2 (res,mres)):=HL
  clear HL
  have HL:=HL2
  clear HL2
  (repeat (first|go_skip|go_guarded|go_step|go_upon|go_back))
  (((go_at_call 65;refine (SC.use (zgp) (fun _=>True) (fun _ _=>trivial) (by first|exact HL.out|exact HL.out.last) (⟨_,_,_,rfl,HW0.out _ _ _ _,HW1.out _ _ _ _,HW2.out _ _ _ _⟩ : MRd _ _ _)).mono ?_));rintro e w2 ⟨v2,x,m2,rfl,hx,hm,hb,HL2⟩;obtain ⟨xc,xn,xt⟩:=x;unfold zca;(try simp only []);obtain ⟨b0,d0,b1,d1,b2,d2,rfl,q0,q1,q2⟩:=hm.form;obtain ⟨B',P,C,R,A,Q,Z'⟩:=zae B Z4 yq hb;clear hm hb HW0 HW1 HW2 B HSM y0 y1 y2 y3 yq Z';have B:=B';clear B';have HSM:=Hd (Mp.fits_small HL2.1);(have e1:=zaR P C R A Q;rw [<- e1];clear e1;have HW0:=Hd (fun o r s a=>zQ (zh _) (zN _) q0 Z4 P C R A Q o r s a);have HW1:=Hd (fun o r s a=>zQ (ze _) (zu HSM.out.rn) q1 Z4 P C R A Q o r s a);have HW2:=Hd (fun o r s a=>zQ (ze _) (zu HSM.out.wn) q2 Z4 P C R A Q o r s a);((have y0:=zb P;have y1:=zb C;have y2:=zb R;have y3:=zb A);have yq:=zb Q);clear P C R A Q q0 q1 q2);clear HL;have HL:=Hd HL2;clear HL2)
  ((repeat (first|go_skip|go_guarded|go_step|go_upon|go_back));obtain ⟨rfl,rfl⟩:=HL.out.end;refine bodyPost_ret (by simp [results,Tryz.results42,go_sem,y0,y1,y2,y3,yq,n0,n0',n1,n1',n2,n2',n3,n3'];rfl) rfl ?_;exact ⟨_,rfl,⟨_,_,_,rfl,HW0.out _ _ _ _,HW1.out _ _ _ _,HW2.out _ _ _ _⟩,zdl B Z4 _ _ _ _ _⟩)
 ·have HL2:Hid (Lft (K.doFile ⟨6,nm,tn,ca,cb,tx⟩) m2 (res,mres)):=HL
  clear HL
  have HL:=HL2
  clear HL2
  (repeat (first|go_skip|go_guarded|go_step|go_upon|go_back))
  (((go_at_call 66;refine (SC.use (zcW ⟨_,nm,tn,ca,cb,tx⟩ hnz htz ha0 ha1 hb0 hb1) (fun _=>True) (fun _ _=>trivial) (by first|exact HL.out|exact HL.out.last) (⟨_,_,_,rfl,HW0.out _ _ _ _,HW1.out _ _ _ _,HW2.out _ _ _ _⟩ : MRd _ _ _)).mono ?_));rintro e w2 ⟨v2,x,m2,rfl,hx,hm,hb,HL2⟩;obtain ⟨xc,xn,xt⟩:=x;unfold zca;(try simp only []);obtain ⟨b0,d0,b1,d1,b2,d2,rfl,q0,q1,q2⟩:=hm.form;obtain ⟨B',P,C,R,A,Q,Z'⟩:=zae B Z4 yq hb;clear hm hb HW0 HW1 HW2 B HSM y0 y1 y2 y3 yq Z';have B:=B';clear B';have HSM:=Hd (Mp.fits_small HL2.1);(have e1:=zaR P C R A Q;rw [<- e1];clear e1;have HW0:=Hd (fun o r s a=>zQ (zh _) (zN _) q0 Z4 P C R A Q o r s a);have HW1:=Hd (fun o r s a=>zQ (ze _) (zu HSM.out.rn) q1 Z4 P C R A Q o r s a);have HW2:=Hd (fun o r s a=>zQ (ze _) (zu HSM.out.wn) q2 Z4 P C R A Q o r s a);((have y0:=zb P;have y1:=zb C;have y2:=zb R;have y3:=zb A);have yq:=zb Q);clear P C R A Q q0 q1 q2);clear HL;have HL:=Hd HL2;clear HL2)
  ((repeat (first|go_skip|go_guarded|go_step|go_upon|go_back));obtain ⟨rfl,rfl⟩:=HL.out.end;refine bodyPost_ret (by simp [results,Tryz.results42,go_sem,y0,y1,y2,y3,yq,n0,n0',n1,n1',n2,n2',n3,n3'];rfl) rfl ?_;exact ⟨_,rfl,⟨_,_,_,rfl,HW0.out _ _ _ _,HW1.out _ _ _ _,HW2.out _ _ _ _⟩,zdl B Z4 _ _ _ _ _⟩)
 ·have HL2:Hid (Lft (K.doFile ⟨7,nm,tn,ca,cb,tx⟩) m2 (res,mres)):=HL
  clear HL
  have HL:=HL2
  clear HL2
  (repeat (first|go_skip|go_guarded|go_step|go_upon|go_back))
  (((go_at_call 66;refine (SC.use (zcW ⟨_,nm,tn,ca,cb,tx⟩ hnz htz ha0 ha1 hb0 hb1) (fun _=>True) (fun _ _=>trivial) (by first|exact HL.out|exact HL.out.last) (⟨_,_,_,rfl,HW0.out _ _ _ _,HW1.out _ _ _ _,HW2.out _ _ _ _⟩ : MRd _ _ _)).mono ?_));rintro e w2 ⟨v2,x,m2,rfl,hx,hm,hb,HL2⟩;obtain ⟨xc,xn,xt⟩:=x;unfold zca;(try simp only []);obtain ⟨b0,d0,b1,d1,b2,d2,rfl,q0,q1,q2⟩:=hm.form;obtain ⟨B',P,C,R,A,Q,Z'⟩:=zae B Z4 yq hb;clear hm hb HW0 HW1 HW2 B HSM y0 y1 y2 y3 yq Z';have B:=B';clear B';have HSM:=Hd (Mp.fits_small HL2.1);(have e1:=zaR P C R A Q;rw [<- e1];clear e1;have HW0:=Hd (fun o r s a=>zQ (zh _) (zN _) q0 Z4 P C R A Q o r s a);have HW1:=Hd (fun o r s a=>zQ (ze _) (zu HSM.out.rn) q1 Z4 P C R A Q o r s a);have HW2:=Hd (fun o r s a=>zQ (ze _) (zu HSM.out.wn) q2 Z4 P C R A Q o r s a);((have y0:=zb P;have y1:=zb C;have y2:=zb R;have y3:=zb A);have yq:=zb Q);clear P C R A Q q0 q1 q2);clear HL;have HL:=Hd HL2;clear HL2)
  ((repeat (first|go_skip|go_guarded|go_step|go_upon|go_back));obtain ⟨rfl,rfl⟩:=HL.out.end;refine bodyPost_ret (by simp [results,Tryz.results42,go_sem,y0,y1,y2,y3,yq,n0,n0',n1,n1',n2,n2',n3,n3'];rfl) rfl ?_;exact ⟨_,rfl,⟨_,_,_,rfl,HW0.out _ _ _ _,HW1.out _ _ _ _,HW2.out _ _ _ _⟩,zdl B Z4 _ _ _ _ _⟩)
 ·have HL2:Hid (Lft (K.doFile ⟨8,nm,tn,ca,cb,tx⟩) m2 (res,mres)):=HL
  clear HL
  have HL:=HL2
  clear HL2
  (repeat (first|go_skip|go_guarded|go_step|go_upon|go_back))
  (((go_at_call 66;refine (SC.use (zcW ⟨_,nm,tn,ca,cb,tx⟩ hnz htz ha0 ha1 hb0 hb1) (fun _=>True) (fun _ _=>trivial) (by first|exact HL.out|exact HL.out.last) (⟨_,_,_,rfl,HW0.out _ _ _ _,HW1.out _ _ _ _,HW2.out _ _ _ _⟩ : MRd _ _ _)).mono ?_));rintro e w2 ⟨v2,x,m2,rfl,hx,hm,hb,HL2⟩;obtain ⟨xc,xn,xt⟩:=x;unfold zca;(try simp only []);obtain ⟨b0,d0,b1,d1,b2,d2,rfl,q0,q1,q2⟩:=hm.form;obtain ⟨B',P,C,R,A,Q,Z'⟩:=zae B Z4 yq hb;clear hm hb HW0 HW1 HW2 B HSM y0 y1 y2 y3 yq Z';have B:=B';clear B';have HSM:=Hd (Mp.fits_small HL2.1);(have e1:=zaR P C R A Q;rw [<- e1];clear e1;have HW0:=Hd (fun o r s a=>zQ (zh _) (zN _) q0 Z4 P C R A Q o r s a);have HW1:=Hd (fun o r s a=>zQ (ze _) (zu HSM.out.rn) q1 Z4 P C R A Q o r s a);have HW2:=Hd (fun o r s a=>zQ (ze _) (zu HSM.out.wn) q2 Z4 P C R A Q o r s a);((have y0:=zb P;have y1:=zb C;have y2:=zb R;have y3:=zb A);have yq:=zb Q);clear P C R A Q q0 q1 q2);clear HL;have HL:=Hd HL2;clear HL2)
  ((repeat (first|go_skip|go_guarded|go_step|go_upon|go_back));obtain ⟨rfl,rfl⟩:=HL.out.end;refine bodyPost_ret (by simp [results,Tryz.results42,go_sem,y0,y1,y2,y3,yq,n0,n0',n1,n1',n2,n2',n3,n3'];rfl) rfl ?_;exact ⟨_,rfl,⟨_,_,_,rfl,HW0.out _ _ _ _,HW1.out _ _ _ _,HW2.out _ _ _ _⟩,zdl B Z4 _ _ _ _ _⟩)
 ·have HL2:Hid (Lft (K.codeN K.makePipe) m2 (res,mres)):=HL
  clear HL
  have HL:=HL2
  clear HL2
  unfold K.codeN at HL
  (repeat (first|go_skip|go_guarded|go_step|go_upon|go_back))
  (((go_at_call 67;refine (zdb (zeV) (fun _=>True) (fun _ _=>trivial) (by first|exact HL.out|exact HL.out.last) (⟨_,_,_,rfl,HW0.out _ _ _ _,HW1.out _ _ _ _,HW2.out _ _ _ _⟩ : MRd _ _ _)).mono ?_));((rintro e w2 ⟨v2,x,y,m2,rfl,hx,hm,hb,HL2⟩);obtain ⟨b0,d0,b1,d1,b2,d2,rfl,q0,q1,q2⟩:=hm.form;obtain ⟨B',P,C,R,A,Q,Z'⟩:=zae B Z4 yq hb;clear hm hb HW0 HW1 HW2 B HSM y0 y1 y2 y3 yq Z';have B:=B';clear B';have HSM:=Hd (Mp.fits_small HL2.1);(have e1:=zaR P C R A Q;rw [<- e1];clear e1;have HW0:=Hd (fun o r s a=>zQ (zh _) (zN _) q0 Z4 P C R A Q o r s a);have HW1:=Hd (fun o r s a=>zQ (ze _) (zu HSM.out.rn) q1 Z4 P C R A Q o r s a);have HW2:=Hd (fun o r s a=>zQ (ze _) (zu HSM.out.wn) q2 Z4 P C R A Q o r s a);((have y0:=zb P;have y1:=zb C;have y2:=zb R;have y3:=zb A);have yq:=zb Q);clear P C R A Q q0 q1 q2;(try simp only []));(try dsimp only at HL2);clear HL;have HL:=Hd HL2;clear HL2))
  ((repeat (first|go_skip|go_guarded|go_step|go_upon|go_back));go_region;(all_goals (repeat (first|go_skip|go_guarded|go_step|go_upon|go_back)));(all_goals (obtain ⟨rfl,rfl⟩:=HL.out.end;refine bodyPost_ret (by simp [results,Tryz.results42,go_sem,y0,y1,y2,y3,yq,n0,n0',n1,n1',n2,n2',n3,n3'];rfl) rfl ?_;(exact ⟨_,rfl,⟨_,_,_,rfl,RdL.drew (HW0.out _ _ _ _),RdL.drew (HW1.out _ _ _ _),RdL.drew (HW2.out _ _ _ _)⟩,Below.drew (zdl B Z4 _ _ _ _ _)⟩))))
 ·have HL2:Hid (Lft (K.code (K.putPipe ca tx)) m2 (res,mres)):=HL
  clear HL
  have HL:=HL2
  clear HL2
  unfold K.code at HL
  (repeat (first|go_skip|go_guarded|go_step|go_upon|go_back))
  (((go_at_call 68;refine (SC.use (zfl _ (by omega) (by omega) _ (by omega)) (fun _=>True) (fun _ _=>trivial) (by first|exact HL.out|exact HL.out.last) (⟨_,_,_,rfl,HW0.out _ _ _ _,HW1.out _ _ _ _,HW2.out _ _ _ _⟩ : MRd _ _ _)).mono ?_));((rintro e w2 ⟨v2,x,m2,rfl,hx,hm,hb,HL2⟩);obtain ⟨b0,d0,b1,d1,b2,d2,rfl,q0,q1,q2⟩:=hm.form;obtain ⟨B',P,C,R,A,Q,Z'⟩:=zae B Z4 yq hb;clear hm hb HW0 HW1 HW2 B HSM y0 y1 y2 y3 yq Z';have B:=B';clear B';have HSM:=Hd (Mp.fits_small HL2.1);(have e1:=zaR P C R A Q;rw [<- e1];clear e1;have HW0:=Hd (fun o r s a=>zQ (zh _) (zN _) q0 Z4 P C R A Q o r s a);have HW1:=Hd (fun o r s a=>zQ (ze _) (zu HSM.out.rn) q1 Z4 P C R A Q o r s a);have HW2:=Hd (fun o r s a=>zQ (ze _) (zu HSM.out.wn) q2 Z4 P C R A Q o r s a);((have y0:=zb P;have y1:=zb C;have y2:=zb R;have y3:=zb A);have yq:=zb Q);clear P C R A Q q0 q1 q2;(try simp only []));clear HL;have HL:=Hd HL2;clear HL2))
  ((repeat (first|go_skip|go_guarded|go_step|go_upon|go_back));go_region;(all_goals (repeat (first|go_skip|go_guarded|go_step|go_upon|go_back)));(all_goals (obtain ⟨rfl,rfl⟩:=HL.out.end;refine bodyPost_ret (by simp [results,Tryz.results42,go_sem,y0,y1,y2,y3,yq,n0,n0',n1,n1',n2,n2',n3,n3'];rfl) rfl ?_;(exact ⟨_,rfl,⟨_,_,_,rfl,RdL.drew (HW0.out _ _ _ _),RdL.drew (HW1.out _ _ _ _),RdL.drew (HW2.out _ _ _ _)⟩,Below.drew (zdl B Z4 _ _ _ _ _)⟩))))
 ·have HL2:Hid (Lft (K.codeT (K.takePipe ca)) m2 (res,mres)):=HL
  clear HL
  have HL:=HL2
  clear HL2
  unfold K.codeT at HL
  (repeat (first|go_skip|go_guarded|go_step|go_upon|go_back))
  (((go_at_call 69;refine (zdb (zeU _ (by omega) (by omega)) (fun _=>True) (fun _ _=>trivial) (by first|exact HL.out|exact HL.out.last) (⟨_,_,_,rfl,HW0.out _ _ _ _,HW1.out _ _ _ _,HW2.out _ _ _ _⟩ : MRd _ _ _)).mono ?_));((rintro e w2 ⟨v2,x,y,m2,rfl,hx,hm,hb,HL2⟩);obtain ⟨b0,d0,b1,d1,b2,d2,rfl,q0,q1,q2⟩:=hm.form;obtain ⟨B',P,C,R,A,Q,Z'⟩:=zae B Z4 yq hb;clear hm hb HW0 HW1 HW2 B HSM y0 y1 y2 y3 yq Z';have B:=B';clear B';have HSM:=Hd (Mp.fits_small HL2.1);(have e1:=zaR P C R A Q;rw [<- e1];clear e1;have HW0:=Hd (fun o r s a=>zQ (zh _) (zN _) q0 Z4 P C R A Q o r s a);have HW1:=Hd (fun o r s a=>zQ (ze _) (zu HSM.out.rn) q1 Z4 P C R A Q o r s a);have HW2:=Hd (fun o r s a=>zQ (ze _) (zu HSM.out.wn) q2 Z4 P C R A Q o r s a);((have y0:=zb P;have y1:=zb C;have y2:=zb R;have y3:=zb A);have yq:=zb Q);clear P C R A Q q0 q1 q2;(try simp only []));(try dsimp only at HL2);clear HL;have HL:=Hd HL2;clear HL2))
  ((repeat (first|go_skip|go_guarded|go_step|go_upon|go_back));go_region;(all_goals (repeat (first|go_skip|go_guarded|go_step|go_upon|go_back)));(all_goals (obtain ⟨rfl,rfl⟩:=HL.out.end;refine bodyPost_ret (by simp [results,Tryz.results42,go_sem,y0,y1,y2,y3,yq,n0,n0',n1,n1',n2,n2',n3,n3'];rfl) rfl ?_;(exact ⟨_,rfl,⟨_,_,_,rfl,RdL.drew (HW0.out _ _ _ _),RdL.drew (HW1.out _ _ _ _),RdL.drew (HW2.out _ _ _ _)⟩,Below.drew (zdl B Z4 _ _ _ _ _)⟩))))
 ·have HL2:Hid (Lft (zdo proc ⟨12,nm,tn,ca,cb,tx⟩) m2 (res,mres)):=HL
  clear HL
  have HL:=HL2
  clear HL2
  (repeat (first|go_skip|go_guarded|go_step|go_upon|go_back))
  (((go_at_call 77;refine (SC.use (zcd proc hp0 hp1 ⟨_,nm,tn,ca,cb,tx⟩ ha0 ha1) (fun _=>True) (fun _ _=>trivial) (by first|exact HL.out|exact HL.out.last) (⟨_,_,_,rfl,HW0.out _ _ _ _,HW1.out _ _ _ _,HW2.out _ _ _ _⟩ : MRd _ _ _)).mono ?_));rintro e w2 ⟨v2,x,m2,rfl,hx,hm,hb,HL2⟩;obtain ⟨xc,xn,xt⟩:=x;unfold zca;(try simp only []);obtain ⟨b0,d0,b1,d1,b2,d2,rfl,q0,q1,q2⟩:=hm.form;obtain ⟨B',P,C,R,A,Q,Z'⟩:=zae B Z4 yq hb;clear hm hb HW0 HW1 HW2 B HSM y0 y1 y2 y3 yq Z';have B:=B';clear B';have HSM:=Hd (Mp.fits_small HL2.1);(have e1:=zaR P C R A Q;rw [<- e1];clear e1;have HW0:=Hd (fun o r s a=>zQ (zh _) (zN _) q0 Z4 P C R A Q o r s a);have HW1:=Hd (fun o r s a=>zQ (ze _) (zu HSM.out.rn) q1 Z4 P C R A Q o r s a);have HW2:=Hd (fun o r s a=>zQ (ze _) (zu HSM.out.wn) q2 Z4 P C R A Q o r s a);((have y0:=zb P;have y1:=zb C;have y2:=zb R;have y3:=zb A);have yq:=zb Q);clear P C R A Q q0 q1 q2);clear HL;have HL:=Hd HL2;clear HL2)
  ((repeat (first|go_skip|go_guarded|go_step|go_upon|go_back));obtain ⟨rfl,rfl⟩:=HL.out.end;refine bodyPost_ret (by simp [results,Tryz.results42,go_sem,y0,y1,y2,y3,yq,n0,n0',n1,n1',n2,n2',n3,n3'];rfl) rfl ?_;exact ⟨_,rfl,⟨_,_,_,rfl,HW0.out _ _ _ _,HW1.out _ _ _ _,HW2.out _ _ _ _⟩,zdl B Z4 _ _ _ _ _⟩)
 ·have HL2:Hid (Lft (zdo proc ⟨13,nm,tn,ca,cb,tx⟩) m2 (res,mres)):=HL
  clear HL
  have HL:=HL2
  clear HL2
  (repeat (first|go_skip|go_guarded|go_step|go_upon|go_back))
  (((go_at_call 77;refine (SC.use (zcd proc hp0 hp1 ⟨_,nm,tn,ca,cb,tx⟩ ha0 ha1) (fun _=>True) (fun _ _=>trivial) (by first|exact HL.out|exact HL.out.last) (⟨_,_,_,rfl,HW0.out _ _ _ _,HW1.out _ _ _ _,HW2.out _ _ _ _⟩ : MRd _ _ _)).mono ?_));rintro e w2 ⟨v2,x,m2,rfl,hx,hm,hb,HL2⟩;obtain ⟨xc,xn,xt⟩:=x;unfold zca;(try simp only []);obtain ⟨b0,d0,b1,d1,b2,d2,rfl,q0,q1,q2⟩:=hm.form;obtain ⟨B',P,C,R,A,Q,Z'⟩:=zae B Z4 yq hb;clear hm hb HW0 HW1 HW2 B HSM y0 y1 y2 y3 yq Z';have B:=B';clear B';have HSM:=Hd (Mp.fits_small HL2.1);(have e1:=zaR P C R A Q;rw [<- e1];clear e1;have HW0:=Hd (fun o r s a=>zQ (zh _) (zN _) q0 Z4 P C R A Q o r s a);have HW1:=Hd (fun o r s a=>zQ (ze _) (zu HSM.out.rn) q1 Z4 P C R A Q o r s a);have HW2:=Hd (fun o r s a=>zQ (ze _) (zu HSM.out.wn) q2 Z4 P C R A Q o r s a);((have y0:=zb P;have y1:=zb C;have y2:=zb R;have y3:=zb A);have yq:=zb Q);clear P C R A Q q0 q1 q2);clear HL;have HL:=Hd HL2;clear HL2)
  ((repeat (first|go_skip|go_guarded|go_step|go_upon|go_back));obtain ⟨rfl,rfl⟩:=HL.out.end;refine bodyPost_ret (by simp [results,Tryz.results42,go_sem,y0,y1,y2,y3,yq,n0,n0',n1,n1',n2,n2',n3,n3'];rfl) rfl ?_;exact ⟨_,rfl,⟨_,_,_,rfl,HW0.out _ _ _ _,HW1.out _ _ _ _,HW2.out _ _ _ _⟩,zdl B Z4 _ _ _ _ _⟩)
 ·have HL2:Hid (Lft (zdo proc ⟨14,nm,tn,ca,cb,tx⟩) m2 (res,mres)):=HL
  clear HL
  have HL:=HL2
  clear HL2
  (repeat (first|go_skip|go_guarded|go_step|go_upon|go_back))
  (((go_at_call 77;refine (SC.use (zcd proc hp0 hp1 ⟨_,nm,tn,ca,cb,tx⟩ ha0 ha1) (fun _=>True) (fun _ _=>trivial) (by first|exact HL.out|exact HL.out.last) (⟨_,_,_,rfl,HW0.out _ _ _ _,HW1.out _ _ _ _,HW2.out _ _ _ _⟩ : MRd _ _ _)).mono ?_));rintro e w2 ⟨v2,x,m2,rfl,hx,hm,hb,HL2⟩;obtain ⟨xc,xn,xt⟩:=x;unfold zca;(try simp only []);obtain ⟨b0,d0,b1,d1,b2,d2,rfl,q0,q1,q2⟩:=hm.form;obtain ⟨B',P,C,R,A,Q,Z'⟩:=zae B Z4 yq hb;clear hm hb HW0 HW1 HW2 B HSM y0 y1 y2 y3 yq Z';have B:=B';clear B';have HSM:=Hd (Mp.fits_small HL2.1);(have e1:=zaR P C R A Q;rw [<- e1];clear e1;have HW0:=Hd (fun o r s a=>zQ (zh _) (zN _) q0 Z4 P C R A Q o r s a);have HW1:=Hd (fun o r s a=>zQ (ze _) (zu HSM.out.rn) q1 Z4 P C R A Q o r s a);have HW2:=Hd (fun o r s a=>zQ (ze _) (zu HSM.out.wn) q2 Z4 P C R A Q o r s a);((have y0:=zb P;have y1:=zb C;have y2:=zb R;have y3:=zb A);have yq:=zb Q);clear P C R A Q q0 q1 q2);clear HL;have HL:=Hd HL2;clear HL2)
  ((repeat (first|go_skip|go_guarded|go_step|go_upon|go_back));obtain ⟨rfl,rfl⟩:=HL.out.end;refine bodyPost_ret (by simp [results,Tryz.results42,go_sem,y0,y1,y2,y3,yq,n0,n0',n1,n1',n2,n2',n3,n3'];rfl) rfl ?_;exact ⟨_,rfl,⟨_,_,_,rfl,HW0.out _ _ _ _,HW1.out _ _ _ _,HW2.out _ _ _ _⟩,zdl B Z4 _ _ _ _ _⟩)
 ·have HL2:Hid (Lft (zdo proc ⟨15,nm,tn,ca,cb,tx⟩) m2 (res,mres)):=HL
  clear HL
  have HL:=HL2
  clear HL2
  (repeat (first|go_skip|go_guarded|go_step|go_upon|go_back))
  (((go_at_call 77;refine (SC.use (zcd proc hp0 hp1 ⟨_,nm,tn,ca,cb,tx⟩ ha0 ha1) (fun _=>True) (fun _ _=>trivial) (by first|exact HL.out|exact HL.out.last) (⟨_,_,_,rfl,HW0.out _ _ _ _,HW1.out _ _ _ _,HW2.out _ _ _ _⟩ : MRd _ _ _)).mono ?_));rintro e w2 ⟨v2,x,m2,rfl,hx,hm,hb,HL2⟩;obtain ⟨xc,xn,xt⟩:=x;unfold zca;(try simp only []);obtain ⟨b0,d0,b1,d1,b2,d2,rfl,q0,q1,q2⟩:=hm.form;obtain ⟨B',P,C,R,A,Q,Z'⟩:=zae B Z4 yq hb;clear hm hb HW0 HW1 HW2 B HSM y0 y1 y2 y3 yq Z';have B:=B';clear B';have HSM:=Hd (Mp.fits_small HL2.1);(have e1:=zaR P C R A Q;rw [<- e1];clear e1;have HW0:=Hd (fun o r s a=>zQ (zh _) (zN _) q0 Z4 P C R A Q o r s a);have HW1:=Hd (fun o r s a=>zQ (ze _) (zu HSM.out.rn) q1 Z4 P C R A Q o r s a);have HW2:=Hd (fun o r s a=>zQ (ze _) (zu HSM.out.wn) q2 Z4 P C R A Q o r s a);((have y0:=zb P;have y1:=zb C;have y2:=zb R;have y3:=zb A);have yq:=zb Q);clear P C R A Q q0 q1 q2);clear HL;have HL:=Hd HL2;clear HL2)
  ((repeat (first|go_skip|go_guarded|go_step|go_upon|go_back));obtain ⟨rfl,rfl⟩:=HL.out.end;refine bodyPost_ret (by simp [results,Tryz.results42,go_sem,y0,y1,y2,y3,yq,n0,n0',n1,n1',n2,n2',n3,n3'];rfl) rfl ?_;exact ⟨_,rfl,⟨_,_,_,rfl,HW0.out _ _ _ _,HW1.out _ _ _ _,HW2.out _ _ _ _⟩,zdl B Z4 _ _ _ _ _⟩)
 ·have HL2:Hid (Lft (K.code (K.send ca cb)) m2 (res,mres)):=HL
  clear HL
  have HL:=HL2
  clear HL2
  unfold K.code at HL
  (repeat (first|go_skip|go_guarded|go_step|go_upon|go_back))
  (((go_at_call 70;refine (SC.use (zce _ (by omega) (by omega) _ (by omega) (by omega)) (fun _=>True) (fun _ _=>trivial) (by first|exact HL.out|exact HL.out.last) (⟨_,_,_,rfl,HW0.out _ _ _ _,HW1.out _ _ _ _,HW2.out _ _ _ _⟩ : MRd _ _ _)).mono ?_));((rintro e w2 ⟨v2,x,m2,rfl,hx,hm,hb,HL2⟩);obtain ⟨b0,d0,b1,d1,b2,d2,rfl,q0,q1,q2⟩:=hm.form;obtain ⟨B',P,C,R,A,Q,Z'⟩:=zae B Z4 yq hb;clear hm hb HW0 HW1 HW2 B HSM y0 y1 y2 y3 yq Z';have B:=B';clear B';have HSM:=Hd (Mp.fits_small HL2.1);(have e1:=zaR P C R A Q;rw [<- e1];clear e1;have HW0:=Hd (fun o r s a=>zQ (zh _) (zN _) q0 Z4 P C R A Q o r s a);have HW1:=Hd (fun o r s a=>zQ (ze _) (zu HSM.out.rn) q1 Z4 P C R A Q o r s a);have HW2:=Hd (fun o r s a=>zQ (ze _) (zu HSM.out.wn) q2 Z4 P C R A Q o r s a);((have y0:=zb P;have y1:=zb C;have y2:=zb R;have y3:=zb A);have yq:=zb Q);clear P C R A Q q0 q1 q2;(try simp only []));clear HL;have HL:=Hd HL2;clear HL2))
  ((repeat (first|go_skip|go_guarded|go_step|go_upon|go_back));go_region;(all_goals (repeat (first|go_skip|go_guarded|go_step|go_upon|go_back)));(all_goals (obtain ⟨rfl,rfl⟩:=HL.out.end;refine bodyPost_ret (by simp [results,Tryz.results42,go_sem,y0,y1,y2,y3,yq,n0,n0',n1,n1',n2,n2',n3,n3'];rfl) rfl ?_;(exact ⟨_,rfl,⟨_,_,_,rfl,RdL.drew (HW0.out _ _ _ _),RdL.drew (HW1.out _ _ _ _),RdL.drew (HW2.out _ _ _ _)⟩,Below.drew (zdl B Z4 _ _ _ _ _)⟩))))
 ·have HL2:Hid (Lft (K.codeN (K.takeSignal proc)) m2 (res,mres)):=HL
  clear HL
  have HL:=HL2
  clear HL2
  unfold K.codeN at HL
  (repeat (first|go_skip|go_guarded|go_step|go_upon|go_back))
  (((go_at_call 71;refine (zdb (zd0 _ (by omega) (by omega)) (fun _=>True) (fun _ _=>trivial) (by first|exact HL.out|exact HL.out.last) (⟨_,_,_,rfl,HW0.out _ _ _ _,HW1.out _ _ _ _,HW2.out _ _ _ _⟩ : MRd _ _ _)).mono ?_));((rintro e w2 ⟨v2,x,y,m2,rfl,hx,hm,hb,HL2⟩);obtain ⟨b0,d0,b1,d1,b2,d2,rfl,q0,q1,q2⟩:=hm.form;obtain ⟨B',P,C,R,A,Q,Z'⟩:=zae B Z4 yq hb;clear hm hb HW0 HW1 HW2 B HSM y0 y1 y2 y3 yq Z';have B:=B';clear B';have HSM:=Hd (Mp.fits_small HL2.1);(have e1:=zaR P C R A Q;rw [<- e1];clear e1;have HW0:=Hd (fun o r s a=>zQ (zh _) (zN _) q0 Z4 P C R A Q o r s a);have HW1:=Hd (fun o r s a=>zQ (ze _) (zu HSM.out.rn) q1 Z4 P C R A Q o r s a);have HW2:=Hd (fun o r s a=>zQ (ze _) (zu HSM.out.wn) q2 Z4 P C R A Q o r s a);((have y0:=zb P;have y1:=zb C;have y2:=zb R;have y3:=zb A);have yq:=zb Q);clear P C R A Q q0 q1 q2;(try simp only []));(try dsimp only at HL2);clear HL;have HL:=Hd HL2;clear HL2))
  ((repeat (first|go_skip|go_guarded|go_step|go_upon|go_back));go_region;(all_goals (repeat (first|go_skip|go_guarded|go_step|go_upon|go_back)));(all_goals (obtain ⟨rfl,rfl⟩:=HL.out.end;refine bodyPost_ret (by simp [results,Tryz.results42,go_sem,y0,y1,y2,y3,yq,n0,n0',n1,n1',n2,n2',n3,n3'];rfl) rfl ?_;(exact ⟨_,rfl,⟨_,_,_,rfl,RdL.drew (HW0.out _ _ _ _),RdL.drew (HW1.out _ _ _ _),RdL.drew (HW2.out _ _ _ _)⟩,Below.drew (zdl B Z4 _ _ _ _ _)⟩))))
 ·have HL2:Hid (Lft (K.code (K.setTimer proc ca)) m2 (res,mres)):=HL
  clear HL
  have HL:=HL2
  clear HL2
  unfold K.code at HL
  (repeat (first|go_skip|go_guarded|go_step|go_upon|go_back))
  (((go_at_call 72;refine (SC.use (zeS _ (by omega) (by omega) _ (by omega) (by omega)) (fun _=>True) (fun _ _=>trivial) (by first|exact HL.out|exact HL.out.last) (⟨_,_,_,rfl,HW0.out _ _ _ _,HW1.out _ _ _ _,HW2.out _ _ _ _⟩ : MRd _ _ _)).mono ?_));((rintro e w2 ⟨v2,x,m2,rfl,hx,hm,hb,HL2⟩);obtain ⟨b0,d0,b1,d1,b2,d2,rfl,q0,q1,q2⟩:=hm.form;obtain ⟨B',P,C,R,A,Q,Z'⟩:=zae B Z4 yq hb;clear hm hb HW0 HW1 HW2 B HSM y0 y1 y2 y3 yq Z';have B:=B';clear B';have HSM:=Hd (Mp.fits_small HL2.1);(have e1:=zaR P C R A Q;rw [<- e1];clear e1;have HW0:=Hd (fun o r s a=>zQ (zh _) (zN _) q0 Z4 P C R A Q o r s a);have HW1:=Hd (fun o r s a=>zQ (ze _) (zu HSM.out.rn) q1 Z4 P C R A Q o r s a);have HW2:=Hd (fun o r s a=>zQ (ze _) (zu HSM.out.wn) q2 Z4 P C R A Q o r s a);((have y0:=zb P;have y1:=zb C;have y2:=zb R;have y3:=zb A);have yq:=zb Q);clear P C R A Q q0 q1 q2;(try simp only []));clear HL;have HL:=Hd HL2;clear HL2))
  ((repeat (first|go_skip|go_guarded|go_step|go_upon|go_back));go_region;(all_goals (repeat (first|go_skip|go_guarded|go_step|go_upon|go_back)));(all_goals (obtain ⟨rfl,rfl⟩:=HL.out.end;refine bodyPost_ret (by simp [results,Tryz.results42,go_sem,y0,y1,y2,y3,yq,n0,n0',n1,n1',n2,n2',n3,n3'];rfl) rfl ?_;(exact ⟨_,rfl,⟨_,_,_,rfl,RdL.drew (HW0.out _ _ _ _),RdL.drew (HW1.out _ _ _ _),RdL.drew (HW2.out _ _ _ _)⟩,Below.drew (zdl B Z4 _ _ _ _ _)⟩))))
 ·have HL2:Hid (Lft (K.codeN (K.tick ca)) m2 (res,mres)):=HL
  clear HL
  have HL:=HL2
  clear HL2
  unfold K.codeN at HL
  (repeat (first|go_skip|go_guarded|go_step|go_upon|go_back))
  (((go_at_call 73;refine (zdb (zgZ _ (by omega) (by omega)) (fun _=>True) (fun _ _=>trivial) (by first|exact HL.out|exact HL.out.last) (⟨_,_,_,rfl,HW0.out _ _ _ _,HW1.out _ _ _ _,HW2.out _ _ _ _⟩ : MRd _ _ _)).mono ?_));((rintro e w2 ⟨v2,x,y,m2,rfl,hx,hm,hb,HL2⟩);obtain ⟨b0,d0,b1,d1,b2,d2,rfl,q0,q1,q2⟩:=hm.form;obtain ⟨B',P,C,R,A,Q,Z'⟩:=zae B Z4 yq hb;clear hm hb HW0 HW1 HW2 B HSM y0 y1 y2 y3 yq Z';have B:=B';clear B';have HSM:=Hd (Mp.fits_small HL2.1);(have e1:=zaR P C R A Q;rw [<- e1];clear e1;have HW0:=Hd (fun o r s a=>zQ (zh _) (zN _) q0 Z4 P C R A Q o r s a);have HW1:=Hd (fun o r s a=>zQ (ze _) (zu HSM.out.rn) q1 Z4 P C R A Q o r s a);have HW2:=Hd (fun o r s a=>zQ (ze _) (zu HSM.out.wn) q2 Z4 P C R A Q o r s a);((have y0:=zb P;have y1:=zb C;have y2:=zb R;have y3:=zb A);have yq:=zb Q);clear P C R A Q q0 q1 q2;(try simp only []));(try dsimp only at HL2);clear HL;have HL:=Hd HL2;clear HL2))
  ((repeat (first|go_skip|go_guarded|go_step|go_upon|go_back));go_region;(all_goals (repeat (first|go_skip|go_guarded|go_step|go_upon|go_back)));(all_goals (obtain ⟨rfl,rfl⟩:=HL.out.end;refine bodyPost_ret (by simp [results,Tryz.results42,go_sem,y0,y1,y2,y3,yq,n0,n0',n1,n1',n2,n2',n3,n3'];rfl) rfl ?_;(exact ⟨_,rfl,⟨_,_,_,rfl,RdL.drew (HW0.out _ _ _ _),RdL.drew (HW1.out _ _ _ _),RdL.drew (HW2.out _ _ _ _)⟩,Below.drew (zdl B Z4 _ _ _ _ _)⟩))))
 ·have HL2:Hid (Lft (K.code (K.storePage proc ca tx)) m2 (res,mres)):=HL
  clear HL
  have HL:=HL2
  clear HL2
  unfold K.code at HL
  (repeat (first|go_skip|go_guarded|go_step|go_upon|go_back))
  (((go_at_call 74;refine (SC.use (zes _ (by omega) (by omega) _ (by omega) (by omega) _ (by omega)) (fun _=>True) (fun _ _=>trivial) (by first|exact HL.out|exact HL.out.last) (⟨_,_,_,rfl,HW0.out _ _ _ _,HW1.out _ _ _ _,HW2.out _ _ _ _⟩ : MRd _ _ _)).mono ?_));((rintro e w2 ⟨v2,x,m2,rfl,hx,hm,hb,HL2⟩);obtain ⟨b0,d0,b1,d1,b2,d2,rfl,q0,q1,q2⟩:=hm.form;obtain ⟨B',P,C,R,A,Q,Z'⟩:=zae B Z4 yq hb;clear hm hb HW0 HW1 HW2 B HSM y0 y1 y2 y3 yq Z';have B:=B';clear B';have HSM:=Hd (Mp.fits_small HL2.1);(have e1:=zaR P C R A Q;rw [<- e1];clear e1;have HW0:=Hd (fun o r s a=>zQ (zh _) (zN _) q0 Z4 P C R A Q o r s a);have HW1:=Hd (fun o r s a=>zQ (ze _) (zu HSM.out.rn) q1 Z4 P C R A Q o r s a);have HW2:=Hd (fun o r s a=>zQ (ze _) (zu HSM.out.wn) q2 Z4 P C R A Q o r s a);((have y0:=zb P;have y1:=zb C;have y2:=zb R;have y3:=zb A);have yq:=zb Q);clear P C R A Q q0 q1 q2;(try simp only []));clear HL;have HL:=Hd HL2;clear HL2))
  ((repeat (first|go_skip|go_guarded|go_step|go_upon|go_back));go_region;(all_goals (repeat (first|go_skip|go_guarded|go_step|go_upon|go_back)));(all_goals (obtain ⟨rfl,rfl⟩:=HL.out.end;refine bodyPost_ret (by simp [results,Tryz.results42,go_sem,y0,y1,y2,y3,yq,n0,n0',n1,n1',n2,n2',n3,n3'];rfl) rfl ?_;(exact ⟨_,rfl,⟨_,_,_,rfl,RdL.drew (HW0.out _ _ _ _),RdL.drew (HW1.out _ _ _ _),RdL.drew (HW2.out _ _ _ _)⟩,Below.drew (zdl B Z4 _ _ _ _ _)⟩))))
 ·have HL2:Hid (Lft (K.codeT (K.loadPage proc ca)) m2 (res,mres)):=HL
  clear HL
  have HL:=HL2
  clear HL2
  unfold K.codeT at HL
  (repeat (first|go_skip|go_guarded|go_step|go_upon|go_back))
  (((go_at_call 75;refine (zdb (zeR _ (by omega) (by omega) _ (by omega) (by omega)) (fun _=>True) (fun _ _=>trivial) (by first|exact HL.out|exact HL.out.last) (⟨_,_,_,rfl,HW0.out _ _ _ _,HW1.out _ _ _ _,HW2.out _ _ _ _⟩ : MRd _ _ _)).mono ?_));((rintro e w2 ⟨v2,x,y,m2,rfl,hx,hm,hb,HL2⟩);obtain ⟨b0,d0,b1,d1,b2,d2,rfl,q0,q1,q2⟩:=hm.form;obtain ⟨B',P,C,R,A,Q,Z'⟩:=zae B Z4 yq hb;clear hm hb HW0 HW1 HW2 B HSM y0 y1 y2 y3 yq Z';have B:=B';clear B';have HSM:=Hd (Mp.fits_small HL2.1);(have e1:=zaR P C R A Q;rw [<- e1];clear e1;have HW0:=Hd (fun o r s a=>zQ (zh _) (zN _) q0 Z4 P C R A Q o r s a);have HW1:=Hd (fun o r s a=>zQ (ze _) (zu HSM.out.rn) q1 Z4 P C R A Q o r s a);have HW2:=Hd (fun o r s a=>zQ (ze _) (zu HSM.out.wn) q2 Z4 P C R A Q o r s a);((have y0:=zb P;have y1:=zb C;have y2:=zb R;have y3:=zb A);have yq:=zb Q);clear P C R A Q q0 q1 q2;(try simp only []));(try dsimp only at HL2);clear HL;have HL:=Hd HL2;clear HL2))
  ((repeat (first|go_skip|go_guarded|go_step|go_upon|go_back));go_region;(all_goals (repeat (first|go_skip|go_guarded|go_step|go_upon|go_back)));(all_goals (obtain ⟨rfl,rfl⟩:=HL.out.end;refine bodyPost_ret (by simp [results,Tryz.results42,go_sem,y0,y1,y2,y3,yq,n0,n0',n1,n1',n2,n2',n3,n3'];rfl) rfl ?_;(exact ⟨_,rfl,⟨_,_,_,rfl,RdL.drew (HW0.out _ _ _ _),RdL.drew (HW1.out _ _ _ _),RdL.drew (HW2.out _ _ _ _)⟩,Below.drew (zdl B Z4 _ _ _ _ _)⟩))))
 ·have HL2:Hid (Lft (K.code (K.putOut tx)) m2 (res,mres)):=HL
  clear HL
  have HL:=HL2
  clear HL2
  unfold K.code at HL
  (repeat (first|go_skip|go_guarded|go_step|go_upon|go_back))
  (((go_at_call 76;refine (SC.use (zfS _ (by omega)) (fun _=>True) (fun _ _=>trivial) (by first|exact HL.out|exact HL.out.last) (⟨_,_,_,rfl,HW0.out _ _ _ _,HW1.out _ _ _ _,HW2.out _ _ _ _⟩ : MRd _ _ _)).mono ?_));((rintro e w2 ⟨v2,x,m2,rfl,hx,hm,hb,HL2⟩);obtain ⟨b0,d0,b1,d1,b2,d2,rfl,q0,q1,q2⟩:=hm.form;obtain ⟨B',P,C,R,A,Q,Z'⟩:=zae B Z4 yq hb;clear hm hb HW0 HW1 HW2 B HSM y0 y1 y2 y3 yq Z';have B:=B';clear B';have HSM:=Hd (Mp.fits_small HL2.1);(have e1:=zaR P C R A Q;rw [<- e1];clear e1;have HW0:=Hd (fun o r s a=>zQ (zh _) (zN _) q0 Z4 P C R A Q o r s a);have HW1:=Hd (fun o r s a=>zQ (ze _) (zu HSM.out.rn) q1 Z4 P C R A Q o r s a);have HW2:=Hd (fun o r s a=>zQ (ze _) (zu HSM.out.wn) q2 Z4 P C R A Q o r s a);((have y0:=zb P;have y1:=zb C;have y2:=zb R;have y3:=zb A);have yq:=zb Q);clear P C R A Q q0 q1 q2;(try simp only []));clear HL;have HL:=Hd HL2;clear HL2))
  ((repeat (first|go_skip|go_guarded|go_step|go_upon|go_back));go_region;(all_goals (repeat (first|go_skip|go_guarded|go_step|go_upon|go_back)));(all_goals (obtain ⟨rfl,rfl⟩:=HL.out.end;refine bodyPost_ret (by simp [results,Tryz.results42,go_sem,y0,y1,y2,y3,yq,n0,n0',n1,n1',n2,n2',n3,n3'];rfl) rfl ?_;(exact ⟨_,rfl,⟨_,_,_,rfl,RdL.drew (HW0.out _ _ _ _),RdL.drew (HW1.out _ _ _ _),RdL.drew (HW2.out _ _ _ _)⟩,Below.drew (zdl B Z4 _ _ _ _ _)⟩))))
theorem zfp (v:Value) (cs:List CellD) (w:World) (h:RdL zE w v cs) (hl:cs.length<=549755813888) :
  Calls Tryz.prog 41 #[v] w fun e w'=>∃ v',e=.returned (.agg #[v',.slice none 0 0,.slice none 0 0])/\OwnL zE 145 w' w.heap.size v' cs/\Below w.heap.size w w':=by
 have HA:=Hd h
 obtain ⟨aa,ca,rfl⟩:=h.form
 clear h
 go_enter Tryz.func41,Tryz.ntmps41
 go_wp2_with (at_builtin;refine zP ?_)
 have ho:=OwnL.empty zE 145 (w.alloc (.cells #[.slice none 0 0,.slice none 0 0,.slice none 0 0] 76))
 rw [show (w.alloc (.cells #[.slice none 0 0,.slice none 0 0,.slice none 0 0] 76)).heap.size=w.heap.size+1 by simp] at ho
 refine zR rfl _ _ _ rfl zan (B:=w.heap.size+1) (v:=.slice (some ⟨w.heap.size+1,0,none⟩) 0 0) (xs:=[]) (R:=zE) ho rfl (ys:=cs) ((HA.out.alloc _).alloc _) rfl (by simp only [List.length_nil];omega) (by simp only [List.length_nil];unfold maxLen;omega) (by simp) ?_
 intro v4 w4 hown4 hgr4 _
 have hb4:Below w.heap.size w w4:=Below.appL (R:=zE) (e:=145) (v:=.slice (some ⟨w.heap.size+1,0,none⟩) 0 0) (xs:=[]) (by repeat (first|with_reducible exact Below.refl _ _|with_reducible apply Below.ofExt|with_reducible apply Below.ofAlloc|with_reducible apply Below.drew|with_reducible apply Below.ofDrewN|with_reducible assumption|(with_reducible refine Below.setCell ?_ (by first|exact Nat.le_refl _|(simp [go_sem];done)|(simp [go_sem];omega)) _))) hgr4 (OwnL.base ho (by omega))
 have hp:w4.heap[w.heap.size]?=some (.cells #[.slice none 0 0,.slice none 0 0,.slice none 0 0] 76):=by
  refine (hgr4.block _ (by simp;omega) (by simp [Value.ownBlock])).trans ?_
  exact (heap_alloc_old _ _ (by simp)).trans (heap_alloc_new w _)
 have hz:=zb hp
 have HO:=Hd hown4
 obtain ⟨a4,c4,rfl⟩:=hown4.rd.form
 have e1:=zi hp
 rw [<- e1]
 clear hgr4 e1 hp ho hown4
 rw [List.nil_append] at HO ⊢
 (try simp only []);repeat (first|go_skip|go_guarded|go_step|go_upon|go_back)
 refine bodyPost_ret (by simp [results,Tryz.results41,go_sem,hz];rfl) rfl ?_
 exact ⟨_,rfl,(OwnL.base HO.out (by omega)).setB (fun e=>by have:=(HO.out.lt _ e).1;omega) _,zp hb4 (Nat.le_refl _) _⟩
end Go.Proofs.YtncnbihlngapbaaGreat
namespace Go
open Go.RowKit
section
variable {P:Program} {Q:Exit->Act->World->Prop}
def zii (l:Array Bool):Nat:=(l.toList.filter (fun b=>!b)).length
theorem zgd:∀ (l:List Bool) (i:Nat),l[i]?=some false->((l.set i true).filter (fun b=>!b)).length+1=(l.filter (fun b=>!b)).length
 | [],i,h=>by simp at h
 | b :: l,0,h=>by
  simp at h
  subst h
  simp
 | b :: l,i+1,h=>by
  have ih:=zgd l i (by simpa using h)
  cases b<;>simp at ih ⊢<;>omega
theorem zfA:∀ (l:List Bool),(l.filter (fun b=>!b)).length=0->∀ i:Nat,l[i]? ≠ some false
 | [],_,i=>by simp
 | b :: l,h,0=>by
  cases b
  ·simp at h
  ·simp
 | b :: l,h,i+1=>by
  have h2:(l.filter (fun b=>!b)).length=0:=by cases b<;>simp at h ⊢<;>exact h
  simpa using zfA l h2 i
theorem zgO {ops:Array Oper} (I:Array Bool->Act->World->Prop)
  (hstep:∀ l a w i,I l a w->i ∈ Region.ready .any ops l->wpOp P ops Q i (fun a' w'=>I (l.setIfInBounds i true) a' w') a w)
  (hend:∀ l a w,I l a w->Region.ready .any ops l = []->Q .normal a w) :
  ∀ (fuel:Nat) (l:Array Bool) (a:Act) (w:World),l.size=ops.size->zii l<=fuel->I l a w->wpAny P .any ops Q fuel l a w
 | 0,l,a,w,hs,hf,h=>by
  have h0:Region.ready .any ops l = []:=by
   rw [List.eq_nil_iff_forall_not_mem]
   intro i hi
   obtain ⟨hu,o,ho,_⟩:=mem_ready.1 hi
   have hlt:i<ops.size:=(Array.getElem?_eq_some_iff.1 ho).1
   have h1:=zfA l.toList (Nat.le_zero.1 hf) i
   apply h1
   rw [Array.getElem?_toList,Array.getElem?_eq_getElem (by omega)]
   rw [Array.getD_eq_getD_getElem?,Array.getElem?_eq_getElem (by omega)] at hu
   simpa using hu
  exact ⟨h0,hend l a w h h0⟩
 | fuel+1,l,a,w,hs,hf,h=>by
  refine ⟨hend l a w h,fun i hi=>?_⟩
  obtain ⟨hu,o,ho,_⟩:=mem_ready.1 hi
  have hlt:i<ops.size:=(Array.getElem?_eq_some_iff.1 ho).1
  have hg:l.toList[i]?=some false:=by
   rw [Array.getElem?_toList,Array.getElem?_eq_getElem (by omega)]
   rw [Array.getD_eq_getD_getElem?,Array.getElem?_eq_getElem (by omega)] at hu
   simpa using hu
  have h2:=zgd l.toList i hg
  refine wpOp_mono (fun a' w' h'=>zgO I hstep hend fuel _ a' w' (by rw [Array.size_setIfInBounds];exact hs) ?_ h') (hstep l a w i h hi)
  unfold zii at hf ⊢
  rw [Array.toList_setIfInBounds]
  omega
theorem zhS (n:Nat):zii (Array.replicate n false)<=n:=by
 unfold zii
 refine Nat.le_trans (List.length_filter_le _ _) ?_
 simp
theorem zaF {id:Nat} {l:List Oper} {a:Act} {w:World} (I:Array Bool->Act->World->Prop) (hm:P.follows .mixedOrders=true)
  (h0:I (Array.replicate l.toArray.size false) a w.drew)
  (hstep:∀ L a w i,I L a w->i ∈ Region.ready .any l.toArray L->wpOp P l.toArray (zeq Q) i (fun a' w'=>I (L.setIfInBounds i true) a' w') a w)
  (hend:∀ L a w,I L a w->Region.ready .any l.toArray L = []->Q .normal a w):(Code.region id l.toArray true).wp P Q a w:=by
 have h1:(Code.region id l.toArray true).wp P (zeq Q) a w:=by
  refine wp_region_any hm ?_
  exact zgO I hstep hend _ _ _ _ (by simp) (zhS _) h0
 exact Code.wp_mono (fun e a w h=>by cases e<;>first|exact h|exact h.elim) h1
theorem zz {ops:Array Oper} {i:Nat} {o:Oper} {K:Act->World->Prop} {a:Act} {w:World} (ho:ops[i]?=some o)
  (h:∀ K':Act->World->Prop,(∀ a w,K a w->K' a w)->if Region.wanted o (yielded ops a.tmps) then o.wp P a w K' Q else K' (a.put o.dst undef) w):wpOp P ops Q i K a w:=by
 unfold wpOp
 rw [ho]
 dsimp only
 have h1:=h K (fun _ _ h=>h)
 split at h1
 ·rename_i hw
  rw [if_pos hw]
  exact .inl h1
 ·rename_i hw
  rw [if_neg hw]
  exact h1
end
end Go
namespace Go
def zbL (ops:Array Oper) (i j:Nat):Bool:=match ops[i]? with
 | some o=>o.after.any fun e=>Region.binds .any e && e.on==j
 | none=>false
theorem za1 {ops:Array Oper} {L:Array Bool} {i j:Nat} (hi:i ∈ Region.ready .any ops L) (h:zbL ops i j=true):L.getD j false=true:=by
 obtain ⟨hu,o,ho,hall⟩:=mem_ready.1 hi
 unfold zbL at h
 rw [ho] at h
 dsimp only at h
 rw [Array.any_eq_true] at h
 obtain ⟨k,hk,he⟩:=h
 simp only [Bool.and_eq_true,beq_iff_eq] at he
 rw [<- he.2]
 exact hall _ (Array.getElem_mem hk) he.1
theorem zbN {ops:Array Oper} {L:Array Bool} {i:Nat} (hi:i ∈ Region.ready .any ops L):i<ops.size:=by
 obtain ⟨hu,o,ho,_⟩:=mem_ready.1 hi
 exact (Array.getElem?_eq_some_iff.1 ho).1
theorem zbM {ops:Array Oper} {L:Array Bool} {i:Nat} (hi:i ∈ Region.ready .any ops L):L.getD i false=false:=by
 obtain ⟨hu,o,ho,_⟩:=mem_ready.1 hi
 rw [Array.getD_eq_getD_getElem?] at hu ⊢
 cases h:L[i]? with
 | none=>rfl
 | some b=>rw [h] at hu;exact hu
theorem zj {L:Array Bool} {i j:Nat} (h:i ≠ j):(L.setIfInBounds i true).getD j false=L.getD j false:=by
 rw [Array.getD_eq_getD_getElem?,Array.getD_eq_getD_getElem?,Array.getElem?_setIfInBounds,if_neg h]
theorem zaN {L:Array Bool} {i:Nat} (h:i<L.size):(L.setIfInBounds i true).getD i false=true:=by
 rw [Array.getD_eq_getD_getElem?,Array.getElem?_setIfInBounds,if_pos rfl,if_pos h]
 rfl
theorem zc3 (n j:Nat):¬ (Array.replicate n false).getD j false=true:=by
 rw [Array.getD_eq_getD_getElem?,Array.getElem?_replicate]
 split<;>simp
theorem za9 {ops:Array Oper} {L:Array Bool} (hs:L.size=ops.size) (h:Region.ready .any ops L = []) (hord:∀ i o,ops[i]?=some o->∀ e ∈ o.after,Region.binds .any e=true->e.on<i):∀ i,i<ops.size->L.getD i false=true:=by
 intro i
 induction i using Nat.strongRecOn with
 | _ i ih =>
  intro hi
  cases hu:L.getD i false with
  | true=>rfl
  | false =>
   exfalso
   have:i ∈ Region.ready .any ops L:=mem_ready.2 ⟨by
    rw [Array.getD_eq_getD_getElem?,Array.getElem?_eq_getElem (by omega)] at hu ⊢
    exact hu,ops[i],Array.getElem?_eq_getElem hi,fun e he hb=>ih e.on (hord i _ (Array.getElem?_eq_getElem hi) e he hb) (by have:=hord i _ (Array.getElem?_eq_getElem hi) e he hb;omega)⟩
   rw [h] at this
   cases this
def backOnly (ops:Array Oper):Bool:=(List.range ops.size).all fun i=>match ops[i]? with
 | some o=>o.after.all fun e=>!Region.binds .any e || decide (e.on<i)
 | none=>true
theorem zaA {ops:Array Oper} (h:backOnly ops=true):∀ i o,ops[i]?=some o->∀ e ∈ o.after,Region.binds .any e=true->e.on<i:=by
 intro i o ho e he hb
 have hlt:i<ops.size:=(Array.getElem?_eq_some_iff.1 ho).1
 have h1:=List.all_eq_true.1 h i (List.mem_range.2 hlt)
 rw [ho] at h1
 dsimp only at h1
 rw [Array.all_eq_true_iff_forall_mem] at h1
 have h2:=h1 e he
 simp only [Bool.or_eq_true,Bool.not_eq_true',decide_eq_true_eq] at h2
 rcases h2 with h2|h2
 ·rw [hb] at h2;cases h2
 ·exact h2
end Go
