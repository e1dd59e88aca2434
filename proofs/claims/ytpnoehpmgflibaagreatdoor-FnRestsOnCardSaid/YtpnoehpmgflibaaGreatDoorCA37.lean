/- Texts of this claim, merged: the walks and what they stand on. Each condition stands in its theorem. -/
import Derived.Test.YtpnoehpmgflibaaGreatDoorCA23
import Derived.Test.YtpnoehpmgflibaaGreatDoorCA36
set_option linter.unusedVariables false
set_option linter.unusedSimpArgs false
set_option maxRecDepth 100000
set_option maxHeartbeats 8000000
namespace Go.Proofs.YtpnoehpmgflibaaGreatDoor
open Go.ChangeShapes Go.WideShapes Go.ChangeAt Go.RowKit
theorem zj5 (c:CallD) (hc:c.ok) (w:World):Calls Tryz.prog 68 #[zaM c] w fun e w'=>e=.returned (.bool (K.callOk c))/\Below w.heap.size w w':=by
 obtain ⟨kd,nm,to,a,b,tx⟩:=c
 obtain ⟨z1,z2,z3⟩:=hc
 dsimp only at z1 z2 z3
 unfold zaM
 dsimp only
 have HK:Hid (K.callOk ⟨kd,nm,to,a,b,tx⟩=((inB kd 1 22 && decide (nm.size<=20)) && (decide (to.size<=20) && decide (tx.size<=64)))):=by show _ = _;rfl
 by_cases h1 : 1<=kd/\kd<=22
 case neg =>
  have HI:=Hd (zbb h1)
  go_enter Tryz.func68,Tryz.ntmps68
  (repeat (first|go_skip|go_guarded|go_step|go_upon|go_back))
  (go_at_call 140;refine (zag _ _ _ _).mono ?_;rintro e1 w1 ⟨rfl,rfl⟩)
  rw [HI.out]
  ((try simp only []);repeat (first|go_skip|go_guarded|go_step|go_upon|go_back))
  go_ret
  exact ⟨by rw [HK.out,HI.out];rfl,(by repeat (first|with_reducible exact Below.refl _ _|with_reducible apply Below.ofAlloc))⟩
 case pos =>
  have HI:=Hd (zaP h1)
  by_cases h2:(nm.size:Int)<=20
  case neg =>
   have h2':¬ nm.size<=20:=by omega
   have HD:=Hd (decide_eq_false h2')
   clear h2'
   go_enter Tryz.func68,Tryz.ntmps68
   (repeat (first|go_skip|go_guarded|go_step|go_upon|go_back))
   (go_at_call 140;refine (zag _ _ _ _).mono ?_;rintro e1 w1 ⟨rfl,rfl⟩)
   rw [HI.out]
   ((try simp only []);repeat (first|go_skip|go_guarded|go_step|go_upon|go_back))
   go_ret
   exact ⟨by rw [HK.out,HI.out,HD.out];rfl,(by repeat (first|with_reducible exact Below.refl _ _|with_reducible apply Below.ofAlloc))⟩
  case pos =>
   have h2':nm.size<=20:=by omega
   have HD:=Hd (decide_eq_true h2')
   clear h2'
   by_cases h3:(to.size:Int)<=20
   case neg =>
    have h3':¬ to.size<=20:=by omega
    have HD3:=Hd (decide_eq_false h3')
    clear h3'
    go_enter Tryz.func68,Tryz.ntmps68
    (repeat (first|go_skip|go_guarded|go_step|go_upon|go_back))
    (go_at_call 140;refine (zag _ _ _ _).mono ?_;rintro e1 w1 ⟨rfl,rfl⟩)
    rw [HI.out]
    ((try simp only []);repeat (first|go_skip|go_guarded|go_step|go_upon|go_back))
    go_ret
    exact ⟨by rw [HK.out,HI.out,HD.out,HD3.out];rfl,(by repeat (first|with_reducible exact Below.refl _ _|with_reducible apply Below.ofAlloc))⟩
   case pos =>
    have h3':to.size<=20:=by omega
    have HD3:=Hd (decide_eq_true h3')
    clear h3'
    by_cases h4:(tx.size:Int)<=64
    case neg =>
     have h4':¬ tx.size<=64:=by omega
     have HD4:=Hd (decide_eq_false h4')
     clear h4'
     go_enter Tryz.func68,Tryz.ntmps68
     (repeat (first|go_skip|go_guarded|go_step|go_upon|go_back))
     (go_at_call 140;refine (zag _ _ _ _).mono ?_;rintro e1 w1 ⟨rfl,rfl⟩)
     rw [HI.out]
     ((try simp only []);repeat (first|go_skip|go_guarded|go_step|go_upon|go_back))
     go_ret
     exact ⟨by rw [HK.out,HI.out,HD.out,HD3.out,HD4.out];rfl,(by repeat (first|with_reducible exact Below.refl _ _|with_reducible apply Below.ofAlloc))⟩
    case pos =>
     have h4':tx.size<=64:=by omega
     have HD4:=Hd (decide_eq_true h4')
     clear h4'
     go_enter Tryz.func68,Tryz.ntmps68
     (repeat (first|go_skip|go_guarded|go_step|go_upon|go_back))
     (go_at_call 140;refine (zag _ _ _ _).mono ?_;rintro e1 w1 ⟨rfl,rfl⟩)
     rw [HI.out]
     ((try simp only []);repeat (first|go_skip|go_guarded|go_step|go_upon|go_back))
     go_ret
     exact ⟨by rw [HK.out,HI.out,HD.out,HD3.out,HD4.out];rfl,(by repeat (first|with_reducible exact Below.refl _ _|with_reducible apply Below.ofAlloc))⟩
theorem zjs {kd:Int} {nm tn tx:ByteArray} {ca cb:Int} (h:K.callOk ⟨kd,nm,tn,ca,cb,tx⟩=true):(1<=kd/\kd<=22)/\nm.size<=20/\tn.size<=20/\tx.size<=64:=by
 unfold K.callOk inB at h
 simp at h
 omega
theorem KL.set1 {α : Type} {R:RowOf α} {e:TypeId} {w:World} {B:Nat} {fp:List Nat} {v:Value} {ks:List α} (h:KL R e w B fp v ks) {q:Nat} (hq:q<B) (o:Obj):KL R e (w.setB q o) B fp v ks:=⟨h.1.setB (fun hk=>by have:=(h.1.lt _ hk).1;omega) o,h.2⟩
theorem KL.atI {w:World} {B:Nat} {fp:List Nat} {ao:Option Addr} {cap:Nat} {ks:List Int} (h:KL zep 3 w B fp (.slice ao ks.length cap) ks) {n:Nat} (hn:n<ks.length):∃ b off,ao=some ⟨b,off,none⟩/\b<w.heap.size/\w.cell? ⟨b,off+n,none⟩=some (.int .i64 ks[n]):=by
 have hne:ks ≠ []:=by intro e;rw [e] at hn;cases hn
 obtain ⟨ao',cap',e0,_,_,_,h4⟩:=h.1.rd.shape
 obtain ⟨b,off,e,hb,hc⟩:=h4 hne
 cases e0
 have hc1:=hc n hn 0 (.int .i64 ks[n]) rfl
 have hk1:zep.k=1:=rfl
 rw [hk1,Nat.mul_one,Nat.add_zero] at hc1
 exact ⟨b,off,e,hb (by decide),hc1⟩
theorem zae {w2:World} {fp:List Nat} {q:Nat} {v0 v1 v2 v3 v4 v5:Value} {t:TypeId} {R A:Obj} (HC:BX w2 fp q (.cells #[v0,v1,v2,v3,v4,v5] t (0,0))) (HR:BX w2 fp (q+1) R) (HA:BX w2 fp (q+1+1) A) :
  q<w2.heap.size/\q+1<w2.heap.size/\q+1+1<w2.heap.size/\(∀ o o',((w2.setB (q+1) o).setB (q+1+1) o').cell? ⟨q,0,none⟩=some v0)/\(∀ o o',((w2.setB (q+1) o).setB (q+1+1) o').cell? ⟨q,1,none⟩=some v1)/\(∀ o o',((w2.setB (q+1) o).setB (q+1+1) o').cell? ⟨q,2,none⟩=some v2) /\
   (∀ o o',((w2.setB (q+1) o).setB (q+1+1) o').cell? ⟨q,3,none⟩=some v3)/\(∀ o o',((w2.setB (q+1) o).setB (q+1+1) o').cell? ⟨q,4,none⟩=some v4)/\(∀ o o',((w2.setB (q+1) o).setB (q+1+1) o').cell? ⟨q,5,none⟩=some v5)/\(w2.setB (q+1) R).setB (q+1+1) A=w2:=by
 have h:∀ o o',((w2.setB (q+1) o).setB (q+1+1) o').heap[q]?=some (.cells #[v0,v1,v2,v3,v4,v5] t (0,0)):=fun o o'=>((HC.set1 (by omega) o).set1 (by omega) o').1
 exact ⟨za HC.1,za HR.1,za HA.1,fun o o'=>(zb (i:=0) (h o o')).trans rfl,fun o o'=>(zb (i:=1) (h o o')).trans rfl,fun o o'=>(zb (i:=2) (h o o')).trans rfl,fun o o'=>(zb (i:=3) (h o o')).trans rfl,fun o o'=>(zb (i:=4) (h o o')).trans rfl,fun o o'=>(zb (i:=5) (h o o')).trans rfl,by rw [ze HR.1,ze HA.1]⟩
set_option maxHeartbeats 40000000 in
theorem impl_do (proc:Int) (hp0 : -9223372036854775808<=proc) (hp1:proc<=9223372036854775807) (c:CallD) (hc:c.ok) (ha0 : -9223372036854775808<=c.a) (ha1:c.a<=9223372036854775807) (hb0 : -9223372036854775808<=c.b) (hb1:c.b<=9223372036854775807):IC 32 (fun x=>#[x,.int .i64 proc,zaM c]) (K.doCall proc c) (fun a=>zdc a):=by
 obtain ⟨kd,nm,tn,ca,cb,tx⟩:=c
 dsimp only at ha0 ha1 hb0 hb1
 have D:Hid (∀ w,Calls Tryz.prog 68 #[.agg #[.int .i64 kd,.string nm,.string tn,.int .i64 ca,.int .i64 cb,.string tx]] w fun e w'=>e=.returned (.bool (K.callOk ⟨kd,nm,tn,ca,cb,tx⟩))/\Below w.heap.size w w'):=fun w=>zj5 _ hc w
 clear hc
 refine zdT (fun w0 w fp mb m res mres HM HT HL=>?_)
 have HB0:=Hd HM.out.bel.size
 unfold K.doCall at HL
 unfold zaM
 dsimp only at HL ⊢
 go_enter Tryz.func32,Tryz.ntmps32
 (repeat (first|go_skip|go_guarded|go_step|go_upon|go_back))
 refine zl1 (fun W=>IM w0 W mb fp m/\IT w fp W fp/\BX W fp w.heap.size (.cells #[.int .i64 kd,.string nm,.string tn,.int .i64 ca,.int .i64 cb,.string tx] 26 (0,0))/\BX W fp (w.heap.size+1) (.cells #[.int .i64 0,.int .i64 0,.string ⟨#[]⟩] 30 (0,0))/\BX W fp (w.heap.size+1+1) (.cells #[.int .i64 0,.int .i64 0,.string ⟨#[]⟩] 30 (0,0))) ?_ ?_
 ·have h3:=zkH w (.cells #[.int .i64 kd,.string nm,.string tn,.int .i64 ca,.int .i64 cb,.string tx] 26 (0,0)) (.cells #[.int .i64 0,.int .i64 0,.string ⟨#[]⟩] 30 (0,0)) (.cells #[.int .i64 0,.int .i64 0,.string ⟨#[]⟩] 30 (0,0)) w.heap.size rfl
  exact ⟨HM.out.below (by repeat (first|with_reducible exact Below.refl _ _|with_reducible apply Below.ofAlloc)),HT.out.trans (IT.below (by repeat (first|with_reducible exact Below.refl _ _|with_reducible apply Below.ofAlloc))),⟨h3.1,fun hx=>absurd (HM.out.hi _ hx) (by omega)⟩,⟨h3.2.1,fun hx=>absurd (HM.out.hi _ hx) (by omega)⟩,⟨h3.2.2,fun hx=>absurd (HM.out.hi _ hx) (by omega)⟩⟩
 clear HM HT
 rintro W ⟨hm,ht,hc,hr,ha⟩
 have HM:=Hd hm
 have HT:=Hd ht
 have HC:=Hd hc
 have HR:=Hd hr
 have HA:=Hd ha
 clear hm ht hc hr ha
 (go_at_call 67;refine (IC.use (zdI _ (by omega) (by omega)) (fun a=>0<=a/\a<=999) (fun m _=>zac _ m) HL.out HM.out).mono ?_;rintro e w2 ⟨x,m2,fp2,rfl,hx,hm,ht,HL2⟩;(have HM':=Hd hm;have HT':=Hd (HT.out.trans ht);(try (have HK':=Hd (HK.out.step ht);clear HK;have HK:=HK';clear HK'));(try (have HO':=Hd (HO.out.step ht);clear HO;have HO:=HO';clear HO'));(try (have HC':=Hd (HC.out.step ht);clear HC;have HC:=HC';clear HC'));(try (have HR':=Hd (HR.out.step ht);clear HR;have HR:=HR';clear HR'));(try (have HA':=Hd (HA.out.step ht);clear HA;have HA:=HA';clear HA'));clear HM HT hm ht;have HM:=HM';have HT:=HT';clear HM' HT';(try dsimp only at HL2);clear HL;have HL:=Hd HL2;clear HL2;(try simp only [])))
 rcases HL.out.ite with ⟨hgx,HL2⟩|⟨hgx,HL2⟩<;>(clear HL;have HL:=Hd HL2;clear HL2)
 ·(obtain ⟨y0,y1,y2,p0,p1,p2,p3,p4,p5,e2⟩:=zae HC.out HR.out HA.out;rw [<- e2];clear e2)
  ((repeat (first|go_skip|go_guarded|go_step|go_upon|go_back));obtain ⟨rfl,rfl⟩:=HL.out.end;refine bodyPost_ret (by simp [results,Tryz.results32,go_sem,y1,y2];rfl) rfl ?_;exact ⟨rfl,_,(HM.out.set1 HR.out.2 (by have:=HB0.out;omega) _).set1 HA.out.2 (by have:=HB0.out;omega) _,(HT.out.set1 (by omega) _).set1 (by omega) _⟩)
 have hx1:=Decidable.not_not.1 hgx
 subst hx1
 clear hgx hx
 (obtain ⟨y0,y1,y2,p0,p1,p2,p3,p4,p5,e2⟩:=zae HC.out HR.out HA.out;rw [<- e2];clear e2)
 (repeat (first|go_skip|go_guarded|go_step|go_upon|go_back))
 (rw [ze HR.out.1,ze HA.out.1];clear p0 p1 p2 p3 p4 p5 y0 y1 y2)
 (go_at_call 68;refine (D.out _).mono ?_;rintro e w2 ⟨rfl,hb⟩)
 (have HM':=Hd (HM.out.below hb);have HT':=Hd (HT.out.trans (IT.below hb));(try (have HK':=Hd (HK.out.below hb);clear HK;have HK:=HK';clear HK'));(try (have HO':=Hd (HO.out.below hb);clear HO;have HO:=HO';clear HO'));(try (have HC':=Hd (HC.out.below hb);clear HC;have HC:=HC';clear HC'));(try (have HR':=Hd (HR.out.below hb);clear HR;have HR:=HR';clear HR'));(try (have HA':=Hd (HA.out.below hb);clear HA;have HA:=HA';clear HA'));clear HM HT hb;have HM:=HM';have HT:=HT';clear HM' HT';(try simp only []))
 rcases HL.out.ite with ⟨hcb,HL2⟩|⟨hcb,HL2⟩<;>(clear HL;have HL:=Hd HL2;clear HL2)
 ·rw [hcb]
  clear hcb D
  (obtain ⟨y0,y1,y2,p0,p1,p2,p3,p4,p5,e2⟩:=zae HC.out HR.out HA.out;rw [<- e2];clear e2)
  ((repeat (first|go_skip|go_guarded|go_step|go_upon|go_back));obtain ⟨rfl,rfl⟩:=HL.out.end;refine bodyPost_ret (by simp [results,Tryz.results32,go_sem,y1,y2];rfl) rfl ?_;exact ⟨rfl,_,(HM.out.set1 HR.out.2 (by have:=HB0.out;omega) _).set1 HA.out.2 (by have:=HB0.out;omega) _,(HT.out.set1 (by omega) _).set1 (by omega) _⟩)
 have hcb2:K.callOk ⟨kd,nm,tn,ca,cb,tx⟩=true:=by simpa using hcb
 rw [hcb2]
 obtain ⟨hkd,hnz,htz0,htz⟩:=zjs hcb2
 clear hcb hcb2 D
 have hk:kd=1 ∨ kd=2 ∨ kd=3 ∨ kd=4 ∨ kd=5 ∨ kd=6 ∨ kd=7 ∨ kd=8 ∨ kd=9 ∨ kd=10 ∨ kd=11 ∨ kd=12 ∨ kd=13 ∨ kd=14 ∨ kd=15 ∨ kd=16 ∨ kd=17 ∨ kd=18 ∨ kd=19 ∨ kd=20 ∨ kd=21 ∨ kd=22:=by omega
 clear hkd
 rcases hk with rfl|rfl|rfl|rfl|rfl|rfl|rfl|rfl|rfl|rfl|rfl|rfl|rfl|rfl|rfl|rfl|rfl|rfl|rfl|rfl|rfl|rfl
 ·have HL2:Hid (Lft (K.codeN (K.makeName nm)) m2 (res,mres)):=HL
  clear HL
  have HL:=HL2
  clear HL2
  unfold K.codeN at HL
  (obtain ⟨y0,y1,y2,p0,p1,p2,p3,p4,p5,e2⟩:=zae HC.out HR.out HA.out;rw [<- e2];clear e2)
  (repeat (first|go_skip|go_guarded|go_step|go_upon|go_back))
  (rw [ze HR.out.1,ze HA.out.1];clear p0 p1 p2 p3 p4 p5 y0 y1 y2)
  (((((go_at_call 69;refine (IC.use2 (zih _ (by omega)) (fun _=>True) (fun _ _=>trivial) (by first|exact HL.out|exact HL.out.last) HM.out).mono ?_));(rintro e w2 ⟨x,y,m2,fp2,rfl,hx,hm,ht,HL2⟩);(have HM':=Hd hm;have HT':=Hd (HT.out.trans ht);(try (have HC':=Hd (HC.out.step ht);clear HC;have HC:=HC';clear HC'));(try (have HR':=Hd (HR.out.step ht);clear HR;have HR:=HR';clear HR'));(try (have HA':=Hd (HA.out.step ht);clear HA;have HA:=HA';clear HA'));clear HM HT hm ht;have HM:=HM';have HT:=HT';clear HM' HT';(try dsimp only at HL2);clear HL;have HL:=Hd HL2;clear HL2;(try simp only [])))))
  (obtain ⟨y0,y1,y2,p0,p1,p2,p3,p4,p5,e2⟩:=zae HC.out HR.out HA.out;rw [<- e2];clear e2)
  ((repeat (first|go_skip|go_guarded|go_step|go_upon|go_back));obtain ⟨rfl,rfl⟩:=HL.out.end;refine bodyPost_ret (by simp [results,Tryz.results32,go_sem,y1,y2];rfl) rfl ?_;exact ⟨rfl,_,(HM.out.set1 HR.out.2 (by have:=HB0.out;omega) _).set1 HA.out.2 (by have:=HB0.out;omega) _,(HT.out.set1 (by omega) _).set1 (by omega) _⟩)
 ·have HL2:Hid (Lft (K.code (K.linkName nm tn)) m2 (res,mres)):=HL
  clear HL
  have HL:=HL2
  clear HL2
  unfold K.code at HL
  (obtain ⟨y0,y1,y2,p0,p1,p2,p3,p4,p5,e2⟩:=zae HC.out HR.out HA.out;rw [<- e2];clear e2)
  (repeat (first|go_skip|go_guarded|go_step|go_upon|go_back))
  (rw [ze HR.out.1,ze HA.out.1];clear p0 p1 p2 p3 p4 p5 y0 y1 y2)
  (((((go_at_call 70;refine (IC.use (zij _ (by omega) _ (by omega)) (fun _=>True) (fun _ _=>trivial) (by first|exact HL.out|exact HL.out.last) HM.out).mono ?_));(rintro e w2 ⟨x,m2,fp2,rfl,hx,hm,ht,HL2⟩);(have HM':=Hd hm;have HT':=Hd (HT.out.trans ht);(try (have HC':=Hd (HC.out.step ht);clear HC;have HC:=HC';clear HC'));(try (have HR':=Hd (HR.out.step ht);clear HR;have HR:=HR';clear HR'));(try (have HA':=Hd (HA.out.step ht);clear HA;have HA:=HA';clear HA'));clear HM HT hm ht;have HM:=HM';have HT:=HT';clear HM' HT';clear HL;have HL:=Hd HL2;clear HL2;(try simp only [])))))
  (obtain ⟨y0,y1,y2,p0,p1,p2,p3,p4,p5,e2⟩:=zae HC.out HR.out HA.out;rw [<- e2];clear e2)
  ((repeat (first|go_skip|go_guarded|go_step|go_upon|go_back));obtain ⟨rfl,rfl⟩:=HL.out.end;refine bodyPost_ret (by simp [results,Tryz.results32,go_sem,y1,y2];rfl) rfl ?_;exact ⟨rfl,_,(HM.out.set1 HR.out.2 (by have:=HB0.out;omega) _).set1 HA.out.2 (by have:=HB0.out;omega) _,(HT.out.set1 (by omega) _).set1 (by omega) _⟩)
 ·have HL2:Hid (Lft (K.code (K.unlinkName nm)) m2 (res,mres)):=HL
  clear HL
  have HL:=HL2
  clear HL2
  unfold K.code at HL
  (obtain ⟨y0,y1,y2,p0,p1,p2,p3,p4,p5,e2⟩:=zae HC.out HR.out HA.out;rw [<- e2];clear e2)
  (repeat (first|go_skip|go_guarded|go_step|go_upon|go_back))
  (rw [ze HR.out.1,ze HA.out.1];clear p0 p1 p2 p3 p4 p5 y0 y1 y2)
  (((((go_at_call 71;refine (IC.use (zdr _ (by omega)) (fun _=>True) (fun _ _=>trivial) (by first|exact HL.out|exact HL.out.last) HM.out).mono ?_));(rintro e w2 ⟨x,m2,fp2,rfl,hx,hm,ht,HL2⟩);(have HM':=Hd hm;have HT':=Hd (HT.out.trans ht);(try (have HC':=Hd (HC.out.step ht);clear HC;have HC:=HC';clear HC'));(try (have HR':=Hd (HR.out.step ht);clear HR;have HR:=HR';clear HR'));(try (have HA':=Hd (HA.out.step ht);clear HA;have HA:=HA';clear HA'));clear HM HT hm ht;have HM:=HM';have HT:=HT';clear HM' HT';clear HL;have HL:=Hd HL2;clear HL2;(try simp only [])))))
  (obtain ⟨y0,y1,y2,p0,p1,p2,p3,p4,p5,e2⟩:=zae HC.out HR.out HA.out;rw [<- e2];clear e2)
  ((repeat (first|go_skip|go_guarded|go_step|go_upon|go_back));obtain ⟨rfl,rfl⟩:=HL.out.end;refine bodyPost_ret (by simp [results,Tryz.results32,go_sem,y1,y2];rfl) rfl ?_;exact ⟨rfl,_,(HM.out.set1 HR.out.2 (by have:=HB0.out;omega) _).set1 HA.out.2 (by have:=HB0.out;omega) _,(HT.out.set1 (by omega) _).set1 (by omega) _⟩)
 ·have HL2:Hid (Lft (K.code (K.renameName nm tn)) m2 (res,mres)):=HL
  clear HL
  have HL:=HL2
  clear HL2
  unfold K.code at HL
  (obtain ⟨y0,y1,y2,p0,p1,p2,p3,p4,p5,e2⟩:=zae HC.out HR.out HA.out;rw [<- e2];clear e2)
  (repeat (first|go_skip|go_guarded|go_step|go_upon|go_back))
  (rw [ze HR.out.1,ze HA.out.1];clear p0 p1 p2 p3 p4 p5 y0 y1 y2)
  (((((go_at_call 72;refine (IC.use (zgQ _ (by omega) _ (by omega)) (fun _=>True) (fun _ _=>trivial) (by first|exact HL.out|exact HL.out.last) HM.out).mono ?_));(rintro e w2 ⟨x,m2,fp2,rfl,hx,hm,ht,HL2⟩);(have HM':=Hd hm;have HT':=Hd (HT.out.trans ht);(try (have HC':=Hd (HC.out.step ht);clear HC;have HC:=HC';clear HC'));(try (have HR':=Hd (HR.out.step ht);clear HR;have HR:=HR';clear HR'));(try (have HA':=Hd (HA.out.step ht);clear HA;have HA:=HA';clear HA'));clear HM HT hm ht;have HM:=HM';have HT:=HT';clear HM' HT';clear HL;have HL:=Hd HL2;clear HL2;(try simp only [])))))
  (obtain ⟨y0,y1,y2,p0,p1,p2,p3,p4,p5,e2⟩:=zae HC.out HR.out HA.out;rw [<- e2];clear e2)
  ((repeat (first|go_skip|go_guarded|go_step|go_upon|go_back));obtain ⟨rfl,rfl⟩:=HL.out.end;refine bodyPost_ret (by simp [results,Tryz.results32,go_sem,y1,y2];rfl) rfl ?_;exact ⟨rfl,_,(HM.out.set1 HR.out.2 (by have:=HB0.out;omega) _).set1 HA.out.2 (by have:=HB0.out;omega) _,(HT.out.set1 (by omega) _).set1 (by omega) _⟩)
 ·have HL2:Hid (Lft (K.doNames) m2 (res,mres)):=HL
  clear HL
  have HL:=HL2
  clear HL2
  unfold K.doNames at HL
  (obtain ⟨y0,y1,y2,p0,p1,p2,p3,p4,p5,e2⟩:=zae HC.out HR.out HA.out;rw [<- e2];clear e2)
  (repeat (first|go_skip|go_guarded|go_step|go_upon|go_back))
  rw [ze HR.out.1,ze HA.out.1]
  clear p0 p1 p2 p3 p4 p5 y0 y1
  (go_at_call 73;refine (ICL.use zld NS (fun m h=>zkC m h) (by first|exact HL.out|exact HL.out.last) HM.out).mono ?_;rintro e w2N ⟨al,nl,ks,m3,fp3,rfl,hks,hm,ht,hkl,HL2⟩)
  have HK:=Hd hkl
  clear hkl
  (have HM':=Hd hm;have HT':=Hd (HT.out.trans ht);(try (have HK':=Hd (HK.out.step ht);clear HK;have HK:=HK';clear HK'));(try (have HO':=Hd (HO.out.step ht);clear HO;have HO:=HO';clear HO'));(try (have HC':=Hd (HC.out.step ht);clear HC;have HC:=HC';clear HC'));(try (have HR':=Hd (HR.out.step ht);clear HR;have HR:=HR';clear HR'));(try (have HA':=Hd (HA.out.step ht);clear HA;have HA:=HA';clear HA'));clear HM HT hm ht;have HM:=HM';have HT:=HT';clear HM' HT';(try dsimp only at HL2);clear HL;have HL:=Hd HL2;clear HL2;(try simp only []))
  have y1:=za HR.out.1
  have y3:=za HA.out.1
  have e1:∀ X Y:Obj,w2N.heap[w.heap.size+1]?=some X->w2N.heap[w.heap.size+1+1]?=some Y->(w2N.setB (w.heap.size+1) X).setB (w.heap.size+1+1) Y=w2N:=fun X Y h1 h2=>by rw [ze h1,ze h2]
  have e2:=e1 _ _ HR.out.1 HA.out.1
  rw [<- e2]
  clear e1 e2
  (repeat (first|go_skip|go_guarded|go_step|go_upon|go_back))
  have hkl:=hks.1
  go_loopw [9,66] (fun _ k wr=>∃ (n:Nat) (t:ByteArray),k=.int .i64 n/\n<=ks.length/\t=K.wordsOf (ks.take n)/\t.size<=n*1048577/\wr=(w2N.setB (w.heap.size+1) (.cells #[.int .i64 0,.int .i64 0,.string ⟨#[]⟩] 30 (0,0))).setB (w.heap.size+1+1) (.cells #[.int .i64 0,.int .i64 0,.string t] 30 (0,0))) (fun _ k _=>ks.length - (intOf k).toNat)
  case atStart=>exact ⟨0,⟨#[]⟩,rfl,Nat.zero_le _,rfl,Nat.le_refl _,rfl⟩
  case round =>
   obtain ⟨n,t,rfl,hn,ht,htz1,rfl⟩:=hrel
   have HTX:=Hd ht
   clear ht
   by_cases hlt:(n:Int)<ks.length
   case pos =>
    have hk2:n<ks.length:=by omega
    have hkc:=fun o o'=>((HK.out.set1 (q:=w.heap.size+1) (by omega) o).set1 (q:=w.heap.size+1+1) (by omega) o').at_ hk2
    obtain ⟨b,off,rfl,hbl,hce0⟩:=hkc (.cells #[] 0) (.cells #[] 0)
    rw [zd,zd] at hbl
    have hce:∀ o o',((w2N.setB (w.heap.size+1) o).setB (w.heap.size+1+1) o').cell? ⟨b,off+n,none⟩=some (.string ks[n]):=fun o o'=>by
     obtain ⟨b',off',e',_,h'⟩:=hkc o o'
     cases e'
     exact h'
    have hkz:=hks.2 _ (List.getElem_mem hk2)
    have hsn:=zco (ks.take n) ks[n]
    rw [<- List.take_succ_eq_append_getElem hk2,<- HTX.out,ByteArray.append_assoc] at hsn
    have HSN:=Hd hsn
    clear hsn hkc hce0
    generalize ks[n]=key at hce hkz HSN
    have hn1:n*1048577<=549755813888*1048577:=Nat.mul_le_mul_right _ (by omega)
    have hc1:¬ 9223372036854775807<key.size+1:=by omega
    have hc2:¬ 9223372036854775807<t.size+(key.size+1):=by omega
    have hz2:(t++(key++K.space)).size<=(n+1)*1048577:=by
     rw [ByteArray.size_append,ByteArray.size_append]
     have:K.space.size=1:=rfl
     omega
    (repeat (first|go_skip|go_guarded|go_step|go_upon|go_back))
    go_roundw
    case rel=>exact ⟨n+1,t++(key++K.space),by go_num,by omega,HSN.out.symm,hz2,rfl⟩
    case measure=>simp [intOf];omega
   case neg =>
    have e:n=ks.length:=by omega
    have HF:Hid (K.wordsOf ks=t):=by show _ = _;rw [HTX.out,e,List.take_length]
    clear e HTX
    have y2:=y3
    (repeat (first|go_skip|go_guarded|go_step|go_upon|go_back))
    obtain ⟨rfl,rfl⟩:=HL.out.end
    refine bodyPost_ret (by simp [results,Tryz.results32,go_sem,y1,y2];rfl) rfl ?_
    exact ⟨by unfold zdc;rw [HF.out],_,(HM.out.set1 HR.out.2 (by have:=HB0.out;omega) _).set1 HA.out.2 (by have:=HB0.out;omega) _,(HT.out.set1 (by omega) _).set1 (by omega) _⟩
 ·have HL2:Hid (Lft (K.doFile ⟨6,nm,tn,ca,cb,tx⟩) m2 (res,mres)):=HL
  clear HL
  have HL:=HL2
  clear HL2
  skip
  (obtain ⟨y0,y1,y2,p0,p1,p2,p3,p4,p5,e2⟩:=zae HC.out HR.out HA.out;rw [<- e2];clear e2)
  (repeat (first|go_skip|go_guarded|go_step|go_upon|go_back))
  (rw [ze HR.out.1,ze HA.out.1];clear p0 p1 p2 p3 p4 p5 y0 y1 y2)
  (((go_at_call 74;refine (IC.use (zei ⟨_,nm,tn,ca,cb,tx⟩ (by show nm.size<=_;omega) (by show tx.size<=_;omega) ha0 ha1 hb0 hb1) (fun _=>True) (fun _ _=>trivial) (by first|exact HL.out|exact HL.out.last) HM.out).mono ?_));rintro e w2 ⟨x,m2,fp2,rfl,hx,hm,ht,HL2⟩;obtain ⟨xc,xn,xt⟩:=x;unfold zdc;(have HM':=Hd hm;have HT':=Hd (HT.out.trans ht);(try (have HC':=Hd (HC.out.step ht);clear HC;have HC:=HC';clear HC'));(try (have HR':=Hd (HR.out.step ht);clear HR;have HR:=HR';clear HR'));(try (have HA':=Hd (HA.out.step ht);clear HA;have HA:=HA';clear HA'));clear HM HT hm ht;have HM:=HM';have HT:=HT';clear HM' HT';clear HL;have HL:=Hd HL2;clear HL2;(try simp only [])))
  (obtain ⟨y0,y1,y2,p0,p1,p2,p3,p4,p5,e2⟩:=zae HC.out HR.out HA.out;rw [<- e2];clear e2)
  ((repeat (first|go_skip|go_guarded|go_step|go_upon|go_back));obtain ⟨rfl,rfl⟩:=HL.out.end;refine bodyPost_ret (by simp [results,Tryz.results32,go_sem,y1,y2];rfl) rfl ?_;exact ⟨rfl,_,(HM.out.set1 HR.out.2 (by have:=HB0.out;omega) _).set1 HA.out.2 (by have:=HB0.out;omega) _,(HT.out.set1 (by omega) _).set1 (by omega) _⟩)
 ·have HL2:Hid (Lft (K.doFile ⟨7,nm,tn,ca,cb,tx⟩) m2 (res,mres)):=HL
  clear HL
  have HL:=HL2
  clear HL2
  skip
  (obtain ⟨y0,y1,y2,p0,p1,p2,p3,p4,p5,e2⟩:=zae HC.out HR.out HA.out;rw [<- e2];clear e2)
  (repeat (first|go_skip|go_guarded|go_step|go_upon|go_back))
  (rw [ze HR.out.1,ze HA.out.1];clear p0 p1 p2 p3 p4 p5 y0 y1 y2)
  (((go_at_call 74;refine (IC.use (zei ⟨_,nm,tn,ca,cb,tx⟩ (by show nm.size<=_;omega) (by show tx.size<=_;omega) ha0 ha1 hb0 hb1) (fun _=>True) (fun _ _=>trivial) (by first|exact HL.out|exact HL.out.last) HM.out).mono ?_));rintro e w2 ⟨x,m2,fp2,rfl,hx,hm,ht,HL2⟩;obtain ⟨xc,xn,xt⟩:=x;unfold zdc;(have HM':=Hd hm;have HT':=Hd (HT.out.trans ht);(try (have HC':=Hd (HC.out.step ht);clear HC;have HC:=HC';clear HC'));(try (have HR':=Hd (HR.out.step ht);clear HR;have HR:=HR';clear HR'));(try (have HA':=Hd (HA.out.step ht);clear HA;have HA:=HA';clear HA'));clear HM HT hm ht;have HM:=HM';have HT:=HT';clear HM' HT';clear HL;have HL:=Hd HL2;clear HL2;(try simp only [])))
  (obtain ⟨y0,y1,y2,p0,p1,p2,p3,p4,p5,e2⟩:=zae HC.out HR.out HA.out;rw [<- e2];clear e2)
  ((repeat (first|go_skip|go_guarded|go_step|go_upon|go_back));obtain ⟨rfl,rfl⟩:=HL.out.end;refine bodyPost_ret (by simp [results,Tryz.results32,go_sem,y1,y2];rfl) rfl ?_;exact ⟨rfl,_,(HM.out.set1 HR.out.2 (by have:=HB0.out;omega) _).set1 HA.out.2 (by have:=HB0.out;omega) _,(HT.out.set1 (by omega) _).set1 (by omega) _⟩)
 ·have HL2:Hid (Lft (K.doFile ⟨8,nm,tn,ca,cb,tx⟩) m2 (res,mres)):=HL
  clear HL
  have HL:=HL2
  clear HL2
  skip
  (obtain ⟨y0,y1,y2,p0,p1,p2,p3,p4,p5,e2⟩:=zae HC.out HR.out HA.out;rw [<- e2];clear e2)
  (repeat (first|go_skip|go_guarded|go_step|go_upon|go_back))
  (rw [ze HR.out.1,ze HA.out.1];clear p0 p1 p2 p3 p4 p5 y0 y1 y2)
  (((go_at_call 74;refine (IC.use (zei ⟨_,nm,tn,ca,cb,tx⟩ (by show nm.size<=_;omega) (by show tx.size<=_;omega) ha0 ha1 hb0 hb1) (fun _=>True) (fun _ _=>trivial) (by first|exact HL.out|exact HL.out.last) HM.out).mono ?_));rintro e w2 ⟨x,m2,fp2,rfl,hx,hm,ht,HL2⟩;obtain ⟨xc,xn,xt⟩:=x;unfold zdc;(have HM':=Hd hm;have HT':=Hd (HT.out.trans ht);(try (have HC':=Hd (HC.out.step ht);clear HC;have HC:=HC';clear HC'));(try (have HR':=Hd (HR.out.step ht);clear HR;have HR:=HR';clear HR'));(try (have HA':=Hd (HA.out.step ht);clear HA;have HA:=HA';clear HA'));clear HM HT hm ht;have HM:=HM';have HT:=HT';clear HM' HT';clear HL;have HL:=Hd HL2;clear HL2;(try simp only [])))
  (obtain ⟨y0,y1,y2,p0,p1,p2,p3,p4,p5,e2⟩:=zae HC.out HR.out HA.out;rw [<- e2];clear e2)
  ((repeat (first|go_skip|go_guarded|go_step|go_upon|go_back));obtain ⟨rfl,rfl⟩:=HL.out.end;refine bodyPost_ret (by simp [results,Tryz.results32,go_sem,y1,y2];rfl) rfl ?_;exact ⟨rfl,_,(HM.out.set1 HR.out.2 (by have:=HB0.out;omega) _).set1 HA.out.2 (by have:=HB0.out;omega) _,(HT.out.set1 (by omega) _).set1 (by omega) _⟩)
 ·have HL2:Hid (Lft (K.codeN K.makePipe) m2 (res,mres)):=HL
  clear HL
  have HL:=HL2
  clear HL2
  unfold K.codeN at HL
  (obtain ⟨y0,y1,y2,p0,p1,p2,p3,p4,p5,e2⟩:=zae HC.out HR.out HA.out;rw [<- e2];clear e2)
  (repeat (first|go_skip|go_guarded|go_step|go_upon|go_back))
  (rw [ze HR.out.1,ze HA.out.1];clear p0 p1 p2 p3 p4 p5 y0 y1 y2)
  (((((go_at_call 75;refine (IC.use2 (zig) (fun _=>True) (fun _ _=>trivial) (by first|exact HL.out|exact HL.out.last) HM.out).mono ?_));(rintro e w2 ⟨x,y,m2,fp2,rfl,hx,hm,ht,HL2⟩);(have HM':=Hd hm;have HT':=Hd (HT.out.trans ht);(try (have HC':=Hd (HC.out.step ht);clear HC;have HC:=HC';clear HC'));(try (have HR':=Hd (HR.out.step ht);clear HR;have HR:=HR';clear HR'));(try (have HA':=Hd (HA.out.step ht);clear HA;have HA:=HA';clear HA'));clear HM HT hm ht;have HM:=HM';have HT:=HT';clear HM' HT';(try dsimp only at HL2);clear HL;have HL:=Hd HL2;clear HL2;(try simp only [])))))
  (obtain ⟨y0,y1,y2,p0,p1,p2,p3,p4,p5,e2⟩:=zae HC.out HR.out HA.out;rw [<- e2];clear e2)
  ((repeat (first|go_skip|go_guarded|go_step|go_upon|go_back));obtain ⟨rfl,rfl⟩:=HL.out.end;refine bodyPost_ret (by simp [results,Tryz.results32,go_sem,y1,y2];rfl) rfl ?_;exact ⟨rfl,_,(HM.out.set1 HR.out.2 (by have:=HB0.out;omega) _).set1 HA.out.2 (by have:=HB0.out;omega) _,(HT.out.set1 (by omega) _).set1 (by omega) _⟩)
 ·have HL2:Hid (Lft (K.code (K.putPipe ca tx)) m2 (res,mres)):=HL
  clear HL
  have HL:=HL2
  clear HL2
  unfold K.code at HL
  (obtain ⟨y0,y1,y2,p0,p1,p2,p3,p4,p5,e2⟩:=zae HC.out HR.out HA.out;rw [<- e2];clear e2)
  (repeat (first|go_skip|go_guarded|go_step|go_upon|go_back))
  (rw [ze HR.out.1,ze HA.out.1];clear p0 p1 p2 p3 p4 p5 y0 y1 y2)
  (((((go_at_call 76;refine (IC.use (zjk _ (by omega) (by omega) _ (by omega)) (fun _=>True) (fun _ _=>trivial) (by first|exact HL.out|exact HL.out.last) HM.out).mono ?_));(rintro e w2 ⟨x,m2,fp2,rfl,hx,hm,ht,HL2⟩);(have HM':=Hd hm;have HT':=Hd (HT.out.trans ht);(try (have HC':=Hd (HC.out.step ht);clear HC;have HC:=HC';clear HC'));(try (have HR':=Hd (HR.out.step ht);clear HR;have HR:=HR';clear HR'));(try (have HA':=Hd (HA.out.step ht);clear HA;have HA:=HA';clear HA'));clear HM HT hm ht;have HM:=HM';have HT:=HT';clear HM' HT';clear HL;have HL:=Hd HL2;clear HL2;(try simp only [])))))
  (obtain ⟨y0,y1,y2,p0,p1,p2,p3,p4,p5,e2⟩:=zae HC.out HR.out HA.out;rw [<- e2];clear e2)
  ((repeat (first|go_skip|go_guarded|go_step|go_upon|go_back));obtain ⟨rfl,rfl⟩:=HL.out.end;refine bodyPost_ret (by simp [results,Tryz.results32,go_sem,y1,y2];rfl) rfl ?_;exact ⟨rfl,_,(HM.out.set1 HR.out.2 (by have:=HB0.out;omega) _).set1 HA.out.2 (by have:=HB0.out;omega) _,(HT.out.set1 (by omega) _).set1 (by omega) _⟩)
 ·have HL2:Hid (Lft (K.codeT (K.takePipe ca)) m2 (res,mres)):=HL
  clear HL
  have HL:=HL2
  clear HL2
  unfold K.codeT at HL
  (obtain ⟨y0,y1,y2,p0,p1,p2,p3,p4,p5,e2⟩:=zae HC.out HR.out HA.out;rw [<- e2];clear e2)
  (repeat (first|go_skip|go_guarded|go_step|go_upon|go_back))
  (rw [ze HR.out.1,ze HA.out.1];clear p0 p1 p2 p3 p4 p5 y0 y1 y2)
  (((((go_at_call 77;refine (IC.use2 (zid _ (by omega) (by omega)) (fun _=>True) (fun _ _=>trivial) (by first|exact HL.out|exact HL.out.last) HM.out).mono ?_));(rintro e w2 ⟨x,y,m2,fp2,rfl,hx,hm,ht,HL2⟩);(have HM':=Hd hm;have HT':=Hd (HT.out.trans ht);(try (have HC':=Hd (HC.out.step ht);clear HC;have HC:=HC';clear HC'));(try (have HR':=Hd (HR.out.step ht);clear HR;have HR:=HR';clear HR'));(try (have HA':=Hd (HA.out.step ht);clear HA;have HA:=HA';clear HA'));clear HM HT hm ht;have HM:=HM';have HT:=HT';clear HM' HT';(try dsimp only at HL2);clear HL;have HL:=Hd HL2;clear HL2;(try simp only [])))))
  (obtain ⟨y0,y1,y2,p0,p1,p2,p3,p4,p5,e2⟩:=zae HC.out HR.out HA.out;rw [<- e2];clear e2)
  ((repeat (first|go_skip|go_guarded|go_step|go_upon|go_back));obtain ⟨rfl,rfl⟩:=HL.out.end;refine bodyPost_ret (by simp [results,Tryz.results32,go_sem,y1,y2];rfl) rfl ?_;exact ⟨rfl,_,(HM.out.set1 HR.out.2 (by have:=HB0.out;omega) _).set1 HA.out.2 (by have:=HB0.out;omega) _,(HT.out.set1 (by omega) _).set1 (by omega) _⟩)
 ·have HL2:Hid (Lft (K.doSpawn proc) m2 (res,mres)):=HL
  clear HL
  have HL:=HL2
  clear HL2
  unfold K.doSpawn at HL
  (obtain ⟨y0,y1,y2,p0,p1,p2,p3,p4,p5,e2⟩:=zae HC.out HR.out HA.out;rw [<- e2];clear e2)
  (repeat (first|go_skip|go_guarded|go_step|go_upon|go_back))
  (rw [ze HR.out.1,ze HA.out.1];clear p0 p1 p2 p3 p4 p5 y0 y1 y2)
  (go_at_call 78;refine (IC.use2 (zlc _ (by omega) (by omega)) (fun p=>0<=p.1/\p.1<=999) (fun m _=>zkt _ m) HL.out HM.out).mono ?_;rintro e w2 ⟨x,y,m2,fp2,rfl,hx,hm,ht,HL2⟩;(have HM':=Hd hm;have HT':=Hd (HT.out.trans ht);(try (have HK':=Hd (HK.out.step ht);clear HK;have HK:=HK';clear HK'));(try (have HO':=Hd (HO.out.step ht);clear HO;have HO:=HO';clear HO'));(try (have HC':=Hd (HC.out.step ht);clear HC;have HC:=HC';clear HC'));(try (have HR':=Hd (HR.out.step ht);clear HR;have HR:=HR';clear HR'));(try (have HA':=Hd (HA.out.step ht);clear HA;have HA:=HA';clear HA'));clear HM HT hm ht;have HM:=HM';have HT:=HT';clear HM' HT';(try dsimp only at HL2);clear HL;have HL:=Hd HL2;clear HL2;(try simp only [])))
  dsimp only at hx
  rcases HL.out.ite with ⟨hgy,HL2⟩|⟨hgy,HL2⟩<;>(clear HL;have HL:=Hd HL2;clear HL2)
  ·subst hgy
   (obtain ⟨y0,y1,y2,p0,p1,p2,p3,p4,p5,e2⟩:=zae HC.out HR.out HA.out;rw [<- e2];clear e2)
   (repeat (first|go_skip|go_guarded|go_step|go_upon|go_back))
   (refine zl1 (fun W=>IM w0 W mb fp2 m2/\IT w fp W fp2/\BX W fp2 w.heap.size _/\BX W fp2 (w.heap.size+1) _/\BX W fp2 (w.heap.size+1+1) _) ⟨(HM.out.set1 HR.out.2 (by have:=HB0.out;omega) _).set1 HA.out.2 (by have:=HB0.out;omega) _,(HT.out.set1 (by omega) _).set1 (by omega) _,(HC.out.set1 (by omega) _).set1 (by omega) _,(HR.out.at1 _).set1 (by omega) _,(HA.out.set1 (by omega) _).at1 _⟩ ?_;clear p0 p1 p2 p3 p4 p5 y0 y1 y2 HM HT HC HR HA;rintro W ⟨hm,ht,hc,hr,ha⟩;have HM:=Hd hm;have HT:=Hd ht;have HC:=Hd hc;have HR:=Hd hr;have HA:=Hd ha;clear hm ht hc hr ha)
   (((((go_at_call 79;refine (IC.use (zhk _ (by omega) (by omega) _ (by omega) (by omega)) (fun _=>True) (fun _ _=>trivial) (by first|exact HL.out|exact HL.out.last) HM.out).mono ?_));(rintro e w2 ⟨x,m2,fp2,rfl,hx,hm,ht,HL2⟩);(have HM':=Hd hm;have HT':=Hd (HT.out.trans ht);(try (have HC':=Hd (HC.out.step ht);clear HC;have HC:=HC';clear HC'));(try (have HR':=Hd (HR.out.step ht);clear HR;have HR:=HR';clear HR'));(try (have HA':=Hd (HA.out.step ht);clear HA;have HA:=HA';clear HA'));clear HM HT hm ht;have HM:=HM';have HT:=HT';clear HM' HT';clear HL;have HL:=Hd HL2;clear HL2;(try simp only [])))))
   (obtain ⟨y0,y1,y2,p0,p1,p2,p3,p4,p5,e2⟩:=zae HC.out HR.out HA.out;rw [<- e2];clear e2)
   ((repeat (first|go_skip|go_guarded|go_step|go_upon|go_back));obtain ⟨rfl,rfl⟩:=HL.out.end;refine bodyPost_ret (by simp [results,Tryz.results32,go_sem,y1,y2];rfl) rfl ?_;exact ⟨rfl,_,(HM.out.set1 HR.out.2 (by have:=HB0.out;omega) _).set1 HA.out.2 (by have:=HB0.out;omega) _,(HT.out.set1 (by omega) _).set1 (by omega) _⟩)
  ·(obtain ⟨y0,y1,y2,p0,p1,p2,p3,p4,p5,e2⟩:=zae HC.out HR.out HA.out;rw [<- e2];clear e2)
   ((repeat (first|go_skip|go_guarded|go_step|go_upon|go_back));obtain ⟨rfl,rfl⟩:=HL.out.end;refine bodyPost_ret (by simp [results,Tryz.results32,go_sem,y1,y2];rfl) rfl ?_;exact ⟨rfl,_,(HM.out.set1 HR.out.2 (by have:=HB0.out;omega) _).set1 HA.out.2 (by have:=HB0.out;omega) _,(HT.out.set1 (by omega) _).set1 (by omega) _⟩)
 ·have HL2:Hid (Lft (K.doEnd proc ca) m2 (res,mres)):=HL
  clear HL
  have HL:=HL2
  clear HL2
  unfold K.doEnd at HL
  (obtain ⟨y0,y1,y2,p0,p1,p2,p3,p4,p5,e2⟩:=zae HC.out HR.out HA.out;rw [<- e2];clear e2)
  (repeat (first|go_skip|go_guarded|go_step|go_upon|go_back))
  (rw [ze HR.out.1,ze HA.out.1];clear p0 p1 p2 p3 p4 p5 y0 y1 y2)
  (go_at_call 80;refine (IC.use (impl_end _ (by omega) (by omega) _ (by omega) (by omega)) (fun _=>True) (fun _ _=>trivial) HL.out HM.out).mono ?_;rintro e w2 ⟨x,m2,fp2,rfl,hx,hm,ht,HL2⟩;(have HM':=Hd hm;have HT':=Hd (HT.out.trans ht);(try (have HK':=Hd (HK.out.step ht);clear HK;have HK:=HK';clear HK'));(try (have HO':=Hd (HO.out.step ht);clear HO;have HO:=HO';clear HO'));(try (have HC':=Hd (HC.out.step ht);clear HC;have HC:=HC';clear HC'));(try (have HR':=Hd (HR.out.step ht);clear HR;have HR:=HR';clear HR'));(try (have HA':=Hd (HA.out.step ht);clear HA;have HA:=HA';clear HA'));clear HM HT hm ht;have HM:=HM';have HT:=HT';clear HM' HT';(try dsimp only at HL2);clear HL;have HL:=Hd HL2;clear HL2;(try simp only [])))
  rcases HL.out.ite with ⟨hgy,HL2⟩|⟨hgy,HL2⟩<;>(clear HL;have HL:=Hd HL2;clear HL2)
  ·subst hgy
   (obtain ⟨y0,y1,y2,p0,p1,p2,p3,p4,p5,e2⟩:=zae HC.out HR.out HA.out;rw [<- e2];clear e2)
   (repeat (first|go_skip|go_guarded|go_step|go_upon|go_back))
   (refine zl1 (fun W=>IM w0 W mb fp2 m2/\IT w fp W fp2/\BX W fp2 w.heap.size _/\BX W fp2 (w.heap.size+1) _/\BX W fp2 (w.heap.size+1+1) _) ⟨(HM.out.set1 HR.out.2 (by have:=HB0.out;omega) _).set1 HA.out.2 (by have:=HB0.out;omega) _,(HT.out.set1 (by omega) _).set1 (by omega) _,(HC.out.set1 (by omega) _).set1 (by omega) _,(HR.out.at1 _).set1 (by omega) _,(HA.out.set1 (by omega) _).at1 _⟩ ?_;clear p0 p1 p2 p3 p4 p5 y0 y1 y2 HM HT HC HR HA;rintro W ⟨hm,ht,hc,hr,ha⟩;have HM:=Hd hm;have HT:=Hd ht;have HC:=Hd hc;have HR:=Hd hr;have HA:=Hd ha;clear hm ht hc hr ha)
   (((((go_at_call 81;refine (IC.use (zhl _ (by omega) (by omega)) (fun _=>True) (fun _ _=>trivial) (by first|exact HL.out|exact HL.out.last) HM.out).mono ?_));(rintro e w2 ⟨x,m2,fp2,rfl,hx,hm,ht,HL2⟩);(have HM':=Hd hm;have HT':=Hd (HT.out.trans ht);(try (have HC':=Hd (HC.out.step ht);clear HC;have HC:=HC';clear HC'));(try (have HR':=Hd (HR.out.step ht);clear HR;have HR:=HR';clear HR'));(try (have HA':=Hd (HA.out.step ht);clear HA;have HA:=HA';clear HA'));clear HM HT hm ht;have HM:=HM';have HT:=HT';clear HM' HT';clear HL;have HL:=Hd HL2;clear HL2;(try simp only [])))))
   (obtain ⟨y0,y1,y2,p0,p1,p2,p3,p4,p5,e2⟩:=zae HC.out HR.out HA.out;rw [<- e2];clear e2)
   ((repeat (first|go_skip|go_guarded|go_step|go_upon|go_back));obtain ⟨rfl,rfl⟩:=HL.out.end;refine bodyPost_ret (by simp [results,Tryz.results32,go_sem,y1,y2];rfl) rfl ?_;exact ⟨rfl,_,(HM.out.set1 HR.out.2 (by have:=HB0.out;omega) _).set1 HA.out.2 (by have:=HB0.out;omega) _,(HT.out.set1 (by omega) _).set1 (by omega) _⟩)
  ·(obtain ⟨y0,y1,y2,p0,p1,p2,p3,p4,p5,e2⟩:=zae HC.out HR.out HA.out;rw [<- e2];clear e2)
   ((repeat (first|go_skip|go_guarded|go_step|go_upon|go_back));obtain ⟨rfl,rfl⟩:=HL.out.end;refine bodyPost_ret (by simp [results,Tryz.results32,go_sem,y1,y2];rfl) rfl ?_;exact ⟨rfl,_,(HM.out.set1 HR.out.2 (by have:=HB0.out;omega) _).set1 HA.out.2 (by have:=HB0.out;omega) _,(HT.out.set1 (by omega) _).set1 (by omega) _⟩)
 ·have HL2:Hid (Lft (K.codeN (K.reap proc ca)) m2 (res,mres)):=HL
  clear HL
  have HL:=HL2
  clear HL2
  unfold K.codeN at HL
  (obtain ⟨y0,y1,y2,p0,p1,p2,p3,p4,p5,e2⟩:=zae HC.out HR.out HA.out;rw [<- e2];clear e2)
  (repeat (first|go_skip|go_guarded|go_step|go_upon|go_back))
  (rw [ze HR.out.1,ze HA.out.1];clear p0 p1 p2 p3 p4 p5 y0 y1 y2)
  (((((go_at_call 82;refine (IC.use2 (zmf _ (by omega) (by omega) _ (by omega) (by omega)) (fun _=>True) (fun _ _=>trivial) (by first|exact HL.out|exact HL.out.last) HM.out).mono ?_));(rintro e w2 ⟨x,y,m2,fp2,rfl,hx,hm,ht,HL2⟩);(have HM':=Hd hm;have HT':=Hd (HT.out.trans ht);(try (have HC':=Hd (HC.out.step ht);clear HC;have HC:=HC';clear HC'));(try (have HR':=Hd (HR.out.step ht);clear HR;have HR:=HR';clear HR'));(try (have HA':=Hd (HA.out.step ht);clear HA;have HA:=HA';clear HA'));clear HM HT hm ht;have HM:=HM';have HT:=HT';clear HM' HT';(try dsimp only at HL2);clear HL;have HL:=Hd HL2;clear HL2;(try simp only [])))))
  (obtain ⟨y0,y1,y2,p0,p1,p2,p3,p4,p5,e2⟩:=zae HC.out HR.out HA.out;rw [<- e2];clear e2)
  ((repeat (first|go_skip|go_guarded|go_step|go_upon|go_back));obtain ⟨rfl,rfl⟩:=HL.out.end;refine bodyPost_ret (by simp [results,Tryz.results32,go_sem,y1,y2];rfl) rfl ?_;exact ⟨rfl,_,(HM.out.set1 HR.out.2 (by have:=HB0.out;omega) _).set1 HA.out.2 (by have:=HB0.out;omega) _,(HT.out.set1 (by omega) _).set1 (by omega) _⟩)
 ·have HL2:Hid (Lft (K.doKids proc) m2 (res,mres)):=HL
  clear HL
  have HL:=HL2
  clear HL2
  unfold K.doKids at HL
  (obtain ⟨y0,y1,y2,p0,p1,p2,p3,p4,p5,e2⟩:=zae HC.out HR.out HA.out;rw [<- e2];clear e2)
  (repeat (first|go_skip|go_guarded|go_step|go_upon|go_back))
  rw [ze HR.out.1,ze HA.out.1]
  clear p0 p1 p2 p3 p4 p5 y0 y1
  (go_at_call 83;refine (ICL.use (zmh _ (by omega) (by omega)) KidS (fun m h=>zl9 _ m h) (by first|exact HL.out|exact HL.out.last) HM.out).mono ?_;rintro e w2N ⟨al,nl,ks,m3,fp3,rfl,hks,hm,ht,hkl,HL2⟩)
  have HK:=Hd (zdQ hkl y2)
  clear hkl
  (have HM':=Hd hm;have HT':=Hd (HT.out.trans ht);(try (have HK':=Hd (HK.out.step ht);clear HK;have HK:=HK';clear HK'));(try (have HO':=Hd (HO.out.step ht);clear HO;have HO:=HO';clear HO'));(try (have HC':=Hd (HC.out.step ht);clear HC;have HC:=HC';clear HC'));(try (have HR':=Hd (HR.out.step ht);clear HR;have HR:=HR';clear HR'));(try (have HA':=Hd (HA.out.step ht);clear HA;have HA:=HA';clear HA'));clear HM HT hm ht;have HM:=HM';have HT:=HT';clear HM' HT';(try dsimp only at HL2);clear HL;have HL:=Hd HL2;clear HL2;(try simp only []))
  (repeat (first|go_skip|go_guarded|go_step|go_upon|go_back))
  have hres:=Hd HL.out.end
  clear HL
  have hkl:=hks.1
  go_loopw [11,163] (fun _ k wr=>∃ (n:Nat) (t:ByteArray),k=.int .i64 n/\n<=ks.length/\t=K.wordsOf ((ks.take n).map fun n=>zX (Lib.itoa n))/\t.size<=n*22/\IM w0 wr mb fp3 m3/\IT w fp wr fp3/\KL zep 3 wr (w.heap.size+1+1+1) fp3 (.slice al ks.length nl) ks/\BX wr fp3 (w.heap.size+1) (.cells #[.int .i64 0,.int .i64 0,.string ⟨#[]⟩] 30 (0,0))/\BX wr fp3 (w.heap.size+1+1) (.cells #[.int .i64 0,.int .i64 0,.string t] 30 (0,0))) (fun _ k _=>ks.length - (intOf k).toNat)
  case atStart=>exact ⟨0,⟨#[]⟩,rfl,Nat.zero_le _,rfl,Nat.le_refl _,HM.out,HT.out,HK.out,HR.out,HA.out⟩
  case round =>
   clear HM HT HK HR HA HC
   obtain ⟨n,t,rfl,hn,ht,htz1,hm,htt,hkk,hr,ha⟩:=hrel
   have HTX:=Hd ht
   have HM:=Hd hm
   have HT:=Hd htt
   have HK:=Hd hkk
   have HR:=Hd hr
   have HA:=Hd ha
   clear ht hm htt hkk hr ha
   have y1:=za HR.out.1
   have y2:=za HA.out.1
   have e1:∀ X Y:Obj,wr.heap[w.heap.size+1]?=some X->wr.heap[w.heap.size+1+1]?=some Y->(wr.setB (w.heap.size+1) X).setB (w.heap.size+1+1) Y=wr:=fun X Y h1 h2=>by rw [ze h1,ze h2]
   have e2:=e1 _ _ HR.out.1 HA.out.1
   rw [<- e2]
   clear e1 e2
   by_cases hlt:(n:Int)<ks.length
   case pos =>
    have hk2:n<ks.length:=by omega
    have hkc:=fun o o'=>((HK.out.set1 (q:=w.heap.size+1) (by omega) o).set1 (q:=w.heap.size+1+1) (by omega) o').atI hk2
    obtain ⟨b,off,rfl,hbl,hce0⟩:=hkc (.cells #[] 0) (.cells #[] 0)
    rw [zd,zd] at hbl
    have hce:∀ o o',((wr.setB (w.heap.size+1) o).setB (w.heap.size+1+1) o').cell? ⟨b,off+n,none⟩=some (.int .i64 ks[n]):=fun o o'=>by
     obtain ⟨b',off',e',_,h'⟩:=hkc o o'
     cases e'
     exact h'
    have hkz:=hks.2 _ (List.getElem_mem hk2)
    have hsn:=zco ((ks.take n).map fun n=>zX (Lib.itoa n)) (zX (Lib.itoa ks[n]))
    have e2:(ks.take n).map (fun n=>zX (Lib.itoa n)) ++ [zX (Lib.itoa ks[n])]=(ks.take (n+1)).map fun n=>zX (Lib.itoa n):=by
     rw [List.take_succ_eq_append_getElem hk2,List.map_append]
     rfl
    rw [e2,<- HTX.out,ByteArray.append_assoc] at hsn
    have D:=Hd (fun w ht=>zcy ks[n] w (by omega) (by omega) ht)
    have hkz2:(zX (Lib.itoa ks[n])).size<=21:=by
     rw [zN]
     exact Lib.itoa_length_le _ (by omega) (by omega)
    have HSN:=Hd hsn
    clear hsn e2 hkc hce0
    generalize zX (Lib.itoa ks[n])=key at D hkz2 HSN
    generalize ks[n]=kn at D hce hkz
    have hc1:¬ 9223372036854775807<key.size+1:=by omega
    have hc2:¬ 9223372036854775807<t.size+(key.size+1):=by omega
    have hz2:(t++(key++K.space)).size<=(n+1)*22:=by
     rw [ByteArray.size_append,ByteArray.size_append]
     have:K.space.size=1:=rfl
     omega
    have HG:Hid (∀ o o',Glob ((wr.setB (w.heap.size+1) o).setB (w.heap.size+1+1) o')):=fun o o'=>((HM.out.set1 HR.out.2 (by have:=HB0.out;omega) o).set1 HA.out.2 (by have:=HB0.out;omega) o').globs
    (repeat (first|go_skip|go_guarded|go_step|go_upon|go_back))
    refine zi (id:=45) [(0,true),(1,true),(2,true),(3,false),(4,true),(5,true),(6,true),(7,false)] 7 (by kernel_rfl) (by kernel_rfl) ?_
    repeat (first|(refine zk rfl (fun K hK=>?_);go_simp;refine hK _ ?_;clear hK K)|(refine zr rfl (fun K hK=>?_);go_simp;go_at_call 84;refine (D.out _ ((HG.out _ _).below (Below.drew (Below.refl _ _))).tab).mono ?_;rintro e w' ⟨rfl,hb⟩;obtain ⟨X,rfl⟩:=hb.ext;clear hb;(try go_simp);refine hK _ _ (by show Sx _ _;repeat (first|with_reducible apply Sx.ext|with_reducible exact Sx.refl _)) ?_;clear hK K)|(refine zt rfl rfl (fun K hK=>?_);go_simp;refine hK _ _ ?_;clear hK K))
    refine zQ ?_
    (repeat (first|go_skip|go_guarded|go_step|go_upon|go_back))
    go_roundw
    case rel =>
     refine ⟨n+1,t++(key++K.space),by go_num,by omega,HSN.out.symm,hz2,?_,?_,?_,?_,?_⟩
     ·exact ((HM.out.set1 (q:=w.heap.size+1) HR.out.2 (by have:=HB0.out;omega) _).set1 (q:=w.heap.size+1+1) HA.out.2 (by have:=HB0.out;omega) _).below (Below.ofExt (Below.refl _ _) _)
     ·exact ((HT.out.set1 (q:=w.heap.size+1) (by omega) _).set1 (q:=w.heap.size+1+1) (by omega) _).trans (IT.below (Below.ofExt (Below.refl _ _) _))
     ·exact ((HK.out.set1 (q:=w.heap.size+1) (by omega) _).set1 (q:=w.heap.size+1+1) (by omega) _).below (Below.ofExt (Below.refl _ _) _)
     ·exact ((HR.out.at1 _).set1 (q:=w.heap.size+1+1) (by omega) _).below (Below.ofExt (Below.refl _ _) _)
     ·exact ((HA.out.set1 (q:=w.heap.size+1) (by omega) _).at1 _).below (Below.ofExt (Below.refl _ _) _)
    case measure=>simp [intOf];omega
   case neg =>
    have e:n=ks.length:=by omega
    have HF:Hid (K.wordsOf (ks.map fun n=>zX (Lib.itoa n))=t):=by show _ = _;rw [HTX.out,e,List.take_length]
    clear e HTX
    (repeat (first|go_skip|go_guarded|go_step|go_upon|go_back))
    obtain ⟨rfl,rfl⟩:=hres.out
    refine bodyPost_ret (by simp [results,Tryz.results32,go_sem,y1,y2];rfl) rfl ?_
    exact ⟨by unfold zdc;rw [HF.out],_,(HM.out.set1 HR.out.2 (by have:=HB0.out;omega) _).set1 HA.out.2 (by have:=HB0.out;omega) _,(HT.out.set1 (by omega) _).set1 (by omega) _⟩
 ·have HL2:Hid (Lft (K.code (K.send ca cb)) m2 (res,mres)):=HL
  clear HL
  have HL:=HL2
  clear HL2
  unfold K.code at HL
  (obtain ⟨y0,y1,y2,p0,p1,p2,p3,p4,p5,e2⟩:=zae HC.out HR.out HA.out;rw [<- e2];clear e2)
  (repeat (first|go_skip|go_guarded|go_step|go_upon|go_back))
  (rw [ze HR.out.1,ze HA.out.1];clear p0 p1 p2 p3 p4 p5 y0 y1 y2)
  (((((go_at_call 85;refine (IC.use (zjj _ (by omega) (by omega) _ (by omega) (by omega)) (fun _=>True) (fun _ _=>trivial) (by first|exact HL.out|exact HL.out.last) HM.out).mono ?_));(rintro e w2 ⟨x,m2,fp2,rfl,hx,hm,ht,HL2⟩);(have HM':=Hd hm;have HT':=Hd (HT.out.trans ht);(try (have HC':=Hd (HC.out.step ht);clear HC;have HC:=HC';clear HC'));(try (have HR':=Hd (HR.out.step ht);clear HR;have HR:=HR';clear HR'));(try (have HA':=Hd (HA.out.step ht);clear HA;have HA:=HA';clear HA'));clear HM HT hm ht;have HM:=HM';have HT:=HT';clear HM' HT';clear HL;have HL:=Hd HL2;clear HL2;(try simp only [])))))
  (obtain ⟨y0,y1,y2,p0,p1,p2,p3,p4,p5,e2⟩:=zae HC.out HR.out HA.out;rw [<- e2];clear e2)
  ((repeat (first|go_skip|go_guarded|go_step|go_upon|go_back));obtain ⟨rfl,rfl⟩:=HL.out.end;refine bodyPost_ret (by simp [results,Tryz.results32,go_sem,y1,y2];rfl) rfl ?_;exact ⟨rfl,_,(HM.out.set1 HR.out.2 (by have:=HB0.out;omega) _).set1 HA.out.2 (by have:=HB0.out;omega) _,(HT.out.set1 (by omega) _).set1 (by omega) _⟩)
 ·have HL2:Hid (Lft (K.codeN (K.takeSignal proc)) m2 (res,mres)):=HL
  clear HL
  have HL:=HL2
  clear HL2
  unfold K.codeN at HL
  (obtain ⟨y0,y1,y2,p0,p1,p2,p3,p4,p5,e2⟩:=zae HC.out HR.out HA.out;rw [<- e2];clear e2)
  (repeat (first|go_skip|go_guarded|go_step|go_upon|go_back))
  (rw [ze HR.out.1,ze HA.out.1];clear p0 p1 p2 p3 p4 p5 y0 y1 y2)
  (((((go_at_call 86;refine (IC.use2 (zgP _ (by omega) (by omega)) (fun _=>True) (fun _ _=>trivial) (by first|exact HL.out|exact HL.out.last) HM.out).mono ?_));(rintro e w2 ⟨x,y,m2,fp2,rfl,hx,hm,ht,HL2⟩);(have HM':=Hd hm;have HT':=Hd (HT.out.trans ht);(try (have HC':=Hd (HC.out.step ht);clear HC;have HC:=HC';clear HC'));(try (have HR':=Hd (HR.out.step ht);clear HR;have HR:=HR';clear HR'));(try (have HA':=Hd (HA.out.step ht);clear HA;have HA:=HA';clear HA'));clear HM HT hm ht;have HM:=HM';have HT:=HT';clear HM' HT';(try dsimp only at HL2);clear HL;have HL:=Hd HL2;clear HL2;(try simp only [])))))
  (obtain ⟨y0,y1,y2,p0,p1,p2,p3,p4,p5,e2⟩:=zae HC.out HR.out HA.out;rw [<- e2];clear e2)
  ((repeat (first|go_skip|go_guarded|go_step|go_upon|go_back));obtain ⟨rfl,rfl⟩:=HL.out.end;refine bodyPost_ret (by simp [results,Tryz.results32,go_sem,y1,y2];rfl) rfl ?_;exact ⟨rfl,_,(HM.out.set1 HR.out.2 (by have:=HB0.out;omega) _).set1 HA.out.2 (by have:=HB0.out;omega) _,(HT.out.set1 (by omega) _).set1 (by omega) _⟩)
 ·have HL2:Hid (Lft (K.code (K.setTimer proc ca)) m2 (res,mres)):=HL
  clear HL
  have HL:=HL2
  clear HL2
  unfold K.code at HL
  (obtain ⟨y0,y1,y2,p0,p1,p2,p3,p4,p5,e2⟩:=zae HC.out HR.out HA.out;rw [<- e2];clear e2)
  (repeat (first|go_skip|go_guarded|go_step|go_upon|go_back))
  (rw [ze HR.out.1,ze HA.out.1];clear p0 p1 p2 p3 p4 p5 y0 y1 y2)
  (((((go_at_call 87;refine (IC.use (zie _ (by omega) (by omega) _ (by omega) (by omega)) (fun _=>True) (fun _ _=>trivial) (by first|exact HL.out|exact HL.out.last) HM.out).mono ?_));(rintro e w2 ⟨x,m2,fp2,rfl,hx,hm,ht,HL2⟩);(have HM':=Hd hm;have HT':=Hd (HT.out.trans ht);(try (have HC':=Hd (HC.out.step ht);clear HC;have HC:=HC';clear HC'));(try (have HR':=Hd (HR.out.step ht);clear HR;have HR:=HR';clear HR'));(try (have HA':=Hd (HA.out.step ht);clear HA;have HA:=HA';clear HA'));clear HM HT hm ht;have HM:=HM';have HT:=HT';clear HM' HT';clear HL;have HL:=Hd HL2;clear HL2;(try simp only [])))))
  (obtain ⟨y0,y1,y2,p0,p1,p2,p3,p4,p5,e2⟩:=zae HC.out HR.out HA.out;rw [<- e2];clear e2)
  ((repeat (first|go_skip|go_guarded|go_step|go_upon|go_back));obtain ⟨rfl,rfl⟩:=HL.out.end;refine bodyPost_ret (by simp [results,Tryz.results32,go_sem,y1,y2];rfl) rfl ?_;exact ⟨rfl,_,(HM.out.set1 HR.out.2 (by have:=HB0.out;omega) _).set1 HA.out.2 (by have:=HB0.out;omega) _,(HT.out.set1 (by omega) _).set1 (by omega) _⟩)
 ·have HL2:Hid (Lft (K.codeN (K.tick ca)) m2 (res,mres)):=HL
  clear HL
  have HL:=HL2
  clear HL2
  unfold K.codeN at HL
  (obtain ⟨y0,y1,y2,p0,p1,p2,p3,p4,p5,e2⟩:=zae HC.out HR.out HA.out;rw [<- e2];clear e2)
  (repeat (first|go_skip|go_guarded|go_step|go_upon|go_back))
  (rw [ze HR.out.1,ze HA.out.1];clear p0 p1 p2 p3 p4 p5 y0 y1 y2)
  (((((go_at_call 88;refine (IC.use2 (zme _ (by omega) (by omega)) (fun _=>True) (fun _ _=>trivial) (by first|exact HL.out|exact HL.out.last) HM.out).mono ?_));(rintro e w2 ⟨x,y,m2,fp2,rfl,hx,hm,ht,HL2⟩);(have HM':=Hd hm;have HT':=Hd (HT.out.trans ht);(try (have HC':=Hd (HC.out.step ht);clear HC;have HC:=HC';clear HC'));(try (have HR':=Hd (HR.out.step ht);clear HR;have HR:=HR';clear HR'));(try (have HA':=Hd (HA.out.step ht);clear HA;have HA:=HA';clear HA'));clear HM HT hm ht;have HM:=HM';have HT:=HT';clear HM' HT';(try dsimp only at HL2);clear HL;have HL:=Hd HL2;clear HL2;(try simp only [])))))
  (obtain ⟨y0,y1,y2,p0,p1,p2,p3,p4,p5,e2⟩:=zae HC.out HR.out HA.out;rw [<- e2];clear e2)
  ((repeat (first|go_skip|go_guarded|go_step|go_upon|go_back));obtain ⟨rfl,rfl⟩:=HL.out.end;refine bodyPost_ret (by simp [results,Tryz.results32,go_sem,y1,y2];rfl) rfl ?_;exact ⟨rfl,_,(HM.out.set1 HR.out.2 (by have:=HB0.out;omega) _).set1 HA.out.2 (by have:=HB0.out;omega) _,(HT.out.set1 (by omega) _).set1 (by omega) _⟩)
 ·have HL2:Hid (Lft (K.code (K.storePage proc ca tx)) m2 (res,mres)):=HL
  clear HL
  have HL:=HL2
  clear HL2
  unfold K.code at HL
  (obtain ⟨y0,y1,y2,p0,p1,p2,p3,p4,p5,e2⟩:=zae HC.out HR.out HA.out;rw [<- e2];clear e2)
  (repeat (first|go_skip|go_guarded|go_step|go_upon|go_back))
  (rw [ze HR.out.1,ze HA.out.1];clear p0 p1 p2 p3 p4 p5 y0 y1 y2)
  (((((go_at_call 89;refine (IC.use (zhi _ (by omega) (by omega) _ (by omega) (by omega) _ (by omega)) (fun _=>True) (fun _ _=>trivial) (by first|exact HL.out|exact HL.out.last) HM.out).mono ?_));(rintro e w2 ⟨x,m2,fp2,rfl,hx,hm,ht,HL2⟩);(have HM':=Hd hm;have HT':=Hd (HT.out.trans ht);(try (have HC':=Hd (HC.out.step ht);clear HC;have HC:=HC';clear HC'));(try (have HR':=Hd (HR.out.step ht);clear HR;have HR:=HR';clear HR'));(try (have HA':=Hd (HA.out.step ht);clear HA;have HA:=HA';clear HA'));clear HM HT hm ht;have HM:=HM';have HT:=HT';clear HM' HT';clear HL;have HL:=Hd HL2;clear HL2;(try simp only [])))))
  (obtain ⟨y0,y1,y2,p0,p1,p2,p3,p4,p5,e2⟩:=zae HC.out HR.out HA.out;rw [<- e2];clear e2)
  ((repeat (first|go_skip|go_guarded|go_step|go_upon|go_back));obtain ⟨rfl,rfl⟩:=HL.out.end;refine bodyPost_ret (by simp [results,Tryz.results32,go_sem,y1,y2];rfl) rfl ?_;exact ⟨rfl,_,(HM.out.set1 HR.out.2 (by have:=HB0.out;omega) _).set1 HA.out.2 (by have:=HB0.out;omega) _,(HT.out.set1 (by omega) _).set1 (by omega) _⟩)
 ·have HL2:Hid (Lft (K.codeT (K.loadPage proc ca)) m2 (res,mres)):=HL
  clear HL
  have HL:=HL2
  clear HL2
  unfold K.codeT at HL
  (obtain ⟨y0,y1,y2,p0,p1,p2,p3,p4,p5,e2⟩:=zae HC.out HR.out HA.out;rw [<- e2];clear e2)
  (repeat (first|go_skip|go_guarded|go_step|go_upon|go_back))
  (rw [ze HR.out.1,ze HA.out.1];clear p0 p1 p2 p3 p4 p5 y0 y1 y2)
  (((((go_at_call 90;refine (IC.use2 (zii _ (by omega) (by omega) _ (by omega) (by omega)) (fun _=>True) (fun _ _=>trivial) (by first|exact HL.out|exact HL.out.last) HM.out).mono ?_));(rintro e w2 ⟨x,y,m2,fp2,rfl,hx,hm,ht,HL2⟩);(have HM':=Hd hm;have HT':=Hd (HT.out.trans ht);(try (have HC':=Hd (HC.out.step ht);clear HC;have HC:=HC';clear HC'));(try (have HR':=Hd (HR.out.step ht);clear HR;have HR:=HR';clear HR'));(try (have HA':=Hd (HA.out.step ht);clear HA;have HA:=HA';clear HA'));clear HM HT hm ht;have HM:=HM';have HT:=HT';clear HM' HT';(try dsimp only at HL2);clear HL;have HL:=Hd HL2;clear HL2;(try simp only [])))))
  (obtain ⟨y0,y1,y2,p0,p1,p2,p3,p4,p5,e2⟩:=zae HC.out HR.out HA.out;rw [<- e2];clear e2)
  ((repeat (first|go_skip|go_guarded|go_step|go_upon|go_back));obtain ⟨rfl,rfl⟩:=HL.out.end;refine bodyPost_ret (by simp [results,Tryz.results32,go_sem,y1,y2];rfl) rfl ?_;exact ⟨rfl,_,(HM.out.set1 HR.out.2 (by have:=HB0.out;omega) _).set1 HA.out.2 (by have:=HB0.out;omega) _,(HT.out.set1 (by omega) _).set1 (by omega) _⟩)
 ·have HL2:Hid (Lft (K.code (K.putOut tx)) m2 (res,mres)):=HL
  clear HL
  have HL:=HL2
  clear HL2
  unfold K.code at HL
  (obtain ⟨y0,y1,y2,p0,p1,p2,p3,p4,p5,e2⟩:=zae HC.out HR.out HA.out;rw [<- e2];clear e2)
  (repeat (first|go_skip|go_guarded|go_step|go_upon|go_back))
  (rw [ze HR.out.1,ze HA.out.1];clear p0 p1 p2 p3 p4 p5 y0 y1 y2)
  (((((go_at_call 91;refine (IC.use (zj2 _ (by omega)) (fun _=>True) (fun _ _=>trivial) (by first|exact HL.out|exact HL.out.last) HM.out).mono ?_));(rintro e w2 ⟨x,m2,fp2,rfl,hx,hm,ht,HL2⟩);(have HM':=Hd hm;have HT':=Hd (HT.out.trans ht);(try (have HC':=Hd (HC.out.step ht);clear HC;have HC:=HC';clear HC'));(try (have HR':=Hd (HR.out.step ht);clear HR;have HR:=HR';clear HR'));(try (have HA':=Hd (HA.out.step ht);clear HA;have HA:=HA';clear HA'));clear HM HT hm ht;have HM:=HM';have HT:=HT';clear HM' HT';clear HL;have HL:=Hd HL2;clear HL2;(try simp only [])))))
  (obtain ⟨y0,y1,y2,p0,p1,p2,p3,p4,p5,e2⟩:=zae HC.out HR.out HA.out;rw [<- e2];clear e2)
  ((repeat (first|go_skip|go_guarded|go_step|go_upon|go_back));obtain ⟨rfl,rfl⟩:=HL.out.end;refine bodyPost_ret (by simp [results,Tryz.results32,go_sem,y1,y2];rfl) rfl ?_;exact ⟨rfl,_,(HM.out.set1 HR.out.2 (by have:=HB0.out;omega) _).set1 HA.out.2 (by have:=HB0.out;omega) _,(HT.out.set1 (by omega) _).set1 (by omega) _⟩)
end Go.Proofs.YtpnoehpmgflibaaGreatDoor
