/- Texts of this claim, merged: the walks and what they stand on. Each condition stands in its theorem. -/
import Derived.Test.YtpbcehcmdoncmaaGreatDoorCA21
import Derived.Test.YtpbcehcmdoncmaaGreatDoorCA33
set_option linter.unusedVariables false
set_option linter.unusedSimpArgs false
set_option maxRecDepth 100000
set_option maxHeartbeats 8000000
namespace Go.Proofs.YtpbcehcmdoncmaaGreatDoor
open Go.ChangeShapes Go.WideShapes Go.ChangeAt Go.RowKit
theorem IM.set1 {w0 W:World} {fp:List Nat} {b:Nat} {m:MachD} (h:IM w0 W b fp m) {q:Nat} (hq:q ∉ fp) (hB:w0.heap.size<=q) (o:Obj):IM w0 (W.setB q o) b fp m :=
 h.upon (Upon.setB (fp:=[q]) W o (by simp)) (fun j hj=>by rw [List.mem_singleton.1 hj];exact hq) (fun j hj=>by rw [List.mem_singleton.1 hj];exact hB)
theorem IT.set1 {w W:World} {fp fp1:List Nat} (h:IT w fp W fp1) {q:Nat} (hB:w.heap.size<=q) (o:Obj):IT w fp (W.setB q o) fp1 :=
 h.upon (Upon.setB (fp:=[q]) W o (by simp)) (fun j hj=>by rw [List.mem_singleton.1 hj];exact hB)
theorem BX.set1 {W:World} {fp:List Nat} {p q:Nat} {o':Obj} (h:BX W fp p o') (hne:p ≠ q) (o:Obj):BX (W.setB q o) fp p o':=⟨(World.setB_get _ _ _ _ hne).trans h.1,h.2⟩
theorem BX.at1 {W:World} {fp:List Nat} {q:Nat} {o':Obj} (h:BX W fp q o') (o:Obj):BX (W.setB q o) fp q o:=⟨World.setB_at _ _ _ (za h.1),h.2⟩
theorem zdF (c:CallD) (hn:c.name.size<=1048576) (htx:c.text.size<=1048576) (ha0 : -9223372036854775808<=c.a) (ha1:c.a<=9223372036854775807) (hb0 : -9223372036854775808<=c.b) (hb1:c.b<=9223372036854775807):IC 38 (fun x=>#[x,zaC c]) (K.doFile c) (fun an=>zcF an):=by
 obtain ⟨kd,nm,tn,ca,cb,tx⟩:=c
 dsimp only at hn htx ha0 ha1 hb0 hb1
 refine zdi (fun w0 w fp mb m res mres HM HT HL=>?_)
 have HB0:=Hd HM.out.bel.size
 unfold K.doFile at HL
 unfold zaC
 dsimp only at HL ⊢
 go_enter Tryz.func38,Tryz.ntmps38
 (repeat (first|go_skip|go_guarded|go_step|go_upon|go_back))
 refine zku (fun W=>IM w0 W mb fp m/\IT w fp W fp/\BX W fp w.heap.size (.cells #[.int .i64 kd,.string nm,.string tn,.int .i64 ca,.int .i64 cb,.string tx] 26 (0,0))/\BX W fp (w.heap.size+1) (.cells #[.int .i64 0,.int .i64 0,.string ⟨#[]⟩] 34 (0,0))) ?_ ?_
 ·have h2:=zcb w (.cells #[.int .i64 kd,.string nm,.string tn,.int .i64 ca,.int .i64 cb,.string tx] 26) (.cells #[.int .i64 0,.int .i64 0,.string ⟨#[]⟩] 34) w.heap.size rfl
  exact ⟨HM.out.below (by repeat (first|with_reducible exact Below.refl _ _|with_reducible apply Below.ofAlloc)),HT.out.trans (IT.below (by repeat (first|with_reducible exact Below.refl _ _|with_reducible apply Below.ofAlloc))),⟨h2.1,fun hx=>absurd (HM.out.hi _ hx) (by omega)⟩,⟨h2.2,fun hx=>absurd (HM.out.hi _ hx) (by omega)⟩⟩
 clear HM HT
 rintro W ⟨hm,ht,hc,hr⟩
 have HM:=Hd hm
 have HT:=Hd ht
 have HC:=Hd hc
 have HR:=Hd hr
 clear hm ht hc hr
 ((((go_at_call 68;refine (IC.use (zbS _ (by omega)) (fun a=>0<=a/\a<=999) (fun m _=>za2 _ m) (by first|exact HL.out|exact HL.out.last) HM.out).mono ?_));(rintro e w2 ⟨x,m2,fp2,rfl,hx,hm,ht,HL2⟩);(have HM':=Hd hm;have HT':=Hd (HT.out.trans ht);(try (have HC':=Hd (HC.out.step ht);clear HC;have HC:=HC';clear HC'));(try (have HR':=Hd (HR.out.step ht);clear HR;have HR:=HR';clear HR'));clear HM HT hm ht;have HM:=HM';have HT:=HT';clear HM' HT';clear HL;have HL:=Hd HL2;clear HL2;(try simp only []);(all_goals ((repeat' ((rcases HL.out.ite with ⟨hg,HL2⟩|⟨hg,HL2⟩<;>(clear HL;have HL:=Hd HL2;clear HL2)))))))))
 ·(have y1:=za HR.out.1;have y0:=za HC.out.1;have p0:∀ o,(w2.setB (w.heap.size+1) o).cell? ⟨w.heap.size,0,none⟩=some _:=fun o=>(zd (i:=0) (HC.out.set1 (by omega) o).1).trans rfl;have p3:∀ o,(w2.setB (w.heap.size+1) o).cell? ⟨w.heap.size,3,none⟩=some _:=fun o=>(zd (i:=3) (HC.out.set1 (by omega) o).1).trans rfl;have p4:∀ o,(w2.setB (w.heap.size+1) o).cell? ⟨w.heap.size,4,none⟩=some _:=fun o=>(zd (i:=4) (HC.out.set1 (by omega) o).1).trans rfl;have p5:∀ o,(w2.setB (w.heap.size+1) o).cell? ⟨w.heap.size,5,none⟩=some _:=fun o=>(zd (i:=5) (HC.out.set1 (by omega) o).1).trans rfl;have e1:=ze HR.out.1;rw [<- e1];clear e1)
  ((repeat (first|go_skip|go_guarded|go_step|go_upon|go_back));obtain ⟨rfl,rfl⟩:=HL.out.end;refine bodyPost_ret (by simp [results,Tryz.results38,go_sem,y1];rfl) rfl ?_;exact ⟨rfl,_,HM.out.set1 HR.out.2 (by have:=HB0.out;omega) _,HT.out.set1 (by omega) _⟩)
 ·(have y1:=za HR.out.1;have y0:=za HC.out.1;have p0:∀ o,(w2.setB (w.heap.size+1) o).cell? ⟨w.heap.size,0,none⟩=some _:=fun o=>(zd (i:=0) (HC.out.set1 (by omega) o).1).trans rfl;have p3:∀ o,(w2.setB (w.heap.size+1) o).cell? ⟨w.heap.size,3,none⟩=some _:=fun o=>(zd (i:=3) (HC.out.set1 (by omega) o).1).trans rfl;have p4:∀ o,(w2.setB (w.heap.size+1) o).cell? ⟨w.heap.size,4,none⟩=some _:=fun o=>(zd (i:=4) (HC.out.set1 (by omega) o).1).trans rfl;have p5:∀ o,(w2.setB (w.heap.size+1) o).cell? ⟨w.heap.size,5,none⟩=some _:=fun o=>(zd (i:=5) (HC.out.set1 (by omega) o).1).trans rfl;have e1:=ze HR.out.1;rw [<- e1];clear e1)
  (repeat (first|go_skip|go_guarded|go_step|go_upon|go_back))
  rw [ze HR.out.1]
  clear p0 p3 p4 p5 y0 y1
  ((((go_at_call 75;refine (IC.use (zhj _ (by omega) (by omega) _ (by omega) (by omega) _ (by omega) (by omega)) (fun _=>True) (fun _ _=>trivial) (by first|exact HL.out|exact HL.out.last) HM.out).mono ?_));(rintro e w2 ⟨x,m2,fp2,rfl,hx,hm,ht,HL2⟩);(have HM':=Hd hm;have HT':=Hd (HT.out.trans ht);(try (have HC':=Hd (HC.out.step ht);clear HC;have HC:=HC';clear HC'));(try (have HR':=Hd (HR.out.step ht);clear HR;have HR:=HR';clear HR'));clear HM HT hm ht;have HM:=HM';have HT:=HT';clear HM' HT';clear HL;have HL:=Hd HL2;clear HL2;(try simp only []))))
  (have y1:=za HR.out.1;have y0:=za HC.out.1;have p0:∀ o,(w2.setB (w.heap.size+1) o).cell? ⟨w.heap.size,0,none⟩=some _:=fun o=>(zd (i:=0) (HC.out.set1 (by omega) o).1).trans rfl;have p3:∀ o,(w2.setB (w.heap.size+1) o).cell? ⟨w.heap.size,3,none⟩=some _:=fun o=>(zd (i:=3) (HC.out.set1 (by omega) o).1).trans rfl;have p4:∀ o,(w2.setB (w.heap.size+1) o).cell? ⟨w.heap.size,4,none⟩=some _:=fun o=>(zd (i:=4) (HC.out.set1 (by omega) o).1).trans rfl;have p5:∀ o,(w2.setB (w.heap.size+1) o).cell? ⟨w.heap.size,5,none⟩=some _:=fun o=>(zd (i:=5) (HC.out.set1 (by omega) o).1).trans rfl;have e1:=ze HR.out.1;rw [<- e1];clear e1)
  ((repeat (first|go_skip|go_guarded|go_step|go_upon|go_back));obtain ⟨rfl,rfl⟩:=HL.out.end;refine bodyPost_ret (by simp [results,Tryz.results38,go_sem,y1];rfl) rfl ?_;exact ⟨rfl,_,HM.out.set1 HR.out.2 (by have:=HB0.out;omega) _,HT.out.set1 (by omega) _⟩)
 ·(have y1:=za HR.out.1;have y0:=za HC.out.1;have p0:∀ o,(w2.setB (w.heap.size+1) o).cell? ⟨w.heap.size,0,none⟩=some _:=fun o=>(zd (i:=0) (HC.out.set1 (by omega) o).1).trans rfl;have p3:∀ o,(w2.setB (w.heap.size+1) o).cell? ⟨w.heap.size,3,none⟩=some _:=fun o=>(zd (i:=3) (HC.out.set1 (by omega) o).1).trans rfl;have p4:∀ o,(w2.setB (w.heap.size+1) o).cell? ⟨w.heap.size,4,none⟩=some _:=fun o=>(zd (i:=4) (HC.out.set1 (by omega) o).1).trans rfl;have p5:∀ o,(w2.setB (w.heap.size+1) o).cell? ⟨w.heap.size,5,none⟩=some _:=fun o=>(zd (i:=5) (HC.out.set1 (by omega) o).1).trans rfl;have e1:=ze HR.out.1;rw [<- e1];clear e1)
  (repeat (first|go_skip|go_guarded|go_step|go_upon|go_back))
  rw [ze HR.out.1]
  clear p0 p3 p4 p5 y0 y1
  ((((go_at_call 76;refine (IC.use (zgu _ (by omega) (by omega) _ (by omega) (by omega) _ (by omega)) (fun _=>True) (fun _ _=>trivial) (by first|exact HL.out|exact HL.out.last) HM.out).mono ?_));(rintro e w2 ⟨x,m2,fp2,rfl,hx,hm,ht,HL2⟩);(have HM':=Hd hm;have HT':=Hd (HT.out.trans ht);(try (have HC':=Hd (HC.out.step ht);clear HC;have HC:=HC';clear HC'));(try (have HR':=Hd (HR.out.step ht);clear HR;have HR:=HR';clear HR'));clear HM HT hm ht;have HM:=HM';have HT:=HT';clear HM' HT';clear HL;have HL:=Hd HL2;clear HL2;(try simp only []))))
  (have y1:=za HR.out.1;have y0:=za HC.out.1;have p0:∀ o,(w2.setB (w.heap.size+1) o).cell? ⟨w.heap.size,0,none⟩=some _:=fun o=>(zd (i:=0) (HC.out.set1 (by omega) o).1).trans rfl;have p3:∀ o,(w2.setB (w.heap.size+1) o).cell? ⟨w.heap.size,3,none⟩=some _:=fun o=>(zd (i:=3) (HC.out.set1 (by omega) o).1).trans rfl;have p4:∀ o,(w2.setB (w.heap.size+1) o).cell? ⟨w.heap.size,4,none⟩=some _:=fun o=>(zd (i:=4) (HC.out.set1 (by omega) o).1).trans rfl;have p5:∀ o,(w2.setB (w.heap.size+1) o).cell? ⟨w.heap.size,5,none⟩=some _:=fun o=>(zd (i:=5) (HC.out.set1 (by omega) o).1).trans rfl;have e1:=ze HR.out.1;rw [<- e1];clear e1)
  ((repeat (first|go_skip|go_guarded|go_step|go_upon|go_back));obtain ⟨rfl,rfl⟩:=HL.out.end;refine bodyPost_ret (by simp [results,Tryz.results38,go_sem,y1];rfl) rfl ?_;exact ⟨rfl,_,HM.out.set1 HR.out.2 (by have:=HB0.out;omega) _,HT.out.set1 (by omega) _⟩)
 ·(have y1:=za HR.out.1;have y0:=za HC.out.1;have p0:∀ o,(w2.setB (w.heap.size+1) o).cell? ⟨w.heap.size,0,none⟩=some _:=fun o=>(zd (i:=0) (HC.out.set1 (by omega) o).1).trans rfl;have p3:∀ o,(w2.setB (w.heap.size+1) o).cell? ⟨w.heap.size,3,none⟩=some _:=fun o=>(zd (i:=3) (HC.out.set1 (by omega) o).1).trans rfl;have p4:∀ o,(w2.setB (w.heap.size+1) o).cell? ⟨w.heap.size,4,none⟩=some _:=fun o=>(zd (i:=4) (HC.out.set1 (by omega) o).1).trans rfl;have p5:∀ o,(w2.setB (w.heap.size+1) o).cell? ⟨w.heap.size,5,none⟩=some _:=fun o=>(zd (i:=5) (HC.out.set1 (by omega) o).1).trans rfl;have e1:=ze HR.out.1;rw [<- e1];clear e1)
  (repeat (first|go_skip|go_guarded|go_step|go_upon|go_back))
  rw [ze HR.out.1]
  clear p0 p3 p4 p5 y0 y1
  ((((go_at_call 77;refine (IC.use (zih _ (by omega) (by omega) _ (by omega) (by omega)) (fun _=>True) (fun _ _=>trivial) (by first|exact HL.out|exact HL.out.last) HM.out).mono ?_));(rintro e w2 ⟨x,m2,fp2,rfl,hx,hm,ht,HL2⟩);(have HM':=Hd hm;have HT':=Hd (HT.out.trans ht);(try (have HC':=Hd (HC.out.step ht);clear HC;have HC:=HC';clear HC'));(try (have HR':=Hd (HR.out.step ht);clear HR;have HR:=HR';clear HR'));clear HM HT hm ht;have HM:=HM';have HT:=HT';clear HM' HT';clear HL;have HL:=Hd HL2;clear HL2;(try simp only []))))
  (have y1:=za HR.out.1;have y0:=za HC.out.1;have p0:∀ o,(w2.setB (w.heap.size+1) o).cell? ⟨w.heap.size,0,none⟩=some _:=fun o=>(zd (i:=0) (HC.out.set1 (by omega) o).1).trans rfl;have p3:∀ o,(w2.setB (w.heap.size+1) o).cell? ⟨w.heap.size,3,none⟩=some _:=fun o=>(zd (i:=3) (HC.out.set1 (by omega) o).1).trans rfl;have p4:∀ o,(w2.setB (w.heap.size+1) o).cell? ⟨w.heap.size,4,none⟩=some _:=fun o=>(zd (i:=4) (HC.out.set1 (by omega) o).1).trans rfl;have p5:∀ o,(w2.setB (w.heap.size+1) o).cell? ⟨w.heap.size,5,none⟩=some _:=fun o=>(zd (i:=5) (HC.out.set1 (by omega) o).1).trans rfl;have e1:=ze HR.out.1;rw [<- e1];clear e1)
  ((repeat (first|go_skip|go_guarded|go_step|go_upon|go_back));obtain ⟨rfl,rfl⟩:=HL.out.end;refine bodyPost_ret (by simp [results,Tryz.results38,go_sem,y1];rfl) rfl ?_;exact ⟨rfl,_,HM.out.set1 HR.out.2 (by have:=HB0.out;omega) _,HT.out.set1 (by omega) _⟩)
theorem zhl (name:ByteArray) (namez:name.size<=1048576):IC 33 (fun x=>#[x,.string name]) (K.makeName name) (fun p=>.tuple #[.int .i64 p.1,.int .i64 p.2]):=by
 refine zdi (fun w0 w fp b m res mres HM HT HL=>?_)
 unfold K.makeName at HL
 have hc:¬ 9223372036854775807<2+name.size:=by omega
 rcases zap name with ⟨hn,hz⟩|hn
 all_goals (
  rw [hn] at HL
  have HN:=Hd hn;clear hn)
 all_goals ((repeat' ((rcases HL.out.ite with ⟨hg,HL2⟩|⟨hg,HL2⟩<;>(clear HL;have HL:=Hd HL2;clear HL2;try exact absurd hg (by decide))))))
 all_goals (go_enter Tryz.func33,Tryz.ntmps33;all_goals ((repeat' (first|go_skip|go_guarded|go_step|go_upon|go_back|((first|((first|(go_at_call 68;refine (IC.use (zbS _ (by omega)) (fun a=>0<=a/\a<=999) (fun m _=>za2 _ m) (by first|exact HL.out|exact HL.out.last) HM.out).mono ?_)|(go_at_call 56;refine (IC.use (zf3 _) (fun a=>0<=a/\a<=999) (fun m _=>zdI _ m) (by first|exact HL.out|exact HL.out.last) HM.out).mono ?_)|(go_at_call 57;refine (IC.use (zX _ _ (by omega) (by omega)) (fun _=>True) (fun _ _=>trivial) (by first|exact HL.out|exact HL.out.last) HM.out).mono ?_)|(go_at_call 55;refine (IC.use (zal _) (fun a=>0<=a/\a<=999) (fun m _=>zY _ m) (by first|exact HL.out|exact HL.out.last) HM.out).mono ?_));(rintro e w2 ⟨x,m2,fp2,rfl,hx,hm,ht,HL2⟩);(replace HM:=Hd hm;replace HT:=Hd (HT.out.trans ht);clear hm ht;clear HL;have HL:=Hd HL2;clear HL2;(try simp only []);(all_goals ((repeat' ((rcases HL.out.ite with ⟨hg,HL2⟩|⟨hg,HL2⟩<;>(clear HL;have HL:=Hd HL2;clear HL2))))))))|((first|(go_at_call 67;refine (zbT _ _ (by omega)).mono ?_)|(go_at_call 69;refine (zbz _ (by omega) _).mono ?_));rintro e w2 ⟨rfl,rfl⟩;(try simp only []);(try rw [HN.out]);(try rw [HP.out]))|((go_at_call 70;refine (zcD _ (by omega) (by omega) _ HM.out.globs).mono ?_);rintro e w2 ⟨rfl,hb⟩;(replace HM:=Hd (HM.out.below hb);replace HT:=Hd (HT.out.trans (IT.below hb));clear hb;(try simp only [])))))|(exfalso;(simp only [bne_eq_false_iff_eq,beq_eq_false_iff_ne,beq_iff_eq,bne_iff_ne] at *);omega)))))
 all_goals (obtain ⟨rfl,rfl⟩:=HL.out.end;((refine bodyPost_ret (by simp [results,Tryz.results33,go_sem];rfl) rfl ?_));exact ⟨rfl,_,HM.out,HT.out⟩)
theorem zhn (na:ByteArray) (naz:na.size<=1048576) (nb:ByteArray) (nbz:nb.size<=1048576):IC 34 (fun x=>#[x,.string na,.string nb]) (K.linkName na nb) (fun n=>.int .i64 n):=by
 refine zdi (fun w0 w fp b m res mres HM HT HL=>?_)
 unfold K.linkName at HL
 have hc:¬ 9223372036854775807<2+na.size:=by omega
 have hd:¬ 9223372036854775807<2+nb.size:=by omega
 rcases zap na with ⟨hn,hz⟩|hn
 all_goals (
  rw [hn] at HL
  have HN:=Hd hn;clear hn)
 all_goals rcases zap nb with ⟨hn,hy⟩|hn
 all_goals (
  rw [hn] at HL
  have HP:=Hd hn;clear hn)
 all_goals ((repeat' ((rcases HL.out.ite with ⟨hg,HL2⟩|⟨hg,HL2⟩<;>(clear HL;have HL:=Hd HL2;clear HL2;try exact absurd hg (by decide))))))
 all_goals (go_enter Tryz.func34,Tryz.ntmps34;all_goals ((repeat' (first|go_skip|go_guarded|go_step|go_upon|go_back|((first|((first|(go_at_call 68;refine (IC.use (zbS _ (by omega)) (fun a=>0<=a/\a<=999) (fun m _=>za2 _ m) (by first|exact HL.out|exact HL.out.last) HM.out).mono ?_)|(go_at_call 57;refine (IC.use (zX _ _ (by omega) (by omega)) (fun _=>True) (fun _ _=>trivial) (by first|exact HL.out|exact HL.out.last) HM.out).mono ?_)|(go_at_call 55;refine (IC.use (zal _) (fun a=>0<=a/\a<=999) (fun m _=>zY _ m) (by first|exact HL.out|exact HL.out.last) HM.out).mono ?_));(rintro e w2 ⟨x,m2,fp2,rfl,hx,hm,ht,HL2⟩);(replace HM:=Hd hm;replace HT:=Hd (HT.out.trans ht);clear hm ht;clear HL;have HL:=Hd HL2;clear HL2;(try simp only []);(all_goals ((repeat' ((rcases HL.out.ite with ⟨hg,HL2⟩|⟨hg,HL2⟩<;>(clear HL;have HL:=Hd HL2;clear HL2))))))))|((first|(go_at_call 67;refine (zbT _ _ (by omega)).mono ?_)|(go_at_call 69;refine (zbz _ (by omega) _).mono ?_));rintro e w2 ⟨rfl,rfl⟩;(try simp only []);(try rw [HN.out]);(try rw [HP.out]))|((go_at_call 70;refine (zcD _ (by omega) (by omega) _ HM.out.globs).mono ?_);rintro e w2 ⟨rfl,hb⟩;(replace HM:=Hd (HM.out.below hb);replace HT:=Hd (HT.out.trans (IT.below hb));clear hb;(try simp only [])))))|(exfalso;(simp only [bne_eq_false_iff_eq,beq_eq_false_iff_ne,beq_iff_eq,bne_iff_ne] at *);omega)))))
 all_goals (obtain ⟨rfl,rfl⟩:=HL.out.end;((refine bodyPost_ret (by simp [results,Tryz.results34,go_sem];rfl) rfl ?_));exact ⟨rfl,_,HM.out,HT.out⟩)
theorem zcX (name:ByteArray) (namez:name.size<=1048576):IC 35 (fun x=>#[x,.string name]) (K.unlinkName name) (fun n=>.int .i64 n):=by
 refine zdi (fun w0 w fp b m res mres HM HT HL=>?_)
 unfold K.unlinkName at HL
 have hc:¬ 9223372036854775807<2+name.size:=by omega
 rcases zap name with ⟨hn,hz⟩|hn
 all_goals (
  rw [hn] at HL
  have HN:=Hd hn;clear hn)
 all_goals ((repeat' ((rcases HL.out.ite with ⟨hg,HL2⟩|⟨hg,HL2⟩<;>(clear HL;have HL:=Hd HL2;clear HL2;try exact absurd hg (by decide))))))
 all_goals (go_enter Tryz.func35,Tryz.ntmps35;all_goals ((repeat' (first|go_skip|go_guarded|go_step|go_upon|go_back|((first|((first|(go_at_call 72;refine (IC.use (zfY _) (fun _=>True) (fun _ _=>trivial) (by first|exact HL.out|exact HL.out.last) HM.out).mono ?_)|(go_at_call 71;refine (IC.use (zaI _ _) (fun _=>True) (fun _ _=>trivial) (by first|exact HL.out|exact HL.out.last) HM.out).mono ?_)|(go_at_call 68;refine (IC.use (zbS _ (by omega)) (fun a=>0<=a/\a<=999) (fun m _=>za2 _ m) (by first|exact HL.out|exact HL.out.last) HM.out).mono ?_)|(go_at_call 57;refine (IC.use (zX _ _ (by omega) (by omega)) (fun _=>True) (fun _ _=>trivial) (by first|exact HL.out|exact HL.out.last) HM.out).mono ?_)|(go_at_call 55;refine (IC.use (zal _) (fun a=>0<=a/\a<=999) (fun m _=>zY _ m) (by first|exact HL.out|exact HL.out.last) HM.out).mono ?_));(rintro e w2 ⟨x,m2,fp2,rfl,hx,hm,ht,HL2⟩);(replace HM:=Hd hm;replace HT:=Hd (HT.out.trans ht);clear hm ht;clear HL;have HL:=Hd HL2;clear HL2;(try simp only []);(all_goals ((repeat' ((rcases HL.out.ite with ⟨hg,HL2⟩|⟨hg,HL2⟩<;>(clear HL;have HL:=Hd HL2;clear HL2))))))))|((first|(go_at_call 67;refine (zbT _ _ (by omega)).mono ?_)|(go_at_call 69;refine (zbz _ (by omega) _).mono ?_));rintro e w2 ⟨rfl,rfl⟩;(try simp only []);(try rw [HN.out]);(try rw [HP.out]))|((first|(go_at_call 73;refine (z8 _ _ _ _ HM.out.globs (by first|omega|decide) (by first|omega|decide) (by omega) (by omega)).mono ?_)|(go_at_call 70;refine (zcD _ (by omega) (by omega) _ HM.out.globs).mono ?_));rintro e w2 ⟨rfl,hb⟩;(replace HM:=Hd (HM.out.below hb);replace HT:=Hd (HT.out.trans (IT.below hb));clear hb;(try simp only [])))))|(exfalso;(simp only [bne_eq_false_iff_eq,beq_eq_false_iff_ne,beq_iff_eq,bne_iff_ne] at *);omega)))))
 all_goals (obtain ⟨rfl,rfl⟩:=HL.out.end;((refine bodyPost_ret (by simp [results,Tryz.results35,go_sem];rfl) rfl ?_));exact ⟨rfl,_,HM.out,HT.out⟩)
theorem zf0 (na:ByteArray) (naz:na.size<=1048576) (nb:ByteArray) (nbz:nb.size<=1048576):IC 36 (fun x=>#[x,.string na,.string nb]) (K.renameName na nb) (fun n=>.int .i64 n):=by
 refine zdi (fun w0 w fp b m res mres HM HT HL=>?_)
 unfold K.renameName at HL
 have hc:¬ 9223372036854775807<2+na.size:=by omega
 have hd:¬ 9223372036854775807<2+nb.size:=by omega
 rcases zap na with ⟨hn,hz⟩|hn
 all_goals (
  rw [hn] at HL
  have HN:=Hd hn;clear hn)
 all_goals rcases zap nb with ⟨hn,hy⟩|hn
 all_goals (
  rw [hn] at HL
  have HP:=Hd hn;clear hn)
 all_goals ((repeat' ((rcases HL.out.ite with ⟨hg,HL2⟩|⟨hg,HL2⟩<;>(clear HL;have HL:=Hd HL2;clear HL2;try exact absurd hg (by decide))))))
 all_goals (go_enter Tryz.func36,Tryz.ntmps36;all_goals ((repeat' (first|go_skip|go_guarded|go_step|go_upon|go_back|((first|((first|(go_at_call 35;refine (IC.use (zcX _ (by omega)) (fun _=>True) (fun _ _=>trivial) (by first|exact HL.out|exact HL.out.last) HM.out).mono ?_)|(go_at_call 71;refine (IC.use (zaI _ _) (fun _=>True) (fun _ _=>trivial) (by first|exact HL.out|exact HL.out.last) HM.out).mono ?_)|(go_at_call 68;refine (IC.use (zbS _ (by omega)) (fun a=>0<=a/\a<=999) (fun m _=>za2 _ m) (by first|exact HL.out|exact HL.out.last) HM.out).mono ?_)|(go_at_call 57;refine (IC.use (zX _ _ (by omega) (by omega)) (fun _=>True) (fun _ _=>trivial) (by first|exact HL.out|exact HL.out.last) HM.out).mono ?_));(rintro e w2 ⟨x,m2,fp2,rfl,hx,hm,ht,HL2⟩);(replace HM:=Hd hm;replace HT:=Hd (HT.out.trans ht);clear hm ht;clear HL;have HL:=Hd HL2;clear HL2;(try simp only []);(all_goals ((repeat' ((rcases HL.out.ite with ⟨hg,HL2⟩|⟨hg,HL2⟩<;>(clear HL;have HL:=Hd HL2;clear HL2))))))))|((first|(go_at_call 67;refine (zbT _ _ (by omega)).mono ?_)|(go_at_call 69;refine (zbz _ (by omega) _).mono ?_));rintro e w2 ⟨rfl,rfl⟩;(try simp only []);(try rw [HN.out]);(try rw [HP.out]))))|(exfalso;(simp only [bne_eq_false_iff_eq,beq_eq_false_iff_ne,beq_iff_eq,bne_iff_ne] at *);omega)))))
 all_goals (obtain ⟨rfl,rfl⟩:=HL.out.end;((refine bodyPost_ret (by simp [results,Tryz.results36,go_sem];rfl) rfl ?_));exact ⟨rfl,_,HM.out,HT.out⟩)
end Go.Proofs.YtpbcehcmdoncmaaGreatDoor
