/- Texts of this claim, merged: the walks and what they stand on. Each condition stands in its theorem. -/
import Derived.Test.YtpnoehpmgflibaaGreatDoorCA21
import Derived.Test.YtpnoehpmgflibaaGreatDoorCA35
set_option linter.unusedVariables false
set_option linter.unusedSimpArgs false
set_option maxRecDepth 100000
set_option maxHeartbeats 8000000
namespace Go.Proofs.YtpnoehpmgflibaaGreatDoor
open Go.ChangeShapes Go.WideShapes Go.ChangeAt Go.RowKit
theorem IM.set1 {w0 W:World} {fp:List Nat} {b:Nat} {m:MachD} (h:IM w0 W b fp m) {q:Nat} (hq:q ∉ fp) (hB:w0.heap.size<=q) (o:Obj):IM w0 (W.setB q o) b fp m :=
 h.upon (Upon.setB (fp:=[q]) W o (by simp)) (fun j hj=>by rw [List.mem_singleton.1 hj];exact hq) (fun j hj=>by rw [List.mem_singleton.1 hj];exact hB)
theorem IT.set1 {w W:World} {fp fp1:List Nat} (h:IT w fp W fp1) {q:Nat} (hB:w.heap.size<=q) (o:Obj):IT w fp (W.setB q o) fp1 :=
 h.upon (Upon.setB (fp:=[q]) W o (by simp)) (fun j hj=>by rw [List.mem_singleton.1 hj];exact hB)
theorem BX.set1 {W:World} {fp:List Nat} {p q:Nat} {o':Obj} (h:BX W fp p o') (hne:p ≠ q) (o:Obj):BX (W.setB q o) fp p o':=⟨(World.setB_get _ _ _ _ hne).trans h.1,h.2⟩
theorem BX.at1 {W:World} {fp:List Nat} {q:Nat} {o':Obj} (h:BX W fp q o') (o:Obj):BX (W.setB q o) fp q o:=⟨World.setB_at _ _ _ (za h.1),h.2⟩
theorem zei (c:CallD) (hn:c.name.size<=1048576) (htx:c.text.size<=1048576) (ha0 : -9223372036854775808<=c.a) (ha1:c.a<=9223372036854775807) (hb0 : -9223372036854775808<=c.b) (hb1:c.b<=9223372036854775807):IC 74 (fun x=>#[x,zaM c]) (K.doFile c) (fun an=>zdc an):=by
 obtain ⟨kd,nm,tn,ca,cb,tx⟩:=c
 dsimp only at hn htx ha0 ha1 hb0 hb1
 refine zdT (fun w0 w fp mb m res mres HM HT HL=>?_)
 have HB0:=Hd HM.out.bel.size
 unfold K.doFile at HL
 unfold zaM
 dsimp only at HL ⊢
 go_enter Tryz.func74,Tryz.ntmps74
 (repeat (first|go_skip|go_guarded|go_step|go_upon|go_back))
 refine zl1 (fun W=>IM w0 W mb fp m/\IT w fp W fp/\BX W fp w.heap.size (.cells #[.int .i64 kd,.string nm,.string tn,.int .i64 ca,.int .i64 cb,.string tx] 26 (0,0))/\BX W fp (w.heap.size+1) (.cells #[.int .i64 0,.int .i64 0,.string ⟨#[]⟩] 30 (0,0))) ?_ ?_
 ·have h2:=zaq w (.cells #[.int .i64 kd,.string nm,.string tn,.int .i64 ca,.int .i64 cb,.string tx] 26) (.cells #[.int .i64 0,.int .i64 0,.string ⟨#[]⟩] 30) w.heap.size rfl
  exact ⟨HM.out.below (by repeat (first|with_reducible exact Below.refl _ _|with_reducible apply Below.ofAlloc)),HT.out.trans (IT.below (by repeat (first|with_reducible exact Below.refl _ _|with_reducible apply Below.ofAlloc))),⟨h2.1,fun hx=>absurd (HM.out.hi _ hx) (by omega)⟩,⟨h2.2,fun hx=>absurd (HM.out.hi _ hx) (by omega)⟩⟩
 clear HM HT
 rintro W ⟨hm,ht,hc,hr⟩
 have HM:=Hd hm
 have HT:=Hd ht
 have HC:=Hd hc
 have HR:=Hd hr
 clear hm ht hc hr
 ((((go_at_call 142;refine (IC.use (zci _ (by omega)) (fun a=>0<=a/\a<=999) (fun m _=>zbf _ m) (by first|exact HL.out|exact HL.out.last) HM.out).mono ?_));(rintro e w2 ⟨x,m2,fp2,rfl,hx,hm,ht,HL2⟩);(have HM':=Hd hm;have HT':=Hd (HT.out.trans ht);(try (have HC':=Hd (HC.out.step ht);clear HC;have HC:=HC';clear HC'));(try (have HR':=Hd (HR.out.step ht);clear HR;have HR:=HR';clear HR'));clear HM HT hm ht;have HM:=HM';have HT:=HT';clear HM' HT';clear HL;have HL:=Hd HL2;clear HL2;(try simp only []);(all_goals ((repeat' ((rcases HL.out.ite with ⟨hg,HL2⟩|⟨hg,HL2⟩<;>(clear HL;have HL:=Hd HL2;clear HL2)))))))))
 ·(have y1:=za HR.out.1;have y0:=za HC.out.1;have p0:∀ o,(w2.setB (w.heap.size+1) o).cell? ⟨w.heap.size,0,none⟩=some _:=fun o=>(zb (i:=0) (HC.out.set1 (by omega) o).1).trans rfl;have p3:∀ o,(w2.setB (w.heap.size+1) o).cell? ⟨w.heap.size,3,none⟩=some _:=fun o=>(zb (i:=3) (HC.out.set1 (by omega) o).1).trans rfl;have p4:∀ o,(w2.setB (w.heap.size+1) o).cell? ⟨w.heap.size,4,none⟩=some _:=fun o=>(zb (i:=4) (HC.out.set1 (by omega) o).1).trans rfl;have p5:∀ o,(w2.setB (w.heap.size+1) o).cell? ⟨w.heap.size,5,none⟩=some _:=fun o=>(zb (i:=5) (HC.out.set1 (by omega) o).1).trans rfl;have e1:=ze HR.out.1;rw [<- e1];clear e1)
  ((repeat (first|go_skip|go_guarded|go_step|go_upon|go_back));obtain ⟨rfl,rfl⟩:=HL.out.end;refine bodyPost_ret (by simp [results,Tryz.results74,go_sem,y1];rfl) rfl ?_;exact ⟨rfl,_,HM.out.set1 HR.out.2 (by have:=HB0.out;omega) _,HT.out.set1 (by omega) _⟩)
 ·(have y1:=za HR.out.1;have y0:=za HC.out.1;have p0:∀ o,(w2.setB (w.heap.size+1) o).cell? ⟨w.heap.size,0,none⟩=some _:=fun o=>(zb (i:=0) (HC.out.set1 (by omega) o).1).trans rfl;have p3:∀ o,(w2.setB (w.heap.size+1) o).cell? ⟨w.heap.size,3,none⟩=some _:=fun o=>(zb (i:=3) (HC.out.set1 (by omega) o).1).trans rfl;have p4:∀ o,(w2.setB (w.heap.size+1) o).cell? ⟨w.heap.size,4,none⟩=some _:=fun o=>(zb (i:=4) (HC.out.set1 (by omega) o).1).trans rfl;have p5:∀ o,(w2.setB (w.heap.size+1) o).cell? ⟨w.heap.size,5,none⟩=some _:=fun o=>(zb (i:=5) (HC.out.set1 (by omega) o).1).trans rfl;have e1:=ze HR.out.1;rw [<- e1];clear e1)
  (repeat (first|go_skip|go_guarded|go_step|go_upon|go_back))
  rw [ze HR.out.1]
  clear p0 p3 p4 p5 y0 y1
  ((((go_at_call 151;refine (IC.use (zif _ (by omega) (by omega) _ (by omega) (by omega) _ (by omega) (by omega)) (fun _=>True) (fun _ _=>trivial) (by first|exact HL.out|exact HL.out.last) HM.out).mono ?_));(rintro e w2 ⟨x,m2,fp2,rfl,hx,hm,ht,HL2⟩);(have HM':=Hd hm;have HT':=Hd (HT.out.trans ht);(try (have HC':=Hd (HC.out.step ht);clear HC;have HC:=HC';clear HC'));(try (have HR':=Hd (HR.out.step ht);clear HR;have HR:=HR';clear HR'));clear HM HT hm ht;have HM:=HM';have HT:=HT';clear HM' HT';clear HL;have HL:=Hd HL2;clear HL2;(try simp only []))))
  (have y1:=za HR.out.1;have y0:=za HC.out.1;have p0:∀ o,(w2.setB (w.heap.size+1) o).cell? ⟨w.heap.size,0,none⟩=some _:=fun o=>(zb (i:=0) (HC.out.set1 (by omega) o).1).trans rfl;have p3:∀ o,(w2.setB (w.heap.size+1) o).cell? ⟨w.heap.size,3,none⟩=some _:=fun o=>(zb (i:=3) (HC.out.set1 (by omega) o).1).trans rfl;have p4:∀ o,(w2.setB (w.heap.size+1) o).cell? ⟨w.heap.size,4,none⟩=some _:=fun o=>(zb (i:=4) (HC.out.set1 (by omega) o).1).trans rfl;have p5:∀ o,(w2.setB (w.heap.size+1) o).cell? ⟨w.heap.size,5,none⟩=some _:=fun o=>(zb (i:=5) (HC.out.set1 (by omega) o).1).trans rfl;have e1:=ze HR.out.1;rw [<- e1];clear e1)
  ((repeat (first|go_skip|go_guarded|go_step|go_upon|go_back));obtain ⟨rfl,rfl⟩:=HL.out.end;refine bodyPost_ret (by simp [results,Tryz.results74,go_sem,y1];rfl) rfl ?_;exact ⟨rfl,_,HM.out.set1 HR.out.2 (by have:=HB0.out;omega) _,HT.out.set1 (by omega) _⟩)
 ·(have y1:=za HR.out.1;have y0:=za HC.out.1;have p0:∀ o,(w2.setB (w.heap.size+1) o).cell? ⟨w.heap.size,0,none⟩=some _:=fun o=>(zb (i:=0) (HC.out.set1 (by omega) o).1).trans rfl;have p3:∀ o,(w2.setB (w.heap.size+1) o).cell? ⟨w.heap.size,3,none⟩=some _:=fun o=>(zb (i:=3) (HC.out.set1 (by omega) o).1).trans rfl;have p4:∀ o,(w2.setB (w.heap.size+1) o).cell? ⟨w.heap.size,4,none⟩=some _:=fun o=>(zb (i:=4) (HC.out.set1 (by omega) o).1).trans rfl;have p5:∀ o,(w2.setB (w.heap.size+1) o).cell? ⟨w.heap.size,5,none⟩=some _:=fun o=>(zb (i:=5) (HC.out.set1 (by omega) o).1).trans rfl;have e1:=ze HR.out.1;rw [<- e1];clear e1)
  (repeat (first|go_skip|go_guarded|go_step|go_upon|go_back))
  rw [ze HR.out.1]
  clear p0 p3 p4 p5 y0 y1
  ((((go_at_call 152;refine (IC.use (zhh _ (by omega) (by omega) _ (by omega) (by omega) _ (by omega)) (fun _=>True) (fun _ _=>trivial) (by first|exact HL.out|exact HL.out.last) HM.out).mono ?_));(rintro e w2 ⟨x,m2,fp2,rfl,hx,hm,ht,HL2⟩);(have HM':=Hd hm;have HT':=Hd (HT.out.trans ht);(try (have HC':=Hd (HC.out.step ht);clear HC;have HC:=HC';clear HC'));(try (have HR':=Hd (HR.out.step ht);clear HR;have HR:=HR';clear HR'));clear HM HT hm ht;have HM:=HM';have HT:=HT';clear HM' HT';clear HL;have HL:=Hd HL2;clear HL2;(try simp only []))))
  (have y1:=za HR.out.1;have y0:=za HC.out.1;have p0:∀ o,(w2.setB (w.heap.size+1) o).cell? ⟨w.heap.size,0,none⟩=some _:=fun o=>(zb (i:=0) (HC.out.set1 (by omega) o).1).trans rfl;have p3:∀ o,(w2.setB (w.heap.size+1) o).cell? ⟨w.heap.size,3,none⟩=some _:=fun o=>(zb (i:=3) (HC.out.set1 (by omega) o).1).trans rfl;have p4:∀ o,(w2.setB (w.heap.size+1) o).cell? ⟨w.heap.size,4,none⟩=some _:=fun o=>(zb (i:=4) (HC.out.set1 (by omega) o).1).trans rfl;have p5:∀ o,(w2.setB (w.heap.size+1) o).cell? ⟨w.heap.size,5,none⟩=some _:=fun o=>(zb (i:=5) (HC.out.set1 (by omega) o).1).trans rfl;have e1:=ze HR.out.1;rw [<- e1];clear e1)
  ((repeat (first|go_skip|go_guarded|go_step|go_upon|go_back));obtain ⟨rfl,rfl⟩:=HL.out.end;refine bodyPost_ret (by simp [results,Tryz.results74,go_sem,y1];rfl) rfl ?_;exact ⟨rfl,_,HM.out.set1 HR.out.2 (by have:=HB0.out;omega) _,HT.out.set1 (by omega) _⟩)
 ·(have y1:=za HR.out.1;have y0:=za HC.out.1;have p0:∀ o,(w2.setB (w.heap.size+1) o).cell? ⟨w.heap.size,0,none⟩=some _:=fun o=>(zb (i:=0) (HC.out.set1 (by omega) o).1).trans rfl;have p3:∀ o,(w2.setB (w.heap.size+1) o).cell? ⟨w.heap.size,3,none⟩=some _:=fun o=>(zb (i:=3) (HC.out.set1 (by omega) o).1).trans rfl;have p4:∀ o,(w2.setB (w.heap.size+1) o).cell? ⟨w.heap.size,4,none⟩=some _:=fun o=>(zb (i:=4) (HC.out.set1 (by omega) o).1).trans rfl;have p5:∀ o,(w2.setB (w.heap.size+1) o).cell? ⟨w.heap.size,5,none⟩=some _:=fun o=>(zb (i:=5) (HC.out.set1 (by omega) o).1).trans rfl;have e1:=ze HR.out.1;rw [<- e1];clear e1)
  (repeat (first|go_skip|go_guarded|go_step|go_upon|go_back))
  rw [ze HR.out.1]
  clear p0 p3 p4 p5 y0 y1
  ((((go_at_call 153;refine (IC.use (zjm _ (by omega) (by omega) _ (by omega) (by omega)) (fun _=>True) (fun _ _=>trivial) (by first|exact HL.out|exact HL.out.last) HM.out).mono ?_));(rintro e w2 ⟨x,m2,fp2,rfl,hx,hm,ht,HL2⟩);(have HM':=Hd hm;have HT':=Hd (HT.out.trans ht);(try (have HC':=Hd (HC.out.step ht);clear HC;have HC:=HC';clear HC'));(try (have HR':=Hd (HR.out.step ht);clear HR;have HR:=HR';clear HR'));clear HM HT hm ht;have HM:=HM';have HT:=HT';clear HM' HT';clear HL;have HL:=Hd HL2;clear HL2;(try simp only []))))
  (have y1:=za HR.out.1;have y0:=za HC.out.1;have p0:∀ o,(w2.setB (w.heap.size+1) o).cell? ⟨w.heap.size,0,none⟩=some _:=fun o=>(zb (i:=0) (HC.out.set1 (by omega) o).1).trans rfl;have p3:∀ o,(w2.setB (w.heap.size+1) o).cell? ⟨w.heap.size,3,none⟩=some _:=fun o=>(zb (i:=3) (HC.out.set1 (by omega) o).1).trans rfl;have p4:∀ o,(w2.setB (w.heap.size+1) o).cell? ⟨w.heap.size,4,none⟩=some _:=fun o=>(zb (i:=4) (HC.out.set1 (by omega) o).1).trans rfl;have p5:∀ o,(w2.setB (w.heap.size+1) o).cell? ⟨w.heap.size,5,none⟩=some _:=fun o=>(zb (i:=5) (HC.out.set1 (by omega) o).1).trans rfl;have e1:=ze HR.out.1;rw [<- e1];clear e1)
  ((repeat (first|go_skip|go_guarded|go_step|go_upon|go_back));obtain ⟨rfl,rfl⟩:=HL.out.end;refine bodyPost_ret (by simp [results,Tryz.results74,go_sem,y1];rfl) rfl ?_;exact ⟨rfl,_,HM.out.set1 HR.out.2 (by have:=HB0.out;omega) _,HT.out.set1 (by omega) _⟩)
theorem zih (name:ByteArray) (namez:name.size<=1048576):IC 69 (fun x=>#[x,.string name]) (K.makeName name) (fun p=>.tuple #[.int .i64 p.1,.int .i64 p.2]):=by
 refine zdT (fun w0 w fp b m res mres HM HT HL=>?_)
 unfold K.makeName at HL
 have hc:¬ 9223372036854775807<2+name.size:=by omega
 rcases zaz name with ⟨hn,hz⟩|hn
 all_goals (
  rw [hn] at HL
  have HN:=Hd hn;clear hn)
 all_goals ((repeat' ((rcases HL.out.ite with ⟨hg,HL2⟩|⟨hg,HL2⟩<;>(clear HL;have HL:=Hd HL2;clear HL2;try exact absurd hg (by decide))))))
 all_goals (go_enter Tryz.func69,Tryz.ntmps69;all_goals ((repeat' (first|go_skip|go_guarded|go_step|go_upon|go_back|((first|((first|(go_at_call 142;refine (IC.use (zci _ (by omega)) (fun a=>0<=a/\a<=999) (fun m _=>zbf _ m) (by first|exact HL.out|exact HL.out.last) HM.out).mono ?_)|(go_at_call 143;refine (IC.use (zgT _) (fun a=>0<=a/\a<=999) (fun m _=>zem _ m) (by first|exact HL.out|exact HL.out.last) HM.out).mono ?_)|(go_at_call 144;refine (IC.use (zab _ _ (by omega) (by omega)) (fun _=>True) (fun _ _=>trivial) (by first|exact HL.out|exact HL.out.last) HM.out).mono ?_)|(go_at_call 138;refine (IC.use (zav _) (fun a=>0<=a/\a<=999) (fun m _=>zac _ m) (by first|exact HL.out|exact HL.out.last) HM.out).mono ?_));(rintro e w2 ⟨x,m2,fp2,rfl,hx,hm,ht,HL2⟩);(replace HM:=Hd hm;replace HT:=Hd (HT.out.trans ht);clear hm ht;clear HL;have HL:=Hd HL2;clear HL2;(try simp only []);(all_goals ((repeat' ((rcases HL.out.ite with ⟨hg,HL2⟩|⟨hg,HL2⟩<;>(clear HL;have HL:=Hd HL2;clear HL2))))))))|((first|(go_at_call 141;refine (zcj _ _ (by omega)).mono ?_)|(go_at_call 145;refine (zbW _ (by omega) _).mono ?_));rintro e w2 ⟨rfl,rfl⟩;(try simp only []);(try rw [HN.out]);(try rw [HP.out]))|((go_at_call 146;refine (zc6 _ (by omega) (by omega) _ HM.out.globs).mono ?_);rintro e w2 ⟨rfl,hb⟩;(replace HM:=Hd (HM.out.below hb);replace HT:=Hd (HT.out.trans (IT.below hb));clear hb;(try simp only [])))))|(exfalso;(simp only [bne_eq_false_iff_eq,beq_eq_false_iff_ne,beq_iff_eq,bne_iff_ne] at *);omega)))))
 all_goals (obtain ⟨rfl,rfl⟩:=HL.out.end;((refine bodyPost_ret (by simp [results,Tryz.results69,go_sem];rfl) rfl ?_));exact ⟨rfl,_,HM.out,HT.out⟩)
theorem zij (na:ByteArray) (naz:na.size<=1048576) (nb:ByteArray) (nbz:nb.size<=1048576):IC 70 (fun x=>#[x,.string na,.string nb]) (K.linkName na nb) (fun n=>.int .i64 n):=by
 refine zdT (fun w0 w fp b m res mres HM HT HL=>?_)
 unfold K.linkName at HL
 have hc:¬ 9223372036854775807<2+na.size:=by omega
 have hd:¬ 9223372036854775807<2+nb.size:=by omega
 rcases zaz na with ⟨hn,hz⟩|hn
 all_goals (
  rw [hn] at HL
  have HN:=Hd hn;clear hn)
 all_goals rcases zaz nb with ⟨hn,hy⟩|hn
 all_goals (
  rw [hn] at HL
  have HP:=Hd hn;clear hn)
 all_goals ((repeat' ((rcases HL.out.ite with ⟨hg,HL2⟩|⟨hg,HL2⟩<;>(clear HL;have HL:=Hd HL2;clear HL2;try exact absurd hg (by decide))))))
 all_goals (go_enter Tryz.func70,Tryz.ntmps70;all_goals ((repeat' (first|go_skip|go_guarded|go_step|go_upon|go_back|((first|((first|(go_at_call 142;refine (IC.use (zci _ (by omega)) (fun a=>0<=a/\a<=999) (fun m _=>zbf _ m) (by first|exact HL.out|exact HL.out.last) HM.out).mono ?_)|(go_at_call 144;refine (IC.use (zab _ _ (by omega) (by omega)) (fun _=>True) (fun _ _=>trivial) (by first|exact HL.out|exact HL.out.last) HM.out).mono ?_)|(go_at_call 138;refine (IC.use (zav _) (fun a=>0<=a/\a<=999) (fun m _=>zac _ m) (by first|exact HL.out|exact HL.out.last) HM.out).mono ?_));(rintro e w2 ⟨x,m2,fp2,rfl,hx,hm,ht,HL2⟩);(replace HM:=Hd hm;replace HT:=Hd (HT.out.trans ht);clear hm ht;clear HL;have HL:=Hd HL2;clear HL2;(try simp only []);(all_goals ((repeat' ((rcases HL.out.ite with ⟨hg,HL2⟩|⟨hg,HL2⟩<;>(clear HL;have HL:=Hd HL2;clear HL2))))))))|((first|(go_at_call 141;refine (zcj _ _ (by omega)).mono ?_)|(go_at_call 145;refine (zbW _ (by omega) _).mono ?_));rintro e w2 ⟨rfl,rfl⟩;(try simp only []);(try rw [HN.out]);(try rw [HP.out]))|((go_at_call 146;refine (zc6 _ (by omega) (by omega) _ HM.out.globs).mono ?_);rintro e w2 ⟨rfl,hb⟩;(replace HM:=Hd (HM.out.below hb);replace HT:=Hd (HT.out.trans (IT.below hb));clear hb;(try simp only [])))))|(exfalso;(simp only [bne_eq_false_iff_eq,beq_eq_false_iff_ne,beq_iff_eq,bne_iff_ne] at *);omega)))))
 all_goals (obtain ⟨rfl,rfl⟩:=HL.out.end;((refine bodyPost_ret (by simp [results,Tryz.results70,go_sem];rfl) rfl ?_));exact ⟨rfl,_,HM.out,HT.out⟩)
theorem zdr (name:ByteArray) (namez:name.size<=1048576):IC 71 (fun x=>#[x,.string name]) (K.unlinkName name) (fun n=>.int .i64 n):=by
 refine zdT (fun w0 w fp b m res mres HM HT HL=>?_)
 unfold K.unlinkName at HL
 have hc:¬ 9223372036854775807<2+name.size:=by omega
 rcases zaz name with ⟨hn,hz⟩|hn
 all_goals (
  rw [hn] at HL
  have HN:=Hd hn;clear hn)
 all_goals ((repeat' ((rcases HL.out.ite with ⟨hg,HL2⟩|⟨hg,HL2⟩<;>(clear HL;have HL:=Hd HL2;clear HL2;try exact absurd hg (by decide))))))
 all_goals (go_enter Tryz.func71,Tryz.ntmps71;all_goals ((repeat' (first|go_skip|go_guarded|go_step|go_upon|go_back|((first|((first|(go_at_call 148;refine (IC.use (zgO _) (fun _=>True) (fun _ _=>trivial) (by first|exact HL.out|exact HL.out.last) HM.out).mono ?_)|(go_at_call 147;refine (IC.use (zaT _ _) (fun _=>True) (fun _ _=>trivial) (by first|exact HL.out|exact HL.out.last) HM.out).mono ?_)|(go_at_call 142;refine (IC.use (zci _ (by omega)) (fun a=>0<=a/\a<=999) (fun m _=>zbf _ m) (by first|exact HL.out|exact HL.out.last) HM.out).mono ?_)|(go_at_call 144;refine (IC.use (zab _ _ (by omega) (by omega)) (fun _=>True) (fun _ _=>trivial) (by first|exact HL.out|exact HL.out.last) HM.out).mono ?_)|(go_at_call 138;refine (IC.use (zav _) (fun a=>0<=a/\a<=999) (fun m _=>zac _ m) (by first|exact HL.out|exact HL.out.last) HM.out).mono ?_));(rintro e w2 ⟨x,m2,fp2,rfl,hx,hm,ht,HL2⟩);(replace HM:=Hd hm;replace HT:=Hd (HT.out.trans ht);clear hm ht;clear HL;have HL:=Hd HL2;clear HL2;(try simp only []);(all_goals ((repeat' ((rcases HL.out.ite with ⟨hg,HL2⟩|⟨hg,HL2⟩<;>(clear HL;have HL:=Hd HL2;clear HL2))))))))|((first|(go_at_call 141;refine (zcj _ _ (by omega)).mono ?_)|(go_at_call 145;refine (zbW _ (by omega) _).mono ?_));rintro e w2 ⟨rfl,rfl⟩;(try simp only []);(try rw [HN.out]);(try rw [HP.out]))|((first|(go_at_call 149;refine (zah _ _ _ _ HM.out.globs (by first|omega|decide) (by first|omega|decide) (by omega) (by omega)).mono ?_)|(go_at_call 146;refine (zc6 _ (by omega) (by omega) _ HM.out.globs).mono ?_));rintro e w2 ⟨rfl,hb⟩;(replace HM:=Hd (HM.out.below hb);replace HT:=Hd (HT.out.trans (IT.below hb));clear hb;(try simp only [])))))|(exfalso;(simp only [bne_eq_false_iff_eq,beq_eq_false_iff_ne,beq_iff_eq,bne_iff_ne] at *);omega)))))
 all_goals (obtain ⟨rfl,rfl⟩:=HL.out.end;((refine bodyPost_ret (by simp [results,Tryz.results71,go_sem];rfl) rfl ?_));exact ⟨rfl,_,HM.out,HT.out⟩)
theorem zgQ (na:ByteArray) (naz:na.size<=1048576) (nb:ByteArray) (nbz:nb.size<=1048576):IC 72 (fun x=>#[x,.string na,.string nb]) (K.renameName na nb) (fun n=>.int .i64 n):=by
 refine zdT (fun w0 w fp b m res mres HM HT HL=>?_)
 unfold K.renameName at HL
 have hc:¬ 9223372036854775807<2+na.size:=by omega
 have hd:¬ 9223372036854775807<2+nb.size:=by omega
 rcases zaz na with ⟨hn,hz⟩|hn
 all_goals (
  rw [hn] at HL
  have HN:=Hd hn;clear hn)
 all_goals rcases zaz nb with ⟨hn,hy⟩|hn
 all_goals (
  rw [hn] at HL
  have HP:=Hd hn;clear hn)
 all_goals ((repeat' ((rcases HL.out.ite with ⟨hg,HL2⟩|⟨hg,HL2⟩<;>(clear HL;have HL:=Hd HL2;clear HL2;try exact absurd hg (by decide))))))
 all_goals (go_enter Tryz.func72,Tryz.ntmps72;all_goals ((repeat' (first|go_skip|go_guarded|go_step|go_upon|go_back|((first|((first|(go_at_call 71;refine (IC.use (zdr _ (by omega)) (fun _=>True) (fun _ _=>trivial) (by first|exact HL.out|exact HL.out.last) HM.out).mono ?_)|(go_at_call 147;refine (IC.use (zaT _ _) (fun _=>True) (fun _ _=>trivial) (by first|exact HL.out|exact HL.out.last) HM.out).mono ?_)|(go_at_call 142;refine (IC.use (zci _ (by omega)) (fun a=>0<=a/\a<=999) (fun m _=>zbf _ m) (by first|exact HL.out|exact HL.out.last) HM.out).mono ?_)|(go_at_call 144;refine (IC.use (zab _ _ (by omega) (by omega)) (fun _=>True) (fun _ _=>trivial) (by first|exact HL.out|exact HL.out.last) HM.out).mono ?_));(rintro e w2 ⟨x,m2,fp2,rfl,hx,hm,ht,HL2⟩);(replace HM:=Hd hm;replace HT:=Hd (HT.out.trans ht);clear hm ht;clear HL;have HL:=Hd HL2;clear HL2;(try simp only []);(all_goals ((repeat' ((rcases HL.out.ite with ⟨hg,HL2⟩|⟨hg,HL2⟩<;>(clear HL;have HL:=Hd HL2;clear HL2))))))))|((first|(go_at_call 141;refine (zcj _ _ (by omega)).mono ?_)|(go_at_call 145;refine (zbW _ (by omega) _).mono ?_));rintro e w2 ⟨rfl,rfl⟩;(try simp only []);(try rw [HN.out]);(try rw [HP.out]))))|(exfalso;(simp only [bne_eq_false_iff_eq,beq_eq_false_iff_ne,beq_iff_eq,bne_iff_ne] at *);omega)))))
 all_goals (obtain ⟨rfl,rfl⟩:=HL.out.end;((refine bodyPost_ret (by simp [results,Tryz.results72,go_sem];rfl) rfl ?_));exact ⟨rfl,_,HM.out,HT.out⟩)
end Go.Proofs.YtpnoehpmgflibaaGreatDoor
