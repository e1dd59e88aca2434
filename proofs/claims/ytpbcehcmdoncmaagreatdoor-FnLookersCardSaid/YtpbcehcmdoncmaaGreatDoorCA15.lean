/- Texts of this claim, merged: the walks and what they stand on. Each condition stands in its theorem. -/
import Derived.Test.YtpbcehcmdoncmaaGreatDoorCA10
set_option linter.unusedVariables false
set_option linter.unusedSimpArgs false
set_option maxRecDepth 100000
set_option maxHeartbeats 8000000
namespace Go.Proofs.YtpbcehcmdoncmaaGreatDoor
open Go.ChangeShapes Go.WideShapes Go.ChangeAt Go.RowKit
theorem ze4 (id:Int) (id0 : -9223372036854775808<=id) (id1:id<=9223372036854775807) (page:Int) (page0 : -9223372036854775808<=page) (page1:page<=9223372036854775807):SC 111 (fun x=>#[x,.int .i64 id,.int .i64 page]) (K.loadPage id page) (fun v' p=>.tuple #[v',.string p.1,.int .i64 p.2]):=by
 refine zdM (fun w m a0 c0 a1 c1 a2 c2 res mres H0 H1 H2 HL=>?_)
 unfold K.loadPage at HL
 have hk:=zas id id0 id1
 simp only [zeY] at HL
 ((repeat' ((rcases HL.out.ite with ⟨hg,HL2⟩|⟨hg,HL2⟩<;>(clear HL;have HL:=Hd HL2;clear HL2)))))
 all_goals (go_enter Tryz.func111,Tryz.ntmps111;((repeat (first|((with_reducible refine zcj (fun W0=>Below w.heap.size w W0/\W0.heap[w.heap.size]?=some (.cells #[.slice a0 m.cells.length c0,.slice a1 m.rd.length c1,.slice a2 m.wr.length c2] 52)/\W0.heap[w.heap.size+1]?=some (.cells #[.slice none 0 0,.slice none 0 0,.slice none 0 0] 52)) ?_ ?_);(· with_reducible exact zO w (.cells #[.slice a0 m.cells.length c0,.slice a1 m.rd.length c1,.slice a2 m.wr.length c2] 52) (.cells #[.slice none 0 0,.slice none 0 0,.slice none 0 0] 52) (by repeat (first|with_reducible exact Below.refl _ _|with_reducible apply Below.ofAlloc))))|go_skip|go_guarded|go_step|go_upon|go_back));(rintro w1 ⟨B,P,R⟩;have Z:=za R;have e1:=zi P R;rw [<- e1];have HW0:=Hd (fun o r=>H0.out.below (zI B o r));have HW1:=Hd (fun o r=>H1.out.below (zI B o r));have HW2:=Hd (fun o r=>H2.out.below (zI B o r));have Zp:=Nat.lt_of_succ_lt Z;clear e1 P R H0 H1 H2));all_goals ((repeat' (first|go_skip|go_guarded|go_step|go_upon|go_back|((first|((go_at_call 65;refine (zH _ _ _ _).mono ?_);rintro e w2 ⟨rfl,rfl⟩;(try simp only []);(try rw [HN.out]);(try rw [HM.out]);(try simp (disch:=omega) only [zaE,zaY]))|((go_at_call 145;refine (zcA _ _ (by omega)).mono ?_);rintro e w2 ⟨b,hun,rfl,hb⟩;(have q0:=(HW0.out _ _).below hb;have q1:=(HW1.out _ _).below hb;have q2:=(HW2.out _ _).below hb;obtain ⟨B',P,R,Z',Zx⟩:=zD B Z hb;clear Zx;clear hb;(clear HW0 HW1 HW2 B Z;have e1:=zi P R;rw [<- e1];clear e1;have HW0:=Hd (fun o r=>zg (zf _) q0 P R o r);have HW1:=Hd (fun o r=>zg (zb _) q1 P R o r);have HW2:=Hd (fun o r=>zg (zb _) q2 P R o r);have B:=B';have Z:=Z';(try clear Zp);have Zp:=Nat.lt_of_succ_lt Z;clear B' Z' P R q0 q1 q2;(try simp only [])));(rcases hun with rfl|hun<;>first|((try rw [hun] at HL);(try rw [hun]);cases b)|skip))))|(refine zh (id:=3) [(0,true),(1,true),(3,true),(2,false),(4,false),(5,false),(6,true),(7,true),(8,true),(9,false),(10,false)] 6 (by kernel_rfl) (by kernel_rfl) ?_;(repeat (first|(refine zj rfl (fun K hK=>?_);go_simp;refine hK _ ?_;clear hK K)|(refine zr rfl (fun K hK=>?_);go_simp;(first|((first|(go_at_call 149;refine (zbu _ _ (by omega) (by omega)).mono ?_)|(go_at_call 133;refine (zT _ _ _ _ (by first|omega|decide) (by first|omega|decide) (by omega) (by omega)).mono ?_));rintro e w' ⟨rfl,hb⟩;obtain ⟨X,rfl⟩:=hb.ext;clear hb)|((go_at_call 129;refine (SC.use (za9 _) (fun a=>a.size<=1048576) (fun m h=>zaL h.1 _) (by first|exact HL.out|exact HL.out.last) (⟨_,_,_,rfl,by (refine ⟨?_,?_,?_⟩<;>((repeat (first|with_reducible exact HW0.out _ _|with_reducible exact HW1.out _ _|with_reducible exact HW2.out _ _|with_reducible refine RdL.ext ?_ _))))⟩ : MRd _ _ _)).mono ?_);(rintro e w' ⟨v2,x,m2,rfl,hx,hm,hb,HL2⟩);clear HL;have HL:=Hd HL2;clear HL2;obtain ⟨f0,g0,f1,g1,f2,g2,rfl,q0,q1,q2⟩:=hm.form;obtain ⟨X,rfl⟩:=hb.ext;have Q0:=Hd q0;have Q1:=Hd q1;have Q2:=Hd q2;clear hm q0 q1 q2 hb));(try go_simp);refine hK _ _ (by show Sx _ _;(try simp only [<- Array.append_assoc]);repeat (first|with_reducible apply Sx.more|with_reducible apply Sx.ext|with_reducible exact Sx.refl _)) ?_;clear hK K)|(refine zq rfl rfl (fun K hK=>?_);go_simp;refine hK _ _ ?_;clear hK K)));have Q0':=Q0.out;have Q1':=Q1.out;have Q2':=Q2.out;clear Q0 Q1 Q2;(try simp only [zn,zt,Array.append_assoc] at Q0' Q1' Q2');refine zw (fun W0=>Below w.heap.size w W0/\W0.heap[w.heap.size]?=some _/\W0.heap[w.heap.size+1]?=some _/\RdL zu W0 (.slice f0 m2.cells.length g0) m2.cells/\RdL zv W0 (.slice f1 m2.rd.length g1) m2.rd/\RdL zv W0 (.slice f2 m2.wr.length g2) m2.wr/\w.heap.size+1<W0.heap.size) ⟨(zI B _ _).ofExt _,(zo Z _ _ _).1,(zo Z _ _ _).2,zk (zf _) Z Q0' _ _,zk (zb _) Z Q1' _ _,zk (zb _) Z Q2' _ _,za (zo Z _ _ _).2⟩ ?_;clear Q0' Q1' Q2';rintro w3 ⟨B',P,R,q0,q1,q2,Z'⟩;(clear HW0 HW1 HW2 B Z;have e1:=zi P R;rw [<- e1];clear e1;have HW0:=Hd (fun o r=>zg (zf _) q0 P R o r);have HW1:=Hd (fun o r=>zg (zb _) q1 P R o r);have HW2:=Hd (fun o r=>zg (zb _) q2 P R o r);have B:=B';have Z:=Z';(try clear Zp);have Zp:=Nat.lt_of_succ_lt Z;clear B' Z' P R q0 q1 q2);(try (have hmc:=zh0 x hx;(rcases hmc with ⟨hm0,hm1,hmq⟩|⟨hm0,hm1,hm2,hmq⟩|⟨hm0,hm1,hm2,hmq,hm3⟩<;>(rw [hmq] at HL;clear hmq)))))|(exfalso;(simp only [bne_eq_false_iff_eq,beq_eq_false_iff_ne,beq_iff_eq,bne_iff_ne] at *);omega)))))
 all_goals (obtain ⟨rfl,rfl⟩:=HL.out.end;refine bodyPost_ret (by simp [results,Tryz.results111,go_sem,Z];rfl) rfl ?_;exact ⟨_,rfl,⟨_,_,_,rfl,HW0.out _ _,HW1.out _ _,HW2.out _ _⟩,zI B _ _⟩)
theorem zcR (id:Int) (id0 : -9223372036854775808<=id) (id1:id<=9223372036854775807) (place:Int) (place0 : -9223372036854775808<=place) (place1:place<=9223372036854775807):SC 176 (fun x=>#[x,.int .i64 id,.int .i64 place]) (K.block id place) (fun v' t=>.tuple #[v',.string t]):=by
 refine zdM (fun w m a0 c0 a1 c1 a2 c2 res mres H0 H1 H2 HL=>?_)
 unfold K.block at HL
 (skip)
 all_goals (go_enter Tryz.func176,Tryz.ntmps176;((repeat (first|((with_reducible refine zcj (fun W0=>Below w.heap.size w W0/\W0.heap[w.heap.size]?=some (.cells #[.slice a0 m.cells.length c0,.slice a1 m.rd.length c1,.slice a2 m.wr.length c2] 52)/\W0.heap[w.heap.size+1]?=some (.cells #[.slice none 0 0,.slice none 0 0,.slice none 0 0] 52)) ?_ ?_);(· with_reducible exact zO w (.cells #[.slice a0 m.cells.length c0,.slice a1 m.rd.length c1,.slice a2 m.wr.length c2] 52) (.cells #[.slice none 0 0,.slice none 0 0,.slice none 0 0] 52) (by repeat (first|with_reducible exact Below.refl _ _|with_reducible apply Below.ofAlloc))))|go_skip|go_guarded|go_step|go_upon|go_back));(rintro w1 ⟨B,P,R⟩;have Z:=za R;have e1:=zi P R;rw [<- e1];have HW0:=Hd (fun o r=>H0.out.below (zI B o r));have HW1:=Hd (fun o r=>H1.out.below (zI B o r));have HW2:=Hd (fun o r=>H2.out.below (zI B o r));have Zp:=Nat.lt_of_succ_lt Z;clear e1 P R H0 H1 H2));all_goals ((repeat' (first|go_skip|go_guarded|go_step|go_upon|go_back|((((go_at_call 145;refine (zcA _ _ (by omega)).mono ?_);rintro e w2 ⟨b,hun,rfl,hb⟩;(have q0:=(HW0.out _ _).below hb;have q1:=(HW1.out _ _).below hb;have q2:=(HW2.out _ _).below hb;obtain ⟨B',P,R,Z',Zx⟩:=zD B Z hb;clear Zx;clear hb;(clear HW0 HW1 HW2 B Z;have e1:=zi P R;rw [<- e1];clear e1;have HW0:=Hd (fun o r=>zg (zf _) q0 P R o r);have HW1:=Hd (fun o r=>zg (zb _) q1 P R o r);have HW2:=Hd (fun o r=>zg (zb _) q2 P R o r);have B:=B';have Z:=Z';(try clear Zp);have Zp:=Nat.lt_of_succ_lt Z;clear B' Z' P R q0 q1 q2;(try simp only [])));(rcases hun with rfl|hun<;>first|((try rw [hun] at HL);(try rw [hun]);cases b)|skip))))|(refine zh (id:=1) [(0,true),(1,true),(2,true),(3,false),(4,false),(5,true),(6,true),(7,true),(8,false),(9,false)] 5 (by kernel_rfl) (by kernel_rfl) ?_;(repeat (first|(refine zj rfl (fun K hK=>?_);go_simp;refine hK _ ?_;clear hK K)|(refine zr rfl (fun K hK=>?_);go_simp;(first|((go_at_call 179;refine (zbi _ _ _ (by omega) (by omega) (by omega) (by omega)).mono ?_);rintro e w' ⟨rfl,hb⟩;obtain ⟨X,rfl⟩:=hb.ext;clear hb)|((go_at_call 129;refine (SC.use (za9 _) (fun a=>a.size<=1048576) (fun m h=>zaL h.1 _) (by first|exact HL.out|exact HL.out.last) (⟨_,_,_,rfl,by (refine ⟨?_,?_,?_⟩<;>((repeat (first|with_reducible exact HW0.out _ _|with_reducible exact HW1.out _ _|with_reducible exact HW2.out _ _|with_reducible refine RdL.ext ?_ _))))⟩ : MRd _ _ _)).mono ?_);(rintro e w' ⟨v2,x,m2,rfl,hx,hm,hb,HL2⟩);clear HL;have HL:=Hd HL2;clear HL2;obtain ⟨f0,g0,f1,g1,f2,g2,rfl,q0,q1,q2⟩:=hm.form;obtain ⟨X,rfl⟩:=hb.ext;have Q0:=Hd q0;have Q1:=Hd q1;have Q2:=Hd q2;clear hm q0 q1 q2 hb));(try go_simp);refine hK _ _ (by show Sx _ _;repeat (first|with_reducible apply Sx.more|with_reducible apply Sx.ext|with_reducible exact Sx.refl _)) ?_;clear hK K)|(refine zq rfl rfl (fun K hK=>?_);go_simp;refine hK _ _ ?_;clear hK K)));have Q0':=Q0.out;have Q1':=Q1.out;have Q2':=Q2.out;clear Q0 Q1 Q2;(try simp only [zn,zt,Array.append_assoc] at Q0' Q1' Q2');refine zw (fun W0=>Below w.heap.size w W0/\W0.heap[w.heap.size]?=some _/\W0.heap[w.heap.size+1]?=some _/\RdL zu W0 (.slice f0 m2.cells.length g0) m2.cells/\RdL zv W0 (.slice f1 m2.rd.length g1) m2.rd/\RdL zv W0 (.slice f2 m2.wr.length g2) m2.wr/\w.heap.size+1<W0.heap.size) ⟨(zI B _ _).ofExt _,(zo Z _ _ _).1,(zo Z _ _ _).2,zk (zf _) Z Q0' _ _,zk (zb _) Z Q1' _ _,zk (zb _) Z Q2' _ _,za (zo Z _ _ _).2⟩ ?_;clear Q0' Q1' Q2';rintro w3 ⟨B',P,R,q0,q1,q2,Z'⟩;(clear HW0 HW1 HW2 B Z;have e1:=zi P R;rw [<- e1];clear e1;have HW0:=Hd (fun o r=>zg (zf _) q0 P R o r);have HW1:=Hd (fun o r=>zg (zb _) q1 P R o r);have HW2:=Hd (fun o r=>zg (zb _) q2 P R o r);have B:=B';have Z:=Z';(try clear Zp);have Zp:=Nat.lt_of_succ_lt Z;clear B' Z' P R q0 q1 q2))|(exfalso;(simp only [bne_eq_false_iff_eq,beq_eq_false_iff_ne,beq_iff_eq,bne_iff_ne] at *);omega)))))
 all_goals (obtain ⟨rfl,rfl⟩:=HL.out.end;refine bodyPost_ret (by simp [results,Tryz.results176,go_sem,Z];rfl) rfl ?_;exact ⟨_,rfl,⟨_,_,_,rfl,HW0.out _ _,HW1.out _ _,HW2.out _ _⟩,zI B _ _⟩)
theorem zfE (id:Int) (id0 : -9223372036854775808<=id) (id1:id<=9223372036854775807) (place:Int) (place0 : -9223372036854775808<=place) (place1:place<=9223372036854775807) (text:ByteArray) (textz:text.size<=1048576):SC 177 (fun x=>#[x,.int .i64 id,.int .i64 place,.string text]) (K.lay (K.blockKey id place) (zf8 text)) (fun v' _=>v'):=by
 refine zdM (fun w m a0 c0 a1 c1 a2 c2 res mres H0 H1 H2 HL=>?_)
 go_enter Tryz.func177,Tryz.ntmps177
 (try simp only [])
 ((repeat (first|((with_reducible refine zcj (fun W0=>Below w.heap.size w W0/\W0.heap[w.heap.size]?=some (.cells #[.slice a0 m.cells.length c0,.slice a1 m.rd.length c1,.slice a2 m.wr.length c2] 52)/\W0.heap[w.heap.size+1]?=some (.cells #[.slice none 0 0,.slice none 0 0,.slice none 0 0] 52)) ?_ ?_);(· with_reducible exact zO w (.cells #[.slice a0 m.cells.length c0,.slice a1 m.rd.length c1,.slice a2 m.wr.length c2] 52) (.cells #[.slice none 0 0,.slice none 0 0,.slice none 0 0] 52) (by repeat (first|with_reducible exact Below.refl _ _|with_reducible apply Below.ofAlloc))))|go_skip|go_guarded|go_step|go_upon|go_back));(rintro w1 ⟨B,P,R⟩;have Z:=za R;have e1:=zi P R;rw [<- e1];have HW0:=Hd (fun o r=>H0.out.below (zI B o r));have HW1:=Hd (fun o r=>H1.out.below (zI B o r));have HW2:=Hd (fun o r=>H2.out.below (zI B o r));have Zp:=Nat.lt_of_succ_lt Z;clear e1 P R H0 H1 H2))
 ((repeat' (first|go_skip|go_guarded|go_step|go_upon|go_back|(((((go_at_call 143;refine (zfi _ _ (by omega)).mono ?_));rintro e w2 ⟨rfl,hb⟩;(have q0:=(HW0.out _ _).below hb;have q1:=(HW1.out _ _).below hb;have q2:=(HW2.out _ _).below hb;obtain ⟨B',P,R,Z',Zx⟩:=zD B Z hb;clear Zx;clear hb;(clear HW0 HW1 HW2 B Z;have e1:=zi P R;rw [<- e1];clear e1;have HW0:=Hd (fun o r=>zg (zf _) q0 P R o r);have HW1:=Hd (fun o r=>zg (zb _) q1 P R o r);have HW2:=Hd (fun o r=>zg (zb _) q2 P R o r);have B:=B';have Z:=Z';(try clear Zp);have Zp:=Nat.lt_of_succ_lt Z;clear B' Z' P R q0 q1 q2;(try simp only []))))))|(refine zh (id:=2) [(0,true),(1,true),(2,true),(4,true),(3,false),(5,false),(6,false)] 6 (by kernel_rfl) (by kernel_rfl) ?_;(repeat (first|(refine zj rfl (fun K hK=>?_);go_simp;refine hK _ ?_;clear hK K)|(refine zr rfl (fun K hK=>?_);go_simp;(first|(((go_at_call 179;refine (zbi _ _ _ (by omega) (by omega) (by omega) (by omega)).mono ?_));rintro e w' ⟨rfl,hb⟩;obtain ⟨X,rfl⟩:=hb.ext;clear hb)|((go_at_call 131;refine (SC.use (zag _ _) (fun _=>True) (fun _ _=>trivial) (by first|exact HL.out|exact HL.out.last) (⟨_,_,_,rfl,by (refine ⟨?_,?_,?_⟩<;>((repeat (first|with_reducible exact HW0.out _ _|with_reducible exact HW1.out _ _|with_reducible exact HW2.out _ _|with_reducible refine RdL.ext ?_ _))))⟩ : MRd _ _ _)).mono ?_);(rintro e w' ⟨v2,x,m2,rfl,hx,hm,hb,HL2⟩);clear HL;have HL:=Hd HL2;clear HL2;obtain ⟨f0,g0,f1,g1,f2,g2,rfl,q0,q1,q2⟩:=hm.form;obtain ⟨X,rfl⟩:=hb.ext;have Q0:=Hd q0;have Q1:=Hd q1;have Q2:=Hd q2;clear hm q0 q1 q2 hb));(try go_simp);refine hK _ _ (by show Sx _ _;repeat (first|with_reducible apply Sx.more|with_reducible apply Sx.ext|with_reducible exact Sx.refl _)) ?_;clear hK K)|(refine zq rfl rfl (fun K hK=>?_);go_simp;refine hK _ _ ?_;clear hK K)));have Q0':=Q0.out;have Q1':=Q1.out;have Q2':=Q2.out;clear Q0 Q1 Q2;(try simp only [zn,zt,Array.append_assoc] at Q0' Q1' Q2');refine zw (fun W0=>Below w.heap.size w W0/\W0.heap[w.heap.size]?=some _/\W0.heap[w.heap.size+1]?=some _/\RdL zu W0 (.slice f0 m2.cells.length g0) m2.cells/\RdL zv W0 (.slice f1 m2.rd.length g1) m2.rd/\RdL zv W0 (.slice f2 m2.wr.length g2) m2.wr/\w.heap.size+1<W0.heap.size) ⟨(zI B _ _).ofExt _,(zo Z _ _ _).1,(zo Z _ _ _).2,zk (zf _) Z Q0' _ _,zk (zb _) Z Q1' _ _,zk (zb _) Z Q2' _ _,za (zo Z _ _ _).2⟩ ?_;clear Q0' Q1' Q2';rintro w3 ⟨B',P,R,q0,q1,q2,Z'⟩;(clear HW0 HW1 HW2 B Z;have e1:=zi P R;rw [<- e1];clear e1;have HW0:=Hd (fun o r=>zg (zf _) q0 P R o r);have HW1:=Hd (fun o r=>zg (zb _) q1 P R o r);have HW2:=Hd (fun o r=>zg (zb _) q2 P R o r);have B:=B';have Z:=Z';(try clear Zp);have Zp:=Nat.lt_of_succ_lt Z;clear B' Z' P R q0 q1 q2))|(exfalso;(simp only [bne_eq_false_iff_eq,beq_eq_false_iff_ne,beq_iff_eq,bne_iff_ne] at *);omega))))
 all_goals (obtain ⟨rfl,rfl⟩:=HL.out.end;refine bodyPost_ret (by simp [results,Tryz.results177,go_sem,Z];rfl) rfl ?_;exact ⟨_,rfl,⟨_,_,_,rfl,HW0.out _ _,HW1.out _ _,HW2.out _ _⟩,zI B _ _⟩)
def zav (x lo hi:Int):Int:=if hi<lo then lo else if x<lo then lo else if hi<x then hi else x
theorem zhQ (x lo hi:Int) (w:World) :
  Calls Tryz.prog 178 #[.int .i64 x,.int .i64 lo,.int .i64 hi] w fun e w'=>e=.returned (.int .i64 (zav x lo hi))/\w'=w:=by
 by_cases h0:hi<lo
 ·by_cases h1:x<hi
  ·have hq:zav x lo hi=lo:=by unfold zav;(repeat (rw [if_pos (by omega)]))
   rw [hq]
   clear hq
   go_enter Tryz.func178,Tryz.ntmps178
   go_wp2
   all_goals go_ret
   all_goals exact ⟨congrArg (fun z=>Ending.returned (.int .i64 z)) (by omega),rfl⟩
  ·by_cases h2:hi<x
   ·have hq:zav x lo hi=lo:=by unfold zav;(repeat (rw [if_pos (by omega)]))
    rw [hq]
    clear hq
    go_enter Tryz.func178,Tryz.ntmps178
    go_wp2
    all_goals go_ret
    all_goals exact ⟨congrArg (fun z=>Ending.returned (.int .i64 z)) (by omega),rfl⟩
   ·have hq:zav x lo hi=lo:=by unfold zav;(repeat (rw [if_pos (by omega)]))
    rw [hq]
    clear hq
    go_enter Tryz.func178,Tryz.ntmps178
    go_wp2
    all_goals go_ret
    all_goals exact ⟨congrArg (fun z=>Ending.returned (.int .i64 z)) (by omega),rfl⟩
 ·by_cases h1:x<lo
  ·have hq:zav x lo hi=lo:=by unfold zav;(repeat (first|rw [if_pos (by omega)]|rw [if_neg (by omega)]))
   rw [hq]
   clear hq
   go_enter Tryz.func178,Tryz.ntmps178
   go_wp2
   all_goals go_ret
   all_goals exact ⟨congrArg (fun z=>Ending.returned (.int .i64 z)) (by omega),rfl⟩
  ·by_cases h2:hi<x
   ·have hq:zav x lo hi=hi:=by unfold zav;(repeat (first|rw [if_pos (by omega)]|rw [if_neg (by omega)]))
    rw [hq]
    clear hq
    go_enter Tryz.func178,Tryz.ntmps178
    go_wp2
    all_goals go_ret
    all_goals exact ⟨congrArg (fun z=>Ending.returned (.int .i64 z)) (by omega),rfl⟩
   ·have hq:zav x lo hi=x:=by unfold zav;(repeat (rw [if_neg (by omega)]))
    rw [hq]
    clear hq
    go_enter Tryz.func178,Tryz.ntmps178
    go_wp2
    all_goals go_ret
    all_goals exact ⟨congrArg (fun z=>Ending.returned (.int .i64 z)) (by omega),rfl⟩
end Go.Proofs.YtpbcehcmdoncmaaGreatDoor
