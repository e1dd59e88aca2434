/- Texts of this claim, merged: the walks and what they stand on. Each condition stands in its theorem. -/
import Derived.Test.YtpnoehpmgflibaaGreatDoorCA10
set_option linter.unusedVariables false
set_option linter.unusedSimpArgs false
set_option maxRecDepth 100000
set_option maxHeartbeats 8000000
namespace Go.Proofs.YtpnoehpmgflibaaGreatDoor
open Go.ChangeShapes Go.WideShapes Go.ChangeAt Go.RowKit
theorem zfR (id:Int) (id0 : -9223372036854775808<=id) (id1:id<=9223372036854775807) (page:Int) (page0 : -9223372036854775808<=page) (page1:page<=9223372036854775807):SC 129 (fun x=>#[x,.int .i64 id,.int .i64 page]) (K.loadPage id page) (fun v' p=>.tuple #[v',.string p.1,.int .i64 p.2]):=by
 refine zeq (fun w m a0 c0 a1 c1 a2 c2 res mres H0 H1 H2 HL=>?_)
 unfold K.loadPage at HL
 have hk:=zaD id id0 id1
 simp only [zfM] at HL
 ((repeat' ((rcases HL.out.ite with ⟨hg,HL2⟩|⟨hg,HL2⟩<;>(clear HL;have HL:=Hd HL2;clear HL2)))))
 all_goals (go_enter Tryz.func129,Tryz.ntmps129;((repeat (first|((with_reducible refine zcK (fun W0=>Below w.heap.size w W0/\W0.heap[w.heap.size]?=some (.cells #[.slice a0 m.cells.length c0,.slice a1 m.rd.length c1,.slice a2 m.wr.length c2] 54)/\W0.heap[w.heap.size+1]?=some (.cells #[.slice none 0 0,.slice none 0 0,.slice none 0 0] 54)) ?_ ?_);(· with_reducible exact zV w (.cells #[.slice a0 m.cells.length c0,.slice a1 m.rd.length c1,.slice a2 m.wr.length c2] 54) (.cells #[.slice none 0 0,.slice none 0 0,.slice none 0 0] 54) (by repeat (first|with_reducible exact Below.refl _ _|with_reducible apply Below.ofAlloc))))|go_skip|go_guarded|go_step|go_upon|go_back));(rintro w1 ⟨B,P,R⟩;have Z:=za R;have e1:=zj P R;rw [<- e1];have HW0:=Hd (fun o r=>H0.out.below (zP B o r));have HW1:=Hd (fun o r=>H1.out.below (zP B o r));have HW2:=Hd (fun o r=>H2.out.below (zP B o r));have Zp:=Nat.lt_of_succ_lt Z;clear e1 P R H0 H1 H2));all_goals ((repeat' (first|go_skip|go_guarded|go_step|go_upon|go_back|((first|((go_at_call 59;refine (zM _ _ _ _).mono ?_);rintro e w2 ⟨rfl,rfl⟩;(try simp only []);(try rw [HN.out]);(try rw [HM.out]);(try simp (disch:=omega) only [zaP,zbb]))|((go_at_call 192;refine (zc4 _ _ (by omega)).mono ?_);rintro e w2 ⟨b,hun,rfl,hb⟩;(have q0:=(HW0.out _ _).below hb;have q1:=(HW1.out _ _).below hb;have q2:=(HW2.out _ _).below hb;obtain ⟨B',P,R,Z',Zx⟩:=zG B Z hb;clear Zx;clear hb;(clear HW0 HW1 HW2 B Z;have e1:=zj P R;rw [<- e1];clear e1;have HW0:=Hd (fun o r=>zg (zf _) q0 P R o r);have HW1:=Hd (fun o r=>zg (zc _) q1 P R o r);have HW2:=Hd (fun o r=>zg (zc _) q2 P R o r);have B:=B';have Z:=Z';(try clear Zp);have Zp:=Nat.lt_of_succ_lt Z;clear B' Z' P R q0 q1 q2;(try simp only [])));(rcases hun with rfl|hun<;>first|((try rw [hun] at HL);(try rw [hun]);cases b)|skip))))|(refine zi (id:=3) [(0,true),(1,true),(3,true),(2,false),(4,false),(5,false),(6,true),(7,true),(8,true),(9,false),(10,false)] 6 (by kernel_rfl) (by kernel_rfl) ?_;(repeat (first|(refine zk rfl (fun K hK=>?_);go_simp;refine hK _ ?_;clear hK K)|(refine zr rfl (fun K hK=>?_);go_simp;(first|((first|(go_at_call 197;refine (zbP _ _ (by omega) (by omega)).mono ?_)|(go_at_call 181;refine (zZ _ _ _ _ (by first|omega|decide) (by first|omega|decide) (by omega) (by omega)).mono ?_));rintro e w' ⟨rfl,hb⟩;obtain ⟨X,rfl⟩:=hb.ext;clear hb)|((go_at_call 55;refine (SC.use (za3 _) (fun a=>a.size<=1048576) (fun m h=>zaV h.1 _) (by first|exact HL.out|exact HL.out.last) (⟨_,_,_,rfl,by (refine ⟨?_,?_,?_⟩<;>((repeat (first|with_reducible exact HW0.out _ _|with_reducible exact HW1.out _ _|with_reducible exact HW2.out _ _|with_reducible refine RdL.ext ?_ _))))⟩ : MRd _ _ _)).mono ?_);(rintro e w' ⟨v2,x,m2,rfl,hx,hm,hb,HL2⟩);clear HL;have HL:=Hd HL2;clear HL2;obtain ⟨f0,g0,f1,g1,f2,g2,rfl,q0,q1,q2⟩:=hm.form;obtain ⟨X,rfl⟩:=hb.ext;have Q0:=Hd q0;have Q1:=Hd q1;have Q2:=Hd q2;clear hm q0 q1 q2 hb));(try go_simp);refine hK _ _ (by show Sx _ _;(try simp only [<- Array.append_assoc]);repeat (first|with_reducible apply Sx.more|with_reducible apply Sx.ext|with_reducible exact Sx.refl _)) ?_;clear hK K)|(refine zt rfl rfl (fun K hK=>?_);go_simp;refine hK _ _ ?_;clear hK K)));have Q0':=Q0.out;have Q1':=Q1.out;have Q2':=Q2.out;clear Q0 Q1 Q2;(try simp only [zp,zw,Array.append_assoc] at Q0' Q1' Q2');refine zy (fun W0=>Below w.heap.size w W0/\W0.heap[w.heap.size]?=some _/\W0.heap[w.heap.size+1]?=some _/\RdL zu W0 (.slice f0 m2.cells.length g0) m2.cells/\RdL zx W0 (.slice f1 m2.rd.length g1) m2.rd/\RdL zx W0 (.slice f2 m2.wr.length g2) m2.wr/\w.heap.size+1<W0.heap.size) ⟨(zP B _ _).ofExt _,(zq Z _ _ _).1,(zq Z _ _ _).2,zl (zf _) Z Q0' _ _,zl (zc _) Z Q1' _ _,zl (zc _) Z Q2' _ _,za (zq Z _ _ _).2⟩ ?_;clear Q0' Q1' Q2';rintro w3 ⟨B',P,R,q0,q1,q2,Z'⟩;(clear HW0 HW1 HW2 B Z;have e1:=zj P R;rw [<- e1];clear e1;have HW0:=Hd (fun o r=>zg (zf _) q0 P R o r);have HW1:=Hd (fun o r=>zg (zc _) q1 P R o r);have HW2:=Hd (fun o r=>zg (zc _) q2 P R o r);have B:=B';have Z:=Z';(try clear Zp);have Zp:=Nat.lt_of_succ_lt Z;clear B' Z' P R q0 q1 q2);(try (have hmc:=zi7 x hx;(rcases hmc with ⟨hm0,hm1,hmq⟩|⟨hm0,hm1,hm2,hmq⟩|⟨hm0,hm1,hm2,hmq,hm3⟩<;>(rw [hmq] at HL;clear hmq)))))|(exfalso;(simp only [bne_eq_false_iff_eq,beq_eq_false_iff_ne,beq_iff_eq,bne_iff_ne] at *);omega)))))
 all_goals (obtain ⟨rfl,rfl⟩:=HL.out.end;refine bodyPost_ret (by simp [results,Tryz.results129,go_sem,Z];rfl) rfl ?_;exact ⟨_,rfl,⟨_,_,_,rfl,HW0.out _ _,HW1.out _ _,HW2.out _ _⟩,zP B _ _⟩)
theorem zdk (id:Int) (id0 : -9223372036854775808<=id) (id1:id<=9223372036854775807) (place:Int) (place0 : -9223372036854775808<=place) (place1:place<=9223372036854775807):SC 222 (fun x=>#[x,.int .i64 id,.int .i64 place]) (K.block id place) (fun v' t=>.tuple #[v',.string t]):=by
 refine zeq (fun w m a0 c0 a1 c1 a2 c2 res mres H0 H1 H2 HL=>?_)
 unfold K.block at HL
 (skip)
 all_goals (go_enter Tryz.func222,Tryz.ntmps222;((repeat (first|((with_reducible refine zcK (fun W0=>Below w.heap.size w W0/\W0.heap[w.heap.size]?=some (.cells #[.slice a0 m.cells.length c0,.slice a1 m.rd.length c1,.slice a2 m.wr.length c2] 54)/\W0.heap[w.heap.size+1]?=some (.cells #[.slice none 0 0,.slice none 0 0,.slice none 0 0] 54)) ?_ ?_);(· with_reducible exact zV w (.cells #[.slice a0 m.cells.length c0,.slice a1 m.rd.length c1,.slice a2 m.wr.length c2] 54) (.cells #[.slice none 0 0,.slice none 0 0,.slice none 0 0] 54) (by repeat (first|with_reducible exact Below.refl _ _|with_reducible apply Below.ofAlloc))))|go_skip|go_guarded|go_step|go_upon|go_back));(rintro w1 ⟨B,P,R⟩;have Z:=za R;have e1:=zj P R;rw [<- e1];have HW0:=Hd (fun o r=>H0.out.below (zP B o r));have HW1:=Hd (fun o r=>H1.out.below (zP B o r));have HW2:=Hd (fun o r=>H2.out.below (zP B o r));have Zp:=Nat.lt_of_succ_lt Z;clear e1 P R H0 H1 H2));all_goals ((repeat' (first|go_skip|go_guarded|go_step|go_upon|go_back|((((go_at_call 192;refine (zc4 _ _ (by omega)).mono ?_);rintro e w2 ⟨b,hun,rfl,hb⟩;(have q0:=(HW0.out _ _).below hb;have q1:=(HW1.out _ _).below hb;have q2:=(HW2.out _ _).below hb;obtain ⟨B',P,R,Z',Zx⟩:=zG B Z hb;clear Zx;clear hb;(clear HW0 HW1 HW2 B Z;have e1:=zj P R;rw [<- e1];clear e1;have HW0:=Hd (fun o r=>zg (zf _) q0 P R o r);have HW1:=Hd (fun o r=>zg (zc _) q1 P R o r);have HW2:=Hd (fun o r=>zg (zc _) q2 P R o r);have B:=B';have Z:=Z';(try clear Zp);have Zp:=Nat.lt_of_succ_lt Z;clear B' Z' P R q0 q1 q2;(try simp only [])));(rcases hun with rfl|hun<;>first|((try rw [hun] at HL);(try rw [hun]);cases b)|skip))))|(refine zi (id:=1) [(0,true),(1,true),(2,true),(3,false),(4,false),(5,true),(6,true),(7,true),(8,false),(9,false)] 5 (by kernel_rfl) (by kernel_rfl) ?_;(repeat (first|(refine zk rfl (fun K hK=>?_);go_simp;refine hK _ ?_;clear hK K)|(refine zr rfl (fun K hK=>?_);go_simp;(first|((go_at_call 225;refine (zbB _ _ _ (by omega) (by omega) (by omega) (by omega)).mono ?_);rintro e w' ⟨rfl,hb⟩;obtain ⟨X,rfl⟩:=hb.ext;clear hb)|((go_at_call 55;refine (SC.use (za3 _) (fun a=>a.size<=1048576) (fun m h=>zaV h.1 _) (by first|exact HL.out|exact HL.out.last) (⟨_,_,_,rfl,by (refine ⟨?_,?_,?_⟩<;>((repeat (first|with_reducible exact HW0.out _ _|with_reducible exact HW1.out _ _|with_reducible exact HW2.out _ _|with_reducible refine RdL.ext ?_ _))))⟩ : MRd _ _ _)).mono ?_);(rintro e w' ⟨v2,x,m2,rfl,hx,hm,hb,HL2⟩);clear HL;have HL:=Hd HL2;clear HL2;obtain ⟨f0,g0,f1,g1,f2,g2,rfl,q0,q1,q2⟩:=hm.form;obtain ⟨X,rfl⟩:=hb.ext;have Q0:=Hd q0;have Q1:=Hd q1;have Q2:=Hd q2;clear hm q0 q1 q2 hb));(try go_simp);refine hK _ _ (by show Sx _ _;repeat (first|with_reducible apply Sx.more|with_reducible apply Sx.ext|with_reducible exact Sx.refl _)) ?_;clear hK K)|(refine zt rfl rfl (fun K hK=>?_);go_simp;refine hK _ _ ?_;clear hK K)));have Q0':=Q0.out;have Q1':=Q1.out;have Q2':=Q2.out;clear Q0 Q1 Q2;(try simp only [zp,zw,Array.append_assoc] at Q0' Q1' Q2');refine zy (fun W0=>Below w.heap.size w W0/\W0.heap[w.heap.size]?=some _/\W0.heap[w.heap.size+1]?=some _/\RdL zu W0 (.slice f0 m2.cells.length g0) m2.cells/\RdL zx W0 (.slice f1 m2.rd.length g1) m2.rd/\RdL zx W0 (.slice f2 m2.wr.length g2) m2.wr/\w.heap.size+1<W0.heap.size) ⟨(zP B _ _).ofExt _,(zq Z _ _ _).1,(zq Z _ _ _).2,zl (zf _) Z Q0' _ _,zl (zc _) Z Q1' _ _,zl (zc _) Z Q2' _ _,za (zq Z _ _ _).2⟩ ?_;clear Q0' Q1' Q2';rintro w3 ⟨B',P,R,q0,q1,q2,Z'⟩;(clear HW0 HW1 HW2 B Z;have e1:=zj P R;rw [<- e1];clear e1;have HW0:=Hd (fun o r=>zg (zf _) q0 P R o r);have HW1:=Hd (fun o r=>zg (zc _) q1 P R o r);have HW2:=Hd (fun o r=>zg (zc _) q2 P R o r);have B:=B';have Z:=Z';(try clear Zp);have Zp:=Nat.lt_of_succ_lt Z;clear B' Z' P R q0 q1 q2))|(exfalso;(simp only [bne_eq_false_iff_eq,beq_eq_false_iff_ne,beq_iff_eq,bne_iff_ne] at *);omega)))))
 all_goals (obtain ⟨rfl,rfl⟩:=HL.out.end;refine bodyPost_ret (by simp [results,Tryz.results222,go_sem,Z];rfl) rfl ?_;exact ⟨_,rfl,⟨_,_,_,rfl,HW0.out _ _,HW1.out _ _,HW2.out _ _⟩,zP B _ _⟩)
theorem zgr (id:Int) (id0 : -9223372036854775808<=id) (id1:id<=9223372036854775807) (place:Int) (place0 : -9223372036854775808<=place) (place1:place<=9223372036854775807) (text:ByteArray) (textz:text.size<=1048576):SC 223 (fun x=>#[x,.int .i64 id,.int .i64 place,.string text]) (K.lay (K.blockKey id place) (zfb text)) (fun v' _=>v'):=by
 refine zeq (fun w m a0 c0 a1 c1 a2 c2 res mres H0 H1 H2 HL=>?_)
 go_enter Tryz.func223,Tryz.ntmps223
 (try simp only [])
 ((repeat (first|((with_reducible refine zcK (fun W0=>Below w.heap.size w W0/\W0.heap[w.heap.size]?=some (.cells #[.slice a0 m.cells.length c0,.slice a1 m.rd.length c1,.slice a2 m.wr.length c2] 54)/\W0.heap[w.heap.size+1]?=some (.cells #[.slice none 0 0,.slice none 0 0,.slice none 0 0] 54)) ?_ ?_);(· with_reducible exact zV w (.cells #[.slice a0 m.cells.length c0,.slice a1 m.rd.length c1,.slice a2 m.wr.length c2] 54) (.cells #[.slice none 0 0,.slice none 0 0,.slice none 0 0] 54) (by repeat (first|with_reducible exact Below.refl _ _|with_reducible apply Below.ofAlloc))))|go_skip|go_guarded|go_step|go_upon|go_back));(rintro w1 ⟨B,P,R⟩;have Z:=za R;have e1:=zj P R;rw [<- e1];have HW0:=Hd (fun o r=>H0.out.below (zP B o r));have HW1:=Hd (fun o r=>H1.out.below (zP B o r));have HW2:=Hd (fun o r=>H2.out.below (zP B o r));have Zp:=Nat.lt_of_succ_lt Z;clear e1 P R H0 H1 H2))
 ((repeat' (first|go_skip|go_guarded|go_step|go_upon|go_back|(((((go_at_call 190;refine (zf4 _ _ (by omega)).mono ?_));rintro e w2 ⟨rfl,hb⟩;(have q0:=(HW0.out _ _).below hb;have q1:=(HW1.out _ _).below hb;have q2:=(HW2.out _ _).below hb;obtain ⟨B',P,R,Z',Zx⟩:=zG B Z hb;clear Zx;clear hb;(clear HW0 HW1 HW2 B Z;have e1:=zj P R;rw [<- e1];clear e1;have HW0:=Hd (fun o r=>zg (zf _) q0 P R o r);have HW1:=Hd (fun o r=>zg (zc _) q1 P R o r);have HW2:=Hd (fun o r=>zg (zc _) q2 P R o r);have B:=B';have Z:=Z';(try clear Zp);have Zp:=Nat.lt_of_succ_lt Z;clear B' Z' P R q0 q1 q2;(try simp only []))))))|(refine zi (id:=2) [(0,true),(1,true),(2,true),(4,true),(3,false),(5,false),(6,false)] 6 (by kernel_rfl) (by kernel_rfl) ?_;(repeat (first|(refine zk rfl (fun K hK=>?_);go_simp;refine hK _ ?_;clear hK K)|(refine zr rfl (fun K hK=>?_);go_simp;(first|(((go_at_call 225;refine (zbB _ _ _ (by omega) (by omega) (by omega) (by omega)).mono ?_));rintro e w' ⟨rfl,hb⟩;obtain ⟨X,rfl⟩:=hb.ext;clear hb)|((go_at_call 182;refine (SC.use (zan _ _) (fun _=>True) (fun _ _=>trivial) (by first|exact HL.out|exact HL.out.last) (⟨_,_,_,rfl,by (refine ⟨?_,?_,?_⟩<;>((repeat (first|with_reducible exact HW0.out _ _|with_reducible exact HW1.out _ _|with_reducible exact HW2.out _ _|with_reducible refine RdL.ext ?_ _))))⟩ : MRd _ _ _)).mono ?_);(rintro e w' ⟨v2,x,m2,rfl,hx,hm,hb,HL2⟩);clear HL;have HL:=Hd HL2;clear HL2;obtain ⟨f0,g0,f1,g1,f2,g2,rfl,q0,q1,q2⟩:=hm.form;obtain ⟨X,rfl⟩:=hb.ext;have Q0:=Hd q0;have Q1:=Hd q1;have Q2:=Hd q2;clear hm q0 q1 q2 hb));(try go_simp);refine hK _ _ (by show Sx _ _;repeat (first|with_reducible apply Sx.more|with_reducible apply Sx.ext|with_reducible exact Sx.refl _)) ?_;clear hK K)|(refine zt rfl rfl (fun K hK=>?_);go_simp;refine hK _ _ ?_;clear hK K)));have Q0':=Q0.out;have Q1':=Q1.out;have Q2':=Q2.out;clear Q0 Q1 Q2;(try simp only [zp,zw,Array.append_assoc] at Q0' Q1' Q2');refine zy (fun W0=>Below w.heap.size w W0/\W0.heap[w.heap.size]?=some _/\W0.heap[w.heap.size+1]?=some _/\RdL zu W0 (.slice f0 m2.cells.length g0) m2.cells/\RdL zx W0 (.slice f1 m2.rd.length g1) m2.rd/\RdL zx W0 (.slice f2 m2.wr.length g2) m2.wr/\w.heap.size+1<W0.heap.size) ⟨(zP B _ _).ofExt _,(zq Z _ _ _).1,(zq Z _ _ _).2,zl (zf _) Z Q0' _ _,zl (zc _) Z Q1' _ _,zl (zc _) Z Q2' _ _,za (zq Z _ _ _).2⟩ ?_;clear Q0' Q1' Q2';rintro w3 ⟨B',P,R,q0,q1,q2,Z'⟩;(clear HW0 HW1 HW2 B Z;have e1:=zj P R;rw [<- e1];clear e1;have HW0:=Hd (fun o r=>zg (zf _) q0 P R o r);have HW1:=Hd (fun o r=>zg (zc _) q1 P R o r);have HW2:=Hd (fun o r=>zg (zc _) q2 P R o r);have B:=B';have Z:=Z';(try clear Zp);have Zp:=Nat.lt_of_succ_lt Z;clear B' Z' P R q0 q1 q2))|(exfalso;(simp only [bne_eq_false_iff_eq,beq_eq_false_iff_ne,beq_iff_eq,bne_iff_ne] at *);omega))))
 all_goals (obtain ⟨rfl,rfl⟩:=HL.out.end;refine bodyPost_ret (by simp [results,Tryz.results223,go_sem,Z];rfl) rfl ?_;exact ⟨_,rfl,⟨_,_,_,rfl,HW0.out _ _,HW1.out _ _,HW2.out _ _⟩,zP B _ _⟩)
def zaF (x lo hi:Int):Int:=if hi<lo then lo else if x<lo then lo else if hi<x then hi else x
theorem ziQ (x lo hi:Int) (w:World) :
  Calls Tryz.prog 224 #[.int .i64 x,.int .i64 lo,.int .i64 hi] w fun e w'=>e=.returned (.int .i64 (zaF x lo hi))/\w'=w:=by
 by_cases h0:hi<lo
 ·by_cases h1:x<hi
  ·have hq:zaF x lo hi=lo:=by unfold zaF;(repeat (rw [if_pos (by omega)]))
   rw [hq]
   clear hq
   go_enter Tryz.func224,Tryz.ntmps224
   go_wp2
   all_goals go_ret
   all_goals exact ⟨congrArg (fun z=>Ending.returned (.int .i64 z)) (by omega),rfl⟩
  ·by_cases h2:hi<x
   ·have hq:zaF x lo hi=lo:=by unfold zaF;(repeat (rw [if_pos (by omega)]))
    rw [hq]
    clear hq
    go_enter Tryz.func224,Tryz.ntmps224
    go_wp2
    all_goals go_ret
    all_goals exact ⟨congrArg (fun z=>Ending.returned (.int .i64 z)) (by omega),rfl⟩
   ·have hq:zaF x lo hi=lo:=by unfold zaF;(repeat (rw [if_pos (by omega)]))
    rw [hq]
    clear hq
    go_enter Tryz.func224,Tryz.ntmps224
    go_wp2
    all_goals go_ret
    all_goals exact ⟨congrArg (fun z=>Ending.returned (.int .i64 z)) (by omega),rfl⟩
 ·by_cases h1:x<lo
  ·have hq:zaF x lo hi=lo:=by unfold zaF;(repeat (first|rw [if_pos (by omega)]|rw [if_neg (by omega)]))
   rw [hq]
   clear hq
   go_enter Tryz.func224,Tryz.ntmps224
   go_wp2
   all_goals go_ret
   all_goals exact ⟨congrArg (fun z=>Ending.returned (.int .i64 z)) (by omega),rfl⟩
  ·by_cases h2:hi<x
   ·have hq:zaF x lo hi=hi:=by unfold zaF;(repeat (first|rw [if_pos (by omega)]|rw [if_neg (by omega)]))
    rw [hq]
    clear hq
    go_enter Tryz.func224,Tryz.ntmps224
    go_wp2
    all_goals go_ret
    all_goals exact ⟨congrArg (fun z=>Ending.returned (.int .i64 z)) (by omega),rfl⟩
   ·have hq:zaF x lo hi=x:=by unfold zaF;(repeat (rw [if_neg (by omega)]))
    rw [hq]
    clear hq
    go_enter Tryz.func224,Tryz.ntmps224
    go_wp2
    all_goals go_ret
    all_goals exact ⟨congrArg (fun z=>Ending.returned (.int .i64 z)) (by omega),rfl⟩
end Go.Proofs.YtpnoehpmgflibaaGreatDoor
