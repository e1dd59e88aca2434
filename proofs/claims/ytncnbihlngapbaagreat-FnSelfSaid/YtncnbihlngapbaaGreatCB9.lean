/- Texts of this claim, merged: the walks and what they stand on. Each condition stands in its theorem. -/
import Derived.Test.YtncnbihlngapbaaGreatCB5
set_option linter.unusedVariables false
set_option linter.unusedSimpArgs false
set_option maxRecDepth 100000
set_option maxHeartbeats 8000000
namespace Go.Proofs.YtncnbihlngapbaaGreat
open Go.ChangeShapes Go.WideShapes Go.ChangeAt Go.RowKit
theorem zeR (id:Int) (id0 : -9223372036854775808<=id) (id1:id<=9223372036854775807) (page:Int) (page0 : -9223372036854775808<=page) (page1:page<=9223372036854775807):SC 75 (fun x=>#[x,.int .i64 id,.int .i64 page]) (K.loadPage id page) (fun v' p=>.tuple #[v',.string p.1,.int .i64 p.2]):=by
 refine zdR (fun w m a0 c0 a1 c1 a2 c2 res mres H0 H1 H2 HL=>?_)
 unfold K.loadPage at HL
 have hk:=zbO id id0 id1
 simp only [zeM] at HL
 ((repeat' ((rcases HL.out.ite with ⟨hg,HL2⟩|⟨hg,HL2⟩<;>(clear HL;have HL:=Hd HL2;clear HL2;try first|exact absurd hg (by decide)|exact absurd rfl hg|(exfalso;omega)|(have hgz : _ ∨ _:=hg;clear hg;rcases hgz with hg|hg<;>(try have hgb:=bne_iff_ne.2 hg))|(have hgz:=not_or.1 hg;clear hg;obtain ⟨hg,hgo⟩:=hgz;try replace hgo:=Decidable.not_not.1 hgo))))))
 all_goals (go_enter Tryz.func75,Tryz.ntmps75;(try simp only []);((repeat (first|((first|with_reducible refine zb8 (fun W0=>Below w.heap.size w W0/\W0.heap[w.heap.size]?=some (.cells #[.slice a0 m.cells.length c0,.slice a1 m.rd.length c1,.slice a2 m.wr.length c2] 76)/\W0.heap[w.heap.size+1]?=some (.cells #[.slice none 0 0,.slice none 0 0,.slice none 0 0] 76)) ?_ ?_|with_reducible refine zfu (fun W0=>Below w.heap.size w W0/\W0.heap[w.heap.size]?=some (.cells #[.slice a0 m.cells.length c0,.slice a1 m.rd.length c1,.slice a2 m.wr.length c2] 76)/\W0.heap[w.heap.size+1]?=some (.cells #[.slice none 0 0,.slice none 0 0,.slice none 0 0] 76)) ?_ ?_);(· with_reducible exact z8 w (.cells #[.slice a0 m.cells.length c0,.slice a1 m.rd.length c1,.slice a2 m.wr.length c2] 76) (.cells #[.slice none 0 0,.slice none 0 0,.slice none 0 0] 76) (by repeat (first|with_reducible exact Below.refl _ _|with_reducible apply Below.ofExt|with_reducible apply Below.ofAlloc|with_reducible apply Below.drew|with_reducible apply Below.ofDrewN|with_reducible assumption|(with_reducible refine Below.setCell ?_ (by first|exact Nat.le_refl _|(simp [go_sem];done)|(simp [go_sem];omega)) _)))))|go_skip|go_guarded|go_step|go_upon|go_back));(rintro w1 ⟨B,P,R⟩;have Z:=zb R;have e1:=zl P R;rw [<- e1];have HW0:=Hd (fun o r=>H0.out.below (zV B o r));have HW1:=Hd (fun o r=>H1.out.below (zV B o r));have HW2:=Hd (fun o r=>H2.out.below (zV B o r));have Zp:=Nat.lt_of_succ_lt Z;clear e1 P R H0 H1 H2;((repeat' ((rcases HL.out.ite with ⟨hg,HL2⟩|⟨hg,HL2⟩<;>(clear HL;have HL:=Hd HL2;clear HL2;try first|exact absurd hg (by decide)|exact absurd rfl hg|(exfalso;omega)|(have hgz : _ ∨ _:=hg;clear hg;rcases hgz with hg|hg<;>(try have hgb:=bne_iff_ne.2 hg))|(have hgz:=not_or.1 hg;clear hg;obtain ⟨hg,hgo⟩:=hgz;try replace hgo:=Decidable.not_not.1 hgo))))))));all_goals ((repeat' (first|go_skip|go_guarded|go_step|go_upon|go_back|((first|((go_at_call 82;refine (SC.use (zaq _) (fun a=>a.size<=1048576) (fun m h=>zaI h.1 _) (by first|exact HL.out|exact HL.out.last) (⟨_,_,_,rfl,HW0.out _ _,HW1.out _ _,HW2.out _ _⟩ : MRd _ _ _)).mono ?_);(first|rintro e w2 ⟨v2,x,m2,rfl,hx,hm,hb,HL2⟩|rintro e w2 ⟨v2,x,y,m2,rfl,hx,hm,hb,HL2⟩);(obtain ⟨b0,d0,b1,d1,b2,d2,rfl,q0,q1,q2⟩:=hm.form;obtain ⟨B',P,R,Z',Zx⟩:=zF B Z hb;clear Zx;clear hm hb;(clear HW0 HW1 HW2 B Z;have e1:=zl P R;rw [<- e1];clear e1;have HW0:=Hd (fun o r=>zf (zh _) q0 P R o r);have HW1:=Hd (fun o r=>zf (ze _) q1 P R o r);have HW2:=Hd (fun o r=>zf (ze _) q2 P R o r);have B:=B';have Z:=Z';(try clear Zp);have Zp:=Nat.lt_of_succ_lt Z;clear B' Z' P R q0 q1 q2;(try simp only []));(try dsimp only at HL2);clear HL;have HL:=Hd HL2;clear HL2;(try (have hmc:=zab x hx;(rcases hmc with ⟨hm0,hm1,hmq⟩|⟨hm0,hm1,hm2,hmq⟩|⟨hm0,hm1,hm2,hmq,hm3⟩<;>(rw [hmq] at HL;clear hmq))));(all_goals ((repeat' ((rcases HL.out.ite with ⟨hg,HL2⟩|⟨hg,HL2⟩<;>(clear HL;have HL:=Hd HL2;clear HL2;try first|exact absurd hg (by decide)|exact absurd rfl hg|(exfalso;omega)|(have hgz : _ ∨ _:=hg;clear hg;rcases hgz with hg|hg<;>(try have hgb:=bne_iff_ne.2 hg))|(have hgz:=not_or.1 hg;clear hg;obtain ⟨hg,hgo⟩:=hgz;try replace hgo:=Decidable.not_not.1 hgo)))))))))|((go_at_call 86;refine (zT _ _ _ _).mono ?_);rintro e w2 ⟨rfl,rfl⟩;(try simp only []);(try rw [HN.out]);(try rw [HM.out]);(try simp (disch:=omega) only [zbj,zbV]))|((first|(go_at_call 103;refine (zaG _ _ (by omega) (by omega)).mono ?_)|(go_at_call 87;refine (zS _ _ _ _ (by first|omega|decide) (by first|omega|decide) (by omega) (by omega)).mono ?_));rintro e w2 ⟨rfl,hb⟩;(have q0:=(HW0.out _ _).below hb;have q1:=(HW1.out _ _).below hb;have q2:=(HW2.out _ _).below hb;obtain ⟨B',P,R,Z',Zx⟩:=zF B Z hb;clear Zx;clear hb;(clear HW0 HW1 HW2 B Z;have e1:=zl P R;rw [<- e1];clear e1;have HW0:=Hd (fun o r=>zf (zh _) q0 P R o r);have HW1:=Hd (fun o r=>zf (ze _) q1 P R o r);have HW2:=Hd (fun o r=>zf (ze _) q2 P R o r);have B:=B';have Z:=Z';(try clear Zp);have Zp:=Nat.lt_of_succ_lt Z;clear B' Z' P R q0 q1 q2;(try simp only []))))|((go_at_call 99;refine (zcK _ _ (by omega)).mono ?_);rintro e w2 ⟨b,hun,rfl,hb⟩;(have q0:=(HW0.out _ _).below hb;have q1:=(HW1.out _ _).below hb;have q2:=(HW2.out _ _).below hb;obtain ⟨B',P,R,Z',Zx⟩:=zF B Z hb;clear Zx;clear hb;(clear HW0 HW1 HW2 B Z;have e1:=zl P R;rw [<- e1];clear e1;have HW0:=Hd (fun o r=>zf (zh _) q0 P R o r);have HW1:=Hd (fun o r=>zf (ze _) q1 P R o r);have HW2:=Hd (fun o r=>zf (ze _) q2 P R o r);have B:=B';have Z:=Z';(try clear Zp);have Zp:=Nat.lt_of_succ_lt Z;clear B' Z' P R q0 q1 q2;(try simp only [])));(rcases hun with rfl|hun<;>first|((try rw [hun] at HL);(try rw [hun]);cases b)|skip))))|(refine zk (id:=3) [(0,true),(1,true),(3,true),(2,false),(4,false),(5,false),(6,true),(7,true),(8,true),(9,false),(10,false)] 6 (by kernel_rfl) (by kernel_rfl) ?_;(repeat (first|(refine zq rfl (fun K hK=>?_);go_simp;(try simp (disch:=omega) only [IntWalk.i64_in,Int.tmod_eq_emod_of_nonneg,Int.tdiv_eq_ediv_of_nonneg]);refine hK _ ?_;clear hK K)|(refine zo rfl (fun K hK=>?_);go_simp;(first|((first|(go_at_call 103;refine (zaG _ _ (by omega) (by omega)).mono ?_)|(go_at_call 87;refine (zS _ _ _ _ (by first|omega|decide) (by first|omega|decide) (by omega) (by omega)).mono ?_));rintro e w' ⟨rfl,hb⟩;obtain ⟨X,rfl⟩:=hb.ext;clear hb)|((go_at_call 82;refine (SC.use (zaq _) (fun a=>a.size<=1048576) (fun m h=>zaI h.1 _) (by first|exact HL.out|exact HL.out.last) (⟨_,_,_,rfl,by (refine ⟨?_,?_,?_⟩<;>((repeat (first|with_reducible exact HW0.out _ _|with_reducible exact HW1.out _ _|with_reducible exact HW2.out _ _|with_reducible apply RdL.drew|with_reducible refine RdL.ext ?_ _))))⟩ : MRd _ _ _)).mono ?_);(first|rintro e w' ⟨v2,x,m2,rfl,hx,hm,hb,HL2⟩|rintro e w' ⟨v2,x,y,m2,rfl,hx,hm,hb,HL2⟩);(try dsimp only at HL2);clear HL;have HL:=Hd HL2;clear HL2;obtain ⟨f0,g0,f1,g1,f2,g2,rfl,q0,q1,q2⟩:=hm.form;obtain ⟨X,rfl⟩:=hb.ext;have Q0:=Hd q0;have Q1:=Hd q1;have Q2:=Hd q2;clear hm q0 q1 q2 hb));(try go_simp);refine hK _ _ (by show Sx _ _;(try simp only [<- Array.append_assoc]);repeat (first|with_reducible exact Sx.drew _|with_reducible exact Sx.same _ _ _ _|with_reducible exact ⟨_,rfl⟩|with_reducible apply Sx.more|with_reducible apply Sx.ext|with_reducible apply Sx.alloc|with_reducible apply zL|with_reducible exact Sx.refl _)) ?_;clear hK K)|(refine zy rfl rfl (fun K hK=>?_);go_simp;refine hK _ _ ?_;clear hK K)|(refine zo rfl (fun K hK=>?_);go_simp;refine hK _ _ (by show Sx _ _;(try simp only [<- Array.append_assoc]);repeat (first|with_reducible exact Sx.drew _|with_reducible exact Sx.same _ _ _ _|with_reducible exact ⟨_,rfl⟩|with_reducible apply Sx.more|with_reducible apply Sx.ext|with_reducible apply Sx.alloc|with_reducible apply zL|with_reducible exact Sx.refl _)) ?_;clear hK K)));have Q0':=Q0.out;have Q1':=Q1.out;have Q2':=Q2.out;clear Q0 Q1 Q2;(try simp only [zm,zA,Array.append_assoc] at Q0' Q1' Q2');(try simp only [zm,Array.append_assoc]);refine zM (fun W0=>Below w.heap.size w W0/\W0.heap[w.heap.size]?=some _/\W0.heap[w.heap.size+1]?=some _/\RdL zE W0 (.slice f0 m2.cells.length g0) m2.cells/\RdL zH W0 (.slice f1 m2.rd.length g1) m2.rd/\RdL zH W0 (.slice f2 m2.wr.length g2) m2.wr/\w.heap.size+1<W0.heap.size) ⟨(zV B _ _).ofExt _,(zx Z _ _ _).1,(zx Z _ _ _).2,zt (zh _) Z Q0' _ _,zt (ze _) Z Q1' _ _,zt (ze _) Z Q2' _ _,zb (zx Z _ _ _).2⟩ ?_;clear Q0' Q1' Q2';rintro w3 ⟨B',P,R,q0,q1,q2,Z'⟩;(clear HW0 HW1 HW2 B Z;have e1:=zl P R;rw [<- e1];clear e1;have HW0:=Hd (fun o r=>zf (zh _) q0 P R o r);have HW1:=Hd (fun o r=>zf (ze _) q1 P R o r);have HW2:=Hd (fun o r=>zf (ze _) q2 P R o r);have B:=B';have Z:=Z';(try clear Zp);have Zp:=Nat.lt_of_succ_lt Z;clear B' Z' P R q0 q1 q2;(try simp only []));(try (have hmc:=zab x hx;(rcases hmc with ⟨hm0,hm1,hmq⟩|⟨hm0,hm1,hm2,hmq⟩|⟨hm0,hm1,hm2,hmq,hm3⟩<;>(rw [hmq] at HL;clear hmq))));(all_goals ((repeat' ((rcases HL.out.ite with ⟨hg,HL2⟩|⟨hg,HL2⟩<;>(clear HL;have HL:=Hd HL2;clear HL2;try first|exact absurd hg (by decide)|exact absurd rfl hg|(exfalso;omega)|(have hgz : _ ∨ _:=hg;clear hg;rcases hgz with hg|hg<;>(try have hgb:=bne_iff_ne.2 hg))|(have hgz:=not_or.1 hg;clear hg;obtain ⟨hg,hgo⟩:=hgz;try replace hgo:=Decidable.not_not.1 hgo))))))))|(exfalso;(simp only [bne_eq_false_iff_eq,beq_eq_false_iff_ne,beq_iff_eq,bne_iff_ne] at *);omega)))))
 all_goals (obtain ⟨rfl,rfl⟩:=HL.out.end;refine bodyPost_ret (by simp [results,Tryz.results75,go_sem,Z];rfl) rfl ?_;exact ⟨_,rfl,⟨_,_,_,rfl,HW0.out _ _,HW1.out _ _,HW2.out _ _⟩,zV B _ _⟩)
theorem zcX (id:Int) (id0 : -9223372036854775808<=id) (id1:id<=9223372036854775807) (place:Int) (place0 : -9223372036854775808<=place) (place1:place<=9223372036854775807):SC 115 (fun x=>#[x,.int .i64 id,.int .i64 place]) (K.block id place) (fun v' t=>.tuple #[v',.string t]):=by
 refine zdR (fun w m a0 c0 a1 c1 a2 c2 res mres H0 H1 H2 HL=>?_)
 unfold K.block at HL
 ((repeat' ((rcases HL.out.ite with ⟨hg,HL2⟩|⟨hg,HL2⟩<;>(clear HL;have HL:=Hd HL2;clear HL2;try first|exact absurd hg (by decide)|exact absurd rfl hg|(exfalso;omega)|(have hgz : _ ∨ _:=hg;clear hg;rcases hgz with hg|hg<;>(try have hgb:=bne_iff_ne.2 hg))|(have hgz:=not_or.1 hg;clear hg;obtain ⟨hg,hgo⟩:=hgz;try replace hgo:=Decidable.not_not.1 hgo))))))
 all_goals (go_enter Tryz.func115,Tryz.ntmps115;(try simp only []);((repeat (first|((first|with_reducible refine zb8 (fun W0=>Below w.heap.size w W0/\W0.heap[w.heap.size]?=some (.cells #[.slice a0 m.cells.length c0,.slice a1 m.rd.length c1,.slice a2 m.wr.length c2] 76)/\W0.heap[w.heap.size+1]?=some (.cells #[.slice none 0 0,.slice none 0 0,.slice none 0 0] 76)) ?_ ?_|with_reducible refine zfu (fun W0=>Below w.heap.size w W0/\W0.heap[w.heap.size]?=some (.cells #[.slice a0 m.cells.length c0,.slice a1 m.rd.length c1,.slice a2 m.wr.length c2] 76)/\W0.heap[w.heap.size+1]?=some (.cells #[.slice none 0 0,.slice none 0 0,.slice none 0 0] 76)) ?_ ?_);(· with_reducible exact z8 w (.cells #[.slice a0 m.cells.length c0,.slice a1 m.rd.length c1,.slice a2 m.wr.length c2] 76) (.cells #[.slice none 0 0,.slice none 0 0,.slice none 0 0] 76) (by repeat (first|with_reducible exact Below.refl _ _|with_reducible apply Below.ofExt|with_reducible apply Below.ofAlloc|with_reducible apply Below.drew|with_reducible apply Below.ofDrewN|with_reducible assumption|(with_reducible refine Below.setCell ?_ (by first|exact Nat.le_refl _|(simp [go_sem];done)|(simp [go_sem];omega)) _)))))|go_skip|go_guarded|go_step|go_upon|go_back));(rintro w1 ⟨B,P,R⟩;have Z:=zb R;have e1:=zl P R;rw [<- e1];have HW0:=Hd (fun o r=>H0.out.below (zV B o r));have HW1:=Hd (fun o r=>H1.out.below (zV B o r));have HW2:=Hd (fun o r=>H2.out.below (zV B o r));have Zp:=Nat.lt_of_succ_lt Z;clear e1 P R H0 H1 H2;((repeat' ((rcases HL.out.ite with ⟨hg,HL2⟩|⟨hg,HL2⟩<;>(clear HL;have HL:=Hd HL2;clear HL2;try first|exact absurd hg (by decide)|exact absurd rfl hg|(exfalso;omega)|(have hgz : _ ∨ _:=hg;clear hg;rcases hgz with hg|hg<;>(try have hgb:=bne_iff_ne.2 hg))|(have hgz:=not_or.1 hg;clear hg;obtain ⟨hg,hgo⟩:=hgz;try replace hgo:=Decidable.not_not.1 hgo))))))));all_goals ((repeat' (first|go_skip|go_guarded|go_step|go_upon|go_back|((first|((go_at_call 82;refine (SC.use (zaq _) (fun a=>a.size<=1048576) (fun m h=>zaI h.1 _) (by first|exact HL.out|exact HL.out.last) (⟨_,_,_,rfl,HW0.out _ _,HW1.out _ _,HW2.out _ _⟩ : MRd _ _ _)).mono ?_);(first|rintro e w2 ⟨v2,x,m2,rfl,hx,hm,hb,HL2⟩|rintro e w2 ⟨v2,x,y,m2,rfl,hx,hm,hb,HL2⟩);(obtain ⟨b0,d0,b1,d1,b2,d2,rfl,q0,q1,q2⟩:=hm.form;obtain ⟨B',P,R,Z',Zx⟩:=zF B Z hb;clear Zx;clear hm hb;(clear HW0 HW1 HW2 B Z;have e1:=zl P R;rw [<- e1];clear e1;have HW0:=Hd (fun o r=>zf (zh _) q0 P R o r);have HW1:=Hd (fun o r=>zf (ze _) q1 P R o r);have HW2:=Hd (fun o r=>zf (ze _) q2 P R o r);have B:=B';have Z:=Z';(try clear Zp);have Zp:=Nat.lt_of_succ_lt Z;clear B' Z' P R q0 q1 q2;(try simp only []));(try dsimp only at HL2);clear HL;have HL:=Hd HL2;clear HL2;(try (have hmc:=zab x hx;(rcases hmc with ⟨hm0,hm1,hmq⟩|⟨hm0,hm1,hm2,hmq⟩|⟨hm0,hm1,hm2,hmq,hm3⟩<;>(rw [hmq] at HL;clear hmq))));(all_goals ((repeat' ((rcases HL.out.ite with ⟨hg,HL2⟩|⟨hg,HL2⟩<;>(clear HL;have HL:=Hd HL2;clear HL2;try first|exact absurd hg (by decide)|exact absurd rfl hg|(exfalso;omega)|(have hgz : _ ∨ _:=hg;clear hg;rcases hgz with hg|hg<;>(try have hgb:=bne_iff_ne.2 hg))|(have hgz:=not_or.1 hg;clear hg;obtain ⟨hg,hgo⟩:=hgz;try replace hgo:=Decidable.not_not.1 hgo)))))))))|((go_at_call 118;refine (zaT _ _ _ (by omega) (by omega) (by omega) (by omega)).mono ?_);rintro e w2 ⟨rfl,hb⟩;(have q0:=(HW0.out _ _).below hb;have q1:=(HW1.out _ _).below hb;have q2:=(HW2.out _ _).below hb;obtain ⟨B',P,R,Z',Zx⟩:=zF B Z hb;clear Zx;clear hb;(clear HW0 HW1 HW2 B Z;have e1:=zl P R;rw [<- e1];clear e1;have HW0:=Hd (fun o r=>zf (zh _) q0 P R o r);have HW1:=Hd (fun o r=>zf (ze _) q1 P R o r);have HW2:=Hd (fun o r=>zf (ze _) q2 P R o r);have B:=B';have Z:=Z';(try clear Zp);have Zp:=Nat.lt_of_succ_lt Z;clear B' Z' P R q0 q1 q2;(try simp only []))))|((go_at_call 99;refine (zcK _ _ (by omega)).mono ?_);rintro e w2 ⟨b,hun,rfl,hb⟩;(have q0:=(HW0.out _ _).below hb;have q1:=(HW1.out _ _).below hb;have q2:=(HW2.out _ _).below hb;obtain ⟨B',P,R,Z',Zx⟩:=zF B Z hb;clear Zx;clear hb;(clear HW0 HW1 HW2 B Z;have e1:=zl P R;rw [<- e1];clear e1;have HW0:=Hd (fun o r=>zf (zh _) q0 P R o r);have HW1:=Hd (fun o r=>zf (ze _) q1 P R o r);have HW2:=Hd (fun o r=>zf (ze _) q2 P R o r);have B:=B';have Z:=Z';(try clear Zp);have Zp:=Nat.lt_of_succ_lt Z;clear B' Z' P R q0 q1 q2;(try simp only [])));(rcases hun with rfl|hun<;>first|((try rw [hun] at HL);(try rw [hun]);cases b)|skip))))|(refine zk (id:=1) [(0,true),(1,true),(2,true),(3,false),(4,false),(5,true),(6,true),(7,true),(8,false),(9,false)] 5 (by kernel_rfl) (by kernel_rfl) ?_;(repeat (first|(refine zq rfl (fun K hK=>?_);go_simp;(try simp (disch:=omega) only [IntWalk.i64_in,Int.tmod_eq_emod_of_nonneg,Int.tdiv_eq_ediv_of_nonneg]);refine hK _ ?_;clear hK K)|(refine zo rfl (fun K hK=>?_);go_simp;(first|((go_at_call 118;refine (zaT _ _ _ (by omega) (by omega) (by omega) (by omega)).mono ?_);rintro e w' ⟨rfl,hb⟩;obtain ⟨X,rfl⟩:=hb.ext;clear hb)|((go_at_call 82;refine (SC.use (zaq _) (fun a=>a.size<=1048576) (fun m h=>zaI h.1 _) (by first|exact HL.out|exact HL.out.last) (⟨_,_,_,rfl,by (refine ⟨?_,?_,?_⟩<;>((repeat (first|with_reducible exact HW0.out _ _|with_reducible exact HW1.out _ _|with_reducible exact HW2.out _ _|with_reducible apply RdL.drew|with_reducible refine RdL.ext ?_ _))))⟩ : MRd _ _ _)).mono ?_);(first|rintro e w' ⟨v2,x,m2,rfl,hx,hm,hb,HL2⟩|rintro e w' ⟨v2,x,y,m2,rfl,hx,hm,hb,HL2⟩);(try dsimp only at HL2);clear HL;have HL:=Hd HL2;clear HL2;obtain ⟨f0,g0,f1,g1,f2,g2,rfl,q0,q1,q2⟩:=hm.form;obtain ⟨X,rfl⟩:=hb.ext;have Q0:=Hd q0;have Q1:=Hd q1;have Q2:=Hd q2;clear hm q0 q1 q2 hb));(try go_simp);refine hK _ _ (by show Sx _ _;(try simp only [<- Array.append_assoc]);repeat (first|with_reducible exact Sx.drew _|with_reducible exact Sx.same _ _ _ _|with_reducible exact ⟨_,rfl⟩|with_reducible apply Sx.more|with_reducible apply Sx.ext|with_reducible apply Sx.alloc|with_reducible apply zL|with_reducible exact Sx.refl _)) ?_;clear hK K)|(refine zy rfl rfl (fun K hK=>?_);go_simp;refine hK _ _ ?_;clear hK K)|(refine zo rfl (fun K hK=>?_);go_simp;refine hK _ _ (by show Sx _ _;(try simp only [<- Array.append_assoc]);repeat (first|with_reducible exact Sx.drew _|with_reducible exact Sx.same _ _ _ _|with_reducible exact ⟨_,rfl⟩|with_reducible apply Sx.more|with_reducible apply Sx.ext|with_reducible apply Sx.alloc|with_reducible apply zL|with_reducible exact Sx.refl _)) ?_;clear hK K)));have Q0':=Q0.out;have Q1':=Q1.out;have Q2':=Q2.out;clear Q0 Q1 Q2;(try simp only [zm,zA,Array.append_assoc] at Q0' Q1' Q2');(try simp only [zm,Array.append_assoc]);refine zM (fun W0=>Below w.heap.size w W0/\W0.heap[w.heap.size]?=some _/\W0.heap[w.heap.size+1]?=some _/\RdL zE W0 (.slice f0 m2.cells.length g0) m2.cells/\RdL zH W0 (.slice f1 m2.rd.length g1) m2.rd/\RdL zH W0 (.slice f2 m2.wr.length g2) m2.wr/\w.heap.size+1<W0.heap.size) ⟨(zV B _ _).ofExt _,(zx Z _ _ _).1,(zx Z _ _ _).2,zt (zh _) Z Q0' _ _,zt (ze _) Z Q1' _ _,zt (ze _) Z Q2' _ _,zb (zx Z _ _ _).2⟩ ?_;clear Q0' Q1' Q2';rintro w3 ⟨B',P,R,q0,q1,q2,Z'⟩;(clear HW0 HW1 HW2 B Z;have e1:=zl P R;rw [<- e1];clear e1;have HW0:=Hd (fun o r=>zf (zh _) q0 P R o r);have HW1:=Hd (fun o r=>zf (ze _) q1 P R o r);have HW2:=Hd (fun o r=>zf (ze _) q2 P R o r);have B:=B';have Z:=Z';(try clear Zp);have Zp:=Nat.lt_of_succ_lt Z;clear B' Z' P R q0 q1 q2;(try simp only []));(try (have hmc:=zab x hx;(rcases hmc with ⟨hm0,hm1,hmq⟩|⟨hm0,hm1,hm2,hmq⟩|⟨hm0,hm1,hm2,hmq,hm3⟩<;>(rw [hmq] at HL;clear hmq))));(all_goals ((repeat' ((rcases HL.out.ite with ⟨hg,HL2⟩|⟨hg,HL2⟩<;>(clear HL;have HL:=Hd HL2;clear HL2;try first|exact absurd hg (by decide)|exact absurd rfl hg|(exfalso;omega)|(have hgz : _ ∨ _:=hg;clear hg;rcases hgz with hg|hg<;>(try have hgb:=bne_iff_ne.2 hg))|(have hgz:=not_or.1 hg;clear hg;obtain ⟨hg,hgo⟩:=hgz;try replace hgo:=Decidable.not_not.1 hgo))))))))|(exfalso;(simp only [bne_eq_false_iff_eq,beq_eq_false_iff_ne,beq_iff_eq,bne_iff_ne] at *);omega)))))
 all_goals (obtain ⟨rfl,rfl⟩:=HL.out.end;refine bodyPost_ret (by simp [results,Tryz.results115,go_sem,Z];rfl) rfl ?_;exact ⟨_,rfl,⟨_,_,_,rfl,HW0.out _ _,HW1.out _ _,HW2.out _ _⟩,zV B _ _⟩)
theorem zfm (id:Int) (id0 : -9223372036854775808<=id) (id1:id<=9223372036854775807) (place:Int) (place0 : -9223372036854775808<=place) (place1:place<=9223372036854775807) (text:ByteArray) (textz:text.size<=1048576):SC 116 (fun x=>#[x,.int .i64 id,.int .i64 place,.string text]) (K.lay (K.blockKey id place) (zhx text)) (fun v' _=>v'):=by
 refine zdR (fun w m a0 c0 a1 c1 a2 c2 res mres H0 H1 H2 HL=>?_)
 go_enter Tryz.func116,Tryz.ntmps116
 (try simp only [])
 ((repeat (first|((first|with_reducible refine zb8 (fun W0=>Below w.heap.size w W0/\W0.heap[w.heap.size]?=some (.cells #[.slice a0 m.cells.length c0,.slice a1 m.rd.length c1,.slice a2 m.wr.length c2] 76)/\W0.heap[w.heap.size+1]?=some (.cells #[.slice none 0 0,.slice none 0 0,.slice none 0 0] 76)) ?_ ?_|with_reducible refine zfu (fun W0=>Below w.heap.size w W0/\W0.heap[w.heap.size]?=some (.cells #[.slice a0 m.cells.length c0,.slice a1 m.rd.length c1,.slice a2 m.wr.length c2] 76)/\W0.heap[w.heap.size+1]?=some (.cells #[.slice none 0 0,.slice none 0 0,.slice none 0 0] 76)) ?_ ?_);(· with_reducible exact z8 w (.cells #[.slice a0 m.cells.length c0,.slice a1 m.rd.length c1,.slice a2 m.wr.length c2] 76) (.cells #[.slice none 0 0,.slice none 0 0,.slice none 0 0] 76) (by repeat (first|with_reducible exact Below.refl _ _|with_reducible apply Below.ofExt|with_reducible apply Below.ofAlloc|with_reducible apply Below.drew|with_reducible apply Below.ofDrewN|with_reducible assumption|(with_reducible refine Below.setCell ?_ (by first|exact Nat.le_refl _|(simp [go_sem];done)|(simp [go_sem];omega)) _)))))|go_skip|go_guarded|go_step|go_upon|go_back));(rintro w1 ⟨B,P,R⟩;have Z:=zb R;have e1:=zl P R;rw [<- e1];have HW0:=Hd (fun o r=>H0.out.below (zV B o r));have HW1:=Hd (fun o r=>H1.out.below (zV B o r));have HW2:=Hd (fun o r=>H2.out.below (zV B o r));have Zp:=Nat.lt_of_succ_lt Z;clear e1 P R H0 H1 H2;((repeat' ((rcases HL.out.ite with ⟨hg,HL2⟩|⟨hg,HL2⟩<;>(clear HL;have HL:=Hd HL2;clear HL2;try first|exact absurd hg (by decide)|exact absurd rfl hg|(exfalso;omega)|(have hgz : _ ∨ _:=hg;clear hg;rcases hgz with hg|hg<;>(try have hgb:=bne_iff_ne.2 hg))|(have hgz:=not_or.1 hg;clear hg;obtain ⟨hg,hgo⟩:=hgz;try replace hgo:=Decidable.not_not.1 hgo))))))))
 ((repeat' (first|go_skip|go_guarded|go_step|go_upon|go_back|((first|((go_at_call 84;refine (SC.use (zY _ _) (fun _=>True) (fun _ _=>trivial) (by first|exact HL.out|exact HL.out.last) (⟨_,_,_,rfl,HW0.out _ _,HW1.out _ _,HW2.out _ _⟩ : MRd _ _ _)).mono ?_);(first|rintro e w2 ⟨v2,x,m2,rfl,hx,hm,hb,HL2⟩|rintro e w2 ⟨v2,x,y,m2,rfl,hx,hm,hb,HL2⟩);(obtain ⟨b0,d0,b1,d1,b2,d2,rfl,q0,q1,q2⟩:=hm.form;obtain ⟨B',P,R,Z',Zx⟩:=zF B Z hb;clear Zx;clear hm hb;(clear HW0 HW1 HW2 B Z;have e1:=zl P R;rw [<- e1];clear e1;have HW0:=Hd (fun o r=>zf (zh _) q0 P R o r);have HW1:=Hd (fun o r=>zf (ze _) q1 P R o r);have HW2:=Hd (fun o r=>zf (ze _) q2 P R o r);have B:=B';have Z:=Z';(try clear Zp);have Zp:=Nat.lt_of_succ_lt Z;clear B' Z' P R q0 q1 q2;(try simp only []));(try dsimp only at HL2);clear HL;have HL:=Hd HL2;clear HL2;(try (have hmc:=zab x hx;(rcases hmc with ⟨hm0,hm1,hmq⟩|⟨hm0,hm1,hm2,hmq⟩|⟨hm0,hm1,hm2,hmq,hm3⟩<;>(rw [hmq] at HL;clear hmq))));(all_goals ((repeat' ((rcases HL.out.ite with ⟨hg,HL2⟩|⟨hg,HL2⟩<;>(clear HL;have HL:=Hd HL2;clear HL2;try first|exact absurd hg (by decide)|exact absurd rfl hg|(exfalso;omega)|(have hgz : _ ∨ _:=hg;clear hg;rcases hgz with hg|hg<;>(try have hgb:=bne_iff_ne.2 hg))|(have hgz:=not_or.1 hg;clear hg;obtain ⟨hg,hgo⟩:=hgz;try replace hgo:=Decidable.not_not.1 hgo)))))))))|((first|(go_at_call 118;refine (zaT _ _ _ (by omega) (by omega) (by omega) (by omega)).mono ?_)|(go_at_call 97;refine (zcL _ _ (by omega)).mono ?_));rintro e w2 ⟨rfl,hb⟩;(have q0:=(HW0.out _ _).below hb;have q1:=(HW1.out _ _).below hb;have q2:=(HW2.out _ _).below hb;obtain ⟨B',P,R,Z',Zx⟩:=zF B Z hb;clear Zx;clear hb;(clear HW0 HW1 HW2 B Z;have e1:=zl P R;rw [<- e1];clear e1;have HW0:=Hd (fun o r=>zf (zh _) q0 P R o r);have HW1:=Hd (fun o r=>zf (ze _) q1 P R o r);have HW2:=Hd (fun o r=>zf (ze _) q2 P R o r);have B:=B';have Z:=Z';(try clear Zp);have Zp:=Nat.lt_of_succ_lt Z;clear B' Z' P R q0 q1 q2;(try simp only []))))))|(refine zk (id:=2) [(0,true),(1,true),(2,true),(4,true),(3,false),(5,false),(6,false)] 6 (by kernel_rfl) (by kernel_rfl) ?_;(repeat (first|(refine zq rfl (fun K hK=>?_);go_simp;(try simp (disch:=omega) only [IntWalk.i64_in,Int.tmod_eq_emod_of_nonneg,Int.tdiv_eq_ediv_of_nonneg]);refine hK _ ?_;clear hK K)|(refine zo rfl (fun K hK=>?_);go_simp;(first|((first|(go_at_call 118;refine (zaT _ _ _ (by omega) (by omega) (by omega) (by omega)).mono ?_)|(go_at_call 97;refine (zcL _ _ (by omega)).mono ?_));rintro e w' ⟨rfl,hb⟩;obtain ⟨X,rfl⟩:=hb.ext;clear hb)|((go_at_call 84;refine (SC.use (zY _ _) (fun _=>True) (fun _ _=>trivial) (by first|exact HL.out|exact HL.out.last) (⟨_,_,_,rfl,by (refine ⟨?_,?_,?_⟩<;>((repeat (first|with_reducible exact HW0.out _ _|with_reducible exact HW1.out _ _|with_reducible exact HW2.out _ _|with_reducible apply RdL.drew|with_reducible refine RdL.ext ?_ _))))⟩ : MRd _ _ _)).mono ?_);(first|rintro e w' ⟨v2,x,m2,rfl,hx,hm,hb,HL2⟩|rintro e w' ⟨v2,x,y,m2,rfl,hx,hm,hb,HL2⟩);(try dsimp only at HL2);clear HL;have HL:=Hd HL2;clear HL2;obtain ⟨f0,g0,f1,g1,f2,g2,rfl,q0,q1,q2⟩:=hm.form;obtain ⟨X,rfl⟩:=hb.ext;have Q0:=Hd q0;have Q1:=Hd q1;have Q2:=Hd q2;clear hm q0 q1 q2 hb));(try go_simp);refine hK _ _ (by show Sx _ _;(try simp only [<- Array.append_assoc]);repeat (first|with_reducible exact Sx.drew _|with_reducible exact Sx.same _ _ _ _|with_reducible exact ⟨_,rfl⟩|with_reducible apply Sx.more|with_reducible apply Sx.ext|with_reducible apply Sx.alloc|with_reducible apply zL|with_reducible exact Sx.refl _)) ?_;clear hK K)|(refine zy rfl rfl (fun K hK=>?_);go_simp;refine hK _ _ ?_;clear hK K)|(refine zo rfl (fun K hK=>?_);go_simp;refine hK _ _ (by show Sx _ _;(try simp only [<- Array.append_assoc]);repeat (first|with_reducible exact Sx.drew _|with_reducible exact Sx.same _ _ _ _|with_reducible exact ⟨_,rfl⟩|with_reducible apply Sx.more|with_reducible apply Sx.ext|with_reducible apply Sx.alloc|with_reducible apply zL|with_reducible exact Sx.refl _)) ?_;clear hK K)));have Q0':=Q0.out;have Q1':=Q1.out;have Q2':=Q2.out;clear Q0 Q1 Q2;(try simp only [zm,zA,Array.append_assoc] at Q0' Q1' Q2');(try simp only [zm,Array.append_assoc]);refine zM (fun W0=>Below w.heap.size w W0/\W0.heap[w.heap.size]?=some _/\W0.heap[w.heap.size+1]?=some _/\RdL zE W0 (.slice f0 m2.cells.length g0) m2.cells/\RdL zH W0 (.slice f1 m2.rd.length g1) m2.rd/\RdL zH W0 (.slice f2 m2.wr.length g2) m2.wr/\w.heap.size+1<W0.heap.size) ⟨(zV B _ _).ofExt _,(zx Z _ _ _).1,(zx Z _ _ _).2,zt (zh _) Z Q0' _ _,zt (ze _) Z Q1' _ _,zt (ze _) Z Q2' _ _,zb (zx Z _ _ _).2⟩ ?_;clear Q0' Q1' Q2';rintro w3 ⟨B',P,R,q0,q1,q2,Z'⟩;(clear HW0 HW1 HW2 B Z;have e1:=zl P R;rw [<- e1];clear e1;have HW0:=Hd (fun o r=>zf (zh _) q0 P R o r);have HW1:=Hd (fun o r=>zf (ze _) q1 P R o r);have HW2:=Hd (fun o r=>zf (ze _) q2 P R o r);have B:=B';have Z:=Z';(try clear Zp);have Zp:=Nat.lt_of_succ_lt Z;clear B' Z' P R q0 q1 q2;(try simp only []));(try (have hmc:=zab x hx;(rcases hmc with ⟨hm0,hm1,hmq⟩|⟨hm0,hm1,hm2,hmq⟩|⟨hm0,hm1,hm2,hmq,hm3⟩<;>(rw [hmq] at HL;clear hmq))));(all_goals ((repeat' ((rcases HL.out.ite with ⟨hg,HL2⟩|⟨hg,HL2⟩<;>(clear HL;have HL:=Hd HL2;clear HL2;try first|exact absurd hg (by decide)|exact absurd rfl hg|(exfalso;omega)|(have hgz : _ ∨ _:=hg;clear hg;rcases hgz with hg|hg<;>(try have hgb:=bne_iff_ne.2 hg))|(have hgz:=not_or.1 hg;clear hg;obtain ⟨hg,hgo⟩:=hgz;try replace hgo:=Decidable.not_not.1 hgo))))))))|(exfalso;(simp only [bne_eq_false_iff_eq,beq_eq_false_iff_ne,beq_iff_eq,bne_iff_ne] at *);omega))))
 all_goals (obtain ⟨rfl,rfl⟩:=HL.out.end;refine bodyPost_ret (by simp [results,Tryz.results116,go_sem,Z];rfl) rfl ?_;exact ⟨_,rfl,⟨_,_,_,rfl,HW0.out _ _,HW1.out _ _,HW2.out _ _⟩,zV B _ _⟩)
end Go.Proofs.YtncnbihlngapbaaGreat
namespace Go
section
variable {P:Program}
theorem zic {w:World} {t ty e:TypeId} {size bytes:Nat} (E:Elem P t e size bytes) {base:Nat} {v:Value} {n:Nat} {xs:List Value} (hown:w.ownsRow base e size v n xs)
  {x:Value} {m:Nat} {news:List Value} (hx:Sl w x m news) (hl:news.length=m*size) (h1:∀ u ∈ news,u.oneCell'=true) (hb:(n+m)*bytes<=140737488355328) (h63:n+m<=maxLen) (hbase:base<=w.heap.size) :
  ∃ v' w',(Builtin.append_ #[t,t] ty #[v,x]).run P w=.ok v' w'/\w'.ownsRow base e size v' (n+m) (xs++news)/\w.grownBy w' v.ownBlock/\(v'=.slice none 0 0 ↔ v=.slice none 0 0/\m=0)/\(v'.ownBlock=v.ownBlock ∨ v'.ownBlock=some w.heap.size):=by
 obtain ⟨v',w',hr,h2,h3,h4⟩:=zhI (P:=P) (ty:=ty) E hown hx hl h1 hb h63 hbase
 refine ⟨v',w',hr,h2,h3,h4,?_⟩
 have same:∀ {u:Value} {w'':World},(Builtin.append_ #[t,t] ty #[v,x]).run P w=.ok u w''->v'=u:=fun h=>by
  rw [hr] at h
  injection h
 obtain ⟨i,z,hi,hz,hs,hby,hzs⟩:=E.hi
 subst hs
 subst hby
 have hsm:n+m<=9223372036854775807:=by simp only [maxLen] at h63;omega
 rcases hx with ⟨rfl,rfl,rfl⟩|⟨b,off,cap,rfl,_,_,hc⟩
 ·rw [same (run_append_owned_none w base t ty e i i.size E.ht hi v n xs hown)]
  exact .inl rfl
 ·have hnews:∀ j u,news[j]?=some u->w.cell? ((⟨b,off,none⟩ : Addr).add j)=some u:=fun j u hj=>by rw [zbQ];exact hc j u hj
  rcases hown.2 with ⟨rfl,rfl⟩|⟨g,gcap,cur,rfl,hbg,hg,hnc,hcm,hcs,htake⟩
  ·by_cases hm:m=0
   ·rw [h4.2 ⟨rfl,hm⟩]
    exact .inl rfl
   ·rw [same (run_append_nil (P:=P) w t ty e i z E.ht hi hz ⟨b,off,none⟩ m cap news hl hnews (by omega) (by omega) (by have hb:=hb;simp only [Nat.zero_add] at hb;omega))]
    exact .inr rfl
  ·by_cases hroom:n+m<=gcap
   ·have hfit:n*i.size+news.length<=cur.size:=by rw [hl,hcs,<- Nat.add_mul];exact Nat.mul_le_mul_right _ hroom
    rw [same (run_append_room (P:=P) w t ty e i E.ht hi g n gcap cur hg ⟨b,off,none⟩ m cap news hl hnews h1 hroom hfit)]
    exact .inl rfl
   ·have holds:∀ j u,xs[j]?=some u->w.cell? ((⟨g,0,none⟩ : Addr).add j)=some u:=hown.cells (g:=g) rfl
    rw [same (run_append_grow (P:=P) w t ty e i z E.ht hi hz ⟨g,0,none⟩ n gcap xs hown.1 holds ⟨b,off,none⟩ m cap news hl hnews (by omega) (by omega) (growslice_fits (by omega) hb))]
    exact .inr rfl
theorem zb3 {α : Type} {R:RowOf α} {w:World} {ops:Array Oper} {rest:List Oper} {o:Oper} {a:Act} {Q:Exit->Act->World->Prop} (hgd:o.guard=none) (s x:Operand) (t:TypeId)
  (ho:o.op=.call { callee:=.builtin .append,args:=#[s,x],argTypes:=#[t,t] })
  {e:TypeId} {bytes:Nat} (E:Elem P t e R.k bytes) {B:Nat} {v:Value} {xs:List α} (hown:OwnL R e w B v xs) (hs:a.eval s=v)
  {vx:Value} {ys:List α} (hx:RdL R w vx ys) (hvx:a.eval x=vx) (hb:(xs.length+ys.length)*bytes<=140737488355328) (h63:xs.length+ys.length<=maxLen) (hbase:B<=w.heap.size)
  (h:∀ v' w',OwnL R e w' B v' (xs++ys)->w.grownBy w' v.ownBlock->(v'.ownBlock=v.ownBlock ∨ v'.ownBlock=some w.heap.size)->wpList P ops Q rest (a.put o.dst v') w'):wpList P ops Q (o :: rest) a w:=by
 refine wpList_plain hgd fun K hK=>?_
 obtain ⟨v',w',hr,h2,h3,h4,h5⟩:=zic (P:=P) (ty:=o.type) E hown hx (R.flat_len ys) (R.flat_one ys) hb h63 hbase
 unfold Oper.wp execOp
 simp only [ho,resolve,invoke,builtin,Sem.run_bind,Sem.run_pure,Result.andThen_ok,List.map_toArray,List.map_cons,List.map_nil,hs,hvx,hr]
 refine hK _ _ (h v' w' ?_ h3 h5)
 unfold OwnL
 rw [List.length_append,List.flatMap_append]
 exact h2
def Off {α : Type} (xs:List α) (v o:Value):Prop:=xs = [] ∨ ∀ k,o.ownBlock=some k->v.ownBlock ≠ some k
theorem RdL.keptO {α : Type} {R:RowOf α} {w w':World} {v o:Value} {xs:List α} (h:RdL R w v xs) (hd:Off xs v o) (hg:w.grownBy w' o.ownBlock):RdL R w' v xs:=by
 rcases hd with rfl|hd
 ·rcases h with h|⟨b,off,cap,rfl,h1,h2,h3⟩
  ·exact .inl h
  ·exact .inr ⟨b,off,cap,rfl,h1,h2,fun j u hj=>by simp at hj⟩
 ·refine h.kept hg ?_
  cases hv:v.ownBlock with
  | none=>exact .inl rfl
  | some k =>
   right
   intro he
   exact hd k he.symm hv
theorem Off.next {α : Type} {R:RowOf α} {w:World} {v o o':Value} {xs:List α} (hk : 0<R.k) (hd:Off xs v o) (h:RdL R w v xs) (ho:o'.ownBlock=o.ownBlock ∨ o'.ownBlock=some w.heap.size):Off xs v o':=by
 rcases hd with rfl|hd
 ·exact .inl rfl
 ·by_cases hx:xs = []
  ·exact .inl hx
  ·right
   intro k hk2 hv
   rcases ho with ho|ho
   ·exact hd k (ho ▸ hk2) hv
   ·rw [ho] at hk2
    cases hk2
    obtain ⟨ao,cap,rfl,_,_,_,h4⟩:=h.shape
    obtain ⟨b,off,rfl,hb,_⟩:=h4 hx
    have:=hb hk
    have e:b=w.heap.size:=by simpa [Value.ownBlock] using hv
    omega
theorem Off.fresh {α : Type} {R:RowOf α} {w:World} {v o:Value} {xs:List α} (hk : 0<R.k) (h:RdL R w v xs) (ho:∀ k,o.ownBlock=some k->w.heap.size<=k):Off xs v o:=by
 by_cases hx:xs = []
 ·exact .inl hx
 ·right
  intro k hk2 hv
  obtain ⟨ao,cap,rfl,_,_,_,h4⟩:=h.shape
  obtain ⟨b,off,rfl,hb,_⟩:=h4 hx
  have h5:=hb hk
  have h6:=ho k hk2
  have e:b=k:=by simpa [Value.ownBlock] using hv
  omega
theorem Off.later {α : Type} {R:RowOf α} {e:TypeId} {w':World} {B:Nat} {v o:Value} {xs:List α} (h:OwnL R e w' B v xs) (ho:∀ k,o.ownBlock=some k->k<B):Off xs v o:=by
 right
 intro k hk2 hv
 have h1:=(h.lt k hv).1
 have h2:=ho k hk2
 omega
end
end Go
namespace Go.Proofs.YtncnbihlngapbaaGreat
open Go.ChangeShapes Go.WideShapes Go.ChangeAt Go.RowKit
def SCA {α : Type} (f:FuncId) (args:Value->Array Value) (p:Mp α) (ret:Value->α->Value):Prop :=
 ∀ (w:World) (v0 v1 v2:Value) (m:MachD),RdL zE w v0 m.cells->RdL zH w v1 m.rd->RdL zH w v2 m.wr->p.fits m->Calls Tryz.prog f (args (.agg #[v0,v1,v2])) w fun e w'=>∃ v1',e=.returned (ret (.agg #[v0,v1',v2]) (p.run m).1)/\OwnL zH 9 w' w.heap.size v1' (p.run m).2.rd/\Below w.heap.size w w'
theorem SCAmk {α : Type} {f:FuncId} {args:Value->Array Value} {p:Mp α} {ret:Value->α->Value}
  (h : ∀ (w : World) (m : MachD) (a0 : Option Addr) (c0 : Nat) (a1 : Option Addr) (c1 : Nat) (a2 : Option Addr) (c2 : Nat), Hid (RdL zE w (.slice a0 m.cells.length c0) m.cells) -> Hid (RdL zH w (.slice a1 m.rd.length c1) m.rd) -> Hid (RdL zH w (.slice a2 m.wr.length c2) m.wr) -> p.fits m ->
   Calls Tryz.prog f (args (.agg #[.slice a0 m.cells.length c0,.slice a1 m.rd.length c1,.slice a2 m.wr.length c2])) w fun e w'=>∃ v1',e=.returned (ret (.agg #[.slice a0 m.cells.length c0,v1',.slice a2 m.wr.length c2]) (p.run m).1)/\OwnL zH 9 w' w.heap.size v1' (p.run m).2.rd/\Below w.heap.size w w'):SCA f args p ret:=by
 intro w v0 v1 v2 m h0 h1 h2 hf
 obtain ⟨a0,c0,rfl⟩:=h0.form
 obtain ⟨a1,c1,rfl⟩:=h1.form
 obtain ⟨a2,c2,rfl⟩:=h2.form
 exact h w m a0 c0 a1 c1 a2 c2 h0 h1 h2 hf
def Looks {α : Type} (p:Mp α):Prop:=∀ m,(p.run m).2.cells=m.cells/\(p.run m).2.wr=m.wr
theorem ziK (k:ByteArray):Looks (K.look k):=fun _=>⟨rfl,rfl⟩
theorem zjv (k:ByteArray):Looks (K.num k):=fun _=>⟨rfl,rfl⟩
theorem zhO (id p:Int):Looks (K.block id p):=fun _=>⟨rfl,rfl⟩
theorem SCA.use {α β : Type} {f:FuncId} {args:Value->Array Value} {p:Mp α} {ret:Value->α->Value} (h:SCA f args p ret) (hl:Looks p) (S : α->Prop) (hS:∀ m,p.fits m->S (p.run m).1) {k : α->Mp β} {w:World} {v0 v1 v2:Value} {m:MachD} {r : β × MachD} (L:Lft (p >>= k) m r) (h0:RdL zE w v0 m.cells) (h1:RdL zH w v1 m.rd) (h2:RdL zH w v2 m.wr) :
  Calls Tryz.prog f (args (.agg #[v0,v1,v2])) w fun e w'=>∃ a1 n1 a m1,e=.returned (ret (.agg #[v0,.slice a1 m1.rd.length n1,v2]) a)/\S a/\OwnL zH 9 w' w.heap.size (.slice a1 m1.rd.length n1) m1.rd/\Below w.heap.size w w'/\(m1.cells=m.cells/\m1.wr=m.wr)/\Lft (k a) m1 r:=by
 refine (h w v0 v1 v2 m h0 h1 h2 L.step.1).mono ?_
 rintro e w' ⟨v',rfl,ho,hb⟩
 obtain ⟨a1,n1,rfl⟩:=ho.rd.form
 exact ⟨_,_,_,_,rfl,hS m L.step.1,ho,hb,hl m,L.step.2⟩
theorem zd5 (k:ByteArray):SCA 82 (fun x=>#[x,.string k]) (K.look k) (fun v' t=>.tuple #[v',.string t]):=by
 refine SCAmk (fun w m a0 c0 a1 c1 a2 c2 H0 H1 H2 hf=>?_)
 obtain ⟨hs,hk,_⟩:=hf
 have hl0:=hs.cl
 have hl2:=hs.rl
 have D1:=Hd (fun w' (hb:Below w.heap.size w w')=>zaS _ m.rd k w' (H1.out.below hb) (by omega))
 have D2:=Hd (fun w' (hb:Below w.heap.size w w')=>zfq _ m.cells k w' (H0.out.below hb))
 go_enter Tryz.func82,Tryz.ntmps82
 (try simp only []);repeat (first|go_skip|go_guarded|go_step|go_upon|go_back)
 (go_at_call 22;refine (D1.out _ (by repeat (first|with_reducible exact Below.refl _ _|with_reducible apply Below.ofExt|with_reducible apply Below.ofAlloc|with_reducible apply Below.drew|with_reducible apply Below.ofDrewN|with_reducible assumption|(with_reducible refine Below.setCell ?_ (by first|exact Nat.le_refl _|(simp [go_sem];done)|(simp [go_sem];omega)) _)))).mono ?_;rintro e w1 ⟨v1,rfl,ho1,hb1⟩)
 obtain ⟨b1,d1,rfl⟩:=ho1.rd.form
 have h2:=zcS w (obM (.slice a0 m.cells.length c0) (.slice a1 m.rd.length c1) (.slice a2 m.wr.length c2)) zi5 w.heap.size rfl
 have B1:Below w.heap.size w w1:=Below.then (show Below w.heap.size w ((w.alloc (obM (.slice a0 m.cells.length c0) (.slice a1 m.rd.length c1) (.slice a2 m.wr.length c2))).alloc zi5) from (by repeat (first|with_reducible exact Below.refl _ _|with_reducible apply Below.ofExt|with_reducible apply Below.ofAlloc|with_reducible apply Below.drew|with_reducible apply Below.ofDrewN|with_reducible assumption|(with_reducible refine Below.setCell ?_ (by first|exact Nat.le_refl _|(simp [go_sem];done)|(simp [go_sem];omega)) _)))) hb1
 have P1:=(Grew.below hb1 w.heap.size (by first|(simp;done)|(simp;omega))).trans h2.1
 have R1:=(Grew.below hb1 (w.heap.size+1) (by first|(simp;done)|(simp;omega))).trans h2.2
 have T1:=Hd ho1
 have Z1:=hb1.size
 rw [show ((w.alloc (Obj.cells #[.slice a0 m.cells.length c0,.slice a1 m.rd.length c1,.slice a2 m.wr.length c2] 76)).alloc (Obj.cells #[.slice none 0 0,.slice none 0 0,.slice none 0 0] 76)).heap.size=w.heap.size+1+1 by simp] at Z1
 have Zp:w.heap.size<w1.heap.size:=by omega
 have Zq:w.heap.size+1<w1.heap.size:=by omega
 unfold obM at P1
 unfold zi5 at R1
 have e1:=zl P1 R1
 rw [<- e1]
 clear e1
 have S1:=fun o r=>zp (zp B1 (p:=w.heap.size+1) (by omega) r) (p:=w.heap.size) (Nat.le_refl _) o
 (try simp only []);repeat (first|go_skip|go_guarded|go_step|go_upon|go_back)
 refine zaB [(0,true),(1,true),(2,true),(3,true),(4,false),(5,false),(6,false)] 5 (by kernel_rfl) (by kernel_rfl) ?_
 repeat (refine zq rfl (fun K hK=>?_);go_simp;(try simp (disch:=omega) only [IntWalk.i64_in]);refine hK _ ?_;clear hK K)
 refine zo rfl (fun K hK=>?_);go_simp;go_at_call 110;refine (D2.out _ (by first|with_reducible exact S1 _ _|(with_reducible apply Below.drew;with_reducible exact S1 _ _))).mono ?_;rintro e w' ⟨rfl,hb⟩;obtain ⟨X,rfl⟩:=hb.ext;clear hb;try go_simp;refine hK _ _ (by show Sx _ _;(try simp only [<- Array.append_assoc]);repeat (first|with_reducible exact Sx.drew _|with_reducible exact Sx.same _ _ _ _|with_reducible exact ⟨_,rfl⟩|with_reducible apply Sx.more|with_reducible apply Sx.ext|with_reducible apply Sx.alloc|with_reducible apply zL|with_reducible exact Sx.refl _)) ?_;clear hK K
 repeat (refine zq rfl (fun K hK=>?_);go_simp;(try simp (disch:=omega) only [IntWalk.i64_in]);refine hK _ ?_;clear hK K)
 repeat (refine zy rfl rfl (fun K hK=>?_);go_simp;refine hK _ _ ?_;clear hK K)
 refine zX ?_
 (try simp only []);repeat (first|go_skip|go_guarded|go_step|go_upon|go_back)
 have Y1:w.heap.size+1<w1.heap.size:=Zq
 refine bodyPost_ret (by simp [results,Tryz.results82,go_sem,Y1];rfl) rfl ?_
 have BF:=fun o r=>zp (zp B1 (p:=w.heap.size+1) (by omega) r) (p:=w.heap.size) (Nat.le_refl _) o
 exact ⟨_,rfl,OwnL.base ((zaX T1.out (p:=w.heap.size) (by simp) _ _).ext X) (by simp;omega),(BF _ _).ofExt X⟩
theorem zfX (k:ByteArray):SCA 55 (fun x=>#[x,.string k]) (K.num k) (fun v' n=>.tuple #[v',.int .i64 n]):=by
 refine SCAmk (fun w m a0 c0 a1 c1 a2 c2 H0 H1 H2 hf=>?_)
 have hf1:=(Mp.fits_bind (K.look k) _ m).1 hf
 have D1:=fun w' (hb:Below w.heap.size w w')=>zd5 k w' _ _ _ m (H0.out.below hb) (H1.out.below hb) (H2.out.below hb) hf1.1
 have hz:((K.look k).run m).1.size<=1048576:=zaI hf1.1.1 k
 have hr:(K.num k).run m=(zbu ((K.look k).run m).1,((K.look k).run m).2):=rfl
 rw [hr]
 clear hr hf hf1
 generalize (K.look k).run m=R at D1 hz ⊢
 obtain ⟨t,m1⟩:=R
 dsimp only at D1 hz ⊢
 have D1:=Hd D1
 go_enter Tryz.func55,Tryz.ntmps55
 (try simp only []);repeat (first|go_skip|go_guarded|go_step|go_upon|go_back)
 (go_at_call 82;refine (D1.out _ (by repeat (first|with_reducible exact Below.refl _ _|with_reducible apply Below.ofExt|with_reducible apply Below.ofAlloc|with_reducible apply Below.drew|with_reducible apply Below.ofDrewN|with_reducible assumption|(with_reducible refine Below.setCell ?_ (by first|exact Nat.le_refl _|(simp [go_sem];done)|(simp [go_sem];omega)) _)))).mono ?_;rintro e w1 ⟨v1,rfl,ho1,hb1⟩)
 obtain ⟨b1,d1,rfl⟩:=ho1.rd.form
 obtain ⟨B1,P1,R1,Zq,Zp⟩:=zef hb1
 have ho2:=OwnL.base (B':=w.heap.size+2) ho1 (by simp)
 have D2:=Hd (fun w'=>zcA t w' hz)
 have e1:=zl P1 R1
 rw [<- e1]
 have HW1:=Hd (fun o r=>zaX ho2 (p:=w.heap.size) (by omega) o r)
 clear e1 P1 R1 ho1 ho2 hb1 D1
 (try simp only []);repeat (first|go_skip|go_guarded|go_step|go_upon|go_back)
 refine zaB [(0,true),(1,true),(2,false),(3,false),(4,false)] 3 (by kernel_rfl) (by kernel_rfl) ?_
 repeat (refine zq rfl (fun K hK=>?_);go_simp;(try simp (disch:=omega) only [IntWalk.i64_in]);refine hK _ ?_;clear hK K)
 refine zo rfl (fun K hK=>?_);go_simp;go_at_call 83;refine (D2.out _).mono ?_;rintro e w' ⟨rfl,hb⟩;obtain ⟨X,rfl⟩:=hb.ext;clear hb;try go_simp;refine hK _ _ (by show Sx _ _;(try simp only [<- Array.append_assoc]);repeat (first|with_reducible exact Sx.drew _|with_reducible exact Sx.same _ _ _ _|with_reducible exact ⟨_,rfl⟩|with_reducible apply Sx.more|with_reducible apply Sx.ext|with_reducible apply Sx.alloc|with_reducible apply zL|with_reducible exact Sx.refl _)) ?_;clear hK K
 repeat (refine zq rfl (fun K hK=>?_);go_simp;(try simp (disch:=omega) only [IntWalk.i64_in]);refine hK _ ?_;clear hK K)
 repeat (refine zy rfl rfl (fun K hK=>?_);go_simp;refine hK _ _ ?_;clear hK K)
 refine zX ?_
 (try simp only []);repeat (first|go_skip|go_guarded|go_step|go_upon|go_back)
 refine bodyPost_ret (by simp [results,Tryz.results55,go_sem,Zq];rfl) rfl ?_
 have BF:=fun o r=>zp (zp B1 (p:=w.heap.size+1) (by omega) r) (p:=w.heap.size) (Nat.le_refl _) o
 exact ⟨_,rfl,OwnL.base ((HW1.out _ _).ext X) (by omega),(BF _ _).ofExt X⟩
theorem zjr {α : Type} {R:RowOf α} {e:TypeId} {w:World} {B:Nat} {v:Value} {xs:List α} {p:Nat} {o r:Obj} {X:Ext} (hz:p+1<w.heap.size) (hp:p+1<B) (h:OwnL R e (((w.setB (p+1) r).setB p o).ext X) B v xs) (o' r':Obj):OwnL R e (((w.setB (p+1) r').setB p o').ext X) B v xs:=by
 have h1:=zaX h hp o' r'
 rw [zaC _ _ _ _ (by rw [zd,zd];exact hz),zaC _ _ _ _ (by rw [zd,zd,zd];omega),zgs _ (by omega),zgs _ (by omega)] at h1
 exact h1
theorem zeZ (id:Int) (id0 : -9223372036854775808<=id) (id1:id<=9223372036854775807) (place:Int) (place0 : -9223372036854775808<=place) (place1:place<=9223372036854775807):SCA 115 (fun x=>#[x,.int .i64 id,.int .i64 place]) (K.block id place) (fun v' t=>.tuple #[v',.string t]):=by
 refine SCAmk (fun w m a0 c0 a1 c1 a2 c2 H0 H1 H2 hf=>?_)
 obtain ⟨res,mres,hr⟩ : ∃ res mres,(K.block id place).run m=(res,mres):=⟨_,_,rfl⟩
 have HL:Hid (Lft (K.block id place) m (res,mres)):=⟨hf,hr⟩
 rw [hr]
 clear hr hf
 unfold K.block at HL
 go_enter Tryz.func115,Tryz.ntmps115
 (try simp only [])
 ((repeat (first|((first|with_reducible refine zb8 (fun W0=>Below w.heap.size w W0/\W0.heap[w.heap.size]?=some (.cells #[.slice a0 m.cells.length c0,.slice a1 m.rd.length c1,.slice a2 m.wr.length c2] 76)/\W0.heap[w.heap.size+1]?=some (.cells #[.slice none 0 0,.slice none 0 0,.slice none 0 0] 76)) ?_ ?_|with_reducible refine zfu (fun W0=>Below w.heap.size w W0/\W0.heap[w.heap.size]?=some (.cells #[.slice a0 m.cells.length c0,.slice a1 m.rd.length c1,.slice a2 m.wr.length c2] 76)/\W0.heap[w.heap.size+1]?=some (.cells #[.slice none 0 0,.slice none 0 0,.slice none 0 0] 76)) ?_ ?_);(· with_reducible exact z8 w (.cells #[.slice a0 m.cells.length c0,.slice a1 m.rd.length c1,.slice a2 m.wr.length c2] 76) (.cells #[.slice none 0 0,.slice none 0 0,.slice none 0 0] 76) (by repeat (first|with_reducible exact Below.refl _ _|with_reducible apply Below.ofExt|with_reducible apply Below.ofAlloc|with_reducible apply Below.drew|with_reducible apply Below.ofDrewN|with_reducible assumption|(with_reducible refine Below.setCell ?_ (by first|exact Nat.le_refl _|(simp [go_sem];done)|(simp [go_sem];omega)) _)))))|go_skip|go_guarded|go_step|go_upon|go_back));(rintro w1 ⟨B,P,R⟩;have Z:=zb R;have e1:=zl P R;rw [<- e1];have HW0:=Hd (fun o r=>H0.out.below (zV B o r));have HW1:=Hd (fun o r=>H1.out.below (zV B o r));have HW2:=Hd (fun o r=>H2.out.below (zV B o r));have Zp:=Nat.lt_of_succ_lt Z;clear e1 P R H0 H1 H2;((repeat' ((rcases HL.out.ite with ⟨hg,HL2⟩|⟨hg,HL2⟩<;>(clear HL;have HL:=Hd HL2;clear HL2;try first|exact absurd hg (by decide)|exact absurd rfl hg|(exfalso;omega)|(have hgz : _ ∨ _:=hg;clear hg;rcases hgz with hg|hg<;>(try have hgb:=bne_iff_ne.2 hg))|(have hgz:=not_or.1 hg;clear hg;obtain ⟨hg,hgo⟩:=hgz;try replace hgo:=Decidable.not_not.1 hgo))))))))
 ((try simp only []);repeat (first|go_skip|go_guarded|go_step|go_upon|go_back))
 refine zk (id:=1) [(0,true),(1,true),(2,true),(3,false),(4,false),(5,true),(6,true),(7,true),(8,false),(9,false)] 5 (by kernel_rfl) (by kernel_rfl) ?_
 repeat (first|(refine zq rfl (fun K hK=>?_);go_simp;(try simp (disch:=omega) only [IntWalk.i64_in,Int.tmod_eq_emod_of_nonneg,Int.tdiv_eq_ediv_of_nonneg]);refine hK _ ?_;clear hK K)|(refine zo rfl (fun K hK=>?_);go_simp;(go_at_call 82;refine (SCA.use (zd5 _) (ziK _) (fun a=>a.size<=1048576) (fun m h=>zaI h.1 _) (by first|exact HL.out|exact HL.out.last) (by ((repeat (first|with_reducible exact HW0.out _ _|with_reducible exact HW1.out _ _|with_reducible exact HW2.out _ _|with_reducible apply RdL.drew|with_reducible refine RdL.ext ?_ _)))) (by ((repeat (first|with_reducible exact HW0.out _ _|with_reducible exact HW1.out _ _|with_reducible exact HW2.out _ _|with_reducible apply RdL.drew|with_reducible refine RdL.ext ?_ _)))) (by ((repeat (first|with_reducible exact HW0.out _ _|with_reducible exact HW1.out _ _|with_reducible exact HW2.out _ _|with_reducible apply RdL.drew|with_reducible refine RdL.ext ?_ _))))).mono ?_);rintro e w' ⟨al,nl,x,m2,rfl,hx,ho,hb,hcw,HL2⟩;(try dsimp only at HL2);clear HL;have HL:=Hd HL2;clear HL2;obtain ⟨X,rfl⟩:=hb.ext;have HO:=Hd (OwnL.base (B':=w.heap.size+2) ho (by have:=Z;simp only [zw,zd];omega));clear ho hb;(try go_simp);refine hK _ _ (by show Sx _ _;(try simp only [<- Array.append_assoc]);repeat (first|with_reducible exact Sx.drew _|with_reducible exact Sx.same _ _ _ _|with_reducible exact ⟨_,rfl⟩|with_reducible apply Sx.more|with_reducible apply Sx.ext|with_reducible apply Sx.alloc|with_reducible apply zL|with_reducible exact Sx.refl _)) ?_;clear hK K)|(refine zo rfl (fun K hK=>?_);go_simp;(first|((go_at_call 118;refine (zaT _ _ _ (by omega) (by omega) (by omega) (by omega)).mono ?_);rintro e w' ⟨rfl,hb⟩;obtain ⟨X,rfl⟩:=hb.ext;clear hb)|((go_at_call 82;refine (SC.use (zaq _) (fun a=>a.size<=1048576) (fun m h=>zaI h.1 _) (by first|exact HL.out|exact HL.out.last) (⟨_,_,_,rfl,by (refine ⟨?_,?_,?_⟩<;>((repeat (first|with_reducible exact HW0.out _ _|with_reducible exact HW1.out _ _|with_reducible exact HW2.out _ _|with_reducible apply RdL.drew|with_reducible refine RdL.ext ?_ _))))⟩ : MRd _ _ _)).mono ?_);(first|rintro e w' ⟨v2,x,m2,rfl,hx,hm,hb,HL2⟩|rintro e w' ⟨v2,x,y,m2,rfl,hx,hm,hb,HL2⟩);(try dsimp only at HL2);clear HL;have HL:=Hd HL2;clear HL2;obtain ⟨f0,g0,f1,g1,f2,g2,rfl,q0,q1,q2⟩:=hm.form;obtain ⟨X,rfl⟩:=hb.ext;have Q0:=Hd q0;have Q1:=Hd q1;have Q2:=Hd q2;clear hm q0 q1 q2 hb));(try go_simp);refine hK _ _ (by show Sx _ _;(try simp only [<- Array.append_assoc]);repeat (first|with_reducible exact Sx.drew _|with_reducible exact Sx.same _ _ _ _|with_reducible exact ⟨_,rfl⟩|with_reducible apply Sx.more|with_reducible apply Sx.ext|with_reducible apply Sx.alloc|with_reducible apply zL|with_reducible exact Sx.refl _)) ?_;clear hK K)|(refine zy rfl rfl (fun K hK=>?_);go_simp;refine hK _ _ ?_;clear hK K)|(refine zo rfl (fun K hK=>?_);go_simp;refine hK _ _ (by show Sx _ _;(try simp only [<- Array.append_assoc]);repeat (first|with_reducible exact Sx.drew _|with_reducible exact Sx.same _ _ _ _|with_reducible exact ⟨_,rfl⟩|with_reducible apply Sx.more|with_reducible apply Sx.ext|with_reducible apply Sx.alloc|with_reducible apply zL|with_reducible exact Sx.refl _)) ?_;clear hK K))
 have HO':=HO.out
 clear HO
 (try simp only [zm,zA,Array.append_assoc] at HO')
 (try simp only [zm,Array.append_assoc])
 refine zM (fun W0=>Below w.heap.size w W0/\W0.heap[w.heap.size]?=some _/\W0.heap[w.heap.size+1]?=some _/\OwnL zH 9 W0 (w.heap.size+2) (.slice al m2.rd.length nl) m2.rd/\w.heap.size+1<W0.heap.size) ⟨(zV B _ _).ofExt _,(zx Z _ _ _).1,(zx Z _ _ _).2,zjr Z (by omega) HO' _ _,zb (zx Z _ _ _).2⟩ ?_
 clear HO' HW0 HW1 HW2 B Z Zp
 rintro w3 ⟨B,P,R,ho,Z⟩
 have e1:=zl P R
 rw [<- e1]
 have HWA:=Hd (fun o r=>zaX ho (p:=w.heap.size) (by omega) o r)
 have Zp:=Nat.lt_of_succ_lt Z
 clear e1 P R ho
 ((try simp only []);repeat (first|go_skip|go_guarded|go_step|go_upon|go_back))
 (go_at_call 99;refine (zcK _ _ (by omega)).mono ?_)
 rintro e w2 ⟨b,hun,rfl,hb⟩
 obtain ⟨B',P,R,Z',Zx⟩:=zF B Z hb
 have e1:=zl P R
 rw [<- e1]
 have HWB:=Hd (fun o r=>zaX (zau (HWA.out _ _) hb) (p:=w.heap.size) (by omega) o r)
 clear e1 P R hb HWA B Z Zp Zx
 have Zp:=Nat.lt_of_succ_lt Z'
 try simp only []
 obtain ⟨rfl,rfl⟩:=HL.out.end
 rcases hun with rfl|hun
 all_goals first|(rw [hun];cases b)|skip
 all_goals (
  ((try simp only []);repeat (first|go_skip|go_guarded|go_step|go_upon|go_back))
  refine bodyPost_ret (by simp [results,Tryz.results115,go_sem,Z'];rfl) rfl ?_
  first
   | exact ⟨_,rfl,OwnL.base (HWB.out _ _) (by omega),zV B' _ _⟩
   | (rw [hun];exact ⟨_,rfl,OwnL.base (HWB.out _ _) (by omega),zV B' _ _⟩))
end Go.Proofs.YtncnbihlngapbaaGreat
