/- Texts of this claim, merged: the walks and what they stand on. Each condition stands in its theorem. -/
import Derived.Deep.RegionWith
import Derived.Test.YtpnoehpmgflibaaGreatDoorCA8
set_option linter.unusedVariables false
set_option linter.unusedSimpArgs false
set_option maxRecDepth 100000
set_option maxHeartbeats 8000000
namespace Go.Proofs.YtpnoehpmgflibaaGreatDoor
open Go.ChangeShapes Go.WideShapes Go.ChangeAt Go.RowKit
theorem zeO (s:ByteArray) : 0<=za0 s/\za0 s<=999:=by
 unfold za0
 split
 ·rename_i h;omega
 ·omega
theorem zcF (k:ByteArray):SC 179 (fun x=>#[x,.string k]) (K.bump k) (fun v' n=>.tuple #[v',.int .i64 n]):=by
 refine SCmk (fun w m a0 c0 a1 c1 a2 c2 H0 H1 H2 hf=>?_)
 have hf1:(K.look k).fits m:=(Mp.fits_bind (K.look k) _ m).1 ((Mp.fits_bind (K.num k) _ m).1 hf).1 |>.1
 have hf2:(if 999<za0 ((K.look k).run m).1+1 then (pure 0:Mp Int) else (do K.setNum k (za0 ((K.look k).run m).1+1);pure (za0 ((K.look k).run m).1+1))).fits ((K.look k).run m).2:=((Mp.fits_bind (K.num k) _ m).1 hf).2
 have D1:=fun w' (hb:Below w.heap.size w w')=>za3 k w' (.agg #[.slice a0 m.cells.length c0,.slice a1 m.rd.length c1,.slice a2 m.wr.length c2]) m ⟨_,_,_,rfl,H0.out.below hb,H1.out.below hb,H2.out.below hb⟩ hf1
 have hz:((K.look k).run m).1.size<=1048576:=zaV hf1.1 k
 have hr:(K.bump k).run m=(if 999<za0 ((K.look k).run m).1+1 then (pure 0:Mp Int) else (do K.setNum k (za0 ((K.look k).run m).1+1);pure (za0 ((K.look k).run m).1+1))).run ((K.look k).run m).2:=rfl
 rw [hr]
 clear hr hf hf1
 generalize (K.look k).run m=R at D1 hz hf2 ⊢
 obtain ⟨t,m1⟩:=R
 dsimp only at D1 hz hf2 ⊢
 have hnb:=zeO t
 have D2:=fun w'=>zcQ t w' hz
 generalize za0 t=n at D2 hnb hf2 ⊢
 obtain ⟨res,mres,hres⟩ : ∃ res mres,(if 999<n+1 then (pure 0:Mp Int) else (do K.setNum k (n+1);pure (n+1))).run m1=(res,mres):=⟨_,_,rfl⟩
 rw [hres]
 dsimp only
 have RES:=Hd hres
 clear hres
 have D1:=Hd D1
 have D2:=Hd D2
 have HF2:=Hd hf2
 clear hf2
 obtain ⟨hn0,hn1⟩:=hnb
 go_enter Tryz.func179,Tryz.ntmps179
 (skip);repeat (first|go_skip|go_guarded|go_step|go_upon|go_back)
 (go_at_call 55;refine (D1.out _ (by repeat (first|with_reducible exact Below.refl _ _|with_reducible apply Below.ofAlloc))).mono ?_;rintro e w1 ⟨v1,rfl,hm1,hb1⟩)
 obtain ⟨b0,d0,b1,d1,b2,d2,rfl,q0,q1,q2⟩:=hm1.form
 obtain ⟨B1,P1,R1,Zq,Zp⟩:=ze1 hb1
 have e1:=zj P1 R1
 rw [<- e1]
 have W0:=fun o r=>zg (zf _) q0 P1 R1 o r
 have W1:=fun o r=>zg (zc _) q1 P1 R1 o r
 have W2:=fun o r=>zg (zc _) q2 P1 R1 o r
 have HW0:=Hd W0;have HW1:=Hd W1;have HW2:=Hd W2
 clear e1 P1 R1 hm1 q0 q1 q2 hb1 D1 W0 W1 W2
 (try simp only []);repeat (first|go_skip|go_guarded|go_step|go_upon|go_back)
 (go_at_call 196;refine (D2.out _).mono ?_;rintro e w2 ⟨rfl,hb2⟩)
 obtain ⟨B2,P2,R2,Zq2,Zp2⟩:=zG B1 Zq hb2
 have q0:=(HW0.out _ _).below hb2
 have q1:=(HW1.out _ _).below hb2
 have q2:=(HW2.out _ _).below hb2
 have e2:=zj P2 R2
 rw [<- e2]
 have W0:=fun o r=>zg (zf _) q0 P2 R2 o r
 have W1:=fun o r=>zg (zc _) q1 P2 R2 o r
 have W2:=fun o r=>zg (zc _) q2 P2 R2 o r
 have HW0:=Hd W0;have HW1:=Hd W1;have HW2:=Hd W2
 have S2:=fun o r=>zo (zo B2 (p:=w.heap.size+1) (by omega) r) (p:=w.heap.size) (Nat.le_refl _) o
 clear e2 P2 R2 q0 q1 q2 hb2 D2 W0 W1 W2 B1 Zq Zp
 by_cases hg : 999<n+1
 case pos =>
  have hres:=RES.out
  rw [if_pos hg] at hres
  obtain ⟨rfl,rfl⟩:=Prod.mk.inj (show ((0:Int),m1)=(res,mres) from hres)
  clear hres RES HF2
  (try simp only []);repeat (first|go_skip|go_guarded|go_step|go_upon|go_back)
  refine bodyPost_ret (by simp [results,Tryz.results179,go_sem,Zq2];rfl) rfl ?_
  exact ⟨_,rfl,⟨_,_,_,rfl,HW0.out _ _,HW1.out _ _,HW2.out _ _⟩,S2 _ _⟩
 case neg =>
  have hres:=RES.out
  rw [if_neg hg] at hres
  have hf3:=HF2.out
  rw [if_neg hg] at hf3
  have hf4:(K.lay k (zX (Lib.itoa (n+1)))).fits m1:=by
   have:=((Mp.fits_bind _ _ _).1 hf3).1
   unfold K.setNum K.numText at this
   rwa [if_pos (by omega)] at this
  have D3:=fun w' (a0 a1 a2:Option Addr) (c0 c1 c2:Nat) h0 h1 h2=>zan k (zX (Lib.itoa (n+1))) w' (.agg #[.slice a0 m1.cells.length c0,.slice a1 m1.rd.length c1,.slice a2 m1.wr.length c2]) m1 ⟨_,_,_,rfl,h0,h1,h2⟩ hf4
  have hr:(do K.setNum k (n+1);pure (n+1):Mp Int).run m1=(n+1,((K.lay k (zX (Lib.itoa (n+1)))).run m1).2):=by
   rw [Mp.run_bind]
   unfold K.setNum K.numText
   rw [if_pos (by omega)]
   rfl
  rw [hr] at hres
  clear hr hf3 hf4 RES HF2
  generalize (K.lay k (zX (Lib.itoa (n+1)))).run m1=R at D3 hres
  obtain ⟨u,m2⟩:=R
  dsimp only at D3 hres
  obtain ⟨rfl,rfl⟩:=Prod.mk.inj hres
  clear hres
  have D3:=Hd D3
  have D4:=Hd (fun w'=>zbQ (n+1) w' (by omega) (by omega))
  (try simp only []);repeat (first|go_skip|go_guarded|go_step|go_upon|go_back)
  go_region_with (first
   | (go_at_call 203;refine (D4.out _).mono ?_;rintro e w' ⟨rfl,hb⟩;obtain ⟨X,rfl⟩:=hb.ext;clear hb;try go_simp)
   | (go_at_call 182;refine (D3.out _ _ _ _ _ _ _ (by first|with_reducible exact (HW0.out _ _).ext _|with_reducible exact HW0.out _ _|with_reducible exact RdL.drew ((HW0.out _ _).ext _)) (by first|with_reducible exact (HW1.out _ _).ext _|with_reducible exact HW1.out _ _|with_reducible exact RdL.drew ((HW1.out _ _).ext _)) (by first|with_reducible exact (HW2.out _ _).ext _|with_reducible exact HW2.out _ _|with_reducible exact RdL.drew ((HW2.out _ _).ext _))).mono ?_;rintro e w' ⟨v1,rfl,hm1,hb1⟩;obtain ⟨f0,g0,f1,g1,f2,g2,rfl,q0,q1,q2⟩:=hm1.form;obtain ⟨X2,rfl⟩:=hb1.ext;have Q0:=Hd q0;have Q1:=Hd q1;have Q2:=Hd q2;clear hm1 q0 q1 q2 hb1;try go_simp))
  all_goals (repeat (first|go_skip|go_guarded|go_step|go_upon|go_back))
  all_goals (refine bodyPost_ret (by simp [results,Tryz.results179,go_sem,Zq2];rfl) rfl ?_)
  all_goals (have Q0':=Q0.out;have Q1':=Q1.out;have Q2':=Q2.out)
  all_goals (try rw [zp] at Q0' Q1' Q2')
  all_goals exact ⟨_,rfl,⟨_,_,_,rfl,za5 (zf _) Zq2 Q0' _,za5 (zc _) Zq2 Q1' _,za5 (zc _) Zq2 Q2' _⟩,(S2 _ _).ofExt _⟩
theorem zbA (id:Int) (h0 : -9223372036854775808<=id) (h1:id<=9223372036854775807):SC 113 (fun x=>#[x,.int .i64 id]) (K.state id) (fun v' n=>.tuple #[v',.int .i64 n]):=by
 refine SCmk (fun w m a0 c0 a1 c1 a2 c2 H0 H1 H2 hf=>?_)
 have D1:=fun w' (hb:Below w.heap.size w w')=>zU (K.procKey id K.tS) w' (.agg #[.slice a0 m.cells.length c0,.slice a1 m.rd.length c1,.slice a2 m.wr.length c2]) m ⟨_,_,_,rfl,H0.out.below hb,H1.out.below hb,H2.out.below hb⟩ hf
 have hr:(K.state id).run m=(K.num (K.procKey id K.tS)).run m:=rfl
 rw [hr]
 clear hr hf
 generalize (K.num (K.procKey id K.tS)).run m=R at D1 ⊢
 obtain ⟨n,m1⟩:=R
 dsimp only at D1 ⊢
 have D1:=Hd D1
 have D2:=Hd (fun w'=>zcb id K.tS w' (by decide) h0 h1)
 go_enter Tryz.func113,Tryz.ntmps113
 (skip);repeat (first|go_skip|go_guarded|go_step|go_upon|go_back)
 refine zcK (fun W0=>Below w.heap.size w W0/\W0.heap[w.heap.size]?=some (.cells #[.slice a0 m.cells.length c0,.slice a1 m.rd.length c1,.slice a2 m.wr.length c2] 54)/\W0.heap[w.heap.size+1]?=some (.cells #[.slice none 0 0,.slice none 0 0,.slice none 0 0] 54)) (by have h2:=zaq w (.cells #[.slice a0 m.cells.length c0,.slice a1 m.rd.length c1,.slice a2 m.wr.length c2] 54) (.cells #[.slice none 0 0,.slice none 0 0,.slice none 0 0] 54) w.heap.size rfl;exact ⟨(by repeat (first|with_reducible exact Below.refl _ _|with_reducible apply Below.ofAlloc)),h2.1,h2.2⟩) ?_
 rintro w1 ⟨B1,P1,R1⟩
 have Zp:=za P1
 have Zq:=za R1
 have e1:=zj P1 R1
 rw [<- e1]
 have S1:=fun o r=>zo (zo B1 (p:=w.heap.size+1) (by omega) r) (p:=w.heap.size) (Nat.le_refl _) o
 clear e1 P1 R1
 go_region_with (first
  | (go_at_call 176;refine (D2.out _).mono ?_;rintro e w' ⟨rfl,hb⟩;obtain ⟨X,rfl⟩:=hb.ext;clear hb;try go_simp)
  | (go_at_call 175;refine (D1.out _ (by first|with_reducible exact (S1 _ _).ofExt _|with_reducible exact S1 _ _|(with_reducible apply Below.ofExt;with_reducible apply Below.drew;with_reducible exact S1 _ _))).mono ?_;rintro e w' ⟨v1,rfl,hm1,hb1⟩;obtain ⟨f0,g0,f1,g1,f2,g2,rfl,q0,q1,q2⟩:=hm1.form;obtain ⟨X2,rfl⟩:=hb1.ext;have Q0:=Hd q0;have Q1:=Hd q1;have Q2:=Hd q2;clear hm1 q0 q1 q2 hb1;try go_simp))
 all_goals (repeat (first|go_skip|go_guarded|go_step|go_upon|go_back))
 all_goals (refine bodyPost_ret (by simp [results,Tryz.results113,go_sem,Zq];rfl) rfl ?_)
 all_goals (have Q0':=Q0.out;have Q1':=Q1.out;have Q2':=Q2.out)
 all_goals (try rw [zp] at Q0' Q1' Q2')
 all_goals exact ⟨_,rfl,⟨_,_,_,rfl,za5 (zf _) Zq Q0' _,za5 (zc _) Zq Q1' _,za5 (zc _) Zq Q2' _⟩,(S1 _ _).ofExt _⟩
theorem zl {α : Type} {R:RowOf α} {w:World} {v:Value} {xs:List α} (hstr:∀ u ∈ xs.flatMap R.row,∃ s,u=.string s) {p:Nat} {a0 a1 a2 a3 a4 a5:Option Addr} {n0 n1 n2 c0 c1 c2 n3 n4 n5 c3 c4 c5:Nat} {t t':TypeId} {Y:Ext} (hz:p+1<w.heap.size)
  (h:RdL R (((w.setB (p+1) (.cells #[.slice a3 n3 c3,.slice a4 n4 c4,.slice a5 n5 c5] t' (0,0))).setB p (.cells #[.slice a0 n0 c0,.slice a1 n1 c1,.slice a2 n2 c2] t (0,0))).ext Y) v xs) (o' r':Obj):RdL R (((w.setB (p+1) r').setB p o').ext Y) v xs:=by
 have h1:=za5 hstr hz h r'
 have h2:=zS hz (.cells #[.slice a0 n0 c0,.slice a1 n1 c1,.slice a2 n2 c2] t (0,0)) r'
 have h3:=(World.ext_get _ Y (za h2.1)).trans h2.1
 have h4:=za9 hstr h1 h3 o'
 rwa [zay _ _ _ _ (za h2.1),za7] at h4
theorem zdX (id:Int) (h0 : -9223372036854775808<=id) (h1:id<=9223372036854775807):SC 189 (fun x=>#[x,.int .i64 id]) (K.isPipe id) (fun v' b=>.tuple #[v',.bool b]):=by
 refine SCmk (fun w m a0 c0 a1 c1 a2 c2 H0 H1 H2 hf=>?_)
 have hf1:=((Mp.fits_bind (K.num (K.pipeKey id K.tO)) _ m).1 hf).1
 have D1:=fun w' (hb:Below w.heap.size w w')=>zU (K.pipeKey id K.tO) w' (.agg #[.slice a0 m.cells.length c0,.slice a1 m.rd.length c1,.slice a2 m.wr.length c2]) m ⟨_,_,_,rfl,H0.out.below hb,H1.out.below hb,H2.out.below hb⟩ hf1
 have hr:(K.isPipe id).run m=(((K.num (K.pipeKey id K.tO)).run m).1==1,((K.num (K.pipeKey id K.tO)).run m).2):=rfl
 rw [hr]
 clear hr hf hf1
 generalize (K.num (K.pipeKey id K.tO)).run m=R at D1 ⊢
 obtain ⟨n,m1⟩:=R
 dsimp only at D1 ⊢
 have D1:=Hd D1
 have D2:=Hd (fun w'=>zcc id K.tO w' (by decide) h0 h1)
 go_enter Tryz.func189,Tryz.ntmps189
 (skip);repeat (first|go_skip|go_guarded|go_step|go_upon|go_back)
 refine zcK (fun W0=>Below w.heap.size w W0/\W0.heap[w.heap.size]?=some (.cells #[.slice a0 m.cells.length c0,.slice a1 m.rd.length c1,.slice a2 m.wr.length c2] 54)/\W0.heap[w.heap.size+1]?=some (.cells #[.slice none 0 0,.slice none 0 0,.slice none 0 0] 54)) (by have h2:=zaq w (.cells #[.slice a0 m.cells.length c0,.slice a1 m.rd.length c1,.slice a2 m.wr.length c2] 54) (.cells #[.slice none 0 0,.slice none 0 0,.slice none 0 0] 54) w.heap.size rfl;exact ⟨(by repeat (first|with_reducible exact Below.refl _ _|with_reducible apply Below.ofAlloc)),h2.1,h2.2⟩) ?_
 rintro w1 ⟨B1,P1,R1⟩
 have Zp:=za P1
 have Zq:=za R1
 have e1:=zj P1 R1
 rw [<- e1]
 have S1:=fun o r=>zo (zo B1 (p:=w.heap.size+1) (by omega) r) (p:=w.heap.size) (Nat.le_refl _) o
 clear e1 P1 R1
 go_region_with (first
  | (go_at_call 188;refine (D2.out _).mono ?_;rintro e w' ⟨rfl,hb⟩;obtain ⟨X,rfl⟩:=hb.ext;clear hb;try go_simp)
  | (go_at_call 175;refine (D1.out _ (by first|with_reducible exact (S1 _ _).ofExt _|with_reducible exact S1 _ _|(with_reducible apply Below.ofExt;with_reducible apply Below.drew;with_reducible exact S1 _ _))).mono ?_;rintro e w' ⟨v1,rfl,hm1,hb1⟩;obtain ⟨f0,g0,f1,g1,f2,g2,rfl,q0,q1,q2⟩:=hm1.form;obtain ⟨X2,rfl⟩:=hb1.ext;have Q0:=Hd q0;have Q1:=Hd q1;have Q2:=Hd q2;clear hm1 q0 q1 q2 hb1;try go_simp))
 all_goals (repeat (first|go_skip|go_guarded|go_step|go_upon|go_back))
 all_goals (refine bodyPost_ret (by simp [results,Tryz.results189,go_sem,Zq];rfl) rfl ?_)
 all_goals (have Q0':=Q0.out;have Q1':=Q1.out;have Q2':=Q2.out)
 all_goals (try rw [zp] at Q0' Q1' Q2')
 all_goals exact ⟨_,rfl,⟨_,_,_,rfl,zl (zf _) Zq Q0' _ _,zl (zc _) Zq Q1' _ _,zl (zc _) Zq Q2' _ _⟩,(S1 _ _).ofExt _⟩
theorem zbZ (id:Int) (h0 : -9223372036854775808<=id) (h1:id<=9223372036854775807):SC 221 (fun x=>#[x,.int .i64 id]) (K.num (K.sizeKey id)) (fun v' n=>.tuple #[v',.int .i64 n]):=by
 refine SCmk (fun w m a0 c0 a1 c1 a2 c2 H0 H1 H2 hf=>?_)
 have D1:=fun w' (hb:Below w.heap.size w w')=>zU (K.sizeKey id) w' (.agg #[.slice a0 m.cells.length c0,.slice a1 m.rd.length c1,.slice a2 m.wr.length c2]) m ⟨_,_,_,rfl,H0.out.below hb,H1.out.below hb,H2.out.below hb⟩ hf
 have hr:(K.num (K.sizeKey id)).run m=(K.num (K.sizeKey id)).run m:=rfl
 rw [hr]
 clear hr hf
 generalize (K.num (K.sizeKey id)).run m=R at D1 ⊢
 obtain ⟨n,m1⟩:=R
 dsimp only at D1 ⊢
 have D1:=Hd D1
 have D2:=Hd (fun w'=>zZ K.nI K.tS id w' (by decide) (by decide) h0 h1)
 go_enter Tryz.func221,Tryz.ntmps221
 (skip);repeat (first|go_skip|go_guarded|go_step|go_upon|go_back)
 refine zcK (fun W0=>Below w.heap.size w W0/\W0.heap[w.heap.size]?=some (.cells #[.slice a0 m.cells.length c0,.slice a1 m.rd.length c1,.slice a2 m.wr.length c2] 54)/\W0.heap[w.heap.size+1]?=some (.cells #[.slice none 0 0,.slice none 0 0,.slice none 0 0] 54)) (by have h2:=zaq w (.cells #[.slice a0 m.cells.length c0,.slice a1 m.rd.length c1,.slice a2 m.wr.length c2] 54) (.cells #[.slice none 0 0,.slice none 0 0,.slice none 0 0] 54) w.heap.size rfl;exact ⟨(by repeat (first|with_reducible exact Below.refl _ _|with_reducible apply Below.ofAlloc)),h2.1,h2.2⟩) ?_
 rintro w1 ⟨B1,P1,R1⟩
 have Zp:=za P1
 have Zq:=za R1
 have e1:=zj P1 R1
 rw [<- e1]
 have S1:=fun o r=>zo (zo B1 (p:=w.heap.size+1) (by omega) r) (p:=w.heap.size) (Nat.le_refl _) o
 clear e1 P1 R1
 go_region_with (first
  | (go_at_call 181;refine (D2.out _).mono ?_;rintro e w' ⟨rfl,hb⟩;obtain ⟨X,rfl⟩:=hb.ext;clear hb;try go_simp)
  | (go_at_call 175;refine (D1.out _ (by first|with_reducible exact (S1 _ _).ofExt _|with_reducible exact S1 _ _|(with_reducible apply Below.ofExt;with_reducible apply Below.drew;with_reducible exact S1 _ _))).mono ?_;rintro e w' ⟨v1,rfl,hm1,hb1⟩;obtain ⟨f0,g0,f1,g1,f2,g2,rfl,q0,q1,q2⟩:=hm1.form;obtain ⟨X2,rfl⟩:=hb1.ext;have Q0:=Hd q0;have Q1:=Hd q1;have Q2:=Hd q2;clear hm1 q0 q1 q2 hb1;try go_simp))
 all_goals (repeat (first|go_skip|go_guarded|go_step|go_upon|go_back))
 all_goals (refine bodyPost_ret (by simp [results,Tryz.results221,go_sem,Zq];rfl) rfl ?_)
 all_goals (have Q0':=Q0.out;have Q1':=Q1.out;have Q2':=Q2.out)
 all_goals (try rw [zp] at Q0' Q1' Q2')
 all_goals exact ⟨_,rfl,⟨_,_,_,rfl,za5 (zf _) Zq Q0' _,za5 (zc _) Zq Q1' _,za5 (zc _) Zq Q2' _⟩,(S1 _ _).ofExt _⟩
theorem zd3 (p:ByteArray) (cs:List CellD) (c:CellD):zK p (cs ++ [c])=if zaj c.key p then zK p cs ++ [c.key] else zK p cs:=by
 unfold zK
 rw [List.filter_append,List.map_append]
 cases hb:zaj c.key p<;>simp [hb]
theorem zhd (v:Value) (ds:List CellD) (p:ByteArray) (w:World) (hs:RdL zu w v ds) (hok:∀ c ∈ ds,c.key.size<=1048576) (hp:p.size<=1048576000) (hl:ds.length<=549755813888) :
  Calls Tryz.prog 228 #[v,.string p] w fun e w'=>∃ v',e=.returned v'/\OwnL zx 9 w' w.heap.size v' (zK p ds)/\Below w.heap.size w w':=by
 obtain ⟨ao,cap,rfl,hc1,hc2,hnil,hne⟩:=hs.shape
 have HX:=Hd hne
 have HK:=Hd hok
 clear hs hne hnil hok
 unfold maxLen at hc2
 go_enter Tryz.func228,Tryz.ntmps228
 (skip);repeat (first|go_skip|go_guarded|go_step|go_upon|go_back)
 go_loopw [5,6] (fun o k wr=>∃ (n:Nat) (xs:List ByteArray),k=.int .i64 n/\n<=ds.length/\Below w.heap.size w wr/\OwnL zx 9 wr w.heap.size o xs/\xs=zK p (ds.take n)/\xs.length<=n) (fun _ k _=>ds.length - (intOf k).toNat)
 case atStart=>exact ⟨0,[],rfl,by omega,(by repeat (first|with_reducible exact Below.refl _ _|with_reducible apply Below.ofAlloc)),OwnL.empty zx _ w,rfl,by simp⟩
 case round =>
  obtain ⟨n,xs,rfl,hn,hbel,ho,hxs,hxl⟩:=hrel
  obtain ⟨X,rfl⟩:=hbel.ext
  obtain ⟨oa,oc,rfl⟩:=ho.rd.form
  have HO:=Hd ho
  clear ho
  by_cases hlt:(n:Int)<ds.length
  case pos =>
   have hk:n<ds.length:=by omega
   obtain ⟨b,off,rfl,hbl,hcell⟩:=HX.out (by intro e;simp [e] at hk)
   have hc:=hcell n hk
   have hst:ds.take (n+1)=ds.take n ++ [ds[n]]:=List.take_succ_eq_append_getElem hk
   have hck:=HK.out _ (List.getElem_mem hk)
   generalize ds[n]=d at hc hst hck
   have y0:w.cell? ⟨b,off+n*2,none⟩=some (.string d.key):=hc 0 _ rfl
   clear hc hcell
   have hbl:=hbl (by decide)
   have hbl2:b<w.heap.size+X.bs.size:=by omega
   have hsn:=zd3 p (ds.take n) d
   rw [<- hst,<- hxs] at hsn
   have PB:=Hd (fun w'=>zaW d.key p w' (by omega) (by omega))
   cases hb:zaj d.key p with
   | true =>
    rw [hb,if_pos rfl] at hsn
    have HSN:=Hd hsn
    have HB:=Hd hb
    clear hsn hb hst hxs
    (skip);repeat (first|go_skip|go_guarded|go_step|go_upon|go_back)
    (go_at_call 171;refine (PB.out _).mono ?_;rintro e w' ⟨rfl,rfl⟩)
    rw [HB.out]
    go_wp2_with (at_builtin;refine zA ?_)
    have hsrc:=RdL.lit zx (w.ext X) [d.key] 1 rfl (by decide) #[.string d.key] rfl 9
    rw [zm] at hsrc
    refine zI rfl _ _ _ rfl zC (HO.out.alloc _) rfl (hsrc) rfl (by (try simp only [List.nil_append,List.length_append,List.length_singleton,List.length_nil]);omega) (by (try simp only [List.nil_append,List.length_append,List.length_singleton,List.length_nil]);(try unfold maxLen);omega) (Below.size ((by repeat (first|with_reducible exact Below.refl _ _|with_reducible apply Below.ofExt|with_reducible apply Below.ofAlloc)))) ?_
    intro v2 w2 hown2 hg2 hz2
    have hb2:Below w.heap.size w w2:=Below.appL ((by repeat (first|with_reducible exact Below.refl _ _|with_reducible apply Below.ofExt|with_reducible apply Below.ofAlloc))) hg2 (HO.out.alloc _)
    clear hg2
    have hs2:=hb2.size
    obtain ⟨Y,rfl⟩:=hb2.ext
    have HO2:=Hd hown2
    clear hown2 hb2
    go_wp2
    go_roundw
    case rel=>exact ⟨n+1,_,by go_num,by omega,(by repeat (first|with_reducible exact Below.refl _ _|with_reducible apply Below.ofExt)),HO2.out,HSN.out.symm,by simp;omega⟩
    case measure=>simp [intOf];omega
   | false =>
    rw [hb] at hsn
    have HSN:Hid (zK p (ds.take (n+1))=xs):=by show _ = _;simpa using hsn
    have HB:=Hd hb
    clear hsn hb hst hxs
    (skip);repeat (first|go_skip|go_guarded|go_step|go_upon|go_back)
    (go_at_call 171;refine (PB.out _).mono ?_;rintro e w' ⟨rfl,rfl⟩)
    rw [HB.out]
    go_wp2
    go_roundw
    case rel=>exact ⟨n+1,_,by go_num,by omega,(by repeat (first|with_reducible exact Below.refl _ _|with_reducible apply Below.ofExt)),HO.out,HSN.out.symm,by omega⟩
    case measure=>simp [intOf];omega
  case neg =>
   have e:n=ds.length:=by omega
   have HF:Hid (zK p ds=xs):=by show _ = _;rw [hxs,e,List.take_length]
   clear hxs
   go_wp2
   go_ret
   exact ⟨_,rfl,by rw [HF.out];exact HO.out,(by repeat (first|with_reducible exact Below.refl _ _|with_reducible apply Below.ofExt))⟩
structure IM (w0 w:World) (p:Nat) (fp:List Nat) (m:MachD):Prop where
 ex:∃ a0 c0 a1 c1 a2 c2,w.heap[p]?=some (.cells #[.slice a0 m.cells.length c0,.slice a1 m.rd.length c1,.slice a2 m.wr.length c2] 54 (0,0)) /\
  OwnL zu 47 w w0.heap.size (.slice a0 m.cells.length c0) m.cells/\OwnL zx 9 w w0.heap.size (.slice a1 m.rd.length c1) m.rd/\OwnL zx 9 w w0.heap.size (.slice a2 m.wr.length c2) m.wr /\
  (∀ k,(Value.slice a1 m.rd.length c1).ownBlock=some k->(Value.slice a2 m.wr.length c2).ownBlock ≠ some k) /\
  (∀ k,(Value.slice a0 m.cells.length c0).ownBlock=some k->k ∈ fp)/\(∀ k,(Value.slice a1 m.rd.length c1).ownBlock=some k->k ∈ fp)/\(∀ k,(Value.slice a2 m.wr.length c2).ownBlock=some k->k ∈ fp)
 pin:p ∈ fp
 lo:∀ b ∈ fp,w0.heap.size<=b
 hi:∀ b ∈ fp,b<w.heap.size
 bel:Below w0.heap.size w0 w
 glob:Glob w0
structure IT (ws:World) (fs:List Nat) (w:World) (fp:List Nat):Prop where
 up:Upon fs ws w
 sub:∀ b ∈ fp,b ∈ fs ∨ ws.heap.size<=b
theorem IT.refl (w:World) (fp:List Nat):IT w fp w fp:=⟨Upon.refl _ _,fun b h=>.inl h⟩
theorem IT.trans {a b c:World} {fa fb fc:List Nat} (h:IT a fa b fb) (h':IT b fb c fc):IT a fa c fc:=by
 refine ⟨?_,fun x hx=>?_⟩
 ·exact ⟨h'.up.os.trans h.up.os,h'.up.tape.trans h.up.tape,h'.up.output.trans h.up.output,Nat.le_trans h.up.size h'.up.size,fun k hk hn =>
   (h'.up.block k (Nat.lt_of_lt_of_le hk h.up.size) (fun hx=>by rcases h.sub k hx with h1|h1;exact hn h1;omega)).trans (h.up.block k hk hn)⟩
 ·rcases h'.sub x hx with h1|h1
  ·exact h.sub x h1
  ·exact .inr (Nat.le_trans h.up.size h1)
theorem IT.below {w w':World} {fp:List Nat} (hb:Below w.heap.size w w'):IT w fp w' fp :=
 ⟨⟨hb.os,hb.tape,hb.output,hb.size,fun k hk _=>hb.block k hk⟩,fun b h=>.inl h⟩
theorem zba {α : Type} {R:RowOf α} {e:TypeId} {w w':World} {fp:List Nat} {B:Nat} {v:Value} {xs:List α} (ho:OwnL R e w B v xs) (h:Upon fp w w') (hn:∀ k,v.ownBlock=some k->k ∉ fp):OwnL R e w' B v xs:=by
 rcases ho.2 with ⟨rfl,h0⟩|⟨g,cap,cur,rfl,hg,hh,hr⟩
 ·exact ⟨ho.1,.inl ⟨rfl,h0⟩⟩
 ·exact ⟨ho.1,.inr ⟨g,cap,cur,rfl,hg,(h.block g (za hh) (hn g rfl)).trans hh,hr⟩⟩
theorem zd0 {α : Type} {R:RowOf α} {e:TypeId} {w:World} {B p:Nat} {v:Value} {xs:List α} {cs:Array Value} {t:TypeId} (ho:OwnL R e w B v xs) (hp:w.heap[p]?=some (.cells cs t (0,0))) (he:t ≠ e):v.ownBlock ≠ some p:=by
 rcases ho.2 with ⟨rfl,h0⟩|⟨g,cap,cur,rfl,hg,hh,hr⟩
 ·simp [Value.ownBlock]
 ·intro h
  have h2:g=p:=by simpa [Value.ownBlock] using h
  subst h2
  rw [hh] at hp
  injection hp with hp
  injection hp with _ h3
  exact he h3.symm
theorem zfn {α β : Type} {R:RowOf α} {R':RowOf β} {e e':TypeId} {w:World} {B B':Nat} {v v':Value} {xs:List α} {ys:List β} (h:OwnL R e w B v xs) (h':OwnL R' e' w B' v' ys) (he:e ≠ e'):∀ k,v.ownBlock=some k->v'.ownBlock ≠ some k:=by
 intro k hk
 rcases h.2 with ⟨rfl,h0⟩|⟨g,cap,cur,rfl,hg,hh,hr⟩
 ·simp [Value.ownBlock] at hk
 ·have h2:g=k:=by simpa [Value.ownBlock] using hk
  subst h2
  exact zd0 h' hh he
theorem IT.own {α : Type} {R:RowOf α} {e:TypeId} {w w':World} {fp fp':List Nat} {B:Nat} {v:Value} {xs:List α} (h:IT w fp w' fp') (ho:OwnL R e w B v xs) (hn:∀ k,v.ownBlock=some k->k ∉ fp):OwnL R e w' B v xs/\∀ k,v.ownBlock=some k->k ∉ fp':=by
 refine ⟨zba ho h.up hn,fun k hk hx=>?_⟩
 rcases h.sub k hx with h1|h1
 ·exact hn k hk h1
 ·have:=(ho.lt k hk).2
  omega
theorem IT.base {w0 w w':World} {fp fp':List Nat} (h:IT w fp w' fp') (hl:∀ b ∈ fp,w0.heap.size<=b) (hb:Below w0.heap.size w0 w):Below w0.heap.size w0 w' :=
 ⟨h.up.os.trans hb.os,h.up.tape.trans hb.tape,h.up.output.trans hb.output,Nat.le_trans hb.size h.up.size,fun k hk =>
  (h.up.block k (Nat.lt_of_lt_of_le hk hb.size) (fun hx=>by have:=hl k hx;omega)).trans (hb.block k hk)⟩
theorem IM.below {w0 w w':World} {fp:List Nat} {b:Nat} {m:MachD} (h:IM w0 w b fp m) (hb:Below w.heap.size w w'):IM w0 w' b fp m:=by
 obtain ⟨⟨a0,c0,a1,c1,a2,c2,h0,h1,h2,h3,h4⟩,pin,lo,hi,bel,glob⟩:=h
 exact ⟨⟨a0,c0,a1,c1,a2,c2,(Grew.below hb b (za h0)).trans h0,zh7 h1 hb,zh7 h2 hb,zh7 h3 hb,h4⟩,pin,lo,fun b h=>Nat.lt_of_lt_of_le (hi b h) hb.size,Below.then bel hb,glob⟩
theorem IM.globs {w0 w:World} {fp:List Nat} {b:Nat} {m:MachD} (h:IM w0 w b fp m):Glob w:=h.glob.below h.bel
def IC {α : Type} (f:FuncId) (args:Value->Array Value) (p:Mp α) (ret : α->Value):Prop :=
 ∀ (w0 w:World) (fp:List Nat) (b:Nat) (m:MachD),IM w0 w b fp m->p.fits m ->
  Calls Tryz.prog f (args (.pointer (some ⟨b,0,none⟩))) w fun e w'=>e=.returned (ret (p.run m).1)/\∃ fp',IM w0 w' b fp' (p.run m).2/\IT w fp w' fp'
theorem IM.make {w0 w w1:World} {p:Nat} {fp:List Nat} {m m':MachD} (H:IM w0 w p fp m) (hs:w.heap.size<=w1.heap.size)
  (hu:Upon fp w w1) {a0 a1 a2:Option Addr} {c0 c1 c2:Nat} {cs:Array Value} (hp:w1.heap[p]?=some (.cells cs 54 (0,0)))
  (o0:OwnL zu 47 w1 w0.heap.size (.slice a0 m'.cells.length c0) m'.cells) (o1:OwnL zx 9 w1 w0.heap.size (.slice a1 m'.rd.length c1) m'.rd) (o2:OwnL zx 9 w1 w0.heap.size (.slice a2 m'.wr.length c2) m'.wr)
  (hd:∀ k,(Value.slice a1 m'.rd.length c1).ownBlock=some k->(Value.slice a2 m'.wr.length c2).ownBlock ≠ some k)
  (l0:∀ k,(Value.slice a0 m'.cells.length c0).ownBlock=some k->k ∈ fp ∨ w.heap.size<=k) (l1:∀ k,(Value.slice a1 m'.rd.length c1).ownBlock=some k->k ∈ fp ∨ w.heap.size<=k) (l2:∀ k,(Value.slice a2 m'.wr.length c2).ownBlock=some k->k ∈ fp ∨ w.heap.size<=k) :
  ∃ fp',IM w0 (w1.setB p (.cells #[.slice a0 m'.cells.length c0,.slice a1 m'.rd.length c1,.slice a2 m'.wr.length c2] 54 (0,0))) p fp' m'/\IT w fp (w1.setB p (.cells #[.slice a0 m'.cells.length c0,.slice a1 m'.rd.length c1,.slice a2 m'.wr.length c2] 54 (0,0))) fp':=by
 have n0:=zd0 o0 hp (by decide)
 have n1:=zd0 o1 hp (by decide)
 have n2:=zd0 o2 hp (by decide)
 have hl:=za hp
 have hT:IT w fp (w1.setB p (.cells #[.slice a0 m'.cells.length c0,.slice a1 m'.rd.length c1,.slice a2 m'.wr.length c2] 54 (0,0))) (p :: ((Value.slice a0 m'.cells.length c0).ownBlock.toList++((Value.slice a1 m'.rd.length c1).ownBlock.toList++(Value.slice a2 m'.wr.length c2).ownBlock.toList))):=by
  refine ⟨Upon.trans hu (Upon.setB _ _ H.pin),fun b hb=>?_⟩
  simp only [List.mem_cons,List.mem_append,Option.mem_toList] at hb
  rcases hb with rfl|hb|hb|hb
  ·exact .inl H.pin
  ·exact l0 b hb
  ·exact l1 b hb
  ·exact l2 b hb
 refine ⟨_,⟨⟨a0,c0,a1,c1,a2,c2,World.setB_at _ _ _ hl,o0.setB n0 _,o1.setB n1 _,o2.setB n2 _,hd,fun k hk=>?_,fun k hk=>?_,fun k hk=>?_⟩,List.mem_cons_self,fun b hb=>?_,fun b hb=>?_,hT.base H.lo H.bel,H.glob⟩,hT⟩
 ·simp only [List.mem_cons,List.mem_append,Option.mem_toList];exact .inr (.inl hk)
 ·simp only [List.mem_cons,List.mem_append,Option.mem_toList];exact .inr (.inr (.inl hk))
 ·simp only [List.mem_cons,List.mem_append,Option.mem_toList];exact .inr (.inr (.inr hk))
 ·rcases hT.sub b hb with h|h
  ·exact H.lo b h
  ·exact Nat.le_trans H.bel.size h
 ·simp only [List.mem_cons,List.mem_append,Option.mem_toList] at hb
  rw [zd]
  rcases hb with rfl|hb|hb|hb
  ·exact hl
  ·exact (o0.lt b hb).2
  ·exact (o1.lt b hb).2
  ·exact (o2.lt b hb).2
theorem zl1 {P:Program} {f:FuncId} {args:Array Value} {Q:Ending->World->Prop} {W:World} (S:World->Prop) (h:S W) (H:∀ W0,S W0->Calls P f args W0 Q):Calls P f args W Q:=H W h
theorem zeV (k:ByteArray):IC 159 (fun x=>#[x,.string k]) (K.look k) (fun s=>.string s):=by
 intro w0 w fp p m H hf
 obtain ⟨hs,hk,_⟩:=hf
 have hl0:=hs.cl
 have hl1:=hs.rl
 have HH:=Hd H
 obtain ⟨⟨a0,c0,a1,c1,a2,c2,hp,o0,o1,o2,hd,f0,f1,f2⟩,pin,lo,hi,bel,glob⟩:=H
 have q0:w.cell? ⟨p,0,none⟩=some (.slice a0 m.cells.length c0):=(zb (i:=0) hp).trans rfl
 have q1:w.cell? ⟨p,1,none⟩=some (.slice a1 m.rd.length c1):=(zb (i:=1) hp).trans rfl
 have D1:=Hd (zds _ m.rd k w0.heap.size w o1 (by omega) bel.size)
 have hpl:=za hp
 have HP:=Hd hp
 have P0:=Hd o0
 have P2:=Hd o2
 have e01:=Hd (zfn o0 o1 (by decide))
 have HF:=Hd (And.intro hd (And.intro f0 (And.intro f1 f2)))
 have HN:=Hd (zd0 o1 hp (by decide))
 clear hp o0 o1 o2 hd f0 f1 f2 pin lo hi bel glob hs
 go_enter Tryz.func159,Tryz.ntmps159
 (skip);repeat (first|go_skip|go_guarded|go_step|go_upon|go_back)
 (go_at_call 206;refine D1.out.mono ?_;rintro e w1 ⟨v1,rfl,ho1,hu1,hw1⟩)
 obtain ⟨b1,d1,rfl⟩:=ho1.rd.form
 have hp1:=(hu1.block p hpl (by simpa using HN.out)).trans HP.out
 have x0:=zba P0.out hu1 (fun k hk=>by simpa using fun h=>e01.out k hk h)
 have x2:=zba P2.out hu1 (fun k hk=>by simpa using fun h=>HF.out.1 k h hk)
 obtain ⟨fp',HM⟩:=IM.make (m':=m.look k) HH.out hu1.size (hu1.mono (fun x hx=>HF.out.2.2.1 x (by simpa using hx))) hp1 x0 ho1 x2
  (fun j hj h2=>(hw1 j hj).elim (fun h=>HF.out.1 j h h2) (fun h=>absurd (P2.out.lt j h2).2 (by omega)))
  (fun j hj=>.inl (HF.out.2.1 j hj)) (fun j hj=>(hw1 j hj).imp (HF.out.2.2.1 j) id) (fun j hj=>.inl (HF.out.2.2.2 j hj))
 have hl1:=za hp1
 have HM:=Hd HM
 have D2:=Hd (fun v h=>zj4 v m.cells k (w1.setB p (.cells #[.slice a0 m.cells.length c0,.slice b1 (zb3 m.rd k).length d1,.slice a2 m.wr.length c2] 54 (0,0))) h)
 have X0:=Hd (x0.setB (zd0 x0 hp1 (by decide)) (.cells #[.slice a0 m.cells.length c0,.slice b1 (zb3 m.rd k).length d1,.slice a2 m.wr.length c2] 54 (0,0)))
 have e1:=ze hp1
 rw [<- e1]
 clear e1 hp1 x0 x2 ho1 hu1 hw1 q0 q1
 (try simp only []);repeat (first|go_skip|go_guarded|go_step|go_upon|go_back)
 (go_at_call 49;refine (D2.out _ X0.out.rd).mono ?_;rintro e w2 ⟨rfl,hb⟩)
 (try simp only []);repeat (first|go_skip|go_guarded|go_step|go_upon|go_back)
 refine bodyPost_ret (by simp [results,Tryz.results159,go_sem];rfl) rfl ?_
 exact ⟨rfl,fp',HM.out.1.below hb,HM.out.2.trans (IT.below hb)⟩
theorem zaT (k val:ByteArray):IC 147 (fun x=>#[x,.string k,.string val]) (K.lay k val) (fun _=>.tuple #[]):=by
 intro w0 w fp p m H hf
 obtain ⟨hs,hk,_⟩:=hf
 have hl0:=hs.cl
 have hl2:=hs.wl
 have HH:=Hd H
 obtain ⟨⟨a0,c0,a1,c1,a2,c2,hp,o0,o1,o2,hd,f0,f1,f2⟩,pin,lo,hi,bel,glob⟩:=H
 have q0:w.cell? ⟨p,0,none⟩=some (.slice a0 m.cells.length c0):=(zb (i:=0) hp).trans rfl
 have q1:w.cell? ⟨p,2,none⟩=some (.slice a2 m.wr.length c2):=(zb (i:=2) hp).trans rfl
 have D1:=Hd (zds _ m.wr k w0.heap.size w o2 (by omega) bel.size)
 have hpl:=za hp
 have HP:=Hd hp
 have P0:=Hd o0
 have P1:=Hd o1
 have e02:=Hd (zfn o0 o2 (by decide))
 have HF:=Hd (And.intro hd (And.intro f0 (And.intro f1 f2)))
 have HN:=Hd (zd0 o2 hp (by decide))
 have HBS:=Hd bel.size
 clear hp o0 o1 o2 hd f0 f1 f2 pin lo hi bel glob hs
 go_enter Tryz.func147,Tryz.ntmps147
 (skip);repeat (first|go_skip|go_guarded|go_step|go_upon|go_back)
 (go_at_call 206;refine D1.out.mono ?_;rintro e w1 ⟨v1,rfl,ho1,hu1,hw1⟩)
 obtain ⟨b1,d1,rfl⟩:=ho1.rd.form
 have hp1:=(hu1.block p hpl (by simpa using HN.out)).trans HP.out
 have x0:=zba P0.out hu1 (fun k hk=>by simpa using fun h=>e02.out k hk h)
 have x1:=zba P1.out hu1 (fun k hk=>by simpa using fun h=>HF.out.1 k hk h)
 obtain ⟨fp1,HM1⟩:=IM.make (m':=⟨m.cells,m.rd,zb3 m.wr k⟩) HH.out hu1.size (hu1.mono (fun x hx=>HF.out.2.2.2 x (by simpa using hx))) hp1 x0 x1 ho1
  (fun j hj h2=>(hw1 j h2).elim (fun h=>HF.out.1 j hj h) (fun h=>absurd (P1.out.lt j hj).2 (by omega)))
  (fun j hj=>.inl (HF.out.2.1 j hj)) (fun j hj=>.inl (HF.out.2.2.1 j hj)) (fun j hj=>(hw1 j hj).imp (HF.out.2.2.2 j) id)
 have hl1:=za hp1
 have HT1:=Hd HM1.2
 have HM1:=Hd HM1.1
 have e1:=ze hp1
 rw [<- e1]
 clear e1 hp1 x0 x1 ho1 hu1 hw1 q0 q1 P0 P1 e02 HF HN HP D1 HH
 (try simp only []);repeat (first|go_skip|go_guarded|go_step|go_upon|go_back)
 refine zl1 (fun W=>W.heap[p]?=some (.cells #[.slice a0 m.cells.length c0,.slice a1 m.rd.length c1,.slice b1 (zb3 m.wr k).length d1] 54 (0,0))/\IM w0 W p fp1 ⟨m.cells,m.rd,zb3 m.wr k⟩/\IT w fp W fp1) ⟨World.setB_at _ _ _ hl1,HM1.out,HT1.out⟩ ?_
 clear HM1 HT1
 rintro W ⟨hpe,H,HT⟩
 have HT:=Hd HT
 have HH:=Hd H
 obtain ⟨⟨a0',c0',a1',c1',a2',c2',hp,o0,o1,o2,hd,f0,f1,f2⟩,pin,lo,hi,bel,glob⟩:=H
 dsimp only at hp o0 o1 o2 hd f0 f1 f2
 have hee:=hpe.symm.trans hp
 simp only [Option.some.injEq,Obj.cells.injEq,Array.mk.injEq,List.cons.injEq,Value.slice.injEq,and_true,true_and] at hee
 obtain ⟨⟨rfl,rfl⟩,⟨rfl,rfl⟩,rfl,rfl⟩:=hee
 clear hpe
 have q0:W.cell? ⟨p,0,none⟩=some (.slice a0 m.cells.length c0):=(zb (i:=0) hp).trans rfl
 have D1:=Hd (zmg _ m.cells k val w0.heap.size W o0 (by omega) hl0 bel.size)
 have hpl:=za hp
 have HP:=Hd hp
 have P1:=Hd o1
 have P2:=Hd o2
 have e01:=Hd (zfn o0 o1 (by decide))
 have e02:=Hd (zfn o0 o2 (by decide))
 have HF:=Hd (And.intro hd (And.intro f0 (And.intro f1 f2)))
 have HN:=Hd (zd0 o0 hp (by decide))
 clear hp o0 o1 o2 hd f0 f1 f2 pin lo hi bel glob
 (go_at_call 48;refine D1.out.mono ?_;rintro e w2 ⟨v1,rfl,ho1,hu1,hw1⟩)
 obtain ⟨b1,d1,rfl⟩:=ho1.rd.form
 have hp1:=(hu1.block p hpl (by simpa using HN.out)).trans HP.out
 have x1:=zba P1.out hu1 (fun k hk=>by simpa using fun h=>e01.out k h hk)
 have x2:=zba P2.out hu1 (fun k hk=>by simpa using fun h=>e02.out k h hk)
 obtain ⟨fp',HM⟩:=IM.make (m':=m.lay k val) HH.out hu1.size (hu1.mono (fun x hx=>HF.out.2.1 x (by simpa using hx))) hp1 ho1 x1 x2
  (fun j hj h2=>HF.out.1 j hj h2)
  (fun j hj=>(hw1 j hj).imp (HF.out.2.1 j) id) (fun j hj=>.inl (HF.out.2.2.1 j hj)) (fun j hj=>.inl (HF.out.2.2.2 j hj))
 have hl1:=za hp1
 have HM:=Hd HM
 have e1:=ze hp1
 rw [<- e1]
 clear e1 hp1 x1 x2 ho1 hu1 hw1 q0 P1 P2 e01 e02 HF HN HP D1 HH
 (try simp only []);repeat (first|go_skip|go_guarded|go_step|go_upon|go_back)
 refine bodyPost_end (by simp [results,Tryz.results147,go_sem];rfl) rfl ?_
 exact ⟨rfl,fp',HM.out.1,HT.out.trans HM.out.2⟩
theorem zhn (v:Value) (ds:List CellD) (p:ByteArray) (w:World) (hs:RdL zu w v ds) (hok:∀ c ∈ ds,c.key.size<=1048576) (hp:p.size<=1048576000) (hl:ds.length<=549755813888) :
  Calls Tryz.prog 207 #[v,.string p] w fun e w'=>∃ v',e=.returned v'/\OwnL zx 9 w' w.heap.size v' (zK p ds)/\Below w.heap.size w w':=by
 obtain ⟨ao,cap,rfl,hc1,hc2,hnil,hne⟩:=hs.shape
 have HX:=Hd hne
 have HK:=Hd hok
 clear hs hne hnil hok
 unfold maxLen at hc2
 go_enter Tryz.func207,Tryz.ntmps207
 (skip);repeat (first|go_skip|go_guarded|go_step|go_upon|go_back)
 go_loopw [7,5,10] (fun _ o k wr=>∃ (n:Nat) (xs:List ByteArray),k=.int .i64 n/\n<=ds.length/\Below w.heap.size w wr/\OwnL zx 9 wr w.heap.size o xs/\xs=zK p (ds.take n)/\xs.length<=n) (fun _ _ k _=>ds.length - (intOf k).toNat)
 case atStart=>exact ⟨0,[],rfl,by omega,(by repeat (with_reducible exact Below.refl _ _)),OwnL.nil zx _ w _,rfl,by simp⟩
 case round =>
  obtain ⟨n,xs,rfl,hn,hbel,ho,hxs,hxl⟩:=hrel
  obtain ⟨X,rfl⟩:=hbel.ext
  obtain ⟨oa,oc,rfl⟩:=ho.rd.form
  have HO:=Hd ho
  clear ho
  by_cases hlt:(n:Int)<ds.length
  case pos =>
   have hk:n<ds.length:=by omega
   obtain ⟨b,off,rfl,hbl,hcell⟩:=HX.out (by intro e;simp [e] at hk)
   have hc:=hcell n hk
   have hst:ds.take (n+1)=ds.take n ++ [ds[n]]:=List.take_succ_eq_append_getElem hk
   have hck:=HK.out _ (List.getElem_mem hk)
   generalize ds[n]=d at hc hst hck
   have y0:w.cell? ⟨b,off+n*2,none⟩=some (.string d.key):=hc 0 _ rfl
   have y1:w.cell? ⟨b,off+n*2+1,none⟩=some (.string d.val):=hc 1 _ rfl
   clear hc hcell
   have hbl:=hbl (by decide)
   have hbl2:b<w.heap.size+X.bs.size:=by omega
   have hsn:=zd3 p (ds.take n) d
   rw [<- hst,<- hxs] at hsn
   have PB:=Hd (fun w'=>zaN d.key p w' (by omega) (by omega))
   cases hb:zaj d.key p with
   | true =>
    rw [hb,if_pos rfl] at hsn
    have HSN:=Hd hsn
    have HB:=Hd hb
    clear hsn hb hst hxs
    (skip);repeat (first|go_skip|go_guarded|go_step|go_upon|go_back)
    (go_at_call 169;refine (PB.out _).mono ?_;rintro e w' ⟨rfl,rfl⟩)
    rw [HB.out]
    go_wp2_with (at_builtin;refine zA ?_)
    refine zI rfl _ _ _ rfl zC (B:=w.heap.size) (v:=.slice oa xs.length oc) (xs:=xs) (R:=zx) (by repeat (first|with_reducible exact HO.out|with_reducible apply OwnL.alloc)) rfl (ys:=[d.key]) (RdL.oneAt zx _ d.key _ rfl _ _ (by simp [zm])) rfl (by simp only [List.length_singleton];omega) (by simp only [List.length_singleton];unfold maxLen;omega) (Below.size (by repeat (first|with_reducible exact Below.refl _ _|with_reducible apply Below.ofExt|with_reducible apply Below.ofAlloc))) ?_
    intro v2 w2 hown2 hg2 hz2
    have hb2:Below w.heap.size w w2:=Below.appL (by repeat (first|with_reducible exact Below.refl _ _|with_reducible apply Below.ofExt|with_reducible apply Below.ofAlloc)) hg2 (by repeat (first|with_reducible exact HO.out|with_reducible apply OwnL.alloc))
    clear hg2 hz2
    obtain ⟨Y,rfl⟩:=hb2.ext
    have HO2:=Hd hown2
    clear hown2 hb2
    go_wp2
    go_roundw
    case rel=>exact ⟨n+1,_,by go_num,by omega,(by repeat (first|with_reducible exact Below.refl _ _|with_reducible apply Below.ofExt)),HO2.out,HSN.out.symm,by simp;omega⟩
    case measure=>simp [intOf];omega
   | false =>
    rw [hb] at hsn
    have HSN:Hid (zK p (ds.take (n+1))=xs):=by show _ = _;simpa using hsn
    have HB:=Hd hb
    clear hsn hb hst hxs
    (skip);repeat (first|go_skip|go_guarded|go_step|go_upon|go_back)
    (go_at_call 169;refine (PB.out _).mono ?_;rintro e w' ⟨rfl,rfl⟩)
    rw [HB.out]
    go_wp2
    go_roundw
    case rel=>exact ⟨n+1,_,by go_num,by omega,(by repeat (first|with_reducible exact Below.refl _ _|with_reducible apply Below.ofExt|with_reducible apply Below.ofAlloc)),by repeat (first|with_reducible exact HO.out|with_reducible apply OwnL.alloc),HSN.out.symm,by omega⟩
    case measure=>simp [intOf];omega
  case neg =>
   have e:n=ds.length:=by omega
   have HF:Hid (zK p ds=xs):=by show _ = _;rw [hxs,e,List.take_length]
   clear hxs
   go_wp2
   go_ret
   exact ⟨_,rfl,by rw [HF.out];exact HO.out,(by repeat (first|with_reducible exact Below.refl _ _|with_reducible apply Below.ofExt))⟩
theorem impl_under (k:ByteArray) (w0 w:World) (fp:List Nat) (p:Nat) (m:MachD) (H:IM w0 w p fp m) (hf:(K.under k).fits m) :
  Calls Tryz.prog 150 #[.pointer (some ⟨p,0,none⟩),.string k] w fun e w'=>∃ vs,e=.returned vs/\OwnL zx 9 w' w.heap.size vs ((K.under k).run m).1/\∃ fp',IM w0 w' p fp' ((K.under k).run m).2/\IT w fp w' fp'/\∀ j,vs.ownBlock=some j->j ∉ fp':=by
 obtain ⟨hs,hk,_⟩:=hf
 have hl0:=hs.cl
 have hl1:=hs.rl
 have hcz:=fun c hc=>(hs.cz c hc).1
 have HCZ:=Hd hcz
 have hsz:¬ 9223372036854775807<k.size+1:=by omega
 have HH:=Hd H
 obtain ⟨⟨a0,c0,a1,c1,a2,c2,hp,o0,o1,o2,hd,f0,f1,f2⟩,pin,lo,hi,bel,glob⟩:=H
 have q0:w.cell? ⟨p,0,none⟩=some (.slice a0 m.cells.length c0):=(zb (i:=0) hp).trans rfl
 have q1:w.cell? ⟨p,1,none⟩=some (.slice a1 m.rd.length c1):=(zb (i:=1) hp).trans rfl
 have D1:=Hd (zds _ m.rd (k++star) w0.heap.size w o1 (by omega) bel.size)
 unfold star at D1
 have hpl:=za hp
 have HP:=Hd hp
 have P0:=Hd o0
 have P2:=Hd o2
 have e01:=Hd (zfn o0 o1 (by decide))
 have HF:=Hd (And.intro hd (And.intro f0 (And.intro f1 f2)))
 have HN:=Hd (zd0 o1 hp (by decide))
 clear hp o0 o1 o2 hd f0 f1 f2 pin lo hi bel glob hs hcz
 go_enter Tryz.func150,Tryz.ntmps150
 (skip);repeat (first|go_skip|go_guarded|go_step|go_upon|go_back)
 (go_at_call 206;refine D1.out.mono ?_;rintro e w1 ⟨v1,rfl,ho1,hu1,hw1⟩)
 obtain ⟨b1,d1,rfl⟩:=ho1.rd.form
 have hp1:=(hu1.block p hpl (by simpa using HN.out)).trans HP.out
 have x0:=zba P0.out hu1 (fun k hk=>by simpa using fun h=>e01.out k hk h)
 have x2:=zba P2.out hu1 (fun k hk=>by simpa using fun h=>HF.out.1 k h hk)
 obtain ⟨fp',HM⟩:=IM.make (m':=m.under k) HH.out hu1.size (hu1.mono (fun x hx=>HF.out.2.2.1 x (by simpa using hx))) hp1 x0 ho1 x2
  (fun j hj h2=>(hw1 j hj).elim (fun h=>HF.out.1 j h h2) (fun h=>absurd (P2.out.lt j h2).2 (by omega)))
  (fun j hj=>.inl (HF.out.2.1 j hj)) (fun j hj=>(hw1 j hj).imp (HF.out.2.2.1 j) id) (fun j hj=>.inl (HF.out.2.2.2 j hj))
 have hl1:=za hp1
 have HM:=Hd HM
 have hsz1:=hu1.size
 have D2:=Hd (fun v h=>zhn v m.cells k (w1.setB p (.cells #[.slice a0 m.cells.length c0,.slice b1 (zb3 m.rd (k++star)).length d1,.slice a2 m.wr.length c2] 54 (0,0))) h HCZ.out (by omega) hl0)
 have X0:=Hd (x0.setB (zd0 x0 hp1 (by decide)) (.cells #[.slice a0 m.cells.length c0,.slice b1 (zb3 m.rd (k++star)).length d1,.slice a2 m.wr.length c2] 54 (0,0)))
 unfold star at D2 X0
 have e1:=ze hp1
 rw [<- e1]
 clear e1 hp1 x0 x2 ho1 hu1 hw1 q0 q1
 (try simp only []);repeat (first|go_skip|go_guarded|go_step|go_upon|go_back)
 (go_at_call 207;refine (D2.out _ X0.out.rd).mono ?_;rintro e w2 ⟨v2,rfl,ho2,hb⟩)
 (try simp only []);repeat (first|go_skip|go_guarded|go_step|go_upon|go_back)
 refine bodyPost_ret (by simp [results,Tryz.results150,go_sem];rfl) rfl ?_
 exact ⟨_,rfl,ho2.base (by rw [zd];exact hsz1),fp',HM.out.1.below hb,HM.out.2.trans (IT.below hb),fun j hj hx=>by
  have h1:=(ho2.lt j hj).1
  have h2:=HM.out.1.hi j hx
  rw [zd] at h1 h2
  omega⟩
end Go.Proofs.YtpnoehpmgflibaaGreatDoor
namespace Go
section
variable {P:Program} {ops:Array Oper} {Q:Exit->Act->World->Prop} {S:World->Prop} {n:Nat}
theorem slot_res {o:Oper} (h:zgB o=true) (a:Act) (w:World):(∃ u,(execOp a.eval o).run P w=.ok (.value u) w) ∨ (∃ x w',(execOp a.eval o).run P w=.halt x w'):=by
 unfold zgB at h
 split at h
 ·rename_i t k e
  unfold execOp
  rw [e]
  dsimp only
  unfold Instr.extract
  generalize a.eval t=u
  cases u<;>first|exact .inr ⟨_,_,rfl⟩|skip
  simp only [Sem.run_bind]
  split
  ·rename_i e2
   exact .inl ⟨_,rfl⟩
  ·exact .inr ⟨_,_,rfl⟩
 ·rename_i t e
  unfold execOp
  rw [e]
  exact .inl ⟨_,rfl⟩
 ·cases h
theorem zlP {j:Nat} {o:Oper} (hj:ops[j]?=some o) (hsl:zgB o=true) {K:Act->World->Prop} {a:Act} {w:World} (h:wpOp P ops Q j K a w):wpOp P ops Q j (fun a' w'=>w'=w/\K a' w') a w:=by
 unfold wpOp at *
 simp only [hj] at h ⊢
 by_cases hw:Region.wanted o (yielded ops a.tmps)=true
 ·simp only [hw,if_true] at h ⊢
  rcases h with h|h
  case inr=>exact .inr h
  refine .inl ?_
  unfold Oper.wp at *
  rcases slot_res (P:=P) hsl a w with ⟨u,hu⟩|⟨x,w',hu⟩
  ·rw [hu] at h ⊢
   exact And.intro rfl h
  ·rw [hu] at h ⊢
   cases x<;>exact h
 ·have hw':Region.wanted o (yielded ops a.tmps)=false:=by simpa using hw
  simp only [hw',Bool.false_eq_true,if_false] at h ⊢
  exact And.intro trivial h
def zdB (ops:Array Oper) (n i:Nat):Bool:=(List.range ops.size).all fun j=>decide (j<n) || zhA ops j || zcH ops ops.size j i
theorem zgm {i j:Nat} {o:Oper} (h:zdB ops n i=true) (hj:ops[j]?=some o):j<n ∨ zgB o=true ∨ zcH ops ops.size j i=true:=by
 have hlt:j<ops.size:=(Array.getElem?_eq_some_iff.1 hj).1
 have h1:=List.all_eq_true.1 h j (List.mem_range.2 hlt)
 simp only [Bool.or_eq_true,decide_eq_true_eq,zhA,hj] at h1
 rcases h1 with (h1|h1)|h1
 ·exact .inl h1
 ·exact .inr (.inl h1)
 ·exact .inr (.inr h1)
theorem zb4 {i:Nat} {oi:Oper} {v:Value} (hi:ops[i]?=some oi) (hs:Region.noSelect ops=true)
  (hQ:∀ c a w,Q (.panic c) (a.put oi.dst v) w->Q (.panic c) a w) (ht:zdB ops n i=true) :
  ∀ (fuel:Nat) (listed:Array Bool) (a:Act) (w:World),zfa ops listed ->
   (∀ j oj,ops[j]?=some oj->j ≠ i->listed.getD j true=false->(∀ e ∈ oj.after,Region.binds .any e=true->e.on ≠ i)->oi.apart ops oj=true) ->
   i ∈ Region.ready .any ops listed->YieldsQ P ops S oi v a->S w ->
   zbO P ops Q S n fuel (listed.setIfInBounds i true) (a.put oi.dst v) w->zbO P ops Q S n (fuel+1) listed a w:=by
 have hsel:=Region.noSelect_spec hs
 intro fuel
 induction fuel with
 | zero =>
  intro listed a w _ _ hr hy hS H
  refine ⟨fun h=>(by rw [h] at hr;cases hr),fun j hj=>?_⟩
  by_cases hji:j=i
  ·subst hji;exact hy.wpOp hi hS ⟨fun _=>hS,H⟩
  ·have:=ready_mono hj hji
   rw [H.1] at this
   cases this
 | succ fuel ih =>
  intro listed a w hcl hfree hr hy hS H
  refine ⟨fun h=>(by rw [h] at hr;cases hr),fun j hj=>?_⟩
  by_cases hji:j=i
  ·subst hji;exact hy.wpOp hi hS ⟨fun _=>hS,H⟩
  ·have h1:=H.2 j (ready_mono hj hji)
   obtain ⟨hjun,oj,hoj,hall⟩:=mem_ready.1 hj
   have hnot:∀ e ∈ oj.after,Region.binds .any e=true->e.on ≠ i:=fun e he hb heq =>
    zaS (mem_ready.1 hr).1 (heq ▸ hall e he hb)
   have hS1:wpOp P ops Q j (fun a' w'=>S w'/\zbO P ops Q S n fuel ((listed.setIfInBounds i true).setIfInBounds j true) a' w') (a.put oi.dst v) w:=by
    rcases zgm ht hoj with h|h|h
    ·exact wpOp_mono (fun a' w' h3=>⟨h3.1 h,h3.2⟩) h1
    ·have h5:=zlP hoj h h1
     refine wpOp_mono (fun a' w' h3=>?_) h5
     obtain ⟨e1,h4⟩:=h3
     exact ⟨by rw [e1];exact hS,h4.2⟩
    ·exact (zaS (mem_ready.1 hr).1 (zdo hcl _ j oj hoj hall h)).elim
   have h2:=zer hoj (hfree j oj hoj hji hjun hnot) (fun cs b=>hsel i oi cs b hi) (fun cs b=>hsel j oj cs b hoj) hQ hy hS1
   have hfree':∀ k ok,ops[k]?=some ok->k ≠ i->(listed.setIfInBounds j true).getD k true=false ->
     (∀ e ∈ ok.after,Region.binds .any e=true->e.on ≠ i)->oi.apart ops ok=true:=fun k ok hk hki hun hno=>by
    refine hfree k ok hk hki ?_ hno
    by_cases hjk:j=k
    ·subst hjk;exact hjun
    ·rw [getD_set_ne true hjk] at hun;exact hun
   refine wpOp_mono (fun a' w' h3=>⟨fun _=>h3.2.1,ih (listed.setIfInBounds j true) a' w' (zbx hcl hj) hfree' (ready_mono hr (Ne.symm hji)) h3.1 h3.2.1 ?_⟩) h2
   rw [Array.setIfInBounds_comm _ _ hji]
   exact h3.2.2
def zfK (ops:Array Oper) (n:Nat):List (Nat × Bool)->Array Bool->Bool
 | [],listed=>(Region.ready .any ops listed).isEmpty
 | (i,true) :: r,listed=>((decide (i<n) && zdB ops n i) || (decide (n<=i) && zhA ops i)) && (Region.ready .any ops listed).contains i && Region.free .any ops listed i && zfK ops n r (listed.setIfInBounds i true)
 | (i,false) :: r,listed=>(decide (i<n) || r.all fun x=>decide (n<=x.1)) && (match Region.ready .any ops listed with|[j]=>j==i|_=>false) && zfK ops n r (listed.setIfInBounds i true)
theorem zcB {ι : Type} {F : ι->World} (x0 : ι) (hs:Region.noSelect ops=true) (hQ:∀ c (a:Act) (d:Option Tmp) (v:Value) w,Q (.panic c) (a.put d v) w->Q (.panic c) a w) :
  ∀ (ord:List (Nat × Bool)) (listed:Array Bool) (a:Act) (w:World),zfa ops listed->zfK ops n ord listed=true->((∃ x ∈ ord,x.1<n)->Sf F w)->zaY P ops Q F n ord a w ->
   zbO P ops Q (Sf F) n ord.length listed a w
 | [],listed,a,w,_,hok,_,h=>by
  simp only [zfK,List.isEmpty_iff] at hok
  exact ⟨hok,h⟩
 | (i,true) :: r,listed,a,w,hcl,hok,hS,h=>by
  simp only [zfK,Bool.and_eq_true,Bool.or_eq_true,decide_eq_true_eq] at hok
  obtain ⟨⟨⟨hin,hr⟩,hf⟩,hok⟩:=hok
  simp only [zaY] at h
  cases ho:ops[i]? with
  | none=>simp [ho] at h
  | some o =>
   simp only [ho] at h
   have again:=fun a' h'=>zcB x0 hs hQ r (listed.setIfInBounds i true) a' w (zbx hcl (by simpa using hr)) hok (fun ⟨x,hx,hxn⟩=>hS ⟨x,List.mem_cons_of_mem _ hx,hxn⟩) h'
   rcases hin with ⟨hin,ht⟩|⟨hin,hsl⟩
   ·have hw:=hS ⟨(i,true),by simp,hin⟩
    by_cases hwt:Region.wanted o (yielded ops a.tmps)=true
    ·simp only [hwt,if_true] at h
     obtain ⟨v,hv,hk⟩:=h
     exact zb4 ho hs (fun c a w=>hQ c a _ _ w) ht _ listed a w hcl (Region.free_spec ho hf) (by simpa using hr)
      (Or.inl ⟨hwt,fun w' hw'=>by obtain ⟨X,rfl⟩:=hw';exact hv X⟩) hw (again _ hk)
    ·have hwt':Region.wanted o (yielded ops a.tmps)=false:=by simpa using hwt
     simp only [hwt',Bool.false_eq_true,if_false] at h
     exact zb4 ho hs (fun c a w=>hQ c a _ _ w) ht _ listed a w hcl (Region.free_spec ho hf) (by simpa using hr)
      (Or.inr ⟨hwt',rfl⟩) hw (again _ h)
   ·simp only [zhA,ho] at hsl
    by_cases hwt:Region.wanted o (yielded ops a.tmps)=true
    ·simp only [hwt,if_true] at h
     obtain ⟨v,hv,hk⟩:=h
     exact zb5 ho hs (fun c a w=>hQ c a _ _ w) hin _ listed a w (Region.free_spec ho hf) (by simpa using hr)
      (Or.inl ⟨hwt,fun w' _=>zkv hsl (hv x0) w'⟩) (again _ hk)
    ·have hwt':Region.wanted o (yielded ops a.tmps)=false:=by simpa using hwt
     simp only [hwt',Bool.false_eq_true,if_false] at h
     exact zb5 ho hs (fun c a w=>hQ c a _ _ w) hin _ listed a w (Region.free_spec ho hf) (by simpa using hr)
      (Or.inr ⟨hwt',rfl⟩) (again _ h)
 | (i,false) :: r,listed,a,w,hcl,hok,hS,h=>by
  simp only [zfK,Bool.and_eq_true,Bool.or_eq_true,decide_eq_true_eq] at hok
  obtain ⟨⟨hin,hr⟩,hok⟩:=hok
  have hr':Region.ready .any ops listed = [i]:=by
   split at hr
   ·rename_i j hj;rw [hj];simp at hr;rw [hr]
   ·cases hr
  refine ⟨fun h0=>(by rw [h0] at hr';cases hr'),fun j hj=>?_⟩
  rw [hr',List.mem_singleton] at hj
  subst hj
  simp only [zaY] at h
  cases ho:ops[j]? with
  | none=>simp [ho] at h
  | some o =>
   simp only [ho] at h
   unfold wpOp
   simp only [ho]
   have again:=fun (a':Act) (w':World) (hw':(∃ x ∈ r,x.1<n)->Sf F w') h'=>zcB (F:=F) x0 hs hQ r (listed.setIfInBounds j true) a' w' (zbx hcl (by rw [hr'];simp)) hok hw' h'
   have later:(∃ x ∈ r,x.1<n)->j<n:=fun ⟨x,hx,hxn⟩=>by
    rcases hin with h1|h1
    ·exact h1
    ·have:=List.all_eq_true.1 h1 x hx
     simp only [decide_eq_true_eq] at this
     omega
   by_cases hwt:Region.wanted o (yielded ops a.tmps)=true
   ·simp only [hwt,if_true] at h ⊢
    exact Or.inl (Oper.wp_mono (fun a' w' h'=>⟨h'.1,again a' w' (fun hx=>h'.1 (later hx)) h'.2⟩) h)
   ·have hwt':Region.wanted o (yielded ops a.tmps)=false:=by simpa using hwt
    simp only [hwt',Bool.false_eq_true,if_false] at h ⊢
    exact ⟨fun hj=>hS ⟨(j,false),by simp,hj⟩,again _ _ (fun hx=>hS ⟨(j,false),by simp,later hx⟩) h⟩
theorem zbz {ι : Type} (F : ι->World) {id:Nat} {l:List Oper} {a:Act} {w:World} (ord:List (Nat × Bool)) (n:Nat) (hm:P.follows .mixedOrders=true)
  (hok:(zfK l.toArray n ord (Array.replicate l.toArray.size false) && Region.noSelect l.toArray && ord.length==l.toArray.size)=true)
  (h0:Sf F w.drew) (h:zaY P l.toArray (zbX Q) F n ord a w.drew):(Code.region id l.toArray true).wp P Q a w:=by
 simp only [Bool.and_eq_true,beq_iff_eq] at hok
 have h1:(Code.region id l.toArray true).wp P (zbX Q) a w:=by
  refine wp_region_any hm ?_
  rw [<- hok.2]
  have h00:=h0
  obtain ⟨x0,_⟩:=h00
  exact zcM _ _ _ _ (zcB x0 hok.1.2 (fun _ _ _ _ _ h=>h) ord _ a _ (zek _ _) (hok.2 ▸ hok.1.1) (fun _=>h0) h)
 exact Code.wp_mono (fun e a w h=>by cases e<;>first|exact h|exact h.elim) h1
theorem zi {id:Nat} {l:List Oper} {a:Act} {w:World} (ord:List (Nat × Bool)) (n:Nat) (hm:P.follows .mixedOrders=true)
  (hok:(zfK l.toArray n ord (Array.replicate l.toArray.size false) && Region.noSelect l.toArray && ord.length==l.toArray.size)=true)
  (h:zaY P l.toArray (zbX Q) (fun X=>w.ext X) n ord a w.drew):(Code.region id l.toArray true).wp P Q a w:=zbz (fun X=>w.ext X) ord n hm hok (Sx.drew w) h
end
end Go
