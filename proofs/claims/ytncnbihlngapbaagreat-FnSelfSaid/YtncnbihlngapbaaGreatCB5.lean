/- Texts of this claim, merged: the walks and what they stand on. Each condition stands in its theorem. -/
import Derived.Lib.ItoaLen
import Derived.Test.YtncnbihlngapbaaGreatCB4
set_option linter.unusedVariables false
set_option linter.unusedSimpArgs false
set_option maxRecDepth 100000
set_option maxHeartbeats 8000000
namespace Go.Proofs.YtncnbihlngapbaaGreat
open Go.ChangeShapes Go.WideShapes Go.ChangeAt Go.RowKit
theorem zaO (id:Int) (h0 : -9223372036854775808<=id) (h1:id<=9223372036854775807):SC 59 (fun x=>#[x,.int .i64 id]) (K.state id) (fun v' n=>.tuple #[v',.int .i64 n]):=by
 refine SCmk (fun w m a0 c0 a1 c1 a2 c2 H0 H1 H2 hf=>?_)
 have D1:=fun w' (hb:Below w.heap.size w w')=>zO (K.procKey id K.tS) w' (.agg #[.slice a0 m.cells.length c0,.slice a1 m.rd.length c1,.slice a2 m.wr.length c2]) m ⟨_,_,_,rfl,H0.out.below hb,H1.out.below hb,H2.out.below hb⟩ hf
 have hr:(K.state id).run m=(K.num (K.procKey id K.tS)).run m:=rfl
 rw [hr]
 clear hr hf
 generalize (K.num (K.procKey id K.tS)).run m=R at D1 ⊢
 obtain ⟨n,m1⟩:=R
 dsimp only at D1 ⊢
 have D1:=Hd D1
 have D2:=Hd (fun w'=>zaY id K.tS w' (by decide) h0 h1)
 go_enter Tryz.func59,Tryz.ntmps59
 (try simp only []);repeat (first|go_skip|go_guarded|go_step|go_upon|go_back)
 refine zb8 (fun W0=>Below w.heap.size w W0/\W0.heap[w.heap.size]?=some (.cells #[.slice a0 m.cells.length c0,.slice a1 m.rd.length c1,.slice a2 m.wr.length c2] 76)/\W0.heap[w.heap.size+1]?=some (.cells #[.slice none 0 0,.slice none 0 0,.slice none 0 0] 76)) (by have h2:=zcS w (.cells #[.slice a0 m.cells.length c0,.slice a1 m.rd.length c1,.slice a2 m.wr.length c2] 76) (.cells #[.slice none 0 0,.slice none 0 0,.slice none 0 0] 76) w.heap.size rfl;exact ⟨(by repeat (first|with_reducible exact Below.refl _ _|with_reducible apply Below.ofExt|with_reducible apply Below.ofAlloc|with_reducible apply Below.drew|with_reducible apply Below.ofDrewN|with_reducible assumption|(with_reducible refine Below.setCell ?_ (by first|exact Nat.le_refl _|(simp [go_sem];done)|(simp [go_sem];omega)) _))),h2.1,h2.2⟩) ?_
 rintro w1 ⟨B1,P1,R1⟩
 have Zp:=zb P1
 have Zq:=zb R1
 have e1:=zl P1 R1
 rw [<- e1]
 have S1:=fun o r=>zp (zp B1 (p:=w.heap.size+1) (by omega) r) (p:=w.heap.size) (Nat.le_refl _) o
 clear e1 P1 R1
 go_region_with (first
  | (go_at_call 58;refine (D2.out _).mono ?_;rintro e w' ⟨rfl,hb⟩;obtain ⟨X,rfl⟩:=hb.ext;clear hb;try go_simp)
  | (go_at_call 55;refine (D1.out _ (by first|with_reducible exact (S1 _ _).ofExt _|with_reducible exact S1 _ _|(with_reducible apply Below.ofExt;with_reducible apply Below.drew;with_reducible exact S1 _ _))).mono ?_;rintro e w' ⟨v1,rfl,hm1,hb1⟩;obtain ⟨f0,g0,f1,g1,f2,g2,rfl,q0,q1,q2⟩:=hm1.form;obtain ⟨X2,rfl⟩:=hb1.ext;have Q0:=Hd q0;have Q1:=Hd q1;have Q2:=Hd q2;clear hm1 q0 q1 q2 hb1;try go_simp))
 all_goals ((try simp only []);repeat (first|go_skip|go_guarded|go_step|go_upon|go_back))
 all_goals (refine bodyPost_ret (by simp [results,Tryz.results59,go_sem,Zq];rfl) rfl ?_)
 all_goals (have Q0':=Q0.out;have Q1':=Q1.out;have Q2':=Q2.out)
 all_goals (try rw [zm] at Q0' Q1' Q2')
 all_goals exact ⟨_,rfl,⟨_,_,_,rfl,za0 (zh _) Zq Q0' _,za0 (ze _) Zq Q1' _,za0 (ze _) Zq Q2' _⟩,(S1 _ _).ofExt _⟩
theorem zt {α : Type} {R:RowOf α} {w:World} {v:Value} {xs:List α} (hstr:∀ u ∈ xs.flatMap R.row,∃ s,u=.string s) {p:Nat} {a0 a1 a2 a3 a4 a5:Option Addr} {n0 n1 n2 c0 c1 c2 n3 n4 n5 c3 c4 c5:Nat} {t t':TypeId} {Y:Ext} (hz:p+1<w.heap.size)
  (h:RdL R (((w.setB (p+1) (.cells #[.slice a3 n3 c3,.slice a4 n4 c4,.slice a5 n5 c5] t' (0,0))).setB p (.cells #[.slice a0 n0 c0,.slice a1 n1 c1,.slice a2 n2 c2] t (0,0))).ext Y) v xs) (o' r':Obj):RdL R (((w.setB (p+1) r').setB p o').ext Y) v xs:=by
 have h1:=za0 hstr hz h r'
 have h2:=zZ hz (.cells #[.slice a0 n0 c0,.slice a1 n1 c1,.slice a2 n2 c2] t (0,0)) r'
 have h3:=(World.ext_get _ Y (zb h2.1)).trans h2.1
 have h4:=zba hstr h1 h3 o'
 rwa [zaC _ _ _ _ (zb h2.1),zda] at h4
theorem zcr (id:Int) (h0 : -9223372036854775808<=id) (h1:id<=9223372036854775807):SC 96 (fun x=>#[x,.int .i64 id]) (K.isPipe id) (fun v' b=>.tuple #[v',.bool b]):=by
 refine SCmk (fun w m a0 c0 a1 c1 a2 c2 H0 H1 H2 hf=>?_)
 have hf1:=((Mp.fits_bind (K.num (K.pipeKey id K.tO)) _ m).1 hf).1
 have D1:=fun w' (hb:Below w.heap.size w w')=>zO (K.pipeKey id K.tO) w' (.agg #[.slice a0 m.cells.length c0,.slice a1 m.rd.length c1,.slice a2 m.wr.length c2]) m ⟨_,_,_,rfl,H0.out.below hb,H1.out.below hb,H2.out.below hb⟩ hf1
 have hr:(K.isPipe id).run m=(((K.num (K.pipeKey id K.tO)).run m).1==1,((K.num (K.pipeKey id K.tO)).run m).2):=rfl
 rw [hr]
 clear hr hf hf1
 generalize (K.num (K.pipeKey id K.tO)).run m=R at D1 ⊢
 obtain ⟨n,m1⟩:=R
 dsimp only at D1 ⊢
 have D1:=Hd D1
 have D2:=Hd (fun w'=>zbF id K.tO w' (by decide) h0 h1)
 go_enter Tryz.func96,Tryz.ntmps96
 (try simp only []);repeat (first|go_skip|go_guarded|go_step|go_upon|go_back)
 refine zb8 (fun W0=>Below w.heap.size w W0/\W0.heap[w.heap.size]?=some (.cells #[.slice a0 m.cells.length c0,.slice a1 m.rd.length c1,.slice a2 m.wr.length c2] 76)/\W0.heap[w.heap.size+1]?=some (.cells #[.slice none 0 0,.slice none 0 0,.slice none 0 0] 76)) (by have h2:=zcS w (.cells #[.slice a0 m.cells.length c0,.slice a1 m.rd.length c1,.slice a2 m.wr.length c2] 76) (.cells #[.slice none 0 0,.slice none 0 0,.slice none 0 0] 76) w.heap.size rfl;exact ⟨(by repeat (first|with_reducible exact Below.refl _ _|with_reducible apply Below.ofExt|with_reducible apply Below.ofAlloc|with_reducible apply Below.drew|with_reducible apply Below.ofDrewN|with_reducible assumption|(with_reducible refine Below.setCell ?_ (by first|exact Nat.le_refl _|(simp [go_sem];done)|(simp [go_sem];omega)) _))),h2.1,h2.2⟩) ?_
 rintro w1 ⟨B1,P1,R1⟩
 have Zp:=zb P1
 have Zq:=zb R1
 have e1:=zl P1 R1
 rw [<- e1]
 have S1:=fun o r=>zp (zp B1 (p:=w.heap.size+1) (by omega) r) (p:=w.heap.size) (Nat.le_refl _) o
 clear e1 P1 R1
 go_region_with (first
  | (go_at_call 95;refine (D2.out _).mono ?_;rintro e w' ⟨rfl,hb⟩;obtain ⟨X,rfl⟩:=hb.ext;clear hb;try go_simp)
  | (go_at_call 55;refine (D1.out _ (by first|with_reducible exact (S1 _ _).ofExt _|with_reducible exact S1 _ _|(with_reducible apply Below.ofExt;with_reducible apply Below.drew;with_reducible exact S1 _ _))).mono ?_;rintro e w' ⟨v1,rfl,hm1,hb1⟩;obtain ⟨f0,g0,f1,g1,f2,g2,rfl,q0,q1,q2⟩:=hm1.form;obtain ⟨X2,rfl⟩:=hb1.ext;have Q0:=Hd q0;have Q1:=Hd q1;have Q2:=Hd q2;clear hm1 q0 q1 q2 hb1;try go_simp))
 all_goals ((try simp only []);repeat (first|go_skip|go_guarded|go_step|go_upon|go_back))
 all_goals (refine bodyPost_ret (by simp [results,Tryz.results96,go_sem,Zq];rfl) rfl ?_)
 all_goals (have Q0':=Q0.out;have Q1':=Q1.out;have Q2':=Q2.out)
 all_goals (try rw [zm] at Q0' Q1' Q2')
 all_goals exact ⟨_,rfl,⟨_,_,_,rfl,zt (zh _) Zq Q0' _ _,zt (ze _) Zq Q1' _ _,zt (ze _) Zq Q2' _ _⟩,(S1 _ _).ofExt _⟩
theorem zbW (id:Int) (h0 : -9223372036854775808<=id) (h1:id<=9223372036854775807):SC 114 (fun x=>#[x,.int .i64 id]) (K.num (K.sizeKey id)) (fun v' n=>.tuple #[v',.int .i64 n]):=by
 refine SCmk (fun w m a0 c0 a1 c1 a2 c2 H0 H1 H2 hf=>?_)
 have D1:=fun w' (hb:Below w.heap.size w w')=>zO (K.sizeKey id) w' (.agg #[.slice a0 m.cells.length c0,.slice a1 m.rd.length c1,.slice a2 m.wr.length c2]) m ⟨_,_,_,rfl,H0.out.below hb,H1.out.below hb,H2.out.below hb⟩ hf
 have hr:(K.num (K.sizeKey id)).run m=(K.num (K.sizeKey id)).run m:=rfl
 rw [hr]
 clear hr hf
 generalize (K.num (K.sizeKey id)).run m=R at D1 ⊢
 obtain ⟨n,m1⟩:=R
 dsimp only at D1 ⊢
 have D1:=Hd D1
 have D2:=Hd (fun w'=>zS K.nI K.tS id w' (by decide) (by decide) h0 h1)
 go_enter Tryz.func114,Tryz.ntmps114
 (try simp only []);repeat (first|go_skip|go_guarded|go_step|go_upon|go_back)
 refine zb8 (fun W0=>Below w.heap.size w W0/\W0.heap[w.heap.size]?=some (.cells #[.slice a0 m.cells.length c0,.slice a1 m.rd.length c1,.slice a2 m.wr.length c2] 76)/\W0.heap[w.heap.size+1]?=some (.cells #[.slice none 0 0,.slice none 0 0,.slice none 0 0] 76)) (by have h2:=zcS w (.cells #[.slice a0 m.cells.length c0,.slice a1 m.rd.length c1,.slice a2 m.wr.length c2] 76) (.cells #[.slice none 0 0,.slice none 0 0,.slice none 0 0] 76) w.heap.size rfl;exact ⟨(by repeat (first|with_reducible exact Below.refl _ _|with_reducible apply Below.ofExt|with_reducible apply Below.ofAlloc|with_reducible apply Below.drew|with_reducible apply Below.ofDrewN|with_reducible assumption|(with_reducible refine Below.setCell ?_ (by first|exact Nat.le_refl _|(simp [go_sem];done)|(simp [go_sem];omega)) _))),h2.1,h2.2⟩) ?_
 rintro w1 ⟨B1,P1,R1⟩
 have Zp:=zb P1
 have Zq:=zb R1
 have e1:=zl P1 R1
 rw [<- e1]
 have S1:=fun o r=>zp (zp B1 (p:=w.heap.size+1) (by omega) r) (p:=w.heap.size) (Nat.le_refl _) o
 clear e1 P1 R1
 go_region_with (first
  | (go_at_call 87;refine (D2.out _).mono ?_;rintro e w' ⟨rfl,hb⟩;obtain ⟨X,rfl⟩:=hb.ext;clear hb;try go_simp)
  | (go_at_call 55;refine (D1.out _ (by first|with_reducible exact (S1 _ _).ofExt _|with_reducible exact S1 _ _|(with_reducible apply Below.ofExt;with_reducible apply Below.drew;with_reducible exact S1 _ _))).mono ?_;rintro e w' ⟨v1,rfl,hm1,hb1⟩;obtain ⟨f0,g0,f1,g1,f2,g2,rfl,q0,q1,q2⟩:=hm1.form;obtain ⟨X2,rfl⟩:=hb1.ext;have Q0:=Hd q0;have Q1:=Hd q1;have Q2:=Hd q2;clear hm1 q0 q1 q2 hb1;try go_simp))
 all_goals ((try simp only []);repeat (first|go_skip|go_guarded|go_step|go_upon|go_back))
 all_goals (refine bodyPost_ret (by simp [results,Tryz.results114,go_sem,Zq];rfl) rfl ?_)
 all_goals (have Q0':=Q0.out;have Q1':=Q1.out;have Q2':=Q2.out)
 all_goals (try rw [zm] at Q0' Q1' Q2')
 all_goals exact ⟨_,rfl,⟨_,_,_,rfl,za0 (zh _) Zq Q0' _,za0 (ze _) Zq Q1' _,za0 (ze _) Zq Q2' _⟩,(S1 _ _).ofExt _⟩
end Go.Proofs.YtncnbihlngapbaaGreat
namespace Go
section
variable {P:Program} {ops:Array Oper} {Q:Exit->Act->World->Prop} {S:World->Prop} {n:Nat}
theorem slot_res {o:Oper} (h:zfr o=true) (a:Act) (w:World):(∃ u,(execOp a.eval o).run P w=.ok (.value u) w) ∨ (∃ x w',(execOp a.eval o).run P w=.halt x w'):=by
 unfold zfr at h
 split at h
 ·rename_i t k e
  unfold execOp
  rw [e]
  dsimp only
  unfold Instr.extract
  generalize a.eval t=u
  cases u<;>first|exact .inr ⟨_,_,rfl⟩|skip
  simp only [Sem.run_bind]
  split
  ·rename_i e2
   exact .inl ⟨_,rfl⟩
  ·exact .inr ⟨_,_,rfl⟩
 ·rename_i t e
  unfold execOp
  rw [e]
  exact .inl ⟨_,rfl⟩
 ·cases h
theorem zjm {j:Nat} {o:Oper} (hj:ops[j]?=some o) (hsl:zfr o=true) {K:Act->World->Prop} {a:Act} {w:World} (h:wpOp P ops Q j K a w):wpOp P ops Q j (fun a' w'=>w'=w/\K a' w') a w:=by
 unfold wpOp at *
 simp only [hj] at h ⊢
 by_cases hw:Region.wanted o (yielded ops a.tmps)=true
 ·simp only [hw,if_true] at h ⊢
  rcases h with h|h
  case inr=>exact .inr h
  refine .inl ?_
  unfold Oper.wp at *
  rcases slot_res (P:=P) hsl a w with ⟨u,hu⟩|⟨x,w',hu⟩
  ·rw [hu] at h ⊢
   exact And.intro rfl h
  ·rw [hu] at h ⊢
   cases x<;>exact h
 ·have hw':Region.wanted o (yielded ops a.tmps)=false:=by simpa using hw
  simp only [hw',Bool.false_eq_true,if_false] at h ⊢
  exact And.intro trivial h
def zer (ops:Array Oper) (n i:Nat):Bool:=(List.range ops.size).all fun j=>decide (j<n) || zib ops j || zct ops ops.size j i
theorem zfh {i j:Nat} {o:Oper} (h:zer ops n i=true) (hj:ops[j]?=some o):j<n ∨ zfr o=true ∨ zct ops ops.size j i=true:=by
 have hlt:j<ops.size:=(Array.getElem?_eq_some_iff.1 hj).1
 have h1:=List.all_eq_true.1 h j (List.mem_range.2 hlt)
 simp only [Bool.or_eq_true,decide_eq_true_eq,zib,hj] at h1
 rcases h1 with (h1|h1)|h1
 ·exact .inl h1
 ·exact .inr (.inl h1)
 ·exact .inr (.inr h1)
theorem zdU {i:Nat} {oi:Oper} {v:Value} (hi:ops[i]?=some oi) (hs:Region.noSelect ops=true)
  (hQ:∀ c a w,Q (.panic c) (a.put oi.dst v) w->Q (.panic c) a w) (ht:zer ops n i=true) :
  ∀ (fuel:Nat) (listed:Array Bool) (a:Act) (w:World),zeQ ops listed ->
   (∀ j oj,ops[j]?=some oj->j ≠ i->listed.getD j true=false->(∀ e ∈ oj.after,Region.binds .any e=true->e.on ≠ i)->oi.apart ops oj=true) ->
   i ∈ Region.ready .any ops listed->YieldsQ P ops S oi v a->S w ->
   zcb P ops Q S n fuel (listed.setIfInBounds i true) (a.put oi.dst v) w->zcb P ops Q S n (fuel+1) listed a w:=by
 have hsel:=Region.noSelect_spec hs
 intro fuel
 induction fuel with
 | zero =>
  intro listed a w _ _ hr hy hS H
  refine ⟨fun h=>(by rw [h] at hr;cases hr),fun j hj=>?_⟩
  by_cases hji:j=i
  ·subst hji;exact hy.wpOp hi hS ⟨fun _=>hS,H⟩
  ·have:=ready_mono hj hji
   rw [H.1] at this
   cases this
 | succ fuel ih =>
  intro listed a w hcl hfree hr hy hS H
  refine ⟨fun h=>(by rw [h] at hr;cases hr),fun j hj=>?_⟩
  by_cases hji:j=i
  ·subst hji;exact hy.wpOp hi hS ⟨fun _=>hS,H⟩
  ·have h1:=H.2 j (ready_mono hj hji)
   obtain ⟨hjun,oj,hoj,hall⟩:=mem_ready.1 hj
   have hnot:∀ e ∈ oj.after,Region.binds .any e=true->e.on ≠ i:=fun e he hb heq =>
    zbl (mem_ready.1 hr).1 (heq ▸ hall e he hb)
   have hS1:wpOp P ops Q j (fun a' w'=>S w'/\zcb P ops Q S n fuel ((listed.setIfInBounds i true).setIfInBounds j true) a' w') (a.put oi.dst v) w:=by
    rcases zfh ht hoj with h|h|h
    ·exact wpOp_mono (fun a' w' h3=>⟨h3.1 h,h3.2⟩) h1
    ·have h5:=zjm hoj h h1
     refine wpOp_mono (fun a' w' h3=>?_) h5
     obtain ⟨e1,h4⟩:=h3
     exact ⟨by rw [e1];exact hS,h4.2⟩
    ·exact (zbl (mem_ready.1 hr).1 (zc1 hcl _ j oj hoj hall h)).elim
   have h2:=zdS hoj (hfree j oj hoj hji hjun hnot) (fun cs b=>hsel i oi cs b hi) (fun cs b=>hsel j oj cs b hoj) hQ hy hS1
   have hfree':∀ k ok,ops[k]?=some ok->k ≠ i->(listed.setIfInBounds j true).getD k true=false ->
     (∀ e ∈ ok.after,Region.binds .any e=true->e.on ≠ i)->oi.apart ops ok=true:=fun k ok hk hki hun hno=>by
    refine hfree k ok hk hki ?_ hno
    by_cases hjk:j=k
    ·subst hjk;exact hjun
    ·rw [getD_set_ne true hjk] at hun;exact hun
   refine wpOp_mono (fun a' w' h3=>⟨fun _=>h3.2.1,ih (listed.setIfInBounds j true) a' w' (zb1 hcl hj) hfree' (ready_mono hr (Ne.symm hji)) h3.1 h3.2.1 ?_⟩) h2
   rw [Array.setIfInBounds_comm _ _ hji]
   exact h3.2.2
def zeK (ops:Array Oper) (n:Nat):List (Nat × Bool)->Array Bool->Bool
 | [],listed=>(Region.ready .any ops listed).isEmpty
 | (i,true) :: r,listed=>((decide (i<n) && zer ops n i) || (decide (n<=i) && zib ops i)) && (Region.ready .any ops listed).contains i && Region.free .any ops listed i && zeK ops n r (listed.setIfInBounds i true)
 | (i,false) :: r,listed=>(decide (i<n) || r.all fun x=>decide (n<=x.1)) && (match Region.ready .any ops listed with|[j]=>j==i|_=>false) && zeK ops n r (listed.setIfInBounds i true)
theorem zco {ι : Type} {F : ι->World} (x0 : ι) (hs:Region.noSelect ops=true) (hQ:∀ c (a:Act) (d:Option Tmp) (v:Value) w,Q (.panic c) (a.put d v) w->Q (.panic c) a w) :
  ∀ (ord:List (Nat × Bool)) (listed:Array Bool) (a:Act) (w:World),zeQ ops listed->zeK ops n ord listed=true->((∃ x ∈ ord,x.1<n)->Sf F w)->zaW P ops Q F n ord a w ->
   zcb P ops Q (Sf F) n ord.length listed a w
 | [],listed,a,w,_,hok,_,h=>by
  simp only [zeK,List.isEmpty_iff] at hok
  exact ⟨hok,h⟩
 | (i,true) :: r,listed,a,w,hcl,hok,hS,h=>by
  simp only [zeK,Bool.and_eq_true,Bool.or_eq_true,decide_eq_true_eq] at hok
  obtain ⟨⟨⟨hin,hr⟩,hf⟩,hok⟩:=hok
  simp only [zaW] at h
  cases ho:ops[i]? with
  | none=>simp [ho] at h
  | some o =>
   simp only [ho] at h
   have again:=fun a' h'=>zco x0 hs hQ r (listed.setIfInBounds i true) a' w (zb1 hcl (by simpa using hr)) hok (fun ⟨x,hx,hxn⟩=>hS ⟨x,List.mem_cons_of_mem _ hx,hxn⟩) h'
   rcases hin with ⟨hin,ht⟩|⟨hin,hsl⟩
   ·have hw:=hS ⟨(i,true),by simp,hin⟩
    by_cases hwt:Region.wanted o (yielded ops a.tmps)=true
    ·simp only [hwt,if_true] at h
     obtain ⟨v,hv,hk⟩:=h
     exact zdU ho hs (fun c a w=>hQ c a _ _ w) ht _ listed a w hcl (Region.free_spec ho hf) (by simpa using hr)
      (Or.inl ⟨hwt,fun w' hw'=>by obtain ⟨X,rfl⟩:=hw';exact hv X⟩) hw (again _ hk)
    ·have hwt':Region.wanted o (yielded ops a.tmps)=false:=by simpa using hwt
     simp only [hwt',Bool.false_eq_true,if_false] at h
     exact zdU ho hs (fun c a w=>hQ c a _ _ w) ht _ listed a w hcl (Region.free_spec ho hf) (by simpa using hr)
      (Or.inr ⟨hwt',rfl⟩) hw (again _ h)
   ·simp only [zib,ho] at hsl
    by_cases hwt:Region.wanted o (yielded ops a.tmps)=true
    ·simp only [hwt,if_true] at h
     obtain ⟨v,hv,hk⟩:=h
     exact zdV ho hs (fun c a w=>hQ c a _ _ w) hin _ listed a w (Region.free_spec ho hf) (by simpa using hr)
      (Or.inl ⟨hwt,fun w' _=>slot_run hsl (hv x0) w'⟩) (again _ hk)
    ·have hwt':Region.wanted o (yielded ops a.tmps)=false:=by simpa using hwt
     simp only [hwt',Bool.false_eq_true,if_false] at h
     exact zdV ho hs (fun c a w=>hQ c a _ _ w) hin _ listed a w (Region.free_spec ho hf) (by simpa using hr)
      (Or.inr ⟨hwt',rfl⟩) (again _ h)
 | (i,false) :: r,listed,a,w,hcl,hok,hS,h=>by
  simp only [zeK,Bool.and_eq_true,Bool.or_eq_true,decide_eq_true_eq] at hok
  obtain ⟨⟨hin,hr⟩,hok⟩:=hok
  have hr':Region.ready .any ops listed = [i]:=by
   split at hr
   ·rename_i j hj;rw [hj];simp at hr;rw [hr]
   ·cases hr
  refine ⟨fun h0=>(by rw [h0] at hr';cases hr'),fun j hj=>?_⟩
  rw [hr',List.mem_singleton] at hj
  subst hj
  simp only [zaW] at h
  cases ho:ops[j]? with
  | none=>simp [ho] at h
  | some o =>
   simp only [ho] at h
   unfold wpOp
   simp only [ho]
   have again:=fun (a':Act) (w':World) (hw':(∃ x ∈ r,x.1<n)->Sf F w') h'=>zco (F:=F) x0 hs hQ r (listed.setIfInBounds j true) a' w' (zb1 hcl (by rw [hr'];simp)) hok hw' h'
   have later:(∃ x ∈ r,x.1<n)->j<n:=fun ⟨x,hx,hxn⟩=>by
    rcases hin with h1|h1
    ·exact h1
    ·have:=List.all_eq_true.1 h1 x hx
     simp only [decide_eq_true_eq] at this
     omega
   by_cases hwt:Region.wanted o (yielded ops a.tmps)=true
   ·simp only [hwt,if_true] at h ⊢
    exact Or.inl (Oper.wp_mono (fun a' w' h'=>⟨h'.1,again a' w' (fun hx=>h'.1 (later hx)) h'.2⟩) h)
   ·have hwt':Region.wanted o (yielded ops a.tmps)=false:=by simpa using hwt
    simp only [hwt',Bool.false_eq_true,if_false] at h ⊢
    exact ⟨fun hj=>hS ⟨(j,false),by simp,hj⟩,again _ _ (fun hx=>hS ⟨(j,false),by simp,later hx⟩) h⟩
theorem zcU {ι : Type} (F : ι->World) {id:Nat} {l:List Oper} {a:Act} {w:World} (ord:List (Nat × Bool)) (n:Nat) (hm:P.follows .mixedOrders=true)
  (hok:(zeK l.toArray n ord (Array.replicate l.toArray.size false) && Region.noSelect l.toArray && ord.length==l.toArray.size)=true)
  (h0:Sf F w.drew) (h:zaW P l.toArray (zeq Q) F n ord a w.drew):(Code.region id l.toArray true).wp P Q a w:=by
 simp only [Bool.and_eq_true,beq_iff_eq] at hok
 have h1:(Code.region id l.toArray true).wp P (zeq Q) a w:=by
  refine wp_region_any hm ?_
  rw [<- hok.2]
  have h00:=h0
  obtain ⟨x0,_⟩:=h00
  exact zdd _ _ _ _ (zco x0 hok.1.2 (fun _ _ _ _ _ h=>h) ord _ a _ (zfC _ _) (hok.2 ▸ hok.1.1) (fun _=>h0) h)
 exact Code.wp_mono (fun e a w h=>by cases e<;>first|exact h|exact h.elim) h1
theorem zk {id:Nat} {l:List Oper} {a:Act} {w:World} (ord:List (Nat × Bool)) (n:Nat) (hm:P.follows .mixedOrders=true)
  (hok:(zeK l.toArray n ord (Array.replicate l.toArray.size false) && Region.noSelect l.toArray && ord.length==l.toArray.size)=true)
  (h:zaW P l.toArray (zeq Q) (fun X=>w.ext X) n ord a w.drew):(Code.region id l.toArray true).wp P Q a w:=zcU (fun X=>w.ext X) ord n hm hok (Sx.drew w) h
end
end Go
namespace Go.Proofs.YtncnbihlngapbaaGreat
open Go.ChangeShapes Go.WideShapes Go.ChangeAt Go.RowKit
def Lft {α : Type} (p:Mp α) (m:MachD) (r : α × MachD):Prop:=p.fits m/\p.run m=r
theorem Lft.step {α β : Type} {x:Mp α} {k : α->Mp β} {m:MachD} {r : β × MachD} (h:Lft (x >>= k) m r):x.fits m/\Lft (k (x.run m).1) (x.run m).2 r:=by
 have h1:=(Mp.fits_bind x k m).1 h.1
 exact ⟨h1.1,h1.2,by rw [<- Mp.run_bind];exact h.2⟩
theorem Lft.ite {α : Type} {c:Prop} [Decidable c] {x y:Mp α} {m:MachD} {r : α × MachD} (h:Lft (if c then x else y) m r):(c/\Lft x m r) ∨ (¬ c/\Lft y m r):=by
 by_cases hc:c
 ·rw [if_pos hc] at h;exact .inl ⟨hc,h⟩
 ·rw [if_neg hc] at h;exact .inr ⟨hc,h⟩
theorem Lft.end {α : Type} {a : α} {m:MachD} {res : α} {mres:MachD} (h:Lft (pure a:Mp α) m (res,mres)):res=a/\mres=m:=by
 have:=h.2
 exact ⟨(congrArg Prod.fst this).symm,(congrArg Prod.snd this).symm⟩
theorem Mp.bind_pure {α : Type} (x:Mp α):(x >>= pure)=x:=by
 show Mp.bind x Mp.ret=x
 induction x with
 | ret a=>rfl
 | look k f ih=>simp only [Mp.bind,ih]
 | lay k v n ih=>simp only [Mp.bind,ih]
 | under p f ih=>simp only [Mp.bind,ih]
theorem zaM {α β γ : Type} (x:Mp α) (f : α->Mp β) (g : β->Mp γ):((x >>= f) >>= g)=(x >>= fun a=>f a >>= g):=by
 show Mp.bind (Mp.bind x f) g=Mp.bind x fun a=>Mp.bind (f a) g
 induction x with
 | ret a=>rfl
 | look k f ih=>simp only [Mp.bind,ih]
 | lay k v n ih=>simp only [Mp.bind,ih]
 | under p f ih=>simp only [Mp.bind,ih]
theorem zbt {α β : Type} (a : α) (f : α->Mp β):((pure a:Mp α) >>= f)=f a:=rfl
theorem zfK {α β : Type} (c:Prop) [Decidable c] (x y:Mp α) (f : α->Mp β):((if c then x else y) >>= f)=if c then x >>= f else y >>= f:=by split<;>rfl
theorem Lft.last {α : Type} {x:Mp α} {m:MachD} {r : α × MachD} (h:Lft x m r):Lft (x >>= pure) m r:=by rw [Mp.bind_pure];exact h
theorem SC.use {α β : Type} {f:FuncId} {args:Value->Array Value} {p:Mp α} {ret:Value->α->Value} (h:SC f args p ret) (S : α->Prop) (hS:∀ m,p.fits m->S (p.run m).1) {k : α->Mp β} {w:World} {v:Value} {m:MachD} {r : β × MachD} (L:Lft (p >>= k) m r) (hm:MRd w v m) :
  Calls Tryz.prog f (args v) w fun e w'=>∃ v' a m1,e=.returned (ret v' a)/\S a/\MRd w' v' m1/\Below w.heap.size w w'/\Lft (k a) m1 r:=by
 refine (h w v m hm L.step.1).mono ?_
 rintro e w' ⟨v',rfl,hm',hb⟩
 exact ⟨v',_,_,rfl,hS m L.step.1,hm',hb,L.step.2⟩
theorem zdb {α γ β : Type} {f:FuncId} {args:Value->Array Value} {p:Mp (α × γ)} {ret:Value->α × γ->Value} (h:SC f args p ret) (S : α × γ->Prop) (hS:∀ m,p.fits m->S (p.run m).1) {k : α × γ->Mp β} {w:World} {v:Value} {m:MachD} {r : β × MachD} (L:Lft (p >>= k) m r) (hm:MRd w v m) :
  Calls Tryz.prog f (args v) w fun e w'=>∃ v' a b m1,e=.returned (ret v' (a,b))/\S (a,b)/\MRd w' v' m1/\Below w.heap.size w w'/\Lft (k (a,b)) m1 r:=by
 refine (h w v m hm L.step.1).mono ?_
 rintro e w' ⟨v',rfl,hm',hb⟩
 exact ⟨v',_,_,_,rfl,hS m L.step.1,hm',hb,L.step.2⟩
theorem zdR {α : Type} {f:FuncId} {args:Value->Array Value} {p:Mp α} {ret:Value->α->Value}
  (h : ∀ (w : World) (m : MachD) (a0 : Option Addr) (c0 : Nat) (a1 : Option Addr) (c1 : Nat) (a2 : Option Addr) (c2 : Nat) (res : α) (mres : MachD), Hid (RdL zE w (.slice a0 m.cells.length c0) m.cells) -> Hid (RdL zH w (.slice a1 m.rd.length c1) m.rd) -> Hid (RdL zH w (.slice a2 m.wr.length c2) m.wr) -> Hid (Lft p m (res, mres)) ->
   Calls Tryz.prog f (args (.agg #[.slice a0 m.cells.length c0,.slice a1 m.rd.length c1,.slice a2 m.wr.length c2])) w fun e w'=>∃ v',e=.returned (ret v' res)/\SS w w' v' mres):SC f args p ret :=
 SCmk fun w m a0 c0 a1 c1 a2 c2 H0 H1 H2 hf=>h w m a0 c0 a1 c1 a2 c2 _ _ H0 H1 H2 ⟨hf,rfl⟩
theorem z8 (w:World) (o r:Obj) (h:Below w.heap.size w ((w.alloc o).alloc r)):Below w.heap.size w ((w.alloc o).alloc r)/\((w.alloc o).alloc r).heap[w.heap.size]?=some o/\((w.alloc o).alloc r).heap[w.heap.size+1]?=some r:=⟨h,(zcS w o r w.heap.size rfl).1,(zcS w o r w.heap.size rfl).2⟩
theorem zfu {P:Program} {f:FuncId} {args:Array Value} {Q:Ending->World->Prop} {W:World} (S:World->Prop) (h:S W) (H:∀ W0,S W0->Calls P f args W0 Q):Calls P f args W Q:=H W h
theorem zM {ι : Type} {P:Program} {ops:Array Oper} {Q:Exit->Act->World->Prop} {F : ι->World} {n:Nat} {a:Act} {w:World} (S:World->Prop) (h:S w) (H:∀ W0,S W0->Q .normal a W0):zaW P ops (zeq Q) F n [] a w:=zX (H w h)
theorem wpOrd_nilT {ι : Type} {P:Program} {ops:Array Oper} {Q:Exit → Act → World → Prop} {F : ι → World} {n:Nat} {a:Act} {W:World} (w:World) (m2:MachD) (f0:Option Addr) (g0:Nat) (f1:Option Addr) (g1:Nat) (f2:Option Addr) (g2:Nat) {o1 o2:Obj} (h:Below w.heap.size w W ∧ W.heap[w.heap.size]?=some o1 ∧ W.heap[w.heap.size+1]?=some o2 ∧ RdL zE W (.slice f0 m2.cells.length g0) m2.cells ∧ RdL zH W (.slice f1 m2.rd.length g1) m2.rd ∧ RdL zH W (.slice f2 m2.wr.length g2) m2.wr ∧ w.heap.size+1<W.heap.size) (H:∀ W0,(Below w.heap.size w W0 ∧ W0.heap[w.heap.size]?=some o1 ∧ W0.heap[w.heap.size+1]?=some o2 ∧ RdL zE W0 (.slice f0 m2.cells.length g0) m2.cells ∧ RdL zH W0 (.slice f1 m2.rd.length g1) m2.rd ∧ RdL zH W0 (.slice f2 m2.wr.length g2) m2.wr ∧ w.heap.size+1<W0.heap.size) → Q .normal a W0):zaW P ops (zeq Q) F n [] a W:=zX (H W h)
theorem zx {w:World} {p:Nat} (h:p+1<w.heap.size) (o r:Obj) (Y:Ext):(((w.setB (p+1) r).setB p o).ext Y).heap[p]?=some o/\(((w.setB (p+1) r).setB p o).ext Y).heap[p+1]?=some r:=by
 have h2:=zZ h o r
 exact ⟨(World.ext_get _ Y (zb h2.1)).trans h2.1,(World.ext_get _ Y (zb h2.2)).trans h2.2⟩
theorem zV {w w1:World} (B:Below w.heap.size w w1) (o r:Obj):Below w.heap.size w ((w1.setB (w.heap.size+1) r).setB w.heap.size o):=zp (zp B (by omega) r) (Nat.le_refl _) o
theorem zbj {n lo hi:Int} (h:lo<=n/\n<=hi):inB n lo hi=true:=by unfold inB;simp;omega
theorem zbV {n lo hi:Int} (h:¬ (lo<=n/\n<=hi)):inB n lo hi=false:=by unfold inB;simp;omega
theorem zay (k:ByteArray) (m:MachD) : 0<=((K.num k).run m).1/\((K.num k).run m).1<=999:=ze2 _
theorem zeB (k:ByteArray) (m:MachD) : 0<=((K.bump k).run m).1/\((K.bump k).run m).1<=999:=by
 unfold K.bump
 rw [Mp.run_bind]
 have:=zay k m
 split
 ·show (0:Int)<=0/\(0:Int)<=999
  omega
 ·rw [Mp.run_bind]
  show 0<=((K.num k).run m).1+1/\((K.num k).run m).1+1<=999
  omega
theorem zcR (h t:ByteArray) (n:Int) (h0 : -9223372036854775808<=n) (h1:n<=9223372036854775807):(zaf h n t).size<=h.size+21+t.size:=by
 unfold zaf
 rw [ByteArray.size_append,ByteArray.size_append,zaj]
 have:=Lib.itoa_length_le n h0 h1
 omega
theorem zbO (id:Int) (h0 : -9223372036854775808<=id) (h1:id<=9223372036854775807):(K.pagesKey id).size<=100:=by
 have:=zcR K.nM K.slash id h0 h1
 have c1:K.nM.size=2:=rfl
 have c2:K.slash.size=1:=rfl
 show (zaf K.nM id K.slash).size<=_
 omega
theorem zgm {t:ByteArray} (h:t.size=0):t=⟨#[]⟩/\t.toList.isEmpty=true:=by
 obtain ⟨⟨l⟩⟩:=t
 cases l with
 | nil=>exact ⟨rfl,by rw [ByteArray.toList_eq];rfl⟩
 | cons a l=>cases h
theorem zgn {t:ByteArray} (h:¬ t.size=0) : 0<t.size/\t.toList.isEmpty=false:=by
 refine ⟨by omega,?_⟩
 rw [ByteArray.toList_eq]
 obtain ⟨⟨l⟩⟩:=t
 cases l with
 | nil=>exact absurd rfl h
 | cons a l=>rfl
theorem zb4 (id k:Int) (w:World) (h0 : -9223372036854775808<=id) (h1:id<=9223372036854775807) (k0 : -9223372036854775808<=k) (k1:k<=9223372036854775807) :
  Calls Tryz.prog 98 #[.int .i64 id,.int .i64 k] w fun e w'=>e=.returned (.string (zaf (K.pipeKey id K.tQ) k ⟨#[]⟩))/\Below w.heap.size w w':=by
 have hs:=zcR K.nP K.tQ id h0 h1
 have c1:(K.nP).size=2:=rfl
 have c2:(K.tQ).size=3:=rfl
 have hs2:(K.pipeKey id K.tQ).size<=1073741824:=by show (zaf K.nP id K.tQ).size<=_;omega
 have D:=Hd (fun w=>zbF id K.tQ w (by decide) h0 h1)
 have D2:=Hd (fun w=>zS (K.pipeKey id K.tQ) ⟨#[]⟩ k w hs2 (by decide) k0 k1)
 clear hs c1 c2 hs2
 go_enter Tryz.func98,Tryz.ntmps98
 ((try simp only []);repeat (first|go_skip|go_guarded|go_step|go_upon|go_back))
 (go_at_call 95;refine (D.out _).mono ?_;rintro e w1 ⟨rfl,hb1⟩)
 ((try simp only []);repeat (first|go_skip|go_guarded|go_step|go_upon|go_back))
 (go_at_call 87;refine (D2.out _).mono ?_;rintro e w2 ⟨rfl,hb2⟩)
 ((try simp only []);repeat (first|go_skip|go_guarded|go_step|go_upon|go_back))
 go_ret
 exact ⟨rfl,Below.then hb1 hb2⟩
theorem zds (id k:Int) (w:World) (h0 : -9223372036854775808<=id) (h1:id<=9223372036854775807) (k0 : -9223372036854775808<=k) (k1:k<=9223372036854775807) :
  Calls Tryz.prog 101 #[.int .i64 id,.int .i64 k] w fun e w'=>e=.returned (.string (zaf (K.signalKey id K.tQ) k ⟨#[]⟩))/\Below w.heap.size w w':=by
 have hs:=zcR K.nG K.tQ id h0 h1
 have c1:(K.nG).size=2:=rfl
 have c2:(K.tQ).size=3:=rfl
 have hs2:(K.signalKey id K.tQ).size<=1073741824:=by show (zaf K.nG id K.tQ).size<=_;omega
 have D:=Hd (fun w=>zdH id K.tQ w (by decide) h0 h1)
 have D2:=Hd (fun w=>zS (K.signalKey id K.tQ) ⟨#[]⟩ k w hs2 (by decide) k0 k1)
 clear hs c1 c2 hs2
 go_enter Tryz.func101,Tryz.ntmps101
 ((try simp only []);repeat (first|go_skip|go_guarded|go_step|go_upon|go_back))
 (go_at_call 100;refine (D.out _).mono ?_;rintro e w1 ⟨rfl,hb1⟩)
 ((try simp only []);repeat (first|go_skip|go_guarded|go_step|go_upon|go_back))
 (go_at_call 87;refine (D2.out _).mono ?_;rintro e w2 ⟨rfl,hb2⟩)
 ((try simp only []);repeat (first|go_skip|go_guarded|go_step|go_upon|go_back))
 go_ret
 exact ⟨rfl,Below.then hb1 hb2⟩
theorem zaT (id k:Int) (w:World) (h0 : -9223372036854775808<=id) (h1:id<=9223372036854775807) (k0 : -9223372036854775808<=k) (k1:k<=9223372036854775807) :
  Calls Tryz.prog 118 #[.int .i64 id,.int .i64 k] w fun e w'=>e=.returned (.string (zaf (zaf K.nI id K.tB) k ⟨#[]⟩))/\Below w.heap.size w w':=by
 have hs:=zcR K.nI K.tB id h0 h1
 have c1:(K.nI).size=2:=rfl
 have c2:(K.tB).size=3:=rfl
 have hs2:(zaf K.nI id K.tB).size<=1073741824:=by show (zaf K.nI id K.tB).size<=_;omega
 have D:=Hd (fun w=>zS K.nI K.tB id w (by decide) (by decide) h0 h1)
 have D2:=Hd (fun w=>zS (zaf K.nI id K.tB) ⟨#[]⟩ k w hs2 (by decide) k0 k1)
 clear hs c1 c2 hs2
 go_enter Tryz.func118,Tryz.ntmps118
 ((try simp only []);repeat (first|go_skip|go_guarded|go_step|go_upon|go_back))
 (go_at_call 87;refine (D.out _).mono ?_;rintro e w1 ⟨rfl,hb1⟩)
 ((try simp only []);repeat (first|go_skip|go_guarded|go_step|go_upon|go_back))
 (go_at_call 87;refine (D2.out _).mono ?_;rintro e w2 ⟨rfl,hb2⟩)
 ((try simp only []);repeat (first|go_skip|go_guarded|go_step|go_upon|go_back))
 go_ret
 exact ⟨rfl,Below.then hb1 hb2⟩
theorem zeN {x:ByteArray} (h:x.data.toList.head? ≠ some 45):K.messageOf x=⟨#[]⟩:=if_neg h
theorem zgw {x:ByteArray} (h:x.data.toList.head?=some 45):K.messageOf x=zcc (x.extract 1 x.size):=if_pos h
theorem zeM {β : Type} (k:ByteArray) (f:ByteArray->Mp β):(K.message k >>= f)=(K.look k >>= fun x=>f (K.messageOf x)):=rfl
theorem zcK (s:ByteArray) (w:World) (hs:s.size<=1048576) :
  Calls Tryz.prog 99 #[.string s] w fun e w'=>∃ b,(b=true ∨ zcc s=⟨#[]⟩)/\e=.returned (.tuple #[.string (zcc s),.bool b])/\Below w.heap.size w w':=by
 refine (ziz s w hs).mono ?_
 rintro e w' ⟨r,b,rfl,hr,_,hb,hy,hn⟩
 cases b with
 | true=>exact ⟨true,.inl rfl,by rw [ziw hr (hy rfl)],hb⟩
 | false =>
  have h:=hn rfl
  have e:=zji h.2
  exact ⟨false,.inr e,by rw [e,h.1],hb⟩
theorem zab (x:ByteArray) (hx:x.size<=1048576):(x.size=0/\x.toList.isEmpty=true/\K.messageOf x=⟨#[]⟩) ∨ (∃ h : 0<x.size,x.toList.isEmpty=false/\((x[0]'h).toNat:Int) ≠ 45/\K.messageOf x=⟨#[]⟩) ∨ (∃ h : 0<x.size,x.toList.isEmpty=false/\((x[0]'h).toNat:Int)=45/\K.messageOf x=zcc (x.extract 1 x.size)/\(x.extract 1 x.size).size<=1048576):=by
 by_cases h0:x.size=0
 ·obtain ⟨rfl,ht⟩:=zgm h0
  exact .inl ⟨rfl,ht,zeN (by decide)⟩
 ·obtain ⟨hp,ht⟩:=zgn h0
  have hd:x.data.toList.head?=some (x[0]'hp):=by
   rw [List.head?_eq_getElem?,List.getElem?_eq_getElem (by simpa using hp)]
   rfl
  by_cases h1:((x[0]'hp).toNat:Int)=45
  ·refine .inr (.inr ⟨hp,ht,h1,zgw ?_,?_⟩)
   ·rw [hd]
    have:(x[0]'hp)=45:=UInt8.toNat_inj.1 (by have h2:(45:UInt8).toNat=45:=rfl;omega)
    rw [this]
   ·rw [ByteArray.size_extract];omega
  ·refine .inr (.inl ⟨hp,ht,h1,zeN ?_⟩)
   rw [hd]
   intro he
   have:x[0]'hp=45:=Option.some.inj he
   rw [this] at h1
   exact h1 rfl
theorem ziI (s:ByteArray) (n:Nat) (h:(s.data.toList.take n).all K.nameByte=false):K.nameOk s=false:=by
 unfold K.nameOk
 have:s.data.toList.all K.nameByte=false:=by
  cases hp:s.data.toList.all K.nameByte with
  | false=>rfl
  | true =>
   rw [List.all_eq_true] at hp
   have:(s.data.toList.take n).all K.nameByte=true:=by
    rw [List.all_eq_true]
    exact fun x hx=>hp x (List.mem_of_mem_take hx)
   rw [this] at h
   cases h
 rw [this]
 rfl
theorem ziH (s:ByteArray) (h:(s.data.toList.take s.size).all K.nameByte=true):K.nameOk s=inB (s.size:Int) 1 12:=by
 rw [List.take_of_length_le (by simp)] at h
 unfold K.nameOk
 rw [h]
 rfl
theorem zhN {s:ByteArray} (h:K.nameOk s=true):s.size<=12:=by
 unfold K.nameOk inB at h
 simp at h
 omega
theorem zbG (s:ByteArray) (w:World) (hs:s.size<=9223372036854775807):Calls Tryz.prog 88 #[.string s] w fun e w'=>e=.returned (.bool (K.nameOk s))/\w'=w:=by
 go_enter Tryz.func88,Tryz.ntmps88
 ((try simp only []);repeat (first|go_skip|go_guarded|go_step|go_upon|go_back))
 go_loopw [3] (fun k wr=>∃ n:Nat,k=.int .i64 n/\n<=s.size/\wr=w/\(s.data.toList.take n).all K.nameByte=true) (fun k _=>s.size - (intOf k).toNat)
 case atStart=>exact ⟨0,rfl,Nat.zero_le _,rfl,rfl⟩
 case round =>
  obtain ⟨n,rfl,hn,rfl,hall⟩:=hrel
  have HA:=Hd hall
  clear hall
  by_cases hlt:(n:Int)<s.size
  case pos =>
   have hk:n<s.size:=by omega
   have hst:=zff s n hk
   have HS:=Hd hst
   clear hst
   have hc0 : 0<=(s[n].toNat:Int):=by omega
   have hc1:(s[n].toNat:Int)<=255:=by have:=s[n].toNat_lt;omega
   have hw:wrap64 (s[n].toNat:Int)=s[n].toNat:=IntWalk.wrap64_in _ (by omega)
   have hob:K.nameByte s[n]=((inB (s[n].toNat:Int) 97 122 || inB (s[n].toNat:Int) 48 57) || (s[n].toNat:Int)==46 || (s[n].toNat:Int)==45):=rfl
   by_cases f1 : 97<=(s[n].toNat:Int)/\(s[n].toNat:Int)<=122
   case pos =>
    have I1:=zbj f1
    rw [I1] at hob
    have HB:Hid ((s.data.toList.take (n+1)).all K.nameByte=true):=by show _ = _;rw [HS.out,List.all_append,HA.out];simp [hob]
    have HI:=Hd I1
    clear I1 hob
    ((try simp only []);repeat (first|go_skip|go_guarded|go_step|go_upon|go_back))
    (go_at_call 86;refine (zT _ _ _ _).mono ?_;rintro e w' ⟨rfl,rfl⟩)
    try rw [hw]
    rw [HI.out]
    go_wp2
    go_roundw
    case rel=>exact ⟨n+1,by go_num,by omega,by first|rfl|trivial,HB.out⟩
    case measure=>simp [intOf];omega
   have HI:=Hd (zbV f1)
   rw [zbV f1] at hob
   by_cases f2 : 48<=(s[n].toNat:Int)/\(s[n].toNat:Int)<=57
   case pos =>
    have I1:=zbj f2
    rw [I1] at hob
    have HB:Hid ((s.data.toList.take (n+1)).all K.nameByte=true):=by show _ = _;rw [HS.out,List.all_append,HA.out];simp [hob]
    have HI2:=Hd I1
    clear I1 hob
    ((try simp only []);repeat (first|go_skip|go_guarded|go_step|go_upon|go_back))
    (go_at_call 86;refine (zT _ _ _ _).mono ?_;rintro e w' ⟨rfl,rfl⟩)
    try rw [hw]
    rw [HI.out]
    ((try simp only []);repeat (first|go_skip|go_guarded|go_step|go_upon|go_back))
    (go_at_call 86;refine (zT _ _ _ _).mono ?_;rintro e w' ⟨rfl,rfl⟩)
    try rw [hw]
    rw [HI2.out]
    go_wp2
    go_roundw
    case rel=>exact ⟨n+1,by go_num,by omega,by first|rfl|trivial,HB.out⟩
    case measure=>simp [intOf];omega
   have HI2:=Hd (zbV f2)
   rw [zbV f2] at hob
   by_cases f3:(s[n].toNat:Int)=46 ∨ (s[n].toNat:Int)=45
   case pos =>
    have HB:Hid ((s.data.toList.take (n+1)).all K.nameByte=true):=by
     show _ = _
     rw [HS.out,List.all_append,HA.out]
     rcases f3 with h|h<;>rw [h] at hob<;>simp [hob]
    clear hob
    rcases f3 with h|h
    all_goals (
     ((try simp only []);repeat (first|go_skip|go_guarded|go_step|go_upon|go_back))
     (go_at_call 86;refine (zT _ _ _ _).mono ?_;rintro e w' ⟨rfl,rfl⟩)
     (try rw [hw])
     first|rw [HI.out]|rw [show inB 46 97 122=false from rfl]|rw [show inB 45 97 122=false from rfl]
     ((try simp only []);repeat (first|go_skip|go_guarded|go_step|go_upon|go_back))
     (go_at_call 86;refine (zT _ _ _ _).mono ?_;rintro e w' ⟨rfl,rfl⟩)
     (try rw [hw])
     first|rw [HI2.out]|rw [show inB 46 48 57=false from rfl]|rw [show inB 45 48 57=false from rfl]
     go_wp2
     go_roundw
     case rel=>exact ⟨n+1,by go_num,by omega,by first|rfl|trivial,HB.out⟩
     case measure=>simp [intOf];omega)
   have g1:¬ (s[n].toNat:Int)=46:=fun h=>f3 (.inl h)
   have g2:¬ (s[n].toNat:Int)=45:=fun h=>f3 (.inr h)
   have HB:Hid (K.nameOk s=false):=ziI s (n+1) (by
    rw [HS.out,List.all_append]
    simp only [List.all_cons,List.all_nil,hob]
    simp
    intro _
    exact ⟨fun h=>g1 (by omega),fun h=>g2 (by omega)⟩)
   clear hob f3
   ((try simp only []);repeat (first|go_skip|go_guarded|go_step|go_upon|go_back))
   (go_at_call 86;refine (zT _ _ _ _).mono ?_;rintro e w' ⟨rfl,rfl⟩)
   try rw [hw]
   rw [HI.out]
   ((try simp only []);repeat (first|go_skip|go_guarded|go_step|go_upon|go_back))
   (go_at_call 86;refine (zT _ _ _ _).mono ?_;rintro e w' ⟨rfl,rfl⟩)
   try rw [hw]
   rw [HI2.out]
   have k1:((s[n].toNat:Int) != 46)=true:=bne_iff_ne.2 g1
   have k2:((s[n].toNat:Int) != 45)=true:=bne_iff_ne.2 g2
   go_wp2
   go_ret
   exact ⟨by rw [HB.out];rfl,rfl⟩
  case neg =>
   have e:n=s.size:=by omega
   have HE:Hid (K.nameOk s=inB (s.size:Int) 1 12):=ziH s (e ▸ HA.out)
   ((try simp only []);repeat (first|go_skip|go_guarded|go_step|go_upon|go_back))
   (go_at_call 86;refine (zT _ _ _ _).mono ?_;rintro e w' ⟨rfl,rfl⟩)
   rw [<- HE.out]
   go_wp2
   go_ret
   exact ⟨rfl,rfl⟩
theorem za4 (a:ByteArray) (m:MachD) : 0<=((K.fileOf a).run m).1/\((K.fileOf a).run m).1<=999:=by
 unfold K.fileOf
 split
 ·exact zay _ m
 ·show (0:Int)<=0/\(0:Int)<=999
  omega
theorem zbH (a:ByteArray):(K.nameOk a=true/\a.size<=12) ∨ K.nameOk a=false:=by
 cases h:K.nameOk a with
 | true=>exact .inl ⟨rfl,zhN h⟩
 | false=>exact .inr rfl
theorem zal (name:ByteArray) (hs:name.size<=1048576):SC 89 (fun x=>#[x,.string name]) (K.fileOf name) (fun v' n=>.tuple #[v',.int .i64 n]):=by
 have hc:¬ 9223372036854775807<2+name.size:=by omega
 refine zdR (fun w m a0 c0 a1 c1 a2 c2 res mres H0 H1 H2 HL=>?_)
 unfold K.fileOf at HL
 rcases zbH name with ⟨hn,hz⟩|hn
 all_goals (
  rw [hn] at HL
  have HN:=Hd hn;clear hn
  ((repeat' ((rcases HL.out.ite with ⟨hg,HL2⟩|⟨hg,HL2⟩<;>(clear HL;have HL:=Hd HL2;clear HL2;try first|exact absurd hg (by decide)|exact absurd rfl hg|(exfalso;omega)|(have hgz : _ ∨ _:=hg;clear hg;rcases hgz with hg|hg<;>(try have hgb:=bne_iff_ne.2 hg))|(have hgz:=not_or.1 hg;clear hg;obtain ⟨hg,hgo⟩:=hgz;try replace hgo:=Decidable.not_not.1 hgo)))))))
 all_goals (go_enter Tryz.func89,Tryz.ntmps89;(try simp only []);((repeat (first|((first|with_reducible refine zb8 (fun W0=>Below w.heap.size w W0/\W0.heap[w.heap.size]?=some (.cells #[.slice a0 m.cells.length c0,.slice a1 m.rd.length c1,.slice a2 m.wr.length c2] 76)/\W0.heap[w.heap.size+1]?=some (.cells #[.slice none 0 0,.slice none 0 0,.slice none 0 0] 76)) ?_ ?_|with_reducible refine zfu (fun W0=>Below w.heap.size w W0/\W0.heap[w.heap.size]?=some (.cells #[.slice a0 m.cells.length c0,.slice a1 m.rd.length c1,.slice a2 m.wr.length c2] 76)/\W0.heap[w.heap.size+1]?=some (.cells #[.slice none 0 0,.slice none 0 0,.slice none 0 0] 76)) ?_ ?_);(· with_reducible exact z8 w (.cells #[.slice a0 m.cells.length c0,.slice a1 m.rd.length c1,.slice a2 m.wr.length c2] 76) (.cells #[.slice none 0 0,.slice none 0 0,.slice none 0 0] 76) (by repeat (first|with_reducible exact Below.refl _ _|with_reducible apply Below.ofExt|with_reducible apply Below.ofAlloc|with_reducible apply Below.drew|with_reducible apply Below.ofDrewN|with_reducible assumption|(with_reducible refine Below.setCell ?_ (by first|exact Nat.le_refl _|(simp [go_sem];done)|(simp [go_sem];omega)) _)))))|go_skip|go_guarded|go_step|go_upon|go_back));(rintro w1 ⟨B,P,R⟩;have Z:=zb R;have e1:=zl P R;rw [<- e1];have HW0:=Hd (fun o r=>H0.out.below (zV B o r));have HW1:=Hd (fun o r=>H1.out.below (zV B o r));have HW2:=Hd (fun o r=>H2.out.below (zV B o r));have Zp:=Nat.lt_of_succ_lt Z;clear e1 P R H0 H1 H2;((repeat' ((rcases HL.out.ite with ⟨hg,HL2⟩|⟨hg,HL2⟩<;>(clear HL;have HL:=Hd HL2;clear HL2;try first|exact absurd hg (by decide)|exact absurd rfl hg|(exfalso;omega)|(have hgz : _ ∨ _:=hg;clear hg;rcases hgz with hg|hg<;>(try have hgb:=bne_iff_ne.2 hg))|(have hgz:=not_or.1 hg;clear hg;obtain ⟨hg,hgo⟩:=hgz;try replace hgo:=Decidable.not_not.1 hgo)))))))))
 all_goals (repeat' (first|go_skip|go_guarded|go_step|go_upon|go_back|(go_at_call 88;refine (zbG _ _ (by omega)).mono ?_;rintro e w' ⟨rfl,rfl⟩;rw [HN.out];try simp only [])|((first|((go_at_call 55;refine (SC.use (zO _) (fun a=>0<=a/\a<=999) (fun m _=>zay _ m) (by first|exact HL.out|exact HL.out.last) (⟨_,_,_,rfl,HW0.out _ _,HW1.out _ _,HW2.out _ _⟩ : MRd _ _ _)).mono ?_);(first|rintro e w2 ⟨v2,x,m2,rfl,hx,hm,hb,HL2⟩|rintro e w2 ⟨v2,x,y,m2,rfl,hx,hm,hb,HL2⟩);(obtain ⟨b0,d0,b1,d1,b2,d2,rfl,q0,q1,q2⟩:=hm.form;obtain ⟨B',P,R,Z',Zx⟩:=zF B Z hb;clear Zx;clear hm hb;(clear HW0 HW1 HW2 B Z;have e1:=zl P R;rw [<- e1];clear e1;have HW0:=Hd (fun o r=>zf (zh _) q0 P R o r);have HW1:=Hd (fun o r=>zf (ze _) q1 P R o r);have HW2:=Hd (fun o r=>zf (ze _) q2 P R o r);have B:=B';have Z:=Z';(try clear Zp);have Zp:=Nat.lt_of_succ_lt Z;clear B' Z' P R q0 q1 q2;(try simp only []));(try dsimp only at HL2);clear HL;have HL:=Hd HL2;clear HL2;(try (have hmc:=zab x hx;(rcases hmc with ⟨hm0,hm1,hmq⟩|⟨hm0,hm1,hm2,hmq⟩|⟨hm0,hm1,hm2,hmq,hm3⟩<;>(rw [hmq] at HL;clear hmq))));(all_goals ((repeat' ((rcases HL.out.ite with ⟨hg,HL2⟩|⟨hg,HL2⟩<;>(clear HL;have HL:=Hd HL2;clear HL2;try first|exact absurd hg (by decide)|exact absurd rfl hg|(exfalso;omega)|(have hgz : _ ∨ _:=hg;clear hg;rcases hgz with hg|hg<;>(try have hgb:=bne_iff_ne.2 hg))|(have hgz:=not_or.1 hg;clear hg;obtain ⟨hg,hgo⟩:=hgz;try replace hgo:=Decidable.not_not.1 hgo)))))))))|((go_at_call 88;refine (zbG _ _ (by omega)).mono ?_);rintro e w2 ⟨rfl,rfl⟩;(try simp only []);(try rw [HN.out]);(try rw [HM.out]);(try simp (disch:=omega) only [zbj,zbV]))))))
 all_goals (obtain ⟨rfl,rfl⟩:=HL.out.end;refine bodyPost_ret (by simp [results,Tryz.results89,go_sem,Z];rfl) rfl ?_;exact ⟨_,rfl,⟨_,_,_,rfl,HW0.out _ _,HW1.out _ _,HW2.out _ _⟩,zV B _ _⟩)
theorem zf0 (p:ByteArray) (cs:List CellD) (c:CellD):zag p (cs ++ [c])=if zbd c.key p then zag p cs ++ [c.key] else zag p cs:=by
 unfold zag
 rw [List.filter_append,List.map_append]
 cases hb:zbd c.key p<;>simp [hb]
theorem zfU (v:Value) (ds:List CellD) (p:ByteArray) (w:World) (hs:RdL zE w v ds) (hok:∀ c ∈ ds,c.key.size<=1048576) (hp:p.size<=1048576000) (hl:ds.length<=549755813888) :
  Calls Tryz.prog 120 #[v,.string p] w fun e w'=>∃ v',e=.returned v'/\OwnL zH 9 w' w.heap.size v' (zag p ds)/\Below w.heap.size w w':=by
 obtain ⟨ao,cap,rfl,hc1,hc2,hnil,hne⟩:=hs.shape
 have HX:=Hd hne
 have HK:=Hd hok
 clear hs hne hnil hok
 unfold maxLen at hc2
 go_enter Tryz.func120,Tryz.ntmps120
 (try simp only []);repeat (first|go_skip|go_guarded|go_step|go_upon|go_back)
 go_loopw [5,6] (fun o k wr=>∃ (n:Nat) (xs:List ByteArray),k=.int .i64 n/\n<=ds.length/\Below w.heap.size w wr/\OwnL zH 9 wr w.heap.size o xs/\xs=zag p (ds.take n)/\xs.length<=n) (fun _ k _=>ds.length - (intOf k).toNat)
 case atStart=>exact ⟨0,[],rfl,by omega,(by repeat (first|with_reducible exact Below.refl _ _|with_reducible apply Below.ofExt|with_reducible apply Below.ofAlloc|with_reducible apply Below.drew|with_reducible apply Below.ofDrewN|with_reducible assumption|(with_reducible refine Below.setCell ?_ (by first|exact Nat.le_refl _|(simp [go_sem];done)|(simp [go_sem];omega)) _))),OwnL.empty zH _ w,rfl,by simp⟩
 case round =>
  obtain ⟨n,xs,rfl,hn,hbel,ho,hxs,hxl⟩:=hrel
  obtain ⟨X,rfl⟩:=hbel.ext
  obtain ⟨oa,oc,rfl⟩:=ho.rd.form
  have HO:=Hd ho
  clear ho
  by_cases hlt:(n:Int)<ds.length
  case pos =>
   have hk:n<ds.length:=by omega
   obtain ⟨b,off,rfl,hbl,hcell⟩:=HX.out (by intro e;simp [e] at hk)
   have hc:=hcell n hk
   have hst:ds.take (n+1)=ds.take n ++ [ds[n]]:=List.take_succ_eq_append_getElem hk
   have hck:=HK.out _ (List.getElem_mem hk)
   generalize ds[n]=d at hc hst hck
   have y0:w.cell? ⟨b,off+n*2,none⟩=some (.string d.key):=hc 0 _ rfl
   clear hc hcell
   have hbl:=hbl (by decide)
   have hbl2:b<w.heap.size+X.bs.size:=by omega
   have hsn:=zf0 p (ds.take n) d
   rw [<- hst,<- hxs] at hsn
   have PB:=Hd (fun w'=>zaV d.key p w' (by omega) (by omega))
   cases hb:zbd d.key p with
   | true =>
    rw [hb,if_pos rfl] at hsn
    have HSN:=Hd hsn
    have HB:=Hd hb
    clear hsn hb hst hxs
    (try simp only []);repeat (first|go_skip|go_guarded|go_step|go_upon|go_back)
    (go_at_call 50;refine (PB.out _).mono ?_;rintro e w' ⟨rfl,rfl⟩)
    rw [HB.out]
    go_wp2_with (at_builtin;refine zP ?_)
    have hsrc:=RdL.lit zH (w.ext X) [d.key] 1 rfl (by decide) #[.string d.key] rfl 9
    rw [zw] at hsrc
    refine zR rfl _ _ _ rfl zah (HO.out.alloc _) rfl (hsrc) rfl (by (try simp only [List.nil_append,List.length_append,List.length_singleton,List.length_nil]);(try unfold maxLen);omega) (by (try simp only [List.nil_append,List.length_append,List.length_singleton,List.length_nil]);(try unfold maxLen);omega) (Below.size ((by repeat (first|with_reducible exact Below.refl _ _|with_reducible apply Below.ofExt|with_reducible apply Below.ofAlloc|with_reducible apply Below.drew|with_reducible apply Below.ofDrewN|with_reducible assumption|(with_reducible refine Below.setCell ?_ (by first|exact Nat.le_refl _|(simp [go_sem];done)|(simp [go_sem];omega)) _))))) ?_
    intro v2 w2 hown2 hg2 hz2
    have hb2:Below w.heap.size w w2:=Below.appL ((by repeat (first|with_reducible exact Below.refl _ _|with_reducible apply Below.ofExt|with_reducible apply Below.ofAlloc|with_reducible apply Below.drew|with_reducible apply Below.ofDrewN|with_reducible assumption|(with_reducible refine Below.setCell ?_ (by first|exact Nat.le_refl _|(simp [go_sem];done)|(simp [go_sem];omega)) _)))) hg2 (HO.out.alloc _)
    clear hg2
    have hs2:=hb2.size
    obtain ⟨Y,rfl⟩:=hb2.ext
    have HO2:=Hd hown2
    clear hown2 hb2
    go_wp2
    go_roundw
    case rel=>exact ⟨n+1,_,by go_num,by omega,(by repeat (first|with_reducible exact Below.refl _ _|with_reducible apply Below.ofExt|with_reducible apply Below.ofAlloc|with_reducible apply Below.drew|with_reducible apply Below.ofDrewN|with_reducible assumption|(with_reducible refine Below.setCell ?_ (by first|exact Nat.le_refl _|(simp [go_sem];done)|(simp [go_sem];omega)) _))),HO2.out,HSN.out.symm,by simp;omega⟩
    case measure=>simp [intOf];omega
   | false =>
    rw [hb] at hsn
    have HSN:Hid (zag p (ds.take (n+1))=xs):=by show _ = _;simpa using hsn
    have HB:=Hd hb
    clear hsn hb hst hxs
    (try simp only []);repeat (first|go_skip|go_guarded|go_step|go_upon|go_back)
    (go_at_call 50;refine (PB.out _).mono ?_;rintro e w' ⟨rfl,rfl⟩)
    rw [HB.out]
    go_wp2
    go_roundw
    case rel=>exact ⟨n+1,_,by go_num,by omega,(by repeat (first|with_reducible exact Below.refl _ _|with_reducible apply Below.ofExt|with_reducible apply Below.ofAlloc|with_reducible apply Below.drew|with_reducible apply Below.ofDrewN|with_reducible assumption|(with_reducible refine Below.setCell ?_ (by first|exact Nat.le_refl _|(simp [go_sem];done)|(simp [go_sem];omega)) _))),HO.out,HSN.out.symm,by omega⟩
    case measure=>simp [intOf];omega
  case neg =>
   have e:n=ds.length:=by omega
   have HF:Hid (zag p ds=xs):=by show _ = _;rw [hxs,e,List.take_length]
   clear hxs
   go_wp2
   go_ret
   exact ⟨_,rfl,by rw [HF.out];exact HO.out,(by repeat (first|with_reducible exact Below.refl _ _|with_reducible apply Below.ofExt|with_reducible apply Below.ofAlloc|with_reducible apply Below.drew|with_reducible apply Below.ofDrewN|with_reducible assumption|(with_reducible refine Below.setCell ?_ (by first|exact Nat.le_refl _|(simp [go_sem];done)|(simp [go_sem];omega)) _)))⟩
def SCL (f:FuncId) (args:Value->Array Value) (p:Mp (List ByteArray)):Prop :=
 ∀ (w:World) (v:Value) (m:MachD),MRd w v m->p.fits m->Calls Tryz.prog f (args v) w fun e w'=>∃ v' vs,e=.returned (.tuple #[v',vs])/\RdL zH w' vs (p.run m).1/\SS w w' v' (p.run m).2
theorem SCL.use {β : Type} {f:FuncId} {args:Value->Array Value} {p:Mp (List ByteArray)} (h:SCL f args p) (S:List ByteArray->Prop) (hS:∀ m,p.fits m->S (p.run m).1) {k:List ByteArray->Mp β} {w:World} {v:Value} {m:MachD} {r : β × MachD} (L:Lft (p >>= k) m r) (hm:MRd w v m) :
  Calls Tryz.prog f (args v) w fun e w'=>∃ v' a1 n1 ks m1,e=.returned (.tuple #[v',.slice a1 ks.length n1])/\(S ks/\RdL zH w' (.slice a1 ks.length n1) ks)/\MRd w' v' m1/\Below w.heap.size w w'/\Lft (k ks) m1 r:=by
 refine (h w v m hm L.step.1).mono ?_
 rintro e w' ⟨v',vs,rfl,hr,hm',hb⟩
 obtain ⟨a1,n1,rfl⟩:=hr.form
 exact ⟨v',_,_,_,_,rfl,⟨hS m L.step.1,hr⟩,hm',hb,L.step.2⟩
def KS (p:ByteArray) (ks:List ByteArray):Prop:=ks.length<=549755813888/\(∀ k ∈ ks,k.size<=1048576)/\∀ k ∈ ks,p.size<=k.size
theorem zcI (p:ByteArray) (m:MachD) (h:(K.under p).fits m):KS p ((K.under p).run m).1:=by
 have hs:Mp.Small m:=h.1
 show KS p (zag p m.cells)
 unfold zag
 refine ⟨?_,fun k hk=>?_,fun k hk=>?_⟩
 ·rw [List.length_map]
  exact Nat.le_trans (List.length_filter_le _ _) hs.cl
 ·obtain ⟨c,hc,rfl⟩:=List.mem_map.1 hk
  exact (hs.cz c (List.mem_filter.1 hc).1).1
 ·obtain ⟨c,hc,rfl⟩:=List.mem_map.1 hk
  have h1:=(List.mem_filter.1 hc).2
  unfold zbd at h1
  simp at h1
  exact h1.1
theorem zby (k:ByteArray):SCL 102 (fun x=>#[x,.string k]) (K.under k):=by
 intro w v m hm hf
 obtain ⟨a0,c0,a1,c1,a2,c2,rfl,H0,H1,H2⟩:=hm.form
 have H0:Hid _:=H0
 have H1:Hid _:=H1
 have H2:Hid _:=H2
 obtain ⟨hs,hk,_⟩:=hf
 have hcs:¬ 9223372036854775807<k.size+1:=by omega
 have hkz:∀ c ∈ m.cells,c.key.size<=1048576:=fun c hc=>(hs.cz c hc).1
 have hl0:=hs.cl
 have hl2:=hs.rl
 have D1:=Hd (fun w' (hb:Below w.heap.size w w')=>zaS _ m.rd (k++star) w' (H1.out.below hb) (by omega))
 have D2:=Hd (fun w' (hb:Below w.heap.size w w')=>zfU _ m.cells k w' (H0.out.below hb) hkz (by omega) hs.cl)
 go_enter Tryz.func102,Tryz.ntmps102
 (try simp only []);repeat (first|go_skip|go_guarded|go_step|go_upon|go_back)
 (go_at_call 22;refine (D1.out _ (by repeat (first|with_reducible exact Below.refl _ _|with_reducible apply Below.ofExt|with_reducible apply Below.ofAlloc|with_reducible apply Below.drew|with_reducible apply Below.ofDrewN|with_reducible assumption|(with_reducible refine Below.setCell ?_ (by first|exact Nat.le_refl _|(simp [go_sem];done)|(simp [go_sem];omega)) _)))).mono ?_;rintro e w1 ⟨v1,rfl,ho1,hb1⟩)
 obtain ⟨b1,d1,rfl⟩:=ho1.rd.form
 have h2:=zcS w (obM (.slice a0 m.cells.length c0) (.slice a1 m.rd.length c1) (.slice a2 m.wr.length c2)) zi5 w.heap.size rfl
 have B1:Below w.heap.size w w1:=Below.then (show Below w.heap.size w ((w.alloc (obM (.slice a0 m.cells.length c0) (.slice a1 m.rd.length c1) (.slice a2 m.wr.length c2))).alloc zi5) from (by repeat (first|with_reducible exact Below.refl _ _|with_reducible apply Below.ofExt|with_reducible apply Below.ofAlloc|with_reducible apply Below.drew|with_reducible apply Below.ofDrewN|with_reducible assumption|(with_reducible refine Below.setCell ?_ (by first|exact Nat.le_refl _|(simp [go_sem];done)|(simp [go_sem];omega)) _)))) hb1
 have P1:=(Grew.below hb1 w.heap.size (by first|(simp;done)|(simp;omega))).trans h2.1
 have R1:=(Grew.below hb1 (w.heap.size+1) (by first|(simp;done)|(simp;omega))).trans h2.2
 have T1:=Hd ho1
 have Z1:=hb1.size
 rw [show ((w.alloc (Obj.cells #[.slice a0 m.cells.length c0,.slice a1 m.rd.length c1,.slice a2 m.wr.length c2] 76)).alloc (Obj.cells #[.slice none 0 0,.slice none 0 0,.slice none 0 0] 76)).heap.size=w.heap.size+1+1 by simp] at Z1
 have Zp:w.heap.size<w1.heap.size:=by omega
 have Zq:w.heap.size+1<w1.heap.size:=by omega
 unfold obM at P1
 unfold zi5 at R1
 have e1:=zl P1 R1
 rw [<- e1]
 clear e1
 have S1:=fun o r=>zp (zp B1 (p:=w.heap.size+1) (by omega) r) (p:=w.heap.size) (Nat.le_refl _) o
 (try simp only []);repeat (first|go_skip|go_guarded|go_step|go_upon|go_back)
 refine zaB [(0,true),(1,true),(2,true),(3,true),(4,false),(5,false),(6,false)] 5 (by kernel_rfl) (by kernel_rfl) ?_
 repeat (refine zq rfl (fun K hK=>?_);go_simp;(try simp (disch:=omega) only [IntWalk.i64_in]);refine hK _ ?_;clear hK K)
 refine zo rfl (fun K hK=>?_);go_simp;go_at_call 120;refine (D2.out _ (by first|with_reducible exact S1 _ _|(with_reducible apply Below.drew;with_reducible exact S1 _ _))).mono ?_;rintro e w' ⟨vl,rfl,hol,hb⟩;obtain ⟨X,rfl⟩:=hb.ext;have HOL:=Hd hol.rd;clear hb hol;try go_simp;refine hK _ _ (by show Sx _ _;(try simp only [<- Array.append_assoc]);repeat (first|with_reducible exact Sx.drew _|with_reducible exact Sx.same _ _ _ _|with_reducible exact ⟨_,rfl⟩|with_reducible apply Sx.more|with_reducible apply Sx.ext|with_reducible apply Sx.alloc|with_reducible apply zL|with_reducible exact Sx.refl _)) ?_;clear hK K
 repeat (refine zq rfl (fun K hK=>?_);go_simp;(try simp (disch:=omega) only [IntWalk.i64_in]);refine hK _ ?_;clear hK K)
 repeat (refine zy rfl rfl (fun K hK=>?_);go_simp;refine hK _ _ ?_;clear hK K)
 refine zX ?_
 (try simp only []);repeat (first|go_skip|go_guarded|go_step|go_upon|go_back)
 have Y1:w.heap.size+1<w1.heap.size:=Zq
 refine bodyPost_ret (by simp [results,Tryz.results102,go_sem,Y1];rfl) rfl ?_
 have BF:=fun o r=>zp (zp B1 (p:=w.heap.size+1) (by omega) r) (p:=w.heap.size) (Nat.le_refl _) o
 exact ⟨_,_,rfl,za0 (ze _) Y1 HOL.out _,⟨_,_,_,rfl,H0.out.below ((BF _ _).ofExt X),((zaX T1.out (p:=w.heap.size) (by simp) _ _).rd).ext X,H2.out.below ((BF _ _).ofExt X)⟩,(BF _ _).ofExt X⟩
def MBx (w wr:World) (m:MachD):Prop:=∃ (a0:Option Addr) (c0:Nat) (a1:Option Addr) (c1:Nat) (a2:Option Addr) (c2:Nat),Below w.heap.size w wr/\wr.heap[w.heap.size]?=some (.cells #[.slice a0 m.cells.length c0,.slice a1 m.rd.length c1,.slice a2 m.wr.length c2] 76)/\wr.heap[w.heap.size+1]?=some (.cells #[.slice none 0 0,.slice none 0 0,.slice none 0 0] 76)/\RdL zE wr (.slice a0 m.cells.length c0) m.cells/\RdL zH wr (.slice a1 m.rd.length c1) m.rd/\RdL zH wr (.slice a2 m.wr.length c2) m.wr
theorem zcv {W:Obj->Obj->World} {al:Option Addr} {nl:Nat} {ks:List ByteArray} (h:∀ o r,RdL zH (W o r) (.slice al ks.length nl) ks) {n:Nat} (hn:n<ks.length) (o0 r0:Obj):∃ b off,al=some ⟨b,off,none⟩/\b<(W o0 r0).heap.size/\∀ o r,(W o r).cell? ⟨b,off+n,none⟩=some (.string ks[n]):=by
 have hne:ks ≠ []:=by intro e;rw [e] at hn;cases hn
 obtain ⟨ao,cap,e0,_,_,_,h4⟩:=(h o0 r0).shapeS
 obtain ⟨b,off,e,hb,_⟩:=h4 hne
 cases e0
 refine ⟨b,off,e,hb,fun o r=>?_⟩
 obtain ⟨ao,cap,e0,_,_,_,h4⟩:=(h o r).shapeS
 obtain ⟨b',off',e',hb',hc⟩:=h4 hne
 cases e0
 rw [e] at e'
 cases e'
 exact hc n hn
theorem Lft.each_at {α : Type} {f : α->Mp Unit} {xs:List α} {n:Nat} (hn:n<xs.length) {m:MachD} {r:Unit × MachD} (h:Lft (Mp.each f (xs.drop n)) m r):Lft (f xs[n] >>= fun _=>Mp.each f (xs.drop (n+1))) m r:=by
 rw [List.drop_eq_getElem_cons hn] at h
 exact h
theorem Lft.each_end {α : Type} {f : α->Mp Unit} {xs:List α} {n:Nat} (hn:xs.length<=n) {m:MachD} {r:Unit × MachD} (h:Lft (Mp.each f (xs.drop n)) m r):Lft (pure ():Mp Unit) m r:=by
 rw [List.drop_eq_nil_of_le hn] at h
 exact h
theorem zaZ (p:ByteArray):SC 90 (fun x=>#[x,.string p]) (K.wipe p) (fun v' _=>v'):=by
 refine zdR (fun w m a0 c0 a1 c1 a2 c2 res mres H0 H1 H2 HL=>?_)
 unfold K.wipe at HL
 go_enter Tryz.func90,Tryz.ntmps90
 (try simp only [])
 ((repeat (first|((first|with_reducible refine zb8 (fun W0=>Below w.heap.size w W0/\W0.heap[w.heap.size]?=some (.cells #[.slice a0 m.cells.length c0,.slice a1 m.rd.length c1,.slice a2 m.wr.length c2] 76)/\W0.heap[w.heap.size+1]?=some (.cells #[.slice none 0 0,.slice none 0 0,.slice none 0 0] 76)) ?_ ?_|with_reducible refine zfu (fun W0=>Below w.heap.size w W0/\W0.heap[w.heap.size]?=some (.cells #[.slice a0 m.cells.length c0,.slice a1 m.rd.length c1,.slice a2 m.wr.length c2] 76)/\W0.heap[w.heap.size+1]?=some (.cells #[.slice none 0 0,.slice none 0 0,.slice none 0 0] 76)) ?_ ?_);(· with_reducible exact z8 w (.cells #[.slice a0 m.cells.length c0,.slice a1 m.rd.length c1,.slice a2 m.wr.length c2] 76) (.cells #[.slice none 0 0,.slice none 0 0,.slice none 0 0] 76) (by repeat (first|with_reducible exact Below.refl _ _|with_reducible apply Below.ofExt|with_reducible apply Below.ofAlloc|with_reducible apply Below.drew|with_reducible apply Below.ofDrewN|with_reducible assumption|(with_reducible refine Below.setCell ?_ (by first|exact Nat.le_refl _|(simp [go_sem];done)|(simp [go_sem];omega)) _)))))|go_skip|go_guarded|go_step|go_upon|go_back));(rintro w1 ⟨B,P,R⟩;have Z:=zb R;have e1:=zl P R;rw [<- e1];have HW0:=Hd (fun o r=>H0.out.below (zV B o r));have HW1:=Hd (fun o r=>H1.out.below (zV B o r));have HW2:=Hd (fun o r=>H2.out.below (zV B o r));have Zp:=Nat.lt_of_succ_lt Z;clear e1 P R H0 H1 H2;((repeat' ((rcases HL.out.ite with ⟨hg,HL2⟩|⟨hg,HL2⟩<;>(clear HL;have HL:=Hd HL2;clear HL2;try first|exact absurd hg (by decide)|exact absurd rfl hg|(exfalso;omega)|(have hgz : _ ∨ _:=hg;clear hg;rcases hgz with hg|hg<;>(try have hgb:=bne_iff_ne.2 hg))|(have hgz:=not_or.1 hg;clear hg;obtain ⟨hg,hgo⟩:=hgz;try replace hgo:=Decidable.not_not.1 hgo))))))))
 ((try simp only []);repeat (first|go_skip|go_guarded|go_step|go_upon|go_back))
 (go_at_call 102;refine (SCL.use (zby _) (KS _) (fun m h=>zcI _ m h) (by first|exact HL.out|exact HL.out.last) (⟨_,_,_,rfl,HW0.out _ _,HW1.out _ _,HW2.out _ _⟩ : MRd _ _ _)).mono ?_;rintro e w2 ⟨v2,al,nl,ks,m2,rfl,⟨hks,hrl⟩,hm,hb,HL2⟩;have hrl0:=hrl;obtain ⟨b0,d0,b1,d1,b2,d2,rfl,q0,q1,q2⟩:=hm.form;obtain ⟨B',P,R,Z',Zx⟩:=zF B Z hb;clear Zx;have HRL:=Hd (fun o r=>zf (ze _) hrl P R o r);clear hm hb hrl hrl0;(clear HW0 HW1 HW2 B Z;have e1:=zl P R;rw [<- e1];clear e1;have HW0:=Hd (fun o r=>zf (zh _) q0 P R o r);have HW1:=Hd (fun o r=>zf (ze _) q1 P R o r);have HW2:=Hd (fun o r=>zf (ze _) q2 P R o r);have B:=B';have Z:=Z';(try clear Zp);have Zp:=Nat.lt_of_succ_lt Z;clear B' Z' P R q0 q1 q2;(try simp only []));(try dsimp only at HL2);clear HL;have HL:=Hd HL2;clear HL2)
 ((try simp only []);repeat (first|go_skip|go_guarded|go_step|go_upon|go_back))
 go_loopw [6] (fun k wr=>∃ (n:Nat) (m1:MachD),k=.int .i64 n/\n<=ks.length/\MBx w wr m1/\RdL zH wr (.slice al ks.length nl) ks/\Lft (Mp.each (fun k=>K.lay k ⟨#[]⟩) (ks.drop n)) m1 (res,mres)) (fun k _=>ks.length - (intOf k).toNat)
 case atStart=>exact ⟨0,m2,rfl,Nat.zero_le _,(⟨_,_,_,_,_,_,zV B _ _,(zZ Z _ _).1,(zZ Z _ _).2,HW0.out _ _,HW1.out _ _,HW2.out _ _⟩ : MBx _ _ _),HRL.out _ _,HL.out⟩
 case round =>
  clear HL
  obtain ⟨n,m1,rfl,hn,hbx,hrl,hl⟩:=hrel
  (obtain ⟨b0,d0,b1,d1,b2,d2,B',P,R,q0,q1,q2⟩:=hbx;have Z':=zb R;clear HRL;have HRL:=Hd (fun o r=>zf (ze _) hrl P R o r);clear hrl;(clear HW0 HW1 HW2 B Z;have e1:=zl P R;rw [<- e1];clear e1;have HW0:=Hd (fun o r=>zf (zh _) q0 P R o r);have HW1:=Hd (fun o r=>zf (ze _) q1 P R o r);have HW2:=Hd (fun o r=>zf (ze _) q2 P R o r);have B:=B';have Z:=Z';(try clear Zp);have Zp:=Nat.lt_of_succ_lt Z;clear B' Z' P R q0 q1 q2;(try simp only [])))
  by_cases hlt:(n:Int)<ks.length
  case pos =>
   have hk:n<ks.length:=by omega
   have HL:=Hd (hl.each_at hk)
   obtain ⟨b,off,rfl,hbl,hce⟩:=zcv HRL.out hk (.cells #[] 0) (.cells #[] 0)
   rw [zd,zd] at hbl
   have hkz:=hks.2.1 _ (List.getElem_mem hk)
   have hkl:=hks.1
   clear hl
   generalize ks[n]=key at HL hce hkz
   ((try simp only []);repeat (first|go_skip|go_guarded|go_step|go_upon|go_back))
   (refine zk (id:=5) [(0,true),(1,true),(2,true),(3,true),(4,true),(5,false),(6,false)] 6 (by kernel_rfl) (by kernel_rfl) ?_;(repeat (first|(refine zq rfl (fun K hK=>?_);go_simp;(try simp (disch:=omega) only [IntWalk.i64_in,Int.tmod_eq_emod_of_nonneg,Int.tdiv_eq_ediv_of_nonneg]);refine hK _ ?_;clear hK K)|(refine zo rfl (fun K hK=>?_);go_simp;((go_at_call 84;refine (SC.use (zY _ _) (fun _=>True) (fun _ _=>trivial) (by first|exact HL.out|exact HL.out.last) (⟨_,_,_,rfl,by (refine ⟨?_,?_,?_⟩<;>((repeat (first|with_reducible exact HW0.out _ _|with_reducible exact HW1.out _ _|with_reducible exact HW2.out _ _|with_reducible apply RdL.drew|with_reducible refine RdL.ext ?_ _))))⟩ : MRd _ _ _)).mono ?_);(first|rintro e w' ⟨v2,x,m2,rfl,hx,hm,hb,HL2⟩|rintro e w' ⟨v2,x,y,m2,rfl,hx,hm,hb,HL2⟩);(try dsimp only at HL2);clear HL;have HL:=Hd HL2;clear HL2;obtain ⟨f0,g0,f1,g1,f2,g2,rfl,q0,q1,q2⟩:=hm.form;obtain ⟨X,rfl⟩:=hb.ext;have Q0:=Hd q0;have Q1:=Hd q1;have Q2:=Hd q2;clear hm q0 q1 q2 hb);(try go_simp);refine hK _ _ (by show Sx _ _;(try simp only [<- Array.append_assoc]);repeat (first|with_reducible exact Sx.drew _|with_reducible exact Sx.same _ _ _ _|with_reducible exact ⟨_,rfl⟩|with_reducible apply Sx.more|with_reducible apply Sx.ext|with_reducible apply Sx.alloc|with_reducible apply zL|with_reducible exact Sx.refl _)) ?_;clear hK K)|(refine zy rfl rfl (fun K hK=>?_);go_simp;refine hK _ _ ?_;clear hK K)|(refine zo rfl (fun K hK=>?_);go_simp;refine hK _ _ (by show Sx _ _;(try simp only [<- Array.append_assoc]);repeat (first|with_reducible exact Sx.drew _|with_reducible exact Sx.same _ _ _ _|with_reducible exact ⟨_,rfl⟩|with_reducible apply Sx.more|with_reducible apply Sx.ext|with_reducible apply Sx.alloc|with_reducible apply zL|with_reducible exact Sx.refl _)) ?_;clear hK K)));have Q0':=Q0.out;have Q1':=Q1.out;have Q2':=Q2.out;clear Q0 Q1 Q2;(try simp only [zm,zA,Array.append_assoc] at Q0' Q1' Q2');(try simp only [zm,Array.append_assoc]);refine zM (fun W0=>Below w.heap.size w W0/\W0.heap[w.heap.size]?=some _/\W0.heap[w.heap.size+1]?=some _/\RdL zE W0 (.slice f0 m2.cells.length g0) m2.cells/\RdL zH W0 (.slice f1 m2.rd.length g1) m2.rd/\RdL zH W0 (.slice f2 m2.wr.length g2) m2.wr/\w.heap.size+1<W0.heap.size/\RdL zH W0 _ ks) ⟨(zV B _ _).ofExt _,(zx Z _ _ _).1,(zx Z _ _ _).2,zt (zh _) Z Q0' _ _,zt (ze _) Z Q1' _ _,zt (ze _) Z Q2' _ _,zb (zx Z _ _ _).2,(HRL.out _ _).ext _⟩ ?_;clear Q0' Q1' Q2';rintro w3 ⟨B',P,R,q0,q1,q2,Z',hrl⟩;clear HRL;have HRL:=Hd (fun o r=>zf (ze _) hrl P R o r);clear hrl;(clear HW0 HW1 HW2 B Z;have e1:=zl P R;rw [<- e1];clear e1;have HW0:=Hd (fun o r=>zf (zh _) q0 P R o r);have HW1:=Hd (fun o r=>zf (ze _) q1 P R o r);have HW2:=Hd (fun o r=>zf (ze _) q2 P R o r);have B:=B';have Z:=Z';(try clear Zp);have Zp:=Nat.lt_of_succ_lt Z;clear B' Z' P R q0 q1 q2;(try simp only []));((repeat' ((rcases HL.out.ite with ⟨hg,HL2⟩|⟨hg,HL2⟩<;>(clear HL;have HL:=Hd HL2;clear HL2;try first|exact absurd hg (by decide)|exact absurd rfl hg|(exfalso;omega)|(have hgz : _ ∨ _:=hg;clear hg;rcases hgz with hg|hg<;>(try have hgb:=bne_iff_ne.2 hg))|(have hgz:=not_or.1 hg;clear hg;obtain ⟨hg,hgo⟩:=hgz;try replace hgo:=Decidable.not_not.1 hgo)))))))
   ((try simp only []);repeat (first|go_skip|go_guarded|go_step|go_upon|go_back))
   go_roundw
   case rel=>exact ⟨n+1,m2,by go_num,by omega,(⟨_,_,_,_,_,_,zV B _ _,(zZ Z _ _).1,(zZ Z _ _).2,HW0.out _ _,HW1.out _ _,HW2.out _ _⟩ : MBx _ _ _),HRL.out _ _,HL.out⟩
   case measure=>simp [intOf];omega
  case neg =>
   have HL:=Hd (hl.each_end (by omega))
   ((try simp only []);repeat (first|go_skip|go_guarded|go_step|go_upon|go_back))
   all_goals (obtain ⟨rfl,rfl⟩:=HL.out.end;refine bodyPost_ret (by simp [results,Tryz.results90,go_sem,Z];rfl) rfl ?_;exact ⟨_,rfl,⟨_,_,_,rfl,HW0.out _ _,HW1.out _ _,HW2.out _ _⟩,zV B _ _⟩)
end Go.Proofs.YtncnbihlngapbaaGreat
