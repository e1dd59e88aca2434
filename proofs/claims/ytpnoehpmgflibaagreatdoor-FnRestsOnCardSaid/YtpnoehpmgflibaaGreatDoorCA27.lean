/- Texts of this claim, merged: the walks and what they stand on. Each condition stands in its theorem. -/
import Derived.Test.YtpnoehpmgflibaaGreatDoorCA11
import Derived.Test.YtpnoehpmgflibaaGreatDoorCA26
set_option linter.unusedVariables false
set_option linter.unusedSimpArgs false
set_option maxRecDepth 100000
set_option maxHeartbeats 8000000
namespace Go.Proofs.YtpnoehpmgflibaaGreatDoor
open Go.ChangeShapes Go.WideShapes Go.ChangeAt Go.RowKit
theorem zef (v:Value) (cs:List CellD) (w:World) (h:RdL zu w v cs) (hl:cs.length<=549755813888) :
  Calls Tryz.prog 54 #[v] w fun e w'=>∃ v',e=.returned (.agg #[v',.slice none 0 0,.slice none 0 0])/\OwnL zu 47 w' w.heap.size v' cs/\Below w.heap.size w w':=by
 have HA:=Hd h
 obtain ⟨aa,ca,rfl⟩:=h.form
 clear h
 go_enter Tryz.func54,Tryz.ntmps54
 go_wp2_with (at_builtin;refine zA ?_)
 have ho:=OwnL.empty zu 47 (w.alloc (.cells #[.slice none 0 0,.slice none 0 0,.slice none 0 0] 54))
 rw [show (w.alloc (.cells #[.slice none 0 0,.slice none 0 0,.slice none 0 0] 54)).heap.size=w.heap.size+1 by simp] at ho
 refine zI rfl _ _ _ rfl zE (B:=w.heap.size+1) (v:=.slice (some ⟨w.heap.size+1,0,none⟩) 0 0) (xs:=[]) (R:=zu) ho rfl (ys:=cs) ((HA.out.alloc _).alloc _) rfl (by simp only [List.length_nil];omega) (by simp only [List.length_nil];unfold maxLen;omega) (by simp) ?_
 intro v4 w4 hown4 hgr4 _
 have hb4:Below w.heap.size w w4:=Below.appL (R:=zu) (e:=47) (v:=.slice (some ⟨w.heap.size+1,0,none⟩) 0 0) (xs:=[]) (by repeat (first|with_reducible exact Below.refl _ _|with_reducible apply Below.ofAlloc)) hgr4 (OwnL.base ho (by omega))
 have hp:w4.heap[w.heap.size]?=some (.cells #[.slice none 0 0,.slice none 0 0,.slice none 0 0] 54):=by
  refine (hgr4.block _ (by simp;omega) (by simp [Value.ownBlock])).trans ?_
  exact (heap_alloc_old _ _ (by simp)).trans (heap_alloc_new w _)
 have hz:=za hp
 have HO:=Hd hown4
 obtain ⟨a4,c4,rfl⟩:=hown4.rd.form
 have e1:=ze hp
 rw [<- e1]
 clear hgr4 e1 hp ho hown4
 rw [List.nil_append] at HO ⊢
 (try simp only []);repeat (first|go_skip|go_guarded|go_step|go_upon|go_back)
 refine bodyPost_ret (by simp [results,Tryz.results54,go_sem,hz];rfl) rfl ?_
 exact ⟨_,rfl,(OwnL.base HO.out (by omega)).setB (fun e=>by have:=(HO.out.lt _ e).1;omega) _,zo hb4 (Nat.le_refl _) _⟩
end Go.Proofs.YtpnoehpmgflibaaGreatDoor
namespace Go
open Go.RowKit
section
variable {P:Program} {Q:Exit->Act->World->Prop}
def zkL (l:Array Bool):Nat:=(l.toList.filter (fun b=>!b)).length
theorem zhO:∀ (l:List Bool) (i:Nat),l[i]?=some false->((l.set i true).filter (fun b=>!b)).length+1=(l.filter (fun b=>!b)).length
 | [],i,h=>by simp at h
 | b :: l,0,h=>by
  simp at h
  subst h
  simp
 | b :: l,i+1,h=>by
  have ih:=zhO l i (by simpa using h)
  cases b<;>simp at ih ⊢<;>omega
theorem zgY:∀ (l:List Bool),(l.filter (fun b=>!b)).length=0->∀ i:Nat,l[i]? ≠ some false
 | [],_,i=>by simp
 | b :: l,h,0=>by
  cases b
  ·simp at h
  ·simp
 | b :: l,h,i+1=>by
  have h2:(l.filter (fun b=>!b)).length=0:=by cases b<;>simp at h ⊢<;>exact h
  simpa using zgY l h2 i
theorem ziA {ops:Array Oper} (I:Array Bool->Act->World->Prop)
  (hstep:∀ l a w i,I l a w->i ∈ Region.ready .any ops l->wpOp P ops Q i (fun a' w'=>I (l.setIfInBounds i true) a' w') a w)
  (hend:∀ l a w,I l a w->Region.ready .any ops l = []->Q .normal a w) :
  ∀ (fuel:Nat) (l:Array Bool) (a:Act) (w:World),l.size=ops.size->zkL l<=fuel->I l a w->wpAny P .any ops Q fuel l a w
 | 0,l,a,w,hs,hf,h=>by
  have h0:Region.ready .any ops l = []:=by
   rw [List.eq_nil_iff_forall_not_mem]
   intro i hi
   obtain ⟨hu,o,ho,_⟩:=mem_ready.1 hi
   have hlt:i<ops.size:=(Array.getElem?_eq_some_iff.1 ho).1
   have h1:=zgY l.toList (Nat.le_zero.1 hf) i
   apply h1
   rw [Array.getElem?_toList,Array.getElem?_eq_getElem (by omega)]
   rw [Array.getD_eq_getD_getElem?,Array.getElem?_eq_getElem (by omega)] at hu
   simpa using hu
  exact ⟨h0,hend l a w h h0⟩
 | fuel+1,l,a,w,hs,hf,h=>by
  refine ⟨hend l a w h,fun i hi=>?_⟩
  obtain ⟨hu,o,ho,_⟩:=mem_ready.1 hi
  have hlt:i<ops.size:=(Array.getElem?_eq_some_iff.1 ho).1
  have hg:l.toList[i]?=some false:=by
   rw [Array.getElem?_toList,Array.getElem?_eq_getElem (by omega)]
   rw [Array.getD_eq_getD_getElem?,Array.getElem?_eq_getElem (by omega)] at hu
   simpa using hu
  have h2:=zhO l.toList i hg
  refine wpOp_mono (fun a' w' h'=>ziA I hstep hend fuel _ a' w' (by rw [Array.size_setIfInBounds];exact hs) ?_ h') (hstep l a w i h hi)
  unfold zkL at hf ⊢
  rw [Array.toList_setIfInBounds]
  omega
theorem zj9 (n:Nat):zkL (Array.replicate n false)<=n:=by
 unfold zkL
 refine Nat.le_trans (List.length_filter_le _ _) ?_
 simp
theorem zhT {id:Nat} {l:List Oper} {a:Act} {w:World} (I:Array Bool->Act->World->Prop) (hm:P.follows .mixedOrders=true)
  (h0:I (Array.replicate l.toArray.size false) a w.drew)
  (hstep:∀ L a w i,I L a w->i ∈ Region.ready .any l.toArray L->wpOp P l.toArray (zbX Q) i (fun a' w'=>I (L.setIfInBounds i true) a' w') a w)
  (hend:∀ L a w,I L a w->Region.ready .any l.toArray L = []->Q .normal a w):(Code.region id l.toArray true).wp P Q a w:=by
 have h1:(Code.region id l.toArray true).wp P (zbX Q) a w:=by
  refine wp_region_any hm ?_
  exact ziA I hstep hend _ _ _ _ (by simp) (zj9 _) h0
 exact Code.wp_mono (fun e a w h=>by cases e<;>first|exact h|exact h.elim) h1
theorem zbY {ops:Array Oper} {i:Nat} {o:Oper} {K:Act->World->Prop} {a:Act} {w:World} (ho:ops[i]?=some o)
  (h:∀ K':Act->World->Prop,(∀ a w,K a w->K' a w)->if Region.wanted o (yielded ops a.tmps) then o.wp P a w K' Q else K' (a.put o.dst undef) w):wpOp P ops Q i K a w:=by
 unfold wpOp
 rw [ho]
 dsimp only
 have h1:=h K (fun _ _ h=>h)
 split at h1
 ·rename_i hw
  rw [if_pos hw]
  exact .inl h1
 ·rename_i hw
  rw [if_neg hw]
  exact h1
end
end Go
namespace Go
def zhU (ops:Array Oper) (i j:Nat):Bool:=match ops[i]? with
 | some o=>o.after.any fun e=>Region.binds .any e && e.on==j
 | none=>false
theorem zjQ {ops:Array Oper} {L:Array Bool} {i j:Nat} (hi:i ∈ Region.ready .any ops L) (h:zhU ops i j=true):L.getD j false=true:=by
 obtain ⟨hu,o,ho,hall⟩:=mem_ready.1 hi
 unfold zhU at h
 rw [ho] at h
 dsimp only at h
 rw [Array.any_eq_true] at h
 obtain ⟨k,hk,he⟩:=h
 simp only [Bool.and_eq_true,beq_iff_eq] at he
 rw [<- he.2]
 exact hall _ (Array.getElem_mem hk) he.1
theorem ready_lt {ops:Array Oper} {L:Array Bool} {i:Nat} (hi:i ∈ Region.ready .any ops L):i<ops.size:=by
 obtain ⟨hu,o,ho,_⟩:=mem_ready.1 hi
 exact (Array.getElem?_eq_some_iff.1 ho).1
theorem ready_un {ops:Array Oper} {L:Array Bool} {i:Nat} (hi:i ∈ Region.ready .any ops L):L.getD i false=false:=by
 obtain ⟨hu,o,ho,_⟩:=mem_ready.1 hi
 rw [Array.getD_eq_getD_getElem?] at hu ⊢
 cases h:L[i]? with
 | none=>rfl
 | some b=>rw [h] at hu;exact hu
theorem zaL {L:Array Bool} {i j:Nat} (h:i ≠ j):(L.setIfInBounds i true).getD j false=L.getD j false:=by
 rw [Array.getD_eq_getD_getElem?,Array.getD_eq_getD_getElem?,Array.getElem?_setIfInBounds,if_neg h]
theorem zjY {L:Array Bool} {i:Nat} (h:i<L.size):(L.setIfInBounds i true).getD i false=true:=by
 rw [Array.getD_eq_getD_getElem?,Array.getElem?_setIfInBounds,if_pos rfl,if_pos h]
 rfl
theorem lset_no (n j:Nat):¬ (Array.replicate n false).getD j false=true:=by
 rw [Array.getD_eq_getD_getElem?,Array.getElem?_replicate]
 split<;>simp
theorem zk2 {ops:Array Oper} {L:Array Bool} (hs:L.size=ops.size) (h:Region.ready .any ops L = []) (hord:∀ i o,ops[i]?=some o->∀ e ∈ o.after,Region.binds .any e=true->e.on<i):∀ i,i<ops.size->L.getD i false=true:=by
 intro i
 induction i using Nat.strongRecOn with
 | _ i ih =>
  intro hi
  cases hu:L.getD i false with
  | true=>rfl
  | false =>
   exfalso
   have:i ∈ Region.ready .any ops L:=mem_ready.2 ⟨by
    rw [Array.getD_eq_getD_getElem?,Array.getElem?_eq_getElem (by omega)] at hu ⊢
    exact hu,ops[i],Array.getElem?_eq_getElem hi,fun e he hb=>ih e.on (hord i _ (Array.getElem?_eq_getElem hi) e he hb) (by have:=hord i _ (Array.getElem?_eq_getElem hi) e he hb;omega)⟩
   rw [h] at this
   cases this
def backOnly (ops:Array Oper):Bool:=(List.range ops.size).all fun i=>match ops[i]? with
 | some o=>o.after.all fun e=>!Region.binds .any e || decide (e.on<i)
 | none=>true
theorem zir {ops:Array Oper} (h:backOnly ops=true):∀ i o,ops[i]?=some o->∀ e ∈ o.after,Region.binds .any e=true->e.on<i:=by
 intro i o ho e he hb
 have hlt:i<ops.size:=(Array.getElem?_eq_some_iff.1 ho).1
 have h1:=List.all_eq_true.1 h i (List.mem_range.2 hlt)
 rw [ho] at h1
 dsimp only at h1
 rw [Array.all_eq_true_iff_forall_mem] at h1
 have h2:=h1 e he
 simp only [Bool.or_eq_true,Bool.not_eq_true',decide_eq_true_eq] at h2
 rcases h2 with h2|h2
 ·rw [hb] at h2;cases h2
 ·exact h2
end Go
namespace Go.Proofs.YtpnoehpmgflibaaGreatDoor
open Go.ChangeShapes Go.WideShapes Go.ChangeAt Go.RowKit
structure CI (w:World) (s:Value) (proc:Int) (c:CallD) (cs:List CellD) (an:AnswerD) (m:MachD) (L:Array Bool) (W:World) (x9 x10 x11 x12 x13 x14 x15 x16 x17 x18:Value):Prop where
 sz:L.size=12
 c10:L.getD 10 false=true->L.getD 8 false=true
 c11:L.getD 11 false=true->L.getD 9 false=true
 bel:Below w.heap.size w W
 C:W.heap[w.heap.size]?=some (.cells #[.int .i64 c.kind,.string c.name,.string c.to,.int .i64 c.a,.int .i64 c.b,.string c.text] 26 (0,0))
 A:W.heap[w.heap.size+1]?=some (.cells #[.int .i64 0,.int .i64 0,.string ⟨#[]⟩] 30 (0,0))
 T:W.heap[w.heap.size+1+1]?=some (.cells #[.slice none 0 0,.slice none 0 0] 33 (0,0))
 f0:L.getD 0 false=true->x12=s
 f1:L.getD 1 false=true->MRd W x13 ⟨cs,[],[]⟩
 f2:L.getD 2 false=true->x14=.int .i64 proc
 f3:L.getD 3 false=true->x15=zaM c
 f4:L.getD 4 false=true->∃ v',x16=.tuple #[v',zdc an]/\MRd W v' m
 f5:L.getD 5 false=true->∃ v',x11=.tuple #[v',zdc an]/\MRd W v' m
 f6:L.getD 6 false=true->MRd W x17 m
 f7:L.getD 7 false=true->x18=zdc an
 f8:L.getD 8 false=true->∃ b,x9=.pointer (some ⟨b,0,none⟩)/\w.heap.size+3<=b/\((L.getD 10 false=false/\W.heap[b]?=some (.cells #[.slice none 0 0,.slice none 0 0,.slice none 0 0] 54 (0,0))) ∨ (L.getD 10 false=true/\∃ v0 v1 v2,W.heap[b]?=some (.cells #[v0,v1,v2] 54 (0,0))/\MRd W (.agg #[v0,v1,v2]) m))
 f9:L.getD 9 false=true->∃ b,x10=.pointer (some ⟨b,0,none⟩)/\w.heap.size+3<=b/\((L.getD 11 false=false/\W.heap[b]?=some (.cells #[.int .i64 0,.int .i64 0,.string ⟨#[]⟩] 30 (0,0))) ∨ (L.getD 11 false=true/\W.heap[b]?=some (.cells #[.int .i64 an.code,.int .i64 an.n,.string an.text] 30 (0,0))))
theorem MRd.oneBox {W:World} {v:Value} {m:MachD} (h:MRd W v m) {b:Nat} {a0 a1 a2:Option Addr} {n0 n1 n2 c0 c1 c2:Nat} {t:TypeId} (hb:W.heap[b]?=some (.cells #[.slice a0 n0 c0,.slice a1 n1 c1,.slice a2 n2 c2] t (0,0))) (o:Obj):MRd (W.setB b o) v m:=by
 obtain ⟨v0,v1,v2,rfl,h0,h1,h2⟩:=h
 exact ⟨v0,v1,v2,rfl,za9 (zf _) h0 hb o,za9 (zc _) h1 hb o,za9 (zc _) h2 hb o⟩
theorem MRd.ansBox {W:World} {v:Value} {m:MachD} (hr:∀ s ∈ m.rd,s.size ≠ 0) (hw:∀ s ∈ m.wr,s.size ≠ 0) (h:MRd W v m) {b:Nat} {x y:Int} {t:TypeId} (hb:W.heap[b]?=some (.cells #[.int .i64 x,.int .i64 y,.string ⟨#[]⟩] t (0,0))) (o:Obj):MRd (W.setB b o) v m:=by
 obtain ⟨v0,v1,v2,rfl,h0,h1,h2⟩:=h
 exact ⟨v0,v1,v2,rfl,zh4 h0 hb o,zf7 hr h1 hb o,zf7 hw h2 hb o⟩
theorem zfl {α : Type} {R:RowOf α} {w:World} {v:Value} {xs:List α} (hstr:∀ u ∈ xs.flatMap R.row,∃ s,u=.string s) (h:RdL R w v xs) {p:Nat} {cs:Array Value} {t:TypeId} (hp:w.heap[p]?=some (.cells cs t (0,0))) (hc:∀ u ∈ cs,∀ s,u ≠ .string s) (o:Obj):RdL R (w.setB p o) v xs:=by
 by_cases hq:v.ownBlock=some p
 ·rcases h with h|⟨b,off,cap,hv,h1,h2,h3⟩
  ·exact .inl h
  ·refine .inr ⟨b,off,cap,hv,h1,h2,fun j u hj=>?_⟩
   exfalso
   subst hv
   have e:b=p:=by simpa [Value.ownBlock] using hq
   subst e
   have hc2:=h3 j u hj
   rw [zb hp] at hc2
   obtain ⟨s,rfl⟩:=hstr u (List.mem_of_getElem? hj)
   exact hc _ (Array.mem_of_getElem? hc2) s rfl
 ·exact h.setB hq o
theorem MRd.touchBox {W:World} {v:Value} {m:MachD} (h:MRd W v m) {b:Nat} {a0 a1:Option Addr} {n0 n1 c0 c1:Nat} {t:TypeId} (hb:W.heap[b]?=some (.cells #[.slice a0 n0 c0,.slice a1 n1 c1] t (0,0))) (o:Obj):MRd (W.setB b o) v m:=by
 have hn:∀ u ∈ (#[.slice a0 n0 c0,.slice a1 n1 c1]:Array Value),∀ s,u ≠ .string s:=by
  intro u hu s
  simp at hu
  rcases hu with rfl|rfl<;>simp
 obtain ⟨v0,v1,v2,rfl,h0,h1,h2⟩:=h
 exact ⟨v0,v1,v2,rfl,zfl (zf _) h0 hb hn o,zfl (zc _) h1 hb hn o,zfl (zc _) h2 hb hn o⟩
section
variable {w:World} {s:Value} {proc:Int} {c:CallD} {cs:List CellD} {an:AnswerD} {m:MachD} {L:Array Bool} {W W':World} {x9 x10 x11 x12 x13 x14 x15 x16 x17 x18:Value}
theorem CI.grow (h:CI w s proc c cs an m L W x9 x10 x11 x12 x13 x14 x15 x16 x17 x18) (hb:Below W.heap.size W W'):CI w s proc c cs an m L W' x9 x10 x11 x12 x13 x14 x15 x16 x17 x18:=by
 have G:=fun {k:Nat} {o:Obj} (hk:W.heap[k]?=some o)=>(Grew.below hb k (za hk)).trans hk
 refine ⟨h.sz,h.c10,h.c11,Below.then h.bel hb,G h.C,G h.A,G h.T,h.f0,fun k=>(h.f1 k).below hb,h.f2,h.f3,fun k=>?_,fun k=>?_,fun k=>(h.f6 k).below hb,h.f7,fun k=>?_,fun k=>?_⟩
 ·obtain ⟨v',e,hm⟩:=h.f4 k
  exact ⟨v',e,hm.below hb⟩
 ·obtain ⟨v',e,hm⟩:=h.f5 k
  exact ⟨v',e,hm.below hb⟩
 ·obtain ⟨b,e,hb1,h1|⟨h1,v0,v1,v2,h2,h3⟩⟩:=h.f8 k
  ·exact ⟨b,e,hb1,.inl ⟨h1.1,G h1.2⟩⟩
  ·exact ⟨b,e,hb1,.inr ⟨h1,v0,v1,v2,G h2,h3.below hb⟩⟩
 ·obtain ⟨b,e,hb1,h1|h1⟩:=h.f9 k
  ·exact ⟨b,e,hb1,.inl ⟨h1.1,G h1.2⟩⟩
  ·exact ⟨b,e,hb1,.inr ⟨h1.1,G h1.2⟩⟩
theorem CI.set (h:CI w s proc c cs an m L W x9 x10 x11 x12 x13 x14 x15 x16 x17 x18) {i:Nat} (hi:i<10) (hi0:i ≠ 10) {y9 y10 y11 y12 y13 y14 y15 y16 y17 y18:Value}
  (e0:if i=0 then y12=s else y12=x12) (e1:if i=1 then MRd W y13 ⟨cs,[],[]⟩ else y13=x13) (e2:if i=2 then y14=.int .i64 proc else y14=x14) (e3:if i=3 then y15=zaM c else y15=x15)
  (e4:if i=4 then ∃ v',y16=.tuple #[v',zdc an]/\MRd W v' m else y16=x16) (e5:if i=5 then ∃ v',y11=.tuple #[v',zdc an]/\MRd W v' m else y11=x11) (e6:if i=6 then MRd W y17 m else y17=x17) (e7:if i=7 then y18=zdc an else y18=x18)
  (e8:if i=8 then L.getD 10 false=false/\∃ b,y9=.pointer (some ⟨b,0,none⟩)/\w.heap.size+3<=b/\W.heap[b]?=some (.cells #[.slice none 0 0,.slice none 0 0,.slice none 0 0] 54 (0,0)) else y9=x9)
  (e9:if i=9 then L.getD 11 false=false/\∃ b,y10=.pointer (some ⟨b,0,none⟩)/\w.heap.size+3<=b/\W.heap[b]?=some (.cells #[.int .i64 0,.int .i64 0,.string ⟨#[]⟩] 30 (0,0)) else y10=x10) :
  CI w s proc c cs an m (L.setIfInBounds i true) W y9 y10 y11 y12 y13 y14 y15 y16 y17 y18:=by
 have k10:(L.setIfInBounds i true).getD 10 false=L.getD 10 false:=zaL (by omega)
 have k11:(L.setIfInBounds i true).getD 11 false=L.getD 11 false:=zaL (by omega)
 have up:∀ j,L.getD j false=true->(L.setIfInBounds i true).getD j false=true:=fun j hj=>by
  by_cases hx:i=j
  ·subst hx;exact zjY (by have:=h.sz;omega)
  ·rw [zaL hx];exact hj
 refine ⟨by rw [Array.size_setIfInBounds];exact h.sz,fun k=>up _ (h.c10 (k10 ▸ k)),fun k=>up _ (h.c11 (k11 ▸ k)),h.bel,h.C,h.A,h.T,fun k=>?_,fun k=>?_,fun k=>?_,fun k=>?_,fun k=>?_,fun k=>?_,fun k=>?_,fun k=>?_,fun k=>?_,fun k=>?_⟩
 ·by_cases hx:i=0
  ·rwa [if_pos hx] at e0
  ·rw [if_neg hx] at e0;rw [zaL hx] at k;rw [e0];exact h.f0 k
 ·by_cases hx:i=1
  ·rwa [if_pos hx] at e1
  ·rw [if_neg hx] at e1;rw [zaL hx] at k;rw [e1];exact h.f1 k
 ·by_cases hx:i=2
  ·rwa [if_pos hx] at e2
  ·rw [if_neg hx] at e2;rw [zaL hx] at k;rw [e2];exact h.f2 k
 ·by_cases hx:i=3
  ·rwa [if_pos hx] at e3
  ·rw [if_neg hx] at e3;rw [zaL hx] at k;rw [e3];exact h.f3 k
 ·by_cases hx:i=4
  ·rwa [if_pos hx] at e4
  ·rw [if_neg hx] at e4;rw [zaL hx] at k;rw [e4];exact h.f4 k
 ·by_cases hx:i=5
  ·rwa [if_pos hx] at e5
  ·rw [if_neg hx] at e5;rw [zaL hx] at k;rw [e5];exact h.f5 k
 ·by_cases hx:i=6
  ·rwa [if_pos hx] at e6
  ·rw [if_neg hx] at e6;rw [zaL hx] at k;rw [e6];exact h.f6 k
 ·by_cases hx:i=7
  ·rwa [if_pos hx] at e7
  ·rw [if_neg hx] at e7;rw [zaL hx] at k;rw [e7];exact h.f7 k
 ·rw [k10]
  by_cases hx:i=8
  ·rw [if_pos hx] at e8
   obtain ⟨h1,b,e,h2,h3⟩:=e8
   exact ⟨b,e,h2,.inl ⟨h1,h3⟩⟩
  ·rw [if_neg hx] at e8;rw [zaL hx] at k;rw [e8];exact h.f8 k
 ·rw [k11]
  by_cases hx:i=9
  ·rw [if_pos hx] at e9
   obtain ⟨h1,b,e,h2,h3⟩:=e9
   exact ⟨b,e,h2,.inl ⟨h1,h3⟩⟩
  ·rw [if_neg hx] at e9;rw [zaL hx] at k;rw [e9];exact h.f9 k
theorem CI.st10 (h:CI w s proc c cs an m L W x9 x10 x11 x12 x13 x14 x15 x16 x17 x18) (k6:L.getD 6 false=true) (k8:L.getD 8 false=true) (k10:L.getD 10 false=false) :
  ∃ b a0 c0 a1 c1 a2 c2,x9=.pointer (some ⟨b,0,none⟩)/\x17=.agg #[.slice a0 m.cells.length c0,.slice a1 m.rd.length c1,.slice a2 m.wr.length c2]/\W.heap[b]?=some (.cells #[.slice none 0 0,.slice none 0 0,.slice none 0 0] 54 (0,0))/\CI w s proc c cs an m (L.setIfInBounds 10 true) (W.setB b (.cells #[.slice a0 m.cells.length c0,.slice a1 m.rd.length c1,.slice a2 m.wr.length c2] 54 (0,0))) x9 x10 x11 x12 x13 x14 x15 x16 x17 x18:=by
 obtain ⟨b,e9,hb,h1|h1⟩:=h.f8 k8
 case inr=>rw [h1.1] at k10;cases k10
 have hm6:=h.f6 k6
 obtain ⟨a0,c0,a1,c1,a2,c2,e17,r0,r1,r2⟩:=hm6.form
 have hB:=h1.2
 have hz:=za hB
 have N:∀ k,k<w.heap.size+3->(W.setB b (.cells #[.slice a0 m.cells.length c0,.slice a1 m.rd.length c1,.slice a2 m.wr.length c2] 54 (0,0))).heap[k]?=W.heap[k]?:=fun k hk=>World.setB_get _ _ _ _ (by omega)
 have kk:=fun {j:Nat} (hj : 10 ≠ j) (k:(L.setIfInBounds 10 true).getD j false=true)=>(zaL (L:=L) hj) ▸ k
 refine ⟨b,a0,c0,a1,c1,a2,c2,e9,e17,hB,⟨by rw [Array.size_setIfInBounds];exact h.sz,fun _=>by rw [zaL (by decide)];exact k8,fun k=>by rw [zaL (by decide)];exact h.c11 (kk (by decide) k),zo h.bel (by omega) _,(N _ (by omega)).trans h.C,(N _ (by omega)).trans h.A,(N _ (by omega)).trans h.T,fun k=>h.f0 (kk (by decide) k),fun k=>(h.f1 (kk (by decide) k)).oneBox hB _,fun k=>h.f2 (kk (by decide) k),fun k=>h.f3 (kk (by decide) k),fun k=>?_,fun k=>?_,fun k=>(h.f6 (kk (by decide) k)).oneBox hB _,fun k=>h.f7 (kk (by decide) k),fun k=>?_,fun k=>?_⟩⟩
 ·obtain ⟨v',e,hm⟩:=h.f4 (kk (by decide) k)
  exact ⟨v',e,hm.oneBox hB _⟩
 ·obtain ⟨v',e,hm⟩:=h.f5 (kk (by decide) k)
  exact ⟨v',e,hm.oneBox hB _⟩
 ·refine ⟨b,e9,hb,.inr ⟨zjY (by rw [h.sz];decide),_,_,_,World.setB_at _ _ _ hz,?_⟩⟩
  exact MRd.oneBox ⟨_,_,_,rfl,r0,r1,r2⟩ hB _
 ·obtain ⟨b',e,hb',h2⟩:=h.f9 (kk (by decide) k)
  have hne:b ≠ b':=by
   rintro rfl
   rcases h2 with h2|h2<;>(have h3:=h2.2;rw [hB] at h3;cases h3)
  rw [zaL (by decide)]
  have e3:(W.setB b (.cells #[.slice a0 m.cells.length c0,.slice a1 m.rd.length c1,.slice a2 m.wr.length c2] 54 (0,0))).heap[b']?=W.heap[b']?:=World.setB_get _ _ _ _ (by omega)
  refine ⟨b',e,hb',?_⟩
  rw [e3]
  exact h2
theorem CI.st11 (hrd:∀ s ∈ m.rd,s.size ≠ 0) (hwr:∀ s ∈ m.wr,s.size ≠ 0) (h:CI w s proc c cs an m L W x9 x10 x11 x12 x13 x14 x15 x16 x17 x18) (k7:L.getD 7 false=true) (k9:L.getD 9 false=true) (k11:L.getD 11 false=false) :
  ∃ b,x10=.pointer (some ⟨b,0,none⟩)/\x18=zdc an/\W.heap[b]?=some (.cells #[.int .i64 0,.int .i64 0,.string ⟨#[]⟩] 30 (0,0))/\CI w s proc c cs an m (L.setIfInBounds 11 true) (W.setB b (.cells #[.int .i64 an.code,.int .i64 an.n,.string an.text] 30 (0,0))) x9 x10 x11 x12 x13 x14 x15 x16 x17 x18:=by
 obtain ⟨b,e10,hb,h1|h1⟩:=h.f9 k9
 case inr=>rw [h1.1] at k11;cases k11
 have hB:=h1.2
 have hz:=za hB
 have N:∀ k,k<w.heap.size+3->(W.setB b (.cells #[.int .i64 an.code,.int .i64 an.n,.string an.text] 30 (0,0))).heap[k]?=W.heap[k]?:=fun k hk=>World.setB_get _ _ _ _ (by omega)
 have kk:=fun {j:Nat} (hj : 11 ≠ j) (k:(L.setIfInBounds 11 true).getD j false=true)=>(zaL (L:=L) hj) ▸ k
 refine ⟨b,e10,h.f7 k7,hB,⟨by rw [Array.size_setIfInBounds];exact h.sz,fun k=>by rw [zaL (by decide)];exact h.c10 (kk (by decide) k),fun _=>by rw [zaL (by decide)];exact k9,zo h.bel (by omega) _,(N _ (by omega)).trans h.C,(N _ (by omega)).trans h.A,(N _ (by omega)).trans h.T,fun k=>h.f0 (kk (by decide) k),fun k=>(h.f1 (kk (by decide) k)).ansBox (by simp) (by simp) hB _,fun k=>h.f2 (kk (by decide) k),fun k=>h.f3 (kk (by decide) k),fun k=>?_,fun k=>?_,fun k=>(h.f6 (kk (by decide) k)).ansBox hrd hwr hB _,fun k=>h.f7 (kk (by decide) k),fun k=>?_,fun k=>?_⟩⟩
 ·obtain ⟨v',e,hm⟩:=h.f4 (kk (by decide) k)
  exact ⟨v',e,hm.ansBox hrd hwr hB _⟩
 ·obtain ⟨v',e,hm⟩:=h.f5 (kk (by decide) k)
  exact ⟨v',e,hm.ansBox hrd hwr hB _⟩
 ·obtain ⟨b',e,hb',h2⟩:=h.f8 (kk (by decide) k)
  have hne:b ≠ b':=by
   rintro rfl
   rcases h2 with h2|⟨_,v0,v1,v2,h2,_⟩
   ·have h3:=h2.2;rw [hB] at h3;cases h3
   ·rw [hB] at h2;cases h2
  rw [zaL (by decide)]
  have e3:(W.setB b (.cells #[.int .i64 an.code,.int .i64 an.n,.string an.text] 30 (0,0))).heap[b']?=W.heap[b']?:=World.setB_get _ _ _ _ (by omega)
  refine ⟨b',e,hb',?_⟩
  rw [e3]
  rcases h2 with h2|⟨h0,v0,v1,v2,h2,h3⟩
  ·exact .inl h2
  ·exact .inr ⟨h0,v0,v1,v2,h2,h3.ansBox hrd hwr hB _⟩
 ·exact ⟨b,e10,hb,.inr ⟨zjY (by rw [h.sz];decide),World.setB_at _ _ _ hz⟩⟩
end
theorem zgz (v:Value) (cs:List CellD) (proc:Int) (hp0 : -9223372036854775808<=proc) (hp1:proc<=9223372036854775807) (c:CallD) (hc:c.ok) (ha0 : -9223372036854775808<=c.a) (ha1:c.a<=9223372036854775807) (hb0 : -9223372036854775808<=c.b) (hb1:c.b<=9223372036854775807) (w:World) (h:RdL zu w v cs) (hf:(K.doCall proc c).fits ⟨cs,[],[]⟩) :
  Calls Tryz.prog 22 #[v,.int .i64 proc,zaM c] w fun e w'=>∃ v0 v1 v2,e=.returned (.tuple #[v0,zdc ((K.doCall proc c).run ⟨cs,[],[]⟩).1,.agg #[v1,v2]])/\MRd w' (.agg #[v0,v1,v2]) ((K.doCall proc c).run ⟨cs,[],[]⟩).2/\Below w.heap.size w w':=by
 have hsm:=Mp.fits_end hf
 have hl:=(Mp.fits_small hf).cl
 dsimp only at hl
 have D1:=Hd (fun w' (hb:Below w.heap.size w w')=>zef v cs w' (h.below hb) hl)
 have D2:Hid (∀ w' v',MRd w' v' ⟨cs,[],[]⟩->Calls Tryz.prog 57 #[v',.int .i64 proc,.agg #[.int .i64 c.kind,.string c.name,.string c.to,.int .i64 c.a,.int .i64 c.b,.string c.text]] w' fun e w1=>∃ v1,e=.returned (.tuple #[v1,zdc ((K.doCall proc c).run ⟨cs,[],[]⟩).1])/\SS w' w1 v1 ((K.doCall proc c).run ⟨cs,[],[]⟩).2):=fun w' v' hm=>zha proc hp0 hp1 c hc ha0 ha1 hb0 hb1 w' v' ⟨cs,[],[]⟩ hm hf
 generalize (K.doCall proc c).run ⟨cs,[],[]⟩=R at hsm D2 ⊢
 obtain ⟨an,m⟩:=R
 dsimp only at hsm D2 ⊢
 have HRD:=Hd hsm.rn
 have HWR:=Hd hsm.wn
 clear hsm hf hl h
 obtain ⟨kd,nm,tn,ca,cb,tx⟩:=c
 unfold zaM
 dsimp only at ha0 ha1 hb0 hb1 D2 ⊢
 go_enter Tryz.func22,Tryz.ntmps22
 (skip);repeat (first|go_skip|go_guarded|go_step|go_upon|go_back)
 refine zhT (fun L a W=>∃ x9 x10 x11 x12 x13 x14 x15 x16 x17 x18,a=⟨#[v,.int .i64 proc,.agg #[.int .i64 kd,.string nm,.string tn,.int .i64 ca,.int .i64 cb,.string tx],undef,undef,.pointer (some ⟨w.heap.size,0,none⟩),.slice none 0 0,.pointer (some ⟨w.heap.size+1,0,none⟩),.pointer (some ⟨w.heap.size+1+1,0,none⟩),x9,x10,x11,x12,x13,x14,x15,x16,x17,x18,undef,undef,undef,undef,undef],[]⟩/\CI w v proc ⟨kd,nm,tn,ca,cb,tx⟩ cs an m L W x9 x10 x11 x12 x13 x14 x15 x16 x17 x18) (by kernel_rfl) ?_ ?_ ?_
 ·have N:∀ j,¬ (Array.replicate 12 false).getD j false=true:=lset_no 12
  have h3:=zkH w (.cells #[.int .i64 kd,.string nm,.string tn,.int .i64 ca,.int .i64 cb,.string tx] 26) (.cells #[.int .i64 0,.int .i64 0,.string ⟨#[]⟩] 30) (.cells #[.slice none 0 0,.slice none 0 0] 33) w.heap.size rfl
  refine ⟨_,_,_,_,_,_,_,_,_,_,rfl,⟨by simp,fun k=>absurd k (N _),fun k=>absurd k (N _),(by repeat (first|with_reducible exact Below.refl _ _|with_reducible apply Below.ofAlloc|with_reducible apply Below.drew)),h3.1,h3.2.1,h3.2.2,fun k=>absurd k (N _),fun k=>absurd k (N _),fun k=>absurd k (N _),fun k=>absurd k (N _),fun k=>absurd k (N _),fun k=>absurd k (N _),fun k=>absurd k (N _),fun k=>absurd k (N _),fun k=>absurd k (N _),fun k=>absurd k (N _)⟩⟩
 ·rintro L a W i ⟨x9,x10,x11,x12,x13,x14,x15,x16,x17,x18,rfl,H⟩ hi
  have hlt:=ready_lt hi
  have hun:=ready_un hi
  have hW:Hid (∀ j,zhU _ i j=true->L.getD j false=true):=fun j h=>zjQ hi h
  have h12:i<12:=hlt
  clear hlt hi
  have hcs:i=0 ∨ i=1 ∨ i=2 ∨ i=3 ∨ i=4 ∨ i=5 ∨ i=6 ∨ i=7 ∨ i=8 ∨ i=9 ∨ i=10 ∨ i=11:=by omega
  clear h12
  rcases hcs with rfl|rfl|rfl|rfl|rfl|rfl|rfl|rfl|rfl|rfl|rfl|rfl
  ·refine zbY rfl (fun K hK=>?_)
   go_simp
   refine hK _ _ ⟨_,_,_,_,_,_,_,_,_,_,rfl,H.set (i:=0) (by decide) (by decide) (by simp) (by simp) (by simp) (by simp) (by simp) (by simp) (by simp) (by simp) (by simp) (by simp)⟩
  ·obtain rfl:=H.f0 (hW.out 0 (by kernel_rfl))
   refine zbY rfl (fun K hK=>?_)
   go_simp
   go_at_call 54
   refine (D1.out W H.bel).mono ?_
   rintro e W' ⟨v',rfl,ho,hb⟩
   try go_simp
   refine hK _ _ ⟨_,_,_,_,_,_,_,_,_,_,rfl,(H.grow hb).set (i:=1) (by decide) (by decide) (by simp) (by rw [if_pos rfl];exact ⟨_,_,_,rfl,ho.rd,RdL.nil _ _,RdL.nil _ _⟩) (by simp) (by simp) (by simp) (by simp) (by simp) (by simp) (by simp) (by simp)⟩
  ·refine zbY rfl (fun K hK=>?_)
   go_simp
   refine hK _ _ ⟨_,_,_,_,_,_,_,_,_,_,rfl,H.set (i:=2) (by decide) (by decide) (by simp) (by simp) (by simp) (by simp) (by simp) (by simp) (by simp) (by simp) (by simp) (by simp)⟩
  ·have hC:=H.C
   have hz:=za hC
   have p0:W.cell? ⟨w.heap.size,0,none⟩=some (.int .i64 kd):=(zb (i:=0) hC).trans rfl
   have p1:W.cell? ⟨w.heap.size,1,none⟩=some (.string nm):=(zb (i:=1) hC).trans rfl
   have p2:W.cell? ⟨w.heap.size,2,none⟩=some (.string tn):=(zb (i:=2) hC).trans rfl
   have p3:W.cell? ⟨w.heap.size,3,none⟩=some (.int .i64 ca):=(zb (i:=3) hC).trans rfl
   have p4:W.cell? ⟨w.heap.size,4,none⟩=some (.int .i64 cb):=(zb (i:=4) hC).trans rfl
   have p5:W.cell? ⟨w.heap.size,5,none⟩=some (.string tx):=(zb (i:=5) hC).trans rfl
   refine zbY rfl (fun K hK=>?_)
   go_simp
   refine hK _ _ ⟨_,_,_,_,_,_,_,_,_,_,rfl,H.set (i:=3) (by decide) (by decide) (by simp) (by simp) (by simp) (by rw [if_pos rfl];rfl) (by simp) (by simp) (by simp) (by simp) (by simp) (by simp)⟩
  ·have hm:=H.f1 (hW.out 1 (by kernel_rfl))
   obtain rfl:=H.f2 (hW.out 2 (by kernel_rfl))
   obtain rfl:=H.f3 (hW.out 3 (by kernel_rfl))
   unfold zaM
   refine zbY rfl (fun K hK=>?_)
   go_simp
   go_at_call 57
   refine (D2.out W _ hm).mono ?_
   rintro e W' ⟨v1,rfl,hm1,hb⟩
   try go_simp
   refine hK _ _ ⟨_,_,_,_,_,_,_,_,_,_,rfl,(H.grow hb).set (i:=4) (by decide) (by decide) (by simp) (by simp) (by simp) (by ((rw [if_neg (by decide)];rfl))) (by rw [if_pos rfl];exact ⟨_,rfl,hm1⟩) (by simp) (by simp) (by simp) (by simp) (by simp)⟩
  ·obtain ⟨v1,e1,hm1⟩:=H.f4 (hW.out 4 (by kernel_rfl))
   have HH:=H
   rw [e1] at H ⊢
   refine zbY rfl (fun K hK=>?_)
   go_simp
   refine hK _ _ ⟨_,_,_,_,_,_,_,_,_,_,rfl,H.set (i:=5) (by decide) (by decide) (by simp) (by simp) (by simp) (by simp) (by simp) (by rw [if_pos rfl];exact ⟨v1,rfl,hm1⟩) (by simp) (by simp) (by simp) (by simp)⟩
  ·obtain ⟨v1,e1,hm1⟩:=H.f5 (hW.out 5 (by kernel_rfl))
   rw [e1] at H ⊢
   refine zbY rfl (fun K hK=>?_)
   go_simp
   refine hK _ _ ⟨_,_,_,_,_,_,_,_,_,_,rfl,H.set (i:=6) (by decide) (by decide) (by simp) (by simp) (by simp) (by simp) (by simp) (by simp) (by rw [if_pos rfl];exact hm1) (by simp) (by simp) (by simp)⟩
  ·obtain ⟨v1,e1,hm1⟩:=H.f5 (hW.out 5 (by kernel_rfl))
   rw [e1] at H ⊢
   refine zbY rfl (fun K hK=>?_)
   go_simp
   refine hK _ _ ⟨_,_,_,_,_,_,_,_,_,_,rfl,H.set (i:=7) (by decide) (by decide) (by simp) (by simp) (by simp) (by simp) (by simp) (by simp) (by simp) (by simp) (by simp) (by simp)⟩
  ·have k10:L.getD 10 false=false:=by cases h:L.getD 10 false with|false=>rfl|true=>exact absurd (H.c10 h) (by rw [hun];decide)
   refine zbY rfl (fun K hK=>?_)
   go_simp
   refine hK _ _ ⟨_,_,_,_,_,_,_,_,_,_,rfl,(H.grow (Below.ofAlloc (Below.refl _ _) _)).set (i:=8) (by decide) (by decide) (by simp) (by simp) (by simp) (by simp) (by simp) (by simp) (by simp) (by simp) (by rw [if_pos rfl];exact ⟨k10,_,rfl,by have:=H.bel.size;have:=za H.T;omega,heap_alloc_new _ _⟩) (by simp)⟩
  ·have k11:L.getD 11 false=false:=by cases h:L.getD 11 false with|false=>rfl|true=>exact absurd (H.c11 h) (by rw [hun];decide)
   refine zbY rfl (fun K hK=>?_)
   go_simp
   refine hK _ _ ⟨_,_,_,_,_,_,_,_,_,_,rfl,(H.grow (Below.ofAlloc (Below.refl _ _) _)).set (i:=9) (by decide) (by decide) (by simp) (by simp) (by simp) (by simp) (by simp) (by simp) (by simp) (by simp) (by simp) (by rw [if_pos rfl];exact ⟨k11,_,rfl,by have:=H.bel.size;have:=za H.T;omega,heap_alloc_new _ _⟩)⟩
  ·obtain ⟨b,a0,c0,a1,c1,a2,c2,rfl,rfl,hB,H'⟩:=H.st10 (hW.out 6 (by kernel_rfl)) (hW.out 8 (by kernel_rfl)) hun
   have e1:=ze hB
   have hz:=za hB
   refine zbY rfl (fun K hK=>?_)
   rw [<- e1]
   clear e1
   go_simp
   exact hK _ _ ⟨_,_,_,_,_,_,_,_,_,_,rfl,H'⟩
  ·obtain ⟨b,rfl,rfl,hB,H'⟩:=H.st11 HRD.out HWR.out (hW.out 7 (by kernel_rfl)) (hW.out 9 (by kernel_rfl)) hun
   have e1:=ze hB
   have hz:=za hB
   unfold zdc
   refine zbY rfl (fun K hK=>?_)
   rw [<- e1]
   clear e1
   go_simp
   exact hK _ _ ⟨_,_,_,_,_,_,_,_,_,_,rfl,H'⟩
 ·rintro L a W ⟨x9,x10,x11,x12,x13,x14,x15,x16,x17,x18,rfl,H⟩ hr
  have hall:=zk2 (ops:=_) H.sz hr (zir (by kernel_rfl))
  obtain ⟨b9,rfl,hb9,h9⟩:=H.f8 (hall 8 (by decide))
  obtain ⟨b10,rfl,hb10,h10⟩:=H.f9 (hall 9 (by decide))
  have k10:=hall 10 (by decide)
  have k11:=hall 11 (by decide)
  rcases h9 with h9|⟨_,v0,v1,v2,h9,hm⟩
  ·rw [k10] at h9;cases h9.1
  rcases h10 with h10|⟨_,h10⟩
  ·rw [k11] at h10;cases h10.1
  obtain ⟨a0,c0,a1,c1,a2,c2,e,_,_,_⟩:=hm.form
  cases e
  have hA:=H.A
  have hT:=H.T
  have HB:=Hd H.bel
  have HM:Hid (∀ o r,MRd ((W.setB (w.heap.size+1) o).setB (w.heap.size+1+1) r) (.agg #[.slice a0 m.cells.length c0,.slice a1 m.rd.length c1,.slice a2 m.wr.length c2]) m):=fun o r=>(hm.ansBox HRD.out HWR.out hA o).touchBox ((World.setB_get _ _ _ _ (by omega)).trans hT) r
  have y1:=za hA
  have y2:=za hT
  have hc9:∀ i o r,((W.setB (w.heap.size+1) o).setB (w.heap.size+1+1) r).cell? ⟨b9,i,none⟩=(#[.slice a0 m.cells.length c0,.slice a1 m.rd.length c1,.slice a2 m.wr.length c2]:Array Value)[i]?:=fun i o r=>by
   rw [zb (((World.setB_get _ _ _ _ (by omega)).trans ((World.setB_get _ _ _ _ (by omega)).trans h9)))]
  have hc10:∀ i o r,((W.setB (w.heap.size+1) o).setB (w.heap.size+1+1) r).cell? ⟨b10,i,none⟩=(#[.int .i64 an.code,.int .i64 an.n,.string an.text]:Array Value)[i]?:=fun i o r=>by
   rw [zb (((World.setB_get _ _ _ _ (by omega)).trans ((World.setB_get _ _ _ _ (by omega)).trans h10)))]
  have z9:b9<W.heap.size:=za h9
  have z10:b10<W.heap.size:=za h10
  have p0:=fun o r=>hc9 0 o r
  have p1:=fun o r=>hc9 1 o r
  have p2:=fun o r=>hc9 2 o r
  have r0:=fun o r=>hc10 0 o r
  have r1:=fun o r=>hc10 1 o r
  have r2:=fun o r=>hc10 2 o r
  simp at p0 p1 p2 r0 r1 r2
  have e1:(W.setB (w.heap.size+1) (.cells #[.int .i64 0,.int .i64 0,.string ⟨#[]⟩] 30 (0,0))).setB (w.heap.size+1+1) (.cells #[.slice none 0 0,.slice none 0 0] 33 (0,0))=W:=by rw [ze hA,ze hT]
  rw [<- e1]
  clear e1 hA hT hc9 hc10 h9 h10 hm H hall k10 k11 hr
  (skip);repeat (first|go_skip|go_guarded|go_step|go_upon|go_back)
  go_region
  all_goals (repeat (first|go_skip|go_guarded|go_step|go_upon|go_back))
  all_goals (
   refine bodyPost_ret (by simp [results,Tryz.results22,go_sem,y1,y2];rfl) rfl ?_
   obtain ⟨u0,u1,u2,e,q0,q1,q2⟩:=HM.out (.cells #[.int .i64 an.code,.int .i64 an.n,.string an.text] 30 (0,0)) (.cells #[.slice a1 m.rd.length c1,.slice a2 m.wr.length c2] 33 (0,0))
   cases e
   exact ⟨_,_,_,rfl,⟨_,_,_,rfl,RdL.drew q0,RdL.drew q1,RdL.drew q2⟩,Below.drew (zo (zo HB.out (by omega) _) (by omega) _)⟩)
def RdF (n:Nat) (W:World) (v:Value) (xs:List ByteArray):Prop:=RdL zx W v xs/\∀ k,v.ownBlock=some k->n<=k
theorem RdF.below {n:Nat} {W W':World} {v:Value} {xs:List ByteArray} (h:RdF n W v xs) (hb:Below W.heap.size W W'):RdF n W' v xs:=⟨h.1.below hb,h.2⟩
section
variable {w:World} {va0 va1 vb0 vb1:Value} {a0 a1 b0 b1:List ByteArray} {L:Array Bool} {W W':World} {x5 x8 x9 x10 x11 x12 x13 x14 x15 x16:Value}
end
structure JL (w:World) (q:Nat) (vb0 vb1:Value) (b0 b1:List ByteArray) (W:World) (y z:Value) (a0 a1:List ByteArray):Prop where
 bel:Below w.heap.size w W
 P1:W.heap[w.heap.size+1]?=some (.cells #[vb0,vb1] 33 (0,0))
 P2:W.heap[w.heap.size+1+1]?=some (.cells #[.slice none 0 0,.slice none 0 0] 33 (0,0))
 Q:W.heap[q]?=some (.cells #[y,z] 33 (0,0))
 ry:RdF w.heap.size W y a0
 rz:RdF w.heap.size W z a1
 s0:RdL zx W vb0 b0
 s1:RdL zx W vb1 b1
theorem zlE (a0 a1:Option Addr) (n0 n1 c0 c1:Nat):∀ u ∈ (#[.slice a0 n0 c0,.slice a1 n1 c1]:Array Value),∀ s,u ≠ .string s:=by
 intro u hu s
 simp at hu
 rcases hu with rfl|rfl<;>simp
theorem zl2 {w:World} {q:Nat} {v:Value} {xs:List ByteArray} {X:Ext} {a0 a1:Option Addr} {n0 n1 c0 c1:Nat} (hq:q<w.heap.size) (h:RdL zx ((w.setB q (.cells #[.slice a0 n0 c0,.slice a1 n1 c1] 33 (0,0))).ext X) v xs) (o:Obj):RdL zx ((w.setB q o).ext X) v xs:=by
 have hg:((w.setB q (.cells #[.slice a0 n0 c0,.slice a1 n1 c1] 33 (0,0))).ext X).heap[q]?=some (.cells #[.slice a0 n0 c0,.slice a1 n1 c1] 33 (0,0)):=(World.ext_get _ X (by rw [zd];exact hq)).trans (World.setB_at _ _ _ hq)
 have h1:=zfl (zc _) h hg (zlE _ _ _ _ _ _) o
 rw [zay _ _ _ _ (by rw [zd];exact hq)] at h1
 have e:(w.setB q (.cells #[.slice a0 n0 c0,.slice a1 n1 c1] 33 (0,0))).setB q o=w.setB q o:=by simp [go_sem]
 rwa [e] at h1
theorem JL.all {w:World} {q:Nat} {vb0 vb1:Value} {b0 b1:List ByteArray} {W:World} {e0 e1:Option Addr} {n0 n1 d0 d1:Nat} {a0 a1:List ByteArray} (h:JL w q vb0 vb1 b0 b1 W (.slice e0 n0 d0) (.slice e1 n1 d1) a0 a1) (hq:w.heap.size+3<=q) (o:Obj) :
  Below w.heap.size w (W.setB q o)/\(W.setB q o).heap[w.heap.size+1]?=some (.cells #[vb0,vb1] 33 (0,0))/\(W.setB q o).heap[w.heap.size+1+1]?=some (.cells #[.slice none 0 0,.slice none 0 0] 33 (0,0))/\RdL zx (W.setB q o) (.slice e0 n0 d0) a0/\RdL zx (W.setB q o) (.slice e1 n1 d1) a1/\RdL zx (W.setB q o) vb0 b0/\RdL zx (W.setB q o) vb1 b1:=by
 have S:=fun {v:Value} {xs:List ByteArray} (hv:RdL zx W v xs)=>zfl (zc _) hv h.Q (zlE _ _ _ _ _ _) o
 exact ⟨zo h.bel (by omega) o,(World.setB_get _ _ _ _ (by omega)).trans h.P1,(World.setB_get _ _ _ _ (by omega)).trans h.P2,S h.ry.1,S h.rz.1,S h.s0,S h.s1⟩
theorem JL.laid {w:World} {q:Nat} {vb0 vb1:Value} {b0 b1:List ByteArray} {W:World} {e0 e1:Option Addr} {n0 n1 d0 d1:Nat} {a0 a1:List ByteArray} (h:JL w q vb0 vb1 b0 b1 W (.slice e0 n0 d0) (.slice e1 n1 d1) a0 a1) (hq:w.heap.size+3<=q) {X:Ext} {y z:Value} {c0 c1:List ByteArray}
  (hy:RdL zx ((W.setB q (.cells #[.slice e0 n0 d0,.slice e1 n1 d1] 33 (0,0))).ext X) y c0) (hz:RdL zx ((W.setB q (.cells #[.slice e0 n0 d0,.slice e1 n1 d1] 33 (0,0))).ext X) z c1) (fy:∀ k,y.ownBlock=some k->w.heap.size<=k) (fz:∀ k,z.ownBlock=some k->w.heap.size<=k) :
  JL w q vb0 vb1 b0 b1 ((W.setB q (.cells #[y,z] 33 (0,0))).ext X) y z c0 c1:=by
 have hs:=za h.Q
 have k:=h.all hq (.cells #[y,z] 33 (0,0))
 have G:=fun {j:Nat} {o:Obj} (hk:(W.setB q (.cells #[y,z] 33 (0,0))).heap[j]?=some o)=>(World.ext_get _ X (za hk)).trans hk
 exact ⟨k.1.ofExt X,G k.2.1,G k.2.2.1,G (World.setB_at _ _ _ hs),⟨zl2 hs hy _,fy⟩,⟨zl2 hs hz _,fz⟩,k.2.2.2.2.2.1.ext X,k.2.2.2.2.2.2.ext X⟩
def rAns:RowOf AnswerD:=⟨AnswerD.row,3,fun _=>rfl,fun d u hu=>by simp [AnswerD.row] at hu;rcases hu with rfl|rfl|rfl<;>rfl⟩
def zAns (k:Nat):List Value:=(List.replicate k [Value.int .i64 0,.int .i64 0,.string ⟨#[]⟩]).flatten
structure AnsIn (w:World) (B g cap:Nat) (xs:List AnswerD):Prop where
 base:B<=g
 le:xs.length<=cap
 mx:cap<=maxLen
 at_:w.heap[g]?=some (.cells (xs.flatMap rAns.row++zAns (cap - xs.length)).toArray 30 (0,0))
theorem AnsIn.below {w w':World} {B g cap:Nat} {xs:List AnswerD} (h:AnsIn w B g cap xs) (hb:Below w.heap.size w w'):AnsIn w' B g cap xs :=
 ⟨h.base,h.le,h.mx,(Grew.below hb g (za h.at_)).trans h.at_⟩
theorem AnsIn.setB {w:World} {B g cap:Nat} {xs:List AnswerD} (h:AnsIn w B g cap xs) {p:Nat} (hp:g ≠ p) (o:Obj):AnsIn (w.setB p o) B g cap xs :=
 ⟨h.base,h.le,h.mx,(World.setB_get _ _ _ _ hp).trans h.at_⟩
end Go.Proofs.YtpnoehpmgflibaaGreatDoor
