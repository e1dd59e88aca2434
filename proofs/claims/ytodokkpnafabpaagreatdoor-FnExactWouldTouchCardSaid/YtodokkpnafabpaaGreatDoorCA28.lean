/- Texts of this claim, merged: the walks and what they stand on. Each condition stands in its theorem. -/
import Derived.Test.YtodokkpnafabpaaGreatDoorCA27
set_option linter.unusedVariables false
set_option linter.unusedSimpArgs false
set_option maxRecDepth 100000
set_option maxHeartbeats 8000000
namespace Go.Proofs.YtodokkpnafabpaaGreatDoor
open Go.ChangeShapes Go.WideShapes Go.ChangeAt Go.RowKit
def zbw:RowOf AnswerD:=⟨AnswerD.row,3,fun _=>rfl,fun d u hu=>by simp [AnswerD.row] at hu;rcases hu with rfl|rfl|rfl<;>rfl⟩
def zcS (k:Nat):List Value:=(List.replicate k [Value.int .i64 0,.int .i64 0,.string ⟨#[]⟩]).flatten
theorem zgu (k:Nat):(zcS k).length=k*3:=by
 unfold zcS
 induction k with
 | zero=>rfl
 | succ k ih=>rw [List.replicate_succ,List.flatten_cons,List.length_append,ih];simp;omega
structure AnsIn (w:World) (B g cap:Nat) (xs:List AnswerD):Prop where
 base:B<=g
 le:xs.length<=cap
 mx:cap<=maxLen
 at_:w.heap[g]?=some (.cells (xs.flatMap zbw.row++zcS (cap - xs.length)).toArray 62 (0,0))
theorem AnsIn.rd {w:World} {B g cap:Nat} {xs:List AnswerD} (h:AnsIn w B g cap xs):RdL zbw w (.slice (some ⟨g,0,none⟩) xs.length cap) xs:=by
 refine .inr ⟨g,0,cap,rfl,h.le,h.mx,fun j u hj=>?_⟩
 rw [zd h.at_]
 rw [Nat.zero_add,List.getElem?_toArray,List.getElem?_append_left (List.getElem?_eq_some_iff.1 hj).1]
 exact hj
theorem AnsIn.below {w w':World} {B g cap:Nat} {xs:List AnswerD} (h:AnsIn w B g cap xs) (hb:Below w.heap.size w w'):AnsIn w' B g cap xs :=
 ⟨h.base,h.le,h.mx,(Grew.below hb g (za h.at_)).trans h.at_⟩
theorem AnsIn.setB {w:World} {B g cap:Nat} {xs:List AnswerD} (h:AnsIn w B g cap xs) {p:Nat} (hp:g ≠ p) (o:Obj):AnsIn (w.setB p o) B g cap xs :=
 ⟨h.base,h.le,h.mx,(World.setB_get _ _ _ _ hp).trans h.at_⟩
theorem zgv:∀ (k i:Nat) (u:Value),(zcS k)[i]?=some u->(i % 3 ≠ 2/\u=.int .i64 0) ∨ (i % 3=2/\u=.string ⟨#[]⟩)
 | 0,i,u,h=>by simp [zcS] at h
 | k+1,i,u,h=>by
  have e:zcS (k+1) = [Value.int .i64 0,.int .i64 0,.string ⟨#[]⟩]++zcS k:=by unfold zcS;rw [List.replicate_succ,List.flatten_cons]
  rw [e] at h
  by_cases hi:i<3
  ·rw [List.getElem?_append_left hi] at h
   have:i=0 ∨ i=1 ∨ i=2:=by omega
   rcases this with rfl|rfl|rfl<;>simp at h<;>subst h
   ·exact .inl ⟨by decide,rfl⟩
   ·exact .inl ⟨by decide,rfl⟩
   ·exact .inr ⟨rfl,rfl⟩
  ·rw [List.getElem?_append_right (by simp;omega)] at h
   have ih:=zgv k (i - 3) u (by simpa using h)
   have e2:(i - 3) % 3=i % 3:=by omega
   rwa [e2] at ih
theorem zaN (xs:List AnswerD):(xs.flatMap zbw.row).length=xs.length*3:=zbw.flat_len xs
theorem zje (k:Nat):zcS (k+1) = [Value.int .i64 0,.int .i64 0,.string ⟨#[]⟩]++zcS k:=by unfold zcS;rw [List.replicate_succ,List.flatten_cons]
theorem ziH {xs:List AnswerD} {x:AnswerD} {k i:Nat} {u:Value} (h:(xs.flatMap zbw.row++zcS (k+1))[i]?=some u):((xs ++ [x]).flatMap zbw.row++zcS k)[i]?=some u ∨ (xs.length*3<=i/\((i % 3 ≠ 2/\u=.int .i64 0) ∨ (i % 3=2/\u=.string ⟨#[]⟩))):=by
 by_cases hi:i<xs.length*3
 ·left
  rw [List.getElem?_append_left (by rw [zaN];exact hi)] at h
  rw [List.flatMap_append,List.append_assoc,List.getElem?_append_left (by rw [zaN];exact hi)]
  exact h
 ·right
  refine ⟨by omega,?_⟩
  rw [List.getElem?_append_right (by rw [zaN];omega),zaN] at h
  have h2:=zgv _ _ _ h
  have e:(i - xs.length*3) % 3=i % 3:=by omega
  rwa [e] at h2
theorem rd_upd {α : Type} {R:RowOf α} {w w':World} {v:Value} {ys:List α} {g:Nat} {t:TypeId} {xs:List AnswerD} {x:AnswerD} {k:Nat} (h:RdL R w v ys) (hg:w.grownBy w' (some g))
  (ho:w.heap[g]?=some (.cells (xs.flatMap zbw.row++zcS (k+1)).toArray t (0,0))) (hn:w'.heap[g]?=some (.cells ((xs ++ [x]).flatMap zbw.row++zcS k).toArray t (0,0)))
  (hk:∀ off,(∀ j u,(ys.flatMap R.row)[j]?=some u->(xs.flatMap zbw.row++zcS (k+1))[off+j]?=some u)->∀ j u,(ys.flatMap R.row)[j]?=some u->¬ (xs.length*3<=off+j/\(((off+j) % 3 ≠ 2/\u=.int .i64 0) ∨ ((off+j) % 3=2/\u=.string ⟨#[]⟩)))):RdL R w' v ys:=by
 rcases h with h|⟨b,off,cap,hv,h1,h2,h3⟩
 ·exact .inl h
 ·refine .inr ⟨b,off,cap,hv,h1,h2,fun j u hj=>?_⟩
  have hc:=h3 j u hj
  by_cases hb:b=g
  ·subst hb
   have h3':∀ j u,(ys.flatMap R.row)[j]?=some u->(xs.flatMap zbw.row++zcS (k+1))[off+j]?=some u:=fun j u hj=>by
    have:=h3 j u hj
    rw [zd ho] at this
    simpa using this
   rw [zd hn]
   rcases ziH (x:=x) (h3' j u hj) with hs|hs
   ·simpa using hs
   ·exact absurd hs (hk off h3' j u hj)
  ·have hlt:b<w.heap.size:=by
    unfold World.cell? at hc
    cases hw:w.heap[b]? with
    | none=>simp [hw] at hc
    | some o=>exact za hw
   rw [World.cell?_of_block (w:=w) (w':=w') (a:=⟨b,off+j,none⟩) (hg.block b hlt (by simpa using hb))]
   exact hc
theorem rd_updS {w w':World} {v:Value} {ys:List ByteArray} {g:Nat} {t:TypeId} {xs:List AnswerD} {x:AnswerD} {k:Nat} (hn0:∀ s ∈ ys,s.size ≠ 0) (h:RdL zx w v ys) (hg:w.grownBy w' (some g))
  (ho:w.heap[g]?=some (.cells (xs.flatMap zbw.row++zcS (k+1)).toArray t (0,0))) (hn:w'.heap[g]?=some (.cells ((xs ++ [x]).flatMap zbw.row++zcS k).toArray t (0,0))):RdL zx w' v ys:=by
 refine rd_upd h hg ho hn fun off _ j u hj=>?_
 rintro ⟨_,⟨_,rfl⟩|⟨_,rfl⟩⟩
 ·obtain ⟨s,hs⟩:=zb ys _ (List.mem_of_getElem? hj)
  cases hs
 ·obtain ⟨s,hs,hu⟩:=List.mem_flatMap.1 (List.mem_of_getElem? hj)
  simp [zx] at hu
  exact hn0 s hs (by rw [<- hu];rfl)
theorem rd_updC {w w':World} {v:Value} {ys:List CellD} {g:Nat} {t:TypeId} {xs:List AnswerD} {x:AnswerD} {k:Nat} (h:RdL zu w v ys) (hg:w.grownBy w' (some g))
  (ho:w.heap[g]?=some (.cells (xs.flatMap zbw.row++zcS (k+1)).toArray t (0,0))) (hn:w'.heap[g]?=some (.cells ((xs ++ [x]).flatMap zbw.row++zcS k).toArray t (0,0))):RdL zu w' v ys:=by
 have hlen:(ys.flatMap zu.row).length=ys.length*2:=zu.flat_len ys
 refine rd_upd h hg ho hn fun off h3 j u hj=>?_
 rintro ⟨hge,hh⟩
 have hst:=fun j u (hj:(ys.flatMap zu.row)[j]?=some u)=>zh ys _ (List.mem_of_getElem? hj)
 rcases hh with ⟨_,rfl⟩|⟨hm,_⟩
 ·obtain ⟨s,hs⟩:=hst _ _ hj
  cases hs
 ·have hjl:=(List.getElem?_eq_some_iff.1 hj).1
  have other:∀ i u,(ys.flatMap zu.row)[i]?=some u->xs.length*3<=off+i->(off+i) % 3=2:=fun i u hi hgi=>by
   rcases ziH (x:=x) (h3 i u hi) with _|⟨_,h5⟩
   ·have h6:=h3 i u hi
    rw [List.getElem?_append_right (by rw [zaN];omega),zaN] at h6
    rcases zgv _ _ _ h6 with ⟨_,rfl⟩|⟨h7,_⟩
    ·obtain ⟨s,hs⟩:=hst _ _ hi
     cases hs
    ·omega
   ·rcases h5 with ⟨_,rfl⟩|⟨h7,_⟩
    ·obtain ⟨s,hs⟩:=hst _ _ hi
     cases hs
    ·exact h7
  by_cases hp:j % 2=0
  ·have hj1:j+1<(ys.flatMap zu.row).length:=by omega
   have:=other (j+1) _ (List.getElem?_eq_getElem hj1) (by omega)
   omega
  ·have hj1:j - 1<(ys.flatMap zu.row).length:=by omega
   by_cases hg2:xs.length*3<=off+(j - 1)
   ·have:=other (j - 1) _ (List.getElem?_eq_getElem hj1) hg2
    omega
   ·omega
structure Keeps (w w':World) (g:Nat):Prop where
 grown:w.grownBy w' (some g)
 strs:∀ v ys,(∀ s ∈ ys,s.size ≠ 0)->RdL zx w v ys->RdL zx w' v ys
 cells:∀ v ys,RdL zu w v ys->RdL zu w' v ys
theorem zd7:Elem Tryz.prog 41 62 3 32:=Elem.of (.agg #[.int .i64 0,.int .i64 0,.string ⟨#[]⟩]) Tryz.underlying41 (by kernel_rfl) rfl (by decide)
theorem Tryz.zeroAns:(Tryz.prog.info? 62).map (·.zero)=some (some (.agg #[.int .i64 0,.int .i64 0,.string ⟨#[]⟩])):=by kernel_rfl
theorem zgt (n:Nat):(Builtin.zeroCells (Value.agg #[.int .i64 0,.int .i64 0,.string ⟨#[]⟩]).cells n).toList=zcS n:=by
 apply List.ext_getElem?
 intro i
 have hc:(Value.agg #[.int .i64 0,.int .i64 0,.string ⟨#[]⟩]).cells=#[.int .i64 0,.int .i64 0,.string ⟨#[]⟩]:=rfl
 rw [hc]
 unfold Builtin.zeroCells
 by_cases hi:i<n*3
 ·have h1:i<(zcS n).length:=by rw [zgu];exact hi
  rw [List.getElem?_eq_getElem h1]
  have h2:=zgv n i _ (List.getElem?_eq_getElem h1)
  have hm:i % 3=0 ∨ i % 3=1 ∨ i % 3=2:=by omega
  rcases h2 with ⟨h3,h4⟩|⟨h3,h4⟩
  ·rw [h4]
   rcases hm with hm|hm|hm
   ·simp [hi,hm]
   ·simp [hi,hm]
   ·exact absurd hm h3
  ·rw [h4]
   simp [hi,h3]
 ·rw [List.getElem?_eq_none (show (zcS n).length<=i by rw [zgu];omega)]
  rw [List.getElem?_eq_none]
  simp
  omega
theorem zkd {w:World} {B g cap:Nat} {xs:List AnswerD} {ty:TypeId} (h:AnsIn w B g cap xs) (x:AnswerD) {v:Value} (hx:RdL zbw w v [x]) (hl:(xs.length+1)*32<=140737488355328) (hB:B<=w.heap.size) :
  ∃ g' cap' w',(Builtin.append_ #[41,41] ty #[.slice (some ⟨g,0,none⟩) xs.length cap,v]).run Tryz.prog w=.ok (.slice (some ⟨g',0,none⟩) (xs.length+1) cap') w'/\AnsIn w' B g' cap' (xs ++ [x])/\Keeps w w' g:=by
 have E:=zd7
 obtain ⟨i,z,hi,hz,hs,hby,hzs⟩:=E.hi
 have hze:z=.agg #[.int .i64 0,.int .i64 0,.string ⟨#[]⟩]:=by
  have:=Tryz.zeroAns
  rw [hi] at this
  simp only [Option.map_some,Option.some.injEq] at this
  rw [hz] at this
  exact Option.some.inj this
 subst hze
 have hxl:([x].flatMap zbw.row).length=1*i.size:=by rw [hs];rfl
 have hbx:=hx
 rcases hx with ⟨_,h1,_⟩|⟨b,off,c,rfl,_,_,hc⟩
 ·cases h1
 have hnews:∀ j u,([x].flatMap zbw.row)[j]?=some u->w.cell? ((⟨b,off,none⟩ : Addr).add j)=some u:=fun j u hj=>by rw [zby];exact hc j u hj
 have hfl:=zaN xs
 by_cases hroom:xs.length+1<=cap
 ·obtain ⟨k,hk⟩ : ∃ k,cap - xs.length=k+1:=⟨cap - xs.length - 1,by omega⟩
  have hat:=h.at_
  rw [hk] at hat
  have hsz:(xs.flatMap zbw.row++zcS (k+1)).toArray.size=xs.length*3+(k+1)*3:=by
   rw [List.size_toArray,List.length_append,hfl,zgu]
  have hr:=run_append_room (P:=Tryz.prog) w 41 ty 62 i E.ht hi g xs.length cap _ hat ⟨b,off,none⟩ 1 c ([x].flatMap zbw.row) hxl hnews (zbw.flat_one [x]) hroom (by rw [hsz,hxl,hs];omega)
  have hcur:((xs.flatMap zbw.row++zcS (k+1)).toArray.toList.take (xs.length*i.size) ++ [x].flatMap zbw.row++(xs.flatMap zbw.row++zcS (k+1)).toArray.toList.drop (xs.length*i.size+([x].flatMap zbw.row).length))=(xs ++ [x]).flatMap zbw.row++zcS k:=by
   rw [hxl,hs,zje]
   have e1:xs.length*3=(xs.flatMap zbw.row).length:=hfl.symm
   have e3:([Value.int .i64 0,.int .i64 0,.string ⟨#[]⟩]:List Value).length=1*3:=rfl
   rw [List.flatMap_append,e1,List.take_left,<- List.append_assoc (xs.flatMap zbw.row),List.drop_left' (by rw [List.length_append,e3])]
  rw [hcur] at hr
  have hn:=setRow_heap w g (xs.flatMap zbw.row++zcS (k+1)).toArray ((xs ++ [x]).flatMap zbw.row++zcS k).toArray 62 (0,0) hat
  have hgr:w.grownBy (w.setRow g ((xs ++ [x]).flatMap zbw.row++zcS k).toArray) (some g):=by
   refine ⟨rfl,rfl,rfl,by simp [World.setRow],fun j hj hne=>?_⟩
   have:g ≠ j:=fun e=>hne (by rw [e])
   simp [World.setRow,Array.getElem?_modify,this]
  refine ⟨g,cap,_,hr,⟨h.base,by simp;omega,h.mx,?_⟩,⟨hgr,fun v ys hn0 hv=>rd_updS hn0 hv hgr hat hn,fun v ys hv=>rd_updC hv hgr hat hn⟩⟩
  have e2:cap - (xs ++ [x]).length=k:=by simp;omega
  rw [e2]
  exact hn
 ·have hcap:cap=xs.length:=by have:=h.le;omega
  have holds:∀ j u,(xs.flatMap zbw.row)[j]?=some u->w.cell? ((⟨g,0,none⟩ : Addr).add j)=some u:=fun j u hj=>by
   rw [zby,zd h.at_]
   rw [Nat.zero_add,List.getElem?_toArray,List.getElem?_append_left (List.getElem?_eq_some_iff.1 hj).1]
   exact hj
  have hr:=run_append_grow (P:=Tryz.prog) w 41 ty 62 i _ E.ht hi hz ⟨g,0,none⟩ xs.length cap (xs.flatMap zbw.row) (by rw [hfl,hs]) holds ⟨b,off,none⟩ 1 c ([x].flatMap zbw.row) hxl hnews (by omega) (by omega) (growslice_fits (by omega) (by rw [hby];omega))
  have hge:=grownCap_ge w (xs.length+1) cap 62
  have hmx:=grownCap_le_maxLen w (xs.length+1) cap 62 (by unfold maxLen;omega)
  generalize grownCap w (xs.length+1) cap 62=cap' at hr hge hmx
  have hA:(xs.flatMap zbw.row).toArray++([x].flatMap zbw.row).toArray++Builtin.zeroCells (Value.agg #[.int .i64 0,.int .i64 0,.string ⟨#[]⟩]).cells (cap' - (xs.length+1))=((xs ++ [x]).flatMap zbw.row++zcS (cap' - (xs ++ [x]).length)).toArray:=by
   apply Array.toList_inj.1
   rw [Array.toList_append,Array.toList_append,zgt,List.flatMap_append,List.length_append,List.length_singleton]
  rw [hA] at hr
  have hb:Below w.heap.size w (w.drew.alloc (.cells ((xs ++ [x]).flatMap zbw.row++zcS (cap' - (xs ++ [x]).length)).toArray 62)):=Below.ofAlloc (Below.drew (Below.refl _ _)) _
  have hn:=heap_alloc_new w.drew (.cells ((xs ++ [x]).flatMap zbw.row++zcS (cap' - (xs ++ [x]).length)).toArray 62)
  have hle:(xs ++ [x]).length<=cap':=by rw [List.length_append,List.length_singleton];exact hge
  exact ⟨w.heap.size,cap',_,hr,⟨hB,hle,hmx,hn⟩,⟨⟨hb.os,hb.tape,hb.output,hb.size,fun j hj _=>hb.block j hj⟩,fun v ys _ hv=>hv.below hb,fun v ys hv=>hv.below hb⟩⟩
theorem ziP {w:World} {B g cap:Nat} {xs:List AnswerD} {ops:Array Oper} {rest:List Oper} {o:Oper} {a:Act} {Q:Exit->Act->World->Prop} (hgd:o.guard=none) (s x:Operand)
  (ho:o.op=.call { callee:=.builtin .append,args:=#[s,x],argTypes:=#[41,41] }) (h:AnsIn w B g cap xs) (hs:a.eval s=.slice (some ⟨g,0,none⟩) xs.length cap)
  {vx:Value} {y:AnswerD} (hx:RdL zbw w vx [y]) (hvx:a.eval x=vx) (hl:(xs.length+1)*32<=140737488355328) (hB:B<=w.heap.size)
  (hk:∀ g' cap' w',AnsIn w' B g' cap' (xs ++ [y])->Keeps w w' g->wpList Tryz.prog ops Q rest (a.put o.dst (.slice (some ⟨g',0,none⟩) (xs.length+1) cap')) w'):wpList Tryz.prog ops Q (o :: rest) a w:=by
 refine wpList_plain hgd fun K hK=>?_
 obtain ⟨g',cap',w',hr,h2,h3⟩:=zkd (ty:=o.type) h y hx hl hB
 unfold Oper.wp execOp
 simp only [ho,resolve,invoke,builtin,Sem.run_bind,Sem.run_pure,Result.andThen_ok,List.map_toArray,List.map_cons,List.map_nil,hs,hvx,hr]
 exact hK _ _ (hk g' cap' w' h2 h3)
end Go.Proofs.YtodokkpnafabpaaGreatDoor
