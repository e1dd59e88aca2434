/- Texts of this claim, merged: the walks and what they stand on. Each condition stands in its theorem. -/
import Derived.Lib.AppendIntMem
import Derived.Lib.AppendStr
import Derived.Lib.AtoiAllCases
import Derived.Lib.FrozenHead
import Derived.Lib.HexFns
import Derived.Lib.ItoaNum
import Derived.Lib.ShelfFacts
import Derived.Test.YtpnoehpmgflibaaGreatDoorCA3
set_option linter.unusedVariables false
set_option linter.unusedSimpArgs false
set_option maxRecDepth 100000
set_option maxHeartbeats 8000000
namespace Go
open Go.ChangeShapes Go.WideShapes Go.ChangeAt Go.RowKit
theorem zW (l:List UInt8):(zL l).length=l.length:=by simp [zL]
theorem zd6 (l m:List UInt8):zL (l++m)=zL l++zL m:=by simp [zL]
theorem zkd (l:List UInt8):∀ u ∈ zL l,u.oneCell'=true:=by
 intro u hu
 simp only [zL,List.mem_map] at hu
 obtain ⟨c,_,rfl⟩:=hu
 rfl
theorem zmp (l:List UInt8):l.flatMap zde.row=zL l:=by
 induction l with
 | nil=>rfl
 | cons c l ih =>
  rw [List.flatMap_cons,ih]
  rfl
def MarkOk (fz:Nat × Nat) (n:Nat):Prop:=fz=(0,0) ∨ n<=fz.1
def OwnB (e:TypeId) (w:World) (B:Nat) (v:Value) (l:List UInt8):Prop :=
 (v=.slice none 0 0/\l = []) ∨
 ∃ g cap cur fz,v=.slice (some ⟨g,0,none⟩) l.length cap/\B<=g/\w.heap[g]?=some (.cells cur e fz)/\MarkOk fz cur.size/\l.length<=cap/\cap<=maxLen/\cur.size=cap/\cur.toList.take l.length=zL l
theorem zcu (P:Program) (g o:Nat) (t:TypeId) (fz:Nat × Nat):∀ (vs:List Value) (i:Nat) (cur:Array Value) (w:World),w.heap[g]?=some (.cells cur t fz)->MarkOk fz cur.size->o+i+vs.length<=cur.size->(∀ v ∈ vs,v.oneCell'=true) ->
  (storeCells ⟨g,o,none⟩ vs i).run P w=.ok () (w.setRow g (cur.toList.take (o+i)++vs++cur.toList.drop (o+i+vs.length)).toArray)
 | [],i,cur,w,hg,_,_,_=>by
  simp only [storeCells,List.append_nil,List.length_nil,Nat.add_zero,List.take_append_drop,Array.toArray_toList]
  rw [setRow_self w g cur t fz hg]
  rfl
 | v :: rest,i,cur,w,hg,hfz,hl,h1=>by
  have hi:o+i<cur.size:=by simp at hl;omega
  have hadd:(⟨g,o,none⟩ : Addr).add i=⟨g,o+i,none⟩:=by unfold Addr.add;split<;>simp_all
  have hcell:w.cell? ⟨g,o+i,none⟩=some cur[o+i]:=by simp [World.cell?,hg,hi]
  have hfro:w.frozen? ⟨g,o+i,none⟩=false:=by
   rcases hfz with rfl|hfz
   ·simp [World.frozen?,hg]
   ·obtain ⟨lo,hi'⟩:=fz
    simp only [World.frozen?,hg,Bool.and_eq_false_iff,decide_eq_false_iff_not]
    left
    simp only at hfz
    omega
  have hst:(store ((⟨g,o,none⟩ : Addr).add i) v).run P w=.ok () (w.setRow g (cur.setIfInBounds (o+i) v)):=by
   rw [hadd,run_store P w _ v _ (h1 v (by simp)),hcell]
   simp [hfro,setCell_eq_setRow w g (o+i) cur t fz v hg]
  have ih:=zcu P g o t fz rest (i+1) (cur.setIfInBounds (o+i) v) (w.setRow g (cur.setIfInBounds (o+i) v)) (setRow_heap w g cur _ t _ hg) (by simpa using hfz) (by simp at hl ⊢;omega) (fun x hx=>h1 x (by simp [hx]))
  simp only [storeCells,Sem.run_bind,hst,Result.andThen_ok,ih,setRow_setRow]
  congr 3
  have e:=list_seg_step cur.toList (o+i) v rest (by simp at hl ⊢;omega)
  simpa [Array.toList_setIfInBounds,Nat.add_assoc] using e
section
variable {e:TypeId} {w:World} {B:Nat} {v:Value} {l:List UInt8}
theorem zkR (h:OwnL zde e w B v l):OwnB e w B v l:=by
 have hf:=zmp l
 rcases h.2 with ⟨hv,hn⟩|⟨g,cap,cur,hv,hb,hg,hnc,hcm,hcs,ht⟩
 ·exact .inl ⟨hv,List.eq_nil_of_length_eq_zero hn⟩
 ·refine .inr ⟨g,cap,cur,(0,0),hv,hb,hg,.inl rfl,hnc,hcm,by simpa [zde] using hcs,?_⟩
  rw [hf] at ht
  simpa [zde] using ht
theorem OwnB.empty (e:TypeId) (w:World):OwnB e (w.alloc (.cells #[] e)) w.heap.size (.slice (some ⟨w.heap.size,0,none⟩) 0 0) []:=zkR (OwnL.empty zde e w)
theorem OwnB.nil (e:TypeId) (w:World) (B:Nat):OwnB e w B (.slice none 0 0) []:=.inl ⟨rfl,rfl⟩
theorem OwnB.lt (h:OwnB e w B v l):∀ k,v.ownBlock=some k->B<=k/\k<w.heap.size:=by
 intro k hk
 rcases h with ⟨rfl,_⟩|⟨g,cap,cur,fz,rfl,hb,hg,_⟩
 ·simp [Value.ownBlock] at hk
 ·simp [Value.ownBlock] at hk
  subst hk
  exact ⟨hb,(Array.getElem?_eq_some_iff.1 hg).1⟩
theorem OwnB.base {B':Nat} (h:OwnB e w B v l) (hb:B'<=B):OwnB e w B' v l:=by
 rcases h with hn|⟨g,cap,cur,fz,hv,h1,rest⟩
 ·exact .inl hn
 ·exact .inr ⟨g,cap,cur,fz,hv,Nat.le_trans hb h1,rest⟩
theorem OwnB.kept {w':World} {row:Option Nat} (h:OwnB e w B v l) (hg:w.grownBy w' row) (hne:v.ownBlock=none ∨ v.ownBlock ≠ row):OwnB e w' B v l:=by
 rcases h with hn|⟨g,cap,cur,fz,rfl,h1,h2,rest⟩
 ·exact .inl hn
 ·refine .inr ⟨g,cap,cur,fz,rfl,h1,?_,rest⟩
  rw [hg.block g (Array.getElem?_eq_some_iff.1 h2).1 (by simpa [Value.ownBlock] using hne)]
  exact h2
theorem OwnB.ext (h:OwnB e w B v l) (X:Ext):OwnB e (w.ext X) B v l:=by
 rcases h with hn|⟨g,cap,cur,fz,rfl,h1,h2,rest⟩
 ·exact .inl hn
 ·exact .inr ⟨g,cap,cur,fz,rfl,h1,(w.ext_get X (Array.getElem?_eq_some_iff.1 h2).1).trans h2,rest⟩
theorem OwnB.same {bs:Array Obj} {d0 dr:Nat} (h:OwnB e (w.ext ⟨bs,d0⟩) B v l):OwnB e (w.ext ⟨bs,dr⟩) B v l:=by
 have:=h.ext ⟨#[],dr⟩
 rwa [zp,Array.append_empty] at this
theorem OwnB.alloc (h:OwnB e w B v l) (o:Obj):OwnB e (w.alloc o) B v l :=
 h.kept (World.grownBy_alloc w o none) (by cases hv:v.ownBlock<;>simp)
theorem OwnB.drew (h:OwnB e w B v l):OwnB e w.drew B v l:=h
theorem OwnB.below {w':World} (h:OwnB e w B v l) (hb:Below w.heap.size w w'):OwnB e w' B v l:=by
 obtain ⟨X,rfl⟩:=hb.ext
 exact h.ext X
theorem OwnB.form (h:OwnB e w B v l):∃ ao cap,v=.slice ao l.length cap:=by
 rcases h with ⟨rfl,rfl⟩|⟨g,cap,cur,fz,rfl,_⟩
 ·exact ⟨none,0,rfl⟩
 ·exact ⟨_,_,rfl⟩
theorem OwnB.sl (h:OwnB e w B v l):Sl w v l.length (zL l):=by
 rcases h with ⟨rfl,rfl⟩|⟨g,cap,cur,fz,rfl,hb,hg,_,hnc,hcm,hcs,ht⟩
 ·exact .inl ⟨rfl,rfl,rfl⟩
 ·refine .inr ⟨g,0,cap,rfl,hnc,hcm,fun j u hj=>?_⟩
  have hl:j<l.length:=by
   have:=(List.getElem?_eq_some_iff.1 hj).1
   rwa [zW] at this
  rw [<- ht,List.getElem?_take,if_pos hl] at hj
  simp only [World.cell?,hg,Nat.zero_add]
  simpa using hj
theorem OwnB.ofString (e:TypeId) (w:World) (s:ByteArray) (hs:s.size<=9223372036854775807):OwnB e (w.alloc (.cells (bytesRow s (grownCap w s.size 0 e)) e ((bytesRow s (grownCap w s.size 0 e)).size,(bytesRow s (grownCap w s.size 0 e)).size+1))) w.heap.size (.slice (some ⟨w.heap.size,0,none⟩) s.size (grownCap w s.size 0 e)) s.data.toList:=by
 have hge:=grownCap_ge w s.size 0 e
 have hle:=grownCap_le_maxLen w s.size 0 e (by unfold maxLen;exact hs)
 have hsz:s.data.toList.length=s.size:=by simp
 generalize grownCap w s.size 0 e=cap at *
 refine .inr ⟨w.heap.size,cap,_,_,by rw [hsz],Nat.le_refl _,heap_alloc_new w _,.inr (Nat.le_refl _),by omega,hle,?_,?_⟩
 ·have h2:s.data.size=s.size:=rfl
  simp only [bytesRow,Array.size_append,Array.size_map,Array.size_replicate,h2]
  omega
 ·unfold bytesRow zL
  rw [Array.toList_append,List.take_append_of_le_length (by simp)]
  rw [List.take_of_length_le (by simp)]
  simp
end
section
variable {P:Program} (w:World)
theorem run_appB (t ty e:TypeId) (i:TypeInfo) (ht:P.underlying t=some (.slice e)) (hi:P.info? e=some i) (hz:i.zero=some (.int .u8 0)) (hsize:i.size=1) (hby:i.bytes=1)
  {B:Nat} {v:Value} {l:List UInt8} (hown:OwnB e w B v l) {x:Value} {m:List UInt8} (hx:Sl w x m.length (zL m))
  (h63:l.length+m.length<=maxLen) (hbytes:l.length+m.length<=140737488355328) (hbase:B<=w.heap.size) :
  ∃ v' w',(Builtin.append_ #[t,t] ty #[v,x]).run P w=.ok v' w'/\OwnB e w' B v' (l++m)/\w.grownBy w' v.ownBlock:=by
 have hsmall:l.length+m.length<=9223372036854775807:=by simp only [maxLen] at h63;omega
 have grown:∀ (old:Nat),old<l.length+m.length->∀ (row:Option Nat),
   OwnB e (w.drew.alloc (.cells ((zL l).toArray++(zL m).toArray++Builtin.zeroCells (Value.int IntKind.u8 0).cells (grownCap w (l.length+m.length) old e - (l.length+m.length))) e)) B
    (.slice (some ⟨w.heap.size,0,none⟩) (l.length+m.length) (grownCap w (l.length+m.length) old e)) (l++m) /\
   w.grownBy (w.drew.alloc (.cells ((zL l).toArray++(zL m).toArray++Builtin.zeroCells (Value.int IntKind.u8 0).cells (grownCap w (l.length+m.length) old e - (l.length+m.length))) e)) row:=by
  intro old ho row
  have hge:=grownCap_ge w (l.length+m.length) old e
  have hcm:grownCap w (l.length+m.length) old e<=maxLen:=grownCap_le_maxLen w (l.length+m.length) old e h63
  refine ⟨.inr ⟨w.heap.size,_,_,(0,0),by rw [List.length_append],hbase,heap_alloc_new w.drew _,.inl rfl,by rw [List.length_append];exact hge,hcm,?_,?_⟩,⟨rfl,rfl,rfl,by simp,fun k hk _=>(World.grownBy_alloc w.drew _ none).block k hk (by simp)⟩⟩
  ·have hz1:(Value.int IntKind.u8 0).cells.size=1:=rfl
   simp only [Array.size_append,List.size_toArray,size_zeroCells,hz1,zW]
   omega
  ·simp only [Array.toList_append]
   rw [zd6,List.take_append_of_le_length (by simp [zW]),List.take_of_length_le (by simp [zW])]
 have hempty:∀ (ao:Option Addr) (n c:Nat),(Builtin.firstCells 1 0 (.slice ao n c)).run P w=.ok #[] w:=by
  intro ao n c
  cases ao with
  | none=>simp [Builtin.firstCells]
  | some a =>
   have:=run_firstCells_some (P:=P) w 1 0 a n c [] rfl (fun j u hj=>by simp at hj)
   simpa using this
 rcases hx with ⟨rfl,hm0,_⟩|⟨bx,ox,cx,rfl,hmc,hcx,hcells⟩
 ·-- nothing to append
  have hm:m = []:=List.eq_nil_of_length_eq_zero hm0
  subst hm
  rcases hown with ⟨rfl,rfl⟩|⟨g,cap,cur,fz,rfl,hbg,hg,hfz,hnc,hcm,hcs,htake⟩
  ·refine ⟨.slice none 0 0,w,?_,by simpa using OwnB.nil e w B,⟨rfl,rfl,rfl,Nat.le_refl _,fun _ _ _=>rfl⟩⟩
   simp [Builtin.append_,run_underlying ht,sizeOf,typeInfo,hi,Builtin.lenOf,Builtin.firstCells,loadCells,loadCellsFrom]
  ·refine ⟨_,w,?_,by rw [List.append_nil];exact .inr ⟨g,cap,cur,fz,rfl,hbg,hg,hfz,hnc,hcm,hcs,htake⟩,⟨rfl,rfl,rfl,Nat.le_refl _,fun _ _ _=>rfl⟩⟩
   simp [Builtin.append_,run_underlying ht,sizeOf,typeInfo,hi,Builtin.lenOf,hnc,Builtin.firstCells,storeCells]
 ·have hnews:∀ j u,(zL m)[j]?=some u->w.cell? ((⟨bx,ox,none⟩ : Addr).add j)=some u:=fun j u hj=>by rw [zdO];exact hcells j u hj
  rcases hown with ⟨rfl,rfl⟩|⟨g,cap,cur,fz,rfl,hbg,hg,hfz,hnc,hcm,hcs,htake⟩
  ·by_cases hm:m.length=0
   ·have hme:m = []:=List.eq_nil_of_length_eq_zero hm
    subst hme
    refine ⟨.slice none 0 0,w,?_,by simpa using OwnB.nil e w B,⟨rfl,rfl,rfl,Nat.le_refl _,fun _ _ _=>rfl⟩⟩
    simp [Builtin.append_,run_underlying ht,sizeOf,typeInfo,hi,hsize,Builtin.lenOf,hempty,loadCells,loadCellsFrom]
   ·have hr:=run_append_nil (P:=P) w t ty e i _ ht hi hz ⟨bx,ox,none⟩ m.length cx (zL m) (by rw [zW,hsize,Nat.mul_one]) hnews (by omega) (by simp at hsmall;omega) (by rw [hby];simp at hbytes;omega)
    have hgr:=grown 0 (by simp;omega) (Value.ownBlock (.slice none 0 0))
    simp only [List.length_nil,Nat.zero_add,List.nil_append] at hgr ⊢
    refine ⟨_,_,hr,?_,?_⟩
    ·simpa [zL] using hgr.1
    ·simpa [zL] using hgr.2
  ·by_cases hroom:l.length+m.length<=cap
   ·have hf:=run_firstCells_some (P:=P) w i.size m.length ⟨bx,ox,none⟩ m.length cx (zL m) (by rw [zW,hsize,Nat.mul_one]) hnews
    have hst:=zcu P g l.length e fz (zL m) 0 cur w hg hfz (by rw [zW];omega) (zkd m)
    simp only [Nat.add_zero,zW] at hst
    refine ⟨.slice (some ⟨g,0,none⟩) (l.length+m.length) cap,w.setRow g (cur.toList.take l.length++zL m++cur.toList.drop (l.length+m.length)).toArray,?_,.inr ⟨g,cap,_,fz,by rw [List.length_append],hbg,setRow_heap w g cur _ e _ hg,?_,by rw [List.length_append];exact hroom,hcm,?_,?_⟩,⟨rfl,rfl,rfl,by simp,fun k _ hk=>setRow_other w g k _ (fun e=>hk (by simp [Value.ownBlock,e]))⟩⟩
    ·rw [hsize] at hf
     simp [Builtin.append_,run_underlying ht,sizeOf,typeInfo,hi,hsize,Builtin.lenOf,hroom,hf,Addr.add_lit,hst]
    ·have hsz:(cur.toList.take l.length++zL m++cur.toList.drop (l.length+m.length)).toArray.size=cur.size:=by
      simp only [List.size_toArray,List.length_append,List.length_take,List.length_drop,Array.length_toList,zW]
      omega
     rw [hsz]
     exact hfz
    ·simp only [List.size_toArray,List.length_append,List.length_take,List.length_drop,Array.length_toList,zW]
     omega
    ·rw [htake,zd6,List.take_append_of_le_length (by simp [zW]),List.take_of_length_le (by simp [zW])]
   ·have holds:∀ j u,(zL l)[j]?=some u->w.cell? ((⟨g,0,none⟩ : Addr).add j)=some u:=by
     intro j u hj
     rw [zdO]
     have hl:j<l.length:=by
      have:=(List.getElem?_eq_some_iff.1 hj).1
      rwa [zW] at this
     rw [<- htake,List.getElem?_take,if_pos hl] at hj
     simp only [World.cell?,hg,Nat.zero_add]
     simpa using hj
    have hr:=run_append_grow (P:=P) w t ty e i _ ht hi hz ⟨g,0,none⟩ l.length cap (zL l) (by rw [zW,hsize,Nat.mul_one]) holds ⟨bx,ox,none⟩ m.length cx (zL m) (by rw [zW,hsize,Nat.mul_one]) hnews (by omega) (by omega) (by rw [hby];exact growslice_fits (by omega) (by omega))
    have hgr:=grown cap (by omega) (Value.ownBlock (.slice (some ⟨g,0,none⟩) l.length cap))
    exact ⟨_,_,hr,hgr.1,hgr.2⟩
structure ByteT (P:Program) (t e:TypeId):Prop where
 sl:P.underlying t=some (.slice e)
 el:P.underlying e=some (.int .u8)
 inf:∃ i:TypeInfo,P.info? e=some i/\i.zero=some (.int .u8 0)/\i.size=1/\i.bytes=1
theorem ByteT.of {t e:TypeId} (h1:P.underlying t=some (.slice e)) (h2:P.underlying e=some (.int .u8)) (h:(P.info? e).map (fun i=>(i.zero,i.size,i.bytes))=some (some (.int .u8 0),1,1)):ByteT P t e:=by
 refine ⟨h1,h2,?_⟩
 cases hi:P.info? e with
 | none=>rw [hi] at h;simp at h
 | some i =>
  rw [hi] at h
  simp at h
  exact ⟨i,rfl,h.1,h.2.1,h.2.2⟩
theorem zlz {t e:TypeId} (E:ByteT P t e) {o:Oper} {a:Act} {K:Act->World->Prop} {Q:Exit->Act->World->Prop} (s x:Operand)
  (ho:o.op=.call { callee:=.builtin .append,args:=#[s,x],argTypes:=#[t,t] })
  {B:Nat} {v:Value} {l:List UInt8} (hown:OwnB e w B v l) (hs:a.eval s=v)
  {vx:Value} {m:List UInt8} (hx:Sl w vx m.length (zL m)) (hvx:a.eval x=vx) (hb:l.length+m.length<=140737488355328) (hbase:B<=w.heap.size)
  (h:∀ v' w',OwnB e w' B v' (l++m)->w.grownBy w' v.ownBlock->K (a.put o.dst v') w'):o.wp P a w K Q:=by
 obtain ⟨i,h1,h2,h3,h4⟩:=E.inf
 obtain ⟨v',w',hr,h5,h6⟩:=run_appB (P:=P) w t o.type e i E.sl h1 h2 h3 h4 hown hx (by unfold maxLen;omega) hb hbase
 unfold Oper.wp execOp
 simp only [ho,resolve,invoke,builtin,Sem.run_bind,Sem.run_pure,Result.andThen_ok,List.map_toArray,List.map_cons,List.map_nil,hs,hvx,hr]
 exact h v' w' h5 h6
theorem zcZ {t e:TypeId} (E:ByteT P t e) {ops:Array Oper} {rest:List Oper} {o:Oper} {a:Act} {Q:Exit->Act->World->Prop} (hgd:o.guard=none) (s x:Operand)
  (ho:o.op=.call { callee:=.builtin .append,args:=#[s,x],argTypes:=#[t,t] })
  {B:Nat} {v:Value} {l:List UInt8} (hown:OwnB e w B v l) (hs:a.eval s=v)
  {vx:Value} {m:List UInt8} (hx:Sl w vx m.length (zL m)) (hvx:a.eval x=vx) (hb:l.length+m.length<=140737488355328) (hbase:B<=w.heap.size)
  (h:∀ v' w',OwnB e w' B v' (l++m)->w.grownBy w' v.ownBlock->wpList P ops Q rest (a.put o.dst v') w'):wpList P ops Q (o :: rest) a w :=
 wpList_plain hgd fun _ hK=>zlz w E s x ho hown hs hx hvx hb hbase (fun v' w' a1 a2=>hK _ _ (h v' w' a1 a2))
theorem zaB {t u e:TypeId} (E:ByteT P t e) (hu:P.underlying u=some .string) {v:Value} {l:List UInt8} (h:Sl w v l.length (zL l)) :
  (convert t u v).run P w=.ok (.string ⟨l.toArray⟩) w:=by
 rcases h with ⟨rfl,hn,_⟩|⟨b,off,cap,rfl,_,_,hc⟩
 ·have:l = []:=List.eq_nil_of_length_eq_zero hn
  subst this
  exact run_convert_bytes_nil w t e E.sl E.el 0 0 u hu
 ·refine run_convert_bytes_back w t u e ⟨b,off,none⟩ cap l E.sl E.el hu (fun j hj=>?_)
  rw [zdO]
  refine hc j _ ?_
  unfold zL
  rw [List.getElem?_map,List.getElem?_eq_getElem hj]
  rfl
end
theorem RowKit.Below.appB {a w w':World} {v:Value} {e:TypeId} {l:List UInt8} (h:Below a.heap.size a w) (hg:w.grownBy w' v.ownBlock) (ho:OwnB e w a.heap.size v l):Below a.heap.size a w':=by
 refine ⟨hg.os.trans h.os,hg.tape.trans h.tape,hg.output.trans h.output,Nat.le_trans h.size hg.size,fun k hk=>?_⟩
 rw [hg.block k (Nat.lt_of_lt_of_le hk h.size) (fun e=>by have:=ho.lt k e.symm;omega)]
 exact h.block k hk
end Go
namespace Go
theorem Sx.refl (w:World):Sx w w:=⟨⟨#[],w.drawn⟩,(ze8 _ _ rfl).symm⟩
section
variable {P:Program} {ops:Array Oper} {Q:Exit->Act->World->Prop} {S:World->Prop} {n:Nat}
def zcH (ops:Array Oper):Nat->Nat->Nat->Bool
 | 0,_,_=>false
 | f+1,j,i=>match ops[j]? with
  | none=>false
  | some o=>o.after.any fun e=>Region.binds .any e && (e.on==i || zcH ops f e.on i)
def zgn (ops:Array Oper) (n i:Nat):Bool:=(List.range ops.size).all fun j=>decide (j<n) || zcH ops ops.size j i
def zfa (ops:Array Oper) (listed:Array Bool):Prop:=∀ k o,ops[k]?=some o->listed.getD k false=true->∀ e ∈ o.after,Region.binds .any e=true->listed.getD e.on false=true
theorem zdo {listed:Array Bool} (hc:zfa ops listed) {i:Nat}:∀ (f j:Nat) (o:Oper),ops[j]?=some o->(∀ e ∈ o.after,Region.binds .any e=true->listed.getD e.on false=true)->zcH ops f j i=true->listed.getD i false=true
 | 0,_,_,_,_,h=>by simp [zcH] at h
 | f+1,j,o,ho,hd,h=>by
  simp only [zcH,ho] at h
  obtain ⟨e,he,hb⟩:=Array.any_eq_true'.1 h
  simp only [Bool.and_eq_true,Bool.or_eq_true,beq_iff_eq] at hb
  obtain ⟨hb1,hb2⟩:=hb
  have hl:=hd e he hb1
  rcases hb2 with hb2|hb2
  ·rw [<- hb2];exact hl
  ·cases ho2:ops[e.on]? with
   | none =>
    cases f with
    | zero=>simp [zcH] at hb2
    | succ f=>simp [zcH,ho2] at hb2
   | some o2=>exact zdo hc f e.on o2 ho2 (hc e.on o2 ho2 hl) hb2
theorem zbx {listed:Array Bool} (hc:zfa ops listed) {i:Nat} (hr:i ∈ Region.ready .any ops listed):zfa ops (listed.setIfInBounds i true):=by
 obtain ⟨_,oi,hoi,hall⟩:=mem_ready.1 hr
 have keep:∀ k,listed.getD k false=true->(listed.setIfInBounds i true).getD k false=true:=fun k hk=>getD_set_true hk
 intro k o ho hk e he hb
 by_cases hik:i=k
 ·subst hik
  rw [hoi] at ho
  cases ho
  exact keep _ (hall e he hb)
 ·rw [getD_set_ne false hik] at hk
  exact keep _ (hc k o ho hk e he hb)
theorem zg8 {i j:Nat} {o:Oper} (h:zgn ops n i=true) (hj:ops[j]?=some o) (hn:n<=j):zcH ops ops.size j i=true:=by
 have hlt:j<ops.size:=(Array.getElem?_eq_some_iff.1 hj).1
 have h1:=List.all_eq_true.1 h j (List.mem_range.2 hlt)
 simp only [Bool.or_eq_true,decide_eq_true_eq] at h1
 rcases h1 with h1|h1
 ·omega
 ·exact h1
theorem zek (ops:Array Oper) (m:Nat):zfa ops (Array.replicate m false):=by
 intro k o _ h
 simp only [Array.getD_eq_getD_getElem?,Array.getElem?_replicate] at h
 split at h<;>simp at h
theorem zet {i:Nat} {oi:Oper} {v:Value} (hi:ops[i]?=some oi) (hs:Region.noSelect ops=true)
  (hQ:∀ c a w,Q (.panic c) (a.put oi.dst v) w->Q (.panic c) a w) (ht:zgn ops n i=true) :
  ∀ (fuel:Nat) (listed:Array Bool) (a:Act) (w:World),zfa ops listed ->
   (∀ j oj,ops[j]?=some oj->j ≠ i->listed.getD j true=false->(∀ e ∈ oj.after,Region.binds .any e=true->e.on ≠ i)->oi.apart ops oj=true) ->
   i ∈ Region.ready .any ops listed->YieldsQ P ops S oi v a->S w ->
   zbO P ops Q S n fuel (listed.setIfInBounds i true) (a.put oi.dst v) w->zbO P ops Q S n (fuel+1) listed a w:=by
 have hsel:=Region.noSelect_spec hs
 intro fuel
 induction fuel with
 | zero =>
  intro listed a w _ _ hr hy hS H
  refine ⟨fun h=>(by rw [h] at hr;cases hr),fun j hj=>?_⟩
  by_cases hji:j=i
  ·subst hji;exact hy.wpOp hi hS ⟨fun _=>hS,H⟩
  ·have:=ready_mono hj hji
   rw [H.1] at this
   cases this
 | succ fuel ih =>
  intro listed a w hcl hfree hr hy hS H
  refine ⟨fun h=>(by rw [h] at hr;cases hr),fun j hj=>?_⟩
  by_cases hji:j=i
  ·subst hji;exact hy.wpOp hi hS ⟨fun _=>hS,H⟩
  ·have h1:=H.2 j (ready_mono hj hji)
   obtain ⟨hjun,oj,hoj,hall⟩:=mem_ready.1 hj
   have hnot:∀ e ∈ oj.after,Region.binds .any e=true->e.on ≠ i:=fun e he hb heq =>
    zaS (mem_ready.1 hr).1 (heq ▸ hall e he hb)
   have hjn:j<n:=by
    rcases Nat.lt_or_ge j n with h|h
    ·exact h
    ·exact (zaS (mem_ready.1 hr).1 (zdo hcl _ j oj hoj hall (zg8 ht hoj h))).elim
   have h2:=zer hoj (hfree j oj hoj hji hjun hnot) (fun cs b=>hsel i oi cs b hi) (fun cs b=>hsel j oj cs b hoj) hQ hy h1
   have hfree':∀ k ok,ops[k]?=some ok->k ≠ i->(listed.setIfInBounds j true).getD k true=false ->
     (∀ e ∈ ok.after,Region.binds .any e=true->e.on ≠ i)->oi.apart ops ok=true:=fun k ok hk hki hun hno=>by
    refine hfree k ok hk hki ?_ hno
    by_cases hjk:j=k
    ·subst hjk;exact hjun
    ·rw [getD_set_ne true hjk] at hun;exact hun
   refine wpOp_mono (fun a' w' h3=>⟨fun _=>h3.2.1 hjn,ih (listed.setIfInBounds j true) a' w' (zbx hcl hj) hfree' (ready_mono hr (Ne.symm hji)) h3.1 (h3.2.1 hjn) ?_⟩) h2
   rw [Array.setIfInBounds_comm _ _ hji]
   exact h3.2.2
def zfL (ops:Array Oper) (n:Nat):List (Nat × Bool)->Array Bool->Bool
 | [],listed=>(Region.ready .any ops listed).isEmpty
 | (i,true) :: r,listed=>decide (i<n) && (Region.ready .any ops listed).contains i && Region.free .any ops listed i && zgn ops n i && zfL ops n r (listed.setIfInBounds i true)
 | (i,false) :: r,listed=>(decide (i<n) || r.all fun x=>decide (n<=x.1)) && (match Region.ready .any ops listed with|[j]=>j==i|_=>false) && zfL ops n r (listed.setIfInBounds i true)
theorem zcC {ι : Type} {F : ι->World} (hs:Region.noSelect ops=true) (hQ:∀ c (a:Act) (d:Option Tmp) (v:Value) w,Q (.panic c) (a.put d v) w->Q (.panic c) a w) :
  ∀ (ord:List (Nat × Bool)) (listed:Array Bool) (a:Act) (w:World),zfa ops listed->zfL ops n ord listed=true->((∃ x ∈ ord,x.1<n)->Sf F w)->zaY P ops Q F n ord a w ->
   zbO P ops Q (Sf F) n ord.length listed a w
 | [],listed,a,w,_,hok,_,h=>by
  simp only [zfL,List.isEmpty_iff] at hok
  exact ⟨hok,h⟩
 | (i,true) :: r,listed,a,w,hcl,hok,hS,h=>by
  simp only [zfL,Bool.and_eq_true,decide_eq_true_eq] at hok
  obtain ⟨⟨⟨⟨hin,hr⟩,hf⟩,ht⟩,hok⟩:=hok
  have hw:=hS ⟨(i,true),by simp,hin⟩
  simp only [zaY] at h
  cases ho:ops[i]? with
  | none=>simp [ho] at h
  | some o =>
   simp only [ho] at h
   have again:=fun a' h'=>zcC hs hQ r (listed.setIfInBounds i true) a' w (zbx hcl (by simpa using hr)) hok (fun _=>hw) h'
   by_cases hwt:Region.wanted o (yielded ops a.tmps)=true
   ·simp only [hwt,if_true] at h
    obtain ⟨v,hv,hk⟩:=h
    exact zet ho hs (fun c a w=>hQ c a _ _ w) ht _ listed a w hcl (Region.free_spec ho hf) (by simpa using hr)
     (Or.inl ⟨hwt,fun w' hw'=>by obtain ⟨X,rfl⟩:=hw';exact hv X⟩) hw (again _ hk)
   ·have hwt':Region.wanted o (yielded ops a.tmps)=false:=by simpa using hwt
    simp only [hwt',Bool.false_eq_true,if_false] at h
    exact zet ho hs (fun c a w=>hQ c a _ _ w) ht _ listed a w hcl (Region.free_spec ho hf) (by simpa using hr)
     (Or.inr ⟨hwt',rfl⟩) hw (again _ h)
 | (i,false) :: r,listed,a,w,hcl,hok,hS,h=>by
  simp only [zfL,Bool.and_eq_true,Bool.or_eq_true,decide_eq_true_eq] at hok
  obtain ⟨⟨hin,hr⟩,hok⟩:=hok
  have hr':Region.ready .any ops listed = [i]:=by
   split at hr
   ·rename_i j hj;rw [hj];simp at hr;rw [hr]
   ·cases hr
  refine ⟨fun h0=>(by rw [h0] at hr';cases hr'),fun j hj=>?_⟩
  rw [hr',List.mem_singleton] at hj
  subst hj
  simp only [zaY] at h
  cases ho:ops[j]? with
  | none=>simp [ho] at h
  | some o =>
   simp only [ho] at h
   unfold wpOp
   simp only [ho]
   have again:=fun (a':Act) (w':World) (hw':(∃ x ∈ r,x.1<n)->Sf F w') h'=>zcC (F:=F) hs hQ r (listed.setIfInBounds j true) a' w' (zbx hcl (by rw [hr'];simp)) hok hw' h'
   have later:(∃ x ∈ r,x.1<n)->j<n:=fun ⟨x,hx,hxn⟩=>by
    rcases hin with h1|h1
    ·exact h1
    ·have:=List.all_eq_true.1 h1 x hx
     simp only [decide_eq_true_eq] at this
     omega
   by_cases hwt:Region.wanted o (yielded ops a.tmps)=true
   ·simp only [hwt,if_true] at h ⊢
    exact Or.inl (Oper.wp_mono (fun a' w' h'=>⟨h'.1,again a' w' (fun hx=>h'.1 (later hx)) h'.2⟩) h)
   ·have hwt':Region.wanted o (yielded ops a.tmps)=false:=by simpa using hwt
    simp only [hwt',Bool.false_eq_true,if_false] at h ⊢
    exact ⟨fun hj=>hS ⟨(j,false),by simp,hj⟩,again _ _ (fun hx=>hS ⟨(j,false),by simp,later hx⟩) h⟩
theorem zgh {ι : Type} (F : ι->World) {id:Nat} {l:List Oper} {a:Act} {w:World} (ord:List (Nat × Bool)) (n:Nat) (hm:P.follows .mixedOrders=true)
  (hok:(zfL l.toArray n ord (Array.replicate l.toArray.size false) && Region.noSelect l.toArray && ord.length==l.toArray.size)=true)
  (h0:Sf F w.drew) (h:zaY P l.toArray (zbX Q) F n ord a w.drew):(Code.region id l.toArray true).wp P Q a w:=by
 simp only [Bool.and_eq_true,beq_iff_eq] at hok
 have h1:(Code.region id l.toArray true).wp P (zbX Q) a w:=by
  refine wp_region_any hm ?_
  rw [<- hok.2]
  exact zcM _ _ _ _ (zcC hok.1.2 (fun _ _ _ _ _ h=>h) ord _ a _ (zek _ _) (hok.2 ▸ hok.1.1) (fun _=>h0) h)
 exact Code.wp_mono (fun e a w h=>by cases e<;>first|exact h|exact h.elim) h1
theorem zai {id:Nat} {l:List Oper} {a:Act} {w:World} (ord:List (Nat × Bool)) (n:Nat) (hm:P.follows .mixedOrders=true)
  (hok:(zfL l.toArray n ord (Array.replicate l.toArray.size false) && Region.noSelect l.toArray && ord.length==l.toArray.size)=true)
  (h:zaY P l.toArray (zbX Q) (fun X=>w.ext X) n ord a w.drew):(Code.region id l.toArray true).wp P Q a w:=zgh (fun X=>w.ext X) ord n hm hok (Sx.drew w) h
end
end Go
namespace Go.Proofs.YtpnoehpmgflibaaGreatDoor
open Go.ChangeShapes Go.WideShapes Go.ChangeAt Go.RowKit
theorem zaX:ByteT Tryz.prog 22 5:=ByteT.of Tryz.underlying22 Tryz.underlying5 (by kernel_rfl)
def zX (l:List UInt8):ByteArray:=⟨l.toArray⟩
theorem zN (l:List UInt8):(zX l).size=l.length:=by unfold zX;show l.toArray.size = _;simp
theorem zht (l:List UInt8):(zX l).data.toList=l:=by simp [zX]
def zfb (s:ByteArray):ByteArray:=if s.size<=20000 then zX (Lib.Hx.encode s.data.toList) else ⟨#[]⟩
theorem zcW (s:ByteArray):(zfb s).size<=40000:=by
 unfold zfb
 split
 ·rw [zN,Lib.Hx.encode_length]
  have:s.data.toList.length=s.size:=by simp
  omega
 ·decide
theorem zeZ {x:Nat} (h:x<10):Lib.Hx.digit x=UInt8.ofNat (48+x):=by
 match x,h with
 | 0,_|1,_|2,_|3,_|4,_|5,_|6,_|7,_|8,_|9,_=>rfl
theorem digit_hi {x:Nat} (h : 10<=x) (h2:x<16):Lib.Hx.digit x=UInt8.ofNat (87+x):=by
 rcases (by omega:x=10 ∨ x=11 ∨ x=12 ∨ x=13 ∨ x=14 ∨ x=15) with rfl|rfl|rfl|rfl|rfl|rfl<;>rfl
theorem zg4 (w:World) (cs:Array Value) (t:TypeId) {b:Nat} (hb:b=w.heap.size):(w.alloc (.cells cs t)).heap[b]?=some (.cells cs t (0,0)):=by
 subst hb
 exact heap_alloc_new w _
theorem zdY (x:Int) (w:World) (h0 : 0<=x) (h1:x<16) :
  Calls Tryz.prog 226 #[.int .i64 x] w fun e w'=>e=.returned (.int .u8 ((Lib.Hx.digit x.toNat).toNat:Int))/\w=w':=by
 go_enter Tryz.func226,Tryz.ntmps226
 go_wp2
 all_goals go_ret
 ·refine ⟨zlS ?_,rfl⟩
  rw [zeZ (by omega)]
  simp
  omega
 ·refine ⟨zlS ?_,rfl⟩
  rw [digit_hi (by omega) (by omega)]
  simp
  omega
theorem enc_snoc (l:List UInt8) (c:UInt8):Lib.Hx.encode (l ++ [c])=Lib.Hx.encode l ++ [Lib.Hx.digit (c.toNat / 16),Lib.Hx.digit (c.toNat % 16)]:=by
 simp [Lib.Hx.encode,List.flatMap_append]
theorem zf4 (s:ByteArray) (w:World) (hs:s.size<=9223372036854775807) :
  Calls Tryz.prog 190 #[.string s] w fun e w'=>e=.returned (.tuple #[.string (zfb s),.bool (decide (s.size<=20000))])/\Below w.heap.size w w':=by
 go_enter Tryz.func190,Tryz.ntmps190
 by_cases hb:(20000:Int)<s.size
 ·go_wp2
  refine bodyPost_ret (by simp [results,Tryz.results190,go_sem];rfl) rfl ?_
  refine ⟨?_,(by repeat (with_reducible exact Below.refl _ _))⟩
  unfold zfb
  rw [if_neg (by omega),decide_eq_false (by omega)]
 go_wp2
 go_loopw [4,5] (fun o k wr=>∃ (n:Nat),k=.int .i64 n/\n<=s.size/\Below w.heap.size w wr/\OwnB 5 wr w.heap.size o (Lib.Hx.encode (s.data.toList.take n))) (fun _ k _=>s.size - (intOf k).toNat)
 case atStart=>exact ⟨0,rfl,by omega,(by repeat (first|with_reducible exact Below.refl _ _|with_reducible apply Below.ofAlloc)),OwnB.empty _ _⟩
 case round =>
  obtain ⟨n,rfl,hn,hbel,ho⟩:=hrel
  obtain ⟨X,rfl⟩:=hbel.ext
  by_cases hlt:(n:Int)<s.size
  case pos =>
   have hk:n<s.size:=by omega
   have hc1:(s[n].toNat:Int)<=255:=by have:=s[n].toNat_lt;omega
   have hc0 : 0<=(s[n].toNat:Int):=by omega
   have hst:=enc_snoc (s.data.toList.take n) s[n]
   rw [<- zdh s n hk] at hst
   have htm:((s[n].toNat:Int)).tmod 16=(s[n].toNat:Int) % 16:=Int.tmod_eq_emod_of_nonneg (by omega)
   have HTM:=Hd htm
   clear htm
   have HST:=Hd hst
   have hlen:(Lib.Hx.encode (s.data.toList.take n)).length<=40000:=by rw [Lib.Hx.encode_length];simp;omega
   have HLN:=Hd hlen
   clear hst hlen
   generalize Lib.Hx.encode (s.data.toList.take n)=l at *
   obtain ⟨oa,oc,rfl⟩:=ho.form
   have HO:=Hd ho
   clear ho
   go_wp2
   refine zai [(0,true),(1,true),(2,true),(3,true),(4,true),(5,true),(7,true),(8,true),(9,true),(10,true),(11,true),(6,false),(12,false),(13,false),(14,false),(15,false)] 14 (by kernel_rfl) (by kernel_rfl) ?_
   repeat (refine zk rfl (fun K hK=>?_);go_simp;(try simp (disch:=omega) only [IntWalk.i64_in]);refine hK _ ?_;clear hK K)
   rw [HTM.out]
   refine zr rfl (fun K hK=>?_);go_simp;go_at_call 226;refine (zdY _ _ (by omega) (by omega)).mono ?_;rintro e w' ⟨rfl,rfl⟩;try go_simp;refine hK _ _ (by show Sx _ _;repeat (with_reducible exact Sx.same _ _ _ _)) ?_;clear hK K
   refine zr rfl (fun K hK=>?_);go_simp;go_at_call 226;refine (zdY _ _ (by omega) (by omega)).mono ?_;rintro e w' ⟨rfl,rfl⟩;try go_simp;refine hK _ _ (by show Sx _ _;repeat (with_reducible exact Sx.same _ _ _ _)) ?_;clear hK K
   refine zr rfl (fun K hK=>?_);go_simp;refine hK _ _ (by show Sx _ _;repeat (first|with_reducible exact Sx.same _ _ _ _|with_reducible apply Sx.alloc)) ?_;clear hK K
   refine zt rfl rfl (fun K hK=>?_)
   rw [if_pos (by rfl)]
   refine zlz _ zaX (.tmp 16) (.tmp 29) rfl (B:=w.heap.size) (l:=l) (m:=[Lib.Hx.digit (s[n].toNat / 16),Lib.Hx.digit (s[n].toNat % 16)]) ((OwnB.same HO.out).alloc _) rfl (vx:=.slice (some ⟨w.heap.size+X.bs.size,0,none⟩) 2 2) ?_ rfl (by have:=HLN.out;simp;omega) (by simp [zm];omega) ?_
   ·refine zen (t:=5) (f:=(0,0)) (zg4 _ _ _ (by simp [zm])) (by decide)
   intro v4 w4 hown4 hgr4
   refine hK _ _ ?_
   clear hK K
   have hb4:Below w.heap.size w w4:=Below.appB (by repeat (first|with_reducible exact Below.refl _ _|with_reducible apply Below.ofExt|with_reducible apply Below.ofAlloc)) hgr4 ((OwnB.same HO.out).alloc _)
   repeat (refine zt rfl rfl (fun K hK=>?_);go_simp;refine hK _ _ ?_;clear hK K)
   refine zQ ?_
   go_wp2
   go_roundw
   case rel=>exact ⟨n+1,by go_num,by omega,hb4,by rw [HST.out];exact hown4⟩
   case measure=>simp [intOf];omega
  case neg =>
   have e:n=s.size:=by omega
   subst e
   rw [List.take_of_length_le (by simp)] at ho
   have hr:=zaB (P:=Tryz.prog) (w.ext X) zaX Tryz.underlying9 ho.sl
   obtain ⟨oa,oc,rfl⟩:=ho.form
   clear ho
   go_wp2
   refine bodyPost_ret (by simp [results,Tryz.results190,go_sem];rfl) rfl ?_
   refine ⟨?_,(by repeat (first|with_reducible exact Below.refl _ _|with_reducible apply Below.ofExt))⟩
   unfold zfb
   rw [if_pos (by omega),decide_eq_true (by omega)]
   rfl
theorem zmy (w:World) (c:UInt8) (x:Int) (hx:x=(c.toNat:Int)) (b:Nat) (hb:b=w.heap.size) :
  Sem.run Tryz.prog (convert 22 9 (.slice (some ⟨b,0,none⟩) 1 1)) (w.alloc (.cells #[.int .u8 x] 5))=.ok (.string ⟨#[c]⟩) (w.alloc (.cells #[.int .u8 x] 5)):=by
 subst hb hx
 refine run_convert_bytes_back (w:=w.alloc (.cells #[.int .u8 (c.toNat:Int)] 5)) (P:=Tryz.prog) 22 9 5 ⟨w.heap.size,0,none⟩ 1 [c] Tryz.underlying22 Tryz.underlying5 Tryz.underlying9 ?_
 intro j hj
 have:j=0:=by simpa using hj
 subst this
 show (w.alloc _).cell? ⟨w.heap.size,0,none⟩ = _
 simp [go_sem]
def zka (m:Nat):List UInt8:=if m=0 then [] else Lib.decDigits m
theorem zgZ {m:Nat} (h:m ≠ 0):zka m=zka (m / 10) ++ [Lib.Hx.digit (m % 10)]:=by
 unfold zka
 rw [if_neg h,Lib.decDigits]
 split
 ·rename_i h1
  rw [if_pos (by omega),Nat.mod_eq_of_lt h1,zeZ h1]
  rfl
 ·rw [if_neg (by omega),zeZ (by omega)]
theorem dec0_len:∀ (m:Nat),(zka m).length<=m / 2+1:=by
 intro m
 induction m using Nat.strongRecOn with
 | ind m ih =>
  by_cases h:m=0
  ·subst h;simp [zka]
  ·rw [zgZ h,List.length_append]
   by_cases h2:m<10
   ·rw [show m / 10=0 by omega]
    simp [zka]
   ·have:=ih (m / 10) (by omega)
    simp
    omega
theorem zge (m:Nat):(Lib.decDigits m).length<=m / 2+1:=by
 by_cases h:m=0
 ·subst h
  rw [Lib.decDigits,dif_pos (by decide)]
  simp
 ·have:=dec0_len m
  unfold zka at this
  rwa [if_neg h] at this
theorem zdC (c:UInt8) (l:List UInt8):(⟨#[c]⟩ : ByteArray)++zX l=zX (c :: l):=by
 apply ByteArray.ext
 simp [zX,ByteArray.data_append]
theorem zmb:Lib.itoa 0 = [48]:=by
 unfold Lib.itoa
 rw [if_neg (by decide),Lib.decDigits,dif_pos (by decide)]
 rfl
theorem zbQ (n:Int) (w:World) (h0 : -9223372036854775808<=n) (h1:n<=9223372036854775807) :
  Calls Tryz.prog 203 #[.int .i64 n] w fun e w'=>e=.returned (.string (zX (Lib.itoa n)))/\Below w.heap.size w w':=by
 go_enter Tryz.func203,Tryz.ntmps203
 by_cases hz:n=0
 ·subst hz
  go_wp2
  go_ret
  refine ⟨?_,(by repeat (with_reducible exact Below.refl _ _))⟩
  rw [zmb]
  rfl
 have hzb:(n==0)=false:=by simpa using hz
 by_cases hn:n<0
 ·have hi:Lib.itoa n=45 :: Lib.decDigits n.natAbs:=by unfold Lib.itoa;rw [if_pos hn]
  obtain ⟨N,hN⟩ : ∃ N:Nat,n = -(N:Int):=⟨n.natAbs,by omega⟩
  subst hN
  rw [show (-(N:Int)).natAbs=N by omega] at hi
  have HI:=Hd hi
  clear hi
  go_wp2
  go_loopw [0,4] (fun k o wr=>∃ (m:Nat) (l:List UInt8),k=.int .i64 (-(m:Int))/\m<=9223372036854775808/\o=.string (zX l)/\zka m++l=Lib.decDigits N/\Below w.heap.size w wr) (fun k _ _=>(intOf k).natAbs)
  case atStart=>exact ⟨N,[],rfl,by omega,rfl,by simp [zka];omega,(by repeat (with_reducible exact Below.refl _ _))⟩
  case round =>
   obtain ⟨m,l,rfl,hm,rfl,hd,hbel⟩:=hrel
   obtain ⟨X,rfl⟩:=hbel.ext
   have hll:(zX l).size<=4611686018427387910:=by
    have:=zge N
    rw [<- hd,List.length_append] at this
    rw [zN]
    omega
   have HD:=Hd hd
   clear hd
   by_cases hmz:m=0
   ·subst hmz
    rw [show (-((0:Nat):Int))=0 from rfl]
    go_wp2
    go_ret
    refine ⟨?_,(by repeat (first|with_reducible exact Below.refl _ _|with_reducible apply Below.ofExt))⟩
    have:=HD.out
    simp only [zka,if_true,List.nil_append] at this
    rw [HI.out,<- this,<- zdC]
    rfl
   ·have hst:=zgZ hmz
    have HST:=Hd hst
    clear hst
    have hrel2:zka (m / 10)++(Lib.Hx.digit (m % 10) :: l)=Lib.decDigits N:=by
     rw [<- HD.out,HST.out,List.append_assoc]
     rfl
    have HR:=Hd hrel2
    clear hrel2
    by_cases hd0:m % 10=0
    ·have hdi:(m:Int) % 10=0:=by omega
     have hk:=zmy (w.ext X) (Lib.Hx.digit (m % 10)) 48 (by rw [hd0];rfl) (w.heap.size+X.bs.size) (by rw [zm])
     rw [hd0] at hk HR
     go_wp2
     go_roundw
     case rel=>exact ⟨m / 10,_,by go_num,by omega,by rw [zdC],HR.out,(by repeat (first|with_reducible exact Below.refl _ _|with_reducible apply Below.ofExt|with_reducible apply Below.ofAlloc))⟩
     case measure=>simp [intOf];omega
    ·have hk:=zmy (w.ext X) (Lib.Hx.digit (m % 10)) (48+(m:Int) % 10) (by rw [zeZ (by omega)];simp;omega) (w.heap.size+X.bs.size) (by rw [zm])
     have hpos : 0<(m:Int) % 10:=by omega
     have HD0:=Hd hd0
     clear hd0
     go_wp2
     go_roundw
     case rel=>exact ⟨m / 10,_,by go_num,by omega,by rw [zdC],HR.out,(by repeat (first|with_reducible exact Below.refl _ _|with_reducible apply Below.ofExt|with_reducible apply Below.ofAlloc))⟩
     case measure=>simp [intOf];omega
 ·have hi:Lib.itoa n=Lib.decDigits n.toNat:=by unfold Lib.itoa;rw [if_neg hn]
  obtain ⟨N,hN⟩ : ∃ N:Nat,n=(N:Int):=⟨n.toNat,by omega⟩
  subst hN
  rw [Int.toNat_natCast] at hi
  have HI:=Hd hi
  clear hi
  go_wp2
  go_loopw [0,4] (fun k o wr=>∃ (m:Nat) (l:List UInt8),k=.int .i64 (m:Int)/\m<=9223372036854775808/\o=.string (zX l)/\zka m++l=Lib.decDigits N/\Below w.heap.size w wr) (fun k _ _=>(intOf k).natAbs)
  case atStart=>exact ⟨N,[],rfl,by omega,rfl,by simp [zka];omega,(by repeat (with_reducible exact Below.refl _ _))⟩
  case round =>
   obtain ⟨m,l,rfl,hm,rfl,hd,hbel⟩:=hrel
   obtain ⟨X,rfl⟩:=hbel.ext
   have hll:(zX l).size<=4611686018427387910:=by
    have:=zge N
    rw [<- hd,List.length_append] at this
    rw [zN]
    omega
   have HD:=Hd hd
   clear hd
   by_cases hmz:m=0
   ·subst hmz
    rw [show ((0:Nat):Int)=0 from rfl]
    go_wp2
    go_ret
    refine ⟨?_,(by repeat (first|with_reducible exact Below.refl _ _|with_reducible apply Below.ofExt))⟩
    have:=HD.out
    simp only [zka,if_true,List.nil_append] at this
    rw [HI.out,<- this]
    rfl
   ·have hst:=zgZ hmz
    have HST:=Hd hst
    clear hst
    have hrel2:zka (m / 10)++(Lib.Hx.digit (m % 10) :: l)=Lib.decDigits N:=by
     rw [<- HD.out,HST.out,List.append_assoc]
     rfl
    have HR:=Hd hrel2
    clear hrel2
    have hk:=zmy (w.ext X) (Lib.Hx.digit (m % 10)) (48+(m:Int) % 10) (by rw [zeZ (by omega)];simp;omega) (w.heap.size+X.bs.size) (by rw [zm])
    go_wp2
    go_roundw
    case rel=>exact ⟨m / 10,_,by go_num,by omega,by rw [zdC],HR.out,(by repeat (first|with_reducible exact Below.refl _ _|with_reducible apply Below.ofExt|with_reducible apply Below.ofAlloc))⟩
    case measure=>simp [intOf];omega
theorem zfy (w:World) (s:ByteArray) (hs:s.size<=9223372036854775807) :
  ∃ v w1,Sem.run Tryz.prog (convert 9 22 (.string s)) w=.ok v w1/\OwnB 5 w1 w.heap.size v s.data.toList/\Below w.heap.size w w1:=by
 refine ⟨_,_,run_bytes_of_string w 9 22 5 s Tryz.underlying9 Tryz.underlying22 Tryz.underlying5,OwnB.ofString 5 w s hs,?_⟩
 exact (Below.refl _ _).drew.alloc (Nat.le_refl _) _
theorem zix (w:World) (c:UInt8) (x:Int) (hx:x=(c.toNat:Int)) (t:TypeId) (b:Nat) (hb:b=w.heap.size):Sl (w.alloc (.cells #[.int .u8 x] t)) (.slice (some ⟨b,0,none⟩) 1 1) ([c]:List UInt8).length (zL [c]):=by
 subst hx
 exact zen (t:=t) (f:=(0,0)) (zg4 _ _ _ hb) (by decide)
def bsum (l:List UInt8):Int:=l.foldl (fun n c=>(31*n+(c.toNat:Int)) % 9973) 7
theorem itoa_len (n:Int) (h0 : -9223372036854775808<=n) (h1:n<=9223372036854775807):(Lib.itoa n).length<=4611686018427387920:=by
 unfold Lib.itoa
 split
 ·have:=zge n.natAbs
  rw [List.length_cons]
  omega
 ·have:=zge n.toNat
  omega
theorem zmi (x a b:Int) (w:World):Calls Tryz.prog 140 #[.int .i64 x,.int .i64 a,.int .i64 b] w fun e w'=>e=.returned (.bool (inB x a b))/\w=w':=(zag x a b w).mono fun e w' h=>⟨h.1,h.2.symm⟩
def recAdd (acc:List UInt8) (c:CellD):List UInt8:=acc++32 :: ((zfb c.key).data.toList++61 :: (zfb c.val).data.toList)
def recOne (acc:List UInt8) (c:CellD):Bool:=zbc c.key && (decide ((c.val.size:Int)<=60) && decide ((acc.length:Int)<=4000))
def recGo:List UInt8->List CellD->Option (List UInt8)
 | acc,[]=>some acc
 | acc,c :: cs=>if recOne acc c then recGo (recAdd acc c) cs else none
def recEnd (l:List UInt8):List UInt8:=l++32 :: 35 :: (Lib.itoa (bsum l) ++ [10])
def recText (seq:Int) (cs:List CellD):ByteArray :=
 if inB seq 1 100000 then
  match recGo (Lib.itoa seq) cs with
  | none=>⟨#[]⟩
  | some l=>if ((recEnd l).length:Int)<=4000 then zX (recEnd l) else ⟨#[]⟩
 else ⟨#[]⟩
def zhM (s:ByteArray):List UInt8:=Lib.Hx.encode s.data.toList
theorem zjr (u:Nat) (h:u<10):UInt8.ofNat (48+u) ≠ 32/\UInt8.ofNat (48+u) ≠ 61/\(UInt8.ofNat (48+u)).toNat=48+u:=by
 have hall:∀ x:Fin 10,UInt8.ofNat (48+x.val) ≠ 32/\UInt8.ofNat (48+x.val) ≠ 61/\(UInt8.ofNat (48+x.val)).toNat=48+x.val:=by decide
 exact hall ⟨u,h⟩
theorem zhE (c:UInt8):∀ (l:List UInt8) (acc u:Nat),Lib.parseUint10 acc l=.ok u->Lib.parseUint10 acc (l ++ [c])=Lib.parseUint10 u [c]
 | [],acc,u,h=>by
  simp only [Lib.parseUint10] at h
  injection h with h
  rw [h]
  rfl
 | b :: l,acc,u,h=>by
  simp only [Lib.parseUint10,List.cons_append] at h ⊢
  split at h
  ·rename_i h1
   rw [if_pos h1]
   split at h
   ·cases h
   ·rename_i h2
    rw [if_neg h2]
    split at h
    ·cases h
    ·rename_i h3
     rw [if_neg h3]
     exact zhE c l _ u h
  ·cases h
theorem zlY (u:Nat) (h:u<=1000000000):Lib.parseUint10 0 (Lib.decDigits u)=.ok u:=by
 induction u using Nat.strongRecOn with
 | _ u ih =>
  rw [Lib.decDigits]
  split
  ·rename_i h1
   have hd:=(zjr u h1).2.2
   simp only [Lib.parseUint10]
   rw [hd,if_pos (by omega),if_neg (by omega),if_neg (by omega)]
   congr 1
   omega
  ·rename_i h1
   have hd:=(zjr (u % 10) (by omega)).2.2
   rw [zhE _ _ _ _ (ih (u / 10) (by omega) (by omega))]
   simp only [Lib.parseUint10]
   rw [hd,if_pos (by omega),if_neg (by omega),if_neg (by omega)]
   congr 1
   omega
theorem zmv (u:Nat):∃ c r,Lib.decDigits u=c :: r/\48<=c.toNat/\c.toNat<=57:=by
 induction u using Nat.strongRecOn with
 | _ u ih =>
  rw [Lib.decDigits]
  split
  ·rename_i h
   have hd:=(zjr u h).2.2
   exact ⟨_,[],rfl,by omega,by omega⟩
  ·obtain ⟨c,r,e,h1,h2⟩:=ih (u / 10) (by omega)
   exact ⟨c,r ++ [_],by rw [e];rfl,h1,h2⟩
theorem zg1 (n:Int) (h0 : 0<=n) (h1:n<=1000000000):Lib.atoiAll (Lib.itoa n)=.ok n:=by
 obtain ⟨u,rfl⟩:=Int.eq_ofNat_of_zero_le h0
 unfold Lib.itoa
 rw [if_neg (by omega),Int.toNat_natCast]
 have hp:=zlY u (by omega)
 obtain ⟨c,r,e,a,b⟩:=zmv u
 rw [e] at hp ⊢
 rw [Lib.atoiAll_plain c r (by omega) (by omega)]
 unfold Lib.parseMag
 rw [if_neg (by simp),hp]
 unfold Lib.signless
 simp only
 rw [if_neg (by omega)]
def wordL (c:CellD):List UInt8:=zhM c.key++61 :: zhM c.val
def unhexI (l:List UInt8):List UInt8:=match Lib.Hx.decode l with
 | (d,.ok)=>if d.length<=20000/\Lib.Hx.encode d=l then d else []
 | _=>[]
def numI (l:List UInt8):Int:=match Lib.atoiAll l with
 | .ok n=>if (0<=n/\n<=1000000000)/\Lib.itoa n=l then n else 0
 | _=>0
def cellI (w:List UInt8):CellD:=⟨zX (unhexI (Lib.cut w [61]).1),zX (unhexI (Lib.cut w [61]).2.1)⟩
theorem za8 (s:ByteArray):zX s.data.toList=s:=by
 apply ByteArray.ext
 simp [zX]
def seqI (ws:List (List UInt8)):Int:=numI (ws.headD [])
def listI (ws:List (List UInt8)):List CellD:=((ws.drop 1).take (ws.length - 2)).map cellI
def readI (t:ByteArray):Option (Int × List CellD) :=
 if t.size ≠ 0/\recText (seqI (zbI 32 t.data.toList)) (listI (zbI 32 t.data.toList))=t then some (seqI (zbI 32 t.data.toList),listI (zbI 32 t.data.toList)) else none
def Unh (l:List UInt8) (r:ByteArray):Prop:=∀ s:ByteArray,s.size<=20000->l=zhM s->r=s
def Num (l:List UInt8) (n:Int) (ok:Bool):Prop:=(0<=n/\n<=1000000000)/\∀ m:Int,1<=m->m<=100000->l=Lib.itoa m->n=m/\ok=true
def CellR (word:List UInt8) (c:CellD):Prop:=∀ d:CellD,d.key.size<=40->d.val.size<=60->word=wordL d->c=d
def ReadsTo (ws:List (List UInt8)) (cs:List CellD):Prop:=∃ zs:List (List UInt8 × CellD),zs.map (·.1)=ws/\zs.map (·.2)=cs/\∀ z ∈ zs,CellR z.1 z.2
theorem ReadsTo.nil:ReadsTo [] []:=⟨[],rfl,rfl,by simp⟩
theorem ReadsTo.length {ws:List (List UInt8)} {cs:List CellD} (h:ReadsTo ws cs):cs.length=ws.length:=by
 obtain ⟨zs,rfl,rfl,_⟩:=h
 simp
end Go.Proofs.YtpnoehpmgflibaaGreatDoor
