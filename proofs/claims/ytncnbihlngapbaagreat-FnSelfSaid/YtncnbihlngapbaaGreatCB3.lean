/- Texts of this claim, merged: the walks and what they stand on. Each condition stands in its theorem. -/
import Derived.Lib.AppendIntMem
import Derived.Lib.AppendStr
import Derived.Lib.AtoiAllCases
import Derived.Lib.FrozenHead
import Derived.Lib.HexFns
import Derived.Lib.ItoaNum
import Derived.Lib.ShelfFacts
import Derived.Test.YtncnbihlngapbaaGreatCB2
set_option linter.unusedVariables false
set_option linter.unusedSimpArgs false
set_option maxRecDepth 100000
set_option maxHeartbeats 8000000
namespace Go
open Go.ChangeShapes Go.WideShapes Go.ChangeAt Go.RowKit
theorem zaa (l:List UInt8):(zU l).length=l.length:=by simp [zU]
theorem zdz (l m:List UInt8):zU (l++m)=zU l++zU m:=by simp [zU]
theorem zhW (l:List UInt8):∀ u ∈ zU l,u.oneCell'=true:=by
 intro u hu
 simp only [zU,List.mem_map] at hu
 obtain ⟨c,_,rfl⟩:=hu
 rfl
theorem zjI (l:List UInt8):l.flatMap zd6.row=zU l:=by
 induction l with
 | nil=>rfl
 | cons c l ih =>
  rw [List.flatMap_cons,ih]
  rfl
def MarkOk (fz:Nat × Nat) (n:Nat):Prop:=fz=(0,0) ∨ n<=fz.1
def OwnB (e:TypeId) (w:World) (B:Nat) (v:Value) (l:List UInt8):Prop :=
 (v=.slice none 0 0/\l = []) ∨
 ∃ g cap cur fz,v=.slice (some ⟨g,0,none⟩) l.length cap/\B<=g/\w.heap[g]?=some (.cells cur e fz)/\MarkOk fz cur.size/\l.length<=cap/\cap<=maxLen/\cur.size=cap/\cur.toList.take l.length=zU l
theorem zch (P:Program) (g o:Nat) (t:TypeId) (fz:Nat × Nat):∀ (vs:List Value) (i:Nat) (cur:Array Value) (w:World),w.heap[g]?=some (.cells cur t fz)->MarkOk fz cur.size->o+i+vs.length<=cur.size->(∀ v ∈ vs,v.oneCell'=true) ->
  (storeCells ⟨g,o,none⟩ vs i).run P w=.ok () (w.setRow g (cur.toList.take (o+i)++vs++cur.toList.drop (o+i+vs.length)).toArray)
 | [],i,cur,w,hg,_,_,_=>by
  simp only [storeCells,List.append_nil,List.length_nil,Nat.add_zero,List.take_append_drop,Array.toArray_toList]
  rw [setRow_self w g cur t fz hg]
  rfl
 | v :: rest,i,cur,w,hg,hfz,hl,h1=>by
  have hi:o+i<cur.size:=by simp at hl;omega
  have hadd:(⟨g,o,none⟩ : Addr).add i=⟨g,o+i,none⟩:=by unfold Addr.add;split<;>simp_all
  have hcell:w.cell? ⟨g,o+i,none⟩=some cur[o+i]:=by simp [World.cell?,hg,hi]
  have hfro:w.frozen? ⟨g,o+i,none⟩=false:=by
   rcases hfz with rfl|hfz
   ·simp [World.frozen?,hg]
   ·obtain ⟨lo,hi'⟩:=fz
    simp only [World.frozen?,hg,Bool.and_eq_false_iff,decide_eq_false_iff_not]
    left
    simp only at hfz
    omega
  have hst:(store ((⟨g,o,none⟩ : Addr).add i) v).run P w=.ok () (w.setRow g (cur.setIfInBounds (o+i) v)):=by
   rw [hadd,run_store P w _ v _ (h1 v (by simp)),hcell]
   simp [hfro,setCell_eq_setRow w g (o+i) cur t fz v hg]
  have ih:=zch P g o t fz rest (i+1) (cur.setIfInBounds (o+i) v) (w.setRow g (cur.setIfInBounds (o+i) v)) (setRow_heap w g cur _ t _ hg) (by simpa using hfz) (by simp at hl ⊢;omega) (fun x hx=>h1 x (by simp [hx]))
  simp only [storeCells,Sem.run_bind,hst,Result.andThen_ok,ih,setRow_setRow]
  congr 3
  have e:=list_seg_step cur.toList (o+i) v rest (by simp at hl ⊢;omega)
  simpa [Array.toList_setIfInBounds,Nat.add_assoc] using e
section
variable {e:TypeId} {w:World} {B:Nat} {v:Value} {l:List UInt8}
theorem OwnB.ofL (h:OwnL zd6 e w B v l):OwnB e w B v l:=by
 have hf:=zjI l
 rcases h.2 with ⟨hv,hn⟩|⟨g,cap,cur,hv,hb,hg,hnc,hcm,hcs,ht⟩
 ·exact .inl ⟨hv,List.eq_nil_of_length_eq_zero hn⟩
 ·refine .inr ⟨g,cap,cur,(0,0),hv,hb,hg,.inl rfl,hnc,hcm,by simpa [zd6] using hcs,?_⟩
  rw [hf] at ht
  simpa [zd6] using ht
theorem OwnB.empty (e:TypeId) (w:World):OwnB e (w.alloc (.cells #[] e)) w.heap.size (.slice (some ⟨w.heap.size,0,none⟩) 0 0) []:=OwnB.ofL (OwnL.empty zd6 e w)
theorem OwnB.nil (e:TypeId) (w:World) (B:Nat):OwnB e w B (.slice none 0 0) []:=.inl ⟨rfl,rfl⟩
theorem OwnB.lt (h:OwnB e w B v l):∀ k,v.ownBlock=some k->B<=k/\k<w.heap.size:=by
 intro k hk
 rcases h with ⟨rfl,_⟩|⟨g,cap,cur,fz,rfl,hb,hg,_⟩
 ·simp [Value.ownBlock] at hk
 ·simp [Value.ownBlock] at hk
  subst hk
  exact ⟨hb,(Array.getElem?_eq_some_iff.1 hg).1⟩
theorem OwnB.kept {w':World} {row:Option Nat} (h:OwnB e w B v l) (hg:w.grownBy w' row) (hne:v.ownBlock=none ∨ v.ownBlock ≠ row):OwnB e w' B v l:=by
 rcases h with hn|⟨g,cap,cur,fz,rfl,h1,h2,rest⟩
 ·exact .inl hn
 ·refine .inr ⟨g,cap,cur,fz,rfl,h1,?_,rest⟩
  rw [hg.block g (Array.getElem?_eq_some_iff.1 h2).1 (by simpa [Value.ownBlock] using hne)]
  exact h2
theorem OwnB.ext (h:OwnB e w B v l) (X:Ext):OwnB e (w.ext X) B v l:=by
 rcases h with hn|⟨g,cap,cur,fz,rfl,h1,h2,rest⟩
 ·exact .inl hn
 ·exact .inr ⟨g,cap,cur,fz,rfl,h1,(w.ext_get X (Array.getElem?_eq_some_iff.1 h2).1).trans h2,rest⟩
theorem OwnB.same {bs:Array Obj} {d0 dr:Nat} (h:OwnB e (w.ext ⟨bs,d0⟩) B v l):OwnB e (w.ext ⟨bs,dr⟩) B v l:=by
 have:=h.ext ⟨#[],dr⟩
 rwa [zm,Array.append_empty] at this
theorem OwnB.alloc (h:OwnB e w B v l) (o:Obj):OwnB e (w.alloc o) B v l :=
 h.kept (World.grownBy_alloc w o none) (by cases hv:v.ownBlock<;>simp)
theorem OwnB.drew (h:OwnB e w B v l):OwnB e w.drew B v l:=h
theorem OwnB.below {w':World} (h:OwnB e w B v l) (hb:Below w.heap.size w w'):OwnB e w' B v l:=by
 obtain ⟨X,rfl⟩:=hb.ext
 exact h.ext X
theorem OwnB.form (h:OwnB e w B v l):∃ ao cap,v=.slice ao l.length cap:=by
 rcases h with ⟨rfl,rfl⟩|⟨g,cap,cur,fz,rfl,_⟩
 ·exact ⟨none,0,rfl⟩
 ·exact ⟨_,_,rfl⟩
theorem OwnB.sl (h:OwnB e w B v l):Sl w v l.length (zU l):=by
 rcases h with ⟨rfl,rfl⟩|⟨g,cap,cur,fz,rfl,hb,hg,_,hnc,hcm,hcs,ht⟩
 ·exact .inl ⟨rfl,rfl,rfl⟩
 ·refine .inr ⟨g,0,cap,rfl,hnc,hcm,fun j u hj=>?_⟩
  have hl:j<l.length:=by
   have:=(List.getElem?_eq_some_iff.1 hj).1
   rwa [zaa] at this
  rw [<- ht,List.getElem?_take,if_pos hl] at hj
  simp only [World.cell?,hg,Nat.zero_add]
  simpa using hj
theorem OwnB.rd (h:OwnB e w B v l):RdL zd6 w v l:=by
 unfold RdL
 have hf:=zjI l
 rw [hf]
 exact h.sl
theorem OwnB.ofString (e:TypeId) (w:World) (s:ByteArray) (hs:s.size<=9223372036854775807):OwnB e (w.alloc (.cells (bytesRow s (grownCap w s.size 0 e)) e ((bytesRow s (grownCap w s.size 0 e)).size,(bytesRow s (grownCap w s.size 0 e)).size+1))) w.heap.size (.slice (some ⟨w.heap.size,0,none⟩) s.size (grownCap w s.size 0 e)) s.data.toList:=by
 have hge:=grownCap_ge w s.size 0 e
 have hle:=grownCap_le_maxLen w s.size 0 e (by unfold maxLen;exact hs)
 have hsz:s.data.toList.length=s.size:=by simp
 generalize grownCap w s.size 0 e=cap at *
 refine .inr ⟨w.heap.size,cap,_,_,by rw [hsz],Nat.le_refl _,heap_alloc_new w _,.inr (Nat.le_refl _),by omega,hle,?_,?_⟩
 ·have h2:s.data.size=s.size:=rfl
  simp only [bytesRow,Array.size_append,Array.size_map,Array.size_replicate,h2]
  omega
 ·unfold bytesRow zU
  rw [Array.toList_append,List.take_append_of_le_length (by simp)]
  rw [List.take_of_length_le (by simp)]
  simp
end
section
variable {P:Program} (w:World)
theorem run_appB (t ty e:TypeId) (i:TypeInfo) (ht:P.underlying t=some (.slice e)) (hi:P.info? e=some i) (hz:i.zero=some (.int .u8 0)) (hsize:i.size=1) (hby:i.bytes=1)
  {B:Nat} {v:Value} {l:List UInt8} (hown:OwnB e w B v l) {x:Value} {m:List UInt8} (hx:Sl w x m.length (zU m))
  (h63:l.length+m.length<=maxLen) (hbytes:l.length+m.length<=140737488355328) (hbase:B<=w.heap.size) :
  ∃ v' w',(Builtin.append_ #[t,t] ty #[v,x]).run P w=.ok v' w'/\OwnB e w' B v' (l++m)/\w.grownBy w' v.ownBlock:=by
 have hsmall:l.length+m.length<=9223372036854775807:=by simp only [maxLen] at h63;omega
 have grown:∀ (old:Nat),old<l.length+m.length->∀ (row:Option Nat),
   OwnB e (w.drew.alloc (.cells ((zU l).toArray++(zU m).toArray++Builtin.zeroCells (Value.int IntKind.u8 0).cells (grownCap w (l.length+m.length) old e - (l.length+m.length))) e)) B
    (.slice (some ⟨w.heap.size,0,none⟩) (l.length+m.length) (grownCap w (l.length+m.length) old e)) (l++m) /\
   w.grownBy (w.drew.alloc (.cells ((zU l).toArray++(zU m).toArray++Builtin.zeroCells (Value.int IntKind.u8 0).cells (grownCap w (l.length+m.length) old e - (l.length+m.length))) e)) row:=by
  intro old ho row
  have hge:=grownCap_ge w (l.length+m.length) old e
  have hcm:grownCap w (l.length+m.length) old e<=maxLen:=grownCap_le_maxLen w (l.length+m.length) old e h63
  refine ⟨.inr ⟨w.heap.size,_,_,(0,0),by rw [List.length_append],hbase,heap_alloc_new w.drew _,.inl rfl,by rw [List.length_append];exact hge,hcm,?_,?_⟩,⟨rfl,rfl,rfl,by simp,fun k hk _=>(World.grownBy_alloc w.drew _ none).block k hk (by simp)⟩⟩
  ·have hz1:(Value.int IntKind.u8 0).cells.size=1:=rfl
   simp only [Array.size_append,List.size_toArray,size_zeroCells,hz1,zaa]
   omega
  ·simp only [Array.toList_append]
   rw [zdz,List.take_append_of_le_length (by simp [zaa]),List.take_of_length_le (by simp [zaa])]
 have hempty:∀ (ao:Option Addr) (n c:Nat),(Builtin.firstCells 1 0 (.slice ao n c)).run P w=.ok #[] w:=by
  intro ao n c
  cases ao with
  | none=>simp [Builtin.firstCells]
  | some a =>
   have:=run_firstCells_some (P:=P) w 1 0 a n c [] rfl (fun j u hj=>by simp at hj)
   simpa using this
 rcases hx with ⟨rfl,hm0,_⟩|⟨bx,ox,cx,rfl,hmc,hcx,hcells⟩
 ·-- nothing to append
  have hm:m = []:=List.eq_nil_of_length_eq_zero hm0
  subst hm
  rcases hown with ⟨rfl,rfl⟩|⟨g,cap,cur,fz,rfl,hbg,hg,hfz,hnc,hcm,hcs,htake⟩
  ·refine ⟨.slice none 0 0,w,?_,by simpa using OwnB.nil e w B,⟨rfl,rfl,rfl,Nat.le_refl _,fun _ _ _=>rfl⟩⟩
   simp [Builtin.append_,run_underlying ht,sizeOf,typeInfo,hi,Builtin.lenOf,Builtin.firstCells,loadCells,loadCellsFrom]
  ·refine ⟨_,w,?_,by rw [List.append_nil];exact .inr ⟨g,cap,cur,fz,rfl,hbg,hg,hfz,hnc,hcm,hcs,htake⟩,⟨rfl,rfl,rfl,Nat.le_refl _,fun _ _ _=>rfl⟩⟩
   simp [Builtin.append_,run_underlying ht,sizeOf,typeInfo,hi,Builtin.lenOf,hnc,Builtin.firstCells,storeCells]
 ·have hnews:∀ j u,(zU m)[j]?=some u->w.cell? ((⟨bx,ox,none⟩ : Addr).add j)=some u:=fun j u hj=>by rw [zbQ];exact hcells j u hj
  rcases hown with ⟨rfl,rfl⟩|⟨g,cap,cur,fz,rfl,hbg,hg,hfz,hnc,hcm,hcs,htake⟩
  ·by_cases hm:m.length=0
   ·have hme:m = []:=List.eq_nil_of_length_eq_zero hm
    subst hme
    refine ⟨.slice none 0 0,w,?_,by simpa using OwnB.nil e w B,⟨rfl,rfl,rfl,Nat.le_refl _,fun _ _ _=>rfl⟩⟩
    simp [Builtin.append_,run_underlying ht,sizeOf,typeInfo,hi,hsize,Builtin.lenOf,hempty,loadCells,loadCellsFrom]
   ·have hr:=run_append_nil (P:=P) w t ty e i _ ht hi hz ⟨bx,ox,none⟩ m.length cx (zU m) (by rw [zaa,hsize,Nat.mul_one]) hnews (by omega) (by simp at hsmall;omega) (by rw [hby];simp at hbytes;omega)
    have hgr:=grown 0 (by simp;omega) (Value.ownBlock (.slice none 0 0))
    simp only [List.length_nil,Nat.zero_add,List.nil_append] at hgr ⊢
    refine ⟨_,_,hr,?_,?_⟩
    ·simpa [zU] using hgr.1
    ·simpa [zU] using hgr.2
  ·by_cases hroom:l.length+m.length<=cap
   ·have hf:=run_firstCells_some (P:=P) w i.size m.length ⟨bx,ox,none⟩ m.length cx (zU m) (by rw [zaa,hsize,Nat.mul_one]) hnews
    have hst:=zch P g l.length e fz (zU m) 0 cur w hg hfz (by rw [zaa];omega) (zhW m)
    simp only [Nat.add_zero,zaa] at hst
    refine ⟨.slice (some ⟨g,0,none⟩) (l.length+m.length) cap,w.setRow g (cur.toList.take l.length++zU m++cur.toList.drop (l.length+m.length)).toArray,?_,.inr ⟨g,cap,_,fz,by rw [List.length_append],hbg,setRow_heap w g cur _ e _ hg,?_,by rw [List.length_append];exact hroom,hcm,?_,?_⟩,⟨rfl,rfl,rfl,by simp,fun k _ hk=>setRow_other w g k _ (fun e=>hk (by simp [Value.ownBlock,e]))⟩⟩
    ·rw [hsize] at hf
     simp [Builtin.append_,run_underlying ht,sizeOf,typeInfo,hi,hsize,Builtin.lenOf,hroom,hf,Addr.add_lit,hst]
    ·have hsz:(cur.toList.take l.length++zU m++cur.toList.drop (l.length+m.length)).toArray.size=cur.size:=by
      simp only [List.size_toArray,List.length_append,List.length_take,List.length_drop,Array.length_toList,zaa]
      omega
     rw [hsz]
     exact hfz
    ·simp only [List.size_toArray,List.length_append,List.length_take,List.length_drop,Array.length_toList,zaa]
     omega
    ·rw [htake,zdz,List.take_append_of_le_length (by simp [zaa]),List.take_of_length_le (by simp [zaa])]
   ·have holds:∀ j u,(zU l)[j]?=some u->w.cell? ((⟨g,0,none⟩ : Addr).add j)=some u:=by
     intro j u hj
     rw [zbQ]
     have hl:j<l.length:=by
      have:=(List.getElem?_eq_some_iff.1 hj).1
      rwa [zaa] at this
     rw [<- htake,List.getElem?_take,if_pos hl] at hj
     simp only [World.cell?,hg,Nat.zero_add]
     simpa using hj
    have hr:=run_append_grow (P:=P) w t ty e i _ ht hi hz ⟨g,0,none⟩ l.length cap (zU l) (by rw [zaa,hsize,Nat.mul_one]) holds ⟨bx,ox,none⟩ m.length cx (zU m) (by rw [zaa,hsize,Nat.mul_one]) hnews (by omega) (by omega) (by rw [hby];exact growslice_fits (by omega) (by omega))
    have hgr:=grown cap (by omega) (Value.ownBlock (.slice (some ⟨g,0,none⟩) l.length cap))
    exact ⟨_,_,hr,hgr.1,hgr.2⟩
structure ByteT (P:Program) (t e:TypeId):Prop where
 sl:P.underlying t=some (.slice e)
 el:P.underlying e=some (.int .u8)
 inf:∃ i:TypeInfo,P.info? e=some i/\i.zero=some (.int .u8 0)/\i.size=1/\i.bytes=1
theorem ByteT.of {t e:TypeId} (h1:P.underlying t=some (.slice e)) (h2:P.underlying e=some (.int .u8)) (h:(P.info? e).map (fun i=>(i.zero,i.size,i.bytes))=some (some (.int .u8 0),1,1)):ByteT P t e:=by
 refine ⟨h1,h2,?_⟩
 cases hi:P.info? e with
 | none=>rw [hi] at h;simp at h
 | some i =>
  rw [hi] at h
  simp at h
  exact ⟨i,rfl,h.1,h.2.1,h.2.2⟩
theorem zjc {t e:TypeId} (E:ByteT P t e) {o:Oper} {a:Act} {K:Act->World->Prop} {Q:Exit->Act->World->Prop} (s x:Operand)
  (ho:o.op=.call { callee:=.builtin .append,args:=#[s,x],argTypes:=#[t,t] })
  {B:Nat} {v:Value} {l:List UInt8} (hown:OwnB e w B v l) (hs:a.eval s=v)
  {vx:Value} {m:List UInt8} (hx:Sl w vx m.length (zU m)) (hvx:a.eval x=vx) (hb:l.length+m.length<=140737488355328) (hbase:B<=w.heap.size)
  (h:∀ v' w',OwnB e w' B v' (l++m)->w.grownBy w' v.ownBlock->K (a.put o.dst v') w'):o.wp P a w K Q:=by
 obtain ⟨i,h1,h2,h3,h4⟩:=E.inf
 obtain ⟨v',w',hr,h5,h6⟩:=run_appB (P:=P) w t o.type e i E.sl h1 h2 h3 h4 hown hx (by unfold maxLen;omega) hb hbase
 unfold Oper.wp execOp
 simp only [ho,resolve,invoke,builtin,Sem.run_bind,Sem.run_pure,Result.andThen_ok,List.map_toArray,List.map_cons,List.map_nil,hs,hvx,hr]
 exact h v' w' h5 h6
theorem zdD {t e:TypeId} (E:ByteT P t e) {ops:Array Oper} {rest:List Oper} {o:Oper} {a:Act} {Q:Exit->Act->World->Prop} (hgd:o.guard=none) (s x:Operand)
  (ho:o.op=.call { callee:=.builtin .append,args:=#[s,x],argTypes:=#[t,t] })
  {B:Nat} {v:Value} {l:List UInt8} (hown:OwnB e w B v l) (hs:a.eval s=v)
  {vx:Value} {m:List UInt8} (hx:Sl w vx m.length (zU m)) (hvx:a.eval x=vx) (hb:l.length+m.length<=140737488355328) (hbase:B<=w.heap.size)
  (h:∀ v' w',OwnB e w' B v' (l++m)->w.grownBy w' v.ownBlock->wpList P ops Q rest (a.put o.dst v') w'):wpList P ops Q (o :: rest) a w :=
 wpList_plain hgd fun _ hK=>zjc w E s x ho hown hs hx hvx hb hbase (fun v' w' a1 a2=>hK _ _ (h v' w' a1 a2))
theorem zbz {t u e:TypeId} (E:ByteT P t e) (hu:P.underlying u=some .string) {v:Value} {l:List UInt8} (h:Sl w v l.length (zU l)) :
  (convert t u v).run P w=.ok (.string ⟨l.toArray⟩) w:=by
 rcases h with ⟨rfl,hn,_⟩|⟨b,off,cap,rfl,_,_,hc⟩
 ·have:l = []:=List.eq_nil_of_length_eq_zero hn
  subst this
  exact run_convert_bytes_nil w t e E.sl E.el 0 0 u hu
 ·refine run_convert_bytes_back w t u e ⟨b,off,none⟩ cap l E.sl E.el hu (fun j hj=>?_)
  rw [zbQ]
  refine hc j _ ?_
  unfold zU
  rw [List.getElem?_map,List.getElem?_eq_getElem hj]
  rfl
end
theorem RowKit.Below.appB {a w w':World} {v:Value} {e:TypeId} {l:List UInt8} (h:Below a.heap.size a w) (hg:w.grownBy w' v.ownBlock) (ho:OwnB e w a.heap.size v l):Below a.heap.size a w':=by
 refine ⟨hg.os.trans h.os,hg.tape.trans h.tape,hg.output.trans h.output,Nat.le_trans h.size hg.size,fun k hk=>?_⟩
 rw [hg.block k (Nat.lt_of_lt_of_le hk h.size) (fun e=>by have:=ho.lt k e.symm;omega)]
 exact h.block k hk
end Go
namespace Go
theorem Sx.refl (w:World):Sx w w:=⟨⟨#[],w.drawn⟩,(zek _ _ rfl).symm⟩
section
variable {P:Program} {ops:Array Oper} {Q:Exit->Act->World->Prop} {S:World->Prop} {n:Nat}
def zct (ops:Array Oper):Nat->Nat->Nat->Bool
 | 0,_,_=>false
 | f+1,j,i=>match ops[j]? with
  | none=>false
  | some o=>o.after.any fun e=>Region.binds .any e && (e.on==i || zct ops f e.on i)
def zfi (ops:Array Oper) (n i:Nat):Bool:=(List.range ops.size).all fun j=>decide (j<n) || zct ops ops.size j i
def zeQ (ops:Array Oper) (listed:Array Bool):Prop:=∀ k o,ops[k]?=some o->listed.getD k false=true->∀ e ∈ o.after,Region.binds .any e=true->listed.getD e.on false=true
theorem zc1 {listed:Array Bool} (hc:zeQ ops listed) {i:Nat}:∀ (f j:Nat) (o:Oper),ops[j]?=some o->(∀ e ∈ o.after,Region.binds .any e=true->listed.getD e.on false=true)->zct ops f j i=true->listed.getD i false=true
 | 0,_,_,_,_,h=>by simp [zct] at h
 | f+1,j,o,ho,hd,h=>by
  simp only [zct,ho] at h
  obtain ⟨e,he,hb⟩:=Array.any_eq_true'.1 h
  simp only [Bool.and_eq_true,Bool.or_eq_true,beq_iff_eq] at hb
  obtain ⟨hb1,hb2⟩:=hb
  have hl:=hd e he hb1
  rcases hb2 with hb2|hb2
  ·rw [<- hb2];exact hl
  ·cases ho2:ops[e.on]? with
   | none =>
    cases f with
    | zero=>simp [zct] at hb2
    | succ f=>simp [zct,ho2] at hb2
   | some o2=>exact zc1 hc f e.on o2 ho2 (hc e.on o2 ho2 hl) hb2
theorem zb1 {listed:Array Bool} (hc:zeQ ops listed) {i:Nat} (hr:i ∈ Region.ready .any ops listed):zeQ ops (listed.setIfInBounds i true):=by
 obtain ⟨_,oi,hoi,hall⟩:=mem_ready.1 hr
 have keep:∀ k,listed.getD k false=true->(listed.setIfInBounds i true).getD k false=true:=fun k hk=>getD_set_true hk
 intro k o ho hk e he hb
 by_cases hik:i=k
 ·subst hik
  rw [hoi] at ho
  cases ho
  exact keep _ (hall e he hb)
 ·rw [getD_set_ne false hik] at hk
  exact keep _ (hc k o ho hk e he hb)
theorem zfP {i j:Nat} {o:Oper} (h:zfi ops n i=true) (hj:ops[j]?=some o) (hn:n<=j):zct ops ops.size j i=true:=by
 have hlt:j<ops.size:=(Array.getElem?_eq_some_iff.1 hj).1
 have h1:=List.all_eq_true.1 h j (List.mem_range.2 hlt)
 simp only [Bool.or_eq_true,decide_eq_true_eq] at h1
 rcases h1 with h1|h1
 ·omega
 ·exact h1
theorem zfC (ops:Array Oper) (m:Nat):zeQ ops (Array.replicate m false):=by
 intro k o _ h
 simp only [Array.getD_eq_getD_getElem?,Array.getElem?_replicate] at h
 split at h<;>simp at h
theorem zdT {i:Nat} {oi:Oper} {v:Value} (hi:ops[i]?=some oi) (hs:Region.noSelect ops=true)
  (hQ:∀ c a w,Q (.panic c) (a.put oi.dst v) w->Q (.panic c) a w) (ht:zfi ops n i=true) :
  ∀ (fuel:Nat) (listed:Array Bool) (a:Act) (w:World),zeQ ops listed ->
   (∀ j oj,ops[j]?=some oj->j ≠ i->listed.getD j true=false->(∀ e ∈ oj.after,Region.binds .any e=true->e.on ≠ i)->oi.apart ops oj=true) ->
   i ∈ Region.ready .any ops listed->YieldsQ P ops S oi v a->S w ->
   zcb P ops Q S n fuel (listed.setIfInBounds i true) (a.put oi.dst v) w->zcb P ops Q S n (fuel+1) listed a w:=by
 have hsel:=Region.noSelect_spec hs
 intro fuel
 induction fuel with
 | zero =>
  intro listed a w _ _ hr hy hS H
  refine ⟨fun h=>(by rw [h] at hr;cases hr),fun j hj=>?_⟩
  by_cases hji:j=i
  ·subst hji;exact hy.wpOp hi hS ⟨fun _=>hS,H⟩
  ·have:=ready_mono hj hji
   rw [H.1] at this
   cases this
 | succ fuel ih =>
  intro listed a w hcl hfree hr hy hS H
  refine ⟨fun h=>(by rw [h] at hr;cases hr),fun j hj=>?_⟩
  by_cases hji:j=i
  ·subst hji;exact hy.wpOp hi hS ⟨fun _=>hS,H⟩
  ·have h1:=H.2 j (ready_mono hj hji)
   obtain ⟨hjun,oj,hoj,hall⟩:=mem_ready.1 hj
   have hnot:∀ e ∈ oj.after,Region.binds .any e=true->e.on ≠ i:=fun e he hb heq =>
    zbl (mem_ready.1 hr).1 (heq ▸ hall e he hb)
   have hjn:j<n:=by
    rcases Nat.lt_or_ge j n with h|h
    ·exact h
    ·exact (zbl (mem_ready.1 hr).1 (zc1 hcl _ j oj hoj hall (zfP ht hoj h))).elim
   have h2:=zdS hoj (hfree j oj hoj hji hjun hnot) (fun cs b=>hsel i oi cs b hi) (fun cs b=>hsel j oj cs b hoj) hQ hy h1
   have hfree':∀ k ok,ops[k]?=some ok->k ≠ i->(listed.setIfInBounds j true).getD k true=false ->
     (∀ e ∈ ok.after,Region.binds .any e=true->e.on ≠ i)->oi.apart ops ok=true:=fun k ok hk hki hun hno=>by
    refine hfree k ok hk hki ?_ hno
    by_cases hjk:j=k
    ·subst hjk;exact hjun
    ·rw [getD_set_ne true hjk] at hun;exact hun
   refine wpOp_mono (fun a' w' h3=>⟨fun _=>h3.2.1 hjn,ih (listed.setIfInBounds j true) a' w' (zb1 hcl hj) hfree' (ready_mono hr (Ne.symm hji)) h3.1 (h3.2.1 hjn) ?_⟩) h2
   rw [Array.setIfInBounds_comm _ _ hji]
   exact h3.2.2
def zeL (ops:Array Oper) (n:Nat):List (Nat × Bool)->Array Bool->Bool
 | [],listed=>(Region.ready .any ops listed).isEmpty
 | (i,true) :: r,listed=>decide (i<n) && (Region.ready .any ops listed).contains i && Region.free .any ops listed i && zfi ops n i && zeL ops n r (listed.setIfInBounds i true)
 | (i,false) :: r,listed=>(decide (i<n) || r.all fun x=>decide (n<=x.1)) && (match Region.ready .any ops listed with|[j]=>j==i|_=>false) && zeL ops n r (listed.setIfInBounds i true)
theorem zcp {ι : Type} {F : ι->World} (hs:Region.noSelect ops=true) (hQ:∀ c (a:Act) (d:Option Tmp) (v:Value) w,Q (.panic c) (a.put d v) w->Q (.panic c) a w) :
  ∀ (ord:List (Nat × Bool)) (listed:Array Bool) (a:Act) (w:World),zeQ ops listed->zeL ops n ord listed=true->((∃ x ∈ ord,x.1<n)->Sf F w)->zaW P ops Q F n ord a w ->
   zcb P ops Q (Sf F) n ord.length listed a w
 | [],listed,a,w,_,hok,_,h=>by
  simp only [zeL,List.isEmpty_iff] at hok
  exact ⟨hok,h⟩
 | (i,true) :: r,listed,a,w,hcl,hok,hS,h=>by
  simp only [zeL,Bool.and_eq_true,decide_eq_true_eq] at hok
  obtain ⟨⟨⟨⟨hin,hr⟩,hf⟩,ht⟩,hok⟩:=hok
  have hw:=hS ⟨(i,true),by simp,hin⟩
  simp only [zaW] at h
  cases ho:ops[i]? with
  | none=>simp [ho] at h
  | some o =>
   simp only [ho] at h
   have again:=fun a' h'=>zcp hs hQ r (listed.setIfInBounds i true) a' w (zb1 hcl (by simpa using hr)) hok (fun _=>hw) h'
   by_cases hwt:Region.wanted o (yielded ops a.tmps)=true
   ·simp only [hwt,if_true] at h
    obtain ⟨v,hv,hk⟩:=h
    exact zdT ho hs (fun c a w=>hQ c a _ _ w) ht _ listed a w hcl (Region.free_spec ho hf) (by simpa using hr)
     (Or.inl ⟨hwt,fun w' hw'=>by obtain ⟨X,rfl⟩:=hw';exact hv X⟩) hw (again _ hk)
   ·have hwt':Region.wanted o (yielded ops a.tmps)=false:=by simpa using hwt
    simp only [hwt',Bool.false_eq_true,if_false] at h
    exact zdT ho hs (fun c a w=>hQ c a _ _ w) ht _ listed a w hcl (Region.free_spec ho hf) (by simpa using hr)
     (Or.inr ⟨hwt',rfl⟩) hw (again _ h)
 | (i,false) :: r,listed,a,w,hcl,hok,hS,h=>by
  simp only [zeL,Bool.and_eq_true,Bool.or_eq_true,decide_eq_true_eq] at hok
  obtain ⟨⟨hin,hr⟩,hok⟩:=hok
  have hr':Region.ready .any ops listed = [i]:=by
   split at hr
   ·rename_i j hj;rw [hj];simp at hr;rw [hr]
   ·cases hr
  refine ⟨fun h0=>(by rw [h0] at hr';cases hr'),fun j hj=>?_⟩
  rw [hr',List.mem_singleton] at hj
  subst hj
  simp only [zaW] at h
  cases ho:ops[j]? with
  | none=>simp [ho] at h
  | some o =>
   simp only [ho] at h
   unfold wpOp
   simp only [ho]
   have again:=fun (a':Act) (w':World) (hw':(∃ x ∈ r,x.1<n)->Sf F w') h'=>zcp (F:=F) hs hQ r (listed.setIfInBounds j true) a' w' (zb1 hcl (by rw [hr'];simp)) hok hw' h'
   have later:(∃ x ∈ r,x.1<n)->j<n:=fun ⟨x,hx,hxn⟩=>by
    rcases hin with h1|h1
    ·exact h1
    ·have:=List.all_eq_true.1 h1 x hx
     simp only [decide_eq_true_eq] at this
     omega
   by_cases hwt:Region.wanted o (yielded ops a.tmps)=true
   ·simp only [hwt,if_true] at h ⊢
    exact Or.inl (Oper.wp_mono (fun a' w' h'=>⟨h'.1,again a' w' (fun hx=>h'.1 (later hx)) h'.2⟩) h)
   ·have hwt':Region.wanted o (yielded ops a.tmps)=false:=by simpa using hwt
    simp only [hwt',Bool.false_eq_true,if_false] at h ⊢
    exact ⟨fun hj=>hS ⟨(j,false),by simp,hj⟩,again _ _ (fun hx=>hS ⟨(j,false),by simp,later hx⟩) h⟩
theorem zfb {ι : Type} (F : ι->World) {id:Nat} {l:List Oper} {a:Act} {w:World} (ord:List (Nat × Bool)) (n:Nat) (hm:P.follows .mixedOrders=true)
  (hok:(zeL l.toArray n ord (Array.replicate l.toArray.size false) && Region.noSelect l.toArray && ord.length==l.toArray.size)=true)
  (h0:Sf F w.drew) (h:zaW P l.toArray (zeq Q) F n ord a w.drew):(Code.region id l.toArray true).wp P Q a w:=by
 simp only [Bool.and_eq_true,beq_iff_eq] at hok
 have h1:(Code.region id l.toArray true).wp P (zeq Q) a w:=by
  refine wp_region_any hm ?_
  rw [<- hok.2]
  exact zdd _ _ _ _ (zcp hok.1.2 (fun _ _ _ _ _ h=>h) ord _ a _ (zfC _ _) (hok.2 ▸ hok.1.1) (fun _=>h0) h)
 exact Code.wp_mono (fun e a w h=>by cases e<;>first|exact h|exact h.elim) h1
theorem zaB {id:Nat} {l:List Oper} {a:Act} {w:World} (ord:List (Nat × Bool)) (n:Nat) (hm:P.follows .mixedOrders=true)
  (hok:(zeL l.toArray n ord (Array.replicate l.toArray.size false) && Region.noSelect l.toArray && ord.length==l.toArray.size)=true)
  (h:zaW P l.toArray (zeq Q) (fun X=>w.ext X) n ord a w.drew):(Code.region id l.toArray true).wp P Q a w:=zfb (fun X=>w.ext X) ord n hm hok (Sx.drew w) h
end
end Go
namespace Go.Proofs.YtncnbihlngapbaaGreat
open Go.ChangeShapes Go.WideShapes Go.ChangeAt Go.RowKit
theorem zbK:ByteT Tryz.prog 22 5:=ByteT.of Tryz.underlying22 Tryz.underlying5 (by kernel_rfl)
def zas (l:List UInt8):ByteArray:=⟨l.toArray⟩
theorem zaj (l:List UInt8):(zas l).size=l.length:=by unfold zas;show l.toArray.size = _;simp
theorem zix (l:List UInt8):(zas l).data.toList=l:=by simp [zas]
def zhx (s:ByteArray):ByteArray:=if s.size<=20000 then zas (Lib.Hx.encode s.data.toList) else ⟨#[]⟩
theorem zfz (s:ByteArray):(zhx s).size<=40000:=by
 unfold zhx
 split
 ·rw [zaj,Lib.Hx.encode_length]
  have:s.data.toList.length=s.size:=by simp
  omega
 ·decide
theorem zed {x:Nat} (h:x<10):Lib.Hx.digit x=UInt8.ofNat (48+x):=by
 match x,h with
 | 0,_|1,_|2,_|3,_|4,_|5,_|6,_|7,_|8,_|9,_=>rfl
theorem digit_hi {x:Nat} (h : 10<=x) (h2:x<16):Lib.Hx.digit x=UInt8.ofNat (87+x):=by
 rcases (by omega:x=10 ∨ x=11 ∨ x=12 ∨ x=13 ∨ x=14 ∨ x=15) with rfl|rfl|rfl|rfl|rfl|rfl<;>rfl
theorem zfH (w:World) (cs:Array Value) (t:TypeId) {b:Nat} (hb:b=w.heap.size):(w.alloc (.cells cs t)).heap[b]?=some (.cells cs t (0,0)):=by
 subst hb
 exact heap_alloc_new w _
theorem zdu (x:Int) (w:World) (h0 : 0<=x) (h1:x<16) :
  Calls Tryz.prog 113 #[.int .i64 x] w fun e w'=>e=.returned (.int .u8 ((Lib.Hx.digit x.toNat).toNat:Int))/\w=w':=by
 go_enter Tryz.func113,Tryz.ntmps113
 go_wp2
 all_goals go_ret
 ·refine ⟨zjn ?_,rfl⟩
  rw [zed (by omega)]
  simp
  omega
 ·refine ⟨zjn ?_,rfl⟩
  rw [digit_hi (by omega) (by omega)]
  simp
  omega
theorem enc_snoc (l:List UInt8) (c:UInt8):Lib.Hx.encode (l ++ [c])=Lib.Hx.encode l ++ [Lib.Hx.digit (c.toNat / 16),Lib.Hx.digit (c.toNat % 16)]:=by
 simp [Lib.Hx.encode,List.flatMap_append]
theorem zcL (s:ByteArray) (w:World) (hs:s.size<=9223372036854775807) :
  Calls Tryz.prog 97 #[.string s] w fun e w'=>e=.returned (.tuple #[.string (zhx s),.bool (decide (s.size<=20000))])/\Below w.heap.size w w':=by
 go_enter Tryz.func97,Tryz.ntmps97
 by_cases hb:(20000:Int)<s.size
 ·go_wp2
  refine bodyPost_ret (by simp [results,Tryz.results97,go_sem];rfl) rfl ?_
  refine ⟨?_,(by repeat (first|with_reducible exact Below.refl _ _|with_reducible apply Below.ofExt|with_reducible apply Below.ofAlloc|with_reducible apply Below.drew|with_reducible apply Below.ofDrewN|with_reducible assumption|(with_reducible refine Below.setCell ?_ (by first|exact Nat.le_refl _|(simp [go_sem];done)|(simp [go_sem];omega)) _)))⟩
  unfold zhx
  rw [if_neg (by omega),decide_eq_false (by omega)]
 go_wp2
 go_loopw [4,5] (fun o k wr=>∃ (n:Nat),k=.int .i64 n/\n<=s.size/\Below w.heap.size w wr/\OwnB 5 wr w.heap.size o (Lib.Hx.encode (s.data.toList.take n))) (fun _ k _=>s.size - (intOf k).toNat)
 case atStart=>exact ⟨0,rfl,by omega,(by repeat (first|with_reducible exact Below.refl _ _|with_reducible apply Below.ofExt|with_reducible apply Below.ofAlloc|with_reducible apply Below.drew|with_reducible apply Below.ofDrewN|with_reducible assumption|(with_reducible refine Below.setCell ?_ (by first|exact Nat.le_refl _|(simp [go_sem];done)|(simp [go_sem];omega)) _))),OwnB.empty _ _⟩
 case round =>
  obtain ⟨n,rfl,hn,hbel,ho⟩:=hrel
  obtain ⟨X,rfl⟩:=hbel.ext
  by_cases hlt:(n:Int)<s.size
  case pos =>
   have hk:n<s.size:=by omega
   have hc1:(s[n].toNat:Int)<=255:=by have:=s[n].toNat_lt;omega
   have hc0 : 0<=(s[n].toNat:Int):=by omega
   have hst:=enc_snoc (s.data.toList.take n) s[n]
   rw [<- zff s n hk] at hst
   have htm:((s[n].toNat:Int)).tmod 16=(s[n].toNat:Int) % 16:=Int.tmod_eq_emod_of_nonneg (by omega)
   have HTM:=Hd htm
   clear htm
   have HST:=Hd hst
   have hlen:(Lib.Hx.encode (s.data.toList.take n)).length<=40000:=by rw [Lib.Hx.encode_length];simp;omega
   have HLN:=Hd hlen
   clear hst hlen
   generalize Lib.Hx.encode (s.data.toList.take n)=l at *
   obtain ⟨oa,oc,rfl⟩:=ho.form
   have HO:=Hd ho
   clear ho
   go_wp2
   refine zaB [(0,true),(1,true),(2,true),(3,true),(4,true),(5,true),(7,true),(8,true),(9,true),(10,true),(11,true),(6,false),(12,false),(13,false),(14,false),(15,false)] 14 (by kernel_rfl) (by kernel_rfl) ?_
   repeat (refine zq rfl (fun K hK=>?_);go_simp;(try simp (disch:=omega) only [IntWalk.i64_in]);refine hK _ ?_;clear hK K)
   rw [HTM.out]
   refine zo rfl (fun K hK=>?_);go_simp;go_at_call 113;refine (zdu _ _ (by omega) (by omega)).mono ?_;rintro e w' ⟨rfl,rfl⟩;try go_simp;refine hK _ _ (by show Sx _ _;(try simp only [<- Array.append_assoc]);repeat (first|with_reducible exact Sx.drew _|with_reducible exact Sx.same _ _ _ _|with_reducible exact ⟨_,rfl⟩|with_reducible apply Sx.more|with_reducible apply Sx.ext|with_reducible apply Sx.alloc|with_reducible apply zL|with_reducible exact Sx.refl _)) ?_;clear hK K
   refine zo rfl (fun K hK=>?_);go_simp;go_at_call 113;refine (zdu _ _ (by omega) (by omega)).mono ?_;rintro e w' ⟨rfl,rfl⟩;try go_simp;refine hK _ _ (by show Sx _ _;(try simp only [<- Array.append_assoc]);repeat (first|with_reducible exact Sx.drew _|with_reducible exact Sx.same _ _ _ _|with_reducible exact ⟨_,rfl⟩|with_reducible apply Sx.more|with_reducible apply Sx.ext|with_reducible apply Sx.alloc|with_reducible apply zL|with_reducible exact Sx.refl _)) ?_;clear hK K
   refine zo rfl (fun K hK=>?_);go_simp;refine hK _ _ (by show Sx _ _;(try simp only [<- Array.append_assoc]);repeat (first|with_reducible exact Sx.drew _|with_reducible exact Sx.same _ _ _ _|with_reducible exact ⟨_,rfl⟩|with_reducible apply Sx.more|with_reducible apply Sx.ext|with_reducible apply Sx.alloc|with_reducible apply zL|with_reducible exact Sx.refl _)) ?_;clear hK K
   refine zy rfl rfl (fun K hK=>?_)
   rw [if_pos (by rfl)]
   refine zjc _ zbK (.tmp 16) (.tmp 29) rfl (B:=w.heap.size) (l:=l) (m:=[Lib.Hx.digit (s[n].toNat / 16),Lib.Hx.digit (s[n].toNat % 16)]) ((OwnB.same HO.out).alloc _) rfl (vx:=.slice (some ⟨w.heap.size+X.bs.size,0,none⟩) 2 2) ?_ rfl (by have:=HLN.out;simp;omega) (by simp [zw];omega) ?_
   ·refine zdP (t:=5) (f:=(0,0)) (zfH _ _ _ (by simp [zw])) (by decide)
   intro v4 w4 hown4 hgr4
   refine hK _ _ ?_
   clear hK K
   have hb4:Below w.heap.size w w4:=Below.appB (by repeat (first|with_reducible exact Below.refl _ _|with_reducible apply Below.ofExt|with_reducible apply Below.ofAlloc|with_reducible apply Below.drew|with_reducible apply Below.ofDrewN|with_reducible assumption|(with_reducible refine Below.setCell ?_ (by first|exact Nat.le_refl _|(simp [go_sem];done)|(simp [go_sem];omega)) _))) hgr4 ((OwnB.same HO.out).alloc _)
   repeat (refine zy rfl rfl (fun K hK=>?_);go_simp;refine hK _ _ ?_;clear hK K)
   refine zX ?_
   go_wp2
   go_roundw
   case rel=>exact ⟨n+1,by go_num,by omega,hb4,by rw [HST.out];exact hown4⟩
   case measure=>simp [intOf];omega
  case neg =>
   have e:n=s.size:=by omega
   subst e
   rw [List.take_of_length_le (by simp)] at ho
   have hr:=zbz (P:=Tryz.prog) (w.ext X) zbK Tryz.underlying9 ho.sl
   obtain ⟨oa,oc,rfl⟩:=ho.form
   clear ho
   go_wp2
   refine bodyPost_ret (by simp [results,Tryz.results97,go_sem];rfl) rfl ?_
   refine ⟨?_,(by repeat (first|with_reducible exact Below.refl _ _|with_reducible apply Below.ofExt|with_reducible apply Below.ofAlloc|with_reducible apply Below.drew|with_reducible apply Below.ofDrewN|with_reducible assumption|(with_reducible refine Below.setCell ?_ (by first|exact Nat.le_refl _|(simp [go_sem];done)|(simp [go_sem];omega)) _)))⟩
   unfold zhx
   rw [if_pos (by omega),decide_eq_true (by omega)]
   rfl
theorem zjQ (w:World) (c:UInt8) (x:Int) (hx:x=(c.toNat:Int)) (b:Nat) (hb:b=w.heap.size) :
  Sem.run Tryz.prog (convert 22 9 (.slice (some ⟨b,0,none⟩) 1 1)) (w.alloc (.cells #[.int .u8 x] 5))=.ok (.string ⟨#[c]⟩) (w.alloc (.cells #[.int .u8 x] 5)):=by
 subst hb hx
 refine run_convert_bytes_back (w:=w.alloc (.cells #[.int .u8 (c.toNat:Int)] 5)) (P:=Tryz.prog) 22 9 5 ⟨w.heap.size,0,none⟩ 1 [c] Tryz.underlying22 Tryz.underlying5 Tryz.underlying9 ?_
 intro j hj
 have:j=0:=by simpa using hj
 subst this
 show (w.alloc _).cell? ⟨w.heap.size,0,none⟩ = _
 simp [go_sem]
def zhT (m:Nat):List UInt8:=if m=0 then [] else Lib.decDigits m
theorem zfB {m:Nat} (h:m ≠ 0):zhT m=zhT (m / 10) ++ [Lib.Hx.digit (m % 10)]:=by
 unfold zhT
 rw [if_neg h,Lib.decDigits]
 split
 ·rename_i h1
  rw [if_pos (by omega),Nat.mod_eq_of_lt h1,zed h1]
  rfl
 ·rw [if_neg (by omega),zed (by omega)]
theorem dec0_len:∀ (m:Nat),(zhT m).length<=m / 2+1:=by
 intro m
 induction m using Nat.strongRecOn with
 | ind m ih =>
  by_cases h:m=0
  ·subst h;simp [zhT]
  ·rw [zfB h,List.length_append]
   by_cases h2:m<10
   ·rw [show m / 10=0 by omega]
    simp [zhT]
   ·have:=ih (m / 10) (by omega)
    simp
    omega
theorem ze8 (m:Nat):(Lib.decDigits m).length<=m / 2+1:=by
 by_cases h:m=0
 ·subst h
  rw [Lib.decDigits,dif_pos (by decide)]
  simp
 ·have:=dec0_len m
  unfold zhT at this
  rwa [if_neg h] at this
theorem zde (c:UInt8) (l:List UInt8):(⟨#[c]⟩ : ByteArray)++zas l=zas (c :: l):=by
 apply ByteArray.ext
 simp [zas,ByteArray.data_append]
theorem zjy:Lib.itoa 0 = [48]:=by
 unfold Lib.itoa
 rw [if_neg (by decide),Lib.decDigits,dif_pos (by decide)]
 rfl
theorem zbT (n:Int) (w:World) (h0 : -9223372036854775808<=n) (h1:n<=9223372036854775807) :
  Calls Tryz.prog 85 #[.int .i64 n] w fun e w'=>e=.returned (.string (zas (Lib.itoa n)))/\Below w.heap.size w w':=by
 go_enter Tryz.func85,Tryz.ntmps85
 by_cases hz:n=0
 ·subst hz
  go_wp2
  go_ret
  refine ⟨?_,(by repeat (first|with_reducible exact Below.refl _ _|with_reducible apply Below.ofExt|with_reducible apply Below.ofAlloc|with_reducible apply Below.drew|with_reducible apply Below.ofDrewN|with_reducible assumption|(with_reducible refine Below.setCell ?_ (by first|exact Nat.le_refl _|(simp [go_sem];done)|(simp [go_sem];omega)) _)))⟩
  rw [zjy]
  rfl
 have hzb:(n==0)=false:=by simpa using hz
 by_cases hn:n<0
 ·have hi:Lib.itoa n=45 :: Lib.decDigits n.natAbs:=by unfold Lib.itoa;rw [if_pos hn]
  obtain ⟨N,hN⟩ : ∃ N:Nat,n = -(N:Int):=⟨n.natAbs,by omega⟩
  subst hN
  rw [show (-(N:Int)).natAbs=N by omega] at hi
  have HI:=Hd hi
  clear hi
  go_wp2
  go_loopw [0,4] (fun k o wr=>∃ (m:Nat) (l:List UInt8),k=.int .i64 (-(m:Int))/\m<=9223372036854775808/\o=.string (zas l)/\zhT m++l=Lib.decDigits N/\Below w.heap.size w wr) (fun k _ _=>(intOf k).natAbs)
  case atStart=>exact ⟨N,[],rfl,by omega,rfl,by simp [zhT];omega,(by repeat (first|with_reducible exact Below.refl _ _|with_reducible apply Below.ofExt|with_reducible apply Below.ofAlloc|with_reducible apply Below.drew|with_reducible apply Below.ofDrewN|with_reducible assumption|(with_reducible refine Below.setCell ?_ (by first|exact Nat.le_refl _|(simp [go_sem];done)|(simp [go_sem];omega)) _)))⟩
  case round =>
   obtain ⟨m,l,rfl,hm,rfl,hd,hbel⟩:=hrel
   obtain ⟨X,rfl⟩:=hbel.ext
   have hll:(zas l).size<=4611686018427387910:=by
    have:=ze8 N
    rw [<- hd,List.length_append] at this
    rw [zaj]
    omega
   have HD:=Hd hd
   clear hd
   by_cases hmz:m=0
   ·subst hmz
    rw [show (-((0:Nat):Int))=0 from rfl]
    go_wp2
    go_ret
    refine ⟨?_,(by repeat (first|with_reducible exact Below.refl _ _|with_reducible apply Below.ofExt|with_reducible apply Below.ofAlloc|with_reducible apply Below.drew|with_reducible apply Below.ofDrewN|with_reducible assumption|(with_reducible refine Below.setCell ?_ (by first|exact Nat.le_refl _|(simp [go_sem];done)|(simp [go_sem];omega)) _)))⟩
    have:=HD.out
    simp only [zhT,if_true,List.nil_append] at this
    rw [HI.out,<- this,<- zde]
    rfl
   ·have hst:=zfB hmz
    have HST:=Hd hst
    clear hst
    have hrel2:zhT (m / 10)++(Lib.Hx.digit (m % 10) :: l)=Lib.decDigits N:=by
     rw [<- HD.out,HST.out,List.append_assoc]
     rfl
    have HR:=Hd hrel2
    clear hrel2
    by_cases hd0:m % 10=0
    ·have hdi:(m:Int) % 10=0:=by omega
     have hk:=zjQ (w.ext X) (Lib.Hx.digit (m % 10)) 48 (by rw [hd0];rfl) (w.heap.size+X.bs.size) (by rw [zw])
     rw [hd0] at hk HR
     go_wp2
     go_roundw
     case rel=>exact ⟨m / 10,_,by go_num,by omega,by rw [zde],HR.out,(by repeat (first|with_reducible exact Below.refl _ _|with_reducible apply Below.ofExt|with_reducible apply Below.ofAlloc|with_reducible apply Below.drew|with_reducible apply Below.ofDrewN|with_reducible assumption|(with_reducible refine Below.setCell ?_ (by first|exact Nat.le_refl _|(simp [go_sem];done)|(simp [go_sem];omega)) _)))⟩
     case measure=>simp [intOf];omega
    ·have hk:=zjQ (w.ext X) (Lib.Hx.digit (m % 10)) (48+(m:Int) % 10) (by rw [zed (by omega)];simp;omega) (w.heap.size+X.bs.size) (by rw [zw])
     have hpos : 0<(m:Int) % 10:=by omega
     have HD0:=Hd hd0
     clear hd0
     go_wp2
     go_roundw
     case rel=>exact ⟨m / 10,_,by go_num,by omega,by rw [zde],HR.out,(by repeat (first|with_reducible exact Below.refl _ _|with_reducible apply Below.ofExt|with_reducible apply Below.ofAlloc|with_reducible apply Below.drew|with_reducible apply Below.ofDrewN|with_reducible assumption|(with_reducible refine Below.setCell ?_ (by first|exact Nat.le_refl _|(simp [go_sem];done)|(simp [go_sem];omega)) _)))⟩
     case measure=>simp [intOf];omega
 ·have hi:Lib.itoa n=Lib.decDigits n.toNat:=by unfold Lib.itoa;rw [if_neg hn]
  obtain ⟨N,hN⟩ : ∃ N:Nat,n=(N:Int):=⟨n.toNat,by omega⟩
  subst hN
  rw [Int.toNat_natCast] at hi
  have HI:=Hd hi
  clear hi
  go_wp2
  go_loopw [0,4] (fun k o wr=>∃ (m:Nat) (l:List UInt8),k=.int .i64 (m:Int)/\m<=9223372036854775808/\o=.string (zas l)/\zhT m++l=Lib.decDigits N/\Below w.heap.size w wr) (fun k _ _=>(intOf k).natAbs)
  case atStart=>exact ⟨N,[],rfl,by omega,rfl,by simp [zhT];omega,(by repeat (first|with_reducible exact Below.refl _ _|with_reducible apply Below.ofExt|with_reducible apply Below.ofAlloc|with_reducible apply Below.drew|with_reducible apply Below.ofDrewN|with_reducible assumption|(with_reducible refine Below.setCell ?_ (by first|exact Nat.le_refl _|(simp [go_sem];done)|(simp [go_sem];omega)) _)))⟩
  case round =>
   obtain ⟨m,l,rfl,hm,rfl,hd,hbel⟩:=hrel
   obtain ⟨X,rfl⟩:=hbel.ext
   have hll:(zas l).size<=4611686018427387910:=by
    have:=ze8 N
    rw [<- hd,List.length_append] at this
    rw [zaj]
    omega
   have HD:=Hd hd
   clear hd
   by_cases hmz:m=0
   ·subst hmz
    rw [show ((0:Nat):Int)=0 from rfl]
    go_wp2
    go_ret
    refine ⟨?_,(by repeat (first|with_reducible exact Below.refl _ _|with_reducible apply Below.ofExt|with_reducible apply Below.ofAlloc|with_reducible apply Below.drew|with_reducible apply Below.ofDrewN|with_reducible assumption|(with_reducible refine Below.setCell ?_ (by first|exact Nat.le_refl _|(simp [go_sem];done)|(simp [go_sem];omega)) _)))⟩
    have:=HD.out
    simp only [zhT,if_true,List.nil_append] at this
    rw [HI.out,<- this]
    rfl
   ·have hst:=zfB hmz
    have HST:=Hd hst
    clear hst
    have hrel2:zhT (m / 10)++(Lib.Hx.digit (m % 10) :: l)=Lib.decDigits N:=by
     rw [<- HD.out,HST.out,List.append_assoc]
     rfl
    have HR:=Hd hrel2
    clear hrel2
    have hk:=zjQ (w.ext X) (Lib.Hx.digit (m % 10)) (48+(m:Int) % 10) (by rw [zed (by omega)];simp;omega) (w.heap.size+X.bs.size) (by rw [zw])
    go_wp2
    go_roundw
    case rel=>exact ⟨m / 10,_,by go_num,by omega,by rw [zde],HR.out,(by repeat (first|with_reducible exact Below.refl _ _|with_reducible apply Below.ofExt|with_reducible apply Below.ofAlloc|with_reducible apply Below.drew|with_reducible apply Below.ofDrewN|with_reducible assumption|(with_reducible refine Below.setCell ?_ (by first|exact Nat.le_refl _|(simp [go_sem];done)|(simp [go_sem];omega)) _)))⟩
    case measure=>simp [intOf];omega
theorem ziV (w:World) (s:ByteArray) (hs:s.size<=9223372036854775807) :
  ∃ v w1,Sem.run Tryz.prog (convert 9 22 (.string s)) w=.ok v w1/\OwnB 5 w1 w.heap.size v s.data.toList/\Below w.heap.size w w1:=by
 refine ⟨_,_,run_bytes_of_string w 9 22 5 s Tryz.underlying9 Tryz.underlying22 Tryz.underlying5,OwnB.ofString 5 w s hs,?_⟩
 exact (Below.refl _ _).drew.alloc (Nat.le_refl _) _
theorem zh6 (w:World) (c:UInt8) (x:Int) (hx:x=(c.toNat:Int)) (t:TypeId) (b:Nat) (hb:b=w.heap.size):Sl (w.alloc (.cells #[.int .u8 x] t)) (.slice (some ⟨b,0,none⟩) 1 1) ([c]:List UInt8).length (zU [c]):=by
 subst hx
 exact zdP (t:=t) (f:=(0,0)) (zfH _ _ _ hb) (by decide)
def bsum (l:List UInt8):Int:=l.foldl (fun n c=>(31*n+(c.toNat:Int)) % 9973) 7
theorem itoa_len (n:Int) (h0 : -9223372036854775808<=n) (h1:n<=9223372036854775807):(Lib.itoa n).length<=4611686018427387920:=by
 unfold Lib.itoa
 split
 ·have:=ze8 n.natAbs
  rw [List.length_cons]
  omega
 ·have:=ze8 n.toNat
  omega
def recAdd (acc:List UInt8) (c:CellD):List UInt8:=acc++32 :: ((zhx c.key).data.toList++61 :: (zhx c.val).data.toList)
def recOne (acc:List UInt8) (c:CellD):Bool:=zex c.key && (decide ((c.val.size:Int)<=60) && decide ((acc.length:Int)<=4000))
def recGo:List UInt8->List CellD->Option (List UInt8)
 | acc,[]=>some acc
 | acc,c :: cs=>if recOne acc c then recGo (recAdd acc c) cs else none
def recEnd (l:List UInt8):List UInt8:=l++32 :: 35 :: (Lib.itoa (bsum l) ++ [10])
def recText (seq:Int) (cs:List CellD):ByteArray :=
 if inB seq 1 100000 then
  match recGo (Lib.itoa seq) cs with
  | none=>⟨#[]⟩
  | some l=>if ((recEnd l).length:Int)<=4000 then zas (recEnd l) else ⟨#[]⟩
 else ⟨#[]⟩
def zhl (s:ByteArray):List UInt8:=Lib.Hx.encode s.data.toList
theorem dig_ne (u:Nat) (h:u<10):UInt8.ofNat (48+u) ≠ 32/\UInt8.ofNat (48+u) ≠ 61/\(UInt8.ofNat (48+u)).toNat=48+u:=by
 have hall:∀ x:Fin 10,UInt8.ofNat (48+x.val) ≠ 32/\UInt8.ofNat (48+x.val) ≠ 61/\(UInt8.ofNat (48+x.val)).toNat=48+x.val:=by decide
 exact hall ⟨u,h⟩
def wordL (c:CellD):List UInt8:=zhl c.key++61 :: zhl c.val
def unhexI (l:List UInt8):List UInt8:=match Lib.Hx.decode l with
 | (d,.ok)=>if d.length<=20000/\Lib.Hx.encode d=l then d else []
 | _=>[]
def numI (l:List UInt8):Int:=match Lib.atoiAll l with
 | .ok n=>if (0<=n/\n<=1000000000)/\Lib.itoa n=l then n else 0
 | _=>0
def cellI (w:List UInt8):CellD:=⟨zas (unhexI (Lib.cut w [61]).1),zas (unhexI (Lib.cut w [61]).2.1)⟩
theorem zcy (s:ByteArray):zas s.data.toList=s:=by
 apply ByteArray.ext
 simp [zas]
def seqI (ws:List (List UInt8)):Int:=numI (ws.headD [])
def listI (ws:List (List UInt8)):List CellD:=((ws.drop 1).take (ws.length - 2)).map cellI
def readI (t:ByteArray):Option (Int × List CellD) :=
 if t.size ≠ 0/\recText (seqI (zbS 32 t.data.toList)) (listI (zbS 32 t.data.toList))=t then some (seqI (zbS 32 t.data.toList),listI (zbS 32 t.data.toList)) else none
def Unh (l:List UInt8) (r:ByteArray):Prop:=∀ s:ByteArray,s.size<=20000->l=zhl s->r=s
def Num (l:List UInt8) (n:Int) (ok:Bool):Prop:=(0<=n/\n<=1000000000)/\∀ m:Int,1<=m->m<=100000->l=Lib.itoa m->n=m/\ok=true
def CellR (word:List UInt8) (c:CellD):Prop:=∀ d:CellD,d.key.size<=40->d.val.size<=60->word=wordL d->c=d
def ReadsTo (ws:List (List UInt8)) (cs:List CellD):Prop:=∃ zs:List (List UInt8 × CellD),zs.map (·.1)=ws/\zs.map (·.2)=cs/\∀ z ∈ zs,CellR z.1 z.2
theorem ReadsTo.nil:ReadsTo [] []:=⟨[],rfl,rfl,by simp⟩
theorem ReadsTo.length {ws:List (List UInt8)} {cs:List CellD} (h:ReadsTo ws cs):cs.length=ws.length:=by
 obtain ⟨zs,rfl,rfl,_⟩:=h
 simp
def zdQ (c:UInt8):Int:=if 48<=(c.toNat:Int)/\(c.toNat:Int)<=57 then c.toNat - 48 else if 97<=(c.toNat:Int)/\(c.toNat:Int)<=102 then c.toNat - 97+10 else -1
theorem zf4 (x:Nat) (h:x<16):zdQ (Lib.Hx.digit x)=x:=by
 have hall:∀ x:Fin 16,zdQ (Lib.Hx.digit x.val)=(x.val:Int):=by decide
 exact hall ⟨x,h⟩
theorem zgk (c:UInt8) : -1<=zdQ c/\zdQ c<=15:=by
 unfold zdQ
 split
 ·omega
 ·split
  ·omega
  ·omega
theorem zjM:∀ (l:List UInt8) (m:Nat) (h:m<l.length),(Lib.Hx.encode l)[2*m]?=some (Lib.Hx.digit (l[m].toNat / 16))/\(Lib.Hx.encode l)[2*m+1]?=some (Lib.Hx.digit (l[m].toNat % 16))
 | [],m,h=>by simp at h
 | c :: l,0,_=>by simp [Lib.Hx.encode]
 | c :: l,m+1,h=>by
  have ih:=zjM l m (by simpa using h)
  have e:Lib.Hx.encode (c :: l)=Lib.Hx.digit (c.toNat / 16) :: Lib.Hx.digit (c.toNat % 16) :: Lib.Hx.encode l:=by simp [Lib.Hx.encode]
  rw [e,show 2*(m+1)=2*m+1+1 by omega,List.getElem?_cons_succ,List.getElem?_cons_succ,List.getElem?_cons_succ,List.getElem?_cons_succ]
  simpa using ih
theorem zgA (t:ByteArray):(zhl t).length=2*t.size:=by
 unfold zhl
 rw [Lib.Hx.encode_length]
 have:t.data.toList.length=t.size:=by simp
 omega
def UnhTo (L acc:List UInt8) (m:Nat):Prop:=(∀ t:ByteArray,L=zhl t->acc=t.data.toList.take m)/\Lib.Hx.encode acc=L.take (2*m)
theorem UnhTo.nil (L:List UInt8):UnhTo L [] 0:=⟨fun t _=>by simp,by simp [Lib.Hx.encode]⟩
theorem zgQ (c:UInt8) (h : 0<=zdQ c):Lib.Hx.digit (zdQ c).toNat=c:=by
 have hall:∀ c:Fin 256,0<=zdQ (UInt8.ofNat c.val)->Lib.Hx.digit (zdQ (UInt8.ofNat c.val)).toNat=UInt8.ofNat c.val:=by decide
 have:=hall ⟨c.toNat,c.toNat_lt⟩
 simp only [UInt8.ofNat_toNat] at this
 exact this h
theorem unh_at {L:List UInt8} {t:ByteArray} {m:Nat} (h : 2*m+1<L.length) (e:L=zhl t):∃ hm:m<t.data.toList.length,zdQ (L[2*m]'(by omega))=((t.data.toList[m].toNat / 16:Nat):Int)/\zdQ L[2*m+1]=((t.data.toList[m].toNat % 16:Nat):Int):=by
 subst e
 have hm:m<t.data.toList.length:=by
  rw [zgA] at h
  have:t.data.toList.length=t.size:=by simp
  omega
 have hg:=zjM t.data.toList m hm
 have hb:=t.data.toList[m].toNat_lt
 have h1:=List.getElem?_eq_getElem (l:=zhl t) (i:=2*m) (by omega)
 have h2:=List.getElem?_eq_getElem (l:=zhl t) (i:=2*m+1) h
 have e1:(zhl t)[2*m]'(by omega)=Lib.Hx.digit (t.data.toList[m].toNat / 16):=Option.some.inj (h1.symm.trans hg.1)
 have e2:(zhl t)[2*m+1]=Lib.Hx.digit (t.data.toList[m].toNat % 16):=Option.some.inj (h2.symm.trans hg.2)
 refine ⟨hm,?_,?_⟩
 ·rw [e1,zf4 _ (by omega)]
 ·rw [e2,zf4 _ (by omega)]
theorem UnhTo.step {L acc:List UInt8} {m:Nat} (H:UnhTo L acc m) (h : 2*m+1<L.length) {c:UInt8} (hc:(c.toNat:Int)=16*zdQ (L[2*m]'(by omega))+zdQ L[2*m+1]) (h1 : 0<=zdQ (L[2*m]'(by omega))) (h2 : 0<=zdQ L[2*m+1]):UnhTo L (acc ++ [c]) (m+1):=by
 refine ⟨?_,?_⟩
 case refine_2 =>
  have l1:=zgk (L[2*m]'(by omega))
  have l2:=zgk L[2*m+1]
  have d1:c.toNat / 16=(zdQ (L[2*m]'(by omega))).toNat:=by omega
  have d2:c.toNat % 16=(zdQ L[2*m+1]).toNat:=by omega
  have e1:Lib.Hx.encode (acc ++ [c])=Lib.Hx.encode acc ++ [Lib.Hx.digit (c.toNat / 16),Lib.Hx.digit (c.toNat % 16)]:=by simp [Lib.Hx.encode]
  rw [e1,d1,d2,zgQ _ h1,zgQ _ h2,H.2,show 2*(m+1)=2*m+1+1 from by omega,List.take_succ_eq_append_getElem h,List.take_succ_eq_append_getElem (by omega : 2*m<L.length),List.append_assoc]
  rfl
 intro t e
 obtain ⟨hm,e1,e2⟩:=unh_at h e
 rw [e1,e2] at hc
 rw [H.1 t e,List.take_succ_eq_append_getElem hm]
 congr 2
 apply UInt8.toNat_inj.1
 omega
theorem UnhTo.bad {L:List UInt8} {m:Nat} (h : 2*m+1<L.length) (hb:zdQ (L[2*m]'(by omega))<0 ∨ zdQ L[2*m+1]<0) (r:ByteArray):Unh L r:=by
 intro t _ e
 obtain ⟨hm,e1,e2⟩:=unh_at h e
 rw [e1,e2] at hb
 omega
theorem UnhTo.all {L acc:List UInt8} {m:Nat} (H:UnhTo L acc m) (h:L.length<=2*m):Unh L (zas acc):=by
 intro t _ e
 have h2:=zgA t
 rw [<- e] at h2
 have:t.data.toList.length=t.size:=by simp
 rw [H.1 t e,List.take_of_length_le (by omega),zcy]
theorem UnhTo.back {L acc:List UInt8} {m:Nat} (H:UnhTo L acc m) (h:L.length<=2*m):L=zhl (zas acc):=by
 have:=H.2
 rw [List.take_of_length_le h] at this
 rw [<- this]
 rfl
theorem Unh.long {L:List UInt8} (h : 40000<L.length ∨ L.length % 2 ≠ 0) (r:ByteArray):Unh L r:=by
 intro t h1 e
 have:=zgA t
 rw [<- e] at this
 omega
def zgK (l:List UInt8):Int:=l.foldl (fun a c=>10*a+(c.toNat - 48)) 0
def ziT (c:UInt8):Prop:=48<=c.toNat/\c.toNat<=57
theorem zgR (l:List UInt8) (c:UInt8):zgK (l ++ [c])=10*zgK l+(c.toNat - 48):=by simp [zgK,List.foldl_append]
theorem dec_val (u:Nat):zgK (Lib.decDigits u)=u/\∀ c ∈ Lib.decDigits u,ziT c:=by
 induction u using Nat.strongRecOn with
 | _ u ih =>
  rw [Lib.decDigits]
  split
  ·rename_i h
   have hd:=(dig_ne u h).2.2
   refine ⟨?_,fun c hc=>?_⟩
   ·show 10*(0:Int)+((UInt8.ofNat (48+u)).toNat - 48)=u
    rw [hd]
    omega
   ·rw [List.mem_singleton.1 hc]
    unfold ziT
    omega
  ·rename_i h
   have hd:=(dig_ne (u % 10) (by omega)).2.2
   obtain ⟨h1,h2⟩:=ih (u / 10) (by omega)
   refine ⟨?_,fun c hc=>?_⟩
   ·rw [zgR,h1,hd]
    omega
   ·rcases List.mem_append.1 hc with hc|hc
    ·exact h2 c hc
    ·rw [List.mem_singleton.1 hc]
     unfold ziT
     omega
theorem zjN:∀ (k u:Nat),u<10 ^ (k+1)->(Lib.decDigits u).length<=k+1
 | 0,u,h=>by
  rw [Lib.decDigits,dif_pos (by omega)]
  simp
 | k+1,u,h=>by
  rw [Lib.decDigits]
  split
  ·simp
  ·have:=zjN k (u / 10) (by rw [Nat.pow_succ] at h;omega)
   rw [List.length_append,List.length_singleton]
   omega
theorem zdk {m:Int} (h0 : 0<=m) (h1:m<=1000000000):zgK (Lib.itoa m)=m/\(∀ c ∈ Lib.itoa m,ziT c)/\(Lib.itoa m).length<=10:=by
 unfold Lib.itoa
 rw [if_neg (by omega)]
 obtain ⟨a,b⟩:=dec_val m.toNat
 exact ⟨by rw [a];omega,b,zjN 9 _ (by omega)⟩
theorem Num.long {l:List UInt8} (h : 10<l.length):Num l 0 false:=by
 refine ⟨by omega,fun m h1 h2 e=>?_⟩
 have:=(zdk (m:=m) (by omega) (by omega)).2.2
 rw [<- e] at this
 omega
theorem Num.bad {l:List UInt8} {c:UInt8} (hc:c ∈ l) (h:¬ ziT c):Num l 0 false:=by
 refine ⟨by omega,fun m h1 h2 e=>?_⟩
 exact absurd ((zdk (m:=m) (by omega) (by omega)).2.1 c (by rw [<- e];exact hc)) h
theorem Num.good {l:List UInt8} {n:Int} (h0 : 0<=n) (h1:n<=1000000000) (h:n=zgK l):Num l n true:=by
 refine ⟨⟨h0,h1⟩,fun m a b e=>⟨?_,rfl⟩⟩
 have:=(zdk (m:=m) (by omega) (by omega)).1
 rw [h,e,this]
theorem Num.other {l:List UInt8} {n:Int} (h:n=zgK l) (h1 : 1000000000<n ∨ Lib.itoa n ≠ l):Num l 0 false:=by
 refine ⟨by omega,fun m a b e=>?_⟩
 have:=(zdk (m:=m) (by omega) (by omega)).1
 rw [<- e,<- h] at this
 subst this
 rcases h1 with h1|h1
 ·omega
 ·exact absurd e.symm h1
theorem zje:∀ (l:List UInt8) (a:Int),0<=a->(∀ c ∈ l,ziT c)->0<=l.foldl (fun (a:Int) (c:UInt8)=>10*a+(c.toNat - 48)) a/\l.foldl (fun (a:Int) (c:UInt8)=>10*a+(c.toNat - 48)) a+1<=(a+1)*10 ^ l.length
 | [],a,h,_=>by simp;omega
 | c :: l,a,h,hd=>by
  have hc:=hd c (by simp)
  unfold ziT at hc
  obtain ⟨h1,h2⟩:=zje l (10*a+(c.toNat - 48)) (by omega) (fun d hm=>hd d (List.mem_cons_of_mem _ hm))
  refine ⟨h1,Int.le_trans h2 ?_⟩
  rw [List.length_cons,Int.pow_succ,Int.mul_comm (10 ^ l.length) 10,<- Int.mul_assoc]
  refine Int.mul_le_mul_of_nonneg_right (by omega) (Int.le_of_lt (Int.pow_pos (by decide)))
theorem valD_bd (l:List UInt8) (h:∀ c ∈ l,ziT c) : 0<=zgK l/\zgK l<10 ^ l.length:=by
 have:=zje l 0 (by omega) h
 unfold zgK
 omega
theorem Unh.no {l d:List UInt8} {x} (h:Lib.Hx.decode l=(d,x)) (h1:x ≠ .ok ∨ 20000<d.length ∨ Lib.Hx.encode d ≠ l) (r:ByteArray):Unh l r:=by
 intro t ht e
 subst e
 unfold zhl at h
 rw [Lib.Hx.decode_encode] at h
 injection h with h h2
 subst h
 subst h2
 rcases h1 with h1|h1|h1
 ·exact absurd rfl h1
 ·have:t.data.toList.length=t.size:=by simp
  omega
 ·exact absurd rfl h1
def CutTo (c:UInt8) (L:List UInt8) (xs:List ByteArray) (b i:Nat):Prop :=
 (i<=L.length/\b<=i/\c ∉ (L.drop b).take (i - b)/\xs.map (·.data.toList)++zbS c (L.drop b)=zbS c L) ∨ (i=L.length+1/\xs.map (·.data.toList)=zbS c L)
theorem CutTo.nil (c:UInt8) (L:List UInt8):CutTo c L [] 0 0:=.inl ⟨by omega,by omega,by simp,by simp⟩
theorem CutTo.cut {c:UInt8} {L:List UInt8} {xs:List ByteArray} {b i:Nat} (h:CutTo c L xs b i) (hi:i<L.length) (hc:L[i]=c) {s:ByteArray} (hs:s.data.toList=(L.drop b).take (i - b)):CutTo c L (xs ++ [s]) (i+1) (i+1):=by
 rcases h with ⟨h1,h2,h3,h4⟩|⟨h,_⟩
 ·refine .inl ⟨by omega,by omega,by simp,?_⟩
  have e:L.drop b=(L.drop b).take (i - b)++c :: L.drop (i+1):=by
   conv=>lhs;rw [<- List.take_append_drop (i - b) (L.drop b)]
   rw [List.drop_drop,show b+(i - b)=i by omega,List.drop_eq_getElem_cons hi,hc]
  rw [e,zf5 c _ _ h3] at h4
  rw [List.map_append,List.append_assoc,<- h4,<- hs]
  rfl
 ·omega
theorem CutTo.lo {c:UInt8} {L:List UInt8} {xs:List ByteArray} {b i:Nat} (h:CutTo c L xs b i) (hi:i<=L.length):b<=i:=by
 rcases h with ⟨_,h,_⟩|⟨h,_⟩
 ·exact h
 ·omega
def UnhP (s:ByteArray) (w:World) (e:Ending) (w':World):Prop:=∃ r b,e=.returned (.tuple #[.string r,.bool b])/\r.size<=20000/\Unh s.data.toList r/\Below w.heap.size w w'/\(b=true->s.data.toList=zhl r)/\(b=false->r=⟨#[]⟩/\∀ q,Unh s.data.toList q)
theorem UnhP.mk {s r:ByteArray} {w w':World} (h1:r.size<=20000) (h2:Unh s.data.toList r) (h3:Below w.heap.size w w') (h4:s.data.toList=zhl r):UnhP s w (.returned (.tuple #[.string r,.bool true])) w':=⟨r,true,rfl,h1,h2,h3,(fun _=>h4),(fun h=>by cases h)⟩
theorem UnhP.no {s:ByteArray} {w w':World} (h2:∀ q,Unh s.data.toList q) (h3:Below w.heap.size w w'):UnhP s w (.returned (.tuple #[.string ⟨#[]⟩,.bool false])) w':=⟨⟨#[]⟩,false,rfl,by decide,h2 _,h3,(fun h=>by cases h),(fun _=>⟨rfl,h2⟩)⟩
def NumP (s:ByteArray) (w:World) (e:Ending) (w':World):Prop:=∃ n b,e=.returned (.tuple #[.int .i64 n,.bool b])/\Num s.data.toList n b/\Below w.heap.size w w'/\(b=true->Lib.itoa n=s.data.toList)
theorem NumP.mk {s:ByteArray} {n:Int} {w w':World} (h2:Num s.data.toList n true) (h3:Below w.heap.size w w') (h4:Lib.itoa n=s.data.toList):NumP s w (.returned (.tuple #[.int .i64 n,.bool true])) w':=⟨n,true,rfl,h2,h3,fun _=>h4⟩
theorem NumP.no {s:ByteArray} {w w':World} (h2:Num s.data.toList 0 false) (h3:Below w.heap.size w w'):NumP s w (.returned (.tuple #[.int .i64 0,.bool false])) w':=⟨0,false,rfl,h2,h3,fun h=>by cases h⟩
def SplP (t:TypeId) (c:UInt8) (s:ByteArray) (w:World) (e:Ending) (w':World):Prop:=∃ v xs,e=.returned v/\OwnL zH t w' w.heap.size v xs/\xs.map (·.data.toList)=zbS c s.data.toList/\Below w.heap.size w w'
theorem SplP.mk {t:TypeId} {c:UInt8} {s:ByteArray} {v:Value} {xs:List ByteArray} {w w':World} (h1:OwnL zH t w' w.heap.size v xs) (h2:xs.map (·.data.toList)=zbS c s.data.toList) (h3:Below w.heap.size w w'):SplP t c s w (.returned v) w':=⟨v,xs,rfl,h1,h2,h3⟩
def Sm (cs:List CellD):Prop:=∀ c ∈ cs,c.key.size<=20000/\c.val.size<=20000
theorem Sm.nil:Sm []:=by intro c hc;cases hc
def RrOk (s:ByteArray) (n:Int) (b:Bool) (cs:List CellD):Prop:=(b=true->readI s=some (n,cs))/\(b=false->n=0/\cs = []/\readI s=none)
theorem RrOk.no {s:ByteArray} (h:readI s=none):RrOk s 0 false []:=⟨(fun e=>by cases e),fun _=>⟨rfl,rfl,h⟩⟩
end Go.Proofs.YtncnbihlngapbaaGreat
namespace Go.Proofs.YtncnbihlngapbaaGreat
open Go.ChangeShapes Go.WideShapes Go.ChangeAt Go.RowKit
structure MachD where
 cells:List CellD
 rd:List ByteArray
 wr:List ByteArray
inductive Mp (α : Type) where
 | ret (a : α)
 | look (k:ByteArray) (f:ByteArray->Mp α)
 | lay (k v:ByteArray) (n:Mp α)
 | under (p:ByteArray) (f:List ByteArray->Mp α)
def star:ByteArray:=⟨#[42]⟩
def zag (p:ByteArray) (cs:List CellD):List ByteArray:=(cs.filter fun c=>zbd c.key p).map (·.key)
namespace MachD
def look (m:MachD) (k:ByteArray):MachD:={ m with rd:=zck m.rd k }
def lay (m:MachD) (k v:ByteArray):MachD:={ m with wr:=zck m.wr k,cells:=zd7 k v m.cells }
def under (m:MachD) (p:ByteArray):MachD:={ m with rd:=zck m.rd (p++star) }
end MachD
namespace Mp
variable {α β γ : Type}
def bind:Mp α->(α->Mp β)->Mp β
 | ret a,g=>g a
 | look k f,g=>look k fun x=>bind (f x) g
 | lay k v n,g=>lay k v (bind n g)
 | under p f,g=>under p fun x=>bind (f x) g
instance:Monad Mp where
 pure:=ret
 bind:=bind
def run:Mp α->MachD->α × MachD
 | ret a,m=>(a,m)
 | look k f,m=>run (f (ze6 k m.cells)) (m.look k)
 | lay k v n,m=>run n (m.lay k v)
 | under p f,m=>run (f (zag p m.cells)) (m.under p)
structure Small (m:MachD):Prop where
 cl:m.cells.length<=549755813888
 rl:m.rd.length<=549755813888
 wl:m.wr.length<=549755813888
 cz:∀ c ∈ m.cells,c.key.size<=1048576/\c.val.size<=1048576
 rz:∀ s ∈ m.rd,s.size<=8388608
 wz:∀ s ∈ m.wr,s.size<=8388608
 rn:∀ s ∈ m.rd,s.size ≠ 0
 wn:∀ s ∈ m.wr,s.size ≠ 0
def fits:Mp α->MachD->Prop
 | ret _,m=>Small m
 | look k f,m=>Small m/\k.size<=4194304/\fits (f (ze6 k m.cells)) (m.look k)
 | lay k v n,m=>Small m/\k.size<=4194304/\fits n (m.lay k v)
 | under p f,m=>Small m/\p.size<=4194304/\fits (f (zag p m.cells)) (m.under p)
theorem run_bind (x:Mp α) (f : α->Mp β) (m:MachD):(x >>= f).run m=(f (x.run m).1).run (x.run m).2:=by
 show (bind x f).run m = _
 induction x generalizing m with
 | ret a=>rfl
 | look k g ih=>exact ih _ _
 | lay k v n ih=>exact ih _
 | under p g ih=>exact ih _ _
theorem fits_small {x:Mp α} {m:MachD} (h:x.fits m):Small m:=by
 cases x with
 | ret a=>exact h
 | look k f=>exact h.1
 | lay k v n=>exact h.1
 | under p f=>exact h.1
theorem fits_bind (x:Mp α) (f : α->Mp β) (m:MachD):(x >>= f).fits m ↔ x.fits m/\(f (x.run m).1).fits (x.run m).2:=by
 show (bind x f).fits m ↔ _
 induction x generalizing m with
 | ret a =>
  constructor
  ·intro h
   exact ⟨fits_small h,h⟩
  ·exact fun h=>h.2
 | look k g ih =>
  simp only [bind,fits,run,ih]
  constructor
  ·rintro ⟨h1,h2,h3,h4⟩;exact ⟨⟨h1,h2,h3⟩,h4⟩
  ·rintro ⟨⟨h1,h2,h3⟩,h4⟩;exact ⟨h1,h2,h3,h4⟩
 | lay k v n ih =>
  simp only [bind,fits,run,ih]
  constructor
  ·rintro ⟨h1,h2,h3,h4⟩;exact ⟨⟨h1,h2,h3⟩,h4⟩
  ·rintro ⟨⟨h1,h2,h3⟩,h4⟩;exact ⟨h1,h2,h3,h4⟩
 | under p g ih =>
  simp only [bind,fits,run,ih]
  constructor
  ·rintro ⟨h1,h2,h3,h4⟩;exact ⟨⟨h1,h2,h3⟩,h4⟩
  ·rintro ⟨⟨h1,h2,h3⟩,h4⟩;exact ⟨h1,h2,h3,h4⟩
theorem fits_end {x:Mp α} {m:MachD} (h:x.fits m):Small (x.run m).2:=by
 induction x generalizing m with
 | ret a=>exact h
 | look k g ih=>exact ih _ h.2.2
 | lay k v n ih=>exact ih h.2.2
 | under p g ih=>exact ih _ h.2.2
theorem run_pure (a : α) (m:MachD):(pure a:Mp α).run m=(a,m):=rfl
def each (f : α->Mp Unit):List α->Mp Unit
 | []=>pure ()
 | x :: xs=>do f x;each f xs
def fold (f : β->α->Mp β) : β->List α->Mp β
 | b,[]=>pure b
 | b,x :: xs=>do let b <- f b x;fold f b xs
end Mp
open Mp
def zbu (v:ByteArray):Int:=if 1<=zgK v.data.toList/\zgK v.data.toList<=999/\Lib.itoa (zgK v.data.toList)=v.data.toList then zgK v.data.toList else 0
def zcc (v:ByteArray):ByteArray:=match Lib.Hx.decode v.data.toList with
 | (d,.ok)=>if d.length<=20000/\Lib.Hx.encode d=v.data.toList then zas d else ⟨#[]⟩
 | _=>⟨#[]⟩
theorem numOf_of {s:ByteArray} {n:Int} {b:Bool} (h:Num s.data.toList n b) (hb:b=true->Lib.itoa n=s.data.toList):zbu s=if b=true/\n<=999 then n else 0:=by
 unfold zbu
 cases b with
 | true =>
  have e:=hb rfl
  have hv:=(zdk (m:=n) h.1.1 (by have:=h.1.2;omega)).1
  rw [e] at hv
  rw [hv]
  by_cases h1 : 1<=n/\n<=999
  ·rw [if_pos ⟨h1.1,h1.2,e⟩,if_pos ⟨rfl,h1.2⟩]
  ·rw [if_neg (fun hh=>h1 ⟨hh.1,hh.2.1⟩)]
   have:=h.1.1
   by_cases h2:n<=999
   ·rw [if_pos ⟨rfl,h2⟩];omega
   ·rw [if_neg (fun hh=>h2 hh.2)]
 | false =>
  rw [if_neg (fun hh=>by
   have:=(h.2 _ hh.1 (by omega) hh.2.2.symm).2
   cases this),if_neg (fun hh=>by cases hh.1)]
theorem ziw {s r:ByteArray} (hr:r.size<=20000) (h:s.data.toList=zhl r):zcc s=r:=by
 unfold zcc
 rw [h]
 unfold zhl
 rw [Lib.Hx.decode_encode]
 have hl:r.data.toList.length=r.size:=by simp
 dsimp only
 rw [if_pos ⟨by omega,rfl⟩,zcy]
theorem zji {s:ByteArray} (h:∀ q,Unh s.data.toList q):zcc s=⟨#[]⟩:=by
 unfold zcc
 split
 ·rename_i d hd
  split
  ·rename_i hh
   have a:=h (zas d) (zas d) (by rw [zaj];exact hh.1) hh.2.symm
   have b:=h (zas (0 :: d)) (zas d) (by rw [zaj];exact hh.1) hh.2.symm
   have c:=congrArg ByteArray.size b
   rw [zaj,zaj] at c
   simp at c
  ·rfl
 ·rfl
def zaf (h:ByteArray) (n:Int) (t:ByteArray):ByteArray:=h++zas (Lib.itoa n)++t
namespace K
def look (k:ByteArray):Mp ByteArray:=.look k .ret
def lay (k v:ByteArray):Mp Unit:=.lay k v (.ret ())
def under (p:ByteArray):Mp (List ByteArray):=.under p .ret
def wipe (p:ByteArray):Mp Unit:=do
 let ks <- under p
 each (fun k=>lay k ⟨#[]⟩) ks
def num (k:ByteArray):Mp Int:=do return zbu (<- look k)
def numText (n:Int):ByteArray:=if 1<=n/\n<=999 then zas (Lib.itoa n) else ⟨#[]⟩
def setNum (k:ByteArray) (n:Int):Mp Unit:=lay k (numText n)
def bump (k:ByteArray):Mp Int:=do
 let n <- num k
 if 999<n+1 then return 0 else do
  setNum k (n+1)
  return n+1
def messageOf (v:ByteArray):ByteArray:=if v.data.toList.head?=some 45 then zcc (v.extract 1 v.size) else ⟨#[]⟩
def message (k:ByteArray):Mp ByteArray:=do return messageOf (<- look k)
def nameByte (c:UInt8):Bool:=inB (c.toNat:Int) 97 122 || inB (c.toNat:Int) 48 57 || (c.toNat:Int)==46 || (c.toNat:Int)==45
def nameOk (s:ByteArray):Bool:=s.data.toList.all nameByte && inB (s.size:Int) 1 12
def nN:ByteArray:=⟨#[110,47]⟩
def nI:ByteArray:=⟨#[105,47]⟩
def tL:ByteArray:=⟨#[47,108]⟩
def cFile:ByteArray:=⟨#[99,47,102,105,108,101]⟩
def fileOf (name:ByteArray):Mp Int:=if nameOk name then num (nN++name) else return 0
def makeName (name:ByteArray):Mp (Int × Int) :=
 if nameOk name then do
  let id <- fileOf name
  if id ≠ 0 then return (0,1) else do
   let many <- num cFile
   if 20<=many then return (0,3) else do
    let id <- bump cFile
    setNum (nN++name) id
    setNum (zaf nI id tL) 1
    return (id,0)
 else return (0,4)
def linkName (a b:ByteArray):Mp Int :=
 if nameOk a/\nameOk b then do
  let id <- fileOf a
  if id=0 then return 2 else do
   let other <- fileOf b
   if other ≠ 0 then return 1 else do
    let links <- num (zaf nI id tL)
    if 4<=links then return 3 else do
     setNum (nN++b) id
     setNum (zaf nI id tL) (links+1)
     return 0
 else return 4
def unlinkName (name:ByteArray):Mp Int :=
 if nameOk name then do
  let id <- fileOf name
  if id=0 then return 2 else do
   lay (nN++name) ⟨#[]⟩
   let links <- num (zaf nI id tL)
   if 1<links then do
    setNum (zaf nI id tL) (links - 1)
    return 0
   else do
    wipe (zaf nI id ⟨#[47]⟩)
    return 0
 else return 4
def renameName (a b:ByteArray):Mp Int :=
 if nameOk a/\nameOk b then do
  let id <- fileOf a
  if id=0 then return 2 else do
   let other <- fileOf b
   if other=id then return 0 else do
    if other ≠ 0 then do
     let _ <- unlinkName b
     setNum (nN++b) id
     lay (nN++a) ⟨#[]⟩
     return 0
    else do
     setNum (nN++b) id
     lay (nN++a) ⟨#[]⟩
     return 0
 else return 4
def names:Mp (List ByteArray):=do return (<- under nN).map fun k=>k.extract 2 k.size
/-! ### files -/
def tS:ByteArray:=⟨#[47,115]⟩
def tB:ByteArray:=⟨#[47,98,47]⟩
def sizeKey (id:Int):ByteArray:=zaf nI id tS
def blockKey (id place:Int):ByteArray:=zaf (zaf nI id tB) place ⟨#[]⟩
def block (id place:Int):Mp ByteArray:=do return zcc (<- look (blockKey id place))
def places (a b:Nat):List Nat:=List.range' (a / 8) ((b+7) / 8 - a / 8)
def readBlock (id:Int) (a b:Nat) (out:ByteArray) (place:Nat):Mp ByteArray:=do
 let s <- block id place
 let lo:=a - place*8
 let hi:=min (b - place*8) (min 8 s.size)
 return if lo<hi then out++s.extract lo hi else out
def readFile (id a n:Int):Mp ByteArray:=do
 let size <- num (sizeKey id)
 if a<0 ∨ n<1 ∨ size<=a then return ⟨#[]⟩ else
  fold (readBlock id a.toNat (a+min n (size - a)).toNat) ⟨#[]⟩ (places a.toNat (a+min n (size - a)).toNat)
def setAt (b:List UInt8) (i:Nat) (c:UInt8):List UInt8:=(b++List.replicate (i+1 - b.length) 0).set i c
def wBlock (text:List UInt8) (a b place:Nat) (old:List UInt8):List UInt8 :=
 (List.range' (max a (place*8)) (min b (place*8+8) - max a (place*8))).foldl (fun l k=>setAt l (k - place*8) (text.getD (k - a) 0)) old
def writeBlock (id:Int) (text:ByteArray) (a b place:Nat):Mp Unit:=do
 let s <- block id place
 lay (blockKey id place) (zhx (zas (wBlock text.data.toList a b place s.data.toList)))
def writeFile (id a:Int) (text:ByteArray):Mp Int:=do
 let size <- num (sizeKey id)
 if ¬ (0<=a/\a<=size) ∨ text.size=0 then return 4 else
  if 64<a+text.size then return 3 else do
   each (writeBlock id text a.toNat (a.toNat+text.size)) (places a.toNat (a.toNat+text.size))
   if size<a+text.size then setNum (sizeKey id) (a+text.size) else pure ()
   return 0
def cutFile (id n:Int):Mp Int:=do
 let size <- num (sizeKey id)
 if ¬ (0<=n/\n<=size) then return 4 else
  if 0<n % 8 then do
   let s <- block id (n / 8)
   lay (blockKey id (n / 8)) (zhx (s.extract 0 (min (n % 8).toNat s.size)))
   each (fun p:Nat=>lay (blockKey id (p:Int)) ⟨#[]⟩) (List.range' ((n / 8).toNat+1) ((size.toNat+7) / 8 - ((n / 8).toNat+1)))
   setNum (sizeKey id) n
   return 0
  else do
   each (fun p:Nat=>lay (blockKey id (p:Int)) ⟨#[]⟩) (List.range' (n / 8).toNat ((size.toNat+7) / 8 - (n / 8).toNat))
   setNum (sizeKey id) n
   return 0
/-! ### pipes -/
def nP:ByteArray:=⟨#[112,47]⟩
def tO:ByteArray:=⟨#[47,111]⟩
def tT:ByteArray:=⟨#[47,116]⟩
def tH:ByteArray:=⟨#[47,104]⟩
def tQ:ByteArray:=⟨#[47,113,47]⟩
def cPipe:ByteArray:=⟨#[99,47,112,105,112,101]⟩
def pipeKey (id:Int) (t:ByteArray):ByteArray:=zaf nP id t
def dash:ByteArray:=⟨#[45]⟩
def makePipe:Mp (Int × Int):=do
 let many <- num cPipe
 if 8<=many then return (0,3) else do
  let id <- bump cPipe
  setNum (pipeKey id tO) 1
  return (id,0)
def isPipe (id:Int):Mp Bool:=do return (<- num (pipeKey id tO))==1
def putPipe (id:Int) (text:ByteArray):Mp Int:=do
 let is <- isPipe id
 if is=false then return 2 else
  if 20<text.size then return 4 else do
   let tail <- num (pipeKey id tT)
   let head <- num (pipeKey id tH)
   if 4<=tail - head then return 5 else
    if 999<=tail then return 3 else do
     setNum (pipeKey id tT) (tail+1)
     lay (zaf (pipeKey id tQ) (tail+1) ⟨#[]⟩) (dash++zhx text)
     return 0
def takePipe (id:Int):Mp (ByteArray × Int):=do
 let is <- isPipe id
 if is=false then return (⟨#[]⟩,2) else do
  let head <- num (pipeKey id tH)
  let tail <- num (pipeKey id tT)
  if tail=head then return (⟨#[]⟩,5) else do
   let text <- message (zaf (pipeKey id tQ) (head+1) ⟨#[]⟩)
   lay (zaf (pipeKey id tQ) (head+1) ⟨#[]⟩) ⟨#[]⟩
   setNum (pipeKey id tH) (head+1)
   return (text,0)
/-! ### processes -/
def nR:ByteArray:=⟨#[114,47]⟩
def tP:ByteArray:=⟨#[47,112]⟩
def tX:ByteArray:=⟨#[47,120]⟩
def slash:ByteArray:=⟨#[47]⟩
def cProc:ByteArray:=⟨#[99,47,112,114,111,99]⟩
def procKey (id:Int) (t:ByteArray):ByteArray:=zaf nR id t
def state (id:Int):Mp Int:=num (procKey id tS)
def spawn (parent:Int):Mp (Int × Int):=do
 let many <- num cProc
 if 12<=many then return (0,3) else do
  let id <- bump cProc
  setNum (procKey id tS) 1
  setNum (procKey id tP) parent
  return (id,0)
def endProc (id n:Int):Mp Int:=do
 let s <- state id
 if s ≠ 1 then return 2 else
  if ¬ (0<=n/\n<=100) then return 4 else do
   setNum (procKey id tS) 2
   setNum (procKey id tX) (n+1)
   return 0
def reap (parent id:Int):Mp (Int × Int):=do
 let own <- num (procKey id tP)
 if own=0 ∨ own ≠ parent then return (0,2) else do
  let s <- state id
  if s=1 then return (0,5) else
   if s ≠ 2 then return (0,2) else do
    let n <- num (procKey id tX)
    wipe (procKey id slash)
    return (n - 1,0)
def isKidKey (key:ByteArray):Bool:=decide (5<=key.size) && ((key.extract (key.size - 2) key.size).data.toList == [47,112])
def kid (parent:Int) (out:List Int) (key:ByteArray):Mp (List Int) :=
 if isKidKey key then do
  let up <- num key
  return if up=parent then out ++ [zbu (key.extract 2 (key.size - 2))] else out
 else return out
def kids (parent:Int):Mp (List Int):=do
 let keys <- under nR
 fold (kid parent) [] keys
/-! ### signals -/
def nG:ByteArray:=⟨#[103,47]⟩
def nT:ByteArray:=⟨#[116,47]⟩
def cClock:ByteArray:=⟨#[99,47,99,108,111,99,107]⟩
def signalKey (id:Int) (t:ByteArray):ByteArray:=zaf nG id t
def send (to n:Int):Mp Int:=do
 let s <- state to
 if s ≠ 1 then return 2 else
  if ¬ (1<=n/\n<=31) then return 4 else do
   let tail <- num (signalKey to tT)
   let head <- num (signalKey to tH)
   if 4<=tail - head then return 5 else
    if 999<=tail then return 3 else do
     setNum (signalKey to tT) (tail+1)
     setNum (zaf (signalKey to tQ) (tail+1) ⟨#[]⟩) n
     return 0
def takeSignal (id:Int):Mp (Int × Int):=do
 let head <- num (signalKey id tH)
 let tail <- num (signalKey id tT)
 if tail=head then return (0,5) else do
  let n <- num (zaf (signalKey id tQ) (head+1) ⟨#[]⟩)
  lay (zaf (signalKey id tQ) (head+1) ⟨#[]⟩) ⟨#[]⟩
  setNum (signalKey id tH) (head+1)
  return (n,0)
def setTimer (id a:Int):Mp Int :=
 if 0<=a/\a<=999 then do
  setNum (zaf nT id ⟨#[]⟩) a
  return 0
 else return 4
def tickOne (clock:Int) (count:Int) (key:ByteArray):Mp Int:=do
 let a <- num key
 if clock<a then return count else do
  lay key ⟨#[]⟩
  let _ <- send (zbu (key.extract 2 key.size)) 14
  return count+1
def tick (n:Int):Mp (Int × Int) :=
 if n<1 then return (0,4) else do
  let clock <- num cClock
  if 999 - clock<n then return (0,3) else do
   setNum cClock (clock+n)
   let keys <- under nT
   let k <- fold (tickOne (clock+n)) 0 keys
   return (k,0)
/-! ### pages, output -/
def nM:ByteArray:=⟨#[109,47]⟩
def pagesKey (id:Int):ByteArray:=zaf nM id slash
def storePage (id page:Int) (text:ByteArray):Mp Int :=
 if (0<=page/\page<=3)/\text.size<=20 then do
  lay (zaf (pagesKey id) page ⟨#[]⟩) (if text.size=0 then ⟨#[]⟩ else dash++zhx text)
  return 0
 else return 4
def loadPage (id page:Int):Mp (ByteArray × Int) :=
 if 0<=page/\page<=3 then do
  let t <- message (zaf (pagesKey id) page ⟨#[]⟩)
  return (t,0)
 else return (⟨#[]⟩,4)
def forkOne (frm to:Int) (key:ByteArray):Mp Unit:=do
 let v <- look key
 lay (pagesKey to++key.extract (pagesKey frm).size key.size) v
def forkPages (frm to:Int):Mp Unit:=do
 let keys <- under (pagesKey frm)
 each (forkOne frm to) keys
def dropPages (id:Int):Mp Unit:=wipe (pagesKey id)
def dN:ByteArray:=⟨#[100,47,110]⟩
def nD:ByteArray:=⟨#[100,47]⟩
def putOut (text:ByteArray):Mp Int :=
 if 1<=text.size/\text.size<=20 then do
  let n <- num dN
  if 40<=n then return 3 else do
   setNum dN (n+1)
   lay (zaf nD (n+1) ⟨#[]⟩) (dash++zhx text)
   return 0
 else return 4
/-! ### calls -/
def callOk (c:CallD):Bool:=(inB c.kind 1 22 && decide (c.name.size<=20)) && (decide (c.to.size<=20) && decide (c.text.size<=64))
def space:ByteArray:=⟨#[32]⟩
def wordsOf (l:List ByteArray):ByteArray:=l.foldl (fun t w=>t++(w++space)) ⟨#[]⟩
def doFile (c:CallD):Mp AnswerD:=do
 let id <- fileOf c.name
 if id=0 then return ⟨2,0,⟨#[]⟩⟩ else
  if c.kind=6 then do
   let t <- readFile id c.a c.b
   return ⟨0,0,t⟩
  else if c.kind=7 then do
   let r <- writeFile id c.a c.text
   return ⟨r,0,⟨#[]⟩⟩
  else do
   let r <- cutFile id c.a
   return ⟨r,0,⟨#[]⟩⟩
def code (x:Mp Int):Mp AnswerD:=do return ⟨<- x,0,⟨#[]⟩⟩
def codeN (x:Mp (Int × Int)):Mp AnswerD:=do
 let p <- x
 return ⟨p.2,p.1,⟨#[]⟩⟩
def codeT (x:Mp (ByteArray × Int)):Mp AnswerD:=do
 let p <- x
 return ⟨p.2,0,p.1⟩
def doSpawn (proc:Int):Mp AnswerD:=do
 let p <- spawn proc
 if p.2=0 then do
  forkPages proc p.1
  return ⟨p.2,p.1,⟨#[]⟩⟩
 else return ⟨p.2,p.1,⟨#[]⟩⟩
def doEnd (proc n:Int):Mp AnswerD:=do
 let r <- endProc proc n
 if r=0 then do
  dropPages proc
  return ⟨r,0,⟨#[]⟩⟩
 else return ⟨r,0,⟨#[]⟩⟩
def doNames:Mp AnswerD:=do return ⟨0,0,wordsOf (<- names)⟩
def doKids (proc:Int):Mp AnswerD:=do
 let l <- kids proc
 return ⟨0,0,wordsOf (l.map fun n=>zas (Lib.itoa n))⟩
def doKind (proc:Int) (c:CallD):Mp AnswerD :=
 if c.kind=1 then codeN (makeName c.name)
 else if c.kind=2 then code (linkName c.name c.to)
 else if c.kind=3 then code (unlinkName c.name)
 else if c.kind=4 then code (renameName c.name c.to)
 else if c.kind=5 then doNames
 else if c.kind=6 ∨ c.kind=7 ∨ c.kind=8 then doFile c
 else if c.kind=9 then codeN makePipe
 else if c.kind=10 then code (putPipe c.a c.text)
 else if c.kind=11 then codeT (takePipe c.a)
 else if c.kind=12 then doSpawn proc
 else if c.kind=13 then doEnd proc c.a
 else if c.kind=14 then codeN (reap proc c.a)
 else if c.kind=15 then doKids proc
 else if c.kind=16 then code (send c.a c.b)
 else if c.kind=17 then codeN (takeSignal proc)
 else if c.kind=18 then code (setTimer proc c.a)
 else if c.kind=19 then codeN (tick c.a)
 else if c.kind=20 then code (storePage proc c.a c.text)
 else if c.kind=21 then codeT (loadPage proc c.a)
 else code (putOut c.text)
def doCall (proc:Int) (c:CallD):Mp AnswerD:=do
 let s <- state proc
 if s ≠ 1 then return ⟨2,0,⟨#[]⟩⟩ else
  if callOk c=false then return ⟨4,0,⟨#[]⟩⟩ else doKind proc c
end K
end Go.Proofs.YtncnbihlngapbaaGreat
