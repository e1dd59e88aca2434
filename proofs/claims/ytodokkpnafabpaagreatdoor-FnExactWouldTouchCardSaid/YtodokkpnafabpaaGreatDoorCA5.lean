/- Texts of this claim, merged: the walks and what they stand on. Each condition stands in its theorem. -/
import Derived.Laws.CopyOwn
import Derived.Laws.Externs
import Derived.Lib.AppendZerosOnto
import Derived.Lib.Overlaps
import Derived.Test.YtodokkpnafabpaaGreatDoorCA3
set_option linter.unusedVariables false
set_option linter.unusedSimpArgs false
set_option maxRecDepth 100000
set_option maxHeartbeats 8000000
namespace Go
open Go.RowKit
theorem zfm {w:World} {g:Nat} {cur cs:Array Value} {t:TypeId} (hg:w.heap[g]?=some (.cells cur t (0,0))):w.setRow g cs=w.setB g (.cells cs t):=by
 unfold World.setRow World.setB
 congr 1
 apply Array.ext_getElem?
 intro i
 have hl:=za hg
 rw [Array.getElem?_modify,Array.getElem?_setIfInBounds]
 by_cases e:g=i
 ·subst e
  rw [if_pos rfl,if_pos rfl,if_pos hl,hg]
  rfl
 ·rw [if_neg e,if_neg e]
section
variable {P:Program} {w:World} {t e:TypeId} {k bytes:Nat}
theorem zbo (E:Elem P t e k bytes) (ty:TypeId) (g off dLen dCap:Nat) (ad:Addr) (sLen sCap:Nat) (cur:List Value) (T:TypeId) (hg:w.heap[g]?=some (.cells cur.toArray T (0,0)))
  (cs:List Value) (hn:cs.length=Nat.min sLen dLen*k) (hsrc:∀ j v,cs[j]?=some v->w.cell? (ad.add j)=some v) (hfit:off+cs.length<=cur.length) (h1:∀ v ∈ cs,v.oneCell'=true) :
  (Builtin.copy_ #[t,t] ty #[.slice (some ⟨g,off,none⟩) dLen dCap,.slice (some ad) sLen sCap]).run P w=.ok (goInt (Nat.min sLen dLen)) (w.setB g (.cells (splice cur off cs).toArray T)):=by
 obtain ⟨i,z,hi,hz,hs,hb,hzz⟩:=E.hi
 have hl:=run_loadCells_list (P:=P) w ad cs hsrc
 have hst:=run_storeCells_at P g off T cs 0 cur.toArray w hg (by simpa using hfit) h1
 rw [zfm hg] at hst
 have e1:(cur.toArray.toList.take (off+0)++cs++cur.toArray.toList.drop (off+0+cs.length))=splice cur off cs:=by unfold splice;simp
 rw [e1] at hst
 subst hs
 simp [Builtin.copy_,run_underlying E.ht,Builtin.lenOf,Builtin.firstCells,sizeOf,typeInfo,hi,<- hn,hl,hst]
theorem zhL {tn:TypeId} (E:Elem P t e k bytes) (htn:P.underlying tn=some (.int .i64)) (base:Option Addr) (sLen sCap:Nat) (olds:List Value) (hol:olds.length=sLen*k) (hold:base=none->sLen=0) (hsrc:∀ ad,base=some ad->∀ j v,olds[j]?=some v->w.cell? (ad.add j)=some v)
  (m:Nat) (h0 : 0<m) (hg:sCap<sLen+m) (hbig:(sLen+m)*bytes<=140737488355328) (hmb:m*bytes<=281474976710656) (h63:sLen+m<=9223372036854775807) :
  ∃ (G:Nat) (L:List Value),sLen+m<=G/\G<=maxLen/\L.length=G*k/\L.take (sLen*k)=olds /\
   ∀ ty,(Builtin.append_ #[t,tn] ty #[.slice base sLen sCap,.int .i64 (m:Int)]).run P w=.ok (.slice (some ⟨w.heap.size,0,none⟩) (sLen+m) G) (w.drew.alloc (.cells L.toArray e)):=by
 obtain ⟨i,z,hi,hz,hs,hb,hzz⟩:=E.hi
 have hpos:=E.pos
 subst hs hb
 have ho:(Builtin.firstCells i.size sLen (.slice base sLen sCap)).run P w.drew=.ok olds.toArray w.drew:=by
  cases base with
  | none =>
   have:=hold rfl
   subst this
   have:olds = []:=List.eq_nil_of_length_eq_zero (by omega)
   subst this
   exact run_firstCells_none w.drew i.size 0 0 sCap
  | some ad=>exact run_firstCells_some w.drew i.size sLen ad sLen sCap olds hol (fun j v hj=>hsrc ad rfl j v hj)
 refine ⟨grownCap w (sLen+m) sCap e,olds++(Builtin.zeroCells z.cells m).toList++(Builtin.zeroCells z.cells (grownCap w (sLen+m) sCap e - (sLen+m))).toList,grownCap_ge w _ _ _,grownCap_le_maxLen w _ _ _ (by unfold maxLen;omega),?_,?_,fun ty=>?_⟩
 ·have hge:=grownCap_ge w (sLen+m) sCap e
  rw [List.length_append,List.length_append,hol]
  simp only [Builtin.zeroCells,Array.length_toList,Array.size_map,Array.size_range,hzz]
  rw [<- Nat.add_mul,<- Nat.add_mul]
  congr 1
  omega
 ·rw [List.append_assoc,<- hol,List.take_left]
 ·have h:=Lib.run_append_grow_zeros w t tn ty e i z .i64 .i64 E.ht htn hi hz base sLen sCap olds ho m h0 hpos hg (by omega) hmb (growslice_fits hg hbig)
  rw [h]
  congr 3
  apply Array.ext'
  simp
theorem zeV {o:Oper} {a:Act} {K:Act->World->Prop} {Q:Exit->Act->World->Prop} {w':World} {v u r:Value} (d s:Operand) (t:TypeId)
  (ho:o.op=.call { callee:=.builtin .copy,args:=#[d,s],argTypes:=#[t,t] }) (hd:a.eval d=v) (hs:a.eval s=u)
  (hr:(Builtin.copy_ #[t,t] o.type #[v,u]).run P w=.ok r w') (h:K (a.put o.dst r) w'):o.wp P a w K Q:=by
 unfold Oper.wp execOp
 simp only [ho,resolve,invoke,builtin,Sem.run_bind,Sem.run_pure,Result.andThen_ok,List.map_toArray,List.map_cons,List.map_nil,hd,hs,hr]
 exact h
theorem ze5 {ops:Array Oper} {rest:List Oper} {o:Oper} {a:Act} {Q:Exit->Act->World->Prop} {w':World} {v u r:Value} (hgd:o.guard=none) (d s:Operand) (t tn:TypeId)
  (ho:o.op=.call { callee:=.builtin .append,args:=#[d,s],argTypes:=#[t,tn] }) (hd:a.eval d=v) (hs:a.eval s=u)
  (hr:(Builtin.append_ #[t,tn] o.type #[v,u]).run P w=.ok r w') (h:wpList P ops Q rest (a.put o.dst r) w'):wpList P ops Q (o :: rest) a w :=
 wpList_plain hgd fun _ hK=>by
  unfold Oper.wp execOp
  simp only [ho,resolve,invoke,builtin,Sem.run_bind,Sem.run_pure,Result.andThen_ok,List.map_toArray,List.map_cons,List.map_nil,hd,hs,hr]
  exact hK _ _ h
theorem zjd {z:Value} (n:Nat) (hz:∀ u ∈ z.cells,u.oneCell'=true):∀ v ∈ (Builtin.zeroCells z.cells n).toList,v.oneCell'=true:=by
 intro v hv
 simp only [Builtin.zeroCells,Array.toList_map,List.mem_map,Array.mem_toList_iff,Array.mem_range] at hv
 obtain ⟨i,hi,rfl⟩:=hv
 have h0 : 0<z.cells.size:=by
  rcases Nat.eq_zero_or_pos z.cells.size with h|h
  ·rw [h] at hi;omega
  ·exact h
 have hlt:i % z.cells.size<z.cells.size:=Nat.mod_lt _ h0
 rw [getElem!_pos z.cells _ hlt]
 exact hz _ (Array.getElem_mem hlt)
theorem ziR (z:Value) (ht:P.underlying t=some (.slice e)) (hv0:(P.info? e).map (fun i=>i.zero)=some (some z)) (h1:∀ u ∈ z.cells,u.oneCell'=true) (ty:TypeId) (g off n c:Nat) (hn : 0<n) (cur:List Value) (T:TypeId) (hg:w.heap[g]?=some (.cells cur.toArray T (0,0)))
  (hfit:off+n*z.cells.size<=cur.length) :
  (Builtin.clear_ #[t] ty #[.slice (some ⟨g,off,none⟩) n c]).run P w=.ok (.tuple #[]) (w.setB g (.cells (splice cur off (Builtin.zeroCells z.cells n).toList).toArray T)):=by
 have hv:∀ w,(zeroValue e).run P w=.ok z w:=fun w=>by
  cases hi:P.info? e with
  | none=>rw [hi] at hv0;cases hv0
  | some i =>
   rw [hi] at hv0
   have hz:i.zero=some z:=by simpa using hv0
   simp [zeroValue,typeInfo,hi,hz]
 have hl:(Builtin.zeroCells z.cells n).toList.length=n*z.cells.size:=by simp [Builtin.zeroCells]
 have hst:=run_storeCells_at P g off T (Builtin.zeroCells z.cells n).toList 0 cur.toArray w hg (by rw [hl];simpa using hfit) (zjd n h1)
 rw [zfm hg] at hst
 have e1:(cur.toArray.toList.take (off+0)++(Builtin.zeroCells z.cells n).toList++cur.toArray.toList.drop (off+0+(Builtin.zeroCells z.cells n).toList.length))=splice cur off (Builtin.zeroCells z.cells n).toList:=by unfold splice;simp
 rw [e1] at hst
 obtain ⟨m,rfl⟩ : ∃ m,n=m+1:=⟨n - 1,by omega⟩
 simp [Builtin.clear_,run_underlying ht,hv,hst]
end
theorem ze9 {α : Type} (L:List α) (off:Nat) (cs:List α) (m:Nat) (h:m<=off) (hl:off<=L.length):(splice L off cs).take m=L.take m:=by
 unfold splice
 rw [List.take_append_of_le_length (by rw [List.length_take];omega),List.take_take,Nat.min_eq_left h]
theorem zaG {w w':World} {row:Option Nat} (h:w.grownBy w' row):Upon row.toList w w' :=
 ⟨h.os,h.tape,h.output,h.size,fun b hb hn=>h.block b hb (fun e=>hn (by rw [<- e];simp))⟩
theorem zgc {α : Type} (L:List α) (off:Nat) (cs:List α):splice L off cs=L.take off++(cs++L.drop (off+cs.length)):=rfl
theorem zfe {α : Type} (L:List α) (off:Nat) (cs ds:List α) (hl:off+cs.length+ds.length<=L.length):(splice (splice L off cs) (off+cs.length) ds).take (off+cs.length+ds.length)=L.take off++(cs++ds):=by
 have e1:(splice L off cs).take (off+cs.length)=L.take off++cs:=by
  unfold splice
  rw [<- List.append_assoc,List.take_left' (by rw [List.length_append,List.length_take];omega)]
 have e2:(splice (splice L off cs) (off+cs.length) ds)=(L.take off++cs)++(ds++(splice L off cs).drop (off+cs.length+ds.length)):=by
  rw [zgc (splice L off cs),e1]
 rw [e2,<- List.append_assoc,List.take_left' (by simp only [List.length_append,List.length_take];omega),List.append_assoc]
theorem zeA {α : Type} (L:List α) (off:Nat) (cs ds:List α) (hl:off+cs.length+ds.length<=L.length):(splice (splice L (off+cs.length) ds) off cs).take (off+cs.length+ds.length)=L.take off++(cs++ds):=by
 have e1:(splice L (off+cs.length) ds).take off=L.take off:=ze9 _ _ _ _ (by omega) (by omega)
 have e2:(splice L (off+cs.length) ds).drop (off+cs.length)=ds++L.drop (off+cs.length+ds.length):=by
  unfold splice
  rw [List.drop_left' (by rw [List.length_take];omega)]
 have e3:splice (splice L (off+cs.length) ds) off cs=(L.take off++(cs++ds))++L.drop (off+cs.length+ds.length):=by
  rw [zgc (splice L (off+cs.length) ds),e1,e2]
  simp only [List.append_assoc]
 rw [e3,List.take_left' (by simp only [List.length_append,List.length_take];omega)]
end Go
namespace Go.Proofs.YtodokkpnafabpaaGreatDoor
open Go.ChangeShapes Go.WideShapes Go.ChangeAt Go.RowKit
theorem zd4 {α : Type} (p : α->Bool):∀ xs:List α,xs.any p=true->∃ n,∃ h:n<xs.length,(xs.take n).any p=false/\p xs[n]=true
 | [],h=>by cases h
 | x :: xs,h=>by
  cases hp:p x with
  | true=>exact ⟨0,by simp,rfl,hp⟩
  | false =>
   rw [List.any_cons,hp,Bool.false_or] at h
   obtain ⟨n,hn,h1,h2⟩:=zd4 p xs h
   exact ⟨n+1,by simpa using hn,by rw [List.take_succ_cons,List.any_cons,hp,h1];rfl,by simpa using h2⟩
theorem zez (key:ByteArray) (xs:List CellD) (h:xs.any (zY key)=false):zE key xs=xs:=by
 unfold zE
 rw [List.filter_eq_self]
 intro c hc
 rw [List.any_eq_false] at h
 simpa using h c hc
theorem zeX (xs:List CellD):(xs.flatMap CellD.row).length=xs.length*2:=by
 have:=zu.flat_len xs
 exact this
theorem zbt (v:Value) (ds:List CellD) (key:ByteArray) (b0 B:Nat) (w:World) (ho:OwnL zu 66 w B v ds) (hb0:b0<w.heap.size) (hnb0:v.ownBlock ≠ some b0) (hc0:w.cell? ⟨b0,0,none⟩=some (.string key)) :
  Calls Tryz.prog 194 #[v,.func (Fn.func 195) #[] #[.pointer (some ⟨b0,0,none⟩)]] w fun e w'=>∃ v',e=.returned v'/\OwnL zu 66 w' B v' (zE key ds)/\v'.ownBlock=v.ownBlock/\Upon v.ownBlock.toList w w':=by
 have HOWN:=Hd ho
 cases hany:ds.any (zY key) with
 | false =>
  have HI:Hid (zam (zY key) ds = -1):=zaw _ _ hany
  have HW:Hid (zE key ds=ds):=zez key ds hany
  obtain ⟨ao,cap,rfl⟩:=ho.rd.form
  have HC:=Hd hc0
  clear ho hc0 hany
  go_enter Tryz.func194,Tryz.ntmps194
  go_wp2_with fail
  (go_at_call 196;refine (zcy _ ds key b0 _ HOWN.out.rd hb0 HC.out).mono ?_;rintro e w' ⟨rfl,hb⟩;obtain ⟨X,rfl⟩:=hb.ext;clear hb)
  rw [HI.out]
  go_wp2
  go_ret
  exact ⟨_,rfl,by rw [HW.out];exact HOWN.out.ext _,rfl,Upon.below (by repeat (first|with_reducible exact Below.refl _ _|with_reducible apply Below.ofExt|with_reducible apply Below.ofAlloc|with_reducible apply Below.drew|with_reducible apply Below.ofDrewN|with_reducible assumption|(with_reducible refine Below.setCell ?_ (by first|exact Nat.le_refl _|(simp [go_sem];done)|(simp [go_sem];omega)) _)))⟩
 | true =>
  obtain ⟨i0,hi0,hbef,hat⟩:=zd4 _ _ hany
  have HI:Hid (zam (zY key) ds=i0):=zar _ _ i0 hi0 hbef hat
  have HST:Hid (zE key (ds.take (i0+1))=ds.take i0):=by
   show _ = _
   rw [List.take_succ_eq_append_getElem hi0,zaz,hat,if_pos rfl,List.append_nil,zez key _ hbef]
  clear hany hbef hat
  rcases ho.2 with ⟨_,h0⟩|⟨g,cap,cur,rfl,hg,hh,hn,hm,hsz,ht⟩
  ·have:ds = []:=List.eq_nil_of_length_eq_zero h0
   rw [this] at hi0
   simp at hi0
  have hgl:=za hh
  have hnb:b0 ≠ g:=fun e=>hnb0 (by rw [e];rfl)
  have hnb':¬ g=b0:=fun e=>hnb e.symm
  clear hnb0 ho
  have HH:=Hd hh
  have HT:Hid (cur.toList.take (ds.length*2)=ds.flatMap CellD.row):=ht
  have HSZ:Hid (cur.size=cap*2):=hsz
  have HE:Hid (w.setB g (.cells cur 66 (0,0))=w):=zf hh
  have HC:=Hd hc0
  have hce:∀ (n:Nat) (hk:n<ds.length),cur[n*2]?=some (.string ds[n].key)/\cur[n*2+1]?=some (.string ds[n].val):=by
   intro n hk
   obtain ⟨ao',cp',e1,_,_,_,hne⟩:=HOWN.out.rd.shape
   obtain ⟨b',off',rfl,_,hcell⟩:=hne (by intro e;rw [e] at hk;simp at hk)
   simp only [Value.slice.injEq,Option.some.injEq,Addr.mk.injEq,and_true,true_and] at e1
   obtain ⟨⟨rfl,rfl⟩,rfl⟩:=e1
   have h0:=hcell n hk 0 _ rfl
   have h1:=hcell n hk 1 _ rfl
   rw [zd HH.out] at h0 h1
   simp only [show zu.k=2 from rfl,Nat.zero_add,Nat.add_zero] at h0 h1
   exact ⟨h0,h1⟩
  clear hh ht hsz hc0
  unfold maxLen at hm
  refine World.at_block HH.out ?_
  go_enter Tryz.func194,Tryz.ntmps194
  go_wp2_with fail
  (go_at_call 196;refine (zcy _ ds key b0 _ (by rw [HE.out];exact HOWN.out.rd) (by simp [go_sem];omega) (by rw [HE.out];exact HC.out)).mono ?_;rintro e w' ⟨rfl,hb⟩;obtain ⟨X,rfl⟩:=hb.ext;clear hb)
  rw [HI.out]
  have HCE:=Hd hce
  clear hce
  have hne1:((i0:Int) == -1)=false:=beq_false_of_ne (by omega)
  go_wp2
  go_loopw [5,6] (fun iv jv wr=>∃ (k j:Nat) (cs:Array Value),iv=.int .i64 k/\jv=.int .i64 j/\k<j/\j<=ds.length/\Below (w.setB g (.cells cs 66)).heap.size (w.setB g (.cells cs 66)) wr/\cs.size=cap*2/\cs.toList.take (k*2)=(zE key (ds.take j)).flatMap CellD.row/\∀ m,j*2<=m->m<ds.length*2->cs[m]?=cur[m]?) (fun _ jv _=>ds.length - (intOf jv).toNat)
  case atStart=>exact ⟨i0,i0+1,cur,rfl,by go_num,by omega,by omega,(by repeat (first|with_reducible exact Below.refl _ _|with_reducible apply Below.ofExt|with_reducible apply Below.ofAlloc|with_reducible apply Below.drew|with_reducible apply Below.ofDrewN|with_reducible assumption|(with_reducible refine Below.setCell ?_ (by first|exact Nat.le_refl _|(simp [go_sem];done)|(simp [go_sem];omega)) _))),HSZ.out,by
   rw [HST.out]
   have h:=HT.out
   have h2:=congrArg (List.take (i0*2)) h
   rw [List.take_take,Nat.min_eq_left (by omega)] at h2
   rw [h2]
   have e:ds.flatMap CellD.row=(ds.take i0).flatMap CellD.row++(ds.drop i0).flatMap CellD.row:=by rw [<- List.flatMap_append,List.take_append_drop]
   rw [e,List.take_left' (by rw [zeX,List.length_take,Nat.min_eq_left (by omega)])],fun m _ _=>rfl⟩
  case round =>
   obtain ⟨k,j,cs,rfl,rfl,hkj,hj,hbel,hcs,htk,htl⟩:=hrel
   obtain ⟨Y,rfl⟩:=hbel.ext
   clear hbel
   have HTK:=Hd htk
   have HTL:=Hd htl
   have HCS:=Hd hcs
   clear htk htl hcs
   by_cases hlt:(j:Int)<ds.length
   case pos =>
    have hk:j<ds.length:=by omega
    obtain ⟨y0,y1⟩:=HCE.out j hk
    rw [<- HTL.out _ (by omega) (by omega)] at y0
    rw [<- HTL.out _ (by omega) (by omega)] at y1
    have hst:ds.take (j+1)=ds.take j ++ [ds[j]]:=List.take_succ_eq_append_getElem hk
    generalize ds[j]=d at y0 y1 hst
    have l0:k*2<cs.size:=by rw [HCS.out];omega
    have l1:k*2+1<cs.size:=by rw [HCS.out];omega
    have l4:g<w.heap.size+Y.bs.size:=by omega
    have l5:g<w.heap.size+Y.bs.size+1:=by omega
    have l6:¬ g=w.heap.size+Y.bs.size:=by omega
    cases hik:zY key d with
    | true =>
     have HS:Hid (zE key (ds.take (j+1))=zE key (ds.take j)):=by show _ = _;rw [hst,zaz,hik,if_pos rfl,List.append_nil]
     clear hst
     go_wp2_with fail
     (go_at_call 195;refine (zdT d key b0 _ (by simp [go_sem];try omega) (by repeat (first|exact HC.out|refine Grew.cell (Grew.ext _ _) ?_|refine Grew.cell (Grew.alloc _ _) ?_|rw [za2 _ _ _ _ _ hnb]))).mono ?_;rintro e w' ⟨rfl,hb⟩;obtain ⟨X,rfl⟩:=hb.ext;clear hb)
     rw [hik]
     go_wp2
     go_roundw
     case rel=>exact ⟨k,j+1,cs,rfl,by go_num,by omega,by omega,(by repeat (first|with_reducible exact Below.refl _ _|with_reducible apply Below.ofExt|with_reducible apply Below.ofAlloc)),HCS.out,by rw [HS.out];exact HTK.out,fun m h1 h2=>HTL.out m (by omega) h2⟩
     case measure=>simp [intOf];omega
    | false =>
     have HS:Hid (zE key (ds.take (j+1))=zE key (ds.take j) ++ [d]):=by show _ = _;rw [hst,zaz,hik];rfl
     clear hst
     go_wp2_with fail
     (go_at_call 195;refine (zdT d key b0 _ (by simp [go_sem];try omega) (by repeat (first|exact HC.out|refine Grew.cell (Grew.ext _ _) ?_|refine Grew.cell (Grew.alloc _ _) ?_|rw [za2 _ _ _ _ _ hnb]))).mono ?_;rintro e w' ⟨rfl,hb⟩;obtain ⟨X,rfl⟩:=hb.ext;clear hb)
     rw [hik]
     go_wp2
     go_roundw
     case rel=>exact ⟨k+1,j+1,_,by go_num,by go_num,by omega,by omega,(by repeat (first|with_reducible exact Below.refl _ _|with_reducible apply Below.ofExt|with_reducible apply Below.ofAlloc|with_reducible apply Below.drew|with_reducible apply Below.ofDrewN|with_reducible assumption|(with_reducible refine Below.setCell ?_ (by first|exact Nat.le_refl _|(simp [go_sem];done)|(simp [go_sem];omega)) _))),by simpa using HCS.out,by
      have h0:=zcU (v:=.string d.key) HTK.out rfl rfl (by omega)
      have h1:=zcU (p:=(k+1)*2) (v:=.string d.val) h0 rfl (by omega) (by simp;omega)
      rw [HS.out,List.flatMap_append]
      simpa [CellD.row] using h1,fun m h1 h2=>by
      rw [Array.getElem?_setIfInBounds_ne (by omega),Array.getElem?_setIfInBounds_ne (by omega)]
      exact HTL.out m (by omega) h2⟩
     case measure=>simp [intOf];omega
   case neg =>
    have e:j=ds.length:=by omega
    have hlen:k=(zE key ds).length:=by
     have:=congrArg List.length HTK.out
     rw [e,List.take_length,zeX,List.length_take,show cs.toList.length=cap*2 from (Array.length_toList (xs:=cs)).trans HCS.out] at this
     omega
    have HLEN:=Hd hlen
    have hck:¬ cap=k:=by have:=HLEN.out;omega
    have HLC:Hid (cs.toList.length=cap*2):=(Array.length_toList (xs:=cs)).trans HCS.out
    have HG:Hid (((w.setB g (.cells cs 66)).ext Y).heap[g]?=some (.cells cs.toList.toArray 66 (0,0))):=by
     show _ = _
     rw [World.ext_get _ _ (by rw [ze];exact hgl),zy _ _ _ hgl,Array.toArray_toList]
    have hcl:∀ ty,(Builtin.clear_ #[38] ty #[.slice (some ⟨g,k*2,none⟩) (ds.length - k) (cap - k)]).run Tryz.prog ((w.setB g (.cells cs 66)).ext Y)=.ok (.tuple #[]) ((w.setB g (.cells (splice cs.toList (k*2) (Builtin.zeroCells (Value.agg #[.string ⟨#[]⟩,.string ⟨#[]⟩]).cells (ds.length - k)).toList).toArray 66)).ext Y):=fun ty=>by
     have:=ziR (P:=Tryz.prog) (w:=(w.setB g (.cells cs 66)).ext Y) (t:=38) (e:=66) (.agg #[.string ⟨#[]⟩,.string ⟨#[]⟩]) Tryz.underlying38 (by kernel_rfl) (by decide) ty g (k*2) (ds.length - k) (cap - k) (by omega) cs.toList 66 HG.out (by rw [HLC.out];show k*2+(ds.length - k)*2<=_;omega)
     rw [this]
     congr 1
     rw [zan _ _ _ _ (by rw [ze];exact hgl),zaO]
    obtain ⟨L,hL⟩ : ∃ L,L=splice cs.toList (k*2) (Builtin.zeroCells (Value.agg #[.string ⟨#[]⟩,.string ⟨#[]⟩]).cells (ds.length - k)).toList:=⟨_,rfl⟩
    rw [<- hL] at hcl
    have HL:Hid (L.length=cap*2/\L.take (k*2)=(zE key ds).flatMap CellD.row):=by
     rw [hL]
     refine ⟨?_,?_⟩
     ·rw [length_splice _ _ _ (by rw [show (Builtin.zeroCells (Value.agg #[.string ⟨#[]⟩,.string ⟨#[]⟩]).cells (ds.length - k)).toList.length=(ds.length - k)*2 by simp [Builtin.zeroCells,Value.cells],HLC.out];omega),HLC.out]
     ·rw [ze9 _ _ _ _ (Nat.le_refl _) (by rw [HLC.out];omega),HTK.out,e,List.take_length]
    clear hL hlen
    go_wp2
    go_ret
    have hlen:=HLEN.out
    refine ⟨_,rfl,?_,rfl,?_⟩
    ·show OwnL zu 66 _ B (.slice (some ⟨g,0,none⟩) k cap) _
     rw [hlen]
     refine OwnL.ext ?_ _
     refine ⟨zu.flat_len _,.inr ⟨g,cap,L.toArray,rfl,hg,zy _ _ _ hgl,by rw [<- hlen];omega,by unfold maxLen;omega,by show L.toArray.size=cap*2;simpa using HL.out.1,by rw [<- hlen];show L.toArray.toList.take (k*2) = _;exact HL.out.2⟩⟩
    ·exact Upon.setBExt _ _ _ (by simp [Value.ownBlock])
end Go.Proofs.YtodokkpnafabpaaGreatDoor
namespace Go
section
variable {P:Program}
theorem run_appF {w:World} {t ty e:TypeId} {size bytes:Nat} (E:Elem P t e size bytes) {base:Nat} {v:Value} {n:Nat} {xs:List Value} (hown:w.ownsRow base e size v n xs)
  {x:Value} {m:Nat} {news:List Value} (hx:Sl w x m news) (hl:news.length=m*size) (h1:∀ u ∈ news,u.oneCell'=true) (hb:(n+m)*bytes<=140737488355328) (h63:n+m<=maxLen) (hbase:base<=w.heap.size) :
  ∃ v' w',(Builtin.append_ #[t,t] ty #[v,x]).run P w=.ok v' w'/\w'.ownsRow base e size v' (n+m) (xs++news)/\w.grownBy w' v.ownBlock/\(v'=.slice none 0 0 ↔ v=.slice none 0 0/\m=0)/\(v'.ownBlock=v.ownBlock ∨ v'.ownBlock=some w.heap.size):=by
 obtain ⟨v',w',hr,h2,h3,h4⟩:=zhV (P:=P) (ty:=ty) E hown hx hl h1 hb h63 hbase
 refine ⟨v',w',hr,h2,h3,h4,?_⟩
 have same:∀ {u:Value} {w'':World},(Builtin.append_ #[t,t] ty #[v,x]).run P w=.ok u w''->v'=u:=fun h=>by
  rw [hr] at h
  injection h
 obtain ⟨i,z,hi,hz,hs,hby,hzs⟩:=E.hi
 subst hs
 subst hby
 have hsm:n+m<=9223372036854775807:=by simp only [maxLen] at h63;omega
 rcases hx with ⟨rfl,rfl,rfl⟩|⟨b,off,cap,rfl,_,_,hc⟩
 ·rw [same (run_append_owned_none w base t ty e i i.size E.ht hi v n xs hown)]
  exact .inl rfl
 ·have hnews:∀ j u,news[j]?=some u->w.cell? ((⟨b,off,none⟩ : Addr).add j)=some u:=fun j u hj=>by rw [zby];exact hc j u hj
  rcases hown.2 with ⟨rfl,rfl⟩|⟨g,gcap,cur,rfl,hbg,hg,hnc,hcm,hcs,htake⟩
  ·by_cases hm:m=0
   ·rw [h4.2 ⟨rfl,hm⟩]
    exact .inl rfl
   ·rw [same (run_append_nil (P:=P) w t ty e i z E.ht hi hz ⟨b,off,none⟩ m cap news hl hnews (by omega) (by omega) (by have hb:=hb;simp only [Nat.zero_add] at hb;omega))]
    exact .inr rfl
  ·by_cases hroom:n+m<=gcap
   ·have hfit:n*i.size+news.length<=cur.size:=by rw [hl,hcs,<- Nat.add_mul];exact Nat.mul_le_mul_right _ hroom
    rw [same (run_append_room (P:=P) w t ty e i E.ht hi g n gcap cur hg ⟨b,off,none⟩ m cap news hl hnews h1 hroom hfit)]
    exact .inl rfl
   ·have holds:∀ j u,xs[j]?=some u->w.cell? ((⟨g,0,none⟩ : Addr).add j)=some u:=hown.cells (g:=g) rfl
    rw [same (run_append_grow (P:=P) w t ty e i z E.ht hi hz ⟨g,0,none⟩ n gcap xs hown.1 holds ⟨b,off,none⟩ m cap news hl hnews (by omega) (by omega) (growslice_fits (by omega) hb))]
    exact .inr rfl
theorem zas {α : Type} {R:RowOf α} {w:World} {ops:Array Oper} {rest:List Oper} {o:Oper} {a:Act} {Q:Exit->Act->World->Prop} (hgd:o.guard=none) (s x:Operand) (t:TypeId)
  (ho:o.op=.call { callee:=.builtin .append,args:=#[s,x],argTypes:=#[t,t] })
  {e:TypeId} {bytes:Nat} (E:Elem P t e R.k bytes) {B:Nat} {v:Value} {xs:List α} (hown:OwnL R e w B v xs) (hs:a.eval s=v)
  {vx:Value} {ys:List α} (hx:RdL R w vx ys) (hvx:a.eval x=vx) (hb:(xs.length+ys.length)*bytes<=140737488355328) (h63:xs.length+ys.length<=maxLen) (hbase:B<=w.heap.size)
  (h:∀ v' w',OwnL R e w' B v' (xs++ys)->w.grownBy w' v.ownBlock->(v'.ownBlock=v.ownBlock ∨ v'.ownBlock=some w.heap.size)->wpList P ops Q rest (a.put o.dst v') w'):wpList P ops Q (o :: rest) a w:=by
 refine wpList_plain hgd fun K hK=>?_
 obtain ⟨v',w',hr,h2,h3,h4,h5⟩:=run_appF (P:=P) (ty:=o.type) E hown hx (R.flat_len ys) (R.flat_one ys) hb h63 hbase
 unfold Oper.wp execOp
 simp only [ho,resolve,invoke,builtin,Sem.run_bind,Sem.run_pure,Result.andThen_ok,List.map_toArray,List.map_cons,List.map_nil,hs,hvx,hr]
 refine hK _ _ (h v' w' ?_ h3 h5)
 unfold OwnL
 rw [List.length_append,List.flatMap_append]
 exact h2
def Off {α : Type} (xs:List α) (v o:Value):Prop:=xs = [] ∨ ∀ k,o.ownBlock=some k->v.ownBlock ≠ some k
theorem RdL.keptO {α : Type} {R:RowOf α} {w w':World} {v o:Value} {xs:List α} (h:RdL R w v xs) (hd:Off xs v o) (hg:w.grownBy w' o.ownBlock):RdL R w' v xs:=by
 rcases hd with rfl|hd
 ·rcases h with h|⟨b,off,cap,rfl,h1,h2,h3⟩
  ·exact .inl h
  ·exact .inr ⟨b,off,cap,rfl,h1,h2,fun j u hj=>by simp at hj⟩
 ·refine h.kept hg ?_
  cases hv:v.ownBlock with
  | none=>exact .inl rfl
  | some k =>
   right
   intro he
   exact hd k he.symm hv
theorem Off.next {α : Type} {R:RowOf α} {w:World} {v o o':Value} {xs:List α} (hk : 0<R.k) (hd:Off xs v o) (h:RdL R w v xs) (ho:o'.ownBlock=o.ownBlock ∨ o'.ownBlock=some w.heap.size):Off xs v o':=by
 rcases hd with rfl|hd
 ·exact .inl rfl
 ·by_cases hx:xs = []
  ·exact .inl hx
  ·right
   intro k hk2 hv
   rcases ho with ho|ho
   ·exact hd k (ho ▸ hk2) hv
   ·rw [ho] at hk2
    cases hk2
    obtain ⟨ao,cap,rfl,_,_,_,h4⟩:=h.shape
    obtain ⟨b,off,rfl,hb,_⟩:=h4 hx
    have:=hb hk
    have e:b=w.heap.size:=by simpa [Value.ownBlock] using hv
    omega
theorem Off.fresh {α : Type} {R:RowOf α} {w:World} {v o:Value} {xs:List α} (hk : 0<R.k) (h:RdL R w v xs) (ho:∀ k,o.ownBlock=some k->w.heap.size<=k):Off xs v o:=by
 by_cases hx:xs = []
 ·exact .inl hx
 ·right
  intro k hk2 hv
  obtain ⟨ao,cap,rfl,_,_,_,h4⟩:=h.shape
  obtain ⟨b,off,rfl,hb,_⟩:=h4 hx
  have h5:=hb hk
  have h6:=ho k hk2
  have e:b=k:=by simpa [Value.ownBlock] using hv
  omega
theorem Off.later {α : Type} {R:RowOf α} {e:TypeId} {w':World} {B:Nat} {v o:Value} {xs:List α} (h:OwnL R e w' B v xs) (ho:∀ k,o.ownBlock=some k->k<B):Off xs v o:=by
 right
 intro k hk2 hv
 have h1:=(h.lt k hv).1
 have h2:=ho k hk2
 omega
end
end Go
namespace Go.Proofs.YtodokkpnafabpaaGreatDoor
open Go.ChangeShapes Go.WideShapes Go.ChangeAt Go.RowKit
theorem one_rdl (w:World) (c:CellD) (gx:Nat) (hx:w.heap[gx]?=some (.cells #[.string c.key,.string c.val] 66 (0,0))):RdL zu w (.slice (some ⟨gx,0,none⟩) 1 1) [c]:=by
 refine .inr ⟨gx,0,1,rfl,Nat.le_refl _,by unfold maxLen;omega,fun j u hj=>?_⟩
 rw [zd hx,Nat.zero_add]
 simpa [zu,CellD.row] using hj
theorem zaF (w:World) (o:Obj) (n:Nat) (h:n=w.heap.size):(w.alloc o).heap[n]?=some o:=by
 subst h
 show (w.heap.push o)[_]? = _
 simp
theorem zd5 (w:World) (o:Obj) {b:Nat} (h:b<w.heap.size):(w.alloc o).heap[b]?=w.heap[b]?:=by
 show (w.heap.push o)[_]? = _
 rw [Array.getElem?_push,if_neg (Nat.ne_of_lt h)]
theorem zhi {w:World} {B g n cap:Nat} {ds:List CellD} {cur:Array Value} (hh:w.heap[g]?=some (.cells cur 66 (0,0))) (hg:B<=g) (hl:n=ds.length) (hn:n<=cap) (hm:cap<=maxLen) (hs:cur.size=cap*2) (ht:cur.toList.take (n*2)=ds.flatMap CellD.row):OwnL zu 66 w B (.slice (some ⟨g,0,none⟩) n cap) ds:=by
 subst hl
 exact ⟨zu.flat_len _,.inr ⟨g,cap,cur,rfl,hg,hh,hn,hm,hs,ht⟩⟩
theorem zdY (v:Value) (ds:List CellD) (i:Nat) (c:CellD) (gx B:Nat) (w:World) (ho:OwnL zu 66 w B v ds) (hi:i<=ds.length) (hx:w.heap[gx]?=some (.cells #[.string c.key,.string c.val] 66 (0,0))) (hgx:v.ownBlock ≠ some gx) (hl:ds.length<=549755813888) (hB:B<=w.heap.size) :
  Calls Tryz.prog 198 #[v,.int .i64 i,.slice (some ⟨gx,0,none⟩) 1 1] w fun e w'=>∃ v',e=.returned v'/\OwnL zu 66 w' B v' (ds.take i++c :: ds.drop i)/\Upon v.ownBlock.toList w w'/\(v'.ownBlock=v.ownBlock ∨ v'.ownBlock=some w.heap.size):=by
 have HX:=Hd (one_rdl w c gx hx)
 have HGX:=Hd hx
 have HOWN:=Hd ho
 have hgl:=za hx
 rcases ho.2 with ⟨rfl,h0⟩|⟨g,cap,cur,rfl,hg,hh,hn,hm,hsz,ht⟩
 ·have:ds = []:=List.eq_nil_of_length_eq_zero h0
  subst this
  obtain rfl:i=0:=by simpa using hi
  have HF:Hid (([]:List CellD).take 0++c :: ([]:List CellD).drop 0 = [] ++ [c]):=rfl
  clear ho hx
  go_enter Tryz.func198,Tryz.ntmps198
  go_wp2_with (at_builtin;refine zA ?_)
  refine zas rfl _ _ _ rfl zD (B:=B) (R:=zu) (xs:=[]) HOWN.out rfl (ys:=[c]) HX.out rfl (by simp only [List.length_singleton];omega) (by simp only [List.length_singleton];unfold maxLen;omega) hB ?_
  intro v4 w4 hown4 hgr4 hwh4
  have HO4:=Hd hown4
  have HU4:=Hd (zaG hgr4)
  have HWH:=Hd hwh4
  clear hown4 hgr4 hwh4
  go_wp2
  go_ret
  exact ⟨_,rfl,by exact HO4.out,HU4.out,HWH.out⟩
 have HH:=Hd hh
 have HT:Hid (cur.toList.take (ds.length*2)=ds.flatMap CellD.row):=ht
 have HSZ:Hid (cur.size=cap*2):=hsz
 have hgb:=za hh
 have hne:gx ≠ g:=fun e=>hgx (by rw [e];rfl)
 clear ho hx hh ht hsz hgx
 unfold maxLen at hm
 by_cases hin:i=ds.length
 case pos =>
  have HF:Hid (ds.take i++c :: ds.drop i=ds ++ [c]):=by show _ = _;rw [hin,List.take_length,List.drop_length]
  subst hin
  by_cases hcap:cap=ds.length
  case pos =>
   have hcap2:¬ ds.length<cap:=by omega
   go_enter Tryz.func198,Tryz.ntmps198
   go_wp2_with (at_builtin;refine zA ?_)
   refine zas rfl _ _ _ rfl zD (B:=B) (R:=zu) (xs:=ds) HOWN.out rfl (ys:=[c]) HX.out rfl (by simp only [List.length_singleton];omega) (by simp only [List.length_singleton];unfold maxLen;omega) hB ?_
   intro v4 w4 hown4 hgr4 hwh4
   have HO4:=Hd hown4
   have HU4:=Hd (zaG hgr4)
   have HWH:=Hd hwh4
   clear hown4 hgr4 hwh4
   go_wp2
   go_ret
   exact ⟨_,rfl,by (rw [HF.out];exact HO4.out),HU4.out,HWH.out⟩
  case neg =>
   go_enter Tryz.func198,Tryz.ntmps198
   go_wp2_with (at_builtin;refine zA ?_)
   refine zas rfl _ _ _ rfl zD (B:=B) (R:=zu) (xs:=ds) HOWN.out rfl (ys:=[c]) HX.out rfl (by simp only [List.length_singleton];omega) (by simp only [List.length_singleton];unfold maxLen;omega) hB ?_
   intro v4 w4 hown4 hgr4 hwh4
   have HO4:=Hd hown4
   have HU4:=Hd (zaG hgr4)
   have HWH:=Hd hwh4
   clear hown4 hgr4 hwh4
   go_wp2
   go_ret
   exact ⟨_,rfl,by (rw [HF.out];exact HO4.out),HU4.out,HWH.out⟩
 case neg =>
  have hlt:i<ds.length:=by omega
  have hz2:¬ ((i:Int)=(ds.length:Int)):=by omega
  have hc1:¬ cap=i:=by omega
  obtain ⟨Ra,hRa⟩ : ∃ R,R=(ds.take i).flatMap CellD.row:=⟨_,rfl⟩
  obtain ⟨Rb,hRb⟩ : ∃ R,R=(ds.drop i).flatMap CellD.row:=⟨_,rfl⟩
  obtain ⟨Rc,hRc⟩ : ∃ R,R=CellD.row c:=⟨_,rfl⟩
  have la:Ra.length=i*2:=by rw [hRa,zeX,List.length_take,Nat.min_eq_left hi]
  have lb:Rb.length=(ds.length - i)*2:=by rw [hRb,zeX,List.length_drop]
  have lc:Rc.length=2:=by rw [hRc];rfl
  have hab:cur.toList.take (ds.length*2)=Ra++Rb:=by rw [HT.out,hRa,hRb,<- List.flatMap_append,List.take_append_drop]
  have HR:Hid ((ds.take i++c :: ds.drop i).flatMap CellD.row=Ra++(Rc++Rb)):=by show _ = _;rw [List.flatMap_append,List.flatMap_cons,hRa,hRb,hRc]
  have oa:∀ u ∈ Ra,u.oneCell'=true:=by rw [hRa];intro u hu;obtain ⟨d,_,hd⟩:=List.mem_flatMap.1 hu;exact zcA d u hd
  have ob:∀ u ∈ Rb,u.oneCell'=true:=by rw [hRb];intro u hu;obtain ⟨d,_,hd⟩:=List.mem_flatMap.1 hu;exact zcA d u hd
  have oc:∀ u ∈ Rc,u.oneCell'=true:=by rw [hRc];exact zcA c
  have hcl:cur.toList.length=cap*2:=(Array.length_toList (xs:=cur)).trans HSZ.out
  have ga:∀ j u,Ra[j]?=some u->cur[j]?=some u:=fun j u hj=>by
   have h:=(List.getElem?_eq_some_iff.1 hj).1
   have h2:=congrArg (fun l=>l[j]?) hab
   simp only [List.getElem?_take,List.getElem?_append_left h] at h2
   rw [if_pos (by omega),Array.getElem?_toList] at h2
   rw [h2]
   exact hj
  have gb:∀ j u,Rb[j]?=some u->cur[i*2+j]?=some u:=fun j u hj=>by
   have h:=(List.getElem?_eq_some_iff.1 hj).1
   have h2:=congrArg (fun l=>l[i*2+j]?) hab
   simp only [List.getElem?_take] at h2
   rw [if_pos (by omega),List.getElem?_append_right (by omega),la,Nat.add_sub_cancel_left,Array.getElem?_toList] at h2
   rw [h2]
   exact hj
  have gc:∀ (W:World),W.heap[gx]?=some (.cells #[.string c.key,.string c.val] 66 (0,0))->∀ j u,Rc[j]?=some u->W.cell? ((⟨gx,0,none⟩ : Addr).add j)=some u:=fun W hW j u hj=>by
   rw [Addr.add_lit,zd hW,Nat.zero_add]
   rw [hRc] at hj
   simpa [CellD.row] using hj
  have HRa:=Hd hRa
  clear hRa hRb hRc
  by_cases hroom:cap=ds.length
  case pos =>
   have hrm2:¬ ds.length<cap:=by omega
   subst hroom
   obtain ⟨G,L,hG1,hG2,hL1,hL2,hrz0⟩:=zhL (P:=Tryz.prog) (w:=w) (tn:=3) zD Tryz.underlying3 (some ⟨g,0,none⟩) i ds.length Ra la (fun h=>by cases h) (fun ad had j u hj=>by
    cases had
    rw [Addr.add_lit,zd HH.out,Nat.zero_add]
    exact ga j u hj) (ds.length+1 - i) (by omega) (by omega) (by omega) (by omega) (by omega)
   have hrz:∀ ty,(Builtin.append_ #[38,3] ty #[.slice (some ⟨g,0,none⟩) i ds.length,.int .i64 ((ds.length:Int)+1 - (i:Int))]).run Tryz.prog w=.ok (.slice (some ⟨w.heap.size,0,none⟩) (ds.length+1) G) (w.alloc (.cells L.toArray 66)).drew:=fun ty=>by
    have h:=hrz0 ty
    rw [show i+(ds.length+1 - i)=ds.length+1 by omega] at h
    rw [show (ds.length:Int)+1 - (i:Int)=((ds.length+1 - i:Nat):Int) by omega]
    exact h
   have hmn1:Nat.min 1 (ds.length+1 - i)=1:=Nat.min_eq_left (by omega)
   have hmn2:Nat.min (ds.length - i) (ds.length - i)=ds.length - i:=Nat.min_self _
   have hcp1:∀ ty dc,(Builtin.copy_ #[38,38] ty #[.slice (some ⟨w.heap.size,i*2,none⟩) (ds.length+1 - i) dc,.slice (some ⟨gx,0,none⟩) 1 1]).run Tryz.prog (w.alloc (.cells L.toArray 66)).drew=.ok (goInt 1) (w.alloc (.cells (splice L (i*2) Rc).toArray 66)).drew:=fun ty dc=>by
    have h:=zbo (P:=Tryz.prog) (w:=(w.alloc (.cells L.toArray 66)).drew) zD ty w.heap.size (i*2) (ds.length+1 - i) dc ⟨gx,0,none⟩ 1 1 L 66 (zaF w _ _ rfl) Rc (by rw [lc,hmn1]) (gc _ ((zd5 w _ hgl).trans HGX.out)) (by rw [lc];omega) oc
    rw [hmn1,zai,zaD w w.heap.size _ _ rfl] at h
    exact h
   have hcp2:∀ ty dc sc,(Builtin.copy_ #[38,38] ty #[.slice (some ⟨w.heap.size,(i+1)*2,none⟩) (ds.length - i) dc,.slice (some ⟨g,i*2,none⟩) (ds.length - i) sc]).run Tryz.prog (w.alloc (.cells (splice L (i*2) Rc).toArray 66)).drew.drew=.ok (goInt ((ds.length - i:Nat):Int)) (w.alloc (.cells (splice (splice L (i*2) Rc) ((i+1)*2) Rb).toArray 66)).drew.drew:=fun ty dc sc=>by
    have h:=zbo (P:=Tryz.prog) (w:=(w.alloc (.cells (splice L (i*2) Rc).toArray 66)).drew.drew) zD ty w.heap.size ((i+1)*2) (ds.length - i) dc ⟨g,i*2,none⟩ (ds.length - i) sc (splice L (i*2) Rc) 66 (zaF w _ _ rfl) Rb (by rw [lb,hmn2]) (fun j u hj=>by
     rw [Addr.add_lit]
     have h2:=zd (w:=(w.alloc (.cells (splice L (i*2) Rc).toArray 66)).drew.drew) (i:=i*2+j) (show _ from (zd5 w _ hgb).trans HH.out)
     rw [h2]
     exact gb j u hj) (by rw [length_splice _ _ _ (by rw [lc];omega),lb];omega) ob
    rw [hmn2,zai,zai,zaD w w.heap.size _ _ rfl] at h
    exact h
   obtain ⟨L1,hE1⟩ : ∃ L1,L1=splice L (i*2) Rc:=⟨_,rfl⟩
   obtain ⟨L2,hE2⟩ : ∃ L2,L2=splice L1 ((i+1)*2) Rb:=⟨_,rfl⟩
   rw [<- hE1] at hcp1 hcp2
   rw [<- hE2] at hcp2
   have HFIN:Hid (L2.length=G*2/\L2.take ((ds.length+1)*2)=Ra++(Rc++Rb)):=by
    have e1:(i+1)*2=i*2+Rc.length:=by rw [lc];omega
    refine ⟨?_,?_⟩
    ·rw [hE2,length_splice _ _ _ (by rw [hE1,length_splice _ _ _ (by rw [lc];omega),lb];omega),hE1,length_splice _ _ _ (by rw [lc];omega),hL1]
    ·have h:=zfe L (i*2) Rc Rb (by rw [lb,lc];omega)
     rw [<- e1,<- hE1,<- hE2,hL2] at h
     rw [<- h]
     congr 1
     rw [lb];omega
   have HRZ:=Hd hrz
   have HC1:=Hd hcp1
   have HC2:=Hd hcp2
   clear hrz0 hrz hcp1 hcp2 hE1 hE2 hL1 hL2
   rw [show i+(ds.length+1 - i)=ds.length+1 by omega] at hG1
   have hGi:¬ G=i:=by omega
   have hGi1:¬ G=i+1:=by omega
   have htn:((i:Int)+1).toNat=i+1:=by omega
   have hb1:(0:Int)<=(i:Int)+1:=by omega
   have hb3:(i:Int)+1<=(ds.length:Int)+1:=by omega
   unfold maxLen at hG2
   go_enter Tryz.func198,Tryz.ntmps198
   go_wp2_with (at_builtin;refine zA ?_)
   refine ze5 rfl _ _ _ _ rfl rfl rfl (HRZ.out _) ?_
   have hcp1:=HC1.out
   go_wp2
   clear hcp1
   refine zag [(0,true),(1,true),(2,true),(3,true),(4,true),(5,true),(6,true),(7,true),(8,false)] 8 (by kernel_rfl) (by kernel_rfl) ?_
   repeat (refine zm rfl (fun K hK=>?_);go_simp;(try simp (disch:=omega) only [IntWalk.i64_in]);refine hK _ ?_;clear hK K)
   refine zw rfl rfl (fun K hK=>?_)
   rw [if_pos (by rfl)]
   refine zeV (.tmp 50) (.tmp 53) 38 rfl (v:=.slice (some ⟨w.heap.size,(i+1)*2,none⟩) (ds.length - i) (G - (i+1))) (u:=.slice (some ⟨g,i*2,none⟩) (ds.length - i) (ds.length - i)) (by rfl) (by rfl) (HC2.out _ _ _) ?_
   refine hK _ _ ?_
   clear hK K
   refine zaf ?_
   go_wp2
   go_ret
   exact ⟨_,rfl,zhi (zaF w _ _ rfl) hB (by simp;omega) hG1 (by unfold maxLen;omega) (by simpa using HFIN.out.1) (by rw [HR.out];simpa using HFIN.out.2),Upon.below (by repeat (first|with_reducible exact Below.refl _ _|with_reducible apply Below.ofAlloc|with_reducible apply Below.drew)),.inr rfl⟩
  case neg =>
   have hrm:ds.length<cap:=by omega
   have hrm2:ds.length+1<=cap:=by omega
   have hta:cur.toList.take (i*2)=Ra:=by
    have h2:=congrArg (List.take (i*2)) hab
    rw [List.take_take,Nat.min_eq_left (by omega),List.take_left' la] at h2
    exact h2
   have hov:∀ lb cb,(callFunc 209 #[.slice (some ⟨gx,0,none⟩) 1 1,.slice (some ⟨g,(i+1)*2,none⟩) lb cb]).run Tryz.prog w=.ok (.value (.bool false)) w:=fun lb cb=>by
    obtain ⟨i0,z0,hi0,hz0,hs0,_,_⟩:=(zD).hi
    rw [run_callFunc_extern Tryz.func209 (by kernel_rfl) (by kernel_rfl) (by kernel_rfl) (e:=Extern.SlicesOverlaps.overlaps #[38,38] #[4]) (by kernel_rfl),
     Lib.run_overlaps_apart w 38 4 66 Tryz.underlying38 2 (fun w=>by simp [sizeOf,typeInfo,hi0,hs0]) ⟨gx,0,none⟩ ⟨g,(i+1)*2,none⟩ 1 1 lb cb hne 66 66 2 (cap*2) (by simp [World.shape?,HGX.out]) (by simp [World.shape?,HH.out,HSZ.out]) (by omega) (by simp [World.frozen?,HGX.out]) (by simp [World.frozen?,HGX.out])]
    rfl
   have hmn1:Nat.min (ds.length+1 - i) (ds.length - i)=ds.length - i:=Nat.min_eq_right (by omega)
   have hmn2:Nat.min 1 (ds.length+1 - i)=1:=Nat.min_eq_left (by omega)
   have hcp1:∀ ty dc sc,(Builtin.copy_ #[38,38] ty #[.slice (some ⟨g,(i+1)*2,none⟩) (ds.length - i) dc,.slice (some ⟨g,i*2,none⟩) (ds.length+1 - i) sc]).run Tryz.prog w.drew=.ok (goInt ((ds.length - i:Nat):Int)) (w.setB g (.cells (splice cur.toList ((i+1)*2) Rb).toArray 66)).drew:=fun ty dc sc=>by
    have h:=zbo (P:=Tryz.prog) (w:=w.drew) zD ty g ((i+1)*2) (ds.length - i) dc ⟨g,i*2,none⟩ (ds.length+1 - i) sc cur.toList 66 (by rw [Array.toArray_toList];exact HH.out) Rb (by rw [lb,hmn1]) (fun j u hj=>by
     rw [Addr.add_lit,zd (w:=w.drew) HH.out]
     exact gb j u hj) (by rw [lb,hcl];omega) ob
    rw [hmn1,zai] at h
    exact h
   have hcp2:∀ ty dc,(Builtin.copy_ #[38,38] ty #[.slice (some ⟨g,i*2,none⟩) (ds.length+1 - i) dc,.slice (some ⟨gx,0,none⟩) 1 1]).run Tryz.prog (w.setB g (.cells (splice cur.toList ((i+1)*2) Rb).toArray 66)).drew=.ok (goInt 1) (w.setB g (.cells (splice (splice cur.toList ((i+1)*2) Rb) (i*2) Rc).toArray 66)).drew:=fun ty dc=>by
    have h:=zbo (P:=Tryz.prog) (w:=(w.setB g (.cells (splice cur.toList ((i+1)*2) Rb).toArray 66)).drew) zD ty g (i*2) (ds.length+1 - i) dc ⟨gx,0,none⟩ 1 1 (splice cur.toList ((i+1)*2) Rb) 66 (zy _ _ _ hgb) Rc (by rw [lc,hmn2]) (gc _ ((World.setB_get _ _ _ _ hne).trans HGX.out)) (by rw [length_splice _ _ _ (by rw [lb,hcl];omega),lc,hcl];omega) oc
    rw [hmn2,zai,zaO] at h
    exact h
   obtain ⟨L1,hE1⟩ : ∃ L1,L1=splice cur.toList ((i+1)*2) Rb:=⟨_,rfl⟩
   obtain ⟨L2,hE2⟩ : ∃ L2,L2=splice L1 (i*2) Rc:=⟨_,rfl⟩
   rw [<- hE1] at hcp1 hcp2
   rw [<- hE2] at hcp2
   have HFIN:Hid (L2.length=cap*2/\L2.take ((ds.length+1)*2)=Ra++(Rc++Rb)):=by
    have e1:(i+1)*2=i*2+Rc.length:=by rw [lc];omega
    refine ⟨?_,?_⟩
    ·rw [hE2,length_splice _ _ _ (by rw [hE1,length_splice _ _ _ (by rw [lb,hcl];omega),lc,hcl];omega),hE1,length_splice _ _ _ (by rw [lb,hcl];omega),hcl]
    ·have h:=zeA cur.toList (i*2) Rc Rb (by rw [lb,lc,hcl];omega)
     rw [<- e1,<- hE1,<- hE2,hta] at h
     rw [<- h]
     congr 1
     rw [lb];omega
   have HC1:=Hd hcp1
   have HC2:=Hd hcp2
   clear hcp1 hcp2 hE1 hE2 hta hab ga gb gc
   have hci1:¬ cap=i+1:=by omega
   have htn:((i:Int)+1).toNat=i+1:=by omega
   have htn2:((ds.length:Int)+1).toNat=ds.length+1:=by omega
   have hb1:(0:Int)<=(i:Int)+1:=by omega
   have hb2:(0:Int)<=(ds.length:Int)+1:=by omega
   have hb3:(i:Int)+1<=(ds.length:Int)+1:=by omega
   have hb4:(ds.length:Int)+1<=(cap:Int):=by omega
   have hb5:(i:Int)<=(ds.length:Int)+1:=by omega
   go_enter Tryz.func198,Tryz.ntmps198
   go_wp2_with (simp only [hov])
   clear hov
   refine zag [(0,true),(1,true),(2,true),(3,true),(4,true),(5,true),(6,true),(7,true),(8,false)] 8 (by kernel_rfl) (by kernel_rfl) ?_
   repeat (refine zm rfl (fun K hK=>?_);go_simp;(try simp (disch:=omega) only [IntWalk.i64_in]);refine hK _ ?_;clear hK K)
   refine zw rfl rfl (fun K hK=>?_)
   rw [if_pos (by rfl)]
   refine zeV (.tmp 73) (.tmp 76) 38 rfl (v:=.slice (some ⟨g,(i+1)*2,none⟩) (ds.length - i) (cap - (i+1))) (u:=.slice (some ⟨g,i*2,none⟩) (ds.length+1 - i) (cap - i)) (by rfl) (by rfl) (HC1.out _ _ _) ?_
   refine hK _ _ ?_
   clear hK K
   refine zaf ?_
   have hcp2:=HC2.out
   go_wp2
   clear hcp2
   go_ret
   exact ⟨_,rfl,zhi (zy _ _ _ hgb) hg (by simp;omega) hrm2 (by unfold maxLen;omega) (by simpa using HFIN.out.1) (by rw [HR.out];simpa using HFIN.out.2),(show Upon [g] w (w.setB g (.cells L2.toArray 66)) from Upon.setB _ _ (by simp)).trans (Upon.below (by repeat (first|with_reducible exact Below.refl _ _|with_reducible apply Below.drew))),.inl rfl⟩
theorem insC_at (key val:ByteArray) (ys:List CellD) (n:Nat) (hn:n<ys.length) (h:(ys.take n).any (zae key)=false) (h2:zae key ys[n]=true):zfZ key val ys=ys.take n++CellD.mk key val :: ys.drop n:=by
 unfold zfZ
 have e:ys=ys.take n++ys[n] :: ys.drop (n+1):=by rw [<- List.drop_eq_getElem_cons hn,List.take_append_drop]
 have ha:∀ x ∈ ys.take n,(!zae key x)=true:=fun x hx=>by
  rw [List.any_eq_false] at h
  simpa using h x hx
 have e1:(ys.takeWhile fun c=>!zae key c)=ys.take n:=by
  conv=>lhs;rw [e]
  rw [List.takeWhile_append_of_pos ha,List.takeWhile_cons,h2,Bool.not_true,if_neg (by decide),List.append_nil]
 have e2:(ys.dropWhile fun c=>!zae key c)=ys.drop n:=by
  conv=>lhs;rw [e]
  rw [List.dropWhile_append_of_pos ha,List.dropWhile_cons,h2,Bool.not_true,if_neg (by decide)]
  exact (List.drop_eq_getElem_cons hn).symm
 rw [e1,e2]
theorem zjQ (v:Value) (ds:List CellD) (key val:ByteArray) (B:Nat) (w:World) (ho:OwnL zu 66 w B v ds) (hks:key.size<=9223372036854775807) (hl:ds.length<=549755813888) (hB:B<=w.heap.size) :
  Calls Tryz.prog 177 #[v,.string key,.string val] w fun e w'=>∃ v',e=.returned v'/\OwnL zu 66 w' B v' (zck key val ds)/\Upon v.ownBlock.toList w w'/\(∀ k,v'.ownBlock=some k->v.ownBlock=some k ∨ w.heap.size<=k):=by
 obtain ⟨ao,cap,rfl⟩:=ho.rd.form
 have HO:=Hd ho
 have HSB:=Hd hB
 have hnb:(Value.slice ao ds.length cap).ownBlock ≠ some w.heap.size:=fun e=>absurd (ho.lt _ e).2 (Nat.lt_irrefl _)
 clear ho hB
 have hwl:=zdm key ds
 cases hk0:zcz key with
 | false =>
  have HK0:=Hd hk0
  have HF:Hid (zck key val ds=ds):=by show _ = _;unfold zck;rw [if_pos (.inl hk0)]
  clear hk0
  go_enter Tryz.func177,Tryz.ntmps177
  go_wp2_with fail
  (go_at_call 193;refine (zcg key _ hks).mono ?_;rintro e w' ⟨rfl,rfl⟩)
  rw [HK0.out]
  go_wp2
  go_ret
  exact ⟨_,rfl,by rw [HF.out];exact HO.out.alloc _,Upon.below (by repeat (first|with_reducible exact Below.refl _ _|with_reducible apply Below.ofExt|with_reducible apply Below.ofAlloc|with_reducible apply Below.drew|with_reducible apply Below.ofDrewN|with_reducible assumption|(with_reducible refine Below.setCell ?_ (by first|exact Nat.le_refl _|(simp [go_sem];done)|(simp [go_sem];omega)) _))),fun k h=>.inl h⟩
 | true =>
  have HK0:=Hd hk0
  clear hk0
  by_cases hv60:(60:Int)<val.size
  case pos =>
   have HF:Hid (zck key val ds=ds):=by show _ = _;unfold zck;rw [if_pos (.inr (by omega))]
   go_enter Tryz.func177,Tryz.ntmps177
   go_wp2_with fail
   (go_at_call 193;refine (zcg key _ hks).mono ?_;rintro e w' ⟨rfl,rfl⟩)
   rw [HK0.out]
   go_wp2
   go_ret
   exact ⟨_,rfl,by rw [HF.out];exact HO.out.alloc _,Upon.below (by repeat (first|with_reducible exact Below.refl _ _|with_reducible apply Below.ofAlloc)),fun k h=>.inl h⟩
  case neg =>
   by_cases hv:val.size=0
   case pos =>
    obtain rfl:val=⟨#[]⟩:=by
     obtain ⟨⟨l⟩⟩:=val
     have:l = []:=List.eq_nil_of_length_eq_zero hv
     subst this
     rfl
    have HF:Hid (zck key ⟨#[]⟩ ds=zE key ds):=by show _ = _;unfold zck;rw [if_neg (fun h=>h.elim (fun h=>by rw [HK0.out] at h;cases h) (fun h=>absurd h (by decide))),if_pos hv]
    go_enter Tryz.func177,Tryz.ntmps177
    go_wp2_with fail
    (go_at_call 193;refine (zcg key _ hks).mono ?_;rintro e w' ⟨rfl,rfl⟩)
    rw [HK0.out]
    go_wp2_with fail
    (go_at_call 194;refine (zbt _ ds key w.heap.size B (w.alloc (.cells #[.string key] 9)) (HO.out.alloc _) (by simp) hnb (by simp [go_sem])).mono ?_;rintro e w1 ⟨v1,rfl,ho1,hob1,hu1⟩)
    obtain ⟨ao1,ac1,e1⟩:=ho1.rd.form
    have hlt1:w.heap.size<w1.heap.size:=Nat.lt_of_lt_of_le (by simp) hu1.size
    have hc1:w1.cell? ⟨w.heap.size,0,none⟩=some (.string key):=by
     have hq:w1.heap[w.heap.size]?=some (.cells #[.string key] 9):=(hu1.block _ (by simp) (fun h=>hnb (by simpa using h))).trans (zaF w _ _ rfl)
     exact (zd hq).trans rfl
    have HO1:=Hd ho1
    have HU1:=Hd (Upon.trans (Upon.below ((Below.refl w.heap.size w).ofAlloc (.cells #[.string key] 9))) hu1)
    have HOB:=Hd hob1
    clear ho1 hu1 hob1
    subst e1
    go_wp2
    go_ret
    exact ⟨_,rfl,by rw [HF.out];exact HO1.out,HU1.out,fun k h=>.inl (HOB.out ▸ h)⟩
   case neg =>
    have hve:(val.toList == [])=false:=by
     obtain ⟨⟨l⟩⟩:=val
     cases l with
     | nil=>exact absurd rfl hv
     | cons a l=>exact beq_false_of_ne (by rw [show (ByteArray.mk ⟨a :: l⟩).toList = _ from ByteArray.toList_eq _];exact List.cons_ne_nil _ _)
    have hp:zck key val ds=zfZ key val (zE key ds):=by unfold zck;rw [if_neg (fun h=>h.elim (fun h=>by rw [HK0.out] at h;cases h) (fun h=>absurd h (by omega))),if_neg hv]
    cases hany:(zE key ds).any (zae key) with
    | false =>
     have HI:Hid (zam (zae key) (zE key ds) = -1):=zaw _ _ hany
     have HF:Hid (zck key val ds=(zE key ds).take (zE key ds).length++CellD.mk key val :: (zE key ds).drop (zE key ds).length):=by show _ = _;rw [hp,zhv hany,List.take_length,List.drop_length]
     clear hany hp
     go_enter Tryz.func177,Tryz.ntmps177
     go_wp2_with fail
     (go_at_call 193;refine (zcg key _ hks).mono ?_;rintro e w' ⟨rfl,rfl⟩)
     rw [HK0.out]
     go_wp2_with fail
     (go_at_call 194;refine (zbt _ ds key w.heap.size B (w.alloc (.cells #[.string key] 9)) (HO.out.alloc _) (by simp) hnb (by simp [go_sem])).mono ?_;rintro e w1 ⟨v1,rfl,ho1,hob1,hu1⟩)
     obtain ⟨ao1,ac1,e1⟩:=ho1.rd.form
     have hlt1:w.heap.size<w1.heap.size:=Nat.lt_of_lt_of_le (by simp) hu1.size
     have hc1:w1.cell? ⟨w.heap.size,0,none⟩=some (.string key):=by
      have hq:w1.heap[w.heap.size]?=some (.cells #[.string key] 9):=(hu1.block _ (by simp) (fun h=>hnb (by simpa using h))).trans (zaF w _ _ rfl)
      exact (zd hq).trans rfl
     have HO1:=Hd ho1
     have HU1:=Hd (Upon.trans (Upon.below ((Below.refl w.heap.size w).ofAlloc (.cells #[.string key] 9))) hu1)
     have HOB:=Hd hob1
     clear ho1 hu1 hob1
     subst e1
     go_wp2_with fail
     (go_at_call 196;refine (zcx _ (zE key ds) key w.heap.size _ HO1.out.rd hlt1 hc1).mono ?_;rintro e w' ⟨rfl,hb⟩;obtain ⟨X,rfl⟩:=hb.ext;clear hb)
     rw [HI.out]
     go_wp2_with fail
     (go_at_call 198;refine (zdY _ (zE key ds) (zE key ds).length (CellD.mk key val) _ B _ (by repeat (first|exact OwnL.ext HO1.out _|apply OwnL.alloc)) (by omega) (zaF _ _ _ (by simp [zn])) (fun e=>by rw [HOB.out] at e;have:=(HO.out.lt _ e).2;omega) (by omega) (by simp [zn];have:=HSB.out;omega)).mono ?_;rintro e w2 ⟨v2,rfl,ho2,hu2,hw2⟩)
     have HO2:=Hd ho2
     have HW2:Hid (∀ k,v2.ownBlock=some k->(Value.slice ao ds.length cap).ownBlock=some k ∨ w.heap.size<=k):=fun k h=>by
      rcases hw2 with h2|h2
      ·left;rw [<- h,h2];exact HOB.out.symm
      ·right
       rw [h] at h2
       have h3:=Option.some.inj h2
       (try simp [zn] at h3)
       omega
     clear hw2
     rw [HOB.out] at hu2
     have hut:Upon (Value.slice ao ds.length cap).ownBlock.toList w w2:=by
      refine Upon.trans (Upon.trans HU1.out (Upon.below ?_)) hu2
      exact (by repeat (first|with_reducible exact Below.refl _ _|with_reducible apply Below.ofExt|with_reducible apply Below.ofAlloc))
     have HU2:=Hd hut
     clear ho2 hu2 hut
     go_wp2
     go_ret
     exact ⟨_,rfl,by rw [HF.out];exact HO2.out,HU2.out,HW2.out⟩
    | true =>
     obtain ⟨n,hn,hbef,hat⟩:=zd4 _ _ hany
     have HI:Hid (zam (zae key) (zE key ds)=n):=zar _ _ n hn hbef hat
     have HF:Hid (zck key val ds=(zE key ds).take n++CellD.mk key val :: (zE key ds).drop n):=by show _ = _;rw [hp,insC_at key val _ n hn hbef hat]
     clear hany hp hbef hat
     go_enter Tryz.func177,Tryz.ntmps177
     go_wp2_with fail
     (go_at_call 193;refine (zcg key _ hks).mono ?_;rintro e w' ⟨rfl,rfl⟩)
     rw [HK0.out]
     go_wp2_with fail
     (go_at_call 194;refine (zbt _ ds key w.heap.size B (w.alloc (.cells #[.string key] 9)) (HO.out.alloc _) (by simp) hnb (by simp [go_sem])).mono ?_;rintro e w1 ⟨v1,rfl,ho1,hob1,hu1⟩)
     obtain ⟨ao1,ac1,e1⟩:=ho1.rd.form
     have hlt1:w.heap.size<w1.heap.size:=Nat.lt_of_lt_of_le (by simp) hu1.size
     have hc1:w1.cell? ⟨w.heap.size,0,none⟩=some (.string key):=by
      have hq:w1.heap[w.heap.size]?=some (.cells #[.string key] 9):=(hu1.block _ (by simp) (fun h=>hnb (by simpa using h))).trans (zaF w _ _ rfl)
      exact (zd hq).trans rfl
     have HO1:=Hd ho1
     have HU1:=Hd (Upon.trans (Upon.below ((Below.refl w.heap.size w).ofAlloc (.cells #[.string key] 9))) hu1)
     have HOB:=Hd hob1
     clear ho1 hu1 hob1
     subst e1
     go_wp2_with fail
     (go_at_call 196;refine (zcx _ (zE key ds) key w.heap.size _ HO1.out.rd hlt1 hc1).mono ?_;rintro e w' ⟨rfl,hb⟩;obtain ⟨X,rfl⟩:=hb.ext;clear hb)
     rw [HI.out]
     go_wp2_with fail
     (go_at_call 198;refine (zdY _ (zE key ds) n (CellD.mk key val) _ B _ (by repeat (first|exact OwnL.ext HO1.out _|apply OwnL.alloc)) (by omega) (zaF _ _ _ (by simp [zn])) (fun e=>by rw [HOB.out] at e;have:=(HO.out.lt _ e).2;omega) (by omega) (by simp [zn];have:=HSB.out;omega)).mono ?_;rintro e w2 ⟨v2,rfl,ho2,hu2,hw2⟩)
     have HO2:=Hd ho2
     have HW2:Hid (∀ k,v2.ownBlock=some k->(Value.slice ao ds.length cap).ownBlock=some k ∨ w.heap.size<=k):=fun k h=>by
      rcases hw2 with h2|h2
      ·left;rw [<- h,h2];exact HOB.out.symm
      ·right
       rw [h] at h2
       have h3:=Option.some.inj h2
       (try simp [zn] at h3)
       omega
     clear hw2
     rw [HOB.out] at hu2
     have hut:Upon (Value.slice ao ds.length cap).ownBlock.toList w w2:=by
      refine Upon.trans (Upon.trans HU1.out (Upon.below ?_)) hu2
      exact (by repeat (first|with_reducible exact Below.refl _ _|with_reducible apply Below.ofExt|with_reducible apply Below.ofAlloc))
     have HU2:=Hd hut
     clear ho2 hu2 hut
     go_wp2
     go_ret
     exact ⟨_,rfl,by rw [HF.out];exact HO2.out,HU2.out,HW2.out⟩
end Go.Proofs.YtodokkpnafabpaaGreatDoor
