/- Texts of this claim, merged: the walks and what they stand on. Each condition stands in its theorem. -/
import Derived.ChangeSlices
import Derived.Test.YtpnoehpmgflibaaGreatDoorCA13
import Derived.Test.YtpnoehpmgflibaaGreatDoorCA28
set_option linter.unusedVariables false
set_option linter.unusedSimpArgs false
set_option maxRecDepth 100000
set_option maxHeartbeats 8000000
namespace Go.Proofs.YtpnoehpmgflibaaGreatDoor
open Go.ChangeShapes Go.WideShapes Go.ChangeAt Go.RowKit
structure TouchOk (d:TouchD):Prop where
 r:∀ s ∈ d.reads,s.size<=maxLen
 w:∀ s ∈ d.writes,s.size<=maxLen
def zaC (xs ys:List ByteArray):Bool:=xs.any fun x=>ys.any fun y=>zR x y
def zel (d e:TouchD):Bool:=zaC d.writes e.reads || (zaC d.writes e.writes || zaC d.reads e.writes)
def zdD (ds:List CellD):Nat->ByteArray->Bool
 | 0,_=>true
 | j+1,k=>match ds[j]? with
  | none=>true
  | some p=>Op.bytesLess p.key.toList k.toList
def zhu (ds:List CellD) (i:Nat):Bool:=match ds[i]? with
 | none=>true
 | some d=>zbc d.key && (inB (d.val.size:Int) 1 60 && zdD ds i d.key)
def zlv (ds:List CellD):Nat->Bool
 | 0=>true
 | n+1=>zlv ds n && zhu ds n
def zcE (ds:List CellD):Bool:=zlv ds ds.length && decide ((ds.length:Int)<=900)
def GoodC (c:CellD):Prop:=zbc c.key=true/\1<=c.val.size/\c.val.size<=60
theorem zhg (v v':Value) (xs:List CellD) (w:World) (hs:RdL zu w v xs) (hs':RdL zu w v' xs) :
  Calls Tryz.prog 17 #[v,v'] w fun e w'=>e=.returned (.bool true)/\Below w.heap.size w w':=by
 obtain ⟨ao,cap,rfl,hc1,hc2,_,hcell⟩:=hs.shape
 obtain ⟨ao',cap',rfl,hc1',hc2',_,hcell'⟩:=hs'.shape
 have HX:=Hd hcell
 have HX':=Hd hcell'
 clear hcell hcell' hs hs'
 unfold maxLen at hc2 hc2'
 go_enter Tryz.func17,Tryz.ntmps17
 go_wp2
 go_loopw [5] (fun k wr=>∃ (n:Nat),k=.int .i64 n/\n<=xs.length/\Below w.heap.size w wr) (fun k _=>xs.length - (intOf k).toNat)
 case atStart=>exact ⟨0,rfl,by omega,(by repeat (with_reducible exact Below.refl _ _))⟩
 case round =>
  obtain ⟨n,rfl,hn,hbel⟩:=hrel
  obtain ⟨X,rfl⟩:=hbel.ext
  clear hbel
  by_cases hlt:(n:Int)<xs.length
  ·have hk:n<xs.length:=by omega
   obtain ⟨b,off,rfl,hbl,hcell⟩:=HX.out (by intro e;simp [e] at hk)
   obtain ⟨b',off',rfl,hbl',hcell'⟩:=HX'.out (by intro e;simp [e] at hk)
   have hcc:=hcell n hk
   have hcc':=hcell' n hk
   generalize xs[n]=x at hcc hcc'
   have y0:w.cell? ⟨b,off+n*2,none⟩=some (.string x.key):=hcc 0 _ rfl
   have y1:w.cell? ⟨b,off+n*2+1,none⟩=some (.string x.val):=hcc 1 _ rfl
   have z0:w.cell? ⟨b',off'+n*2,none⟩=some (.string x.key):=hcc' 0 _ rfl
   have z1:w.cell? ⟨b',off'+n*2+1,none⟩=some (.string x.val):=hcc' 1 _ rfl
   have hbl:=hbl (by decide)
   have hbl':=hbl' (by decide)
   clear hcell hcell' hcc hcc'
   go_wp2
   go_quiet (fail)
   go_wp2
   go_roundw
   case rel=>exact ⟨n+1,by go_num,by omega,(by repeat (first|with_reducible exact Below.refl _ _|with_reducible apply Below.ofExt))⟩
   case measure=>simp [intOf];omega
  ·go_wp2
   go_ret
   exact ⟨rfl,(by repeat (first|with_reducible exact Below.refl _ _|with_reducible apply Below.ofExt))⟩
theorem zf1 {P:Program} {W:World} {base:Nat} {t e:TypeId} {a:Addr} {len cap:Nat} (ht:P.underlying t=some (.slice e)) (h:Value.okWide P W .any base t (.slice (some a) len cap)) :
  a.spot=none/\a.block<W.heap.size/\len<=cap/\cap<=maxLen:=by
 unfold Value.okWide at h
 rw [ht] at h
 unfold Cell.okWide at h
 rw [ht] at h
 unfold Cell.ok at h
 rw [ht] at h
 obtain ⟨h1,h2,_,h3,row,cells,h4,_⟩:=h
 refine ⟨h3,?_,h1,?_⟩
 ·unfold World.shape? at h4
  rcases Nat.lt_or_ge a.block W.heap.size with h|h
  ·exact h
  ·rw [Array.getElem?_eq_none h] at h4
   cases h4
 ·have:IntKind.i64.max=9223372036854775807:=by decide
  unfold maxLen
  omega
theorem open_bytes {H:Type} {enc:TypeId × Value->H} {P:Program} {W:World} {base:Nat} {t e:TypeId} {v:Value} {d:DataW H} {p:List MemPlace} (ht:P.underlying t=some (.slice e)) (he:P.underlying e=some (.int .u8)) (hc:P.cellsOf e=1)
  (hv:Value.okWide P W .any base t v) (h:DataW.Trod enc P W 0 (fun _=>true) true t v d p):∃ bs:List UInt8,Sl W v bs.length (zL bs)/\∀ b,v.ownBlock=some b->b<W.heap.size:=by
 obtain ⟨ao,len,cap,rfl⟩:=okWide_slice ht hv
 obtain ⟨fuel,hf⟩:=h
 rcases open_ints ht he hc hf with ⟨h1,_⟩|⟨a,len',cap',zs,h1,_,h2,h3,h4,_,h5,h6⟩
 ·simp only [Value.cells,List.cons.injEq,and_true,Value.slice.injEq] at h1
  obtain ⟨rfl,rfl,rfl⟩:=h1
  exact ⟨[],.inl ⟨rfl,rfl,rfl⟩,fun b hb=>by simp [Value.ownBlock] at hb⟩
 ·simp only [Value.cells,List.cons.injEq,and_true,Value.slice.injEq] at h1
  obtain ⟨rfl,rfl,rfl⟩:=h1
  obtain ⟨g1,g2,_,_⟩:=zf1 ht hv
  obtain ⟨b,off,sp⟩:=a
  simp only at g1 g2
  subst g1
  simp only [if_true] at h4
  have hl:((zs.take len).map fun n=>UInt8.ofNat n.toNat).length=len:=by simp;omega
  refine ⟨(zs.take len).map fun n=>UInt8.ofNat n.toNat,.inr ⟨b,off,cap,by rw [hl],by omega,h3,fun j u hj=>?_⟩,fun k hk=>by simp [Value.ownBlock] at hk;omega⟩
  have hjl:j<len:=by
   have:=(List.getElem?_eq_some_iff.1 hj).1
   simp [zL] at this
   omega
  have hz:j<zs.length:=by omega
  have:=h5 j hz
  have ea:(Addr.add ⟨b,off,none⟩ j)=⟨b,off+j,none⟩:=by
   unfold Addr.add
   split
   ·next h=>subst h;rfl
   ·rfl
  rw [ea] at this
  rw [this]
  simp only [zL,List.map_map,List.getElem?_map,List.getElem?_take,hjl,if_true,List.getElem?_eq_getElem hz,Option.map_some,Option.some.injEq,Function.comp] at hj
  rw [<- hj,List.getD_eq_getElem?_getD,List.getElem?_eq_getElem hz]
  have hr:=bounds_u8 (h6 zs[j] (List.getElem_mem hz))
  simp only [Option.getD_some,Option.some.injEq,Value.int.injEq,true_and]
  have:(UInt8.ofNat zs[j].toNat).toNat=zs[j].toNat:=by simp [UInt8.toNat_ofNat'];omega
  rw [this]
  omega
end Go.Proofs.YtpnoehpmgflibaaGreatDoor

