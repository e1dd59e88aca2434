/- Texts of this claim, merged: the walks and what they stand on. Each condition stands in its theorem. -/
import Derived.Laws.Externs
import Derived.Test.YtpnoehpmgflibaaGreatDoorCA5
set_option linter.unusedVariables false
set_option linter.unusedSimpArgs false
set_option maxRecDepth 100000
set_option maxHeartbeats 8000000
namespace Go
section
variable {P:Program}
theorem run_appF {w:World} {t ty e:TypeId} {size bytes:Nat} (E:Elem P t e size bytes) {base:Nat} {v:Value} {n:Nat} {xs:List Value} (hown:w.ownsRow base e size v n xs)
  {x:Value} {m:Nat} {news:List Value} (hx:Sl w x m news) (hl:news.length=m*size) (h1:∀ u ∈ news,u.oneCell'=true) (hb:(n+m)*bytes<=140737488355328) (h63:n+m<=maxLen) (hbase:base<=w.heap.size) :
  ∃ v' w',(Builtin.append_ #[t,t] ty #[v,x]).run P w=.ok v' w'/\w'.ownsRow base e size v' (n+m) (xs++news)/\w.grownBy w' v.ownBlock/\(v'=.slice none 0 0 ↔ v=.slice none 0 0/\m=0)/\(v'.ownBlock=v.ownBlock ∨ v'.ownBlock=some w.heap.size):=by
 obtain ⟨v',w',hr,h2,h3,h4⟩:=zlR (P:=P) (ty:=ty) E hown hx hl h1 hb h63 hbase
 refine ⟨v',w',hr,h2,h3,h4,?_⟩
 have same:∀ {u:Value} {w'':World},(Builtin.append_ #[t,t] ty #[v,x]).run P w=.ok u w''->v'=u:=fun h=>by
  rw [hr] at h
  injection h
 obtain ⟨i,z,hi,hz,hs,hby,hzs⟩:=E.hi
 subst hs
 subst hby
 have hsm:n+m<=9223372036854775807:=by simp only [maxLen] at h63;omega
 rcases hx with ⟨rfl,rfl,rfl⟩|⟨b,off,cap,rfl,_,_,hc⟩
 ·rw [same (run_append_owned_none w base t ty e i i.size E.ht hi v n xs hown)]
  exact .inl rfl
 ·have hnews:∀ j u,news[j]?=some u->w.cell? ((⟨b,off,none⟩ : Addr).add j)=some u:=fun j u hj=>by rw [zdO];exact hc j u hj
  rcases hown.2 with ⟨rfl,rfl⟩|⟨g,gcap,cur,rfl,hbg,hg,hnc,hcm,hcs,htake⟩
  ·by_cases hm:m=0
   ·rw [h4.2 ⟨rfl,hm⟩]
    exact .inl rfl
   ·rw [same (run_append_nil (P:=P) w t ty e i z E.ht hi hz ⟨b,off,none⟩ m cap news hl hnews (by omega) (by omega) (by have hb:=hb;simp only [Nat.zero_add] at hb;omega))]
    exact .inr rfl
  ·by_cases hroom:n+m<=gcap
   ·have hfit:n*i.size+news.length<=cur.size:=by rw [hl,hcs,<- Nat.add_mul];exact Nat.mul_le_mul_right _ hroom
    rw [same (run_append_room (P:=P) w t ty e i E.ht hi g n gcap cur hg ⟨b,off,none⟩ m cap news hl hnews h1 hroom hfit)]
    exact .inl rfl
   ·have holds:∀ j u,xs[j]?=some u->w.cell? ((⟨g,0,none⟩ : Addr).add j)=some u:=hown.cells (g:=g) rfl
    rw [same (run_append_grow (P:=P) w t ty e i z E.ht hi hz ⟨g,0,none⟩ n gcap xs hown.1 holds ⟨b,off,none⟩ m cap news hl hnews (by omega) (by omega) (growslice_fits (by omega) hb))]
    exact .inr rfl
theorem zaK {α : Type} {R:RowOf α} {w:World} {ops:Array Oper} {rest:List Oper} {o:Oper} {a:Act} {Q:Exit->Act->World->Prop} (hgd:o.guard=none) (s x:Operand) (t:TypeId)
  (ho:o.op=.call { callee:=.builtin .append,args:=#[s,x],argTypes:=#[t,t] })
  {e:TypeId} {bytes:Nat} (E:Elem P t e R.k bytes) {B:Nat} {v:Value} {xs:List α} (hown:OwnL R e w B v xs) (hs:a.eval s=v)
  {vx:Value} {ys:List α} (hx:RdL R w vx ys) (hvx:a.eval x=vx) (hb:(xs.length+ys.length)*bytes<=140737488355328) (h63:xs.length+ys.length<=maxLen) (hbase:B<=w.heap.size)
  (h:∀ v' w',OwnL R e w' B v' (xs++ys)->w.grownBy w' v.ownBlock->(v'.ownBlock=v.ownBlock ∨ v'.ownBlock=some w.heap.size)->wpList P ops Q rest (a.put o.dst v') w'):wpList P ops Q (o :: rest) a w:=by
 refine wpList_plain hgd fun K hK=>?_
 obtain ⟨v',w',hr,h2,h3,h4,h5⟩:=run_appF (P:=P) (ty:=o.type) E hown hx (R.flat_len ys) (R.flat_one ys) hb h63 hbase
 unfold Oper.wp execOp
 simp only [ho,resolve,invoke,builtin,Sem.run_bind,Sem.run_pure,Result.andThen_ok,List.map_toArray,List.map_cons,List.map_nil,hs,hvx,hr]
 refine hK _ _ (h v' w' ?_ h3 h5)
 unfold OwnL
 rw [List.length_append,List.flatMap_append]
 exact h2
def Off {α : Type} (xs:List α) (v o:Value):Prop:=xs = [] ∨ ∀ k,o.ownBlock=some k->v.ownBlock ≠ some k
theorem RdL.keptO {α : Type} {R:RowOf α} {w w':World} {v o:Value} {xs:List α} (h:RdL R w v xs) (hd:Off xs v o) (hg:w.grownBy w' o.ownBlock):RdL R w' v xs:=by
 rcases hd with rfl|hd
 ·rcases h with h|⟨b,off,cap,rfl,h1,h2,h3⟩
  ·exact .inl h
  ·exact .inr ⟨b,off,cap,rfl,h1,h2,fun j u hj=>by simp at hj⟩
 ·refine h.kept hg ?_
  cases hv:v.ownBlock with
  | none=>exact .inl rfl
  | some k =>
   right
   intro he
   exact hd k he.symm hv
theorem Off.next {α : Type} {R:RowOf α} {w:World} {v o o':Value} {xs:List α} (hk : 0<R.k) (hd:Off xs v o) (h:RdL R w v xs) (ho:o'.ownBlock=o.ownBlock ∨ o'.ownBlock=some w.heap.size):Off xs v o':=by
 rcases hd with rfl|hd
 ·exact .inl rfl
 ·by_cases hx:xs = []
  ·exact .inl hx
  ·right
   intro k hk2 hv
   rcases ho with ho|ho
   ·exact hd k (ho ▸ hk2) hv
   ·rw [ho] at hk2
    cases hk2
    obtain ⟨ao,cap,rfl,_,_,_,h4⟩:=h.shape
    obtain ⟨b,off,rfl,hb,_⟩:=h4 hx
    have:=hb hk
    have e:b=w.heap.size:=by simpa [Value.ownBlock] using hv
    omega
theorem Off.fresh {α : Type} {R:RowOf α} {w:World} {v o:Value} {xs:List α} (hk : 0<R.k) (h:RdL R w v xs) (ho:∀ k,o.ownBlock=some k->w.heap.size<=k):Off xs v o:=by
 by_cases hx:xs = []
 ·exact .inl hx
 ·right
  intro k hk2 hv
  obtain ⟨ao,cap,rfl,_,_,_,h4⟩:=h.shape
  obtain ⟨b,off,rfl,hb,_⟩:=h4 hx
  have h5:=hb hk
  have h6:=ho k hk2
  have e:b=k:=by simpa [Value.ownBlock] using hv
  omega
theorem Off.later {α : Type} {R:RowOf α} {e:TypeId} {w':World} {B:Nat} {v o:Value} {xs:List α} (h:OwnL R e w' B v xs) (ho:∀ k,o.ownBlock=some k->k<B):Off xs v o:=by
 right
 intro k hk2 hv
 have h1:=(h.lt k hv).1
 have h2:=ho k hk2
 omega
end
end Go
namespace Go.Proofs.YtpnoehpmgflibaaGreatDoor
open Go.ChangeShapes Go.WideShapes Go.ChangeAt Go.RowKit
theorem one_rdl (w:World) (c:CellD) (gx:Nat) (hx:w.heap[gx]?=some (.cells #[.string c.key,.string c.val] 47 (0,0))):RdL zu w (.slice (some ⟨gx,0,none⟩) 1 1) [c]:=by
 refine .inr ⟨gx,0,1,rfl,Nat.le_refl _,by unfold maxLen;omega,fun j u hj=>?_⟩
 rw [zb hx,Nat.zero_add]
 simpa [zu,CellD.row] using hj
theorem alloc_new (w:World) (o:Obj) (n:Nat) (h:n=w.heap.size):(w.alloc o).heap[n]?=some o:=by
 subst h
 show (w.heap.push o)[_]? = _
 simp
theorem ze7 (w:World) (o:Obj) {b:Nat} (h:b<w.heap.size):(w.alloc o).heap[b]?=w.heap[b]?:=by
 show (w.heap.push o)[_]? = _
 rw [Array.getElem?_push,if_neg (Nat.ne_of_lt h)]
theorem zi1 {w:World} {B g n cap:Nat} {ds:List CellD} {cur:Array Value} (hh:w.heap[g]?=some (.cells cur 47 (0,0))) (hg:B<=g) (hl:n=ds.length) (hn:n<=cap) (hm:cap<=maxLen) (hs:cur.size=cap*2) (ht:cur.toList.take (n*2)=ds.flatMap CellD.row):OwnL zu 47 w B (.slice (some ⟨g,0,none⟩) n cap) ds:=by
 subst hl
 exact ⟨zu.flat_len _,.inr ⟨g,cap,cur,rfl,hg,hh,hn,hm,hs,ht⟩⟩
theorem ze0 (v:Value) (ds:List CellD) (i:Nat) (c:CellD) (gx B:Nat) (w:World) (ho:OwnL zu 47 w B v ds) (hi:i<=ds.length) (hx:w.heap[gx]?=some (.cells #[.string c.key,.string c.val] 47 (0,0))) (hgx:v.ownBlock ≠ some gx) (hl:ds.length<=549755813888) (hB:B<=w.heap.size) :
  Calls Tryz.prog 111 #[v,.int .i64 i,.slice (some ⟨gx,0,none⟩) 1 1] w fun e w'=>∃ v',e=.returned v'/\OwnL zu 47 w' B v' (ds.take i++c :: ds.drop i)/\Upon v.ownBlock.toList w w'/\(v'.ownBlock=v.ownBlock ∨ v'.ownBlock=some w.heap.size):=by
 have HX:=Hd (one_rdl w c gx hx)
 have HGX:=Hd hx
 have HOWN:=Hd ho
 have hgl:=za hx
 rcases ho.2 with ⟨rfl,h0⟩|⟨g,cap,cur,rfl,hg,hh,hn,hm,hsz,ht⟩
 ·have:ds = []:=List.eq_nil_of_length_eq_zero h0
  subst this
  obtain rfl:i=0:=by simpa using hi
  have HF:Hid (([]:List CellD).take 0++c :: ([]:List CellD).drop 0 = [] ++ [c]):=rfl
  clear ho hx
  go_enter Tryz.func111,Tryz.ntmps111
  go_wp2_with (at_builtin;refine zA ?_)
  refine zaK rfl _ _ _ rfl zE (B:=B) (R:=zu) (xs:=[]) HOWN.out rfl (ys:=[c]) HX.out rfl (by simp only [List.length_singleton];omega) (by simp only [List.length_singleton];unfold maxLen;omega) hB ?_
  intro v4 w4 hown4 hgr4 hwh4
  have HO4:=Hd hown4
  have HU4:=Hd (zbo hgr4)
  have HWH:=Hd hwh4
  clear hown4 hgr4 hwh4
  go_wp2
  go_ret
  exact ⟨_,rfl,by exact HO4.out,HU4.out,HWH.out⟩
 have HH:=Hd hh
 have HT:Hid (cur.toList.take (ds.length*2)=ds.flatMap CellD.row):=ht
 have HSZ:Hid (cur.size=cap*2):=hsz
 have hgb:=za hh
 have hne:gx ≠ g:=fun e=>hgx (by rw [e];rfl)
 clear ho hx hh ht hsz hgx
 unfold maxLen at hm
 by_cases hin:i=ds.length
 case pos =>
  have HF:Hid (ds.take i++c :: ds.drop i=ds ++ [c]):=by show _ = _;rw [hin,List.take_length,List.drop_length]
  subst hin
  by_cases hcap:cap=ds.length
  case pos =>
   have hcap2:¬ ds.length<cap:=by omega
   go_enter Tryz.func111,Tryz.ntmps111
   go_wp2_with (at_builtin;refine zA ?_)
   refine zaK rfl _ _ _ rfl zE (B:=B) (R:=zu) (xs:=ds) HOWN.out rfl (ys:=[c]) HX.out rfl (by simp only [List.length_singleton];omega) (by simp only [List.length_singleton];unfold maxLen;omega) hB ?_
   intro v4 w4 hown4 hgr4 hwh4
   have HO4:=Hd hown4
   have HU4:=Hd (zbo hgr4)
   have HWH:=Hd hwh4
   clear hown4 hgr4 hwh4
   go_wp2
   go_ret
   exact ⟨_,rfl,by (rw [HF.out];exact HO4.out),HU4.out,HWH.out⟩
  case neg =>
   go_enter Tryz.func111,Tryz.ntmps111
   go_wp2_with (at_builtin;refine zA ?_)
   refine zaK rfl _ _ _ rfl zE (B:=B) (R:=zu) (xs:=ds) HOWN.out rfl (ys:=[c]) HX.out rfl (by simp only [List.length_singleton];omega) (by simp only [List.length_singleton];unfold maxLen;omega) hB ?_
   intro v4 w4 hown4 hgr4 hwh4
   have HO4:=Hd hown4
   have HU4:=Hd (zbo hgr4)
   have HWH:=Hd hwh4
   clear hown4 hgr4 hwh4
   go_wp2
   go_ret
   exact ⟨_,rfl,by (rw [HF.out];exact HO4.out),HU4.out,HWH.out⟩
 case neg =>
  have hlt:i<ds.length:=by omega
  have hz2:¬ ((i:Int)=(ds.length:Int)):=by omega
  have hc1:¬ cap=i:=by omega
  obtain ⟨Ra,hRa⟩ : ∃ R,R=(ds.take i).flatMap CellD.row:=⟨_,rfl⟩
  obtain ⟨Rb,hRb⟩ : ∃ R,R=(ds.drop i).flatMap CellD.row:=⟨_,rfl⟩
  obtain ⟨Rc,hRc⟩ : ∃ R,R=CellD.row c:=⟨_,rfl⟩
  have la:Ra.length=i*2:=by rw [hRa,zf6,List.length_take,Nat.min_eq_left hi]
  have lb:Rb.length=(ds.length - i)*2:=by rw [hRb,zf6,List.length_drop]
  have lc:Rc.length=2:=by rw [hRc];rfl
  have hab:cur.toList.take (ds.length*2)=Ra++Rb:=by rw [HT.out,hRa,hRb,<- List.flatMap_append,List.take_append_drop]
  have HR:Hid ((ds.take i++c :: ds.drop i).flatMap CellD.row=Ra++(Rc++Rb)):=by show _ = _;rw [List.flatMap_append,List.flatMap_cons,hRa,hRb,hRc]
  have oa:∀ u ∈ Ra,u.oneCell'=true:=by rw [hRa];intro u hu;obtain ⟨d,_,hd⟩:=List.mem_flatMap.1 hu;exact zew d u hd
  have ob:∀ u ∈ Rb,u.oneCell'=true:=by rw [hRb];intro u hu;obtain ⟨d,_,hd⟩:=List.mem_flatMap.1 hu;exact zew d u hd
  have oc:∀ u ∈ Rc,u.oneCell'=true:=by rw [hRc];exact zew c
  have hcl:cur.toList.length=cap*2:=(Array.length_toList (xs:=cur)).trans HSZ.out
  have ga:∀ j u,Ra[j]?=some u->cur[j]?=some u:=fun j u hj=>by
   have h:=(List.getElem?_eq_some_iff.1 hj).1
   have h2:=congrArg (fun l=>l[j]?) hab
   simp only [List.getElem?_take,List.getElem?_append_left h] at h2
   rw [if_pos (by omega),Array.getElem?_toList] at h2
   rw [h2]
   exact hj
  have gb:∀ j u,Rb[j]?=some u->cur[i*2+j]?=some u:=fun j u hj=>by
   have h:=(List.getElem?_eq_some_iff.1 hj).1
   have h2:=congrArg (fun l=>l[i*2+j]?) hab
   simp only [List.getElem?_take] at h2
   rw [if_pos (by omega),List.getElem?_append_right (by omega),la,Nat.add_sub_cancel_left,Array.getElem?_toList] at h2
   rw [h2]
   exact hj
  have gc:∀ (W:World),W.heap[gx]?=some (.cells #[.string c.key,.string c.val] 47 (0,0))->∀ j u,Rc[j]?=some u->W.cell? ((⟨gx,0,none⟩ : Addr).add j)=some u:=fun W hW j u hj=>by
   rw [Addr.add_lit,zb hW,Nat.zero_add]
   rw [hRc] at hj
   simpa [CellD.row] using hj
  have HRa:=Hd hRa
  clear hRa hRb hRc
  by_cases hroom:cap=ds.length
  case pos =>
   have hrm2:¬ ds.length<cap:=by omega
   subst hroom
   obtain ⟨G,L,hG1,hG2,hL1,hL2,hrz0⟩:=zjz (P:=Tryz.prog) (w:=w) (tn:=3) zE Tryz.underlying3 (some ⟨g,0,none⟩) i ds.length Ra la (fun h=>by cases h) (fun ad had j u hj=>by
    cases had
    rw [Addr.add_lit,zb HH.out,Nat.zero_add]
    exact ga j u hj) (ds.length+1 - i) (by omega) (by omega) (by omega) (by omega) (by omega)
   have hrz:∀ ty,(Builtin.append_ #[24,3] ty #[.slice (some ⟨g,0,none⟩) i ds.length,.int .i64 ((ds.length:Int)+1 - (i:Int))]).run Tryz.prog w=.ok (.slice (some ⟨w.heap.size,0,none⟩) (ds.length+1) G) (w.alloc (.cells L.toArray 47)).drew:=fun ty=>by
    have h:=hrz0 ty
    rw [show i+(ds.length+1 - i)=ds.length+1 by omega] at h
    rw [show (ds.length:Int)+1 - (i:Int)=((ds.length+1 - i:Nat):Int) by omega]
    exact h
   have hmn1:Nat.min 1 (ds.length+1 - i)=1:=Nat.min_eq_left (by omega)
   have hmn2:Nat.min (ds.length - i) (ds.length - i)=ds.length - i:=Nat.min_self _
   have hcp1:∀ ty dc,(Builtin.copy_ #[24,24] ty #[.slice (some ⟨w.heap.size,i*2,none⟩) (ds.length+1 - i) dc,.slice (some ⟨gx,0,none⟩) 1 1]).run Tryz.prog (w.alloc (.cells L.toArray 47)).drew=.ok (goInt 1) (w.alloc (.cells (splice L (i*2) Rc).toArray 47)).drew:=fun ty dc=>by
    have h:=zbT (P:=Tryz.prog) (w:=(w.alloc (.cells L.toArray 47)).drew) zE ty w.heap.size (i*2) (ds.length+1 - i) dc ⟨gx,0,none⟩ 1 1 L 47 (alloc_new w _ _ rfl) Rc (by rw [lc,hmn1]) (gc _ ((ze7 w _ hgl).trans HGX.out)) (by rw [lc];omega) oc
    rw [hmn1,zal,zaU w w.heap.size _ _ rfl] at h
    exact h
   have hcp2:∀ ty dc sc,(Builtin.copy_ #[24,24] ty #[.slice (some ⟨w.heap.size,(i+1)*2,none⟩) (ds.length - i) dc,.slice (some ⟨g,i*2,none⟩) (ds.length - i) sc]).run Tryz.prog (w.alloc (.cells (splice L (i*2) Rc).toArray 47)).drew.drew=.ok (goInt ((ds.length - i:Nat):Int)) (w.alloc (.cells (splice (splice L (i*2) Rc) ((i+1)*2) Rb).toArray 47)).drew.drew:=fun ty dc sc=>by
    have h:=zbT (P:=Tryz.prog) (w:=(w.alloc (.cells (splice L (i*2) Rc).toArray 47)).drew.drew) zE ty w.heap.size ((i+1)*2) (ds.length - i) dc ⟨g,i*2,none⟩ (ds.length - i) sc (splice L (i*2) Rc) 47 (alloc_new w _ _ rfl) Rb (by rw [lb,hmn2]) (fun j u hj=>by
     rw [Addr.add_lit]
     have h2:=zb (w:=(w.alloc (.cells (splice L (i*2) Rc).toArray 47)).drew.drew) (i:=i*2+j) (show _ from (ze7 w _ hgb).trans HH.out)
     rw [h2]
     exact gb j u hj) (by rw [length_splice _ _ _ (by rw [lc];omega),lb];omega) ob
    rw [hmn2,zal,zal,zaU w w.heap.size _ _ rfl] at h
    exact h
   obtain ⟨L1,hE1⟩ : ∃ L1,L1=splice L (i*2) Rc:=⟨_,rfl⟩
   obtain ⟨L2,hE2⟩ : ∃ L2,L2=splice L1 ((i+1)*2) Rb:=⟨_,rfl⟩
   rw [<- hE1] at hcp1 hcp2
   rw [<- hE2] at hcp2
   have HFIN:Hid (L2.length=G*2/\L2.take ((ds.length+1)*2)=Ra++(Rc++Rb)):=by
    have e1:(i+1)*2=i*2+Rc.length:=by rw [lc];omega
    refine ⟨?_,?_⟩
    ·rw [hE2,length_splice _ _ _ (by rw [hE1,length_splice _ _ _ (by rw [lc];omega),lb];omega),hE1,length_splice _ _ _ (by rw [lc];omega),hL1]
    ·have h:=zgo L (i*2) Rc Rb (by rw [lb,lc];omega)
     rw [<- e1,<- hE1,<- hE2,hL2] at h
     rw [<- h]
     congr 1
     rw [lb];omega
   have HRZ:=Hd hrz
   have HC1:=Hd hcp1
   have HC2:=Hd hcp2
   clear hrz0 hrz hcp1 hcp2 hE1 hE2 hL1 hL2
   rw [show i+(ds.length+1 - i)=ds.length+1 by omega] at hG1
   have hGi:¬ G=i:=by omega
   have hGi1:¬ G=i+1:=by omega
   have htn:((i:Int)+1).toNat=i+1:=by omega
   have hb1:(0:Int)<=(i:Int)+1:=by omega
   have hb3:(i:Int)+1<=(ds.length:Int)+1:=by omega
   unfold maxLen at hG2
   go_enter Tryz.func111,Tryz.ntmps111
   go_wp2_with (at_builtin;refine zA ?_)
   refine zgi rfl _ _ _ _ rfl rfl rfl (HRZ.out _) ?_
   have hcp1:=HC1.out
   go_wp2
   clear hcp1
   refine zai [(0,true),(1,true),(2,true),(3,true),(4,true),(5,true),(6,true),(7,true),(8,false)] 8 (by kernel_rfl) (by kernel_rfl) ?_
   repeat (refine zk rfl (fun K hK=>?_);go_simp;(try simp (disch:=omega) only [IntWalk.i64_in]);refine hK _ ?_;clear hK K)
   refine zt rfl rfl (fun K hK=>?_)
   rw [if_pos (by rfl)]
   refine zf3 (.tmp 50) (.tmp 53) 24 rfl (v:=.slice (some ⟨w.heap.size,(i+1)*2,none⟩) (ds.length - i) (G - (i+1))) (u:=.slice (some ⟨g,i*2,none⟩) (ds.length - i) (ds.length - i)) (by rfl) (by rfl) (HC2.out _ _ _) ?_
   refine hK _ _ ?_
   clear hK K
   refine zQ ?_
   go_wp2
   go_ret
   exact ⟨_,rfl,zi1 (alloc_new w _ _ rfl) hB (by simp;omega) hG1 (by unfold maxLen;omega) (by simpa using HFIN.out.1) (by rw [HR.out];simpa using HFIN.out.2),Upon.below (by repeat (first|with_reducible exact Below.refl _ _|with_reducible apply Below.ofAlloc|with_reducible apply Below.drew)),.inr rfl⟩
  case neg =>
   have hrm:ds.length<cap:=by omega
   have hrm2:ds.length+1<=cap:=by omega
   have hta:cur.toList.take (i*2)=Ra:=by
    have h2:=congrArg (List.take (i*2)) hab
    rw [List.take_take,Nat.min_eq_left (by omega),List.take_left' la] at h2
    exact h2
   have hov:∀ lb cb,(callFunc 172 #[.slice (some ⟨gx,0,none⟩) 1 1,.slice (some ⟨g,(i+1)*2,none⟩) lb cb]).run Tryz.prog w=.ok (.value (.bool false)) w:=fun lb cb=>by
    obtain ⟨i0,z0,hi0,hz0,hs0,_,_⟩:=(zE).hi
    rw [run_callFunc_extern Tryz.func172 (by kernel_rfl) (by kernel_rfl) (by kernel_rfl) (e:=Extern.SlicesOverlaps.overlaps #[24,24] #[4]) (by kernel_rfl),
     Lib.run_overlaps_apart w 24 4 47 Tryz.underlying24 2 (fun w=>by simp [sizeOf,typeInfo,hi0,hs0]) ⟨gx,0,none⟩ ⟨g,(i+1)*2,none⟩ 1 1 lb cb hne 47 47 2 (cap*2) (by simp [World.shape?,HGX.out]) (by simp [World.shape?,HH.out,HSZ.out]) (by omega) (by simp [World.frozen?,HGX.out]) (by simp [World.frozen?,HGX.out])]
    rfl
   have hmn1:Nat.min (ds.length+1 - i) (ds.length - i)=ds.length - i:=Nat.min_eq_right (by omega)
   have hmn2:Nat.min 1 (ds.length+1 - i)=1:=Nat.min_eq_left (by omega)
   have hcp1:∀ ty dc sc,(Builtin.copy_ #[24,24] ty #[.slice (some ⟨g,(i+1)*2,none⟩) (ds.length - i) dc,.slice (some ⟨g,i*2,none⟩) (ds.length+1 - i) sc]).run Tryz.prog w.drew=.ok (goInt ((ds.length - i:Nat):Int)) (w.setB g (.cells (splice cur.toList ((i+1)*2) Rb).toArray 47)).drew:=fun ty dc sc=>by
    have h:=zbT (P:=Tryz.prog) (w:=w.drew) zE ty g ((i+1)*2) (ds.length - i) dc ⟨g,i*2,none⟩ (ds.length+1 - i) sc cur.toList 47 (by rw [Array.toArray_toList];exact HH.out) Rb (by rw [lb,hmn1]) (fun j u hj=>by
     rw [Addr.add_lit,zb (w:=w.drew) HH.out]
     exact gb j u hj) (by rw [lb,hcl];omega) ob
    rw [hmn1,zal] at h
    exact h
   have hcp2:∀ ty dc,(Builtin.copy_ #[24,24] ty #[.slice (some ⟨g,i*2,none⟩) (ds.length+1 - i) dc,.slice (some ⟨gx,0,none⟩) 1 1]).run Tryz.prog (w.setB g (.cells (splice cur.toList ((i+1)*2) Rb).toArray 47)).drew=.ok (goInt 1) (w.setB g (.cells (splice (splice cur.toList ((i+1)*2) Rb) (i*2) Rc).toArray 47)).drew:=fun ty dc=>by
    have h:=zbT (P:=Tryz.prog) (w:=(w.setB g (.cells (splice cur.toList ((i+1)*2) Rb).toArray 47)).drew) zE ty g (i*2) (ds.length+1 - i) dc ⟨gx,0,none⟩ 1 1 (splice cur.toList ((i+1)*2) Rb) 47 (World.setB_at _ _ _ hgb) Rc (by rw [lc,hmn2]) (gc _ ((World.setB_get _ _ _ _ hne).trans HGX.out)) (by rw [length_splice _ _ _ (by rw [lb,hcl];omega),lc,hcl];omega) oc
    rw [hmn2,zal,za7] at h
    exact h
   obtain ⟨L1,hE1⟩ : ∃ L1,L1=splice cur.toList ((i+1)*2) Rb:=⟨_,rfl⟩
   obtain ⟨L2,hE2⟩ : ∃ L2,L2=splice L1 (i*2) Rc:=⟨_,rfl⟩
   rw [<- hE1] at hcp1 hcp2
   rw [<- hE2] at hcp2
   have HFIN:Hid (L2.length=cap*2/\L2.take ((ds.length+1)*2)=Ra++(Rc++Rb)):=by
    have e1:(i+1)*2=i*2+Rc.length:=by rw [lc];omega
    refine ⟨?_,?_⟩
    ·rw [hE2,length_splice _ _ _ (by rw [hE1,length_splice _ _ _ (by rw [lb,hcl];omega),lc,hcl];omega),hE1,length_splice _ _ _ (by rw [lb,hcl];omega),hcl]
    ·have h:=zfE cur.toList (i*2) Rc Rb (by rw [lb,lc,hcl];omega)
     rw [<- e1,<- hE1,<- hE2,hta] at h
     rw [<- h]
     congr 1
     rw [lb];omega
   have HC1:=Hd hcp1
   have HC2:=Hd hcp2
   clear hcp1 hcp2 hE1 hE2 hta hab ga gb gc
   have hci1:¬ cap=i+1:=by omega
   have htn:((i:Int)+1).toNat=i+1:=by omega
   have htn2:((ds.length:Int)+1).toNat=ds.length+1:=by omega
   have hb1:(0:Int)<=(i:Int)+1:=by omega
   have hb2:(0:Int)<=(ds.length:Int)+1:=by omega
   have hb3:(i:Int)+1<=(ds.length:Int)+1:=by omega
   have hb4:(ds.length:Int)+1<=(cap:Int):=by omega
   have hb5:(i:Int)<=(ds.length:Int)+1:=by omega
   go_enter Tryz.func111,Tryz.ntmps111
   go_wp2_with (simp only [hov])
   clear hov
   refine zai [(0,true),(1,true),(2,true),(3,true),(4,true),(5,true),(6,true),(7,true),(8,false)] 8 (by kernel_rfl) (by kernel_rfl) ?_
   repeat (refine zk rfl (fun K hK=>?_);go_simp;(try simp (disch:=omega) only [IntWalk.i64_in]);refine hK _ ?_;clear hK K)
   refine zt rfl rfl (fun K hK=>?_)
   rw [if_pos (by rfl)]
   refine zf3 (.tmp 73) (.tmp 76) 24 rfl (v:=.slice (some ⟨g,(i+1)*2,none⟩) (ds.length - i) (cap - (i+1))) (u:=.slice (some ⟨g,i*2,none⟩) (ds.length+1 - i) (cap - i)) (by rfl) (by rfl) (HC1.out _ _ _) ?_
   refine hK _ _ ?_
   clear hK K
   refine zQ ?_
   have hcp2:=HC2.out
   go_wp2
   clear hcp2
   go_ret
   exact ⟨_,rfl,zi1 (World.setB_at _ _ _ hgb) hg (by simp;omega) hrm2 (by unfold maxLen;omega) (by simpa using HFIN.out.1) (by rw [HR.out];simpa using HFIN.out.2),(show Upon [g] w (w.setB g (.cells L2.toArray 47)) from Upon.setB _ _ (by simp)).trans (Upon.below (by repeat (first|with_reducible exact Below.refl _ _|with_reducible apply Below.drew))),.inl rfl⟩
theorem insC_at (key val:ByteArray) (ys:List CellD) (n:Nat) (hn:n<ys.length) (h:(ys.take n).any (zaa key)=false) (h2:zaa key ys[n]=true):zfN key val ys=ys.take n++CellD.mk key val :: ys.drop n:=by
 unfold zfN
 have e:ys=ys.take n++ys[n] :: ys.drop (n+1):=by rw [<- List.drop_eq_getElem_cons hn,List.take_append_drop]
 have ha:∀ x ∈ ys.take n,(!zaa key x)=true:=fun x hx=>by
  rw [List.any_eq_false] at h
  simpa using h x hx
 have e1:(ys.takeWhile fun c=>!zaa key c)=ys.take n:=by
  conv=>lhs;rw [e]
  rw [List.takeWhile_append_of_pos ha,List.takeWhile_cons,h2,Bool.not_true,if_neg (by decide),List.append_nil]
 have e2:(ys.dropWhile fun c=>!zaa key c)=ys.drop n:=by
  conv=>lhs;rw [e]
  rw [List.dropWhile_append_of_pos ha,List.dropWhile_cons,h2,Bool.not_true,if_neg (by decide)]
  exact (List.drop_eq_getElem_cons hn).symm
 rw [e1,e2]
theorem zmg (v:Value) (ds:List CellD) (key val:ByteArray) (B:Nat) (w:World) (ho:OwnL zu 47 w B v ds) (hks:key.size<=9223372036854775807) (hl:ds.length<=549755813888) (hB:B<=w.heap.size) :
  Calls Tryz.prog 48 #[v,.string key,.string val] w fun e w'=>∃ v',e=.returned v'/\OwnL zu 47 w' B v' (zbM key val ds)/\Upon v.ownBlock.toList w w'/\(∀ k,v'.ownBlock=some k->v.ownBlock=some k ∨ w.heap.size<=k):=by
 obtain ⟨ao,cap,rfl⟩:=ho.rd.form
 have HO:=Hd ho
 have HSB:=Hd hB
 have hnb:(Value.slice ao ds.length cap).ownBlock ≠ some w.heap.size:=fun e=>absurd (ho.lt _ e).2 (Nat.lt_irrefl _)
 clear ho hB
 have hwl:=zea key ds
 cases hk0:zbc key with
 | false =>
  have HK0:=Hd hk0
  have HF:Hid (zbM key val ds=ds):=by show _ = _;unfold zbM;rw [if_pos (.inl hk0)]
  clear hk0
  go_enter Tryz.func48,Tryz.ntmps48
  go_wp2_with fail
  (go_at_call 106;refine (zcV key _ hks).mono ?_;rintro e w' ⟨rfl,rfl⟩)
  rw [HK0.out]
  go_wp2
  go_ret
  exact ⟨_,rfl,by rw [HF.out];exact HO.out.alloc _,Upon.below (by repeat (first|with_reducible exact Below.refl _ _|with_reducible apply Below.ofExt|with_reducible apply Below.ofAlloc|with_reducible apply Below.drew|with_reducible apply Below.ofDrewN|with_reducible assumption|(with_reducible refine Below.setCell ?_ (by first|exact Nat.le_refl _|(simp [go_sem];done)|(simp [go_sem];omega)) _))),fun k h=>.inl h⟩
 | true =>
  have HK0:=Hd hk0
  clear hk0
  by_cases hv60:(60:Int)<val.size
  case pos =>
   have HF:Hid (zbM key val ds=ds):=by show _ = _;unfold zbM;rw [if_pos (.inr (by omega))]
   go_enter Tryz.func48,Tryz.ntmps48
   go_wp2_with fail
   (go_at_call 106;refine (zcV key _ hks).mono ?_;rintro e w' ⟨rfl,rfl⟩)
   rw [HK0.out]
   go_wp2
   go_ret
   exact ⟨_,rfl,by rw [HF.out];exact HO.out.alloc _,Upon.below (by repeat (first|with_reducible exact Below.refl _ _|with_reducible apply Below.ofAlloc)),fun k h=>.inl h⟩
  case neg =>
   by_cases hv:val.size=0
   case pos =>
    obtain rfl:val=⟨#[]⟩:=by
     obtain ⟨⟨l⟩⟩:=val
     have:l = []:=List.eq_nil_of_length_eq_zero hv
     subst this
     rfl
    have HF:Hid (zbM key ⟨#[]⟩ ds=zB key ds):=by show _ = _;unfold zbM;rw [if_neg (fun h=>h.elim (fun h=>by rw [HK0.out] at h;cases h) (fun h=>absurd h (by decide))),if_pos hv]
    go_enter Tryz.func48,Tryz.ntmps48
    go_wp2_with fail
    (go_at_call 106;refine (zcV key _ hks).mono ?_;rintro e w' ⟨rfl,rfl⟩)
    rw [HK0.out]
    go_wp2_with fail
    (go_at_call 107;refine (zb0 _ ds key w.heap.size B (w.alloc (.cells #[.string key] 9)) (HO.out.alloc _) (by simp) hnb (by simp [go_sem])).mono ?_;rintro e w1 ⟨v1,rfl,ho1,hob1,hu1⟩)
    obtain ⟨ao1,ac1,e1⟩:=ho1.rd.form
    have hlt1:w.heap.size<w1.heap.size:=Nat.lt_of_lt_of_le (by simp) hu1.size
    have hc1:w1.cell? ⟨w.heap.size,0,none⟩=some (.string key):=by
     have hq:w1.heap[w.heap.size]?=some (.cells #[.string key] 9):=(hu1.block _ (by simp) (fun h=>hnb (by simpa using h))).trans (alloc_new w _ _ rfl)
     exact (zb hq).trans rfl
    have HO1:=Hd ho1
    have HU1:=Hd (Upon.trans (Upon.below ((Below.refl w.heap.size w).ofAlloc (.cells #[.string key] 9))) hu1)
    have HOB:=Hd hob1
    clear ho1 hu1 hob1
    subst e1
    go_wp2
    go_ret
    exact ⟨_,rfl,by rw [HF.out];exact HO1.out,HU1.out,fun k h=>.inl (HOB.out ▸ h)⟩
   case neg =>
    have hve:(val.toList == [])=false:=by
     obtain ⟨⟨l⟩⟩:=val
     cases l with
     | nil=>exact absurd rfl hv
     | cons a l=>exact beq_false_of_ne (by rw [show (ByteArray.mk ⟨a :: l⟩).toList = _ from ByteArray.toList_eq _];exact List.cons_ne_nil _ _)
    have hp:zbM key val ds=zfN key val (zB key ds):=by unfold zbM;rw [if_neg (fun h=>h.elim (fun h=>by rw [HK0.out] at h;cases h) (fun h=>absurd h (by omega))),if_neg hv]
    cases hany:(zB key ds).any (zaa key) with
    | false =>
     have HI:Hid (zaw (zaa key) (zB key ds) = -1):=zaI _ _ hany
     have HF:Hid (zbM key val ds=(zB key ds).take (zB key ds).length++CellD.mk key val :: (zB key ds).drop (zB key ds).length):=by show _ = _;rw [hp,zji hany,List.take_length,List.drop_length]
     clear hany hp
     go_enter Tryz.func48,Tryz.ntmps48
     go_wp2_with fail
     (go_at_call 106;refine (zcV key _ hks).mono ?_;rintro e w' ⟨rfl,rfl⟩)
     rw [HK0.out]
     go_wp2_with fail
     (go_at_call 107;refine (zb0 _ ds key w.heap.size B (w.alloc (.cells #[.string key] 9)) (HO.out.alloc _) (by simp) hnb (by simp [go_sem])).mono ?_;rintro e w1 ⟨v1,rfl,ho1,hob1,hu1⟩)
     obtain ⟨ao1,ac1,e1⟩:=ho1.rd.form
     have hlt1:w.heap.size<w1.heap.size:=Nat.lt_of_lt_of_le (by simp) hu1.size
     have hc1:w1.cell? ⟨w.heap.size,0,none⟩=some (.string key):=by
      have hq:w1.heap[w.heap.size]?=some (.cells #[.string key] 9):=(hu1.block _ (by simp) (fun h=>hnb (by simpa using h))).trans (alloc_new w _ _ rfl)
      exact (zb hq).trans rfl
     have HO1:=Hd ho1
     have HU1:=Hd (Upon.trans (Upon.below ((Below.refl w.heap.size w).ofAlloc (.cells #[.string key] 9))) hu1)
     have HOB:=Hd hob1
     clear ho1 hu1 hob1
     subst e1
     go_wp2_with fail
     (go_at_call 109;refine (zda _ (zB key ds) key w.heap.size _ HO1.out.rd hlt1 hc1).mono ?_;rintro e w' ⟨rfl,hb⟩;obtain ⟨X,rfl⟩:=hb.ext;clear hb)
     rw [HI.out]
     go_wp2_with fail
     (go_at_call 111;refine (ze0 _ (zB key ds) (zB key ds).length (CellD.mk key val) _ B _ (by repeat (first|exact OwnL.ext HO1.out _|apply OwnL.alloc)) (by omega) (alloc_new _ _ _ (by simp [zm])) (fun e=>by rw [HOB.out] at e;have:=(HO.out.lt _ e).2;omega) (by omega) (by simp [zm];have:=HSB.out;omega)).mono ?_;rintro e w2 ⟨v2,rfl,ho2,hu2,hw2⟩)
     have HO2:=Hd ho2
     have HW2:Hid (∀ k,v2.ownBlock=some k->(Value.slice ao ds.length cap).ownBlock=some k ∨ w.heap.size<=k):=fun k h=>by
      rcases hw2 with h2|h2
      ·left;rw [<- h,h2];exact HOB.out.symm
      ·right
       rw [h] at h2
       have h3:=Option.some.inj h2
       (try simp [zm] at h3)
       omega
     clear hw2
     rw [HOB.out] at hu2
     have hut:Upon (Value.slice ao ds.length cap).ownBlock.toList w w2:=by
      refine Upon.trans (Upon.trans HU1.out (Upon.below ?_)) hu2
      exact (by repeat (first|with_reducible exact Below.refl _ _|with_reducible apply Below.ofExt|with_reducible apply Below.ofAlloc))
     have HU2:=Hd hut
     clear ho2 hu2 hut
     go_wp2
     go_ret
     exact ⟨_,rfl,by rw [HF.out];exact HO2.out,HU2.out,HW2.out⟩
    | true =>
     obtain ⟨n,hn,hbef,hat⟩:=ze6 _ _ hany
     have HI:Hid (zaw (zaa key) (zB key ds)=n):=zaE _ _ n hn hbef hat
     have HF:Hid (zbM key val ds=(zB key ds).take n++CellD.mk key val :: (zB key ds).drop n):=by show _ = _;rw [hp,insC_at key val _ n hn hbef hat]
     clear hany hp hbef hat
     go_enter Tryz.func48,Tryz.ntmps48
     go_wp2_with fail
     (go_at_call 106;refine (zcV key _ hks).mono ?_;rintro e w' ⟨rfl,rfl⟩)
     rw [HK0.out]
     go_wp2_with fail
     (go_at_call 107;refine (zb0 _ ds key w.heap.size B (w.alloc (.cells #[.string key] 9)) (HO.out.alloc _) (by simp) hnb (by simp [go_sem])).mono ?_;rintro e w1 ⟨v1,rfl,ho1,hob1,hu1⟩)
     obtain ⟨ao1,ac1,e1⟩:=ho1.rd.form
     have hlt1:w.heap.size<w1.heap.size:=Nat.lt_of_lt_of_le (by simp) hu1.size
     have hc1:w1.cell? ⟨w.heap.size,0,none⟩=some (.string key):=by
      have hq:w1.heap[w.heap.size]?=some (.cells #[.string key] 9):=(hu1.block _ (by simp) (fun h=>hnb (by simpa using h))).trans (alloc_new w _ _ rfl)
      exact (zb hq).trans rfl
     have HO1:=Hd ho1
     have HU1:=Hd (Upon.trans (Upon.below ((Below.refl w.heap.size w).ofAlloc (.cells #[.string key] 9))) hu1)
     have HOB:=Hd hob1
     clear ho1 hu1 hob1
     subst e1
     go_wp2_with fail
     (go_at_call 109;refine (zda _ (zB key ds) key w.heap.size _ HO1.out.rd hlt1 hc1).mono ?_;rintro e w' ⟨rfl,hb⟩;obtain ⟨X,rfl⟩:=hb.ext;clear hb)
     rw [HI.out]
     go_wp2_with fail
     (go_at_call 111;refine (ze0 _ (zB key ds) n (CellD.mk key val) _ B _ (by repeat (first|exact OwnL.ext HO1.out _|apply OwnL.alloc)) (by omega) (alloc_new _ _ _ (by simp [zm])) (fun e=>by rw [HOB.out] at e;have:=(HO.out.lt _ e).2;omega) (by omega) (by simp [zm];have:=HSB.out;omega)).mono ?_;rintro e w2 ⟨v2,rfl,ho2,hu2,hw2⟩)
     have HO2:=Hd ho2
     have HW2:Hid (∀ k,v2.ownBlock=some k->(Value.slice ao ds.length cap).ownBlock=some k ∨ w.heap.size<=k):=fun k h=>by
      rcases hw2 with h2|h2
      ·left;rw [<- h,h2];exact HOB.out.symm
      ·right
       rw [h] at h2
       have h3:=Option.some.inj h2
       (try simp [zm] at h3)
       omega
     clear hw2
     rw [HOB.out] at hu2
     have hut:Upon (Value.slice ao ds.length cap).ownBlock.toList w w2:=by
      refine Upon.trans (Upon.trans HU1.out (Upon.below ?_)) hu2
      exact (by repeat (first|with_reducible exact Below.refl _ _|with_reducible apply Below.ofExt|with_reducible apply Below.ofAlloc))
     have HU2:=Hd hut
     clear ho2 hu2 hut
     go_wp2
     go_ret
     exact ⟨_,rfl,by rw [HF.out];exact HO2.out,HU2.out,HW2.out⟩
theorem one_rdlS (w:World) (c:ByteArray) (gx:Nat) (hx:w.heap[gx]?=some (.cells #[.string c] 9 (0,0))):RdL zx w (.slice (some ⟨gx,0,none⟩) 1 1) [c]:=by
 refine .inr ⟨gx,0,1,rfl,Nat.le_refl _,by unfold maxLen;omega,fun j u hj=>?_⟩
 rw [zb hx,Nat.zero_add]
 simpa [zx] using hj
theorem ziY (xs:List ByteArray):(xs.flatMap zx.row).length=xs.length:=by
 have:=zx.flat_len xs
 simpa [zx] using this
theorem zkA {w:World} {B g n cap:Nat} {ds:List ByteArray} {cur:Array Value} (hh:w.heap[g]?=some (.cells cur 9 (0,0))) (hg:B<=g) (hl:n=ds.length) (hn:n<=cap) (hm:cap<=maxLen) (hs:cur.size=cap) (ht:cur.toList.take (n)=ds.flatMap zx.row):OwnL zx 9 w B (.slice (some ⟨g,0,none⟩) n cap) ds:=by
 subst hl
 exact ⟨zx.flat_len _,.inr ⟨g,cap,cur,rfl,hg,hh,hn,hm,by rw [hs];exact (Nat.mul_one cap).symm,by rw [show ds.length*zx.k=ds.length from Nat.mul_one _];exact ht⟩⟩
theorem ziG (v:Value) (ds:List ByteArray) (i:Nat) (c:ByteArray) (gx B:Nat) (w:World) (ho:OwnL zx 9 w B v ds) (hi:i<=ds.length) (hx:w.heap[gx]?=some (.cells #[.string c] 9 (0,0))) (hgx:v.ownBlock ≠ some gx) (hl:ds.length<=549755813888) (hB:B<=w.heap.size) :
  Calls Tryz.prog 231 #[v,.int .i64 i,.slice (some ⟨gx,0,none⟩) 1 1] w fun e w'=>∃ v',e=.returned v'/\OwnL zx 9 w' B v' (ds.take i++c :: ds.drop i)/\Upon v.ownBlock.toList w w'/\(v'.ownBlock=v.ownBlock ∨ v'.ownBlock=some w.heap.size):=by
 have HX:=Hd (one_rdlS w c gx hx)
 have HGX:=Hd hx
 have HOWN:=Hd ho
 have hgl:=za hx
 rcases ho.2 with ⟨rfl,h0⟩|⟨g,cap,cur,rfl,hg,hh,hn,hm,hsz,ht⟩
 ·have:ds = []:=List.eq_nil_of_length_eq_zero h0
  subst this
  obtain rfl:i=0:=by simpa using hi
  have HF:Hid (([]:List ByteArray).take 0++c :: ([]:List ByteArray).drop 0 = [] ++ [c]):=rfl
  clear ho hx
  go_enter Tryz.func231,Tryz.ntmps231
  go_wp2_with (at_builtin;refine zA ?_)
  refine zaK rfl _ _ _ rfl zC (B:=B) (R:=zx) (xs:=[]) HOWN.out rfl (ys:=[c]) HX.out rfl (by simp only [List.length_singleton];omega) (by simp only [List.length_singleton];unfold maxLen;omega) hB ?_
  intro v4 w4 hown4 hgr4 hwh4
  have HO4:=Hd hown4
  have HU4:=Hd (zbo hgr4)
  have HWH:=Hd hwh4
  clear hown4 hgr4 hwh4
  go_wp2
  go_ret
  exact ⟨_,rfl,by exact HO4.out,HU4.out,HWH.out⟩
 have HH:=Hd hh
 have HT:Hid (cur.toList.take (ds.length)=ds.flatMap zx.row):=by have h:=ht;rw [show ds.length*zx.k=ds.length from Nat.mul_one _] at h;exact h
 have HSZ:Hid (cur.size=cap):=hsz.trans (Nat.mul_one cap)
 have hgb:=za hh
 have hne:gx ≠ g:=fun e=>hgx (by rw [e];rfl)
 clear ho hx hh ht hsz hgx
 unfold maxLen at hm
 by_cases hin:i=ds.length
 case pos =>
  have HF:Hid (ds.take i++c :: ds.drop i=ds ++ [c]):=by show _ = _;rw [hin,List.take_length,List.drop_length]
  subst hin
  by_cases hcap:cap=ds.length
  case pos =>
   have hcap2:¬ ds.length<cap:=by omega
   go_enter Tryz.func231,Tryz.ntmps231
   go_wp2_with (at_builtin;refine zA ?_)
   refine zaK rfl _ _ _ rfl zC (B:=B) (R:=zx) (xs:=ds) HOWN.out rfl (ys:=[c]) HX.out rfl (by simp only [List.length_singleton];omega) (by simp only [List.length_singleton];unfold maxLen;omega) hB ?_
   intro v4 w4 hown4 hgr4 hwh4
   have HO4:=Hd hown4
   have HU4:=Hd (zbo hgr4)
   have HWH:=Hd hwh4
   clear hown4 hgr4 hwh4
   go_wp2
   go_ret
   exact ⟨_,rfl,by (rw [HF.out];exact HO4.out),HU4.out,HWH.out⟩
  case neg =>
   go_enter Tryz.func231,Tryz.ntmps231
   go_wp2_with (at_builtin;refine zA ?_)
   refine zaK rfl _ _ _ rfl zC (B:=B) (R:=zx) (xs:=ds) HOWN.out rfl (ys:=[c]) HX.out rfl (by simp only [List.length_singleton];omega) (by simp only [List.length_singleton];unfold maxLen;omega) hB ?_
   intro v4 w4 hown4 hgr4 hwh4
   have HO4:=Hd hown4
   have HU4:=Hd (zbo hgr4)
   have HWH:=Hd hwh4
   clear hown4 hgr4 hwh4
   go_wp2
   go_ret
   exact ⟨_,rfl,by (rw [HF.out];exact HO4.out),HU4.out,HWH.out⟩
 case neg =>
  have hlt:i<ds.length:=by omega
  have hz2:¬ ((i:Int)=(ds.length:Int)):=by omega
  have hc1:¬ cap=i:=by omega
  obtain ⟨Ra,hRa⟩ : ∃ R,R=(ds.take i).flatMap zx.row:=⟨_,rfl⟩
  obtain ⟨Rb,hRb⟩ : ∃ R,R=(ds.drop i).flatMap zx.row:=⟨_,rfl⟩
  obtain ⟨Rc,hRc⟩ : ∃ R,R=zx.row c:=⟨_,rfl⟩
  have la:Ra.length=i:=by rw [hRa,ziY,List.length_take,Nat.min_eq_left hi]
  have lb:Rb.length=(ds.length - i):=by rw [hRb,ziY,List.length_drop]
  have lc:Rc.length=1:=by rw [hRc];rfl
  have hab:cur.toList.take (ds.length)=Ra++Rb:=by rw [HT.out,hRa,hRb,<- List.flatMap_append,List.take_append_drop]
  have HR:Hid ((ds.take i++c :: ds.drop i).flatMap zx.row=Ra++(Rc++Rb)):=by show _ = _;rw [List.flatMap_append,List.flatMap_cons,hRa,hRb,hRc]
  have oa:∀ u ∈ Ra,u.oneCell'=true:=by rw [hRa];intro u hu;obtain ⟨d,_,hd⟩:=List.mem_flatMap.1 hu;exact zx.one d u hd
  have ob:∀ u ∈ Rb,u.oneCell'=true:=by rw [hRb];intro u hu;obtain ⟨d,_,hd⟩:=List.mem_flatMap.1 hu;exact zx.one d u hd
  have oc:∀ u ∈ Rc,u.oneCell'=true:=by rw [hRc];exact zx.one c
  have hcl:cur.toList.length=cap:=(Array.length_toList (xs:=cur)).trans HSZ.out
  have ga:∀ j u,Ra[j]?=some u->cur[j]?=some u:=fun j u hj=>by
   have h:=(List.getElem?_eq_some_iff.1 hj).1
   have h2:=congrArg (fun l=>l[j]?) hab
   simp only [List.getElem?_take,List.getElem?_append_left h] at h2
   rw [if_pos (by omega),Array.getElem?_toList] at h2
   rw [h2]
   exact hj
  have gb:∀ j u,Rb[j]?=some u->cur[i+j]?=some u:=fun j u hj=>by
   have h:=(List.getElem?_eq_some_iff.1 hj).1
   have h2:=congrArg (fun l=>l[i+j]?) hab
   simp only [List.getElem?_take] at h2
   rw [if_pos (by omega),List.getElem?_append_right (by omega),la,Nat.add_sub_cancel_left,Array.getElem?_toList] at h2
   rw [h2]
   exact hj
  have gc:∀ (W:World),W.heap[gx]?=some (.cells #[.string c] 9 (0,0))->∀ j u,Rc[j]?=some u->W.cell? ((⟨gx,0,none⟩ : Addr).add j)=some u:=fun W hW j u hj=>by
   rw [Addr.add_lit,zb hW,Nat.zero_add]
   rw [hRc] at hj
   simpa [zx] using hj
  have HRa:=Hd hRa
  clear hRa hRb hRc
  by_cases hroom:cap=ds.length
  case pos =>
   have hrm2:¬ ds.length<cap:=by omega
   subst hroom
   obtain ⟨G,L,hG1,hG2,hL1,hL2,hrz0⟩:=zjz (P:=Tryz.prog) (w:=w) (tn:=3) zC Tryz.underlying3 (some ⟨g,0,none⟩) i ds.length Ra (by rw [la,Nat.mul_one]) (fun h=>by cases h) (fun ad had j u hj=>by
    cases had
    rw [Addr.add_lit,zb HH.out,Nat.zero_add]
    exact ga j u hj) (ds.length+1 - i) (by omega) (by omega) (by omega) (by omega) (by omega)
   rw [Nat.mul_one] at hL1 hL2
   have hrz:∀ ty,(Builtin.append_ #[31,3] ty #[.slice (some ⟨g,0,none⟩) i ds.length,.int .i64 ((ds.length:Int)+1 - (i:Int))]).run Tryz.prog w=.ok (.slice (some ⟨w.heap.size,0,none⟩) (ds.length+1) G) (w.alloc (.cells L.toArray 9)).drew:=fun ty=>by
    have h:=hrz0 ty
    rw [show i+(ds.length+1 - i)=ds.length+1 by omega] at h
    rw [show (ds.length:Int)+1 - (i:Int)=((ds.length+1 - i:Nat):Int) by omega]
    exact h
   have hmn1:Nat.min 1 (ds.length+1 - i)=1:=Nat.min_eq_left (by omega)
   have hmn2:Nat.min (ds.length - i) (ds.length - i)=ds.length - i:=Nat.min_self _
   have hcp1:∀ ty dc,(Builtin.copy_ #[31,31] ty #[.slice (some ⟨w.heap.size,i,none⟩) (ds.length+1 - i) dc,.slice (some ⟨gx,0,none⟩) 1 1]).run Tryz.prog (w.alloc (.cells L.toArray 9)).drew=.ok (goInt 1) (w.alloc (.cells (splice L (i) Rc).toArray 9)).drew:=fun ty dc=>by
    have h:=zbT (P:=Tryz.prog) (w:=(w.alloc (.cells L.toArray 9)).drew) zC ty w.heap.size (i) (ds.length+1 - i) dc ⟨gx,0,none⟩ 1 1 L 9 (alloc_new w _ _ rfl) Rc (by rw [lc,hmn1]) (gc _ ((ze7 w _ hgl).trans HGX.out)) (by rw [lc];omega) oc
    rw [hmn1,zal,zaU w w.heap.size _ _ rfl] at h
    exact h
   have hcp2:∀ ty dc sc,(Builtin.copy_ #[31,31] ty #[.slice (some ⟨w.heap.size,(i+1),none⟩) (ds.length - i) dc,.slice (some ⟨g,i,none⟩) (ds.length - i) sc]).run Tryz.prog (w.alloc (.cells (splice L (i) Rc).toArray 9)).drew.drew=.ok (goInt ((ds.length - i:Nat):Int)) (w.alloc (.cells (splice (splice L (i) Rc) ((i+1)) Rb).toArray 9)).drew.drew:=fun ty dc sc=>by
    have h:=zbT (P:=Tryz.prog) (w:=(w.alloc (.cells (splice L (i) Rc).toArray 9)).drew.drew) zC ty w.heap.size ((i+1)) (ds.length - i) dc ⟨g,i,none⟩ (ds.length - i) sc (splice L (i) Rc) 9 (alloc_new w _ _ rfl) Rb (by rw [lb,hmn2,Nat.mul_one]) (fun j u hj=>by
     rw [Addr.add_lit]
     have h2:=zb (w:=(w.alloc (.cells (splice L (i) Rc).toArray 9)).drew.drew) (i:=i+j) (show _ from (ze7 w _ hgb).trans HH.out)
     rw [h2]
     exact gb j u hj) (by rw [length_splice _ _ _ (by rw [lc];omega),lb];omega) ob
    rw [hmn2,zal,zal,zaU w w.heap.size _ _ rfl] at h
    exact h
   obtain ⟨L1,hE1⟩ : ∃ L1,L1=splice L (i) Rc:=⟨_,rfl⟩
   obtain ⟨L2,hE2⟩ : ∃ L2,L2=splice L1 ((i+1)) Rb:=⟨_,rfl⟩
   rw [<- hE1] at hcp1 hcp2
   rw [<- hE2] at hcp2
   have HFIN:Hid (L2.length=G/\L2.take ((ds.length+1))=Ra++(Rc++Rb)):=by
    have e1:(i+1)=i+Rc.length:=by rw [lc]
    refine ⟨?_,?_⟩
    ·rw [hE2,length_splice _ _ _ (by rw [hE1,length_splice _ _ _ (by rw [lc];omega),lb];omega),hE1,length_splice _ _ _ (by rw [lc];omega),hL1]
    ·have h:=zgo L (i) Rc Rb (by rw [lb,lc];omega)
     rw [<- e1,<- hE1,<- hE2,hL2] at h
     rw [<- h]
     congr 1
     rw [lb];omega
   have HRZ:=Hd hrz
   have HC1:=Hd hcp1
   have HC2:=Hd hcp2
   clear hrz0 hrz hcp1 hcp2 hE1 hE2 hL1 hL2
   rw [show i+(ds.length+1 - i)=ds.length+1 by omega] at hG1
   have hGi:¬ G=i:=by omega
   have hGi1:¬ G=i+1:=by omega
   have htn:((i:Int)+1).toNat=i+1:=by omega
   have hb1:(0:Int)<=(i:Int)+1:=by omega
   have hb3:(i:Int)+1<=(ds.length:Int)+1:=by omega
   unfold maxLen at hG2
   go_enter Tryz.func231,Tryz.ntmps231
   go_wp2_with (at_builtin;refine zA ?_)
   refine zgi rfl _ _ _ _ rfl rfl rfl (HRZ.out _) ?_
   have hcp1:=HC1.out
   go_wp2
   clear hcp1
   refine zai [(0,true),(1,true),(2,true),(3,true),(4,true),(5,true),(6,true),(7,true),(8,false)] 8 (by kernel_rfl) (by kernel_rfl) ?_
   repeat (refine zk rfl (fun K hK=>?_);go_simp;(try simp (disch:=omega) only [IntWalk.i64_in]);refine hK _ ?_;clear hK K)
   refine zt rfl rfl (fun K hK=>?_)
   rw [if_pos (by rfl)]
   refine zf3 (.tmp 50) (.tmp 53) 31 rfl (v:=.slice (some ⟨w.heap.size,(i+1),none⟩) (ds.length - i) (G - (i+1))) (u:=.slice (some ⟨g,i,none⟩) (ds.length - i) (ds.length - i)) (by rfl) (by rfl) (HC2.out _ _ _) ?_
   refine hK _ _ ?_
   clear hK K
   refine zQ ?_
   go_wp2
   go_ret
   exact ⟨_,rfl,zkA (alloc_new w _ _ rfl) hB (by simp;omega) hG1 (by unfold maxLen;omega) (by simpa using HFIN.out.1) (by rw [HR.out];simpa using HFIN.out.2),Upon.below (by repeat (first|with_reducible exact Below.refl _ _|with_reducible apply Below.ofAlloc|with_reducible apply Below.drew)),.inr rfl⟩
  case neg =>
   have hrm:ds.length<cap:=by omega
   have hrm2:ds.length+1<=cap:=by omega
   have hta:cur.toList.take (i)=Ra:=by
    have h2:=congrArg (List.take (i)) hab
    rw [List.take_take,Nat.min_eq_left (by omega),List.take_left' la] at h2
    exact h2
   have hov:∀ lb cb,(callFunc 250 #[.slice (some ⟨gx,0,none⟩) 1 1,.slice (some ⟨g,(i+1),none⟩) lb cb]).run Tryz.prog w=.ok (.value (.bool false)) w:=fun lb cb=>by
    obtain ⟨i0,z0,hi0,hz0,hs0,_,_⟩:=(zC).hi
    rw [run_callFunc_extern Tryz.func250 (by kernel_rfl) (by kernel_rfl) (by kernel_rfl) (e:=Extern.SlicesOverlaps.overlaps #[31,31] #[4]) (by kernel_rfl),
     Lib.run_overlaps_apart w 31 4 9 Tryz.underlying31 1 (fun w=>by simp [sizeOf,typeInfo,hi0,hs0]) ⟨gx,0,none⟩ ⟨g,(i+1),none⟩ 1 1 lb cb hne 9 9 1 (cap) (by simp [World.shape?,HGX.out]) (by simp [World.shape?,HH.out,HSZ.out]) (by omega) (by simp [World.frozen?,HGX.out]) (by simp [World.frozen?,HGX.out])]
    rfl
   have hmn1:Nat.min (ds.length+1 - i) (ds.length - i)=ds.length - i:=Nat.min_eq_right (by omega)
   have hmn2:Nat.min 1 (ds.length+1 - i)=1:=Nat.min_eq_left (by omega)
   have hcp1:∀ ty dc sc,(Builtin.copy_ #[31,31] ty #[.slice (some ⟨g,(i+1),none⟩) (ds.length - i) dc,.slice (some ⟨g,i,none⟩) (ds.length+1 - i) sc]).run Tryz.prog w.drew=.ok (goInt ((ds.length - i:Nat):Int)) (w.setB g (.cells (splice cur.toList ((i+1)) Rb).toArray 9)).drew:=fun ty dc sc=>by
    have h:=zbT (P:=Tryz.prog) (w:=w.drew) zC ty g ((i+1)) (ds.length - i) dc ⟨g,i,none⟩ (ds.length+1 - i) sc cur.toList 9 (by rw [Array.toArray_toList];exact HH.out) Rb (by rw [lb,hmn1,Nat.mul_one]) (fun j u hj=>by
     rw [Addr.add_lit,zb (w:=w.drew) HH.out]
     exact gb j u hj) (by rw [lb,hcl];omega) ob
    rw [hmn1,zal] at h
    exact h
   have hcp2:∀ ty dc,(Builtin.copy_ #[31,31] ty #[.slice (some ⟨g,i,none⟩) (ds.length+1 - i) dc,.slice (some ⟨gx,0,none⟩) 1 1]).run Tryz.prog (w.setB g (.cells (splice cur.toList ((i+1)) Rb).toArray 9)).drew=.ok (goInt 1) (w.setB g (.cells (splice (splice cur.toList ((i+1)) Rb) (i) Rc).toArray 9)).drew:=fun ty dc=>by
    have h:=zbT (P:=Tryz.prog) (w:=(w.setB g (.cells (splice cur.toList ((i+1)) Rb).toArray 9)).drew) zC ty g (i) (ds.length+1 - i) dc ⟨gx,0,none⟩ 1 1 (splice cur.toList ((i+1)) Rb) 9 (World.setB_at _ _ _ hgb) Rc (by rw [lc,hmn2]) (gc _ ((World.setB_get _ _ _ _ hne).trans HGX.out)) (by rw [length_splice _ _ _ (by rw [lb,hcl];omega),lc,hcl];omega) oc
    rw [hmn2,zal,za7] at h
    exact h
   obtain ⟨L1,hE1⟩ : ∃ L1,L1=splice cur.toList ((i+1)) Rb:=⟨_,rfl⟩
   obtain ⟨L2,hE2⟩ : ∃ L2,L2=splice L1 (i) Rc:=⟨_,rfl⟩
   rw [<- hE1] at hcp1 hcp2
   rw [<- hE2] at hcp2
   have HFIN:Hid (L2.length=cap/\L2.take ((ds.length+1))=Ra++(Rc++Rb)):=by
    have e1:(i+1)=i+Rc.length:=by rw [lc]
    refine ⟨?_,?_⟩
    ·rw [hE2,length_splice _ _ _ (by rw [hE1,length_splice _ _ _ (by rw [lb,hcl];omega),lc,hcl];omega),hE1,length_splice _ _ _ (by rw [lb,hcl];omega),hcl]
    ·have h:=zfE cur.toList (i) Rc Rb (by rw [lb,lc,hcl];omega)
     rw [<- e1,<- hE1,<- hE2,hta] at h
     rw [<- h]
     congr 1
     rw [lb];omega
   have HC1:=Hd hcp1
   have HC2:=Hd hcp2
   clear hcp1 hcp2 hE1 hE2 hta hab ga gb gc
   have hci1:¬ cap=i+1:=by omega
   have htn:((i:Int)+1).toNat=i+1:=by omega
   have htn2:((ds.length:Int)+1).toNat=ds.length+1:=by omega
   have hb1:(0:Int)<=(i:Int)+1:=by omega
   have hb2:(0:Int)<=(ds.length:Int)+1:=by omega
   have hb3:(i:Int)+1<=(ds.length:Int)+1:=by omega
   have hb4:(ds.length:Int)+1<=(cap:Int):=by omega
   have hb5:(i:Int)<=(ds.length:Int)+1:=by omega
   go_enter Tryz.func231,Tryz.ntmps231
   go_wp2_with (simp only [hov])
   clear hov
   refine zai [(0,true),(1,true),(2,true),(3,true),(4,true),(5,true),(6,true),(7,true),(8,false)] 8 (by kernel_rfl) (by kernel_rfl) ?_
   repeat (refine zk rfl (fun K hK=>?_);go_simp;(try simp (disch:=omega) only [IntWalk.i64_in]);refine hK _ ?_;clear hK K)
   refine zt rfl rfl (fun K hK=>?_)
   rw [if_pos (by rfl)]
   refine zf3 (.tmp 73) (.tmp 76) 31 rfl (v:=.slice (some ⟨g,(i+1),none⟩) (ds.length - i) (cap - (i+1))) (u:=.slice (some ⟨g,i,none⟩) (ds.length+1 - i) (cap - i)) (by rfl) (by rfl) (HC1.out _ _ _) ?_
   refine hK _ _ ?_
   clear hK K
   refine zQ ?_
   have hcp2:=HC2.out
   go_wp2
   clear hcp2
   go_ret
   exact ⟨_,rfl,zkA (World.setB_at _ _ _ hgb) hg (by simp;omega) hrm2 (by unfold maxLen;omega) (by simpa using HFIN.out.1) (by rw [HR.out];simpa using HFIN.out.2),(show Upon [g] w (w.setB g (.cells L2.toArray 9)) from Upon.setB _ _ (by simp)).trans (Upon.below (by repeat (first|with_reducible exact Below.refl _ _|with_reducible apply Below.drew))),.inl rfl⟩
end Go.Proofs.YtpnoehpmgflibaaGreatDoor
