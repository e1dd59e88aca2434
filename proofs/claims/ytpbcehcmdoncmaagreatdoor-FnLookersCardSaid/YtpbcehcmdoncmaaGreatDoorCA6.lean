/- Texts of this claim, merged: the walks and what they stand on. Each condition stands in its theorem. -/
import Derived.Laws.Externs
import Derived.Test.YtpbcehcmdoncmaaGreatDoorCA5
set_option linter.unusedVariables false
set_option linter.unusedSimpArgs false
set_option maxRecDepth 100000
set_option maxHeartbeats 8000000
namespace Go.Proofs.YtpbcehcmdoncmaaGreatDoor
open Go.ChangeShapes Go.WideShapes Go.ChangeAt Go.RowKit
theorem one_rdl (w:World) (c:CellD) (gx:Nat) (hx:w.heap[gx]?=some (.cells #[.string c.key,.string c.val] 61 (0,0))):RdL zu w (.slice (some ⟨gx,0,none⟩) 1 1) [c]:=by
 refine .inr ⟨gx,0,1,rfl,Nat.le_refl _,by unfold maxLen;omega,fun j u hj=>?_⟩
 rw [zd hx,Nat.zero_add]
 simpa [zu,CellD.row] using hj
theorem alloc_new (w:World) (o:Obj) (n:Nat) (h:n=w.heap.size):(w.alloc o).heap[n]?=some o:=by
 subst h
 show (w.heap.push o)[_]? = _
 simp
theorem zen (w:World) (o:Obj) {b:Nat} (h:b<w.heap.size):(w.alloc o).heap[b]?=w.heap[b]?:=by
 show (w.heap.push o)[_]? = _
 rw [Array.getElem?_push,if_neg (Nat.ne_of_lt h)]
theorem zhX {w:World} {B g n cap:Nat} {ds:List CellD} {cur:Array Value} (hh:w.heap[g]?=some (.cells cur 61 (0,0))) (hg:B<=g) (hl:n=ds.length) (hn:n<=cap) (hm:cap<=maxLen) (hs:cur.size=cap*2) (ht:cur.toList.take (n*2)=ds.flatMap CellD.row):OwnL zu 61 w B (.slice (some ⟨g,0,none⟩) n cap) ds:=by
 subst hl
 exact ⟨zu.flat_len _,.inr ⟨g,cap,cur,rfl,hg,hh,hn,hm,hs,ht⟩⟩
theorem zeg (v:Value) (ds:List CellD) (i:Nat) (c:CellD) (gx B:Nat) (w:World) (ho:OwnL zu 61 w B v ds) (hi:i<=ds.length) (hx:w.heap[gx]?=some (.cells #[.string c.key,.string c.val] 61 (0,0))) (hgx:v.ownBlock ≠ some gx) (hl:ds.length<=549755813888) (hB:B<=w.heap.size) :
  Calls Tryz.prog 162 #[v,.int .i64 i,.slice (some ⟨gx,0,none⟩) 1 1] w fun e w'=>∃ v',e=.returned v'/\OwnL zu 61 w' B v' (ds.take i++c :: ds.drop i)/\Upon v.ownBlock.toList w w'/\(v'.ownBlock=v.ownBlock ∨ v'.ownBlock=some w.heap.size):=by
 have HX:=Hd (one_rdl w c gx hx)
 have HGX:=Hd hx
 have HOWN:=Hd ho
 have hgl:=za hx
 rcases ho.2 with ⟨rfl,h0⟩|⟨g,cap,cur,rfl,hg,hh,hn,hm,hsz,ht⟩
 ·have:ds = []:=List.eq_nil_of_length_eq_zero h0
  subst this
  obtain rfl:i=0:=by simpa using hi
  have HF:Hid (([]:List CellD).take 0++c :: ([]:List CellD).drop 0 = [] ++ [c]):=rfl
  clear ho hx
  go_enter Tryz.func162,Tryz.ntmps162
  go_wp2_with (at_builtin;refine zy ?_)
  refine zaA rfl _ _ _ rfl zB (B:=B) (R:=zu) (xs:=[]) HOWN.out rfl (ys:=[c]) HX.out rfl (by simp only [List.length_singleton];omega) (by simp only [List.length_singleton];unfold maxLen;omega) hB ?_
  intro v4 w4 hown4 hgr4 hwh4
  have HO4:=Hd hown4
  have HU4:=Hd (za7 hgr4)
  have HWH:=Hd hwh4
  clear hown4 hgr4 hwh4
  go_wp2
  go_ret
  exact ⟨_,rfl,by exact HO4.out,HU4.out,HWH.out⟩
 have HH:=Hd hh
 have HT:Hid (cur.toList.take (ds.length*2)=ds.flatMap CellD.row):=ht
 have HSZ:Hid (cur.size=cap*2):=hsz
 have hgb:=za hh
 have hne:gx ≠ g:=fun e=>hgx (by rw [e];rfl)
 clear ho hx hh ht hsz hgx
 unfold maxLen at hm
 by_cases hin:i=ds.length
 case pos =>
  have HF:Hid (ds.take i++c :: ds.drop i=ds ++ [c]):=by show _ = _;rw [hin,List.take_length,List.drop_length]
  subst hin
  by_cases hcap:cap=ds.length
  case pos =>
   have hcap2:¬ ds.length<cap:=by omega
   go_enter Tryz.func162,Tryz.ntmps162
   go_wp2_with (at_builtin;refine zy ?_)
   refine zaA rfl _ _ _ rfl zB (B:=B) (R:=zu) (xs:=ds) HOWN.out rfl (ys:=[c]) HX.out rfl (by simp only [List.length_singleton];omega) (by simp only [List.length_singleton];unfold maxLen;omega) hB ?_
   intro v4 w4 hown4 hgr4 hwh4
   have HO4:=Hd hown4
   have HU4:=Hd (za7 hgr4)
   have HWH:=Hd hwh4
   clear hown4 hgr4 hwh4
   go_wp2
   go_ret
   exact ⟨_,rfl,by (rw [HF.out];exact HO4.out),HU4.out,HWH.out⟩
  case neg =>
   go_enter Tryz.func162,Tryz.ntmps162
   go_wp2_with (at_builtin;refine zy ?_)
   refine zaA rfl _ _ _ rfl zB (B:=B) (R:=zu) (xs:=ds) HOWN.out rfl (ys:=[c]) HX.out rfl (by simp only [List.length_singleton];omega) (by simp only [List.length_singleton];unfold maxLen;omega) hB ?_
   intro v4 w4 hown4 hgr4 hwh4
   have HO4:=Hd hown4
   have HU4:=Hd (za7 hgr4)
   have HWH:=Hd hwh4
   clear hown4 hgr4 hwh4
   go_wp2
   go_ret
   exact ⟨_,rfl,by (rw [HF.out];exact HO4.out),HU4.out,HWH.out⟩
 case neg =>
  have hlt:i<ds.length:=by omega
  have hz2:¬ ((i:Int)=(ds.length:Int)):=by omega
  have hc1:¬ cap=i:=by omega
  obtain ⟨Ra,hRa⟩ : ∃ R,R=(ds.take i).flatMap CellD.row:=⟨_,rfl⟩
  obtain ⟨Rb,hRb⟩ : ∃ R,R=(ds.drop i).flatMap CellD.row:=⟨_,rfl⟩
  obtain ⟨Rc,hRc⟩ : ∃ R,R=CellD.row c:=⟨_,rfl⟩
  have la:Ra.length=i*2:=by rw [hRa,zfj,List.length_take,Nat.min_eq_left hi]
  have lb:Rb.length=(ds.length - i)*2:=by rw [hRb,zfj,List.length_drop]
  have lc:Rc.length=2:=by rw [hRc];rfl
  have hab:cur.toList.take (ds.length*2)=Ra++Rb:=by rw [HT.out,hRa,hRb,<- List.flatMap_append,List.take_append_drop]
  have HR:Hid ((ds.take i++c :: ds.drop i).flatMap CellD.row=Ra++(Rc++Rb)):=by show _ = _;rw [List.flatMap_append,List.flatMap_cons,hRa,hRb,hRc]
  have oa:∀ u ∈ Ra,u.oneCell'=true:=by rw [hRa];intro u hu;obtain ⟨d,_,hd⟩:=List.mem_flatMap.1 hu;exact zdS d u hd
  have ob:∀ u ∈ Rb,u.oneCell'=true:=by rw [hRb];intro u hu;obtain ⟨d,_,hd⟩:=List.mem_flatMap.1 hu;exact zdS d u hd
  have oc:∀ u ∈ Rc,u.oneCell'=true:=by rw [hRc];exact zdS c
  have hcl:cur.toList.length=cap*2:=(Array.length_toList (xs:=cur)).trans HSZ.out
  have ga:∀ j u,Ra[j]?=some u->cur[j]?=some u:=fun j u hj=>by
   have h:=(List.getElem?_eq_some_iff.1 hj).1
   have h2:=congrArg (fun l=>l[j]?) hab
   simp only [List.getElem?_take,List.getElem?_append_left h] at h2
   rw [if_pos (by omega),Array.getElem?_toList] at h2
   rw [h2]
   exact hj
  have gb:∀ j u,Rb[j]?=some u->cur[i*2+j]?=some u:=fun j u hj=>by
   have h:=(List.getElem?_eq_some_iff.1 hj).1
   have h2:=congrArg (fun l=>l[i*2+j]?) hab
   simp only [List.getElem?_take] at h2
   rw [if_pos (by omega),List.getElem?_append_right (by omega),la,Nat.add_sub_cancel_left,Array.getElem?_toList] at h2
   rw [h2]
   exact hj
  have gc:∀ (W:World),W.heap[gx]?=some (.cells #[.string c.key,.string c.val] 61 (0,0))->∀ j u,Rc[j]?=some u->W.cell? ((⟨gx,0,none⟩ : Addr).add j)=some u:=fun W hW j u hj=>by
   rw [Addr.add_lit,zd hW,Nat.zero_add]
   rw [hRc] at hj
   simpa [CellD.row] using hj
  have HRa:=Hd hRa
  clear hRa hRb hRc
  by_cases hroom:cap=ds.length
  case pos =>
   have hrm2:¬ ds.length<cap:=by omega
   subst hroom
   obtain ⟨G,L,hG1,hG2,hL1,hL2,hrz0⟩:=zis (P:=Tryz.prog) (w:=w) (tn:=3) zB Tryz.underlying3 (some ⟨g,0,none⟩) i ds.length Ra la (fun h=>by cases h) (fun ad had j u hj=>by
    cases had
    rw [Addr.add_lit,zd HH.out,Nat.zero_add]
    exact ga j u hj) (ds.length+1 - i) (by omega) (by omega) (by omega) (by omega) (by omega)
   have hrz:∀ ty,(Builtin.append_ #[24,3] ty #[.slice (some ⟨g,0,none⟩) i ds.length,.int .i64 ((ds.length:Int)+1 - (i:Int))]).run Tryz.prog w=.ok (.slice (some ⟨w.heap.size,0,none⟩) (ds.length+1) G) (w.alloc (.cells L.toArray 61)).drew:=fun ty=>by
    have h:=hrz0 ty
    rw [show i+(ds.length+1 - i)=ds.length+1 by omega] at h
    rw [show (ds.length:Int)+1 - (i:Int)=((ds.length+1 - i:Nat):Int) by omega]
    exact h
   have hmn1:Nat.min 1 (ds.length+1 - i)=1:=Nat.min_eq_left (by omega)
   have hmn2:Nat.min (ds.length - i) (ds.length - i)=ds.length - i:=Nat.min_self _
   have hcp1:∀ ty dc,(Builtin.copy_ #[24,24] ty #[.slice (some ⟨w.heap.size,i*2,none⟩) (ds.length+1 - i) dc,.slice (some ⟨gx,0,none⟩) 1 1]).run Tryz.prog (w.alloc (.cells L.toArray 61)).drew=.ok (goInt 1) (w.alloc (.cells (splice L (i*2) Rc).toArray 61)).drew:=fun ty dc=>by
    have h:=zbx (P:=Tryz.prog) (w:=(w.alloc (.cells L.toArray 61)).drew) zB ty w.heap.size (i*2) (ds.length+1 - i) dc ⟨gx,0,none⟩ 1 1 L 61 (alloc_new w _ _ rfl) Rc (by rw [lc,hmn1]) (gc _ ((zen w _ hgl).trans HGX.out)) (by rw [lc];omega) oc
    rw [hmn1,zad,zaK w w.heap.size _ _ rfl] at h
    exact h
   have hcp2:∀ ty dc sc,(Builtin.copy_ #[24,24] ty #[.slice (some ⟨w.heap.size,(i+1)*2,none⟩) (ds.length - i) dc,.slice (some ⟨g,i*2,none⟩) (ds.length - i) sc]).run Tryz.prog (w.alloc (.cells (splice L (i*2) Rc).toArray 61)).drew.drew=.ok (goInt ((ds.length - i:Nat):Int)) (w.alloc (.cells (splice (splice L (i*2) Rc) ((i+1)*2) Rb).toArray 61)).drew.drew:=fun ty dc sc=>by
    have h:=zbx (P:=Tryz.prog) (w:=(w.alloc (.cells (splice L (i*2) Rc).toArray 61)).drew.drew) zB ty w.heap.size ((i+1)*2) (ds.length - i) dc ⟨g,i*2,none⟩ (ds.length - i) sc (splice L (i*2) Rc) 61 (alloc_new w _ _ rfl) Rb (by rw [lb,hmn2]) (fun j u hj=>by
     rw [Addr.add_lit]
     have h2:=zd (w:=(w.alloc (.cells (splice L (i*2) Rc).toArray 61)).drew.drew) (i:=i*2+j) (show _ from (zen w _ hgb).trans HH.out)
     rw [h2]
     exact gb j u hj) (by rw [length_splice _ _ _ (by rw [lc];omega),lb];omega) ob
    rw [hmn2,zad,zad,zaK w w.heap.size _ _ rfl] at h
    exact h
   obtain ⟨L1,hE1⟩ : ∃ L1,L1=splice L (i*2) Rc:=⟨_,rfl⟩
   obtain ⟨L2,hE2⟩ : ∃ L2,L2=splice L1 ((i+1)*2) Rb:=⟨_,rfl⟩
   rw [<- hE1] at hcp1 hcp2
   rw [<- hE2] at hcp2
   have HFIN:Hid (L2.length=G*2/\L2.take ((ds.length+1)*2)=Ra++(Rc++Rb)):=by
    have e1:(i+1)*2=i*2+Rc.length:=by rw [lc];omega
    refine ⟨?_,?_⟩
    ·rw [hE2,length_splice _ _ _ (by rw [hE1,length_splice _ _ _ (by rw [lc];omega),lb];omega),hE1,length_splice _ _ _ (by rw [lc];omega),hL1]
    ·have h:=zfA L (i*2) Rc Rb (by rw [lb,lc];omega)
     rw [<- e1,<- hE1,<- hE2,hL2] at h
     rw [<- h]
     congr 1
     rw [lb];omega
   have HRZ:=Hd hrz
   have HC1:=Hd hcp1
   have HC2:=Hd hcp2
   clear hrz0 hrz hcp1 hcp2 hE1 hE2 hL1 hL2
   rw [show i+(ds.length+1 - i)=ds.length+1 by omega] at hG1
   have hGi:¬ G=i:=by omega
   have hGi1:¬ G=i+1:=by omega
   have htn:((i:Int)+1).toNat=i+1:=by omega
   have hb1:(0:Int)<=(i:Int)+1:=by omega
   have hb3:(i:Int)+1<=(ds.length:Int)+1:=by omega
   unfold maxLen at hG2
   go_enter Tryz.func162,Tryz.ntmps162
   go_wp2_with (at_builtin;refine zy ?_)
   refine zfu rfl _ _ _ _ rfl rfl rfl (HRZ.out _) ?_
   have hcp1:=HC1.out
   go_wp2
   clear hcp1
   refine zab [(0,true),(1,true),(2,true),(3,true),(4,true),(5,true),(6,true),(7,true),(8,false)] 8 (by kernel_rfl) (by kernel_rfl) ?_
   repeat (refine zj rfl (fun K hK=>?_);go_simp;(try simp (disch:=omega) only [IntWalk.i64_in]);refine hK _ ?_;clear hK K)
   refine zq rfl rfl (fun K hK=>?_)
   rw [if_pos (by rfl)]
   refine zfh (.tmp 50) (.tmp 53) 24 rfl (v:=.slice (some ⟨w.heap.size,(i+1)*2,none⟩) (ds.length - i) (G - (i+1))) (u:=.slice (some ⟨g,i*2,none⟩) (ds.length - i) (ds.length - i)) (by rfl) (by rfl) (HC2.out _ _ _) ?_
   refine hK _ _ ?_
   clear hK K
   refine zR ?_
   go_wp2
   go_ret
   exact ⟨_,rfl,zhX (alloc_new w _ _ rfl) hB (by simp;omega) hG1 (by unfold maxLen;omega) (by simpa using HFIN.out.1) (by rw [HR.out];simpa using HFIN.out.2),Upon.below (by repeat (first|with_reducible exact Below.refl _ _|with_reducible apply Below.ofAlloc|with_reducible apply Below.drew)),.inr rfl⟩
  case neg =>
   have hrm:ds.length<cap:=by omega
   have hrm2:ds.length+1<=cap:=by omega
   have hta:cur.toList.take (i*2)=Ra:=by
    have h2:=congrArg (List.take (i*2)) hab
    rw [List.take_take,Nat.min_eq_left (by omega),List.take_left' la] at h2
    exact h2
   have hov:∀ lb cb,(callFunc 184 #[.slice (some ⟨gx,0,none⟩) 1 1,.slice (some ⟨g,(i+1)*2,none⟩) lb cb]).run Tryz.prog w=.ok (.value (.bool false)) w:=fun lb cb=>by
    obtain ⟨i0,z0,hi0,hz0,hs0,_,_⟩:=(zB).hi
    rw [run_callFunc_extern Tryz.func184 (by kernel_rfl) (by kernel_rfl) (by kernel_rfl) (e:=Extern.SlicesOverlaps.overlaps #[24,24] #[4]) (by kernel_rfl),
     Lib.run_overlaps_apart w 24 4 61 Tryz.underlying24 2 (fun w=>by simp [sizeOf,typeInfo,hi0,hs0]) ⟨gx,0,none⟩ ⟨g,(i+1)*2,none⟩ 1 1 lb cb hne 61 61 2 (cap*2) (by simp [World.shape?,HGX.out]) (by simp [World.shape?,HH.out,HSZ.out]) (by omega) (by simp [World.frozen?,HGX.out]) (by simp [World.frozen?,HGX.out])]
    rfl
   have hmn1:Nat.min (ds.length+1 - i) (ds.length - i)=ds.length - i:=Nat.min_eq_right (by omega)
   have hmn2:Nat.min 1 (ds.length+1 - i)=1:=Nat.min_eq_left (by omega)
   have hcp1:∀ ty dc sc,(Builtin.copy_ #[24,24] ty #[.slice (some ⟨g,(i+1)*2,none⟩) (ds.length - i) dc,.slice (some ⟨g,i*2,none⟩) (ds.length+1 - i) sc]).run Tryz.prog w.drew=.ok (goInt ((ds.length - i:Nat):Int)) (w.setB g (.cells (splice cur.toList ((i+1)*2) Rb).toArray 61)).drew:=fun ty dc sc=>by
    have h:=zbx (P:=Tryz.prog) (w:=w.drew) zB ty g ((i+1)*2) (ds.length - i) dc ⟨g,i*2,none⟩ (ds.length+1 - i) sc cur.toList 61 (by rw [Array.toArray_toList];exact HH.out) Rb (by rw [lb,hmn1]) (fun j u hj=>by
     rw [Addr.add_lit,zd (w:=w.drew) HH.out]
     exact gb j u hj) (by rw [lb,hcl];omega) ob
    rw [hmn1,zad] at h
    exact h
   have hcp2:∀ ty dc,(Builtin.copy_ #[24,24] ty #[.slice (some ⟨g,i*2,none⟩) (ds.length+1 - i) dc,.slice (some ⟨gx,0,none⟩) 1 1]).run Tryz.prog (w.setB g (.cells (splice cur.toList ((i+1)*2) Rb).toArray 61)).drew=.ok (goInt 1) (w.setB g (.cells (splice (splice cur.toList ((i+1)*2) Rb) (i*2) Rc).toArray 61)).drew:=fun ty dc=>by
    have h:=zbx (P:=Tryz.prog) (w:=(w.setB g (.cells (splice cur.toList ((i+1)*2) Rb).toArray 61)).drew) zB ty g (i*2) (ds.length+1 - i) dc ⟨gx,0,none⟩ 1 1 (splice cur.toList ((i+1)*2) Rb) 61 (World.setB_at _ _ _ hgb) Rc (by rw [lc,hmn2]) (gc _ ((World.setB_get _ _ _ _ hne).trans HGX.out)) (by rw [length_splice _ _ _ (by rw [lb,hcl];omega),lc,hcl];omega) oc
    rw [hmn2,zad,zaT] at h
    exact h
   obtain ⟨L1,hE1⟩ : ∃ L1,L1=splice cur.toList ((i+1)*2) Rb:=⟨_,rfl⟩
   obtain ⟨L2,hE2⟩ : ∃ L2,L2=splice L1 (i*2) Rc:=⟨_,rfl⟩
   rw [<- hE1] at hcp1 hcp2
   rw [<- hE2] at hcp2
   have HFIN:Hid (L2.length=cap*2/\L2.take ((ds.length+1)*2)=Ra++(Rc++Rb)):=by
    have e1:(i+1)*2=i*2+Rc.length:=by rw [lc];omega
    refine ⟨?_,?_⟩
    ·rw [hE2,length_splice _ _ _ (by rw [hE1,length_splice _ _ _ (by rw [lb,hcl];omega),lc,hcl];omega),hE1,length_splice _ _ _ (by rw [lb,hcl];omega),hcl]
    ·have h:=zeU cur.toList (i*2) Rc Rb (by rw [lb,lc,hcl];omega)
     rw [<- e1,<- hE1,<- hE2,hta] at h
     rw [<- h]
     congr 1
     rw [lb];omega
   have HC1:=Hd hcp1
   have HC2:=Hd hcp2
   clear hcp1 hcp2 hE1 hE2 hta hab ga gb gc
   have hci1:¬ cap=i+1:=by omega
   have htn:((i:Int)+1).toNat=i+1:=by omega
   have htn2:((ds.length:Int)+1).toNat=ds.length+1:=by omega
   have hb1:(0:Int)<=(i:Int)+1:=by omega
   have hb2:(0:Int)<=(ds.length:Int)+1:=by omega
   have hb3:(i:Int)+1<=(ds.length:Int)+1:=by omega
   have hb4:(ds.length:Int)+1<=(cap:Int):=by omega
   have hb5:(i:Int)<=(ds.length:Int)+1:=by omega
   go_enter Tryz.func162,Tryz.ntmps162
   go_wp2_with (simp only [hov])
   clear hov
   refine zab [(0,true),(1,true),(2,true),(3,true),(4,true),(5,true),(6,true),(7,true),(8,false)] 8 (by kernel_rfl) (by kernel_rfl) ?_
   repeat (refine zj rfl (fun K hK=>?_);go_simp;(try simp (disch:=omega) only [IntWalk.i64_in]);refine hK _ ?_;clear hK K)
   refine zq rfl rfl (fun K hK=>?_)
   rw [if_pos (by rfl)]
   refine zfh (.tmp 73) (.tmp 76) 24 rfl (v:=.slice (some ⟨g,(i+1)*2,none⟩) (ds.length - i) (cap - (i+1))) (u:=.slice (some ⟨g,i*2,none⟩) (ds.length+1 - i) (cap - i)) (by rfl) (by rfl) (HC1.out _ _ _) ?_
   refine hK _ _ ?_
   clear hK K
   refine zR ?_
   have hcp2:=HC2.out
   go_wp2
   clear hcp2
   go_ret
   exact ⟨_,rfl,zhX (World.setB_at _ _ _ hgb) hg (by simp;omega) hrm2 (by unfold maxLen;omega) (by simpa using HFIN.out.1) (by rw [HR.out];simpa using HFIN.out.2),(show Upon [g] w (w.setB g (.cells L2.toArray 61)) from Upon.setB _ _ (by simp)).trans (Upon.below (by repeat (first|with_reducible exact Below.refl _ _|with_reducible apply Below.drew))),.inl rfl⟩
theorem insC_at (key val:ByteArray) (ys:List CellD) (n:Nat) (hn:n<ys.length) (h:(ys.take n).any (zW key)=false) (h2:zW key ys[n]=true):zff key val ys=ys.take n++CellD.mk key val :: ys.drop n:=by
 unfold zff
 have e:ys=ys.take n++ys[n] :: ys.drop (n+1):=by rw [<- List.drop_eq_getElem_cons hn,List.take_append_drop]
 have ha:∀ x ∈ ys.take n,(!zW key x)=true:=fun x hx=>by
  rw [List.any_eq_false] at h
  simpa using h x hx
 have e1:(ys.takeWhile fun c=>!zW key c)=ys.take n:=by
  conv=>lhs;rw [e]
  rw [List.takeWhile_append_of_pos ha,List.takeWhile_cons,h2,Bool.not_true,if_neg (by decide),List.append_nil]
 have e2:(ys.dropWhile fun c=>!zW key c)=ys.drop n:=by
  conv=>lhs;rw [e]
  rw [List.dropWhile_append_of_pos ha,List.dropWhile_cons,h2,Bool.not_true,if_neg (by decide)]
  exact (List.drop_eq_getElem_cons hn).symm
 rw [e1,e2]
theorem zkL (v:Value) (ds:List CellD) (key val:ByteArray) (B:Nat) (w:World) (ho:OwnL zu 61 w B v ds) (hks:key.size<=9223372036854775807) (hl:ds.length<=549755813888) (hB:B<=w.heap.size) :
  Calls Tryz.prog 115 #[v,.string key,.string val] w fun e w'=>∃ v',e=.returned v'/\OwnL zu 61 w' B v' (zbG key val ds)/\Upon v.ownBlock.toList w w'/\(∀ k,v'.ownBlock=some k->v.ownBlock=some k ∨ w.heap.size<=k):=by
 obtain ⟨ao,cap,rfl⟩:=ho.rd.form
 have HO:=Hd ho
 have HSB:=Hd hB
 have hnb:(Value.slice ao ds.length cap).ownBlock ≠ some w.heap.size:=fun e=>absurd (ho.lt _ e).2 (Nat.lt_irrefl _)
 clear ho hB
 have hwl:=zdy key ds
 cases hk0:zbH key with
 | false =>
  have HK0:=Hd hk0
  have HF:Hid (zbG key val ds=ds):=by show _ = _;unfold zbG;rw [if_pos (.inl hk0)]
  clear hk0
  go_enter Tryz.func115,Tryz.ntmps115
  go_wp2_with fail
  (go_at_call 157;refine (zcs key _ hks).mono ?_;rintro e w' ⟨rfl,rfl⟩)
  rw [HK0.out]
  go_wp2
  go_ret
  exact ⟨_,rfl,by rw [HF.out];exact HO.out.alloc _,Upon.below (by repeat (first|with_reducible exact Below.refl _ _|with_reducible apply Below.ofExt|with_reducible apply Below.ofAlloc|with_reducible apply Below.drew|with_reducible apply Below.ofDrewN|with_reducible assumption|(with_reducible refine Below.setCell ?_ (by first|exact Nat.le_refl _|(simp [go_sem];done)|(simp [go_sem];omega)) _))),fun k h=>.inl h⟩
 | true =>
  have HK0:=Hd hk0
  clear hk0
  by_cases hv60:(60:Int)<val.size
  case pos =>
   have HF:Hid (zbG key val ds=ds):=by show _ = _;unfold zbG;rw [if_pos (.inr (by omega))]
   go_enter Tryz.func115,Tryz.ntmps115
   go_wp2_with fail
   (go_at_call 157;refine (zcs key _ hks).mono ?_;rintro e w' ⟨rfl,rfl⟩)
   rw [HK0.out]
   go_wp2
   go_ret
   exact ⟨_,rfl,by rw [HF.out];exact HO.out.alloc _,Upon.below (by repeat (first|with_reducible exact Below.refl _ _|with_reducible apply Below.ofAlloc)),fun k h=>.inl h⟩
  case neg =>
   by_cases hv:val.size=0
   case pos =>
    obtain rfl:val=⟨#[]⟩:=by
     obtain ⟨⟨l⟩⟩:=val
     have:l = []:=List.eq_nil_of_length_eq_zero hv
     subst this
     rfl
    have HF:Hid (zbG key ⟨#[]⟩ ds=zA key ds):=by show _ = _;unfold zbG;rw [if_neg (fun h=>h.elim (fun h=>by rw [HK0.out] at h;cases h) (fun h=>absurd h (by decide))),if_pos hv]
    go_enter Tryz.func115,Tryz.ntmps115
    go_wp2_with fail
    (go_at_call 157;refine (zcs key _ hks).mono ?_;rintro e w' ⟨rfl,rfl⟩)
    rw [HK0.out]
    go_wp2_with fail
    (go_at_call 158;refine (zbC _ ds key w.heap.size B (w.alloc (.cells #[.string key] 9)) (HO.out.alloc _) (by simp) hnb (by simp [go_sem])).mono ?_;rintro e w1 ⟨v1,rfl,ho1,hob1,hu1⟩)
    obtain ⟨ao1,ac1,e1⟩:=ho1.rd.form
    have hlt1:w.heap.size<w1.heap.size:=Nat.lt_of_lt_of_le (by simp) hu1.size
    have hc1:w1.cell? ⟨w.heap.size,0,none⟩=some (.string key):=by
     have hq:w1.heap[w.heap.size]?=some (.cells #[.string key] 9):=(hu1.block _ (by simp) (fun h=>hnb (by simpa using h))).trans (alloc_new w _ _ rfl)
     exact (zd hq).trans rfl
    have HO1:=Hd ho1
    have HU1:=Hd (Upon.trans (Upon.below ((Below.refl w.heap.size w).ofAlloc (.cells #[.string key] 9))) hu1)
    have HOB:=Hd hob1
    clear ho1 hu1 hob1
    subst e1
    go_wp2
    go_ret
    exact ⟨_,rfl,by rw [HF.out];exact HO1.out,HU1.out,fun k h=>.inl (HOB.out ▸ h)⟩
   case neg =>
    have hve:(val.toList == [])=false:=by
     obtain ⟨⟨l⟩⟩:=val
     cases l with
     | nil=>exact absurd rfl hv
     | cons a l=>exact beq_false_of_ne (by rw [show (ByteArray.mk ⟨a :: l⟩).toList = _ from ByteArray.toList_eq _];exact List.cons_ne_nil _ _)
    have hp:zbG key val ds=zff key val (zA key ds):=by unfold zbG;rw [if_neg (fun h=>h.elim (fun h=>by rw [HK0.out] at h;cases h) (fun h=>absurd h (by omega))),if_neg hv]
    cases hany:(zA key ds).any (zW key) with
    | false =>
     have HI:Hid (zam (zW key) (zA key ds) = -1):=zax _ _ hany
     have HF:Hid (zbG key val ds=(zA key ds).take (zA key ds).length++CellD.mk key val :: (zA key ds).drop (zA key ds).length):=by show _ = _;rw [hp,zid hany,List.take_length,List.drop_length]
     clear hany hp
     go_enter Tryz.func115,Tryz.ntmps115
     go_wp2_with fail
     (go_at_call 157;refine (zcs key _ hks).mono ?_;rintro e w' ⟨rfl,rfl⟩)
     rw [HK0.out]
     go_wp2_with fail
     (go_at_call 158;refine (zbC _ ds key w.heap.size B (w.alloc (.cells #[.string key] 9)) (HO.out.alloc _) (by simp) hnb (by simp [go_sem])).mono ?_;rintro e w1 ⟨v1,rfl,ho1,hob1,hu1⟩)
     obtain ⟨ao1,ac1,e1⟩:=ho1.rd.form
     have hlt1:w.heap.size<w1.heap.size:=Nat.lt_of_lt_of_le (by simp) hu1.size
     have hc1:w1.cell? ⟨w.heap.size,0,none⟩=some (.string key):=by
      have hq:w1.heap[w.heap.size]?=some (.cells #[.string key] 9):=(hu1.block _ (by simp) (fun h=>hnb (by simpa using h))).trans (alloc_new w _ _ rfl)
      exact (zd hq).trans rfl
     have HO1:=Hd ho1
     have HU1:=Hd (Upon.trans (Upon.below ((Below.refl w.heap.size w).ofAlloc (.cells #[.string key] 9))) hu1)
     have HOB:=Hd hob1
     clear ho1 hu1 hob1
     subst e1
     go_wp2_with fail
     (go_at_call 160;refine (zcK _ (zA key ds) key w.heap.size _ HO1.out.rd hlt1 hc1).mono ?_;rintro e w' ⟨rfl,hb⟩;obtain ⟨X,rfl⟩:=hb.ext;clear hb)
     rw [HI.out]
     go_wp2_with fail
     (go_at_call 162;refine (zeg _ (zA key ds) (zA key ds).length (CellD.mk key val) _ B _ (by repeat (first|exact OwnL.ext HO1.out _|apply OwnL.alloc)) (by omega) (alloc_new _ _ _ (by simp [zl])) (fun e=>by rw [HOB.out] at e;have:=(HO.out.lt _ e).2;omega) (by omega) (by simp [zl];have:=HSB.out;omega)).mono ?_;rintro e w2 ⟨v2,rfl,ho2,hu2,hw2⟩)
     have HO2:=Hd ho2
     have HW2:Hid (∀ k,v2.ownBlock=some k->(Value.slice ao ds.length cap).ownBlock=some k ∨ w.heap.size<=k):=fun k h=>by
      rcases hw2 with h2|h2
      ·left;rw [<- h,h2];exact HOB.out.symm
      ·right
       rw [h] at h2
       have h3:=Option.some.inj h2
       (try simp [zl] at h3)
       omega
     clear hw2
     rw [HOB.out] at hu2
     have hut:Upon (Value.slice ao ds.length cap).ownBlock.toList w w2:=by
      refine Upon.trans (Upon.trans HU1.out (Upon.below ?_)) hu2
      exact (by repeat (first|with_reducible exact Below.refl _ _|with_reducible apply Below.ofExt|with_reducible apply Below.ofAlloc))
     have HU2:=Hd hut
     clear ho2 hu2 hut
     go_wp2
     go_ret
     exact ⟨_,rfl,by rw [HF.out];exact HO2.out,HU2.out,HW2.out⟩
    | true =>
     obtain ⟨n,hn,hbef,hat⟩:=zem _ _ hany
     have HI:Hid (zam (zW key) (zA key ds)=n):=zat _ _ n hn hbef hat
     have HF:Hid (zbG key val ds=(zA key ds).take n++CellD.mk key val :: (zA key ds).drop n):=by show _ = _;rw [hp,insC_at key val _ n hn hbef hat]
     clear hany hp hbef hat
     go_enter Tryz.func115,Tryz.ntmps115
     go_wp2_with fail
     (go_at_call 157;refine (zcs key _ hks).mono ?_;rintro e w' ⟨rfl,rfl⟩)
     rw [HK0.out]
     go_wp2_with fail
     (go_at_call 158;refine (zbC _ ds key w.heap.size B (w.alloc (.cells #[.string key] 9)) (HO.out.alloc _) (by simp) hnb (by simp [go_sem])).mono ?_;rintro e w1 ⟨v1,rfl,ho1,hob1,hu1⟩)
     obtain ⟨ao1,ac1,e1⟩:=ho1.rd.form
     have hlt1:w.heap.size<w1.heap.size:=Nat.lt_of_lt_of_le (by simp) hu1.size
     have hc1:w1.cell? ⟨w.heap.size,0,none⟩=some (.string key):=by
      have hq:w1.heap[w.heap.size]?=some (.cells #[.string key] 9):=(hu1.block _ (by simp) (fun h=>hnb (by simpa using h))).trans (alloc_new w _ _ rfl)
      exact (zd hq).trans rfl
     have HO1:=Hd ho1
     have HU1:=Hd (Upon.trans (Upon.below ((Below.refl w.heap.size w).ofAlloc (.cells #[.string key] 9))) hu1)
     have HOB:=Hd hob1
     clear ho1 hu1 hob1
     subst e1
     go_wp2_with fail
     (go_at_call 160;refine (zcK _ (zA key ds) key w.heap.size _ HO1.out.rd hlt1 hc1).mono ?_;rintro e w' ⟨rfl,hb⟩;obtain ⟨X,rfl⟩:=hb.ext;clear hb)
     rw [HI.out]
     go_wp2_with fail
     (go_at_call 162;refine (zeg _ (zA key ds) n (CellD.mk key val) _ B _ (by repeat (first|exact OwnL.ext HO1.out _|apply OwnL.alloc)) (by omega) (alloc_new _ _ _ (by simp [zl])) (fun e=>by rw [HOB.out] at e;have:=(HO.out.lt _ e).2;omega) (by omega) (by simp [zl];have:=HSB.out;omega)).mono ?_;rintro e w2 ⟨v2,rfl,ho2,hu2,hw2⟩)
     have HO2:=Hd ho2
     have HW2:Hid (∀ k,v2.ownBlock=some k->(Value.slice ao ds.length cap).ownBlock=some k ∨ w.heap.size<=k):=fun k h=>by
      rcases hw2 with h2|h2
      ·left;rw [<- h,h2];exact HOB.out.symm
      ·right
       rw [h] at h2
       have h3:=Option.some.inj h2
       (try simp [zl] at h3)
       omega
     clear hw2
     rw [HOB.out] at hu2
     have hut:Upon (Value.slice ao ds.length cap).ownBlock.toList w w2:=by
      refine Upon.trans (Upon.trans HU1.out (Upon.below ?_)) hu2
      exact (by repeat (first|with_reducible exact Below.refl _ _|with_reducible apply Below.ofExt|with_reducible apply Below.ofAlloc))
     have HU2:=Hd hut
     clear ho2 hu2 hut
     go_wp2
     go_ret
     exact ⟨_,rfl,by rw [HF.out];exact HO2.out,HU2.out,HW2.out⟩
theorem one_rdlS (w:World) (c:ByteArray) (gx:Nat) (hx:w.heap[gx]?=some (.cells #[.string c] 9 (0,0))):RdL zv w (.slice (some ⟨gx,0,none⟩) 1 1) [c]:=by
 refine .inr ⟨gx,0,1,rfl,Nat.le_refl _,by unfold maxLen;omega,fun j u hj=>?_⟩
 rw [zd hx,Nat.zero_add]
 simpa [zv] using hj
theorem zhS (xs:List ByteArray):(xs.flatMap zv.row).length=xs.length:=by
 have:=zv.flat_len xs
 simpa [zv] using this
theorem zjg {w:World} {B g n cap:Nat} {ds:List ByteArray} {cur:Array Value} (hh:w.heap[g]?=some (.cells cur 9 (0,0))) (hg:B<=g) (hl:n=ds.length) (hn:n<=cap) (hm:cap<=maxLen) (hs:cur.size=cap) (ht:cur.toList.take (n)=ds.flatMap zv.row):OwnL zv 9 w B (.slice (some ⟨g,0,none⟩) n cap) ds:=by
 subst hl
 exact ⟨zv.flat_len _,.inr ⟨g,cap,cur,rfl,hg,hh,hn,hm,by rw [hs];exact (Nat.mul_one cap).symm,by rw [show ds.length*zv.k=ds.length from Nat.mul_one _];exact ht⟩⟩
theorem zhK (v:Value) (ds:List ByteArray) (i:Nat) (c:ByteArray) (gx B:Nat) (w:World) (ho:OwnL zv 9 w B v ds) (hi:i<=ds.length) (hx:w.heap[gx]?=some (.cells #[.string c] 9 (0,0))) (hgx:v.ownBlock ≠ some gx) (hl:ds.length<=549755813888) (hB:B<=w.heap.size) :
  Calls Tryz.prog 156 #[v,.int .i64 i,.slice (some ⟨gx,0,none⟩) 1 1] w fun e w'=>∃ v',e=.returned v'/\OwnL zv 9 w' B v' (ds.take i++c :: ds.drop i)/\Upon v.ownBlock.toList w w'/\(v'.ownBlock=v.ownBlock ∨ v'.ownBlock=some w.heap.size):=by
 have HX:=Hd (one_rdlS w c gx hx)
 have HGX:=Hd hx
 have HOWN:=Hd ho
 have hgl:=za hx
 rcases ho.2 with ⟨rfl,h0⟩|⟨g,cap,cur,rfl,hg,hh,hn,hm,hsz,ht⟩
 ·have:ds = []:=List.eq_nil_of_length_eq_zero h0
  subst this
  obtain rfl:i=0:=by simpa using hi
  have HF:Hid (([]:List ByteArray).take 0++c :: ([]:List ByteArray).drop 0 = [] ++ [c]):=rfl
  clear ho hx
  go_enter Tryz.func156,Tryz.ntmps156
  go_wp2_with (at_builtin;refine zy ?_)
  refine zaA rfl _ _ _ rfl zz (B:=B) (R:=zv) (xs:=[]) HOWN.out rfl (ys:=[c]) HX.out rfl (by simp only [List.length_singleton];omega) (by simp only [List.length_singleton];unfold maxLen;omega) hB ?_
  intro v4 w4 hown4 hgr4 hwh4
  have HO4:=Hd hown4
  have HU4:=Hd (za7 hgr4)
  have HWH:=Hd hwh4
  clear hown4 hgr4 hwh4
  go_wp2
  go_ret
  exact ⟨_,rfl,by exact HO4.out,HU4.out,HWH.out⟩
 have HH:=Hd hh
 have HT:Hid (cur.toList.take (ds.length)=ds.flatMap zv.row):=by have h:=ht;rw [show ds.length*zv.k=ds.length from Nat.mul_one _] at h;exact h
 have HSZ:Hid (cur.size=cap):=hsz.trans (Nat.mul_one cap)
 have hgb:=za hh
 have hne:gx ≠ g:=fun e=>hgx (by rw [e];rfl)
 clear ho hx hh ht hsz hgx
 unfold maxLen at hm
 by_cases hin:i=ds.length
 case pos =>
  have HF:Hid (ds.take i++c :: ds.drop i=ds ++ [c]):=by show _ = _;rw [hin,List.take_length,List.drop_length]
  subst hin
  by_cases hcap:cap=ds.length
  case pos =>
   have hcap2:¬ ds.length<cap:=by omega
   go_enter Tryz.func156,Tryz.ntmps156
   go_wp2_with (at_builtin;refine zy ?_)
   refine zaA rfl _ _ _ rfl zz (B:=B) (R:=zv) (xs:=ds) HOWN.out rfl (ys:=[c]) HX.out rfl (by simp only [List.length_singleton];omega) (by simp only [List.length_singleton];unfold maxLen;omega) hB ?_
   intro v4 w4 hown4 hgr4 hwh4
   have HO4:=Hd hown4
   have HU4:=Hd (za7 hgr4)
   have HWH:=Hd hwh4
   clear hown4 hgr4 hwh4
   go_wp2
   go_ret
   exact ⟨_,rfl,by (rw [HF.out];exact HO4.out),HU4.out,HWH.out⟩
  case neg =>
   go_enter Tryz.func156,Tryz.ntmps156
   go_wp2_with (at_builtin;refine zy ?_)
   refine zaA rfl _ _ _ rfl zz (B:=B) (R:=zv) (xs:=ds) HOWN.out rfl (ys:=[c]) HX.out rfl (by simp only [List.length_singleton];omega) (by simp only [List.length_singleton];unfold maxLen;omega) hB ?_
   intro v4 w4 hown4 hgr4 hwh4
   have HO4:=Hd hown4
   have HU4:=Hd (za7 hgr4)
   have HWH:=Hd hwh4
   clear hown4 hgr4 hwh4
   go_wp2
   go_ret
   exact ⟨_,rfl,by (rw [HF.out];exact HO4.out),HU4.out,HWH.out⟩
 case neg =>
  have hlt:i<ds.length:=by omega
  have hz2:¬ ((i:Int)=(ds.length:Int)):=by omega
  have hc1:¬ cap=i:=by omega
  obtain ⟨Ra,hRa⟩ : ∃ R,R=(ds.take i).flatMap zv.row:=⟨_,rfl⟩
  obtain ⟨Rb,hRb⟩ : ∃ R,R=(ds.drop i).flatMap zv.row:=⟨_,rfl⟩
  obtain ⟨Rc,hRc⟩ : ∃ R,R=zv.row c:=⟨_,rfl⟩
  have la:Ra.length=i:=by rw [hRa,zhS,List.length_take,Nat.min_eq_left hi]
  have lb:Rb.length=(ds.length - i):=by rw [hRb,zhS,List.length_drop]
  have lc:Rc.length=1:=by rw [hRc];rfl
  have hab:cur.toList.take (ds.length)=Ra++Rb:=by rw [HT.out,hRa,hRb,<- List.flatMap_append,List.take_append_drop]
  have HR:Hid ((ds.take i++c :: ds.drop i).flatMap zv.row=Ra++(Rc++Rb)):=by show _ = _;rw [List.flatMap_append,List.flatMap_cons,hRa,hRb,hRc]
  have oa:∀ u ∈ Ra,u.oneCell'=true:=by rw [hRa];intro u hu;obtain ⟨d,_,hd⟩:=List.mem_flatMap.1 hu;exact zv.one d u hd
  have ob:∀ u ∈ Rb,u.oneCell'=true:=by rw [hRb];intro u hu;obtain ⟨d,_,hd⟩:=List.mem_flatMap.1 hu;exact zv.one d u hd
  have oc:∀ u ∈ Rc,u.oneCell'=true:=by rw [hRc];exact zv.one c
  have hcl:cur.toList.length=cap:=(Array.length_toList (xs:=cur)).trans HSZ.out
  have ga:∀ j u,Ra[j]?=some u->cur[j]?=some u:=fun j u hj=>by
   have h:=(List.getElem?_eq_some_iff.1 hj).1
   have h2:=congrArg (fun l=>l[j]?) hab
   simp only [List.getElem?_take,List.getElem?_append_left h] at h2
   rw [if_pos (by omega),Array.getElem?_toList] at h2
   rw [h2]
   exact hj
  have gb:∀ j u,Rb[j]?=some u->cur[i+j]?=some u:=fun j u hj=>by
   have h:=(List.getElem?_eq_some_iff.1 hj).1
   have h2:=congrArg (fun l=>l[i+j]?) hab
   simp only [List.getElem?_take] at h2
   rw [if_pos (by omega),List.getElem?_append_right (by omega),la,Nat.add_sub_cancel_left,Array.getElem?_toList] at h2
   rw [h2]
   exact hj
  have gc:∀ (W:World),W.heap[gx]?=some (.cells #[.string c] 9 (0,0))->∀ j u,Rc[j]?=some u->W.cell? ((⟨gx,0,none⟩ : Addr).add j)=some u:=fun W hW j u hj=>by
   rw [Addr.add_lit,zd hW,Nat.zero_add]
   rw [hRc] at hj
   simpa [zv] using hj
  have HRa:=Hd hRa
  clear hRa hRb hRc
  by_cases hroom:cap=ds.length
  case pos =>
   have hrm2:¬ ds.length<cap:=by omega
   subst hroom
   obtain ⟨G,L,hG1,hG2,hL1,hL2,hrz0⟩:=zis (P:=Tryz.prog) (w:=w) (tn:=3) zz Tryz.underlying3 (some ⟨g,0,none⟩) i ds.length Ra (by rw [la,Nat.mul_one]) (fun h=>by cases h) (fun ad had j u hj=>by
    cases had
    rw [Addr.add_lit,zd HH.out,Nat.zero_add]
    exact ga j u hj) (ds.length+1 - i) (by omega) (by omega) (by omega) (by omega) (by omega)
   rw [Nat.mul_one] at hL1 hL2
   have hrz:∀ ty,(Builtin.append_ #[35,3] ty #[.slice (some ⟨g,0,none⟩) i ds.length,.int .i64 ((ds.length:Int)+1 - (i:Int))]).run Tryz.prog w=.ok (.slice (some ⟨w.heap.size,0,none⟩) (ds.length+1) G) (w.alloc (.cells L.toArray 9)).drew:=fun ty=>by
    have h:=hrz0 ty
    rw [show i+(ds.length+1 - i)=ds.length+1 by omega] at h
    rw [show (ds.length:Int)+1 - (i:Int)=((ds.length+1 - i:Nat):Int) by omega]
    exact h
   have hmn1:Nat.min 1 (ds.length+1 - i)=1:=Nat.min_eq_left (by omega)
   have hmn2:Nat.min (ds.length - i) (ds.length - i)=ds.length - i:=Nat.min_self _
   have hcp1:∀ ty dc,(Builtin.copy_ #[35,35] ty #[.slice (some ⟨w.heap.size,i,none⟩) (ds.length+1 - i) dc,.slice (some ⟨gx,0,none⟩) 1 1]).run Tryz.prog (w.alloc (.cells L.toArray 9)).drew=.ok (goInt 1) (w.alloc (.cells (splice L (i) Rc).toArray 9)).drew:=fun ty dc=>by
    have h:=zbx (P:=Tryz.prog) (w:=(w.alloc (.cells L.toArray 9)).drew) zz ty w.heap.size (i) (ds.length+1 - i) dc ⟨gx,0,none⟩ 1 1 L 9 (alloc_new w _ _ rfl) Rc (by rw [lc,hmn1]) (gc _ ((zen w _ hgl).trans HGX.out)) (by rw [lc];omega) oc
    rw [hmn1,zad,zaK w w.heap.size _ _ rfl] at h
    exact h
   have hcp2:∀ ty dc sc,(Builtin.copy_ #[35,35] ty #[.slice (some ⟨w.heap.size,(i+1),none⟩) (ds.length - i) dc,.slice (some ⟨g,i,none⟩) (ds.length - i) sc]).run Tryz.prog (w.alloc (.cells (splice L (i) Rc).toArray 9)).drew.drew=.ok (goInt ((ds.length - i:Nat):Int)) (w.alloc (.cells (splice (splice L (i) Rc) ((i+1)) Rb).toArray 9)).drew.drew:=fun ty dc sc=>by
    have h:=zbx (P:=Tryz.prog) (w:=(w.alloc (.cells (splice L (i) Rc).toArray 9)).drew.drew) zz ty w.heap.size ((i+1)) (ds.length - i) dc ⟨g,i,none⟩ (ds.length - i) sc (splice L (i) Rc) 9 (alloc_new w _ _ rfl) Rb (by rw [lb,hmn2,Nat.mul_one]) (fun j u hj=>by
     rw [Addr.add_lit]
     have h2:=zd (w:=(w.alloc (.cells (splice L (i) Rc).toArray 9)).drew.drew) (i:=i+j) (show _ from (zen w _ hgb).trans HH.out)
     rw [h2]
     exact gb j u hj) (by rw [length_splice _ _ _ (by rw [lc];omega),lb];omega) ob
    rw [hmn2,zad,zad,zaK w w.heap.size _ _ rfl] at h
    exact h
   obtain ⟨L1,hE1⟩ : ∃ L1,L1=splice L (i) Rc:=⟨_,rfl⟩
   obtain ⟨L2,hE2⟩ : ∃ L2,L2=splice L1 ((i+1)) Rb:=⟨_,rfl⟩
   rw [<- hE1] at hcp1 hcp2
   rw [<- hE2] at hcp2
   have HFIN:Hid (L2.length=G/\L2.take ((ds.length+1))=Ra++(Rc++Rb)):=by
    have e1:(i+1)=i+Rc.length:=by rw [lc]
    refine ⟨?_,?_⟩
    ·rw [hE2,length_splice _ _ _ (by rw [hE1,length_splice _ _ _ (by rw [lc];omega),lb];omega),hE1,length_splice _ _ _ (by rw [lc];omega),hL1]
    ·have h:=zfA L (i) Rc Rb (by rw [lb,lc];omega)
     rw [<- e1,<- hE1,<- hE2,hL2] at h
     rw [<- h]
     congr 1
     rw [lb];omega
   have HRZ:=Hd hrz
   have HC1:=Hd hcp1
   have HC2:=Hd hcp2
   clear hrz0 hrz hcp1 hcp2 hE1 hE2 hL1 hL2
   rw [show i+(ds.length+1 - i)=ds.length+1 by omega] at hG1
   have hGi:¬ G=i:=by omega
   have hGi1:¬ G=i+1:=by omega
   have htn:((i:Int)+1).toNat=i+1:=by omega
   have hb1:(0:Int)<=(i:Int)+1:=by omega
   have hb3:(i:Int)+1<=(ds.length:Int)+1:=by omega
   unfold maxLen at hG2
   go_enter Tryz.func156,Tryz.ntmps156
   go_wp2_with (at_builtin;refine zy ?_)
   refine zfu rfl _ _ _ _ rfl rfl rfl (HRZ.out _) ?_
   have hcp1:=HC1.out
   go_wp2
   clear hcp1
   refine zab [(0,true),(1,true),(2,true),(3,true),(4,true),(5,true),(6,true),(7,true),(8,false)] 8 (by kernel_rfl) (by kernel_rfl) ?_
   repeat (refine zj rfl (fun K hK=>?_);go_simp;(try simp (disch:=omega) only [IntWalk.i64_in]);refine hK _ ?_;clear hK K)
   refine zq rfl rfl (fun K hK=>?_)
   rw [if_pos (by rfl)]
   refine zfh (.tmp 50) (.tmp 53) 35 rfl (v:=.slice (some ⟨w.heap.size,(i+1),none⟩) (ds.length - i) (G - (i+1))) (u:=.slice (some ⟨g,i,none⟩) (ds.length - i) (ds.length - i)) (by rfl) (by rfl) (HC2.out _ _ _) ?_
   refine hK _ _ ?_
   clear hK K
   refine zR ?_
   go_wp2
   go_ret
   exact ⟨_,rfl,zjg (alloc_new w _ _ rfl) hB (by simp;omega) hG1 (by unfold maxLen;omega) (by simpa using HFIN.out.1) (by rw [HR.out];simpa using HFIN.out.2),Upon.below (by repeat (first|with_reducible exact Below.refl _ _|with_reducible apply Below.ofAlloc|with_reducible apply Below.drew)),.inr rfl⟩
  case neg =>
   have hrm:ds.length<cap:=by omega
   have hrm2:ds.length+1<=cap:=by omega
   have hta:cur.toList.take (i)=Ra:=by
    have h2:=congrArg (List.take (i)) hab
    rw [List.take_take,Nat.min_eq_left (by omega),List.take_left' la] at h2
    exact h2
   have hov:∀ lb cb,(callFunc 182 #[.slice (some ⟨gx,0,none⟩) 1 1,.slice (some ⟨g,(i+1),none⟩) lb cb]).run Tryz.prog w=.ok (.value (.bool false)) w:=fun lb cb=>by
    obtain ⟨i0,z0,hi0,hz0,hs0,_,_⟩:=(zz).hi
    rw [run_callFunc_extern Tryz.func182 (by kernel_rfl) (by kernel_rfl) (by kernel_rfl) (e:=Extern.SlicesOverlaps.overlaps #[35,35] #[4]) (by kernel_rfl),
     Lib.run_overlaps_apart w 35 4 9 Tryz.underlying35 1 (fun w=>by simp [sizeOf,typeInfo,hi0,hs0]) ⟨gx,0,none⟩ ⟨g,(i+1),none⟩ 1 1 lb cb hne 9 9 1 (cap) (by simp [World.shape?,HGX.out]) (by simp [World.shape?,HH.out,HSZ.out]) (by omega) (by simp [World.frozen?,HGX.out]) (by simp [World.frozen?,HGX.out])]
    rfl
   have hmn1:Nat.min (ds.length+1 - i) (ds.length - i)=ds.length - i:=Nat.min_eq_right (by omega)
   have hmn2:Nat.min 1 (ds.length+1 - i)=1:=Nat.min_eq_left (by omega)
   have hcp1:∀ ty dc sc,(Builtin.copy_ #[35,35] ty #[.slice (some ⟨g,(i+1),none⟩) (ds.length - i) dc,.slice (some ⟨g,i,none⟩) (ds.length+1 - i) sc]).run Tryz.prog w.drew=.ok (goInt ((ds.length - i:Nat):Int)) (w.setB g (.cells (splice cur.toList ((i+1)) Rb).toArray 9)).drew:=fun ty dc sc=>by
    have h:=zbx (P:=Tryz.prog) (w:=w.drew) zz ty g ((i+1)) (ds.length - i) dc ⟨g,i,none⟩ (ds.length+1 - i) sc cur.toList 9 (by rw [Array.toArray_toList];exact HH.out) Rb (by rw [lb,hmn1,Nat.mul_one]) (fun j u hj=>by
     rw [Addr.add_lit,zd (w:=w.drew) HH.out]
     exact gb j u hj) (by rw [lb,hcl];omega) ob
    rw [hmn1,zad] at h
    exact h
   have hcp2:∀ ty dc,(Builtin.copy_ #[35,35] ty #[.slice (some ⟨g,i,none⟩) (ds.length+1 - i) dc,.slice (some ⟨gx,0,none⟩) 1 1]).run Tryz.prog (w.setB g (.cells (splice cur.toList ((i+1)) Rb).toArray 9)).drew=.ok (goInt 1) (w.setB g (.cells (splice (splice cur.toList ((i+1)) Rb) (i) Rc).toArray 9)).drew:=fun ty dc=>by
    have h:=zbx (P:=Tryz.prog) (w:=(w.setB g (.cells (splice cur.toList ((i+1)) Rb).toArray 9)).drew) zz ty g (i) (ds.length+1 - i) dc ⟨gx,0,none⟩ 1 1 (splice cur.toList ((i+1)) Rb) 9 (World.setB_at _ _ _ hgb) Rc (by rw [lc,hmn2]) (gc _ ((World.setB_get _ _ _ _ hne).trans HGX.out)) (by rw [length_splice _ _ _ (by rw [lb,hcl];omega),lc,hcl];omega) oc
    rw [hmn2,zad,zaT] at h
    exact h
   obtain ⟨L1,hE1⟩ : ∃ L1,L1=splice cur.toList ((i+1)) Rb:=⟨_,rfl⟩
   obtain ⟨L2,hE2⟩ : ∃ L2,L2=splice L1 (i) Rc:=⟨_,rfl⟩
   rw [<- hE1] at hcp1 hcp2
   rw [<- hE2] at hcp2
   have HFIN:Hid (L2.length=cap/\L2.take ((ds.length+1))=Ra++(Rc++Rb)):=by
    have e1:(i+1)=i+Rc.length:=by rw [lc]
    refine ⟨?_,?_⟩
    ·rw [hE2,length_splice _ _ _ (by rw [hE1,length_splice _ _ _ (by rw [lb,hcl];omega),lc,hcl];omega),hE1,length_splice _ _ _ (by rw [lb,hcl];omega),hcl]
    ·have h:=zeU cur.toList (i) Rc Rb (by rw [lb,lc,hcl];omega)
     rw [<- e1,<- hE1,<- hE2,hta] at h
     rw [<- h]
     congr 1
     rw [lb];omega
   have HC1:=Hd hcp1
   have HC2:=Hd hcp2
   clear hcp1 hcp2 hE1 hE2 hta hab ga gb gc
   have hci1:¬ cap=i+1:=by omega
   have htn:((i:Int)+1).toNat=i+1:=by omega
   have htn2:((ds.length:Int)+1).toNat=ds.length+1:=by omega
   have hb1:(0:Int)<=(i:Int)+1:=by omega
   have hb2:(0:Int)<=(ds.length:Int)+1:=by omega
   have hb3:(i:Int)+1<=(ds.length:Int)+1:=by omega
   have hb4:(ds.length:Int)+1<=(cap:Int):=by omega
   have hb5:(i:Int)<=(ds.length:Int)+1:=by omega
   go_enter Tryz.func156,Tryz.ntmps156
   go_wp2_with (simp only [hov])
   clear hov
   refine zab [(0,true),(1,true),(2,true),(3,true),(4,true),(5,true),(6,true),(7,true),(8,false)] 8 (by kernel_rfl) (by kernel_rfl) ?_
   repeat (refine zj rfl (fun K hK=>?_);go_simp;(try simp (disch:=omega) only [IntWalk.i64_in]);refine hK _ ?_;clear hK K)
   refine zq rfl rfl (fun K hK=>?_)
   rw [if_pos (by rfl)]
   refine zfh (.tmp 73) (.tmp 76) 35 rfl (v:=.slice (some ⟨g,(i+1),none⟩) (ds.length - i) (cap - (i+1))) (u:=.slice (some ⟨g,i,none⟩) (ds.length+1 - i) (cap - i)) (by rfl) (by rfl) (HC1.out _ _ _) ?_
   refine hK _ _ ?_
   clear hK K
   refine zR ?_
   have hcp2:=HC2.out
   go_wp2
   clear hcp2
   go_ret
   exact ⟨_,rfl,zjg (World.setB_at _ _ _ hgb) hg (by simp;omega) hrm2 (by unfold maxLen;omega) (by simpa using HFIN.out.1) (by rw [HR.out];simpa using HFIN.out.2),(show Upon [g] w (w.setB g (.cells L2.toArray 9)) from Upon.setB _ _ (by simp)).trans (Upon.below (by repeat (first|with_reducible exact Below.refl _ _|with_reducible apply Below.drew))),.inl rfl⟩
def geS (x y:ByteArray):Bool:=!ltS y x
theorem zfS {xs:List ByteArray} {x:ByteArray} (n:Nat) (hn:n<xs.length) (h:(xs.take n).any (geS x)=false) (h2:geS x xs[n]=true):zaw xs x=n:=by
 have e:xs=xs.take n++xs[n] :: xs.drop (n+1):=by rw [<- List.drop_eq_getElem_cons hn,List.take_append_drop]
 have ha:∀ y ∈ xs.take n,ltS y x=true:=fun y hy=>by
  rw [List.any_eq_false] at h
  have:=h y hy
  simpa [geS] using this
 have h3:ltS xs[n] x=false:=by simpa [geS] using h2
 unfold zaw
 conv=>lhs;rw [e]
 rw [List.takeWhile_append_of_pos ha,List.takeWhile_cons,h3,if_neg (by decide),List.append_nil,List.length_take]
 omega
theorem zkp {xs:List ByteArray} {x:ByteArray} (h:xs.any (geS x)=false):zbF xs x=xs ++ [x]:=by
 have ha:∀ y ∈ xs,ltS y x=true:=fun y hy=>by
  rw [List.any_eq_false] at h
  have:=h y hy
  simpa [geS] using this
 have e:xs.takeWhile (ltS · x)=xs:=by
  have:=List.takeWhile_append_of_pos (l₂:=[]) ha
  simpa using this
 have e2:zaw xs x=xs.length:=by unfold zaw;rw [e]
 unfold zbF
 rw [e2,if_neg (by simp),List.take_length,List.drop_length]
theorem zjF {xs:List ByteArray} {x:ByteArray} (n:Nat) (hn:n<xs.length) (h:(xs.take n).any (geS x)=false) (h2:geS x xs[n]=true) (h3:xs[n]=x):zbF xs x=xs:=by
 unfold zbF
 rw [zfS n hn h h2,if_pos (by rw [List.getElem?_eq_getElem hn,h3])]
theorem putS_in {xs:List ByteArray} {x:ByteArray} (n:Nat) (hn:n<xs.length) (h:(xs.take n).any (geS x)=false) (h2:geS x xs[n]=true) (h3:xs[n] ≠ x):zbF xs x=xs.take n++x :: xs.drop n:=by
 unfold zbF
 rw [zfS n hn h h2,if_neg (by rw [List.getElem?_eq_getElem hn];simpa using h3)]
theorem zec (y x:ByteArray) (b:Nat) (w:World) (hb:b<w.heap.size) (hc:w.cell? ⟨b,0,none⟩=some (.string x)) :
  Calls Tryz.prog 155 #[.string y,.pointer (some ⟨b,0,none⟩)] w fun e w'=>e=.returned (.bool (geS x y))/\Below w.heap.size w w':=by
 cases hg:ltS y x with
 | true =>
  have hl:Op.bytesLess y.toList x.toList=true:=hg
  have hge:geS x y=false:=by unfold geS;rw [hg];rfl
  rw [hge]
  clear hge
  go_enter Tryz.func155,Tryz.ntmps155
  go_wp2
  go_ret
  exact ⟨by first|rfl|simp,(by repeat (first|with_reducible exact Below.refl _ _|with_reducible apply Below.ofExt|with_reducible apply Below.ofAlloc|with_reducible apply Below.drew|with_reducible apply Below.ofDrewN|with_reducible assumption|(with_reducible refine Below.setCell ?_ (by first|exact Nat.le_refl _|(simp [go_sem];done)|(simp [go_sem];omega)) _)))⟩
 | false =>
  have hl:Op.bytesLess y.toList x.toList=false:=hg
  have hge:geS x y=true:=by unfold geS;rw [hg];rfl
  rw [hge]
  clear hge
  go_enter Tryz.func155,Tryz.ntmps155
  go_wp2
  go_ret
  exact ⟨by first|rfl|simp,(by repeat (with_reducible exact Below.refl _ _))⟩
theorem zbM (v:Value) (ds:List ByteArray) (key:ByteArray) (b0:Nat) (w:World) (hs:RdL zv w v ds) (hb0:b0<w.heap.size) (hc0:w.cell? ⟨b0,0,none⟩=some (.string key)) :
  Calls Tryz.prog 126 #[v,.func (Fn.func 155) #[] #[.pointer (some ⟨b0,0,none⟩)]] w fun e w'=>e=.returned (.int .i64 (zam (geS key) ds))/\Below w.heap.size w w':=by
 obtain ⟨ao,cap,rfl,hc1,hc2,hnil,hne⟩:=hs.shape
 have HX:=Hd hne
 have HC:=Hd hc0
 clear hs hne hnil hc0
 unfold maxLen at hc2
 go_enter Tryz.func126,Tryz.ntmps126
 go_wp2
 go_loopw [8] (fun k wr=>∃ (n:Nat),k=.int .i64 n/\n<=ds.length/\Below w.heap.size w wr/\(ds.take n).any (geS key)=false) (fun k _=>ds.length - (intOf k).toNat)
 case atStart=>exact ⟨0,rfl,by omega,(by repeat (with_reducible exact Below.refl _ _)),rfl⟩
 case round =>
  obtain ⟨n,rfl,hn,hbel,hany⟩:=hrel
  obtain ⟨X,rfl⟩:=hbel.ext
  have HA:=Hd hany
  clear hany
  by_cases hlt:(n:Int)<ds.length
  ·have hk:n<ds.length:=by omega
   obtain ⟨b,off,rfl,hbl,hcell⟩:=HX.out (by intro e;simp [e] at hk)
   have hc:=hcell n hk
   have hst:=zay (geS key) ds n hk
   have hff:(ds.take n).any (geS key)=false->geS key ds[n]=true->zam (geS key) ds=n:=fun h h2=>zat (geS key) ds n hk h h2
   generalize ds[n]=d at hc hst hff
   have y0:w.cell? ⟨b,off+n,none⟩=some (.string d):=by have h:=hc 0 _ rfl;simpa [zv] using h
   clear hc hcell
   have hbl:=hbl (by decide)
   have HT:=Hd hst
   have HF:=Hd hff
   clear hst hff
   cases hm:geS key d with
   | true =>
    have HM:=Hd hm
    clear hm
    go_wp2_with fail
    (go_at_call 155;refine (zec d key b0 _ (by simp [go_sem];try omega) (by repeat (first|exact HC.out|refine Grew.cell (Grew.ext _ _) ?_))).mono ?_;rintro e w' ⟨rfl,hb⟩;obtain ⟨X,rfl⟩:=hb.ext;clear hb)
    rw [HM.out]
    go_wp2
    go_ret
    exact ⟨by rw [HF.out HA.out HM.out];rfl,(by repeat (first|with_reducible exact Below.refl _ _|with_reducible apply Below.ofExt|with_reducible apply Below.ofAlloc|with_reducible apply Below.drew|with_reducible apply Below.ofDrewN|with_reducible assumption|(with_reducible refine Below.setCell ?_ (by first|exact Nat.le_refl _|(simp [go_sem];done)|(simp [go_sem];omega)) _)))⟩
   | false =>
    have HM:=Hd hm
    clear hm
    go_wp2_with fail
    (go_at_call 155;refine (zec d key b0 _ (by simp [go_sem];try omega) (by repeat (first|exact HC.out|refine Grew.cell (Grew.ext _ _) ?_))).mono ?_;rintro e w' ⟨rfl,hb⟩;obtain ⟨X,rfl⟩:=hb.ext;clear hb)
    rw [HM.out]
    go_wp2
    go_roundw
    case rel=>exact ⟨n+1,by go_num,by omega,(by repeat (first|with_reducible exact Below.refl _ _|with_reducible apply Below.ofExt)),by rw [HT.out,HA.out,HM.out];rfl⟩
    case measure=>simp [intOf];omega
  ·go_wp2
   go_ret
   have e:n=ds.length:=by omega
   subst e
   have ha:=HA.out
   rw [List.take_length] at ha
   exact ⟨by rw [zax (geS key) ds ha];rfl,(by repeat (first|with_reducible exact Below.refl _ _|with_reducible apply Below.ofExt))⟩
theorem zcY (v:Value) (ds:List ByteArray) (x:ByteArray) (B:Nat) (w:World) (ho:OwnL zv 9 w B v ds) (hl:ds.length<=549755813888) (hB:B<=w.heap.size) :
  Calls Tryz.prog 114 #[v,.string x] w fun e w'=>∃ v',e=.returned v'/\OwnL zv 9 w' B v' (zbF ds x)/\Upon v.ownBlock.toList w w'/\(∀ k,v'.ownBlock=some k->v.ownBlock=some k ∨ w.heap.size<=k):=by
 obtain ⟨ao,cap,rfl,hc1,hc2,hnil,hne⟩:=ho.rd.shape
 have HO:=Hd ho
 have HSB:=Hd hB
 have HX:=Hd hne
 have hnb:(Value.slice ao ds.length cap).ownBlock ≠ some w.heap.size:=fun e=>absurd (ho.lt _ e).2 (Nat.lt_irrefl _)
 clear ho hB hne hnil
 unfold maxLen at hc2
 cases hany:ds.any (geS x) with
 | false =>
  have HI:Hid (zam (geS x) ds = -1):=zax _ _ hany
  have HF:Hid (zbF ds x=ds ++ [x]):=zkp hany
  clear hany
  go_enter Tryz.func114,Tryz.ntmps114
  go_wp2_with fail
  (go_at_call 126;refine (zbM _ ds x w.heap.size _ ((HO.out.alloc _).rd) (by simp [go_sem]) (by simp [go_sem])).mono ?_;rintro e w' ⟨rfl,hb⟩;obtain ⟨X,rfl⟩:=hb.ext;clear hb)
  rw [HI.out]
  go_wp2_with (at_builtin;refine zy ?_)
  refine zaA rfl _ _ _ rfl zz (B:=B) (v:=.slice ao ds.length cap) (R:=zv) (xs:=ds) (by repeat (first|exact HO.out|apply OwnL.alloc|apply OwnL.ext)) rfl (ys:=[x]) (zaz zv _ x _ rfl _ _ (by simp [zl])) rfl (by simp only [List.length_singleton];omega) (by simp only [List.length_singleton];unfold maxLen;omega) (by simp [zl];have:=HSB.out;omega) ?_
  intro v4 w4 hown4 hgr4 hwh4
  have HO4:=Hd hown4
  have HU4:=Hd (Upon.trans (show Upon (Value.slice ao ds.length cap).ownBlock.toList w _ from Upon.below (by repeat (first|with_reducible exact Below.refl _ _|with_reducible apply Below.ofExt|with_reducible apply Below.ofAlloc))) (za7 hgr4))
  have HW4:Hid (∀ k,v4.ownBlock=some k->(Value.slice ao ds.length cap).ownBlock=some k ∨ w.heap.size<=k):=fun k h=>by
   rcases hwh4 with h2|h2
   ·left;rw [<- h,h2]
   ·right
    rw [h] at h2
    have h3:=Option.some.inj h2
    (try simp [zl] at h3)
    omega
  clear hown4 hgr4 hwh4
  go_wp2
  go_ret
  exact ⟨_,rfl,by rw [HF.out];exact HO4.out,HU4.out,HW4.out⟩
 | true =>
  obtain ⟨n,hn,hbef,hat⟩:=zem _ _ hany
  have HI:Hid (zam (geS x) ds=n):=zat _ _ n hn hbef hat
  obtain ⟨b,off,rfl,hbl,hcell⟩:=HX.out (by intro e;simp [e] at hn)
  have hc:=hcell n hn
  have hbl:=hbl (by decide)
  have hns:w.heap.size ≠ b:=by omega
  by_cases hsame:ds[n]=x
  ·have HF:Hid (zbF ds x=ds):=zjF n hn hbef hat hsame
   rw [hsame] at hc
   have y0:w.cell? ⟨b,off+n,none⟩=some (.string x):=by have h:=hc 0 _ rfl;simpa [zv] using h
   have hke:(x.toList==x.toList)=true:=by simp
   clear hany hbef hat hc hcell hsame
   go_enter Tryz.func114,Tryz.ntmps114
   go_wp2_with fail
   (go_at_call 126;refine (zbM _ ds x w.heap.size _ ((HO.out.alloc _).rd) (by simp [go_sem]) (by simp [go_sem])).mono ?_;rintro e w' ⟨rfl,hb⟩;obtain ⟨X,rfl⟩:=hb.ext;clear hb)
   rw [HI.out]
   go_wp2_with fail
   go_quiet (fail)
   go_wp2
   go_ret
   exact ⟨_,rfl,by rw [HF.out];repeat (first|exact HO.out|apply OwnL.drew|apply OwnL.alloc|apply OwnL.ext),Upon.below (by repeat (first|with_reducible exact Below.refl _ _|with_reducible apply Below.ofExt|with_reducible apply Below.ofAlloc|with_reducible apply Below.ofDrewN)),fun k h=>.inl h⟩
  ·have HF:Hid (zbF ds x=ds.take n++x :: ds.drop n):=putS_in n hn hbef hat hsame
   generalize hd:ds[n]=d at hc hsame
   have y0:w.cell? ⟨b,off+n,none⟩=some (.string d):=by have h:=hc 0 _ rfl;simpa [zv] using h
   have hke:(d.toList==x.toList)=false:=beq_false_of_ne fun e=>hsame (by apply ByteArray.ext;apply Array.toList_inj.1;rw [<- ByteArray.toList_eq,<- ByteArray.toList_eq,e])
   clear hany hbef hat hc hcell hsame hd
   go_enter Tryz.func114,Tryz.ntmps114
   go_wp2_with fail
   (go_at_call 126;refine (zbM _ ds x w.heap.size _ ((HO.out.alloc _).rd) (by simp [go_sem]) (by simp [go_sem])).mono ?_;rintro e w' ⟨rfl,hb⟩;obtain ⟨X,rfl⟩:=hb.ext;clear hb)
   rw [HI.out]
   go_wp2_with fail
   go_quiet (fail)
   go_wp2_with fail
   (go_at_call 156;refine (zhK _ ds n x _ B _ (by repeat (first|exact HO.out|apply OwnL.alloc|apply OwnL.ext)) (by omega) (alloc_new _ _ _ (by simp [zl])) (fun e=>by have:=(HO.out.lt _ e).2;omega) (by omega) (by simp [zl];have:=HSB.out;omega)).mono ?_;rintro e w2 ⟨v2,rfl,ho2,hu2,hw2⟩)
   have HO2:=Hd ho2
   have HU2:=Hd (Upon.trans (show Upon (Value.slice (some ⟨b,off,none⟩) ds.length cap).ownBlock.toList w _ from Upon.below (by repeat (first|with_reducible exact Below.refl _ _|with_reducible apply Below.ofExt|with_reducible apply Below.ofAlloc))) hu2)
   have HW2:Hid (∀ k,v2.ownBlock=some k->(Value.slice (some ⟨b,off,none⟩) ds.length cap).ownBlock=some k ∨ w.heap.size<=k):=fun k h=>by
    rcases hw2 with h2|h2
    ·left;rw [<- h,h2]
    ·right
     rw [h] at h2
     have h3:=Option.some.inj h2
     (try simp [zl] at h3)
     omega
   clear ho2 hu2 hw2
   go_wp2
   go_ret
   exact ⟨_,rfl,by rw [HF.out];exact HO2.out,HU2.out,HW2.out⟩
end Go.Proofs.YtpbcehcmdoncmaaGreatDoor
