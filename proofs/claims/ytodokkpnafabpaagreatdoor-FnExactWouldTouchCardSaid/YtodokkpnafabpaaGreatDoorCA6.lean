/- Texts of this claim, merged: the walks and what they stand on. Each condition stands in its theorem. -/
import Derived.Ground.Names2Prog
import Derived.Ground.PaProg
import Derived.Ground.SlgfProg
import Derived.Ground.SlgnProg
import Derived.Shelf.Hex.Decode
import Derived.Shelf.Hex.DecodeOwns
import Derived.Shelf.Hex.Encode
import Derived.Shelf.Hex.Lens
import Derived.Shelf.Hex.More
import Derived.Shelf.Hex.Tagged
import Derived.Shelf.LaysC
import Derived.Shelf.LaysM
import Derived.Shelf.Slices.Cells
import Derived.Shelf.Slices.ReverseS
import Derived.Shelf.SlicesE.IndexFunc
import Derived.Shelf.SlicesE.Reverse
import Derived.Shelf.Small.Wraps
import Derived.Shelf.Strconv.Atoi
import Derived.Shelf.Strconv.AtoiAll
import Derived.Shelf.Strconv.AtoiErr
import Derived.Shelf.Strconv.AtoiErrFast
import Derived.Shelf.Strconv.AtoiFail
import Derived.Shelf.Strconv.AtoiInnerAll
import Derived.Shelf.Strconv.AtoiLong
import Derived.Shelf.Strconv.Clone
import Derived.Shelf.Strconv.ErrVar
import Derived.Shelf.Strconv.ErrVarAll
import Derived.Shelf.Strconv.Itoa0
import Derived.Shelf.Strconv.Itoa1
import Derived.Shelf.Strconv.Itoa2
import Derived.Shelf.Strconv.Itoa3
import Derived.Shelf.Strconv.Lower
import Derived.Shelf.Strconv.ParseInt10
import Derived.Shelf.Strconv.ParseInt10All
import Derived.Shelf.Strconv.ParseInt10At16
import Derived.Shelf.Strconv.ParseInt10At32
import Derived.Shelf.Strconv.ParseInt10At64
import Derived.Shelf.Strconv.ParseInt10At8
import Derived.Shelf.Strconv.ParseIntEmpty
import Derived.Shelf.Strconv.ParseUint10
import Derived.Shelf.Strconv.ParseUint10Any
import Derived.Shelf.Strconv.ParseUint10At
import Derived.Shelf.Strconv.ParseUint10Empty
import Derived.Shelf.Strconv.ParseUint10b16
import Derived.Shelf.Strconv.ParseUint10b32
import Derived.Shelf.Strconv.ParseUint10b64
import Derived.Shelf.Strconv.ParseUint10b8
import Derived.Shelf.Strconv.ParseUintEmpty
import Derived.Shelf.Strconv.RangeError
import Derived.Shelf.Strconv.SyntaxError
import Derived.Shelf.Strconv.ToError
import Derived.Shelf.Strconv.ToErrorRange
import Derived.Shelf.Strings.Prefix
import Derived.Test.YtodokkpnafabpaaGreatDoorCA4
import Derived.Test.YtodokkpnafabpaaGreatDoorCA5
import Derived.Test.YtodokkpnafabpaaGreatDoorProg
set_option linter.unusedVariables false
set_option linter.unusedSimpArgs false
set_option maxRecDepth 100000
set_option maxHeartbeats 8000000
namespace Go.Proofs.YtodokkpnafabpaaGreatDoor
open Go.ChangeShapes Go.WideShapes Go.ChangeAt Go.RowKit
theorem one_rdlS (w:World) (c:ByteArray) (gx:Nat) (hx:w.heap[gx]?=some (.cells #[.string c] 9 (0,0))):RdL zx w (.slice (some ⟨gx,0,none⟩) 1 1) [c]:=by
 refine .inr ⟨gx,0,1,rfl,Nat.le_refl _,by unfold maxLen;omega,fun j u hj=>?_⟩
 rw [zd hx,Nat.zero_add]
 simpa [zx] using hj
theorem zhf (xs:List ByteArray):(xs.flatMap zx.row).length=xs.length:=by
 have:=zx.flat_len xs
 simpa [zx] using this
theorem ziv {w:World} {B g n cap:Nat} {ds:List ByteArray} {cur:Array Value} (hh:w.heap[g]?=some (.cells cur 9 (0,0))) (hg:B<=g) (hl:n=ds.length) (hn:n<=cap) (hm:cap<=maxLen) (hs:cur.size=cap) (ht:cur.toList.take (n)=ds.flatMap zx.row):OwnL zx 9 w B (.slice (some ⟨g,0,none⟩) n cap) ds:=by
 subst hl
 exact ⟨zx.flat_len _,.inr ⟨g,cap,cur,rfl,hg,hh,hn,hm,by rw [hs];exact (Nat.mul_one cap).symm,by rw [show ds.length*zx.k=ds.length from Nat.mul_one _];exact ht⟩⟩
theorem zhb (v:Value) (ds:List ByteArray) (i:Nat) (c:ByteArray) (gx B:Nat) (w:World) (ho:OwnL zx 9 w B v ds) (hi:i<=ds.length) (hx:w.heap[gx]?=some (.cells #[.string c] 9 (0,0))) (hgx:v.ownBlock ≠ some gx) (hl:ds.length<=549755813888) (hB:B<=w.heap.size) :
  Calls Tryz.prog 192 #[v,.int .i64 i,.slice (some ⟨gx,0,none⟩) 1 1] w fun e w'=>∃ v',e=.returned v'/\OwnL zx 9 w' B v' (ds.take i++c :: ds.drop i)/\Upon v.ownBlock.toList w w'/\(v'.ownBlock=v.ownBlock ∨ v'.ownBlock=some w.heap.size):=by
 have HX:=Hd (one_rdlS w c gx hx)
 have HGX:=Hd hx
 have HOWN:=Hd ho
 have hgl:=za hx
 rcases ho.2 with ⟨rfl,h0⟩|⟨g,cap,cur,rfl,hg,hh,hn,hm,hsz,ht⟩
 ·have:ds = []:=List.eq_nil_of_length_eq_zero h0
  subst this
  obtain rfl:i=0:=by simpa using hi
  have HF:Hid (([]:List ByteArray).take 0++c :: ([]:List ByteArray).drop 0 = [] ++ [c]):=rfl
  clear ho hx
  go_enter Tryz.func192,Tryz.ntmps192
  go_wp2_with (at_builtin;refine zA ?_)
  refine zas rfl _ _ _ rfl zz (B:=B) (R:=zx) (xs:=[]) HOWN.out rfl (ys:=[c]) HX.out rfl (by simp only [List.length_singleton];omega) (by simp only [List.length_singleton];unfold maxLen;omega) hB ?_
  intro v4 w4 hown4 hgr4 hwh4
  have HO4:=Hd hown4
  have HU4:=Hd (zaG hgr4)
  have HWH:=Hd hwh4
  clear hown4 hgr4 hwh4
  go_wp2
  go_ret
  exact ⟨_,rfl,by exact HO4.out,HU4.out,HWH.out⟩
 have HH:=Hd hh
 have HT:Hid (cur.toList.take (ds.length)=ds.flatMap zx.row):=by have h:=ht;rw [show ds.length*zx.k=ds.length from Nat.mul_one _] at h;exact h
 have HSZ:Hid (cur.size=cap):=hsz.trans (Nat.mul_one cap)
 have hgb:=za hh
 have hne:gx ≠ g:=fun e=>hgx (by rw [e];rfl)
 clear ho hx hh ht hsz hgx
 unfold maxLen at hm
 by_cases hin:i=ds.length
 case pos =>
  have HF:Hid (ds.take i++c :: ds.drop i=ds ++ [c]):=by show _ = _;rw [hin,List.take_length,List.drop_length]
  subst hin
  by_cases hcap:cap=ds.length
  case pos =>
   have hcap2:¬ ds.length<cap:=by omega
   go_enter Tryz.func192,Tryz.ntmps192
   go_wp2_with (at_builtin;refine zA ?_)
   refine zas rfl _ _ _ rfl zz (B:=B) (R:=zx) (xs:=ds) HOWN.out rfl (ys:=[c]) HX.out rfl (by simp only [List.length_singleton];omega) (by simp only [List.length_singleton];unfold maxLen;omega) hB ?_
   intro v4 w4 hown4 hgr4 hwh4
   have HO4:=Hd hown4
   have HU4:=Hd (zaG hgr4)
   have HWH:=Hd hwh4
   clear hown4 hgr4 hwh4
   go_wp2
   go_ret
   exact ⟨_,rfl,by (rw [HF.out];exact HO4.out),HU4.out,HWH.out⟩
  case neg =>
   go_enter Tryz.func192,Tryz.ntmps192
   go_wp2_with (at_builtin;refine zA ?_)
   refine zas rfl _ _ _ rfl zz (B:=B) (R:=zx) (xs:=ds) HOWN.out rfl (ys:=[c]) HX.out rfl (by simp only [List.length_singleton];omega) (by simp only [List.length_singleton];unfold maxLen;omega) hB ?_
   intro v4 w4 hown4 hgr4 hwh4
   have HO4:=Hd hown4
   have HU4:=Hd (zaG hgr4)
   have HWH:=Hd hwh4
   clear hown4 hgr4 hwh4
   go_wp2
   go_ret
   exact ⟨_,rfl,by (rw [HF.out];exact HO4.out),HU4.out,HWH.out⟩
 case neg =>
  have hlt:i<ds.length:=by omega
  have hz2:¬ ((i:Int)=(ds.length:Int)):=by omega
  have hc1:¬ cap=i:=by omega
  obtain ⟨Ra,hRa⟩ : ∃ R,R=(ds.take i).flatMap zx.row:=⟨_,rfl⟩
  obtain ⟨Rb,hRb⟩ : ∃ R,R=(ds.drop i).flatMap zx.row:=⟨_,rfl⟩
  obtain ⟨Rc,hRc⟩ : ∃ R,R=zx.row c:=⟨_,rfl⟩
  have la:Ra.length=i:=by rw [hRa,zhf,List.length_take,Nat.min_eq_left hi]
  have lb:Rb.length=(ds.length - i):=by rw [hRb,zhf,List.length_drop]
  have lc:Rc.length=1:=by rw [hRc];rfl
  have hab:cur.toList.take (ds.length)=Ra++Rb:=by rw [HT.out,hRa,hRb,<- List.flatMap_append,List.take_append_drop]
  have HR:Hid ((ds.take i++c :: ds.drop i).flatMap zx.row=Ra++(Rc++Rb)):=by show _ = _;rw [List.flatMap_append,List.flatMap_cons,hRa,hRb,hRc]
  have oa:∀ u ∈ Ra,u.oneCell'=true:=by rw [hRa];intro u hu;obtain ⟨d,_,hd⟩:=List.mem_flatMap.1 hu;exact zx.one d u hd
  have ob:∀ u ∈ Rb,u.oneCell'=true:=by rw [hRb];intro u hu;obtain ⟨d,_,hd⟩:=List.mem_flatMap.1 hu;exact zx.one d u hd
  have oc:∀ u ∈ Rc,u.oneCell'=true:=by rw [hRc];exact zx.one c
  have hcl:cur.toList.length=cap:=(Array.length_toList (xs:=cur)).trans HSZ.out
  have ga:∀ j u,Ra[j]?=some u->cur[j]?=some u:=fun j u hj=>by
   have h:=(List.getElem?_eq_some_iff.1 hj).1
   have h2:=congrArg (fun l=>l[j]?) hab
   simp only [List.getElem?_take,List.getElem?_append_left h] at h2
   rw [if_pos (by omega),Array.getElem?_toList] at h2
   rw [h2]
   exact hj
  have gb:∀ j u,Rb[j]?=some u->cur[i+j]?=some u:=fun j u hj=>by
   have h:=(List.getElem?_eq_some_iff.1 hj).1
   have h2:=congrArg (fun l=>l[i+j]?) hab
   simp only [List.getElem?_take] at h2
   rw [if_pos (by omega),List.getElem?_append_right (by omega),la,Nat.add_sub_cancel_left,Array.getElem?_toList] at h2
   rw [h2]
   exact hj
  have gc:∀ (W:World),W.heap[gx]?=some (.cells #[.string c] 9 (0,0))->∀ j u,Rc[j]?=some u->W.cell? ((⟨gx,0,none⟩ : Addr).add j)=some u:=fun W hW j u hj=>by
   rw [Addr.add_lit,zd hW,Nat.zero_add]
   rw [hRc] at hj
   simpa [zx] using hj
  have HRa:=Hd hRa
  clear hRa hRb hRc
  by_cases hroom:cap=ds.length
  case pos =>
   have hrm2:¬ ds.length<cap:=by omega
   subst hroom
   obtain ⟨G,L,hG1,hG2,hL1,hL2,hrz0⟩:=zhL (P:=Tryz.prog) (w:=w) (tn:=3) zz Tryz.underlying3 (some ⟨g,0,none⟩) i ds.length Ra (by rw [la,Nat.mul_one]) (fun h=>by cases h) (fun ad had j u hj=>by
    cases had
    rw [Addr.add_lit,zd HH.out,Nat.zero_add]
    exact ga j u hj) (ds.length+1 - i) (by omega) (by omega) (by omega) (by omega) (by omega)
   rw [Nat.mul_one] at hL1 hL2
   have hrz:∀ ty,(Builtin.append_ #[25,3] ty #[.slice (some ⟨g,0,none⟩) i ds.length,.int .i64 ((ds.length:Int)+1 - (i:Int))]).run Tryz.prog w=.ok (.slice (some ⟨w.heap.size,0,none⟩) (ds.length+1) G) (w.alloc (.cells L.toArray 9)).drew:=fun ty=>by
    have h:=hrz0 ty
    rw [show i+(ds.length+1 - i)=ds.length+1 by omega] at h
    rw [show (ds.length:Int)+1 - (i:Int)=((ds.length+1 - i:Nat):Int) by omega]
    exact h
   have hmn1:Nat.min 1 (ds.length+1 - i)=1:=Nat.min_eq_left (by omega)
   have hmn2:Nat.min (ds.length - i) (ds.length - i)=ds.length - i:=Nat.min_self _
   have hcp1:∀ ty dc,(Builtin.copy_ #[25,25] ty #[.slice (some ⟨w.heap.size,i,none⟩) (ds.length+1 - i) dc,.slice (some ⟨gx,0,none⟩) 1 1]).run Tryz.prog (w.alloc (.cells L.toArray 9)).drew=.ok (goInt 1) (w.alloc (.cells (splice L (i) Rc).toArray 9)).drew:=fun ty dc=>by
    have h:=zbo (P:=Tryz.prog) (w:=(w.alloc (.cells L.toArray 9)).drew) zz ty w.heap.size (i) (ds.length+1 - i) dc ⟨gx,0,none⟩ 1 1 L 9 (zaF w _ _ rfl) Rc (by rw [lc,hmn1]) (gc _ ((zd5 w _ hgl).trans HGX.out)) (by rw [lc];omega) oc
    rw [hmn1,zai,zaD w w.heap.size _ _ rfl] at h
    exact h
   have hcp2:∀ ty dc sc,(Builtin.copy_ #[25,25] ty #[.slice (some ⟨w.heap.size,(i+1),none⟩) (ds.length - i) dc,.slice (some ⟨g,i,none⟩) (ds.length - i) sc]).run Tryz.prog (w.alloc (.cells (splice L (i) Rc).toArray 9)).drew.drew=.ok (goInt ((ds.length - i:Nat):Int)) (w.alloc (.cells (splice (splice L (i) Rc) ((i+1)) Rb).toArray 9)).drew.drew:=fun ty dc sc=>by
    have h:=zbo (P:=Tryz.prog) (w:=(w.alloc (.cells (splice L (i) Rc).toArray 9)).drew.drew) zz ty w.heap.size ((i+1)) (ds.length - i) dc ⟨g,i,none⟩ (ds.length - i) sc (splice L (i) Rc) 9 (zaF w _ _ rfl) Rb (by rw [lb,hmn2,Nat.mul_one]) (fun j u hj=>by
     rw [Addr.add_lit]
     have h2:=zd (w:=(w.alloc (.cells (splice L (i) Rc).toArray 9)).drew.drew) (i:=i+j) (show _ from (zd5 w _ hgb).trans HH.out)
     rw [h2]
     exact gb j u hj) (by rw [length_splice _ _ _ (by rw [lc];omega),lb];omega) ob
    rw [hmn2,zai,zai,zaD w w.heap.size _ _ rfl] at h
    exact h
   obtain ⟨L1,hE1⟩ : ∃ L1,L1=splice L (i) Rc:=⟨_,rfl⟩
   obtain ⟨L2,hE2⟩ : ∃ L2,L2=splice L1 ((i+1)) Rb:=⟨_,rfl⟩
   rw [<- hE1] at hcp1 hcp2
   rw [<- hE2] at hcp2
   have HFIN:Hid (L2.length=G/\L2.take ((ds.length+1))=Ra++(Rc++Rb)):=by
    have e1:(i+1)=i+Rc.length:=by rw [lc]
    refine ⟨?_,?_⟩
    ·rw [hE2,length_splice _ _ _ (by rw [hE1,length_splice _ _ _ (by rw [lc];omega),lb];omega),hE1,length_splice _ _ _ (by rw [lc];omega),hL1]
    ·have h:=zfe L (i) Rc Rb (by rw [lb,lc];omega)
     rw [<- e1,<- hE1,<- hE2,hL2] at h
     rw [<- h]
     congr 1
     rw [lb];omega
   have HRZ:=Hd hrz
   have HC1:=Hd hcp1
   have HC2:=Hd hcp2
   clear hrz0 hrz hcp1 hcp2 hE1 hE2 hL1 hL2
   rw [show i+(ds.length+1 - i)=ds.length+1 by omega] at hG1
   have hGi:¬ G=i:=by omega
   have hGi1:¬ G=i+1:=by omega
   have htn:((i:Int)+1).toNat=i+1:=by omega
   have hb1:(0:Int)<=(i:Int)+1:=by omega
   have hb3:(i:Int)+1<=(ds.length:Int)+1:=by omega
   unfold maxLen at hG2
   go_enter Tryz.func192,Tryz.ntmps192
   go_wp2_with (at_builtin;refine zA ?_)
   refine ze5 rfl _ _ _ _ rfl rfl rfl (HRZ.out _) ?_
   have hcp1:=HC1.out
   go_wp2
   clear hcp1
   refine zag [(0,true),(1,true),(2,true),(3,true),(4,true),(5,true),(6,true),(7,true),(8,false)] 8 (by kernel_rfl) (by kernel_rfl) ?_
   repeat (refine zm rfl (fun K hK=>?_);go_simp;(try simp (disch:=omega) only [IntWalk.i64_in]);refine hK _ ?_;clear hK K)
   refine zw rfl rfl (fun K hK=>?_)
   rw [if_pos (by rfl)]
   refine zeV (.tmp 50) (.tmp 53) 25 rfl (v:=.slice (some ⟨w.heap.size,(i+1),none⟩) (ds.length - i) (G - (i+1))) (u:=.slice (some ⟨g,i,none⟩) (ds.length - i) (ds.length - i)) (by rfl) (by rfl) (HC2.out _ _ _) ?_
   refine hK _ _ ?_
   clear hK K
   refine zaf ?_
   go_wp2
   go_ret
   exact ⟨_,rfl,ziv (zaF w _ _ rfl) hB (by simp;omega) hG1 (by unfold maxLen;omega) (by simpa using HFIN.out.1) (by rw [HR.out];simpa using HFIN.out.2),Upon.below (by repeat (first|with_reducible exact Below.refl _ _|with_reducible apply Below.ofAlloc|with_reducible apply Below.drew)),.inr rfl⟩
  case neg =>
   have hrm:ds.length<cap:=by omega
   have hrm2:ds.length+1<=cap:=by omega
   have hta:cur.toList.take (i)=Ra:=by
    have h2:=congrArg (List.take (i)) hab
    rw [List.take_take,Nat.min_eq_left (by omega),List.take_left' la] at h2
    exact h2
   have hov:∀ lb cb,(callFunc 207 #[.slice (some ⟨gx,0,none⟩) 1 1,.slice (some ⟨g,(i+1),none⟩) lb cb]).run Tryz.prog w=.ok (.value (.bool false)) w:=fun lb cb=>by
    obtain ⟨i0,z0,hi0,hz0,hs0,_,_⟩:=(zz).hi
    rw [run_callFunc_extern Tryz.func207 (by kernel_rfl) (by kernel_rfl) (by kernel_rfl) (e:=Extern.SlicesOverlaps.overlaps #[25,25] #[4]) (by kernel_rfl),
     Lib.run_overlaps_apart w 25 4 9 Tryz.underlying25 1 (fun w=>by simp [sizeOf,typeInfo,hi0,hs0]) ⟨gx,0,none⟩ ⟨g,(i+1),none⟩ 1 1 lb cb hne 9 9 1 (cap) (by simp [World.shape?,HGX.out]) (by simp [World.shape?,HH.out,HSZ.out]) (by omega) (by simp [World.frozen?,HGX.out]) (by simp [World.frozen?,HGX.out])]
    rfl
   have hmn1:Nat.min (ds.length+1 - i) (ds.length - i)=ds.length - i:=Nat.min_eq_right (by omega)
   have hmn2:Nat.min 1 (ds.length+1 - i)=1:=Nat.min_eq_left (by omega)
   have hcp1:∀ ty dc sc,(Builtin.copy_ #[25,25] ty #[.slice (some ⟨g,(i+1),none⟩) (ds.length - i) dc,.slice (some ⟨g,i,none⟩) (ds.length+1 - i) sc]).run Tryz.prog w.drew=.ok (goInt ((ds.length - i:Nat):Int)) (w.setB g (.cells (splice cur.toList ((i+1)) Rb).toArray 9)).drew:=fun ty dc sc=>by
    have h:=zbo (P:=Tryz.prog) (w:=w.drew) zz ty g ((i+1)) (ds.length - i) dc ⟨g,i,none⟩ (ds.length+1 - i) sc cur.toList 9 (by rw [Array.toArray_toList];exact HH.out) Rb (by rw [lb,hmn1,Nat.mul_one]) (fun j u hj=>by
     rw [Addr.add_lit,zd (w:=w.drew) HH.out]
     exact gb j u hj) (by rw [lb,hcl];omega) ob
    rw [hmn1,zai] at h
    exact h
   have hcp2:∀ ty dc,(Builtin.copy_ #[25,25] ty #[.slice (some ⟨g,i,none⟩) (ds.length+1 - i) dc,.slice (some ⟨gx,0,none⟩) 1 1]).run Tryz.prog (w.setB g (.cells (splice cur.toList ((i+1)) Rb).toArray 9)).drew=.ok (goInt 1) (w.setB g (.cells (splice (splice cur.toList ((i+1)) Rb) (i) Rc).toArray 9)).drew:=fun ty dc=>by
    have h:=zbo (P:=Tryz.prog) (w:=(w.setB g (.cells (splice cur.toList ((i+1)) Rb).toArray 9)).drew) zz ty g (i) (ds.length+1 - i) dc ⟨gx,0,none⟩ 1 1 (splice cur.toList ((i+1)) Rb) 9 (zy _ _ _ hgb) Rc (by rw [lc,hmn2]) (gc _ ((World.setB_get _ _ _ _ hne).trans HGX.out)) (by rw [length_splice _ _ _ (by rw [lb,hcl];omega),lc,hcl];omega) oc
    rw [hmn2,zai,zaO] at h
    exact h
   obtain ⟨L1,hE1⟩ : ∃ L1,L1=splice cur.toList ((i+1)) Rb:=⟨_,rfl⟩
   obtain ⟨L2,hE2⟩ : ∃ L2,L2=splice L1 (i) Rc:=⟨_,rfl⟩
   rw [<- hE1] at hcp1 hcp2
   rw [<- hE2] at hcp2
   have HFIN:Hid (L2.length=cap/\L2.take ((ds.length+1))=Ra++(Rc++Rb)):=by
    have e1:(i+1)=i+Rc.length:=by rw [lc]
    refine ⟨?_,?_⟩
    ·rw [hE2,length_splice _ _ _ (by rw [hE1,length_splice _ _ _ (by rw [lb,hcl];omega),lc,hcl];omega),hE1,length_splice _ _ _ (by rw [lb,hcl];omega),hcl]
    ·have h:=zeA cur.toList (i) Rc Rb (by rw [lb,lc,hcl];omega)
     rw [<- e1,<- hE1,<- hE2,hta] at h
     rw [<- h]
     congr 1
     rw [lb];omega
   have HC1:=Hd hcp1
   have HC2:=Hd hcp2
   clear hcp1 hcp2 hE1 hE2 hta hab ga gb gc
   have hci1:¬ cap=i+1:=by omega
   have htn:((i:Int)+1).toNat=i+1:=by omega
   have htn2:((ds.length:Int)+1).toNat=ds.length+1:=by omega
   have hb1:(0:Int)<=(i:Int)+1:=by omega
   have hb2:(0:Int)<=(ds.length:Int)+1:=by omega
   have hb3:(i:Int)+1<=(ds.length:Int)+1:=by omega
   have hb4:(ds.length:Int)+1<=(cap:Int):=by omega
   have hb5:(i:Int)<=(ds.length:Int)+1:=by omega
   go_enter Tryz.func192,Tryz.ntmps192
   go_wp2_with (simp only [hov])
   clear hov
   refine zag [(0,true),(1,true),(2,true),(3,true),(4,true),(5,true),(6,true),(7,true),(8,false)] 8 (by kernel_rfl) (by kernel_rfl) ?_
   repeat (refine zm rfl (fun K hK=>?_);go_simp;(try simp (disch:=omega) only [IntWalk.i64_in]);refine hK _ ?_;clear hK K)
   refine zw rfl rfl (fun K hK=>?_)
   rw [if_pos (by rfl)]
   refine zeV (.tmp 73) (.tmp 76) 25 rfl (v:=.slice (some ⟨g,(i+1),none⟩) (ds.length - i) (cap - (i+1))) (u:=.slice (some ⟨g,i,none⟩) (ds.length+1 - i) (cap - i)) (by rfl) (by rfl) (HC1.out _ _ _) ?_
   refine hK _ _ ?_
   clear hK K
   refine zaf ?_
   have hcp2:=HC2.out
   go_wp2
   clear hcp2
   go_ret
   exact ⟨_,rfl,ziv (zy _ _ _ hgb) hg (by simp;omega) hrm2 (by unfold maxLen;omega) (by simpa using HFIN.out.1) (by rw [HR.out];simpa using HFIN.out.2),(show Upon [g] w (w.setB g (.cells L2.toArray 9)) from Upon.setB _ _ (by simp)).trans (Upon.below (by repeat (first|with_reducible exact Below.refl _ _|with_reducible apply Below.drew))),.inl rfl⟩
def geS (x y:ByteArray):Bool:=!ltS y x
theorem zfp {xs:List ByteArray} {x:ByteArray} (n:Nat) (hn:n<xs.length) (h:(xs.take n).any (geS x)=false) (h2:geS x xs[n]=true):zav xs x=n:=by
 have e:xs=xs.take n++xs[n] :: xs.drop (n+1):=by rw [<- List.drop_eq_getElem_cons hn,List.take_append_drop]
 have ha:∀ y ∈ xs.take n,ltS y x=true:=fun y hy=>by
  rw [List.any_eq_false] at h
  have:=h y hy
  simpa [geS] using this
 have h3:ltS xs[n] x=false:=by simpa [geS] using h2
 unfold zav
 conv=>lhs;rw [e]
 rw [List.takeWhile_append_of_pos ha,List.takeWhile_cons,h3,if_neg (by decide),List.append_nil,List.length_take]
 omega
theorem zjw {xs:List ByteArray} {x:ByteArray} (h:xs.any (geS x)=false):zbp xs x=xs ++ [x]:=by
 have ha:∀ y ∈ xs,ltS y x=true:=fun y hy=>by
  rw [List.any_eq_false] at h
  have:=h y hy
  simpa [geS] using this
 have e:xs.takeWhile (ltS · x)=xs:=by
  have:=List.takeWhile_append_of_pos (l₂:=[]) ha
  simpa using this
 have e2:zav xs x=xs.length:=by unfold zav;rw [e]
 unfold zbp
 rw [e2,if_neg (by simp),List.take_length,List.drop_length]
theorem ziT {xs:List ByteArray} {x:ByteArray} (n:Nat) (hn:n<xs.length) (h:(xs.take n).any (geS x)=false) (h2:geS x xs[n]=true) (h3:xs[n]=x):zbp xs x=xs:=by
 unfold zbp
 rw [zfp n hn h h2,if_pos (by rw [List.getElem?_eq_getElem hn,h3])]
theorem putS_in {xs:List ByteArray} {x:ByteArray} (n:Nat) (hn:n<xs.length) (h:(xs.take n).any (geS x)=false) (h2:geS x xs[n]=true) (h3:xs[n] ≠ x):zbp xs x=xs.take n++x :: xs.drop n:=by
 unfold zbp
 rw [zfp n hn h h2,if_neg (by rw [List.getElem?_eq_getElem hn];simpa using h3)]
theorem zdV (y x:ByteArray) (b:Nat) (w:World) (hb:b<w.heap.size) (hc:w.cell? ⟨b,0,none⟩=some (.string x)) :
  Calls Tryz.prog 191 #[.string y,.pointer (some ⟨b,0,none⟩)] w fun e w'=>e=.returned (.bool (geS x y))/\Below w.heap.size w w':=by
 cases hg:ltS y x with
 | true =>
  have hl:Op.bytesLess y.toList x.toList=true:=hg
  have hge:geS x y=false:=by unfold geS;rw [hg];rfl
  rw [hge]
  clear hge
  go_enter Tryz.func191,Tryz.ntmps191
  go_wp2
  go_ret
  exact ⟨by first|rfl|simp,(by repeat (first|with_reducible exact Below.refl _ _|with_reducible apply Below.ofExt|with_reducible apply Below.ofAlloc|with_reducible apply Below.drew|with_reducible apply Below.ofDrewN|with_reducible assumption|(with_reducible refine Below.setCell ?_ (by first|exact Nat.le_refl _|(simp [go_sem];done)|(simp [go_sem];omega)) _)))⟩
 | false =>
  have hl:Op.bytesLess y.toList x.toList=false:=hg
  have hge:geS x y=true:=by unfold geS;rw [hg];rfl
  rw [hge]
  clear hge
  go_enter Tryz.func191,Tryz.ntmps191
  go_wp2
  go_ret
  exact ⟨by first|rfl|simp,(by repeat (with_reducible exact Below.refl _ _))⟩
theorem zb4 (v:Value) (ds:List ByteArray) (key:ByteArray) (b0:Nat) (w:World) (hs:RdL zx w v ds) (hb0:b0<w.heap.size) (hc0:w.cell? ⟨b0,0,none⟩=some (.string key)) :
  Calls Tryz.prog 190 #[v,.func (Fn.func 191) #[] #[.pointer (some ⟨b0,0,none⟩)]] w fun e w'=>e=.returned (.int .i64 (zam (geS key) ds))/\Below w.heap.size w w':=by
 obtain ⟨ao,cap,rfl,hc1,hc2,hnil,hne⟩:=hs.shape
 have HX:=Hd hne
 have HC:=Hd hc0
 clear hs hne hnil hc0
 unfold maxLen at hc2
 go_enter Tryz.func190,Tryz.ntmps190
 go_wp2
 go_loopw [8] (fun k wr=>∃ (n:Nat),k=.int .i64 n/\n<=ds.length/\Below w.heap.size w wr/\(ds.take n).any (geS key)=false) (fun k _=>ds.length - (intOf k).toNat)
 case atStart=>exact ⟨0,rfl,by omega,(by repeat (with_reducible exact Below.refl _ _)),rfl⟩
 case round =>
  obtain ⟨n,rfl,hn,hbel,hany⟩:=hrel
  obtain ⟨X,rfl⟩:=hbel.ext
  have HA:=Hd hany
  clear hany
  by_cases hlt:(n:Int)<ds.length
  ·have hk:n<ds.length:=by omega
   obtain ⟨b,off,rfl,hbl,hcell⟩:=HX.out (by intro e;simp [e] at hk)
   have hc:=hcell n hk
   have hst:=zaS (geS key) ds n hk
   have hff:(ds.take n).any (geS key)=false->geS key ds[n]=true->zam (geS key) ds=n:=fun h h2=>zar (geS key) ds n hk h h2
   generalize ds[n]=d at hc hst hff
   have y0:w.cell? ⟨b,off+n,none⟩=some (.string d):=by have h:=hc 0 _ rfl;simpa [zx] using h
   clear hc hcell
   have hbl:=hbl (by decide)
   have HT:=Hd hst
   have HF:=Hd hff
   clear hst hff
   cases hm:geS key d with
   | true =>
    have HM:=Hd hm
    clear hm
    go_wp2_with fail
    (go_at_call 191;refine (zdV d key b0 _ (by simp [go_sem];try omega) (by repeat (first|exact HC.out|refine Grew.cell (Grew.ext _ _) ?_))).mono ?_;rintro e w' ⟨rfl,hb⟩;obtain ⟨X,rfl⟩:=hb.ext;clear hb)
    rw [HM.out]
    go_wp2
    go_ret
    exact ⟨by rw [HF.out HA.out HM.out];rfl,(by repeat (first|with_reducible exact Below.refl _ _|with_reducible apply Below.ofExt|with_reducible apply Below.ofAlloc|with_reducible apply Below.drew|with_reducible apply Below.ofDrewN|with_reducible assumption|(with_reducible refine Below.setCell ?_ (by first|exact Nat.le_refl _|(simp [go_sem];done)|(simp [go_sem];omega)) _)))⟩
   | false =>
    have HM:=Hd hm
    clear hm
    go_wp2_with fail
    (go_at_call 191;refine (zdV d key b0 _ (by simp [go_sem];try omega) (by repeat (first|exact HC.out|refine Grew.cell (Grew.ext _ _) ?_))).mono ?_;rintro e w' ⟨rfl,hb⟩;obtain ⟨X,rfl⟩:=hb.ext;clear hb)
    rw [HM.out]
    go_wp2
    go_roundw
    case rel=>exact ⟨n+1,by go_num,by omega,(by repeat (first|with_reducible exact Below.refl _ _|with_reducible apply Below.ofExt)),by rw [HT.out,HA.out,HM.out];rfl⟩
    case measure=>simp [intOf];omega
  ·go_wp2
   go_ret
   have e:n=ds.length:=by omega
   subst e
   have ha:=HA.out
   rw [List.take_length] at ha
   exact ⟨by rw [zaw (geS key) ds ha];rfl,(by repeat (first|with_reducible exact Below.refl _ _|with_reducible apply Below.ofExt))⟩
theorem zcN (v:Value) (ds:List ByteArray) (x:ByteArray) (B:Nat) (w:World) (ho:OwnL zx 9 w B v ds) (hl:ds.length<=549755813888) (hB:B<=w.heap.size) :
  Calls Tryz.prog 176 #[v,.string x] w fun e w'=>∃ v',e=.returned v'/\OwnL zx 9 w' B v' (zbp ds x)/\Upon v.ownBlock.toList w w'/\(∀ k,v'.ownBlock=some k->v.ownBlock=some k ∨ w.heap.size<=k):=by
 obtain ⟨ao,cap,rfl,hc1,hc2,hnil,hne⟩:=ho.rd.shape
 have HO:=Hd ho
 have HSB:=Hd hB
 have HX:=Hd hne
 have hnb:(Value.slice ao ds.length cap).ownBlock ≠ some w.heap.size:=fun e=>absurd (ho.lt _ e).2 (Nat.lt_irrefl _)
 clear ho hB hne hnil
 unfold maxLen at hc2
 cases hany:ds.any (geS x) with
 | false =>
  have HI:Hid (zam (geS x) ds = -1):=zaw _ _ hany
  have HF:Hid (zbp ds x=ds ++ [x]):=zjw hany
  clear hany
  go_enter Tryz.func176,Tryz.ntmps176
  go_wp2_with fail
  (go_at_call 190;refine (zb4 _ ds x w.heap.size _ ((HO.out.alloc _).rd) (by simp [go_sem]) (by simp [go_sem])).mono ?_;rintro e w' ⟨rfl,hb⟩;obtain ⟨X,rfl⟩:=hb.ext;clear hb)
  rw [HI.out]
  go_wp2_with (at_builtin;refine zA ?_)
  refine zas rfl _ _ _ rfl zz (B:=B) (v:=.slice ao ds.length cap) (R:=zx) (xs:=ds) (by repeat (first|exact HO.out|apply OwnL.alloc|apply OwnL.ext)) rfl (ys:=[x]) (zau zx _ x _ rfl _ _ (by simp [zn])) rfl (by simp only [List.length_singleton];omega) (by simp only [List.length_singleton];unfold maxLen;omega) (by simp [zn];have:=HSB.out;omega) ?_
  intro v4 w4 hown4 hgr4 hwh4
  have HO4:=Hd hown4
  have HU4:=Hd (Upon.trans (show Upon (Value.slice ao ds.length cap).ownBlock.toList w _ from Upon.below (by repeat (first|with_reducible exact Below.refl _ _|with_reducible apply Below.ofExt|with_reducible apply Below.ofAlloc))) (zaG hgr4))
  have HW4:Hid (∀ k,v4.ownBlock=some k->(Value.slice ao ds.length cap).ownBlock=some k ∨ w.heap.size<=k):=fun k h=>by
   rcases hwh4 with h2|h2
   ·left;rw [<- h,h2]
   ·right
    rw [h] at h2
    have h3:=Option.some.inj h2
    (try simp [zn] at h3)
    omega
  clear hown4 hgr4 hwh4
  go_wp2
  go_ret
  exact ⟨_,rfl,by rw [HF.out];exact HO4.out,HU4.out,HW4.out⟩
 | true =>
  obtain ⟨n,hn,hbef,hat⟩:=zd4 _ _ hany
  have HI:Hid (zam (geS x) ds=n):=zar _ _ n hn hbef hat
  obtain ⟨b,off,rfl,hbl,hcell⟩:=HX.out (by intro e;simp [e] at hn)
  have hc:=hcell n hn
  have hbl:=hbl (by decide)
  have hns:w.heap.size ≠ b:=by omega
  by_cases hsame:ds[n]=x
  ·have HF:Hid (zbp ds x=ds):=ziT n hn hbef hat hsame
   rw [hsame] at hc
   have y0:w.cell? ⟨b,off+n,none⟩=some (.string x):=by have h:=hc 0 _ rfl;simpa [zx] using h
   have hke:(x.toList==x.toList)=true:=by simp
   clear hany hbef hat hc hcell hsame
   go_enter Tryz.func176,Tryz.ntmps176
   go_wp2_with fail
   (go_at_call 190;refine (zb4 _ ds x w.heap.size _ ((HO.out.alloc _).rd) (by simp [go_sem]) (by simp [go_sem])).mono ?_;rintro e w' ⟨rfl,hb⟩;obtain ⟨X,rfl⟩:=hb.ext;clear hb)
   rw [HI.out]
   go_wp2_with fail
   go_quiet (fail)
   go_wp2
   go_ret
   exact ⟨_,rfl,by rw [HF.out];repeat (first|exact HO.out|apply OwnL.drew|apply OwnL.alloc|apply OwnL.ext),Upon.below (by repeat (first|with_reducible exact Below.refl _ _|with_reducible apply Below.ofExt|with_reducible apply Below.ofAlloc|with_reducible apply Below.ofDrewN)),fun k h=>.inl h⟩
  ·have HF:Hid (zbp ds x=ds.take n++x :: ds.drop n):=putS_in n hn hbef hat hsame
   generalize hd:ds[n]=d at hc hsame
   have y0:w.cell? ⟨b,off+n,none⟩=some (.string d):=by have h:=hc 0 _ rfl;simpa [zx] using h
   have hke:(d.toList==x.toList)=false:=beq_false_of_ne fun e=>hsame (by apply ByteArray.ext;apply Array.toList_inj.1;rw [<- ByteArray.toList_eq,<- ByteArray.toList_eq,e])
   clear hany hbef hat hc hcell hsame hd
   go_enter Tryz.func176,Tryz.ntmps176
   go_wp2_with fail
   (go_at_call 190;refine (zb4 _ ds x w.heap.size _ ((HO.out.alloc _).rd) (by simp [go_sem]) (by simp [go_sem])).mono ?_;rintro e w' ⟨rfl,hb⟩;obtain ⟨X,rfl⟩:=hb.ext;clear hb)
   rw [HI.out]
   go_wp2_with fail
   go_quiet (fail)
   go_wp2_with fail
   (go_at_call 192;refine (zhb _ ds n x _ B _ (by repeat (first|exact HO.out|apply OwnL.alloc|apply OwnL.ext)) (by omega) (zaF _ _ _ (by simp [zn])) (fun e=>by have:=(HO.out.lt _ e).2;omega) (by omega) (by simp [zn];have:=HSB.out;omega)).mono ?_;rintro e w2 ⟨v2,rfl,ho2,hu2,hw2⟩)
   have HO2:=Hd ho2
   have HU2:=Hd (Upon.trans (show Upon (Value.slice (some ⟨b,off,none⟩) ds.length cap).ownBlock.toList w _ from Upon.below (by repeat (first|with_reducible exact Below.refl _ _|with_reducible apply Below.ofExt|with_reducible apply Below.ofAlloc))) hu2)
   have HW2:Hid (∀ k,v2.ownBlock=some k->(Value.slice (some ⟨b,off,none⟩) ds.length cap).ownBlock=some k ∨ w.heap.size<=k):=fun k h=>by
    rcases hw2 with h2|h2
    ·left;rw [<- h,h2]
    ·right
     rw [h] at h2
     have h3:=Option.some.inj h2
     (try simp [zn] at h3)
     omega
   clear ho2 hu2 hw2
   go_wp2
   go_ret
   exact ⟨_,rfl,by rw [HF.out];exact HO2.out,HU2.out,HW2.out⟩
theorem bl1 (s:ByteArray):s.toList=s.data.toList:=ByteArray.toList_eq s
theorem cut_list (s:ByteArray) (j i:Nat):(s.extract j i).data.toList=(s.data.toList.drop j).take (i - j):=by
 rw [ByteArray.data_extract,Array.toList_extract]
theorem pow10_le {n:Nat} (h:n<=10):(10:Int) ^ n<=10 ^ 10:=by
 have hall:∀ x:Fin 11,(10:Int) ^ x.val<=10 ^ 10:=by decide
 exact hall ⟨n,by omega⟩
theorem zdK (c:UInt8) (w:World) :
  Calls Tryz.prog 172 #[.int .u8 (c.toNat:Int)] w fun e w'=>e=.returned (.int .i64 (zdx c))/\w=w':=by
 have hc:(c.toNat:Int)<=255:=by have:=c.toNat_lt;omega
 have hc0 : 0<=(c.toNat:Int):=by omega
 obtain ⟨x,hx⟩ : ∃ x,x=zdx c:=⟨_,rfl⟩
 rw [<- hx]
 unfold zdx at hx
 go_enter Tryz.func172,Tryz.ntmps172
 by_cases h1 : 48<=(c.toNat:Int)
 ·by_cases h2:(c.toNat:Int)<=57
  ·rw [if_pos ⟨h1,h2⟩] at hx
   subst hx
   go_wp2
   go_ret
   exact ⟨rfl,rfl⟩
  ·rw [if_neg (by omega)] at hx
   by_cases h3 : 97<=(c.toNat:Int)
   ·by_cases h4:(c.toNat:Int)<=102
    ·rw [if_pos ⟨h3,h4⟩] at hx
     subst hx
     go_wp2
     go_ret
     exact ⟨rfl,rfl⟩
    ·rw [if_neg (by omega)] at hx
     subst hx
     go_wp2
     go_ret
     exact ⟨rfl,rfl⟩
   ·rw [if_neg (by omega)] at hx
    subst hx
    go_wp2
    go_ret
    exact ⟨rfl,rfl⟩
 ·rw [if_neg (by omega),if_neg (by omega)] at hx
  subst hx
  go_wp2
  go_ret
  exact ⟨rfl,rfl⟩
theorem ziQ (s:ByteArray) (w:World) (hs:s.size<=1048576) :
  Calls Tryz.prog 124 #[.string s] w (UnhP s w):=by
 have hsl:s.data.toList.length=s.size:=by simp
 go_enter Tryz.func124,Tryz.ntmps124
 by_cases hb:(40000:Int)<s.size
 ·have hu:=fun q=>Unh.long (L:=s.data.toList) (.inl (by omega)) q
  have HU:=Hd hu
  clear hsl hu
  go_wp2
  refine bodyPost_ret (by simp [results,Tryz.results124,go_sem];rfl) rfl ?_
  exact UnhP.no HU.out (by repeat (with_reducible exact Below.refl _ _))
 by_cases hodd:(s.size:Int) % 2=0
 case neg =>
  have hu:=fun q=>Unh.long (L:=s.data.toList) (.inr (by omega)) q
  have HU:=Hd hu
  clear hsl hu
  go_wp2
  refine bodyPost_ret (by simp [results,Tryz.results124,go_sem];rfl) rfl ?_
  exact UnhP.no HU.out (by repeat (with_reducible exact Below.refl _ _))
 go_wp2
 go_loopw [4,5,6,7] (fun o k _ _ wr=>∃ (m:Nat) (l:List UInt8),k=.int .i64 (2*m:Nat)/\2*m<=s.size/\Below w.heap.size w wr/\OwnB 5 wr w.heap.size o l/\l.length=m/\UnhTo s.data.toList l m) (fun _ k _ _ _=>s.size - (intOf k).toNat)
 case atStart=>exact ⟨0,[],rfl,by omega,(by repeat (first|with_reducible exact Below.refl _ _|with_reducible apply Below.ofAlloc)),OwnB.empty _ _,rfl,UnhTo.nil _⟩
 case round =>
  obtain ⟨m,l,rfl,hn,hbel,ho,hll,hu⟩:=hrel
  obtain ⟨X,rfl⟩:=hbel.ext
  subst hll
  have HU:=Hd hu
  have HSL:=Hd hsl
  clear hu hsl
  by_cases hlt:((2*l.length:Nat):Int)<s.size
  case pos =>
   have hk : 2*l.length+1<s.data.toList.length:=by rw [HSL.out];omega
   have hk1 : 2*l.length<s.size:=by omega
   have hk2 : 2*l.length+1<s.size:=by omega
   have hv1:=zgx s[2*l.length]
   have hv2:=zgx s[2*l.length+1]
   have e1:s.data.toList[2*l.length]'(by omega)=s[2*l.length]:=rfl
   have e2:s.data.toList[2*l.length+1]'hk=s[2*l.length+1]:=rfl
   obtain ⟨oa,oc,rfl⟩:=ho.form
   have HO:=Hd ho
   clear ho
   have hc1:(s[2*l.length].toNat:Int)<=255:=by have:=s[2*l.length].toNat_lt;omega
   have hc2:(s[2*l.length+1].toNat:Int)<=255:=by have:=s[2*l.length+1].toNat_lt;omega
   have HB:=Hd (fun h r=>UnhTo.bad (L:=s.data.toList) hk h r)
   have HST:=Hd (fun c hc h1 h2=>UnhTo.step HU.out hk (c:=c) hc h1 h2)
   rw [e1,e2] at HB HST
   go_wp2_with fail
   (go_at_call 172;refine (zdK _ _).mono ?_;rintro e w' ⟨rfl,rfl⟩)
   go_wp2_with fail
   (go_at_call 172;refine (zdK _ _).mono ?_;rintro e w' ⟨rfl,rfl⟩)
   obtain ⟨cc,hcc⟩ : ∃ cc:UInt8,0<=zdx s[2*l.length]->0<=zdx s[2*l.length+1]->(cc.toNat:Int)=16*zdx s[2*l.length]+zdx s[2*l.length+1]:=by
    refine ⟨UInt8.ofNat (16*zdx s[2*l.length]+zdx s[2*l.length+1]).toNat,fun h1 h2=>?_⟩
    rw [UInt8.toNat_ofNat']
    omega
   generalize hxe:zdx s[2*l.length]=x at *
   generalize hye:zdx s[2*l.length+1]=y at *
   have HXE:=Hd hxe
   have HYE:=Hd hye
   clear hxe hye
   have HCC:=Hd hcc
   clear hcc
   by_cases hx:x<0
   ·go_wp2
    refine bodyPost_ret (by simp [results,Tryz.results124,go_sem];rfl) rfl ?_
    exact UnhP.no (HB.out (.inl hx)) (by repeat (first|with_reducible exact Below.refl _ _|with_reducible apply Below.ofExt))
   by_cases hy:y<0
   ·go_wp2
    refine bodyPost_ret (by simp [results,Tryz.results124,go_sem];rfl) rfl ?_
    exact UnhP.no (HB.out (.inr hy)) (by repeat (first|with_reducible exact Below.refl _ _|with_reducible apply Below.ofExt))
   have hcc:=HCC.out (by omega) (by omega)
   go_wp2_with (at_builtin;refine zA ?_)
   refine zdl _ zbj rfl (.tmp 39) (.tmp 45) rfl (B:=w.heap.size) (l:=l) (m:=[cc]) (HO.out.alloc _) rfl (zio _ cc (16*x+y) hcc.symm _ _ (by simp [zn])) rfl (by simp;omega) (by simp [zn];omega) ?_
   intro v4 w4 ho4 hg4
   have hb4:Below w.heap.size w w4:=Below.appB (by repeat (first|with_reducible exact Below.refl _ _|with_reducible apply Below.ofExt|with_reducible apply Below.ofAlloc)) hg4 (HO.out.alloc _)
   obtain ⟨Y,rfl⟩:=hb4.ext
   have HO4:=Hd ho4
   clear ho4 hg4 hb4
   have hstep:=HST.out cc hcc (by first|omega|(rw [e1,HXE.out];omega)) (by first|omega|(rw [e2,HYE.out];omega))
   have HSTEP:=Hd hstep
   clear hstep
   go_wp2
   go_roundw
   case rel=>exact ⟨l.length+1,_,by go_num,by omega,(by repeat (first|with_reducible exact Below.refl _ _|with_reducible apply Below.ofExt)),HO4.out,by simp,HSTEP.out⟩
   case measure=>simp [intOf];omega
  case neg =>
   have e:s.size<=2*l.length:=by omega
   have hua:=UnhTo.all HU.out (by rw [HSL.out];exact e)
   have HUA:=Hd hua
   have hub:=UnhTo.back HU.out (by rw [HSL.out];exact e)
   have HUB:=Hd hub
   clear hub
   have hr:=zaB (P:=Tryz.prog) (w.ext X) zbj Tryz.underlying9 ho.sl
   have hsz:(zT l).size<=20000:=by rw [zU];omega
   have HSZ:=Hd hsz
   obtain ⟨oa,oc,rfl⟩:=ho.form
   clear ho hua hsz
   go_wp2
   refine bodyPost_ret (by simp [results,Tryz.results124,go_sem];rfl) rfl ?_
   exact UnhP.mk HSZ.out HUA.out (by repeat (first|with_reducible exact Below.refl _ _|with_reducible apply Below.ofExt)) HUB.out
theorem zeS (s:ByteArray) (w:World) (hs:s.size<=1048576) :
  Calls Tryz.prog 174 #[.string s] w (NumP s w):=by
 have hsl:s.data.toList.length=s.size:=by simp
 go_enter Tryz.func174,Tryz.ntmps174
 by_cases hb:(10:Int)<s.size
 ·have hu:=Num.long (l:=s.data.toList) (by omega)
  clear hsl
  go_wp2
  refine bodyPost_ret (by simp [results,Tryz.results174,go_sem];rfl) rfl ?_
  exact NumP.no hu (by repeat (with_reducible exact Below.refl _ _))
 go_wp2
 go_loopw [4,5] (fun o k wr=>∃ (m:Nat) (n:Int),k=.int .i64 m/\m<=s.size/\Below w.heap.size w wr/\o=.int .i64 n/\n=zg2 (s.data.toList.take m)/\∀ c ∈ s.data.toList.take m,zi3 c) (fun _ k _=>s.size - (intOf k).toNat)
 case atStart=>exact ⟨0,0,rfl,by omega,(by repeat (with_reducible exact Below.refl _ _)),rfl,by simp [zg2],by simp⟩
 case round =>
  obtain ⟨m,n,rfl,hn,hbel,rfl,hv,hd⟩:=hrel
  obtain ⟨X,rfl⟩:=hbel.ext
  have hbd:=valD_bd _ hd
  rw [<- hv] at hbd
  have hp:(10:Int) ^ (s.data.toList.take m).length<=10 ^ 10:=pow10_le (by rw [List.length_take];omega)
  have hn0:=hbd.1
  have hn1:n<10000000000:=Int.lt_of_lt_of_le hbd.2 hp
  have HV:=Hd hv
  have HD:=Hd hd
  have HSL:=Hd hsl
  clear hv hd hbd hp hsl
  by_cases hlt:(m:Int)<s.size
  case pos =>
   have hk:m<s.data.toList.length:=by rw [HSL.out];omega
   have hk1:m<s.size:=by omega
   have e1:s.data.toList[m]'hk=s[m]:=rfl
   have hst:=zg7 (s.data.toList.take m) (s.data.toList[m]'hk)
   rw [<- List.take_succ_eq_append_getElem hk,<- HV.out,e1] at hst
   have hmem:s[m] ∈ s.data.toList:=by rw [<- e1];exact List.getElem_mem hk
   have HST:=Hd hst
   have HM:=Hd hmem
   clear hst hmem
   have hc1:(s[m].toNat:Int)<=255:=by have:=s[m].toNat_lt;omega
   have hc0 : 0<=(s[m].toNat:Int):=by omega
   by_cases h1:(s[m].toNat:Int)<48
   ·have hu:=Num.bad HM.out (by unfold zi3;omega)
    have HUN:=Hd hu
    clear hu
    go_wp2
    refine bodyPost_ret (by simp [results,Tryz.results174,go_sem];rfl) rfl ?_
    exact NumP.no HUN.out (by repeat (first|with_reducible exact Below.refl _ _|with_reducible apply Below.ofExt))
   by_cases h2:(57:Int)<s[m].toNat
   ·have hu:=Num.bad HM.out (by unfold zi3;omega)
    have HUN:=Hd hu
    clear hu
    go_wp2
    refine bodyPost_ret (by simp [results,Tryz.results174,go_sem];rfl) rfl ?_
    exact NumP.no HUN.out (by repeat (first|with_reducible exact Below.refl _ _|with_reducible apply Below.ofExt))
   have hd2:∀ c ∈ s.data.toList.take (m+1),zi3 c:=by
    rw [List.take_succ_eq_append_getElem hk,e1]
    intro c hc
    rcases List.mem_append.1 hc with hc|hc
    ·exact HD.out c hc
    ·rw [List.mem_singleton.1 hc]
     unfold zi3
     omega
   have HD2:=Hd hd2
   clear hd2 e1
   go_wp2
   go_roundw
   case rel=>exact ⟨m+1,_,by go_num,by omega,(by repeat (first|with_reducible exact Below.refl _ _|with_reducible apply Below.ofExt)),rfl,by rw [HST.out];omega,HD2.out⟩
   case measure=>simp [intOf];omega
  case neg =>
   have e:m=s.size:=by omega
   have hv2:n=zg2 s.data.toList:=by have:=HV.out;rw [List.take_of_length_le (by rw [HSL.out];omega)] at this;exact this
   have HV2:=Hd hv2
   clear hv2
   by_cases h1 : 1000000000<n
   ·have hu:=Num.other HV2.out (.inl h1)
    have HUN:=Hd hu
    clear hu
    go_wp2
    refine bodyPost_ret (by simp [results,Tryz.results174,go_sem];rfl) rfl ?_
    exact NumP.no HUN.out (by repeat (first|with_reducible exact Below.refl _ _|with_reducible apply Below.ofExt))
   go_wp2_with fail
   (go_at_call 136;refine (zbn n _ (by omega) (by omega)).mono ?_;rintro e w' ⟨rfl,hb⟩;obtain ⟨X,rfl⟩:=hb.ext;clear hb)
   by_cases he:Lib.itoa n=s.data.toList
   ·have hu:=Num.good hn0 (by omega) HV2.out
    have HUN:=Hd hu
    have HE:=Hd he
    have heq:zT (Lib.itoa n)=s:=by rw [he,zaP]
    clear hu he
    rw [heq]
    go_wp2
    refine bodyPost_ret (by simp [results,Tryz.results174,go_sem];rfl) rfl ?_
    exact NumP.mk HUN.out (by repeat (first|with_reducible exact Below.refl _ _|with_reducible apply Below.ofExt)) HE.out
   ·have hu:=Num.other HV2.out (.inr he)
    have HUN:=Hd hu
    have heq:(((zT (Lib.itoa n)).toList==s.toList))=false:=by
     rw [beq_eq_false_iff_ne,bl1,bl1]
     exact fun e=>he (by rw [<- e,zga])
    clear hu he
    go_wp2
    refine bodyPost_ret (by simp [results,Tryz.results174,go_sem];rfl) rfl ?_
    exact NumP.no HUN.out (by repeat (first|with_reducible exact Below.refl _ _|with_reducible apply Below.ofExt))
theorem zgG {α : Type} {R:RowOf α} {e:TypeId} {w w':World} {B:Nat} {v:Value} {xs:List α} (h:OwnL R e w B v xs) (hb:Below w.heap.size w w'):OwnL R e w' B v xs:=by
 obtain ⟨X,rfl⟩:=hb.ext
 exact h.ext X
def RrP (s:ByteArray) (w:World) (e:Ending) (w':World):Prop:=∃ n v b cs,e=.returned (.tuple #[.int .i64 n,v,.bool b])/\OwnL zu 66 w' w.heap.size v cs/\RrOk s n b cs/\Below w.heap.size w w'
theorem RrP.mk {s:ByteArray} {n:Int} {v:Value} {b:Bool} {cs:List CellD} {w w':World} (h1:OwnL zu 66 w' w.heap.size v cs) (h2:RrOk s n b cs) (h3:Below w.heap.size w w'):RrP s w (.returned (.tuple #[.int .i64 n,v,.bool b])) w':=⟨n,v,b,cs,rfl,h1,h2,h3⟩
end Go.Proofs.YtodokkpnafabpaaGreatDoor
namespace Go.Proofs.YtodokkpnafabpaaGreatDoor
open Go.Proofs Go.RowKit Go.Shelf Go.Lib
def Tryz.laysM171_ren:Go.Shelf.Ren:=⟨fun|171=>162|243=>187|246=>206|283=>219|284=>220|285=>221|286=>222|129=>233|317=>232|318=>234|319=>235|320=>236|337=>242|338=>243|n=>n,fun|3=>3|9=>9|2=>2|4=>4|171=>204|0=>0|53=>205|37=>99|5=>5|173=>208|212=>219|51=>220|20=>20|213=>221|46=>211|232=>237|233=>238|n=>n,fun|17=>0|18=>4|19=>5|n=>n⟩
theorem Tryz.laysM171:Go.Proofs.LaysM.n171 Tryz.prog Tryz.laysM171_ren:={
 mixed:=by kernel_rfl
 f129:=Tryz.func233.trans (congrArg some (by kernel_rfl))
 f171:=Tryz.func162.trans (congrArg some (by kernel_rfl))
 f243:=Tryz.func187.trans (congrArg some (by kernel_rfl))
 f246:=Tryz.func206.trans (congrArg some (by kernel_rfl))
 f283:=Tryz.func219.trans (congrArg some (by kernel_rfl))
 f284:=Tryz.func220.trans (congrArg some (by kernel_rfl))
 f285:=Tryz.func221.trans (congrArg some (by kernel_rfl))
 f286:=Tryz.func222.trans (congrArg some (by kernel_rfl))
 f317:=Tryz.func232.trans (congrArg some (by kernel_rfl))
 f318:=Tryz.func234.trans (congrArg some (by kernel_rfl))
 f319:=Tryz.func235.trans (congrArg some (by kernel_rfl))
 f320:=Tryz.func236.trans (congrArg some (by kernel_rfl))
 f337:=Tryz.func242.trans (congrArg some (by kernel_rfl))
 f338:=Tryz.func243.trans (congrArg some (by kernel_rfl))
 t0:=Tryz.underlying0
 a0:=Tryz.isAgg0
 z0:=Tryz.sizeOf0
 v0:=Tryz.zeroValue0
 t2:=Tryz.underlying2
 a2:=Tryz.isAgg2
 z2:=Tryz.sizeOf2
 v2:=Tryz.zeroValue2
 t3:=Tryz.underlying3
 a3:=Tryz.isAgg3
 z3:=Tryz.sizeOf3
 v3:=Tryz.zeroValue3
 t4:=Tryz.underlying4
 a4:=Tryz.isAgg4
 z4:=Tryz.sizeOf4
 v4:=Tryz.zeroValue4
 t5:=Tryz.underlying5
 a5:=Tryz.isAgg5
 z5:=Tryz.sizeOf5
 v5:=Tryz.zeroValue5
 t9:=Tryz.underlying9
 a9:=Tryz.isAgg9
 z9:=Tryz.sizeOf9
 v9:=Tryz.zeroValue9
 t20:=Tryz.underlying20
 a20:=Tryz.isAgg20
 z20:=Tryz.sizeOf20
 v20:=Tryz.zeroValue20
 t37:=Tryz.underlying99
 a37:=Tryz.isAgg99
 z37:=Tryz.sizeOf99
 v37:=Tryz.zeroValue99
 t46:=Tryz.underlying211
 a46:=Tryz.isAgg211
 z46:=Tryz.sizeOf211
 v46:=Tryz.zeroValue211
 t51:=Tryz.underlying220
 a51:=Tryz.isAgg220
 z51:=Tryz.sizeOf220
 v51:=Tryz.zeroValue220
 t53:=Tryz.underlying205
 a53:=Tryz.isAgg205
 z53:=Tryz.sizeOf205
 v53:=Tryz.zeroValue205
 t171:=Tryz.underlying204
 a171:=Tryz.isAgg204
 z171:=Tryz.sizeOf204
 v171:=Tryz.zeroValue204
 t173:=Tryz.underlying208
 a173:=Tryz.isAgg208
 z173:=Tryz.sizeOf208
 v173:=Tryz.zeroValue208
 t212:=Tryz.underlying219
 a212:=Tryz.isAgg219
 z212:=Tryz.sizeOf219
 v212:=Tryz.zeroValue219
 t213:=Tryz.underlying221
 a213:=Tryz.isAgg221
 z213:=Tryz.sizeOf221
 t232:=Tryz.underlying237
 a232:=Tryz.isAgg237
 z232:=Tryz.sizeOf237
 v232:=Tryz.zeroValue237
 t233:=Tryz.underlying238
 a233:=Tryz.isAgg238
 z233:=Tryz.sizeOf238
 v233:=Tryz.zeroValue238
 g17:=by kernel_rfl
 g18:=by kernel_rfl
 g19:=by kernel_rfl
 i0:=by kernel_rfl
 i2:=by kernel_rfl
 i3:=by kernel_rfl
 i4:=by kernel_rfl
 i5:=by kernel_rfl
 i9:=by kernel_rfl
 i20:=by kernel_rfl
 i37:=by kernel_rfl
 i46:=by kernel_rfl
 i51:=by kernel_rfl
 i53:=by kernel_rfl
 i171:=by kernel_rfl
 i173:=by kernel_rfl
 i212:=by kernel_rfl
 i232:=by kernel_rfl
 i233:=by kernel_rfl
 m17:=by kernel_rfl
 m18:=by kernel_rfl
 m19:=by kernel_rfl }
open Go.RowKit Go.Sort Go.Lib in
theorem Tryz.strconv_Itoa (n : Int) (h0 : -9223372036854775808 <= n) (h1 : n <= 9223372036854775807) (w : World) (htab : Lib.TabIs Tryz.prog w "internal/strconv.uint64pow10" .u64 Lib.pow10Tab) :
  Calls Tryz.prog 162 #[.int .i64 n] w fun e w'=>e=.returned (.string ⟨(Lib.itoa n).toArray⟩)/\∃ k os,w'=grow (w.drewN k) os:=Any.strconv_Itoa Tryz.laysM171 n h0 h1 w htab
def Tryz.laysC172_ren:Go.Shelf.Ren:=⟨fun|172=>205|244=>217|245=>218|247=>227|279=>228|280=>229|281=>230|282=>231|287=>239|316=>240|171=>162|205=>241|321=>244|322=>245|243=>187|246=>206|283=>219|284=>220|285=>221|286=>222|129=>233|317=>232|318=>234|319=>235|320=>236|337=>242|338=>243|n=>n,fun|9=>9|3=>3|75=>194|76=>195|4=>4|5=>5|167=>212|37=>99|0=>0|85=>213|2=>2|168=>215|53=>205|175=>226|46=>211|210=>229|127=>233|145=>236|143=>234|21=>21|171=>204|173=>208|212=>219|51=>220|20=>20|213=>221|232=>237|233=>238|80=>241|n=>n,fun|15=>2|16=>3|17=>0|18=>4|19=>5|n=>n⟩
theorem zcv:Go.Proofs.LaysC.n172 Tryz.prog Tryz.laysC172_ren:={
 mixed:=by kernel_rfl
 f129:=Tryz.func233.trans (congrArg some (by kernel_rfl))
 f171:=Tryz.func162.trans (congrArg some (by kernel_rfl))
 f172:=Tryz.func205.trans (congrArg some (by kernel_rfl))
 f205:=Tryz.func241.trans (congrArg some (by kernel_rfl))
 f243:=Tryz.func187.trans (congrArg some (by kernel_rfl))
 f244:=Tryz.func217.trans (congrArg some (by kernel_rfl))
 f245:=Tryz.func218.trans (congrArg some (by kernel_rfl))
 f246:=Tryz.func206.trans (congrArg some (by kernel_rfl))
 f247:=Tryz.func227.trans (congrArg some (by kernel_rfl))
 f279:=Tryz.func228.trans (congrArg some (by kernel_rfl))
 f280:=Tryz.func229.trans (congrArg some (by kernel_rfl))
 f281:=Tryz.func230.trans (congrArg some (by kernel_rfl))
 f282:=Tryz.func231.trans (congrArg some (by kernel_rfl))
 f283:=Tryz.func219.trans (congrArg some (by kernel_rfl))
 f284:=Tryz.func220.trans (congrArg some (by kernel_rfl))
 f285:=Tryz.func221.trans (congrArg some (by kernel_rfl))
 f286:=Tryz.func222.trans (congrArg some (by kernel_rfl))
 f287:=Tryz.func239.trans (congrArg some (by kernel_rfl))
 f316:=Tryz.func240.trans (congrArg some (by kernel_rfl))
 f317:=Tryz.func232.trans (congrArg some (by kernel_rfl))
 f318:=Tryz.func234.trans (congrArg some (by kernel_rfl))
 f319:=Tryz.func235.trans (congrArg some (by kernel_rfl))
 f320:=Tryz.func236.trans (congrArg some (by kernel_rfl))
 f321:=Tryz.func244.trans (congrArg some (by kernel_rfl))
 f322:=Tryz.func245.trans (congrArg some (by kernel_rfl))
 f337:=Tryz.func242.trans (congrArg some (by kernel_rfl))
 f338:=Tryz.func243.trans (congrArg some (by kernel_rfl))
 t0:=Tryz.underlying0
 a0:=Tryz.isAgg0
 z0:=Tryz.sizeOf0
 v0:=Tryz.zeroValue0
 t2:=Tryz.underlying2
 a2:=Tryz.isAgg2
 z2:=Tryz.sizeOf2
 v2:=Tryz.zeroValue2
 t3:=Tryz.underlying3
 a3:=Tryz.isAgg3
 z3:=Tryz.sizeOf3
 v3:=Tryz.zeroValue3
 t4:=Tryz.underlying4
 a4:=Tryz.isAgg4
 z4:=Tryz.sizeOf4
 v4:=Tryz.zeroValue4
 t5:=Tryz.underlying5
 a5:=Tryz.isAgg5
 z5:=Tryz.sizeOf5
 v5:=Tryz.zeroValue5
 t9:=Tryz.underlying9
 a9:=Tryz.isAgg9
 z9:=Tryz.sizeOf9
 v9:=Tryz.zeroValue9
 t20:=Tryz.underlying20
 a20:=Tryz.isAgg20
 z20:=Tryz.sizeOf20
 v20:=Tryz.zeroValue20
 t21:=Tryz.underlying21
 a21:=Tryz.isAgg21
 z21:=Tryz.sizeOf21
 v21:=Tryz.zeroValue21
 t37:=Tryz.underlying99
 a37:=Tryz.isAgg99
 z37:=Tryz.sizeOf99
 v37:=Tryz.zeroValue99
 t46:=Tryz.underlying211
 a46:=Tryz.isAgg211
 z46:=Tryz.sizeOf211
 v46:=Tryz.zeroValue211
 t51:=Tryz.underlying220
 a51:=Tryz.isAgg220
 z51:=Tryz.sizeOf220
 v51:=Tryz.zeroValue220
 t53:=Tryz.underlying205
 a53:=Tryz.isAgg205
 z53:=Tryz.sizeOf205
 v53:=Tryz.zeroValue205
 t75:=Tryz.underlying194
 a75:=Tryz.isAgg194
 z75:=Tryz.sizeOf194
 v75:=Tryz.zeroValue194
 t76:=Tryz.underlying195
 a76:=Tryz.isAgg195
 z76:=Tryz.sizeOf195
 v76:=Tryz.zeroValue195
 t85:=Tryz.underlying213
 a85:=Tryz.isAgg213
 z85:=Tryz.sizeOf213
 v85:=Tryz.zeroValue213
 t127:=Tryz.underlying233
 a127:=Tryz.isAgg233
 z127:=Tryz.sizeOf233
 v127:=Tryz.zeroValue233
 t143:=Tryz.underlying234
 a143:=Tryz.isAgg234
 z143:=Tryz.sizeOf234
 v143:=Tryz.zeroValue234
 t145:=Tryz.underlying236
 a145:=Tryz.isAgg236
 z145:=Tryz.sizeOf236
 v145:=Tryz.zeroValue236
 t167:=Tryz.underlying212
 a167:=Tryz.isAgg212
 z167:=Tryz.sizeOf212
 v167:=Tryz.zeroValue212
 t168:=Tryz.underlying215
 a168:=Tryz.isAgg215
 z168:=Tryz.sizeOf215
 v168:=Tryz.zeroValue215
 t171:=Tryz.underlying204
 a171:=Tryz.isAgg204
 z171:=Tryz.sizeOf204
 v171:=Tryz.zeroValue204
 t173:=Tryz.underlying208
 a173:=Tryz.isAgg208
 z173:=Tryz.sizeOf208
 v173:=Tryz.zeroValue208
 t175:=Tryz.underlying226
 a175:=Tryz.isAgg226
 z175:=Tryz.sizeOf226
 v175:=Tryz.zeroValue226
 t210:=Tryz.underlying229
 a210:=Tryz.isAgg229
 z210:=Tryz.sizeOf229
 v210:=Tryz.zeroValue229
 t212:=Tryz.underlying219
 a212:=Tryz.isAgg219
 z212:=Tryz.sizeOf219
 v212:=Tryz.zeroValue219
 t213:=Tryz.underlying221
 a213:=Tryz.isAgg221
 z213:=Tryz.sizeOf221
 t232:=Tryz.underlying237
 a232:=Tryz.isAgg237
 z232:=Tryz.sizeOf237
 v232:=Tryz.zeroValue237
 t233:=Tryz.underlying238
 a233:=Tryz.isAgg238
 z233:=Tryz.sizeOf238
 v233:=Tryz.zeroValue238
 g15:=by kernel_rfl
 g16:=by kernel_rfl
 g17:=by kernel_rfl
 g18:=by kernel_rfl
 g19:=by kernel_rfl
 t80:=Tryz.underlying241
 a80:=Tryz.isAgg241
 z80:=Tryz.sizeOf241
 v80:=Tryz.zeroValue241
 i0:=by kernel_rfl
 i2:=by kernel_rfl
 i3:=by kernel_rfl
 i4:=by kernel_rfl
 i5:=by kernel_rfl
 i9:=by kernel_rfl
 i20:=by kernel_rfl
 i21:=by kernel_rfl
 i37:=by kernel_rfl
 i46:=by kernel_rfl
 i51:=by kernel_rfl
 i53:=by kernel_rfl
 i75:=by kernel_rfl
 i76:=by kernel_rfl
 i80:=by kernel_rfl
 i85:=by kernel_rfl
 i127:=by kernel_rfl
 i143:=by kernel_rfl
 i145:=by kernel_rfl
 i167:=by kernel_rfl
 i168:=by kernel_rfl
 i171:=by kernel_rfl
 i173:=by kernel_rfl
 i175:=by kernel_rfl
 i210:=by kernel_rfl
 i212:=by kernel_rfl
 i232:=by kernel_rfl
 i233:=by kernel_rfl
 m15:=by kernel_rfl
 m16:=by kernel_rfl
 m17:=by kernel_rfl
 m18:=by kernel_rfl
 m19:=by kernel_rfl
 c0:=by kernel_rfl
 c2:=by kernel_rfl
 c3:=by kernel_rfl
 c4:=by kernel_rfl
 c5:=by kernel_rfl
 c9:=by kernel_rfl
 c20:=by kernel_rfl
 c21:=by kernel_rfl
 c37:=by kernel_rfl
 c46:=by kernel_rfl
 c51:=by kernel_rfl
 c53:=by kernel_rfl
 c75:=by kernel_rfl
 c76:=by kernel_rfl
 c80:=by kernel_rfl
 c85:=by kernel_rfl
 c127:=by kernel_rfl
 c143:=by kernel_rfl
 c145:=by kernel_rfl
 c167:=by kernel_rfl
 c168:=by kernel_rfl
 c171:=by kernel_rfl
 c173:=by kernel_rfl
 c175:=by kernel_rfl
 c210:=by kernel_rfl
 c212:=by kernel_rfl
 c213:=by kernel_rfl
 c232:=by kernel_rfl
 c233:=by kernel_rfl }
open Go.RowKit in
theorem Tryz.strconv_Atoi_ok (s:ByteArray) (hmax:s.size<=9223372036854775806) (v:Int) (h:Lib.atoiAll s.data.toList=.ok v) (w:World) :
  Calls Tryz.prog 205 #[.string s] w fun e w'=>e=.returned (.tuple #[.int .i64 v,.nilIface])/\(w'=w ∨ ∃ t,w'=Lib.bytesWorld w 5 t):=Any.strconv_Atoi_ok zcv s hmax v h w
open Go.RowKit in
theorem Tryz.strconv_Atoi_syntax (s:ByteArray) (hlim:s.size<=281474976710656) (h:Lib.atoiAll s.data.toList=Lib.atoiAll []) (ev:Value) (w:World) (hv:w.cell? ⟨2,0,none⟩=some ev) (hev:ev=.nilIface ∨ ∃ te pe,ev=.iface te pe) :
  Calls Tryz.prog 205 #[.string s] w fun e w'=>∃ N,e=.returned (.tuple #[.int .i64 (0),.iface 215 (.pointer (some ⟨N,0,none⟩))])/\w.heap.size<=N/\w'.heap[N]?=some (.cells #[.string ⟨#[65,116,111,105]⟩,.string s,ev] 229 (0,0))/\Below w.heap.size w w':=Any.strconv_Atoi_syntax zcv s hlim h ev w hv hev
open Go.RowKit in
theorem Tryz.strconv_Atoi_range (s:ByteArray) (hlim:s.size<=281474976710656) (h:Lib.atoiAll s.data.toList=.range) (ev:Value) (w:World) (hv:w.cell? ⟨3,0,none⟩=some ev) (hev:ev=.nilIface ∨ ∃ te pe,ev=.iface te pe) :
  Calls Tryz.prog 205 #[.string s] w fun e w'=>∃ N,e=.returned (.tuple #[.int .i64 (Lib.atoiSat s.data.toList),.iface 215 (.pointer (some ⟨N,0,none⟩))])/\w.heap.size<=N/\w'.heap[N]?=some (.cells #[.string ⟨#[65,116,111,105]⟩,.string s,ev] 229 (0,0))/\Below w.heap.size w w':=Any.strconv_Atoi_range zcv s hlim h ev w hv hev
def Tryz.laysPah39_ren:Go.Shelf.Ren:=⟨fun|39=>201|41=>213|40=>214|n=>n,fun|30=>99|9=>9|3=>3|0=>0|5=>5|46=>211|n=>n,fun|n=>n⟩
theorem zdk:Go.Proofs.Lays.ph39 Tryz.prog Tryz.laysPah39_ren:={
 mixed:=by kernel_rfl
 f39:=Tryz.func201.trans (congrArg some (by kernel_rfl))
 f40:=Tryz.func214.trans (congrArg some (by kernel_rfl))
 f41:=Tryz.func213.trans (congrArg some (by kernel_rfl))
 t0:=Tryz.underlying0
 a0:=Tryz.isAgg0
 z0:=Tryz.sizeOf0
 v0:=Tryz.zeroValue0
 t3:=Tryz.underlying3
 a3:=Tryz.isAgg3
 z3:=Tryz.sizeOf3
 v3:=Tryz.zeroValue3
 t5:=Tryz.underlying5
 a5:=Tryz.isAgg5
 z5:=Tryz.sizeOf5
 v5:=Tryz.zeroValue5
 t9:=Tryz.underlying9
 a9:=Tryz.isAgg9
 z9:=Tryz.sizeOf9
 v9:=Tryz.zeroValue9
 t30:=Tryz.underlying99
 a30:=Tryz.isAgg99
 z30:=Tryz.sizeOf99
 v30:=Tryz.zeroValue99
 t46:=Tryz.underlying211
 a46:=Tryz.isAgg211
 z46:=Tryz.sizeOf211
 v46:=Tryz.zeroValue211
 info5:=by kernel_rfl }
open Go.RowKit Go.Lib in
theorem Tryz.hex_EncodeToString_nil (w:World) :
  Calls Tryz.prog 201 #[.slice none 0 0] w fun e w'=>e=.returned (.string ⟨#[]⟩)/\Below w.heap.size w w':=Any.hex_EncodeToString_nil zdk w
def Tryz.laysPah43_ren:Go.Shelf.Ren:=⟨fun|43=>212|42=>225|44=>226|n=>n,fun|9=>9|30=>99|35=>194|3=>3|38=>195|4=>4|0=>0|5=>5|47=>225|46=>211|45=>241|n=>n,fun|0=>1|n=>n⟩
theorem Tryz.laysPah43:Go.Proofs.Lays.ph43 Tryz.prog Tryz.laysPah43_ren:={
 mixed:=by kernel_rfl
 f42:=Tryz.func225.trans (congrArg some (by kernel_rfl))
 f43:=Tryz.func212.trans (congrArg some (by kernel_rfl))
 f44:=Tryz.func226.trans (congrArg some (by kernel_rfl))
 t0:=Tryz.underlying0
 a0:=Tryz.isAgg0
 z0:=Tryz.sizeOf0
 v0:=Tryz.zeroValue0
 t3:=Tryz.underlying3
 a3:=Tryz.isAgg3
 z3:=Tryz.sizeOf3
 v3:=Tryz.zeroValue3
 t4:=Tryz.underlying4
 a4:=Tryz.isAgg4
 z4:=Tryz.sizeOf4
 v4:=Tryz.zeroValue4
 t5:=Tryz.underlying5
 a5:=Tryz.isAgg5
 z5:=Tryz.sizeOf5
 v5:=Tryz.zeroValue5
 t9:=Tryz.underlying9
 a9:=Tryz.isAgg9
 z9:=Tryz.sizeOf9
 v9:=Tryz.zeroValue9
 t30:=Tryz.underlying99
 a30:=Tryz.isAgg99
 z30:=Tryz.sizeOf99
 v30:=Tryz.zeroValue99
 t35:=Tryz.underlying194
 a35:=Tryz.isAgg194
 z35:=Tryz.sizeOf194
 v35:=Tryz.zeroValue194
 t38:=Tryz.underlying195
 a38:=Tryz.isAgg195
 z38:=Tryz.sizeOf195
 v38:=Tryz.zeroValue195
 t45:=Tryz.underlying241
 a45:=Tryz.isAgg241
 z45:=Tryz.sizeOf241
 v45:=Tryz.zeroValue241
 t46:=Tryz.underlying211
 a46:=Tryz.isAgg211
 z46:=Tryz.sizeOf211
 v46:=Tryz.zeroValue211
 t47:=Tryz.underlying225
 a47:=Tryz.isAgg225
 z47:=Tryz.sizeOf225
 v47:=Tryz.zeroValue225
 g0:=by kernel_rfl
 info5:=by kernel_rfl }
open Go.RowKit Go.Lib in
theorem Tryz.hex_DecodeString_owns (s:ByteArray) (w:World) (ev:Value) (hE:w.cell? ⟨1,0,none⟩=some ev) (hbig:s.size<=281474976710656) :
  Calls Tryz.prog 212 #[.string s] w fun e w'=>∃ v,e=.returned (.tuple #[v,Hx.errVal 225 ev (Hx.decode s.data.toList).2]) /\
   w'.ownsRow w.heap.size 5 1 v (Hx.decode s.data.toList).1.length ((Hx.decode s.data.toList).1.map fun b=>Value.int .u8 (b.toNat:Int))/\Below w.heap.size w w':=Any.hex_DecodeString_owns Tryz.laysPah43 s w ev hE hbig
open Go.RowKit Go.Lib in
theorem Tryz.hex_EncodeToString_bytes (bs os cs:Nat) (l:List UInt8) (w:World) (hsrc:∀ i (h:i<l.length),w.cell? ⟨bs,os+i,none⟩=some (.int .u8 ((l[i]'h).toNat:Int))) (hb:bs<w.heap.size) (hbig : 2*l.length<=281474976710656) :
  Calls Tryz.prog 201 #[.slice (some ⟨bs,os,none⟩) l.length cs] w fun e w'=>e=.returned (.string ⟨(Hx.encode l).toArray⟩)/\Below w.heap.size w w':=Any.hex_EncodeToString_bytes zdk bs os cs l w hsrc hb hbig
theorem _root_.Go.RowKit.Below.ofGrow {w:World} (k:Nat) (os:Array Obj):Below w.heap.size w (Sort.grow (w.drewN k) os):=by
 refine ⟨rfl,rfl,rfl,?_,fun i hi=>?_⟩
 ·simp [Sort.grow,World.drewN]
 ·simp only [Sort.grow,World.drewN]
  rw [Array.getElem?_append_left hi]
def Tab10 (w : World) : Prop := Lib.TabIs Tryz.prog w "internal/strconv.uint64pow10" .u64 Lib.pow10Tab
theorem Tab10.below {w w':World} (h:Tab10 w) (hb:Below w.heap.size w w'):Tab10 w':=Go.Lib.tabBelow_of_tabIs h w' hb
theorem zbZ (n:Int) (w:World) (h0 : -9223372036854775808<=n) (h1:n<=9223372036854775807) (ht:Tab10 w) :
  Calls Tryz.prog 96 #[.int .i64 n] w fun e w'=>e=.returned (.string (zT (Lib.itoa n)))/\Below w.heap.size w w':=by
 go_enter Tryz.func96,Tryz.ntmps96
 go_wp2_with fail
 (go_at_call 162;refine (Tryz.strconv_Itoa n h0 h1 w ht).mono ?_;rintro e w' ⟨rfl,k,os,rfl⟩)
 go_wp2
 go_ret
 exact ⟨rfl,Below.ofGrow k os⟩
theorem zjE (v:Value) (l:List UInt8) (B:Nat) (w:World) (h:OwnB 5 w B v l) (hl : 2*l.length<=281474976710656) :
  Calls Tryz.prog 201 #[v] w fun e w'=>e=.returned (.string (zT (Lib.Hx.encode l)))/\Below w.heap.size w w':=by
 have hs:=h.sl
 rcases h with ⟨rfl,rfl⟩|⟨g,cap,cur,fz,rfl,hb,hg,_,hnc,hcm,hcs,ht⟩
 ·exact Tryz.hex_EncodeToString_nil w
 ·refine Tryz.hex_EncodeToString_bytes g 0 cap l w (fun i hi=>?_) (Array.getElem?_eq_some_iff.1 hg).1 hl
  have hu:(zX l)[i]?=some (.int .u8 (l[i].toNat:Int)):=by unfold zX;rw [List.getElem?_map,List.getElem?_eq_getElem hi];rfl
  rw [<- ht,List.getElem?_take,if_pos hi] at hu
  simp only [World.cell?,hg,Nat.zero_add]
  simpa using hu
theorem impl_Hex (s:ByteArray) (w:World) (hs:s.size<=9223372036854775807) :
  Calls Tryz.prog 182 #[.string s] w fun e w'=>e=.returned (.tuple #[.string (zfE s),.bool (decide (s.size<=20000))])/\Below w.heap.size w w':=by
 go_enter Tryz.func182,Tryz.ntmps182
 by_cases hb:(20000:Int)<s.size
 ·go_wp2
  refine bodyPost_ret (by simp [results,Tryz.results182,go_sem];rfl) rfl ?_
  refine ⟨?_,(by repeat (with_reducible exact Below.refl _ _))⟩
  unfold zfE
  rw [if_neg (by omega),decide_eq_false (by omega)]
 obtain ⟨v,w1,hcv,ho,hbl⟩:=zeu w s hs
 obtain ⟨X,rfl⟩:=hbl.ext
 have hlen:s.data.toList.length=s.size:=by simp
 have hc:=zjE v s.data.toList _ (w.ext X) ho (by omega)
 clear ho hlen
 go_wp2_with fail
 (go_at_call 201;refine hc.mono ?_;rintro e w' ⟨rfl,hb2⟩;obtain ⟨X2,rfl⟩:=hb2.ext;clear hb2 hc)
 go_wp2
 refine bodyPost_ret (by simp [results,Tryz.results182,go_sem];rfl) rfl ?_
 refine ⟨?_,(by repeat (first|with_reducible exact Below.refl _ _|with_reducible apply Below.ofExt))⟩
 unfold zfE
 rw [if_pos (by omega),decide_eq_true (by omega)]
theorem zcf (s:ByteArray) (w:World) (hs:s.size<=9223372036854775807) :
  Calls Tryz.prog 156 #[.string s] w fun e w'=>e=.returned (.string (zfE s))/\Below w.heap.size w w':=by
 go_enter Tryz.func156,Tryz.ntmps156
 go_wp2_with fail
 (go_at_call 182;refine (impl_Hex s w hs).mono ?_;rintro e w' ⟨rfl,hb⟩;obtain ⟨X,rfl⟩:=hb.ext;clear hb)
 go_wp2
 go_ret
 exact ⟨rfl,(by repeat (first|with_reducible exact Below.refl _ _|with_reducible apply Below.ofExt))⟩
end Go.Proofs.YtodokkpnafabpaaGreatDoor
