/- Texts of this claim, merged: the walks and what they stand on. Each condition stands in its theorem. -/
import Derived.ChangeSlices
import Derived.Test.YtpnoehpmgflibaaGreatDoorCA13
import Derived.Test.YtpnoehpmgflibaaGreatDoorCA28
set_option linter.unusedVariables false
set_option linter.unusedSimpArgs false
set_option maxRecDepth 100000
set_option maxHeartbeats 8000000
namespace Go.Proofs.YtpnoehpmgflibaaGreatDoor
open Go.ChangeShapes Go.WideShapes Go.ChangeAt Go.RowKit
structure TouchOk (d:TouchD):Prop where
 r:∀ s ∈ d.reads,s.size<=maxLen
 w:∀ s ∈ d.writes,s.size<=maxLen
theorem zkp {v:Value} {xs:List ByteArray} {w:World} {e:TypeId} (h:(vSlice zkq e).rd w [v] xs):∀ s ∈ xs,s.size<=maxLen:=by
 obtain ⟨_,_,_,_,_,_,_,h⟩:=zcN h
 exact h
theorem zev {cs:List Value} {d:TouchD} {w:World} (h:zdf.rd w cs d):TouchOk d:=by
 obtain ⟨_,_,_,h0,h1⟩:=h
 exact ⟨zkp h0,zkp h1⟩
def zaC (xs ys:List ByteArray):Bool:=xs.any fun x=>ys.any fun y=>zR x y
theorem zeX (b:Nat) (x y:ByteArray) (w:World) (hx:x.size<=maxLen) (hy:y.size<=maxLen) (hb:w.cell? ⟨b,0,none⟩=some (.string x)) :
  Calls Tryz.prog 204 #[.string y,.pointer (some ⟨b,0,none⟩)] w fun e w'=>e=.returned (.bool (zR x y))/\w=w':=by
 go_enter Tryz.func204,Tryz.ntmps204
 go_wp2_with fail
 (go_at_call 205;refine (zhm x y _ hx hy).mono ?_;rintro e w' ⟨rfl,rfl⟩)
 go_wp2
 go_ret
 exact ⟨rfl,rfl⟩
theorem zg9 (v:Value) (ys:List ByteArray) (c:Nat) (x:ByteArray) (w:World) (hs:(vSlice zkq 9).rd w [v] ys) (hx:x.size<=maxLen) (hz:∀ s ∈ ys,s.size<=maxLen) (hcl:c<w.heap.size) (hc:w.cell? ⟨c,0,none⟩=some (.string x)) :
  Calls Tryz.prog 101 #[v,.func (Fn.func 204) #[] #[.pointer (some ⟨c,0,none⟩)]] w fun e w'=>∃ r:Int,e=.returned (.int .i64 r)/\(decide (0<=r)=ys.any fun y=>zR x y)/\Below w.heap.size w w':=by
 obtain ⟨ao,cap,rfl,hc1,hc2,hnil,hcell,_⟩:=zcN hs
 have HX:=Hd hcell
 have HZ:=Hd hz
 clear hcell hs hnil hz
 unfold maxLen at hc2
 go_enter Tryz.func101,Tryz.ntmps101
 go_wp2
 go_loopw [8] (fun k wr=>∃ (n:Nat) (X:Ext),k=.int .i64 n/\n<=ys.length/\wr=w.ext X/\(ys.take n).any (fun y=>zR x y)=false) (fun k _=>ys.length - (intOf k).toNat)
 case atStart=>exact ⟨0,⟨#[],_⟩,rfl,by omega,(ze8 _ _ rfl).symm,rfl⟩
 case round =>
  obtain ⟨n,X,rfl,hn,rfl,hany⟩:=hrel
  have HA:=Hd hany
  clear hany
  by_cases hlt:(n:Int)<ys.length
  ·have hk:n<ys.length:=by omega
   obtain ⟨b,off,rfl,hbl,hcell⟩:=HX.out (by intro e;simp [e] at hk)
   have hcc:=hcell n hk
   have hstep:=zax (fun y=>zR x y) ys n hk
   have hyz:=HZ.out _ (List.getElem_mem hk)
   generalize ys[n]=y at hcc hstep hyz
   have HT:=Hd hstep
   clear hcell hstep
   cases hm:zR x y with
   | true =>
    go_wp2_with fail
    (go_at_call 204;refine (zeX c x y _ hx hyz (by simp [go_sem,hcl,hc])).mono ?_;rintro e w' ⟨rfl,rfl⟩)
    rw [hm]
    go_wp2
    go_ret
    refine ⟨n,rfl,?_,(by repeat (first|with_reducible exact Below.refl _ _|with_reducible apply Below.ofExt))⟩
    rw [zbG _ ys (n+1) (by rw [HT.out,hm,Bool.or_true])]
    simp
   | false =>
    go_wp2_with fail
    (go_at_call 204;refine (zeX c x y _ hx hyz (by simp [go_sem,hcl,hc])).mono ?_;rintro e w' ⟨rfl,rfl⟩)
    rw [hm]
    go_wp2
    go_roundw
    case rel=>exact ⟨n+1,_,by go_num,by omega,rfl,by rw [HT.out,HA.out,hm];rfl⟩
    case measure=>simp [intOf];omega
  ·go_wp2
   go_ret
   have e:n=ys.length:=by omega
   subst e
   have ha:=HA.out
   rw [List.take_length] at ha
   refine ⟨-1,rfl,?_,(by repeat (first|with_reducible exact Below.refl _ _|with_reducible apply Below.ofExt))⟩
   rw [ha]
   rfl
theorem zcO (v:Value) (ys:List ByteArray) (c:Nat) (x:ByteArray) (w:World) (hs:(vSlice zkq 9).rd w [v] ys) (hx:x.size<=maxLen) (hz:∀ s ∈ ys,s.size<=maxLen) (hcl:c<w.heap.size) (hc:w.cell? ⟨c,0,none⟩=some (.string x)) :
  Calls Tryz.prog 42 #[v,.func (Fn.func 204) #[] #[.pointer (some ⟨c,0,none⟩)]] w fun e w'=>e=.returned (.bool (ys.any fun y=>zR x y))/\Below w.heap.size w w':=by
 go_enter Tryz.func42,Tryz.ntmps42
 go_wp2_with fail
 (go_at_call 101;refine (zg9 v ys c x _ hs hx hz hcl hc).mono ?_;rintro e w' ⟨r,rfl,hr,hb⟩;obtain ⟨X,rfl⟩:=hb.ext;clear hb)
 go_wp2
 go_ret
 exact ⟨by rw [<- hr];rfl,(by repeat (first|with_reducible exact Below.refl _ _|with_reducible apply Below.ofExt))⟩
theorem zbw (v v':Value) (xs ys:List ByteArray) (w:World) (hs:(vSlice zkq 9).rd w [v] xs) (hs':(vSlice zkq 9).rd w [v'] ys) (hz:∀ s ∈ xs,s.size<=maxLen) (hz':∀ s ∈ ys,s.size<=maxLen) :
  Calls Tryz.prog 132 #[v,v'] w fun e w'=>e=.returned (.bool (zaC xs ys))/\Below w.heap.size w w':=by
 obtain ⟨ao,cap,rfl,hc1,hc2,hnil,hcell,_⟩:=zcN hs
 have HX:=Hd hcell
 have HZ:=Hd hz
 have HZ':=Hd hz'
 have HS':=Hd hs'
 clear hcell hs hnil hz hz' hs'
 unfold maxLen at hc2
 go_enter Tryz.func132,Tryz.ntmps132
 go_wp2
 go_loopw [9] (fun k wr=>∃ (n:Nat),k=.int .i64 n/\n<=xs.length/\Below w.heap.size w wr/\(xs.take n).any (fun x=>ys.any fun y=>zR x y)=false) (fun k _=>xs.length - (intOf k).toNat)
 case atStart=>exact ⟨0,rfl,by omega,(by repeat (with_reducible exact Below.refl _ _)),rfl⟩
 case round =>
  obtain ⟨n,rfl,hn,hbel,hany⟩:=hrel
  obtain ⟨X,rfl⟩:=hbel.ext
  have HA:=Hd hany
  clear hany
  by_cases hlt:(n:Int)<xs.length
  ·have hk:n<xs.length:=by omega
   obtain ⟨b,off,rfl,hbl,hcell⟩:=HX.out (by intro e;simp [e] at hk)
   have hcc:=hcell n hk
   have hstep:=zax (fun x=>ys.any fun y=>zR x y) xs n hk
   have hyz:=HZ.out _ (List.getElem_mem hk)
   generalize xs[n]=x at hcc hstep hyz
   have HT:=Hd hstep
   clear hcell hstep
   cases hm:ys.any fun y=>zR x y with
   | true =>
    go_wp2_with fail
    (go_at_call 42;refine (zcO v' ys _ x _ (by (skip);(repeat (first|with_reducible exact HS'.out|with_reducible apply zat|with_reducible apply zD));all_goals exact (0:Nat)) hyz HZ'.out (by simp [go_sem]) (by simp [go_sem])).mono ?_;rintro e w' ⟨rfl,hb⟩;obtain ⟨X,rfl⟩:=hb.ext;clear hb)
    rw [hm]
    go_wp2
    go_ret
    exact ⟨by unfold zaC;rw [zbG _ xs (n+1) (by rw [HT.out,hm,Bool.or_true])];rfl,(by repeat (first|with_reducible exact Below.refl _ _|with_reducible apply Below.ofExt|with_reducible apply Below.ofAlloc|with_reducible apply Below.drew|with_reducible apply Below.ofDrewN|with_reducible assumption|(with_reducible refine Below.setCell ?_ (by first|exact Nat.le_refl _|(simp [go_sem];done)|(simp [go_sem];omega)) _)))⟩
   | false =>
    go_wp2_with fail
    (go_at_call 42;refine (zcO v' ys _ x _ (by (skip);(repeat (first|with_reducible exact HS'.out|with_reducible apply zat|with_reducible apply zD));all_goals exact (0:Nat)) hyz HZ'.out (by simp [go_sem]) (by simp [go_sem])).mono ?_;rintro e w' ⟨rfl,hb⟩;obtain ⟨X,rfl⟩:=hb.ext;clear hb)
    rw [hm]
    go_wp2
    go_roundw
    case rel =>
     exact ⟨n+1,by go_num,by omega,(by repeat (first|with_reducible exact Below.refl _ _|with_reducible apply Below.ofExt|with_reducible apply Below.ofAlloc)),by rw [HT.out,HA.out,hm];rfl⟩
    case measure=>simp [intOf];omega
  ·go_wp2
   go_ret
   have e:n=xs.length:=by omega
   subst e
   have ha:=HA.out
   rw [List.take_length] at ha
   exact ⟨by unfold zaC;rw [ha];rfl,(by repeat (first|with_reducible exact Below.refl _ _|with_reducible apply Below.ofExt))⟩
theorem zbr (v v':Value) (xs ys:List ByteArray) (w:World) (hs:(vSlice zkq 9).rd w [v] xs) (hs':(vSlice zkq 9).rd w [v'] ys) (hz:∀ s ∈ xs,s.size<=maxLen) (hz':∀ s ∈ ys,s.size<=maxLen) :
  Calls Tryz.prog 61 #[v,v'] w fun e w'=>e=.returned (.bool (zaC xs ys))/\Below w.heap.size w w':=by
 obtain ⟨ao,cap,rfl,hc1,hc2,hnil,hcell,_⟩:=zcN hs
 obtain ⟨ao',cap',rfl,hc1',hc2',hnil',hcell',_⟩:=zcN hs'
 have HX:=Hd hcell
 have HX':=Hd hcell'
 have HZ:=Hd hz
 have HZ':=Hd hz'
 clear hcell hs hnil hz hz' hs' hnil' hcell'
 unfold maxLen at hc2 hc2'
 go_enter Tryz.func61,Tryz.ntmps61
 go_wp2
 go_loopw [5] (fun k wr=>∃ (n:Nat),k=.int .i64 n/\n<=xs.length/\Below w.heap.size w wr/\(xs.take n).any (fun x=>ys.any fun y=>zR x y)=false) (fun k _=>xs.length - (intOf k).toNat)
 case atStart=>exact ⟨0,rfl,by omega,(by repeat (with_reducible exact Below.refl _ _)),rfl⟩
 case round =>
  obtain ⟨n,rfl,hn,hbel,hany⟩:=hrel
  obtain ⟨X,rfl⟩:=hbel.ext
  have HA:=Hd hany
  clear hany
  by_cases hlt:(n:Int)<xs.length
  ·have hk:n<xs.length:=by omega
   obtain ⟨b,off,rfl,hbl,hcell⟩:=HX.out (by intro e;simp [e] at hk)
   have hcc:=hcell n hk
   have hstep:=zax (fun x=>ys.any fun y=>zR x y) xs n hk
   have hxz:=HZ.out _ (List.getElem_mem hk)
   generalize xs[n]=x at hcc hstep hxz
   have HT:=Hd hstep
   have HXZ:=Hd hxz
   clear hcell hstep hxz
   go_wp2
   go_loopw [6] (fun k wr=>∃ (m:Nat),k=.int .i64 m/\m<=ys.length/\Below w.heap.size w wr/\(ys.take m).any (fun y=>zR x y)=false) (fun k _=>ys.length - (intOf k).toNat)
   case atStart=>exact ⟨0,rfl,by omega,(by repeat (first|with_reducible exact Below.refl _ _|with_reducible apply Below.ofExt)),rfl⟩
   case round =>
    obtain ⟨m,rfl,hm,hbel2,hany2⟩:=hrel
    obtain ⟨Y,rfl⟩:=hbel2.ext
    have HA2:=Hd hany2
    clear hany2
    by_cases hlt2:(m:Int)<ys.length
    ·have hk2:m<ys.length:=by omega
     obtain ⟨b',off',rfl,hbl',hcell'⟩:=HX'.out (by intro e;simp [e] at hk2)
     have hcc':=hcell' m hk2
     have hstep2:=zax (fun y=>zR x y) ys m hk2
     have hyz:=HZ'.out _ (List.getElem_mem hk2)
     generalize ys[m]=y at hcc' hstep2 hyz
     have HT2:=Hd hstep2
     have HYZ:=Hd hyz
     clear hcell' hstep2 hyz
     cases hmt:zR x y with
     | true =>
      go_wp2
      refine zaA [(0,true),(1,true),(2,true),(3,true),(4,true),(5,true),(6,true),(7,true),(8,false)] 9 (by kernel_rfl) (by kernel_rfl) ?_
      repeat (refine zk rfl (fun K hK=>?_);go_simp;(try simp (disch:=omega) only [IntWalk.i64_in]);refine hK _ ?_;clear hK K)
      refine zr rfl (fun K hK=>?_);go_simp;go_at_call 133;refine (zdZ x y _ HXZ.out HYZ.out).mono ?_;rintro e w' ⟨rfl,rfl⟩;try go_simp;refine hK _ _ (by show Sx _ _;repeat (with_reducible exact Sx.same _ _ _ _)) ?_;clear hK K
      refine zQ ?_
      go_wp2
      go_ret
      have h2:=zbG _ ys (m+1) (by rw [HT2.out,hmt,Bool.or_true])
      exact ⟨by unfold zaC;rw [zbG _ xs (n+1) (by rw [HT.out,h2,Bool.or_true])];rfl,(by repeat (first|with_reducible exact Below.refl _ _|with_reducible apply Below.ofExt|with_reducible apply Below.ofAlloc|with_reducible apply Below.drew|with_reducible apply Below.ofDrewN|with_reducible assumption|(with_reducible refine Below.setCell ?_ (by first|exact Nat.le_refl _|(simp [go_sem];done)|(simp [go_sem];omega)) _)))⟩
     | false =>
      go_wp2
      refine zaA [(0,true),(1,true),(2,true),(3,true),(4,true),(5,true),(6,true),(7,true),(8,false)] 9 (by kernel_rfl) (by kernel_rfl) ?_
      repeat (refine zk rfl (fun K hK=>?_);go_simp;(try simp (disch:=omega) only [IntWalk.i64_in]);refine hK _ ?_;clear hK K)
      refine zr rfl (fun K hK=>?_);go_simp;go_at_call 133;refine (zdZ x y _ HXZ.out HYZ.out).mono ?_;rintro e w' ⟨rfl,rfl⟩;try go_simp;refine hK _ _ (by show Sx _ _;repeat (with_reducible exact Sx.same _ _ _ _)) ?_;clear hK K
      refine zQ ?_
      go_wp2
      go_roundw
      case rel=>exact ⟨m+1,by go_num,by omega,(by repeat (first|with_reducible exact Below.refl _ _|with_reducible apply Below.ofExt)),by rw [HT2.out,HA2.out,hmt];rfl⟩
      case measure=>simp [intOf];omega
    ·go_wp2
     go_roundw
     case rel =>
      have e:m=ys.length:=by omega
      subst e
      have ha:=HA2.out
      rw [List.take_length] at ha
      exact ⟨n+1,by go_num,by omega,(by repeat (first|with_reducible exact Below.refl _ _|with_reducible apply Below.ofExt)),by rw [HT.out,HA.out,ha];rfl⟩
     case measure=>simp [intOf];omega
  ·go_wp2
   go_ret
   have e:n=xs.length:=by omega
   subst e
   have ha:=HA.out
   rw [List.take_length] at ha
   exact ⟨by unfold zaC;rw [ha];rfl,(by repeat (first|with_reducible exact Below.refl _ _|with_reducible apply Below.ofExt))⟩
def zel (d e:TouchD):Bool:=zaC d.writes e.reads || (zaC d.writes e.writes || zaC d.reads e.writes)
theorem zi8 (xs ys:List ByteArray):zaC xs ys=zaC ys xs:=by
 unfold zaC
 rw [Bool.eq_iff_iff]
 simp only [List.any_eq_true]
 constructor
 ·rintro ⟨x,hx,y,hy,h⟩
  exact ⟨y,hy,x,hx,by rw [zcG];exact h⟩
 ·rintro ⟨x,hx,y,hy,h⟩
  exact ⟨y,hy,x,hx,by rw [zcG];exact h⟩
theorem zhy (cs:List Value) (d:TouchD) (cs':List Value) (e:TouchD) (w:World) (hs:zdf.rd w cs d) (hs':zdf.rd w cs' e) :
  Calls Tryz.prog 25 #[.agg cs.toArray,.agg cs'.toArray] w fun x w'=>x=.returned (.bool (zel d e))/\Below w.heap.size w w':=by
 have hd:=zev hs
 have he:=zev hs'
 obtain ⟨u1,u2,rfl,hu1,hu2⟩:=hs
 obtain ⟨v1,v2,rfl,hv1,hv2⟩:=hs'
 have HU1:=Hd hu1
 have HU2:=Hd hu2
 have HV1:=Hd hv1
 have HV2:=Hd hv2
 clear hu1 hu2 hv1 hv2
 cases h1:zaC d.writes e.reads with
 | true =>
  go_enter Tryz.func25,Tryz.ntmps25
  go_wp2_with fail
  (go_at_call 61;refine (zbr _ _ d.writes e.reads _ (by (skip);(repeat (first|with_reducible exact HU2.out|with_reducible apply zD));all_goals exact (0:Nat)) (by (skip);(repeat (first|with_reducible exact HV1.out|with_reducible apply zD));all_goals exact (0:Nat)) hd.w he.r).mono ?_;rintro e w' ⟨rfl,hb⟩;obtain ⟨X,rfl⟩:=hb.ext;clear hb)
  rw [h1]
  go_wp2
  go_ret
  exact ⟨by simp [zel,h1],(by repeat (first|with_reducible exact Below.refl _ _|with_reducible apply Below.ofExt|with_reducible apply Below.ofAlloc|with_reducible apply Below.drew|with_reducible apply Below.ofDrewN|with_reducible assumption|(with_reducible refine Below.setCell ?_ (by first|exact Nat.le_refl _|(simp [go_sem];done)|(simp [go_sem];omega)) _)))⟩
 | false =>
  cases h2:zaC d.writes e.writes with
  | true =>
   go_enter Tryz.func25,Tryz.ntmps25
   go_wp2_with fail
   (go_at_call 61;refine (zbr _ _ d.writes e.reads _ (by (skip);(repeat (first|with_reducible exact HU2.out|with_reducible apply zD));all_goals exact (0:Nat)) (by (skip);(repeat (first|with_reducible exact HV1.out|with_reducible apply zD));all_goals exact (0:Nat)) hd.w he.r).mono ?_;rintro e w' ⟨rfl,hb⟩;obtain ⟨X,rfl⟩:=hb.ext;clear hb)
   rw [h1]
   go_wp2_with fail
   (go_at_call 61;refine (zbr _ _ d.writes e.writes _ (by (skip);(repeat (first|with_reducible exact HU2.out|with_reducible apply zat|with_reducible apply zD));all_goals exact (0:Nat)) (by (skip);(repeat (first|with_reducible exact HV2.out|with_reducible apply zat|with_reducible apply zD));all_goals exact (0:Nat)) hd.w he.w).mono ?_;rintro e w' ⟨rfl,hb⟩;obtain ⟨X,rfl⟩:=hb.ext;clear hb)
   rw [h2]
   go_wp2
   go_ret
   exact ⟨by simp [zel,h1,h2],(by repeat (first|with_reducible exact Below.refl _ _|with_reducible apply Below.ofExt|with_reducible apply Below.ofAlloc|with_reducible apply Below.drew|with_reducible apply Below.ofDrewN|with_reducible assumption|(with_reducible refine Below.setCell ?_ (by first|exact Nat.le_refl _|(simp [go_sem];done)|(simp [go_sem];omega)) _)))⟩
  | false =>
   go_enter Tryz.func25,Tryz.ntmps25
   go_wp2_with fail
   (go_at_call 61;refine (zbr _ _ d.writes e.reads _ (by (skip);(repeat (first|with_reducible exact HU2.out|with_reducible apply zD));all_goals exact (0:Nat)) (by (skip);(repeat (first|with_reducible exact HV1.out|with_reducible apply zD));all_goals exact (0:Nat)) hd.w he.r).mono ?_;rintro e w' ⟨rfl,hb⟩;obtain ⟨X,rfl⟩:=hb.ext;clear hb)
   rw [h1]
   go_wp2_with fail
   (go_at_call 61;refine (zbr _ _ d.writes e.writes _ (by (skip);(repeat (first|with_reducible exact HU2.out|with_reducible apply zat|with_reducible apply zD));all_goals exact (0:Nat)) (by (skip);(repeat (first|with_reducible exact HV2.out|with_reducible apply zat|with_reducible apply zD));all_goals exact (0:Nat)) hd.w he.w).mono ?_;rintro e w' ⟨rfl,hb⟩;obtain ⟨X,rfl⟩:=hb.ext;clear hb)
   rw [h2]
   go_wp2_with fail
   (go_at_call 61;refine (zbr _ _ d.reads e.writes _ (by (skip);(repeat (first|with_reducible exact HU1.out|with_reducible apply zcz|with_reducible apply zat|with_reducible apply zD));all_goals exact (0:Nat)) (by (skip);(repeat (first|with_reducible exact HV2.out|with_reducible apply zcz|with_reducible apply zat|with_reducible apply zD));all_goals exact (0:Nat)) hd.r he.w).mono ?_;rintro e w' ⟨rfl,hb⟩;obtain ⟨X,rfl⟩:=hb.ext;clear hb)
   go_wp2
   go_ret
   exact ⟨by simp [zel,h1,h2],(by repeat (first|with_reducible exact Below.refl _ _|with_reducible apply Below.ofExt|with_reducible apply Below.ofAlloc))⟩
theorem zlf (cs:List Value) (d:TouchD) (cs':List Value) (e:TouchD) (w:World) (hs:zdf.rd w cs d) (hs':zdf.rd w cs' e) :
  Calls Tryz.prog 60 #[.agg cs.toArray,.agg cs'.toArray] w fun x w'=>x=.returned (.bool (zel d e))/\Below w.heap.size w w':=by
 have hd:=zev hs
 have he:=zev hs'
 obtain ⟨u1,u2,rfl,hu1,hu2⟩:=hs
 obtain ⟨v1,v2,rfl,hv1,hv2⟩:=hs'
 have HU1:=Hd hu1
 have HU2:=Hd hu2
 have HV1:=Hd hv1
 have HV2:=Hd hv2
 clear hu1 hu2 hv1 hv2
 have h3c:zaC e.writes d.reads=zaC d.reads e.writes:=zi8 _ _
 cases h1:zaC d.writes e.reads with
 | true =>
  go_enter Tryz.func60,Tryz.ntmps60
  go_wp2_with fail
  (go_at_call 132;refine (zbw _ _ d.writes e.reads _ (by (skip);(repeat (first|with_reducible exact HU2.out|with_reducible apply zD));all_goals exact (0:Nat)) (by (skip);(repeat (first|with_reducible exact HV1.out|with_reducible apply zD));all_goals exact (0:Nat)) hd.w he.r).mono ?_;rintro e w' ⟨rfl,hb⟩;obtain ⟨X,rfl⟩:=hb.ext;clear hb)
  rw [h1]
  go_wp2
  go_ret
  exact ⟨by simp [zel,h1],(by repeat (first|with_reducible exact Below.refl _ _|with_reducible apply Below.ofExt|with_reducible apply Below.ofAlloc|with_reducible apply Below.drew|with_reducible apply Below.ofDrewN|with_reducible assumption|(with_reducible refine Below.setCell ?_ (by first|exact Nat.le_refl _|(simp [go_sem];done)|(simp [go_sem];omega)) _)))⟩
 | false =>
  cases h2:zaC d.writes e.writes with
  | true =>
   go_enter Tryz.func60,Tryz.ntmps60
   go_wp2_with fail
   (go_at_call 132;refine (zbw _ _ d.writes e.reads _ (by (skip);(repeat (first|with_reducible exact HU2.out|with_reducible apply zD));all_goals exact (0:Nat)) (by (skip);(repeat (first|with_reducible exact HV1.out|with_reducible apply zD));all_goals exact (0:Nat)) hd.w he.r).mono ?_;rintro e w' ⟨rfl,hb⟩;obtain ⟨X,rfl⟩:=hb.ext;clear hb)
   rw [h1]
   go_wp2_with fail
   (go_at_call 132;refine (zbw _ _ d.writes e.writes _ (by (skip);(repeat (first|with_reducible exact HU2.out|with_reducible apply zat|with_reducible apply zD));all_goals exact (0:Nat)) (by (skip);(repeat (first|with_reducible exact HV2.out|with_reducible apply zat|with_reducible apply zD));all_goals exact (0:Nat)) hd.w he.w).mono ?_;rintro e w' ⟨rfl,hb⟩;obtain ⟨X,rfl⟩:=hb.ext;clear hb)
   rw [h2]
   go_wp2
   go_ret
   exact ⟨by simp [zel,h1,h2],(by repeat (first|with_reducible exact Below.refl _ _|with_reducible apply Below.ofExt|with_reducible apply Below.ofAlloc|with_reducible apply Below.drew|with_reducible apply Below.ofDrewN|with_reducible assumption|(with_reducible refine Below.setCell ?_ (by first|exact Nat.le_refl _|(simp [go_sem];done)|(simp [go_sem];omega)) _)))⟩
  | false =>
   go_enter Tryz.func60,Tryz.ntmps60
   go_wp2_with fail
   (go_at_call 132;refine (zbw _ _ d.writes e.reads _ (by (skip);(repeat (first|with_reducible exact HU2.out|with_reducible apply zD));all_goals exact (0:Nat)) (by (skip);(repeat (first|with_reducible exact HV1.out|with_reducible apply zD));all_goals exact (0:Nat)) hd.w he.r).mono ?_;rintro e w' ⟨rfl,hb⟩;obtain ⟨X,rfl⟩:=hb.ext;clear hb)
   rw [h1]
   go_wp2_with fail
   (go_at_call 132;refine (zbw _ _ d.writes e.writes _ (by (skip);(repeat (first|with_reducible exact HU2.out|with_reducible apply zat|with_reducible apply zD));all_goals exact (0:Nat)) (by (skip);(repeat (first|with_reducible exact HV2.out|with_reducible apply zat|with_reducible apply zD));all_goals exact (0:Nat)) hd.w he.w).mono ?_;rintro e w' ⟨rfl,hb⟩;obtain ⟨X,rfl⟩:=hb.ext;clear hb)
   rw [h2]
   go_wp2_with fail
   (go_at_call 132;refine (zbw _ _ e.writes d.reads _ (by (skip);(repeat (first|with_reducible exact HV2.out|with_reducible apply zcz|with_reducible apply zat|with_reducible apply zD));all_goals exact (0:Nat)) (by (skip);(repeat (first|with_reducible exact HU1.out|with_reducible apply zcz|with_reducible apply zat|with_reducible apply zD));all_goals exact (0:Nat)) he.w hd.r).mono ?_;rintro e w' ⟨rfl,hb⟩;obtain ⟨X,rfl⟩:=hb.ext;clear hb)
   rw [h3c]
   go_wp2
   go_ret
   exact ⟨by simp [zel,h1,h2],(by repeat (first|with_reducible exact Below.refl _ _|with_reducible apply Below.ofExt|with_reducible apply Below.ofAlloc))⟩
def zdD (ds:List CellD):Nat->ByteArray->Bool
 | 0,_=>true
 | j+1,k=>match ds[j]? with
  | none=>true
  | some p=>Op.bytesLess p.key.toList k.toList
theorem zgH (ds:List CellD) (j:Nat) (k:ByteArray) (h:j<ds.length):zdD ds (j+1) k=Op.bytesLess ds[j].key.toList k.toList:=by
 simp only [zdD,List.getElem?_eq_getElem h]
def zhu (ds:List CellD) (i:Nat):Bool:=match ds[i]? with
 | none=>true
 | some d=>zbc d.key && (inB (d.val.size:Int) 1 60 && zdD ds i d.key)
theorem ziK (ds:List CellD) (i:Nat) (h:i<ds.length):zhu ds i=(zbc ds[i].key && (inB (ds[i].val.size:Int) 1 60 && zdD ds i ds[i].key)):=by
 simp only [zhu,List.getElem?_eq_getElem h]
def zlv (ds:List CellD):Nat->Bool
 | 0=>true
 | n+1=>zlv ds n && zhu ds n
theorem zbU (ds:List CellD) (n:Nat):zlv ds (n+1)=(zlv ds n && zhu ds n):=rfl
def zcE (ds:List CellD):Bool:=zlv ds ds.length && decide ((ds.length:Int)<=900)
theorem zi5 (ds:List CellD):∀ (k n:Nat),zlv ds n=false->zlv ds (n+k)=false
 | 0,_,h=>h
 | k+1,n,h=>by rw [<- Nat.add_assoc,zbU,zi5 ds k n h];rfl
theorem zjB (ds:List CellD) (n:Nat) (h:ds.length<=n):zhu ds n=true:=by
 simp only [zhu,List.getElem?_eq_none h]
theorem zi4 (ds:List CellD):∀ k,zlv ds (ds.length+k)=zlv ds ds.length
 | 0=>rfl
 | k+1=>by rw [<- Nat.add_assoc,zbU,zi4 ds k,zjB ds _ (by omega),Bool.and_true]
theorem zff (ds:List CellD) (n:Nat) (h:zlv ds n=false):zcE ds=false:=by
 unfold zcE
 have:zlv ds ds.length=false:=by
  by_cases hl:n<=ds.length
  ·have:=zi5 ds (ds.length - n) n h
   rwa [show n+(ds.length - n)=ds.length by omega] at this
  ·have:=zi4 ds (n - ds.length)
   rw [show ds.length+(n - ds.length)=n by omega,h] at this
   exact this.symm
 rw [this]
 rfl
theorem ziP (v:Value) (ds:List CellD) (w:World) {e:TypeId} (hs:(vSlice vCell e).rd w [v] ds) :
  Calls Tryz.prog 23 #[v] w fun e w'=>e=.returned (.bool (zcE ds))/\Below w.heap.size w w':=by
 obtain ⟨ao,cap,rfl,hc1,hc2,hnil,hcell⟩:=vSlice.shape hs
 have HX:=Hd hcell
 clear hcell hnil
 unfold maxLen at hc2
 clear hs
 go_enter Tryz.func23,Tryz.ntmps23
 go_wp2
 go_loopw [3] (fun k wr=>∃ (n:Nat),k=.int .i64 n/\n<=ds.length/\Below w.heap.size w wr/\zlv ds n=true) (fun k _=>ds.length - (intOf k).toNat)
 case atStart=>exact ⟨0,rfl,by omega,(by repeat (with_reducible exact Below.refl _ _)),rfl⟩
 case round =>
  obtain ⟨n,rfl,hn,hbel,hall⟩:=hrel
  obtain ⟨X,rfl⟩:=hbel.ext
  have HA:=Hd hall
  clear hall
  by_cases hlt:(n:Int)<ds.length
  case pos =>
   have hk:n<ds.length:=by omega
   have hst:=ziK ds n hk
   obtain ⟨b,off,csy,rfl,hbly,hrdy,hcelly⟩:=HX.out n hk
   generalize ds[n]=d at hrdy hst
   obtain ⟨rfl,hoky⟩:=hrdy
   obtain ⟨dk,dv⟩:=d
   have y0:=hcelly 0 _ rfl
   have y1:=hcelly 1 _ rfl
   clear hcelly
   simp only [show vCell.k=2 from rfl,Nat.add_zero] at y0 y1
   have hz1:dk.size<=9223372036854775807:=hoky.1
   have hz2:dv.size<=9223372036854775807:=hoky.2
   clear hoky
   simp only at hst
   cases hkk:zbc dk with
   | false =>
    rw [hkk,Bool.false_and] at hst
    have HS:=Hd hst
    have HK:=Hd hkk
    have CI:Hid True:=trivial
    clear hst hkk
    have CK:Hid (∀ W:World,Calls Tryz.prog 58 #[.string dk] W fun e w'=>e=.returned (.bool false)/\w'=W):=fun W=>(zb7 dk W hz1).mono fun e w' h=>⟨by rw [h.1,HK.out],h.2⟩
    go_wp2
    go_quiet ((go_at_call 58;(exact zeK (CK.out _))))
    go_wp2
    go_ret
    exact ⟨by rw [zff ds (n+1) (by rw [zbU,HS.out,Bool.and_false])];rfl,(by repeat (first|with_reducible exact Below.refl _ _|with_reducible apply Below.ofExt|with_reducible apply Below.ofAlloc|with_reducible apply Below.drew|with_reducible apply Below.ofDrewN|with_reducible assumption|(with_reducible refine Below.setCell ?_ (by first|exact Nat.le_refl _|(simp [go_sem];done)|(simp [go_sem];omega)) _)))⟩
   | true =>
    rw [hkk,Bool.true_and] at hst
    have HK:=Hd hkk
    clear hkk
    have CK:Hid (∀ W:World,Calls Tryz.prog 58 #[.string dk] W fun e w'=>e=.returned (.bool true)/\w'=W):=fun W=>(zb7 dk W hz1).mono fun e w' h=>⟨by rw [h.1,HK.out],h.2⟩
    cases hii:inB (dv.size:Int) 1 60 with
    | false =>
     rw [hii,Bool.false_and] at hst
     have HS:=Hd hst
     have HI:=Hd hii
     clear hst hii
     have CI:Hid (∀ W:World,Calls Tryz.prog 59 #[.int .i64 (dv.size:Int),.int .i64 1,.int .i64 60] W fun e w'=>e=.returned (.bool false)/\w'=W):=fun W=>(zM _ _ _ W).mono fun e w' h=>⟨by rw [h.1,HI.out],h.2⟩
     go_wp2
     go_quiet ((first|((go_at_call 58);(exact zeK (CK.out _)))|((go_at_call 59);(exact zeK (CI.out _)))))
     go_wp2
     go_ret
     exact ⟨by rw [zff ds (n+1) (by rw [zbU,HS.out,Bool.and_false])];rfl,(by repeat (first|with_reducible exact Below.refl _ _|with_reducible apply Below.ofExt|with_reducible apply Below.ofAlloc|with_reducible apply Below.drew|with_reducible apply Below.ofDrewN|with_reducible assumption|(with_reducible refine Below.setCell ?_ (by first|exact Nat.le_refl _|(simp [go_sem];done)|(simp [go_sem];omega)) _)))⟩
    | true =>
     rw [hii,Bool.true_and] at hst
     have HI:=Hd hii
     clear hii
     have CI:Hid (∀ W:World,Calls Tryz.prog 59 #[.int .i64 (dv.size:Int),.int .i64 1,.int .i64 60] W fun e w'=>e=.returned (.bool true)/\w'=W):=fun W=>(zM _ _ _ W).mono fun e w' h=>⟨by rw [h.1,HI.out],h.2⟩
     by_cases hn0 : 0<(n:Int)
     case neg =>
      have hp:zdD ds n dk=true:=by rw [show n=0 by omega];rfl
      have hd1:decide (0<(n:Int))=false:=decide_eq_false hn0
      have hd2:decide (0<n)=false:=decide_eq_false (by omega)
      rw [hp] at hst
      have HS:=Hd hst
      clear hst hp
      go_wp2
      go_quiet ((first|((go_at_call 58);(exact zeK (CK.out _)))|((go_at_call 59);(exact zeK (CI.out _)))))
      go_wp2
      go_roundw
      case rel=>exact ⟨n+1,by go_num,by omega,(by repeat (first|with_reducible exact Below.refl _ _|with_reducible apply Below.ofExt)),by rw [zbU,HA.out,HS.out,Bool.and_true]⟩
      case measure=>simp [intOf];omega
     case pos =>
      obtain ⟨j,rfl⟩ : ∃ j,n=j+1:=⟨n - 1,by omega⟩
      have hj:j<ds.length:=by omega
      have hg:zdD ds (j+1) dk=Op.bytesLess ds[j].key.toList dk.toList:=zgH ds j dk hj
      rw [hg] at hst
      clear hg
      obtain ⟨b2,off2,csz,eb,hblz,hrdz,hcellz⟩:=HX.out j hj
      simp only [Option.some.injEq,Addr.mk.injEq,and_true] at eb
      obtain ⟨rfl,rfl⟩:=eb
      generalize ds[j]=p at hrdz hst
      obtain ⟨rfl,hokz⟩:=hrdz
      obtain ⟨pk,pv⟩:=p
      have z0:=hcellz 0 _ rfl
      have z1:=hcellz 1 _ rfl
      clear hcellz
      simp only [show vCell.k=2 from rfl,Nat.add_zero] at z0 z1
      clear hokz
      simp only at hst
      cases hl0:Op.bytesLess pk.toList dk.toList with
      | false =>
       rw [hl0] at hst
       have HS:=Hd hst
       have HL:=Hd hl0
       clear hst hl0
       have hl:Op.bytesLess pk.toList dk.toList=false:=HL.out
       go_wp2
       go_quiet ((first|((go_at_call 58);(exact zeK (CK.out _)))|((go_at_call 59);(exact zeK (CI.out _)))))
       go_wp2
       go_ret
       exact ⟨by rw [zff ds (j+1+1) (by rw [zbU,HS.out,Bool.and_false])];rfl,(by repeat (first|with_reducible exact Below.refl _ _|with_reducible apply Below.ofExt|with_reducible apply Below.ofAlloc|with_reducible apply Below.drew|with_reducible apply Below.ofDrewN|with_reducible assumption|(with_reducible refine Below.setCell ?_ (by first|exact Nat.le_refl _|(simp [go_sem];done)|(simp [go_sem];omega)) _)))⟩
      | true =>
       rw [hl0] at hst
       have HS:=Hd hst
       have HL:=Hd hl0
       clear hst hl0
       have hl:Op.bytesLess pk.toList dk.toList=true:=HL.out
       go_wp2
       go_quiet ((first|((go_at_call 58);(exact zeK (CK.out _)))|((go_at_call 59);(exact zeK (CI.out _)))))
       go_wp2
       go_roundw
       case rel=>exact ⟨j+1+1,by go_num,by omega,(by repeat (first|with_reducible exact Below.refl _ _|with_reducible apply Below.ofExt)),by rw [zbU,HA.out,HS.out,Bool.and_true]⟩
       case measure=>simp [intOf];omega
  case neg =>
   have e:n=ds.length:=by omega
   have hf:zcE ds=decide ((ds.length:Int)<=900):=by
    unfold zcE
    rw [<- e,HA.out,e]
    rfl
   have HF:=Hd hf
   clear hf
   go_wp2
   go_ret
   exact ⟨by rw [HF.out];rfl,(by repeat (first|with_reducible exact Below.refl _ _|with_reducible apply Below.ofExt))⟩
def GoodC (c:CellD):Prop:=zbc c.key=true/\1<=c.val.size/\c.val.size<=60
theorem zi6 (ds:List CellD):∀ n,n<=ds.length->zlv ds n=true->(ds.take n).Pairwise ltK/\∀ c ∈ ds.take n,GoodC c
 | 0,_,_=>⟨by simp,by simp⟩
 | n+1,hn,h=>by
  have hk:n<ds.length:=by omega
  rw [zbU,Bool.and_eq_true,ziK ds n hk,Bool.and_eq_true,Bool.and_eq_true] at h
  obtain ⟨h0,h1,h2,h3⟩:=h
  obtain ⟨p,g⟩:=zi6 ds n (by omega) h0
  rw [List.take_succ_eq_append_getElem hk]
  have hg:GoodC ds[n]:=⟨h1,by unfold inB at h2;simp at h2;omega,by unfold inB at h2;simp at h2;omega⟩
  refine ⟨?_,fun c hc=>?_⟩
  ·rw [List.pairwise_append]
   refine ⟨p,by simp,fun c hc d hd=>?_⟩
   rw [List.mem_singleton.1 hd]
   cases n with
   | zero=>simp at hc
   | succ m =>
    have hm:m<ds.length:=by omega
    rw [zgH ds m _ hm] at h3
    have hl:ltP ds[m].key ds[m+1].key:=(lessP _ _).1 h3
    rw [List.take_succ_eq_append_getElem hm] at p hc
    rw [List.pairwise_append] at p
    rcases List.mem_append.1 hc with hc|hc
    ·exact zeQ (p.2.2 c hc ds[m] (by simp)) hl
    ·rw [List.mem_singleton.1 hc];exact hl
  ·rcases List.mem_append.1 hc with hc|hc
   ·exact g c hc
   ·rw [List.mem_singleton.1 hc];exact hg
theorem zed {ds:List CellD} (h:zcE ds=true):zdA ds/\∀ c ∈ ds,GoodC c:=by
 unfold zcE at h
 rw [Bool.and_eq_true] at h
 have:=zi6 ds ds.length (Nat.le_refl _) h.1
 rw [List.take_length] at this
 refine ⟨⟨this.1,fun c hc e=>?_⟩,this.2⟩
 have hg:=(this.2 c hc).2.1
 rw [e] at hg
 exact absurd hg (by decide)
theorem zhg (v v':Value) (xs:List CellD) (w:World) (hs:RdL zu w v xs) (hs':RdL zu w v' xs) :
  Calls Tryz.prog 17 #[v,v'] w fun e w'=>e=.returned (.bool true)/\Below w.heap.size w w':=by
 obtain ⟨ao,cap,rfl,hc1,hc2,_,hcell⟩:=hs.shape
 obtain ⟨ao',cap',rfl,hc1',hc2',_,hcell'⟩:=hs'.shape
 have HX:=Hd hcell
 have HX':=Hd hcell'
 clear hcell hcell' hs hs'
 unfold maxLen at hc2 hc2'
 go_enter Tryz.func17,Tryz.ntmps17
 go_wp2
 go_loopw [5] (fun k wr=>∃ (n:Nat),k=.int .i64 n/\n<=xs.length/\Below w.heap.size w wr) (fun k _=>xs.length - (intOf k).toNat)
 case atStart=>exact ⟨0,rfl,by omega,(by repeat (with_reducible exact Below.refl _ _))⟩
 case round =>
  obtain ⟨n,rfl,hn,hbel⟩:=hrel
  obtain ⟨X,rfl⟩:=hbel.ext
  clear hbel
  by_cases hlt:(n:Int)<xs.length
  ·have hk:n<xs.length:=by omega
   obtain ⟨b,off,rfl,hbl,hcell⟩:=HX.out (by intro e;simp [e] at hk)
   obtain ⟨b',off',rfl,hbl',hcell'⟩:=HX'.out (by intro e;simp [e] at hk)
   have hcc:=hcell n hk
   have hcc':=hcell' n hk
   generalize xs[n]=x at hcc hcc'
   have y0:w.cell? ⟨b,off+n*2,none⟩=some (.string x.key):=hcc 0 _ rfl
   have y1:w.cell? ⟨b,off+n*2+1,none⟩=some (.string x.val):=hcc 1 _ rfl
   have z0:w.cell? ⟨b',off'+n*2,none⟩=some (.string x.key):=hcc' 0 _ rfl
   have z1:w.cell? ⟨b',off'+n*2+1,none⟩=some (.string x.val):=hcc' 1 _ rfl
   have hbl:=hbl (by decide)
   have hbl':=hbl' (by decide)
   clear hcell hcell' hcc hcc'
   go_wp2
   go_quiet (fail)
   go_wp2
   go_roundw
   case rel=>exact ⟨n+1,by go_num,by omega,(by repeat (first|with_reducible exact Below.refl _ _|with_reducible apply Below.ofExt))⟩
   case measure=>simp [intOf];omega
  ·go_wp2
   go_ret
   exact ⟨rfl,(by repeat (first|with_reducible exact Below.refl _ _|with_reducible apply Below.ofExt))⟩
theorem zf1 {P:Program} {W:World} {base:Nat} {t e:TypeId} {a:Addr} {len cap:Nat} (ht:P.underlying t=some (.slice e)) (h:Value.okWide P W .any base t (.slice (some a) len cap)) :
  a.spot=none/\a.block<W.heap.size/\len<=cap/\cap<=maxLen:=by
 unfold Value.okWide at h
 rw [ht] at h
 unfold Cell.okWide at h
 rw [ht] at h
 unfold Cell.ok at h
 rw [ht] at h
 obtain ⟨h1,h2,_,h3,row,cells,h4,_⟩:=h
 refine ⟨h3,?_,h1,?_⟩
 ·unfold World.shape? at h4
  rcases Nat.lt_or_ge a.block W.heap.size with h|h
  ·exact h
  ·rw [Array.getElem?_eq_none h] at h4
   cases h4
 ·have:IntKind.i64.max=9223372036854775807:=by decide
  unfold maxLen
  omega
theorem open_bytes {H:Type} {enc:TypeId × Value->H} {P:Program} {W:World} {base:Nat} {t e:TypeId} {v:Value} {d:DataW H} {p:List MemPlace} (ht:P.underlying t=some (.slice e)) (he:P.underlying e=some (.int .u8)) (hc:P.cellsOf e=1)
  (hv:Value.okWide P W .any base t v) (h:DataW.Trod enc P W 0 (fun _=>true) true t v d p):∃ bs:List UInt8,Sl W v bs.length (zL bs)/\∀ b,v.ownBlock=some b->b<W.heap.size:=by
 obtain ⟨ao,len,cap,rfl⟩:=okWide_slice ht hv
 obtain ⟨fuel,hf⟩:=h
 rcases open_ints ht he hc hf with ⟨h1,_⟩|⟨a,len',cap',zs,h1,_,h2,h3,h4,_,h5,h6⟩
 ·simp only [Value.cells,List.cons.injEq,and_true,Value.slice.injEq] at h1
  obtain ⟨rfl,rfl,rfl⟩:=h1
  exact ⟨[],.inl ⟨rfl,rfl,rfl⟩,fun b hb=>by simp [Value.ownBlock] at hb⟩
 ·simp only [Value.cells,List.cons.injEq,and_true,Value.slice.injEq] at h1
  obtain ⟨rfl,rfl,rfl⟩:=h1
  obtain ⟨g1,g2,_,_⟩:=zf1 ht hv
  obtain ⟨b,off,sp⟩:=a
  simp only at g1 g2
  subst g1
  simp only [if_true] at h4
  have hl:((zs.take len).map fun n=>UInt8.ofNat n.toNat).length=len:=by simp;omega
  refine ⟨(zs.take len).map fun n=>UInt8.ofNat n.toNat,.inr ⟨b,off,cap,by rw [hl],by omega,h3,fun j u hj=>?_⟩,fun k hk=>by simp [Value.ownBlock] at hk;omega⟩
  have hjl:j<len:=by
   have:=(List.getElem?_eq_some_iff.1 hj).1
   simp [zL] at this
   omega
  have hz:j<zs.length:=by omega
  have:=h5 j hz
  have ea:(Addr.add ⟨b,off,none⟩ j)=⟨b,off+j,none⟩:=by
   unfold Addr.add
   split
   ·next h=>subst h;rfl
   ·rfl
  rw [ea] at this
  rw [this]
  simp only [zL,List.map_map,List.getElem?_map,List.getElem?_take,hjl,if_true,List.getElem?_eq_getElem hz,Option.map_some,Option.some.injEq,Function.comp] at hj
  rw [<- hj,List.getD_eq_getElem?_getD,List.getElem?_eq_getElem hz]
  have hr:=bounds_u8 (h6 zs[j] (List.getElem_mem hz))
  simp only [Option.getD_some,Option.some.injEq,Value.int.injEq,true_and]
  have:(UInt8.ofNat zs[j].toNat).toNat=zs[j].toNat:=by simp [UInt8.toNat_ofNat'];omega
  rw [this]
  omega
end Go.Proofs.YtpnoehpmgflibaaGreatDoor
