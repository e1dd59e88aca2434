/- Texts of this claim, merged: the walks and what they stand on. Each condition stands in its theorem. -/
import Derived.Test.YtncnbihlngapbaaGreatCB21
set_option linter.unusedVariables false
set_option linter.unusedSimpArgs false
set_option maxRecDepth 100000
set_option maxHeartbeats 8000000
namespace Go.Proofs.YtncnbihlngapbaaGreat
open Go.ChangeShapes Go.WideShapes Go.ChangeAt Go.RowKit
structure TouchOk (d:TouchD):Prop where
 r:∀ s ∈ d.reads,s.size<=maxLen
 w:∀ s ∈ d.writes,s.size<=maxLen
theorem zh8 {v:Value} {xs:List ByteArray} {w:World} {e:TypeId} (h:(vSlice zgl e).rd w [v] xs):∀ s ∈ xs,s.size<=maxLen:=by
 obtain ⟨_,_,_,_,_,_,_,h⟩:=zcw h
 exact h
theorem zdW {cs:List Value} {d:TouchD} {w:World} (h:zbv.rd w cs d):TouchOk d:=by
 obtain ⟨_,_,_,h0,h1⟩:=h
 exact ⟨zh8 h0,zh8 h1⟩
def zaP (xs ys:List ByteArray):Bool:=xs.any fun x=>ys.any fun y=>zad x y
theorem zea (b:Nat) (x y:ByteArray) (w:World) (hx:x.size<=maxLen) (hy:y.size<=maxLen) (hb:w.cell? ⟨b,0,none⟩=some (.string x)) :
  Calls Tryz.prog 34 #[.string y,.pointer (some ⟨b,0,none⟩)] w fun e w'=>e=.returned (.bool (zad x y))/\w=w':=by
 go_enter Tryz.func34,Tryz.ntmps34
 go_wp2_with fail
 (go_at_call 35;refine (zf1 x y _ hx hy).mono ?_;rintro e w' ⟨rfl,rfl⟩)
 go_wp2
 go_ret
 exact ⟨rfl,rfl⟩
theorem zfQ (v:Value) (ys:List ByteArray) (c:Nat) (x:ByteArray) (w:World) (hs:(vSlice zgl 9).rd w [v] ys) (hx:x.size<=maxLen) (hz:∀ s ∈ ys,s.size<=maxLen) (hcl:c<w.heap.size) (hc:w.cell? ⟨c,0,none⟩=some (.string x)) :
  Calls Tryz.prog 45 #[v,.func (Fn.func 34) #[] #[.pointer (some ⟨c,0,none⟩)]] w fun e w'=>∃ r:Int,e=.returned (.int .i64 r)/\(decide (0<=r)=ys.any fun y=>zad x y)/\Below w.heap.size w w':=by
 obtain ⟨ao,cap,rfl,hc1,hc2,hnil,hcell,_⟩:=zcw hs
 have HX:=Hd hcell
 have HZ:=Hd hz
 clear hcell hs hnil hz
 unfold maxLen at hc2
 go_enter Tryz.func45,Tryz.ntmps45
 go_wp2
 go_loopw [8] (fun k wr=>∃ (n:Nat) (X:Ext),k=.int .i64 n/\n<=ys.length/\wr=w.ext X/\(ys.take n).any (fun y=>zad x y)=false) (fun k _=>ys.length - (intOf k).toNat)
 case atStart=>exact ⟨0,⟨#[],_⟩,rfl,by omega,(zek _ _ rfl).symm,rfl⟩
 case round =>
  obtain ⟨n,X,rfl,hn,rfl,hany⟩:=hrel
  have HA:=Hd hany
  clear hany
  by_cases hlt:(n:Int)<ys.length
  ·have hk:n<ys.length:=by omega
   obtain ⟨b,off,rfl,hbl,hcell⟩:=HX.out (by intro e;simp [e] at hk)
   have hcc:=hcell n hk
   have hstep:=zbC (fun y=>zad x y) ys n hk
   have hyz:=HZ.out _ (List.getElem_mem hk)
   generalize ys[n]=y at hcc hstep hyz
   have HT:=Hd hstep
   clear hcell hstep
   cases hm:zad x y with
   | true =>
    go_wp2_with fail
    (go_at_call 34;refine (zea c x y _ hx hyz (by simp [go_sem,hcl,hc])).mono ?_;rintro e w' ⟨rfl,rfl⟩)
    rw [hm]
    go_wp2
    go_ret
    refine ⟨n,rfl,?_,(by repeat (first|with_reducible exact Below.refl _ _|with_reducible apply Below.ofExt|with_reducible apply Below.ofAlloc|with_reducible apply Below.drew|with_reducible apply Below.ofDrewN|with_reducible assumption|(with_reducible refine Below.setCell ?_ (by first|exact Nat.le_refl _|(simp [go_sem];done)|(simp [go_sem];omega)) _)))⟩
    rw [zbZ _ ys (n+1) (by rw [HT.out,hm,Bool.or_true])]
    simp
   | false =>
    go_wp2_with fail
    (go_at_call 34;refine (zea c x y _ hx hyz (by simp [go_sem,hcl,hc])).mono ?_;rintro e w' ⟨rfl,rfl⟩)
    rw [hm]
    go_wp2
    go_roundw
    case rel=>exact ⟨n+1,_,by go_num,by omega,rfl,by rw [HT.out,HA.out,hm];rfl⟩
    case measure=>simp [intOf];omega
  ·go_wp2
   go_ret
   have e:n=ys.length:=by omega
   subst e
   have ha:=HA.out
   rw [List.take_length] at ha
   refine ⟨-1,rfl,?_,(by repeat (first|with_reducible exact Below.refl _ _|with_reducible apply Below.ofExt|with_reducible apply Below.ofAlloc|with_reducible apply Below.drew|with_reducible apply Below.ofDrewN|with_reducible assumption|(with_reducible refine Below.setCell ?_ (by first|exact Nat.le_refl _|(simp [go_sem];done)|(simp [go_sem];omega)) _)))⟩
   rw [ha]
   rfl
theorem zcx (v:Value) (ys:List ByteArray) (c:Nat) (x:ByteArray) (w:World) (hs:(vSlice zgl 9).rd w [v] ys) (hx:x.size<=maxLen) (hz:∀ s ∈ ys,s.size<=maxLen) (hcl:c<w.heap.size) (hc:w.cell? ⟨c,0,none⟩=some (.string x)) :
  Calls Tryz.prog 33 #[v,.func (Fn.func 34) #[] #[.pointer (some ⟨c,0,none⟩)]] w fun e w'=>e=.returned (.bool (ys.any fun y=>zad x y))/\Below w.heap.size w w':=by
 go_enter Tryz.func33,Tryz.ntmps33
 go_wp2_with fail
 (go_at_call 45;refine (zfQ v ys c x _ hs hx hz hcl hc).mono ?_;rintro e w' ⟨r,rfl,hr,hb⟩;obtain ⟨X,rfl⟩:=hb.ext;clear hb)
 go_wp2
 go_ret
 exact ⟨by rw [<- hr];rfl,(by repeat (first|with_reducible exact Below.refl _ _|with_reducible apply Below.ofExt|with_reducible apply Below.ofAlloc|with_reducible apply Below.drew|with_reducible apply Below.ofDrewN|with_reducible assumption|(with_reducible refine Below.setCell ?_ (by first|exact Nat.le_refl _|(simp [go_sem];done)|(simp [go_sem];omega)) _)))⟩
theorem zbr (v v':Value) (xs ys:List ByteArray) (w:World) (hs:(vSlice zgl 9).rd w [v] xs) (hs':(vSlice zgl 9).rd w [v'] ys) (hz:∀ s ∈ xs,s.size<=maxLen) (hz':∀ s ∈ ys,s.size<=maxLen) :
  Calls Tryz.prog 24 #[v,v'] w fun e w'=>e=.returned (.bool (zaP xs ys))/\Below w.heap.size w w':=by
 obtain ⟨ao,cap,rfl,hc1,hc2,hnil,hcell,_⟩:=zcw hs
 have HX:=Hd hcell
 have HZ:=Hd hz
 have HZ':=Hd hz'
 have HS':=Hd hs'
 clear hcell hs hnil hz hz' hs'
 unfold maxLen at hc2
 go_enter Tryz.func24,Tryz.ntmps24
 go_wp2
 go_loopw [9] (fun k wr=>∃ (n:Nat),k=.int .i64 n/\n<=xs.length/\Below w.heap.size w wr/\(xs.take n).any (fun x=>ys.any fun y=>zad x y)=false) (fun k _=>xs.length - (intOf k).toNat)
 case atStart=>exact ⟨0,rfl,by omega,(by repeat (first|with_reducible exact Below.refl _ _|with_reducible apply Below.ofExt|with_reducible apply Below.ofAlloc|with_reducible apply Below.drew|with_reducible apply Below.ofDrewN|with_reducible assumption|(with_reducible refine Below.setCell ?_ (by first|exact Nat.le_refl _|(simp [go_sem];done)|(simp [go_sem];omega)) _))),rfl⟩
 case round =>
  obtain ⟨n,rfl,hn,hbel,hany⟩:=hrel
  obtain ⟨X,rfl⟩:=hbel.ext
  have HA:=Hd hany
  clear hany
  by_cases hlt:(n:Int)<xs.length
  ·have hk:n<xs.length:=by omega
   obtain ⟨b,off,rfl,hbl,hcell⟩:=HX.out (by intro e;simp [e] at hk)
   have hcc:=hcell n hk
   have hstep:=zbC (fun x=>ys.any fun y=>zad x y) xs n hk
   have hyz:=HZ.out _ (List.getElem_mem hk)
   generalize xs[n]=x at hcc hstep hyz
   have HT:=Hd hstep
   clear hcell hstep
   cases hm:ys.any fun y=>zad x y with
   | true =>
    go_wp2_with fail
    (go_at_call 33;refine (zcx v' ys _ x _ (by (try simp only [<- Array.append_assoc]);(repeat (first|with_reducible exact HS'.out|with_reducible apply zB|with_reducible apply zI|with_reducible apply zD|with_reducible apply zG|with_reducible apply zC));all_goals exact (0:Nat)) hyz HZ'.out (by simp [go_sem]) (by simp [go_sem])).mono ?_;rintro e w' ⟨rfl,hb⟩;obtain ⟨X,rfl⟩:=hb.ext;clear hb)
    rw [hm]
    go_wp2
    go_ret
    exact ⟨by unfold zaP;rw [zbZ _ xs (n+1) (by rw [HT.out,hm,Bool.or_true])];rfl,(by repeat (first|with_reducible exact Below.refl _ _|with_reducible apply Below.ofExt|with_reducible apply Below.ofAlloc|with_reducible apply Below.drew|with_reducible apply Below.ofDrewN|with_reducible assumption|(with_reducible refine Below.setCell ?_ (by first|exact Nat.le_refl _|(simp [go_sem];done)|(simp [go_sem];omega)) _)))⟩
   | false =>
    go_wp2_with fail
    (go_at_call 33;refine (zcx v' ys _ x _ (by (try simp only [<- Array.append_assoc]);(repeat (first|with_reducible exact HS'.out|with_reducible apply zB|with_reducible apply zI|with_reducible apply zD|with_reducible apply zG|with_reducible apply zC));all_goals exact (0:Nat)) hyz HZ'.out (by simp [go_sem]) (by simp [go_sem])).mono ?_;rintro e w' ⟨rfl,hb⟩;obtain ⟨X,rfl⟩:=hb.ext;clear hb)
    rw [hm]
    go_wp2
    go_roundw
    case rel =>
     exact ⟨n+1,by go_num,by omega,(by repeat (first|with_reducible exact Below.refl _ _|with_reducible apply Below.ofExt|with_reducible apply Below.ofAlloc|with_reducible apply Below.drew|with_reducible apply Below.ofDrewN|with_reducible assumption|(with_reducible refine Below.setCell ?_ (by first|exact Nat.le_refl _|(simp [go_sem];done)|(simp [go_sem];omega)) _))),by rw [HT.out,HA.out,hm];rfl⟩
    case measure=>simp [intOf];omega
  ·go_wp2
   go_ret
   have e:n=xs.length:=by omega
   subst e
   have ha:=HA.out
   rw [List.take_length] at ha
   exact ⟨by unfold zaP;rw [ha];rfl,(by repeat (first|with_reducible exact Below.refl _ _|with_reducible apply Below.ofExt|with_reducible apply Below.ofAlloc|with_reducible apply Below.drew|with_reducible apply Below.ofDrewN|with_reducible assumption|(with_reducible refine Below.setCell ?_ (by first|exact Nat.le_refl _|(simp [go_sem];done)|(simp [go_sem];omega)) _)))⟩
theorem zbn (v v':Value) (xs ys:List ByteArray) (w:World) (hs:(vSlice zgl 9).rd w [v] xs) (hs':(vSlice zgl 9).rd w [v'] ys) (hz:∀ s ∈ xs,s.size<=maxLen) (hz':∀ s ∈ ys,s.size<=maxLen) :
  Calls Tryz.prog 25 #[v,v'] w fun e w'=>e=.returned (.bool (zaP xs ys))/\Below w.heap.size w w':=by
 obtain ⟨ao,cap,rfl,hc1,hc2,hnil,hcell,_⟩:=zcw hs
 obtain ⟨ao',cap',rfl,hc1',hc2',hnil',hcell',_⟩:=zcw hs'
 have HX:=Hd hcell
 have HX':=Hd hcell'
 have HZ:=Hd hz
 have HZ':=Hd hz'
 clear hcell hs hnil hz hz' hs' hnil' hcell'
 unfold maxLen at hc2 hc2'
 go_enter Tryz.func25,Tryz.ntmps25
 go_wp2
 go_loopw [5] (fun k wr=>∃ (n:Nat),k=.int .i64 n/\n<=xs.length/\Below w.heap.size w wr/\(xs.take n).any (fun x=>ys.any fun y=>zad x y)=false) (fun k _=>xs.length - (intOf k).toNat)
 case atStart=>exact ⟨0,rfl,by omega,(by repeat (first|with_reducible exact Below.refl _ _|with_reducible apply Below.ofExt|with_reducible apply Below.ofAlloc|with_reducible apply Below.drew|with_reducible apply Below.ofDrewN|with_reducible assumption|(with_reducible refine Below.setCell ?_ (by first|exact Nat.le_refl _|(simp [go_sem];done)|(simp [go_sem];omega)) _))),rfl⟩
 case round =>
  obtain ⟨n,rfl,hn,hbel,hany⟩:=hrel
  obtain ⟨X,rfl⟩:=hbel.ext
  have HA:=Hd hany
  clear hany
  by_cases hlt:(n:Int)<xs.length
  ·have hk:n<xs.length:=by omega
   obtain ⟨b,off,rfl,hbl,hcell⟩:=HX.out (by intro e;simp [e] at hk)
   have hcc:=hcell n hk
   have hstep:=zbC (fun x=>ys.any fun y=>zad x y) xs n hk
   have hxz:=HZ.out _ (List.getElem_mem hk)
   generalize xs[n]=x at hcc hstep hxz
   have HT:=Hd hstep
   have HXZ:=Hd hxz
   clear hcell hstep hxz
   go_wp2
   go_loopw [6] (fun k wr=>∃ (m:Nat),k=.int .i64 m/\m<=ys.length/\Below w.heap.size w wr/\(ys.take m).any (fun y=>zad x y)=false) (fun k _=>ys.length - (intOf k).toNat)
   case atStart=>exact ⟨0,rfl,by omega,(by repeat (first|with_reducible exact Below.refl _ _|with_reducible apply Below.ofExt|with_reducible apply Below.ofAlloc|with_reducible apply Below.drew|with_reducible apply Below.ofDrewN|with_reducible assumption|(with_reducible refine Below.setCell ?_ (by first|exact Nat.le_refl _|(simp [go_sem];done)|(simp [go_sem];omega)) _))),rfl⟩
   case round =>
    obtain ⟨m,rfl,hm,hbel2,hany2⟩:=hrel
    obtain ⟨Y,rfl⟩:=hbel2.ext
    have HA2:=Hd hany2
    clear hany2
    by_cases hlt2:(m:Int)<ys.length
    ·have hk2:m<ys.length:=by omega
     obtain ⟨b',off',rfl,hbl',hcell'⟩:=HX'.out (by intro e;simp [e] at hk2)
     have hcc':=hcell' m hk2
     have hstep2:=zbC (fun y=>zad x y) ys m hk2
     have hyz:=HZ'.out _ (List.getElem_mem hk2)
     generalize ys[m]=y at hcc' hstep2 hyz
     have HT2:=Hd hstep2
     have HYZ:=Hd hyz
     clear hcell' hstep2 hyz
     cases hmt:zad x y with
     | true =>
      go_wp2
      refine zao [(0,true),(1,true),(2,true),(3,true),(4,true),(5,true),(6,true),(7,true),(8,false)] 9 (by kernel_rfl) (by kernel_rfl) ?_
      repeat (refine zq rfl (fun K hK=>?_);go_simp;(try simp (disch:=omega) only [IntWalk.i64_in]);refine hK _ ?_;clear hK K)
      refine zo rfl (fun K hK=>?_);go_simp;go_at_call 36;refine (zdv x y _ HXZ.out HYZ.out).mono ?_;rintro e w' ⟨rfl,rfl⟩;try go_simp;refine hK _ _ (by show Sx _ _;(try simp only [<- Array.append_assoc]);repeat (first|with_reducible exact Sx.drew _|with_reducible exact Sx.same _ _ _ _|with_reducible exact ⟨_,rfl⟩|with_reducible apply Sx.more|with_reducible apply Sx.ext|with_reducible apply Sx.alloc|with_reducible apply zL|with_reducible exact Sx.refl _)) ?_;clear hK K
      refine zX ?_
      go_wp2
      go_ret
      have h2:=zbZ _ ys (m+1) (by rw [HT2.out,hmt,Bool.or_true])
      exact ⟨by unfold zaP;rw [zbZ _ xs (n+1) (by rw [HT.out,h2,Bool.or_true])];rfl,(by repeat (first|with_reducible exact Below.refl _ _|with_reducible apply Below.ofExt|with_reducible apply Below.ofAlloc|with_reducible apply Below.drew|with_reducible apply Below.ofDrewN|with_reducible assumption|(with_reducible refine Below.setCell ?_ (by first|exact Nat.le_refl _|(simp [go_sem];done)|(simp [go_sem];omega)) _)))⟩
     | false =>
      go_wp2
      refine zao [(0,true),(1,true),(2,true),(3,true),(4,true),(5,true),(6,true),(7,true),(8,false)] 9 (by kernel_rfl) (by kernel_rfl) ?_
      repeat (refine zq rfl (fun K hK=>?_);go_simp;(try simp (disch:=omega) only [IntWalk.i64_in]);refine hK _ ?_;clear hK K)
      refine zo rfl (fun K hK=>?_);go_simp;go_at_call 36;refine (zdv x y _ HXZ.out HYZ.out).mono ?_;rintro e w' ⟨rfl,rfl⟩;try go_simp;refine hK _ _ (by show Sx _ _;(try simp only [<- Array.append_assoc]);repeat (first|with_reducible exact Sx.drew _|with_reducible exact Sx.same _ _ _ _|with_reducible exact ⟨_,rfl⟩|with_reducible apply Sx.more|with_reducible apply Sx.ext|with_reducible apply Sx.alloc|with_reducible apply zL|with_reducible exact Sx.refl _)) ?_;clear hK K
      refine zX ?_
      go_wp2
      go_roundw
      case rel=>exact ⟨m+1,by go_num,by omega,(by repeat (first|with_reducible exact Below.refl _ _|with_reducible apply Below.ofExt|with_reducible apply Below.ofAlloc|with_reducible apply Below.drew|with_reducible apply Below.ofDrewN|with_reducible assumption|(with_reducible refine Below.setCell ?_ (by first|exact Nat.le_refl _|(simp [go_sem];done)|(simp [go_sem];omega)) _))),by rw [HT2.out,HA2.out,hmt];rfl⟩
      case measure=>simp [intOf];omega
    ·go_wp2
     go_roundw
     case rel =>
      have e:m=ys.length:=by omega
      subst e
      have ha:=HA2.out
      rw [List.take_length] at ha
      exact ⟨n+1,by go_num,by omega,(by repeat (first|with_reducible exact Below.refl _ _|with_reducible apply Below.ofExt|with_reducible apply Below.ofAlloc|with_reducible apply Below.drew|with_reducible apply Below.ofDrewN|with_reducible assumption|(with_reducible refine Below.setCell ?_ (by first|exact Nat.le_refl _|(simp [go_sem];done)|(simp [go_sem];omega)) _))),by rw [HT.out,HA.out,ha];rfl⟩
     case measure=>simp [intOf];omega
  ·go_wp2
   go_ret
   have e:n=xs.length:=by omega
   subst e
   have ha:=HA.out
   rw [List.take_length] at ha
   exact ⟨by unfold zaP;rw [ha];rfl,(by repeat (first|with_reducible exact Below.refl _ _|with_reducible apply Below.ofExt|with_reducible apply Below.ofAlloc|with_reducible apply Below.drew|with_reducible apply Below.ofDrewN|with_reducible assumption|(with_reducible refine Below.setCell ?_ (by first|exact Nat.le_refl _|(simp [go_sem];done)|(simp [go_sem];omega)) _)))⟩
def zfD (d e:TouchD):Bool:=zaP d.writes e.reads || (zaP d.writes e.writes || zaP d.reads e.writes)
theorem zhd (xs ys:List ByteArray):zaP xs ys=zaP ys xs:=by
 unfold zaP
 rw [Bool.eq_iff_iff]
 simp only [List.any_eq_true]
 constructor
 ·rintro ⟨x,hx,y,hy,h⟩
  exact ⟨y,hy,x,hx,by rw [zdw];exact h⟩
 ·rintro ⟨x,hx,y,hy,h⟩
  exact ⟨y,hy,x,hx,by rw [zdw];exact h⟩
theorem zf6 (cs:List Value) (d:TouchD) (cs':List Value) (e:TouchD) (w:World) (hs:zbv.rd w cs d) (hs':zbv.rd w cs' e) :
  Calls Tryz.prog 17 #[.agg cs.toArray,.agg cs'.toArray] w fun x w'=>x=.returned (.bool (zfD d e))/\Below w.heap.size w w':=by
 have hd:=zdW hs
 have he:=zdW hs'
 obtain ⟨u1,u2,rfl,hu1,hu2⟩:=hs
 obtain ⟨v1,v2,rfl,hv1,hv2⟩:=hs'
 have HU1:=Hd hu1
 have HU2:=Hd hu2
 have HV1:=Hd hv1
 have HV2:=Hd hv2
 clear hu1 hu2 hv1 hv2
 cases h1:zaP d.writes e.reads with
 | true =>
  go_enter Tryz.func17,Tryz.ntmps17
  go_wp2_with fail
  (go_at_call 25;refine (zbn _ _ d.writes e.reads _ (by (try simp only [<- Array.append_assoc]);(repeat (first|with_reducible exact HU2.out|with_reducible apply zB|with_reducible apply zI|with_reducible apply zD|with_reducible apply zG|with_reducible apply zC));all_goals exact (0:Nat)) (by (try simp only [<- Array.append_assoc]);(repeat (first|with_reducible exact HV1.out|with_reducible apply zB|with_reducible apply zI|with_reducible apply zD|with_reducible apply zG|with_reducible apply zC));all_goals exact (0:Nat)) hd.w he.r).mono ?_;rintro e w' ⟨rfl,hb⟩;obtain ⟨X,rfl⟩:=hb.ext;clear hb)
  rw [h1]
  go_wp2
  go_ret
  exact ⟨by simp [zfD,h1],(by repeat (first|with_reducible exact Below.refl _ _|with_reducible apply Below.ofExt|with_reducible apply Below.ofAlloc|with_reducible apply Below.drew|with_reducible apply Below.ofDrewN|with_reducible assumption|(with_reducible refine Below.setCell ?_ (by first|exact Nat.le_refl _|(simp [go_sem];done)|(simp [go_sem];omega)) _)))⟩
 | false =>
  cases h2:zaP d.writes e.writes with
  | true =>
   go_enter Tryz.func17,Tryz.ntmps17
   go_wp2_with fail
   (go_at_call 25;refine (zbn _ _ d.writes e.reads _ (by (try simp only [<- Array.append_assoc]);(repeat (first|with_reducible exact HU2.out|with_reducible apply zB|with_reducible apply zI|with_reducible apply zD|with_reducible apply zG|with_reducible apply zC));all_goals exact (0:Nat)) (by (try simp only [<- Array.append_assoc]);(repeat (first|with_reducible exact HV1.out|with_reducible apply zB|with_reducible apply zI|with_reducible apply zD|with_reducible apply zG|with_reducible apply zC));all_goals exact (0:Nat)) hd.w he.r).mono ?_;rintro e w' ⟨rfl,hb⟩;obtain ⟨X,rfl⟩:=hb.ext;clear hb)
   rw [h1]
   go_wp2_with fail
   (go_at_call 25;refine (zbn _ _ d.writes e.writes _ (by (try simp only [<- Array.append_assoc]);(repeat (first|with_reducible exact HU2.out|with_reducible apply zB|with_reducible apply zI|with_reducible apply zD|with_reducible apply zG|with_reducible apply zC));all_goals exact (0:Nat)) (by (try simp only [<- Array.append_assoc]);(repeat (first|with_reducible exact HV2.out|with_reducible apply zB|with_reducible apply zI|with_reducible apply zD|with_reducible apply zG|with_reducible apply zC));all_goals exact (0:Nat)) hd.w he.w).mono ?_;rintro e w' ⟨rfl,hb⟩;obtain ⟨X,rfl⟩:=hb.ext;clear hb)
   rw [h2]
   go_wp2
   go_ret
   exact ⟨by simp [zfD,h1,h2],(by repeat (first|with_reducible exact Below.refl _ _|with_reducible apply Below.ofExt|with_reducible apply Below.ofAlloc|with_reducible apply Below.drew|with_reducible apply Below.ofDrewN|with_reducible assumption|(with_reducible refine Below.setCell ?_ (by first|exact Nat.le_refl _|(simp [go_sem];done)|(simp [go_sem];omega)) _)))⟩
  | false =>
   go_enter Tryz.func17,Tryz.ntmps17
   go_wp2_with fail
   (go_at_call 25;refine (zbn _ _ d.writes e.reads _ (by (try simp only [<- Array.append_assoc]);(repeat (first|with_reducible exact HU2.out|with_reducible apply zB|with_reducible apply zI|with_reducible apply zD|with_reducible apply zG|with_reducible apply zC));all_goals exact (0:Nat)) (by (try simp only [<- Array.append_assoc]);(repeat (first|with_reducible exact HV1.out|with_reducible apply zB|with_reducible apply zI|with_reducible apply zD|with_reducible apply zG|with_reducible apply zC));all_goals exact (0:Nat)) hd.w he.r).mono ?_;rintro e w' ⟨rfl,hb⟩;obtain ⟨X,rfl⟩:=hb.ext;clear hb)
   rw [h1]
   go_wp2_with fail
   (go_at_call 25;refine (zbn _ _ d.writes e.writes _ (by (try simp only [<- Array.append_assoc]);(repeat (first|with_reducible exact HU2.out|with_reducible apply zB|with_reducible apply zI|with_reducible apply zD|with_reducible apply zG|with_reducible apply zC));all_goals exact (0:Nat)) (by (try simp only [<- Array.append_assoc]);(repeat (first|with_reducible exact HV2.out|with_reducible apply zB|with_reducible apply zI|with_reducible apply zD|with_reducible apply zG|with_reducible apply zC));all_goals exact (0:Nat)) hd.w he.w).mono ?_;rintro e w' ⟨rfl,hb⟩;obtain ⟨X,rfl⟩:=hb.ext;clear hb)
   rw [h2]
   go_wp2_with fail
   (go_at_call 25;refine (zbn _ _ d.reads e.writes _ (by (try simp only [<- Array.append_assoc]);(repeat (first|with_reducible exact HU1.out|with_reducible apply zB|with_reducible apply zI|with_reducible apply zD|with_reducible apply zG|with_reducible apply zC));all_goals exact (0:Nat)) (by (try simp only [<- Array.append_assoc]);(repeat (first|with_reducible exact HV2.out|with_reducible apply zB|with_reducible apply zI|with_reducible apply zD|with_reducible apply zG|with_reducible apply zC));all_goals exact (0:Nat)) hd.r he.w).mono ?_;rintro e w' ⟨rfl,hb⟩;obtain ⟨X,rfl⟩:=hb.ext;clear hb)
   go_wp2
   go_ret
   exact ⟨by simp [zfD,h1,h2],(by repeat (first|with_reducible exact Below.refl _ _|with_reducible apply Below.ofExt|with_reducible apply Below.ofAlloc|with_reducible apply Below.drew|with_reducible apply Below.ofDrewN|with_reducible assumption|(with_reducible refine Below.setCell ?_ (by first|exact Nat.le_refl _|(simp [go_sem];done)|(simp [go_sem];omega)) _)))⟩
theorem ziN (cs:List Value) (d:TouchD) (cs':List Value) (e:TouchD) (w:World) (hs:zbv.rd w cs d) (hs':zbv.rd w cs' e) :
  Calls Tryz.prog 16 #[.agg cs.toArray,.agg cs'.toArray] w fun x w'=>x=.returned (.bool (zfD d e))/\Below w.heap.size w w':=by
 have hd:=zdW hs
 have he:=zdW hs'
 obtain ⟨u1,u2,rfl,hu1,hu2⟩:=hs
 obtain ⟨v1,v2,rfl,hv1,hv2⟩:=hs'
 have HU1:=Hd hu1
 have HU2:=Hd hu2
 have HV1:=Hd hv1
 have HV2:=Hd hv2
 clear hu1 hu2 hv1 hv2
 have h3c:zaP e.writes d.reads=zaP d.reads e.writes:=zhd _ _
 cases h1:zaP d.writes e.reads with
 | true =>
  go_enter Tryz.func16,Tryz.ntmps16
  go_wp2_with fail
  (go_at_call 24;refine (zbr _ _ d.writes e.reads _ (by (try simp only [<- Array.append_assoc]);(repeat (first|with_reducible exact HU2.out|with_reducible apply zB|with_reducible apply zI|with_reducible apply zD|with_reducible apply zG|with_reducible apply zC));all_goals exact (0:Nat)) (by (try simp only [<- Array.append_assoc]);(repeat (first|with_reducible exact HV1.out|with_reducible apply zB|with_reducible apply zI|with_reducible apply zD|with_reducible apply zG|with_reducible apply zC));all_goals exact (0:Nat)) hd.w he.r).mono ?_;rintro e w' ⟨rfl,hb⟩;obtain ⟨X,rfl⟩:=hb.ext;clear hb)
  rw [h1]
  go_wp2
  go_ret
  exact ⟨by simp [zfD,h1],(by repeat (first|with_reducible exact Below.refl _ _|with_reducible apply Below.ofExt|with_reducible apply Below.ofAlloc|with_reducible apply Below.drew|with_reducible apply Below.ofDrewN|with_reducible assumption|(with_reducible refine Below.setCell ?_ (by first|exact Nat.le_refl _|(simp [go_sem];done)|(simp [go_sem];omega)) _)))⟩
 | false =>
  cases h2:zaP d.writes e.writes with
  | true =>
   go_enter Tryz.func16,Tryz.ntmps16
   go_wp2_with fail
   (go_at_call 24;refine (zbr _ _ d.writes e.reads _ (by (try simp only [<- Array.append_assoc]);(repeat (first|with_reducible exact HU2.out|with_reducible apply zB|with_reducible apply zI|with_reducible apply zD|with_reducible apply zG|with_reducible apply zC));all_goals exact (0:Nat)) (by (try simp only [<- Array.append_assoc]);(repeat (first|with_reducible exact HV1.out|with_reducible apply zB|with_reducible apply zI|with_reducible apply zD|with_reducible apply zG|with_reducible apply zC));all_goals exact (0:Nat)) hd.w he.r).mono ?_;rintro e w' ⟨rfl,hb⟩;obtain ⟨X,rfl⟩:=hb.ext;clear hb)
   rw [h1]
   go_wp2_with fail
   (go_at_call 24;refine (zbr _ _ d.writes e.writes _ (by (try simp only [<- Array.append_assoc]);(repeat (first|with_reducible exact HU2.out|with_reducible apply zB|with_reducible apply zI|with_reducible apply zD|with_reducible apply zG|with_reducible apply zC));all_goals exact (0:Nat)) (by (try simp only [<- Array.append_assoc]);(repeat (first|with_reducible exact HV2.out|with_reducible apply zB|with_reducible apply zI|with_reducible apply zD|with_reducible apply zG|with_reducible apply zC));all_goals exact (0:Nat)) hd.w he.w).mono ?_;rintro e w' ⟨rfl,hb⟩;obtain ⟨X,rfl⟩:=hb.ext;clear hb)
   rw [h2]
   go_wp2
   go_ret
   exact ⟨by simp [zfD,h1,h2],(by repeat (first|with_reducible exact Below.refl _ _|with_reducible apply Below.ofExt|with_reducible apply Below.ofAlloc|with_reducible apply Below.drew|with_reducible apply Below.ofDrewN|with_reducible assumption|(with_reducible refine Below.setCell ?_ (by first|exact Nat.le_refl _|(simp [go_sem];done)|(simp [go_sem];omega)) _)))⟩
  | false =>
   go_enter Tryz.func16,Tryz.ntmps16
   go_wp2_with fail
   (go_at_call 24;refine (zbr _ _ d.writes e.reads _ (by (try simp only [<- Array.append_assoc]);(repeat (first|with_reducible exact HU2.out|with_reducible apply zB|with_reducible apply zI|with_reducible apply zD|with_reducible apply zG|with_reducible apply zC));all_goals exact (0:Nat)) (by (try simp only [<- Array.append_assoc]);(repeat (first|with_reducible exact HV1.out|with_reducible apply zB|with_reducible apply zI|with_reducible apply zD|with_reducible apply zG|with_reducible apply zC));all_goals exact (0:Nat)) hd.w he.r).mono ?_;rintro e w' ⟨rfl,hb⟩;obtain ⟨X,rfl⟩:=hb.ext;clear hb)
   rw [h1]
   go_wp2_with fail
   (go_at_call 24;refine (zbr _ _ d.writes e.writes _ (by (try simp only [<- Array.append_assoc]);(repeat (first|with_reducible exact HU2.out|with_reducible apply zB|with_reducible apply zI|with_reducible apply zD|with_reducible apply zG|with_reducible apply zC));all_goals exact (0:Nat)) (by (try simp only [<- Array.append_assoc]);(repeat (first|with_reducible exact HV2.out|with_reducible apply zB|with_reducible apply zI|with_reducible apply zD|with_reducible apply zG|with_reducible apply zC));all_goals exact (0:Nat)) hd.w he.w).mono ?_;rintro e w' ⟨rfl,hb⟩;obtain ⟨X,rfl⟩:=hb.ext;clear hb)
   rw [h2]
   go_wp2_with fail
   (go_at_call 24;refine (zbr _ _ e.writes d.reads _ (by (try simp only [<- Array.append_assoc]);(repeat (first|with_reducible exact HV2.out|with_reducible apply zB|with_reducible apply zI|with_reducible apply zD|with_reducible apply zG|with_reducible apply zC));all_goals exact (0:Nat)) (by (try simp only [<- Array.append_assoc]);(repeat (first|with_reducible exact HU1.out|with_reducible apply zB|with_reducible apply zI|with_reducible apply zD|with_reducible apply zG|with_reducible apply zC));all_goals exact (0:Nat)) he.w hd.r).mono ?_;rintro e w' ⟨rfl,hb⟩;obtain ⟨X,rfl⟩:=hb.ext;clear hb)
   rw [h3c]
   go_wp2
   go_ret
   exact ⟨by simp [zfD,h1,h2],(by repeat (first|with_reducible exact Below.refl _ _|with_reducible apply Below.ofExt|with_reducible apply Below.ofAlloc|with_reducible apply Below.drew|with_reducible apply Below.ofDrewN|with_reducible assumption|(with_reducible refine Below.setCell ?_ (by first|exact Nat.le_refl _|(simp [go_sem];done)|(simp [go_sem];omega)) _)))⟩
theorem OwnL.dr {α : Type} {R:RowOf α} {e:TypeId} {w:World} {B:Nat} {v:Value} {xs:List α} {X:Ext} {d:Nat} (h:OwnL R e (w.ext X) B v xs):OwnL R e (w.ext ⟨X.bs,d⟩) B v xs:=by
 have:=h.ext ⟨#[],d⟩
 rwa [zm,Array.append_empty] at this
def za5 (t:TouchD) (but:Int) (d:TxD):Bool:=(d.state==1) && ((d.id != but) && zfD d.touch t)
def zaK (t:TouchD) (but:Int) (ds:List TxD):List Int:=(ds.filter (za5 t but)).map TxD.id
theorem zee (t:TouchD) (but:Int) (ds:List TxD) (n:Nat) (h:n<ds.length):zaK t but (ds.take (n+1))=zaK t but (ds.take n)++(if za5 t but ds[n]=true then [ds[n].id] else []):=by
 unfold zaK
 rw [List.take_succ_eq_append_getElem h,List.filter_append,List.map_append]
 congr 1
 by_cases hs:za5 t but ds[n]=true
 ·rw [if_pos hs,List.filter_cons_of_pos hs]
  rfl
 ·rw [if_neg hs,List.filter_cons_of_neg hs]
  rfl
theorem zc6 (cs:List Value) (d:TxD) (ct:List Value) (t:TouchD) (but:Int) (bb bt:Nat) (w:World) (hs:vTx.rd w cs d) (ht:zbv.rd w ct t) (hbb:bb<w.heap.size) (hbt:bt<w.heap.size)
  (hcb:w.cell? ⟨bb,0,none⟩=some (.int .i64 but)) (hct:∀ j u,ct[j]?=some u->w.cell? ⟨bt,j,none⟩=some u) :
  Calls Tryz.prog 15 #[.agg cs.toArray,.pointer (some ⟨bb,0,none⟩),.pointer (some ⟨bt,0,none⟩)] w fun e w'=>e=.returned (.bool (za5 t but d))/\Below w.heap.size w w':=by
 obtain ⟨ts0,ts1,rfl,th0,th1⟩:=ht
 obtain ⟨ta0,tc0,rfl⟩:=vSlice.form th0
 obtain ⟨ta1,tc1,rfl⟩:=vSlice.form th1
 have HT:Hid (zbv.rd w [_,_] t):=⟨_,_,rfl,th0,th1⟩
 clear th0 th1
 have hq:za5 t but d=za5 t but d:=rfl
 conv at hq=>rhs;unfold za5
 obtain ⟨qs0,qs1,qs2,qs3,qs4,rfl,qh0,qh1,qh2,qh3,qh4⟩:=hs
 obtain ⟨qa0,qc0,rfl⟩:=vSlice.form qh0
 obtain ⟨qa1,qc1,rfl⟩:=vSlice.form qh1
 obtain ⟨qa2,qc2,rfl⟩:=vSlice.form qh2
 obtain ⟨qa3,qc3,rfl⟩:=vSlice.form qh3
 obtain ⟨qa4,qc4,rfl⟩:=vSlice.form qh4
 have qT:Hid (zbv.rd w [_,_] d.touch):=⟨_,_,rfl,qh2,qh3⟩
 clear qh0 qh1 qh2 qh3 qh4
 have u0:=hct 0 _ rfl
 have u1:=hct 1 _ rfl
 clear hct
 by_cases f1:d.state=1
 case neg =>
  rw [hq,show (d.state==1)=false by simp [f1]]
  clear hq
  go_enter Tryz.func15,Tryz.ntmps15
  go_wp2
  go_ret
  exact ⟨rfl,(by repeat (first|with_reducible exact Below.refl _ _|with_reducible apply Below.ofExt|with_reducible apply Below.ofAlloc|with_reducible apply Below.drew|with_reducible apply Below.ofDrewN|with_reducible assumption|(with_reducible refine Below.setCell ?_ (by first|exact Nat.le_refl _|(simp [go_sem];done)|(simp [go_sem];omega)) _)))⟩
 have g1:(d.state==1)=true:=by simp [f1]
 by_cases f2:d.id=but
 case pos =>
  rw [hq,g1,show (d.id != but)=false by simp [f2]]
  clear hq
  go_enter Tryz.func15,Tryz.ntmps15
  go_wp2
  go_ret
  exact ⟨rfl,(by repeat (first|with_reducible exact Below.refl _ _|with_reducible apply Below.ofExt|with_reducible apply Below.ofAlloc|with_reducible apply Below.drew|with_reducible apply Below.ofDrewN|with_reducible assumption|(with_reducible refine Below.setCell ?_ (by first|exact Nat.le_refl _|(simp [go_sem];done)|(simp [go_sem];omega)) _)))⟩
 have g2:(d.id != but)=true:=by simp [f2]
 rw [hq,g1,g2]
 have G2:=Hd g2
 clear hq g1 g2
 go_enter Tryz.func15,Tryz.ntmps15
 go_wp2_with fail
 (go_at_call 16;refine (ziN _ d.touch _ t _ (by (try simp only [<- Array.append_assoc]);(repeat (first|with_reducible exact qT.out|with_reducible apply zB|with_reducible apply zI|with_reducible apply zD|with_reducible apply zG|with_reducible apply zC));all_goals exact (0:Nat)) (by (try simp only [<- Array.append_assoc]);(repeat (first|with_reducible exact HT.out|with_reducible apply zB|with_reducible apply zI|with_reducible apply zD|with_reducible apply zG|with_reducible apply zC));all_goals exact (0:Nat))).mono ?_;rintro e w' ⟨rfl,hb⟩;obtain ⟨X,rfl⟩:=hb.ext;clear hb)
 go_wp2
 go_ret
 exact ⟨by rw [G2.out];rfl,(by repeat (first|with_reducible exact Below.refl _ _|with_reducible apply Below.ofExt|with_reducible apply Below.ofAlloc|with_reducible apply Below.drew|with_reducible apply Below.ofDrewN|with_reducible assumption|(with_reducible refine Below.setCell ?_ (by first|exact Nat.le_refl _|(simp [go_sem];done)|(simp [go_sem];omega)) _)))⟩
theorem zhU (v:Value) (ds:List TxD) (ct:List Value) (t:TouchD) (but:Int) (bb bt:Nat) (w:World) {e:TypeId} (hs:(vSlice vTx e).rd w [v] ds) (ht:zbv.rd w ct t) (hbb:bb<w.heap.size) (hbt:bt<w.heap.size)
  (hcb:w.cell? ⟨bb,0,none⟩=some (.int .i64 but)) (hct:∀ j u,ct[j]?=some u->w.cell? ⟨bt,j,none⟩=some u) (hlen:ds.length<=1048576) :
  Calls Tryz.prog 14 #[v,.func (Fn.func 15) #[] #[.pointer (some ⟨bb,0,none⟩),.pointer (some ⟨bt,0,none⟩)]] w (Made (vSlice vInt 3) w (zaK t but ds)):=by
 obtain ⟨ao,cap,rfl,hc1,hc2,hnil,hcell⟩:=vSlice.shape hs
 have HX:=Hd hcell
 clear hcell hnil
 unfold maxLen at hc2
 clear hs
 have HT:=Hd ht
 have HCB:=Hd hcb
 have HCT:=Hd hct
 clear ht hcb hct
 go_enter Tryz.func14,Tryz.ntmps14
 go_wp2
 go_loopw [5,10] (fun o k wr=>∃ (n:Nat) (xs:List Int),k=.int .i64 n/\n<=ds.length/\Below w.heap.size w wr/\OwnL zbY 3 wr w.heap.size o xs/\xs=zaK t but (ds.take n)/\xs.length<=n) (fun _ k _=>ds.length - (intOf k).toNat)
 case atStart=>exact ⟨0,[],rfl,by omega,(by repeat (first|with_reducible exact Below.refl _ _|with_reducible apply Below.ofExt|with_reducible apply Below.ofAlloc|with_reducible apply Below.drew|with_reducible apply Below.ofDrewN|with_reducible assumption|(with_reducible refine Below.setCell ?_ (by first|exact Nat.le_refl _|(simp [go_sem];done)|(simp [go_sem];omega)) _))),OwnL.nil zbY _ w _,rfl,by simp⟩
 case round =>
  obtain ⟨n,xs,rfl,hn,hbel,ho,hxs,hxl⟩:=hrel
  obtain ⟨X,rfl⟩:=hbel.ext
  obtain ⟨oa,oc,rfl⟩:=ho.rd.form
  have HO:=Hd ho
  have HXS:=Hd hxs
  clear ho hxs
  by_cases hlt:(n:Int)<ds.length
  case pos =>
   have hk:n<ds.length:=by omega
   have hst:=zee t but ds n hk
   obtain ⟨b,off,csy,rfl,hbly,hrdy,hcelly⟩:=HX.out n hk
   generalize ds[n]=d at hrdy hst
   have HdY:=Hd hrdy
   obtain ⟨qs0,qs1,qs2,qs3,qs4,rfl,qh0,qh1,qh2,qh3,qh4⟩:=hrdy
   obtain ⟨qa0,qc0,rfl⟩:=vSlice.form qh0
   obtain ⟨qa1,qc1,rfl⟩:=vSlice.form qh1
   obtain ⟨qa2,qc2,rfl⟩:=vSlice.form qh2
   obtain ⟨qa3,qc3,rfl⟩:=vSlice.form qh3
   obtain ⟨qa4,qc4,rfl⟩:=vSlice.form qh4
   have qT:Hid (zbv.rd w [_,_] d.touch):=⟨_,_,rfl,qh2,qh3⟩
   clear qh0 qh1 qh2 qh3 qh4
   have y0:=hcelly 0 _ rfl
   have y1:=hcelly 1 _ rfl
   have y2:=hcelly 2 _ rfl
   have y3:=hcelly 3 _ rfl
   have y4:=hcelly 4 _ rfl
   have y5:=hcelly 5 _ rfl
   have y6:=hcelly 6 _ rfl
   have y7:=hcelly 7 _ rfl
   have y8:=hcelly 8 _ rfl
   have y9:=hcelly 9 _ rfl
   clear hcelly
   simp only [show vTx.k=10 from rfl,Nat.add_zero] at y0 y1 y2 y3 y4 y5 y6 y7 y8 y9
   rw [<- HXS.out] at hst
   have HST:=Hd hst
   clear hst
   have q1:b<w.heap.size+1:=by omega
   have q2:¬ b=w.heap.size:=by omega
   have q3:b<w.heap.size+X.bs.size:=by omega
   have q4:b<w.heap.size+1+X.bs.size:=by omega
   have q5:¬ b=w.heap.size+X.bs.size:=by omega
   have q6:b<w.heap.size+X.bs.size+1:=by omega
   cases hq:za5 t but d with
   | false =>
    have HQ:=Hd hq
    clear hq
    go_wp2_with fail
    (go_at_call 15;refine (zc6 _ d _ t but _ _ _ (by (try simp only [<- Array.append_assoc]);(repeat (first|with_reducible exact HdY.out|with_reducible apply zB|with_reducible apply zI|with_reducible apply zD|with_reducible apply zG|with_reducible apply zC));all_goals exact (0:Nat)) (by (try simp only [<- Array.append_assoc]);(repeat (first|with_reducible exact HT.out|with_reducible apply zB|with_reducible apply zI|with_reducible apply zD|with_reducible apply zG|with_reducible apply zC));all_goals exact (0:Nat)) (by simp [go_sem];omega) (by simp [go_sem];omega) (by repeat (first|exact HCB.out|refine Grew.cell (Grew.ext _ _) ?_|refine Grew.cell (Grew.alloc _ _) ?_)) (fun j u hj=>by repeat (first|exact HCT.out j u hj|refine Grew.cell (Grew.ext _ _) ?_|refine Grew.cell (Grew.alloc _ _) ?_))).mono ?_;rintro e w' ⟨rfl,hb⟩;obtain ⟨X,rfl⟩:=hb.ext;clear hb)
    rw [HQ.out]
    go_wp2
    go_roundw
    case rel=>exact ⟨n+1,xs,by go_num,by omega,(by repeat (first|with_reducible exact Below.refl _ _|with_reducible apply Below.ofExt|with_reducible apply Below.ofAlloc|with_reducible apply Below.drew|with_reducible apply Below.ofDrewN|with_reducible assumption|(with_reducible refine Below.setCell ?_ (by first|exact Nat.le_refl _|(simp [go_sem];done)|(simp [go_sem];omega)) _))),(by (try simp only [<- Array.append_assoc]);(repeat (first|with_reducible exact HO.out|with_reducible exact OwnL.dr HO.out|with_reducible apply OwnL.merge2|with_reducible apply OwnL.ext|with_reducible apply OwnL.alloc));all_goals exact (0:Nat)),by rw [HST.out,HQ.out];simp,by omega⟩
    case measure=>simp [intOf];omega
   | true =>
    have HQ:=Hd hq
    clear hq
    go_wp2_with fail
    (go_at_call 15;refine (zc6 _ d _ t but _ _ _ (by (try simp only [<- Array.append_assoc]);(repeat (first|with_reducible exact HdY.out|with_reducible apply zB|with_reducible apply zI|with_reducible apply zD|with_reducible apply zG|with_reducible apply zC));all_goals exact (0:Nat)) (by (try simp only [<- Array.append_assoc]);(repeat (first|with_reducible exact HT.out|with_reducible apply zB|with_reducible apply zI|with_reducible apply zD|with_reducible apply zG|with_reducible apply zC));all_goals exact (0:Nat)) (by simp [go_sem];omega) (by simp [go_sem];omega) (by repeat (first|exact HCB.out|refine Grew.cell (Grew.ext _ _) ?_|refine Grew.cell (Grew.alloc _ _) ?_)) (fun j u hj=>by repeat (first|exact HCT.out j u hj|refine Grew.cell (Grew.ext _ _) ?_|refine Grew.cell (Grew.alloc _ _) ?_))).mono ?_;rintro e w' ⟨rfl,hb⟩;obtain ⟨X,rfl⟩:=hb.ext;clear hb)
    rw [HQ.out]
    go_wp2_with (at_builtin;refine zP ?_)
    refine zR rfl _ _ _ rfl zen (B:=w.heap.size) (v:=.slice oa xs.length oc) (xs:=xs) (R:=zbY) (by (try simp only [<- Array.append_assoc]);(repeat (first|with_reducible exact HO.out|with_reducible exact OwnL.dr HO.out|with_reducible apply OwnL.merge2|with_reducible apply OwnL.ext|with_reducible apply OwnL.alloc));all_goals exact (0:Nat)) rfl (ys:=[d.id]) (zat zbY _ d.id _ rfl _ _ (by simp [zw])) rfl (by simp only [List.length_singleton];omega) (by simp only [List.length_singleton];unfold maxLen;omega) (by simp [zw];try omega) ?_
    intro v4 w4 hown4 hgr4 _
    have hb4:Below w.heap.size w w4:=Below.appL (R:=zbY) (e:=3) (v:=.slice oa xs.length oc) (xs:=xs) (by repeat (first|with_reducible exact Below.refl _ _|with_reducible apply Below.ofExt|with_reducible apply Below.ofAlloc|with_reducible apply Below.drew|with_reducible apply Below.ofDrewN|with_reducible assumption|(with_reducible refine Below.setCell ?_ (by first|exact Nat.le_refl _|(simp [go_sem];done)|(simp [go_sem];omega)) _))) hgr4 (by (try simp only [<- Array.append_assoc]);(repeat (first|with_reducible exact HO.out|with_reducible exact OwnL.dr HO.out|with_reducible apply OwnL.merge2|with_reducible apply OwnL.ext|with_reducible apply OwnL.alloc));all_goals exact (0:Nat))
    go_wp2
    go_roundw
    case rel=>exact ⟨n+1,_,by go_num,by omega,hb4,hown4,by rw [HST.out,HQ.out];rfl,by simp;omega⟩
    case measure=>simp [intOf];omega
  case neg =>
   have e:n=ds.length:=by omega
   have hx:=HXS.out
   rw [e,List.take_length] at hx
   have HF:=Hd hx
   clear hx
   go_wp2
   go_ret
   obtain ⟨fp,h1,h2,h3⟩:=zft (HO.out.base (B':=w.heap.size) (by simp))
   rw [HF.out] at h1
   exact ⟨_,fp,by rw [<- HF.out];rfl,⟨h1,h2,h3⟩,(by repeat (first|with_reducible exact Below.refl _ _|with_reducible apply Below.ofExt|with_reducible apply Below.ofAlloc|with_reducible apply Below.drew|with_reducible apply Below.ofDrewN|with_reducible assumption|(with_reducible refine Below.setCell ?_ (by first|exact Nat.le_refl _|(simp [go_sem];done)|(simp [go_sem];omega)) _)))⟩
theorem zbP (v:Value) (ds:List TxD) (ct:List Value) (t:TouchD) (but:Int) (w:World) {e:TypeId} (hs:(vSlice vTx e).rd w [v] ds) (ht:zbv.rd w ct t) (hlen:ds.length<=1048576) :
  Calls Tryz.prog 6 #[v,.agg ct.toArray,.int .i64 but] w (Made (vSlice vInt 3) w (zaK t but ds)):=by
 obtain ⟨a0,c0,rfl⟩:=vSlice.form hs
 have HS:=Hd hs
 clear hs
 obtain ⟨ts0,ts1,rfl,th0,th1⟩:=ht
 obtain ⟨ta0,tc0,rfl⟩:=vSlice.form th0
 obtain ⟨ta1,tc1,rfl⟩:=vSlice.form th1
 have HT:Hid (zbv.rd w [_,_] t):=⟨_,_,rfl,th0,th1⟩
 clear th0 th1
 go_enter Tryz.func6,Tryz.ntmps6
 go_wp2_with fail
 (go_at_call 14;refine (zhU _ ds _ t but _ _ _ (by (try simp only [<- Array.append_assoc]);(repeat (first|with_reducible exact HS.out|with_reducible apply zB|with_reducible apply zI|with_reducible apply zD|with_reducible apply zG|with_reducible apply zC));all_goals exact (0:Nat)) (by (try simp only [<- Array.append_assoc]);(repeat (first|with_reducible exact HT.out|with_reducible apply zB|with_reducible apply zI|with_reducible apply zD|with_reducible apply zG|with_reducible apply zC));all_goals exact (0:Nat)) (by simp [go_sem]) (by simp [go_sem]) (by simp [go_sem]) (fun j u hj=>((zg (heap_alloc2_old w _ _)).trans (by simpa using hj))) hlen).mono ?_;rintro e w' ⟨u,fp,rfl,hf,hb⟩;obtain ⟨X,rfl⟩:=hb.ext)
 obtain ⟨a1,c1,rfl⟩:=vSlice.form (View.toRd _ hf.own)
 go_wp2
 go_ret
 exact ⟨_,fp,rfl,⟨hf.own,hf.nodup,fun b hb=>Nat.le_trans (by simp;omega) (hf.lo b hb)⟩,(by repeat (first|with_reducible exact Below.refl _ _|with_reducible apply Below.ofExt|with_reducible apply Below.ofAlloc|with_reducible apply Below.drew|with_reducible apply Below.ofDrewN|with_reducible assumption|(with_reducible refine Below.setCell ?_ (by first|exact Nat.le_refl _|(simp [go_sem];done)|(simp [go_sem];omega)) _)))⟩
theorem zfW (v:Value) (ds:List TxD) (ct:List Value) (t:TouchD) (but:Int) (w:World) {e:TypeId} (hs:(vSlice vTx e).rd w [v] ds) (ht:zbv.rd w ct t) (hlen:ds.length<=1048576) :
  Calls Tryz.prog 7 #[v,.agg ct.toArray,.int .i64 but] w (Made (vSlice vInt 3) w (zaK t but ds)):=by
 obtain ⟨ao,cap,rfl,hc1,hc2,hnil,hcell⟩:=vSlice.shape hs
 have HX:=Hd hcell
 clear hcell hnil
 unfold maxLen at hc2
 clear hs
 obtain ⟨ts0,ts1,rfl,th0,th1⟩:=ht
 obtain ⟨ta0,tc0,rfl⟩:=vSlice.form th0
 obtain ⟨ta1,tc1,rfl⟩:=vSlice.form th1
 have HT:Hid (zbv.rd w [_,_] t):=⟨_,_,rfl,th0,th1⟩
 clear th0 th1
 go_enter Tryz.func7,Tryz.ntmps7
 go_wp2
 go_loopw [7,8] (fun o k wr=>∃ (n:Nat) (xs:List Int),k=.int .i64 n/\n<=ds.length/\Below (w.alloc (.cells #[.slice ta0 t.reads.length tc0,.slice ta1 t.writes.length tc1] 27)).heap.size (w.alloc (.cells #[.slice ta0 t.reads.length tc0,.slice ta1 t.writes.length tc1] 27)) wr/\OwnL zbY 3 wr (w.alloc (.cells #[.slice ta0 t.reads.length tc0,.slice ta1 t.writes.length tc1] 27)).heap.size o xs/\xs=zaK t but (ds.take n)/\xs.length<=n) (fun _ k _=>ds.length - (intOf k).toNat)
 case atStart=>exact ⟨0,[],rfl,by omega,(by repeat (first|with_reducible exact Below.refl _ _|with_reducible apply Below.ofExt|with_reducible apply Below.ofAlloc|with_reducible apply Below.drew|with_reducible apply Below.ofDrewN|with_reducible assumption|(with_reducible refine Below.setCell ?_ (by first|exact Nat.le_refl _|(simp [go_sem];done)|(simp [go_sem];omega)) _))),(by have:=OwnL.empty zbY 3 (w.alloc (.cells #[.slice ta0 t.reads.length tc0,.slice ta1 t.writes.length tc1] 27));simpa using this),rfl,by simp⟩
 case round =>
  obtain ⟨n,xs,rfl,hn,hbel,ho,hxs,hxl⟩:=hrel
  obtain ⟨X,rfl⟩:=hbel.ext
  obtain ⟨oa,oc,rfl⟩:=ho.rd.form
  have HO:=Hd ho
  have HXS:=Hd hxs
  clear ho hxs
  by_cases hlt:(n:Int)<ds.length
  case pos =>
   have hk:n<ds.length:=by omega
   have hst:=zee t but ds n hk
   obtain ⟨b,off,csy,rfl,hbly,hrdy,hcelly⟩:=HX.out n hk
   generalize ds[n]=d at hrdy hst
   have HdY:=Hd hrdy
   obtain ⟨qs0,qs1,qs2,qs3,qs4,rfl,qh0,qh1,qh2,qh3,qh4⟩:=hrdy
   obtain ⟨qa0,qc0,rfl⟩:=vSlice.form qh0
   obtain ⟨qa1,qc1,rfl⟩:=vSlice.form qh1
   obtain ⟨qa2,qc2,rfl⟩:=vSlice.form qh2
   obtain ⟨qa3,qc3,rfl⟩:=vSlice.form qh3
   obtain ⟨qa4,qc4,rfl⟩:=vSlice.form qh4
   have qT:Hid (zbv.rd w [_,_] d.touch):=⟨_,_,rfl,qh2,qh3⟩
   clear qh0 qh1 qh2 qh3 qh4
   have y0:=hcelly 0 _ rfl
   have y1:=hcelly 1 _ rfl
   have y2:=hcelly 2 _ rfl
   have y3:=hcelly 3 _ rfl
   have y4:=hcelly 4 _ rfl
   have y5:=hcelly 5 _ rfl
   have y6:=hcelly 6 _ rfl
   have y7:=hcelly 7 _ rfl
   have y8:=hcelly 8 _ rfl
   have y9:=hcelly 9 _ rfl
   clear hcelly
   simp only [show vTx.k=10 from rfl,Nat.add_zero] at y0 y1 y2 y3 y4 y5 y6 y7 y8 y9
   rw [<- HXS.out] at hst
   have HST:=Hd hst
   clear hst
   have q1:b<w.heap.size+1:=by omega
   have q2:¬ b=w.heap.size:=by omega
   have q3:b<w.heap.size+X.bs.size:=by omega
   have q4:b<w.heap.size+1+X.bs.size:=by omega
   have q5:¬ b=w.heap.size+X.bs.size:=by omega
   have q6:b<w.heap.size+X.bs.size+1:=by omega
   have hq:za5 t but d=za5 t but d:=rfl
   conv at hq=>rhs;unfold za5
   by_cases f1:d.state=1
   case neg =>
    have HQ:Hid (za5 t but d=false):=by show _ = _;rw [hq,show (d.state==1)=false by simp [f1]];rfl
    clear hq
    go_wp2
    go_quiet (fail)
    go_wp2
    go_roundw
    case rel=>exact ⟨n+1,xs,by go_num,by omega,(by repeat (first|with_reducible exact Below.refl _ _|with_reducible apply Below.ofExt|with_reducible apply Below.ofAlloc|with_reducible apply Below.drew|with_reducible apply Below.ofDrewN|with_reducible assumption|(with_reducible refine Below.setCell ?_ (by first|exact Nat.le_refl _|(simp [go_sem];done)|(simp [go_sem];omega)) _))),(by (try simp only [<- Array.append_assoc]);(repeat (first|with_reducible exact HO.out|with_reducible exact OwnL.dr HO.out|with_reducible apply OwnL.merge2|with_reducible apply OwnL.ext|with_reducible apply OwnL.alloc));all_goals exact (0:Nat)),by rw [HST.out,HQ.out];simp,by omega⟩
    case measure=>simp [intOf];omega
   have g1:(d.state==1)=true:=by simp [f1]
   by_cases f2:d.id=but
   case pos =>
    have HQ:Hid (za5 t but d=false):=by show _ = _;rw [hq,g1,show (d.id != but)=false by simp [f2]];rfl
    clear hq
    go_wp2
    go_quiet (fail)
    go_wp2
    go_roundw
    case rel=>exact ⟨n+1,xs,by go_num,by omega,(by repeat (first|with_reducible exact Below.refl _ _|with_reducible apply Below.ofExt|with_reducible apply Below.ofAlloc|with_reducible apply Below.drew|with_reducible apply Below.ofDrewN|with_reducible assumption|(with_reducible refine Below.setCell ?_ (by first|exact Nat.le_refl _|(simp [go_sem];done)|(simp [go_sem];omega)) _))),(by (try simp only [<- Array.append_assoc]);(repeat (first|with_reducible exact HO.out|with_reducible exact OwnL.dr HO.out|with_reducible apply OwnL.merge2|with_reducible apply OwnL.ext|with_reducible apply OwnL.alloc));all_goals exact (0:Nat)),by rw [HST.out,HQ.out];simp,by omega⟩
    case measure=>simp [intOf];omega
   have g2:(d.id != but)=true:=by simp [f2]
   cases hc:zfD d.touch t with
   | false =>
    have HQ:Hid (za5 t but d=false):=by show _ = _;rw [hq,g1,g2,hc];rfl
    have HC:=Hd hc
    clear hq hc
    go_wp2
    refine zao [(0,true),(1,true),(2,true),(3,true),(4,true),(5,true),(6,true),(7,true),(8,true),(9,true),(10,true),(11,true),(12,true),(13,true),(14,true),(15,true),(16,true),(17,true),(18,true),(19,true),(20,true),(21,true),(22,false),(23,true)] 24 (by kernel_rfl) (by kernel_rfl) ?_
    repeat (refine zq rfl (fun K hK=>?_);go_simp;(try simp (disch:=omega) only [IntWalk.i64_in]);refine hK _ ?_;clear hK K)
    refine zo rfl (fun K hK=>?_);go_simp;go_at_call 17;refine (zf6 _ d.touch _ t _ (by (try simp only [<- Array.append_assoc]);(repeat (first|with_reducible exact qT.out|with_reducible apply zB|with_reducible apply zI|with_reducible apply zD|with_reducible apply zG|with_reducible apply zC));all_goals exact (0:Nat)) (by (try simp only [<- Array.append_assoc]);(repeat (first|with_reducible exact HT.out|with_reducible apply zB|with_reducible apply zI|with_reducible apply zD|with_reducible apply zG|with_reducible apply zC));all_goals exact (0:Nat))).mono ?_;rintro e w' ⟨rfl,hb⟩;obtain ⟨X,rfl⟩:=hb.ext;clear hb;try go_simp;refine hK _ _ (by show Sx _ _;(try simp only [<- Array.append_assoc]);repeat (first|with_reducible exact Sx.drew _|with_reducible exact Sx.same _ _ _ _|with_reducible exact ⟨_,rfl⟩|with_reducible apply Sx.more|with_reducible apply Sx.ext|with_reducible apply Sx.alloc|with_reducible apply zL|with_reducible exact Sx.refl _)) ?_;clear hK K
    rw [HC.out]
    repeat (refine zq rfl (fun K hK=>?_);go_simp;(try simp (disch:=omega) only [IntWalk.i64_in]);refine hK _ ?_;clear hK K)
    refine zX ?_
    go_wp2
    go_roundw
    case rel=>exact ⟨n+1,xs,by go_num,by omega,(by repeat (first|with_reducible exact Below.refl _ _|with_reducible apply Below.ofExt|with_reducible apply Below.ofAlloc|with_reducible apply Below.drew|with_reducible apply Below.ofDrewN|with_reducible assumption|(with_reducible refine Below.setCell ?_ (by first|exact Nat.le_refl _|(simp [go_sem];done)|(simp [go_sem];omega)) _))),(by (try simp only [<- Array.append_assoc]);(repeat (first|with_reducible exact HO.out|with_reducible exact OwnL.dr HO.out|with_reducible apply OwnL.merge2|with_reducible apply OwnL.ext|with_reducible apply OwnL.alloc));all_goals exact (0:Nat)),by rw [HST.out,HQ.out];simp,by omega⟩
    case measure=>simp [intOf];omega
   | true =>
    have HQ:Hid (za5 t but d=true):=by show _ = _;rw [hq,g1,g2,hc];rfl
    have HC:=Hd hc
    clear hq hc
    go_wp2
    refine zao [(0,true),(1,true),(2,true),(3,true),(4,true),(5,true),(6,true),(7,true),(8,true),(9,true),(10,true),(11,true),(12,true),(13,true),(14,true),(15,true),(16,true),(17,true),(18,true),(19,true),(20,true),(21,true),(22,false),(23,true)] 24 (by kernel_rfl) (by kernel_rfl) ?_
    repeat (refine zq rfl (fun K hK=>?_);go_simp;(try simp (disch:=omega) only [IntWalk.i64_in]);refine hK _ ?_;clear hK K)
    refine zo rfl (fun K hK=>?_);go_simp;go_at_call 17;refine (zf6 _ d.touch _ t _ (by (try simp only [<- Array.append_assoc]);(repeat (first|with_reducible exact qT.out|with_reducible apply zB|with_reducible apply zI|with_reducible apply zD|with_reducible apply zG|with_reducible apply zC));all_goals exact (0:Nat)) (by (try simp only [<- Array.append_assoc]);(repeat (first|with_reducible exact HT.out|with_reducible apply zB|with_reducible apply zI|with_reducible apply zD|with_reducible apply zG|with_reducible apply zC));all_goals exact (0:Nat))).mono ?_;rintro e w' ⟨rfl,hb⟩;obtain ⟨X,rfl⟩:=hb.ext;clear hb;try go_simp;refine hK _ _ (by show Sx _ _;(try simp only [<- Array.append_assoc]);repeat (first|with_reducible exact Sx.drew _|with_reducible exact Sx.same _ _ _ _|with_reducible exact ⟨_,rfl⟩|with_reducible apply Sx.more|with_reducible apply Sx.ext|with_reducible apply Sx.alloc|with_reducible apply zL|with_reducible exact Sx.refl _)) ?_;clear hK K
    rw [HC.out]
    repeat (refine zq rfl (fun K hK=>?_);go_simp;(try simp (disch:=omega) only [IntWalk.i64_in]);refine hK _ ?_;clear hK K)
    refine zX ?_
    go_wp2_with (at_builtin;refine zP ?_)
    refine zR rfl _ _ _ rfl zen (B:=(w.alloc (.cells #[.slice ta0 t.reads.length tc0,.slice ta1 t.writes.length tc1] 27)).heap.size) (v:=.slice oa xs.length oc) (xs:=xs) (R:=zbY) (by (try simp only [<- Array.append_assoc]);(repeat (first|with_reducible exact HO.out|with_reducible exact OwnL.dr HO.out|with_reducible apply OwnL.merge2|with_reducible apply OwnL.ext|with_reducible apply OwnL.alloc));all_goals exact (0:Nat)) rfl (ys:=[d.id]) (zat zbY _ d.id _ rfl _ _ (by simp [zw])) rfl (by simp only [List.length_singleton];omega) (by simp only [List.length_singleton];unfold maxLen;omega) (by simp [zw];try omega) ?_
    intro v4 w4 hown4 hgr4 _
    have hb4:Below (w.alloc (.cells #[.slice ta0 t.reads.length tc0,.slice ta1 t.writes.length tc1] 27)).heap.size (w.alloc (.cells #[.slice ta0 t.reads.length tc0,.slice ta1 t.writes.length tc1] 27)) w4:=Below.appL (R:=zbY) (e:=3) (v:=.slice oa xs.length oc) (xs:=xs) (by repeat (first|with_reducible exact Below.refl _ _|with_reducible apply Below.ofExt|with_reducible apply Below.ofAlloc|with_reducible apply Below.drew|with_reducible apply Below.ofDrewN|with_reducible assumption|(with_reducible refine Below.setCell ?_ (by first|exact Nat.le_refl _|(simp [go_sem];done)|(simp [go_sem];omega)) _))) hgr4 (by (try simp only [<- Array.append_assoc]);(repeat (first|with_reducible exact HO.out|with_reducible exact OwnL.dr HO.out|with_reducible apply OwnL.merge2|with_reducible apply OwnL.ext|with_reducible apply OwnL.alloc));all_goals exact (0:Nat))
    go_wp2
    go_roundw
    case rel=>exact ⟨n+1,_,by go_num,by omega,hb4,hown4,by rw [HST.out,HQ.out];rfl,by simp;omega⟩
    case measure=>simp [intOf];omega
  case neg =>
   have e:n=ds.length:=by omega
   have hx:=HXS.out
   rw [e,List.take_length] at hx
   have HF:=Hd hx
   clear hx
   go_wp2
   go_ret
   obtain ⟨fp,h1,h2,h3⟩:=zft (HO.out.base (B':=w.heap.size) (by simp))
   rw [HF.out] at h1
   exact ⟨_,fp,by rw [<- HF.out];rfl,⟨h1,h2,h3⟩,(by repeat (first|with_reducible exact Below.refl _ _|with_reducible apply Below.ofExt|with_reducible apply Below.ofAlloc|with_reducible apply Below.drew|with_reducible apply Below.ofDrewN|with_reducible assumption|(with_reducible refine Below.setCell ?_ (by first|exact Nat.le_refl _|(simp [go_sem];done)|(simp [go_sem];omega)) _)))⟩
end Go.Proofs.YtncnbihlngapbaaGreat
