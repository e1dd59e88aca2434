/- Texts of this claim, merged: the walks and what they stand on. Each condition stands in its theorem. -/
import Derived.Maps.Own
import Derived.Maps.OwnSet
import Derived.Maps.RangeWalk
import Derived.Maps.StringElems
import Derived.Test.YtpnoehpmgflibaaGreatDoorCA29
import Derived.Test.YtpnoehpmgflibaaGreatDoorTR2
set_option linter.unusedVariables false
set_option linter.unusedSimpArgs false
set_option maxRecDepth 100000
set_option maxHeartbeats 8000000
namespace Go.Proofs.YtpnoehpmgflibaaGreatDoor
open Go.ChangeShapes Go.WideShapes Go.ChangeAt Go.RowKit
def sameTouch (x y:TouchD):Bool:=sameL eqStr x.reads y.reads && sameL eqStr x.writes y.writes
theorem impl_SameAnswers (v:Value) (xs:List AnswerD) (v':Value) (ys:List AnswerD) (w:World) {e e':TypeId} (hs:(vSlice vAnswer e).rd w [v] xs) (hs':(vSlice vAnswer e').rd w [v'] ys) :
  Calls Tryz.prog 37 #[v,v'] w fun e w'=>e=.returned (.bool (sameL eqAnswer xs ys))/\Below w.heap.size w w':=by
 obtain ⟨a0,c0,rfl⟩:=vSlice.form hs
 obtain ⟨a1,c1,rfl⟩:=vSlice.form hs'
 go_enter Tryz.func37,Tryz.ntmps37
 go_wp2_with fail
 (go_at_call 95;refine (answers_Equal _ xs _ ys _ hs hs').mono ?_;rintro e w' ⟨rfl,hb⟩;obtain ⟨X,rfl⟩:=hb.ext;clear hb)
 go_wp2
 go_ret
 exact ⟨rfl,(by repeat (first|with_reducible exact Below.refl _ _|with_reducible apply Below.ofExt))⟩
theorem impl_SameTouch (cs:List Value) (x:TouchD) (cs':List Value) (y:TouchD) (w:World) (hs:zdf.rd w cs x) (hs':zdf.rd w cs' y) :
  Calls Tryz.prog 38 #[.agg cs.toArray,.agg cs'.toArray] w fun e w'=>e=.returned (.bool (sameTouch x y))/\Below w.heap.size w w':=by
 obtain ⟨s0,s1,rfl,h0,h1⟩:=hs
 obtain ⟨t0,t1,rfl,k0,k1⟩:=hs'
 obtain ⟨a0,c0,rfl⟩:=vSlice.form h0
 obtain ⟨a1,c1,rfl⟩:=vSlice.form h1
 obtain ⟨b0,g0,rfl⟩:=vSlice.form k0
 obtain ⟨b1,g1,rfl⟩:=vSlice.form k1
 have H0:=Hd h0
 have H1:=Hd h1
 have K0:=Hd k0
 have K1:=Hd k1
 clear h0 h1 k0 k1
 have hq:sameTouch x y=sameTouch x y:=rfl
 conv at hq=>rhs;unfold sameTouch
 cases hc:sameL eqStr x.reads y.reads with
 | false =>
  rw [hc,Bool.false_and] at hq
  rw [hq]
  have HC:=Hd hc
  clear hq hc
  go_enter Tryz.func38,Tryz.ntmps38
  go_wp2_with fail
  (go_at_call 96;refine (strs_Equal _ x.reads _ y.reads _ (by (skip);(repeat (first|with_reducible exact H0.out|with_reducible apply zD));all_goals exact (0:Nat)) (by (skip);(repeat (first|with_reducible exact K0.out|with_reducible apply zD));all_goals exact (0:Nat))).mono ?_;rintro e w' ⟨rfl,hb⟩;obtain ⟨X,rfl⟩:=hb.ext;clear hb)
  rw [HC.out]
  go_wp2
  go_ret
  exact ⟨rfl,(by repeat (first|with_reducible exact Below.refl _ _|with_reducible apply Below.ofExt|with_reducible apply Below.ofAlloc|with_reducible apply Below.drew|with_reducible apply Below.ofDrewN|with_reducible assumption|(with_reducible refine Below.setCell ?_ (by first|exact Nat.le_refl _|(simp [go_sem];done)|(simp [go_sem];omega)) _)))⟩
 | true =>
  rw [hc,Bool.true_and] at hq
  rw [hq]
  have HC:=Hd hc
  clear hq hc
  go_enter Tryz.func38,Tryz.ntmps38
  go_wp2_with fail
  (go_at_call 96;refine (strs_Equal _ x.reads _ y.reads _ (by (skip);(repeat (first|with_reducible exact H0.out|with_reducible apply zD));all_goals exact (0:Nat)) (by (skip);(repeat (first|with_reducible exact K0.out|with_reducible apply zD));all_goals exact (0:Nat))).mono ?_;rintro e w' ⟨rfl,hb⟩;obtain ⟨X,rfl⟩:=hb.ext;clear hb)
  rw [HC.out]
  go_wp2_with fail
  (go_at_call 96;refine (strs_Equal _ x.writes _ y.writes _ (by (skip);(repeat (first|with_reducible exact H1.out|with_reducible apply zat|with_reducible apply zD));all_goals exact (0:Nat)) (by (skip);(repeat (first|with_reducible exact K1.out|with_reducible apply zat|with_reducible apply zD));all_goals exact (0:Nat))).mono ?_;rintro e w' ⟨rfl,hb⟩;obtain ⟨X,rfl⟩:=hb.ext;clear hb)
  go_wp2
  go_ret
  exact ⟨rfl,(by repeat (first|with_reducible exact Below.refl _ _|with_reducible apply Below.ofExt|with_reducible apply Below.ofAlloc))⟩
theorem RdS.ofRd {w:World} {v:Value} {xs:List ByteArray} {e:TypeId} (h:(vSlice zkq e).rd w [v] xs):RdS w v xs:=zcN h
theorem RdS.ofL {w:World} {v:Value} {xs:List ByteArray} (h:RdL zx w v xs) (hok:∀ s ∈ xs,s.size<=9223372036854775807):RdS w v xs:=by
 obtain ⟨ao,cap,rfl,h1,h2,h3,h4⟩:=h.shapeS
 exact ⟨ao,cap,rfl,h1,h2,h3,h4,hok⟩
theorem cov_step {α : Type} (p : α->Bool) (xs:List α) (n:Nat) (h:n<xs.length):(xs.take (n+1)).all p=((xs.take n).all p && p xs[n]):=by
 simp only [List.take_succ_eq_append_getElem h,List.all_append,List.all_cons,List.all_nil,Bool.and_true]
theorem cov_false {α : Type} (p : α->Bool) (xs:List α) (n:Nat) (h:(xs.take n).all p=false):xs.all p=false:=by
 rw [List.all_eq_false] at h ⊢
 obtain ⟨x,hx,hp⟩:=h
 exact ⟨x,List.mem_of_mem_take hx,hp⟩
def covers (ss ks:List ByteArray):Bool:=ks.all (zbR ss)
theorem impl_spansHave1 (b:Nat) (x y:ByteArray) (w:World) (hx:x.size<=9223372036854775807) (hy:y.size<=9223372036854775807) (hb:w.cell? ⟨b,0,none⟩=some (.string x)) :
  Calls Tryz.prog 102 #[.string y,.pointer (some ⟨b,0,none⟩)] w fun e w'=>e=.returned (.bool (zaZ y x))/\w=w':=by
 go_enter Tryz.func102,Tryz.ntmps102
 go_wp2_with fail
 (go_at_call 103;refine (zdt y x _ hy hx).mono ?_;rintro e w' ⟨rfl,rfl⟩)
 go_wp2
 go_ret
 exact ⟨rfl,rfl⟩
theorem IndexFunc_H (v:Value) (ys:List ByteArray) (c:Nat) (x:ByteArray) (w:World) (hs:RdS w v ys) (hx:x.size<=9223372036854775807) (hcl:c<w.heap.size) (hc:w.cell? ⟨c,0,none⟩=some (.string x)) :
  Calls Tryz.prog 101 #[v,.func (Fn.func 102) #[] #[.pointer (some ⟨c,0,none⟩)]] w fun e w'=>∃ r:Int,e=.returned (.int .i64 r)/\(decide (0<=r)=ys.any (fun y=>zaZ y x))/\Below w.heap.size w w':=by
 obtain ⟨ao,cap,rfl,hc1,hc2,hnil,hcell,hz⟩:=hs
 have HX:=Hd hcell
 have HZ:=Hd hz
 clear hcell hnil hz
 unfold maxLen at hc2
 go_enter Tryz.func101,Tryz.ntmps101
 go_wp2
 go_loopw [8] (fun k wr=>∃ (n:Nat),k=.int .i64 n/\n<=ys.length/\Below w.heap.size w wr/\(ys.take n).any (fun y=>zaZ y x)=false) (fun k _=>ys.length - (intOf k).toNat)
 case atStart=>exact ⟨0,rfl,by omega,(by repeat (with_reducible exact Below.refl _ _)),rfl⟩
 case round =>
  obtain ⟨n,rfl,hn,hbel,hany⟩:=hrel
  obtain ⟨X,rfl⟩:=hbel.ext
  have HA:=Hd hany
  clear hany hbel
  by_cases hlt:(n:Int)<ys.length
  ·have hk:n<ys.length:=by omega
   obtain ⟨b,off,rfl,hbl,hcell⟩:=HX.out (by intro e;simp [e] at hk)
   have hcc:=hcell n hk
   have hstep:=zax (fun y=>zaZ y x) ys n hk
   have hyz:=HZ.out _ (List.getElem_mem hk)
   generalize ys[n]=y at hcc hstep hyz
   have HT:=Hd hstep
   clear hcell hstep
   cases hm:(fun y=>zaZ y x) y with
   | true =>
    go_wp2_with fail
    (go_at_call 102;refine (impl_spansHave1 c x y _ hx hyz (by simp [go_sem,hcl,hc])).mono ?_;rintro e w' ⟨rfl,rfl⟩)
    rw [show _=true from hm]
    go_wp2
    go_ret
    refine ⟨n,rfl,?_,(by repeat (first|with_reducible exact Below.refl _ _|with_reducible apply Below.ofExt))⟩
    rw [zbG _ ys (n+1) (by rw [HT.out,hm,Bool.or_true])]
    simp
   | false =>
    go_wp2_with fail
    (go_at_call 102;refine (impl_spansHave1 c x y _ hx hyz (by simp [go_sem,hcl,hc])).mono ?_;rintro e w' ⟨rfl,rfl⟩)
    rw [show _=false from hm]
    go_wp2
    go_roundw
    case rel=>exact ⟨n+1,by go_num,by omega,(by repeat (first|with_reducible exact Below.refl _ _|with_reducible apply Below.ofExt)),by rw [HT.out,HA.out,hm];rfl⟩
    case measure=>simp [intOf];omega
  ·go_wp2
   go_ret
   have e:n=ys.length:=by omega
   subst e
   have ha:=HA.out
   rw [List.take_length] at ha
   refine ⟨-1,rfl,?_,(by repeat (first|with_reducible exact Below.refl _ _|with_reducible apply Below.ofExt))⟩
   rw [ha]
   rfl
theorem ContainsFunc_H (v:Value) (ys:List ByteArray) (c:Nat) (x:ByteArray) (w:World) (hs:RdS w v ys) (hx:x.size<=9223372036854775807) (hcl:c<w.heap.size) (hc:w.cell? ⟨c,0,none⟩=some (.string x)) :
  Calls Tryz.prog 42 #[v,.func (Fn.func 102) #[] #[.pointer (some ⟨c,0,none⟩)]] w fun e w'=>e=.returned (.bool (ys.any (fun y=>zaZ y x)))/\Below w.heap.size w w':=by
 go_enter Tryz.func42,Tryz.ntmps42
 go_wp2_with fail
 (go_at_call 101;refine (IndexFunc_H v ys c x _ hs hx hcl hc).mono ?_;rintro e w' ⟨r,rfl,hr,hb⟩;obtain ⟨X,rfl⟩:=hb.ext;clear hb)
 go_wp2
 go_ret
 exact ⟨by rw [<- hr];rfl,(by repeat (first|with_reducible exact Below.refl _ _|with_reducible apply Below.ofExt))⟩
theorem impl_spansHave (v:Value) (ss:List ByteArray) (x:ByteArray) (w:World) (hs:RdS w v ss) (hx:x.size<=9223372036854775807) :
  Calls Tryz.prog 44 #[v,.string x] w fun e w'=>e=.returned (.bool (zbR ss x))/\Below w.heap.size w w':=by
 have HS:=Hd hs
 clear hs
 go_enter Tryz.func44,Tryz.ntmps44
 go_wp2_with fail
 (go_at_call 42;refine (ContainsFunc_H v ss _ x _ (by (skip);(repeat (first|with_reducible exact HS.out|with_reducible apply RdS.alloc));all_goals exact (0:Nat)) hx (by simp [go_sem]) (by simp [go_sem])).mono ?_;rintro e w' ⟨rfl,hb⟩;obtain ⟨X,rfl⟩:=hb.ext;clear hb)
 go_wp2
 go_ret
 exact ⟨rfl,(by repeat (first|with_reducible exact Below.refl _ _|with_reducible apply Below.ofExt|with_reducible apply Below.ofAlloc))⟩
theorem impl_Covers (v v':Value) (ss ks:List ByteArray) (w:World) (hs:RdS w v ss) (hk:RdS w v' ks) :
  Calls Tryz.prog 34 #[v,v'] w fun e w'=>e=.returned (.bool (covers ss ks))/\Below w.heap.size w w':=by
 have HS:=Hd hs
 obtain ⟨ao,cap,rfl,hc1,hc2,hnil,hcell,hz⟩:=hk
 have HX:=Hd hcell
 have HZ:=Hd hz
 clear hcell hs hnil hz
 unfold maxLen at hc2
 go_enter Tryz.func34,Tryz.ntmps34
 go_wp2
 go_loopw [9] (fun k wr=>∃ (n:Nat),k=.int .i64 n/\n<=ks.length/\Below w.heap.size w wr/\(ks.take n).all (zbR ss)=true) (fun k _=>ks.length - (intOf k).toNat)
 case atStart=>exact ⟨0,rfl,by omega,(by repeat (with_reducible exact Below.refl _ _)),rfl⟩
 case round =>
  obtain ⟨n,rfl,hn,hbel,hall⟩:=hrel
  obtain ⟨X,rfl⟩:=hbel.ext
  have HA:=Hd hall
  clear hall hbel
  by_cases hlt:(n:Int)<ks.length
  ·have hk:n<ks.length:=by omega
   obtain ⟨b,off,rfl,hbl,hcell⟩:=HX.out (by intro e;simp [e] at hk)
   have hcc:=hcell n hk
   have hstep:=cov_step (zbR ss) ks n hk
   have hyz:=HZ.out _ (List.getElem_mem hk)
   generalize ks[n]=x at hcc hstep hyz
   have HT:=Hd hstep
   clear hcell hstep
   cases hm:zbR ss x with
   | true =>
    go_wp2_with fail
    (go_at_call 44;refine (impl_spansHave v ss x _ (by (skip);(repeat (first|with_reducible exact HS.out|with_reducible apply RdS.ext));all_goals exact (0:Nat)) hyz).mono ?_;rintro e w' ⟨rfl,hb⟩;obtain ⟨X,rfl⟩:=hb.ext;clear hb)
    rw [hm]
    go_wp2
    go_roundw
    case rel=>exact ⟨n+1,by go_num,by omega,(by repeat (first|with_reducible exact Below.refl _ _|with_reducible apply Below.ofExt)),by rw [HT.out,HA.out,hm];rfl⟩
    case measure=>simp [intOf];omega
   | false =>
    go_wp2_with fail
    (go_at_call 44;refine (impl_spansHave v ss x _ (by (skip);(repeat (first|with_reducible exact HS.out|with_reducible apply RdS.ext));all_goals exact (0:Nat)) hyz).mono ?_;rintro e w' ⟨rfl,hb⟩;obtain ⟨X,rfl⟩:=hb.ext;clear hb)
    rw [hm]
    go_wp2
    go_ret
    exact ⟨by unfold covers;rw [cov_false _ ks (n+1) (by rw [HT.out,hm,Bool.and_false])];rfl,(by repeat (first|with_reducible exact Below.refl _ _|with_reducible apply Below.ofExt))⟩
  ·go_wp2
   go_ret
   have e:n=ks.length:=by omega
   subst e
   have ha:=HA.out
   rw [List.take_length] at ha
   exact ⟨by unfold covers;rw [ha];rfl,(by repeat (first|with_reducible exact Below.refl _ _|with_reducible apply Below.ofExt))⟩
theorem spec_Covers (v v':Value) (ss ks:List ByteArray) (w:World) (hs:RdS w v ss) (hk:RdS w v' ks) :
  Calls Tryz.prog 46 #[v,v'] w fun e w'=>e=.returned (.bool (covers ss ks))/\Below w.heap.size w w':=by
 obtain ⟨ao',cap',rfl,hc1',hc2',hnil',hcell',hz'⟩:=hs
 obtain ⟨ao,cap,rfl,hc1,hc2,hnil,hcell,hz⟩:=hk
 have HX:=Hd hcell
 have HZ:=Hd hz
 have HX':=Hd hcell'
 have HZ':=Hd hz'
 clear hcell hnil hz hcell' hnil' hz'
 unfold maxLen at hc2 hc2'
 go_enter Tryz.func46,Tryz.ntmps46
 go_wp2
 go_loopw [5] (fun k wr=>∃ (n:Nat),k=.int .i64 n/\n<=ks.length/\Below w.heap.size w wr/\(ks.take n).all (zbR ss)=true) (fun k _=>ks.length - (intOf k).toNat)
 case atStart=>exact ⟨0,rfl,by omega,(by repeat (with_reducible exact Below.refl _ _)),rfl⟩
 case round =>
  obtain ⟨n,rfl,hn,hbel,hall⟩:=hrel
  obtain ⟨X,rfl⟩:=hbel.ext
  have HA:=Hd hall
  clear hall hbel
  by_cases hlt:(n:Int)<ks.length
  ·have hk:n<ks.length:=by omega
   obtain ⟨b,off,rfl,hbl,hcell⟩:=HX.out (by intro e;simp [e] at hk)
   have hcc:=hcell n hk
   have hstep:=cov_step (zbR ss) ks n hk
   have hyz:=HZ.out _ (List.getElem_mem hk)
   generalize ks[n]=x at hcc hstep hyz
   have HT:=Hd hstep
   have HXZ:=Hd hyz
   clear hcell hstep hyz
   go_wp2
   go_loopw [6,7] (fun h k wr=>∃ (m:Nat) (bb:Bool),h=.bool bb/\k=.int .i64 m/\m<=ss.length/\Below w.heap.size w wr/\(ss.take m).any (fun s=>zaZ s x)=bb) (fun _ k _=>ss.length - (intOf k).toNat)
   case atStart=>exact ⟨0,false,rfl,rfl,by omega,(by repeat (first|with_reducible exact Below.refl _ _|with_reducible apply Below.ofExt)),rfl⟩
   case round =>
    obtain ⟨m,bb,rfl,rfl,hm,hbel2,hany2⟩:=hrel
    obtain ⟨Y,rfl⟩:=hbel2.ext
    have HA2:=Hd hany2
    clear hany2 hbel2
    by_cases hlt2:(m:Int)<ss.length
    ·have hk2:m<ss.length:=by omega
     obtain ⟨b',off',rfl,hbl',hcell'⟩:=HX'.out (by intro e;simp [e] at hk2)
     have hcc':=hcell' m hk2
     have hstep2:=zax (fun s=>zaZ s x) ss m hk2
     have hyz:=HZ'.out _ (List.getElem_mem hk2)
     generalize ss[m]=y at hcc' hstep2 hyz
     have HT2:=Hd hstep2
     have CK:Hid (∀ W:World,Calls Tryz.prog 105 #[.string y,.string x] W fun e w'=>e=.returned (.bool (zaZ y x))/\w'=W):=fun W=>(zfH y x W hyz HXZ.out).mono fun e w' h=>⟨h.1,h.2.symm⟩
     clear hcell' hstep2 hyz
     cases bb with
     | true =>
      go_wp2
      go_quiet (fail)
      go_wp2
      go_roundw
      case rel=>exact ⟨m+1,true,rfl,by go_num,by omega,(by repeat (first|with_reducible exact Below.refl _ _|with_reducible apply Below.ofExt)),by rw [HT2.out,HA2.out];rfl⟩
      case measure=>simp [intOf];omega
     | false =>
      go_wp2
      go_quiet ((go_at_call 105;(exact zeK (CK.out _))))
      go_wp2
      go_roundw
      case rel=>exact ⟨m+1,_,rfl,by go_num,by omega,(by repeat (first|with_reducible exact Below.refl _ _|with_reducible apply Below.ofExt)),by rw [HT2.out,HA2.out];rfl⟩
      case measure=>simp [intOf];omega
    ·have e:m=ss.length:=by omega
     subst e
     have ha2:=HA2.out
     rw [List.take_length] at ha2
     have HB:Hid (zbR ss x=bb):=ha2
     clear ha2
     cases bb with
     | true =>
      go_wp2
      go_roundw
      case rel=>exact ⟨n+1,by go_num,by omega,(by repeat (first|with_reducible exact Below.refl _ _|with_reducible apply Below.ofExt)),by rw [HT.out,HA.out,HB.out];rfl⟩
      case measure=>simp [intOf];omega
     | false =>
      go_wp2
      go_ret
      exact ⟨by unfold covers;rw [cov_false _ ks (n+1) (by rw [HT.out,HB.out,Bool.and_false])];rfl,(by repeat (first|with_reducible exact Below.refl _ _|with_reducible apply Below.ofExt))⟩
  ·go_wp2
   go_ret
   have e:n=ks.length:=by omega
   subst e
   have ha:=HA.out
   rw [List.take_length] at ha
   exact ⟨by unfold covers;rw [ha];rfl,(by repeat (first|with_reducible exact Below.refl _ _|with_reducible apply Below.ofExt))⟩
theorem bl (s:ByteArray):s.toList=s.data.toList:=ByteArray.toList_eq s
def kS (s:ByteArray):Lit:=.string s.data.toList
theorem kS_lit (s:ByteArray):WideAt.IsKeyLit (kS s):=by simp [kS,WideAt.IsKeyLit]
theorem isKey_iff {key:ByteArray} {c:CellD}:z6 key c=true ↔ c.key=key:=by
 unfold z6
 rw [beq_iff_eq,bl,bl]
 constructor
 ·intro h
  exact ByteArray.ext (Array.toList_inj.1 h)
 ·intro h
  rw [h]
theorem kS_inj {a b:ByteArray} (h:kS a=kS b):a=b:=by
 unfold kS at h
 injection h with h
 exact ByteArray.ext (Array.toList_inj.1 h)
theorem getC_snoc (key:ByteArray) (zs:List CellD) (c:CellD):zbm key (zs ++ [c])=if zs.any (z6 key) then zbm key zs else if z6 key c then c.val else ⟨#[]⟩:=by
 unfold zbm
 rw [List.find?_append]
 cases ha:zs.any (z6 key) with
 | true =>
  rw [List.any_eq_true] at ha
  obtain ⟨x,hx,hp⟩:=ha
  have:(zs.find? (z6 key)).isSome=true:=by rw [List.find?_isSome];exact ⟨x,hx,hp⟩
  obtain ⟨y,hy⟩:=Option.isSome_iff_exists.1 this
  rw [hy]
  rfl
 | false =>
  have:zs.find? (z6 key)=none:=List.find?_eq_none.2 (fun x hx=>by rw [List.any_eq_false] at ha;exact ha x hx)
  rw [this]
  cases hk:z6 key c with
  | true=>simp [List.find?_cons,hk]
  | false=>simp [List.find?_cons,hk]
structure VOf (D:DataW Unit) (zs:List CellD):Prop where
 at_:∀ key:ByteArray,D.atKey (kS key) (.lit (.string []))=.lit (.string (zbm key zs).data.toList)
 has_:∀ key:ByteArray,Maps.has D (kS key)=zs.any (z6 key)
theorem VOf.start:VOf (.map []) []:=⟨fun _=>rfl,fun _=>rfl⟩
theorem VOf.skip {D:DataW Unit} {zs:List CellD} {c:CellD} (h:VOf D zs) (hc:zs.any (z6 c.key)=true):VOf D (zs ++ [c]):=by
 have e:∀ key,z6 key c=true->zs.any (z6 key)=true:=fun key hk=>by
  rw [<- isKey_iff.1 hk];exact hc
 refine ⟨fun key=>?_,fun key=>?_⟩
 ·rw [h.at_,getC_snoc]
  cases ha:zs.any (z6 key) with
  | true=>rfl
  | false =>
   cases hk:z6 key c with
   | true=>rw [e key hk] at ha;cases ha
   | false=>rw [zgW key zs ha];rfl
 ·rw [h.has_,List.any_append]
  cases hk:z6 key c with
  | true=>rw [e key hk];rfl
  | false=>simp [hk]
theorem VOf.put {D:DataW Unit} {zs:List CellD} {c:CellD} (h:VOf D zs) (hm:Maps.IsMap D) (hc:zs.any (z6 c.key)=false):VOf (D.put (kS c.key) (.lit (.string c.val.data.toList))) (zs ++ [c]):=by
 refine ⟨fun key=>?_,fun key=>?_⟩
 ·rw [getC_snoc]
  cases hk:z6 key c with
  | true =>
   have e:=isKey_iff.1 hk
   subst e
   rw [Maps.atKey_put_same hm (kS_lit _),hc]
   rfl
  | false =>
   have hne:kS key ≠ kS c.key:=fun e=>by
    have:=isKey_iff.2 (kS_inj e).symm
    rw [this] at hk;cases hk
   rw [Maps.atKey_put_other hne,h.at_]
   cases ha:zs.any (z6 key) with
   | true=>rfl
   | false=>rw [zgW key zs ha];rfl
 ·rw [List.any_append]
  cases hk:z6 key c with
  | true =>
   have e:=isKey_iff.1 hk
   subst e
   rw [Maps.has_put_same hm (kS_lit _)]
   simp [hk]
  | false =>
   have hne:kS key ≠ kS c.key:=fun e=>by
    have:=isKey_iff.2 (kS_inj e).symm
    rw [this] at hk;cases hk
   rw [Maps.has_put_other hne,h.has_]
   simp [hk]
theorem zeroS (w:World):(zeroValue 9).run Tryz.prog w=.ok (.string ⟨#[]⟩) w:=Tryz.zeroValue9 w
theorem below_grown {w w':World} {b B:Nat} (h:w.grownBy w' (some b)) (hb:B<=b) (hB:B<=w.heap.size):Below B w w':=⟨h.os,h.tape,h.output,h.size,fun k hk=>h.block k (by omega) (fun e=>by simp only [Option.some.injEq] at e;omega)⟩
theorem impl_valuesOf (v:Value) (ds:List CellD) (w:World) (hs:RdL zu w v ds) (hok:∀ c ∈ ds,c.ok) (hl:ds.length<=549755813888) :
  Calls Tryz.prog 92 #[v] w fun e w'=>∃ (b:Nat),e=.returned (.map (some b))/\w.heap.size<=b/\∃ (D:DataW Unit),w'.ownsMap Tryz.prog 9 (plainElem (H:=Unit) Tryz.prog 9) b ds.length D/\VOf D ds/\Below w.heap.size w w':=by
 obtain ⟨ao,cap,rfl,hc1,hc2,hnil,hne⟩:=hs.shape
 have HX:=Hd hne
 have HOK:=Hd hok
 clear hs hne hnil hok
 unfold maxLen at hc2
 have hmm:=@run_makeMap Tryz.prog
 go_enter Tryz.func92,Tryz.ntmps92
 go_wp2
 clear hmm
 go_loopw [11] (fun k wr=>∃ (n:Nat) (D:DataW Unit),k=.int .i64 n/\n<=ds.length/\wr.ownsMap Tryz.prog 9 (plainElem (H:=Unit) Tryz.prog 9) w.heap.size n D/\VOf D (ds.take n)/\Below w.heap.size w wr) (fun k _=>ds.length - (intOf k).toNat)
 case atStart=>exact ⟨0,_,rfl,by omega,World.ownsMap_made _ _ _ _,VOf.start,(by repeat (first|with_reducible exact Below.refl _ _|with_reducible apply Below.ofAlloc))⟩
 case round =>
  obtain ⟨n,D,rfl,hn,hown,hD,hbel⟩:=hrel
  obtain ⟨X,rfl⟩:=hbel.ext
  have HOWN:=Hd hown
  have HD:=Hd hD
  clear hown hD hbel
  by_cases hlt:(n:Int)<ds.length
  case pos =>
   have hk:n<ds.length:=by omega
   obtain ⟨b,off,rfl,hbl,hcell⟩:=HX.out (by intro e;simp [e] at hk)
   have hc:=hcell n hk
   have hst:ds.take (n+1)=ds.take n ++ [ds[n]]:=List.take_succ_eq_append_getElem hk
   have hck:=HOK.out _ (List.getElem_mem hk)
   generalize ds[n]=d at hc hst hck
   have y0:w.cell? ⟨b,off+n*2,none⟩=some (.string d.key):=hc 0 _ rfl
   have y1:w.cell? ⟨b,off+n*2+1,none⟩=some (.string d.val):=hc 1 _ rfl
   have hbl:=hbl (by decide)
   have hbl2:b<w.heap.size+X.bs.size:=by omega
   clear hc hcell
   have hkm:keyOf Tryz.prog 9 (.string d.key)=some (kS d.key):=WideMaps.keyOf_string_mk Tryz.underlying9 hck.1
   have hvm:(plainElem (H:=Unit) Tryz.prog 9) (.string d.val)=some (.lit (.string d.val.data.toList),[]):=plainElem_string Tryz.underlying9 hck.2
   obtain ⟨v0,ps0,hrun,hR⟩:=(HOWN.out.alloc (.cells #[.string d.key,.string d.val] 47)).look_ok (Maps.string_keyed Tryz.underlying9) Tryz.underlying122 (zeroS _) (plainElem_string Tryz.underlying9 (by decide)) hkm
   rw [HD.out.has_] at hrun
   have HHK:=Hd hkm
   have HVM:=Hd hvm
   have HST:=Hd hst
   clear hR hkm hvm hst
   cases hh:(ds.take n).any (z6 d.key) with
   | true =>
    rw [hh] at hrun
    go_wp2
    go_roundw
    case rel=>exact ⟨n+1,D,by go_num,by omega,(HOWN.out.alloc _).mono (by omega),by rw [HST.out];exact HD.out.skip hh,(by repeat (first|with_reducible exact Below.refl _ _|with_reducible apply Below.ofExt|with_reducible apply Below.ofAlloc))⟩
    case measure=>simp [intOf];omega
   | false =>
    rw [hh] at hrun
    go_wp2_with (first|(at_mapUpdate;refine wpList_mapUpdate_own _ rfl _ _ _ 122 rfl 9 9 (Maps.string_keyed Tryz.underlying9) Tryz.underlying122 (plainElem (H:=Unit) Tryz.prog 9) w.heap.size n D rfl (HOWN.out.alloc _) (by unfold maxLen;omega) _ _ (kS d.key) rfl rfl HHK.out _ [] HVM.out ?_;intro w1 hown1 hgr1))
    have hb1:=Below.trans (show Below w.heap.size w _ from (by repeat (first|with_reducible exact Below.refl _ _|with_reducible apply Below.ofExt|with_reducible apply Below.ofAlloc))) (below_grown hgr1 (Nat.le_refl _) (by simp [zm];try omega))
    go_roundw
    case rel=>exact ⟨n+1,_,by go_num,by omega,hown1,by rw [HST.out];exact HD.out.put HOWN.out.isMap hh,hb1⟩
    case measure=>simp [intOf];omega
  case neg =>
   have e:n=ds.length:=by omega
   go_wp2
   go_ret
   exact ⟨w.heap.size,rfl,Nat.le_refl _,D,e ▸ HOWN.out,by have:=HD.out;rw [e,List.take_length] at this;exact this,(by repeat (first|with_reducible exact Below.refl _ _|with_reducible apply Below.ofExt))⟩
def diffStep (a b:List CellD) (acc:List ByteArray) (c:CellD):List ByteArray:=if zbm c.key a=zbm c.key b then acc else zb3 acc c.key
def diffC (a b:List CellD):List ByteArray:=(a++b).foldl (diffStep a b) []
theorem foldl_snoc {α β : Type} (f : β->α->β) (acc : β) (xs:List α) (x : α):(xs ++ [x]).foldl f acc=f (xs.foldl f acc) x:=by rw [List.foldl_append];rfl
theorem diffStep_rise (a b:List CellD) (acc:List ByteArray) (c:CellD) (h:acc.Pairwise ltP):(diffStep a b acc c).Pairwise ltP:=by
 unfold diffStep
 split
 ·exact h
 ·exact zgF _ _ h
theorem diffF_rise (a b:List CellD):∀ (zs:List CellD) (acc:List ByteArray),acc.Pairwise ltP->(zs.foldl (diffStep a b) acc).Pairwise ltP
 | [],_,h=>h
 | c :: zs,acc,h=>diffF_rise a b zs _ (diffStep_rise a b acc c h)
theorem diffF_mem (a b:List CellD) (x:ByteArray):∀ (zs:List CellD) (acc:List ByteArray),x ∈ zs.foldl (diffStep a b) acc ↔ x ∈ acc ∨ ((∃ c ∈ zs,c.key=x)/\zbm x a ≠ zbm x b)
 | [],acc=>by simp
 | c :: zs,acc=>by
  rw [List.foldl_cons,diffF_mem a b x zs]
  unfold diffStep
  by_cases hc:zbm c.key a=zbm c.key b
  ·rw [if_pos hc]
   constructor
   ·rintro (h|⟨⟨d,hd,hk⟩,hne⟩)
    ·exact .inl h
    ·exact .inr ⟨⟨d,List.mem_cons_of_mem _ hd,hk⟩,hne⟩
   ·rintro (h|⟨⟨d,hd,hk⟩,hne⟩)
    ·exact .inl h
    ·rcases List.mem_cons.1 hd with rfl|hd
     ·rw [hk] at hc;exact absurd hc hne
     ·exact .inr ⟨⟨d,hd,hk⟩,hne⟩
  ·rw [if_neg hc,zbi]
   constructor
   ·rintro ((h|rfl)|⟨⟨d,hd,hk⟩,hne⟩)
    ·exact .inl h
    ·exact .inr ⟨⟨c,List.mem_cons_self,rfl⟩,hc⟩
    ·exact .inr ⟨⟨d,List.mem_cons_of_mem _ hd,hk⟩,hne⟩
   ·rintro (h|⟨⟨d,hd,hk⟩,hne⟩)
    ·exact .inl (.inl h)
    ·rcases List.mem_cons.1 hd with rfl|hd
     ·exact .inl (.inr hk.symm)
     ·exact .inr ⟨⟨d,hd,hk⟩,hne⟩
theorem diffF_len (a b:List CellD):∀ (zs:List CellD) (acc:List ByteArray),(zs.foldl (diffStep a b) acc).length<=acc.length+zs.length
 | [],_=>Nat.le_refl _
 | c :: zs,acc=>by
  have h:=diffF_len a b zs (diffStep a b acc c)
  have h2:(diffStep a b acc c).length<=acc.length+1:=by
   unfold diffStep
   split
   ·omega
   ·exact putS_len _ _
  rw [List.foldl_cons,List.length_cons]
  omega
theorem getC_ne_key {a b:List CellD} {x:ByteArray} (h:zbm x a ≠ zbm x b):∃ c ∈ a++b,c.key=x:=by
 apply Classical.byContradiction
 intro hn
 have ha:∀ zs:List CellD,(∀ c ∈ zs,c ∈ a++b)->zs.any (z6 x)=false:=by
  intro zs hz
  rw [List.any_eq_false]
  intro c hc hk
  exact hn ⟨c,hz c hc,isKey_iff.1 hk⟩
 exact h (by rw [zgW x a (ha a (fun c hc=>List.mem_append_left _ hc)),zgW x b (ha b (fun c hc=>List.mem_append_right _ hc))])
theorem diffC_rise (a b:List CellD):(diffC a b).Pairwise ltP:=diffF_rise a b _ [] List.Pairwise.nil
theorem diffC_mem (a b:List CellD) (x:ByteArray):x ∈ diffC a b ↔ zbm x a ≠ zbm x b:=by
 unfold diffC
 rw [diffF_mem]
 constructor
 ·rintro (h|h)
  ·simp at h
  ·exact h.2
 ·exact fun h=>.inr ⟨getC_ne_key h,h⟩
theorem diffC_len (a b:List CellD):(diffC a b).length<=a.length+b.length:=by
 have:=diffF_len a b (a++b) []
 rw [List.length_append] at this
 simpa [diffC] using this
theorem diffC_ok (a b:List CellD) (ha:∀ c ∈ a,c.ok) (hb:∀ c ∈ b,c.ok):∀ x ∈ diffC a b,x.size<=maxLen:=by
 intro x hx
 obtain ⟨c,hc,rfl⟩:=getC_ne_key ((diffC_mem a b x).1 hx)
 rcases List.mem_append.1 hc with h|h
 ·exact (ha c h).1
 ·exact (hb c h).1
theorem sorted_diff (a b:List CellD) (ss:List (List UInt8)) (hnd:ss.Nodup) (hm:∀ x:ByteArray,x.data.toList ∈ ss ↔ zbm x a ≠ zbm x b) :
  (ss.mergeSort (fun x y=>decide (x<=y))).map encStr=(diffC a b).flatMap zx.row/\ss.length=(diffC a b).length:=by
 have tr:∀ a b c:List UInt8,decide (a<=b)=true->decide (b<=c)=true->decide (a<=c)=true:=fun a b c h1 h2=>by simp only [decide_eq_true_eq] at *;exact List.le_trans h1 h2
 have to:∀ a b:List UInt8,(decide (a<=b) || decide (b<=a))=true:=fun a b=>by simp only [Bool.or_eq_true,decide_eq_true_eq];exact List.le_total a b
 have hp:=List.mergeSort_perm ss (fun x y=>decide (x<=y))
 have hs:=List.pairwise_mergeSort tr to ss
 have hnd2:=hp.symm.nodup hnd
 generalize hM:ss.mergeSort (fun x y=>decide (x<=y))=M at hp hs hnd2
 have e:M.map (fun x=>(⟨x.toArray⟩ : ByteArray))=diffC a b:=by
  refine uniqS ?_ (diffC_rise a b) ?_
  ·rw [List.pairwise_map]
   refine (List.Pairwise.and hs hnd2).imp ?_
   rintro x y ⟨h1,h2⟩
   simp only [decide_eq_true_eq] at h1
   show x<y
   rcases lt_or_eq _ _ h1 with h|h
   ·exact h
   ·exact absurd h h2
  ·intro x
   rw [diffC_mem,<- hm x,<- hp.mem_iff,List.mem_map]
   constructor
   ·rintro ⟨y,hy,rfl⟩
    exact hy
   ·exact fun h=>⟨_,h,rfl⟩
 refine ⟨?_,?_⟩
 ·rw [<- e,List.flatMap_map]
  clear hM hp hs hnd2 e
  induction M with
  | nil=>rfl
  | cons x M ih=>rw [List.map_cons,List.flatMap_cons,ih];rfl
 ·rw [<- e,List.length_map,hp.length_eq]
theorem own_cast {α : Type} {R:RowOf α} {e:TypeId} {w:World} {B:Nat} {v:Value} {xs ys:List α} (h:OwnL R e w B v xs) (e':ys=xs):OwnL R e w B v ys:=by rw [e'];exact h
theorem spec_l02PutO (v:Value) (xs:List ByteArray) (x:ByteArray) (w:World) (B:Nat) (ho:OwnL zx 9 w B v xs) (hB:B<=w.heap.size) (hl:xs.length<=1099511627776) :
  Calls Tryz.prog 104 #[v,.string x] w fun e w'=>∃ v',e=.returned v'/\OwnL zx 9 w' B v' (zb3 xs x)/\Below w.heap.size w w':=by
 have hs:=ho.rd
 have HO:=Hd ho
 clear ho
 obtain ⟨ao,cap,rfl,hc1,hc2,hnil,hcell⟩:=hs.shapeS
 have HN:=Hd hnil
 have HC:=Hd hcell
 have HS:=Hd hs
 clear hnil hcell hs
 have HM:Hid (cap<=maxLen):=hc2
 unfold maxLen at hc2
 have hp:zaH xs x<=xs.length:=ziF (ltS · x) xs
 have hp0:xs = []->zaH xs x=0:=fun e=>by have h:=hp;rw [e] at h;simpa [e] using h
 have HP0:=Hd hp0
 clear hp0
 go_enter Tryz.func104,Tryz.ntmps104
 go_wp2
 go_loop [5] (fun i=>∃ k:Nat,k<=zaH xs x/\i=.int .i64 k) (fun i=>xs.length - (intOf i).toNat)
 case atStart=>exact ⟨0,Nat.zero_le _,rfl⟩
 case round =>
  obtain ⟨k,hk,rfl⟩:=hrel
  by_cases hlt:k<zaH xs x
  ·obtain ⟨b,off,rfl,hbl,hcell⟩:=HC.out (fun e=>by have h1:=HP0.out e;omega)
   have hkl:k<xs.length:=by omega
   have hcc:=hcell k hkl
   have hless:Op.bytesLess xs[k].toList x.toList=true:=putAt_lt hlt hkl
   clear hcell
   go_wp2
   go_round
   case rel=>exact ⟨k+1,by omega,by go_num⟩
   case measure=>simp [intOf];omega
  ·obtain rfl:k=zaH xs x:=by omega
   by_cases hin:zaH xs x<xs.length
   ·obtain ⟨b,off,rfl,hbl,hcell⟩:=HC.out (by intro e;simp [e] at hin)
    have hcc:=hcell _ hin
    have hless:Op.bytesLess xs[zaH xs x].toList x.toList=false:=putAt_ge hin
    by_cases heq:xs[zaH xs x]=x
    ·have heq':(xs[zaH xs x].toList==x.toList)=true:=by rw [heq];simp
     have H:Hid (zb3 xs x=xs):=by show zb3 xs x=xs;simp [zb3,heq,hin]
     clear heq hcell
     go_wp2
     go_ret
     exact ⟨_,rfl,own_cast HO.out H.out,Below.refl _ _⟩
    ·have heq':(xs[zaH xs x].toList==x.toList)=false:=by rw [beq_str];simpa using heq
     have H:Hid (zb3 xs x=xs.take (zaH xs x)++x :: xs.drop (zaH xs x)):=by show zb3 xs x = _;simp [zb3,heq,hin]
     clear heq hcell
     have S1:=zkQ HS.out (zaH xs x) cap hp (by omega) HM.out
     have S3:=RdL.cut1 rfl HS.out (zaH xs x) xs.length (cap - zaH xs x) (Nat.le_refl _) (by omega) (by have:=HM.out;omega)
     have hlk:(xs.take (zaH xs x)).length=zaH xs x:=by simp;omega
     have hld:((xs.drop (zaH xs x)).take (xs.length - zaH xs x)).length=xs.length - zaH xs x:=by simp
     have HP:=Hd hlk
     have HQ:=Hd hld
     clear hlk hld
     generalize zaH xs x=k at *
     go_wp2_with (at_builtin;refine zA ?_)
     refine zI rfl _ _ _ rfl zC (OwnL.empty zx _ w) rfl (S1.alloc _) rfl (by rw [HP.out];simp;omega) (by rw [HP.out];unfold maxLen;simp;omega) (by simp) ?_
     intro v1 w1 hown1 hg1 _
     have hb1:Below w.heap.size w w1:=Below.appL (by repeat (first|with_reducible exact Below.refl _ _|with_reducible apply Below.ofAlloc)) hg1 (OwnL.empty zx _ w)
     go_wp2_with (at_builtin;refine zA ?_)
     refine zI rfl _ _ _ rfl zC (hown1.alloc _) rfl (RdL.one zx w1 x _ rfl _) rfl (by simp only [List.nil_append,HP.out,List.length_singleton];omega) (by simp only [List.nil_append,HP.out,List.length_singleton];unfold maxLen;omega) (by have:=hb1.size;simp;omega) ?_
     intro v2 w2 hown2 hg2 _
     have hb2:Below w.heap.size w w2:=Below.appL (Below.ofAlloc hb1 _) hg2 (hown1.alloc _)
     clear hg1 hg2
     by_cases hcap:cap=k
     ·omega
     go_wp2_with (at_builtin;refine zA ?_)
     refine zI rfl _ _ _ rfl zC hown2 rfl (S3.below hb2) rfl (by simp only [List.nil_append,List.length_append,HP.out,HQ.out,List.length_singleton];omega) (by simp only [List.nil_append,List.length_append,HP.out,HQ.out,List.length_singleton];unfold maxLen;omega) hb2.size ?_
     intro v3 w3 hown3 hg3 _
     have hb3:Below w.heap.size w w3:=Below.appL hb2 hg3 hown2
     go_wp2
     go_ret
     refine ⟨v3,rfl,own_cast (hown3.base hB) ?_,hb3⟩
     rw [H.out]
     simp [List.take_of_length_le]
   ·have he:zaH xs x=xs.length:=by omega
    have H:Hid (zb3 xs x=xs ++ [x]):=by show zb3 xs x = _;simp [zb3,he]
    have hge:xs.length<=zaH xs x:=by omega
    clear hin hk hlt
    have HE:=Hd he
    clear he
    rcases HS.out.cases with ⟨rfl,rfl,hl0,hx0⟩|⟨b,off,rfl,_,_,_⟩
    ·subst hx0
     have hk0:zaH [] x=0:=rfl
     generalize zaH [] x=k at *
     subst hk0
     go_wp2_with (at_builtin;refine zA ?_)
     refine zI rfl _ _ _ rfl zC (OwnL.empty zx _ w) rfl (RdL.nil zx _) rfl (by simp) (by simp) (by simp) ?_
     intro v1 w1 hown1 hg1 _
     have hb1:Below w.heap.size w w1:=Below.appL (by repeat (first|with_reducible exact Below.refl _ _|with_reducible apply Below.ofAlloc)) hg1 (OwnL.empty zx _ w)
     go_wp2_with (at_builtin;refine zA ?_)
     refine zI rfl _ _ _ rfl zC (hown1.alloc _) rfl (RdL.one zx w1 x _ rfl _) rfl (by simp) (by simp;decide) (by have:=hb1.size;simp;omega) ?_
     intro v2 w2 hown2 hg2 _
     have hb2:Below w.heap.size w w2:=Below.appL (Below.ofAlloc hb1 _) hg2 (hown1.alloc _)
     clear hg1 hg2
     go_wp2_with (at_builtin;refine zA ?_)
     refine zI rfl _ _ _ rfl zC hown2 rfl (RdL.nil zx _) rfl (by simp) (by simp;decide) hb2.size ?_
     intro v3 w3 hown3 hg3 _
     have hb3:Below w.heap.size w w3:=Below.appL hb2 hg3 hown2
     go_wp2
     go_ret
     refine ⟨v3,rfl,own_cast (hown3.base hB) ?_,hb3⟩
     rw [H.out]
     simp
    ·have S1:=zkQ HS.out (zaH xs x) cap hp (by omega) HM.out
     have hlk:(xs.take (zaH xs x)).length=zaH xs x:=by simp;omega
     have HP:=Hd hlk
     clear hlk
     generalize zaH xs x=k at *
     have hkc:k<=cap:=by have:=HE.out;omega
     go_wp2_with (at_builtin;refine zA ?_)
     refine zI rfl _ _ _ rfl zC (OwnL.empty zx _ w) rfl (S1.alloc _) rfl (by rw [HP.out];simp;omega) (by rw [HP.out];unfold maxLen;simp;omega) (by simp) ?_
     intro v1 w1 hown1 hg1 _
     have hb1:Below w.heap.size w w1:=Below.appL (by repeat (first|with_reducible exact Below.refl _ _|with_reducible apply Below.ofAlloc)) hg1 (OwnL.empty zx _ w)
     go_wp2_with (at_builtin;refine zA ?_)
     refine zI rfl _ _ _ rfl zC (hown1.alloc _) rfl (RdL.one zx w1 x _ rfl _) rfl (by simp only [List.nil_append,HP.out,List.length_singleton];omega) (by simp only [List.nil_append,HP.out,List.length_singleton];unfold maxLen;omega) (by have:=hb1.size;simp;omega) ?_
     intro v2 w2 hown2 hg2 _
     have hb2:Below w.heap.size w w2:=Below.appL (Below.ofAlloc hb1 _) hg2 (hown1.alloc _)
     clear hg1 hg2
     go_wp2_with (at_builtin;refine zA ?_)
     all_goals
      refine zI rfl _ _ _ rfl zC hown2 rfl (RdL.zero zx w2 _ _ _ (by have:=HM.out;omega)) rfl (by simp only [List.nil_append,List.length_append,HP.out,List.length_singleton,List.length_nil];omega) (by simp only [List.nil_append,List.length_append,HP.out,List.length_singleton,List.length_nil];unfold maxLen;omega) hb2.size ?_
      intro v3 w3 hown3 hg3 _
      have hb3:Below w.heap.size w w3:=Below.appL hb2 hg3 hown2
      go_wp2
      go_ret
      refine ⟨v3,rfl,own_cast (hown3.base hB) ?_,hb3⟩
      rw [H.out,HE.out]
      simp
end Go.Proofs.YtpnoehpmgflibaaGreatDoor
