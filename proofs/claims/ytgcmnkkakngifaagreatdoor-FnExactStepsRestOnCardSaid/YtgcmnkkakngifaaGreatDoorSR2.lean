/- Texts of this claim, merged: the walks and what they stand on. Each condition stands in its theorem. -/
import Derived.Test.YtgcmnkkakngifaaGreatDoorSR1
set_option linter.unusedVariables false
set_option linter.unusedSimpArgs false
set_option maxRecDepth 100000
set_option maxHeartbeats 8000000
namespace Go.Proofs.YtgcmnkkakngifaaGreatDoor
open Go.ChangeShapes Go.WideShapes Go.ChangeAt Go.RowKit
def eqAnswer (a b:AnswerD):Bool:=(a.code == b.code) && (a.n == b.n) && (a.text.toList == b.text.toList)
theorem spec_SameAnswers (v:Value) (xs:List AnswerD) (v':Value) (ys:List AnswerD) (w:World) {e e':TypeId} (hs:(vSlice vAnswer e).rd w [v] xs) (hs':(vSlice vAnswer e').rd w [v'] ys) :
  Calls Tryz.prog 45 #[v,v'] w fun e w'=>e = .returned (.bool (sameL eqAnswer xs ys))/\Below w.heap.size w w':=by
 obtain ⟨ao,cap,rfl,hc1,hc2,hnil,hcell⟩:=vSlice.shape hs
 obtain ⟨ao',cap',rfl,hc1',hc2',hnil',hcell'⟩:=vSlice.shape hs'
 have HX:=Lib.hid hcell
 have HX':=Lib.hid hcell'
 clear hcell hs hnil hcell' hs' hnil'
 unfold maxLen at hc2 hc2'
 by_cases hlen:xs.length=ys.length
 case neg =>
  rw [sameL_len hlen]
  have hne:¬ (xs.length:Int)=ys.length:=by omega
  have hnb:((xs.length:Int) == ys.length)=false:=by simp;omega
  go_enter Tryz.func45,Tryz.ntmps45
  go_wp2
  go_ret
  exact ⟨rfl,(by repeat (with_reducible exact Below.refl _ _))⟩
 have HL:=Lib.hid hlen
 have hle:ys.length<=xs.length:=by omega
 have hlb:((xs.length:Int) == ys.length)=true:=by simp;omega
 have hlc:((xs.length:Int) != ys.length)=false:=by simp;omega
 clear hlen
 go_enter Tryz.func45,Tryz.ntmps45
 go_wp2
 go_loopw [5] (fun k wr=>∃ (n:Nat),k = .int .i64 n/\n<=xs.length/\Below w.heap.size w wr/\((xs.zip ys).take n).all (fun z=>eqAnswer z.1 z.2)=true) (fun k _=>xs.length - (intOf k).toNat)
 case atStart=>exact ⟨0,rfl,by omega,(by repeat (with_reducible exact Below.refl _ _)),rfl⟩
 case round =>
  obtain ⟨n,rfl,hn,hbel,hall⟩:=hrel
  obtain ⟨X,rfl⟩:=hbel.ext
  have HA:=Lib.hid hall
  clear hall
  by_cases hlt:(n:Int) < xs.length
  case pos =>
   have hk:n < xs.length:=by omega
   have hk':n < ys.length:=by rw [<- HL.out];exact hk
   obtain ⟨b,off,csc,rfl,hblc,hrdc,hcellc⟩:=HX.out n hk
   obtain ⟨b',off',cse,rfl,hble,hrde,hcelle⟩:=HX'.out n hk'
   have hst:=zip_step eqAnswer xs ys n hk hk'
   generalize xs[n]=x at hrdc hst
   generalize ys[n]=y at hrde hst
   obtain ⟨rfl,_⟩:=hrdc
   obtain ⟨rfl,_⟩:=hrde
   have hq:eqAnswer x y=eqAnswer x y:=rfl
   conv at hq=>rhs;unfold eqAnswer
   obtain ⟨x0,x1,x2⟩:=x
   obtain ⟨y0,y1,y2⟩:=y
   simp only at hq
   have c0:=hcellc 0 _ rfl
   have c1:=hcellc 1 _ rfl
   have c2:=hcellc 2 _ rfl
   have e0:=hcelle 0 _ rfl
   have e1:=hcelle 1 _ rfl
   have e2:=hcelle 2 _ rfl
   clear hcellc hcelle
   simp only [show vAnswer.k=3 from rfl,Nat.add_zero] at c0 e0 c1 e1 c2 e2
   have HST:=Lib.hid hst
   clear hst
   by_cases f0:x0=y0
   case neg =>
    have HQ:Hid (eqAnswer ⟨x0,x1,x2⟩ ⟨y0,y1,y2⟩ = false):=by show _=false;rw [hq];simp [f0]
    clear hq
    have g0:(x0 == y0)=false:=by simp [f0]
    go_wp2
    go_quiet (fail)
    go_wp2
    go_ret
    exact ⟨by rw [sameL_all HL.out,all_take_false _ (xs.zip ys) (n + 1) (by rw [HST.out,HQ.out,Bool.and_false])];rfl,(by repeat (first|with_reducible exact Below.refl _ _|with_reducible apply Below.ofExt|with_reducible apply Below.ofDrewN))⟩
   have g0:(x0 == y0)=true:=by simp [f0]
   by_cases f1:x1=y1
   case neg =>
    have HQ:Hid (eqAnswer ⟨x0,x1,x2⟩ ⟨y0,y1,y2⟩ = false):=by show _=false;rw [hq];simp [f0,f1]
    clear hq
    have g1:(x1 == y1)=false:=by simp [f1]
    go_wp2
    go_quiet (fail)
    go_wp2
    go_ret
    exact ⟨by rw [sameL_all HL.out,all_take_false _ (xs.zip ys) (n + 1) (by rw [HST.out,HQ.out,Bool.and_false])];rfl,(by repeat (first|with_reducible exact Below.refl _ _|with_reducible apply Below.ofExt|with_reducible apply Below.ofDrewN))⟩
   have g1:(x1 == y1)=true:=by simp [f1]
   by_cases f2:x2.toList=y2.toList
   case neg =>
    have HQ:Hid (eqAnswer ⟨x0,x1,x2⟩ ⟨y0,y1,y2⟩ = false):=by show _=false;rw [hq];simp [f0,f1,f2]
    clear hq
    have g2:(x2.toList == y2.toList)=false:=by simp [f2]
    go_wp2
    go_quiet (fail)
    go_wp2
    go_ret
    exact ⟨by rw [sameL_all HL.out,all_take_false _ (xs.zip ys) (n + 1) (by rw [HST.out,HQ.out,Bool.and_false])];rfl,(by repeat (first|with_reducible exact Below.refl _ _|with_reducible apply Below.ofExt|with_reducible apply Below.ofDrewN))⟩
   have g2:(x2.toList == y2.toList)=true:=by simp [f2]
   have HQ:Hid (eqAnswer ⟨x0,x1,x2⟩ ⟨y0,y1,y2⟩ = true):=by show _=true;rw [hq];simp [f0,f1,f2]
   clear hq
   go_wp2
   go_quiet (fail)
   go_wp2
   go_roundw
   case rel=>exact ⟨n + 1,by go_num,by omega,(by repeat (first|with_reducible exact Below.refl _ _|with_reducible apply Below.ofExt)),by rw [HST.out,HA.out,HQ.out];rfl⟩
   case measure=>simp [intOf];omega
  case neg =>
   go_wp2
   go_ret
   have e:n=xs.length:=by omega
   subst e
   have ha:=HA.out
   rw [List.take_of_length_le (by rw [List.length_zip];omega)] at ha
   exact ⟨by rw [sameL_all HL.out,ha];rfl,(by repeat (first|with_reducible exact Below.refl _ _|with_reducible apply Below.ofExt))⟩
theorem answers_Equal (v:Value) (xs:List AnswerD) (v':Value) (ys:List AnswerD) (w:World) {e e':TypeId} (hs:(vSlice vAnswer e).rd w [v] xs) (hs':(vSlice vAnswer e').rd w [v'] ys) :
  Calls Tryz.prog 87 #[v,v'] w fun e w'=>e = .returned (.bool (sameL eqAnswer xs ys))/\Below w.heap.size w w':=by
 obtain ⟨ao,cap,rfl,hc1,hc2,hnil,hcell⟩:=vSlice.shape hs
 obtain ⟨ao',cap',rfl,hc1',hc2',hnil',hcell'⟩:=vSlice.shape hs'
 have HX:=Lib.hid hcell
 have HX':=Lib.hid hcell'
 clear hcell hs hnil hcell' hs' hnil'
 unfold maxLen at hc2 hc2'
 by_cases hlen:xs.length=ys.length
 case neg =>
  rw [sameL_len hlen]
  have hne:¬ (xs.length:Int)=ys.length:=by omega
  have hnb:((xs.length:Int) == ys.length)=false:=by simp;omega
  go_enter Tryz.func87,Tryz.ntmps87
  go_wp2
  go_ret
  exact ⟨rfl,(by repeat (with_reducible exact Below.refl _ _))⟩
 have HL:=Lib.hid hlen
 have hle:ys.length<=xs.length:=by omega
 have hlb:((xs.length:Int) == ys.length)=true:=by simp;omega
 have hlc:((xs.length:Int) != ys.length)=false:=by simp;omega
 clear hlen
 go_enter Tryz.func87,Tryz.ntmps87
 go_wp2
 go_loopw [13] (fun k wr=>∃ (n:Nat),k = .int .i64 n/\n<=xs.length/\Below w.heap.size w wr/\((xs.zip ys).take n).all (fun z=>eqAnswer z.1 z.2)=true) (fun k _=>xs.length - (intOf k).toNat)
 case atStart=>exact ⟨0,rfl,by omega,(by repeat (with_reducible exact Below.refl _ _)),rfl⟩
 case round =>
  obtain ⟨n,rfl,hn,hbel,hall⟩:=hrel
  obtain ⟨X,rfl⟩:=hbel.ext
  have HA:=Lib.hid hall
  clear hall
  by_cases hlt:(n:Int) < xs.length
  case pos =>
   have hk:n < xs.length:=by omega
   have hk':n < ys.length:=by rw [<- HL.out];exact hk
   obtain ⟨b,off,csc,rfl,hblc,hrdc,hcellc⟩:=HX.out n hk
   obtain ⟨b',off',cse,rfl,hble,hrde,hcelle⟩:=HX'.out n hk'
   have hst:=zip_step eqAnswer xs ys n hk hk'
   generalize xs[n]=x at hrdc hst
   generalize ys[n]=y at hrde hst
   obtain ⟨rfl,_⟩:=hrdc
   obtain ⟨rfl,_⟩:=hrde
   have hq:eqAnswer x y=eqAnswer x y:=rfl
   conv at hq=>rhs;unfold eqAnswer
   obtain ⟨x0,x1,x2⟩:=x
   obtain ⟨y0,y1,y2⟩:=y
   simp only at hq
   have c0:=hcellc 0 _ rfl
   have c1:=hcellc 1 _ rfl
   have c2:=hcellc 2 _ rfl
   have e0:=hcelle 0 _ rfl
   have e1:=hcelle 1 _ rfl
   have e2:=hcelle 2 _ rfl
   clear hcellc hcelle
   simp only [show vAnswer.k=3 from rfl,Nat.add_zero] at c0 e0 c1 e1 c2 e2
   have HST:=Lib.hid hst
   clear hst
   by_cases f0:x0=y0
   case neg =>
    have HQ:Hid (eqAnswer ⟨x0,x1,x2⟩ ⟨y0,y1,y2⟩ = false):=by show _=false;rw [hq];simp [f0]
    clear hq
    have g0:(x0 == y0)=false:=by simp [f0]
    go_wp2
    go_quiet (fail)
    go_wp2
    go_ret
    exact ⟨by rw [sameL_all HL.out,all_take_false _ (xs.zip ys) (n + 1) (by rw [HST.out,HQ.out,Bool.and_false])];rfl,(by repeat (first|with_reducible exact Below.refl _ _|with_reducible apply Below.ofExt|with_reducible apply Below.ofDrewN))⟩
   have g0:(x0 == y0)=true:=by simp [f0]
   by_cases f1:x1=y1
   case neg =>
    have HQ:Hid (eqAnswer ⟨x0,x1,x2⟩ ⟨y0,y1,y2⟩ = false):=by show _=false;rw [hq];simp [f0,f1]
    clear hq
    have g1:(x1 == y1)=false:=by simp [f1]
    go_wp2
    go_quiet (fail)
    go_wp2
    go_ret
    exact ⟨by rw [sameL_all HL.out,all_take_false _ (xs.zip ys) (n + 1) (by rw [HST.out,HQ.out,Bool.and_false])];rfl,(by repeat (first|with_reducible exact Below.refl _ _|with_reducible apply Below.ofExt|with_reducible apply Below.ofDrewN))⟩
   have g1:(x1 == y1)=true:=by simp [f1]
   by_cases f2:x2.toList=y2.toList
   case neg =>
    have HQ:Hid (eqAnswer ⟨x0,x1,x2⟩ ⟨y0,y1,y2⟩ = false):=by show _=false;rw [hq];simp [f0,f1,f2]
    clear hq
    have g2:(x2.toList == y2.toList)=false:=by simp [f2]
    go_wp2
    go_quiet (fail)
    go_wp2
    go_ret
    exact ⟨by rw [sameL_all HL.out,all_take_false _ (xs.zip ys) (n + 1) (by rw [HST.out,HQ.out,Bool.and_false])];rfl,(by repeat (first|with_reducible exact Below.refl _ _|with_reducible apply Below.ofExt|with_reducible apply Below.ofDrewN))⟩
   have g2:(x2.toList == y2.toList)=true:=by simp [f2]
   have HQ:Hid (eqAnswer ⟨x0,x1,x2⟩ ⟨y0,y1,y2⟩ = true):=by show _=true;rw [hq];simp [f0,f1,f2]
   clear hq
   go_wp2
   go_quiet (fail)
   go_wp2
   go_roundw
   case rel=>exact ⟨n + 1,by go_num,by omega,(by repeat (first|with_reducible exact Below.refl _ _|with_reducible apply Below.ofExt)),by rw [HST.out,HA.out,HQ.out];rfl⟩
   case measure=>simp [intOf];omega
  case neg =>
   go_wp2
   go_ret
   have e:n=xs.length:=by omega
   subst e
   have ha:=HA.out
   rw [List.take_of_length_le (by rw [List.length_zip];omega)] at ha
   exact ⟨by rw [sameL_all HL.out,ha];rfl,(by repeat (first|with_reducible exact Below.refl _ _|with_reducible apply Below.ofExt))⟩
theorem vStr_shape {v:Value} {xs:List ByteArray} {w:World} {e:TypeId} (h:(vSlice vStr e).rd w [v] xs):∃ ao cap,v = .slice ao xs.length cap/\xs.length<=cap/\cap<=maxLen/\(ao=none->cap=0/\xs = []) /\
  (xs ≠ []->∃ b off,ao=some ⟨b,off,none⟩/\b < w.heap.size/\∀ (i:Nat) (hi:i < xs.length),w.cell? ⟨b,off + i,none⟩ = some (Value.string xs[i]))/\∀ s ∈ xs,s.size<=9223372036854775807:=by
 obtain ⟨ao,cap,rfl,h1,h2,h3,h4⟩:=vSlice.shape h
 refine ⟨ao,cap,rfl,h1,h2,fun e=>⟨h3 e,List.eq_nil_of_length_eq_zero (by have:=h3 e;omega)⟩,fun hne=>?_,fun s hs=>?_⟩
 ·have hl : 0 < xs.length:=List.length_pos_iff.2 hne
  obtain ⟨b,off,cs,rfl,hb,_,_⟩:=h4 0 hl
  refine ⟨b,off,rfl,hb,fun i hi=>?_⟩
  obtain ⟨b',off',cs',e,_,hr,hc⟩:=h4 i hi
  simp only [Option.some.injEq,Addr.mk.injEq,and_true] at e
  obtain ⟨rfl,rfl⟩:=e
  obtain ⟨rfl,_⟩:=hr
  have:=hc 0 _ rfl
  simpa [vStr,vRow] using this
 ·obtain ⟨i,hi,rfl⟩:=List.getElem_of_mem hs
  obtain ⟨_,_,_,_,_,hr,_⟩:=h4 i hi
  exact hr.2
def eqStr (a b:ByteArray):Bool:=a.toList == b.toList
theorem spec_l03Same (v:Value) (xs:List ByteArray) (v':Value) (ys:List ByteArray) (w:World) {e e':TypeId} (hs:(vSlice vStr e).rd w [v] xs) (hs':(vSlice vStr e').rd w [v'] ys) :
  Calls Tryz.prog 101 #[v,v'] w fun e w'=>e = .returned (.bool (sameL eqStr xs ys))/\Below w.heap.size w w':=by
 obtain ⟨ao,cap,rfl,hc1,hc2,hnil,hcell,_⟩:=vStr_shape hs
 obtain ⟨ao',cap',rfl,hc1',hc2',hnil',hcell',_⟩:=vStr_shape hs'
 have HX:=Lib.hid hcell
 have HX':=Lib.hid hcell'
 clear hcell hs hnil hcell' hs' hnil'
 unfold maxLen at hc2 hc2'
 by_cases hlen:xs.length=ys.length
 case neg =>
  rw [sameL_len hlen]
  have hne:¬ (xs.length:Int)=ys.length:=by omega
  have hnb:((xs.length:Int) == ys.length)=false:=by simp;omega
  go_enter Tryz.func101,Tryz.ntmps101
  go_wp2
  go_ret
  exact ⟨rfl,(by repeat (with_reducible exact Below.refl _ _))⟩
 have HL:=Lib.hid hlen
 have hle:ys.length<=xs.length:=by omega
 have hlb:((xs.length:Int) == ys.length)=true:=by simp;omega
 have hlc:((xs.length:Int) != ys.length)=false:=by simp;omega
 clear hlen
 go_enter Tryz.func101,Tryz.ntmps101
 go_wp2
 go_loopw [5] (fun k wr=>∃ (n:Nat),k = .int .i64 n/\n<=xs.length/\Below w.heap.size w wr/\((xs.zip ys).take n).all (fun z=>eqStr z.1 z.2)=true) (fun k _=>xs.length - (intOf k).toNat)
 case atStart=>exact ⟨0,rfl,by omega,(by repeat (with_reducible exact Below.refl _ _)),rfl⟩
 case round =>
  obtain ⟨n,rfl,hn,hbel,hall⟩:=hrel
  obtain ⟨X,rfl⟩:=hbel.ext
  have HA:=Lib.hid hall
  clear hall
  by_cases hlt:(n:Int) < xs.length
  case pos =>
   have hk:n < xs.length:=by omega
   have hk':n < ys.length:=by rw [<- HL.out];exact hk
   obtain ⟨b,off,rfl,hblc,hcellc⟩:=HX.out (by intro e;simp [e] at hk)
   have c0:=hcellc n hk
   obtain ⟨b',off',rfl,hble,hcelle⟩:=HX'.out (by intro e;simp [e] at hk')
   have e0:=hcelle n hk'
   have hst:=zip_step eqStr xs ys n hk hk'
   clear hcellc hcelle
   generalize xs[n]=x at c0 hst
   generalize ys[n]=y at e0 hst
   have hq:eqStr x y=eqStr x y:=rfl
   conv at hq=>rhs;unfold eqStr
   have HST:=Lib.hid hst
   clear hst
   by_cases f0:x.toList=y.toList
   case neg =>
    have HQ:Hid (eqStr x y=false):=by show _=false;rw [hq];simp [f0]
    clear hq
    have g0:(x.toList == y.toList)=false:=by simp [f0]
    go_wp2
    go_quiet (fail)
    go_wp2
    go_ret
    exact ⟨by rw [sameL_all HL.out,all_take_false _ (xs.zip ys) (n + 1) (by rw [HST.out,HQ.out,Bool.and_false])];rfl,(by repeat (first|with_reducible exact Below.refl _ _|with_reducible apply Below.ofExt|with_reducible apply Below.ofDrewN))⟩
   have g0:(x.toList == y.toList)=true:=by simp [f0]
   have HQ:Hid (eqStr x y=true):=by show _=true;rw [hq];simp [f0]
   clear hq
   go_wp2
   go_quiet (fail)
   go_wp2
   go_roundw
   case rel=>exact ⟨n + 1,by go_num,by omega,(by repeat (first|with_reducible exact Below.refl _ _|with_reducible apply Below.ofExt)),by rw [HST.out,HA.out,HQ.out];rfl⟩
   case measure=>simp [intOf];omega
  case neg =>
   go_wp2
   go_ret
   have e:n=xs.length:=by omega
   subst e
   have ha:=HA.out
   rw [List.take_of_length_le (by rw [List.length_zip];omega)] at ha
   exact ⟨by rw [sameL_all HL.out,ha];rfl,(by repeat (first|with_reducible exact Below.refl _ _|with_reducible apply Below.ofExt))⟩
theorem strs_Equal (v:Value) (xs:List ByteArray) (v':Value) (ys:List ByteArray) (w:World) {e e':TypeId} (hs:(vSlice vStr e).rd w [v] xs) (hs':(vSlice vStr e').rd w [v'] ys) :
  Calls Tryz.prog 105 #[v,v'] w fun e w'=>e = .returned (.bool (sameL eqStr xs ys))/\Below w.heap.size w w':=by
 obtain ⟨ao,cap,rfl,hc1,hc2,hnil,hcell,_⟩:=vStr_shape hs
 obtain ⟨ao',cap',rfl,hc1',hc2',hnil',hcell',_⟩:=vStr_shape hs'
 have HX:=Lib.hid hcell
 have HX':=Lib.hid hcell'
 clear hcell hs hnil hcell' hs' hnil'
 unfold maxLen at hc2 hc2'
 by_cases hlen:xs.length=ys.length
 case neg =>
  rw [sameL_len hlen]
  have hne:¬ (xs.length:Int)=ys.length:=by omega
  have hnb:((xs.length:Int) == ys.length)=false:=by simp;omega
  go_enter Tryz.func105,Tryz.ntmps105
  go_wp2
  go_ret
  exact ⟨rfl,(by repeat (with_reducible exact Below.refl _ _))⟩
 have HL:=Lib.hid hlen
 have hle:ys.length<=xs.length:=by omega
 have hlb:((xs.length:Int) == ys.length)=true:=by simp;omega
 have hlc:((xs.length:Int) != ys.length)=false:=by simp;omega
 clear hlen
 go_enter Tryz.func105,Tryz.ntmps105
 go_wp2
 go_loopw [13] (fun k wr=>∃ (n:Nat),k = .int .i64 n/\n<=xs.length/\Below w.heap.size w wr/\((xs.zip ys).take n).all (fun z=>eqStr z.1 z.2)=true) (fun k _=>xs.length - (intOf k).toNat)
 case atStart=>exact ⟨0,rfl,by omega,(by repeat (with_reducible exact Below.refl _ _)),rfl⟩
 case round =>
  obtain ⟨n,rfl,hn,hbel,hall⟩:=hrel
  obtain ⟨X,rfl⟩:=hbel.ext
  have HA:=Lib.hid hall
  clear hall
  by_cases hlt:(n:Int) < xs.length
  case pos =>
   have hk:n < xs.length:=by omega
   have hk':n < ys.length:=by rw [<- HL.out];exact hk
   obtain ⟨b,off,rfl,hblc,hcellc⟩:=HX.out (by intro e;simp [e] at hk)
   have c0:=hcellc n hk
   obtain ⟨b',off',rfl,hble,hcelle⟩:=HX'.out (by intro e;simp [e] at hk')
   have e0:=hcelle n hk'
   have hst:=zip_step eqStr xs ys n hk hk'
   clear hcellc hcelle
   generalize xs[n]=x at c0 hst
   generalize ys[n]=y at e0 hst
   have hq:eqStr x y=eqStr x y:=rfl
   conv at hq=>rhs;unfold eqStr
   have HST:=Lib.hid hst
   clear hst
   by_cases f0:x.toList=y.toList
   case neg =>
    have HQ:Hid (eqStr x y=false):=by show _=false;rw [hq];simp [f0]
    clear hq
    have g0:(x.toList == y.toList)=false:=by simp [f0]
    go_wp2
    go_quiet (fail)
    go_wp2
    go_ret
    exact ⟨by rw [sameL_all HL.out,all_take_false _ (xs.zip ys) (n + 1) (by rw [HST.out,HQ.out,Bool.and_false])];rfl,(by repeat (first|with_reducible exact Below.refl _ _|with_reducible apply Below.ofExt|with_reducible apply Below.ofDrewN))⟩
   have g0:(x.toList == y.toList)=true:=by simp [f0]
   have HQ:Hid (eqStr x y=true):=by show _=true;rw [hq];simp [f0]
   clear hq
   go_wp2
   go_quiet (fail)
   go_wp2
   go_roundw
   case rel=>exact ⟨n + 1,by go_num,by omega,(by repeat (first|with_reducible exact Below.refl _ _|with_reducible apply Below.ofExt)),by rw [HST.out,HA.out,HQ.out];rfl⟩
   case measure=>simp [intOf];omega
  case neg =>
   go_wp2
   go_ret
   have e:n=xs.length:=by omega
   subst e
   have ha:=HA.out
   rw [List.take_of_length_le (by rw [List.length_zip];omega)] at ha
   exact ⟨by rw [sameL_all HL.out,ha];rfl,(by repeat (first|with_reducible exact Below.refl _ _|with_reducible apply Below.ofExt))⟩
def vTouch:View TouchD where
 k:=2
 rd w cs d:=∃ (s0 s1:Value),cs = [s0,s1]/\(vSlice vStr 9).rd w [s0] d.reads/\(vSlice vStr 9).rd w [s1] d.writes
 own w fp cs d:=∃ (s0 s1:Value) (f0 f1:List Nat),cs = [s0,s1]/\fp=f0 ++ f1/\(vSlice vStr 9).own w f0 [s0] d.reads/\(vSlice vStr 9).own w f1 [s1] d.writes
 len:=by rintro w cs d ⟨s0,s1,rfl,_⟩;rfl
 one:=by
  rintro w cs d ⟨s0,s1,rfl,h0,h1⟩ u hu
  simp only [List.mem_cons,List.not_mem_nil,or_false] at hu
  rcases hu with rfl|rfl
  ·exact View.one _ h0 _ (by simp)
  ·exact View.one _ h1 _ (by simp)
 grow:=by rintro w w' cs d ⟨s0,s1,rfl,h0,h1⟩ g;exact ⟨s0,s1,rfl,View.grow _ h0 g,View.grow _ h1 g⟩
 toRd:=by rintro w fp cs d ⟨s0,s1,f0,f1,rfl,rfl,h0,h1⟩;exact ⟨s0,s1,rfl,View.toRd _ h0,View.toRd _ h1⟩
 frame:=by
  rintro w w' fp cs d ⟨s0,s1,f0,f1,rfl,rfl,h0,h1⟩ g
  exact ⟨s0,s1,f0,f1,rfl,rfl,View.frame _ h0 fun b hb=>g b (by simp [hb]),View.frame _ h1 fun b hb=>g b (by simp [hb])⟩
 lt:=by
  rintro w fp cs d ⟨s0,s1,f0,f1,rfl,rfl,h0,h1⟩ b hb
  simp only [List.mem_append] at hb
  rcases hb with hb|hb
  ·exact View.lt _ h0 b hb
  ·exact View.lt _ h1 b hb
def sameTouch (x y:TouchD):Bool:=sameL eqStr x.reads y.reads && sameL eqStr x.writes y.writes
theorem impl_SameAnswers (v:Value) (xs:List AnswerD) (v':Value) (ys:List AnswerD) (w:World) {e e':TypeId} (hs:(vSlice vAnswer e).rd w [v] xs) (hs':(vSlice vAnswer e').rd w [v'] ys) :
  Calls Tryz.prog 55 #[v,v'] w fun e w'=>e = .returned (.bool (sameL eqAnswer xs ys))/\Below w.heap.size w w':=by
 obtain ⟨a0,c0,rfl⟩:=vSlice.form hs
 obtain ⟨a1,c1,rfl⟩:=vSlice.form hs'
 go_enter Tryz.func55,Tryz.ntmps55
 go_wp2_with fail
 (go_at_call 87;refine (answers_Equal _ xs _ ys _ hs hs').mono ?_;rintro e w' ⟨rfl,hb⟩;obtain ⟨X,rfl⟩:=hb.ext;clear hb)
 go_wp2
 go_ret
 exact ⟨rfl,(by repeat (first|with_reducible exact Below.refl _ _|with_reducible apply Below.ofExt))⟩
theorem spec_SameTouch (cs:List Value) (x:TouchD) (cs':List Value) (y:TouchD) (w:World) (hs:vTouch.rd w cs x) (hs':vTouch.rd w cs' y) :
  Calls Tryz.prog 75 #[.agg cs.toArray,.agg cs'.toArray] w fun e w'=>e = .returned (.bool (sameTouch x y))/\Below w.heap.size w w':=by
 obtain ⟨s0,s1,rfl,h0,h1⟩:=hs
 obtain ⟨t0,t1,rfl,k0,k1⟩:=hs'
 obtain ⟨a0,c0,rfl⟩:=vSlice.form h0
 obtain ⟨a1,c1,rfl⟩:=vSlice.form h1
 obtain ⟨b0,g0,rfl⟩:=vSlice.form k0
 obtain ⟨b1,g1,rfl⟩:=vSlice.form k1
 have H0:=Lib.hid h0
 have H1:=Lib.hid h1
 have K0:=Lib.hid k0
 have K1:=Lib.hid k1
 clear h0 h1 k0 k1
 have hq:sameTouch x y=sameTouch x y:=rfl
 conv at hq=>rhs;unfold sameTouch
 cases hc:sameL eqStr x.reads y.reads with
 | false =>
  rw [hc,Bool.false_and] at hq
  rw [hq]
  have HC:=Lib.hid hc
  clear hq hc
  go_enter Tryz.func75,Tryz.ntmps75
  go_wp2_with fail
  (go_at_call 101;refine (spec_l03Same _ x.reads _ y.reads _ (by (skip);(repeat (first|with_reducible exact H0.out|with_reducible apply View.rdAlloc));all_goals exact (0:Nat)) (by (skip);(repeat (first|with_reducible exact K0.out|with_reducible apply View.rdAlloc));all_goals exact (0:Nat))).mono ?_;rintro e w' ⟨rfl,hb⟩;obtain ⟨X,rfl⟩:=hb.ext;clear hb)
  rw [HC.out]
  go_wp2
  go_ret
  exact ⟨rfl,(by repeat (first|with_reducible exact Below.refl _ _|with_reducible apply Below.ofExt|with_reducible apply Below.ofAlloc|with_reducible apply Below.drew|with_reducible apply Below.ofDrewN|with_reducible assumption|(with_reducible refine Below.setCell ?_ (by first|exact Nat.le_refl _|(simp [go_sem];done)|(simp [go_sem];omega)) _)))⟩
 | true =>
  rw [hc,Bool.true_and] at hq
  rw [hq]
  have HC:=Lib.hid hc
  clear hq hc
  go_enter Tryz.func75,Tryz.ntmps75
  go_wp2_with fail
  (go_at_call 101;refine (spec_l03Same _ x.reads _ y.reads _ (by (skip);(repeat (first|with_reducible exact H0.out|with_reducible apply View.rdAlloc));all_goals exact (0:Nat)) (by (skip);(repeat (first|with_reducible exact K0.out|with_reducible apply View.rdAlloc));all_goals exact (0:Nat))).mono ?_;rintro e w' ⟨rfl,hb⟩;obtain ⟨X,rfl⟩:=hb.ext;clear hb)
  rw [HC.out]
  go_wp2_with fail
  (go_at_call 101;refine (spec_l03Same _ x.writes _ y.writes _ (by (skip);(repeat (first|with_reducible exact H1.out|with_reducible apply View.rdExt|with_reducible apply View.rdAlloc));all_goals exact (0:Nat)) (by (skip);(repeat (first|with_reducible exact K1.out|with_reducible apply View.rdExt|with_reducible apply View.rdAlloc));all_goals exact (0:Nat))).mono ?_;rintro e w' ⟨rfl,hb⟩;obtain ⟨X,rfl⟩:=hb.ext;clear hb)
  go_wp2
  go_ret
  exact ⟨rfl,(by repeat (first|with_reducible exact Below.refl _ _|with_reducible apply Below.ofExt|with_reducible apply Below.ofAlloc))⟩
theorem impl_SameTouch (cs:List Value) (x:TouchD) (cs':List Value) (y:TouchD) (w:World) (hs:vTouch.rd w cs x) (hs':vTouch.rd w cs' y) :
  Calls Tryz.prog 78 #[.agg cs.toArray,.agg cs'.toArray] w fun e w'=>e = .returned (.bool (sameTouch x y))/\Below w.heap.size w w':=by
 obtain ⟨s0,s1,rfl,h0,h1⟩:=hs
 obtain ⟨t0,t1,rfl,k0,k1⟩:=hs'
 obtain ⟨a0,c0,rfl⟩:=vSlice.form h0
 obtain ⟨a1,c1,rfl⟩:=vSlice.form h1
 obtain ⟨b0,g0,rfl⟩:=vSlice.form k0
 obtain ⟨b1,g1,rfl⟩:=vSlice.form k1
 have H0:=Lib.hid h0
 have H1:=Lib.hid h1
 have K0:=Lib.hid k0
 have K1:=Lib.hid k1
 clear h0 h1 k0 k1
 have hq:sameTouch x y=sameTouch x y:=rfl
 conv at hq=>rhs;unfold sameTouch
 cases hc:sameL eqStr x.reads y.reads with
 | false =>
  rw [hc,Bool.false_and] at hq
  rw [hq]
  have HC:=Lib.hid hc
  clear hq hc
  go_enter Tryz.func78,Tryz.ntmps78
  go_wp2_with fail
  (go_at_call 105;refine (strs_Equal _ x.reads _ y.reads _ (by (skip);(repeat (first|with_reducible exact H0.out|with_reducible apply View.rdAlloc));all_goals exact (0:Nat)) (by (skip);(repeat (first|with_reducible exact K0.out|with_reducible apply View.rdAlloc));all_goals exact (0:Nat))).mono ?_;rintro e w' ⟨rfl,hb⟩;obtain ⟨X,rfl⟩:=hb.ext;clear hb)
  rw [HC.out]
  go_wp2
  go_ret
  exact ⟨rfl,(by repeat (first|with_reducible exact Below.refl _ _|with_reducible apply Below.ofExt|with_reducible apply Below.ofAlloc|with_reducible apply Below.drew|with_reducible apply Below.ofDrewN|with_reducible assumption|(with_reducible refine Below.setCell ?_ (by first|exact Nat.le_refl _|(simp [go_sem];done)|(simp [go_sem];omega)) _)))⟩
 | true =>
  rw [hc,Bool.true_and] at hq
  rw [hq]
  have HC:=Lib.hid hc
  clear hq hc
  go_enter Tryz.func78,Tryz.ntmps78
  go_wp2_with fail
  (go_at_call 105;refine (strs_Equal _ x.reads _ y.reads _ (by (skip);(repeat (first|with_reducible exact H0.out|with_reducible apply View.rdAlloc));all_goals exact (0:Nat)) (by (skip);(repeat (first|with_reducible exact K0.out|with_reducible apply View.rdAlloc));all_goals exact (0:Nat))).mono ?_;rintro e w' ⟨rfl,hb⟩;obtain ⟨X,rfl⟩:=hb.ext;clear hb)
  rw [HC.out]
  go_wp2_with fail
  (go_at_call 105;refine (strs_Equal _ x.writes _ y.writes _ (by (skip);(repeat (first|with_reducible exact H1.out|with_reducible apply View.rdExt|with_reducible apply View.rdAlloc));all_goals exact (0:Nat)) (by (skip);(repeat (first|with_reducible exact K1.out|with_reducible apply View.rdExt|with_reducible apply View.rdAlloc));all_goals exact (0:Nat))).mono ?_;rintro e w' ⟨rfl,hb⟩;obtain ⟨X,rfl⟩:=hb.ext;clear hb)
  go_wp2
  go_ret
  exact ⟨rfl,(by repeat (first|with_reducible exact Below.refl _ _|with_reducible apply Below.ofExt|with_reducible apply Below.ofAlloc))⟩
def RdS (w:World) (v:Value) (xs:List ByteArray):Prop:=∃ ao cap,v = .slice ao xs.length cap/\xs.length<=cap/\cap<=maxLen/\(ao=none->cap=0/\xs = []) /\
  (xs ≠ []->∃ b off,ao=some ⟨b,off,none⟩/\b < w.heap.size/\∀ (i:Nat) (hi:i < xs.length),w.cell? ⟨b,off + i,none⟩ = some (Value.string xs[i]))/\∀ s ∈ xs,s.size<=9223372036854775807
theorem RdS.ext {w:World} {v:Value} {xs:List ByteArray} (h:RdS w v xs) (X:Ext):RdS (w.ext X) v xs:=by
 obtain ⟨ao,cap,rfl,h1,h2,h3,h4,h5⟩:=h
 refine ⟨ao,cap,rfl,h1,h2,h3,fun hne=>?_,h5⟩
 obtain ⟨b,off,e,hb,hc⟩:=h4 hne
 exact ⟨b,off,e,by rw [zm];omega,fun i hi=>by rw [World.cell?_ext _ _ _ _ hb];exact hc i hi⟩
theorem RdS.alloc {w:World} {v:Value} {xs:List ByteArray} (h:RdS w v xs) (o:Obj):RdS (w.alloc o) v xs:=by
 obtain ⟨X,hX⟩:=(Below.alloc (Below.refl w.heap.size w) (Nat.le_refl _) o).ext
 rw [hX]
 exact h.ext X
theorem RdS.drew {w:World} {v:Value} {xs:List ByteArray} (h:RdS w v xs):RdS w.drew v xs:=h
theorem RdS.ofL {w:World} {v:Value} {xs:List ByteArray} (h:RdL zx w v xs) (hok:∀ s ∈ xs,s.size<=9223372036854775807):RdS w v xs:=by
 obtain ⟨ao,cap,rfl,h1,h2,h3,h4⟩:=h.shapeS
 exact ⟨ao,cap,rfl,h1,h2,h3,h4,hok⟩
theorem cov_step {α : Type} (p : α->Bool) (xs:List α) (n:Nat) (h:n < xs.length):(xs.take (n + 1)).all p=((xs.take n).all p && p xs[n]):=by
 simp only [List.take_succ_eq_append_getElem h,List.all_append,List.all_cons,List.all_nil,Bool.and_true]
theorem cov_false {α : Type} (p : α->Bool) (xs:List α) (n:Nat) (h:(xs.take n).all p=false):xs.all p=false:=by
 rw [List.all_eq_false] at h ⊢
 obtain ⟨x,hx,hp⟩:=h
 exact ⟨x,List.mem_of_mem_take hx,hp⟩
def spansHave (ss:List ByteArray) (k:ByteArray):Bool:=ss.any fun s=>spanHas s k
def covers (ss ks:List ByteArray):Bool:=ks.all (spansHave ss)
theorem impl_spansHave1 (b:Nat) (x y:ByteArray) (w:World) (hx:x.size<=9223372036854775807) (hy:y.size<=9223372036854775807) (hb:w.cell? ⟨b,0,none⟩ = some (.string x)) :
  Calls Tryz.prog 166 #[.string y,.pointer (some ⟨b,0,none⟩)] w fun e w'=>e = .returned (.bool (spanHas y x))/\w=w':=by
 go_enter Tryz.func166,Tryz.ntmps166
 go_wp2_with fail
 (go_at_call 167;refine (impl_SpanHas y x _ hy hx).mono ?_;rintro e w' ⟨rfl,rfl⟩)
 go_wp2
 go_ret
 exact ⟨rfl,rfl⟩
theorem IndexFunc_H (v:Value) (ys:List ByteArray) (c:Nat) (x:ByteArray) (w:World) (hs:RdS w v ys) (hx:x.size<=9223372036854775807) (hcl:c < w.heap.size) (hc:w.cell? ⟨c,0,none⟩ = some (.string x)) :
  Calls Tryz.prog 132 #[v,.func (Fn.func 166) #[] #[.pointer (some ⟨c,0,none⟩)]] w fun e w'=>∃ r:Int,e = .returned (.int .i64 r)/\(decide (0<=r)=ys.any (fun y=>spanHas y x))/\Below w.heap.size w w':=by
 obtain ⟨ao,cap,rfl,hc1,hc2,hnil,hcell,hz⟩:=hs
 have HX:=Lib.hid hcell
 have HZ:=Lib.hid hz
 clear hcell hnil hz
 unfold maxLen at hc2
 go_enter Tryz.func132,Tryz.ntmps132
 go_wp2
 go_loopw [8] (fun k wr=>∃ (n:Nat),k = .int .i64 n/\n<=ys.length/\Below w.heap.size w wr/\(ys.take n).any (fun y=>spanHas y x)=false) (fun k _=>ys.length - (intOf k).toNat)
 case atStart=>exact ⟨0,rfl,by omega,(by repeat (with_reducible exact Below.refl _ _)),rfl⟩
 case round =>
  obtain ⟨n,rfl,hn,hbel,hany⟩:=hrel
  obtain ⟨X,rfl⟩:=hbel.ext
  have HA:=Lib.hid hany
  clear hany hbel
  by_cases hlt:(n:Int) < ys.length
  ·have hk:n < ys.length:=by omega
   obtain ⟨b,off,rfl,hbl,hcell⟩:=HX.out (by intro e;simp [e] at hk)
   have hcc:=hcell n hk
   have hstep:=zaR (fun y=>spanHas y x) ys n hk
   have hyz:=HZ.out _ (List.getElem_mem hk)
   generalize ys[n]=y at hcc hstep hyz
   have HT:=Lib.hid hstep
   clear hcell hstep
   cases hm:(fun y=>spanHas y x) y with
   | true =>
    go_wp2_with fail
    (go_at_call 166;refine (impl_spansHave1 c x y _ hx hyz (by simp [go_sem,hcl,hc])).mono ?_;rintro e w' ⟨rfl,rfl⟩)
    rw [show _=true from hm]
    go_wp2
    go_ret
    refine ⟨n,rfl,?_,(by repeat (first|with_reducible exact Below.refl _ _|with_reducible apply Below.ofExt))⟩
    rw [zgZ _ ys (n + 1) (by rw [HT.out,hm,Bool.or_true])]
    simp
   | false =>
    go_wp2_with fail
    (go_at_call 166;refine (impl_spansHave1 c x y _ hx hyz (by simp [go_sem,hcl,hc])).mono ?_;rintro e w' ⟨rfl,rfl⟩)
    rw [show _=false from hm]
    go_wp2
    go_roundw
    case rel=>exact ⟨n + 1,by go_num,by omega,(by repeat (first|with_reducible exact Below.refl _ _|with_reducible apply Below.ofExt)),by rw [HT.out,HA.out,hm];rfl⟩
    case measure=>simp [intOf];omega
  ·go_wp2
   go_ret
   have e:n=ys.length:=by omega
   subst e
   have ha:=HA.out
   rw [List.take_length] at ha
   refine ⟨-1,rfl,?_,(by repeat (first|with_reducible exact Below.refl _ _|with_reducible apply Below.ofExt))⟩
   rw [ha]
   rfl
theorem ContainsFunc_H (v:Value) (ys:List ByteArray) (c:Nat) (x:ByteArray) (w:World) (hs:RdS w v ys) (hx:x.size<=9223372036854775807) (hcl:c < w.heap.size) (hc:w.cell? ⟨c,0,none⟩ = some (.string x)) :
  Calls Tryz.prog 88 #[v,.func (Fn.func 166) #[] #[.pointer (some ⟨c,0,none⟩)]] w fun e w'=>e = .returned (.bool (ys.any (fun y=>spanHas y x)))/\Below w.heap.size w w':=by
 go_enter Tryz.func88,Tryz.ntmps88
 go_wp2_with fail
 (go_at_call 132;refine (IndexFunc_H v ys c x _ hs hx hcl hc).mono ?_;rintro e w' ⟨r,rfl,hr,hb⟩;obtain ⟨X,rfl⟩:=hb.ext;clear hb)
 go_wp2
 go_ret
 exact ⟨by rw [<- hr];rfl,(by repeat (first|with_reducible exact Below.refl _ _|with_reducible apply Below.ofExt))⟩
theorem impl_spansHave (v:Value) (ss:List ByteArray) (x:ByteArray) (w:World) (hs:RdS w v ss) (hx:x.size<=9223372036854775807) :
  Calls Tryz.prog 104 #[v,.string x] w fun e w'=>e = .returned (.bool (spansHave ss x))/\Below w.heap.size w w':=by
 have HS:=Lib.hid hs
 clear hs
 go_enter Tryz.func104,Tryz.ntmps104
 go_wp2_with fail
 (go_at_call 88;refine (ContainsFunc_H v ss _ x _ (by (skip);(repeat (first|with_reducible exact HS.out|with_reducible apply RdS.alloc));all_goals exact (0:Nat)) hx (by simp [go_sem]) (by simp [go_sem])).mono ?_;rintro e w' ⟨rfl,hb⟩;obtain ⟨X,rfl⟩:=hb.ext;clear hb)
 go_wp2
 go_ret
 exact ⟨rfl,(by repeat (first|with_reducible exact Below.refl _ _|with_reducible apply Below.ofExt|with_reducible apply Below.ofAlloc))⟩
theorem spec_Covers (v v':Value) (ss ks:List ByteArray) (w:World) (hs:RdS w v ss) (hk:RdS w v' ks) :
  Calls Tryz.prog 100 #[v,v'] w fun e w'=>e = .returned (.bool (covers ss ks))/\Below w.heap.size w w':=by
 obtain ⟨ao',cap',rfl,hc1',hc2',hnil',hcell',hz'⟩:=hs
 obtain ⟨ao,cap,rfl,hc1,hc2,hnil,hcell,hz⟩:=hk
 have HX:=Lib.hid hcell
 have HZ:=Lib.hid hz
 have HX':=Lib.hid hcell'
 have HZ':=Lib.hid hz'
 clear hcell hnil hz hcell' hnil' hz'
 unfold maxLen at hc2 hc2'
 go_enter Tryz.func100,Tryz.ntmps100
 go_wp2
 go_loopw [5] (fun k wr=>∃ (n:Nat),k = .int .i64 n/\n<=ks.length/\Below w.heap.size w wr/\(ks.take n).all (spansHave ss)=true) (fun k _=>ks.length - (intOf k).toNat)
 case atStart=>exact ⟨0,rfl,by omega,(by repeat (with_reducible exact Below.refl _ _)),rfl⟩
 case round =>
  obtain ⟨n,rfl,hn,hbel,hall⟩:=hrel
  obtain ⟨X,rfl⟩:=hbel.ext
  have HA:=Lib.hid hall
  clear hall hbel
  by_cases hlt:(n:Int) < ks.length
  ·have hk:n < ks.length:=by omega
   obtain ⟨b,off,rfl,hbl,hcell⟩:=HX.out (by intro e;simp [e] at hk)
   have hcc:=hcell n hk
   have hstep:=cov_step (spansHave ss) ks n hk
   have hyz:=HZ.out _ (List.getElem_mem hk)
   generalize ks[n]=x at hcc hstep hyz
   have HT:=Lib.hid hstep
   have HXZ:=Lib.hid hyz
   clear hcell hstep hyz
   go_wp2
   go_loopw [6,7] (fun h k wr=>∃ (m:Nat) (bb:Bool),h = .bool bb/\k = .int .i64 m/\m<=ss.length/\Below w.heap.size w wr/\(ss.take m).any (fun s=>spanHas s x)=bb) (fun _ k _=>ss.length - (intOf k).toNat)
   case atStart=>exact ⟨0,false,rfl,rfl,by omega,(by repeat (first|with_reducible exact Below.refl _ _|with_reducible apply Below.ofExt)),rfl⟩
   case round =>
    obtain ⟨m,bb,rfl,rfl,hm,hbel2,hany2⟩:=hrel
    obtain ⟨Y,rfl⟩:=hbel2.ext
    have HA2:=Lib.hid hany2
    clear hany2 hbel2
    by_cases hlt2:(m:Int) < ss.length
    ·have hk2:m < ss.length:=by omega
     obtain ⟨b',off',rfl,hbl',hcell'⟩:=HX'.out (by intro e;simp [e] at hk2)
     have hcc':=hcell' m hk2
     have hstep2:=zaR (fun s=>spanHas s x) ss m hk2
     have hyz:=HZ'.out _ (List.getElem_mem hk2)
     generalize ss[m]=y at hcc' hstep2 hyz
     have HT2:=Lib.hid hstep2
     have CK:Hid (∀ W:World,Calls Tryz.prog 162 #[.string y,.string x] W fun e w'=>e = .returned (.bool (spanHas y x))/\w'=W):=fun W=>(spec_SpanHas y x W hyz HXZ.out).mono fun e w' h=>⟨h.1,h.2.symm⟩
     clear hcell' hstep2 hyz
     cases bb with
     | true =>
      go_wp2
      go_quiet (fail)
      go_wp2
      go_roundw
      case rel=>exact ⟨m + 1,true,rfl,by go_num,by omega,(by repeat (first|with_reducible exact Below.refl _ _|with_reducible apply Below.ofExt)),by rw [HT2.out,HA2.out];rfl⟩
      case measure=>simp [intOf];omega
     | false =>
      go_wp2
      go_quiet ((go_at_call 162;(exact quietE (CK.out _))))
      go_wp2
      go_roundw
      case rel=>exact ⟨m + 1,_,rfl,by go_num,by omega,(by repeat (first|with_reducible exact Below.refl _ _|with_reducible apply Below.ofExt)),by rw [HT2.out,HA2.out];rfl⟩
      case measure=>simp [intOf];omega
    ·have e:m=ss.length:=by omega
     subst e
     have ha2:=HA2.out
     rw [List.take_length] at ha2
     have HB:Hid (spansHave ss x=bb):=ha2
     clear ha2
     cases bb with
     | true =>
      go_wp2
      go_roundw
      case rel=>exact ⟨n + 1,by go_num,by omega,(by repeat (first|with_reducible exact Below.refl _ _|with_reducible apply Below.ofExt)),by rw [HT.out,HA.out,HB.out];rfl⟩
      case measure=>simp [intOf];omega
     | false =>
      go_wp2
      go_ret
      exact ⟨by unfold covers;rw [cov_false _ ks (n + 1) (by rw [HT.out,HB.out,Bool.and_false])];rfl,(by repeat (first|with_reducible exact Below.refl _ _|with_reducible apply Below.ofExt))⟩
  ·go_wp2
   go_ret
   have e:n=ks.length:=by omega
   subst e
   have ha:=HA.out
   rw [List.take_length] at ha
   exact ⟨by unfold covers;rw [ha];rfl,(by repeat (first|with_reducible exact Below.refl _ _|with_reducible apply Below.ofExt))⟩
end Go.Proofs.YtgcmnkkakngifaaGreatDoor
