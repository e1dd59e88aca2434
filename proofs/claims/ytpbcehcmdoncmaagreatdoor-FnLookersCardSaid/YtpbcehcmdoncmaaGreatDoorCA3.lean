/- Texts of this claim, merged: the walks and what they stand on. Each condition stands in its theorem. -/
import Derived.Lib.AppendStr
import Derived.Lib.CountLaws
import Derived.Lib.FrozenHead
import Derived.Lib.Split
import Derived.Lib.SplitLaws
import Derived.Test.YtpbcehcmdoncmaaGreatDoorCA2
set_option linter.unusedVariables false
set_option linter.unusedSimpArgs false
set_option maxRecDepth 100000
set_option maxHeartbeats 8000000
namespace Go.Proofs.YtpbcehcmdoncmaaGreatDoor
open Go.ChangeShapes Go.WideShapes Go.ChangeAt Go.RowKit
theorem zea (c:CellD) (key:ByteArray) (b:Nat) (w:World) (hb:b<w.heap.size) (hc:w.cell? ⟨b,0,none⟩=some (.string key)) :
  Calls Tryz.prog 159 #[.agg #[.string c.key,.string c.val],.pointer (some ⟨b,0,none⟩)] w fun e w'=>e=.returned (.bool (zU key c))/\Below w.heap.size w w':=by
 have h:zU key c=(c.key.toList==key.toList):=rfl
 rw [h]
 clear h
 go_enter Tryz.func159,Tryz.ntmps159
 go_wp2
 go_ret
 exact ⟨rfl,(by repeat (first|with_reducible exact Below.refl _ _|with_reducible apply Below.ofAlloc))⟩
theorem zig (c:CellD) (key:ByteArray) (b:Nat) (w:World) (hb:b<w.heap.size) (hc:w.cell? ⟨b,0,none⟩=some (.string key)) :
  Calls Tryz.prog 161 #[.agg #[.string c.key,.string c.val],.pointer (some ⟨b,0,none⟩)] w fun e w'=>e=.returned (.bool (zW key c))/\Below w.heap.size w w':=by
 cases hg:zW key c with
 | true =>
  have hik:=zc0 hg
  have hle:=zkC hg
  have hke:(c.key.toList==key.toList)=false:=hik
  have hge:Op.bytesLess key.toList c.key.toList=true:=hg
  go_enter Tryz.func161,Tryz.ntmps161
  go_wp2
  go_ret
  exact ⟨rfl,(by repeat (first|with_reducible exact Below.refl _ _|with_reducible apply Below.ofExt|with_reducible apply Below.ofAlloc|with_reducible apply Below.drew|with_reducible apply Below.ofDrewN|with_reducible assumption|(with_reducible refine Below.setCell ?_ (by first|exact Nat.le_refl _|(simp [go_sem];done)|(simp [go_sem];omega)) _)))⟩
 | false =>
  have hge:Op.bytesLess key.toList c.key.toList=false:=hg
  cases hik:zU key c with
  | true =>
   have hle:=zh4 hik
   have hke:(c.key.toList==key.toList)=true:=hik
   go_enter Tryz.func161,Tryz.ntmps161
   go_wp2
   go_ret
   exact ⟨rfl,(by repeat (first|with_reducible exact Below.refl _ _|with_reducible apply Below.ofExt|with_reducible apply Below.ofAlloc|with_reducible apply Below.drew|with_reducible apply Below.ofDrewN|with_reducible assumption|(with_reducible refine Below.setCell ?_ (by first|exact Nat.le_refl _|(simp [go_sem];done)|(simp [go_sem];omega)) _)))⟩
  | false =>
   have hle:=zgR hg hik
   have hke:(c.key.toList==key.toList)=false:=hik
   go_enter Tryz.func161,Tryz.ntmps161
   go_wp2
   go_ret
   exact ⟨rfl,(by repeat (first|with_reducible exact Below.refl _ _|with_reducible apply Below.ofAlloc))⟩
theorem zcL (v:Value) (ds:List CellD) (key:ByteArray) (b0:Nat) (w:World) (hs:RdL zu w v ds) (hb0:b0<w.heap.size) (hc0:w.cell? ⟨b0,0,none⟩=some (.string key)) :
  Calls Tryz.prog 160 #[v,.func (Fn.func 159) #[] #[.pointer (some ⟨b0,0,none⟩)]] w fun e w'=>e=.returned (.int .i64 (zam (zU key) ds))/\Below w.heap.size w w':=by
 obtain ⟨ao,cap,rfl,hc1,hc2,hnil,hne⟩:=hs.shape
 have HX:=Hd hne
 have HC:=Hd hc0
 clear hs hne hnil hc0
 unfold maxLen at hc2
 go_enter Tryz.func160,Tryz.ntmps160
 go_wp2
 go_loopw [8] (fun k wr=>∃ (n:Nat),k=.int .i64 n/\n<=ds.length/\Below w.heap.size w wr/\(ds.take n).any (zU key)=false) (fun k _=>ds.length - (intOf k).toNat)
 case atStart=>exact ⟨0,rfl,by omega,(by repeat (with_reducible exact Below.refl _ _)),rfl⟩
 case round =>
  obtain ⟨n,rfl,hn,hbel,hany⟩:=hrel
  obtain ⟨X,rfl⟩:=hbel.ext
  have HA:=Hd hany
  clear hany
  by_cases hlt:(n:Int)<ds.length
  ·have hk:n<ds.length:=by omega
   obtain ⟨b,off,rfl,hbl,hcell⟩:=HX.out (by intro e;simp [e] at hk)
   have hc:=hcell n hk
   have hst:=zay (zU key) ds n hk
   have hff:(ds.take n).any (zU key)=false->zU key ds[n]=true->zam (zU key) ds=n:=fun h h2=>zat (zU key) ds n hk h h2
   generalize ds[n]=d at hc hst hff
   have y0:w.cell? ⟨b,off+n*2,none⟩=some (.string d.key):=hc 0 _ rfl
   have y1:w.cell? ⟨b,off+n*2+1,none⟩=some (.string d.val):=hc 1 _ rfl
   clear hc hcell
   have hbl:=hbl (by decide)
   have HT:=Hd hst
   have HF:=Hd hff
   clear hst hff
   cases hm:zU key d with
   | true =>
    have HM:=Hd hm
    clear hm
    go_wp2_with fail
    (go_at_call 159;refine (zea d key b0 _ (by simp [go_sem];try omega) (by repeat (first|exact HC.out|refine Grew.cell (Grew.ext _ _) ?_))).mono ?_;rintro e w' ⟨rfl,hb⟩;obtain ⟨X,rfl⟩:=hb.ext;clear hb)
    rw [HM.out]
    go_wp2
    go_ret
    exact ⟨by rw [HF.out HA.out HM.out];rfl,(by repeat (first|with_reducible exact Below.refl _ _|with_reducible apply Below.ofExt|with_reducible apply Below.ofAlloc|with_reducible apply Below.drew|with_reducible apply Below.ofDrewN|with_reducible assumption|(with_reducible refine Below.setCell ?_ (by first|exact Nat.le_refl _|(simp [go_sem];done)|(simp [go_sem];omega)) _)))⟩
   | false =>
    have HM:=Hd hm
    clear hm
    go_wp2_with fail
    (go_at_call 159;refine (zea d key b0 _ (by simp [go_sem];try omega) (by repeat (first|exact HC.out|refine Grew.cell (Grew.ext _ _) ?_))).mono ?_;rintro e w' ⟨rfl,hb⟩;obtain ⟨X,rfl⟩:=hb.ext;clear hb)
    rw [HM.out]
    go_wp2
    go_roundw
    case rel=>exact ⟨n+1,by go_num,by omega,(by repeat (first|with_reducible exact Below.refl _ _|with_reducible apply Below.ofExt)),by rw [HT.out,HA.out,HM.out];rfl⟩
    case measure=>simp [intOf];omega
  ·go_wp2
   go_ret
   have e:n=ds.length:=by omega
   subst e
   have ha:=HA.out
   rw [List.take_length] at ha
   exact ⟨by rw [zax (zU key) ds ha];rfl,(by repeat (first|with_reducible exact Below.refl _ _|with_reducible apply Below.ofExt))⟩
theorem zcK (v:Value) (ds:List CellD) (key:ByteArray) (b0:Nat) (w:World) (hs:RdL zu w v ds) (hb0:b0<w.heap.size) (hc0:w.cell? ⟨b0,0,none⟩=some (.string key)) :
  Calls Tryz.prog 160 #[v,.func (Fn.func 161) #[] #[.pointer (some ⟨b0,0,none⟩)]] w fun e w'=>e=.returned (.int .i64 (zam (zW key) ds))/\Below w.heap.size w w':=by
 obtain ⟨ao,cap,rfl,hc1,hc2,hnil,hne⟩:=hs.shape
 have HX:=Hd hne
 have HC:=Hd hc0
 clear hs hne hnil hc0
 unfold maxLen at hc2
 go_enter Tryz.func160,Tryz.ntmps160
 go_wp2
 go_loopw [8] (fun k wr=>∃ (n:Nat),k=.int .i64 n/\n<=ds.length/\Below w.heap.size w wr/\(ds.take n).any (zW key)=false) (fun k _=>ds.length - (intOf k).toNat)
 case atStart=>exact ⟨0,rfl,by omega,(by repeat (with_reducible exact Below.refl _ _)),rfl⟩
 case round =>
  obtain ⟨n,rfl,hn,hbel,hany⟩:=hrel
  obtain ⟨X,rfl⟩:=hbel.ext
  have HA:=Hd hany
  clear hany
  by_cases hlt:(n:Int)<ds.length
  ·have hk:n<ds.length:=by omega
   obtain ⟨b,off,rfl,hbl,hcell⟩:=HX.out (by intro e;simp [e] at hk)
   have hc:=hcell n hk
   have hst:=zay (zW key) ds n hk
   have hff:(ds.take n).any (zW key)=false->zW key ds[n]=true->zam (zW key) ds=n:=fun h h2=>zat (zW key) ds n hk h h2
   generalize ds[n]=d at hc hst hff
   have y0:w.cell? ⟨b,off+n*2,none⟩=some (.string d.key):=hc 0 _ rfl
   have y1:w.cell? ⟨b,off+n*2+1,none⟩=some (.string d.val):=hc 1 _ rfl
   clear hc hcell
   have hbl:=hbl (by decide)
   have HT:=Hd hst
   have HF:=Hd hff
   clear hst hff
   cases hm:zW key d with
   | true =>
    have HM:=Hd hm
    clear hm
    go_wp2_with fail
    (go_at_call 161;refine (zig d key b0 _ (by simp [go_sem];try omega) (by repeat (first|exact HC.out|refine Grew.cell (Grew.ext _ _) ?_))).mono ?_;rintro e w' ⟨rfl,hb⟩;obtain ⟨X,rfl⟩:=hb.ext;clear hb)
    rw [HM.out]
    go_wp2
    go_ret
    exact ⟨by rw [HF.out HA.out HM.out];rfl,(by repeat (first|with_reducible exact Below.refl _ _|with_reducible apply Below.ofExt|with_reducible apply Below.ofAlloc|with_reducible apply Below.drew|with_reducible apply Below.ofDrewN|with_reducible assumption|(with_reducible refine Below.setCell ?_ (by first|exact Nat.le_refl _|(simp [go_sem];done)|(simp [go_sem];omega)) _)))⟩
   | false =>
    have HM:=Hd hm
    clear hm
    go_wp2_with fail
    (go_at_call 161;refine (zig d key b0 _ (by simp [go_sem];try omega) (by repeat (first|exact HC.out|refine Grew.cell (Grew.ext _ _) ?_))).mono ?_;rintro e w' ⟨rfl,hb⟩;obtain ⟨X,rfl⟩:=hb.ext;clear hb)
    rw [HM.out]
    go_wp2
    go_roundw
    case rel=>exact ⟨n+1,by go_num,by omega,(by repeat (first|with_reducible exact Below.refl _ _|with_reducible apply Below.ofExt)),by rw [HT.out,HA.out,HM.out];rfl⟩
    case measure=>simp [intOf];omega
  ·go_wp2
   go_ret
   have e:n=ds.length:=by omega
   subst e
   have ha:=HA.out
   rw [List.take_length] at ha
   exact ⟨by rw [zax (zW key) ds ha];rfl,(by repeat (first|with_reducible exact Below.refl _ _|with_reducible apply Below.ofExt))⟩
theorem zg1 {α : Type} (p : α->Bool):∀ xs:List α,xs.any p=true->∃ n,∃ h:n<xs.length,(xs.take n).any p=false/\p xs[n]=true
 | [],h=>by cases h
 | x :: xs,h=>by
  cases hp:p x with
  | true=>exact ⟨0,by simp,rfl,hp⟩
  | false =>
   rw [List.any_cons,hp,Bool.false_or] at h
   obtain ⟨n,hn,h1,h2⟩:=zg1 p xs h
   exact ⟨n+1,by simpa using hn,by rw [List.take_succ_cons,List.any_cons,hp,h1];rfl,by simpa using h2⟩
def zdG (key:ByteArray) (xs:List CellD):ByteArray:=match xs.find? (zU key) with
 | some c=>c.val
 | none=>⟨#[]⟩
theorem zf9 (key:ByteArray) (xs:List CellD) (h:xs.any (zU key)=false):zdG key xs=⟨#[]⟩:=by
 unfold zdG
 rw [List.find?_eq_none.2 (fun x hx=>by rw [List.any_eq_false] at h;exact h x hx)]
theorem zkS (key:ByteArray) (xs:List CellD) (n:Nat) (hn:n<xs.length) (h:(xs.take n).any (zU key)=false) (h2:zU key xs[n]=true):zdG key xs=xs[n].val:=by
 unfold zdG
 have e:xs=xs.take n++xs[n] :: xs.drop (n+1):=by rw [<- List.drop_eq_getElem_cons hn,List.take_append_drop]
 have hf:xs.find? (zU key)=some xs[n]:=by
  conv=>lhs;rw [e]
  rw [List.find?_append,List.find?_eq_none.2 (fun x hx=>by rw [List.any_eq_false] at h;exact h x hx),List.find?_cons_of_pos h2]
  rfl
 rw [hf]
theorem ze0 (c:CellD) (key:ByteArray) (b:Nat) (w:World) (hb:b<w.heap.size) (hc:w.cell? ⟨b,0,none⟩=some (.string key)) :
  Calls Tryz.prog 190 #[.agg #[.string c.key,.string c.val],.pointer (some ⟨b,0,none⟩)] w fun e w'=>e=.returned (.bool (zU key c))/\Below w.heap.size w w':=by
 have h:zU key c=(c.key.toList==key.toList):=rfl
 rw [h]
 clear h
 go_enter Tryz.func190,Tryz.ntmps190
 go_wp2
 go_ret
 exact ⟨rfl,(by repeat (first|with_reducible exact Below.refl _ _|with_reducible apply Below.ofAlloc))⟩
theorem zfg (v:Value) (ds:List CellD) (key:ByteArray) (b0:Nat) (w:World) (hs:RdL zu w v ds) (hb0:b0<w.heap.size) (hc0:w.cell? ⟨b0,0,none⟩=some (.string key)) :
  Calls Tryz.prog 160 #[v,.func (Fn.func 190) #[] #[.pointer (some ⟨b0,0,none⟩)]] w fun e w'=>e=.returned (.int .i64 (zam (zU key) ds))/\Below w.heap.size w w':=by
 obtain ⟨ao,cap,rfl,hc1,hc2,hnil,hne⟩:=hs.shape
 have HX:=Hd hne
 have HC:=Hd hc0
 clear hs hne hnil hc0
 unfold maxLen at hc2
 go_enter Tryz.func160,Tryz.ntmps160
 go_wp2
 go_loopw [8] (fun k wr=>∃ (n:Nat),k=.int .i64 n/\n<=ds.length/\Below w.heap.size w wr/\(ds.take n).any (zU key)=false) (fun k _=>ds.length - (intOf k).toNat)
 case atStart=>exact ⟨0,rfl,by omega,(by repeat (with_reducible exact Below.refl _ _)),rfl⟩
 case round =>
  obtain ⟨n,rfl,hn,hbel,hany⟩:=hrel
  obtain ⟨X,rfl⟩:=hbel.ext
  have HA:=Hd hany
  clear hany
  by_cases hlt:(n:Int)<ds.length
  ·have hk:n<ds.length:=by omega
   obtain ⟨b,off,rfl,hbl,hcell⟩:=HX.out (by intro e;simp [e] at hk)
   have hc:=hcell n hk
   have hst:=zay (zU key) ds n hk
   have hff:(ds.take n).any (zU key)=false->zU key ds[n]=true->zam (zU key) ds=n:=fun h h2=>zat (zU key) ds n hk h h2
   generalize ds[n]=d at hc hst hff
   have y0:w.cell? ⟨b,off+n*2,none⟩=some (.string d.key):=hc 0 _ rfl
   have y1:w.cell? ⟨b,off+n*2+1,none⟩=some (.string d.val):=hc 1 _ rfl
   clear hc hcell
   have hbl:=hbl (by decide)
   have HT:=Hd hst
   have HF:=Hd hff
   clear hst hff
   cases hm:zU key d with
   | true =>
    have HM:=Hd hm
    clear hm
    go_wp2_with fail
    (go_at_call 190;refine (ze0 d key b0 _ (by simp [go_sem];try omega) (by repeat (first|exact HC.out|refine Grew.cell (Grew.ext _ _) ?_))).mono ?_;rintro e w' ⟨rfl,hb⟩;obtain ⟨X,rfl⟩:=hb.ext;clear hb)
    rw [HM.out]
    go_wp2
    go_ret
    exact ⟨by rw [HF.out HA.out HM.out];rfl,(by repeat (first|with_reducible exact Below.refl _ _|with_reducible apply Below.ofExt|with_reducible apply Below.ofAlloc|with_reducible apply Below.drew|with_reducible apply Below.ofDrewN|with_reducible assumption|(with_reducible refine Below.setCell ?_ (by first|exact Nat.le_refl _|(simp [go_sem];done)|(simp [go_sem];omega)) _)))⟩
   | false =>
    have HM:=Hd hm
    clear hm
    go_wp2_with fail
    (go_at_call 190;refine (ze0 d key b0 _ (by simp [go_sem];try omega) (by repeat (first|exact HC.out|refine Grew.cell (Grew.ext _ _) ?_))).mono ?_;rintro e w' ⟨rfl,hb⟩;obtain ⟨X,rfl⟩:=hb.ext;clear hb)
    rw [HM.out]
    go_wp2
    go_roundw
    case rel=>exact ⟨n+1,by go_num,by omega,(by repeat (first|with_reducible exact Below.refl _ _|with_reducible apply Below.ofExt)),by rw [HT.out,HA.out,HM.out];rfl⟩
    case measure=>simp [intOf];omega
  ·go_wp2
   go_ret
   have e:n=ds.length:=by omega
   subst e
   have ha:=HA.out
   rw [List.take_length] at ha
   exact ⟨by rw [zax (zU key) ds ha];rfl,(by repeat (first|with_reducible exact Below.refl _ _|with_reducible apply Below.ofExt))⟩
theorem zf2 (v:Value) (ds:List CellD) (key:ByteArray) (w:World) (hs:RdL zu w v ds) :
  Calls Tryz.prog 166 #[v,.string key] w fun e w'=>e=.returned (.int .i64 (zam (zU key) ds))/\Below w.heap.size w w':=by
 obtain ⟨ao,cap,rfl⟩:=hs.form
 have HS:=Hd hs
 clear hs
 go_enter Tryz.func166,Tryz.ntmps166
 go_wp2_with fail
 (go_at_call 160;refine (zfg _ ds key w.heap.size _ (HS.out.alloc _) (by simp) (by simp [go_sem])).mono ?_;rintro e w' ⟨rfl,hb⟩;obtain ⟨X,rfl⟩:=hb.ext;clear hb)
 go_wp2
 go_ret
 exact ⟨rfl,(by repeat (first|with_reducible exact Below.refl _ _|with_reducible apply Below.ofExt|with_reducible apply Below.ofAlloc))⟩
theorem ziM (v:Value) (ds:List CellD) (key:ByteArray) (w:World) (hs:RdL zu w v ds) :
  Calls Tryz.prog 122 #[v,.string key] w fun e w'=>e=.returned (.string (zdG key ds))/\Below w.heap.size w w':=by
 obtain ⟨ao,cap,rfl,hc1,hc2,hnil,hne⟩:=hs.shape
 have HS:=Hd hs
 have HX:=Hd hne
 unfold maxLen at hc2
 clear hs hne hnil
 cases hany:ds.any (zU key) with
 | false =>
  have HI:Hid (zam (zU key) ds = -1):=zax _ _ hany
  have HG:Hid (zdG key ds=⟨#[]⟩):=zf9 key ds hany
  clear hany
  go_enter Tryz.func122,Tryz.ntmps122
  go_wp2_with fail
  (go_at_call 166;refine (zf2 _ ds key _ HS.out).mono ?_;rintro e w' ⟨rfl,hb⟩;obtain ⟨X,rfl⟩:=hb.ext;clear hb)
  rw [HI.out]
  go_wp2
  go_ret
  exact ⟨by rw [HG.out];rfl,(by repeat (first|with_reducible exact Below.refl _ _|with_reducible apply Below.ofExt|with_reducible apply Below.ofAlloc|with_reducible apply Below.drew|with_reducible apply Below.ofDrewN|with_reducible assumption|(with_reducible refine Below.setCell ?_ (by first|exact Nat.le_refl _|(simp [go_sem];done)|(simp [go_sem];omega)) _)))⟩
 | true =>
  obtain ⟨n,hn,hbef,hat⟩:=zg1 _ _ hany
  have HI:Hid (zam (zU key) ds=n):=zat _ _ n hn hbef hat
  have hg:=zkS key ds n hn hbef hat
  obtain ⟨b,off,rfl,hbl,hcell⟩:=HX.out (by intro e;simp [e] at hn)
  have hc:=hcell n hn
  clear hany hbef hat hcell
  generalize ds[n]=d at hc hg
  have HG:=Hd hg
  have y1:w.cell? ⟨b,off+n*2+1,none⟩=some (.string d.val):=hc 1 _ rfl
  have hbl:=hbl (by decide)
  clear hg hc
  go_enter Tryz.func122,Tryz.ntmps122
  go_wp2_with fail
  (go_at_call 166;refine (zf2 _ ds key _ HS.out).mono ?_;rintro e w' ⟨rfl,hb⟩;obtain ⟨X,rfl⟩:=hb.ext;clear hb)
  rw [HI.out]
  go_wp2
  go_ret
  exact ⟨by rw [HG.out];rfl,(by repeat (first|with_reducible exact Below.refl _ _|with_reducible apply Below.ofExt))⟩
theorem zfL (v:Value) (ds:List CellD) (key:ByteArray) (w:World) (hs:RdL zu w v ds) :
  Calls Tryz.prog 172 #[v,.string key] w fun e w'=>e=.returned (.string (zdG key ds))/\Below w.heap.size w w':=by
 obtain ⟨ao,cap,rfl,hc1,hc2,hnil,hne⟩:=hs.shape
 have HX:=Hd hne
 unfold maxLen at hc2
 clear hs hne hnil
 go_enter Tryz.func172,Tryz.ntmps172
 go_wp2
 go_loopw [5] (fun k wr=>∃ (n:Nat),k=.int .i64 n/\n<=ds.length/\Below w.heap.size w wr/\(ds.take n).any (zU key)=false) (fun k _=>ds.length - (intOf k).toNat)
 case atStart=>exact ⟨0,rfl,by omega,(by repeat (with_reducible exact Below.refl _ _)),rfl⟩
 case round =>
  obtain ⟨n,rfl,hn,hbel,hany⟩:=hrel
  obtain ⟨X,rfl⟩:=hbel.ext
  by_cases hlt:(n:Int)<ds.length
  case pos =>
   have hk:n<ds.length:=by omega
   have hst:=zay (zU key) ds n hk
   have hgt:=fun h=>zkS key ds n hk hany h
   obtain ⟨b,off,rfl,hbl,hcell⟩:=HX.out (by intro e;simp [e] at hk)
   have hc:=hcell n hk
   clear hcell
   generalize ds[n]=d at hc hst hgt
   have HA:=Hd hany
   have HT:=Hd hst
   have HG:=Hd hgt
   have y0:w.cell? ⟨b,off+n*2,none⟩=some (.string d.key):=hc 0 _ rfl
   have y1:w.cell? ⟨b,off+n*2+1,none⟩=some (.string d.val):=hc 1 _ rfl
   have hbl:=hbl (by decide)
   clear hst hgt hany hc
   cases hik:zU key d with
   | true =>
    have hke:(d.key.toList==key.toList)=true:=hik
    go_wp2
    go_ret
    exact ⟨by rw [HG.out hik];rfl,(by repeat (first|with_reducible exact Below.refl _ _|with_reducible apply Below.ofExt|with_reducible apply Below.ofAlloc|with_reducible apply Below.drew|with_reducible apply Below.ofDrewN|with_reducible assumption|(with_reducible refine Below.setCell ?_ (by first|exact Nat.le_refl _|(simp [go_sem];done)|(simp [go_sem];omega)) _)))⟩
   | false =>
    have hke:(d.key.toList==key.toList)=false:=hik
    go_wp2
    go_roundw
    case rel=>exact ⟨n+1,by go_num,by omega,(by repeat (first|with_reducible exact Below.refl _ _|with_reducible apply Below.ofExt)),by rw [HT.out,HA.out,hik];rfl⟩
    case measure=>simp [intOf];omega
  case neg =>
   have e:n=ds.length:=by omega
   rw [e,List.take_length] at hany
   have HG:Hid (zdG key ds=⟨#[]⟩):=zf9 key ds hany
   clear hany
   go_wp2
   go_ret
   exact ⟨by rw [HG.out];rfl,(by repeat (first|with_reducible exact Below.refl _ _|with_reducible apply Below.ofExt))⟩
def ltS (a b:ByteArray):Bool:=Op.bytesLess a.toList b.toList
def zaw (xs:List ByteArray) (x:ByteArray):Nat:=(xs.takeWhile (ltS · x)).length
def zbF (xs:List ByteArray) (x:ByteArray):List ByteArray:=if xs[zaw xs x]?=some x then xs else xs.take (zaw xs x)++x :: xs.drop (zaw xs x)
theorem zz:Elem Tryz.prog 35 9 1 16:=Elem.of (.string ⟨#[]⟩) Tryz.underlying35 (by kernel_rfl) rfl (by decide)
theorem zhI {α : Type} (p : α->Bool) (l:List α):(l.takeWhile p).length<=l.length:=by
 induction l with
 | nil=>simp
 | cons a l ih=>simp only [List.takeWhile_cons];split<;>simp<;>omega
theorem putAt_lt {xs:List ByteArray} {x:ByteArray} {k:Nat} (hk:k<zaw xs x) (h:k<xs.length):ltS xs[k] x=true:=by
 have h1:(xs.takeWhile (ltS · x))[k]'hk=xs[k]:=by
  have:=List.takeWhile_prefix (ltS · x) (l:=xs)
  exact List.IsPrefix.getElem this hk
 have h2:∀ (l:List ByteArray) (k:Nat) (h:k<(l.takeWhile (ltS · x)).length),ltS (l.takeWhile (ltS · x))[k] x=true:=by
  intro l
  induction l with
  | nil=>intro k h;simp at h
  | cons a l ih =>
   intro k h
   simp only [List.takeWhile_cons] at h ⊢
   split at h
   ·rename_i ha
    simp only [ha,if_true]
    cases k with
    | zero=>exact ha
    | succ k=>exact ih k (by simpa using h)
   ·simp at h
 have h3:=h2 xs k hk
 rw [h1] at h3
 exact h3
theorem putAt_ge {xs:List ByteArray} {x:ByteArray} (h:zaw xs x<xs.length):ltS xs[zaw xs x] x=false:=by
 have h2:∀ (l:List ByteArray) (h:(l.takeWhile (ltS · x)).length<l.length),ltS l[(l.takeWhile (ltS · x)).length] x=false:=by
  intro l
  induction l with
  | nil=>intro h;simp at h
  | cons a l ih =>
   intro h
   by_cases ha:ltS a x=true
   ·simp only [List.takeWhile_cons,ha,if_true,List.length_cons] at h ⊢
    simpa using ih (by simpa using h)
   ·have ha':ltS a x=false:=by simpa using ha
    simp only [List.takeWhile_cons,ha',Bool.false_eq_true,if_false,List.length_nil]
    exact ha'
 exact h2 xs h
theorem zhb {α : Type} {R:RowOf α} {w:World} {v:Value} {xs ys:List α} (h:RdL R w v xs) (e:ys=xs):RdL R w v ys:=by rw [e];exact h
theorem zit (v:Value) (xs:List ByteArray) (x:ByteArray) (w:World) (hs:RdL zv w v xs) (hl:xs.length<=1099511627776) :
  Calls Tryz.prog 197 #[v,.string x] w fun e w'=>∃ v',e=.returned v'/\RdL zv w' v' (zbF xs x)/\Below w.heap.size w w':=by
 obtain ⟨ao,cap,rfl,hc1,hc2,hnil,hcell⟩:=hs.shapeS
 have HN:=Hd hnil
 have HC:=Hd hcell
 have HS:=Hd hs
 clear hnil hcell hs
 have HM:Hid (cap<=maxLen):=hc2
 unfold maxLen at hc2
 have hp:zaw xs x<=xs.length:=zhI (ltS · x) xs
 have hp0:xs = []->zaw xs x=0:=fun e=>by have h:=hp;rw [e] at h;simpa [e] using h
 have HP0:=Hd hp0
 clear hp0
 go_enter Tryz.func197,Tryz.ntmps197
 go_wp2
 go_loop [5] (fun i=>∃ k:Nat,k<=zaw xs x/\i=.int .i64 k) (fun i=>xs.length - (intOf i).toNat)
 case atStart=>exact ⟨0,Nat.zero_le _,rfl⟩
 case round =>
  obtain ⟨k,hk,rfl⟩:=hrel
  by_cases hlt:k<zaw xs x
  ·obtain ⟨b,off,rfl,hbl,hcell⟩:=HC.out (fun e=>by have h1:=HP0.out e;omega)
   have hkl:k<xs.length:=by omega
   have hcc:=hcell k hkl
   have hless:Op.bytesLess xs[k].toList x.toList=true:=putAt_lt hlt hkl
   clear hcell
   go_wp2
   go_round
   case rel=>exact ⟨k+1,by omega,by go_num⟩
   case measure=>simp [intOf];omega
  ·obtain rfl:k=zaw xs x:=by omega
   by_cases hin:zaw xs x<xs.length
   ·obtain ⟨b,off,rfl,hbl,hcell⟩:=HC.out (by intro e;simp [e] at hin)
    have hcc:=hcell _ hin
    have hless:Op.bytesLess xs[zaw xs x].toList x.toList=false:=putAt_ge hin
    by_cases heq:xs[zaw xs x]=x
    ·have heq':(xs[zaw xs x].toList==x.toList)=true:=by rw [heq];simp
     have H:Hid (zbF xs x=xs):=by show zbF xs x=xs;simp [zbF,heq,hin]
     clear heq hcell
     go_wp2
     go_ret
     exact ⟨_,rfl,zhb HS.out H.out,Below.refl _ _⟩
    ·have heq':(xs[zaw xs x].toList==x.toList)=false:=by rw [beq_str];simpa using heq
     have H:Hid (zbF xs x=xs.take (zaw xs x)++x :: xs.drop (zaw xs x)):=by show zbF xs x = _;simp [zbF,heq,hin]
     clear heq hcell
     have S1:=zjv HS.out (zaw xs x) cap hp (by omega) HM.out
     have S3:=RdL.cut1 rfl HS.out (zaw xs x) xs.length (cap - zaw xs x) (Nat.le_refl _) (by omega) (by have:=HM.out;omega)
     have hlk:(xs.take (zaw xs x)).length=zaw xs x:=by simp;omega
     have hld:((xs.drop (zaw xs x)).take (xs.length - zaw xs x)).length=xs.length - zaw xs x:=by simp
     have HP:=Hd hlk
     have HQ:=Hd hld
     clear hlk hld
     generalize zaw xs x=k at *
     go_wp2_with (at_builtin;refine zy ?_)
     refine zF rfl _ _ _ rfl zz (OwnL.empty zv _ w) rfl (S1.alloc _) rfl (by rw [HP.out];simp;omega) (by rw [HP.out];unfold maxLen;simp;omega) (by simp) ?_
     intro v1 w1 hown1 hg1 _
     have hb1:Below w.heap.size w w1:=Below.appL (by repeat (first|with_reducible exact Below.refl _ _|with_reducible apply Below.ofAlloc)) hg1 (OwnL.empty zv _ w)
     go_wp2_with (at_builtin;refine zy ?_)
     refine zF rfl _ _ _ rfl zz (hown1.alloc _) rfl (RdL.one zv w1 x _ rfl _) rfl (by simp only [List.nil_append,HP.out,List.length_singleton];omega) (by simp only [List.nil_append,HP.out,List.length_singleton];unfold maxLen;omega) (by have:=hb1.size;simp;omega) ?_
     intro v2 w2 hown2 hg2 _
     have hb2:Below w.heap.size w w2:=Below.appL (Below.ofAlloc hb1 _) hg2 (hown1.alloc _)
     clear hg1 hg2
     by_cases hcap:cap=k
     ·omega
     go_wp2_with (at_builtin;refine zy ?_)
     refine zF rfl _ _ _ rfl zz hown2 rfl (S3.below hb2) rfl (by simp only [List.nil_append,List.length_append,HP.out,HQ.out,List.length_singleton];omega) (by simp only [List.nil_append,List.length_append,HP.out,HQ.out,List.length_singleton];unfold maxLen;omega) hb2.size ?_
     intro v3 w3 hown3 hg3 _
     have hb3:Below w.heap.size w w3:=Below.appL hb2 hg3 hown2
     go_wp2
     go_ret
     refine ⟨v3,rfl,zhb hown3.rd ?_,hb3⟩
     rw [H.out]
     simp [List.take_of_length_le]
   ·have he:zaw xs x=xs.length:=by omega
    have H:Hid (zbF xs x=xs ++ [x]):=by show zbF xs x = _;simp [zbF,he]
    have hge:xs.length<=zaw xs x:=by omega
    clear hin hk hlt
    have HE:=Hd he
    clear he
    rcases HS.out.cases with ⟨rfl,rfl,hl0,hx0⟩|⟨b,off,rfl,_,_,_⟩
    ·subst hx0
     have hk0:zaw [] x=0:=rfl
     generalize zaw [] x=k at *
     subst hk0
     go_wp2_with (at_builtin;refine zy ?_)
     refine zF rfl _ _ _ rfl zz (OwnL.empty zv _ w) rfl (RdL.nil zv _) rfl (by simp) (by simp) (by simp) ?_
     intro v1 w1 hown1 hg1 _
     have hb1:Below w.heap.size w w1:=Below.appL (by repeat (first|with_reducible exact Below.refl _ _|with_reducible apply Below.ofAlloc)) hg1 (OwnL.empty zv _ w)
     go_wp2_with (at_builtin;refine zy ?_)
     refine zF rfl _ _ _ rfl zz (hown1.alloc _) rfl (RdL.one zv w1 x _ rfl _) rfl (by simp) (by simp;decide) (by have:=hb1.size;simp;omega) ?_
     intro v2 w2 hown2 hg2 _
     have hb2:Below w.heap.size w w2:=Below.appL (Below.ofAlloc hb1 _) hg2 (hown1.alloc _)
     clear hg1 hg2
     go_wp2_with (at_builtin;refine zy ?_)
     refine zF rfl _ _ _ rfl zz hown2 rfl (RdL.nil zv _) rfl (by simp) (by simp;decide) hb2.size ?_
     intro v3 w3 hown3 hg3 _
     have hb3:Below w.heap.size w w3:=Below.appL hb2 hg3 hown2
     go_wp2
     go_ret
     refine ⟨v3,rfl,zhb hown3.rd ?_,hb3⟩
     rw [H.out]
     simp
    ·have S1:=zjv HS.out (zaw xs x) cap hp (by omega) HM.out
     have hlk:(xs.take (zaw xs x)).length=zaw xs x:=by simp;omega
     have HP:=Hd hlk
     clear hlk
     generalize zaw xs x=k at *
     have hkc:k<=cap:=by have:=HE.out;omega
     go_wp2_with (at_builtin;refine zy ?_)
     refine zF rfl _ _ _ rfl zz (OwnL.empty zv _ w) rfl (S1.alloc _) rfl (by rw [HP.out];simp;omega) (by rw [HP.out];unfold maxLen;simp;omega) (by simp) ?_
     intro v1 w1 hown1 hg1 _
     have hb1:Below w.heap.size w w1:=Below.appL (by repeat (first|with_reducible exact Below.refl _ _|with_reducible apply Below.ofAlloc)) hg1 (OwnL.empty zv _ w)
     go_wp2_with (at_builtin;refine zy ?_)
     refine zF rfl _ _ _ rfl zz (hown1.alloc _) rfl (RdL.one zv w1 x _ rfl _) rfl (by simp only [List.nil_append,HP.out,List.length_singleton];omega) (by simp only [List.nil_append,HP.out,List.length_singleton];unfold maxLen;omega) (by have:=hb1.size;simp;omega) ?_
     intro v2 w2 hown2 hg2 _
     have hb2:Below w.heap.size w w2:=Below.appL (Below.ofAlloc hb1 _) hg2 (hown1.alloc _)
     clear hg1 hg2
     go_wp2_with (at_builtin;refine zy ?_)
     all_goals
      refine zF rfl _ _ _ rfl zz hown2 rfl (RdL.zero zv w2 _ _ _ (by have:=HM.out;omega)) rfl (by simp only [List.nil_append,List.length_append,HP.out,List.length_singleton,List.length_nil];omega) (by simp only [List.nil_append,List.length_append,HP.out,List.length_singleton,List.length_nil];unfold maxLen;omega) hb2.size ?_
      intro v3 w3 hown3 hg3 _
      have hb3:Below w.heap.size w w3:=Below.appL hb2 hg3 hown2
      go_wp2
      go_ret
      refine ⟨v3,rfl,zhb hown3.rd ?_,hb3⟩
      rw [H.out,HE.out]
      simp
def zau (a b:ByteArray):Bool:=decide (b.size<=a.size) && ((a.extract 0 b.size).toList==b.toList)
def zbE (a:ByteArray):Bool:=decide (1<=a.size) && ((a.extract (a.size - 1) a.size).toList == [42])
def zar (a:ByteArray):ByteArray:=if zbE a then a.extract 0 (a.size - 1) else a
def zdC (s k:ByteArray):Bool:=if zbE s then zau k (zar s) else (s.toList==k.toList)
def zao (a b:ByteArray):Bool:=if zbE a then (if zbE b then zau (zar a) (zar b) || zau (zar b) (zar a) else zau b (zar a)) else zdC b a
theorem zdn (a b:ByteArray):zao a b=zao b a:=by
 unfold zao zdC
 cases zbE a<;>cases zbE b<;>simp [Bool.or_comm,Bool.beq_comm]
theorem zaS (a:ByteArray):(zar a).size<=a.size:=by
 unfold zar
 split
 ·rw [ByteArray.size_extract];omega
 ·exact Nat.le_refl _
theorem zgq (a b:ByteArray) (w:World) (ha:a.size<=9223372036854775807) (hb:b.size<=9223372036854775807):Calls Tryz.prog 198 #[.string a,.string b] w fun e w'=>e=.returned (.bool (zau a b))/\w=w':=by
 by_cases h:b.size<=a.size
 ·have h':(b.size:Int)<=a.size:=by omega
  go_enter Tryz.func198,Tryz.ntmps198
  go_wp2
  go_ret
  exact ⟨by simp [zau,h],rfl⟩
 ·have h':¬ (b.size:Int)<=a.size:=by omega
  go_enter Tryz.func198,Tryz.ntmps198
  go_wp2
  go_ret
  exact ⟨by simp [zau,h],rfl⟩
theorem zdq (a b:ByteArray) (w:World) (ha:a.size<=9223372036854775807) (hb:b.size<=9223372036854775807):Calls Tryz.prog 170 #[.string a,.string b] w fun e w'=>e=.returned (.bool (zau a b))/\w=w':=by
 by_cases h:b.size<=a.size
 ·have h':(b.size:Int)<=a.size:=by omega
  go_enter Tryz.func170,Tryz.ntmps170
  go_wp2
  go_ret
  exact ⟨by simp [zau,h],rfl⟩
 ·have h':¬ (b.size:Int)<=a.size:=by omega
  go_enter Tryz.func170,Tryz.ntmps170
  go_wp2
  go_ret
  exact ⟨by simp [zau,h],rfl⟩
theorem zaD (a b:ByteArray) (w:World) (ha:a.size<=9223372036854775807) (hb:b.size<=9223372036854775807):Calls Tryz.prog 127 #[.string a,.string b] w fun e w'=>e=.returned (.bool (zau a b))/\w=w':=by
 go_enter Tryz.func127,Tryz.ntmps127
 go_wp2_with fail
 (go_at_call 170;refine (zdq a b _ ha hb).mono ?_;rintro e w' ⟨rfl,rfl⟩)
 go_wp2
 go_ret
 exact ⟨rfl,rfl⟩
theorem zdp (a:ByteArray) (w:World) (ha:a.size<=9223372036854775807):Calls Tryz.prog 167 #[.string a,.string ⟨#[42]⟩] w fun e w'=>e=.returned (.bool (zbE a))/\w=w':=by
 by_cases h : 1<=a.size
 ·have h':(1:Int)<=a.size:=by omega
  go_enter Tryz.func167,Tryz.ntmps167
  go_wp2
  go_ret
  exact ⟨by simp [zbE,h],rfl⟩
 ·have h':¬ (1:Int)<=a.size:=by omega
  go_enter Tryz.func167,Tryz.ntmps167
  go_wp2
  go_ret
  exact ⟨by simp [zbE,h],rfl⟩
theorem zgt (a:ByteArray) (w:World) (ha:a.size<=9223372036854775807):Calls Tryz.prog 123 #[.string a,.string ⟨#[42]⟩] w fun e w'=>e=.returned (.tuple #[.string (zar a),.bool (zbE a)])/\w=w':=by
 cases ho:zbE a with
 | true =>
  have h1 : 1<=a.size:=by
   unfold zbE at ho
   simp at ho
   exact ho.1
  have h2:(1:Int)<=a.size:=by omega
  go_enter Tryz.func123,Tryz.ntmps123
  go_wp2_with fail
  (go_at_call 167;refine (zdp a _ ha).mono ?_;rintro e w' ⟨rfl,rfl⟩)
  rw [ho]
  go_wp2
  refine bodyPost_ret (by simp [results,Tryz.results123,go_sem];rfl) rfl ?_
  exact ⟨by simp [zar,ho],rfl⟩
 | false =>
  go_enter Tryz.func123,Tryz.ntmps123
  go_wp2_with fail
  (go_at_call 167;refine (zdp a _ ha).mono ?_;rintro e w' ⟨rfl,rfl⟩)
  rw [ho]
  go_wp2
  refine bodyPost_ret (by simp [results,Tryz.results123,go_sem];rfl) rfl ?_
  exact ⟨by simp [zar,ho],rfl⟩
theorem zL (a:ByteArray) (w:World) (ha:a.size<=9223372036854775807):Calls Tryz.prog 84 #[.string a,.string ⟨#[42]⟩] w fun e w'=>e=.returned (.tuple #[.string (zar a),.bool (zbE a)])/\w=w':=by
 go_enter Tryz.func84,Tryz.ntmps84
 go_wp2_with fail
 (go_at_call 123;refine (zgt a _ ha).mono ?_;rintro e w' ⟨rfl,rfl⟩)
 go_wp2
 refine bodyPost_ret (by simp [results,Tryz.results84,go_sem];rfl) rfl ?_
 exact ⟨rfl,rfl⟩
theorem zcZ (s k:ByteArray) (w:World) (hs:s.size<=9223372036854775807) (hk:k.size<=9223372036854775807):Calls Tryz.prog 128 #[.string s,.string k] w fun e w'=>e=.returned (.bool (zdC s k))/\w=w':=by
 cases ho:zbE s with
 | true =>
  go_enter Tryz.func128,Tryz.ntmps128
  go_wp2_with fail
  (go_at_call 84;refine (zL s _ hs).mono ?_;rintro e w' ⟨rfl,rfl⟩)
  rw [ho]
  go_wp2_with fail
  (go_at_call 127;refine (zaD k (zar s) _ hk (Nat.le_trans (zaS s) hs)).mono ?_;rintro e w' ⟨rfl,rfl⟩)
  go_wp2
  go_ret
  exact ⟨by simp [zdC,ho],rfl⟩
 | false =>
  have hp:zar s=s:=by unfold zar;rw [ho];rfl
  go_enter Tryz.func128,Tryz.ntmps128
  go_wp2_with fail
  (go_at_call 84;refine (zL s _ hs).mono ?_;rintro e w' ⟨rfl,rfl⟩)
  rw [ho]
  go_wp2
  go_ret
  exact ⟨by simp [zdC,ho],rfl⟩
theorem zgz (a b:ByteArray) (w:World) (ha:a.size<=9223372036854775807) (hb:b.size<=9223372036854775807):Calls Tryz.prog 90 #[.string a,.string b] w fun e w'=>e=.returned (.bool (zao a b))/\w=w':=by
 have hm:zao a b=zao a b:=rfl
 conv at hm=>rhs;unfold zao
 rcases hoa:zbE a with _|_<;>rcases hob:zbE b with _|_<;>simp only [hoa,hob,if_true,if_false,Bool.false_eq_true] at hm
 ·go_enter Tryz.func90,Tryz.ntmps90
  go_wp2_with fail
  (go_at_call 84;refine (zL a _ ha).mono ?_;rintro e w' ⟨rfl,rfl⟩)
  rw [hoa]
  go_wp2_with fail
  (go_at_call 84;refine (zL b _ hb).mono ?_;rintro e w' ⟨rfl,rfl⟩)
  rw [hob]
  go_wp2_with fail
  (go_at_call 128;refine (zcZ b a _ hb ha).mono ?_;rintro e w' ⟨rfl,rfl⟩)
  go_wp2
  go_ret
  exact ⟨by rw [hm];rfl,rfl⟩
 ·go_enter Tryz.func90,Tryz.ntmps90
  go_wp2_with fail
  (go_at_call 84;refine (zL a _ ha).mono ?_;rintro e w' ⟨rfl,rfl⟩)
  rw [hoa]
  go_wp2_with fail
  (go_at_call 84;refine (zL b _ hb).mono ?_;rintro e w' ⟨rfl,rfl⟩)
  rw [hob]
  go_wp2_with fail
  (go_at_call 128;refine (zcZ b a _ hb ha).mono ?_;rintro e w' ⟨rfl,rfl⟩)
  go_wp2
  go_ret
  exact ⟨by rw [hm];rfl,rfl⟩
 ·go_enter Tryz.func90,Tryz.ntmps90
  go_wp2_with fail
  (go_at_call 84;refine (zL a _ ha).mono ?_;rintro e w' ⟨rfl,rfl⟩)
  rw [hoa]
  go_wp2_with fail
  (go_at_call 84;refine (zL b _ hb).mono ?_;rintro e w' ⟨rfl,rfl⟩)
  rw [hob]
  go_wp2_with fail
  have hsh:zdC a b=zau b (zar a):=by unfold zdC;rw [hoa];rfl
  (go_at_call 128;refine (zcZ a b _ ha hb).mono ?_;rintro e w' ⟨rfl,rfl⟩)
  rw [hsh]
  go_wp2
  go_ret
  exact ⟨by rw [hm];rfl,rfl⟩
 ·cases hbg:zau (zar a) (zar b) with
  | true =>
   go_enter Tryz.func90,Tryz.ntmps90
   go_wp2_with fail
   (go_at_call 84;refine (zL a _ ha).mono ?_;rintro e w' ⟨rfl,rfl⟩)
   rw [hoa]
   go_wp2_with fail
   (go_at_call 84;refine (zL b _ hb).mono ?_;rintro e w' ⟨rfl,rfl⟩)
   rw [hob]
   go_wp2_with fail
   (go_at_call 127;refine (zaD (zar a) (zar b) _ (Nat.le_trans (zaS a) ha) (Nat.le_trans (zaS b) hb)).mono ?_;rintro e w' ⟨rfl,rfl⟩)
   rw [hbg]
   go_wp2
   go_ret
   exact ⟨by rw [hm,hbg];rfl,rfl⟩
  | false =>
   go_enter Tryz.func90,Tryz.ntmps90
   go_wp2_with fail
   (go_at_call 84;refine (zL a _ ha).mono ?_;rintro e w' ⟨rfl,rfl⟩)
   rw [hoa]
   go_wp2_with fail
   (go_at_call 84;refine (zL b _ hb).mono ?_;rintro e w' ⟨rfl,rfl⟩)
   rw [hob]
   go_wp2_with fail
   (go_at_call 127;refine (zaD (zar a) (zar b) _ (Nat.le_trans (zaS a) ha) (Nat.le_trans (zaS b) hb)).mono ?_;rintro e w' ⟨rfl,rfl⟩)
   rw [hbg]
   go_wp2_with fail
   (go_at_call 127;refine (zaD (zar b) (zar a) _ (Nat.le_trans (zaS b) hb) (Nat.le_trans (zaS a) ha)).mono ?_;rintro e w' ⟨rfl,rfl⟩)
   go_wp2
   go_ret
   exact ⟨by rw [hm,hbg,Bool.false_or];rfl,rfl⟩
end Go.Proofs.YtpbcehcmdoncmaaGreatDoor
namespace Go.Proofs.YtpbcehcmdoncmaaGreatDoor
open Go.Lib
def zbp (c:UInt8):List UInt8->List (List UInt8)
 | []=>[[]]
 | b :: l=>if b=c then [] :: zbp c l else match zbp c l with
  | []=>[[b]]
  | x :: xs=>(b :: x) :: xs
theorem zgH (c:UInt8):∀ (a l:List UInt8),c ∉ a->zbp c (a++c :: l)=a :: zbp c l
 | [],l,_=>by
  show zbp c (c :: l) = _
  conv=>lhs;unfold zbp
  rw [if_pos rfl]
 | b :: a,l,h=>by
  have hb:b ≠ c:=fun e=>h (by rw [e];simp)
  have ha:c ∉ a:=fun e=>h (List.mem_cons_of_mem _ e)
  show zbp c (b :: (a++c :: l)) = _
  conv=>lhs;unfold zbp
  rw [if_neg hb,zgH c a l ha]
end Go.Proofs.YtpbcehcmdoncmaaGreatDoor
namespace Go
open Go.ChangeShapes Go.WideShapes Go.ChangeAt Go.RowKit
theorem zP (l:List UInt8):(zG l).length=l.length:=by simp [zG]
theorem zdu (l m:List UInt8):zG (l++m)=zG l++zG m:=by simp [zG]
theorem ziT (l:List UInt8):∀ u ∈ zG l,u.oneCell'=true:=by
 intro u hu
 simp only [zG,List.mem_map] at hu
 obtain ⟨c,_,rfl⟩:=hu
 rfl
theorem zkU (l:List UInt8):l.flatMap zeB.row=zG l:=by
 induction l with
 | nil=>rfl
 | cons c l ih =>
  rw [List.flatMap_cons,ih]
  rfl
def MarkOk (fz:Nat × Nat) (n:Nat):Prop:=fz=(0,0) ∨ n<=fz.1
def OwnB (e:TypeId) (w:World) (B:Nat) (v:Value) (l:List UInt8):Prop :=
 (v=.slice none 0 0/\l = []) ∨
 ∃ g cap cur fz,v=.slice (some ⟨g,0,none⟩) l.length cap/\B<=g/\w.heap[g]?=some (.cells cur e fz)/\MarkOk fz cur.size/\l.length<=cap/\cap<=maxLen/\cur.size=cap/\cur.toList.take l.length=zG l
theorem zb7 (P:Program) (g o:Nat) (t:TypeId) (fz:Nat × Nat):∀ (vs:List Value) (i:Nat) (cur:Array Value) (w:World),w.heap[g]?=some (.cells cur t fz)->MarkOk fz cur.size->o+i+vs.length<=cur.size->(∀ v ∈ vs,v.oneCell'=true) ->
  (storeCells ⟨g,o,none⟩ vs i).run P w=.ok () (w.setRow g (cur.toList.take (o+i)++vs++cur.toList.drop (o+i+vs.length)).toArray)
 | [],i,cur,w,hg,_,_,_=>by
  simp only [storeCells,List.append_nil,List.length_nil,Nat.add_zero,List.take_append_drop,Array.toArray_toList]
  rw [setRow_self w g cur t fz hg]
  rfl
 | v :: rest,i,cur,w,hg,hfz,hl,h1=>by
  have hi:o+i<cur.size:=by simp at hl;omega
  have hadd:(⟨g,o,none⟩ : Addr).add i=⟨g,o+i,none⟩:=by unfold Addr.add;split<;>simp_all
  have hcell:w.cell? ⟨g,o+i,none⟩=some cur[o+i]:=by simp [World.cell?,hg,hi]
  have hfro:w.frozen? ⟨g,o+i,none⟩=false:=by
   rcases hfz with rfl|hfz
   ·simp [World.frozen?,hg]
   ·obtain ⟨lo,hi'⟩:=fz
    simp only [World.frozen?,hg,Bool.and_eq_false_iff,decide_eq_false_iff_not]
    left
    simp only at hfz
    omega
  have hst:(store ((⟨g,o,none⟩ : Addr).add i) v).run P w=.ok () (w.setRow g (cur.setIfInBounds (o+i) v)):=by
   rw [hadd,run_store P w _ v _ (h1 v (by simp)),hcell]
   simp [hfro,setCell_eq_setRow w g (o+i) cur t fz v hg]
  have ih:=zb7 P g o t fz rest (i+1) (cur.setIfInBounds (o+i) v) (w.setRow g (cur.setIfInBounds (o+i) v)) (setRow_heap w g cur _ t _ hg) (by simpa using hfz) (by simp at hl ⊢;omega) (fun x hx=>h1 x (by simp [hx]))
  simp only [storeCells,Sem.run_bind,hst,Result.andThen_ok,ih,setRow_setRow]
  congr 3
  have e:=list_seg_step cur.toList (o+i) v rest (by simp at hl ⊢;omega)
  simpa [Array.toList_setIfInBounds,Nat.add_assoc] using e
section
variable {e:TypeId} {w:World} {B:Nat} {v:Value} {l:List UInt8}
theorem zjw (h:OwnL zeB e w B v l):OwnB e w B v l:=by
 have hf:=zkU l
 rcases h.2 with ⟨hv,hn⟩|⟨g,cap,cur,hv,hb,hg,hnc,hcm,hcs,ht⟩
 ·exact .inl ⟨hv,List.eq_nil_of_length_eq_zero hn⟩
 ·refine .inr ⟨g,cap,cur,(0,0),hv,hb,hg,.inl rfl,hnc,hcm,by simpa [zeB] using hcs,?_⟩
  rw [hf] at ht
  simpa [zeB] using ht
theorem OwnB.empty (e:TypeId) (w:World):OwnB e (w.alloc (.cells #[] e)) w.heap.size (.slice (some ⟨w.heap.size,0,none⟩) 0 0) []:=zjw (OwnL.empty zeB e w)
theorem OwnB.nil (e:TypeId) (w:World) (B:Nat):OwnB e w B (.slice none 0 0) []:=.inl ⟨rfl,rfl⟩
theorem OwnB.lt (h:OwnB e w B v l):∀ k,v.ownBlock=some k->B<=k/\k<w.heap.size:=by
 intro k hk
 rcases h with ⟨rfl,_⟩|⟨g,cap,cur,fz,rfl,hb,hg,_⟩
 ·simp [Value.ownBlock] at hk
 ·simp [Value.ownBlock] at hk
  subst hk
  exact ⟨hb,(Array.getElem?_eq_some_iff.1 hg).1⟩
theorem OwnB.base {B':Nat} (h:OwnB e w B v l) (hb:B'<=B):OwnB e w B' v l:=by
 rcases h with hn|⟨g,cap,cur,fz,hv,h1,rest⟩
 ·exact .inl hn
 ·exact .inr ⟨g,cap,cur,fz,hv,Nat.le_trans hb h1,rest⟩
theorem OwnB.kept {w':World} {row:Option Nat} (h:OwnB e w B v l) (hg:w.grownBy w' row) (hne:v.ownBlock=none ∨ v.ownBlock ≠ row):OwnB e w' B v l:=by
 rcases h with hn|⟨g,cap,cur,fz,rfl,h1,h2,rest⟩
 ·exact .inl hn
 ·refine .inr ⟨g,cap,cur,fz,rfl,h1,?_,rest⟩
  rw [hg.block g (Array.getElem?_eq_some_iff.1 h2).1 (by simpa [Value.ownBlock] using hne)]
  exact h2
theorem OwnB.ext (h:OwnB e w B v l) (X:Ext):OwnB e (w.ext X) B v l:=by
 rcases h with hn|⟨g,cap,cur,fz,rfl,h1,h2,rest⟩
 ·exact .inl hn
 ·exact .inr ⟨g,cap,cur,fz,rfl,h1,(w.ext_get X (Array.getElem?_eq_some_iff.1 h2).1).trans h2,rest⟩
theorem OwnB.same {bs:Array Obj} {d0 dr:Nat} (h:OwnB e (w.ext ⟨bs,d0⟩) B v l):OwnB e (w.ext ⟨bs,dr⟩) B v l:=by
 have:=h.ext ⟨#[],dr⟩
 rwa [zn,Array.append_empty] at this
theorem OwnB.alloc (h:OwnB e w B v l) (o:Obj):OwnB e (w.alloc o) B v l :=
 h.kept (World.grownBy_alloc w o none) (by cases hv:v.ownBlock<;>simp)
theorem OwnB.drew (h:OwnB e w B v l):OwnB e w.drew B v l:=h
theorem OwnB.below {w':World} (h:OwnB e w B v l) (hb:Below w.heap.size w w'):OwnB e w' B v l:=by
 obtain ⟨X,rfl⟩:=hb.ext
 exact h.ext X
theorem OwnB.form (h:OwnB e w B v l):∃ ao cap,v=.slice ao l.length cap:=by
 rcases h with ⟨rfl,rfl⟩|⟨g,cap,cur,fz,rfl,_⟩
 ·exact ⟨none,0,rfl⟩
 ·exact ⟨_,_,rfl⟩
theorem OwnB.sl (h:OwnB e w B v l):Sl w v l.length (zG l):=by
 rcases h with ⟨rfl,rfl⟩|⟨g,cap,cur,fz,rfl,hb,hg,_,hnc,hcm,hcs,ht⟩
 ·exact .inl ⟨rfl,rfl,rfl⟩
 ·refine .inr ⟨g,0,cap,rfl,hnc,hcm,fun j u hj=>?_⟩
  have hl:j<l.length:=by
   have:=(List.getElem?_eq_some_iff.1 hj).1
   rwa [zP] at this
  rw [<- ht,List.getElem?_take,if_pos hl] at hj
  simp only [World.cell?,hg,Nat.zero_add]
  simpa using hj
theorem OwnB.ofString (e:TypeId) (w:World) (s:ByteArray) (hs:s.size<=9223372036854775807):OwnB e (w.alloc (.cells (bytesRow s (grownCap w s.size 0 e)) e ((bytesRow s (grownCap w s.size 0 e)).size,(bytesRow s (grownCap w s.size 0 e)).size+1))) w.heap.size (.slice (some ⟨w.heap.size,0,none⟩) s.size (grownCap w s.size 0 e)) s.data.toList:=by
 have hge:=grownCap_ge w s.size 0 e
 have hle:=grownCap_le_maxLen w s.size 0 e (by unfold maxLen;exact hs)
 have hsz:s.data.toList.length=s.size:=by simp
 generalize grownCap w s.size 0 e=cap at *
 refine .inr ⟨w.heap.size,cap,_,_,by rw [hsz],Nat.le_refl _,heap_alloc_new w _,.inr (Nat.le_refl _),by omega,hle,?_,?_⟩
 ·have h2:s.data.size=s.size:=rfl
  simp only [bytesRow,Array.size_append,Array.size_map,Array.size_replicate,h2]
  omega
 ·unfold bytesRow zG
  rw [Array.toList_append,List.take_append_of_le_length (by simp)]
  rw [List.take_of_length_le (by simp)]
  simp
end
section
variable {P:Program} (w:World)
theorem run_appB (t ty e:TypeId) (i:TypeInfo) (ht:P.underlying t=some (.slice e)) (hi:P.info? e=some i) (hz:i.zero=some (.int .u8 0)) (hsize:i.size=1) (hby:i.bytes=1)
  {B:Nat} {v:Value} {l:List UInt8} (hown:OwnB e w B v l) {x:Value} {m:List UInt8} (hx:Sl w x m.length (zG m))
  (h63:l.length+m.length<=maxLen) (hbytes:l.length+m.length<=140737488355328) (hbase:B<=w.heap.size) :
  ∃ v' w',(Builtin.append_ #[t,t] ty #[v,x]).run P w=.ok v' w'/\OwnB e w' B v' (l++m)/\w.grownBy w' v.ownBlock:=by
 have hsmall:l.length+m.length<=9223372036854775807:=by simp only [maxLen] at h63;omega
 have grown:∀ (old:Nat),old<l.length+m.length->∀ (row:Option Nat),
   OwnB e (w.drew.alloc (.cells ((zG l).toArray++(zG m).toArray++Builtin.zeroCells (Value.int IntKind.u8 0).cells (grownCap w (l.length+m.length) old e - (l.length+m.length))) e)) B
    (.slice (some ⟨w.heap.size,0,none⟩) (l.length+m.length) (grownCap w (l.length+m.length) old e)) (l++m) /\
   w.grownBy (w.drew.alloc (.cells ((zG l).toArray++(zG m).toArray++Builtin.zeroCells (Value.int IntKind.u8 0).cells (grownCap w (l.length+m.length) old e - (l.length+m.length))) e)) row:=by
  intro old ho row
  have hge:=grownCap_ge w (l.length+m.length) old e
  have hcm:grownCap w (l.length+m.length) old e<=maxLen:=grownCap_le_maxLen w (l.length+m.length) old e h63
  refine ⟨.inr ⟨w.heap.size,_,_,(0,0),by rw [List.length_append],hbase,heap_alloc_new w.drew _,.inl rfl,by rw [List.length_append];exact hge,hcm,?_,?_⟩,⟨rfl,rfl,rfl,by simp,fun k hk _=>(World.grownBy_alloc w.drew _ none).block k hk (by simp)⟩⟩
  ·have hz1:(Value.int IntKind.u8 0).cells.size=1:=rfl
   simp only [Array.size_append,List.size_toArray,size_zeroCells,hz1,zP]
   omega
  ·simp only [Array.toList_append]
   rw [zdu,List.take_append_of_le_length (by simp [zP]),List.take_of_length_le (by simp [zP])]
 have hempty:∀ (ao:Option Addr) (n c:Nat),(Builtin.firstCells 1 0 (.slice ao n c)).run P w=.ok #[] w:=by
  intro ao n c
  cases ao with
  | none=>simp [Builtin.firstCells]
  | some a =>
   have:=run_firstCells_some (P:=P) w 1 0 a n c [] rfl (fun j u hj=>by simp at hj)
   simpa using this
 rcases hx with ⟨rfl,hm0,_⟩|⟨bx,ox,cx,rfl,hmc,hcx,hcells⟩
 ·-- nothing to append
  have hm:m = []:=List.eq_nil_of_length_eq_zero hm0
  subst hm
  rcases hown with ⟨rfl,rfl⟩|⟨g,cap,cur,fz,rfl,hbg,hg,hfz,hnc,hcm,hcs,htake⟩
  ·refine ⟨.slice none 0 0,w,?_,by simpa using OwnB.nil e w B,⟨rfl,rfl,rfl,Nat.le_refl _,fun _ _ _=>rfl⟩⟩
   simp [Builtin.append_,run_underlying ht,sizeOf,typeInfo,hi,Builtin.lenOf,Builtin.firstCells,loadCells,loadCellsFrom]
  ·refine ⟨_,w,?_,by rw [List.append_nil];exact .inr ⟨g,cap,cur,fz,rfl,hbg,hg,hfz,hnc,hcm,hcs,htake⟩,⟨rfl,rfl,rfl,Nat.le_refl _,fun _ _ _=>rfl⟩⟩
   simp [Builtin.append_,run_underlying ht,sizeOf,typeInfo,hi,Builtin.lenOf,hnc,Builtin.firstCells,storeCells]
 ·have hnews:∀ j u,(zG m)[j]?=some u->w.cell? ((⟨bx,ox,none⟩ : Addr).add j)=some u:=fun j u hj=>by rw [zdf];exact hcells j u hj
  rcases hown with ⟨rfl,rfl⟩|⟨g,cap,cur,fz,rfl,hbg,hg,hfz,hnc,hcm,hcs,htake⟩
  ·by_cases hm:m.length=0
   ·have hme:m = []:=List.eq_nil_of_length_eq_zero hm
    subst hme
    refine ⟨.slice none 0 0,w,?_,by simpa using OwnB.nil e w B,⟨rfl,rfl,rfl,Nat.le_refl _,fun _ _ _=>rfl⟩⟩
    simp [Builtin.append_,run_underlying ht,sizeOf,typeInfo,hi,hsize,Builtin.lenOf,hempty,loadCells,loadCellsFrom]
   ·have hr:=run_append_nil (P:=P) w t ty e i _ ht hi hz ⟨bx,ox,none⟩ m.length cx (zG m) (by rw [zP,hsize,Nat.mul_one]) hnews (by omega) (by simp at hsmall;omega) (by rw [hby];simp at hbytes;omega)
    have hgr:=grown 0 (by simp;omega) (Value.ownBlock (.slice none 0 0))
    simp only [List.length_nil,Nat.zero_add,List.nil_append] at hgr ⊢
    refine ⟨_,_,hr,?_,?_⟩
    ·simpa [zG] using hgr.1
    ·simpa [zG] using hgr.2
  ·by_cases hroom:l.length+m.length<=cap
   ·have hf:=run_firstCells_some (P:=P) w i.size m.length ⟨bx,ox,none⟩ m.length cx (zG m) (by rw [zP,hsize,Nat.mul_one]) hnews
    have hst:=zb7 P g l.length e fz (zG m) 0 cur w hg hfz (by rw [zP];omega) (ziT m)
    simp only [Nat.add_zero,zP] at hst
    refine ⟨.slice (some ⟨g,0,none⟩) (l.length+m.length) cap,w.setRow g (cur.toList.take l.length++zG m++cur.toList.drop (l.length+m.length)).toArray,?_,.inr ⟨g,cap,_,fz,by rw [List.length_append],hbg,setRow_heap w g cur _ e _ hg,?_,by rw [List.length_append];exact hroom,hcm,?_,?_⟩,⟨rfl,rfl,rfl,by simp,fun k _ hk=>setRow_other w g k _ (fun e=>hk (by simp [Value.ownBlock,e]))⟩⟩
    ·rw [hsize] at hf
     simp [Builtin.append_,run_underlying ht,sizeOf,typeInfo,hi,hsize,Builtin.lenOf,hroom,hf,Addr.add_lit,hst]
    ·have hsz:(cur.toList.take l.length++zG m++cur.toList.drop (l.length+m.length)).toArray.size=cur.size:=by
      simp only [List.size_toArray,List.length_append,List.length_take,List.length_drop,Array.length_toList,zP]
      omega
     rw [hsz]
     exact hfz
    ·simp only [List.size_toArray,List.length_append,List.length_take,List.length_drop,Array.length_toList,zP]
     omega
    ·rw [htake,zdu,List.take_append_of_le_length (by simp [zP]),List.take_of_length_le (by simp [zP])]
   ·have holds:∀ j u,(zG l)[j]?=some u->w.cell? ((⟨g,0,none⟩ : Addr).add j)=some u:=by
     intro j u hj
     rw [zdf]
     have hl:j<l.length:=by
      have:=(List.getElem?_eq_some_iff.1 hj).1
      rwa [zP] at this
     rw [<- htake,List.getElem?_take,if_pos hl] at hj
     simp only [World.cell?,hg,Nat.zero_add]
     simpa using hj
    have hr:=run_append_grow (P:=P) w t ty e i _ ht hi hz ⟨g,0,none⟩ l.length cap (zG l) (by rw [zP,hsize,Nat.mul_one]) holds ⟨bx,ox,none⟩ m.length cx (zG m) (by rw [zP,hsize,Nat.mul_one]) hnews (by omega) (by omega) (by rw [hby];exact growslice_fits (by omega) (by omega))
    have hgr:=grown cap (by omega) (Value.ownBlock (.slice (some ⟨g,0,none⟩) l.length cap))
    exact ⟨_,_,hr,hgr.1,hgr.2⟩
structure ByteT (P:Program) (t e:TypeId):Prop where
 sl:P.underlying t=some (.slice e)
 el:P.underlying e=some (.int .u8)
 inf:∃ i:TypeInfo,P.info? e=some i/\i.zero=some (.int .u8 0)/\i.size=1/\i.bytes=1
theorem ByteT.of {t e:TypeId} (h1:P.underlying t=some (.slice e)) (h2:P.underlying e=some (.int .u8)) (h:(P.info? e).map (fun i=>(i.zero,i.size,i.bytes))=some (some (.int .u8 0),1,1)):ByteT P t e:=by
 refine ⟨h1,h2,?_⟩
 cases hi:P.info? e with
 | none=>rw [hi] at h;simp at h
 | some i =>
  rw [hi] at h
  simp at h
  exact ⟨i,rfl,h.1,h.2.1,h.2.2⟩
theorem zj7 {t e:TypeId} (E:ByteT P t e) {o:Oper} {a:Act} {K:Act->World->Prop} {Q:Exit->Act->World->Prop} (s x:Operand)
  (ho:o.op=.call { callee:=.builtin .append,args:=#[s,x],argTypes:=#[t,t] })
  {B:Nat} {v:Value} {l:List UInt8} (hown:OwnB e w B v l) (hs:a.eval s=v)
  {vx:Value} {m:List UInt8} (hx:Sl w vx m.length (zG m)) (hvx:a.eval x=vx) (hb:l.length+m.length<=140737488355328) (hbase:B<=w.heap.size)
  (h:∀ v' w',OwnB e w' B v' (l++m)->w.grownBy w' v.ownBlock->K (a.put o.dst v') w'):o.wp P a w K Q:=by
 obtain ⟨i,h1,h2,h3,h4⟩:=E.inf
 obtain ⟨v',w',hr,h5,h6⟩:=run_appB (P:=P) w t o.type e i E.sl h1 h2 h3 h4 hown hx (by unfold maxLen;omega) hb hbase
 unfold Oper.wp execOp
 simp only [ho,resolve,invoke,builtin,Sem.run_bind,Sem.run_pure,Result.andThen_ok,List.map_toArray,List.map_cons,List.map_nil,hs,hvx,hr]
 exact h v' w' h5 h6
theorem zcv {t e:TypeId} (E:ByteT P t e) {ops:Array Oper} {rest:List Oper} {o:Oper} {a:Act} {Q:Exit->Act->World->Prop} (hgd:o.guard=none) (s x:Operand)
  (ho:o.op=.call { callee:=.builtin .append,args:=#[s,x],argTypes:=#[t,t] })
  {B:Nat} {v:Value} {l:List UInt8} (hown:OwnB e w B v l) (hs:a.eval s=v)
  {vx:Value} {m:List UInt8} (hx:Sl w vx m.length (zG m)) (hvx:a.eval x=vx) (hb:l.length+m.length<=140737488355328) (hbase:B<=w.heap.size)
  (h:∀ v' w',OwnB e w' B v' (l++m)->w.grownBy w' v.ownBlock->wpList P ops Q rest (a.put o.dst v') w'):wpList P ops Q (o :: rest) a w :=
 wpList_plain hgd fun _ hK=>zj7 w E s x ho hown hs hx hvx hb hbase (fun v' w' a1 a2=>hK _ _ (h v' w' a1 a2))
theorem zaq {t u e:TypeId} (E:ByteT P t e) (hu:P.underlying u=some .string) {v:Value} {l:List UInt8} (h:Sl w v l.length (zG l)) :
  (convert t u v).run P w=.ok (.string ⟨l.toArray⟩) w:=by
 rcases h with ⟨rfl,hn,_⟩|⟨b,off,cap,rfl,_,_,hc⟩
 ·have:l = []:=List.eq_nil_of_length_eq_zero hn
  subst this
  exact run_convert_bytes_nil w t e E.sl E.el 0 0 u hu
 ·refine run_convert_bytes_back w t u e ⟨b,off,none⟩ cap l E.sl E.el hu (fun j hj=>?_)
  rw [zdf]
  refine hc j _ ?_
  unfold zG
  rw [List.getElem?_map,List.getElem?_eq_getElem hj]
  rfl
end
theorem RowKit.Below.appB {a w w':World} {v:Value} {e:TypeId} {l:List UInt8} (h:Below a.heap.size a w) (hg:w.grownBy w' v.ownBlock) (ho:OwnB e w a.heap.size v l):Below a.heap.size a w':=by
 refine ⟨hg.os.trans h.os,hg.tape.trans h.tape,hg.output.trans h.output,Nat.le_trans h.size hg.size,fun k hk=>?_⟩
 rw [hg.block k (Nat.lt_of_lt_of_le hk h.size) (fun e=>by have:=ho.lt k e.symm;omega)]
 exact h.block k hk
end Go
