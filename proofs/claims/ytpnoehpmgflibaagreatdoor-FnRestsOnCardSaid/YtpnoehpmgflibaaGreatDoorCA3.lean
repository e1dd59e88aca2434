/- Texts of this claim, merged: the walks and what they stand on. Each condition stands in its theorem. -/
import Derived.Lib.CountLaws
import Derived.Lib.Split
import Derived.Lib.SplitLaws
import Derived.Test.YtpnoehpmgflibaaGreatDoorCA2
set_option linter.unusedVariables false
set_option linter.unusedSimpArgs false
set_option maxRecDepth 100000
set_option maxHeartbeats 8000000
namespace Go.Proofs.YtpnoehpmgflibaaGreatDoor
open Go.ChangeShapes Go.WideShapes Go.ChangeAt Go.RowKit
theorem zeU (c:CellD) (key:ByteArray) (b:Nat) (w:World) (hb:b<w.heap.size) (hc:w.cell? ⟨b,0,none⟩=some (.string key)) :
  Calls Tryz.prog 108 #[.agg #[.string c.key,.string c.val],.pointer (some ⟨b,0,none⟩)] w fun e w'=>e=.returned (.bool (z6 key c))/\Below w.heap.size w w':=by
 have h:z6 key c=(c.key.toList==key.toList):=rfl
 rw [h]
 clear h
 go_enter Tryz.func108,Tryz.ntmps108
 go_wp2
 go_ret
 exact ⟨rfl,(by repeat (first|with_reducible exact Below.refl _ _|with_reducible apply Below.ofAlloc))⟩
theorem zjl (c:CellD) (key:ByteArray) (b:Nat) (w:World) (hb:b<w.heap.size) (hc:w.cell? ⟨b,0,none⟩=some (.string key)) :
  Calls Tryz.prog 110 #[.agg #[.string c.key,.string c.val],.pointer (some ⟨b,0,none⟩)] w fun e w'=>e=.returned (.bool (zaa key c))/\Below w.heap.size w w':=by
 cases hg:zaa key c with
 | true =>
  have hik:=zdu hg
  have hle:=zl7 hg
  have hke:(c.key.toList==key.toList)=false:=hik
  have hge:Op.bytesLess key.toList c.key.toList=true:=hg
  go_enter Tryz.func110,Tryz.ntmps110
  go_wp2
  go_ret
  exact ⟨rfl,(by repeat (first|with_reducible exact Below.refl _ _|with_reducible apply Below.ofExt|with_reducible apply Below.ofAlloc|with_reducible apply Below.drew|with_reducible apply Below.ofDrewN|with_reducible assumption|(with_reducible refine Below.setCell ?_ (by first|exact Nat.le_refl _|(simp [go_sem];done)|(simp [go_sem];omega)) _)))⟩
 | false =>
  have hge:Op.bytesLess key.toList c.key.toList=false:=hg
  cases hik:z6 key c with
  | true =>
   have hle:=zi9 hik
   have hke:(c.key.toList==key.toList)=true:=hik
   go_enter Tryz.func110,Tryz.ntmps110
   go_wp2
   go_ret
   exact ⟨rfl,(by repeat (first|with_reducible exact Below.refl _ _|with_reducible apply Below.ofExt|with_reducible apply Below.ofAlloc|with_reducible apply Below.drew|with_reducible apply Below.ofDrewN|with_reducible assumption|(with_reducible refine Below.setCell ?_ (by first|exact Nat.le_refl _|(simp [go_sem];done)|(simp [go_sem];omega)) _)))⟩
  | false =>
   have hle:=zhI hg hik
   have hke:(c.key.toList==key.toList)=false:=hik
   go_enter Tryz.func110,Tryz.ntmps110
   go_wp2
   go_ret
   exact ⟨rfl,(by repeat (first|with_reducible exact Below.refl _ _|with_reducible apply Below.ofAlloc))⟩
theorem zdb (v:Value) (ds:List CellD) (key:ByteArray) (b0:Nat) (w:World) (hs:RdL zu w v ds) (hb0:b0<w.heap.size) (hc0:w.cell? ⟨b0,0,none⟩=some (.string key)) :
  Calls Tryz.prog 109 #[v,.func (Fn.func 108) #[] #[.pointer (some ⟨b0,0,none⟩)]] w fun e w'=>e=.returned (.int .i64 (zaw (z6 key) ds))/\Below w.heap.size w w':=by
 obtain ⟨ao,cap,rfl,hc1,hc2,hnil,hne⟩:=hs.shape
 have HX:=Hd hne
 have HC:=Hd hc0
 clear hs hne hnil hc0
 unfold maxLen at hc2
 go_enter Tryz.func109,Tryz.ntmps109
 go_wp2
 go_loopw [8] (fun k wr=>∃ (n:Nat),k=.int .i64 n/\n<=ds.length/\Below w.heap.size w wr/\(ds.take n).any (z6 key)=false) (fun k _=>ds.length - (intOf k).toNat)
 case atStart=>exact ⟨0,rfl,by omega,(by repeat (with_reducible exact Below.refl _ _)),rfl⟩
 case round =>
  obtain ⟨n,rfl,hn,hbel,hany⟩:=hrel
  obtain ⟨X,rfl⟩:=hbel.ext
  have HA:=Hd hany
  clear hany
  by_cases hlt:(n:Int)<ds.length
  ·have hk:n<ds.length:=by omega
   obtain ⟨b,off,rfl,hbl,hcell⟩:=HX.out (by intro e;simp [e] at hk)
   have hc:=hcell n hk
   have hst:=zax (z6 key) ds n hk
   have hff:(ds.take n).any (z6 key)=false->z6 key ds[n]=true->zaw (z6 key) ds=n:=fun h h2=>zaE (z6 key) ds n hk h h2
   generalize ds[n]=d at hc hst hff
   have y0:w.cell? ⟨b,off+n*2,none⟩=some (.string d.key):=hc 0 _ rfl
   have y1:w.cell? ⟨b,off+n*2+1,none⟩=some (.string d.val):=hc 1 _ rfl
   clear hc hcell
   have hbl:=hbl (by decide)
   have HT:=Hd hst
   have HF:=Hd hff
   clear hst hff
   cases hm:z6 key d with
   | true =>
    have HM:=Hd hm
    clear hm
    go_wp2_with fail
    (go_at_call 108;refine (zeU d key b0 _ (by simp [go_sem];try omega) (by repeat (first|exact HC.out|refine Grew.cell (Grew.ext _ _) ?_))).mono ?_;rintro e w' ⟨rfl,hb⟩;obtain ⟨X,rfl⟩:=hb.ext;clear hb)
    rw [HM.out]
    go_wp2
    go_ret
    exact ⟨by rw [HF.out HA.out HM.out];rfl,(by repeat (first|with_reducible exact Below.refl _ _|with_reducible apply Below.ofExt|with_reducible apply Below.ofAlloc|with_reducible apply Below.drew|with_reducible apply Below.ofDrewN|with_reducible assumption|(with_reducible refine Below.setCell ?_ (by first|exact Nat.le_refl _|(simp [go_sem];done)|(simp [go_sem];omega)) _)))⟩
   | false =>
    have HM:=Hd hm
    clear hm
    go_wp2_with fail
    (go_at_call 108;refine (zeU d key b0 _ (by simp [go_sem];try omega) (by repeat (first|exact HC.out|refine Grew.cell (Grew.ext _ _) ?_))).mono ?_;rintro e w' ⟨rfl,hb⟩;obtain ⟨X,rfl⟩:=hb.ext;clear hb)
    rw [HM.out]
    go_wp2
    go_roundw
    case rel=>exact ⟨n+1,by go_num,by omega,(by repeat (first|with_reducible exact Below.refl _ _|with_reducible apply Below.ofExt)),by rw [HT.out,HA.out,HM.out];rfl⟩
    case measure=>simp [intOf];omega
  ·go_wp2
   go_ret
   have e:n=ds.length:=by omega
   subst e
   have ha:=HA.out
   rw [List.take_length] at ha
   exact ⟨by rw [zaI (z6 key) ds ha];rfl,(by repeat (first|with_reducible exact Below.refl _ _|with_reducible apply Below.ofExt))⟩
theorem zda (v:Value) (ds:List CellD) (key:ByteArray) (b0:Nat) (w:World) (hs:RdL zu w v ds) (hb0:b0<w.heap.size) (hc0:w.cell? ⟨b0,0,none⟩=some (.string key)) :
  Calls Tryz.prog 109 #[v,.func (Fn.func 110) #[] #[.pointer (some ⟨b0,0,none⟩)]] w fun e w'=>e=.returned (.int .i64 (zaw (zaa key) ds))/\Below w.heap.size w w':=by
 obtain ⟨ao,cap,rfl,hc1,hc2,hnil,hne⟩:=hs.shape
 have HX:=Hd hne
 have HC:=Hd hc0
 clear hs hne hnil hc0
 unfold maxLen at hc2
 go_enter Tryz.func109,Tryz.ntmps109
 go_wp2
 go_loopw [8] (fun k wr=>∃ (n:Nat),k=.int .i64 n/\n<=ds.length/\Below w.heap.size w wr/\(ds.take n).any (zaa key)=false) (fun k _=>ds.length - (intOf k).toNat)
 case atStart=>exact ⟨0,rfl,by omega,(by repeat (with_reducible exact Below.refl _ _)),rfl⟩
 case round =>
  obtain ⟨n,rfl,hn,hbel,hany⟩:=hrel
  obtain ⟨X,rfl⟩:=hbel.ext
  have HA:=Hd hany
  clear hany
  by_cases hlt:(n:Int)<ds.length
  ·have hk:n<ds.length:=by omega
   obtain ⟨b,off,rfl,hbl,hcell⟩:=HX.out (by intro e;simp [e] at hk)
   have hc:=hcell n hk
   have hst:=zax (zaa key) ds n hk
   have hff:(ds.take n).any (zaa key)=false->zaa key ds[n]=true->zaw (zaa key) ds=n:=fun h h2=>zaE (zaa key) ds n hk h h2
   generalize ds[n]=d at hc hst hff
   have y0:w.cell? ⟨b,off+n*2,none⟩=some (.string d.key):=hc 0 _ rfl
   have y1:w.cell? ⟨b,off+n*2+1,none⟩=some (.string d.val):=hc 1 _ rfl
   clear hc hcell
   have hbl:=hbl (by decide)
   have HT:=Hd hst
   have HF:=Hd hff
   clear hst hff
   cases hm:zaa key d with
   | true =>
    have HM:=Hd hm
    clear hm
    go_wp2_with fail
    (go_at_call 110;refine (zjl d key b0 _ (by simp [go_sem];try omega) (by repeat (first|exact HC.out|refine Grew.cell (Grew.ext _ _) ?_))).mono ?_;rintro e w' ⟨rfl,hb⟩;obtain ⟨X,rfl⟩:=hb.ext;clear hb)
    rw [HM.out]
    go_wp2
    go_ret
    exact ⟨by rw [HF.out HA.out HM.out];rfl,(by repeat (first|with_reducible exact Below.refl _ _|with_reducible apply Below.ofExt|with_reducible apply Below.ofAlloc|with_reducible apply Below.drew|with_reducible apply Below.ofDrewN|with_reducible assumption|(with_reducible refine Below.setCell ?_ (by first|exact Nat.le_refl _|(simp [go_sem];done)|(simp [go_sem];omega)) _)))⟩
   | false =>
    have HM:=Hd hm
    clear hm
    go_wp2_with fail
    (go_at_call 110;refine (zjl d key b0 _ (by simp [go_sem];try omega) (by repeat (first|exact HC.out|refine Grew.cell (Grew.ext _ _) ?_))).mono ?_;rintro e w' ⟨rfl,hb⟩;obtain ⟨X,rfl⟩:=hb.ext;clear hb)
    rw [HM.out]
    go_wp2
    go_roundw
    case rel=>exact ⟨n+1,by go_num,by omega,(by repeat (first|with_reducible exact Below.refl _ _|with_reducible apply Below.ofExt)),by rw [HT.out,HA.out,HM.out];rfl⟩
    case measure=>simp [intOf];omega
  ·go_wp2
   go_ret
   have e:n=ds.length:=by omega
   subst e
   have ha:=HA.out
   rw [List.take_length] at ha
   exact ⟨by rw [zaI (zaa key) ds ha];rfl,(by repeat (first|with_reducible exact Below.refl _ _|with_reducible apply Below.ofExt))⟩
theorem zhQ {α : Type} (p : α->Bool):∀ xs:List α,xs.any p=true->∃ n,∃ h:n<xs.length,(xs.take n).any p=false/\p xs[n]=true
 | [],h=>by cases h
 | x :: xs,h=>by
  cases hp:p x with
  | true=>exact ⟨0,by simp,rfl,hp⟩
  | false =>
   rw [List.any_cons,hp,Bool.false_or] at h
   obtain ⟨n,hn,h1,h2⟩:=zhQ p xs h
   exact ⟨n+1,by simpa using hn,by rw [List.take_succ_cons,List.any_cons,hp,h1];rfl,by simpa using h2⟩
def zbm (key:ByteArray) (xs:List CellD):ByteArray:=match xs.find? (z6 key) with
 | some c=>c.val
 | none=>⟨#[]⟩
theorem zgW (key:ByteArray) (xs:List CellD) (h:xs.any (z6 key)=false):zbm key xs=⟨#[]⟩:=by
 unfold zbm
 rw [List.find?_eq_none.2 (fun x hx=>by rw [List.any_eq_false] at h;exact h x hx)]
theorem zmn (key:ByteArray) (xs:List CellD) (n:Nat) (hn:n<xs.length) (h:(xs.take n).any (z6 key)=false) (h2:z6 key xs[n]=true):zbm key xs=xs[n].val:=by
 unfold zbm
 have e:xs=xs.take n++xs[n] :: xs.drop (n+1):=by rw [<- List.drop_eq_getElem_cons hn,List.take_append_drop]
 have hf:xs.find? (z6 key)=some xs[n]:=by
  conv=>lhs;rw [e]
  rw [List.find?_append,List.find?_eq_none.2 (fun x hx=>by rw [List.any_eq_false] at h;exact h x hx),List.find?_cons_of_pos h2]
  rfl
 rw [hf]
theorem zfP (c:CellD) (key:ByteArray) (b:Nat) (w:World) (hb:b<w.heap.size) (hc:w.cell? ⟨b,0,none⟩=some (.string key)) :
  Calls Tryz.prog 174 #[.agg #[.string c.key,.string c.val],.pointer (some ⟨b,0,none⟩)] w fun e w'=>e=.returned (.bool (z6 key c))/\Below w.heap.size w w':=by
 have h:z6 key c=(c.key.toList==key.toList):=rfl
 rw [h]
 clear h
 go_enter Tryz.func174,Tryz.ntmps174
 go_wp2
 go_ret
 exact ⟨rfl,(by repeat (first|with_reducible exact Below.refl _ _|with_reducible apply Below.ofAlloc))⟩
theorem zf2 (v:Value) (ds:List CellD) (key:ByteArray) (b0:Nat) (w:World) (hs:RdL zu w v ds) (hb0:b0<w.heap.size) (hc0:w.cell? ⟨b0,0,none⟩=some (.string key)) :
  Calls Tryz.prog 109 #[v,.func (Fn.func 174) #[] #[.pointer (some ⟨b0,0,none⟩)]] w fun e w'=>e=.returned (.int .i64 (zaw (z6 key) ds))/\Below w.heap.size w w':=by
 obtain ⟨ao,cap,rfl,hc1,hc2,hnil,hne⟩:=hs.shape
 have HX:=Hd hne
 have HC:=Hd hc0
 clear hs hne hnil hc0
 unfold maxLen at hc2
 go_enter Tryz.func109,Tryz.ntmps109
 go_wp2
 go_loopw [8] (fun k wr=>∃ (n:Nat),k=.int .i64 n/\n<=ds.length/\Below w.heap.size w wr/\(ds.take n).any (z6 key)=false) (fun k _=>ds.length - (intOf k).toNat)
 case atStart=>exact ⟨0,rfl,by omega,(by repeat (with_reducible exact Below.refl _ _)),rfl⟩
 case round =>
  obtain ⟨n,rfl,hn,hbel,hany⟩:=hrel
  obtain ⟨X,rfl⟩:=hbel.ext
  have HA:=Hd hany
  clear hany
  by_cases hlt:(n:Int)<ds.length
  ·have hk:n<ds.length:=by omega
   obtain ⟨b,off,rfl,hbl,hcell⟩:=HX.out (by intro e;simp [e] at hk)
   have hc:=hcell n hk
   have hst:=zax (z6 key) ds n hk
   have hff:(ds.take n).any (z6 key)=false->z6 key ds[n]=true->zaw (z6 key) ds=n:=fun h h2=>zaE (z6 key) ds n hk h h2
   generalize ds[n]=d at hc hst hff
   have y0:w.cell? ⟨b,off+n*2,none⟩=some (.string d.key):=hc 0 _ rfl
   have y1:w.cell? ⟨b,off+n*2+1,none⟩=some (.string d.val):=hc 1 _ rfl
   clear hc hcell
   have hbl:=hbl (by decide)
   have HT:=Hd hst
   have HF:=Hd hff
   clear hst hff
   cases hm:z6 key d with
   | true =>
    have HM:=Hd hm
    clear hm
    go_wp2_with fail
    (go_at_call 174;refine (zfP d key b0 _ (by simp [go_sem];try omega) (by repeat (first|exact HC.out|refine Grew.cell (Grew.ext _ _) ?_))).mono ?_;rintro e w' ⟨rfl,hb⟩;obtain ⟨X,rfl⟩:=hb.ext;clear hb)
    rw [HM.out]
    go_wp2
    go_ret
    exact ⟨by rw [HF.out HA.out HM.out];rfl,(by repeat (first|with_reducible exact Below.refl _ _|with_reducible apply Below.ofExt|with_reducible apply Below.ofAlloc|with_reducible apply Below.drew|with_reducible apply Below.ofDrewN|with_reducible assumption|(with_reducible refine Below.setCell ?_ (by first|exact Nat.le_refl _|(simp [go_sem];done)|(simp [go_sem];omega)) _)))⟩
   | false =>
    have HM:=Hd hm
    clear hm
    go_wp2_with fail
    (go_at_call 174;refine (zfP d key b0 _ (by simp [go_sem];try omega) (by repeat (first|exact HC.out|refine Grew.cell (Grew.ext _ _) ?_))).mono ?_;rintro e w' ⟨rfl,hb⟩;obtain ⟨X,rfl⟩:=hb.ext;clear hb)
    rw [HM.out]
    go_wp2
    go_roundw
    case rel=>exact ⟨n+1,by go_num,by omega,(by repeat (first|with_reducible exact Below.refl _ _|with_reducible apply Below.ofExt)),by rw [HT.out,HA.out,HM.out];rfl⟩
    case measure=>simp [intOf];omega
  ·go_wp2
   go_ret
   have e:n=ds.length:=by omega
   subst e
   have ha:=HA.out
   rw [List.take_length] at ha
   exact ⟨by rw [zaI (z6 key) ds ha];rfl,(by repeat (first|with_reducible exact Below.refl _ _|with_reducible apply Below.ofExt))⟩
theorem zgS (v:Value) (ds:List CellD) (key:ByteArray) (w:World) (hs:RdL zu w v ds) :
  Calls Tryz.prog 112 #[v,.string key] w fun e w'=>e=.returned (.int .i64 (zaw (z6 key) ds))/\Below w.heap.size w w':=by
 obtain ⟨ao,cap,rfl⟩:=hs.form
 have HS:=Hd hs
 clear hs
 go_enter Tryz.func112,Tryz.ntmps112
 go_wp2_with fail
 (go_at_call 109;refine (zf2 _ ds key w.heap.size _ (HS.out.alloc _) (by simp) (by simp [go_sem])).mono ?_;rintro e w' ⟨rfl,hb⟩;obtain ⟨X,rfl⟩:=hb.ext;clear hb)
 go_wp2
 go_ret
 exact ⟨rfl,(by repeat (first|with_reducible exact Below.refl _ _|with_reducible apply Below.ofExt|with_reducible apply Below.ofAlloc))⟩
theorem zj4 (v:Value) (ds:List CellD) (key:ByteArray) (w:World) (hs:RdL zu w v ds) :
  Calls Tryz.prog 49 #[v,.string key] w fun e w'=>e=.returned (.string (zbm key ds))/\Below w.heap.size w w':=by
 obtain ⟨ao,cap,rfl,hc1,hc2,hnil,hne⟩:=hs.shape
 have HS:=Hd hs
 have HX:=Hd hne
 unfold maxLen at hc2
 clear hs hne hnil
 cases hany:ds.any (z6 key) with
 | false =>
  have HI:Hid (zaw (z6 key) ds = -1):=zaI _ _ hany
  have HG:Hid (zbm key ds=⟨#[]⟩):=zgW key ds hany
  clear hany
  go_enter Tryz.func49,Tryz.ntmps49
  go_wp2_with fail
  (go_at_call 112;refine (zgS _ ds key _ HS.out).mono ?_;rintro e w' ⟨rfl,hb⟩;obtain ⟨X,rfl⟩:=hb.ext;clear hb)
  rw [HI.out]
  go_wp2
  go_ret
  exact ⟨by rw [HG.out];rfl,(by repeat (first|with_reducible exact Below.refl _ _|with_reducible apply Below.ofExt|with_reducible apply Below.ofAlloc|with_reducible apply Below.drew|with_reducible apply Below.ofDrewN|with_reducible assumption|(with_reducible refine Below.setCell ?_ (by first|exact Nat.le_refl _|(simp [go_sem];done)|(simp [go_sem];omega)) _)))⟩
 | true =>
  obtain ⟨n,hn,hbef,hat⟩:=zhQ _ _ hany
  have HI:Hid (zaw (z6 key) ds=n):=zaE _ _ n hn hbef hat
  have hg:=zmn key ds n hn hbef hat
  obtain ⟨b,off,rfl,hbl,hcell⟩:=HX.out (by intro e;simp [e] at hn)
  have hc:=hcell n hn
  clear hany hbef hat hcell
  generalize ds[n]=d at hc hg
  have HG:=Hd hg
  have y1:w.cell? ⟨b,off+n*2+1,none⟩=some (.string d.val):=hc 1 _ rfl
  have hbl:=hbl (by decide)
  clear hg hc
  go_enter Tryz.func49,Tryz.ntmps49
  go_wp2_with fail
  (go_at_call 112;refine (zgS _ ds key _ HS.out).mono ?_;rintro e w' ⟨rfl,hb⟩;obtain ⟨X,rfl⟩:=hb.ext;clear hb)
  rw [HI.out]
  go_wp2
  go_ret
  exact ⟨by rw [HG.out];rfl,(by repeat (first|with_reducible exact Below.refl _ _|with_reducible apply Below.ofExt))⟩
theorem zgw (v:Value) (ds:List CellD) (key:ByteArray) (w:World) (hs:RdL zu w v ds) :
  Calls Tryz.prog 51 #[v,.string key] w fun e w'=>e=.returned (.string (zbm key ds))/\Below w.heap.size w w':=by
 obtain ⟨ao,cap,rfl,hc1,hc2,hnil,hne⟩:=hs.shape
 have HX:=Hd hne
 unfold maxLen at hc2
 clear hs hne hnil
 go_enter Tryz.func51,Tryz.ntmps51
 go_wp2
 go_loopw [5] (fun k wr=>∃ (n:Nat),k=.int .i64 n/\n<=ds.length/\Below w.heap.size w wr/\(ds.take n).any (z6 key)=false) (fun k _=>ds.length - (intOf k).toNat)
 case atStart=>exact ⟨0,rfl,by omega,(by repeat (with_reducible exact Below.refl _ _)),rfl⟩
 case round =>
  obtain ⟨n,rfl,hn,hbel,hany⟩:=hrel
  obtain ⟨X,rfl⟩:=hbel.ext
  by_cases hlt:(n:Int)<ds.length
  case pos =>
   have hk:n<ds.length:=by omega
   have hst:=zax (z6 key) ds n hk
   have hgt:=fun h=>zmn key ds n hk hany h
   obtain ⟨b,off,rfl,hbl,hcell⟩:=HX.out (by intro e;simp [e] at hk)
   have hc:=hcell n hk
   clear hcell
   generalize ds[n]=d at hc hst hgt
   have HA:=Hd hany
   have HT:=Hd hst
   have HG:=Hd hgt
   have y0:w.cell? ⟨b,off+n*2,none⟩=some (.string d.key):=hc 0 _ rfl
   have y1:w.cell? ⟨b,off+n*2+1,none⟩=some (.string d.val):=hc 1 _ rfl
   have hbl:=hbl (by decide)
   clear hst hgt hany hc
   cases hik:z6 key d with
   | true =>
    have hke:(d.key.toList==key.toList)=true:=hik
    go_wp2
    go_ret
    exact ⟨by rw [HG.out hik];rfl,(by repeat (first|with_reducible exact Below.refl _ _|with_reducible apply Below.ofExt|with_reducible apply Below.ofAlloc|with_reducible apply Below.drew|with_reducible apply Below.ofDrewN|with_reducible assumption|(with_reducible refine Below.setCell ?_ (by first|exact Nat.le_refl _|(simp [go_sem];done)|(simp [go_sem];omega)) _)))⟩
   | false =>
    have hke:(d.key.toList==key.toList)=false:=hik
    go_wp2
    go_roundw
    case rel=>exact ⟨n+1,by go_num,by omega,(by repeat (first|with_reducible exact Below.refl _ _|with_reducible apply Below.ofExt)),by rw [HT.out,HA.out,hik];rfl⟩
    case measure=>simp [intOf];omega
  case neg =>
   have e:n=ds.length:=by omega
   rw [e,List.take_length] at hany
   have HG:Hid (zbm key ds=⟨#[]⟩):=zgW key ds hany
   clear hany
   go_wp2
   go_ret
   exact ⟨by rw [HG.out];rfl,(by repeat (first|with_reducible exact Below.refl _ _|with_reducible apply Below.ofExt))⟩
def ltS (a b:ByteArray):Bool:=Op.bytesLess a.toList b.toList
def zaH (xs:List ByteArray) (x:ByteArray):Nat:=(xs.takeWhile (ltS · x)).length
def zb3 (xs:List ByteArray) (x:ByteArray):List ByteArray:=if xs[zaH xs x]?=some x then xs else xs.take (zaH xs x)++x :: xs.drop (zaH xs x)
theorem zC:Elem Tryz.prog 31 9 1 16:=Elem.of (.string ⟨#[]⟩) Tryz.underlying31 (by kernel_rfl) rfl (by decide)
theorem ziF {α : Type} (p : α->Bool) (l:List α):(l.takeWhile p).length<=l.length:=by
 induction l with
 | nil=>simp
 | cons a l ih=>simp only [List.takeWhile_cons];split<;>simp<;>omega
theorem putAt_lt {xs:List ByteArray} {x:ByteArray} {k:Nat} (hk:k<zaH xs x) (h:k<xs.length):ltS xs[k] x=true:=by
 have h1:(xs.takeWhile (ltS · x))[k]'hk=xs[k]:=by
  have:=List.takeWhile_prefix (ltS · x) (l:=xs)
  exact List.IsPrefix.getElem this hk
 have h2:∀ (l:List ByteArray) (k:Nat) (h:k<(l.takeWhile (ltS · x)).length),ltS (l.takeWhile (ltS · x))[k] x=true:=by
  intro l
  induction l with
  | nil=>intro k h;simp at h
  | cons a l ih =>
   intro k h
   simp only [List.takeWhile_cons] at h ⊢
   split at h
   ·rename_i ha
    simp only [ha,if_true]
    cases k with
    | zero=>exact ha
    | succ k=>exact ih k (by simpa using h)
   ·simp at h
 have h3:=h2 xs k hk
 rw [h1] at h3
 exact h3
theorem putAt_ge {xs:List ByteArray} {x:ByteArray} (h:zaH xs x<xs.length):ltS xs[zaH xs x] x=false:=by
 have h2:∀ (l:List ByteArray) (h:(l.takeWhile (ltS · x)).length<l.length),ltS l[(l.takeWhile (ltS · x)).length] x=false:=by
  intro l
  induction l with
  | nil=>intro h;simp at h
  | cons a l ih =>
   intro h
   by_cases ha:ltS a x=true
   ·simp only [List.takeWhile_cons,ha,if_true,List.length_cons] at h ⊢
    simpa using ih (by simpa using h)
   ·have ha':ltS a x=false:=by simpa using ha
    simp only [List.takeWhile_cons,ha',Bool.false_eq_true,if_false,List.length_nil]
    exact ha'
 exact h2 xs h
theorem zh5 {α : Type} {R:RowOf α} {w:World} {v:Value} {xs ys:List α} (h:RdL R w v xs) (e:ys=xs):RdL R w v ys:=by rw [e];exact h
theorem zjC (v:Value) (xs:List ByteArray) (x:ByteArray) (w:World) (hs:RdL zx w v xs) (hl:xs.length<=1099511627776) :
  Calls Tryz.prog 104 #[v,.string x] w fun e w'=>∃ v',e=.returned v'/\RdL zx w' v' (zb3 xs x)/\Below w.heap.size w w':=by
 obtain ⟨ao,cap,rfl,hc1,hc2,hnil,hcell⟩:=hs.shapeS
 have HN:=Hd hnil
 have HC:=Hd hcell
 have HS:=Hd hs
 clear hnil hcell hs
 have HM:Hid (cap<=maxLen):=hc2
 unfold maxLen at hc2
 have hp:zaH xs x<=xs.length:=ziF (ltS · x) xs
 have hp0:xs = []->zaH xs x=0:=fun e=>by have h:=hp;rw [e] at h;simpa [e] using h
 have HP0:=Hd hp0
 clear hp0
 go_enter Tryz.func104,Tryz.ntmps104
 go_wp2
 go_loop [5] (fun i=>∃ k:Nat,k<=zaH xs x/\i=.int .i64 k) (fun i=>xs.length - (intOf i).toNat)
 case atStart=>exact ⟨0,Nat.zero_le _,rfl⟩
 case round =>
  obtain ⟨k,hk,rfl⟩:=hrel
  by_cases hlt:k<zaH xs x
  ·obtain ⟨b,off,rfl,hbl,hcell⟩:=HC.out (fun e=>by have h1:=HP0.out e;omega)
   have hkl:k<xs.length:=by omega
   have hcc:=hcell k hkl
   have hless:Op.bytesLess xs[k].toList x.toList=true:=putAt_lt hlt hkl
   clear hcell
   go_wp2
   go_round
   case rel=>exact ⟨k+1,by omega,by go_num⟩
   case measure=>simp [intOf];omega
  ·obtain rfl:k=zaH xs x:=by omega
   by_cases hin:zaH xs x<xs.length
   ·obtain ⟨b,off,rfl,hbl,hcell⟩:=HC.out (by intro e;simp [e] at hin)
    have hcc:=hcell _ hin
    have hless:Op.bytesLess xs[zaH xs x].toList x.toList=false:=putAt_ge hin
    by_cases heq:xs[zaH xs x]=x
    ·have heq':(xs[zaH xs x].toList==x.toList)=true:=by rw [heq];simp
     have H:Hid (zb3 xs x=xs):=by show zb3 xs x=xs;simp [zb3,heq,hin]
     clear heq hcell
     go_wp2
     go_ret
     exact ⟨_,rfl,zh5 HS.out H.out,Below.refl _ _⟩
    ·have heq':(xs[zaH xs x].toList==x.toList)=false:=by rw [beq_str];simpa using heq
     have H:Hid (zb3 xs x=xs.take (zaH xs x)++x :: xs.drop (zaH xs x)):=by show zb3 xs x = _;simp [zb3,heq,hin]
     clear heq hcell
     have S1:=zkQ HS.out (zaH xs x) cap hp (by omega) HM.out
     have S3:=RdL.cut1 rfl HS.out (zaH xs x) xs.length (cap - zaH xs x) (Nat.le_refl _) (by omega) (by have:=HM.out;omega)
     have hlk:(xs.take (zaH xs x)).length=zaH xs x:=by simp;omega
     have hld:((xs.drop (zaH xs x)).take (xs.length - zaH xs x)).length=xs.length - zaH xs x:=by simp
     have HP:=Hd hlk
     have HQ:=Hd hld
     clear hlk hld
     generalize zaH xs x=k at *
     go_wp2_with (at_builtin;refine zA ?_)
     refine zI rfl _ _ _ rfl zC (OwnL.empty zx _ w) rfl (S1.alloc _) rfl (by rw [HP.out];simp;omega) (by rw [HP.out];unfold maxLen;simp;omega) (by simp) ?_
     intro v1 w1 hown1 hg1 _
     have hb1:Below w.heap.size w w1:=Below.appL (by repeat (first|with_reducible exact Below.refl _ _|with_reducible apply Below.ofAlloc)) hg1 (OwnL.empty zx _ w)
     go_wp2_with (at_builtin;refine zA ?_)
     refine zI rfl _ _ _ rfl zC (hown1.alloc _) rfl (RdL.one zx w1 x _ rfl _) rfl (by simp only [List.nil_append,HP.out,List.length_singleton];omega) (by simp only [List.nil_append,HP.out,List.length_singleton];unfold maxLen;omega) (by have:=hb1.size;simp;omega) ?_
     intro v2 w2 hown2 hg2 _
     have hb2:Below w.heap.size w w2:=Below.appL (Below.ofAlloc hb1 _) hg2 (hown1.alloc _)
     clear hg1 hg2
     by_cases hcap:cap=k
     ·omega
     go_wp2_with (at_builtin;refine zA ?_)
     refine zI rfl _ _ _ rfl zC hown2 rfl (S3.below hb2) rfl (by simp only [List.nil_append,List.length_append,HP.out,HQ.out,List.length_singleton];omega) (by simp only [List.nil_append,List.length_append,HP.out,HQ.out,List.length_singleton];unfold maxLen;omega) hb2.size ?_
     intro v3 w3 hown3 hg3 _
     have hb3:Below w.heap.size w w3:=Below.appL hb2 hg3 hown2
     go_wp2
     go_ret
     refine ⟨v3,rfl,zh5 hown3.rd ?_,hb3⟩
     rw [H.out]
     simp [List.take_of_length_le]
   ·have he:zaH xs x=xs.length:=by omega
    have H:Hid (zb3 xs x=xs ++ [x]):=by show zb3 xs x = _;simp [zb3,he]
    have hge:xs.length<=zaH xs x:=by omega
    clear hin hk hlt
    have HE:=Hd he
    clear he
    rcases HS.out.cases with ⟨rfl,rfl,hl0,hx0⟩|⟨b,off,rfl,_,_,_⟩
    ·subst hx0
     have hk0:zaH [] x=0:=rfl
     generalize zaH [] x=k at *
     subst hk0
     go_wp2_with (at_builtin;refine zA ?_)
     refine zI rfl _ _ _ rfl zC (OwnL.empty zx _ w) rfl (RdL.nil zx _) rfl (by simp) (by simp) (by simp) ?_
     intro v1 w1 hown1 hg1 _
     have hb1:Below w.heap.size w w1:=Below.appL (by repeat (first|with_reducible exact Below.refl _ _|with_reducible apply Below.ofAlloc)) hg1 (OwnL.empty zx _ w)
     go_wp2_with (at_builtin;refine zA ?_)
     refine zI rfl _ _ _ rfl zC (hown1.alloc _) rfl (RdL.one zx w1 x _ rfl _) rfl (by simp) (by simp;decide) (by have:=hb1.size;simp;omega) ?_
     intro v2 w2 hown2 hg2 _
     have hb2:Below w.heap.size w w2:=Below.appL (Below.ofAlloc hb1 _) hg2 (hown1.alloc _)
     clear hg1 hg2
     go_wp2_with (at_builtin;refine zA ?_)
     refine zI rfl _ _ _ rfl zC hown2 rfl (RdL.nil zx _) rfl (by simp) (by simp;decide) hb2.size ?_
     intro v3 w3 hown3 hg3 _
     have hb3:Below w.heap.size w w3:=Below.appL hb2 hg3 hown2
     go_wp2
     go_ret
     refine ⟨v3,rfl,zh5 hown3.rd ?_,hb3⟩
     rw [H.out]
     simp
    ·have S1:=zkQ HS.out (zaH xs x) cap hp (by omega) HM.out
     have hlk:(xs.take (zaH xs x)).length=zaH xs x:=by simp;omega
     have HP:=Hd hlk
     clear hlk
     generalize zaH xs x=k at *
     have hkc:k<=cap:=by have:=HE.out;omega
     go_wp2_with (at_builtin;refine zA ?_)
     refine zI rfl _ _ _ rfl zC (OwnL.empty zx _ w) rfl (S1.alloc _) rfl (by rw [HP.out];simp;omega) (by rw [HP.out];unfold maxLen;simp;omega) (by simp) ?_
     intro v1 w1 hown1 hg1 _
     have hb1:Below w.heap.size w w1:=Below.appL (by repeat (first|with_reducible exact Below.refl _ _|with_reducible apply Below.ofAlloc)) hg1 (OwnL.empty zx _ w)
     go_wp2_with (at_builtin;refine zA ?_)
     refine zI rfl _ _ _ rfl zC (hown1.alloc _) rfl (RdL.one zx w1 x _ rfl _) rfl (by simp only [List.nil_append,HP.out,List.length_singleton];omega) (by simp only [List.nil_append,HP.out,List.length_singleton];unfold maxLen;omega) (by have:=hb1.size;simp;omega) ?_
     intro v2 w2 hown2 hg2 _
     have hb2:Below w.heap.size w w2:=Below.appL (Below.ofAlloc hb1 _) hg2 (hown1.alloc _)
     clear hg1 hg2
     go_wp2_with (at_builtin;refine zA ?_)
     all_goals
      refine zI rfl _ _ _ rfl zC hown2 rfl (RdL.zero zx w2 _ _ _ (by have:=HM.out;omega)) rfl (by simp only [List.nil_append,List.length_append,HP.out,List.length_singleton,List.length_nil];omega) (by simp only [List.nil_append,List.length_append,HP.out,List.length_singleton,List.length_nil];unfold maxLen;omega) hb2.size ?_
      intro v3 w3 hown3 hg3 _
      have hb3:Below w.heap.size w w3:=Below.appL hb2 hg3 hown2
      go_wp2
      go_ret
      refine ⟨v3,rfl,zh5 hown3.rd ?_,hb3⟩
      rw [H.out,HE.out]
      simp
def zaj (a b:ByteArray):Bool:=decide (b.size<=a.size) && ((a.extract 0 b.size).toList==b.toList)
def zaG (a:ByteArray):Bool:=decide (1<=a.size) && ((a.extract (a.size - 1) a.size).toList == [42])
def zY (a:ByteArray):ByteArray:=if zaG a then a.extract 0 (a.size - 1) else a
def zaZ (s k:ByteArray):Bool:=if zaG s then zaj k (zY s) else (s.toList==k.toList)
def zR (a b:ByteArray):Bool:=if zaG a then (if zaG b then zaj (zY a) (zY b) || zaj (zY b) (zY a) else zaj b (zY a)) else zaZ b a
theorem zcG (a b:ByteArray):zR a b=zR b a:=by
 unfold zR zaZ
 cases zaG a<;>cases zaG b<;>simp [Bool.or_comm,Bool.beq_comm]
theorem zaf (a:ByteArray):(zY a).size<=a.size:=by
 unfold zY
 split
 ·rw [ByteArray.size_extract];omega
 ·exact Nat.le_refl _
theorem last_is0 (a:ByteArray) (h : 0<a.size):(a.extract (a.size - 1) a.size)=⟨#[a[a.size - 1]]⟩:=by
 apply ByteArray.ext
 apply Array.ext_getElem?
 intro i
 rw [ByteArray.data_extract,Array.getElem?_extract]
 cases i with
 | zero =>
  have:a.size - 1<a.data.size:=by show a.size - 1<a.size;omega
  rw [Nat.add_zero]
  simp
  exact ⟨by omega,Array.getElem?_eq_getElem this⟩
 | succ n =>
  simp
  have e:a.data.size=a.size:=rfl
  omega
theorem last_is1 (c:UInt8):((⟨#[c]⟩ : ByteArray).toList == [42])=((c.toNat:Int)==42):=by
 have:(⟨#[c]⟩ : ByteArray).toList = [c]:=by rw [ByteArray.toList_eq]
 rw [this]
 by_cases h:c=42
 ·subst h;rfl
 ·have:c.toNat ≠ 42:=fun e=>h (by rw [<- UInt8.toNat_inj];exact e)
  have h2:((c.toNat:Int)==42)=false:=by simp;omega
  rw [h2]
  simp [h]
theorem last_is (a:ByteArray) (h : 0<a.size):((a[a.size - 1].toNat:Int)==42)=zaG a:=by
 unfold zaG
 have h1 : 1<=a.size:=h
 rw [last_is0 a h,last_is1]
 simp [h1]
theorem zaW (a b:ByteArray) (w:World) (ha:a.size<=9223372036854775807) (hb:b.size<=9223372036854775807):Calls Tryz.prog 171 #[.string a,.string b] w fun e w'=>e=.returned (.bool (zaj a b))/\w=w':=by
 by_cases h:b.size<=a.size
 ·have h':(b.size:Int)<=a.size:=by omega
  go_enter Tryz.func171,Tryz.ntmps171
  go_wp2
  go_ret
  exact ⟨by simp [zaj,h],rfl⟩
 ·have h':¬ (b.size:Int)<=a.size:=by omega
  go_enter Tryz.func171,Tryz.ntmps171
  go_wp2
  go_ret
  exact ⟨by simp [zaj,h],rfl⟩
theorem zd2 (a b:ByteArray) (w:World) (ha:a.size<=9223372036854775807) (hb:b.size<=9223372036854775807):Calls Tryz.prog 219 #[.string a,.string b] w fun e w'=>e=.returned (.bool (zaj a b))/\w=w':=by
 by_cases h:b.size<=a.size
 ·have h':(b.size:Int)<=a.size:=by omega
  go_enter Tryz.func219,Tryz.ntmps219
  go_wp2
  go_ret
  exact ⟨by simp [zaj,h],rfl⟩
 ·have h':¬ (b.size:Int)<=a.size:=by omega
  go_enter Tryz.func219,Tryz.ntmps219
  go_wp2
  go_ret
  exact ⟨by simp [zaj,h],rfl⟩
theorem zaN (a b:ByteArray) (w:World) (ha:a.size<=9223372036854775807) (hb:b.size<=9223372036854775807):Calls Tryz.prog 169 #[.string a,.string b] w fun e w'=>e=.returned (.bool (zaj a b))/\w=w':=by
 go_enter Tryz.func169,Tryz.ntmps169
 go_wp2_with fail
 (go_at_call 219;refine (zd2 a b _ ha hb).mono ?_;rintro e w' ⟨rfl,rfl⟩)
 go_wp2
 go_ret
 exact ⟨rfl,rfl⟩
theorem zd1 (a:ByteArray) (w:World) (ha:a.size<=9223372036854775807):Calls Tryz.prog 235 #[.string a,.string ⟨#[42]⟩] w fun e w'=>e=.returned (.bool (zaG a))/\w=w':=by
 by_cases h : 1<=a.size
 ·have h':(1:Int)<=a.size:=by omega
  go_enter Tryz.func235,Tryz.ntmps235
  go_wp2
  go_ret
  exact ⟨by simp [zaG,h],rfl⟩
 ·have h':¬ (1:Int)<=a.size:=by omega
  go_enter Tryz.func235,Tryz.ntmps235
  go_wp2
  go_ret
  exact ⟨by simp [zaG,h],rfl⟩
theorem zhf (a:ByteArray) (w:World) (ha:a.size<=9223372036854775807):Calls Tryz.prog 213 #[.string a,.string ⟨#[42]⟩] w fun e w'=>e=.returned (.tuple #[.string (zY a),.bool (zaG a)])/\w=w':=by
 cases ho:zaG a with
 | true =>
  have h1 : 1<=a.size:=by
   unfold zaG at ho
   simp at ho
   exact ho.1
  have h2:(1:Int)<=a.size:=by omega
  go_enter Tryz.func213,Tryz.ntmps213
  go_wp2_with fail
  (go_at_call 235;refine (zd1 a _ ha).mono ?_;rintro e w' ⟨rfl,rfl⟩)
  rw [ho]
  go_wp2
  refine bodyPost_ret (by simp [results,Tryz.results213,go_sem];rfl) rfl ?_
  exact ⟨by simp [zY,ho],rfl⟩
 | false =>
  go_enter Tryz.func213,Tryz.ntmps213
  go_wp2_with fail
  (go_at_call 235;refine (zd1 a _ ha).mono ?_;rintro e w' ⟨rfl,rfl⟩)
  rw [ho]
  go_wp2
  refine bodyPost_ret (by simp [results,Tryz.results213,go_sem];rfl) rfl ?_
  exact ⟨by simp [zY,ho],rfl⟩
theorem zT (a:ByteArray) (w:World) (ha:a.size<=9223372036854775807):Calls Tryz.prog 160 #[.string a,.string ⟨#[42]⟩] w fun e w'=>e=.returned (.tuple #[.string (zY a),.bool (zaG a)])/\w=w':=by
 go_enter Tryz.func160,Tryz.ntmps160
 go_wp2_with fail
 (go_at_call 213;refine (zhf a _ ha).mono ?_;rintro e w' ⟨rfl,rfl⟩)
 go_wp2
 refine bodyPost_ret (by simp [results,Tryz.results160,go_sem];rfl) rfl ?_
 exact ⟨rfl,rfl⟩
theorem zap (a:ByteArray) (w:World) (ha:a.size<=9223372036854775807):Calls Tryz.prog 170 #[.string a] w fun e w'=>e=.returned (.tuple #[.string (zY a),.bool (zaG a)])/\w=w':=by
 by_cases h : 0<a.size
 ·have h':(0:Int)<a.size:=by omega
  have hl:=last_is a h
  cases ho:zaG a with
  | true =>
   rw [ho] at hl
   go_enter Tryz.func170,Tryz.ntmps170
   go_wp2
   refine bodyPost_ret (by simp [results,Tryz.results170,go_sem];rfl) rfl ?_
   exact ⟨by simp [zY,ho],rfl⟩
  | false =>
   rw [ho] at hl
   go_enter Tryz.func170,Tryz.ntmps170
   go_wp2
   refine bodyPost_ret (by simp [results,Tryz.results170,go_sem];rfl) rfl ?_
   exact ⟨by simp [zY,ho],rfl⟩
 ·have h':¬ (0:Int)<a.size:=by omega
  have ho:zaG a=false:=by unfold zaG;simp;omega
  go_enter Tryz.func170,Tryz.ntmps170
  go_wp2
  refine bodyPost_ret (by simp [results,Tryz.results170,go_sem];rfl) rfl ?_
  exact ⟨by simp [zY,ho],rfl⟩
theorem zfH (s k:ByteArray) (w:World) (hs:s.size<=9223372036854775807) (hk:k.size<=9223372036854775807):Calls Tryz.prog 105 #[.string s,.string k] w fun e w'=>e=.returned (.bool (zaZ s k))/\w=w':=by
 cases ho:zaG s with
 | true =>
  go_enter Tryz.func105,Tryz.ntmps105
  go_wp2_with fail
  (go_at_call 170;refine (zap s _ hs).mono ?_;rintro e w' ⟨rfl,rfl⟩)
  rw [ho]
  go_wp2_with fail
  (go_at_call 171;refine (zaW k (zY s) _ hk (Nat.le_trans (zaf s) hs)).mono ?_;rintro e w' ⟨rfl,rfl⟩)
  go_wp2
  go_ret
  exact ⟨by simp [zaZ,ho],rfl⟩
 | false =>
  have hp:zY s=s:=by unfold zY;rw [ho];rfl
  go_enter Tryz.func105,Tryz.ntmps105
  go_wp2_with fail
  (go_at_call 170;refine (zap s _ hs).mono ?_;rintro e w' ⟨rfl,rfl⟩)
  rw [ho]
  go_wp2
  go_ret
  exact ⟨by simp [zaZ,ho],rfl⟩
theorem zdt (s k:ByteArray) (w:World) (hs:s.size<=9223372036854775807) (hk:k.size<=9223372036854775807):Calls Tryz.prog 103 #[.string s,.string k] w fun e w'=>e=.returned (.bool (zaZ s k))/\w=w':=by
 cases ho:zaG s with
 | true =>
  go_enter Tryz.func103,Tryz.ntmps103
  go_wp2_with fail
  (go_at_call 160;refine (zT s _ hs).mono ?_;rintro e w' ⟨rfl,rfl⟩)
  rw [ho]
  go_wp2_with fail
  (go_at_call 169;refine (zaN k (zY s) _ hk (Nat.le_trans (zaf s) hs)).mono ?_;rintro e w' ⟨rfl,rfl⟩)
  go_wp2
  go_ret
  exact ⟨by simp [zaZ,ho],rfl⟩
 | false =>
  have hp:zY s=s:=by unfold zY;rw [ho];rfl
  go_enter Tryz.func103,Tryz.ntmps103
  go_wp2_with fail
  (go_at_call 160;refine (zT s _ hs).mono ?_;rintro e w' ⟨rfl,rfl⟩)
  rw [ho]
  go_wp2
  go_ret
  exact ⟨by simp [zaZ,ho],rfl⟩
theorem zdZ (a b:ByteArray) (w:World) (ha:a.size<=9223372036854775807) (hb:b.size<=9223372036854775807):Calls Tryz.prog 133 #[.string a,.string b] w fun e w'=>e=.returned (.bool (zR a b))/\w=w':=by
 have hm:zR a b=zR a b:=rfl
 conv at hm=>rhs;unfold zR
 rcases hoa:zaG a with _|_<;>rcases hob:zaG b with _|_<;>simp only [hoa,hob,if_true,if_false,Bool.false_eq_true] at hm
 ·go_enter Tryz.func133,Tryz.ntmps133
  go_wp2_with fail
  (go_at_call 170;refine (zap a _ ha).mono ?_;rintro e w' ⟨rfl,rfl⟩)
  rw [hoa]
  go_wp2_with fail
  (go_at_call 170;refine (zap b _ hb).mono ?_;rintro e w' ⟨rfl,rfl⟩)
  rw [hob]
  go_wp2_with fail
  (go_at_call 105;refine (zfH b a _ hb ha).mono ?_;rintro e w' ⟨rfl,rfl⟩)
  go_wp2
  go_ret
  exact ⟨by rw [hm];rfl,rfl⟩
 ·go_enter Tryz.func133,Tryz.ntmps133
  go_wp2_with fail
  (go_at_call 170;refine (zap a _ ha).mono ?_;rintro e w' ⟨rfl,rfl⟩)
  rw [hoa]
  go_wp2_with fail
  (go_at_call 170;refine (zap b _ hb).mono ?_;rintro e w' ⟨rfl,rfl⟩)
  rw [hob]
  go_wp2_with fail
  (go_at_call 105;refine (zfH b a _ hb ha).mono ?_;rintro e w' ⟨rfl,rfl⟩)
  go_wp2
  go_ret
  exact ⟨by rw [hm];rfl,rfl⟩
 ·go_enter Tryz.func133,Tryz.ntmps133
  go_wp2_with fail
  (go_at_call 170;refine (zap a _ ha).mono ?_;rintro e w' ⟨rfl,rfl⟩)
  rw [hoa]
  go_wp2_with fail
  (go_at_call 170;refine (zap b _ hb).mono ?_;rintro e w' ⟨rfl,rfl⟩)
  rw [hob]
  go_wp2_with fail
  (go_at_call 171;refine (zaW b (zY a) _ hb (Nat.le_trans (zaf a) ha)).mono ?_;rintro e w' ⟨rfl,rfl⟩)
  go_wp2
  go_ret
  exact ⟨by rw [hm];rfl,rfl⟩
 ·cases hbg:zaj (zY a) (zY b) with
  | true =>
   go_enter Tryz.func133,Tryz.ntmps133
   go_wp2_with fail
   (go_at_call 170;refine (zap a _ ha).mono ?_;rintro e w' ⟨rfl,rfl⟩)
   rw [hoa]
   go_wp2_with fail
   (go_at_call 170;refine (zap b _ hb).mono ?_;rintro e w' ⟨rfl,rfl⟩)
   rw [hob]
   go_wp2_with fail
   (go_at_call 171;refine (zaW (zY a) (zY b) _ (Nat.le_trans (zaf a) ha) (Nat.le_trans (zaf b) hb)).mono ?_;rintro e w' ⟨rfl,rfl⟩)
   rw [hbg]
   go_wp2
   go_ret
   exact ⟨by rw [hm,hbg];rfl,rfl⟩
  | false =>
   go_enter Tryz.func133,Tryz.ntmps133
   go_wp2_with fail
   (go_at_call 170;refine (zap a _ ha).mono ?_;rintro e w' ⟨rfl,rfl⟩)
   rw [hoa]
   go_wp2_with fail
   (go_at_call 170;refine (zap b _ hb).mono ?_;rintro e w' ⟨rfl,rfl⟩)
   rw [hob]
   go_wp2_with fail
   (go_at_call 171;refine (zaW (zY a) (zY b) _ (Nat.le_trans (zaf a) ha) (Nat.le_trans (zaf b) hb)).mono ?_;rintro e w' ⟨rfl,rfl⟩)
   rw [hbg]
   go_wp2_with fail
   (go_at_call 171;refine (zaW (zY b) (zY a) _ (Nat.le_trans (zaf b) hb) (Nat.le_trans (zaf a) ha)).mono ?_;rintro e w' ⟨rfl,rfl⟩)
   go_wp2
   go_ret
   exact ⟨by rw [hm,hbg,Bool.false_or];rfl,rfl⟩
theorem zhm (a b:ByteArray) (w:World) (ha:a.size<=9223372036854775807) (hb:b.size<=9223372036854775807):Calls Tryz.prog 205 #[.string a,.string b] w fun e w'=>e=.returned (.bool (zR a b))/\w=w':=by
 have hm:zR a b=zR a b:=rfl
 conv at hm=>rhs;unfold zR
 rcases hoa:zaG a with _|_<;>rcases hob:zaG b with _|_<;>simp only [hoa,hob,if_true,if_false,Bool.false_eq_true] at hm
 ·go_enter Tryz.func205,Tryz.ntmps205
  go_wp2_with fail
  (go_at_call 160;refine (zT a _ ha).mono ?_;rintro e w' ⟨rfl,rfl⟩)
  rw [hoa]
  go_wp2_with fail
  (go_at_call 160;refine (zT b _ hb).mono ?_;rintro e w' ⟨rfl,rfl⟩)
  rw [hob]
  go_wp2_with fail
  (go_at_call 103;refine (zdt b a _ hb ha).mono ?_;rintro e w' ⟨rfl,rfl⟩)
  go_wp2
  go_ret
  exact ⟨by rw [hm];rfl,rfl⟩
 ·go_enter Tryz.func205,Tryz.ntmps205
  go_wp2_with fail
  (go_at_call 160;refine (zT a _ ha).mono ?_;rintro e w' ⟨rfl,rfl⟩)
  rw [hoa]
  go_wp2_with fail
  (go_at_call 160;refine (zT b _ hb).mono ?_;rintro e w' ⟨rfl,rfl⟩)
  rw [hob]
  go_wp2_with fail
  (go_at_call 103;refine (zdt b a _ hb ha).mono ?_;rintro e w' ⟨rfl,rfl⟩)
  go_wp2
  go_ret
  exact ⟨by rw [hm];rfl,rfl⟩
 ·go_enter Tryz.func205,Tryz.ntmps205
  go_wp2_with fail
  (go_at_call 160;refine (zT a _ ha).mono ?_;rintro e w' ⟨rfl,rfl⟩)
  rw [hoa]
  go_wp2_with fail
  (go_at_call 160;refine (zT b _ hb).mono ?_;rintro e w' ⟨rfl,rfl⟩)
  rw [hob]
  go_wp2_with fail
  have hsh:zaZ a b=zaj b (zY a):=by unfold zaZ;rw [hoa];rfl
  (go_at_call 103;refine (zdt a b _ ha hb).mono ?_;rintro e w' ⟨rfl,rfl⟩)
  rw [hsh]
  go_wp2
  go_ret
  exact ⟨by rw [hm];rfl,rfl⟩
 ·cases hbg:zaj (zY a) (zY b) with
  | true =>
   go_enter Tryz.func205,Tryz.ntmps205
   go_wp2_with fail
   (go_at_call 160;refine (zT a _ ha).mono ?_;rintro e w' ⟨rfl,rfl⟩)
   rw [hoa]
   go_wp2_with fail
   (go_at_call 160;refine (zT b _ hb).mono ?_;rintro e w' ⟨rfl,rfl⟩)
   rw [hob]
   go_wp2_with fail
   (go_at_call 169;refine (zaN (zY a) (zY b) _ (Nat.le_trans (zaf a) ha) (Nat.le_trans (zaf b) hb)).mono ?_;rintro e w' ⟨rfl,rfl⟩)
   rw [hbg]
   go_wp2
   go_ret
   exact ⟨by rw [hm,hbg];rfl,rfl⟩
  | false =>
   go_enter Tryz.func205,Tryz.ntmps205
   go_wp2_with fail
   (go_at_call 160;refine (zT a _ ha).mono ?_;rintro e w' ⟨rfl,rfl⟩)
   rw [hoa]
   go_wp2_with fail
   (go_at_call 160;refine (zT b _ hb).mono ?_;rintro e w' ⟨rfl,rfl⟩)
   rw [hob]
   go_wp2_with fail
   (go_at_call 169;refine (zaN (zY a) (zY b) _ (Nat.le_trans (zaf a) ha) (Nat.le_trans (zaf b) hb)).mono ?_;rintro e w' ⟨rfl,rfl⟩)
   rw [hbg]
   go_wp2_with fail
   (go_at_call 169;refine (zaN (zY b) (zY a) _ (Nat.le_trans (zaf b) hb) (Nat.le_trans (zaf a) ha)).mono ?_;rintro e w' ⟨rfl,rfl⟩)
   go_wp2
   go_ret
   exact ⟨by rw [hm,hbg,Bool.false_or];rfl,rfl⟩
end Go.Proofs.YtpnoehpmgflibaaGreatDoor
namespace Go.Proofs.YtpnoehpmgflibaaGreatDoor
open Go.Lib
def zbI (c:UInt8):List UInt8->List (List UInt8)
 | []=>[[]]
 | b :: l=>if b=c then [] :: zbI c l else match zbI c l with
  | []=>[[b]]
  | x :: xs=>(b :: x) :: xs
theorem zhv (c:UInt8):∀ (a l:List UInt8),c ∉ a->zbI c (a++c :: l)=a :: zbI c l
 | [],l,_=>by
  show zbI c (c :: l) = _
  conv=>lhs;unfold zbI
  rw [if_pos rfl]
 | b :: a,l,h=>by
  have hb:b ≠ c:=fun e=>h (by rw [e];simp)
  have ha:c ∉ a:=fun e=>h (List.mem_cons_of_mem _ e)
  show zbI c (b :: (a++c :: l)) = _
  conv=>lhs;unfold zbI
  rw [if_neg hb,zhv c a l ha]
end Go.Proofs.YtpnoehpmgflibaaGreatDoor
