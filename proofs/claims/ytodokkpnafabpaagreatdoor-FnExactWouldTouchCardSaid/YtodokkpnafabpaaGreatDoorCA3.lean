/- Texts of this claim, merged: the walks and what they stand on. Each condition stands in its theorem. -/
import Derived.Lib.AppendStr
import Derived.Lib.CountLaws
import Derived.Lib.FrozenHead
import Derived.Lib.Split
import Derived.Lib.SplitLaws
import Derived.Test.YtodokkpnafabpaaGreatDoorCA2
set_option linter.unusedVariables false
set_option linter.unusedSimpArgs false
set_option maxRecDepth 100000
set_option maxHeartbeats 8000000
namespace Go.Proofs.YtodokkpnafabpaaGreatDoor
open Go.ChangeShapes Go.WideShapes Go.ChangeAt Go.RowKit
theorem zgr {α : Type} (p : α->Bool):∀ xs:List α,xs.any p=true->∃ n,∃ h:n<xs.length,(xs.take n).any p=false/\p xs[n]=true
 | [],h=>by cases h
 | x :: xs,h=>by
  cases hp:p x with
  | true=>exact ⟨0,by simp,rfl,hp⟩
  | false =>
   rw [List.any_cons,hp,Bool.false_or] at h
   obtain ⟨n,hn,h1,h2⟩:=zgr p xs h
   exact ⟨n+1,by simpa using hn,by rw [List.take_succ_cons,List.any_cons,hp,h1];rfl,by simpa using h2⟩
def zeG (key:ByteArray) (xs:List CellD):ByteArray:=match xs.find? (zY key) with
 | some c=>c.val
 | none=>⟨#[]⟩
theorem zhA (key:ByteArray) (xs:List CellD) (h:xs.any (zY key)=false):zeG key xs=⟨#[]⟩:=by
 unfold zeG
 rw [List.find?_eq_none.2 (fun x hx=>by rw [List.any_eq_false] at h;exact h x hx)]
theorem zjV (key:ByteArray) (xs:List CellD) (n:Nat) (hn:n<xs.length) (h:(xs.take n).any (zY key)=false) (h2:zY key xs[n]=true):zeG key xs=xs[n].val:=by
 unfold zeG
 have e:xs=xs.take n++xs[n] :: xs.drop (n+1):=by rw [<- List.drop_eq_getElem_cons hn,List.take_append_drop]
 have hf:xs.find? (zY key)=some xs[n]:=by
  conv=>lhs;rw [e]
  rw [List.find?_append,List.find?_eq_none.2 (fun x hx=>by rw [List.any_eq_false] at h;exact h x hx),List.find?_cons_of_pos h2]
  rfl
 rw [hf]
theorem zeF (c:CellD) (key:ByteArray) (b:Nat) (w:World) (hb:b<w.heap.size) (hc:w.cell? ⟨b,0,none⟩=some (.string key)) :
  Calls Tryz.prog 216 #[.agg #[.string c.key,.string c.val],.pointer (some ⟨b,0,none⟩)] w fun e w'=>e=.returned (.bool (zY key c))/\Below w.heap.size w w':=by
 have h:zY key c=(c.key.toList==key.toList):=rfl
 rw [h]
 clear h
 go_enter Tryz.func216,Tryz.ntmps216
 go_wp2
 go_ret
 exact ⟨rfl,(by repeat (first|with_reducible exact Below.refl _ _|with_reducible apply Below.ofAlloc))⟩
theorem zeU (v:Value) (ds:List CellD) (key:ByteArray) (b0:Nat) (w:World) (hs:RdL zu w v ds) (hb0:b0<w.heap.size) (hc0:w.cell? ⟨b0,0,none⟩=some (.string key)) :
  Calls Tryz.prog 196 #[v,.func (Fn.func 216) #[] #[.pointer (some ⟨b0,0,none⟩)]] w fun e w'=>e=.returned (.int .i64 (zam (zY key) ds))/\Below w.heap.size w w':=by
 obtain ⟨ao,cap,rfl,hc1,hc2,hnil,hne⟩:=hs.shape
 have HX:=Hd hne
 have HC:=Hd hc0
 clear hs hne hnil hc0
 unfold maxLen at hc2
 go_enter Tryz.func196,Tryz.ntmps196
 go_wp2
 go_loopw [8] (fun k wr=>∃ (n:Nat),k=.int .i64 n/\n<=ds.length/\Below w.heap.size w wr/\(ds.take n).any (zY key)=false) (fun k _=>ds.length - (intOf k).toNat)
 case atStart=>exact ⟨0,rfl,by omega,(by repeat (with_reducible exact Below.refl _ _)),rfl⟩
 case round =>
  obtain ⟨n,rfl,hn,hbel,hany⟩:=hrel
  obtain ⟨X,rfl⟩:=hbel.ext
  have HA:=Hd hany
  clear hany
  by_cases hlt:(n:Int)<ds.length
  ·have hk:n<ds.length:=by omega
   obtain ⟨b,off,rfl,hbl,hcell⟩:=HX.out (by intro e;simp [e] at hk)
   have hc:=hcell n hk
   have hst:=zaS (zY key) ds n hk
   have hff:(ds.take n).any (zY key)=false->zY key ds[n]=true->zam (zY key) ds=n:=fun h h2=>zar (zY key) ds n hk h h2
   generalize ds[n]=d at hc hst hff
   have y0:w.cell? ⟨b,off+n*2,none⟩=some (.string d.key):=hc 0 _ rfl
   have y1:w.cell? ⟨b,off+n*2+1,none⟩=some (.string d.val):=hc 1 _ rfl
   clear hc hcell
   have hbl:=hbl (by decide)
   have HT:=Hd hst
   have HF:=Hd hff
   clear hst hff
   cases hm:zY key d with
   | true =>
    have HM:=Hd hm
    clear hm
    go_wp2_with fail
    (go_at_call 216;refine (zeF d key b0 _ (by simp [go_sem];try omega) (by repeat (first|exact HC.out|refine Grew.cell (Grew.ext _ _) ?_))).mono ?_;rintro e w' ⟨rfl,hb⟩;obtain ⟨X,rfl⟩:=hb.ext;clear hb)
    rw [HM.out]
    go_wp2
    go_ret
    exact ⟨by rw [HF.out HA.out HM.out];rfl,(by repeat (first|with_reducible exact Below.refl _ _|with_reducible apply Below.ofExt|with_reducible apply Below.ofAlloc|with_reducible apply Below.drew|with_reducible apply Below.ofDrewN|with_reducible assumption|(with_reducible refine Below.setCell ?_ (by first|exact Nat.le_refl _|(simp [go_sem];done)|(simp [go_sem];omega)) _)))⟩
   | false =>
    have HM:=Hd hm
    clear hm
    go_wp2_with fail
    (go_at_call 216;refine (zeF d key b0 _ (by simp [go_sem];try omega) (by repeat (first|exact HC.out|refine Grew.cell (Grew.ext _ _) ?_))).mono ?_;rintro e w' ⟨rfl,hb⟩;obtain ⟨X,rfl⟩:=hb.ext;clear hb)
    rw [HM.out]
    go_wp2
    go_roundw
    case rel=>exact ⟨n+1,by go_num,by omega,(by repeat (first|with_reducible exact Below.refl _ _|with_reducible apply Below.ofExt)),by rw [HT.out,HA.out,HM.out];rfl⟩
    case measure=>simp [intOf];omega
  ·go_wp2
   go_ret
   have e:n=ds.length:=by omega
   subst e
   have ha:=HA.out
   rw [List.take_length] at ha
   exact ⟨by rw [zaw (zY key) ds ha];rfl,(by repeat (first|with_reducible exact Below.refl _ _|with_reducible apply Below.ofExt))⟩
theorem zfA (v:Value) (ds:List CellD) (key:ByteArray) (w:World) (hs:RdL zu w v ds) :
  Calls Tryz.prog 203 #[v,.string key] w fun e w'=>e=.returned (.int .i64 (zam (zY key) ds))/\Below w.heap.size w w':=by
 obtain ⟨ao,cap,rfl⟩:=hs.form
 have HS:=Hd hs
 clear hs
 go_enter Tryz.func203,Tryz.ntmps203
 go_wp2_with fail
 (go_at_call 196;refine (zeU _ ds key w.heap.size _ (HS.out.alloc _) (by simp) (by simp [go_sem])).mono ?_;rintro e w' ⟨rfl,hb⟩;obtain ⟨X,rfl⟩:=hb.ext;clear hb)
 go_wp2
 go_ret
 exact ⟨rfl,(by repeat (first|with_reducible exact Below.refl _ _|with_reducible apply Below.ofExt|with_reducible apply Below.ofAlloc))⟩
theorem zh7 (v:Value) (ds:List CellD) (key:ByteArray) (w:World) (hs:RdL zu w v ds) :
  Calls Tryz.prog 184 #[v,.string key] w fun e w'=>e=.returned (.string (zeG key ds))/\Below w.heap.size w w':=by
 obtain ⟨ao,cap,rfl,hc1,hc2,hnil,hne⟩:=hs.shape
 have HS:=Hd hs
 have HX:=Hd hne
 unfold maxLen at hc2
 clear hs hne hnil
 cases hany:ds.any (zY key) with
 | false =>
  have HI:Hid (zam (zY key) ds = -1):=zaw _ _ hany
  have HG:Hid (zeG key ds=⟨#[]⟩):=zhA key ds hany
  clear hany
  go_enter Tryz.func184,Tryz.ntmps184
  go_wp2_with fail
  (go_at_call 203;refine (zfA _ ds key _ HS.out).mono ?_;rintro e w' ⟨rfl,hb⟩;obtain ⟨X,rfl⟩:=hb.ext;clear hb)
  rw [HI.out]
  go_wp2
  go_ret
  exact ⟨by rw [HG.out];rfl,(by repeat (first|with_reducible exact Below.refl _ _|with_reducible apply Below.ofExt|with_reducible apply Below.ofAlloc|with_reducible apply Below.drew|with_reducible apply Below.ofDrewN|with_reducible assumption|(with_reducible refine Below.setCell ?_ (by first|exact Nat.le_refl _|(simp [go_sem];done)|(simp [go_sem];omega)) _)))⟩
 | true =>
  obtain ⟨n,hn,hbef,hat⟩:=zgr _ _ hany
  have HI:Hid (zam (zY key) ds=n):=zar _ _ n hn hbef hat
  have hg:=zjV key ds n hn hbef hat
  obtain ⟨b,off,rfl,hbl,hcell⟩:=HX.out (by intro e;simp [e] at hn)
  have hc:=hcell n hn
  clear hany hbef hat hcell
  generalize ds[n]=d at hc hg
  have HG:=Hd hg
  have y1:w.cell? ⟨b,off+n*2+1,none⟩=some (.string d.val):=hc 1 _ rfl
  have hbl:=hbl (by decide)
  clear hg hc
  go_enter Tryz.func184,Tryz.ntmps184
  go_wp2_with fail
  (go_at_call 203;refine (zfA _ ds key _ HS.out).mono ?_;rintro e w' ⟨rfl,hb⟩;obtain ⟨X,rfl⟩:=hb.ext;clear hb)
  rw [HI.out]
  go_wp2
  go_ret
  exact ⟨by rw [HG.out];rfl,(by repeat (first|with_reducible exact Below.refl _ _|with_reducible apply Below.ofExt))⟩
theorem zfk (v:Value) (ds:List CellD) (key:ByteArray) (w:World) (hs:RdL zu w v ds) :
  Calls Tryz.prog 171 #[v,.string key] w fun e w'=>e=.returned (.string (zeG key ds))/\Below w.heap.size w w':=by
 obtain ⟨ao,cap,rfl,hc1,hc2,hnil,hne⟩:=hs.shape
 have HX:=Hd hne
 unfold maxLen at hc2
 clear hs hne hnil
 go_enter Tryz.func171,Tryz.ntmps171
 go_wp2
 go_loopw [5] (fun k wr=>∃ (n:Nat),k=.int .i64 n/\n<=ds.length/\Below w.heap.size w wr/\(ds.take n).any (zY key)=false) (fun k _=>ds.length - (intOf k).toNat)
 case atStart=>exact ⟨0,rfl,by omega,(by repeat (with_reducible exact Below.refl _ _)),rfl⟩
 case round =>
  obtain ⟨n,rfl,hn,hbel,hany⟩:=hrel
  obtain ⟨X,rfl⟩:=hbel.ext
  by_cases hlt:(n:Int)<ds.length
  case pos =>
   have hk:n<ds.length:=by omega
   have hst:=zaS (zY key) ds n hk
   have hgt:=fun h=>zjV key ds n hk hany h
   obtain ⟨b,off,rfl,hbl,hcell⟩:=HX.out (by intro e;simp [e] at hk)
   have hc:=hcell n hk
   clear hcell
   generalize ds[n]=d at hc hst hgt
   have HA:=Hd hany
   have HT:=Hd hst
   have HG:=Hd hgt
   have y0:w.cell? ⟨b,off+n*2,none⟩=some (.string d.key):=hc 0 _ rfl
   have y1:w.cell? ⟨b,off+n*2+1,none⟩=some (.string d.val):=hc 1 _ rfl
   have hbl:=hbl (by decide)
   clear hst hgt hany hc
   cases hik:zY key d with
   | true =>
    have hke:(d.key.toList==key.toList)=true:=hik
    go_wp2
    go_ret
    exact ⟨by rw [HG.out hik];rfl,(by repeat (first|with_reducible exact Below.refl _ _|with_reducible apply Below.ofExt|with_reducible apply Below.ofAlloc|with_reducible apply Below.drew|with_reducible apply Below.ofDrewN|with_reducible assumption|(with_reducible refine Below.setCell ?_ (by first|exact Nat.le_refl _|(simp [go_sem];done)|(simp [go_sem];omega)) _)))⟩
   | false =>
    have hke:(d.key.toList==key.toList)=false:=hik
    go_wp2
    go_roundw
    case rel=>exact ⟨n+1,by go_num,by omega,(by repeat (first|with_reducible exact Below.refl _ _|with_reducible apply Below.ofExt)),by rw [HT.out,HA.out,hik];rfl⟩
    case measure=>simp [intOf];omega
  case neg =>
   have e:n=ds.length:=by omega
   rw [e,List.take_length] at hany
   have HG:Hid (zeG key ds=⟨#[]⟩):=zhA key ds hany
   clear hany
   go_wp2
   go_ret
   exact ⟨by rw [HG.out];rfl,(by repeat (first|with_reducible exact Below.refl _ _|with_reducible apply Below.ofExt))⟩
def ltS (a b:ByteArray):Bool:=Op.bytesLess a.toList b.toList
def zav (xs:List ByteArray) (x:ByteArray):Nat:=(xs.takeWhile (ltS · x)).length
def zbp (xs:List ByteArray) (x:ByteArray):List ByteArray:=if xs[zav xs x]?=some x then xs else xs.take (zav xs x)++x :: xs.drop (zav xs x)
theorem zz:Elem Tryz.prog 25 9 1 16:=Elem.of (.string ⟨#[]⟩) Tryz.underlying25 (by kernel_rfl) rfl (by decide)
theorem zha {α : Type} (p : α->Bool) (l:List α):(l.takeWhile p).length<=l.length:=by
 induction l with
 | nil=>simp
 | cons a l ih=>simp only [List.takeWhile_cons];split<;>simp<;>omega
theorem putAt_lt {xs:List ByteArray} {x:ByteArray} {k:Nat} (hk:k<zav xs x) (h:k<xs.length):ltS xs[k] x=true:=by
 have h1:(xs.takeWhile (ltS · x))[k]'hk=xs[k]:=by
  have:=List.takeWhile_prefix (ltS · x) (l:=xs)
  exact List.IsPrefix.getElem this hk
 have h2:∀ (l:List ByteArray) (k:Nat) (h:k<(l.takeWhile (ltS · x)).length),ltS (l.takeWhile (ltS · x))[k] x=true:=by
  intro l
  induction l with
  | nil=>intro k h;simp at h
  | cons a l ih =>
   intro k h
   simp only [List.takeWhile_cons] at h ⊢
   split at h
   ·rename_i ha
    simp only [ha,if_true]
    cases k with
    | zero=>exact ha
    | succ k=>exact ih k (by simpa using h)
   ·simp at h
 have h3:=h2 xs k hk
 rw [h1] at h3
 exact h3
theorem putAt_ge {xs:List ByteArray} {x:ByteArray} (h:zav xs x<xs.length):ltS xs[zav xs x] x=false:=by
 have h2:∀ (l:List ByteArray) (h:(l.takeWhile (ltS · x)).length<l.length),ltS l[(l.takeWhile (ltS · x)).length] x=false:=by
  intro l
  induction l with
  | nil=>intro h;simp at h
  | cons a l ih =>
   intro h
   by_cases ha:ltS a x=true
   ·simp only [List.takeWhile_cons,ha,if_true,List.length_cons] at h ⊢
    simpa using ih (by simpa using h)
   ·have ha':ltS a x=false:=by simpa using ha
    simp only [List.takeWhile_cons,ha',Bool.false_eq_true,if_false,List.length_nil]
    exact ha'
 exact h2 xs h
theorem zgE {α : Type} {R:RowOf α} {w:World} {v:Value} {xs ys:List α} (h:RdL R w v xs) (e:ys=xs):RdL R w v ys:=by rw [e];exact h
theorem zhQ (v:Value) (xs:List ByteArray) (x:ByteArray) (w:World) (hs:RdL zx w v xs) (hl:xs.length<=1099511627776) :
  Calls Tryz.prog 175 #[v,.string x] w fun e w'=>∃ v',e=.returned v'/\RdL zx w' v' (zbp xs x)/\Below w.heap.size w w':=by
 obtain ⟨ao,cap,rfl,hc1,hc2,hnil,hcell⟩:=hs.shapeS
 have HN:=Hd hnil
 have HC:=Hd hcell
 have HS:=Hd hs
 clear hnil hcell hs
 have HM:Hid (cap<=maxLen):=hc2
 unfold maxLen at hc2
 have hp:zav xs x<=xs.length:=zha (ltS · x) xs
 have hp0:xs = []->zav xs x=0:=fun e=>by have h:=hp;rw [e] at h;simpa [e] using h
 have HP0:=Hd hp0
 clear hp0
 go_enter Tryz.func175,Tryz.ntmps175
 go_wp2
 go_loop [5] (fun i=>∃ k:Nat,k<=zav xs x/\i=.int .i64 k) (fun i=>xs.length - (intOf i).toNat)
 case atStart=>exact ⟨0,Nat.zero_le _,rfl⟩
 case round =>
  obtain ⟨k,hk,rfl⟩:=hrel
  by_cases hlt:k<zav xs x
  ·obtain ⟨b,off,rfl,hbl,hcell⟩:=HC.out (fun e=>by have h1:=HP0.out e;omega)
   have hkl:k<xs.length:=by omega
   have hcc:=hcell k hkl
   have hless:Op.bytesLess xs[k].toList x.toList=true:=putAt_lt hlt hkl
   clear hcell
   go_wp2
   go_round
   case rel=>exact ⟨k+1,by omega,by go_num⟩
   case measure=>simp [intOf];omega
  ·obtain rfl:k=zav xs x:=by omega
   by_cases hin:zav xs x<xs.length
   ·obtain ⟨b,off,rfl,hbl,hcell⟩:=HC.out (by intro e;simp [e] at hin)
    have hcc:=hcell _ hin
    have hless:Op.bytesLess xs[zav xs x].toList x.toList=false:=putAt_ge hin
    by_cases heq:xs[zav xs x]=x
    ·have heq':(xs[zav xs x].toList==x.toList)=true:=by rw [heq];simp
     have H:Hid (zbp xs x=xs):=by show zbp xs x=xs;simp [zbp,heq,hin]
     clear heq hcell
     go_wp2
     go_ret
     exact ⟨_,rfl,zgE HS.out H.out,Below.refl _ _⟩
    ·have heq':(xs[zav xs x].toList==x.toList)=false:=by rw [beq_str];simpa using heq
     have H:Hid (zbp xs x=xs.take (zav xs x)++x :: xs.drop (zav xs x)):=by show zbp xs x = _;simp [zbp,heq,hin]
     clear heq hcell
     have S1:=ziI HS.out (zav xs x) cap hp (by omega) HM.out
     have S3:=RdL.cut1 rfl HS.out (zav xs x) xs.length (cap - zav xs x) (Nat.le_refl _) (by omega) (by have:=HM.out;omega)
     have hlk:(xs.take (zav xs x)).length=zav xs x:=by simp;omega
     have hld:((xs.drop (zav xs x)).take (xs.length - zav xs x)).length=xs.length - zav xs x:=by simp
     have HP:=Hd hlk
     have HQ:=Hd hld
     clear hlk hld
     generalize zav xs x=k at *
     go_wp2_with (at_builtin;refine zA ?_)
     refine zI rfl _ _ _ rfl zz (OwnL.empty zx _ w) rfl (S1.alloc _) rfl (by rw [HP.out];simp;omega) (by rw [HP.out];unfold maxLen;simp;omega) (by simp) ?_
     intro v1 w1 hown1 hg1 _
     have hb1:Below w.heap.size w w1:=Below.appL (by repeat (first|with_reducible exact Below.refl _ _|with_reducible apply Below.ofAlloc)) hg1 (OwnL.empty zx _ w)
     go_wp2_with (at_builtin;refine zA ?_)
     refine zI rfl _ _ _ rfl zz (hown1.alloc _) rfl (RdL.one zx w1 x _ rfl _) rfl (by simp only [List.nil_append,HP.out,List.length_singleton];omega) (by simp only [List.nil_append,HP.out,List.length_singleton];unfold maxLen;omega) (by have:=hb1.size;simp;omega) ?_
     intro v2 w2 hown2 hg2 _
     have hb2:Below w.heap.size w w2:=Below.appL (Below.ofAlloc hb1 _) hg2 (hown1.alloc _)
     clear hg1 hg2
     by_cases hcap:cap=k
     ·omega
     go_wp2_with (at_builtin;refine zA ?_)
     refine zI rfl _ _ _ rfl zz hown2 rfl (S3.below hb2) rfl (by simp only [List.nil_append,List.length_append,HP.out,HQ.out,List.length_singleton];omega) (by simp only [List.nil_append,List.length_append,HP.out,HQ.out,List.length_singleton];unfold maxLen;omega) hb2.size ?_
     intro v3 w3 hown3 hg3 _
     have hb3:Below w.heap.size w w3:=Below.appL hb2 hg3 hown2
     go_wp2
     go_ret
     refine ⟨v3,rfl,zgE hown3.rd ?_,hb3⟩
     rw [H.out]
     simp [List.take_of_length_le]
   ·have he:zav xs x=xs.length:=by omega
    have H:Hid (zbp xs x=xs ++ [x]):=by show zbp xs x = _;simp [zbp,he]
    have hge:xs.length<=zav xs x:=by omega
    clear hin hk hlt
    have HE:=Hd he
    clear he
    rcases HS.out.cases with ⟨rfl,rfl,hl0,hx0⟩|⟨b,off,rfl,_,_,_⟩
    ·subst hx0
     have hk0:zav [] x=0:=rfl
     generalize zav [] x=k at *
     subst hk0
     go_wp2_with (at_builtin;refine zA ?_)
     refine zI rfl _ _ _ rfl zz (OwnL.empty zx _ w) rfl (RdL.nil zx _) rfl (by simp) (by simp) (by simp) ?_
     intro v1 w1 hown1 hg1 _
     have hb1:Below w.heap.size w w1:=Below.appL (by repeat (first|with_reducible exact Below.refl _ _|with_reducible apply Below.ofAlloc)) hg1 (OwnL.empty zx _ w)
     go_wp2_with (at_builtin;refine zA ?_)
     refine zI rfl _ _ _ rfl zz (hown1.alloc _) rfl (RdL.one zx w1 x _ rfl _) rfl (by simp) (by simp;decide) (by have:=hb1.size;simp;omega) ?_
     intro v2 w2 hown2 hg2 _
     have hb2:Below w.heap.size w w2:=Below.appL (Below.ofAlloc hb1 _) hg2 (hown1.alloc _)
     clear hg1 hg2
     go_wp2_with (at_builtin;refine zA ?_)
     refine zI rfl _ _ _ rfl zz hown2 rfl (RdL.nil zx _) rfl (by simp) (by simp;decide) hb2.size ?_
     intro v3 w3 hown3 hg3 _
     have hb3:Below w.heap.size w w3:=Below.appL hb2 hg3 hown2
     go_wp2
     go_ret
     refine ⟨v3,rfl,zgE hown3.rd ?_,hb3⟩
     rw [H.out]
     simp
    ·have S1:=ziI HS.out (zav xs x) cap hp (by omega) HM.out
     have hlk:(xs.take (zav xs x)).length=zav xs x:=by simp;omega
     have HP:=Hd hlk
     clear hlk
     generalize zav xs x=k at *
     have hkc:k<=cap:=by have:=HE.out;omega
     go_wp2_with (at_builtin;refine zA ?_)
     refine zI rfl _ _ _ rfl zz (OwnL.empty zx _ w) rfl (S1.alloc _) rfl (by rw [HP.out];simp;omega) (by rw [HP.out];unfold maxLen;simp;omega) (by simp) ?_
     intro v1 w1 hown1 hg1 _
     have hb1:Below w.heap.size w w1:=Below.appL (by repeat (first|with_reducible exact Below.refl _ _|with_reducible apply Below.ofAlloc)) hg1 (OwnL.empty zx _ w)
     go_wp2_with (at_builtin;refine zA ?_)
     refine zI rfl _ _ _ rfl zz (hown1.alloc _) rfl (RdL.one zx w1 x _ rfl _) rfl (by simp only [List.nil_append,HP.out,List.length_singleton];omega) (by simp only [List.nil_append,HP.out,List.length_singleton];unfold maxLen;omega) (by have:=hb1.size;simp;omega) ?_
     intro v2 w2 hown2 hg2 _
     have hb2:Below w.heap.size w w2:=Below.appL (Below.ofAlloc hb1 _) hg2 (hown1.alloc _)
     clear hg1 hg2
     go_wp2_with (at_builtin;refine zA ?_)
     all_goals
      refine zI rfl _ _ _ rfl zz hown2 rfl (RdL.zero zx w2 _ _ _ (by have:=HM.out;omega)) rfl (by simp only [List.nil_append,List.length_append,HP.out,List.length_singleton,List.length_nil];omega) (by simp only [List.nil_append,List.length_append,HP.out,List.length_singleton,List.length_nil];unfold maxLen;omega) hb2.size ?_
      intro v3 w3 hown3 hg3 _
      have hb3:Below w.heap.size w w3:=Below.appL hb2 hg3 hown2
      go_wp2
      go_ret
      refine ⟨v3,rfl,zgE hown3.rd ?_,hb3⟩
      rw [H.out,HE.out]
      simp
def zaA (a b:ByteArray):Bool:=decide (b.size<=a.size) && ((a.extract 0 b.size).toList==b.toList)
theorem zfU (a b:ByteArray) (w:World) (ha:a.size<=9223372036854775807) (hb:b.size<=9223372036854775807):Calls Tryz.prog 189 #[.string a,.string b] w fun e w'=>e=.returned (.bool (zaA a b))/\w=w':=by
 by_cases h:b.size<=a.size
 ·have h':(b.size:Int)<=a.size:=by omega
  go_enter Tryz.func189,Tryz.ntmps189
  go_wp2
  go_ret
  exact ⟨by simp [zaA,h],rfl⟩
 ·have h':¬ (b.size:Int)<=a.size:=by omega
  go_enter Tryz.func189,Tryz.ntmps189
  go_wp2
  go_ret
  exact ⟨by simp [zaA,h],rfl⟩
theorem zde (a b:ByteArray) (w:World) (ha:a.size<=9223372036854775807) (hb:b.size<=9223372036854775807):Calls Tryz.prog 211 #[.string a,.string b] w fun e w'=>e=.returned (.bool (zaA a b))/\w=w':=by
 by_cases h:b.size<=a.size
 ·have h':(b.size:Int)<=a.size:=by omega
  go_enter Tryz.func211,Tryz.ntmps211
  go_wp2
  go_ret
  exact ⟨by simp [zaA,h],rfl⟩
 ·have h':¬ (b.size:Int)<=a.size:=by omega
  go_enter Tryz.func211,Tryz.ntmps211
  go_wp2
  go_ret
  exact ⟨by simp [zaA,h],rfl⟩
theorem zec (a b:ByteArray) (w:World) (ha:a.size<=9223372036854775807) (hb:b.size<=9223372036854775807):Calls Tryz.prog 199 #[.string a,.string b] w fun e w'=>e=.returned (.bool (zaA a b))/\w=w':=by
 go_enter Tryz.func199,Tryz.ntmps199
 go_wp2_with fail
 (go_at_call 211;refine (zde a b _ ha hb).mono ?_;rintro e w' ⟨rfl,rfl⟩)
 go_wp2
 go_ret
 exact ⟨rfl,rfl⟩
end Go.Proofs.YtodokkpnafabpaaGreatDoor
namespace Go.Proofs.YtodokkpnafabpaaGreatDoor
open Go.Lib
def zbl (c:UInt8):List UInt8->List (List UInt8)
 | []=>[[]]
 | b :: l=>if b=c then [] :: zbl c l else match zbl c l with
  | []=>[[b]]
  | x :: xs=>(b :: x) :: xs
theorem zgb (c:UInt8):∀ (a l:List UInt8),c ∉ a->zbl c (a++c :: l)=a :: zbl c l
 | [],l,_=>by
  show zbl c (c :: l) = _
  conv=>lhs;unfold zbl
  rw [if_pos rfl]
 | b :: a,l,h=>by
  have hb:b ≠ c:=fun e=>h (by rw [e];simp)
  have ha:c ∉ a:=fun e=>h (List.mem_cons_of_mem _ e)
  show zbl c (b :: (a++c :: l)) = _
  conv=>lhs;unfold zbl
  rw [if_neg hb,zgb c a l ha]
end Go.Proofs.YtodokkpnafabpaaGreatDoor
namespace Go
open Go.ChangeShapes Go.WideShapes Go.ChangeAt Go.RowKit
theorem zR (l:List UInt8):(zX l).length=l.length:=by simp [zX]
theorem zdi (l m:List UInt8):zX (l++m)=zX l++zX m:=by simp [zX]
theorem zid (l:List UInt8):∀ u ∈ zX l,u.oneCell'=true:=by
 intro u hu
 simp only [zX,List.mem_map] at hu
 obtain ⟨c,_,rfl⟩:=hu
 rfl
theorem ziC (l:List UInt8):l.flatMap zdN.row=zX l:=by
 induction l with
 | nil=>rfl
 | cons c l ih =>
  rw [List.flatMap_cons,ih]
  rfl
def MarkOk (fz:Nat × Nat) (n:Nat):Prop:=fz=(0,0) ∨ n<=fz.1
def OwnB (e:TypeId) (w:World) (B:Nat) (v:Value) (l:List UInt8):Prop :=
 (v=.slice none 0 0/\l = []) ∨
 ∃ g cap cur fz,v=.slice (some ⟨g,0,none⟩) l.length cap/\B<=g/\w.heap[g]?=some (.cells cur e fz)/\MarkOk fz cur.size/\l.length<=cap/\cap<=maxLen/\cur.size=cap/\cur.toList.take l.length=zX l
theorem zbV (P:Program) (g o:Nat) (t:TypeId) (fz:Nat × Nat):∀ (vs:List Value) (i:Nat) (cur:Array Value) (w:World),w.heap[g]?=some (.cells cur t fz)->MarkOk fz cur.size->o+i+vs.length<=cur.size->(∀ v ∈ vs,v.oneCell'=true) ->
  (storeCells ⟨g,o,none⟩ vs i).run P w=.ok () (w.setRow g (cur.toList.take (o+i)++vs++cur.toList.drop (o+i+vs.length)).toArray)
 | [],i,cur,w,hg,_,_,_=>by
  simp only [storeCells,List.append_nil,List.length_nil,Nat.add_zero,List.take_append_drop,Array.toArray_toList]
  rw [setRow_self w g cur t fz hg]
  rfl
 | v :: rest,i,cur,w,hg,hfz,hl,h1=>by
  have hi:o+i<cur.size:=by simp at hl;omega
  have hadd:(⟨g,o,none⟩ : Addr).add i=⟨g,o+i,none⟩:=by unfold Addr.add;split<;>simp_all
  have hcell:w.cell? ⟨g,o+i,none⟩=some cur[o+i]:=by simp [World.cell?,hg,hi]
  have hfro:w.frozen? ⟨g,o+i,none⟩=false:=by
   rcases hfz with rfl|hfz
   ·simp [World.frozen?,hg]
   ·obtain ⟨lo,hi'⟩:=fz
    simp only [World.frozen?,hg,Bool.and_eq_false_iff,decide_eq_false_iff_not]
    left
    simp only at hfz
    omega
  have hst:(store ((⟨g,o,none⟩ : Addr).add i) v).run P w=.ok () (w.setRow g (cur.setIfInBounds (o+i) v)):=by
   rw [hadd,run_store P w _ v _ (h1 v (by simp)),hcell]
   simp [hfro,setCell_eq_setRow w g (o+i) cur t fz v hg]
  have ih:=zbV P g o t fz rest (i+1) (cur.setIfInBounds (o+i) v) (w.setRow g (cur.setIfInBounds (o+i) v)) (setRow_heap w g cur _ t _ hg) (by simpa using hfz) (by simp at hl ⊢;omega) (fun x hx=>h1 x (by simp [hx]))
  simp only [storeCells,Sem.run_bind,hst,Result.andThen_ok,ih,setRow_setRow]
  congr 3
  have e:=list_seg_step cur.toList (o+i) v rest (by simp at hl ⊢;omega)
  simpa [Array.toList_setIfInBounds,Nat.add_assoc] using e
section
variable {e:TypeId} {w:World} {B:Nat} {v:Value} {l:List UInt8}
theorem ziK (h:OwnL zdN e w B v l):OwnB e w B v l:=by
 have hf:=ziC l
 rcases h.2 with ⟨hv,hn⟩|⟨g,cap,cur,hv,hb,hg,hnc,hcm,hcs,ht⟩
 ·exact .inl ⟨hv,List.eq_nil_of_length_eq_zero hn⟩
 ·refine .inr ⟨g,cap,cur,(0,0),hv,hb,hg,.inl rfl,hnc,hcm,by simpa [zdN] using hcs,?_⟩
  rw [hf] at ht
  simpa [zdN] using ht
theorem OwnB.empty (e:TypeId) (w:World):OwnB e (w.alloc (.cells #[] e)) w.heap.size (.slice (some ⟨w.heap.size,0,none⟩) 0 0) []:=ziK (OwnL.empty zdN e w)
theorem OwnB.nil (e:TypeId) (w:World) (B:Nat):OwnB e w B (.slice none 0 0) []:=.inl ⟨rfl,rfl⟩
theorem OwnB.lt (h:OwnB e w B v l):∀ k,v.ownBlock=some k->B<=k/\k<w.heap.size:=by
 intro k hk
 rcases h with ⟨rfl,_⟩|⟨g,cap,cur,fz,rfl,hb,hg,_⟩
 ·simp [Value.ownBlock] at hk
 ·simp [Value.ownBlock] at hk
  subst hk
  exact ⟨hb,(Array.getElem?_eq_some_iff.1 hg).1⟩
theorem OwnB.kept {w':World} {row:Option Nat} (h:OwnB e w B v l) (hg:w.grownBy w' row) (hne:v.ownBlock=none ∨ v.ownBlock ≠ row):OwnB e w' B v l:=by
 rcases h with hn|⟨g,cap,cur,fz,rfl,h1,h2,rest⟩
 ·exact .inl hn
 ·refine .inr ⟨g,cap,cur,fz,rfl,h1,?_,rest⟩
  rw [hg.block g (Array.getElem?_eq_some_iff.1 h2).1 (by simpa [Value.ownBlock] using hne)]
  exact h2
theorem OwnB.ext (h:OwnB e w B v l) (X:Ext):OwnB e (w.ext X) B v l:=by
 rcases h with hn|⟨g,cap,cur,fz,rfl,h1,h2,rest⟩
 ·exact .inl hn
 ·exact .inr ⟨g,cap,cur,fz,rfl,h1,(w.ext_get X (Array.getElem?_eq_some_iff.1 h2).1).trans h2,rest⟩
theorem OwnB.same {bs:Array Obj} {d0 dr:Nat} (h:OwnB e (w.ext ⟨bs,d0⟩) B v l):OwnB e (w.ext ⟨bs,dr⟩) B v l:=by
 have:=h.ext ⟨#[],dr⟩
 rwa [zp,Array.append_empty] at this
theorem OwnB.alloc (h:OwnB e w B v l) (o:Obj):OwnB e (w.alloc o) B v l :=
 h.kept (World.grownBy_alloc w o none) (by cases hv:v.ownBlock<;>simp)
theorem OwnB.drew (h:OwnB e w B v l):OwnB e w.drew B v l:=h
theorem OwnB.below {w':World} (h:OwnB e w B v l) (hb:Below w.heap.size w w'):OwnB e w' B v l:=by
 obtain ⟨X,rfl⟩:=hb.ext
 exact h.ext X
theorem OwnB.form (h:OwnB e w B v l):∃ ao cap,v=.slice ao l.length cap:=by
 rcases h with ⟨rfl,rfl⟩|⟨g,cap,cur,fz,rfl,_⟩
 ·exact ⟨none,0,rfl⟩
 ·exact ⟨_,_,rfl⟩
theorem OwnB.sl (h:OwnB e w B v l):Sl w v l.length (zX l):=by
 rcases h with ⟨rfl,rfl⟩|⟨g,cap,cur,fz,rfl,hb,hg,_,hnc,hcm,hcs,ht⟩
 ·exact .inl ⟨rfl,rfl,rfl⟩
 ·refine .inr ⟨g,0,cap,rfl,hnc,hcm,fun j u hj=>?_⟩
  have hl:j<l.length:=by
   have:=(List.getElem?_eq_some_iff.1 hj).1
   rwa [zR] at this
  rw [<- ht,List.getElem?_take,if_pos hl] at hj
  simp only [World.cell?,hg,Nat.zero_add]
  simpa using hj
theorem OwnB.rd (h:OwnB e w B v l):RdL zdN w v l:=by
 unfold RdL
 have hf:=ziC l
 rw [hf]
 exact h.sl
theorem OwnB.ofString (e:TypeId) (w:World) (s:ByteArray) (hs:s.size<=9223372036854775807):OwnB e (w.alloc (.cells (bytesRow s (grownCap w s.size 0 e)) e ((bytesRow s (grownCap w s.size 0 e)).size,(bytesRow s (grownCap w s.size 0 e)).size+1))) w.heap.size (.slice (some ⟨w.heap.size,0,none⟩) s.size (grownCap w s.size 0 e)) s.data.toList:=by
 have hge:=grownCap_ge w s.size 0 e
 have hle:=grownCap_le_maxLen w s.size 0 e (by unfold maxLen;exact hs)
 have hsz:s.data.toList.length=s.size:=by simp
 generalize grownCap w s.size 0 e=cap at *
 refine .inr ⟨w.heap.size,cap,_,_,by rw [hsz],Nat.le_refl _,heap_alloc_new w _,.inr (Nat.le_refl _),by omega,hle,?_,?_⟩
 ·have h2:s.data.size=s.size:=rfl
  simp only [bytesRow,Array.size_append,Array.size_map,Array.size_replicate,h2]
  omega
 ·unfold bytesRow zX
  rw [Array.toList_append,List.take_append_of_le_length (by simp)]
  rw [List.take_of_length_le (by simp)]
  simp
end
section
variable {P:Program} (w:World)
theorem run_appB (t ty e:TypeId) (i:TypeInfo) (ht:P.underlying t=some (.slice e)) (hi:P.info? e=some i) (hz:i.zero=some (.int .u8 0)) (hsize:i.size=1) (hby:i.bytes=1)
  {B:Nat} {v:Value} {l:List UInt8} (hown:OwnB e w B v l) {x:Value} {m:List UInt8} (hx:Sl w x m.length (zX m))
  (h63:l.length+m.length<=maxLen) (hbytes:l.length+m.length<=140737488355328) (hbase:B<=w.heap.size) :
  ∃ v' w',(Builtin.append_ #[t,t] ty #[v,x]).run P w=.ok v' w'/\OwnB e w' B v' (l++m)/\w.grownBy w' v.ownBlock:=by
 have hsmall:l.length+m.length<=9223372036854775807:=by simp only [maxLen] at h63;omega
 have grown:∀ (old:Nat),old<l.length+m.length->∀ (row:Option Nat),
   OwnB e (w.drew.alloc (.cells ((zX l).toArray++(zX m).toArray++Builtin.zeroCells (Value.int IntKind.u8 0).cells (grownCap w (l.length+m.length) old e - (l.length+m.length))) e)) B
    (.slice (some ⟨w.heap.size,0,none⟩) (l.length+m.length) (grownCap w (l.length+m.length) old e)) (l++m) /\
   w.grownBy (w.drew.alloc (.cells ((zX l).toArray++(zX m).toArray++Builtin.zeroCells (Value.int IntKind.u8 0).cells (grownCap w (l.length+m.length) old e - (l.length+m.length))) e)) row:=by
  intro old ho row
  have hge:=grownCap_ge w (l.length+m.length) old e
  have hcm:grownCap w (l.length+m.length) old e<=maxLen:=grownCap_le_maxLen w (l.length+m.length) old e h63
  refine ⟨.inr ⟨w.heap.size,_,_,(0,0),by rw [List.length_append],hbase,heap_alloc_new w.drew _,.inl rfl,by rw [List.length_append];exact hge,hcm,?_,?_⟩,⟨rfl,rfl,rfl,by simp,fun k hk _=>(World.grownBy_alloc w.drew _ none).block k hk (by simp)⟩⟩
  ·have hz1:(Value.int IntKind.u8 0).cells.size=1:=rfl
   simp only [Array.size_append,List.size_toArray,size_zeroCells,hz1,zR]
   omega
  ·simp only [Array.toList_append]
   rw [zdi,List.take_append_of_le_length (by simp [zR]),List.take_of_length_le (by simp [zR])]
 have hempty:∀ (ao:Option Addr) (n c:Nat),(Builtin.firstCells 1 0 (.slice ao n c)).run P w=.ok #[] w:=by
  intro ao n c
  cases ao with
  | none=>simp [Builtin.firstCells]
  | some a =>
   have:=run_firstCells_some (P:=P) w 1 0 a n c [] rfl (fun j u hj=>by simp at hj)
   simpa using this
 rcases hx with ⟨rfl,hm0,_⟩|⟨bx,ox,cx,rfl,hmc,hcx,hcells⟩
 ·-- nothing to append
  have hm:m = []:=List.eq_nil_of_length_eq_zero hm0
  subst hm
  rcases hown with ⟨rfl,rfl⟩|⟨g,cap,cur,fz,rfl,hbg,hg,hfz,hnc,hcm,hcs,htake⟩
  ·refine ⟨.slice none 0 0,w,?_,by simpa using OwnB.nil e w B,⟨rfl,rfl,rfl,Nat.le_refl _,fun _ _ _=>rfl⟩⟩
   simp [Builtin.append_,run_underlying ht,sizeOf,typeInfo,hi,Builtin.lenOf,Builtin.firstCells,loadCells,loadCellsFrom]
  ·refine ⟨_,w,?_,by rw [List.append_nil];exact .inr ⟨g,cap,cur,fz,rfl,hbg,hg,hfz,hnc,hcm,hcs,htake⟩,⟨rfl,rfl,rfl,Nat.le_refl _,fun _ _ _=>rfl⟩⟩
   simp [Builtin.append_,run_underlying ht,sizeOf,typeInfo,hi,Builtin.lenOf,hnc,Builtin.firstCells,storeCells]
 ·have hnews:∀ j u,(zX m)[j]?=some u->w.cell? ((⟨bx,ox,none⟩ : Addr).add j)=some u:=fun j u hj=>by rw [zby];exact hcells j u hj
  rcases hown with ⟨rfl,rfl⟩|⟨g,cap,cur,fz,rfl,hbg,hg,hfz,hnc,hcm,hcs,htake⟩
  ·by_cases hm:m.length=0
   ·have hme:m = []:=List.eq_nil_of_length_eq_zero hm
    subst hme
    refine ⟨.slice none 0 0,w,?_,by simpa using OwnB.nil e w B,⟨rfl,rfl,rfl,Nat.le_refl _,fun _ _ _=>rfl⟩⟩
    simp [Builtin.append_,run_underlying ht,sizeOf,typeInfo,hi,hsize,Builtin.lenOf,hempty,loadCells,loadCellsFrom]
   ·have hr:=run_append_nil (P:=P) w t ty e i _ ht hi hz ⟨bx,ox,none⟩ m.length cx (zX m) (by rw [zR,hsize,Nat.mul_one]) hnews (by omega) (by simp at hsmall;omega) (by rw [hby];simp at hbytes;omega)
    have hgr:=grown 0 (by simp;omega) (Value.ownBlock (.slice none 0 0))
    simp only [List.length_nil,Nat.zero_add,List.nil_append] at hgr ⊢
    refine ⟨_,_,hr,?_,?_⟩
    ·simpa [zX] using hgr.1
    ·simpa [zX] using hgr.2
  ·by_cases hroom:l.length+m.length<=cap
   ·have hf:=run_firstCells_some (P:=P) w i.size m.length ⟨bx,ox,none⟩ m.length cx (zX m) (by rw [zR,hsize,Nat.mul_one]) hnews
    have hst:=zbV P g l.length e fz (zX m) 0 cur w hg hfz (by rw [zR];omega) (zid m)
    simp only [Nat.add_zero,zR] at hst
    refine ⟨.slice (some ⟨g,0,none⟩) (l.length+m.length) cap,w.setRow g (cur.toList.take l.length++zX m++cur.toList.drop (l.length+m.length)).toArray,?_,.inr ⟨g,cap,_,fz,by rw [List.length_append],hbg,setRow_heap w g cur _ e _ hg,?_,by rw [List.length_append];exact hroom,hcm,?_,?_⟩,⟨rfl,rfl,rfl,by simp,fun k _ hk=>setRow_other w g k _ (fun e=>hk (by simp [Value.ownBlock,e]))⟩⟩
    ·rw [hsize] at hf
     simp [Builtin.append_,run_underlying ht,sizeOf,typeInfo,hi,hsize,Builtin.lenOf,hroom,hf,Addr.add_lit,hst]
    ·have hsz:(cur.toList.take l.length++zX m++cur.toList.drop (l.length+m.length)).toArray.size=cur.size:=by
      simp only [List.size_toArray,List.length_append,List.length_take,List.length_drop,Array.length_toList,zR]
      omega
     rw [hsz]
     exact hfz
    ·simp only [List.size_toArray,List.length_append,List.length_take,List.length_drop,Array.length_toList,zR]
     omega
    ·rw [htake,zdi,List.take_append_of_le_length (by simp [zR]),List.take_of_length_le (by simp [zR])]
   ·have holds:∀ j u,(zX l)[j]?=some u->w.cell? ((⟨g,0,none⟩ : Addr).add j)=some u:=by
     intro j u hj
     rw [zby]
     have hl:j<l.length:=by
      have:=(List.getElem?_eq_some_iff.1 hj).1
      rwa [zR] at this
     rw [<- htake,List.getElem?_take,if_pos hl] at hj
     simp only [World.cell?,hg,Nat.zero_add]
     simpa using hj
    have hr:=run_append_grow (P:=P) w t ty e i _ ht hi hz ⟨g,0,none⟩ l.length cap (zX l) (by rw [zR,hsize,Nat.mul_one]) holds ⟨bx,ox,none⟩ m.length cx (zX m) (by rw [zR,hsize,Nat.mul_one]) hnews (by omega) (by omega) (by rw [hby];exact growslice_fits (by omega) (by omega))
    have hgr:=grown cap (by omega) (Value.ownBlock (.slice (some ⟨g,0,none⟩) l.length cap))
    exact ⟨_,_,hr,hgr.1,hgr.2⟩
structure ByteT (P:Program) (t e:TypeId):Prop where
 sl:P.underlying t=some (.slice e)
 el:P.underlying e=some (.int .u8)
 inf:∃ i:TypeInfo,P.info? e=some i/\i.zero=some (.int .u8 0)/\i.size=1/\i.bytes=1
theorem ByteT.of {t e:TypeId} (h1:P.underlying t=some (.slice e)) (h2:P.underlying e=some (.int .u8)) (h:(P.info? e).map (fun i=>(i.zero,i.size,i.bytes))=some (some (.int .u8 0),1,1)):ByteT P t e:=by
 refine ⟨h1,h2,?_⟩
 cases hi:P.info? e with
 | none=>rw [hi] at h;simp at h
 | some i =>
  rw [hi] at h
  simp at h
  exact ⟨i,rfl,h.1,h.2.1,h.2.2⟩
theorem zjj {t e:TypeId} (E:ByteT P t e) {o:Oper} {a:Act} {K:Act->World->Prop} {Q:Exit->Act->World->Prop} (s x:Operand)
  (ho:o.op=.call { callee:=.builtin .append,args:=#[s,x],argTypes:=#[t,t] })
  {B:Nat} {v:Value} {l:List UInt8} (hown:OwnB e w B v l) (hs:a.eval s=v)
  {vx:Value} {m:List UInt8} (hx:Sl w vx m.length (zX m)) (hvx:a.eval x=vx) (hb:l.length+m.length<=140737488355328) (hbase:B<=w.heap.size)
  (h:∀ v' w',OwnB e w' B v' (l++m)->w.grownBy w' v.ownBlock->K (a.put o.dst v') w'):o.wp P a w K Q:=by
 obtain ⟨i,h1,h2,h3,h4⟩:=E.inf
 obtain ⟨v',w',hr,h5,h6⟩:=run_appB (P:=P) w t o.type e i E.sl h1 h2 h3 h4 hown hx (by unfold maxLen;omega) hb hbase
 unfold Oper.wp execOp
 simp only [ho,resolve,invoke,builtin,Sem.run_bind,Sem.run_pure,Result.andThen_ok,List.map_toArray,List.map_cons,List.map_nil,hs,hvx,hr]
 exact h v' w' h5 h6
theorem zdl {t e:TypeId} (E:ByteT P t e) {ops:Array Oper} {rest:List Oper} {o:Oper} {a:Act} {Q:Exit->Act->World->Prop} (hgd:o.guard=none) (s x:Operand)
  (ho:o.op=.call { callee:=.builtin .append,args:=#[s,x],argTypes:=#[t,t] })
  {B:Nat} {v:Value} {l:List UInt8} (hown:OwnB e w B v l) (hs:a.eval s=v)
  {vx:Value} {m:List UInt8} (hx:Sl w vx m.length (zX m)) (hvx:a.eval x=vx) (hb:l.length+m.length<=140737488355328) (hbase:B<=w.heap.size)
  (h:∀ v' w',OwnB e w' B v' (l++m)->w.grownBy w' v.ownBlock->wpList P ops Q rest (a.put o.dst v') w'):wpList P ops Q (o :: rest) a w :=
 wpList_plain hgd fun _ hK=>zjj w E s x ho hown hs hx hvx hb hbase (fun v' w' a1 a2=>hK _ _ (h v' w' a1 a2))
theorem zaB {t u e:TypeId} (E:ByteT P t e) (hu:P.underlying u=some .string) {v:Value} {l:List UInt8} (h:Sl w v l.length (zX l)) :
  (convert t u v).run P w=.ok (.string ⟨l.toArray⟩) w:=by
 rcases h with ⟨rfl,hn,_⟩|⟨b,off,cap,rfl,_,_,hc⟩
 ·have:l = []:=List.eq_nil_of_length_eq_zero hn
  subst this
  exact run_convert_bytes_nil w t e E.sl E.el 0 0 u hu
 ·refine run_convert_bytes_back w t u e ⟨b,off,none⟩ cap l E.sl E.el hu (fun j hj=>?_)
  rw [zby]
  refine hc j _ ?_
  unfold zX
  rw [List.getElem?_map,List.getElem?_eq_getElem hj]
  rfl
end
theorem RowKit.Below.appB {a w w':World} {v:Value} {e:TypeId} {l:List UInt8} (h:Below a.heap.size a w) (hg:w.grownBy w' v.ownBlock) (ho:OwnB e w a.heap.size v l):Below a.heap.size a w':=by
 refine ⟨hg.os.trans h.os,hg.tape.trans h.tape,hg.output.trans h.output,Nat.le_trans h.size hg.size,fun k hk=>?_⟩
 rw [hg.block k (Nat.lt_of_lt_of_le hk h.size) (fun e=>by have:=ho.lt k e.symm;omega)]
 exact h.block k hk
end Go
namespace Go
theorem Sx.refl (w:World):Sx w w:=⟨⟨#[],w.drawn⟩,(zbz _ _ rfl).symm⟩
section
variable {P:Program} {ops:Array Oper} {Q:Exit->Act->World->Prop} {S:World->Prop} {n:Nat}
def zb6 (ops:Array Oper):Nat->Nat->Nat->Bool
 | 0,_,_=>false
 | f+1,j,i=>match ops[j]? with
  | none=>false
  | some o=>o.after.any fun e=>Region.binds .any e && (e.on==i || zb6 ops f e.on i)
def zfc (ops:Array Oper) (n i:Nat):Bool:=(List.range ops.size).all fun j=>decide (j<n) || zb6 ops ops.size j i
def zeI (ops:Array Oper) (listed:Array Bool):Prop:=∀ k o,ops[k]?=some o->listed.getD k false=true->∀ e ∈ o.after,Region.binds .any e=true->listed.getD e.on false=true
theorem zcI {listed:Array Bool} (hc:zeI ops listed) {i:Nat}:∀ (f j:Nat) (o:Oper),ops[j]?=some o->(∀ e ∈ o.after,Region.binds .any e=true->listed.getD e.on false=true)->zb6 ops f j i=true->listed.getD i false=true
 | 0,_,_,_,_,h=>by simp [zb6] at h
 | f+1,j,o,ho,hd,h=>by
  simp only [zb6,ho] at h
  obtain ⟨e,he,hb⟩:=Array.any_eq_true'.1 h
  simp only [Bool.and_eq_true,Bool.or_eq_true,beq_iff_eq] at hb
  obtain ⟨hb1,hb2⟩:=hb
  have hl:=hd e he hb1
  rcases hb2 with hb2|hb2
  ·rw [<- hb2];exact hl
  ·cases ho2:ops[e.on]? with
   | none =>
    cases f with
    | zero=>simp [zb6] at hb2
    | succ f=>simp [zb6,ho2] at hb2
   | some o2=>exact zcI hc f e.on o2 ho2 (hc e.on o2 ho2 hl) hb2
theorem zbB {listed:Array Bool} (hc:zeI ops listed) {i:Nat} (hr:i ∈ Region.ready .any ops listed):zeI ops (listed.setIfInBounds i true):=by
 obtain ⟨_,oi,hoi,hall⟩:=mem_ready.1 hr
 have keep:∀ k,listed.getD k false=true->(listed.setIfInBounds i true).getD k false=true:=fun k hk=>getD_set_true hk
 intro k o ho hk e he hb
 by_cases hik:i=k
 ·subst hik
  rw [hoi] at ho
  cases ho
  exact keep _ (hall e he hb)
 ·rw [getD_set_ne false hik] at hk
  exact keep _ (hc k o ho hk e he hb)
theorem zfQ {i j:Nat} {o:Oper} (h:zfc ops n i=true) (hj:ops[j]?=some o) (hn:n<=j):zb6 ops ops.size j i=true:=by
 have hlt:j<ops.size:=(Array.getElem?_eq_some_iff.1 hj).1
 have h1:=List.all_eq_true.1 h j (List.mem_range.2 hlt)
 simp only [Bool.or_eq_true,decide_eq_true_eq] at h1
 rcases h1 with h1|h1
 ·omega
 ·exact h1
theorem zfH (ops:Array Oper) (m:Nat):zeI ops (Array.replicate m false):=by
 intro k o _ h
 simp only [Array.getD_eq_getD_getElem?,Array.getElem?_replicate] at h
 split at h<;>simp at h
theorem zdA {i:Nat} {oi:Oper} {v:Value} (hi:ops[i]?=some oi) (hs:Region.noSelect ops=true)
  (hQ:∀ c a w,Q (.panic c) (a.put oi.dst v) w->Q (.panic c) a w) (ht:zfc ops n i=true) :
  ∀ (fuel:Nat) (listed:Array Bool) (a:Act) (w:World),zeI ops listed ->
   (∀ j oj,ops[j]?=some oj->j ≠ i->listed.getD j true=false->(∀ e ∈ oj.after,Region.binds .any e=true->e.on ≠ i)->oi.apart ops oj=true) ->
   i ∈ Region.ready .any ops listed->YieldsQ P ops S oi v a->S w ->
   zbP P ops Q S n fuel (listed.setIfInBounds i true) (a.put oi.dst v) w->zbP P ops Q S n (fuel+1) listed a w:=by
 have hsel:=Region.noSelect_spec hs
 intro fuel
 induction fuel with
 | zero =>
  intro listed a w _ _ hr hy hS H
  refine ⟨fun h=>(by rw [h] at hr;cases hr),fun j hj=>?_⟩
  by_cases hji:j=i
  ·subst hji;exact hy.wpOp hi hS ⟨fun _=>hS,H⟩
  ·have:=ready_mono hj hji
   rw [H.1] at this
   cases this
 | succ fuel ih =>
  intro listed a w hcl hfree hr hy hS H
  refine ⟨fun h=>(by rw [h] at hr;cases hr),fun j hj=>?_⟩
  by_cases hji:j=i
  ·subst hji;exact hy.wpOp hi hS ⟨fun _=>hS,H⟩
  ·have h1:=H.2 j (ready_mono hj hji)
   obtain ⟨hjun,oj,hoj,hall⟩:=mem_ready.1 hj
   have hnot:∀ e ∈ oj.after,Region.binds .any e=true->e.on ≠ i:=fun e he hb heq =>
    za3 (mem_ready.1 hr).1 (heq ▸ hall e he hb)
   have hjn:j<n:=by
    rcases Nat.lt_or_ge j n with h|h
    ·exact h
    ·exact (za3 (mem_ready.1 hr).1 (zcI hcl _ j oj hoj hall (zfQ ht hoj h))).elim
   have h2:=zdz hoj (hfree j oj hoj hji hjun hnot) (fun cs b=>hsel i oi cs b hi) (fun cs b=>hsel j oj cs b hoj) hQ hy h1
   have hfree':∀ k ok,ops[k]?=some ok->k ≠ i->(listed.setIfInBounds j true).getD k true=false ->
     (∀ e ∈ ok.after,Region.binds .any e=true->e.on ≠ i)->oi.apart ops ok=true:=fun k ok hk hki hun hno=>by
    refine hfree k ok hk hki ?_ hno
    by_cases hjk:j=k
    ·subst hjk;exact hjun
    ·rw [getD_set_ne true hjk] at hun;exact hun
   refine wpOp_mono (fun a' w' h3=>⟨fun _=>h3.2.1 hjn,ih (listed.setIfInBounds j true) a' w' (zbB hcl hj) hfree' (ready_mono hr (Ne.symm hji)) h3.1 (h3.2.1 hjn) ?_⟩) h2
   rw [Array.setIfInBounds_comm _ _ hji]
   exact h3.2.2
def zeC (ops:Array Oper) (n:Nat):List (Nat × Bool)->Array Bool->Bool
 | [],listed=>(Region.ready .any ops listed).isEmpty
 | (i,true) :: r,listed=>decide (i<n) && (Region.ready .any ops listed).contains i && Region.free .any ops listed i && zfc ops n i && zeC ops n r (listed.setIfInBounds i true)
 | (i,false) :: r,listed=>(decide (i<n) || r.all fun x=>decide (n<=x.1)) && (match Region.ready .any ops listed with|[j]=>j==i|_=>false) && zeC ops n r (listed.setIfInBounds i true)
theorem zb2 {ι : Type} {F : ι->World} (hs:Region.noSelect ops=true) (hQ:∀ c (a:Act) (d:Option Tmp) (v:Value) w,Q (.panic c) (a.put d v) w->Q (.panic c) a w) :
  ∀ (ord:List (Nat × Bool)) (listed:Array Bool) (a:Act) (w:World),zeI ops listed->zeC ops n ord listed=true->((∃ x ∈ ord,x.1<n)->Sf F w)->zaU P ops Q F n ord a w ->
   zbP P ops Q (Sf F) n ord.length listed a w
 | [],listed,a,w,_,hok,_,h=>by
  simp only [zeC,List.isEmpty_iff] at hok
  exact ⟨hok,h⟩
 | (i,true) :: r,listed,a,w,hcl,hok,hS,h=>by
  simp only [zeC,Bool.and_eq_true,decide_eq_true_eq] at hok
  obtain ⟨⟨⟨⟨hin,hr⟩,hf⟩,ht⟩,hok⟩:=hok
  have hw:=hS ⟨(i,true),by simp,hin⟩
  simp only [zaU] at h
  cases ho:ops[i]? with
  | none=>simp [ho] at h
  | some o =>
   simp only [ho] at h
   have again:=fun a' h'=>zb2 hs hQ r (listed.setIfInBounds i true) a' w (zbB hcl (by simpa using hr)) hok (fun _=>hw) h'
   by_cases hwt:Region.wanted o (yielded ops a.tmps)=true
   ·simp only [hwt,if_true] at h
    obtain ⟨v,hv,hk⟩:=h
    exact zdA ho hs (fun c a w=>hQ c a _ _ w) ht _ listed a w hcl (Region.free_spec ho hf) (by simpa using hr)
     (Or.inl ⟨hwt,fun w' hw'=>by obtain ⟨X,rfl⟩:=hw';exact hv X⟩) hw (again _ hk)
   ·have hwt':Region.wanted o (yielded ops a.tmps)=false:=by simpa using hwt
    simp only [hwt',Bool.false_eq_true,if_false] at h
    exact zdA ho hs (fun c a w=>hQ c a _ _ w) ht _ listed a w hcl (Region.free_spec ho hf) (by simpa using hr)
     (Or.inr ⟨hwt',rfl⟩) hw (again _ h)
 | (i,false) :: r,listed,a,w,hcl,hok,hS,h=>by
  simp only [zeC,Bool.and_eq_true,Bool.or_eq_true,decide_eq_true_eq] at hok
  obtain ⟨⟨hin,hr⟩,hok⟩:=hok
  have hr':Region.ready .any ops listed = [i]:=by
   split at hr
   ·rename_i j hj;rw [hj];simp at hr;rw [hr]
   ·cases hr
  refine ⟨fun h0=>(by rw [h0] at hr';cases hr'),fun j hj=>?_⟩
  rw [hr',List.mem_singleton] at hj
  subst hj
  simp only [zaU] at h
  cases ho:ops[j]? with
  | none=>simp [ho] at h
  | some o =>
   simp only [ho] at h
   unfold wpOp
   simp only [ho]
   have again:=fun (a':Act) (w':World) (hw':(∃ x ∈ r,x.1<n)->Sf F w') h'=>zb2 (F:=F) hs hQ r (listed.setIfInBounds j true) a' w' (zbB hcl (by rw [hr'];simp)) hok hw' h'
   have later:(∃ x ∈ r,x.1<n)->j<n:=fun ⟨x,hx,hxn⟩=>by
    rcases hin with h1|h1
    ·exact h1
    ·have:=List.all_eq_true.1 h1 x hx
     simp only [decide_eq_true_eq] at this
     omega
   by_cases hwt:Region.wanted o (yielded ops a.tmps)=true
   ·simp only [hwt,if_true] at h ⊢
    exact Or.inl (Oper.wp_mono (fun a' w' h'=>⟨h'.1,again a' w' (fun hx=>h'.1 (later hx)) h'.2⟩) h)
   ·have hwt':Region.wanted o (yielded ops a.tmps)=false:=by simpa using hwt
    simp only [hwt',Bool.false_eq_true,if_false] at h ⊢
    exact ⟨fun hj=>hS ⟨(j,false),by simp,hj⟩,again _ _ (fun hx=>hS ⟨(j,false),by simp,later hx⟩) h⟩
theorem ze4 {ι : Type} (F : ι->World) {id:Nat} {l:List Oper} {a:Act} {w:World} (ord:List (Nat × Bool)) (n:Nat) (hm:P.follows .mixedOrders=true)
  (hok:(zeC l.toArray n ord (Array.replicate l.toArray.size false) && Region.noSelect l.toArray && ord.length==l.toArray.size)=true)
  (h0:Sf F w.drew) (h:zaU P l.toArray (zd8 Q) F n ord a w.drew):(Code.region id l.toArray true).wp P Q a w:=by
 simp only [Bool.and_eq_true,beq_iff_eq] at hok
 have h1:(Code.region id l.toArray true).wp P (zd8 Q) a w:=by
  refine wp_region_any hm ?_
  rw [<- hok.2]
  exact zcT _ _ _ _ (zb2 hok.1.2 (fun _ _ _ _ _ h=>h) ord _ a _ (zfH _ _) (hok.2 ▸ hok.1.1) (fun _=>h0) h)
 exact Code.wp_mono (fun e a w h=>by cases e<;>first|exact h|exact h.elim) h1
theorem zag {id:Nat} {l:List Oper} {a:Act} {w:World} (ord:List (Nat × Bool)) (n:Nat) (hm:P.follows .mixedOrders=true)
  (hok:(zeC l.toArray n ord (Array.replicate l.toArray.size false) && Region.noSelect l.toArray && ord.length==l.toArray.size)=true)
  (h:zaU P l.toArray (zd8 Q) (fun X=>w.ext X) n ord a w.drew):(Code.region id l.toArray true).wp P Q a w:=ze4 (fun X=>w.ext X) ord n hm hok (Sx.drew w) h
end
end Go
