/- Texts of this claim, merged: the walks and what they stand on. Each condition stands in its theorem. -/
import Derived.Ground.Names2Prog
import Derived.Ground.PaProg
import Derived.Ground.SlgfProg
import Derived.Ground.SlgmProg
import Derived.Ground.SlgnProg
import Derived.Shelf.Hex.Decode
import Derived.Shelf.Hex.DecodeOwns
import Derived.Shelf.Hex.Encode
import Derived.Shelf.Hex.Lens
import Derived.Shelf.Hex.More
import Derived.Shelf.Hex.Tagged
import Derived.Shelf.LaysC
import Derived.Shelf.LaysM
import Derived.Shelf.Slices.Cells
import Derived.Shelf.Slices.ReverseS
import Derived.Shelf.SlicesE.IndexFunc
import Derived.Shelf.SlicesE.Reverse
import Derived.Shelf.Small.Bits
import Derived.Shelf.Small.Wraps
import Derived.Shelf.SortM.Plain
import Derived.Shelf.SortM.SortNone
import Derived.Shelf.Strconv.Atoi
import Derived.Shelf.Strconv.AtoiAll
import Derived.Shelf.Strconv.AtoiErr
import Derived.Shelf.Strconv.AtoiErrFast
import Derived.Shelf.Strconv.AtoiFail
import Derived.Shelf.Strconv.AtoiInnerAll
import Derived.Shelf.Strconv.AtoiLong
import Derived.Shelf.Strconv.Clone
import Derived.Shelf.Strconv.ErrVar
import Derived.Shelf.Strconv.ErrVarAll
import Derived.Shelf.Strconv.Itoa0
import Derived.Shelf.Strconv.Itoa1
import Derived.Shelf.Strconv.Itoa2
import Derived.Shelf.Strconv.Itoa3
import Derived.Shelf.Strconv.Lower
import Derived.Shelf.Strconv.ParseInt10
import Derived.Shelf.Strconv.ParseInt10All
import Derived.Shelf.Strconv.ParseInt10At16
import Derived.Shelf.Strconv.ParseInt10At32
import Derived.Shelf.Strconv.ParseInt10At64
import Derived.Shelf.Strconv.ParseInt10At8
import Derived.Shelf.Strconv.ParseIntEmpty
import Derived.Shelf.Strconv.ParseUint10
import Derived.Shelf.Strconv.ParseUint10Any
import Derived.Shelf.Strconv.ParseUint10At
import Derived.Shelf.Strconv.ParseUint10Empty
import Derived.Shelf.Strconv.ParseUint10b16
import Derived.Shelf.Strconv.ParseUint10b32
import Derived.Shelf.Strconv.ParseUint10b64
import Derived.Shelf.Strconv.ParseUint10b8
import Derived.Shelf.Strconv.ParseUintEmpty
import Derived.Shelf.Strconv.RangeError
import Derived.Shelf.Strconv.SyntaxError
import Derived.Shelf.Strconv.ToError
import Derived.Shelf.Strconv.ToErrorRange
import Derived.Shelf.Strings.Prefix
import Derived.Test.YtpnoehpmgflibaaGreatDoorCA6
import Derived.Test.YtpnoehpmgflibaaGreatDoorProg
set_option linter.unusedVariables false
set_option linter.unusedSimpArgs false
set_option maxRecDepth 100000
set_option maxHeartbeats 8000000
namespace Go.Proofs.YtpnoehpmgflibaaGreatDoor
open Go.ChangeShapes Go.WideShapes Go.ChangeAt Go.RowKit
def geS (x y:ByteArray):Bool:=!ltS y x
theorem zgG {xs:List ByteArray} {x:ByteArray} (n:Nat) (hn:n<xs.length) (h:(xs.take n).any (geS x)=false) (h2:geS x xs[n]=true):zaH xs x=n:=by
 have e:xs=xs.take n++xs[n] :: xs.drop (n+1):=by rw [<- List.drop_eq_getElem_cons hn,List.take_append_drop]
 have ha:∀ y ∈ xs.take n,ltS y x=true:=fun y hy=>by
  rw [List.any_eq_false] at h
  have:=h y hy
  simpa [geS] using this
 have h3:ltS xs[n] x=false:=by simpa [geS] using h2
 unfold zaH
 conv=>lhs;rw [e]
 rw [List.takeWhile_append_of_pos ha,List.takeWhile_cons,h3,if_neg (by decide),List.append_nil,List.length_take]
 omega
theorem zlW {xs:List ByteArray} {x:ByteArray} (h:xs.any (geS x)=false):zb3 xs x=xs ++ [x]:=by
 have ha:∀ y ∈ xs,ltS y x=true:=fun y hy=>by
  rw [List.any_eq_false] at h
  have:=h y hy
  simpa [geS] using this
 have e:xs.takeWhile (ltS · x)=xs:=by
  have:=List.takeWhile_append_of_pos (l₂:=[]) ha
  simpa using this
 have e2:zaH xs x=xs.length:=by unfold zaH;rw [e]
 unfold zb3
 rw [e2,if_neg (by simp),List.take_length,List.drop_length]
theorem zk5 {xs:List ByteArray} {x:ByteArray} (n:Nat) (hn:n<xs.length) (h:(xs.take n).any (geS x)=false) (h2:geS x xs[n]=true) (h3:xs[n]=x):zb3 xs x=xs:=by
 unfold zb3
 rw [zgG n hn h h2,if_pos (by rw [List.getElem?_eq_getElem hn,h3])]
theorem putS_in {xs:List ByteArray} {x:ByteArray} (n:Nat) (hn:n<xs.length) (h:(xs.take n).any (geS x)=false) (h2:geS x xs[n]=true) (h3:xs[n] ≠ x):zb3 xs x=xs.take n++x :: xs.drop n:=by
 unfold zb3
 rw [zgG n hn h h2,if_neg (by rw [List.getElem?_eq_getElem hn];simpa using h3)]
theorem zeW (y x:ByteArray) (b:Nat) (w:World) (hb:b<w.heap.size) (hc:w.cell? ⟨b,0,none⟩=some (.string x)) :
  Calls Tryz.prog 230 #[.string y,.pointer (some ⟨b,0,none⟩)] w fun e w'=>e=.returned (.bool (geS x y))/\Below w.heap.size w w':=by
 cases hg:ltS y x with
 | true =>
  have hl:Op.bytesLess y.toList x.toList=true:=hg
  have hge:geS x y=false:=by unfold geS;rw [hg];rfl
  rw [hge]
  clear hge
  go_enter Tryz.func230,Tryz.ntmps230
  go_wp2
  go_ret
  exact ⟨by first|rfl|simp,(by repeat (first|with_reducible exact Below.refl _ _|with_reducible apply Below.ofExt|with_reducible apply Below.ofAlloc|with_reducible apply Below.drew|with_reducible apply Below.ofDrewN|with_reducible assumption|(with_reducible refine Below.setCell ?_ (by first|exact Nat.le_refl _|(simp [go_sem];done)|(simp [go_sem];omega)) _)))⟩
 | false =>
  have hl:Op.bytesLess y.toList x.toList=false:=hg
  have hge:geS x y=true:=by unfold geS;rw [hg];rfl
  rw [hge]
  clear hge
  go_enter Tryz.func230,Tryz.ntmps230
  go_wp2
  go_ret
  exact ⟨by first|rfl|simp,(by repeat (with_reducible exact Below.refl _ _))⟩
theorem zca (v:Value) (ds:List ByteArray) (key:ByteArray) (b0:Nat) (w:World) (hs:RdL zx w v ds) (hb0:b0<w.heap.size) (hc0:w.cell? ⟨b0,0,none⟩=some (.string key)) :
  Calls Tryz.prog 101 #[v,.func (Fn.func 230) #[] #[.pointer (some ⟨b0,0,none⟩)]] w fun e w'=>e=.returned (.int .i64 (zaw (geS key) ds))/\Below w.heap.size w w':=by
 obtain ⟨ao,cap,rfl,hc1,hc2,hnil,hne⟩:=hs.shape
 have HX:=Hd hne
 have HC:=Hd hc0
 clear hs hne hnil hc0
 unfold maxLen at hc2
 go_enter Tryz.func101,Tryz.ntmps101
 go_wp2
 go_loopw [8] (fun k wr=>∃ (n:Nat),k=.int .i64 n/\n<=ds.length/\Below w.heap.size w wr/\(ds.take n).any (geS key)=false) (fun k _=>ds.length - (intOf k).toNat)
 case atStart=>exact ⟨0,rfl,by omega,(by repeat (with_reducible exact Below.refl _ _)),rfl⟩
 case round =>
  obtain ⟨n,rfl,hn,hbel,hany⟩:=hrel
  obtain ⟨X,rfl⟩:=hbel.ext
  have HA:=Hd hany
  clear hany
  by_cases hlt:(n:Int)<ds.length
  ·have hk:n<ds.length:=by omega
   obtain ⟨b,off,rfl,hbl,hcell⟩:=HX.out (by intro e;simp [e] at hk)
   have hc:=hcell n hk
   have hst:=zax (geS key) ds n hk
   have hff:(ds.take n).any (geS key)=false->geS key ds[n]=true->zaw (geS key) ds=n:=fun h h2=>zaE (geS key) ds n hk h h2
   generalize ds[n]=d at hc hst hff
   have y0:w.cell? ⟨b,off+n,none⟩=some (.string d):=by have h:=hc 0 _ rfl;simpa [zx] using h
   clear hc hcell
   have hbl:=hbl (by decide)
   have HT:=Hd hst
   have HF:=Hd hff
   clear hst hff
   cases hm:geS key d with
   | true =>
    have HM:=Hd hm
    clear hm
    go_wp2_with fail
    (go_at_call 230;refine (zeW d key b0 _ (by simp [go_sem];try omega) (by repeat (first|exact HC.out|refine Grew.cell (Grew.ext _ _) ?_))).mono ?_;rintro e w' ⟨rfl,hb⟩;obtain ⟨X,rfl⟩:=hb.ext;clear hb)
    rw [HM.out]
    go_wp2
    go_ret
    exact ⟨by rw [HF.out HA.out HM.out];rfl,(by repeat (first|with_reducible exact Below.refl _ _|with_reducible apply Below.ofExt|with_reducible apply Below.ofAlloc|with_reducible apply Below.drew|with_reducible apply Below.ofDrewN|with_reducible assumption|(with_reducible refine Below.setCell ?_ (by first|exact Nat.le_refl _|(simp [go_sem];done)|(simp [go_sem];omega)) _)))⟩
   | false =>
    have HM:=Hd hm
    clear hm
    go_wp2_with fail
    (go_at_call 230;refine (zeW d key b0 _ (by simp [go_sem];try omega) (by repeat (first|exact HC.out|refine Grew.cell (Grew.ext _ _) ?_))).mono ?_;rintro e w' ⟨rfl,hb⟩;obtain ⟨X,rfl⟩:=hb.ext;clear hb)
    rw [HM.out]
    go_wp2
    go_roundw
    case rel=>exact ⟨n+1,by go_num,by omega,(by repeat (first|with_reducible exact Below.refl _ _|with_reducible apply Below.ofExt)),by rw [HT.out,HA.out,HM.out];rfl⟩
    case measure=>simp [intOf];omega
  ·go_wp2
   go_ret
   have e:n=ds.length:=by omega
   subst e
   have ha:=HA.out
   rw [List.take_length] at ha
   exact ⟨by rw [zaI (geS key) ds ha];rfl,(by repeat (first|with_reducible exact Below.refl _ _|with_reducible apply Below.ofExt))⟩
theorem zds (v:Value) (ds:List ByteArray) (x:ByteArray) (B:Nat) (w:World) (ho:OwnL zx 9 w B v ds) (hl:ds.length<=549755813888) (hB:B<=w.heap.size) :
  Calls Tryz.prog 206 #[v,.string x] w fun e w'=>∃ v',e=.returned v'/\OwnL zx 9 w' B v' (zb3 ds x)/\Upon v.ownBlock.toList w w'/\(∀ k,v'.ownBlock=some k->v.ownBlock=some k ∨ w.heap.size<=k):=by
 obtain ⟨ao,cap,rfl,hc1,hc2,hnil,hne⟩:=ho.rd.shape
 have HO:=Hd ho
 have HSB:=Hd hB
 have HX:=Hd hne
 have hnb:(Value.slice ao ds.length cap).ownBlock ≠ some w.heap.size:=fun e=>absurd (ho.lt _ e).2 (Nat.lt_irrefl _)
 clear ho hB hne hnil
 unfold maxLen at hc2
 cases hany:ds.any (geS x) with
 | false =>
  have HI:Hid (zaw (geS x) ds = -1):=zaI _ _ hany
  have HF:Hid (zb3 ds x=ds ++ [x]):=zlW hany
  clear hany
  go_enter Tryz.func206,Tryz.ntmps206
  go_wp2_with fail
  (go_at_call 101;refine (zca _ ds x w.heap.size _ ((HO.out.alloc _).rd) (by simp [go_sem]) (by simp [go_sem])).mono ?_;rintro e w' ⟨rfl,hb⟩;obtain ⟨X,rfl⟩:=hb.ext;clear hb)
  rw [HI.out]
  go_wp2_with (at_builtin;refine zA ?_)
  refine zaK rfl _ _ _ rfl zC (B:=B) (v:=.slice ao ds.length cap) (R:=zx) (xs:=ds) (by repeat (first|exact HO.out|apply OwnL.alloc|apply OwnL.ext)) rfl (ys:=[x]) (RdL.oneAt zx _ x _ rfl _ _ (by simp [zm])) rfl (by simp only [List.length_singleton];omega) (by simp only [List.length_singleton];unfold maxLen;omega) (by simp [zm];have:=HSB.out;omega) ?_
  intro v4 w4 hown4 hgr4 hwh4
  have HO4:=Hd hown4
  have HU4:=Hd (Upon.trans (show Upon (Value.slice ao ds.length cap).ownBlock.toList w _ from Upon.below (by repeat (first|with_reducible exact Below.refl _ _|with_reducible apply Below.ofExt|with_reducible apply Below.ofAlloc))) (zbo hgr4))
  have HW4:Hid (∀ k,v4.ownBlock=some k->(Value.slice ao ds.length cap).ownBlock=some k ∨ w.heap.size<=k):=fun k h=>by
   rcases hwh4 with h2|h2
   ·left;rw [<- h,h2]
   ·right
    rw [h] at h2
    have h3:=Option.some.inj h2
    (try simp [zm] at h3)
    omega
  clear hown4 hgr4 hwh4
  go_wp2
  go_ret
  exact ⟨_,rfl,by rw [HF.out];exact HO4.out,HU4.out,HW4.out⟩
 | true =>
  obtain ⟨n,hn,hbef,hat⟩:=ze6 _ _ hany
  have HI:Hid (zaw (geS x) ds=n):=zaE _ _ n hn hbef hat
  obtain ⟨b,off,rfl,hbl,hcell⟩:=HX.out (by intro e;simp [e] at hn)
  have hc:=hcell n hn
  have hbl:=hbl (by decide)
  have hns:w.heap.size ≠ b:=by omega
  by_cases hsame:ds[n]=x
  ·have HF:Hid (zb3 ds x=ds):=zk5 n hn hbef hat hsame
   rw [hsame] at hc
   have y0:w.cell? ⟨b,off+n,none⟩=some (.string x):=by have h:=hc 0 _ rfl;simpa [zx] using h
   have hke:(x.toList==x.toList)=true:=by simp
   clear hany hbef hat hc hcell hsame
   go_enter Tryz.func206,Tryz.ntmps206
   go_wp2_with fail
   (go_at_call 101;refine (zca _ ds x w.heap.size _ ((HO.out.alloc _).rd) (by simp [go_sem]) (by simp [go_sem])).mono ?_;rintro e w' ⟨rfl,hb⟩;obtain ⟨X,rfl⟩:=hb.ext;clear hb)
   rw [HI.out]
   go_wp2_with fail
   go_quiet (fail)
   go_wp2
   go_ret
   exact ⟨_,rfl,by rw [HF.out];repeat (first|exact HO.out|apply OwnL.drew|apply OwnL.alloc|apply OwnL.ext),Upon.below (by repeat (first|with_reducible exact Below.refl _ _|with_reducible apply Below.ofExt|with_reducible apply Below.ofAlloc|with_reducible apply Below.ofDrewN)),fun k h=>.inl h⟩
  ·have HF:Hid (zb3 ds x=ds.take n++x :: ds.drop n):=putS_in n hn hbef hat hsame
   generalize hd:ds[n]=d at hc hsame
   have y0:w.cell? ⟨b,off+n,none⟩=some (.string d):=by have h:=hc 0 _ rfl;simpa [zx] using h
   have hke:(d.toList==x.toList)=false:=beq_false_of_ne fun e=>hsame (by apply ByteArray.ext;apply Array.toList_inj.1;rw [<- ByteArray.toList_eq,<- ByteArray.toList_eq,e])
   clear hany hbef hat hc hcell hsame hd
   go_enter Tryz.func206,Tryz.ntmps206
   go_wp2_with fail
   (go_at_call 101;refine (zca _ ds x w.heap.size _ ((HO.out.alloc _).rd) (by simp [go_sem]) (by simp [go_sem])).mono ?_;rintro e w' ⟨rfl,hb⟩;obtain ⟨X,rfl⟩:=hb.ext;clear hb)
   rw [HI.out]
   go_wp2_with fail
   go_quiet (fail)
   go_wp2_with fail
   (go_at_call 231;refine (ziG _ ds n x _ B _ (by repeat (first|exact HO.out|apply OwnL.alloc|apply OwnL.ext)) (by omega) (alloc_new _ _ _ (by simp [zm])) (fun e=>by have:=(HO.out.lt _ e).2;omega) (by omega) (by simp [zm];have:=HSB.out;omega)).mono ?_;rintro e w2 ⟨v2,rfl,ho2,hu2,hw2⟩)
   have HO2:=Hd ho2
   have HU2:=Hd (Upon.trans (show Upon (Value.slice (some ⟨b,off,none⟩) ds.length cap).ownBlock.toList w _ from Upon.below (by repeat (first|with_reducible exact Below.refl _ _|with_reducible apply Below.ofExt|with_reducible apply Below.ofAlloc))) hu2)
   have HW2:Hid (∀ k,v2.ownBlock=some k->(Value.slice (some ⟨b,off,none⟩) ds.length cap).ownBlock=some k ∨ w.heap.size<=k):=fun k h=>by
    rcases hw2 with h2|h2
    ·left;rw [<- h,h2]
    ·right
     rw [h] at h2
     have h3:=Option.some.inj h2
     (try simp [zm] at h3)
     omega
   clear ho2 hu2 hw2
   go_wp2
   go_ret
   exact ⟨_,rfl,by rw [HF.out];exact HO2.out,HU2.out,HW2.out⟩
theorem bl1 (s:ByteArray):s.toList=s.data.toList:=ByteArray.toList_eq s
theorem cut_list (s:ByteArray) (j i:Nat):(s.extract j i).data.toList=(s.data.toList.drop j).take (i - j):=by
 rw [ByteArray.data_extract,Array.toList_extract]
theorem pow10_le {n:Nat} (h:n<=10):(10:Int) ^ n<=10 ^ 10:=by
 have hall:∀ x:Fin 11,(10:Int) ^ x.val<=10 ^ 10:=by decide
 exact hall ⟨n,by omega⟩
theorem zeC (c:UInt8) (w:World) :
  Calls Tryz.prog 227 #[.int .u8 (c.toNat:Int)] w fun e w'=>e=.returned (.int .i64 (zeo c))/\w=w':=by
 have hc:(c.toNat:Int)<=255:=by have:=c.toNat_lt;omega
 have hc0 : 0<=(c.toNat:Int):=by omega
 obtain ⟨x,hx⟩ : ∃ x,x=zeo c:=⟨_,rfl⟩
 rw [<- hx]
 unfold zeo at hx
 go_enter Tryz.func227,Tryz.ntmps227
 by_cases h1 : 48<=(c.toNat:Int)
 ·by_cases h2:(c.toNat:Int)<=57
  ·rw [if_pos ⟨h1,h2⟩] at hx
   subst hx
   go_wp2
   go_ret
   exact ⟨rfl,rfl⟩
  ·rw [if_neg (by omega)] at hx
   by_cases h3 : 97<=(c.toNat:Int)
   ·by_cases h4:(c.toNat:Int)<=102
    ·rw [if_pos ⟨h3,h4⟩] at hx
     subst hx
     go_wp2
     go_ret
     exact ⟨rfl,rfl⟩
    ·rw [if_neg (by omega)] at hx
     subst hx
     go_wp2
     go_ret
     exact ⟨rfl,rfl⟩
   ·rw [if_neg (by omega)] at hx
    subst hx
    go_wp2
    go_ret
    exact ⟨rfl,rfl⟩
 ·rw [if_neg (by omega),if_neg (by omega)] at hx
  subst hx
  go_wp2
  go_ret
  exact ⟨rfl,rfl⟩
theorem zkV (s:ByteArray) (w:World) (hs:s.size<=1048576) :
  Calls Tryz.prog 192 #[.string s] w (UnhP s w):=by
 have hsl:s.data.toList.length=s.size:=by simp
 go_enter Tryz.func192,Tryz.ntmps192
 by_cases hb:(40000:Int)<s.size
 ·have hu:=fun q=>Unh.long (L:=s.data.toList) (.inl (by omega)) q
  have HU:=Hd hu
  clear hsl hu
  go_wp2
  refine bodyPost_ret (by simp [results,Tryz.results192,go_sem];rfl) rfl ?_
  exact UnhP.no HU.out (by repeat (with_reducible exact Below.refl _ _))
 by_cases hodd:(s.size:Int) % 2=0
 case neg =>
  have hu:=fun q=>Unh.long (L:=s.data.toList) (.inr (by omega)) q
  have HU:=Hd hu
  clear hsl hu
  go_wp2
  refine bodyPost_ret (by simp [results,Tryz.results192,go_sem];rfl) rfl ?_
  exact UnhP.no HU.out (by repeat (with_reducible exact Below.refl _ _))
 go_wp2
 go_loopw [4,5,6,7] (fun o k _ _ wr=>∃ (m:Nat) (l:List UInt8),k=.int .i64 (2*m:Nat)/\2*m<=s.size/\Below w.heap.size w wr/\OwnB 5 wr w.heap.size o l/\l.length=m/\UnhTo s.data.toList l m) (fun _ k _ _ _=>s.size - (intOf k).toNat)
 case atStart=>exact ⟨0,[],rfl,by omega,(by repeat (first|with_reducible exact Below.refl _ _|with_reducible apply Below.ofAlloc)),OwnB.empty _ _,rfl,UnhTo.nil _⟩
 case round =>
  obtain ⟨m,l,rfl,hn,hbel,ho,hll,hu⟩:=hrel
  obtain ⟨X,rfl⟩:=hbel.ext
  subst hll
  have HU:=Hd hu
  have HSL:=Hd hsl
  clear hu hsl
  by_cases hlt:((2*l.length:Nat):Int)<s.size
  case pos =>
   have hk : 2*l.length+1<s.data.toList.length:=by rw [HSL.out];omega
   have hk1 : 2*l.length<s.size:=by omega
   have hk2 : 2*l.length+1<s.size:=by omega
   have hv1:=zhV s[2*l.length]
   have hv2:=zhV s[2*l.length+1]
   have e1:s.data.toList[2*l.length]'(by omega)=s[2*l.length]:=rfl
   have e2:s.data.toList[2*l.length+1]'hk=s[2*l.length+1]:=rfl
   obtain ⟨oa,oc,rfl⟩:=ho.form
   have HO:=Hd ho
   clear ho
   have hc1:(s[2*l.length].toNat:Int)<=255:=by have:=s[2*l.length].toNat_lt;omega
   have hc2:(s[2*l.length+1].toNat:Int)<=255:=by have:=s[2*l.length+1].toNat_lt;omega
   have HB:=Hd (fun h r=>UnhTo.bad (L:=s.data.toList) hk h r)
   have HST:=Hd (fun c hc h1 h2=>UnhTo.step HU.out hk (c:=c) hc h1 h2)
   rw [e1,e2] at HB HST
   go_wp2_with fail
   (go_at_call 227;refine (zeC _ _).mono ?_;rintro e w' ⟨rfl,rfl⟩)
   go_wp2_with fail
   (go_at_call 227;refine (zeC _ _).mono ?_;rintro e w' ⟨rfl,rfl⟩)
   obtain ⟨cc,hcc⟩ : ∃ cc:UInt8,0<=zeo s[2*l.length]->0<=zeo s[2*l.length+1]->(cc.toNat:Int)=16*zeo s[2*l.length]+zeo s[2*l.length+1]:=by
    refine ⟨UInt8.ofNat (16*zeo s[2*l.length]+zeo s[2*l.length+1]).toNat,fun h1 h2=>?_⟩
    rw [UInt8.toNat_ofNat']
    omega
   generalize hxe:zeo s[2*l.length]=x at *
   generalize hye:zeo s[2*l.length+1]=y at *
   have HXE:=Hd hxe
   have HYE:=Hd hye
   clear hxe hye
   have HCC:=Hd hcc
   clear hcc
   by_cases hx:x<0
   ·go_wp2
    refine bodyPost_ret (by simp [results,Tryz.results192,go_sem];rfl) rfl ?_
    exact UnhP.no (HB.out (.inl hx)) (by repeat (first|with_reducible exact Below.refl _ _|with_reducible apply Below.ofExt))
   by_cases hy:y<0
   ·go_wp2
    refine bodyPost_ret (by simp [results,Tryz.results192,go_sem];rfl) rfl ?_
    exact UnhP.no (HB.out (.inr hy)) (by repeat (first|with_reducible exact Below.refl _ _|with_reducible apply Below.ofExt))
   have hcc:=HCC.out (by omega) (by omega)
   go_wp2_with (at_builtin;refine zA ?_)
   refine zcZ _ zaX rfl (.tmp 39) (.tmp 45) rfl (B:=w.heap.size) (l:=l) (m:=[cc]) (HO.out.alloc _) rfl (zix _ cc (16*x+y) hcc.symm _ _ (by simp [zm])) rfl (by simp;omega) (by simp [zm];omega) ?_
   intro v4 w4 ho4 hg4
   have hb4:Below w.heap.size w w4:=Below.appB (by repeat (first|with_reducible exact Below.refl _ _|with_reducible apply Below.ofExt|with_reducible apply Below.ofAlloc)) hg4 (HO.out.alloc _)
   obtain ⟨Y,rfl⟩:=hb4.ext
   have HO4:=Hd ho4
   clear ho4 hg4 hb4
   have hstep:=HST.out cc hcc (by first|omega|(rw [e1,HXE.out];omega)) (by first|omega|(rw [e2,HYE.out];omega))
   have HSTEP:=Hd hstep
   clear hstep
   go_wp2
   go_roundw
   case rel=>exact ⟨l.length+1,_,by go_num,by omega,(by repeat (first|with_reducible exact Below.refl _ _|with_reducible apply Below.ofExt)),HO4.out,by simp,HSTEP.out⟩
   case measure=>simp [intOf];omega
  case neg =>
   have e:s.size<=2*l.length:=by omega
   have hua:=UnhTo.all HU.out (by rw [HSL.out];exact e)
   have HUA:=Hd hua
   have hub:=UnhTo.back HU.out (by rw [HSL.out];exact e)
   have HUB:=Hd hub
   clear hub
   have hr:=zaB (P:=Tryz.prog) (w.ext X) zaX Tryz.underlying9 ho.sl
   have hsz:(zX l).size<=20000:=by rw [zN];omega
   have HSZ:=Hd hsz
   obtain ⟨oa,oc,rfl⟩:=ho.form
   clear ho hua hsz
   go_wp2
   refine bodyPost_ret (by simp [results,Tryz.results192,go_sem];rfl) rfl ?_
   exact UnhP.mk HSZ.out HUA.out (by repeat (first|with_reducible exact Below.refl _ _|with_reducible apply Below.ofExt)) HUB.out
theorem zfZ (s:ByteArray) (w:World) (hs:s.size<=1048576) :
  Calls Tryz.prog 229 #[.string s] w (NumP s w):=by
 have hsl:s.data.toList.length=s.size:=by simp
 go_enter Tryz.func229,Tryz.ntmps229
 by_cases hb:(10:Int)<s.size
 ·have hu:=Num.long (l:=s.data.toList) (by omega)
  clear hsl
  go_wp2
  refine bodyPost_ret (by simp [results,Tryz.results229,go_sem];rfl) rfl ?_
  exact NumP.no hu (by repeat (with_reducible exact Below.refl _ _))
 go_wp2
 go_loopw [4,5] (fun o k wr=>∃ (m:Nat) (n:Int),k=.int .i64 m/\m<=s.size/\Below w.heap.size w wr/\o=.int .i64 n/\n=ziz (s.data.toList.take m)/\∀ c ∈ s.data.toList.take m,zlk c) (fun _ k _=>s.size - (intOf k).toNat)
 case atStart=>exact ⟨0,0,rfl,by omega,(by repeat (with_reducible exact Below.refl _ _)),rfl,by simp [ziz],by simp⟩
 case round =>
  obtain ⟨m,n,rfl,hn,hbel,rfl,hv,hd⟩:=hrel
  obtain ⟨X,rfl⟩:=hbel.ext
  have hbd:=valD_bd _ hd
  rw [<- hv] at hbd
  have hp:(10:Int) ^ (s.data.toList.take m).length<=10 ^ 10:=pow10_le (by rw [List.length_take];omega)
  have hn0:=hbd.1
  have hn1:n<10000000000:=Int.lt_of_lt_of_le hbd.2 hp
  have HV:=Hd hv
  have HD:=Hd hd
  have HSL:=Hd hsl
  clear hv hd hbd hp hsl
  by_cases hlt:(m:Int)<s.size
  case pos =>
   have hk:m<s.data.toList.length:=by rw [HSL.out];omega
   have hk1:m<s.size:=by omega
   have e1:s.data.toList[m]'hk=s[m]:=rfl
   have hst:=ziC (s.data.toList.take m) (s.data.toList[m]'hk)
   rw [<- List.take_succ_eq_append_getElem hk,<- HV.out,e1] at hst
   have hmem:s[m] ∈ s.data.toList:=by rw [<- e1];exact List.getElem_mem hk
   have HST:=Hd hst
   have HM:=Hd hmem
   clear hst hmem
   have hc1:(s[m].toNat:Int)<=255:=by have:=s[m].toNat_lt;omega
   have hc0 : 0<=(s[m].toNat:Int):=by omega
   by_cases h1:(s[m].toNat:Int)<48
   ·have hu:=Num.bad HM.out (by unfold zlk;omega)
    have HUN:=Hd hu
    clear hu
    go_wp2
    refine bodyPost_ret (by simp [results,Tryz.results229,go_sem];rfl) rfl ?_
    exact NumP.no HUN.out (by repeat (first|with_reducible exact Below.refl _ _|with_reducible apply Below.ofExt))
   by_cases h2:(57:Int)<s[m].toNat
   ·have hu:=Num.bad HM.out (by unfold zlk;omega)
    have HUN:=Hd hu
    clear hu
    go_wp2
    refine bodyPost_ret (by simp [results,Tryz.results229,go_sem];rfl) rfl ?_
    exact NumP.no HUN.out (by repeat (first|with_reducible exact Below.refl _ _|with_reducible apply Below.ofExt))
   have hd2:∀ c ∈ s.data.toList.take (m+1),zlk c:=by
    rw [List.take_succ_eq_append_getElem hk,e1]
    intro c hc
    rcases List.mem_append.1 hc with hc|hc
    ·exact HD.out c hc
    ·rw [List.mem_singleton.1 hc]
     unfold zlk
     omega
   have HD2:=Hd hd2
   clear hd2 e1
   go_wp2
   go_roundw
   case rel=>exact ⟨m+1,_,by go_num,by omega,(by repeat (first|with_reducible exact Below.refl _ _|with_reducible apply Below.ofExt)),rfl,by rw [HST.out];omega,HD2.out⟩
   case measure=>simp [intOf];omega
  case neg =>
   have e:m=s.size:=by omega
   have hv2:n=ziz s.data.toList:=by have:=HV.out;rw [List.take_of_length_le (by rw [HSL.out];omega)] at this;exact this
   have HV2:=Hd hv2
   clear hv2
   by_cases h1 : 1000000000<n
   ·have hu:=Num.other HV2.out (.inl h1)
    have HUN:=Hd hu
    clear hu
    go_wp2
    refine bodyPost_ret (by simp [results,Tryz.results229,go_sem];rfl) rfl ?_
    exact NumP.no HUN.out (by repeat (first|with_reducible exact Below.refl _ _|with_reducible apply Below.ofExt))
   go_wp2_with fail
   (go_at_call 203;refine (zbQ n _ (by omega) (by omega)).mono ?_;rintro e w' ⟨rfl,hb⟩;obtain ⟨X,rfl⟩:=hb.ext;clear hb)
   by_cases he:Lib.itoa n=s.data.toList
   ·have hu:=Num.good hn0 (by omega) HV2.out
    have HUN:=Hd hu
    have HE:=Hd he
    have heq:zX (Lib.itoa n)=s:=by rw [he,za8]
    clear hu he
    rw [heq]
    go_wp2
    refine bodyPost_ret (by simp [results,Tryz.results229,go_sem];rfl) rfl ?_
    exact NumP.mk HUN.out (by repeat (first|with_reducible exact Below.refl _ _|with_reducible apply Below.ofExt)) HE.out
   ·have hu:=Num.other HV2.out (.inr he)
    have HUN:=Hd hu
    have heq:(((zX (Lib.itoa n)).toList==s.toList))=false:=by
     rw [beq_eq_false_iff_ne,bl1,bl1]
     exact fun e=>he (by rw [<- e,zht])
    clear hu he
    go_wp2
    refine bodyPost_ret (by simp [results,Tryz.results229,go_sem];rfl) rfl ?_
    exact NumP.no HUN.out (by repeat (first|with_reducible exact Below.refl _ _|with_reducible apply Below.ofExt))
theorem zh7 {α : Type} {R:RowOf α} {e:TypeId} {w w':World} {B:Nat} {v:Value} {xs:List α} (h:OwnL R e w B v xs) (hb:Below w.heap.size w w'):OwnL R e w' B v xs:=by
 obtain ⟨X,rfl⟩:=hb.ext
 exact h.ext X
def RrP (s:ByteArray) (w:World) (e:Ending) (w':World):Prop:=∃ n v b cs,e=.returned (.tuple #[.int .i64 n,v,.bool b])/\OwnL zu 47 w' w.heap.size v cs/\RrOk s n b cs/\Below w.heap.size w w'
theorem RrP.mk {s:ByteArray} {n:Int} {v:Value} {b:Bool} {cs:List CellD} {w w':World} (h1:OwnL zu 47 w' w.heap.size v cs) (h2:RrOk s n b cs) (h3:Below w.heap.size w w'):RrP s w (.returned (.tuple #[.int .i64 n,v,.bool b])) w':=⟨n,v,b,cs,rfl,h1,h2,h3⟩
end Go.Proofs.YtpnoehpmgflibaaGreatDoor
namespace Go.Proofs.YtpnoehpmgflibaaGreatDoor
open Go.Proofs Go.RowKit Go.Shelf Go.Lib
def Tryz.laysM171_ren:Go.Shelf.Ren:=⟨fun|171=>162|243=>215|246=>237|283=>258|284=>259|285=>260|286=>261|129=>248|317=>276|318=>277|319=>278|320=>279|337=>285|338=>286|n=>n,fun|3=>3|9=>9|2=>2|4=>4|171=>221|0=>0|53=>214|37=>22|5=>5|173=>223|212=>239|51=>212|20=>20|213=>240|46=>185|232=>254|233=>255|n=>n,fun|17=>0|18=>4|19=>5|n=>n⟩
theorem Tryz.laysM171:Go.Proofs.LaysM.n171 Tryz.prog Tryz.laysM171_ren:={
 mixed:=by kernel_rfl
 f129:=Tryz.func248.trans (congrArg some (by kernel_rfl))
 f171:=Tryz.func162.trans (congrArg some (by kernel_rfl))
 f243:=Tryz.func215.trans (congrArg some (by kernel_rfl))
 f246:=Tryz.func237.trans (congrArg some (by kernel_rfl))
 f283:=Tryz.func258.trans (congrArg some (by kernel_rfl))
 f284:=Tryz.func259.trans (congrArg some (by kernel_rfl))
 f285:=Tryz.func260.trans (congrArg some (by kernel_rfl))
 f286:=Tryz.func261.trans (congrArg some (by kernel_rfl))
 f317:=Tryz.func276.trans (congrArg some (by kernel_rfl))
 f318:=Tryz.func277.trans (congrArg some (by kernel_rfl))
 f319:=Tryz.func278.trans (congrArg some (by kernel_rfl))
 f320:=Tryz.func279.trans (congrArg some (by kernel_rfl))
 f337:=Tryz.func285.trans (congrArg some (by kernel_rfl))
 f338:=Tryz.func286.trans (congrArg some (by kernel_rfl))
 t0:=Tryz.underlying0
 a0:=Tryz.isAgg0
 z0:=Tryz.sizeOf0
 v0:=Tryz.zeroValue0
 t2:=Tryz.underlying2
 a2:=Tryz.isAgg2
 z2:=Tryz.sizeOf2
 v2:=Tryz.zeroValue2
 t3:=Tryz.underlying3
 a3:=Tryz.isAgg3
 z3:=Tryz.sizeOf3
 v3:=Tryz.zeroValue3
 t4:=Tryz.underlying4
 a4:=Tryz.isAgg4
 z4:=Tryz.sizeOf4
 v4:=Tryz.zeroValue4
 t5:=Tryz.underlying5
 a5:=Tryz.isAgg5
 z5:=Tryz.sizeOf5
 v5:=Tryz.zeroValue5
 t9:=Tryz.underlying9
 a9:=Tryz.isAgg9
 z9:=Tryz.sizeOf9
 v9:=Tryz.zeroValue9
 t20:=Tryz.underlying20
 a20:=Tryz.isAgg20
 z20:=Tryz.sizeOf20
 v20:=Tryz.zeroValue20
 t37:=Tryz.underlying22
 a37:=Tryz.isAgg22
 z37:=Tryz.sizeOf22
 v37:=Tryz.zeroValue22
 t46:=Tryz.underlying185
 a46:=Tryz.isAgg185
 z46:=Tryz.sizeOf185
 v46:=Tryz.zeroValue185
 t51:=Tryz.underlying212
 a51:=Tryz.isAgg212
 z51:=Tryz.sizeOf212
 v51:=Tryz.zeroValue212
 t53:=Tryz.underlying214
 a53:=Tryz.isAgg214
 z53:=Tryz.sizeOf214
 v53:=Tryz.zeroValue214
 t171:=Tryz.underlying221
 a171:=Tryz.isAgg221
 z171:=Tryz.sizeOf221
 v171:=Tryz.zeroValue221
 t173:=Tryz.underlying223
 a173:=Tryz.isAgg223
 z173:=Tryz.sizeOf223
 v173:=Tryz.zeroValue223
 t212:=Tryz.underlying239
 a212:=Tryz.isAgg239
 z212:=Tryz.sizeOf239
 v212:=Tryz.zeroValue239
 t213:=Tryz.underlying240
 a213:=Tryz.isAgg240
 z213:=Tryz.sizeOf240
 t232:=Tryz.underlying254
 a232:=Tryz.isAgg254
 z232:=Tryz.sizeOf254
 v232:=Tryz.zeroValue254
 t233:=Tryz.underlying255
 a233:=Tryz.isAgg255
 z233:=Tryz.sizeOf255
 v233:=Tryz.zeroValue255
 g17:=by kernel_rfl
 g18:=by kernel_rfl
 g19:=by kernel_rfl
 i0:=by kernel_rfl
 i2:=by kernel_rfl
 i3:=by kernel_rfl
 i4:=by kernel_rfl
 i5:=by kernel_rfl
 i9:=by kernel_rfl
 i20:=by kernel_rfl
 i37:=by kernel_rfl
 i46:=by kernel_rfl
 i51:=by kernel_rfl
 i53:=by kernel_rfl
 i171:=by kernel_rfl
 i173:=by kernel_rfl
 i212:=by kernel_rfl
 i232:=by kernel_rfl
 i233:=by kernel_rfl
 m17:=by kernel_rfl
 m18:=by kernel_rfl
 m19:=by kernel_rfl }
open Go.RowKit Go.Sort Go.Lib in
theorem Tryz.strconv_Itoa (n : Int) (h0 : -9223372036854775808 <= n) (h1 : n <= 9223372036854775807) (w : World) (htab : Lib.TabIs Tryz.prog w "internal/strconv.uint64pow10" .u64 Lib.pow10Tab) :
  Calls Tryz.prog 162 #[.int .i64 n] w fun e w'=>e=.returned (.string ⟨(Lib.itoa n).toArray⟩)/\∃ k os,w'=grow (w.drewN k) os:=Any.strconv_Itoa Tryz.laysM171 n h0 h1 w htab
def Tryz.laysC172_ren:Go.Shelf.Ren:=⟨fun|172=>236|244=>256|245=>257|247=>271|279=>272|280=>273|281=>274|282=>275|287=>282|316=>283|171=>162|205=>284|321=>287|322=>288|243=>215|246=>237|283=>258|284=>259|285=>260|286=>261|129=>248|317=>276|318=>277|319=>278|320=>279|337=>285|338=>286|n=>n,fun|9=>9|3=>3|75=>200|76=>201|4=>4|5=>5|167=>232|37=>22|0=>0|85=>233|2=>2|168=>235|53=>214|175=>244|46=>185|210=>247|127=>250|145=>253|143=>251|21=>21|171=>221|173=>223|212=>239|51=>212|20=>20|213=>240|232=>254|233=>255|80=>258|n=>n,fun|15=>2|16=>3|17=>0|18=>4|19=>5|n=>n⟩
theorem zc8:Go.Proofs.LaysC.n172 Tryz.prog Tryz.laysC172_ren:={
 mixed:=by kernel_rfl
 f129:=Tryz.func248.trans (congrArg some (by kernel_rfl))
 f171:=Tryz.func162.trans (congrArg some (by kernel_rfl))
 f172:=Tryz.func236.trans (congrArg some (by kernel_rfl))
 f205:=Tryz.func284.trans (congrArg some (by kernel_rfl))
 f243:=Tryz.func215.trans (congrArg some (by kernel_rfl))
 f244:=Tryz.func256.trans (congrArg some (by kernel_rfl))
 f245:=Tryz.func257.trans (congrArg some (by kernel_rfl))
 f246:=Tryz.func237.trans (congrArg some (by kernel_rfl))
 f247:=Tryz.func271.trans (congrArg some (by kernel_rfl))
 f279:=Tryz.func272.trans (congrArg some (by kernel_rfl))
 f280:=Tryz.func273.trans (congrArg some (by kernel_rfl))
 f281:=Tryz.func274.trans (congrArg some (by kernel_rfl))
 f282:=Tryz.func275.trans (congrArg some (by kernel_rfl))
 f283:=Tryz.func258.trans (congrArg some (by kernel_rfl))
 f284:=Tryz.func259.trans (congrArg some (by kernel_rfl))
 f285:=Tryz.func260.trans (congrArg some (by kernel_rfl))
 f286:=Tryz.func261.trans (congrArg some (by kernel_rfl))
 f287:=Tryz.func282.trans (congrArg some (by kernel_rfl))
 f316:=Tryz.func283.trans (congrArg some (by kernel_rfl))
 f317:=Tryz.func276.trans (congrArg some (by kernel_rfl))
 f318:=Tryz.func277.trans (congrArg some (by kernel_rfl))
 f319:=Tryz.func278.trans (congrArg some (by kernel_rfl))
 f320:=Tryz.func279.trans (congrArg some (by kernel_rfl))
 f321:=Tryz.func287.trans (congrArg some (by kernel_rfl))
 f322:=Tryz.func288.trans (congrArg some (by kernel_rfl))
 f337:=Tryz.func285.trans (congrArg some (by kernel_rfl))
 f338:=Tryz.func286.trans (congrArg some (by kernel_rfl))
 t0:=Tryz.underlying0
 a0:=Tryz.isAgg0
 z0:=Tryz.sizeOf0
 v0:=Tryz.zeroValue0
 t2:=Tryz.underlying2
 a2:=Tryz.isAgg2
 z2:=Tryz.sizeOf2
 v2:=Tryz.zeroValue2
 t3:=Tryz.underlying3
 a3:=Tryz.isAgg3
 z3:=Tryz.sizeOf3
 v3:=Tryz.zeroValue3
 t4:=Tryz.underlying4
 a4:=Tryz.isAgg4
 z4:=Tryz.sizeOf4
 v4:=Tryz.zeroValue4
 t5:=Tryz.underlying5
 a5:=Tryz.isAgg5
 z5:=Tryz.sizeOf5
 v5:=Tryz.zeroValue5
 t9:=Tryz.underlying9
 a9:=Tryz.isAgg9
 z9:=Tryz.sizeOf9
 v9:=Tryz.zeroValue9
 t20:=Tryz.underlying20
 a20:=Tryz.isAgg20
 z20:=Tryz.sizeOf20
 v20:=Tryz.zeroValue20
 t21:=Tryz.underlying21
 a21:=Tryz.isAgg21
 z21:=Tryz.sizeOf21
 v21:=Tryz.zeroValue21
 t37:=Tryz.underlying22
 a37:=Tryz.isAgg22
 z37:=Tryz.sizeOf22
 v37:=Tryz.zeroValue22
 t46:=Tryz.underlying185
 a46:=Tryz.isAgg185
 z46:=Tryz.sizeOf185
 v46:=Tryz.zeroValue185
 t51:=Tryz.underlying212
 a51:=Tryz.isAgg212
 z51:=Tryz.sizeOf212
 v51:=Tryz.zeroValue212
 t53:=Tryz.underlying214
 a53:=Tryz.isAgg214
 z53:=Tryz.sizeOf214
 v53:=Tryz.zeroValue214
 t75:=Tryz.underlying200
 a75:=Tryz.isAgg200
 z75:=Tryz.sizeOf200
 v75:=Tryz.zeroValue200
 t76:=Tryz.underlying201
 a76:=Tryz.isAgg201
 z76:=Tryz.sizeOf201
 v76:=Tryz.zeroValue201
 t85:=Tryz.underlying233
 a85:=Tryz.isAgg233
 z85:=Tryz.sizeOf233
 v85:=Tryz.zeroValue233
 t127:=Tryz.underlying250
 a127:=Tryz.isAgg250
 z127:=Tryz.sizeOf250
 v127:=Tryz.zeroValue250
 t143:=Tryz.underlying251
 a143:=Tryz.isAgg251
 z143:=Tryz.sizeOf251
 v143:=Tryz.zeroValue251
 t145:=Tryz.underlying253
 a145:=Tryz.isAgg253
 z145:=Tryz.sizeOf253
 v145:=Tryz.zeroValue253
 t167:=Tryz.underlying232
 a167:=Tryz.isAgg232
 z167:=Tryz.sizeOf232
 v167:=Tryz.zeroValue232
 t168:=Tryz.underlying235
 a168:=Tryz.isAgg235
 z168:=Tryz.sizeOf235
 v168:=Tryz.zeroValue235
 t171:=Tryz.underlying221
 a171:=Tryz.isAgg221
 z171:=Tryz.sizeOf221
 v171:=Tryz.zeroValue221
 t173:=Tryz.underlying223
 a173:=Tryz.isAgg223
 z173:=Tryz.sizeOf223
 v173:=Tryz.zeroValue223
 t175:=Tryz.underlying244
 a175:=Tryz.isAgg244
 z175:=Tryz.sizeOf244
 v175:=Tryz.zeroValue244
 t210:=Tryz.underlying247
 a210:=Tryz.isAgg247
 z210:=Tryz.sizeOf247
 v210:=Tryz.zeroValue247
 t212:=Tryz.underlying239
 a212:=Tryz.isAgg239
 z212:=Tryz.sizeOf239
 v212:=Tryz.zeroValue239
 t213:=Tryz.underlying240
 a213:=Tryz.isAgg240
 z213:=Tryz.sizeOf240
 t232:=Tryz.underlying254
 a232:=Tryz.isAgg254
 z232:=Tryz.sizeOf254
 v232:=Tryz.zeroValue254
 t233:=Tryz.underlying255
 a233:=Tryz.isAgg255
 z233:=Tryz.sizeOf255
 v233:=Tryz.zeroValue255
 g15:=by kernel_rfl
 g16:=by kernel_rfl
 g17:=by kernel_rfl
 g18:=by kernel_rfl
 g19:=by kernel_rfl
 t80:=Tryz.underlying258
 a80:=Tryz.isAgg258
 z80:=Tryz.sizeOf258
 v80:=Tryz.zeroValue258
 i0:=by kernel_rfl
 i2:=by kernel_rfl
 i3:=by kernel_rfl
 i4:=by kernel_rfl
 i5:=by kernel_rfl
 i9:=by kernel_rfl
 i20:=by kernel_rfl
 i21:=by kernel_rfl
 i37:=by kernel_rfl
 i46:=by kernel_rfl
 i51:=by kernel_rfl
 i53:=by kernel_rfl
 i75:=by kernel_rfl
 i76:=by kernel_rfl
 i80:=by kernel_rfl
 i85:=by kernel_rfl
 i127:=by kernel_rfl
 i143:=by kernel_rfl
 i145:=by kernel_rfl
 i167:=by kernel_rfl
 i168:=by kernel_rfl
 i171:=by kernel_rfl
 i173:=by kernel_rfl
 i175:=by kernel_rfl
 i210:=by kernel_rfl
 i212:=by kernel_rfl
 i232:=by kernel_rfl
 i233:=by kernel_rfl
 m15:=by kernel_rfl
 m16:=by kernel_rfl
 m17:=by kernel_rfl
 m18:=by kernel_rfl
 m19:=by kernel_rfl
 c0:=by kernel_rfl
 c2:=by kernel_rfl
 c3:=by kernel_rfl
 c4:=by kernel_rfl
 c5:=by kernel_rfl
 c9:=by kernel_rfl
 c20:=by kernel_rfl
 c21:=by kernel_rfl
 c37:=by kernel_rfl
 c46:=by kernel_rfl
 c51:=by kernel_rfl
 c53:=by kernel_rfl
 c75:=by kernel_rfl
 c76:=by kernel_rfl
 c80:=by kernel_rfl
 c85:=by kernel_rfl
 c127:=by kernel_rfl
 c143:=by kernel_rfl
 c145:=by kernel_rfl
 c167:=by kernel_rfl
 c168:=by kernel_rfl
 c171:=by kernel_rfl
 c173:=by kernel_rfl
 c175:=by kernel_rfl
 c210:=by kernel_rfl
 c212:=by kernel_rfl
 c213:=by kernel_rfl
 c232:=by kernel_rfl
 c233:=by kernel_rfl }
open Go.RowKit in
theorem Tryz.strconv_Atoi_ok (s:ByteArray) (hmax:s.size<=9223372036854775806) (v:Int) (h:Lib.atoiAll s.data.toList=.ok v) (w:World) :
  Calls Tryz.prog 236 #[.string s] w fun e w'=>e=.returned (.tuple #[.int .i64 v,.nilIface])/\(w'=w ∨ ∃ t,w'=Lib.bytesWorld w 5 t):=Any.strconv_Atoi_ok zc8 s hmax v h w
open Go.RowKit in
theorem Tryz.strconv_Atoi_syntax (s:ByteArray) (hlim:s.size<=281474976710656) (h:Lib.atoiAll s.data.toList=Lib.atoiAll []) (ev:Value) (w:World) (hv:w.cell? ⟨2,0,none⟩=some ev) (hev:ev=.nilIface ∨ ∃ te pe,ev=.iface te pe) :
  Calls Tryz.prog 236 #[.string s] w fun e w'=>∃ N,e=.returned (.tuple #[.int .i64 (0),.iface 235 (.pointer (some ⟨N,0,none⟩))])/\w.heap.size<=N/\w'.heap[N]?=some (.cells #[.string ⟨#[65,116,111,105]⟩,.string s,ev] 247 (0,0))/\Below w.heap.size w w':=Any.strconv_Atoi_syntax zc8 s hlim h ev w hv hev
open Go.RowKit in
theorem Tryz.strconv_Atoi_range (s:ByteArray) (hlim:s.size<=281474976710656) (h:Lib.atoiAll s.data.toList=.range) (ev:Value) (w:World) (hv:w.cell? ⟨3,0,none⟩=some ev) (hev:ev=.nilIface ∨ ∃ te pe,ev=.iface te pe) :
  Calls Tryz.prog 236 #[.string s] w fun e w'=>∃ N,e=.returned (.tuple #[.int .i64 (Lib.atoiSat s.data.toList),.iface 235 (.pointer (some ⟨N,0,none⟩))])/\w.heap.size<=N/\w'.heap[N]?=some (.cells #[.string ⟨#[65,116,111,105]⟩,.string s,ev] 247 (0,0))/\Below w.heap.size w w':=Any.strconv_Atoi_range zc8 s hlim h ev w hv hev
def Tryz.laysPah39_ren:Go.Shelf.Ren:=⟨fun|39=>233|41=>253|40=>254|n=>n,fun|30=>22|9=>9|3=>3|0=>0|5=>5|46=>185|n=>n,fun|n=>n⟩
theorem zd9:Go.Proofs.Lays.ph39 Tryz.prog Tryz.laysPah39_ren:={
 mixed:=by kernel_rfl
 f39:=Tryz.func233.trans (congrArg some (by kernel_rfl))
 f40:=Tryz.func254.trans (congrArg some (by kernel_rfl))
 f41:=Tryz.func253.trans (congrArg some (by kernel_rfl))
 t0:=Tryz.underlying0
 a0:=Tryz.isAgg0
 z0:=Tryz.sizeOf0
 v0:=Tryz.zeroValue0
 t3:=Tryz.underlying3
 a3:=Tryz.isAgg3
 z3:=Tryz.sizeOf3
 v3:=Tryz.zeroValue3
 t5:=Tryz.underlying5
 a5:=Tryz.isAgg5
 z5:=Tryz.sizeOf5
 v5:=Tryz.zeroValue5
 t9:=Tryz.underlying9
 a9:=Tryz.isAgg9
 z9:=Tryz.sizeOf9
 v9:=Tryz.zeroValue9
 t30:=Tryz.underlying22
 a30:=Tryz.isAgg22
 z30:=Tryz.sizeOf22
 v30:=Tryz.zeroValue22
 t46:=Tryz.underlying185
 a46:=Tryz.isAgg185
 z46:=Tryz.sizeOf185
 v46:=Tryz.zeroValue185
 info5:=by kernel_rfl }
open Go.RowKit Go.Lib in
theorem Tryz.hex_EncodeToString_nil (w:World) :
  Calls Tryz.prog 233 #[.slice none 0 0] w fun e w'=>e=.returned (.string ⟨#[]⟩)/\Below w.heap.size w w':=Any.hex_EncodeToString_nil zd9 w
def Tryz.laysPah43_ren:Go.Shelf.Ren:=⟨fun|43=>252|42=>269|44=>270|n=>n,fun|9=>9|30=>22|35=>200|3=>3|38=>201|4=>4|0=>0|5=>5|47=>243|46=>185|45=>258|n=>n,fun|0=>1|n=>n⟩
theorem Tryz.laysPah43:Go.Proofs.Lays.ph43 Tryz.prog Tryz.laysPah43_ren:={
 mixed:=by kernel_rfl
 f42:=Tryz.func269.trans (congrArg some (by kernel_rfl))
 f43:=Tryz.func252.trans (congrArg some (by kernel_rfl))
 f44:=Tryz.func270.trans (congrArg some (by kernel_rfl))
 t0:=Tryz.underlying0
 a0:=Tryz.isAgg0
 z0:=Tryz.sizeOf0
 v0:=Tryz.zeroValue0
 t3:=Tryz.underlying3
 a3:=Tryz.isAgg3
 z3:=Tryz.sizeOf3
 v3:=Tryz.zeroValue3
 t4:=Tryz.underlying4
 a4:=Tryz.isAgg4
 z4:=Tryz.sizeOf4
 v4:=Tryz.zeroValue4
 t5:=Tryz.underlying5
 a5:=Tryz.isAgg5
 z5:=Tryz.sizeOf5
 v5:=Tryz.zeroValue5
 t9:=Tryz.underlying9
 a9:=Tryz.isAgg9
 z9:=Tryz.sizeOf9
 v9:=Tryz.zeroValue9
 t30:=Tryz.underlying22
 a30:=Tryz.isAgg22
 z30:=Tryz.sizeOf22
 v30:=Tryz.zeroValue22
 t35:=Tryz.underlying200
 a35:=Tryz.isAgg200
 z35:=Tryz.sizeOf200
 v35:=Tryz.zeroValue200
 t38:=Tryz.underlying201
 a38:=Tryz.isAgg201
 z38:=Tryz.sizeOf201
 v38:=Tryz.zeroValue201
 t45:=Tryz.underlying258
 a45:=Tryz.isAgg258
 z45:=Tryz.sizeOf258
 v45:=Tryz.zeroValue258
 t46:=Tryz.underlying185
 a46:=Tryz.isAgg185
 z46:=Tryz.sizeOf185
 v46:=Tryz.zeroValue185
 t47:=Tryz.underlying243
 a47:=Tryz.isAgg243
 z47:=Tryz.sizeOf243
 v47:=Tryz.zeroValue243
 g0:=by kernel_rfl
 info5:=by kernel_rfl }
open Go.RowKit Go.Lib in
theorem Tryz.hex_DecodeString_owns (s:ByteArray) (w:World) (ev:Value) (hE:w.cell? ⟨1,0,none⟩=some ev) (hbig:s.size<=281474976710656) :
  Calls Tryz.prog 252 #[.string s] w fun e w'=>∃ v,e=.returned (.tuple #[v,Hx.errVal 243 ev (Hx.decode s.data.toList).2]) /\
   w'.ownsRow w.heap.size 5 1 v (Hx.decode s.data.toList).1.length ((Hx.decode s.data.toList).1.map fun b=>Value.int .u8 (b.toNat:Int))/\Below w.heap.size w w':=Any.hex_DecodeString_owns Tryz.laysPah43 s w ev hE hbig
open Go.RowKit Go.Lib in
theorem Tryz.hex_EncodeToString_bytes (bs os cs:Nat) (l:List UInt8) (w:World) (hsrc:∀ i (h:i<l.length),w.cell? ⟨bs,os+i,none⟩=some (.int .u8 ((l[i]'h).toNat:Int))) (hb:bs<w.heap.size) (hbig : 2*l.length<=281474976710656) :
  Calls Tryz.prog 233 #[.slice (some ⟨bs,os,none⟩) l.length cs] w fun e w'=>e=.returned (.string ⟨(Hx.encode l).toArray⟩)/\Below w.heap.size w w':=Any.hex_EncodeToString_bytes zd9 bs os cs l w hsrc hb hbig
theorem _root_.Go.RowKit.Below.ofGrow {w:World} (k:Nat) (os:Array Obj):Below w.heap.size w (Sort.grow (w.drewN k) os):=by
 refine ⟨rfl,rfl,rfl,?_,fun i hi=>?_⟩
 ·simp [Sort.grow,World.drewN]
 ·simp only [Sort.grow,World.drewN]
  rw [Array.getElem?_append_left hi]
def Tab10 (w : World) : Prop := Lib.TabIs Tryz.prog w "internal/strconv.uint64pow10" .u64 Lib.pow10Tab
theorem Tab10.below {w w':World} (h:Tab10 w) (hb:Below w.heap.size w w'):Tab10 w':=Go.Lib.tabBelow_of_tabIs h w' hb
theorem zcy (n:Int) (w:World) (h0 : -9223372036854775808<=n) (h1:n<=9223372036854775807) (ht:Tab10 w) :
  Calls Tryz.prog 84 #[.int .i64 n] w fun e w'=>e=.returned (.string (zX (Lib.itoa n)))/\Below w.heap.size w w':=by
 go_enter Tryz.func84,Tryz.ntmps84
 go_wp2_with fail
 (go_at_call 162;refine (Tryz.strconv_Itoa n h0 h1 w ht).mono ?_;rintro e w' ⟨rfl,k,os,rfl⟩)
 go_wp2
 go_ret
 exact ⟨rfl,Below.ofGrow k os⟩
theorem zl6 (v:Value) (l:List UInt8) (B:Nat) (w:World) (h:OwnB 5 w B v l) (hl : 2*l.length<=281474976710656) :
  Calls Tryz.prog 233 #[v] w fun e w'=>e=.returned (.string (zX (Lib.Hx.encode l)))/\Below w.heap.size w w':=by
 have hs:=h.sl
 rcases h with ⟨rfl,rfl⟩|⟨g,cap,cur,fz,rfl,hb,hg,_,hnc,hcm,hcs,ht⟩
 ·exact Tryz.hex_EncodeToString_nil w
 ·refine Tryz.hex_EncodeToString_bytes g 0 cap l w (fun i hi=>?_) (Array.getElem?_eq_some_iff.1 hg).1 hl
  have hu:(zL l)[i]?=some (.int .u8 (l[i].toNat:Int)):=by unfold zL;rw [List.getElem?_map,List.getElem?_eq_getElem hi];rfl
  rw [<- ht,List.getElem?_take,if_pos hi] at hu
  simp only [World.cell?,hg,Nat.zero_add]
  simpa using hu
theorem impl_Hex (s:ByteArray) (w:World) (hs:s.size<=9223372036854775807) :
  Calls Tryz.prog 211 #[.string s] w fun e w'=>e=.returned (.tuple #[.string (zfb s),.bool (decide (s.size<=20000))])/\Below w.heap.size w w':=by
 go_enter Tryz.func211,Tryz.ntmps211
 by_cases hb:(20000:Int)<s.size
 ·go_wp2
  refine bodyPost_ret (by simp [results,Tryz.results211,go_sem];rfl) rfl ?_
  refine ⟨?_,(by repeat (with_reducible exact Below.refl _ _))⟩
  unfold zfb
  rw [if_neg (by omega),decide_eq_false (by omega)]
 obtain ⟨v,w1,hcv,ho,hbl⟩:=zfy w s hs
 obtain ⟨X,rfl⟩:=hbl.ext
 have hlen:s.data.toList.length=s.size:=by simp
 have hc:=zl6 v s.data.toList _ (w.ext X) ho (by omega)
 clear ho hlen
 go_wp2_with fail
 (go_at_call 233;refine hc.mono ?_;rintro e w' ⟨rfl,hb2⟩;obtain ⟨X2,rfl⟩:=hb2.ext;clear hb2 hc)
 go_wp2
 refine bodyPost_ret (by simp [results,Tryz.results211,go_sem];rfl) rfl ?_
 refine ⟨?_,(by repeat (first|with_reducible exact Below.refl _ _|with_reducible apply Below.ofExt))⟩
 unfold zfb
 rw [if_pos (by omega),decide_eq_true (by omega)]
theorem zcU (s:ByteArray) (w:World) (hs:s.size<=9223372036854775807) :
  Calls Tryz.prog 156 #[.string s] w fun e w'=>e=.returned (.string (zfb s))/\Below w.heap.size w w':=by
 go_enter Tryz.func156,Tryz.ntmps156
 go_wp2_with fail
 (go_at_call 211;refine (impl_Hex s w hs).mono ?_;rintro e w' ⟨rfl,hb⟩;obtain ⟨X,rfl⟩:=hb.ext;clear hb)
 go_wp2
 go_ret
 exact ⟨rfl,(by repeat (first|with_reducible exact Below.refl _ _|with_reducible apply Below.ofExt))⟩
structure Glob (w:World):Prop where
 tab:Tab10 w
 odd:∃ ev,w.cell? ⟨1,0,none⟩=some ev/\(ev=.nilIface ∨ ∃ te pe,ev=.iface te pe)
 syn:∃ ev,w.cell? ⟨2,0,none⟩=some ev/\(ev=.nilIface ∨ ∃ te pe,ev=.iface te pe)
 rng:∃ ev,w.cell? ⟨3,0,none⟩=some ev/\(ev=.nilIface ∨ ∃ te pe,ev=.iface te pe)
theorem zfz {w w':World} (hb:Below w.heap.size w w') {a:Addr} {v:Value} (h:w.cell? a=some v):w'.cell? a=some v:=(Grew.below hb).cell h
theorem Glob.below {w w':World} (h:Glob w) (hb:Below w.heap.size w w'):Glob w':=by
 obtain ⟨e1,h1,g1⟩:=h.odd
 obtain ⟨e2,h2,g2⟩:=h.syn
 obtain ⟨e3,h3,g3⟩:=h.rng
 exact {
  tab:=h.tab.below hb
  odd:=⟨e1,zfz hb h1,g1⟩
  syn:=⟨e2,zfz hb h2,g2⟩
  rng:=⟨e3,zfz hb h3,g3⟩ }
theorem Glob.ext {w:World} (h:Glob w) (X:Ext):Glob (w.ext X):=h.below (Below.ofExt (Below.refl _ _) _)
theorem Glob.alloc {w:World} (h:Glob w) (o:Obj):Glob (w.alloc o):=h.below (Below.ofAlloc (Below.refl _ _) _)
theorem zl0 {w w':World} {v:Value} {l:List UInt8} (h:w'.ownsRow w.heap.size 5 1 v l.length (l.map fun b=>Value.int .u8 (b.toNat:Int))):OwnB 5 w' w.heap.size v l:=by
 refine zkR ?_
 unfold OwnL
 rw [zmp]
 exact h
theorem num_ends (x:Lib.NumEnd Int):x=Lib.atoiAll [] ∨ x=.range ∨ ∃ n,x=.ok n:=by
 cases x
 case ok n=>exact .inr (.inr ⟨n,rfl⟩)
 case range=>exact .inr (.inl rfl)
 exact .inl rfl
theorem str_ne {l:List UInt8} {s:ByteArray} (h:¬ l=s.data.toList):((zX l).toList==s.toList)=false:=by
 rw [beq_eq_false_iff_ne,bl1,bl1]
 exact fun e=>h (by rw [<- e,zht])
theorem zle (s:ByteArray) (w:World) (hg:Glob w) (hs:s.size<=1048576) :
  Calls Tryz.prog 232 #[.string s] w (UnhP s w):=by
 obtain ⟨ev,hE,hev⟩:=hg.odd
 clear hg
 have D:=Tryz.hex_DecodeString_owns s w ev hE (by omega)
 obtain ⟨d,x,hdx⟩ : ∃ d x,Lib.Hx.decode s.data.toList=(d,x):=⟨_,_,rfl⟩
 rw [hdx] at D
 obtain ⟨E,hEE⟩ : ∃ E,E=Lib.Hx.errVal 243 ev x:=⟨_,rfl⟩
 simp only [<- hEE] at D
 have HD:=Hd D
 have hdl:=Lib.Hx.decode_len s.data.toList
 rw [hdx] at hdl
 have hsl:s.data.toList.length=s.size:=by simp
 have hdl2:d.length<=1048576:=by
  have:d.length<=s.data.toList.length / 2:=by simpa using hdl
  omega
 have hno:(x ≠ .ok ∨ 20000<d.length ∨ Lib.Hx.encode d ≠ s.data.toList)->∀ r,Unh s.data.toList r:=fun h r=>Unh.no hdx h r
 have HNO:=Hd hno
 have hyes:x=.ok->Unh s.data.toList (zX d):=fun h=>Unh.dec (by rw [hdx,h])
 have HY:=Hd hyes
 have hcs:x=.ok/\E=.nilIface ∨ x ≠ .ok/\(E=.nilIface ∨ ∃ te pe,E=.iface te pe):=by
  cases x with
  | ok=>exact .inl ⟨rfl,hEE⟩
  | bad c=>exact .inr ⟨by simp,.inr ⟨_,_,hEE⟩⟩
  | odd=>exact .inr ⟨by simp,by rw [hEE];exact hev⟩
 have HCS:=Hd hcs
 clear D hdx hE hdl hsl hno hyes hcs hEE hev
 go_enter Tryz.func232,Tryz.ntmps232
 go_wp2_with fail
 (go_at_call 252;refine HD.out.mono ?_;rintro e w1 ⟨v,rfl,ho,hb⟩)
 have HB:=Hd (zl0 ho)
 have HBW:=Hd hb
 clear ho hb HD
 obtain ⟨oa,oc,rfl⟩:=HB.out.form
 by_cases hif:∃ te pe,E=.iface te pe
 ·obtain ⟨te,pe,rfl⟩:=hif
  have hx:x ≠ .ok:=by
   rcases HCS.out with ⟨_,h⟩|⟨h,_⟩
   ·cases h
   ·exact h
  have hu:=HNO.out (.inl hx)
  have HU:=Hd hu
  clear hu hx
  go_wp2
  refine bodyPost_ret (by simp [results,Tryz.results232,go_sem];rfl) rfl ?_
  exact UnhP.no HU.out HBW.out
 have hE:E=.nilIface:=by
  rcases HCS.out with ⟨_,h⟩|⟨_,h|h⟩
  ·exact h
  ·exact h
  ·exact absurd h hif
 subst hE
 clear hif
 by_cases hlen:(20000:Int)<d.length
 ·have hu:=HNO.out (.inr (.inl (by omega)))
  have HU:=Hd hu
  clear hu
  go_wp2
  refine bodyPost_ret (by simp [results,Tryz.results232,go_sem];rfl) rfl ?_
  exact UnhP.no HU.out HBW.out
 have henc:=zl6 (.slice oa d.length oc) d w.heap.size w1 HB.out (by omega)
 have HENC:=Hd henc
 clear henc
 go_wp2_with fail
 (go_at_call 233;refine HENC.out.mono ?_;rintro e w2 ⟨rfl,hb2⟩)
 have hbw2:Below w.heap.size w w2:=Below.then HBW.out hb2
 by_cases he:Lib.Hx.encode d=s.data.toList
 ·have hxo:x=.ok ∨ x ≠ .ok:=by cases x<;>simp
  rcases hxo with hxo|hxo
  ·have HU:=Hd (HY.out hxo)
   have hr:=zaB (P:=Tryz.prog) w2 zaX Tryz.underlying9 (HB.out.below hb2).sl
   have heq:zX (Lib.Hx.encode d)=s:=by rw [he,za8]
   have hsz:(zX d).size<=20000:=by rw [zN];omega
   have HSZ:=Hd hsz
   have HX:Hid (s.data.toList=zhM (zX d)):=by show _ = _;rw [<- he];rfl
   clear hxo he hsz
   rw [heq]
   go_wp2
   refine bodyPost_ret (by simp [results,Tryz.results232,go_sem];rfl) rfl ?_
   exact UnhP.mk HSZ.out HU.out hbw2 HX.out
  ·have HU:=Hd (HNO.out (.inl hxo) (zX d))
   have hr:=zaB (P:=Tryz.prog) w2 zaX Tryz.underlying9 (HB.out.below hb2).sl
   have heq:zX (Lib.Hx.encode d)=s:=by rw [he,za8]
   have hsz:(zX d).size<=20000:=by rw [zN];omega
   have HSZ:=Hd hsz
   have HX:Hid (s.data.toList=zhM (zX d)):=by show _ = _;rw [<- he];rfl
   clear hxo he hsz
   rw [heq]
   go_wp2
   refine bodyPost_ret (by simp [results,Tryz.results232,go_sem];rfl) rfl ?_
   exact UnhP.mk HSZ.out HU.out hbw2 HX.out
 ·have HU:=Hd (HNO.out (.inr (.inr he)))
  have heq:=str_ne he
  clear he
  go_wp2
  refine bodyPost_ret (by simp [results,Tryz.results232,go_sem];rfl) rfl ?_
  exact UnhP.no HU.out hbw2
def NumQ (s:ByteArray) (w:World) (e:Ending) (w':World):Prop:=∃ n b,e=.returned (.tuple #[.int .i64 n,.bool b])/\Num s.data.toList n b/\Below w.heap.size w w'/\(b=true->Lib.itoa n=s.data.toList)/\(b=false->n=0)
theorem NumQ.mk {s:ByteArray} {n:Int} {w w':World} (h2:Num s.data.toList n true) (h3:Below w.heap.size w w') (h4:Lib.itoa n=s.data.toList):NumQ s w (.returned (.tuple #[.int .i64 n,.bool true])) w':=⟨n,true,rfl,h2,h3,fun _=>h4,(fun h=>by cases h)⟩
theorem NumQ.no {s:ByteArray} {w w':World} (h2:Num s.data.toList 0 false) (h3:Below w.heap.size w w'):NumQ s w (.returned (.tuple #[.int .i64 0,.bool false])) w':=⟨0,false,rfl,h2,h3,(fun h=>by cases h),fun _=>rfl⟩
theorem zft (s:ByteArray) (w:World) (hg:Glob w) (hs:s.size<=1048576) :
  Calls Tryz.prog 214 #[.string s] w (NumQ s w):=by
 have HG:=Hd hg
 obtain ⟨e2,h2,g2⟩:=hg.syn
 obtain ⟨e3,h3,g3⟩:=hg.rng
 clear hg
 go_enter Tryz.func214,Tryz.ntmps214
 rcases num_ends (Lib.atoiAll s.data.toList) with ha|ha|⟨n,ha⟩
 ·
  have hn:=zkS (l:=s.data.toList) (fun n=>by rw [ha];intro h;cases h)
  have HN:=Hd hn
  have D:=Tryz.strconv_Atoi_syntax s (by omega) ha e2 w h2 g2
  clear hn
  go_wp2_with fail
  (go_at_call 236;refine D.mono ?_;rintro e w1 ⟨N,rfl,_,_,hb⟩)
  clear D
  go_wp2
  refine bodyPost_ret (by simp [results,Tryz.results214,go_sem];rfl) rfl ?_
  exact NumQ.no HN.out hb
 ·
  have hn:=zkS (l:=s.data.toList) (fun n=>by rw [ha];intro h;cases h)
  have HN:=Hd hn
  have D:=Tryz.strconv_Atoi_range s (by omega) ha e3 w h3 g3
  clear hn
  go_wp2_with fail
  (go_at_call 236;refine D.mono ?_;rintro e w1 ⟨N,rfl,_,_,hb⟩)
  clear D
  go_wp2
  refine bodyPost_ret (by simp [results,Tryz.results214,go_sem];rfl) rfl ?_
  exact NumQ.no HN.out hb
 ·
  have hbd:=Lib.atoiAll_bounds ha
  have D:=Tryz.strconv_Atoi_ok s (by omega) n ha w
  have HA:=Hd ha
  clear ha
  go_wp2_with fail
  (go_at_call 236;refine D.mono ?_;rintro e w1 ⟨rfl,hww⟩)
  have hb:Below w.heap.size w w1:=by
   rcases hww with rfl|⟨t,rfl⟩
   ·exact (by repeat (with_reducible exact Below.refl _ _))
   ·exact Lib.bytesWorld_below _ _ _
  clear D hww h2 h3 g2 g3
  cases hin:inB n 0 1000000000 with
  | false =>
   have hn:=zhR HA.out (by unfold inB at hin;simp at hin;omega)
   have HN:=Hd hn
   have HIN:=Hd hin
   clear hn hin
   go_wp2_with fail
   (go_at_call 140;refine (zmi _ _ _ _).mono ?_;rintro e w' ⟨rfl,rfl⟩)
   rw [HIN.out]
   go_wp2
   refine bodyPost_ret (by simp [results,Tryz.results214,go_sem];rfl) rfl ?_
   exact NumQ.no HN.out hb
  | true =>
   have hi2 : 0<=n/\n<=1000000000:=by unfold inB at hin;simp at hin;omega
   have HIN:=Hd hin
   clear hin
   go_wp2_with fail
   (go_at_call 140;refine (zmi _ _ _ _).mono ?_;rintro e w' ⟨rfl,rfl⟩)
   rw [HIN.out]
   have DD:=Hd (zcy n w1 (by omega) (by omega) (HG.out.below hb).tab)
   go_wp2_with fail
   (go_at_call 84;refine DD.out.mono ?_;rintro e w2 ⟨rfl,hb2⟩)
   have hbw2:Below w.heap.size w w2:=Below.then hb hb2
   by_cases he:Lib.itoa n=s.data.toList
   ·have HU:=Hd (Num.atoiOk HA.out hi2.1 hi2.2)
    have HE:=Hd he
    have heq:zX (Lib.itoa n)=s:=by rw [he,za8]
    clear he
    rw [heq]
    go_wp2
    refine bodyPost_ret (by simp [results,Tryz.results214,go_sem];rfl) rfl ?_
    exact NumQ.mk HU.out hbw2 HE.out
   ·have HU:=Hd (zhR HA.out (.inr (.inr he)))
    have heq:=str_ne he
    clear he
    go_wp2
    refine bodyPost_ret (by simp [results,Tryz.results214,go_sem];rfl) rfl ?_
    exact NumQ.no HU.out hbw2
end Go.Proofs.YtpnoehpmgflibaaGreatDoor
