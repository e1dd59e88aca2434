/- Texts of this claim, merged: the walks and what they stand on. Each condition stands in its theorem. -/
import Derived.Lib.ItoaLen
import Derived.Test.YtpnoehpmgflibaaGreatDoorCA32
import Derived.Test.YtpnoehpmgflibaaGreatDoorCA38
import Derived.Test.YtpnoehpmgflibaaGreatDoorCA40
import Derived.Test.YtpnoehpmgflibaaGreatDoorTR4
set_option linter.unusedVariables false
set_option linter.unusedSimpArgs false
set_option maxRecDepth 100000
set_option maxHeartbeats 8000000
namespace Go.Proofs.YtpnoehpmgflibaaGreatDoor
open Go.ChangeShapes Go.WideShapes Go.ChangeAt Go.RowKit
theorem impl_AgreeOn1 (b:Nat) (av:Option Addr) (cv:Nat) (ss:List ByteArray) (y:ByteArray) (w:World) (hv:RdS w (.slice av ss.length cv) ss) (hy:y.size<=9223372036854775807) (hb:w.cell? ⟨b,0,none⟩=some (.slice av ss.length cv)) :
  Calls Tryz.prog 43 #[.string y,.pointer (some ⟨b,0,none⟩)] w fun e w'=>e=.returned (.bool (zbR ss y))/\Below w.heap.size w w':=by
 have HV:=Hd hv
 clear hv
 go_enter Tryz.func43,Tryz.ntmps43
 go_wp2_with fail
 (go_at_call 44;refine (impl_spansHave _ ss y _ HV.out hy).mono ?_;rintro e w' ⟨rfl,hb⟩;obtain ⟨X,rfl⟩:=hb.ext;clear hb)
 go_wp2
 go_ret
 exact ⟨rfl,(by repeat (first|with_reducible exact Below.refl _ _|with_reducible apply Below.ofExt))⟩
theorem IndexFunc_A (v:Value) (ys:List ByteArray) (c:Nat) (av:Option Addr) (cv:Nat) (ss:List ByteArray) (w:World) (hs:RdS w v ys) (hv:RdS w (.slice av ss.length cv) ss) (hcl:c<w.heap.size) (hc:w.cell? ⟨c,0,none⟩=some (.slice av ss.length cv)) :
  Calls Tryz.prog 101 #[v,.func (Fn.func 43) #[] #[.pointer (some ⟨c,0,none⟩)]] w fun e w'=>∃ r:Int,e=.returned (.int .i64 r)/\(decide (0<=r)=ys.any (zbR ss))/\Below w.heap.size w w':=by
 have HV:=Hd hv
 clear hv
 obtain ⟨ao,cap,rfl,hc1,hc2,hnil,hcell,hz⟩:=hs
 have HX:=Hd hcell
 have HZ:=Hd hz
 clear hcell hnil hz
 unfold maxLen at hc2
 go_enter Tryz.func101,Tryz.ntmps101
 go_wp2
 go_loopw [8] (fun k wr=>∃ (n:Nat),k=.int .i64 n/\n<=ys.length/\Below w.heap.size w wr/\(ys.take n).any (zbR ss)=false) (fun k _=>ys.length - (intOf k).toNat)
 case atStart=>exact ⟨0,rfl,by omega,(by repeat (with_reducible exact Below.refl _ _)),rfl⟩
 case round =>
  obtain ⟨n,rfl,hn,hbel,hany⟩:=hrel
  obtain ⟨X,rfl⟩:=hbel.ext
  have HA:=Hd hany
  clear hany hbel
  by_cases hlt:(n:Int)<ys.length
  ·have hk:n<ys.length:=by omega
   obtain ⟨b,off,rfl,hbl,hcell⟩:=HX.out (by intro e;simp [e] at hk)
   have hcc:=hcell n hk
   have hstep:=zax (zbR ss) ys n hk
   have hyz:=HZ.out _ (List.getElem_mem hk)
   generalize ys[n]=y at hcc hstep hyz
   have HT:=Hd hstep
   clear hcell hstep
   cases hm:(zbR ss) y with
   | true =>
    go_wp2_with fail
    (go_at_call 43;refine (impl_AgreeOn1 c av cv ss y _ (by (skip);(repeat (first|with_reducible exact HV.out|with_reducible apply RdS.ext));all_goals exact (0:Nat)) hyz (by simp [go_sem,hcl,hc])).mono ?_;rintro e w' ⟨rfl,hb⟩;obtain ⟨X,rfl⟩:=hb.ext;clear hb)
    rw [show _=true from hm]
    go_wp2
    go_ret
    refine ⟨n,rfl,?_,(by repeat (first|with_reducible exact Below.refl _ _|with_reducible apply Below.ofExt))⟩
    rw [zbG _ ys (n+1) (by rw [HT.out,hm,Bool.or_true])]
    simp
   | false =>
    go_wp2_with fail
    (go_at_call 43;refine (impl_AgreeOn1 c av cv ss y _ (by (skip);(repeat (first|with_reducible exact HV.out|with_reducible apply RdS.ext));all_goals exact (0:Nat)) hyz (by simp [go_sem,hcl,hc])).mono ?_;rintro e w' ⟨rfl,hb⟩;obtain ⟨X,rfl⟩:=hb.ext;clear hb)
    rw [show _=false from hm]
    go_wp2
    go_roundw
    case rel=>exact ⟨n+1,by go_num,by omega,(by repeat (first|with_reducible exact Below.refl _ _|with_reducible apply Below.ofExt)),by rw [HT.out,HA.out,hm];rfl⟩
    case measure=>simp [intOf];omega
  ·go_wp2
   go_ret
   have e:n=ys.length:=by omega
   subst e
   have ha:=HA.out
   rw [List.take_length] at ha
   refine ⟨-1,rfl,?_,(by repeat (first|with_reducible exact Below.refl _ _|with_reducible apply Below.ofExt))⟩
   rw [ha]
   rfl
theorem ContainsFunc_A (v:Value) (ys:List ByteArray) (c:Nat) (av:Option Addr) (cv:Nat) (ss:List ByteArray) (w:World) (hs:RdS w v ys) (hv:RdS w (.slice av ss.length cv) ss) (hcl:c<w.heap.size) (hc:w.cell? ⟨c,0,none⟩=some (.slice av ss.length cv)) :
  Calls Tryz.prog 42 #[v,.func (Fn.func 43) #[] #[.pointer (some ⟨c,0,none⟩)]] w fun e w'=>e=.returned (.bool (ys.any (zbR ss)))/\Below w.heap.size w w':=by
 go_enter Tryz.func42,Tryz.ntmps42
 go_wp2_with fail
 (go_at_call 101;refine (IndexFunc_A v ys c av cv ss _ hs hv hcl hc).mono ?_;rintro e w' ⟨r,rfl,hr,hb⟩;obtain ⟨X,rfl⟩:=hb.ext;clear hb)
 go_wp2
 go_ret
 exact ⟨by rw [<- hr];rfl,(by repeat (first|with_reducible exact Below.refl _ _|with_reducible apply Below.ofExt))⟩
theorem spec_AgreeOn (va vb vs:Value) (a b:List CellD) (ss:List ByteArray) (w:World) (ha:RdL zu w va a) (hb:RdL zu w vb b) (hs:RdS w vs ss) (hka:∀ c ∈ a,c.ok) (hkb:∀ c ∈ b,c.ok) (hl:a.length<=549755813888) (hl2:b.length<=549755813888) :
  Calls Tryz.prog 15 #[va,vb,vs] w fun e w'=>e=.returned (.bool !((diffC a b).any (zbR ss)))/\Below w.heap.size w w':=by
 have HS:=Hd hs
 have HA:=Hd ha
 have HB:=Hd hb
 have HKA:=Hd hka
 have HKB:=Hd hkb
 obtain ⟨aa,ca,rfl⟩:=ha.form
 obtain ⟨ab,cb,rfl⟩:=hb.form
 obtain ⟨sa,sc,rfl,hs1,hs2,_⟩:=hs
 clear ha hb hka hkb
 obtain ⟨ks,hks⟩ : ∃ ks,ks=diffC a b:=⟨_,rfl⟩
 have HKS:=Hd hks
 have HKZ:Hid (∀ s ∈ ks,s.size<=9223372036854775807):=(by rw [hks];exact diffC_ok a b HKA.out HKB.out)
 have hkl:ks.length<=1099511627776:=by rw [hks];have:=diffC_len a b;omega
 rw [<- hks]
 clear hks
 go_enter Tryz.func15,Tryz.ntmps15
 go_wp2_with fail
 (go_at_call 45;refine (spec_DiffKeys _ _ a b _ (by (skip);(repeat (with_reducible exact HA.out));all_goals exact (0:Nat)) (by (skip);(repeat (with_reducible exact HB.out));all_goals exact (0:Nat)) hl hl2).mono ?_;rintro e w' ⟨v',rfl,ho',hb'⟩;rw [<- HKS.out] at ho';have HP:=Hd (RdS.ofL ho'.rd HKZ.out);obtain ⟨Y,rfl⟩:=hb'.ext;clear ho' hb')
 obtain ⟨ka,kc,rfl,hk1,hk2,_⟩:=HP.out
 go_wp2
 go_loopw [8] (fun k wr=>∃ (n:Nat),k=.int .i64 n/\n<=ks.length/\Below w.heap.size w wr/\RdS wr (.slice ka ks.length kc) ks/\(ks.take n).any (zbR ss)=false) (fun k _=>ks.length - (intOf k).toNat)
 case atStart=>exact ⟨0,rfl,by omega,(by repeat (first|with_reducible exact Below.refl _ _|with_reducible apply Below.ofExt)),HP.out,rfl⟩
 case round =>
  clear HP
  obtain ⟨n,rfl,hn,hbel,hrd,hany⟩:=hrel
  obtain ⟨X,rfl⟩:=hbel.ext
  have HA2:=Hd hany
  have HP:=Hd hrd
  clear hany hbel hrd
  by_cases hlt:(n:Int)<ks.length
  ·have hk:n<ks.length:=by omega
   obtain ⟨ka',kc',hkv,hc1,hc2,hnil,hcell,_⟩:=HP.out
   cases hkv
   obtain ⟨kb,koff,rfl,hbl,hcell⟩:=hcell (by intro e;simp [e] at hk)
   have y0:=hcell n hk
   have hst:=zax (zbR ss) ks n hk
   have hyz:=HKZ.out _ (List.getElem_mem hk)
   generalize ks[n]=key at y0 hst hyz
   have y1:∀ dr,(w.ext ⟨X.bs,dr⟩).cell? ⟨kb,koff+n,none⟩=some (.string key):=fun dr=>y0
   have hbl2:kb<w.heap.size+X.bs.size:=by rw [zm] at hbl;exact hbl
   have HT:=Hd hst
   have HYZ:=Hd hyz
   clear hst hcell hnil hbl hyz
   have hc:covers ss [key]=zbR ss key:=by simp [covers]
   have HC:=Hd hc
   clear hc
   cases hm:zbR ss key with
   | true =>
    go_wp2_with fail
    (go_at_call 46;refine (spec_Covers _ _ ss [key] _ (by (skip);(repeat (first|with_reducible exact HS.out|with_reducible apply RdS.ext|with_reducible apply RdS.alloc));all_goals exact (0:Nat)) (RdS.ofL (RdL.oneAt zx _ key _ rfl _ _ (by simp [zm])) (by simpa using HYZ.out))).mono ?_;rintro e w' ⟨rfl,hb⟩;obtain ⟨X,rfl⟩:=hb.ext;clear hb)
    rw [HC.out,hm]
    go_wp2
    go_ret
    exact ⟨by rw [zbG _ ks (n+1) (by rw [HT.out,hm,Bool.or_true])];rfl,(by repeat (first|with_reducible exact Below.refl _ _|with_reducible apply Below.ofExt|with_reducible apply Below.ofAlloc|with_reducible apply Below.drew|with_reducible apply Below.ofDrewN|with_reducible assumption|(with_reducible refine Below.setCell ?_ (by first|exact Nat.le_refl _|(simp [go_sem];done)|(simp [go_sem];omega)) _)))⟩
   | false =>
    go_wp2_with fail
    (go_at_call 46;refine (spec_Covers _ _ ss [key] _ (by (skip);(repeat (first|with_reducible exact HS.out|with_reducible apply RdS.ext|with_reducible apply RdS.alloc));all_goals exact (0:Nat)) (RdS.ofL (RdL.oneAt zx _ key _ rfl _ _ (by simp [zm])) (by simpa using HYZ.out))).mono ?_;rintro e w' ⟨rfl,hb⟩;obtain ⟨X,rfl⟩:=hb.ext;clear hb)
    rw [HC.out,hm]
    go_wp2
    go_roundw
    case rel=>exact ⟨n+1,by go_num,by omega,(by repeat (first|with_reducible exact Below.refl _ _|with_reducible apply Below.ofExt|with_reducible apply Below.ofAlloc)),(by (skip);(repeat (first|with_reducible exact HP.out|with_reducible apply RdS.ext|with_reducible apply RdS.alloc));all_goals exact (0:Nat)),by rw [HT.out,HA2.out,hm];rfl⟩
    case measure=>simp [intOf];omega
  ·go_wp2
   go_ret
   have e:n=ks.length:=by omega
   subst e
   have ha:=HA2.out
   rw [List.take_length] at ha
   exact ⟨by rw [ha];rfl,(by repeat (first|with_reducible exact Below.refl _ _|with_reducible apply Below.ofExt))⟩
theorem impl_AgreeOn (va vb vs:Value) (a b:List CellD) (ss:List ByteArray) (w:World) (ha:RdL zu w va a) (hb:RdL zu w vb b) (hs:RdS w vs ss) (hka:∀ c ∈ a,c.ok) (hkb:∀ c ∈ b,c.ok) (hl:a.length<=549755813888) (hl2:b.length<=549755813888) :
  Calls Tryz.prog 14 #[va,vb,vs] w fun e w'=>e=.returned (.bool !((diffC a b).any (zbR ss)))/\Below w.heap.size w w':=by
 have HS:=Hd hs
 have HA:=Hd ha
 have HB:=Hd hb
 have HKA:=Hd hka
 have HKB:=Hd hkb
 obtain ⟨aa,ca,rfl⟩:=ha.form
 obtain ⟨ab,cb,rfl⟩:=hb.form
 obtain ⟨sa,sc,rfl,hs1,hs2,_⟩:=hs
 clear ha hb hka hkb
 go_enter Tryz.func14,Tryz.ntmps14
 go_wp2_with fail
 (go_at_call 35;refine (impl_DiffKeys _ _ a b _ (by (skip);(repeat (first|with_reducible exact HA.out|with_reducible apply RdL.alloc));all_goals exact (0:Nat)) (by (skip);(repeat (first|with_reducible exact HB.out|with_reducible apply RdL.alloc));all_goals exact (0:Nat)) HKA.out HKB.out hl hl2).mono ?_;rintro e w' ⟨v',rfl,ho',hb'⟩;have HP:=Hd (RdS.ofL ho'.rd (diffC_ok a b HKA.out HKB.out));obtain ⟨Y,rfl⟩:=hb'.ext;clear ho' hb')
 go_wp2_with fail
 (go_at_call 42;refine (ContainsFunc_A _ (diffC a b) _ sa sc ss _ (by (skip);(repeat (with_reducible exact HP.out));all_goals exact (0:Nat)) (by (skip);(repeat (first|with_reducible exact HS.out|with_reducible apply RdS.ext|with_reducible apply RdS.alloc));all_goals exact (0:Nat)) (by simp [go_sem,zm];try omega) (by simp [go_sem])).mono ?_;rintro e w' ⟨rfl,hb⟩;obtain ⟨X,rfl⟩:=hb.ext;clear hb)
 go_wp2
 go_ret
 exact ⟨rfl,(by repeat (first|with_reducible exact Below.refl _ _|with_reducible apply Below.ofExt|with_reducible apply Below.ofAlloc))⟩
open Mp
section
variable {α β : Type}
def Mp.Yields (p:Mp α) (S : α->Prop):Prop:=∀ m,p.fits m->S (p.run m).1
theorem Mp.Yields.any (p:Mp α):p.Yields (fun _=>True):=fun _ _=>trivial
theorem Mp.Yields.ret {a : α} {S : α->Prop} (h:S a):(pure a:Mp α).Yields S:=fun _ _=>h
theorem Mp.Yields.bind {x:Mp α} {f : α->Mp β} {S : α->Prop} {T : β->Prop} (h:x.Yields S) (k:∀ a,S a->(f a).Yields T):(x >>= f).Yields T:=fun m hf=>by
 obtain ⟨h1,h2⟩:=(fits_bind x f m).1 hf
 rw [run_bind]
 exact k _ (h m h1) _ h2
theorem Mp.Yields.ite {p:Prop} [Decidable p] {x y:Mp α} {S : α->Prop} (h1:p->x.Yields S) (h2:¬ p->y.Yields S):(if p then x else y).Yields S:=by
 by_cases h:p
 ·rw [if_pos h];exact h1 h
 ·rw [if_neg h];exact h2 h
theorem Mp.Yields.mono {x:Mp α} {S T : α->Prop} (h:x.Yields S) (k:∀ a,S a->T a):x.Yields T:=fun m hf=>k _ (h m hf)
theorem Mp.Yields.fold {f : β->α->Mp β} {sz : β->Nat} {c:Nat} (h:∀ b x,(f b x).Yields (fun b'=>sz b'<=sz b+c)):∀ (l:List α) (b : β),(Mp.fold f b l).Yields (fun b'=>sz b'<=sz b+c*l.length)
 | [],b=>.ret (by simp)
 | x :: l,b=>by
  show (f b x >>= fun b=>Mp.fold f b l).Yields _
  refine (h b x).bind fun b' hb=>(Mp.Yields.fold h l b').mono fun a ha=>?_
  rw [List.length_cons,Nat.mul_add]
  omega
end
theorem y_under (p:ByteArray):(K.under p).Yields (fun ks=>ks.length<=549755813888/\∀ k ∈ ks,k.size<=1048576):=fun m h=>by
 have hs:=fits_small h
 refine ⟨?_,?_⟩
 ·show (zK p m.cells).length<=_
  unfold zK
  rw [List.length_map]
  exact Nat.le_trans (List.length_filter_le _ _) hs.cl
 ·intro k hk
  obtain ⟨c,hc,rfl⟩:=List.mem_map.1 (show k ∈ zK p m.cells from hk)
  exact (hs.cz c (List.mem_filter.1 hc).1).1
theorem unhexT_le (v:ByteArray):(zb2 v).size<=20000:=by
 unfold zb2
 split
 ·split
  ·rename_i h
   rw [zN]
   exact h.1
  ·exact Nat.zero_le _
 ·exact Nat.zero_le _
theorem messageOf_le (v:ByteArray):(K.messageOf v).size<=20000:=by
 unfold K.messageOf
 split
 ·exact unhexT_le _
 ·exact Nat.zero_le _
theorem y_message (k:ByteArray):(K.message k).Yields (fun t=>t.size<=20000):=(Mp.Yields.any _).bind fun a _=>.ret (messageOf_le a)
theorem y_block (id place:Int):(K.block id place).Yields (fun t=>t.size<=20000):=(Mp.Yields.any _).bind fun a _=>.ret (unhexT_le a)
theorem extract_le (s:ByteArray) (a b:Nat):(s.extract a b).size<=s.size:=by
 rw [ByteArray.size_extract]
 omega
theorem y_readBlock (id:Int) (a b:Nat) (out:ByteArray) (place:Nat):(K.readBlock id a b out place).Yields (fun t=>t.size<=out.size+20000):=(y_block id place).bind fun s hs=>.ret (by
 split
 ·rw [ByteArray.size_append]
  have:=extract_le s (a - place*8) (min (b - place*8) (min 8 s.size))
  omega
 ·omega)
theorem places_len (a b:Nat):(K.places a b).length<=(b+7) / 8:=by
 unfold K.places
 rw [List.length_range']
 omega
theorem y_num (k:ByteArray):(K.num k).Yields (fun n=>0<=n/\n<=999):=(Mp.Yields.any _).bind fun a _=>.ret (zeN a)
theorem y_readFile (id a n:Int):(K.readFile id a n).Yields (fun t=>t.size<=20000000):=by
 unfold K.readFile
 refine (y_num _).bind fun size hsz=>.ite (fun _=>.ret (Nat.zero_le _)) fun hc=>?_
 refine (Mp.Yields.fold (sz:=ByteArray.size) (c:=20000) (y_readBlock id a.toNat (a+min n (size - a)).toNat) _ ⟨#[]⟩).mono fun t ht=>?_
 have h1:=places_len a.toNat (a+min n (size - a)).toNat
 have h2:(⟨#[]⟩ : ByteArray).size=0:=rfl
 have h3:(a+min n (size - a)).toNat<=999:=by omega
 have h4:((a+min n (size - a)).toNat+7) / 8<=125:=by omega
 have h5:=Nat.mul_le_mul_left 20000 (Nat.le_trans h1 h4)
 omega
theorem wordsOf_le (c:Nat):∀ (l:List ByteArray),(∀ x ∈ l,x.size<=c)->∀ t:ByteArray,(l.foldl (fun t w=>t++(w++K.space)) t).size<=t.size+(c+1)*l.length
 | [],_,t=>by simp
 | x :: l,h,t=>by
  rw [List.foldl_cons]
  have h1:=wordsOf_le c l (fun y hy=>h y (List.mem_cons_of_mem _ hy)) (t++(x++K.space))
  have h2:=h x List.mem_cons_self
  have h3:K.space.size=1:=rfl
  rw [ByteArray.size_append,ByteArray.size_append] at h1
  rw [List.length_cons,Nat.mul_add]
  omega
theorem words_small {c:Nat} {l:List ByteArray} (hc:c<=1048576) (hl:l.length<=549755813888) (h:∀ x ∈ l,x.size<=c):(K.wordsOf l).size<=9223372036854775807:=by
 have h1:=wordsOf_le c l h ⟨#[]⟩
 have h2:(⟨#[]⟩ : ByteArray).size=0:=rfl
 have h3:=Nat.mul_le_mul (show c+1<=1048577 by omega) hl
 unfold K.wordsOf
 omega
theorem y_doNames:K.doNames.Yields AnswerD.ok:=by
 unfold K.doNames K.names
 refine Mp.Yields.bind (S:=fun l=>l.length<=549755813888/\∀ k ∈ l,k.size<=1048576) ((y_under _).bind fun ks hk=>.ret ⟨by rw [List.length_map];exact hk.1,?_⟩) fun l hl=>.ret (words_small (Nat.le_refl _) hl.1 hl.2)
 intro k hk2
 obtain ⟨x,hx,rfl⟩:=List.mem_map.1 hk2
 exact Nat.le_trans (extract_le _ _ _) (hk.2 x hx)
theorem y_kid (parent:Int) (out:List Int) (key:ByteArray) (h:∀ n ∈ out,0<=n/\n<=999):(K.kid parent out key).Yields (fun l=>(∀ n ∈ l,0<=n/\n<=999)/\l.length<=out.length+1):=by
 unfold K.kid
 refine .ite (fun _=>(Mp.Yields.any _).bind fun up _=>.ret ?_) fun _=>.ret ⟨h,by omega⟩
 split
 ·refine ⟨fun n hn=>?_,by simp⟩
  rcases List.mem_append.1 hn with hn|hn
  ·exact h n hn
  ·rw [List.mem_singleton.1 hn]
   exact zeN _
 ·exact ⟨h,by omega⟩
theorem y_foldKid (parent:Int):∀ (l:List ByteArray) (out:List Int),(∀ n ∈ out,0<=n/\n<=999)->(Mp.fold (K.kid parent) out l).Yields (fun r=>(∀ n ∈ r,0<=n/\n<=999)/\r.length<=out.length+l.length)
 | [],out,h=>.ret ⟨h,by simp⟩
 | k :: l,out,h=>by
  show (K.kid parent out k >>= fun b=>Mp.fold (K.kid parent) b l).Yields _
  refine (y_kid parent out k h).bind fun b hb=>(y_foldKid parent l b hb.1).mono fun r hr=>⟨hr.1,?_⟩
  have h1:=hr.2
  have h2:=hb.2
  rw [List.length_cons]
  omega
theorem y_doKids (p:Int):(K.doKids p).Yields AnswerD.ok:=by
 unfold K.doKids K.kids
 refine Mp.Yields.bind (S:=fun l=>l.length<=549755813888/\∀ n ∈ l,(0:Int)<=n/\n<=999) ((y_under _).bind fun ks hk=>(y_foldKid p ks [] (fun _ h=>by cases h)).mono fun r hr=>⟨?_,hr.1⟩) fun l hl=>.ret (words_small (c:=100) (by decide) (by rw [List.length_map];exact hl.1) fun x hx=>?_)
 ·have h1:=hr.2
  have h2:=hk.1
  rw [List.length_nil] at h1
  omega
 ·obtain ⟨n,hn,rfl⟩:=List.mem_map.1 hx
  have:=hl.2 n hn
  have h2:=Lib.itoa_length_le n (by omega) (by omega)
  rw [zN]
  omega
theorem no_text (a b:Int):AnswerD.ok ⟨a,b,⟨#[]⟩⟩:=Nat.zero_le _
theorem y_code (x:Mp Int):(K.code x).Yields AnswerD.ok:=(Mp.Yields.any _).bind fun _ _=>.ret (no_text _ _)
theorem y_codeN (x:Mp (Int × Int)):(K.codeN x).Yields AnswerD.ok:=(Mp.Yields.any _).bind fun _ _=>.ret (no_text _ _)
theorem y_codeT {x:Mp (ByteArray × Int)} (h:x.Yields fun p=>p.1.size<=20000):(K.codeT x).Yields AnswerD.ok:=h.bind fun p hp=>.ret (show p.1.size<=_ by omega)
theorem y_takePipe (id:Int):(K.takePipe id).Yields fun p=>p.1.size<=20000:=by
 unfold K.takePipe
 exact (Mp.Yields.any _).bind fun _ _=>.ite (fun _=>.ret (Nat.zero_le _)) fun _=>(Mp.Yields.any _).bind fun _ _=>(Mp.Yields.any _).bind fun _ _=>.ite (fun _=>.ret (Nat.zero_le _)) fun _=>(y_message _).bind fun t ht=>(Mp.Yields.any _).bind fun _ _=>(Mp.Yields.any _).bind fun _ _=>.ret ht
theorem y_loadPage (id page:Int):(K.loadPage id page).Yields fun p=>p.1.size<=20000:=by
 unfold K.loadPage
 exact .ite (fun _=>(y_message _).bind fun t ht=>.ret ht) fun _=>.ret (Nat.zero_le _)
theorem y_doFile (c:CallD):(K.doFile c).Yields AnswerD.ok:=by
 unfold K.doFile
 refine (Mp.Yields.any _).bind fun id _=>.ite (fun _=>.ret (no_text _ _)) fun _=>.ite (fun _=>(y_readFile _ _ _).bind fun t ht=>.ret (show t.size<=_ by omega)) fun _=>.ite (fun _=>(Mp.Yields.any _).bind fun _ _=>.ret (no_text _ _)) fun _=>(Mp.Yields.any _).bind fun _ _=>.ret (no_text _ _)
theorem y_doCall (p:Int) (c:CallD):(K.doCall p c).Yields AnswerD.ok:=by
 unfold K.doCall
 refine (Mp.Yields.any _).bind fun s _=>.ite (fun _=>.ret (no_text _ _)) fun _=>.ite (fun _=>.ret (no_text _ _)) fun _=>?_
 unfold K.doKind K.doSpawn K.doEnd
 repeat' (first|exact y_code _|exact y_codeN _|exact y_doNames|exact y_doKids _|exact y_doFile _|exact y_codeT (y_takePipe _)|exact y_codeT (y_loadPage _ _)|exact .ret (no_text _ _)|refine .ite (fun _=>?_) fun _=>?_|refine (Mp.Yields.any _).bind fun _ _=>?_)
theorem run_all:∀ (l:List StepD) (out:List AnswerD) (m:MachD),zmG l m->(∀ a ∈ out,a.ok)->(Mp.fold K.runSteps out l).fits m/\(∀ a ∈ ((Mp.fold K.runSteps out l).run m).1,a.ok)/\((Mp.fold K.runSteps out l).run m).1.length=out.length+l.length
 | [],out,m,h,ho=>⟨h,ho,by show out.length = _;simp⟩
 | s :: l,out,m,h,ho=>by
  obtain ⟨h1,_,h3⟩:=h
  have hy:=y_doCall s.proc s.call m h1
  have hout:∀ a ∈ out ++ [((K.doCall s.proc s.call).run m).1],a.ok:=fun a ha=>by
   rcases List.mem_append.1 ha with ha|ha
   ·exact ho a ha
   ·rw [List.mem_singleton.1 ha];exact hy
  obtain ⟨k1,k2,k3⟩:=run_all l (out ++ [((K.doCall s.proc s.call).run m).1]) _ h3 hout
  have e:(K.runSteps out s).run m=(out ++ [((K.doCall s.proc s.call).run m).1],((K.doCall s.proc s.call).run m).2):=by
   unfold K.runSteps
   rw [run_bind]
   rfl
  have f:(K.runSteps out s).fits m:=by
   unfold K.runSteps
   rw [fits_bind]
   exact ⟨h1,fits_small (fits_small k1 |> fun h=>(fits_pure () _).2 h)⟩
  show (K.runSteps out s >>= fun b=>Mp.fold K.runSteps b l).fits m/\(∀ a ∈ ((K.runSteps out s >>= fun b=>Mp.fold K.runSteps b l).run m).1,a.ok)/\((K.runSteps out s >>= fun b=>Mp.fold K.runSteps b l).run m).1.length = _
  rw [fits_bind,run_bind,e]
  refine ⟨⟨f,k1⟩,k2,?_⟩
  rw [k3]
  simp
  omega
def agreeOn (a b:List CellD) (ss:List ByteArray):Bool:=!((diffC a b).any (zbR ss))
def restOf (a b:List CellD) (r:List AnswerD) (m:MachD) (r':List AnswerD) (m':MachD):Bool :=
 !(agreeOn a b m.rd) || (sameL eqAnswer r r' && (sameTouch ⟨m.rd,m.wr⟩ ⟨m'.rd,m'.wr⟩ && agreeOn m.cells m'.cells m.wr))
theorem rdS_of' {w:World} {v:Value} {xs:List ByteArray} (h:RdL zx w v xs) (hz:∀ s ∈ xs,s.size<=8388608):RdS w v xs:=RdS.ofL h (fun s hs=>Nat.le_trans (hz s hs) (by decide))
theorem small_ok {m:MachD} (h:Mp.Small m):∀ c ∈ m.cells,c.ok:=fun c hc=>⟨by have:=(h.cz c hc).1;omega,by have:=(h.cz c hc).2;omega⟩
theorem rdT_of {w:World} {v:Value} {xs:List ByteArray} {e:TypeId} (h:RdL zx w v xs) (hz:∀ s ∈ xs,s.size<=8388608):(vSlice zkq e).rd w [v] xs:=zgE (R:=zx) rfl rfl (by decide) h (fun s hs=>Nat.le_trans (hz s hs) (by decide))
theorem sameL_symm {α : Type} (p : α->α->Bool) (hp:∀ x y,p x y=p y x):∀ xs ys:List α,sameL p xs ys=sameL p ys xs:=by
 have h:∀ xs ys:List α,((xs.zip ys).all fun z=>p z.1 z.2)=((ys.zip xs).all fun z=>p z.1 z.2):=by
  intro xs
  induction xs with
  | nil=>intro ys;cases ys<;>rfl
  | cons x xs ih =>
   intro ys
   cases ys with
   | nil=>rfl
   | cons y ys =>
    simp only [List.zip_cons_cons,List.all_cons]
    rw [ih ys,hp x y]
 intro xs ys
 unfold sameL
 rw [h xs ys]
 congr 1
 exact decide_eq_decide.2 ⟨Eq.symm,Eq.symm⟩
theorem eqAnswer_symm (x y:AnswerD):eqAnswer x y=eqAnswer y x:=by
 unfold eqAnswer
 rw [Bool.beq_comm (a:=x.code),Bool.beq_comm (a:=x.n),Bool.beq_comm (a:=x.text.toList)]
theorem impl_StepsRestOn (va vb vs:Value) (a b:List CellD) (l:List StepD) (w:World) (hg:Glob w) (ha:RdL zu w va a) (hb:RdL zu w vb b) (hs:RdL rStepM w vs l) (hka:∀ c ∈ a,c.ok) (hkb:∀ c ∈ b,c.ok) (hf:∀ s ∈ l,s.fine) (hla:a.length<=549755813888) (hlb:b.length<=549755813888) (hl:l.length<=1048576) (hfa:(K.runAll l).fits ⟨a,[],[]⟩) (hfb:(K.runAll l).fits ⟨b,[],[]⟩)
  (r r':List AnswerD) (m m':MachD) (hr:(K.runAll l).run ⟨a,[],[]⟩=(r,m)) (hr':(K.runAll l).run ⟨b,[],[]⟩=(r',m')) (hsm:Mp.Small m) (hsm':Mp.Small m') (hok:∀ x ∈ r,x.ok) (hok':∀ x ∈ r',x.ok) :
  Calls Tryz.prog 11 #[va,vb,vs] w fun e w'=>e=.returned (.bool (restOf a b r m r' m'))/\Below w.heap.size w w':=by
 have DA:=Hd (fun w' (hB:Below w.heap.size w w')=>zj3 va a w' (ha.below hB) (by omega))
 have DB:=Hd (fun w' (hB:Below w.heap.size w w')=>zj3 vb b w' (hb.below hB) (by omega))
 have D1:=Hd (fun w1 fp p H=>impl_run vs l hf hl w w1 fp p ⟨a,[],[]⟩ H hs hfa)
 have D2:=Hd (fun w1 fp p H=>impl_run vs l hf hl w w1 fp p ⟨b,[],[]⟩ H hs hfb)
 have D3:=Hd (fun w' v ss (hB:Below w.heap.size w w') hv=>impl_AgreeOn va vb v a b ss w' (ha.below hB) (hb.below hB) hv hka hkb (by omega) (by omega))
 have D4:=Hd (fun w' u u' v ss hu hu' hv=>impl_AgreeOn u u' v m.cells m'.cells ss w' hu hu' hv (small_ok hsm) (small_ok hsm') hsm.cl hsm'.cl)
 rw [hr] at D1
 rw [hr'] at D2
 dsimp only at D1 D2
 have HSM:=Hd hsm
 have HSM':=Hd hsm'
 have HOK:=Hd hok
 have HOK':=Hd hok'
 have HG:=Hd hg
 obtain ⟨aa,ca,rfl⟩:=ha.form
 obtain ⟨ab,cb,rfl⟩:=hb.form
 obtain ⟨al,cl,rfl⟩:=hs.form
 clear ha hb hs hka hkb hf hfa hfb hr hr' hsm hsm' hok hok' hg
 go_enter Tryz.func11,Tryz.ntmps11
 (repeat (first|go_skip|go_guarded|go_step|go_upon|go_back))
 (go_at_call 31;refine (DA.out _ (by repeat (with_reducible exact Below.refl _ _))).mono ?_;rintro e w1 ⟨pa,pc,rfl,ho,hb⟩)
 have HO1:=Hd ho
 have HB1:Hid (Below w.heap.size w w1):=Hd hb
 clear ho hb
 ((try simp only []);repeat (first|go_skip|go_guarded|go_step|go_upon|go_back))
 (go_at_call 31;refine (DB.out _ HB1.out).mono ?_;rintro e w2 ⟨pb,pd,rfl,ho,hb⟩)
 have HO2:=Hd ho
 have HP1:=Hd (zh7 HO1.out hb)
 have HB2:Hid (Below w.heap.size w w2):=Hd (Below.then HB1.out hb)
 have s01:=HB1.out.size
 have s12:=hb.size
 clear ho hb DA DB
 have h2:=zaq w2 (.cells #[.slice pa a.length pc,.slice none 0 0,.slice none 0 0] 54) (.cells #[.slice pb b.length pd,.slice none 0 0,.slice none 0 0] 54) _ rfl
 have hM1:IM w ((w2.alloc (.cells #[.slice pa a.length pc,.slice none 0 0,.slice none 0 0] 54)).alloc (.cells #[.slice pb b.length pd,.slice none 0 0,.slice none 0 0] 54)) w2.heap.size (w2.heap.size :: (Value.slice pa a.length pc).ownBlock.toList) ⟨a,[],[]⟩:=by
  refine ⟨⟨pa,pc,none,0,none,0,h2.1,(HP1.out.alloc _).alloc _,OwnL.nil zx _ _ _,OwnL.nil zx _ _ _,(fun k hk=>by cases hk),(fun k hk=>?_),(fun k hk=>by cases hk),(fun k hk=>by cases hk)⟩,List.mem_cons_self,(fun j hj=>?_),(fun j hj=>?_),(HB2.out.ofAlloc _).ofAlloc _,HG.out⟩
  ·simp only [List.mem_cons,Option.mem_toList];exact .inr hk
  ·simp only [List.mem_cons,Option.mem_toList] at hj
   rcases hj with rfl|hj
   ·have:=HB2.out.size;omega
   ·exact (HP1.out.lt j hj).1
  ·simp only [List.mem_cons,Option.mem_toList] at hj
   rcases hj with rfl|hj
   ·simp only [World.size_alloc];omega
   ·have:=(HP1.out.lt j hj).2;simp;omega
 have hM2:IM w ((w2.alloc (.cells #[.slice pa a.length pc,.slice none 0 0,.slice none 0 0] 54)).alloc (.cells #[.slice pb b.length pd,.slice none 0 0,.slice none 0 0] 54)) (w2.heap.size+1) ((w2.heap.size+1) :: (Value.slice pb b.length pd).ownBlock.toList) ⟨b,[],[]⟩:=by
  refine ⟨⟨pb,pd,none,0,none,0,h2.2,((HO2.out.base HB1.out.size).alloc _).alloc _,OwnL.nil zx _ _ _,OwnL.nil zx _ _ _,(fun k hk=>by cases hk),(fun k hk=>?_),(fun k hk=>by cases hk),(fun k hk=>by cases hk)⟩,List.mem_cons_self,(fun j hj=>?_),(fun j hj=>?_),(HB2.out.ofAlloc _).ofAlloc _,HG.out⟩
  ·simp only [List.mem_cons,Option.mem_toList];exact .inr hk
  ·simp only [List.mem_cons,Option.mem_toList] at hj
   rcases hj with rfl|hj
   ·have:=HB2.out.size;omega
   ·exact ((HO2.out.base HB1.out.size).lt j hj).1
  ·simp only [List.mem_cons,Option.mem_toList] at hj
   rcases hj with rfl|hj
   ·simp only [World.size_alloc];omega
   ·have:=((HO2.out.base HB1.out.size).lt j hj).2;simp;omega
 have HD:Hid (∀ j ∈ w2.heap.size :: (Value.slice pa a.length pc).ownBlock.toList,j ∉ (w2.heap.size+1) :: (Value.slice pb b.length pd).ownBlock.toList):=Hd (fun j hj hx=>by
  simp only [List.mem_cons,Option.mem_toList] at hj hx
  rcases hj with rfl|hj<;>rcases hx with hx|hx
  ·omega
  ·have:=(HO2.out.lt _ hx).2;omega
  ·have:=(HO1.out.lt _ hj).2;omega
  ·have h1:=(HO1.out.lt _ hj).2;have h2:=(HO2.out.lt _ hx).1;omega)
 have HM1:=Hd hM1
 have HM2:=Hd hM2
 generalize w2.heap.size :: (Value.slice pa a.length pc).ownBlock.toList=f1 at HM1 HD
 generalize (w2.heap.size+1) :: (Value.slice pb b.length pd).ownBlock.toList=f2 at HM2 HD
 clear hM1 hM2 h2 HO1 HO2 HP1
 ((try simp only []);repeat (first|go_skip|go_guarded|go_step|go_upon|go_back))
 (go_at_call 36;refine (D1.out _ _ _ HM1.out).mono ?_;rintro e w3 ⟨vo,rfl,g1,hm,ht,hk⟩)
 obtain ⟨oa,oc,rfl⟩:=hk.1.rd.form
 have HN2:=Hd (IM.upon HM2.out ht.up HD.out HM1.out.lo)
 have HE:Hid (∀ j ∈ f2,j ∉ g1):=Hd (fun j hj h=>(ht.sub j h).elim (fun h1=>HD.out j h1 hj) (fun h1=>absurd h1 (Nat.not_le.2 (HM2.out.hi j hj))))
 have HF:Hid (∀ j,(Value.slice oa r.length oc).ownBlock=some j->j ∉ f2):=Hd (fun j hj hx=>absurd (hk.1.lt j hj).1 (Nat.not_le.2 (HM2.out.hi j hx)))
 have HN1:=Hd hm
 have HK:=Hd hk
 have HB3:Hid (Below w.heap.size w w3):=Hd hm.bel
 obtain ⟨⟨n0,k0,n1,k1,n2,k2,hp,o0,o1,o2,_⟩,_⟩:=hm
 have H2:=Hd o1.rd
 have q1:w3.cell? ⟨w2.heap.size,1,none⟩=some (.slice n1 m.rd.length k1):=(zb (i:=1) hp).trans rfl
 have hpl:=za hp
 clear hp o0 o1 o2 hk ht HM1 HM2 D1 HD
 ((try simp only []);repeat (first|go_skip|go_guarded|go_step|go_upon|go_back))
 (go_at_call 14;refine (D3.out _ _ m.rd HB3.out (rdS_of' H2.out HSM.out.rz)).mono ?_;rintro e w4 ⟨rfl,hb⟩)
 have HB4:=Hd (Below.then HB3.out hb)
 have HQ1:=Hd (HN1.out.below hb)
 have HQ2:=Hd (HN2.out.below hb)
 have HK4:=Hd (HK.out.below hb)
 clear hb D3 HN1 HN2 HK H2 q1 hpl HB3
 rw [show (!((diffC a b).any (zbR m.rd)))=agreeOn a b m.rd from rfl]
 cases qa:agreeOn a b m.rd with
 | false =>
  ((try simp only []);repeat (first|go_skip|go_guarded|go_step|go_upon|go_back))
  refine bodyPost_ret (by simp [results,Tryz.results11,go_sem];rfl) rfl ?_
  exact ⟨by unfold restOf;rw [qa];rfl,HB4.out⟩
 | true =>
  ((try simp only []);repeat (first|go_skip|go_guarded|go_step|go_upon|go_back))
  (go_at_call 36;refine (D2.out _ _ _ HQ2.out).mono ?_;rintro e w5 ⟨vo2,rfl,g2,hm2,ht2,hk2⟩)
  obtain ⟨ob,od,rfl⟩:=hk2.1.rd.form
  have hm1:=HQ1.out.upon ht2.up HE.out HQ2.out.lo
  have hk1:=HK4.out.upon ht2.up HF.out
  have HB5:=Hd hm2.bel
  have A1:Hid ((vSlice vAnswer 30).rd w5 _ r):=zgE rfl rfl (by decide) hk1.1.rd HOK.out
  have A2:Hid ((vSlice vAnswer 30).rd w5 _ r'):=zgE rfl rfl (by decide) hk2.1.rd HOK'.out
  obtain ⟨⟨x0,y0,x1,y1,x2,y2,hp,o0,o1,o2,_⟩,_⟩:=hm1
  obtain ⟨⟨u0,t0,u1,t1,u2,t2,hp',o0',o1',o2',_⟩,_⟩:=hm2
  have H0:=Hd o0.rd
  have H1:=Hd o1.rd
  have H2:=Hd o2.rd
  have K0:=Hd o0'.rd
  have K1:=Hd o1'.rd
  have K2:=Hd o2'.rd
  have q0:w5.cell? ⟨w2.heap.size,0,none⟩=some (.slice x0 m.cells.length y0):=(zb (i:=0) hp).trans rfl
  have q1:w5.cell? ⟨w2.heap.size,1,none⟩=some (.slice x1 m.rd.length y1):=(zb (i:=1) hp).trans rfl
  have q2:w5.cell? ⟨w2.heap.size,2,none⟩=some (.slice x2 m.wr.length y2):=(zb (i:=2) hp).trans rfl
  have p0:w5.cell? ⟨w2.heap.size+1,0,none⟩=some (.slice u0 m'.cells.length t0):=(zb (i:=0) hp').trans rfl
  have p1:w5.cell? ⟨w2.heap.size+1,1,none⟩=some (.slice u1 m'.rd.length t1):=(zb (i:=1) hp').trans rfl
  have p2:w5.cell? ⟨w2.heap.size+1,2,none⟩=some (.slice u2 m'.wr.length t2):=(zb (i:=2) hp').trans rfl
  have hpl:=za hp
  have hpl':=za hp'
  clear hp hp' o0 o1 o2 o0' o1' o2' hk1 hk2 ht2 D2 HQ1 HQ2 HK4 HE HF
  ((try simp only []);repeat (first|go_skip|go_guarded|go_step|go_upon|go_back))
  (go_at_call 37;refine (impl_SameAnswers _ r' _ r _ (by repeat (with_reducible exact A2.out)) (by repeat (with_reducible exact A1.out))).mono ?_;rintro e w' ⟨rfl,hb⟩;obtain ⟨X,rfl⟩:=hb.ext;clear hb)
  rw [sameL_symm eqAnswer eqAnswer_symm r' r]
  cases qb:sameL eqAnswer r r' with
  | false =>
   ((try simp only []);repeat (first|go_skip|go_guarded|go_step|go_upon|go_back))
   refine bodyPost_ret (by simp [results,Tryz.results11,go_sem];rfl) rfl ?_
   exact ⟨by unfold restOf;rw [qa,qb];rfl,(by repeat (first|with_reducible exact HB5.out|with_reducible apply Below.ofExt|with_reducible apply Below.ofAlloc))⟩
  | true =>
   ((try simp only []);repeat (first|go_skip|go_guarded|go_step|go_upon|go_back))
   (go_at_call 38;refine (impl_SameTouch _ ⟨m.rd,m.wr⟩ _ ⟨m'.rd,m'.wr⟩ _ ⟨_,_,rfl,rdT_of (by repeat (first|with_reducible exact H1.out|with_reducible apply RdL.ext)) HSM.out.rz,rdT_of (by repeat (first|with_reducible exact H2.out|with_reducible apply RdL.ext)) HSM.out.wz⟩ ⟨_,_,rfl,rdT_of (by repeat (first|with_reducible exact K1.out|with_reducible apply RdL.ext)) HSM'.out.rz,rdT_of (by repeat (first|with_reducible exact K2.out|with_reducible apply RdL.ext)) HSM'.out.wz⟩).mono ?_;rintro e w' ⟨rfl,hb⟩;obtain ⟨X,rfl⟩:=hb.ext;clear hb)
   cases qc:sameTouch ⟨m.rd,m.wr⟩ ⟨m'.rd,m'.wr⟩ with
   | false =>
    ((try simp only []);repeat (first|go_skip|go_guarded|go_step|go_upon|go_back))
    refine bodyPost_ret (by simp [results,Tryz.results11,go_sem];rfl) rfl ?_
    exact ⟨by unfold restOf;rw [qa,qb,qc];rfl,(by repeat (first|with_reducible exact HB5.out|with_reducible apply Below.ofExt|with_reducible apply Below.ofAlloc))⟩
   | true =>
    ((try simp only []);repeat (first|go_skip|go_guarded|go_step|go_upon|go_back))
    (go_at_call 14;refine (D4.out _ _ _ _ m.wr (by repeat (first|with_reducible exact H0.out|with_reducible apply RdL.ext)) (by repeat (first|with_reducible exact K0.out|with_reducible apply RdL.ext)) (rdS_of' (by repeat (first|with_reducible exact H2.out|with_reducible apply RdL.ext)) HSM.out.wz)).mono ?_;rintro e w6 ⟨rfl,hb⟩;obtain ⟨X4,rfl⟩:=hb.ext;clear hb)
    ((try simp only []);repeat (first|go_skip|go_guarded|go_step|go_upon|go_back))
    refine bodyPost_ret (by simp [results,Tryz.results11,go_sem];rfl) rfl ?_
    exact ⟨by unfold restOf;rw [qa,qb,qc];rfl,(by repeat (first|with_reducible exact HB5.out|with_reducible apply Below.ofExt))⟩
theorem impl_RestsOn (va vb:Value) (a b:List CellD) (proc:Int) (c:CallD) (w:World) (hg:Glob w) (ha:RdL zu w va a) (hb:RdL zu w vb b) (hka:∀ c ∈ a,c.ok) (hkb:∀ c ∈ b,c.ok) (hf:StepD.fine ⟨proc,c⟩) (hla:a.length<=549755813888) (hlb:b.length<=549755813888) (hfa:(K.runAll [⟨proc,c⟩]).fits ⟨a,[],[]⟩) (hfb:(K.runAll [⟨proc,c⟩]).fits ⟨b,[],[]⟩)
  (r r':List AnswerD) (m m':MachD) (hr:(K.runAll [⟨proc,c⟩]).run ⟨a,[],[]⟩=(r,m)) (hr':(K.runAll [⟨proc,c⟩]).run ⟨b,[],[]⟩=(r',m')) (hsm:Mp.Small m) (hsm':Mp.Small m') (hok:∀ x ∈ r,x.ok) (hok':∀ x ∈ r',x.ok) :
  Calls Tryz.prog 10 #[va,vb,.int .i64 proc,zaM c] w fun e w'=>e=.returned (.bool (restOf a b r m r' m'))/\Below w.heap.size w w':=by
 have D:=Hd (fun vs w' (hB:Below w.heap.size w w') hs=>impl_StepsRestOn va vb vs a b [⟨proc,c⟩] w' (hg.below hB) (ha.below hB) (hb.below hB) hs hka hkb (by simpa using hf) hla hlb (by simp) hfa hfb r r' m m' hr hr' hsm hsm' hok hok')
 obtain ⟨aa,ca,rfl⟩:=ha.form
 obtain ⟨ab,cb,rfl⟩:=hb.form
 obtain ⟨kd,nm,tn,na,nb,tx⟩:=c
 unfold zaM
 clear ha hb hka hkb hf hfa hfb hr hr' hsm hsm' hok hok'
 go_enter Tryz.func10,Tryz.ntmps10
 (repeat (first|go_skip|go_guarded|go_step|go_upon|go_back))
 (go_at_call 11;refine (D.out _ _ (by repeat (first|with_reducible exact Below.refl _ _|with_reducible apply Below.ofAlloc)) (RdL.oneAt rStepM _ ⟨proc,⟨kd,nm,tn,na,nb,tx⟩⟩ _ rfl _ _ (by simp))).mono ?_;rintro e w1 ⟨rfl,hb⟩)
 have HB:Hid (Below w.heap.size w w1):=Below.then (by repeat (first|with_reducible exact Below.refl _ _|with_reducible apply Below.ofAlloc)) hb
 clear hb D
 ((try simp only []);repeat (first|go_skip|go_guarded|go_step|go_upon|go_back))
 refine bodyPost_ret (by simp [results,Tryz.results10,go_sem];rfl) rfl ?_
 exact ⟨rfl,HB.out⟩
open Mp
theorem sm_runAll (l:List StepD):(K.runAll l).Sm Any:=zdP (f:=K.runSteps) (P:=Any) (fun b s _=>zh (ziW _ _) fun _ _=>by exact trivial) _ _ fun _ _=>trivial
open Mp
theorem agree_iff (a b:List CellD) (ss:List ByteArray):agreeOn a b ss=true ↔ ∀ k,zbR ss k=true->zbm k a=zbm k b:=by
 unfold agreeOn
 rw [Bool.not_eq_true',List.any_eq_false]
 constructor
 ·exact fun h k hk=>Classical.byContradiction fun hne=>h k ((diffC_mem a b k).2 hne) hk
 ·exact fun h k hk hh=>(diffC_mem a b k).1 hk (h k hh)
theorem sameL_refl {α : Type} {p : α->α->Bool} (hp:∀ x,p x x=true) (xs:List α):sameL p xs xs=true:=by
 unfold sameL
 rw [Bool.and_eq_true,decide_eq_true_eq,List.all_eq_true]
 refine ⟨rfl,fun z hz=>?_⟩
 obtain ⟨i,hi,rfl⟩:=List.getElem_of_mem hz
 rw [List.getElem_zip]
 exact hp _
theorem eqAnswer_refl (x:AnswerD):eqAnswer x x=true:=by unfold eqAnswer;simp
theorem eqStr_refl (x:ByteArray):eqStr x x=true:=by unfold eqStr;simp
theorem rest_true {a b:List CellD} (l:List StepD) (ha:Right a) (hb:Right b) {r r':List AnswerD} {m m':MachD} (hr:(K.runAll l).run ⟨a,[],[]⟩=(r,m)) (hr':(K.runAll l).run ⟨b,[],[]⟩=(r',m')):restOf a b r m r' m'=true:=by
 unfold restOf
 cases hq:agreeOn a b m.rd with
 | false=>rfl
 | true =>
  have h:=zkw (K.runAll l) ⟨a,[],[]⟩ ⟨b,[],[]⟩ (sm_runAll l) ha hb rfl rfl (by rw [hr];exact (agree_iff _ _ _).1 hq) (fun k hk=>by cases hk)
  rw [hr,hr'] at h
  obtain ⟨h1,h2,h3,h4⟩:=h
  dsimp only at h1 h2 h3 h4
  subst h1
  have e:sameTouch ⟨m.rd,m.wr⟩ ⟨m'.rd,m'.wr⟩=true:=by
   rw [h2,h3]
   unfold sameTouch
   rw [sameL_refl eqStr_refl,sameL_refl eqStr_refl]
   rfl
  rw [sameL_refl eqAnswer_refl,e,(agree_iff _ _ _).2 h4]
  rfl
theorem only_laid {α : Type} (x:Mp α) (cs:List CellD):covers (x.run ⟨cs,[],[]⟩).2.wr (diffC cs (x.run ⟨cs,[],[]⟩).2.cells)=true:=by
 unfold covers
 rw [List.all_eq_true]
 intro k hk
 have h1:=(diffC_mem _ _ _).1 hk
 have h2:k ∈ (x.run ⟨cs,[],[]⟩).2.wr:=Classical.byContradiction fun hn=>h1 (zeR x ⟨cs,[],[]⟩ k hn).symm
 exact zgb h2 (zfI k)
def oneC:List CellD:=[⟨⟨#[97]⟩,⟨#[49]⟩⟩]
theorem one_a:agreeOn oneC [] [⟨#[97]⟩]=false:=by decide +kernel
theorem one_b:agreeOn oneC [] [⟨#[98]⟩]=true:=by decide +kernel
end Go.Proofs.YtpnoehpmgflibaaGreatDoor
