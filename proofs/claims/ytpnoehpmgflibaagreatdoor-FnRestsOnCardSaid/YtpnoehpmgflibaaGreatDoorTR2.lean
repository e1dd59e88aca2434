/- Texts of this claim, merged: the walks and what they stand on. Each condition stands in its theorem. -/
import Derived.Test.YtpnoehpmgflibaaGreatDoorCA30
import Derived.Test.YtpnoehpmgflibaaGreatDoorTR1
set_option linter.unusedVariables false
set_option linter.unusedSimpArgs false
set_option maxRecDepth 100000
set_option maxHeartbeats 8000000
namespace Go.Proofs.YtpnoehpmgflibaaGreatDoor
open Go.ChangeShapes Go.WideShapes Go.ChangeAt Go.RowKit
theorem putC_small {key val:ByteArray} {xs:List CellD} (h:∀ c ∈ xs,SmallC c) (hk:key.size<=100) (hv:val.size<=100):∀ c ∈ zbM key val xs,SmallC c:=by
 intro c hc
 unfold zbM at hc
 split at hc
 ·exact h c hc
 ·split at hc
  ·exact h c (List.mem_filter.1 hc).1
  ·unfold zfN at hc
   rw [List.mem_append,List.mem_cons] at hc
   have hw:∀ d ∈ zB key xs,SmallC d:=fun d hd=>h d (List.mem_filter.1 hd).1
   rcases hc with hc|rfl|hc
   ·exact hw c ((List.takeWhile_sublist _).subset hc)
   ·exact ⟨hk,hv⟩
   ·exact hw c ((List.dropWhile_sublist _).subset hc)
theorem own_belowC {w w':World} {B:Nat} {e:TypeId} {v:Value} {xs:List CellD} (h:OwnL zu e w B v xs) (hb:Below w.heap.size w w'):OwnL zu e w' B v xs:=by
 obtain ⟨X,rfl⟩:=hb.ext
 exact h.ext X
def DrawnN (n:Nat) (p:Nat) (vb:Value) (bs:List UInt8) (w:World) (v:Value) (w':World):Prop:=∃ xs,OwnL zu 47 w' w.heap.size v xs/\xs.length<=n/\(∀ x ∈ xs,SmallC x)/\zko p vb bs w w'
theorem spec_l02Store (p:Nat) (vb:Value) (bs:List UInt8) (i h:Int) (w:World) (hc:Cur w p vb bs i h) :
  Calls Tryz.prog 167 #[.pointer (some ⟨p,0,none⟩)] w fun e w'=>∃ v,e=.returned v/\DrawnN 8 p vb bs w v w':=by
 have hp:=hc.lt
 have HC:=Hd hc
 clear hc
 go_enter Tryz.func167,Tryz.ntmps167
 go_wp2
 go_loopw [3,4] (fun v k wr=>∃ (n:Nat) (xs:List CellD) (i' h':Int),k=.int .i64 n/\n<=8/\xs.length<=n/\(∀ x ∈ xs,SmallC x)/\OwnL zu 47 wr w.heap.size v xs/\Got p w (zad vb i' h') wr/\0<=i'/\i'<=bs.length) (fun _ k _=>8 - (intOf k).toNat)
 case atStart=>exact ⟨0,[],i,h,rfl,by omega,by simp,by simp,OwnL.empty zu _ _,(zdS HC.out.blk).alloc _,HC.out.lo,HC.out.hi⟩
 case round =>
  obtain ⟨n,xs,i1,h1,rfl,hn,hl,hsm,ho,hg,hi0,hi1⟩:=hrel
  have hc1:=HC.out.got hg hi0 hi1
  have hvl:=ho.lt
  obtain ⟨ao,co,rfl⟩:=ho.rd.form
  have hne:(Value.slice ao xs.length co).ownBlock ≠ some p:=fun e=>by have:=(hvl p e).1;omega
  have HO:=Hd ho
  have HP:=Hd hne
  have HSM:=Hd hsm
  clear ho hne hvl hsm
  go_wp2_with fail
  (go_at_call 63;refine (zao p vb bs _ _ _ _ hc1 (by omega)).mono ?_;rintro e w2 ⟨x,i2,h2,rfl,⟨hx0,hx1,_⟩,hg2,hj0,hj1⟩)
  have hc2:=hc1.got hg2 hj0 hj1
  have hx2:=hx1 (by omega)
  clear hx1
  by_cases hlt:(n:Int)<x
  ·go_wp2_with fail
   (go_at_call 56;refine (zjD p vb bs _ _ _ hc2).mono ?_;rintro e w3 ⟨key,i3,h3,rfl,hkey,hg3,hk0,hk1⟩)
   have hc3:=hc2.got hg3 hk0 hk1
   have hkz:=keys1_small key hkey
   clear hkey
   go_wp2_with fail
   (go_at_call 98;refine (spec_l02Val p vb bs _ _ _ hc3).mono ?_;rintro e w4 ⟨t,rfl,ht,i4,h4,hg4,hl0,hl1⟩)
   have ho4:=((HO.out.got hg2 HP.out).got hg3 HP.out).got hg4 HP.out
   have hgg:=((hg.then hg2 hp).then hg3 hp).then hg4 hp
   have hz:=hgg.size
   go_wp2_with fail
   (go_at_call 50;refine (zgv _ xs key t _ ho4.rd (by omega) (by omega)).mono ?_;rintro e w5 ⟨v5,rfl,ho5,hb5⟩)
   have hpl:=putC_len key t xs
   have hps:=putC_small HSM.out hkz ht
   have hg5:=hgg.ofBelow hb5
   have HO5:=Hd (ho5.base hz)
   clear ho5
   go_wp2
   go_roundw
   case rel=>exact ⟨n+1,_,i4,h4,by go_num,by omega,by omega,hps,HO5.out,hg5,hl0,hl1⟩
   case measure=>simp [intOf];omega
  ·have ho2:=HO.out.got hg2 HP.out
   have hgg:=hg.then hg2 hp
   go_wp2
   go_ret
   exact ⟨_,rfl,xs,ho2,by omega,HSM.out,⟨i2,h2,hgg,hj0,hj1⟩⟩
theorem spec_l02Any (p:Nat) (vb:Value) (bs:List UInt8) (i h:Int) (w:World) (hc:Cur w p vb bs i h) :
  Calls Tryz.prog 97 #[.pointer (some ⟨p,0,none⟩)] w fun e w'=>∃ v,e=.returned v/\DrawnN 9 p vb bs w v w':=by
 have hp:=hc.lt
 have HC:=Hd hc
 clear hc
 go_enter Tryz.func97,Tryz.ntmps97
 go_wp2_with fail
 (go_at_call 167;refine (spec_l02Store p vb bs _ _ _ HC.out).mono ?_;rintro e w1 ⟨v,rfl,xs,ho,hl,hsm,i1,h1,hg,hi0,hi1⟩)
 have hc1:=HC.out.got hg hi0 hi1
 have hvl:=ho.lt
 obtain ⟨ao,co,rfl⟩:=ho.rd.form
 have hne:(Value.slice ao xs.length co).ownBlock ≠ some p:=fun e=>by have:=(hvl p e).1;omega
 have HO:=Hd ho
 have HP:=Hd hne
 have HSM:=Hd hsm
 clear ho hne hvl hsm
 go_wp2_with fail
 (go_at_call 52;refine (zfG p vb bs _ _ 8 _ hc1 (by omega)).mono ?_;rintro e w3 ⟨b,rfl,i3,h3,hg3,ha3,hb3⟩)
 have hc3:=hc1.got hg3 ha3 hb3
 have hg3':=hg.then hg3 hp
 have ho3:=HO.out.got hg3 HP.out
 cases b with
 | true =>
  go_wp2_with fail
  (go_at_call 168;refine (spec_l02AnyKey p vb bs _ _ _ hc3).mono ?_;rintro e w4 ⟨key,rfl,hkey,i4,h4,hg4,hk0,hk1⟩)
  have hc4:=hc3.got hg4 hk0 hk1
  go_wp2_with fail
  (go_at_call 98;refine (spec_l02Val p vb bs _ _ _ hc4).mono ?_;rintro e w5 ⟨t,rfl,ht,i5,h5,hg5,hm0,hm1⟩)
  have ho5:=(ho3.got hg4 HP.out).got hg5 HP.out
  have hgg5:=(hg3'.then hg4 hp).then hg5 hp
  have hz5:=hgg5.size
  go_wp2_with (at_builtin;refine zA ?_)
  refine zI rfl _ _ _ rfl Tryz.elemCellD (ho5.alloc _) rfl (RdL.oneAt zu _ ⟨key,t⟩ _ rfl _ _ rfl) rfl (by simp only [List.length_singleton];omega) (by simp only [List.length_singleton];unfold maxLen;omega) (by simp;omega) ?_
  intro v6 w6 hown6 hgr6 _
  have hg6:Got p w _ w6:=Got.app (hgg5.alloc _) hgr6 (ho5.alloc _)
  clear hgr6
  have HO6:=Hd hown6
  clear hown6
  go_wp2
  go_ret
  exact ⟨_,rfl,_,HO6.out,by simp;omega,small_snoc HSM.out ⟨hkey,ht⟩,⟨i5,h5,hg6,hm0,hm1⟩⟩
 | false =>
  go_wp2
  go_ret
  exact ⟨_,rfl,xs,ho3,by omega,HSM.out,⟨_,_,hg3',ha3,hb3⟩⟩
def DrawnTwo (w:World) (va vb:Value) (w':World):Prop:=∃ a b Ba Bb,OwnL zu 47 w' Ba va a/\OwnL zu 47 w' Bb vb b/\a.length<=40/\b.length<=40/\(∀ x ∈ a,SmallC x)/\(∀ x ∈ b,SmallC x)/\Below w.heap.size w w'
theorem _root_.Go.Got.toBelowS {a w w':World} {p:Nat} {o:Obj} (h:Got p w o w') (hb:Below a.heap.size a w) (hp:a.heap.size<=p):Below a.heap.size a w':=by
 obtain ⟨X,rfl⟩:=h
 refine hb.trans ⟨rfl,rfl,rfl,by rw [zm,zd];omega,fun k hk=>?_⟩
 have:=hb.size
 rw [World.ext_get _ _ (by rw [zd];omega),World.setB_get _ _ _ _ (by omega)]
theorem spec_l02Two (v:Value) (bs:List UInt8) (w:World) (hs:Sl w v bs.length (zL bs)) (hl:bs.length<=140737488351232) (hb:∀ b,v.ownBlock=some b->b<w.heap.size) :
  Calls Tryz.prog 39 #[v] w fun e w'=>∃ va vb,e=.returned (.tuple #[va,vb])/\DrawnTwo w va vb w':=by
 go_enter Tryz.func39,Tryz.ntmps39
 go_wp2_with fail
 (go_at_call 26;refine (zgu v bs _ hs hl hb).mono ?_;rintro e w1 ⟨p,rfl,⟨h,hc⟩,hb1,hp⟩)
 have hpl:=hc.lt
 have hz1:=hb1.size
 go_wp2_with fail
 (go_at_call 97;refine (spec_l02Any p v bs _ _ _ hc).mono ?_;rintro e w2 ⟨va,rfl,xs,ho,hlx,hsm,i1,h1,hg,hi0,hi1⟩)
 have hc2:=hc.got hg hi0 hi1
 have hvl:=ho.lt
 obtain ⟨ao,co,rfl⟩:=ho.rd.form
 have hne:(Value.slice ao xs.length co).ownBlock ≠ some p:=fun e=>by have:=(hvl p e).1;omega
 have HO:=Hd ho
 have HP:=Hd hne
 have HSM:=Hd hsm
 clear ho hne hvl hsm
 go_wp2_with fail
 (go_at_call 63;refine (zao p v bs _ _ _ _ hc2 (by omega)).mono ?_;rintro e w3 ⟨x,i3,h3,rfl,⟨hx0,hx1,_⟩,hg3,ha3,hb3⟩)
 have hc3:=hc2.got hg3 ha3 hb3
 have ho3:=HO.out.got hg3 HP.out
 have hb3':=hg3.toBelowS (hg.toBelowS hb1 hp) hp
 have hz3:=hb3'.size
 have HO3:=Hd ho3
 clear ho3 hx1
 by_cases c0:x=0
 ·have k0:(x==0)=true:=by simp [c0]
  go_wp2_with (at_builtin;refine zA ?_)
  refine zI rfl _ _ _ rfl Tryz.elemCellD (B:=w3.heap.size) (v:=.slice (some ⟨w3.heap.size,0,none⟩) 0 0) (xs:=[]) (R:=zu) (OwnL.empty zu _ w3) rfl (ys:=xs) (HO3.out.rd.alloc _) rfl (by simp only [List.length_nil];omega) (by simp only [List.length_nil];unfold maxLen;omega) (by simp) ?_
  intro v4 w4 hown4 hgr4 _
  have hb4:Below w3.heap.size w3 w4:=Below.appL (R:=zu) (e:=47) (v:=.slice (some ⟨w3.heap.size,0,none⟩) 0 0) (xs:=[]) ((Below.refl _ _).ofAlloc _) hgr4 (OwnL.empty zu _ w3)
  clear hgr4
  simp only [List.nil_append] at hown4
  have HO4:=Hd hown4
  have HO34:=Hd (own_belowC HO3.out hb4)
  clear hown4
  go_wp2
  refine bodyPost_ret (by simp [results,Tryz.results39,go_sem];rfl) rfl ?_
  exact ⟨_,_,rfl,xs,xs,_,_,HO34.out,HO4.out,by omega,by omega,HSM.out,HSM.out,Below.then hb3' hb4⟩
 ·have k0:(x==0)=false:=by simp [c0]
  by_cases c1:x=1
  ·have k1:(x==1)=true:=by simp [c1]
   go_wp2_with fail
   (go_at_call 56;refine (zjD p v bs _ _ _ hc3).mono ?_;rintro e w4 ⟨key,i4,h4,rfl,hkey,hg4,ha4,hb4⟩)
   have hc4:=hc3.got hg4 ha4 hb4
   have hkz:=keys1_small key hkey
   clear hkey
   go_wp2_with fail
   (go_at_call 98;refine (spec_l02Val p v bs _ _ _ hc4).mono ?_;rintro e w5 ⟨t,rfl,ht,i5,h5,hg5,ha5,hb5⟩)
   have ho5:=(HO3.out.got hg4 HP.out).got hg5 HP.out
   have hb5':=hg5.toBelowS (hg4.toBelowS hb3' hp) hp
   have HO5:=Hd ho5
   clear ho5
   go_wp2_with fail
   (go_at_call 50;refine (zgv _ xs key t _ HO5.out.rd (by omega) (by omega)).mono ?_;rintro e w6 ⟨v6,rfl,ho6,hb6⟩)
   have hpl2:=putC_len key t xs
   have hps:=putC_small HSM.out hkz ht
   have HO56:=Hd (own_belowC HO5.out hb6)
   have HO6:=Hd ho6
   clear ho6
   go_wp2
   refine bodyPost_ret (by simp [results,Tryz.results39,go_sem];rfl) rfl ?_
   exact ⟨_,_,rfl,xs,_,_,_,HO56.out,HO6.out,by omega,by omega,HSM.out,hps,Below.then hb5' hb6⟩
  ·have k1:(x==1)=false:=by simp [c1]
   go_wp2_with fail
   (go_at_call 97;refine (spec_l02Any p v bs _ _ _ hc3).mono ?_;rintro e w4 ⟨va4,rfl,ys,ho4,hly,hsy,i4,h4,hg4,ha4,hb4⟩)
   have HO34:=Hd (HO3.out.got hg4 HP.out)
   have HO4:=Hd ho4
   have hb4':=hg4.toBelowS hb3' hp
   clear ho4
   go_wp2
   refine bodyPost_ret (by simp [results,Tryz.results39,go_sem];rfl) rfl ?_
   exact ⟨_,_,rfl,xs,ys,_,_,HO34.out,HO4.out,by omega,by omega,HSM.out,hsy,hb4'⟩
theorem spans_small:∀ s ∈ spansLit,s.size<=100:=by decide
theorem keys_small:∀ s ∈ zfq,s.size<=100:=by decide
theorem putS_small {xs:List ByteArray} {y:ByteArray} (h:∀ s ∈ xs,s.size<=100) (hy:y.size<=100):∀ s ∈ zb3 xs y,s.size<=100:=by
 intro s hs
 unfold zb3 at hs
 split at hs
 ·exact h s hs
 ·rcases List.mem_append.1 hs with hs|hs
  ·exact h s (List.mem_of_mem_take hs)
  ·rcases List.mem_cons.1 hs with rfl|hs
   ·exact hy
   ·exact h s (List.mem_of_mem_drop hs)
theorem own_belowL {α : Type} {R:RowOf α} {e:TypeId} {w w':World} {B:Nat} {v:Value} {xs:List α} (h:OwnL R e w B v xs) (hb:Below w.heap.size w w'):OwnL R e w' B v xs:=by
 obtain ⟨X,rfl⟩:=hb.ext
 exact h.ext X
theorem spec_l03ListA (p:Nat) (vb:Value) (bs:List UInt8) (i h:Int) (w:World) (hc:Cur w p vb bs i h) :
  Calls Tryz.prog 40 #[.pointer (some ⟨p,0,none⟩)] w fun e w'=>∃ v xs i' h',e=.returned v/\OwnL zx 9 w' w.heap.size v xs/\xs.length<=4/\(∀ s ∈ xs,s.size<=100)/\Got p w (zad vb i' h') w'/\0<=i'/\i'<=bs.length:=by
 have hp:=za hc.blk
 have HC:=Hd hc
 clear hc
 go_enter Tryz.func40,Tryz.ntmps40
 go_wp2
 go_loopw [3,4] (fun v k wr=>∃ (n:Nat) (xs:List ByteArray) (i' h':Int),k=.int .i64 n/\n<=4/\xs.length<=n/\(∀ s ∈ xs,s.size<=100)/\OwnL zx 9 wr w.heap.size v xs/\Got p w (zad vb i' h') wr/\0<=i'/\i'<=bs.length) (fun _ k _=>4 - (intOf k).toNat)
 case atStart =>
  exact ⟨0,[],i,h,rfl,by omega,by simp,by simp,OwnL.empty zx _ _,(zdS HC.out.blk).alloc _,HC.out.lo,HC.out.hi⟩
 case round =>
  obtain ⟨n,xs,i1,h1,rfl,hn,hx,hsz,hr,hg,hi0,hi1⟩:=hrel
  have hvb:=hr.lt
  have hc1:=HC.out.got hg hi0 hi1
  have hvp:u3.ownBlock ≠ some p:=fun e=>by have:=(hvb p e).1;omega
  have HV:=Hd hvb
  have HP:=Hd hvp
  have HSZ:=Hd hsz
  clear hvb hvp hsz
  go_wp2_with fail
  (go_at_call 63;refine (zao p vb bs _ _ _ _ hc1 (by omega)).mono ?_;rintro e w2 ⟨x,i2,h2,rfl,⟨hx0,hx1,_⟩,hg2,hj0,hj1⟩)
  have hc2:=hc1.got hg2 hj0 hj1
  have hr2:=hr.got hg2 HP.out
  have hx2:=hx1 (by omega)
  clear hx1
  by_cases hlt:(n:Int)<x
  ·go_wp2_with fail
   (go_at_call 100;refine (spec_l03Span p vb bs _ _ _ hc2).mono ?_;rintro e w3 ⟨y,i3,h3,rfl,hy,hg3,hk0,hk1⟩)
   have hr3:=hr2.got hg3 HP.out
   go_wp2_with fail
   (go_at_call 99;refine (zct _ xs _ _ hr3.rd (by omega)).mono ?_;rintro e w4 ⟨v',rfl,hv',hb⟩)
   have hlen:=zjS xs y
   go_wp2
   go_roundw
   case rel=>exact ⟨n+1,zb3 xs y,i3,h3,by go_num,by omega,by omega,putS_small HSZ.out (spans_small y hy),hv'.base (by have:=hg.size;have:=hg2.size;have:=hg3.size;omega),((hg.then hg2 hp).then hg3 hp).ofBelow hb,hk0,hk1⟩
   case measure=>simp [intOf];omega
  ·go_wp2
   go_ret
   exact ⟨_,xs,i2,h2,rfl,hr2,by omega,HSZ.out,hg.then hg2 hp,hj0,hj1⟩
theorem spec_l03TouchB (p:Nat) (vb:Value) (bs:List UInt8) (i h:Int) (w:World) (hc:Cur w p vb bs i h) :
  Calls Tryz.prog 41 #[.pointer (some ⟨p,0,none⟩)] w fun e w'=>∃ vr vw rs ws i' h',e=.returned (.agg #[vr,vw])/\OwnL zx 9 w' w.heap.size vr rs/\OwnL zx 9 w' w.heap.size vw ws/\(∀ s ∈ rs,s.size<=100)/\(∀ s ∈ ws,s.size<=100)/\ws.length<=4/\Got p w (zad vb i' h') w'/\0<=i'/\i'<=bs.length:=by
 have hp:=hc.lt
 have HC:=Hd hc
 clear hc
 go_enter Tryz.func41,Tryz.ntmps41
 go_wp2_with fail
 (go_at_call 40;refine (spec_l03ListA p vb bs _ _ _ (HC.out.alloc _)).mono ?_;rintro e w1 ⟨vr,rs,i1,h1,rfl,hr,hl,hsr,hg,hi0,hi1⟩;have hv:=hr.lt;have HSR:=Hd hsr;clear hsr)
 obtain ⟨ar,cr,rfl⟩:=hr.rd.form
 have hg1:=hg.ofAlloc hp
 have hz1:=hg.size
 have h2:w1.heap[w.heap.size]?=some (touchObj nilS nilS):=by
  rw [hg.other (by simp) (by omega)]
  show (w.heap.push _)[w.heap.size]? = _
  simp [touchObj,nilS]
 have HG:=Hd hg1
 have HV:=Hd hv
 have H2:=Hd h2
 have HR:=Hd hr
 clear hg hg1 hv h2 hr
 go_wp2
 go_loopw [4] (fun k wr=>∃ (n:Nat) (vw:Value) (ws:List ByteArray) (i' h':Int),k=.int .i64 n/\n<=3/\ws.length<=n/\OwnL zx 9 wr w.heap.size vw ws/\(∀ s ∈ ws,s.size<=100)/\(∀ b,vw.ownBlock=some b->w.heap.size<=b/\b<wr.heap.size/\b ≠ w1.heap.size/\b ≠ w.heap.size) /\
  wr.heap[w1.heap.size]?=some (touchObj (.slice ar rs.length cr) vw)/\wr.heap[w.heap.size]?=some (touchObj nilS nilS)/\OwnL zx 9 wr w.heap.size (.slice ar rs.length cr) rs/\Got p w (zad vb i' h') wr/\0<=i'/\i'<=bs.length) (fun k _=>3 - (intOf k).toNat)
 case atStart =>
  refine ⟨0,nilS,[],i1,h1,rfl,by omega,by simp,OwnL.nil _ _ _ _,by simp,fun b hb=>by simp [Value.ownBlock,nilS] at hb,?_,?_,(HR.out.base (by simp)).alloc _,HG.out.alloc _,hi0,hi1⟩
  ·show (w1.heap.push _)[w1.heap.size]? = _
   simp [touchObj,nilS]
  ·rw [Below.heap_alloc _ _ _ (by simp at hz1;omega)]
   exact H2.out
 case round =>
  obtain ⟨n,vw,ws,i2,h2,rfl,hn,hl2,hr2,hsw,hv2,hb3,hb2,hr1,hg2,hj0,hj1⟩:=hrel
  have HSW:=Hd hsw
  clear hsw
  have hc2:=HC.out.got hg2 hj0 hj1
  obtain ⟨aw,cw,rfl⟩:=hr2.rd.form
  go_wp2_with fail
  (go_at_call 63;refine (zao p vb bs _ _ _ _ hc2 (by omega)).mono ?_;rintro e w3 ⟨x,i3,h3,rfl,⟨hx0,hx1,_⟩,hg3,hk0,hk1⟩)
  have hc3:=hc2.got hg3 hk0 hk1
  have hx2:=hx1 (by omega)
  clear hx1
  have hzr:=za hb3
  have hz3:=hg3.size
  have hne3:w1.heap.size ≠ p:=by simp at hz1;omega
  have hb3':=(hg3.other hzr hne3).trans hb3
  have hb2':=(hg3.other (za hb2) (by omega)).trans hb2
  have hr1':=hr1.got hg3 (fun e=>by have:=(HV.out p e).1;simp at this;omega)
  have hr2':=hr2.got hg3 (fun e=>by have:=(hv2 p e).1;omega)
  have hg3':=hg2.then hg3 hp
  have HB3:=Hd hb3'
  have HB2:=Hd hb2'
  have HR1:=Hd hr1'
  have HR2:=Hd hr2'
  have HV2:=Hd hv2
  have HZ1:=Hd hz1
  clear hb3 hb2 hr1 hr2 hb3' hb2' hr1' hr2' hv2 hz1
  by_cases hlt:(n:Int)<x
  ·go_wp2
   have hzz:w1.heap.size<w3.heap.size:=by omega
   have hcl:w3.cell? ⟨w1.heap.size,1,none⟩=some (.slice aw ws.length cw):=zb HB3.out
   have hb1:w1.heap.size ≠ p:=hne3
   refine zg6 (SpF w3 p) [(0,true),(1,true),(2,true),(3,false),(4,false),(5,false),(6,false)] 5 (by kernel_rfl) (by kernel_rfl) (Sp.start hc3.blk) ?_
   repeat (refine zk rfl (fun K hK=>?_);go_simp;(try simp (disch:=omega) only [IntWalk.i64_in]);refine hK _ ?_;clear hK K)
   refine zr rfl (fun K hK=>?_);go_simp;go_at_call 56;refine (zjD p vb bs _ _ _ hc3.drew).mono ?_;rintro e w4 ⟨y,i4,h4,rfl,hy,hg4,hm0,hm1⟩;try go_simp;refine hK _ _ (Sp.got (Sp.start hc3.blk) hg4 hc3.lt) ?_;clear hK K
   have hc4:=hc3.drew.got hg4 hm0 hm1
   have hz4:=hg4.size
   have hr4:=OwnL.got (HR2.out:OwnL zx 9 w3.drew w.heap.size _ ws) hg4 (fun e=>by have:=(HV2.out p e).1;omega)
   have hr14:=OwnL.got (HR1.out:OwnL zx 9 w3.drew w.heap.size _ rs) hg4 (fun e=>by have:=(HV.out p e).1;simp at this;omega)
   have h34:w4.heap[w1.heap.size]?=some (touchObj (.slice ar rs.length cr) (.slice aw ws.length cw)):=(hg4.other (by simpa using hzz) hne3).trans HB3.out
   have h24:w4.heap[w.heap.size]?=some (touchObj nilS nilS):=(hg4.other (za HB2.out) (by omega)).trans HB2.out
   have hg4':=hg3'.then (show Got p w3 _ w4 from hg4) hp
   have HR4:=Hd hr4
   have HR14:=Hd hr14
   have H34:=Hd h34
   have H24:=Hd h24
   clear hr4 hr14 h34 h24
   refine zr rfl (fun K hK=>?_);go_simp;go_at_call 99;refine (zct _ ws _ _ HR4.out.rd (by omega)).mono ?_;rintro e w5 ⟨v5,rfl,ho5,hb5⟩;try go_simp;refine hK _ _ (Sp.below (Sp.got (Sp.start hc3.blk) hg4 hc3.lt) hb5) ?_;clear hK K
   have hz5:=hb5.size
   have hr15:=own_belowL HR14.out hb5
   have h35:w5.heap[w1.heap.size]? = _:=(hb5.block _ (za H34.out)).trans H34.out
   have h25:w5.heap[w.heap.size]? = _:=(hb5.block _ (za H24.out)).trans H24.out
   have hzl:w1.heap.size<w5.heap.size:=za h35
   obtain ⟨a5,c5,rfl⟩:=ho5.rd.form
   have hlen:=zjS ws y
   refine wpOrd_at_block h35 ?_
   unfold touchObj
   repeat (refine zt rfl rfl (fun K hK=>?_);go_simp;refine hK _ _ ?_;clear hK K)
   refine zQ ?_
   go_wp2
   go_roundw
   case rel =>
    refine ⟨n+1,_,zb3 ws y,i4,h4,by go_num,by omega,by omega,?_,putS_small HSW.out (keys_small y hy),fun b hb=>by have:=ho5.lt b hb;have:=hg4'.size;have:=HG.out.size;have:=za H34.out;have:=za H24.out;simp only [zd];omega,World.setB_at _ _ _ hzl,?_,?_,?_,hm0,hm1⟩
    ·exact (ho5.base (by have:=za H24.out;omega)).setB (fun e=>by have:=(ho5.lt _ e).1;have:=za H34.out;omega) _
    ·rw [World.setB_get _ _ _ _ (by have:=HZ1.out;simp at this;omega)]
     exact h25
    ·exact hr15.setB (fun e=>by have:=(HV.out _ e).2;omega) _
    ·exact (hg4'.ofBelow hb5).past (by have:=HG.out.size;omega) _
   case measure=>simp [intOf];omega
  ·have hw1:w1.heap.size<w3.heap.size:=za HB3.out
   have hw0:w.heap.size<w3.heap.size:=za HB2.out
   have hw01:w.heap.size<w1.heap.size:=by have:=HZ1.out;simp at this;omega
   have hb2s:(w3.setB w1.heap.size (touchObj (.slice ar rs.length cr) (.slice aw ws.length cw))).heap[w.heap.size]?=some (touchObj nilS nilS):=by
    rw [World.setB_get _ _ _ _ (by omega)]
    exact HB2.out
   have hn01:w1.heap.size ≠ w.heap.size:=by omega
   have hnp:w.heap.size ≠ p:=by omega
   rw [<- ze HB3.out,<- ze hb2s]
   unfold touchObj nilS
   clear hb2s
   go_wp2
   refine bodyPost_ret (by simp [results,Tryz.results41,go_sem,hw0];rfl) rfl ?_
   refine ⟨_,_,rs,ws,i3,h3,rfl,?_,?_,HSR.out,HSW.out,by omega,(hg3'.past (by omega) _).past (by omega) _,hk0,hk1⟩
   ·exact (HR1.out.setB (fun e=>by have:=(HV.out _ e).2;omega) _).setB (fun e=>by have:=(HV.out _ e).1;simp at this;omega) _
   ·exact (HR2.out.setB (fun e=>(HV2.out _ e).2.2.1 rfl) _).setB (fun e=>(HV2.out _ e).2.2.2 rfl) _
theorem spec_DrawRestsOn (v:Value) (bs:List UInt8) (w:World) (hs:Sl w v bs.length (zL bs)) (hl:bs.length<=140737488351232) (hb:∀ b,v.ownBlock=some b->b<w.heap.size) :
  Calls Tryz.prog 6 #[v] w fun e w'=>∃ va vb a b n c,e=.returned (.tuple #[va,vb,.int .i64 n,zaM c])/\RdL zu w' va a/\RdL zu w' vb b/\StoreN 8 a/\WideN 90 b/\(-1<=n/\n<=3)/\AnyCall c/\Below w.heap.size w w':=by
 have HS:=Hd hs
 have HB:=Hd hb
 clear hs hb
 go_enter Tryz.func6,Tryz.ntmps6
 go_wp2_with fail
 (go_at_call 26;refine (zgu v bs _ (HS.out.alloc _) hl (fun b hb=>by have:=HB.out b hb;simp;omega)).mono ?_;rintro e w1 ⟨p,rfl,⟨h,hc⟩,hb1,hp⟩)
 have R1:=Hd ((hb1.block w.heap.size (by simp)).trans (World.alloc_new _ _))
 have hz1:=hb1.size
 have hpl:=hc.lt
 have HC:=Hd hc
 have HB1:Hid (Below w.heap.size w w1):=Below.then (by repeat (first|with_reducible exact Below.refl _ _|with_reducible apply Below.ofAlloc)) hb1
 clear hc hb1
 rw [show (w.alloc _).heap.size=w.heap.size+1 by simp] at hp hz1
 have hrp:w.heap.size ≠ p:=by omega
 go_wp2_with fail
 (go_at_call 27;refine (zez p v bs _ _ 8 (by decide) _ HC.out).mono ?_;rintro e w2 ⟨u,cs,rfl,hu,hst,i2,h2,hg,hi0,hi1⟩)
 have G2:Hid (Got p w1 (zad v i2 h2) w2):=hg
 obtain ⟨ao,co,rfl⟩:=hu.form
 have HU:=Hd hu
 have HST:=Hd hst
 have C2:=Hd (HC.out.got hg hi0 hi1)
 clear hu hst hg
 go_wp2_with fail
 (go_at_call 28;refine (spec_l16Near p v bs _ _ _ cs _ C2.out HU.out HST.out.wide).mono ?_;rintro e w3 ⟨vn,ds,rfl,hn3,hwd,i3,h3,hg,hj0,hj1⟩)
 obtain ⟨an,kn,rfl⟩:=hn3.form
 have HU3:=Hd (zbh (zf _) HU.out C2.out hg)
 have G3:Hid (Got p w1 (zad v i3 h3) w3):=G2.out.then hg hpl
 have HN:=Hd hn3
 have HWD:=Hd hwd
 have C3:=Hd (HC.out.got G3.out hj0 hj1)
 clear hg HU hn3 hwd C2
 go_wp2_with fail
 (go_at_call 29;refine (zb6 p v bs _ _ _ C3.out).mono ?_;rintro e wa ⟨n,rfl,hn,ia,ha,hg,q0,q1⟩)
 have HUa:=Hd (zbh (zf _) HU3.out C3.out hg)
 have HNa:=Hd (zbh (zf _) HN.out C3.out hg)
 have Ga:Hid (Got p w1 (zad v ia ha) wa):=G3.out.then hg hpl
 have Ca:=Hd (HC.out.got Ga.out q0 q1)
 clear hg HU3 HN C3
 go_wp2_with fail
 (go_at_call 30;refine (zc3 p v bs _ _ _ Ca.out).mono ?_;rintro e wb ⟨⟨kd,nm,tn,ca,cb,tx⟩,rfl,hcc,ib,hbb,hg,r0,r1⟩)
 have HUb:=zbh (zf _) HUa.out Ca.out hg
 have HNb:=zbh (zf _) HNa.out Ca.out hg
 have Gb:Hid (Got p w1 (zad v ib hbb) wb):=Ga.out.then hg hpl
 clear hg
 have Rb:=(Gb.out.other (b:=w.heap.size) (by omega) hrp).trans R1.out
 have lr:=za Rb
 have HUc:=Hd (fun o=>rdl_zc HST.out.2.key HUb Rb (zhp (t:=26)) o)
 have HNc:=Hd (fun o=>rdl_zc HWD.out.2.key HNb Rb (zhp (t:=26)) o)
 have HBb:=Hd (zdK Gb.out HB1.out (by omega))
 clear HUb HNb
 unfold zaM
 dsimp only
 rw [<- ze Rb]
 clear Rb
 go_wp2
 refine bodyPost_ret (by simp [results,Tryz.results6,go_sem,lr];rfl) rfl ?_
 exact ⟨_,_,cs,ds,n,⟨kd,nm,tn,ca,cb,tx⟩,rfl,HUc.out _,HNc.out _,HST.out,HWD.out,hn,hcc,zo HBb.out (Nat.le_refl _) _⟩
theorem spec_DrawStepsRestOn (v:Value) (bs:List UInt8) (w:World) (hs:Sl w v bs.length (zL bs)) (hl:bs.length<=140737488351232) (hb:∀ b,v.ownBlock=some b->b<w.heap.size) :
  Calls Tryz.prog 8 #[v] w fun e w'=>∃ va vb vs a b l,e=.returned (.tuple #[va,vb,vs])/\RdL zu w' va a/\RdL zu w' vb b/\RdL rStepM w' vs l/\StoreN 6 a/\WideN 90 b/\l.length<=4/\(∀ s ∈ l,(-1<=s.proc/\s.proc<=3)/\AnyCall s.call)/\Below w.heap.size w w':=by
 go_enter Tryz.func8,Tryz.ntmps8
 go_wp2_with fail
 (go_at_call 26;refine (zgu v bs _ hs hl hb).mono ?_;rintro e w1 ⟨p,rfl,⟨h,hc⟩,hb1,hp⟩)
 have hpl:=hc.lt
 have HC:=Hd hc
 have HB1:=Hd hb1
 clear hc hb1 hs hb
 go_wp2_with fail
 (go_at_call 27;refine (zez p v bs _ _ 6 (by decide) _ HC.out).mono ?_;rintro e w2 ⟨u,cs,rfl,hu,hst,i2,h2,hg,hi0,hi1⟩)
 have G2:Hid (Got p w1 (zad v i2 h2) w2):=hg
 obtain ⟨ao,co,rfl⟩:=hu.form
 have HU:=Hd hu
 have HST:=Hd hst
 have C2:=Hd (HC.out.got hg hi0 hi1)
 clear hu hst hg
 go_wp2_with fail
 (go_at_call 28;refine (spec_l16Near p v bs _ _ _ cs _ C2.out HU.out HST.out.wide).mono ?_;rintro e w3 ⟨vn,ds,rfl,hn3,hwd,i3,h3,hg,hj0,hj1⟩)
 obtain ⟨an,kn,rfl⟩:=hn3.form
 have HU3:=Hd (zbh (zf _) HU.out C2.out hg)
 have G3:Hid (Got p w1 (zad v i3 h3) w3):=G2.out.then hg hpl
 have HN:=Hd hn3
 have HWD:=Hd hwd
 have C3:=Hd (HC.out.got G3.out hj0 hj1)
 clear hg HU hn3 hwd C2
 go_wp2_with fail
 (go_at_call 33;refine (spec_l15Steps p v bs _ _ 4 (by decide) _ C3.out).mono ?_;rintro e w4 ⟨vs,l,rfl,ho,hll,hsm,i4,h4,hg,q0,q1⟩)
 obtain ⟨as0,ks,rfl⟩:=ho.rd.form
 have HU4:=Hd (zbh (zf _) HU3.out C3.out hg)
 have HN4:=Hd (zbh (zf _) HN.out C3.out hg)
 have HO:=Hd ho.rd
 have HB4:=Hd (zdK (G3.out.then hg hpl) HB1.out (by omega))
 clear hg ho
 go_wp2
 refine bodyPost_ret (by simp [results,Tryz.results8,go_sem];rfl) rfl ?_
 exact ⟨_,_,_,cs,ds,l,rfl,HU4.out,HN4.out,HO.out,HST.out,HWD.out,hll,hsm,HB4.out⟩
theorem spec_DrawAgreeOn (v:Value) (bs:List UInt8) (w:World) (hs:Sl w v bs.length (zL bs)) (hl:bs.length<=140737488351232) (hb:∀ b,v.ownBlock=some b->b<w.heap.size) :
  Calls Tryz.prog 12 #[v] w fun e w'=>∃ va vb vs a b ss,e=.returned (.tuple #[va,vb,vs])/\RdL zu w' va a/\RdL zu w' vb b/\RdL zx w' vs ss/\a.length<=40/\b.length<=40/\(∀ x ∈ a,SmallC x)/\(∀ x ∈ b,SmallC x)/\(∀ s ∈ ss,s.size<=100)/\ss.length<=4/\Below w.heap.size w w':=by
 have HS:=Hd hs
 have HB:=Hd hb
 clear hs hb
 go_enter Tryz.func12,Tryz.ntmps12
 go_wp2_with fail
 (go_at_call 26;refine (zgu v bs _ HS.out hl HB.out).mono ?_;rintro e w1 ⟨p,rfl,⟨h,hc⟩,hb1,hp⟩)
 have hpl:=hc.lt
 have HC:=Hd hc
 have HB1:=Hd hb1
 have hz1:=hb1.size
 clear hc hb1
 go_wp2_with fail
 (go_at_call 39;refine (spec_l02Two v bs _ (HS.out.below HB1.out) hl (fun b hb=>by have:=HB.out b hb;omega)).mono ?_;rintro e w2 ⟨va,vb,rfl,a,b,Ba,Bb,ha,hb,hla,hlb,hsa,hsb,hb2⟩)
 obtain ⟨aa,ka,rfl⟩:=ha.rd.form
 obtain ⟨ab,kb,rfl⟩:=hb.rd.form
 have HA:=Hd ha.rd
 have HBB:=Hd hb.rd
 have C2:=Hd (HC.out.got ((zdS HC.out.blk).ofBelow hb2) HC.out.lo HC.out.hi)
 have HB2:=Hd (Below.then HB1.out hb2)
 have hpl2:=C2.out.lt
 clear ha hb hb2
 go_wp2_with fail
 (go_at_call 40;refine (spec_l03ListA p v bs _ _ _ C2.out).mono ?_;rintro e w3 ⟨vs,ss,i3,h3,rfl,ho,hl3,hs3,hg,hj0,hj1⟩)
 obtain ⟨as0,ks,rfl⟩:=ho.rd.form
 have HA3:=Hd (zbh (zf _) HA.out C2.out hg)
 have HB3:=Hd (zbh (zf _) HBB.out C2.out hg)
 have HO:=Hd ho.rd
 have HBW:=Hd (zdK hg HB2.out (by omega))
 clear ho hg
 go_wp2
 refine bodyPost_ret (by simp [results,Tryz.results12,go_sem];rfl) rfl ?_
 exact ⟨_,_,_,a,b,ss,rfl,HA3.out,HB3.out,HO.out,hla,hlb,hsa,hsb,hs3,hl3,HBW.out⟩
theorem ztouch_noS:∀ u ∈ (#[.slice none 0 0,.slice none 0 0]:Array Value),∀ s,u ≠ .string s:=by
 intro u hu s
 simp at hu
 subst hu
 simp
theorem spec_DrawOnlyLaid (v:Value) (bs:List UInt8) (w:World) (hs:Sl w v bs.length (zL bs)) (hl:bs.length<=140737488351232) (hb:∀ b,v.ownBlock=some b->b<w.heap.size) :
  Calls Tryz.prog 13 #[v] w fun e w'=>∃ va vb vr vw a b t,e=.returned (.tuple #[va,vb,.agg #[vr,vw]])/\RdL zu w' va a/\RdL zu w' vb b/\zdf.rd w' [vr,vw] t/\a.length<=40/\b.length<=40/\(∀ x ∈ a,SmallC x)/\(∀ x ∈ b,SmallC x)/\t.writes.length<=4/\Below w.heap.size w w':=by
 have HS:=Hd hs
 have HB:=Hd hb
 clear hs hb
 go_enter Tryz.func13,Tryz.ntmps13
 go_wp2_with fail
 (go_at_call 26;refine (zgu v bs _ (HS.out.alloc _) hl (fun b hb=>by have:=HB.out b hb;simp;omega)).mono ?_;rintro e w1 ⟨p,rfl,⟨h,hc⟩,hb1,hp⟩)
 have R1:=Hd ((hb1.block w.heap.size (by simp)).trans (World.alloc_new _ _))
 have hpl:=hc.lt
 have HC:=Hd hc
 have HB1:Hid (Below w.heap.size w w1):=Below.then (by repeat (first|with_reducible exact Below.refl _ _|with_reducible apply Below.ofAlloc)) hb1
 have hz1:=hb1.size
 rw [show (w.alloc _).heap.size=w.heap.size+1 by simp] at hp hz1
 have hrp:w.heap.size ≠ p:=by omega
 clear hc hb1
 go_wp2_with fail
 (go_at_call 39;refine (spec_l02Two v bs _ (HS.out.below HB1.out) hl (fun b hb=>by have:=HB.out b hb;omega)).mono ?_;rintro e w2 ⟨va,vb,rfl,a,b,Ba,Bb,ha,hb,hla,hlb,hsa,hsb,hb2⟩)
 obtain ⟨aa,ka,rfl⟩:=ha.rd.form
 obtain ⟨ab,kb,rfl⟩:=hb.rd.form
 have HA:=Hd ha.rd
 have HBB:=Hd hb.rd
 have C2:=Hd (HC.out.got ((zdS HC.out.blk).ofBelow hb2) HC.out.lo HC.out.hi)
 have R2:=Hd ((hb2.block _ (by omega)).trans R1.out)
 have HB2:=Hd (Below.then HB1.out hb2)
 have hpl2:=C2.out.lt
 have hz2:=hb2.size
 clear ha hb hb2
 go_wp2_with fail
 (go_at_call 41;refine (spec_l03TouchB p v bs _ _ _ C2.out).mono ?_;rintro e w3 ⟨vr,vw,rs,ws,i3,h3,rfl,hr,hw,hsr,hsw,hwl,hg,hj0,hj1⟩)
 obtain ⟨ar,kr,rfl⟩:=hr.rd.form
 obtain ⟨aw,kw,rfl⟩:=hw.rd.form
 have R3:=(hg.other (b:=w.heap.size) (by omega) hrp).trans R2.out
 have HA3:=Hd (fun o=>zfl (zf _) (zbh (zf _) HA.out C2.out hg) R3 ztouch_noS o)
 have HB3:=Hd (fun o=>zfl (zf _) (zbh (zf _) HBB.out C2.out hg) R3 ztouch_noS o)
 have HRr:=Hd (fun o=>(hr.setB (p:=w.heap.size) (fun e=>by have:=(hr.lt _ e).1;omega) o).rd)
 have HRw:=Hd (fun o=>(hw.setB (p:=w.heap.size) (fun e=>by have:=(hw.lt _ e).1;omega) o).rd)
 have HBW:=Hd (zdK hg HB2.out (by omega))
 have HSR:=Hd hsr
 have HSW:=Hd hsw
 have lr:=za R3
 clear hr hw hg hsr hsw
 rw [<- ze R3]
 clear R3
 go_wp2
 refine bodyPost_ret (by simp [results,Tryz.results13,go_sem,lr];rfl) rfl ?_
 exact ⟨_,_,_,_,a,b,⟨rs,ws⟩,rfl,HA3.out _,HB3.out _,⟨_,_,rfl,zgE (R:=zx) rfl rfl (by decide) (HRr.out _) (fun x hx=>Nat.le_trans (HSR.out x hx) (by decide)),zgE (R:=zx) rfl rfl (by decide) (HRw.out _) (fun x hx=>Nat.le_trans (HSW.out x hx) (by decide))⟩,hla,hlb,hsa,hsb,hwl,zo HBW.out (Nat.le_refl _) _⟩
end Go.Proofs.YtpnoehpmgflibaaGreatDoor
namespace Go.Proofs.YtpnoehpmgflibaaGreatDoor
open Go.RowKit
def sameL {α : Type} (p : α->α->Bool) (xs ys:List α):Bool:=decide (xs.length=ys.length) && (xs.zip ys).all fun z=>p z.1 z.2
theorem all_take_step {α : Type} (p : α->Bool) (xs:List α) (n:Nat) (h:n<xs.length):(xs.take (n+1)).all p=((xs.take n).all p && p xs[n]):=by
 simp only [List.take_succ_eq_append_getElem h,List.all_append,List.all_cons,List.all_nil,Bool.and_true]
theorem all_take_false {α : Type} (p : α->Bool) (xs:List α) (n:Nat) (h:(xs.take n).all p=false):xs.all p=false:=by
 cases hp:xs.all p with
 | false=>rfl
 | true =>
  rw [List.all_eq_true] at hp
  have:(xs.take n).all p=true:=by
   rw [List.all_eq_true]
   exact fun x hx=>hp x (List.mem_of_mem_take hx)
  rw [this] at h
  cases h
theorem sameL_len {α : Type} {p : α->α->Bool} {xs ys:List α} (h:xs.length ≠ ys.length):sameL p xs ys=false:=by
 unfold sameL
 simp [h]
theorem sameL_all {α : Type} {p : α->α->Bool} {xs ys:List α} (h:xs.length=ys.length):sameL p xs ys=(xs.zip ys).all fun z=>p z.1 z.2:=by
 unfold sameL
 simp [h]
theorem zip_step {α : Type} (p : α->α->Bool) (xs ys:List α) (n:Nat) (h:n<xs.length) (h':n<ys.length):((xs.zip ys).take (n+1)).all (fun z=>p z.1 z.2)=(((xs.zip ys).take n).all (fun z=>p z.1 z.2) && p xs[n] ys[n]):=by
 rw [all_take_step _ _ n (by rw [List.length_zip];omega)]
 simp
def eqAnswer (a b:AnswerD):Bool:=(a.code==b.code) && (a.n==b.n) && (a.text.toList==b.text.toList)
theorem answers_Equal (v:Value) (xs:List AnswerD) (v':Value) (ys:List AnswerD) (w:World) {e e':TypeId} (hs:(vSlice vAnswer e).rd w [v] xs) (hs':(vSlice vAnswer e').rd w [v'] ys) :
  Calls Tryz.prog 95 #[v,v'] w fun e w'=>e=.returned (.bool (sameL eqAnswer xs ys))/\Below w.heap.size w w':=by
 obtain ⟨ao,cap,rfl,hc1,hc2,hnil,hcell⟩:=vSlice.shape hs
 obtain ⟨ao',cap',rfl,hc1',hc2',hnil',hcell'⟩:=vSlice.shape hs'
 have HX:=Hd hcell
 have HX':=Hd hcell'
 clear hcell hs hnil hcell' hs' hnil'
 unfold maxLen at hc2 hc2'
 by_cases hlen:xs.length=ys.length
 case neg =>
  rw [sameL_len hlen]
  have hne:¬ (xs.length:Int)=ys.length:=by omega
  have hnb:((xs.length:Int)==ys.length)=false:=by simp;omega
  go_enter Tryz.func95,Tryz.ntmps95
  go_wp2
  go_ret
  exact ⟨rfl,(by repeat (with_reducible exact Below.refl _ _))⟩
 have HL:=Hd hlen
 have hle:ys.length<=xs.length:=by omega
 have hlb:((xs.length:Int)==ys.length)=true:=by simp;omega
 have hlc:((xs.length:Int) != ys.length)=false:=by simp;omega
 clear hlen
 go_enter Tryz.func95,Tryz.ntmps95
 go_wp2
 go_loopw [13] (fun k wr=>∃ (n:Nat),k=.int .i64 n/\n<=xs.length/\Below w.heap.size w wr/\((xs.zip ys).take n).all (fun z=>eqAnswer z.1 z.2)=true) (fun k _=>xs.length - (intOf k).toNat)
 case atStart=>exact ⟨0,rfl,by omega,(by repeat (with_reducible exact Below.refl _ _)),rfl⟩
 case round =>
  obtain ⟨n,rfl,hn,hbel,hall⟩:=hrel
  obtain ⟨X,rfl⟩:=hbel.ext
  have HA:=Hd hall
  clear hall
  by_cases hlt:(n:Int)<xs.length
  case pos =>
   have hk:n<xs.length:=by omega
   have hk':n<ys.length:=by rw [<- HL.out];exact hk
   obtain ⟨b,off,csc,rfl,hblc,hrdc,hcellc⟩:=HX.out n hk
   obtain ⟨b',off',cse,rfl,hble,hrde,hcelle⟩:=HX'.out n hk'
   have hst:=zip_step eqAnswer xs ys n hk hk'
   generalize xs[n]=x at hrdc hst
   generalize ys[n]=y at hrde hst
   obtain ⟨rfl,_⟩:=hrdc
   obtain ⟨rfl,_⟩:=hrde
   have hq:eqAnswer x y=eqAnswer x y:=rfl
   conv at hq=>rhs;unfold eqAnswer
   obtain ⟨x0,x1,x2⟩:=x
   obtain ⟨y0,y1,y2⟩:=y
   simp only at hq
   have c0:=hcellc 0 _ rfl
   have c1:=hcellc 1 _ rfl
   have c2:=hcellc 2 _ rfl
   have e0:=hcelle 0 _ rfl
   have e1:=hcelle 1 _ rfl
   have e2:=hcelle 2 _ rfl
   clear hcellc hcelle
   simp only [show vAnswer.k=3 from rfl,Nat.add_zero] at c0 e0 c1 e1 c2 e2
   have HST:=Hd hst
   clear hst
   by_cases f0:x0=y0
   case neg =>
    have HQ:Hid (eqAnswer ⟨x0,x1,x2⟩ ⟨y0,y1,y2⟩=false):=by show _=false;rw [hq];simp [f0]
    clear hq
    have g0:(x0==y0)=false:=by simp [f0]
    go_wp2
    go_quiet (fail)
    go_wp2
    go_ret
    exact ⟨by rw [sameL_all HL.out,all_take_false _ (xs.zip ys) (n+1) (by rw [HST.out,HQ.out,Bool.and_false])];rfl,(by repeat (first|with_reducible exact Below.refl _ _|with_reducible apply Below.ofExt|with_reducible apply Below.ofDrewN))⟩
   have g0:(x0==y0)=true:=by simp [f0]
   by_cases f1:x1=y1
   case neg =>
    have HQ:Hid (eqAnswer ⟨x0,x1,x2⟩ ⟨y0,y1,y2⟩=false):=by show _=false;rw [hq];simp [f0,f1]
    clear hq
    have g1:(x1==y1)=false:=by simp [f1]
    go_wp2
    go_quiet (fail)
    go_wp2
    go_ret
    exact ⟨by rw [sameL_all HL.out,all_take_false _ (xs.zip ys) (n+1) (by rw [HST.out,HQ.out,Bool.and_false])];rfl,(by repeat (first|with_reducible exact Below.refl _ _|with_reducible apply Below.ofExt|with_reducible apply Below.ofDrewN))⟩
   have g1:(x1==y1)=true:=by simp [f1]
   by_cases f2:x2.toList=y2.toList
   case neg =>
    have HQ:Hid (eqAnswer ⟨x0,x1,x2⟩ ⟨y0,y1,y2⟩=false):=by show _=false;rw [hq];simp [f0,f1,f2]
    clear hq
    have g2:(x2.toList==y2.toList)=false:=by simp [f2]
    go_wp2
    go_quiet (fail)
    go_wp2
    go_ret
    exact ⟨by rw [sameL_all HL.out,all_take_false _ (xs.zip ys) (n+1) (by rw [HST.out,HQ.out,Bool.and_false])];rfl,(by repeat (first|with_reducible exact Below.refl _ _|with_reducible apply Below.ofExt|with_reducible apply Below.ofDrewN))⟩
   have g2:(x2.toList==y2.toList)=true:=by simp [f2]
   have HQ:Hid (eqAnswer ⟨x0,x1,x2⟩ ⟨y0,y1,y2⟩=true):=by show _=true;rw [hq];simp [f0,f1,f2]
   clear hq
   go_wp2
   go_quiet (fail)
   go_wp2
   go_roundw
   case rel=>exact ⟨n+1,by go_num,by omega,(by repeat (first|with_reducible exact Below.refl _ _|with_reducible apply Below.ofExt)),by rw [HST.out,HA.out,HQ.out];rfl⟩
   case measure=>simp [intOf];omega
  case neg =>
   go_wp2
   go_ret
   have e:n=xs.length:=by omega
   subst e
   have ha:=HA.out
   rw [List.take_of_length_le (by rw [List.length_zip];omega)] at ha
   exact ⟨by rw [sameL_all HL.out,ha];rfl,(by repeat (first|with_reducible exact Below.refl _ _|with_reducible apply Below.ofExt))⟩
def eqStr (a b:ByteArray):Bool:=a.toList==b.toList
theorem strs_Equal (v:Value) (xs:List ByteArray) (v':Value) (ys:List ByteArray) (w:World) {e e':TypeId} (hs:(vSlice zkq e).rd w [v] xs) (hs':(vSlice zkq e').rd w [v'] ys) :
  Calls Tryz.prog 96 #[v,v'] w fun e w'=>e=.returned (.bool (sameL eqStr xs ys))/\Below w.heap.size w w':=by
 obtain ⟨ao,cap,rfl,hc1,hc2,hnil,hcell,_⟩:=zcN hs
 obtain ⟨ao',cap',rfl,hc1',hc2',hnil',hcell',_⟩:=zcN hs'
 have HX:=Hd hcell
 have HX':=Hd hcell'
 clear hcell hs hnil hcell' hs' hnil'
 unfold maxLen at hc2 hc2'
 by_cases hlen:xs.length=ys.length
 case neg =>
  rw [sameL_len hlen]
  have hne:¬ (xs.length:Int)=ys.length:=by omega
  have hnb:((xs.length:Int)==ys.length)=false:=by simp;omega
  go_enter Tryz.func96,Tryz.ntmps96
  go_wp2
  go_ret
  exact ⟨rfl,(by repeat (with_reducible exact Below.refl _ _))⟩
 have HL:=Hd hlen
 have hle:ys.length<=xs.length:=by omega
 have hlb:((xs.length:Int)==ys.length)=true:=by simp;omega
 have hlc:((xs.length:Int) != ys.length)=false:=by simp;omega
 clear hlen
 go_enter Tryz.func96,Tryz.ntmps96
 go_wp2
 go_loopw [13] (fun k wr=>∃ (n:Nat),k=.int .i64 n/\n<=xs.length/\Below w.heap.size w wr/\((xs.zip ys).take n).all (fun z=>eqStr z.1 z.2)=true) (fun k _=>xs.length - (intOf k).toNat)
 case atStart=>exact ⟨0,rfl,by omega,(by repeat (with_reducible exact Below.refl _ _)),rfl⟩
 case round =>
  obtain ⟨n,rfl,hn,hbel,hall⟩:=hrel
  obtain ⟨X,rfl⟩:=hbel.ext
  have HA:=Hd hall
  clear hall
  by_cases hlt:(n:Int)<xs.length
  case pos =>
   have hk:n<xs.length:=by omega
   have hk':n<ys.length:=by rw [<- HL.out];exact hk
   obtain ⟨b,off,rfl,hblc,hcellc⟩:=HX.out (by intro e;simp [e] at hk)
   have c0:=hcellc n hk
   obtain ⟨b',off',rfl,hble,hcelle⟩:=HX'.out (by intro e;simp [e] at hk')
   have e0:=hcelle n hk'
   have hst:=zip_step eqStr xs ys n hk hk'
   clear hcellc hcelle
   generalize xs[n]=x at c0 hst
   generalize ys[n]=y at e0 hst
   have hq:eqStr x y=eqStr x y:=rfl
   conv at hq=>rhs;unfold eqStr
   have HST:=Hd hst
   clear hst
   by_cases f0:x.toList=y.toList
   case neg =>
    have HQ:Hid (eqStr x y=false):=by show _=false;rw [hq];simp [f0]
    clear hq
    have g0:(x.toList==y.toList)=false:=by simp [f0]
    go_wp2
    go_quiet (fail)
    go_wp2
    go_ret
    exact ⟨by rw [sameL_all HL.out,all_take_false _ (xs.zip ys) (n+1) (by rw [HST.out,HQ.out,Bool.and_false])];rfl,(by repeat (first|with_reducible exact Below.refl _ _|with_reducible apply Below.ofExt|with_reducible apply Below.ofDrewN))⟩
   have g0:(x.toList==y.toList)=true:=by simp [f0]
   have HQ:Hid (eqStr x y=true):=by show _=true;rw [hq];simp [f0]
   clear hq
   go_wp2
   go_quiet (fail)
   go_wp2
   go_roundw
   case rel=>exact ⟨n+1,by go_num,by omega,(by repeat (first|with_reducible exact Below.refl _ _|with_reducible apply Below.ofExt)),by rw [HST.out,HA.out,HQ.out];rfl⟩
   case measure=>simp [intOf];omega
  case neg =>
   go_wp2
   go_ret
   have e:n=xs.length:=by omega
   subst e
   have ha:=HA.out
   rw [List.take_of_length_le (by rw [List.length_zip];omega)] at ha
   exact ⟨by rw [sameL_all HL.out,ha];rfl,(by repeat (first|with_reducible exact Below.refl _ _|with_reducible apply Below.ofExt))⟩
end Go.Proofs.YtpnoehpmgflibaaGreatDoor
