/- Texts of this claim, merged: the walks and what they stand on. Each condition stands in its theorem. -/
import Derived.Test.YtpnoehpmgflibaaGreatDoorCA31
import Derived.Test.YtpnoehpmgflibaaGreatDoorCA9
import Derived.Test.YtpnoehpmgflibaaGreatDoorTR4
set_option linter.unusedVariables false
set_option linter.unusedSimpArgs false
set_option maxRecDepth 100000
set_option maxHeartbeats 8000000
namespace Go.Proofs.YtpnoehpmgflibaaGreatDoor
open Go.ChangeShapes Go.WideShapes Go.ChangeAt Go.RowKit
theorem RdS.dx {w:World} {Y:Ext} {v:Value} {xs:List ByteArray} (h:RdS (w.drew.ext Y) v xs):RdS (w.ext Y) v xs:=h
theorem spec_OnlyLaid (va vb:Value) (a b:List CellD) (ct:List Value) (t:TouchD) (w:World) (ha:RdL zu w va a) (hb:RdL zu w vb b) (ht:zdf.rd w ct t) (hka:∀ c ∈ a,c.ok) (hkb:∀ c ∈ b,c.ok) (hl:a.length<=549755813888) (hl2:b.length<=549755813888) :
  Calls Tryz.prog 16 #[va,vb,.agg ct.toArray] w fun e w'=>e=.returned (.bool (covers t.writes (diffC a b)))/\Below w.heap.size w w':=by
 obtain ⟨ts0,ts1,rfl,th0,th1⟩:=ht
 obtain ⟨ta0,tc0,rfl⟩:=vSlice.form th0
 obtain ⟨ta1,tc1,rfl⟩:=vSlice.form th1
 have HT:=Hd (RdS.ofRd th1)
 have HA:=Hd ha
 have HB:=Hd hb
 have HKA:=Hd hka
 have HKB:=Hd hkb
 obtain ⟨aa,ca,rfl⟩:=ha.form
 obtain ⟨ab,cb,rfl⟩:=hb.form
 clear th0 th1 ha hb hka hkb
 go_enter Tryz.func16,Tryz.ntmps16
 go_wp2
 refine zai [(0,true),(1,true),(2,true),(3,true),(4,false),(5,false),(6,false)] 6 (by kernel_rfl) (by kernel_rfl) ?_
 repeat (refine zk rfl (fun K hK=>?_);go_simp;(try simp (disch:=omega) only [IntWalk.i64_in]);refine hK _ ?_;clear hK K)
 refine zr rfl (fun K hK=>?_);go_simp;go_at_call 45;refine (spec_DiffKeys _ _ a b _ (by (skip);(repeat (first|with_reducible exact HA.out|with_reducible apply RdL.alloc|with_reducible apply RdL.drew));all_goals exact (0:Nat)) (by (skip);(repeat (first|with_reducible exact HB.out|with_reducible apply RdL.alloc|with_reducible apply RdL.drew));all_goals exact (0:Nat)) hl hl2).mono ?_;rintro e w' ⟨v',rfl,ho',hb'⟩;have HP0:=Hd (RdS.ofL ho'.rd (diffC_ok a b HKA.out HKB.out));obtain ⟨Y,rfl⟩:=hb'.ext;clear ho' hb';try go_simp;refine hK _ _ ((by show Sx _ _;repeat (first|with_reducible exact Sx.refl _|with_reducible apply Sx.ext))) ?_;clear hK K
 have HP:=Hd (RdS.dx HP0.out)
 refine zr rfl (fun K hK=>?_);go_simp;go_at_call 46;refine (spec_Covers _ _ t.writes (diffC a b) _ (by (skip);(repeat (first|with_reducible exact HT.out|with_reducible apply RdS.ext|with_reducible apply RdS.alloc));all_goals exact (0:Nat)) (by (skip);(repeat (with_reducible exact HP.out));all_goals exact (0:Nat))).mono ?_;rintro e w' ⟨rfl,hb⟩;obtain ⟨X,rfl⟩:=hb.ext;clear hb;try go_simp;refine hK _ _ ((by show Sx _ _;repeat (first|with_reducible exact Sx.refl _|with_reducible apply Sx.more|with_reducible apply Sx.ext))) ?_;clear hK K
 repeat (refine zt rfl rfl (fun K hK=>?_);go_simp;refine hK _ _ ?_;clear hK K)
 refine zQ ?_
 go_wp2
 go_ret
 exact ⟨rfl,(by repeat (first|with_reducible exact Below.refl _ _|with_reducible apply Below.ofExt|with_reducible apply Below.ofAlloc))⟩
theorem impl_OnlyLaid (va vb:Value) (a b:List CellD) (ct:List Value) (t:TouchD) (w:World) (ha:RdL zu w va a) (hb:RdL zu w vb b) (ht:zdf.rd w ct t) (hka:∀ c ∈ a,c.ok) (hkb:∀ c ∈ b,c.ok) (hl:a.length<=549755813888) (hl2:b.length<=549755813888) :
  Calls Tryz.prog 9 #[va,vb,.agg ct.toArray] w fun e w'=>e=.returned (.bool (covers t.writes (diffC a b)))/\Below w.heap.size w w':=by
 obtain ⟨ts0,ts1,rfl,th0,th1⟩:=ht
 obtain ⟨ta0,tc0,rfl⟩:=vSlice.form th0
 obtain ⟨ta1,tc1,rfl⟩:=vSlice.form th1
 have HT:=Hd (RdS.ofRd th1)
 have HA:=Hd ha
 have HB:=Hd hb
 have HKA:=Hd hka
 have HKB:=Hd hkb
 obtain ⟨aa,ca,rfl⟩:=ha.form
 obtain ⟨ab,cb,rfl⟩:=hb.form
 clear th0 th1 ha hb hka hkb
 go_enter Tryz.func9,Tryz.ntmps9
 go_wp2
 refine zai [(0,true),(1,true),(2,true),(3,true),(4,false),(5,false),(6,false)] 6 (by kernel_rfl) (by kernel_rfl) ?_
 repeat (refine zk rfl (fun K hK=>?_);go_simp;(try simp (disch:=omega) only [IntWalk.i64_in]);refine hK _ ?_;clear hK K)
 refine zr rfl (fun K hK=>?_);go_simp;go_at_call 35;refine (impl_DiffKeys _ _ a b _ (by (skip);(repeat (first|with_reducible exact HA.out|with_reducible apply RdL.alloc|with_reducible apply RdL.drew));all_goals exact (0:Nat)) (by (skip);(repeat (first|with_reducible exact HB.out|with_reducible apply RdL.alloc|with_reducible apply RdL.drew));all_goals exact (0:Nat)) HKA.out HKB.out hl hl2).mono ?_;rintro e w' ⟨v',rfl,ho',hb'⟩;have HP0:=Hd (RdS.ofL ho'.rd (diffC_ok a b HKA.out HKB.out));obtain ⟨Y,rfl⟩:=hb'.ext;clear ho' hb';try go_simp;refine hK _ _ ((by show Sx _ _;repeat (first|with_reducible exact Sx.refl _|with_reducible apply Sx.ext))) ?_;clear hK K
 have HP:=Hd (RdS.dx HP0.out)
 refine zr rfl (fun K hK=>?_);go_simp;go_at_call 34;refine (impl_Covers _ _ t.writes (diffC a b) _ (by (skip);(repeat (first|with_reducible exact HT.out|with_reducible apply RdS.ext|with_reducible apply RdS.alloc));all_goals exact (0:Nat)) (by (skip);(repeat (with_reducible exact HP.out));all_goals exact (0:Nat))).mono ?_;rintro e w' ⟨rfl,hb⟩;obtain ⟨X,rfl⟩:=hb.ext;clear hb;try go_simp;refine hK _ _ ((by show Sx _ _;repeat (first|with_reducible exact Sx.refl _|with_reducible apply Sx.more|with_reducible apply Sx.ext))) ?_;clear hK K
 repeat (refine zt rfl rfl (fun K hK=>?_);go_simp;refine hK _ _ ?_;clear hK K)
 refine zQ ?_
 go_wp2
 go_ret
 exact ⟨rfl,(by repeat (first|with_reducible exact Below.refl _ _|with_reducible apply Below.ofExt|with_reducible apply Below.ofAlloc))⟩
theorem emptyAt (W:World) (n:Nat) (hn:n=W.heap.size):OwnL zu 47 (W.alloc (.cells #[] 47)) W.heap.size (.slice (some ⟨n,0,none⟩) 0 0) []:=by
 subst hn
 exact OwnL.empty zu _ W
def laidC (zs af:List CellD) (ks:List ByteArray):List CellD:=ks.foldl (fun s k=>zbM k (zbm k af) s) zs
theorem laidC_snoc (zs af:List CellD) (ks:List ByteArray) (k:ByteArray):laidC zs af (ks ++ [k])=zbM k (zbm k af) (laidC zs af ks):=by
 unfold laidC
 rw [List.foldl_append]
 rfl
theorem spec_LaidOver (va vb:Value) (zs af:List CellD) (ct:List Value) (t:TouchD) (w:World) (ha:RdL zu w va zs) (hb:RdL zu w vb af) (ht:zdf.rd w ct t) (hl:zs.length<=1048576) (hl2:t.writes.length<=1048576) :
  Calls Tryz.prog 19 #[va,vb,.agg ct.toArray] w fun e w'=>∃ v',e=.returned v'/\OwnL zu 47 w' w.heap.size v' (laidC zs af t.writes)/\Below w.heap.size w w':=by
 obtain ⟨ts0,ts1,rfl,th0,th1⟩:=ht
 obtain ⟨ta0,tc0,rfl⟩:=vSlice.form th0
 obtain ⟨ta1,tc1,rfl,hc1,hc2,hnil,hne,hok⟩:=zcN th1
 have HX:=Hd hne
 have HOK:=Hd hok
 have HA:=Hd ha
 have HB:=Hd hb
 obtain ⟨aa,ca,rfl⟩:=ha.form
 obtain ⟨ab,cb,rfl⟩:=hb.form
 clear th0 th1 hne hnil ha hb hok
 unfold maxLen at hc2
 go_enter Tryz.func19,Tryz.ntmps19
 go_wp2_with (at_builtin;refine zA ?_)
 refine zI rfl _ _ _ rfl zE (B:=(w.alloc (.cells #[.slice ta0 t.reads.length tc0,.slice ta1 t.writes.length tc1] 33)).heap.size) (v:=.slice (some ⟨w.heap.size+1,0,none⟩) 0 0) (xs:=[]) (R:=zu) (emptyAt (w.alloc (.cells #[.slice ta0 t.reads.length tc0,.slice ta1 t.writes.length tc1] 33)) _ (by simp)) rfl (ys:=zs) ((HA.out.alloc _).alloc _) rfl (by simp only [List.length_nil];omega) (by simp only [List.length_nil];unfold maxLen;omega) (by simp) ?_
 intro v4 w4 hown4 hgr4 _
 have hb4:Below (w.alloc (.cells #[.slice ta0 t.reads.length tc0,.slice ta1 t.writes.length tc1] 33)).heap.size (w.alloc (.cells #[.slice ta0 t.reads.length tc0,.slice ta1 t.writes.length tc1] 33)) w4:=Below.appL (R:=zu) (e:=47) (v:=.slice (some ⟨w.heap.size+1,0,none⟩) 0 0) (xs:=[]) (by repeat (first|with_reducible exact Below.refl _ _|with_reducible apply Below.ofAlloc)) hgr4 (emptyAt (w.alloc (.cells #[.slice ta0 t.reads.length tc0,.slice ta1 t.writes.length tc1] 33)) _ (by simp))
 clear hgr4
 simp only [List.nil_append] at hown4
 obtain ⟨X4,rfl⟩:=hb4.ext
 clear hb4
 have HS4:=Hd hown4
 clear hown4
 obtain ⟨oa4,oc4,e4⟩:=HS4.out.rd.form
 subst e4
 go_wp2
 go_loopw [7,8] (fun o k wr=>∃ (n:Nat) (xs:List CellD),k=.int .i64 n/\n<=t.writes.length/\Below (w.alloc (.cells #[.slice ta0 t.reads.length tc0,.slice ta1 t.writes.length tc1] 33)).heap.size (w.alloc (.cells #[.slice ta0 t.reads.length tc0,.slice ta1 t.writes.length tc1] 33)) wr/\OwnL zu 47 wr (w.alloc (.cells #[.slice ta0 t.reads.length tc0,.slice ta1 t.writes.length tc1] 33)).heap.size o xs/\xs=laidC zs af (t.writes.take n)/\xs.length<=zs.length+n) (fun _ k _=>t.writes.length - (intOf k).toNat)
 case atStart=>exact ⟨0,zs,rfl,by omega,(by repeat (first|with_reducible exact Below.refl _ _|with_reducible apply Below.ofExt)),HS4.out,rfl,by omega⟩
 case round =>
  obtain ⟨n,xs,rfl,hn,hbel,ho,hxs,hxl⟩:=hrel
  obtain ⟨X,rfl⟩:=hbel.ext
  obtain ⟨oa,oc,rfl⟩:=ho.rd.form
  have HO:=Hd ho
  have HLO:Hid (∀ x ∈ (Value.slice oa xs.length oc).ownBlock.toList,(w.alloc (.cells #[.slice ta0 t.reads.length tc0,.slice ta1 t.writes.length tc1] 33)).heap.size<=x):=fun x hx=>(ho.lt x (by simpa using hx)).1
  clear ho
  by_cases hlt:(n:Int)<t.writes.length
  case pos =>
   have hk:n<t.writes.length:=by omega
   obtain ⟨b,off,rfl,hbl,hcell⟩:=HX.out (by intro e;simp [e] at hk)
   have hst:t.writes.take (n+1)=t.writes.take n ++ [t.writes[n]]:=List.take_succ_eq_append_getElem hk
   have hck:=HOK.out _ (List.getElem_mem hk)
   have y0:=hcell n hk
   generalize t.writes[n]=s at y0 hst hck
   clear hcell
   have hbl0:b<w.heap.size+1:=by omega
   have hbl1:¬ b=w.heap.size:=by omega
   have HS:Hid (laidC zs af (t.writes.take (n+1))=zbM s (zbm s af) xs):=by show _ = _;rw [hst,laidC_snoc,hxs]
   clear hst hxs
   go_wp2
   refine zaA [(0,true),(1,true),(2,true),(3,true),(4,true),(5,true),(6,true),(7,true),(8,true),(9,true),(10,true),(11,true),(12,false),(13,false),(14,true)] 15 (by kernel_rfl) (by kernel_rfl) ?_
   repeat (refine zk rfl (fun K hK=>?_);go_simp;(try simp (disch:=omega) only [IntWalk.i64_in]);refine hK _ ?_;clear hK K)
   refine zr rfl (fun K hK=>?_);go_simp;go_at_call 51;refine (zgw _ af s _ (by (skip);(repeat (first|with_reducible exact HB.out|with_reducible apply RdL.ext|with_reducible apply RdL.alloc));all_goals exact (0:Nat))).mono ?_;rintro e w' ⟨rfl,hb⟩;obtain ⟨X,rfl⟩:=hb.ext;clear hb;try go_simp;refine hK _ _ (by show Sx _ _;repeat (first|with_reducible exact Sx.same _ _ _ _|with_reducible apply Sx.more)) ?_;clear hK K
   refine zr rfl (fun K hK=>?_);go_simp;go_at_call 50;refine (zgv _ xs s (zbm s af) _ (OwnL.rd (e:=47) (B:=(w.alloc (.cells #[.slice ta0 t.reads.length tc0,.slice (some ⟨b,off,none⟩) t.writes.length tc1] 33)).heap.size) (by (skip);(repeat (first|with_reducible exact HO.out|with_reducible apply OwnL.merge2));all_goals exact (0:Nat))) (by omega) hck).mono ?_;rintro e w' ⟨v',rfl,ho',hb'⟩;obtain ⟨Y,rfl⟩:=hb'.ext;have HP:=Hd (ho'.base (B':=(w.alloc (.cells #[.slice ta0 t.reads.length tc0,.slice (some ⟨b,off,none⟩) t.writes.length tc1] 33)).heap.size) (by simp [zm]));clear ho' hb';try go_simp;refine hK _ _ (by show Sx _ _;(try simp only [<- Array.append_assoc]);repeat (first|with_reducible exact Sx.same _ _ _ _|with_reducible apply Sx.more)) ?_;clear hK K
   repeat (refine zk rfl (fun K hK=>?_);go_simp;(try simp (disch:=omega) only [IntWalk.i64_in]);refine hK _ ?_;clear hK K)
   refine zQ ?_
   go_wp2
   go_roundw
   case rel=>exact ⟨n+1,_,by go_num,by omega,(by repeat (first|with_reducible exact Below.refl _ _|with_reducible apply Below.ofExt)),OwnL.heapEq HP.out (by simp only [World.ext,World.drew,World.alloc,Array.append_assoc]),HS.out.symm,Nat.le_trans (putC_len _ _ _) (by omega)⟩
   case measure=>simp [intOf];omega
  case neg =>
   have e:n=t.writes.length:=by omega
   have HF:Hid (laidC zs af t.writes=xs):=by show _ = _;rw [hxs,e,List.take_length]
   clear hxs
   go_wp2
   go_ret
   exact ⟨_,rfl,by rw [HF.out];exact HO.out.base (by simp),(by repeat (first|with_reducible exact Below.refl _ _|with_reducible apply Below.ofExt|with_reducible apply Below.ofAlloc))⟩
theorem impl_LaidOver (va vb:Value) (zs af:List CellD) (ct:List Value) (t:TouchD) (w:World) (ha:RdL zu w va zs) (hb:RdL zu w vb af) (ht:zdf.rd w ct t) (hl:zs.length<=1048576) (hl2:t.writes.length<=1048576) :
  Calls Tryz.prog 18 #[va,vb,.agg ct.toArray] w fun e w'=>∃ v',e=.returned v'/\OwnL zu 47 w' w.heap.size v' (laidC zs af t.writes)/\Below w.heap.size w w':=by
 obtain ⟨ts0,ts1,rfl,th0,th1⟩:=ht
 obtain ⟨ta0,tc0,rfl⟩:=vSlice.form th0
 obtain ⟨ta1,tc1,rfl,hc1,hc2,hnil,hne,hok⟩:=zcN th1
 have HX:=Hd hne
 have HOK:=Hd hok
 have HA:=Hd ha
 have HB:=Hd hb
 obtain ⟨aa,ca,rfl⟩:=ha.form
 obtain ⟨ab,cb,rfl⟩:=hb.form
 clear th0 th1 hne hnil ha hb hok
 unfold maxLen at hc2
 go_enter Tryz.func18,Tryz.ntmps18
 go_wp2_with fail
 (go_at_call 47;refine (zgV _ zs _ (HA.out.alloc _) (by omega)).mono ?_;rintro e w' ⟨v4,rfl,hown4,hb4⟩;obtain ⟨X4,rfl⟩:=hb4.ext;clear hb4;have HS4:=Hd hown4;clear hown4)
 obtain ⟨oa4,oc4,e4⟩:=HS4.out.rd.form
 subst e4
 go_wp2
 go_loopw [7,15] (fun o k wr=>∃ (n:Nat) (xs:List CellD),k=.int .i64 n/\n<=t.writes.length/\Below (w.alloc (.cells #[.slice ta0 t.reads.length tc0,.slice ta1 t.writes.length tc1] 33)).heap.size (w.alloc (.cells #[.slice ta0 t.reads.length tc0,.slice ta1 t.writes.length tc1] 33)) wr/\OwnL zu 47 wr (w.alloc (.cells #[.slice ta0 t.reads.length tc0,.slice ta1 t.writes.length tc1] 33)).heap.size o xs/\xs=laidC zs af (t.writes.take n)/\xs.length<=zs.length+n) (fun _ k _=>t.writes.length - (intOf k).toNat)
 case atStart=>exact ⟨0,zs,rfl,by omega,(by repeat (first|with_reducible exact Below.refl _ _|with_reducible apply Below.ofExt)),HS4.out,rfl,by omega⟩
 case round =>
  obtain ⟨n,xs,rfl,hn,hbel,ho,hxs,hxl⟩:=hrel
  obtain ⟨X,rfl⟩:=hbel.ext
  obtain ⟨oa,oc,rfl⟩:=ho.rd.form
  have HO:=Hd ho
  have HLO:Hid (∀ x ∈ (Value.slice oa xs.length oc).ownBlock.toList,(w.alloc (.cells #[.slice ta0 t.reads.length tc0,.slice ta1 t.writes.length tc1] 33)).heap.size<=x):=fun x hx=>(ho.lt x (by simpa using hx)).1
  clear ho
  by_cases hlt:(n:Int)<t.writes.length
  case pos =>
   have hk:n<t.writes.length:=by omega
   obtain ⟨b,off,rfl,hbl,hcell⟩:=HX.out (by intro e;simp [e] at hk)
   have hst:t.writes.take (n+1)=t.writes.take n ++ [t.writes[n]]:=List.take_succ_eq_append_getElem hk
   have hck:=HOK.out _ (List.getElem_mem hk)
   have y0:=hcell n hk
   generalize t.writes[n]=s at y0 hst hck
   clear hcell
   have hbl0:b<w.heap.size+1:=by omega
   have hbl1:¬ b=w.heap.size:=by omega
   have HS:Hid (laidC zs af (t.writes.take (n+1))=zbM s (zbm s af) xs):=by show _ = _;rw [hst,laidC_snoc,hxs]
   clear hst hxs
   go_wp2_with fail
   (go_at_call 49;refine (zj4 _ af s _ (by (skip);(repeat (first|with_reducible exact HB.out|with_reducible apply RdL.ext|with_reducible apply RdL.alloc));all_goals exact (0:Nat))).mono ?_;rintro e w' ⟨rfl,hb⟩;obtain ⟨X,rfl⟩:=hb.ext;clear hb)
   go_wp2_with fail
   (go_at_call 48;refine (impl_put _ xs s (zbm s af) (w.alloc (.cells #[.slice ta0 t.reads.length tc0,.slice (some ⟨b,off,none⟩) t.writes.length tc1] 33)).heap.size _ (by (skip);(repeat (first|with_reducible exact HO.out|with_reducible apply OwnL.merge2));all_goals exact (0:Nat)) hck (by omega) (by simp [zm];try omega)).mono ?_;rintro e w' ⟨v',rfl,ho',hu'⟩;have hb':=Below.trans (show Below (w.alloc (.cells #[.slice ta0 t.reads.length tc0,.slice (some ⟨b,off,none⟩) t.writes.length tc1] 33)).heap.size (w.alloc (.cells #[.slice ta0 t.reads.length tc0,.slice (some ⟨b,off,none⟩) t.writes.length tc1] 33)) _ from (by repeat (first|with_reducible exact Below.refl _ _|with_reducible apply Below.ofExt))) (hu'.toBelow (by simp [zm];try omega) HLO.out);have HP:=Hd ho';clear ho' hu')
   go_wp2
   go_roundw
   case rel=>exact ⟨n+1,_,by go_num,by omega,hb',HP.out,HS.out.symm,Nat.le_trans (putC_len _ _ _) (by omega)⟩
   case measure=>simp [intOf];omega
  case neg =>
   have e:n=t.writes.length:=by omega
   have HF:Hid (laidC zs af t.writes=xs):=by show _ = _;rw [hxs,e,List.take_length]
   clear hxs
   go_wp2
   go_ret
   exact ⟨_,rfl,by rw [HF.out];exact HO.out.base (by simp),(by repeat (first|with_reducible exact Below.refl _ _|with_reducible apply Below.ofExt|with_reducible apply Below.ofAlloc))⟩
end Go.Proofs.YtpnoehpmgflibaaGreatDoor
namespace Go
section
variable {P:Program} {ops:Array Oper} {Q:Exit->Act->World->Prop} {S:World->Prop} {n:Nat}
theorem closed_pre:∀ (ord:List (Nat × Bool)) (listed:Array Bool),zfa ops listed->zfo ops n ord listed=true->zfa ops (ord.foldl (fun l x=>l.setIfInBounds x.1 true) listed)
 | [],listed,hc,_=>hc
 | (i,true) :: r,listed,hc,h=>by
  simp only [zfo,Bool.and_eq_true] at h
  exact closed_pre r _ (zbx hc (by simpa using h.1.1.2)) h.2
 | (i,false) :: r,listed,hc,h=>by
  simp only [zfo,Bool.and_eq_true] at h
  have hr:=h.1.2
  refine closed_pre r _ (zbx hc ?_) h.2
  split at hr
  ·rename_i j hj
   rw [hj]
   simp at hr
   simp [hr]
  ·cases hr
def reaches2 (ops:Array Oper):Nat->Nat->Nat->Bool
 | 0,_,_=>false
 | f+1,j,i=>match ops[j]? with
  | none=>false
  | some o=>o.after.any fun e=>Region.binds .any e && (e.on==i || (decide (i<e.on) && reaches2 ops f e.on i))
theorem reaches_of2:∀ (f j i:Nat),reaches2 ops f j i=true->zcH ops f j i=true
 | 0,_,_,h=>h
 | f+1,j,i,h=>by
  unfold reaches2 at h
  unfold zcH
  split at h
  ·cases h
  ·rename_i o ho
   rw [ho]
   dsimp only
   rw [Array.any_eq_true] at h ⊢
   obtain ⟨k,hk,hh⟩:=h
   refine ⟨k,hk,?_⟩
   rw [Bool.and_eq_true,Bool.or_eq_true,Bool.and_eq_true] at hh
   rw [Bool.and_eq_true,Bool.or_eq_true]
   exact ⟨hh.1,hh.2.imp id fun h2=>reaches_of2 f _ i h2.2⟩
def tailReachS2 (ops:Array Oper) (n i:Nat):Bool:=(List.range ops.size).all fun j=>decide (j<n) || zhA ops j || reaches2 ops ops.size j i
theorem tailReach_of2 {i:Nat} (h:tailReachS2 ops n i=true):zdB ops n i=true:=by
 unfold tailReachS2 at h
 unfold zdB
 rw [List.all_eq_true] at h ⊢
 intro j hj
 have:=h j hj
 rw [Bool.or_eq_true] at this ⊢
 exact this.imp id (reaches_of2 _ _ _)
def ordPreV (ops:Array Oper) (n:Nat):List (Nat × Bool)->Array Bool->Bool
 | [],listed=>true
 | (i,true) :: r,listed=>((decide (i<n) && tailReachS2 ops n i) || (decide (n<=i) && zhA ops i)) && (Region.ready .any ops listed).contains i && Region.free .any ops listed i && ordPreV ops n r (listed.setIfInBounds i true)
 | (i,false) :: r,listed=>(decide (i<n) || r.all fun x=>decide (n<=x.1)) && (match Region.ready .any ops listed with|[j]=>j==i|_=>false) && ordPreV ops n r (listed.setIfInBounds i true)
theorem ordPre_ofV:∀ (ord:List (Nat × Bool)) (listed:Array Bool),ordPreV ops n ord listed=true->zfo ops n ord listed=true
 | [],_,h=>h
 | (i,true) :: r,listed,h=>by
  simp only [ordPreV,zfo,Bool.and_eq_true,Bool.or_eq_true] at h ⊢
  exact ⟨⟨⟨h.1.1.1.imp (fun x=>⟨x.1,tailReach_of2 x.2⟩) id,h.1.1.2⟩,h.1.2⟩,ordPre_ofV r _ h.2⟩
 | (i,false) :: r,listed,h=>by
  simp only [ordPreV,zfo,Bool.and_eq_true] at h ⊢
  exact ⟨h.1,ordPre_ofV r _ h.2⟩
theorem wpAny_ordW {listed:Array Bool} {a:Act} {w:World} (hcl:zfa ops listed) (ord:List (Nat × Bool)) (n m:Nat)
  (hok:(ordPreV ops n ord listed && Region.noSelect ops && (List.range n).all (fun i=>(ord.foldl (fun l x=>l.setIfInBounds x.1 true) listed).getD i false))=true)
  (h:zaY P ops (zbX (EndQ Q fun a w=>zfa ops (ord.foldl (fun l x=>l.setIfInBounds x.1 true) listed)->wpAny P .any ops (zbX Q) m (ord.foldl (fun l x=>l.setIfInBounds x.1 true) listed) a w)) (fun X=>w.ext X) n ord a w):wpAny P .any ops (zbX Q) (m+ord.length) listed a w:=by
 simp only [Bool.and_eq_true] at hok
 obtain ⟨⟨h1,h2⟩,h3⟩:=hok
 replace h1:=ordPre_ofV ord listed h1
 have h0:Sf (fun X=>w.ext X) w:=⟨⟨#[],w.drawn⟩,by unfold World.ext;simp⟩
 refine zcM _ _ _ _ (zc0 (F:=fun X=>w.ext X) ⟨#[],0⟩ h2 _ m ord _ a _ hcl h1 (fun _=>h0) (fun a w hw=>zes m _ a w (fun i hi=>?_) (hw (closed_pre ord _ hcl h1))) h)
 rw [List.all_eq_true] at h3
 exact h3 i (List.mem_range.2 hi)
theorem wp_region_ordS {id:Nat} {l:List Oper} {a:Act} {w:World} (hm:P.follows .mixedOrders=true)
  (h:zfa l.toArray (Array.replicate l.toArray.size false)->wpAny P .any l.toArray (zbX Q) l.toArray.size (Array.replicate l.toArray.size false) a w.drew):(Code.region id l.toArray true).wp P Q a w:=by
 have h5:(Code.region id l.toArray true).wp P (zbX Q) a w:=wp_region_any hm (h (zek _ _))
 exact Code.wp_mono (fun e a w h=>by cases e<;>first|exact h|exact h.elim) h5
end
end Go
