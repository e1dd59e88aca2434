/- Texts of this claim, merged: the walks and what they stand on. Each condition stands in its theorem. -/
import Derived.Deep.Slices
import Derived.Lib.SmallJoins
import Derived.Test.YtgcmnkkakngifaaGreatDoorCA29
import Derived.Test.YtgcmnkkakngifaaGreatDoorCA37
import Derived.Test.YtgcmnkkakngifaaGreatDoorTL3
set_option linter.unusedVariables false
set_option linter.unusedSimpArgs false
set_option maxRecDepth 100000
set_option maxHeartbeats 8000000
namespace Go.Proofs.YtgcmnkkakngifaaGreatDoor
open Go.ChangeShapes Go.WideShapes Go.ChangeAt Go.RowKit
def viewOf (zs:List CellD) (d:TxD):List CellD:=((K.runAll (stepsOf d)).run ⟨zs,[],[]⟩).2.cells
theorem stepsOf_len (d:TxD):(stepsOf d).length=d.calls.length:=by unfold stepsOf;rw [List.length_map]
theorem spec_TxView (v:Value) (ct:List Value) (zs:List CellD) (d:TxD) (w:World) (h:RdL zu w v zs) (ht:vTx.rd w ct d) (hf:∀ s ∈ stepsOf d,s.fine) (hl:zs.length<=1048576) (hl2:d.calls.length<=1048576) (hfit:zfL (stepsOf d) ⟨zs,[],[]⟩) :
  Calls Tryz.prog 17 #[v,.agg ct.toArray] w fun e w'=>∃ v',e = .returned v'/\RdL zu w' v' (viewOf zs d)/\Below w.heap.size w w':=by
 have D1:=Lib.hid (fun w' (hb:Below w.heap.size w w')=>spec_TxSteps ct d w' (View.grow _ ht (Grew.below hb)) hl2)
 have D2:=Lib.hid (fun w' vs (hb:Below w.heap.size w w') hs=>spec_l15Run v vs zs (stepsOf d) w' (h.below hb) hs hf hl (by rw [stepsOf_len];exact hl2) hfit)
 obtain ⟨res,mres,hr⟩ : ∃ res mres,(K.runAll (stepsOf d)).run ⟨zs,[],[]⟩ = (res,mres):=⟨_,_,rfl⟩
 unfold viewOf
 rw [hr] at D2 ⊢
 dsimp only at D2 ⊢
 obtain ⟨a0,c0,a1,c1,a2,c2,a3,c3,a4,c4,rfl⟩:=vTx_shape ht
 obtain ⟨az,cz,rfl⟩:=h.form
 clear hr h ht hf hfit
 go_enter Tryz.func17,Tryz.ntmps17
 (repeat (first|go_skip|go_guarded|go_step|go_upon|go_back))
 (go_at_call 44;refine (D1.out _ (by repeat (first|with_reducible exact Below.refl _ _|with_reducible apply Below.ofAlloc))).mono ?_;rintro e w1 ⟨vs,fp,rfl,ho,hb⟩)
 obtain ⟨xs1,ys1,rfl⟩:=vSlice.form (View.toRd _ ho.own)
 have HO:=Lib.hid (rdl_of_own (R:=zjq) rfl ho.own)
 have HB:Hid (Below w.heap.size w w1):=Below.then (by repeat (first|with_reducible exact Below.refl _ _|with_reducible apply Below.ofAlloc)) hb
 clear ho hb
 ((try simp only []);repeat (first|go_skip|go_guarded|go_step|go_upon|go_back))
 (go_at_call 43;refine (D2.out _ _ HB.out HO.out).mono ?_;rintro e w2 ⟨v0,v1,v2,v3,rfl,h0,h1,h2,h3,hb⟩)
 obtain ⟨b0,d0,rfl⟩:=h0.form
 obtain ⟨b1,d1,rfl⟩:=h1.form
 obtain ⟨b2,d2,rfl⟩:=h2.form
 obtain ⟨b3,d3,rfl⟩:=h3.form
 have H0:=Lib.hid h0
 have HB2:=Lib.hid (Below.then HB.out hb)
 clear h0 h1 h2 h3 hb D1 D2
 ((try simp only []);repeat (first|go_skip|go_guarded|go_step|go_upon|go_back))
 refine bodyPost_ret (by simp [results,Tryz.results17,go_sem];rfl) rfl ?_
 first
 | exact ⟨_,rfl,H0.out,HB2.out⟩
 | exact ⟨_,rfl,H0.out.alloc _,HB2.out.ofAlloc _⟩
 | exact ⟨_,rfl,(H0.out.alloc _).alloc _,(HB2.out.ofAlloc _).ofAlloc _⟩
theorem impl_TxView (v:Value) (ct:List Value) (zs:List CellD) (d:TxD) (w:World) (hg:Glob w) (h:RdL zu w v zs) (ht:vTx.rd w ct d) (hf:∀ s ∈ stepsOf d,s.fine) (hl:zs.length<=1048576) (hl2:d.calls.length<=1048576) (hfit:(K.runAll (stepsOf d)).fits ⟨zs,[],[]⟩) :
  Calls Tryz.prog 18 #[v,.agg ct.toArray] w fun e w'=>∃ v',e = .returned v'/\OwnL zu 78 w' w.heap.size v' (viewOf zs d)/\Below w.heap.size w w':=by
 have D1:=Lib.hid (fun w' (hb:Below w.heap.size w w')=>impl_TxSteps ct d w' (View.grow _ ht (Grew.below hb)) hl2)
 have D2:=Lib.hid (fun w' vs (hb:Below w.heap.size w w') hs=>impl_SerialRun v vs zs (stepsOf d) w' (hg.below hb) (h.below hb) hs hf hl (by rw [stepsOf_len];exact hl2) hfit)
 obtain ⟨res,mres,hr⟩ : ∃ res mres,(K.runAll (stepsOf d)).run ⟨zs,[],[]⟩ = (res,mres):=⟨_,_,rfl⟩
 unfold viewOf
 rw [hr] at D2 ⊢
 dsimp only at D2 ⊢
 obtain ⟨a0,c0,a1,c1,a2,c2,a3,c3,a4,c4,rfl⟩:=vTx_shape ht
 obtain ⟨az,cz,rfl⟩:=h.form
 clear hr h ht hf hfit
 go_enter Tryz.func18,Tryz.ntmps18
 (repeat (first|go_skip|go_guarded|go_step|go_upon|go_back))
 (go_at_call 54;refine (D1.out _ (by repeat (first|with_reducible exact Below.refl _ _|with_reducible apply Below.ofAlloc))).mono ?_;rintro e w1 ⟨vs,fp,rfl,ho,hb⟩)
 obtain ⟨xs1,ys1,rfl⟩:=vSlice.form (View.toRd _ ho.own)
 have HO:=Lib.hid (rdl_of_own (R:=zjq) rfl ho.own)
 have HB:Hid (Below w.heap.size w w1):=Below.then (by repeat (first|with_reducible exact Below.refl _ _|with_reducible apply Below.ofAlloc)) hb
 clear ho hb
 ((try simp only []);repeat (first|go_skip|go_guarded|go_step|go_upon|go_back))
 (go_at_call 61;refine (D2.out _ _ HB.out HO.out).mono ?_;rintro e w2 ⟨v0,v1,rfl,h0,h1,hb⟩)
 obtain ⟨b0,d0,rfl⟩:=h0.rd.form
 obtain ⟨b1,d1,rfl⟩:=h1.rd.form
 have H0:=Lib.hid (h0.base HB.out.size)
 have HB2:=Lib.hid (Below.then HB.out hb)
 clear h0 h1 hb D1 D2
 ((try simp only []);repeat (first|go_skip|go_guarded|go_step|go_upon|go_back))
 refine bodyPost_ret (by simp [results,Tryz.results18,go_sem];rfl) rfl ?_
 exact ⟨_,rfl,H0.out,HB2.out⟩
theorem _root_.Go.OwnL.heapEq {α : Type} {R:RowOf α} {e:TypeId} {w w':World} {B:Nat} {v:Value} {xs:List α} (h:OwnL R e w B v xs) (he:w'.heap=w.heap):OwnL R e w' B v xs:=by
 unfold OwnL World.ownsRow at *
 rwa [he]
theorem emptyAt (W:World) (n:Nat) (hn:n=W.heap.size):OwnL zu 78 (W.alloc (.cells #[] 78)) W.heap.size (.slice (some ⟨n,0,none⟩) 0 0) []:=by
 subst hn
 exact OwnL.empty zu _ W
def laidC (zs af:List CellD) (ks:List ByteArray):List CellD:=ks.foldl (fun s k=>zch k (zeF k af) s) zs
theorem laidC_snoc (zs af:List CellD) (ks:List ByteArray) (k:ByteArray):laidC zs af (ks ++ [k])=zch k (zeF k af) (laidC zs af ks):=by
 unfold laidC
 rw [List.foldl_append]
 rfl
theorem laidC_len (af zs:List CellD):∀ ks:List ByteArray,(laidC zs af ks).length<=zs.length + ks.length:=by
 intro ks
 unfold laidC
 induction ks generalizing zs with
 | nil=>exact Nat.le_refl _
 | cons c ks ih =>
  have h1:=ih (zch c (zeF c af) zs)
  have h2:=putC_len c (zeF c af) zs
  rw [List.foldl_cons,List.length_cons]
  omega
theorem laidC_ok (af zs:List CellD) (ks:List ByteArray) (ha:∀ c ∈ zs,c.ok) (hf:∀ c ∈ af,c.ok) (hk:∀ s ∈ ks,s.size<=9223372036854775807):∀ c ∈ laidC zs af ks,c.ok:=by
 unfold laidC
 induction ks generalizing zs with
 | nil=>exact ha
 | cons c ks ih=>exact ih _ (putC_ok ha (hk c (by simp)) (getC_ok c af hf)) (fun d hd=>hk d (by simp [hd]))
theorem spec_LaidOver (va vb:Value) (zs af:List CellD) (ct:List Value) (t:TouchD) (w:World) (ha:RdL zu w va zs) (hb:RdL zu w vb af) (ht:vTouch.rd w ct t) (hl:zs.length<=1048576) (hl2:t.writes.length<=1048576) :
  Calls Tryz.prog 66 #[va,vb,.agg ct.toArray] w fun e w'=>∃ v',e = .returned v'/\OwnL zu 78 w' w.heap.size v' (laidC zs af t.writes)/\Below w.heap.size w w':=by
 obtain ⟨ts0,ts1,rfl,th0,th1⟩:=ht
 obtain ⟨ta0,tc0,rfl⟩:=vSlice.form th0
 obtain ⟨ta1,tc1,rfl,hc1,hc2,hnil,hne,hok⟩:=vStr_shape th1
 have HX:=Lib.hid hne
 have HOK:=Lib.hid hok
 have HA:=Lib.hid ha
 have HB:=Lib.hid hb
 obtain ⟨aa,ca,rfl⟩:=ha.form
 obtain ⟨ab,cb,rfl⟩:=hb.form
 clear th0 th1 hne hnil ha hb hok
 unfold maxLen at hc2
 go_enter Tryz.func66,Tryz.ntmps66
 go_wp2_with (at_builtin;refine zA ?_)
 refine zI rfl _ _ _ rfl zD (B:=(w.alloc (.cells #[.slice ta0 t.reads.length tc0,.slice ta1 t.writes.length tc1] 38)).heap.size) (v:=.slice (some ⟨w.heap.size + 1,0,none⟩) 0 0) (xs:=[]) (R:=zu) (emptyAt (w.alloc (.cells #[.slice ta0 t.reads.length tc0,.slice ta1 t.writes.length tc1] 38)) _ (by simp)) rfl (ys:=zs) ((HA.out.alloc _).alloc _) rfl (by simp only [List.length_nil];omega) (by simp only [List.length_nil];unfold maxLen;omega) (by simp) ?_
 intro v4 w4 hown4 hgr4 _
 have hb4:Below (w.alloc (.cells #[.slice ta0 t.reads.length tc0,.slice ta1 t.writes.length tc1] 38)).heap.size (w.alloc (.cells #[.slice ta0 t.reads.length tc0,.slice ta1 t.writes.length tc1] 38)) w4:=Below.appL (R:=zu) (e:=78) (v:=.slice (some ⟨w.heap.size + 1,0,none⟩) 0 0) (xs:=[]) (by repeat (first|with_reducible exact Below.refl _ _|with_reducible apply Below.ofAlloc)) hgr4 (emptyAt (w.alloc (.cells #[.slice ta0 t.reads.length tc0,.slice ta1 t.writes.length tc1] 38)) _ (by simp))
 clear hgr4
 simp only [List.nil_append] at hown4
 obtain ⟨X4,rfl⟩:=hb4.ext
 clear hb4
 have HS4:=Lib.hid hown4
 clear hown4
 obtain ⟨oa4,oc4,e4⟩:=HS4.out.rd.form
 subst e4
 go_wp2
 go_loopw [7,8] (fun o k wr=>∃ (n:Nat) (xs:List CellD),k = .int .i64 n/\n<=t.writes.length/\Below (w.alloc (.cells #[.slice ta0 t.reads.length tc0,.slice ta1 t.writes.length tc1] 38)).heap.size (w.alloc (.cells #[.slice ta0 t.reads.length tc0,.slice ta1 t.writes.length tc1] 38)) wr/\OwnL zu 78 wr (w.alloc (.cells #[.slice ta0 t.reads.length tc0,.slice ta1 t.writes.length tc1] 38)).heap.size o xs/\xs=laidC zs af (t.writes.take n)/\xs.length<=zs.length + n) (fun _ k _=>t.writes.length - (intOf k).toNat)
 case atStart=>exact ⟨0,zs,rfl,by omega,(by repeat (first|with_reducible exact Below.refl _ _|with_reducible apply Below.ofExt)),HS4.out,rfl,by omega⟩
 case round =>
  obtain ⟨n,xs,rfl,hn,hbel,ho,hxs,hxl⟩:=hrel
  obtain ⟨X,rfl⟩:=hbel.ext
  obtain ⟨oa,oc,rfl⟩:=ho.rd.form
  have HO:=Lib.hid ho
  have HLO:Hid (∀ x ∈ (Value.slice oa xs.length oc).ownBlock.toList,(w.alloc (.cells #[.slice ta0 t.reads.length tc0,.slice ta1 t.writes.length tc1] 38)).heap.size<=x):=fun x hx=>(ho.lt x (by simpa using hx)).1
  clear ho
  by_cases hlt:(n:Int) < t.writes.length
  case pos =>
   have hk:n < t.writes.length:=by omega
   obtain ⟨b,off,rfl,hbl,hcell⟩:=HX.out (by intro e;simp [e] at hk)
   have hst:t.writes.take (n + 1)=t.writes.take n ++ [t.writes[n]]:=List.take_succ_eq_append_getElem hk
   have hck:=HOK.out _ (List.getElem_mem hk)
   have y0:=hcell n hk
   generalize t.writes[n]=s at y0 hst hck
   clear hcell
   have hbl0:b < w.heap.size + 1:=by omega
   have hbl1:¬ b=w.heap.size:=by omega
   have HS:Hid (laidC zs af (t.writes.take (n + 1))=zch s (zeF s af) xs):=by show _ = _;rw [hst,laidC_snoc,hxs]
   clear hst hxs
   go_wp2
   refine zgv [(0,true),(1,true),(2,true),(3,true),(4,true),(5,true),(6,true),(7,true),(8,true),(9,true),(10,true),(11,true),(12,false),(13,false),(14,true)] 15 (by kernel_rfl) (by kernel_rfl) ?_
   repeat (refine zl rfl (fun K hK=>?_);go_simp;(try simp (disch:=omega) only [IntWalk.i64_in]);refine hK _ ?_;clear hK K)
   refine zt rfl (fun K hK=>?_);go_simp;go_at_call 94;refine (zfj _ af s _ (by (skip);(repeat (first|with_reducible exact HB.out|with_reducible apply RdL.ext|with_reducible apply RdL.alloc));all_goals exact (0:Nat))).mono ?_;rintro e w' ⟨rfl,hb⟩;obtain ⟨X,rfl⟩:=hb.ext;clear hb;try go_simp;refine hK _ _ (by show Sx _ _;repeat (first|with_reducible exact Sx.same _ _ _ _|with_reducible apply Sx.more)) ?_;clear hK K
   refine zt rfl (fun K hK=>?_);go_simp;go_at_call 93;refine (zhQ _ xs s (zeF s af) _ (OwnL.rd (e:=78) (B:=(w.alloc (.cells #[.slice ta0 t.reads.length tc0,.slice (some ⟨b,off,none⟩) t.writes.length tc1] 38)).heap.size) (by (skip);(repeat (first|with_reducible exact HO.out|with_reducible apply OwnL.merge2));all_goals exact (0:Nat))) (by omega) hck).mono ?_;rintro e w' ⟨v',rfl,ho',hb'⟩;obtain ⟨Y,rfl⟩:=hb'.ext;have HP:=Lib.hid (ho'.base (B':=(w.alloc (.cells #[.slice ta0 t.reads.length tc0,.slice (some ⟨b,off,none⟩) t.writes.length tc1] 38)).heap.size) (by simp [zm]));clear ho' hb';try go_simp;refine hK _ _ (by show Sx _ _;(try simp only [<- Array.append_assoc]);repeat (first|with_reducible exact Sx.same _ _ _ _|with_reducible apply Sx.more)) ?_;clear hK K
   repeat (refine zl rfl (fun K hK=>?_);go_simp;(try simp (disch:=omega) only [IntWalk.i64_in]);refine hK _ ?_;clear hK K)
   refine zae ?_
   go_wp2
   go_roundw
   case rel=>exact ⟨n + 1,_,by go_num,by omega,(by repeat (first|with_reducible exact Below.refl _ _|with_reducible apply Below.ofExt)),OwnL.heapEq HP.out (by simp only [World.ext,World.drew,World.alloc,Array.append_assoc]),HS.out.symm,Nat.le_trans (putC_len _ _ _) (by omega)⟩
   case measure=>simp [intOf];omega
  case neg =>
   have e:n=t.writes.length:=by omega
   have HF:Hid (laidC zs af t.writes=xs):=by show _ = _;rw [hxs,e,List.take_length]
   clear hxs
   go_wp2
   go_ret
   exact ⟨_,rfl,by rw [HF.out];exact HO.out.base (by simp),(by repeat (first|with_reducible exact Below.refl _ _|with_reducible apply Below.ofExt|with_reducible apply Below.ofAlloc))⟩
theorem impl_LaidOver (va vb:Value) (zs af:List CellD) (ct:List Value) (t:TouchD) (w:World) (ha:RdL zu w va zs) (hb:RdL zu w vb af) (ht:vTouch.rd w ct t) (hl:zs.length<=1048576) (hl2:t.writes.length<=1048576) :
  Calls Tryz.prog 67 #[va,vb,.agg ct.toArray] w fun e w'=>∃ v',e = .returned v'/\OwnL zu 78 w' w.heap.size v' (laidC zs af t.writes)/\Below w.heap.size w w':=by
 obtain ⟨ts0,ts1,rfl,th0,th1⟩:=ht
 obtain ⟨ta0,tc0,rfl⟩:=vSlice.form th0
 obtain ⟨ta1,tc1,rfl,hc1,hc2,hnil,hne,hok⟩:=vStr_shape th1
 have HX:=Lib.hid hne
 have HOK:=Lib.hid hok
 have HA:=Lib.hid ha
 have HB:=Lib.hid hb
 obtain ⟨aa,ca,rfl⟩:=ha.form
 obtain ⟨ab,cb,rfl⟩:=hb.form
 clear th0 th1 hne hnil ha hb hok
 unfold maxLen at hc2
 go_enter Tryz.func67,Tryz.ntmps67
 go_wp2_with fail
 (go_at_call 85;refine (zfC _ zs _ (HA.out.alloc _) (by omega)).mono ?_;rintro e w' ⟨v4,rfl,hown4,hb4⟩;obtain ⟨X4,rfl⟩:=hb4.ext;clear hb4;have HS4:=Lib.hid hown4;clear hown4)
 obtain ⟨oa4,oc4,e4⟩:=HS4.out.rd.form
 subst e4
 go_wp2
 go_loopw [7,15] (fun o k wr=>∃ (n:Nat) (xs:List CellD),k = .int .i64 n/\n<=t.writes.length/\Below (w.alloc (.cells #[.slice ta0 t.reads.length tc0,.slice ta1 t.writes.length tc1] 38)).heap.size (w.alloc (.cells #[.slice ta0 t.reads.length tc0,.slice ta1 t.writes.length tc1] 38)) wr/\OwnL zu 78 wr (w.alloc (.cells #[.slice ta0 t.reads.length tc0,.slice ta1 t.writes.length tc1] 38)).heap.size o xs/\xs=laidC zs af (t.writes.take n)/\xs.length<=zs.length + n) (fun _ k _=>t.writes.length - (intOf k).toNat)
 case atStart=>exact ⟨0,zs,rfl,by omega,(by repeat (first|with_reducible exact Below.refl _ _|with_reducible apply Below.ofExt)),HS4.out,rfl,by omega⟩
 case round =>
  obtain ⟨n,xs,rfl,hn,hbel,ho,hxs,hxl⟩:=hrel
  obtain ⟨X,rfl⟩:=hbel.ext
  obtain ⟨oa,oc,rfl⟩:=ho.rd.form
  have HO:=Lib.hid ho
  have HLO:Hid (∀ x ∈ (Value.slice oa xs.length oc).ownBlock.toList,(w.alloc (.cells #[.slice ta0 t.reads.length tc0,.slice ta1 t.writes.length tc1] 38)).heap.size<=x):=fun x hx=>(ho.lt x (by simpa using hx)).1
  clear ho
  by_cases hlt:(n:Int) < t.writes.length
  case pos =>
   have hk:n < t.writes.length:=by omega
   obtain ⟨b,off,rfl,hbl,hcell⟩:=HX.out (by intro e;simp [e] at hk)
   have hst:t.writes.take (n + 1)=t.writes.take n ++ [t.writes[n]]:=List.take_succ_eq_append_getElem hk
   have hck:=HOK.out _ (List.getElem_mem hk)
   have y0:=hcell n hk
   generalize t.writes[n]=s at y0 hst hck
   clear hcell
   have hbl0:b < w.heap.size + 1:=by omega
   have hbl1:¬ b=w.heap.size:=by omega
   have HS:Hid (laidC zs af (t.writes.take (n + 1))=zch s (zeF s af) xs):=by show _ = _;rw [hst,laidC_snoc,hxs]
   clear hst hxs
   go_wp2_with fail
   (go_at_call 96;refine (zh6 _ af s _ (by (skip);(repeat (first|with_reducible exact HB.out|with_reducible apply RdL.ext|with_reducible apply RdL.alloc));all_goals exact (0:Nat))).mono ?_;rintro e w' ⟨rfl,hb⟩;obtain ⟨X,rfl⟩:=hb.ext;clear hb)
   go_wp2_with fail
   (go_at_call 95;refine (impl_put _ xs s (zeF s af) (w.alloc (.cells #[.slice ta0 t.reads.length tc0,.slice (some ⟨b,off,none⟩) t.writes.length tc1] 38)).heap.size _ (by (skip);(repeat (first|with_reducible exact HO.out|with_reducible apply OwnL.merge2));all_goals exact (0:Nat)) hck (by omega) (by simp [zm];try omega)).mono ?_;rintro e w' ⟨v',rfl,ho',hu'⟩;have hb':=Below.trans (show Below (w.alloc (.cells #[.slice ta0 t.reads.length tc0,.slice (some ⟨b,off,none⟩) t.writes.length tc1] 38)).heap.size (w.alloc (.cells #[.slice ta0 t.reads.length tc0,.slice (some ⟨b,off,none⟩) t.writes.length tc1] 38)) _ from (by repeat (first|with_reducible exact Below.refl _ _|with_reducible apply Below.ofExt))) (hu'.toBelow (by simp [zm];try omega) HLO.out);have HP:=Lib.hid ho';clear ho' hu')
   go_wp2
   go_roundw
   case rel=>exact ⟨n + 1,_,by go_num,by omega,hb',HP.out,HS.out.symm,Nat.le_trans (putC_len _ _ _) (by omega)⟩
   case measure=>simp [intOf];omega
  case neg =>
   have e:n=t.writes.length:=by omega
   have HF:Hid (laidC zs af t.writes=xs):=by show _ = _;rw [hxs,e,List.take_length]
   clear hxs
   go_wp2
   go_ret
   exact ⟨_,rfl,by rw [HF.out];exact HO.out.base (by simp),(by repeat (first|with_reducible exact Below.refl _ _|with_reducible apply Below.ofExt|with_reducible apply Below.ofAlloc))⟩
theorem vTx_writesOk {w:World} {ct:List Value} {d:TxD} (h:vTx.rd w ct d):∀ s ∈ d.touch.writes,s.size<=9223372036854775807:=by
 obtain ⟨s0,s1,s2,s3,s4,rfl,t0,t1,t2,t3,t4⟩:=h
 obtain ⟨_,_,_,_,_,_,_,h⟩:=vStr_shape t3
 exact h
def laidOf (zs:List CellD) (d:TxD):List CellD:=laidC zs (viewOf zs d) d.touch.writes
theorem laid_whole {zs:List CellD} {d:TxD} (hk:∀ c ∈ zs,c.ok) (hl:zs.length<=1048576) (hw:d.touch.writes.length<=1048576) (hs:∀ s ∈ d.touch.writes,s.size<=9223372036854775807) (hv:∀ c ∈ viewOf zs d,c.ok):(∀ c ∈ laidOf zs d,c.ok)/\(laidOf zs d).length<=549755813888 :=
 ⟨laidC_ok _ _ _ hk hv hs,by have:=laidC_len (viewOf zs d) zs d.touch.writes;unfold laidOf;omega⟩
theorem spec_TxLaid (v:Value) (ct:List Value) (zs:List CellD) (d:TxD) (w:World) (h:RdL zu w v zs) (ht:vTx.rd w ct d) (hf:∀ s ∈ stepsOf d,s.fine) (hl:zs.length<=1048576) (hl2:d.calls.length<=1048576) (hl3:d.touch.writes.length<=1048576) (hfit:zfL (stepsOf d) ⟨zs,[],[]⟩) :
  Calls Tryz.prog 22 #[v,.agg ct.toArray] w fun e w'=>∃ v',e = .returned v'/\OwnL zu 78 w' w.heap.size v' (laidOf zs d)/\Below w.heap.size w w':=by
 have D1:=Lib.hid (fun w' (hb:Below w.heap.size w w')=>spec_TxView v ct zs d w' (h.below hb) (View.grow _ ht (Grew.below hb)) hf hl hl2 hfit)
 obtain ⟨af,haf⟩ : ∃ af,viewOf zs d=af:=⟨_,rfl⟩
 unfold laidOf
 rw [haf] at D1 ⊢
 obtain ⟨s0,s1,s2,s3,s4,rfl,t0,t1,t2,t3,t4⟩:=ht
 have D2:=Lib.hid (fun w' vb (hb:Below w.heap.size w w') hv=>spec_LaidOver v vb zs af [s2,s3] d.touch w' (h.below hb) hv ⟨_,_,rfl,View.grow _ t2 (Grew.below hb),View.grow _ t3 (Grew.below hb)⟩ hl hl3)
 obtain ⟨a0,c0,rfl⟩:=vSlice.form t0
 obtain ⟨a1,c1,rfl⟩:=vSlice.form t1
 obtain ⟨a2,c2,rfl⟩:=vSlice.form t2
 obtain ⟨a3,c3,rfl⟩:=vSlice.form t3
 obtain ⟨a4,c4,rfl⟩:=vSlice.form t4
 obtain ⟨az,cz,rfl⟩:=h.form
 clear haf h t0 t1 t2 t3 t4 hf hfit
 go_enter Tryz.func22,Tryz.ntmps22
 (repeat (first|go_skip|go_guarded|go_step|go_upon|go_back))
 refine zgv [(0,true),(1,true),(2,true),(4,true),(5,true),(3,false),(6,false),(7,false)] 7 (by kernel_rfl) (by kernel_rfl) ?_
 repeat (refine zl rfl (fun K hK=>?_);go_simp;(try simp (disch:=omega) only [IntWalk.i64_in]);refine hK _ ?_;clear hK K)
 refine zt rfl (fun K hK=>?_);go_simp;go_at_call 17;refine (D1.out _ (by repeat (first|with_reducible exact Below.refl _ _|with_reducible apply Below.ofAlloc|with_reducible apply Below.drew))).mono ?_;rintro e w1 ⟨vv,rfl,ho,hb⟩;obtain ⟨xs1,ys1,rfl⟩:=ho.form;try go_simp;refine hK _ _ (hb.ext) ?_;clear hK K
 have HO:=Lib.hid ho
 have BR:=Lib.hid hb
 have HB:Hid (Below w.heap.size w w1):=Below.then (by repeat (first|with_reducible exact Below.refl _ _|with_reducible apply Below.ofAlloc|with_reducible apply Below.drew)) hb
 clear ho hb
 refine zt rfl (fun K hK=>?_);go_simp;go_at_call 66;refine (D2.out _ _ HB.out HO.out).mono ?_;rintro e w2 ⟨v0,rfl,h0,hb⟩;obtain ⟨b0,d0,rfl⟩:=h0.rd.form;try go_simp;refine hK _ _ ((Below.then BR.out hb).ext) ?_;clear hK K
 have H0:=Lib.hid (h0.base HB.out.size)
 have HB2:=Lib.hid (Below.then HB.out hb)
 clear h0 hb D1 D2
 repeat (refine zw rfl rfl (fun K hK=>?_);go_simp;refine hK _ _ ?_;clear hK K)
 refine zae ?_
 (repeat (first|go_skip|go_guarded|go_step|go_upon|go_back))
 refine bodyPost_ret (by simp [results,Tryz.results22,go_sem];rfl) rfl ?_
 exact ⟨_,rfl,H0.out,HB2.out⟩
theorem impl_TxLaid (v:Value) (ct:List Value) (zs:List CellD) (d:TxD) (w:World) (hg:Glob w) (h:RdL zu w v zs) (ht:vTx.rd w ct d) (hf:∀ s ∈ stepsOf d,s.fine) (hl:zs.length<=1048576) (hl2:d.calls.length<=1048576) (hl3:d.touch.writes.length<=1048576) (hfit:(K.runAll (stepsOf d)).fits ⟨zs,[],[]⟩) :
  Calls Tryz.prog 23 #[v,.agg ct.toArray] w fun e w'=>∃ v',e = .returned v'/\OwnL zu 78 w' w.heap.size v' (laidOf zs d)/\Below w.heap.size w w':=by
 have D1:=Lib.hid (fun w' (hb:Below w.heap.size w w')=>impl_TxView v ct zs d w' (hg.below hb) (h.below hb) (View.grow _ ht (Grew.below hb)) hf hl hl2 hfit)
 obtain ⟨af,haf⟩ : ∃ af,viewOf zs d=af:=⟨_,rfl⟩
 unfold laidOf
 rw [haf] at D1 ⊢
 obtain ⟨s0,s1,s2,s3,s4,rfl,t0,t1,t2,t3,t4⟩:=ht
 have D2:=Lib.hid (fun w' vb (hb:Below w.heap.size w w') hv=>impl_LaidOver v vb zs af [s2,s3] d.touch w' (h.below hb) hv ⟨_,_,rfl,View.grow _ t2 (Grew.below hb),View.grow _ t3 (Grew.below hb)⟩ hl hl3)
 obtain ⟨a0,c0,rfl⟩:=vSlice.form t0
 obtain ⟨a1,c1,rfl⟩:=vSlice.form t1
 obtain ⟨a2,c2,rfl⟩:=vSlice.form t2
 obtain ⟨a3,c3,rfl⟩:=vSlice.form t3
 obtain ⟨a4,c4,rfl⟩:=vSlice.form t4
 obtain ⟨az,cz,rfl⟩:=h.form
 clear haf h t0 t1 t2 t3 t4 hf hfit
 go_enter Tryz.func23,Tryz.ntmps23
 (repeat (first|go_skip|go_guarded|go_step|go_upon|go_back))
 refine zgv [(0,true),(1,true),(2,true),(4,true),(5,true),(3,false),(6,false),(7,false)] 7 (by kernel_rfl) (by kernel_rfl) ?_
 repeat (refine zl rfl (fun K hK=>?_);go_simp;(try simp (disch:=omega) only [IntWalk.i64_in]);refine hK _ ?_;clear hK K)
 refine zt rfl (fun K hK=>?_);go_simp;go_at_call 18;refine (D1.out _ (by repeat (first|with_reducible exact Below.refl _ _|with_reducible apply Below.ofAlloc|with_reducible apply Below.drew))).mono ?_;rintro e w1 ⟨vv,rfl,ho,hb⟩;obtain ⟨xs1,ys1,rfl⟩:=ho.rd.form;try go_simp;refine hK _ _ (hb.ext) ?_;clear hK K
 have HO:=Lib.hid ho.rd
 have BR:=Lib.hid hb
 have HB:Hid (Below w.heap.size w w1):=Below.then (by repeat (first|with_reducible exact Below.refl _ _|with_reducible apply Below.ofAlloc|with_reducible apply Below.drew)) hb
 clear ho hb
 refine zt rfl (fun K hK=>?_);go_simp;go_at_call 67;refine (D2.out _ _ HB.out HO.out).mono ?_;rintro e w2 ⟨v0,rfl,h0,hb⟩;obtain ⟨b0,d0,rfl⟩:=h0.rd.form;try go_simp;refine hK _ _ ((Below.then BR.out hb).ext) ?_;clear hK K
 have H0:=Lib.hid (h0.base HB.out.size)
 have HB2:=Lib.hid (Below.then HB.out hb)
 clear h0 hb D1 D2
 repeat (refine zw rfl rfl (fun K hK=>?_);go_simp;refine hK _ _ ?_;clear hK K)
 refine zae ?_
 (repeat (first|go_skip|go_guarded|go_step|go_upon|go_back))
 refine bodyPost_ret (by simp [results,Tryz.results23,go_sem];rfl) rfl ?_
 exact ⟨_,rfl,H0.out,HB2.out⟩
end Go.Proofs.YtgcmnkkakngifaaGreatDoor
namespace Go
open Go.RowKit Go.ChangeShapes Go.WideShapes Go.Deep
def Opens {α : Type} (P:Program) (T:TypeId) (V:View α):Prop:=∀ (H:Type) (enc:TypeId × Value->H) (w:World) (fuel:Nat) {cs:List Value} {x:DataW H × List MemPlace},
 DataW.trod enc P w 0 (fun _=>true) true fuel T cs=some x->∃ d,V.rd w cs d
theorem opensInt {P:Program} {T:TypeId} (ht:P.underlying T=some (.int .i64)):Opens P T vInt:=by
 intro H enc w fuel cs x h
 obtain ⟨n,rfl,_⟩:=DataW.trod_int ht h
 exact ⟨n,rfl,trivial⟩
theorem opensStr {P:Program} {T:TypeId} (ht:P.underlying T=some .string):Opens P T vStr:=by
 intro H enc w fuel cs x h
 obtain ⟨n,rfl,_,hz⟩:=DataW.trod_string ht h
 exact ⟨n,rfl,hz⟩
theorem flat_cells {k:Nat} (w:World) (b:Nat):∀ (css:List (List Value)) (off:Nat),(∀ i (hc:i < css.length),(css[i]).length=k) ->
  (∀ i (hc:i < css.length) (j:Nat),j < k->w.cell? ⟨b,off + i * k + j,none⟩ = css[i][j]?)->∀ j u,css.flatten[j]?=some u->w.cell? ⟨b,off + j,none⟩ = some u
 | [],_,_,_,j,u,h=>by simp at h
 | c :: r,off,hl,hc,j,u,h=>by
  have h0:c.length=k:=hl 0 (by simp)
  rw [List.flatten_cons] at h
  by_cases hj:j < k
  ·rw [List.getElem?_append_left (by omega)] at h
   have:=hc 0 (by simp) j hj
   rw [Nat.zero_mul,Nat.add_zero] at this
   rw [this]
   exact h
  ·rw [List.getElem?_append_right (by omega),h0] at h
   have:=flat_cells w b r (off + k) (fun i hi=>by have:=hl (i + 1) (by simpa using hi);rwa [List.getElem_cons_succ] at this) (fun i hi q hq=>by
    have:=hc (i + 1) (by simpa using hi) q hq
    rw [List.getElem_cons_succ] at this
    rw [<- this]
    congr 2
    rw [Nat.add_mul]
    omega) (j - k) u h
   rw [<- this]
   congr 2
   omega
theorem add_none (b o n:Nat):(⟨b,o,none⟩ : Addr).add n = ⟨b,o + n,none⟩:=zbw b o n
theorem opens_slice {α : Type} {P:Program} {T E:TypeId} {V:View α} {e:TypeId} (ht:P.underlying T=some (.slice E)) (hc:P.cellsOf E=V.k) (hk : 0 < V.k) (hE:Opens P E V):Opens P T (vSlice V e):=by
 intro H enc w fuel cs x h
 rcases open_slice ht h with ⟨rfl,_⟩|⟨a,len,cap,m,n,D,Pl,rfl,_,hl,hm,hmm,_,hi⟩
 ·exact ⟨[],none,0,[],rfl,Nat.le_refl _,Nat.zero_le _,fun _=>rfl,rfl,fun i hi=>absurd hi (by simp),fun h=>absurd rfl h⟩
 ·have hmm2:cap=m:=hmm.symm
  subst hmm2
  have hi:∀ i,i < cap->∃ cs',w.cells? 0 (a.add (i * P.cellsOf E)) (P.cellsOf E)=some cs'/\DataW.trod enc P w 0 (fun _=>true) true n E cs'=some (D i,Pl i):=hi
  have hex:∀ i,∃ cs':List Value,∃ d:Option α,i < len->cs'.length=V.k/\(∀ j,j < V.k->w.cell? ((a.add (i * V.k)).add j)=cs'[j]?)/\∃ d',d=some d'/\V.rd w cs' d':=by
   intro i
   by_cases hlt:i < len
   ·obtain ⟨cs',h1,h2⟩:=hi i (by omega)
    rw [hc] at h1
    obtain ⟨_,h3,h4⟩:=World.cells?_some h1
    obtain ⟨d,hd⟩:=hE _ _ _ _ h2
    exact ⟨cs',some d,fun _=>⟨h3,h4,d,rfl,hd⟩⟩
   ·exact ⟨[],none,fun h=>absurd h hlt⟩
  have hex2:∃ (f:Nat->List Value) (g:Nat->Option α),∀ i,i < len->(f i).length=V.k/\(∀ j,j < V.k->w.cell? ((a.add (i * V.k)).add j)=(f i)[j]?)/\∃ d',g i=some d'/\V.rd w (f i) d' :=
   ⟨fun i=>(hex i).choose,fun i=>(hex i).choose_spec.choose,fun i=>(hex i).choose_spec.choose_spec⟩
  obtain ⟨f,g,hfg⟩:=hex2
  by_cases hz:len=0
  ·subst hz
   exact ⟨[],some a,cap,[],rfl,Nat.zero_le _,hm,(fun h=>by cases h),rfl,fun i hi=>absurd hi (by simp),fun h=>absurd rfl h⟩
  ·have h0:=(hfg 0 (by omega))
   have hd0:∃ d0 : α,True:=by obtain ⟨_,_,d,_⟩:=h0;exact ⟨d,trivial⟩
   obtain ⟨d0,_⟩:=hd0
   obtain ⟨b,off,sp⟩:=a
   have hsp:sp=none:=by
    cases sp with
    | none=>rfl
    | some q =>
     have h2:=h0.2.1 0 hk
     rw [Nat.zero_mul] at h2
     have h3:(f 0)[0]?=some ((f 0)[0]'(by rw [h0.1];exact hk)):=List.getElem?_eq_getElem _
     rw [h3] at h2
     have e:((⟨b,off,some q⟩ : Addr).add 0).add 0 = ⟨b,off,some q⟩:=by simp [Addr.add]
     rw [e] at h2
     unfold World.cell? at h2
     simp only [Option.isSome_some,if_true] at h2
     split at h2<;>cases h2
   subst hsp
   refine ⟨(List.range len).map fun i=>(g i).getD d0,some ⟨b,off,none⟩,cap,(List.range len).map f,by simp,by simpa using hl,hm,(fun h=>by cases h),by simp,?_,fun _=>⟨b,off,rfl,?_,?_⟩⟩
   ·intro i hi hci
    simp only [List.length_map,List.length_range] at hi hci
    obtain ⟨_,_,d',hd',hr⟩:=hfg i hi
    simp only [List.getElem_map,List.getElem_range,hd',Option.getD_some]
    exact hr
   ·have h2:=h0.2.1 0 hk
    obtain ⟨u,hu⟩ : ∃ u,(f 0)[0]?=some u:=⟨_,List.getElem?_eq_getElem (by rw [h0.1];exact hk)⟩
    rw [hu,add_none,add_none] at h2
    exact World.block_lt_of_cell? w _ h2
   ·refine flat_cells (k:=V.k) w b _ off (fun i hci=>?_) (fun i hci j hj=>?_)
    ·simp only [List.length_map,List.length_range] at hci
     simpa using (hfg i hci).1
    ·simp only [List.length_map,List.length_range] at hci
     have:=(hfg i hci).2.1 j hj
     rw [add_none,add_none] at this
     simpa using this
theorem open_agg {α : Type} {P:Program} {T:TypeId} {V:View α} {fs:Array Field} (hs:P.underlying T=some (.struct fs)) (hO:Opens P T V) {H:Type} {enc:TypeId × Value->H} {W:World} {base:Nat} {v:Value} {d:DataW H} {p:List MemPlace}
  (hv:Value.okWide P W .any base T v) (h:DataW.Trod enc P W 0 (fun _=>true) true T v d p):∃ (cs:List Value) (x : α),v = .agg cs.toArray/\V.rd W cs x:=by
 obtain ⟨cs,rfl,_⟩:=okWide_struct hs hv
 obtain ⟨fuel,hf⟩:=h
 obtain ⟨x,hx⟩:=hO _ _ _ _ hf
 exact ⟨cs.toList,x,by simp,hx⟩
theorem open_sl {α : Type} {P:Program} {T E e:TypeId} {V:View α} (hs:P.underlying T=some (.slice E)) (hO:Opens P T (vSlice V e)) {H:Type} {enc:TypeId × Value->H} {W:World} {base:Nat} {v:Value} {d:DataW H} {p:List MemPlace}
  (hv:Value.okWide P W .any base T v) (h:DataW.Trod enc P W 0 (fun _=>true) true T v d p):∃ x,(vSlice V e).rd W [v] x:=by
 obtain ⟨a,len,cap,rfl⟩:=okWide_slice hs hv
 obtain ⟨fuel,hf⟩:=h
 exact hO _ _ _ _ hf
end Go
namespace Go.Proofs.YtgcmnkkakngifaaGreatDoor
open Go.ChangeShapes Go.WideShapes Go.ChangeAt Go.RowKit
theorem opens_int:Opens Tryz.prog 3 vInt:=opensInt Tryz.underlying3
def vIntR:View Int:=vRow (fun n=>[.int .i64 n]) 1 InR (fun _=>rfl) (by simp [Value.oneCell'])
def vCallR:View CallD:=vRow CallD.row 6 (fun d=>d.ok/\InR d.a/\InR d.b) (fun _=>rfl) (fun d u hu=>by simp [CallD.row] at hu;rcases hu with rfl|rfl|rfl|rfl|rfl|rfl<;>rfl)
theorem opens_intR:Opens Tryz.prog 3 vIntR:=by
 intro H enc w fuel cs x h
 obtain ⟨n,rfl,_,hw⟩:=DataW.trod_int Tryz.underlying3 h
 refine ⟨n,rfl,?_⟩
 simp [Lit.wf,IntKind.min,IntKind.max,IntKind.signed,IntKind.bits] at hw
 exact ⟨by omega,by omega⟩
theorem slice_row {α : Type} {row : α->List Value} {k:Nat} {ok ok' : α->Prop} {hk:∀ d,(row d).length=k} {h1:∀ d,∀ u ∈ row d,u.oneCell'=true} {e:TypeId} {w:World} {cs:List Value} {ds:List α} (h:(vSlice (vRow row k ok hk h1) e).rd w cs ds) (hi:∀ d,ok d->ok' d) :
  (vSlice (vRow row k ok' hk h1) e).rd w cs ds:=by
 obtain ⟨ao,cap,css,e,h1,h2,h3,h4,h5,h6⟩:=h
 exact ⟨ao,cap,css,e,h1,h2,h3,h4,fun i hi' hc=>⟨(h5 i hi' hc).1,hi _ (h5 i hi' hc).2⟩,h6⟩
theorem slice_ok {α : Type} {row : α->List Value} {k:Nat} {ok : α->Prop} {hk:∀ d,(row d).length=k} {h1:∀ d,∀ u ∈ row d,u.oneCell'=true} {e:TypeId} {w:World} {cs:List Value} {ds:List α} (h:(vSlice (vRow row k ok hk h1) e).rd w cs ds):∀ d ∈ ds,ok d:=by
 obtain ⟨ao,cap,css,e,h1,h2,h3,h4,h5,h6⟩:=h
 intro d hd
 obtain ⟨i,hi,rfl⟩:=List.getElem_of_mem hd
 exact (h5 i hi (by omega)).2
theorem opens_str:Opens Tryz.prog 9 vStr:=opensStr Tryz.underlying9
theorem Tryz.cellsLCall:Tryz.prog.cellsOf 49=6:=by kernel_rfl
theorem opens_CallR:Opens Tryz.prog 49 vCallR:=by
 intro H enc w fuel cs x h
 obtain ⟨xs,n,_,_,hl,hxl,hf⟩:=DataW.trod_struct Tryz.underlying49 h
 rw [Tryz.cellsLCall] at hl
 match cs,hl with
 | [c0,c1,c2,c3,c4,c5],_ =>
  match xs,hxl with
  | [y0,y1,y2,y3,y4,y5],_ =>
   have h0:DataW.trod enc Tryz.prog w 0 (fun _=>true) true n 3 [c0]=some y0:=by
    have:=hf 0 _ rfl
    rw [show Tryz.prog.cellsOf _=1 by kernel_rfl] at this
    exact this
   have h1:DataW.trod enc Tryz.prog w 0 (fun _=>true) true n 9 [c1]=some y1:=by
    have:=hf 1 _ rfl
    rw [show Tryz.prog.cellsOf _=1 by kernel_rfl] at this
    exact this
   have h2:DataW.trod enc Tryz.prog w 0 (fun _=>true) true n 9 [c2]=some y2:=by
    have:=hf 2 _ rfl
    rw [show Tryz.prog.cellsOf _=1 by kernel_rfl] at this
    exact this
   have h3:DataW.trod enc Tryz.prog w 0 (fun _=>true) true n 3 [c3]=some y3:=by
    have:=hf 3 _ rfl
    rw [show Tryz.prog.cellsOf _=1 by kernel_rfl] at this
    exact this
   have h4:DataW.trod enc Tryz.prog w 0 (fun _=>true) true n 3 [c4]=some y4:=by
    have:=hf 4 _ rfl
    rw [show Tryz.prog.cellsOf _=1 by kernel_rfl] at this
    exact this
   have h5:DataW.trod enc Tryz.prog w 0 (fun _=>true) true n 9 [c5]=some y5:=by
    have:=hf 5 _ rfl
    rw [show Tryz.prog.cellsOf _=1 by kernel_rfl] at this
    exact this
   obtain ⟨d0,e0,_⟩:=opens_int _ _ _ _ h0
   obtain ⟨d1,e1,z1⟩:=opens_str _ _ _ _ h1
   obtain ⟨d2,e2,z2⟩:=opens_str _ _ _ _ h2
   obtain ⟨d3,e3,z3⟩:=opens_intR _ _ _ _ h3
   obtain ⟨d4,e4,z4⟩:=opens_intR _ _ _ _ h4
   obtain ⟨d5,e5,z5⟩:=opens_str _ _ _ _ h5
   simp only [List.cons.injEq,and_true] at e0
   subst e0
   simp only [List.cons.injEq,and_true] at e1
   subst e1
   simp only [List.cons.injEq,and_true] at e2
   subst e2
   simp only [List.cons.injEq,and_true] at e3
   subst e3
   simp only [List.cons.injEq,and_true] at e4
   subst e4
   simp only [List.cons.injEq,and_true] at e5
   subst e5
   exact ⟨⟨d0,d1,d2,d3,d4,d5⟩,rfl,⟨⟨z1,z2,z5⟩,z3,z4⟩⟩
theorem Tryz.cellsLCell:Tryz.prog.cellsOf 68=2:=by kernel_rfl
theorem opens_Cell:Opens Tryz.prog 68 zfN:=by
 intro H enc w fuel cs x h
 obtain ⟨xs,n,_,_,hl,hxl,hf⟩:=DataW.trod_struct Tryz.underlying68 h
 rw [Tryz.cellsLCell] at hl
 match cs,hl with
 | [c0,c1],_ =>
  match xs,hxl with
  | [y0,y1],_ =>
   have h0:DataW.trod enc Tryz.prog w 0 (fun _=>true) true n 9 [c0]=some y0:=by
    have:=hf 0 _ rfl
    rw [show Tryz.prog.cellsOf _=1 by kernel_rfl] at this
    exact this
   have h1:DataW.trod enc Tryz.prog w 0 (fun _=>true) true n 9 [c1]=some y1:=by
    have:=hf 1 _ rfl
    rw [show Tryz.prog.cellsOf _=1 by kernel_rfl] at this
    exact this
   obtain ⟨d0,e0,z0⟩:=opens_str _ _ _ _ h0
   obtain ⟨d1,e1,z1⟩:=opens_str _ _ _ _ h1
   simp only [List.cons.injEq,and_true] at e0
   subst e0
   simp only [List.cons.injEq,and_true] at e1
   subst e1
   exact ⟨⟨d0,d1⟩,rfl,⟨z0,z1⟩⟩
theorem opens_CellS {x:TypeId}:Opens Tryz.prog 22 (vSlice zfN x):=opens_slice Tryz.underlying22 (by kernel_rfl) (by decide) opens_Cell
end Go.Proofs.YtgcmnkkakngifaaGreatDoor
namespace Go
open Go.RowKit
def vWith {α : Type} (V:View α) (P : α->Prop):View α where
 k:=V.k
 rd w cs d:=V.rd w cs d/\P d
 own w fp cs d:=V.own w fp cs d/\P d
 len h:=V.len h.1
 one h:=V.one h.1
 grow h g:=⟨V.grow h.1 g,h.2⟩
 toRd h:=⟨V.toRd h.1,h.2⟩
 frame h g:=⟨V.frame h.1 g,h.2⟩
 lt h:=V.lt h.1
end Go
namespace Go.Proofs.YtgcmnkkakngifaaGreatDoor
open Go.ChangeShapes Go.WideShapes Go.ChangeAt Go.RowKit
theorem opens_CallRS {x:TypeId}:Opens Tryz.prog 23 (vSlice vCallR x):=opens_slice Tryz.underlying23 (by kernel_rfl) (by decide) opens_CallR
theorem Tryz.cellsLAnswer:Tryz.prog.cellsOf 111=3:=by kernel_rfl
theorem opens_Answer:Opens Tryz.prog 111 vAnswer:=by
 intro H enc w fuel cs x h
 obtain ⟨xs,n,_,_,hl,hxl,hf⟩:=DataW.trod_struct Tryz.underlying111 h
 rw [Tryz.cellsLAnswer] at hl
 match cs,hl with
 | [c0,c1,c2],_ =>
  match xs,hxl with
  | [y0,y1,y2],_ =>
   have h0:DataW.trod enc Tryz.prog w 0 (fun _=>true) true n 3 [c0]=some y0:=by
    have:=hf 0 _ rfl
    rw [show Tryz.prog.cellsOf _=1 by kernel_rfl] at this
    exact this
   have h1:DataW.trod enc Tryz.prog w 0 (fun _=>true) true n 3 [c1]=some y1:=by
    have:=hf 1 _ rfl
    rw [show Tryz.prog.cellsOf _=1 by kernel_rfl] at this
    exact this
   have h2:DataW.trod enc Tryz.prog w 0 (fun _=>true) true n 9 [c2]=some y2:=by
    have:=hf 2 _ rfl
    rw [show Tryz.prog.cellsOf _=1 by kernel_rfl] at this
    exact this
   obtain ⟨d0,e0,_⟩:=opens_int _ _ _ _ h0
   obtain ⟨d1,e1,_⟩:=opens_int _ _ _ _ h1
   obtain ⟨d2,e2,z2⟩:=opens_str _ _ _ _ h2
   simp only [List.cons.injEq,and_true] at e0
   subst e0
   simp only [List.cons.injEq,and_true] at e1
   subst e1
   simp only [List.cons.injEq,and_true] at e2
   subst e2
   exact ⟨⟨d0,d1,d2⟩,rfl,z2⟩
theorem opens_AnswerS {x:TypeId}:Opens Tryz.prog 24 (vSlice vAnswer x):=opens_slice Tryz.underlying24 (by kernel_rfl) (by decide) opens_Answer
theorem opens_StrS {x:TypeId}:Opens Tryz.prog 25 (vSlice vStr x):=opens_slice Tryz.underlying25 (by kernel_rfl) (by decide) opens_str
theorem Tryz.cellsLTouch:Tryz.prog.cellsOf 27=2:=by kernel_rfl
theorem opens_Touch:Opens Tryz.prog 27 vTouch:=by
 intro H enc w fuel cs x h
 obtain ⟨xs,n,_,_,hl,hxl,hf⟩:=DataW.trod_struct Tryz.underlying27 h
 rw [Tryz.cellsLTouch] at hl
 match cs,hl with
 | [c0,c1],_ =>
  match xs,hxl with
  | [y0,y1],_ =>
   have h0:DataW.trod enc Tryz.prog w 0 (fun _=>true) true n 25 [c0]=some y0:=by
    have:=hf 0 _ rfl
    rw [show Tryz.prog.cellsOf _=1 by kernel_rfl] at this
    exact this
   have h1:DataW.trod enc Tryz.prog w 0 (fun _=>true) true n 25 [c1]=some y1:=by
    have:=hf 1 _ rfl
    rw [show Tryz.prog.cellsOf _=1 by kernel_rfl] at this
    exact this
   obtain ⟨d0,e0⟩:=opens_StrS _ _ _ _ h0
   obtain ⟨d1,e1⟩:=opens_StrS _ _ _ _ h1
   exact ⟨⟨d0,d1⟩,_,_,rfl,e0,e1⟩
theorem opens_IntS {x:TypeId}:Opens Tryz.prog 28 (vSlice vInt x):=opens_slice Tryz.underlying28 (by kernel_rfl) (by decide) opens_int
theorem Tryz.cellsLTx:Tryz.prog.cellsOf 30=10:=by kernel_rfl
theorem opens_TxR:Opens Tryz.prog 30 (vWith vTx TxD.rng):=by
 intro H enc w fuel cs x h
 obtain ⟨xs,n,_,_,hl,hxl,hf⟩:=DataW.trod_struct Tryz.underlying30 h
 rw [Tryz.cellsLTx] at hl
 match cs,hl with
 | [c0,c1,c2,c3,c4,c5,c6,c7,c8,c9],_ =>
  match xs,hxl with
  | [y0,y1,y2,y3,y4,y5,y6,y7,y8],_ =>
   have h0:DataW.trod enc Tryz.prog w 0 (fun _=>true) true n 3 [c0]=some y0:=by
    have:=hf 0 _ rfl
    rw [show Tryz.prog.cellsOf _=1 by kernel_rfl] at this
    exact this
   have h1:DataW.trod enc Tryz.prog w 0 (fun _=>true) true n 3 [c1]=some y1:=by
    have:=hf 1 _ rfl
    rw [show Tryz.prog.cellsOf _=1 by kernel_rfl] at this
    exact this
   have h2:DataW.trod enc Tryz.prog w 0 (fun _=>true) true n 3 [c2]=some y2:=by
    have:=hf 2 _ rfl
    rw [show Tryz.prog.cellsOf _=1 by kernel_rfl] at this
    exact this
   have h3:DataW.trod enc Tryz.prog w 0 (fun _=>true) true n 3 [c3]=some y3:=by
    have:=hf 3 _ rfl
    rw [show Tryz.prog.cellsOf _=1 by kernel_rfl] at this
    exact this
   have h4:DataW.trod enc Tryz.prog w 0 (fun _=>true) true n 23 [c4]=some y4:=by
    have:=hf 4 _ rfl
    rw [show Tryz.prog.cellsOf _=1 by kernel_rfl] at this
    exact this
   have h5:DataW.trod enc Tryz.prog w 0 (fun _=>true) true n 24 [c5]=some y5:=by
    have:=hf 5 _ rfl
    rw [show Tryz.prog.cellsOf _=1 by kernel_rfl] at this
    exact this
   have h6:DataW.trod enc Tryz.prog w 0 (fun _=>true) true n 27 [c6,c7]=some y6:=by
    have:=hf 6 _ rfl
    rw [show Tryz.prog.cellsOf _=2 by kernel_rfl] at this
    exact this
   have h7:DataW.trod enc Tryz.prog w 0 (fun _=>true) true n 28 [c8]=some y7:=by
    have:=hf 7 _ rfl
    rw [show Tryz.prog.cellsOf _=1 by kernel_rfl] at this
    exact this
   have h8:DataW.trod enc Tryz.prog w 0 (fun _=>true) true n 3 [c9]=some y8:=by
    have:=hf 8 _ rfl
    rw [show Tryz.prog.cellsOf _=1 by kernel_rfl] at this
    exact this
   obtain ⟨d0,e0,_⟩:=opens_int _ _ _ _ h0
   obtain ⟨d1,e1,_⟩:=opens_int _ _ _ _ h1
   obtain ⟨d2,e2,z2⟩:=opens_intR _ _ _ _ h2
   obtain ⟨d3,e3,_⟩:=opens_int _ _ _ _ h3
   obtain ⟨d4,e4⟩:=opens_CallRS _ _ _ _ h4
   obtain ⟨d5,e5⟩:=opens_AnswerS _ _ _ _ h5
   obtain ⟨d6,e6⟩:=opens_Touch _ _ _ _ h6
   obtain ⟨d7,e7⟩:=opens_IntS _ _ _ _ h7
   obtain ⟨d8,e8,_⟩:=opens_int _ _ _ _ h8
   simp only [List.cons.injEq,and_true] at e0
   subst e0
   simp only [List.cons.injEq,and_true] at e1
   subst e1
   simp only [List.cons.injEq,and_true] at e2
   subst e2
   simp only [List.cons.injEq,and_true] at e3
   subst e3
   simp only [List.cons.injEq,and_true] at e8
   subst e8
   obtain ⟨s6_0,s6_1,r6,t6_0,t6_1⟩:=e6
   simp only [List.cons.injEq,and_true] at r6
   obtain ⟨rfl,rfl⟩:=r6
   exact ⟨⟨d0,d1,d2,d3,d4,d5,d6,d7,d8⟩,⟨_,_,_,_,_,rfl,slice_row e4 (fun d h=>h.1),e5,t6_0,t6_1,e7⟩,z2,fun c hc=>(slice_ok e4 c hc).2⟩
theorem below_dr (w:World) (z:Array Obj) (d0 d1:Nat):Below (w.ext ⟨z,d0⟩).heap.size (w.ext ⟨z,d0⟩) (w.ext ⟨z,d1⟩):=by
 obtain ⟨X,hX⟩:=Sx.same w z d0 d1
 rw [hX]
 exact Below.ofExt (Below.refl _ _) X
theorem steps_fine {w:World} {ct:List Value} {d:TxD} (h:vTx.rd w ct d) (hr:d.rng):∀ s ∈ stepsOf d,s.fine:=by
 obtain ⟨s0,s1,s2,s3,s4,rfl,h0,_⟩:=h
 have hok:=slice_ok h0
 intro s hs
 unfold stepsOf at hs
 obtain ⟨c,hc,rfl⟩:=List.mem_map.1 hs
 exact ⟨hok c hc,hr.1,(hr.2 c hc).1,(hr.2 c hc).2⟩
theorem view_whole {zs:List CellD} {d:TxD} (hf:∀ s ∈ stepsOf d,s.fine) (hz:wtS CellD.wt zs + d.wt<=1048576) :
  zfL (stepsOf d) ⟨zs,[],[]⟩/\(K.runAll (stepsOf d)).fits ⟨zs,[],[]⟩/\(∀ a ∈ ((K.runAll (stepsOf d)).run ⟨zs,[],[]⟩).1,a.ok)/\((K.runAll (stepsOf d)).run ⟨zs,[],[]⟩).1.length=d.calls.length/\(∀ c ∈ viewOf zs d,c.ok)/\(viewOf zs d).length<=549755813888:=by
 have hl:=Tx_lens (d:=d) (Nat.le_refl _)
 have h:=run_whole (cs:=zs) (l:=stepsOf d) (by rw [stepsOf_len];unfold wtS at hz;omega) (fun c hc=>by
  have t1:=wt_mem CellD.wt zs c hc
  have t2:CellD.wt c=c.key.size + c.val.size:=rfl
  unfold wtS at hz
  omega) (fun s hs=>⟨(hf s hs).2.1,(hf s hs).2.2.1⟩)
 rw [stepsOf_len] at h
 exact h
end Go.Proofs.YtgcmnkkakngifaaGreatDoor
