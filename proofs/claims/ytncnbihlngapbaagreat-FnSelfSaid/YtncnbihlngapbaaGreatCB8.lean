/- Texts of this claim, merged: the walks and what they stand on. Each condition stands in its theorem. -/
import Derived.Test.YtncnbihlngapbaaGreatCB5
set_option linter.unusedVariables false
set_option linter.unusedSimpArgs false
set_option maxRecDepth 100000
set_option maxHeartbeats 8000000
namespace Go.Proofs.YtncnbihlngapbaaGreat
open Go.ChangeShapes Go.WideShapes Go.ChangeAt Go.RowKit
theorem take_map {α β : Type} (f : α->β) (xs:List α) (n:Nat) (hn:n<xs.length):(xs.take (n+1)).map f=(xs.take n).map f ++ [f xs[n]]:=by
 rw [List.take_succ_eq_append_getElem hn,List.map_append]
 rfl
theorem zhM {α : Type} {R:RowOf α} {e:TypeId} {w:World} {B:Nat} {v:Value} {xs:List α} {p:Nat} {o r:Obj} {X:Ext} (hz:p+1<w.heap.size) (h:OwnL R e (((w.ext X).setB (p+1) r).setB p o) B v xs):OwnL R e (((w.setB (p+1) r).setB p o).ext X) B v xs:=by
 rwa [zaC _ _ _ _ hz,zaC _ _ _ _ (by rw [zd];omega)] at h
theorem zfn:SCL 91 (fun x=>#[x]) K.names:=by
 intro w v m hm hf
 obtain ⟨a0,c0,a1,c1,a2,c2,rfl,H0,H1,H2⟩:=hm.form
 have H0:Hid _:=H0
 have H1:Hid _:=H1
 have H2:Hid _:=H2
 obtain ⟨res,mres,hr⟩ : ∃ res mres,K.names.run m=(res,mres):=⟨_,_,rfl⟩
 have HL:Hid (Lft K.names m (res,mres)):=⟨hf,hr⟩
 rw [hr]
 clear hr hf hm
 unfold K.names at HL
 go_enter Tryz.func91,Tryz.ntmps91
 (try simp only [])
 ((repeat (first|((first|with_reducible refine zb8 (fun W0=>Below w.heap.size w W0/\W0.heap[w.heap.size]?=some (.cells #[.slice a0 m.cells.length c0,.slice a1 m.rd.length c1,.slice a2 m.wr.length c2] 76)/\W0.heap[w.heap.size+1]?=some (.cells #[.slice none 0 0,.slice none 0 0,.slice none 0 0] 76)) ?_ ?_|with_reducible refine zfu (fun W0=>Below w.heap.size w W0/\W0.heap[w.heap.size]?=some (.cells #[.slice a0 m.cells.length c0,.slice a1 m.rd.length c1,.slice a2 m.wr.length c2] 76)/\W0.heap[w.heap.size+1]?=some (.cells #[.slice none 0 0,.slice none 0 0,.slice none 0 0] 76)) ?_ ?_);(· with_reducible exact z8 w (.cells #[.slice a0 m.cells.length c0,.slice a1 m.rd.length c1,.slice a2 m.wr.length c2] 76) (.cells #[.slice none 0 0,.slice none 0 0,.slice none 0 0] 76) (by repeat (first|with_reducible exact Below.refl _ _|with_reducible apply Below.ofExt|with_reducible apply Below.ofAlloc|with_reducible apply Below.drew|with_reducible apply Below.ofDrewN|with_reducible assumption|(with_reducible refine Below.setCell ?_ (by first|exact Nat.le_refl _|(simp [go_sem];done)|(simp [go_sem];omega)) _)))))|go_skip|go_guarded|go_step|go_upon|go_back));(rintro w1 ⟨B,P,R⟩;have Z:=zb R;have e1:=zl P R;rw [<- e1];have HW0:=Hd (fun o r=>H0.out.below (zV B o r));have HW1:=Hd (fun o r=>H1.out.below (zV B o r));have HW2:=Hd (fun o r=>H2.out.below (zV B o r));have Zp:=Nat.lt_of_succ_lt Z;clear e1 P R H0 H1 H2;((repeat' ((rcases HL.out.ite with ⟨hg,HL2⟩|⟨hg,HL2⟩<;>(clear HL;have HL:=Hd HL2;clear HL2;try first|exact absurd hg (by decide)|exact absurd rfl hg|(exfalso;omega)|(have hgz : _ ∨ _:=hg;clear hg;rcases hgz with hg|hg<;>(try have hgb:=bne_iff_ne.2 hg))|(have hgz:=not_or.1 hg;clear hg;obtain ⟨hg,hgo⟩:=hgz;try replace hgo:=Decidable.not_not.1 hgo))))))))
 ((try simp only []);repeat (first|go_skip|go_guarded|go_step|go_upon|go_back))
 (go_at_call 102;refine (SCL.use (zby _) (KS _) (fun m h=>zcI _ m h) (by first|exact HL.out|exact HL.out.last) (⟨_,_,_,rfl,HW0.out _ _,HW1.out _ _,HW2.out _ _⟩ : MRd _ _ _)).mono ?_;rintro e w2 ⟨v2,al,nl,ks,m2,rfl,⟨hks,hrl⟩,hm,hb,HL2⟩;have hrl0:=hrl;obtain ⟨b0,d0,b1,d1,b2,d2,rfl,q0,q1,q2⟩:=hm.form;obtain ⟨B',P,R,Z',Zx⟩:=zF B Z hb;clear Zx;have HRL:=Hd (fun o r=>zf (ze _) hrl P R o r);clear hm hb hrl hrl0;(clear HW0 HW1 HW2 B Z;have e1:=zl P R;rw [<- e1];clear e1;have HW0:=Hd (fun o r=>zf (zh _) q0 P R o r);have HW1:=Hd (fun o r=>zf (ze _) q1 P R o r);have HW2:=Hd (fun o r=>zf (ze _) q2 P R o r);have B:=B';have Z:=Z';(try clear Zp);have Zp:=Nat.lt_of_succ_lt Z;clear B' Z' P R q0 q1 q2;(try simp only []));(try dsimp only at HL2);clear HL;have HL:=Hd HL2;clear HL2)
 ((try simp only []);repeat (first|go_skip|go_guarded|go_step|go_upon|go_back))
 have hks3:∀ k ∈ ks,2<=k.size:=hks.2.2
 refine zb8 (fun W0=>∃ wb,W0=wb.alloc (.cells #[] 9)/\MBx w wb m2/\RdL zH wb (.slice al ks.length nl) ks/\wb.heap.size=w2.heap.size/\wb.heap[w.heap.size]?=some (.cells #[.slice b0 m2.cells.length d0,.slice b1 m2.rd.length d1,.slice b2 m2.wr.length d2] 76)/\wb.heap[w.heap.size+1]?=some (.cells #[.slice none 0 0,.slice none 0 0,.slice none 0 0] 76)/\Below w.heap.size w wb/\RdL zE wb (.slice b0 m2.cells.length d0) m2.cells/\RdL zH wb (.slice b1 m2.rd.length d1) m2.rd/\RdL zH wb (.slice b2 m2.wr.length d2) m2.wr) ⟨_,rfl,(⟨_,_,_,_,_,_,zV B _ _,(zZ Z _ _).1,(zZ Z _ _).2,HW0.out _ _,HW1.out _ _,HW2.out _ _⟩ : MBx _ _ _),HRL.out _ _,by rw [zd,zd],(zZ Z _ _).1,(zZ Z _ _).2,zV B _ _,HW0.out _ _,HW1.out _ _,HW2.out _ _⟩ ?_
 rintro w3 ⟨w,rfl,hbx,hrl,hsz,P,R,B',q0,q1,q2⟩
 have hres:=HL.out.end
 rw [<- hsz]
 clear hsz HL HW0 HW1 HW2 HRL Z Zp B hbx
 have Z:=zb R
 have Zp:=zb P
 have Q0:=Hd q0;have Q1:=Hd q1;have Q2:=Hd q2;have QB:=Hd B';have QP:=Hd P;have QR:=Hd R
 obtain ⟨ao,cap,e0,hc1,hc2,hnil,hne⟩:=hrl.shapeS
 cases e0
 have HX:=Hd hne
 clear q0 q1 q2 B' P R hne hnil hrl
 go_loopw [5,6] (fun o k wr=>∃ (n:Nat) (xs:List ByteArray),k=.int .i64 n/\n<=ks.length/\Below w.heap.size w wr/\OwnL zH 9 wr w.heap.size o xs/\xs=(ks.take n).map (fun k=>k.extract 2 k.size)/\xs.length<=n) (fun _ k _=>ks.length - (intOf k).toNat)
 case atStart=>exact ⟨0,[],rfl,Nat.zero_le _,(by repeat (first|with_reducible exact Below.refl _ _|with_reducible apply Below.ofExt|with_reducible apply Below.ofAlloc|with_reducible apply Below.drew|with_reducible apply Below.ofDrewN|with_reducible assumption|(with_reducible refine Below.setCell ?_ (by first|exact Nat.le_refl _|(simp [go_sem];done)|(simp [go_sem];omega)) _))),OwnL.empty zH _ w,rfl,Nat.le_refl _⟩
 case round =>
  obtain ⟨n,xs,rfl,hn,hbel,ho,hxs,hxl⟩:=hrel
  obtain ⟨X,rfl⟩:=hbel.ext
  obtain ⟨oa,oc,rfl⟩:=ho.rd.form
  have HO:=Hd ho
  clear ho
  have hkl:=hks.1
  by_cases hlt:(n:Int)<ks.length
  case pos =>
   have hk:n<ks.length:=by omega
   obtain ⟨b,off,rfl,hbl,hcell⟩:=HX.out (by intro e;simp [e] at hk)
   have hc:=hcell n hk
   have hst:=take_map (fun k:ByteArray=>k.extract 2 k.size) ks n hk
   have hck:=hks3 _ (List.getElem_mem hk)
   rw [<- hxs] at hst
   have HST:=Hd hst
   clear hst hxs hcell
   generalize ks[n]=key at hc hck HST
   have hbl2:b<w.heap.size+X.bs.size:=by omega
   go_wp2_with (at_builtin;refine zP ?_)
   have hsrc:=RdL.lit zH (w.ext X) [key.extract 2 key.size] 1 rfl (by decide) #[.string (key.extract 2 key.size)] rfl 9
   rw [zw] at hsrc
   refine zR rfl _ _ _ rfl zah (HO.out.alloc _) rfl (hsrc) rfl (by (try simp only [List.nil_append,List.length_append,List.length_singleton,List.length_nil]);(try unfold maxLen);omega) (by (try simp only [List.nil_append,List.length_append,List.length_singleton,List.length_nil]);(try unfold maxLen);omega) (Below.size ((by repeat (first|with_reducible exact Below.refl _ _|with_reducible apply Below.ofExt|with_reducible apply Below.ofAlloc|with_reducible apply Below.drew|with_reducible apply Below.ofDrewN|with_reducible assumption|(with_reducible refine Below.setCell ?_ (by first|exact Nat.le_refl _|(simp [go_sem];done)|(simp [go_sem];omega)) _))))) ?_
   intro v2 w2 hown2 hg2 hz2
   have hb2:Below w.heap.size w w2:=Below.appL ((by repeat (first|with_reducible exact Below.refl _ _|with_reducible apply Below.ofExt|with_reducible apply Below.ofAlloc|with_reducible apply Below.drew|with_reducible apply Below.ofDrewN|with_reducible assumption|(with_reducible refine Below.setCell ?_ (by first|exact Nat.le_refl _|(simp [go_sem];done)|(simp [go_sem];omega)) _)))) hg2 (HO.out.alloc _)
   clear hg2
   have hs2:=hb2.size
   obtain ⟨Y,rfl⟩:=hb2.ext
   have HO2:=Hd hown2
   clear hown2 hb2
   go_wp2
   go_roundw
   case rel=>exact ⟨n+1,_,by go_num,by omega,(by repeat (first|with_reducible exact Below.refl _ _|with_reducible apply Below.ofExt|with_reducible apply Below.ofAlloc|with_reducible apply Below.drew|with_reducible apply Below.ofDrewN|with_reducible assumption|(with_reducible refine Below.setCell ?_ (by first|exact Nat.le_refl _|(simp [go_sem];done)|(simp [go_sem];omega)) _))),HO2.out,HST.out.symm,by simp;omega⟩
   case measure=>simp [intOf];omega
  case neg =>
   have e:n=ks.length:=by omega
   have HF:Hid (ks.map (fun k=>k.extract 2 k.size)=xs):=by show _ = _;rw [hxs,e,List.take_length]
   clear hxs
   have hw:∀ (p:Nat),p<w.heap.size->p<(w.ext X).heap.size:=fun p hp=>by rw [zw];omega
   have P':=(World.ext_get _ X Zp).trans QP.out
   have R':=(World.ext_get _ X Z).trans QR.out
   have e1:=zl P' R'
   rw [<- e1]
   ((try simp only []);repeat (first|go_skip|go_guarded|go_step|go_upon|go_back))
   refine bodyPost_ret (by simp [results,Tryz.results91,go_sem,Z];rfl) rfl ?_
   obtain ⟨rfl,rfl⟩:=hres
   have hown:=fun o r=>zaX HO.out Z o r
   have hown2:=fun o r=>zhM Z (hown o r)
   rw [HF.out]
   exact ⟨_,_,rfl,(hown2 _ _).rd,⟨_,_,_,rfl,(zf (zh _) Q0.out QP.out QR.out _ _).ext _,(zf (ze _) Q1.out QP.out QR.out _ _).ext _,(zf (ze _) Q2.out QP.out QR.out _ _).ext _⟩,(zV QB.out _ _).ofExt _⟩
def zca (a:AnswerD):Value:=.agg #[.int .i64 a.code,.int .i64 a.n,.string a.text]
def NS (ks:List ByteArray):Prop:=ks.length<=549755813888/\∀ k ∈ ks,k.size<=1048576
theorem names_ns (m:MachD) (h:K.names.fits m):NS (K.names.run m).1:=by
 have h1:=zcI K.nN m ((Mp.fits_bind (K.under K.nN) _ m).1 h).1
 show NS (((K.under K.nN).run m).1.map fun k=>k.extract 2 k.size)
 refine ⟨by rw [List.length_map];exact h1.1,fun k hk=>?_⟩
 obtain ⟨x,hx,rfl⟩:=List.mem_map.1 hk
 have:=h1.2.1 x hx
 rw [ByteArray.size_extract]
 omega
theorem list_lt {w:World} {v:Value} {ks:List ByteArray} (h:RdL zH w v ks) {k:Nat} (hk:v.ownBlock=some k) (hne:ks ≠ []):k<w.heap.size:=by
 obtain ⟨ao,cap,rfl,_,_,_,h4⟩:=h.shapeS
 obtain ⟨b,off,rfl,hb,_⟩:=h4 hne
 have e:b=k:=by simpa [Value.ownBlock] using hk
 omega
theorem zbg {w:World} {v:Value} {xs:List ByteArray} (hn:∀ s ∈ xs,s.size ≠ 0) (h:RdL zH w v xs) {p:Nat} {x y:Int} {t:TypeId} (hp:w.heap[p]?=some (.cells #[.int .i64 x,.int .i64 y,.string ⟨#[]⟩] t (0,0))) (o:Obj):RdL zH (w.setB p o) v xs:=by
 by_cases hq:v.ownBlock=some p
 ·rcases h with h|⟨b,off,cap,hv,h1,h2,h3⟩
  ·exact .inl h
  ·refine .inr ⟨b,off,cap,hv,h1,h2,fun j u hj=>?_⟩
   exfalso
   subst hv
   have e:b=p:=by simpa [Value.ownBlock] using hq
   subst e
   have hc:=h3 j u hj
   rw [zg hp] at hc
   obtain ⟨s,hs,hu⟩:=List.mem_flatMap.1 (List.mem_of_getElem? hj)
   simp [zH] at hu
   subst hu
   have hm:=Array.mem_of_getElem? hc
   simp at hm
   exact hn s hs (by rw [hm];rfl)
 ·exact h.setB hq o
theorem zcM {w:World} {v:Value} {xs:List CellD} (h:RdL zE w v xs) {p:Nat} {x y:Int} {s:ByteArray} {t:TypeId} (hp:w.heap[p]?=some (.cells #[.int .i64 x,.int .i64 y,.string s] t (0,0))) (o:Obj):RdL zE (w.setB p o) v xs:=by
 by_cases hq:v.ownBlock=some p
 ·obtain ⟨ao,cap,e0,e1,e2,e3,h4⟩:=h.shape
  by_cases hx:xs = []
  ·subst hx
   rcases h with h|⟨b,off,cap,hv,h1,h2,h3⟩
   ·exact .inl h
   ·exact .inr ⟨b,off,cap,hv,h1,h2,fun j u hj=>by simp at hj⟩
  ·exfalso
   obtain ⟨b,off,rfl,hb,hc⟩:=h4 hx
   subst e0
   have e:b=p:=by simpa [Value.ownBlock] using hq
   subst e
   have hl : 0<xs.length:=by
    rcases xs with _|⟨a,l⟩
    ·exact absurd rfl hx
    ·exact Nat.succ_pos _
   have k0:=hc 0 hl 0 (.string xs[0].key) rfl
   have k1:=hc 0 hl 1 (.string xs[0].val) rfl
   rw [zg hp] at k0 k1
   have hr:off+0*zE.k+0=off:=by omega
   have hr1:off+0*zE.k+1=off+1:=by omega
   simp only [hr] at k0
   simp only [hr1] at k1
   have h3:off<3:=(Array.getElem?_eq_some_iff.1 k0).1
   have h4:off+1<3:=(Array.getElem?_eq_some_iff.1 k1).1
   have:off=0 ∨ off=1:=by omega
   rcases this with rfl|rfl<;>simp at k0
 ·exact h.setB hq o
theorem zid {α : Type} {R:RowOf α} (hk : 0<R.k) {w W:World} {v:Value} {xs:List α} (h0:RdL R w v xs) (h:RdL R W v xs) (o:Obj):RdL R (W.setB w.heap.size o) v xs:=by
 by_cases hx:xs = []
 ·subst hx
  rcases h with h|⟨b,off,cap,hv,h1,h2,h3⟩
  ·exact .inl h
  ·exact .inr ⟨b,off,cap,hv,h1,h2,fun j u hj=>by simp at hj⟩
 ·refine h.setB (fun e=>?_) o
  obtain ⟨ao,cap,rfl,_,_,_,h4⟩:=h0.shape
  obtain ⟨b,off,rfl,hb,_⟩:=h4 hx
  have e2:b=w.heap.size:=by simpa [Value.ownBlock] using e
  have:=hb hk
  omega
theorem four_S {wb wr:World} {p:Nat} {v:Value} {xs:List ByteArray} {a0 a1 a2 a3 a4 a5:Option Addr} {n0 n1 n2 c0 c1 c2 n3 n4 n5 c3 c4 c5:Nat} {t t' t2:TypeId} {x y:Int} (hn:∀ s ∈ xs,s.size ≠ 0) (h0:RdL zH wb v xs) (h:RdL zH wr v xs)
  (P:wr.heap[p]?=some (.cells #[.slice a0 n0 c0,.slice a1 n1 c1,.slice a2 n2 c2] t (0,0))) (R:wr.heap[p+1]?=some (.cells #[.slice a3 n3 c3,.slice a4 n4 c4,.slice a5 n5 c5] t' (0,0))) (A:wr.heap[p+2]?=some (.cells #[.int .i64 x,.int .i64 y,.string ⟨#[]⟩] t2 (0,0))) (o r a q:Obj) :
  RdL zH ((((wr.setB p o).setB (p+1) r).setB (p+1+1) a).setB wb.heap.size q) v xs:=by
 have h1:=zba (ze _) h P o
 have h2:=zba (ze _) h1 ((World.setB_get _ _ _ _ (by omega)).trans R) r
 have h3:=zbg hn h2 ((World.setB_get _ _ _ _ (by omega)).trans ((World.setB_get _ _ _ _ (by omega)).trans A)) a
 exact zid (by decide) h0 h3 q
theorem four_C {wb wr:World} {p:Nat} {v:Value} {xs:List CellD} {a0 a1 a2 a3 a4 a5:Option Addr} {n0 n1 n2 c0 c1 c2 n3 n4 n5 c3 c4 c5:Nat} {t t' t2:TypeId} {x y:Int} {s:ByteArray} (h0:RdL zE wb v xs) (h:RdL zE wr v xs)
  (P:wr.heap[p]?=some (.cells #[.slice a0 n0 c0,.slice a1 n1 c1,.slice a2 n2 c2] t (0,0))) (R:wr.heap[p+1]?=some (.cells #[.slice a3 n3 c3,.slice a4 n4 c4,.slice a5 n5 c5] t' (0,0))) (A:wr.heap[p+2]?=some (.cells #[.int .i64 x,.int .i64 y,.string s] t2 (0,0))) (o r a q:Obj) :
  RdL zE ((((wr.setB p o).setB (p+1) r).setB (p+1+1) a).setB wb.heap.size q) v xs:=by
 have h1:=zba (zh _) h P o
 have h2:=zba (zh _) h1 ((World.setB_get _ _ _ _ (by omega)).trans R) r
 have h3:=zcM h2 ((World.setB_get _ _ _ _ (by omega)).trans ((World.setB_get _ _ _ _ (by omega)).trans A)) a
 exact zid (by decide) h0 h3 q
theorem four_B {w wb wr:World} (B:Below w.heap.size w wr) (h:w.heap.size<=wb.heap.size) (o r a q:Obj):Below w.heap.size w ((((wr.setB w.heap.size o).setB (w.heap.size+1) r).setB (w.heap.size+1+1) a).setB wb.heap.size q) :=
 zp (zp (zp (zp B (Nat.le_refl _) o) (by omega) r) (by omega) a) h q
theorem zeF (l:List ByteArray) (x:ByteArray):K.wordsOf (l ++ [x])=K.wordsOf l++x++K.space:=by
 unfold K.wordsOf
 rw [List.foldl_append]
 simp only [List.foldl_cons,List.foldl_nil,ByteArray.append_assoc]
theorem zjD (W:World) (a b c:Obj) (n:Nat) (hn:n=W.heap.size):(((W.alloc a).alloc b).alloc c).heap[n]?=some a/\(((W.alloc a).alloc b).alloc c).heap[n+1]?=some b/\(((W.alloc a).alloc b).alloc c).heap[n+2]?=some c:=by
 subst hn
 show (((W.heap.push a).push b).push c)[W.heap.size]?=some a/\(((W.heap.push a).push b).push c)[W.heap.size+1]?=some b/\(((W.heap.push a).push b).push c)[W.heap.size+2]?=some c
 refine ⟨?_,?_,?_⟩<;>(simp only [Array.getElem?_push,Array.size_push];repeat (first|rfl|rw [if_pos trivial]|rw [if_pos (by omega)]|rw [if_neg (by omega)]))
theorem zjS (w:World) (a b c:Obj) (h:Below w.heap.size w (((w.alloc a).alloc b).alloc c)):Below w.heap.size w (((w.alloc a).alloc b).alloc c)/\(((w.alloc a).alloc b).alloc c).heap[w.heap.size]?=some a/\(((w.alloc a).alloc b).alloc c).heap[w.heap.size+1]?=some b/\(((w.alloc a).alloc b).alloc c).heap[w.heap.size+2]?=some c:=⟨h,zjD w a b c w.heap.size rfl⟩
theorem zia {W:World} {p:Nat} {x:Obj} (h:W.heap[p+2]?=some x) (o r:Obj):((W.setB (p+1) r).setB p o).heap[p+2]?=some x:=by
 rw [World.setB_get _ _ _ _ (by omega),World.setB_get _ _ _ _ (by omega)]
 exact h
theorem zgp:SC 65 (fun x=>#[x]) K.doNames (fun v' a=>.tuple #[v',zca a]):=by
 refine zdR (fun w m a0 c0 a1 c1 a2 c2 res mres H0 H1 H2 HL=>?_)
 unfold K.doNames at HL
 go_enter Tryz.func65,Tryz.ntmps65
 (try simp only [])
 ((repeat (first|((first|with_reducible refine zb8 (fun W0=>Below w.heap.size w W0/\W0.heap[w.heap.size]?=some (.cells #[.slice a0 m.cells.length c0,.slice a1 m.rd.length c1,.slice a2 m.wr.length c2] 76)/\W0.heap[w.heap.size+1]?=some (.cells #[.slice none 0 0,.slice none 0 0,.slice none 0 0] 76)/\W0.heap[w.heap.size+2]?=some (.cells #[.int .i64 0,.int .i64 0,.string ⟨#[]⟩] 59)) ?_ ?_|with_reducible refine zfu (fun W0=>Below w.heap.size w W0/\W0.heap[w.heap.size]?=some (.cells #[.slice a0 m.cells.length c0,.slice a1 m.rd.length c1,.slice a2 m.wr.length c2] 76)/\W0.heap[w.heap.size+1]?=some (.cells #[.slice none 0 0,.slice none 0 0,.slice none 0 0] 76)/\W0.heap[w.heap.size+2]?=some (.cells #[.int .i64 0,.int .i64 0,.string ⟨#[]⟩] 59)) ?_ ?_);(· with_reducible exact zjS w (.cells #[.slice a0 m.cells.length c0,.slice a1 m.rd.length c1,.slice a2 m.wr.length c2] 76) (.cells #[.slice none 0 0,.slice none 0 0,.slice none 0 0] 76) (.cells #[.int .i64 0,.int .i64 0,.string ⟨#[]⟩] 59) (by repeat (first|with_reducible exact Below.refl _ _|with_reducible apply Below.ofExt|with_reducible apply Below.ofAlloc|with_reducible apply Below.drew|with_reducible apply Below.ofDrewN|with_reducible assumption|(with_reducible refine Below.setCell ?_ (by first|exact Nat.le_refl _|(simp [go_sem];done)|(simp [go_sem];omega)) _)))))|go_skip|go_guarded|go_step|go_upon|go_back));(rintro w1 ⟨B,P,R,A⟩;have Z3:=zb A;have Z:=zb R;have e1:=zl P R;rw [<- e1];have HW0:=Hd (fun o r=>H0.out.below (zV B o r));have HW1:=Hd (fun o r=>H1.out.below (zV B o r));have HW2:=Hd (fun o r=>H2.out.below (zV B o r));have HA:=Hd (fun o r=>zia A o r);have Zp:=Nat.lt_of_succ_lt Z;clear e1 P R A H0 H1 H2;((repeat' ((rcases HL.out.ite with ⟨hg,HL2⟩|⟨hg,HL2⟩<;>(clear HL;have HL:=Hd HL2;clear HL2;try first|exact absurd hg (by decide)|exact absurd rfl hg|(exfalso;omega)|(have hgz : _ ∨ _:=hg;clear hg;rcases hgz with hg|hg<;>(try have hgb:=bne_iff_ne.2 hg))|(have hgz:=not_or.1 hg;clear hg;obtain ⟨hg,hgo⟩:=hgz;try replace hgo:=Decidable.not_not.1 hgo))))))))
 ((try simp only []);repeat (first|go_skip|go_guarded|go_step|go_upon|go_back))
 (go_at_call 91;refine (SCL.use zfn NS (fun m h=>names_ns m h) HL.out (⟨_,_,_,rfl,HW0.out _ _,HW1.out _ _,HW2.out _ _⟩ : MRd _ _ _)).mono ?_)
 rintro e w2 ⟨v2,al,nl,ks,m2,rfl,⟨hks,hrl⟩,hm,hb,HL2⟩
 obtain ⟨b0,d0,b1,d1,b2,d2,rfl,q0,q1,q2⟩:=hm.form
 obtain ⟨B',P,R,Z',Zx⟩:=zF B Z hb
 have A:=(Grew.below hb _ (zb (HA.out _ _))).trans (HA.out _ _)
 have HRL:=Hd (fun o r=>zf (ze _) hrl P R o r)
 clear Zx hm hb hrl HA Z3
 have HA:=Hd (fun o r=>zia A o r)
 have Z3:=zb A
 clear A
 (clear HW0 HW1 HW2 B Z;have e1:=zl P R;rw [<- e1];clear e1;have HW0:=Hd (fun o r=>zf (zh _) q0 P R o r);have HW1:=Hd (fun o r=>zf (ze _) q1 P R o r);have HW2:=Hd (fun o r=>zf (ze _) q2 P R o r);have B:=B';have Z:=Z';(try clear Zp);have Zp:=Nat.lt_of_succ_lt Z;clear B' Z' P R q0 q1 q2;(try simp only []))
 (try dsimp only at HL2);clear HL;have HL:=Hd HL2;clear HL2
 ((try simp only []);repeat (first|go_skip|go_guarded|go_step|go_upon|go_back))
 have hkl:=hks.1
 refine zb8 (fun W0=>∃ wb,Below wb.heap.size wb W0/\W0.heap[w2.heap.size]?=some (.cells #[.int .i64 0,.int .i64 0,.string ⟨#[]⟩] 59)/\wb.heap.size=w2.heap.size/\wb.heap[w.heap.size]?=some (.cells #[.slice b0 m2.cells.length d0,.slice b1 m2.rd.length d1,.slice b2 m2.wr.length d2] 76)/\wb.heap[w.heap.size+1]?=some (.cells #[.slice none 0 0,.slice none 0 0,.slice none 0 0] 76)/\wb.heap[w.heap.size+2]?=some (.cells #[.int .i64 0,.int .i64 0,.string ⟨#[]⟩] 59)/\Below w.heap.size w wb/\RdL zE wb (.slice b0 m2.cells.length d0) m2.cells/\RdL zH wb (.slice b1 m2.rd.length d1) m2.rd/\RdL zH wb (.slice b2 m2.wr.length d2) m2.wr/\RdL zH wb (.slice al ks.length nl) ks) ⟨_,(Below.refl _ _).ofAlloc _,?_,by rw [zd,zd],(zZ Z _ _).1,(zZ Z _ _).2,HA.out _ _,zV B _ _,HW0.out _ _,HW1.out _ _,HW2.out _ _,HRL.out _ _⟩ ?_
 ·have h:=heap_alloc_new ((w2.setB (w.heap.size+1) (.cells #[.slice none 0 0,.slice none 0 0,.slice none 0 0] 76)).setB w.heap.size (.cells #[.slice b0 m2.cells.length d0,.slice b1 m2.rd.length d1,.slice b2 m2.wr.length d2] 76)) (.cells #[.int .i64 0,.int .i64 0,.string ⟨#[]⟩] 59)
  rw [zd,zd] at h
  exact h
 rintro w3 ⟨wb,hb,ha,hsz,P,R,A,B',q0,q1,q2,qk⟩
 have hsm:Mp.Small m2:=HL.out.1
 have HSR:=Hd hsm.rn
 have HSW:=Hd hsm.wn
 clear hsm
 have hres:=HL.out.end
 clear HL HW0 HW1 HW2 HRL HA Z Zp Z3 B
 rw [<- hsz] at ha ⊢
 clear hsz
 have QQ:=Hd (And.intro P (And.intro R (And.intro A (And.intro B' (And.intro q0 (And.intro q1 q2))))))
 have HQK:=Hd qk
 have Z3:=zb A
 clear P R A B' q0 q1 q2 qk
 go_loopw [6] (fun k wr=>∃ (n:Nat) (t:ByteArray),k=.int .i64 n/\n<=ks.length/\Below wb.heap.size wb wr/\wr.heap[wb.heap.size]?=some (.cells #[.int .i64 0,.int .i64 0,.string t] 59)/\t=K.wordsOf (ks.take n)/\t.size<=n*1048577) (fun k _=>ks.length - (intOf k).toNat)
 case atStart=>exact ⟨0,⟨#[]⟩,rfl,Nat.zero_le _,hb,ha,rfl,Nat.zero_le _⟩
 case round =>
  clear hb ha
  obtain ⟨n,t,rfl,hn,hb,ha,ht,htz⟩:=hrel
  have HT:=Hd ht
  have hzq:=zb ha
  have HB:=Hd hb
  have e1:=zi ha
  rw [<- e1]
  clear ht hb ha e1
  by_cases hlt:(n:Int)<ks.length
  case pos =>
   have hk2:n<ks.length:=by omega
   obtain ⟨b,off,rfl,hbl,hce⟩:=zcv (W:=fun o r=>wr.setB wb.heap.size o) (fun o r=>(HQK.out.below HB.out).past (fun k hk=>list_lt HQK.out hk (by intro e;subst e;exact absurd hk2 (Nat.not_lt_zero _))) o) hk2 (.cells #[] 0) (.cells #[] 0)
   rw [zd] at hbl
   have hce:=fun o=>hce o (.cells #[] 0)
   have hkz:=hks.2 _ (List.getElem_mem hk2)
   have hsn:=zeF (ks.take n) ks[n]
   rw [<- List.take_succ_eq_append_getElem hk2,<- HT.out] at hsn
   have HSN:=Hd hsn
   clear hsn
   generalize ks[n]=key at hce hkz HSN
   have hn1:n*1048577<=549755813888*1048577:=Nat.mul_le_mul_right _ (by omega)
   have hc1:¬ 9223372036854775807<t.size+key.size:=by omega
   have hc2:¬ 9223372036854775807<t.size+key.size+1:=by omega
   have hz2:(t++key++K.space).size<=(n+1)*1048577:=by
    rw [ByteArray.size_append,ByteArray.size_append]
    have:K.space.size=1:=rfl
    omega
   ((try simp only []);repeat (first|go_skip|go_guarded|go_step|go_upon|go_back))
   (first|refine zk (id:=6) [(0,true),(1,true),(2,true),(3,true),(4,true),(5,true),(6,true),(7,true),(8,true),(9,false)] 9 (by kernel_rfl) (by kernel_rfl) ?_|refine zk (id:=7) [(0,true)] 2 (by kernel_rfl) (by kernel_rfl) ?_)
   repeat (first|(refine zq rfl (fun K hK=>?_);go_simp;(try simp (disch:=omega) only [IntWalk.i64_in,Int.tmod_eq_emod_of_nonneg,Int.tdiv_eq_ediv_of_nonneg]);refine hK _ ?_;clear hK K)|(refine zy rfl rfl (fun K hK=>?_);go_simp;refine hK _ _ ?_;clear hK K)|(refine zo rfl (fun K hK=>?_);go_simp;refine hK _ _ (by show Sx _ _;(try simp only [<- Array.append_assoc]);repeat (first|with_reducible exact Sx.drew _|with_reducible exact Sx.same _ _ _ _|with_reducible exact ⟨_,rfl⟩|with_reducible apply Sx.more|with_reducible apply Sx.ext|with_reducible apply Sx.alloc|with_reducible apply zL|with_reducible exact Sx.refl _)) ?_;clear hK K))
   refine zX ?_
   ((try simp only []);repeat (first|go_skip|go_guarded|go_step|go_upon|go_back))
   go_roundw
   case rel=>exact ⟨n+1,t++key++K.space,by go_num,by omega,by first|exact zp HB.out (Nat.le_refl _) _|exact Below.drew (zp HB.out (Nat.le_refl _) _),World.setB_at _ _ _ hzq,HSN.out.symm,hz2⟩
   case measure=>simp [intOf];omega
  case neg =>
   have e:n=ks.length:=by omega
   have HF:Hid (K.wordsOf ks=t):=by show _ = _;rw [HT.out,e,List.take_length]
   clear e
   obtain ⟨P,R,A,B',q0,q1,q2⟩:=QQ.out
   have P1:=(Grew.below HB.out _ (zb P)).trans P
   have R1:=(Grew.below HB.out _ (zb R)).trans R
   have A1:=(Grew.below HB.out _ (zb A)).trans A
   have hsz:=HB.out.size
   have y0:w.heap.size<wr.heap.size:=by omega
   have y1:w.heap.size+1<wr.heap.size:=by omega
   have y2:w.heap.size+1+1<wr.heap.size:=by omega
   have x0:w.heap.size<wb.heap.size:=by omega
   have x1:w.heap.size+1<wb.heap.size:=by omega
   have x2:w.heap.size+1+1<wb.heap.size:=by omega
   have ea:wr.setB (w.heap.size+1+1) (.cells #[.int .i64 0,.int .i64 0,.string ⟨#[]⟩] 59)=wr:=zi A1
   have er:wr.setB (w.heap.size+1) (.cells #[.slice none 0 0,.slice none 0 0,.slice none 0 0] 76)=wr:=zi R1
   have ep:wr.setB w.heap.size (.cells #[.slice b0 m2.cells.length d0,.slice b1 m2.rd.length d1,.slice b2 m2.wr.length d2] 76)=wr:=zi P1
   have e4:((wr.setB w.heap.size (.cells #[.slice b0 m2.cells.length d0,.slice b1 m2.rd.length d1,.slice b2 m2.wr.length d2] 76)).setB (w.heap.size+1) (.cells #[.slice none 0 0,.slice none 0 0,.slice none 0 0] 76)).setB (w.heap.size+1+1) (.cells #[.int .i64 0,.int .i64 0,.string ⟨#[]⟩] 59)=wr:=by rw [ep,er,ea]
   rw [<- e4]
   have n0:¬ w.heap.size=wb.heap.size:=by omega
   have n0':¬ wb.heap.size=w.heap.size:=by omega
   have n1:¬ w.heap.size+1=wb.heap.size:=by omega
   have n1':¬ wb.heap.size=w.heap.size+1:=by omega
   have n2:¬ w.heap.size+1+1=wb.heap.size:=by omega
   have n2':¬ wb.heap.size=w.heap.size+1+1:=by omega
   have k0:=Hd (fun o r a q=>four_C q0 (q0.below HB.out) P1 R1 A1 o r a q)
   have k1:=Hd (fun o r a q=>four_S HSR.out q1 (q1.below HB.out) P1 R1 A1 o r a q)
   have k2:=Hd (fun o r a q=>four_S HSW.out q2 (q2.below HB.out) P1 R1 A1 o r a q)
   have kb:=Hd (fun o r a q=>four_B (Below.then B' HB.out) (Nat.le_of_lt x0) o r a q)
   clear P R A P1 R1 A1 ea er ep e4 hsz B' q0 q1 q2
   ((try simp only []);repeat (first|go_skip|go_guarded|go_step|go_upon|go_back))
   go_region
   all_goals ((try simp only []);repeat (first|go_skip|go_guarded|go_step|go_upon|go_back))
   all_goals (
    refine bodyPost_ret (by simp [results,Tryz.results65,go_sem,y0,y1,y2,n0,n0',n1,n1',n2,n2'];rfl) rfl ?_
    obtain ⟨rfl,rfl⟩:=hres
    exact ⟨_,by unfold zca;rw [HF.out],⟨_,_,_,rfl,k0.out _ _ _ _,k1.out _ _ _ _,k2.out _ _ _ _⟩,Below.drew (kb.out _ _ _ _)⟩)
def zbk (c:CallD):Value:=.agg #[.int .i64 c.kind,.string c.name,.string c.to,.int .i64 c.a,.int .i64 c.b,.string c.text]
theorem zhF (c:CallD) (hc:c.ok) (w:World):Calls Tryz.prog 60 #[zbk c] w fun e w'=>e=.returned (.bool (K.callOk c))/\Below w.heap.size w w':=by
 obtain ⟨kd,nm,to,a,b,tx⟩:=c
 obtain ⟨z1,z2,z3⟩:=hc
 dsimp only at z1 z2 z3
 unfold zbk
 dsimp only
 have HK:Hid (K.callOk ⟨kd,nm,to,a,b,tx⟩=((inB kd 1 22 && decide (nm.size<=20)) && (decide (to.size<=20) && decide (tx.size<=64)))):=by show _ = _;rfl
 by_cases h1 : 1<=kd/\kd<=22
 case neg =>
  have HI:=Hd (zbV h1)
  go_enter Tryz.func60,Tryz.ntmps60
  ((try simp only []);repeat (first|go_skip|go_guarded|go_step|go_upon|go_back))
  (go_at_call 86;refine (zT _ _ _ _).mono ?_;rintro e w' ⟨rfl,rfl⟩)
  rw [HI.out]
  ((try simp only []);repeat (first|go_skip|go_guarded|go_step|go_upon|go_back))
  go_ret
  exact ⟨by rw [HK.out,HI.out];rfl,(by repeat (first|with_reducible exact Below.refl _ _|with_reducible apply Below.ofExt|with_reducible apply Below.ofAlloc|with_reducible apply Below.drew|with_reducible apply Below.ofDrewN|with_reducible assumption|(with_reducible refine Below.setCell ?_ (by first|exact Nat.le_refl _|(simp [go_sem];done)|(simp [go_sem];omega)) _)))⟩
 case pos =>
  have HI:=Hd (zbj h1)
  by_cases h2:(nm.size:Int)<=20
  case neg =>
   have h2':¬ nm.size<=20:=by omega
   have HD:=Hd (decide_eq_false h2')
   clear h2'
   go_enter Tryz.func60,Tryz.ntmps60
   ((try simp only []);repeat (first|go_skip|go_guarded|go_step|go_upon|go_back))
   (go_at_call 86;refine (zT _ _ _ _).mono ?_;rintro e w' ⟨rfl,rfl⟩)
   rw [HI.out]
   ((try simp only []);repeat (first|go_skip|go_guarded|go_step|go_upon|go_back))
   go_ret
   exact ⟨by rw [HK.out,HI.out,HD.out];rfl,(by repeat (first|with_reducible exact Below.refl _ _|with_reducible apply Below.ofExt|with_reducible apply Below.ofAlloc|with_reducible apply Below.drew|with_reducible apply Below.ofDrewN|with_reducible assumption|(with_reducible refine Below.setCell ?_ (by first|exact Nat.le_refl _|(simp [go_sem];done)|(simp [go_sem];omega)) _)))⟩
  case pos =>
   have h2':nm.size<=20:=by omega
   have HD:=Hd (decide_eq_true h2')
   clear h2'
   by_cases h3:(to.size:Int)<=20
   case neg =>
    have h3':¬ to.size<=20:=by omega
    have HD3:=Hd (decide_eq_false h3')
    clear h3'
    go_enter Tryz.func60,Tryz.ntmps60
    ((try simp only []);repeat (first|go_skip|go_guarded|go_step|go_upon|go_back))
    (go_at_call 86;refine (zT _ _ _ _).mono ?_;rintro e w' ⟨rfl,rfl⟩)
    rw [HI.out]
    ((try simp only []);repeat (first|go_skip|go_guarded|go_step|go_upon|go_back))
    go_ret
    exact ⟨by rw [HK.out,HI.out,HD.out,HD3.out];rfl,(by repeat (first|with_reducible exact Below.refl _ _|with_reducible apply Below.ofExt|with_reducible apply Below.ofAlloc|with_reducible apply Below.drew|with_reducible apply Below.ofDrewN|with_reducible assumption|(with_reducible refine Below.setCell ?_ (by first|exact Nat.le_refl _|(simp [go_sem];done)|(simp [go_sem];omega)) _)))⟩
   case pos =>
    have h3':to.size<=20:=by omega
    have HD3:=Hd (decide_eq_true h3')
    clear h3'
    by_cases h4:(tx.size:Int)<=64
    case neg =>
     have h4':¬ tx.size<=64:=by omega
     have HD4:=Hd (decide_eq_false h4')
     clear h4'
     go_enter Tryz.func60,Tryz.ntmps60
     ((try simp only []);repeat (first|go_skip|go_guarded|go_step|go_upon|go_back))
     (go_at_call 86;refine (zT _ _ _ _).mono ?_;rintro e w' ⟨rfl,rfl⟩)
     rw [HI.out]
     ((try simp only []);repeat (first|go_skip|go_guarded|go_step|go_upon|go_back))
     go_ret
     exact ⟨by rw [HK.out,HI.out,HD.out,HD3.out,HD4.out];rfl,(by repeat (first|with_reducible exact Below.refl _ _|with_reducible apply Below.ofExt|with_reducible apply Below.ofAlloc|with_reducible apply Below.drew|with_reducible apply Below.ofDrewN|with_reducible assumption|(with_reducible refine Below.setCell ?_ (by first|exact Nat.le_refl _|(simp [go_sem];done)|(simp [go_sem];omega)) _)))⟩
    case pos =>
     have h4':tx.size<=64:=by omega
     have HD4:=Hd (decide_eq_true h4')
     clear h4'
     go_enter Tryz.func60,Tryz.ntmps60
     ((try simp only []);repeat (first|go_skip|go_guarded|go_step|go_upon|go_back))
     (go_at_call 86;refine (zT _ _ _ _).mono ?_;rintro e w' ⟨rfl,rfl⟩)
     rw [HI.out]
     ((try simp only []);repeat (first|go_skip|go_guarded|go_step|go_upon|go_back))
     go_ret
     exact ⟨by rw [HK.out,HI.out,HD.out,HD3.out,HD4.out];rfl,(by repeat (first|with_reducible exact Below.refl _ _|with_reducible apply Below.ofExt|with_reducible apply Below.ofAlloc|with_reducible apply Below.drew|with_reducible apply Below.ofDrewN|with_reducible assumption|(with_reducible refine Below.setCell ?_ (by first|exact Nat.le_refl _|(simp [go_sem];done)|(simp [go_sem];omega)) _)))⟩
def zgI {α : Type} (R:RowOf α) (xs:List α):Prop:=∀ (w:World) (v:Value) (p:Nat) (x y:Int) (t:TypeId),RdL R w v xs->w.heap[p]?=some (.cells #[.int .i64 x,.int .i64 y,.string ⟨#[]⟩] t (0,0))->∀ o,RdL R (w.setB p o) v xs
theorem zu {xs:List ByteArray} (hn:∀ s ∈ xs,s.size ≠ 0):zgI zH xs:=fun w v p x y t h hp o=>zbg hn h hp o
theorem zN (xs:List CellD):zgI zE xs:=fun w v p x y t h hp o=>zcM h hp o
theorem heap4s (W:World) (a b c d:Obj) (n:Nat) (hn:n=W.heap.size):((((W.alloc a).alloc b).alloc c).alloc d).heap[n]?=some a/\((((W.alloc a).alloc b).alloc c).alloc d).heap[n+1]?=some b/\((((W.alloc a).alloc b).alloc c).alloc d).heap[n+1+1]?=some c/\((((W.alloc a).alloc b).alloc c).alloc d).heap[n+1+1+1]?=some d:=by
 subst hn
 show ((((W.heap.push a).push b).push c).push d)[W.heap.size]?=some a/\((((W.heap.push a).push b).push c).push d)[W.heap.size+1]?=some b/\((((W.heap.push a).push b).push c).push d)[W.heap.size+1+1]?=some c/\((((W.heap.push a).push b).push c).push d)[W.heap.size+1+1+1]?=some d
 refine ⟨?_,?_,?_,?_⟩<;>(simp only [Array.getElem?_push,Array.size_push];repeat (first|rfl|rw [if_pos trivial]|rw [if_pos (by omega)]|rw [if_neg (by omega)]))
/-! ### four boxes -/
abbrev fo (W:World) (p:Nat) (o c r s:Obj):World:=(((W.setB p o).setB (p+1) c).setB (p+1+1) r).setB (p+1+1+1) s
theorem ziQ {W:World} {p:Nat} {o c r s:Obj} (P:W.heap[p]?=some o) (C:W.heap[p+1]?=some c) (R:W.heap[p+1+1]?=some r) (A:W.heap[p+1+1+1]?=some s):(((W.setB p o).setB (p+1) c).setB (p+1+1) r).setB (p+1+1+1) s=W:=by
 rw [zi P,zi C,zi R,zi A]
theorem zgC (W:World) (p:Nat) (o c r s:Obj):(fo W p o c r s).heap.size=W.heap.size:=by
 unfold fo
 rw [zd,zd,zd,zd]
theorem fo_at {W:World} {p:Nat} (h:p+3<W.heap.size) (o c r s:Obj):(fo W p o c r s).heap[p]?=some o/\(fo W p o c r s).heap[p+1]?=some c/\(fo W p o c r s).heap[p+1+1]?=some r/\(fo W p o c r s).heap[p+1+1+1]?=some s:=by
 unfold fo
 refine ⟨?_,?_,?_,?_⟩
 ·rw [World.setB_get _ _ _ _ (by omega),World.setB_get _ _ _ _ (by omega),World.setB_get _ _ _ _ (by omega)]
  exact World.setB_at _ _ _ (by omega)
 ·rw [World.setB_get _ _ _ _ (by omega),World.setB_get _ _ _ _ (by omega)]
  exact World.setB_at _ _ _ (by rw [zd];omega)
 ·rw [World.setB_get _ _ _ _ (by omega)]
  exact World.setB_at _ _ _ (by rw [zd,zd];omega)
 ·exact World.setB_at _ _ _ (by rw [zd,zd,zd];omega)
theorem zeA {α : Type} {R:RowOf α} {W:World} {v:Value} {xs:List α} (hstr:∀ u ∈ xs.flatMap R.row,∃ s,u=.string s) (ha:zgI R xs) (h:RdL R W v xs) {p:Nat} {a0 a1 a2 a3 a4 a5:Option Addr} {n0 n1 n2 c0 c1 c2 n3 n4 n5 c3 c4 c5:Nat} {t t' t2:TypeId} {x y:Int} {c:Obj}
  (P:W.heap[p]?=some (.cells #[.slice a0 n0 c0,.slice a1 n1 c1,.slice a2 n2 c2] t (0,0))) (C:W.heap[p+1]?=some c) (Rr:W.heap[p+1+1]?=some (.cells #[.slice a3 n3 c3,.slice a4 n4 c4,.slice a5 n5 c5] t' (0,0))) (A:W.heap[p+1+1+1]?=some (.cells #[.int .i64 x,.int .i64 y,.string ⟨#[]⟩] t2 (0,0))) (o r s:Obj):RdL R (fo W p o c r s) v xs:=by
 unfold fo
 have h1:=zba hstr h P o
 have e:(W.setB p o).setB (p+1) c=W.setB p o:=zi ((World.setB_get _ _ _ _ (by omega)).trans C)
 rw [e]
 have h2:=zba hstr h1 ((World.setB_get _ _ _ _ (by omega)).trans Rr) r
 exact ha _ _ _ _ _ _ h2 ((World.setB_get _ _ _ _ (by omega)).trans ((World.setB_get _ _ _ _ (by omega)).trans A)) s
theorem fo_B {w W:World} (B:Below w.heap.size w W) (o c r s:Obj):Below w.heap.size w (fo W w.heap.size o c r s):=by
 unfold fo
 exact zp (zp (zp (zp B (Nat.le_refl _) o) (by omega) c) (by omega) r) (by omega) s
theorem zgD {w W w2:World} {o c r s:Obj} (B:Below w.heap.size w W) (Z:w.heap.size+3<W.heap.size) (h:Below (fo W w.heap.size o c r s).heap.size (fo W w.heap.size o c r s) w2):Below w.heap.size w w2/\w2.heap[w.heap.size]?=some o/\w2.heap[w.heap.size+1]?=some c/\w2.heap[w.heap.size+1+1]?=some r/\w2.heap[w.heap.size+1+1+1]?=some s/\w.heap.size+3<w2.heap.size:=by
 have h4:=fo_at Z o c r s
 have hs:=h.size
 rw [zgC] at hs
 exact ⟨Below.then (fo_B B o c r s) h,(Grew.below h _ (zb h4.1)).trans h4.1,(Grew.below h _ (zb h4.2.1)).trans h4.2.1,(Grew.below h _ (zb h4.2.2.1)).trans h4.2.2.1,(Grew.below h _ (zb h4.2.2.2)).trans h4.2.2.2,by omega⟩
/-! ### five boxes -/
abbrev fv (W:World) (p q:Nat) (o c r s a:Obj):World:=(fo W p o c r s).setB q a
theorem zaR {W:World} {p q:Nat} {o c r s a:Obj} (P:W.heap[p]?=some o) (C:W.heap[p+1]?=some c) (R:W.heap[p+1+1]?=some r) (A:W.heap[p+1+1+1]?=some s) (Q:W.heap[q]?=some a):((((W.setB p o).setB (p+1) c).setB (p+1+1) r).setB (p+1+1+1) s).setB q a=W:=by
 rw [ziQ P C R A,zi Q]
theorem zjH (W:World) (p q:Nat) (o c r s a:Obj):(fv W p q o c r s a).heap.size=W.heap.size:=by
 unfold fv
 rw [zd,zgC]
theorem fo_get {W:World} {p q:Nat} (hq:p+3<q) (o c r s:Obj):(fo W p o c r s).heap[q]?=W.heap[q]?:=by
 unfold fo
 rw [World.setB_get _ _ _ _ (by omega),World.setB_get _ _ _ _ (by omega),World.setB_get _ _ _ _ (by omega),World.setB_get _ _ _ _ (by omega)]
theorem fv_at {W:World} {p q:Nat} (h:p+3<q) (hq:q<W.heap.size) (o c r s a:Obj):(fv W p q o c r s a).heap[p]?=some o/\(fv W p q o c r s a).heap[p+1]?=some c/\(fv W p q o c r s a).heap[p+1+1]?=some r/\(fv W p q o c r s a).heap[p+1+1+1]?=some s/\(fv W p q o c r s a).heap[q]?=some a:=by
 have h4:=fo_at (W:=W) (p:=p) (by omega) o c r s
 unfold fv
 refine ⟨?_,?_,?_,?_,?_⟩
 ·rw [World.setB_get _ _ _ _ (by omega)];exact h4.1
 ·rw [World.setB_get _ _ _ _ (by omega)];exact h4.2.1
 ·rw [World.setB_get _ _ _ _ (by omega)];exact h4.2.2.1
 ·rw [World.setB_get _ _ _ _ (by omega)];exact h4.2.2.2
 ·exact World.setB_at _ _ _ (by rw [zgC];exact hq)
theorem zQ {α : Type} {R:RowOf α} {W:World} {v:Value} {xs:List α} (hstr:∀ u ∈ xs.flatMap R.row,∃ s,u=.string s) (ha:zgI R xs) (h:RdL R W v xs) {p q:Nat} (hq:p+3<q) {a0 a1 a2 a3 a4 a5:Option Addr} {n0 n1 n2 c0 c1 c2 n3 n4 n5 c3 c4 c5:Nat} {t t' t2 t3:TypeId} {x y x2 y2:Int} {c:Obj}
  (P:W.heap[p]?=some (.cells #[.slice a0 n0 c0,.slice a1 n1 c1,.slice a2 n2 c2] t (0,0))) (C:W.heap[p+1]?=some c) (Rr:W.heap[p+1+1]?=some (.cells #[.slice a3 n3 c3,.slice a4 n4 c4,.slice a5 n5 c5] t' (0,0))) (A:W.heap[p+1+1+1]?=some (.cells #[.int .i64 x,.int .i64 y,.string ⟨#[]⟩] t2 (0,0))) (Q:W.heap[q]?=some (.cells #[.int .i64 x2,.int .i64 y2,.string ⟨#[]⟩] t3 (0,0))) (o r s a:Obj):RdL R (fv W p q o c r s a) v xs:=by
 unfold fv
 exact ha _ _ _ _ _ _ (zeA hstr ha h P C Rr A o r s) ((fo_get hq o c r s).trans Q) a
theorem nx5 {W:World} {v0 v1 v2:Value} {cs:List CellD} {rd wr:List ByteArray} (rn:∀ s ∈ rd,s.size ≠ 0) (wn:∀ s ∈ wr,s.size ≠ 0) {p q:Nat} (hq:p+3<q) {a0 a1 a2 a3 a4 a5:Option Addr} {n0 n1 n2 c0 c1 c2 n3 n4 n5 c3 c4 c5:Nat} {t t' t2 t3:TypeId} {x y x2 y2:Int} {c:Obj} (P:W.heap[p]?=some (.cells #[.slice a0 n0 c0,.slice a1 n1 c1,.slice a2 n2 c2] t (0,0))) (C:W.heap[p+1]?=some c) (Rr:W.heap[p+1+1]?=some (.cells #[.slice a3 n3 c3,.slice a4 n4 c4,.slice a5 n5 c5] t' (0,0))) (A:W.heap[p+1+1+1]?=some (.cells #[.int .i64 x,.int .i64 y,.string ⟨#[]⟩] t2 (0,0))) (Q:W.heap[q]?=some (.cells #[.int .i64 x2,.int .i64 y2,.string ⟨#[]⟩] t3 (0,0))) (q0:RdL zE W v0 cs) (q1:RdL zH W v1 rd) (q2:RdL zH W v2 wr) :
  ((((W.setB p (.cells #[.slice a0 n0 c0,.slice a1 n1 c1,.slice a2 n2 c2] t (0,0))).setB (p+1) c).setB (p+1+1) (.cells #[.slice a3 n3 c3,.slice a4 n4 c4,.slice a5 n5 c5] t' (0,0))).setB (p+1+1+1) (.cells #[.int .i64 x,.int .i64 y,.string ⟨#[]⟩] t2 (0,0))).setB q (.cells #[.int .i64 x2,.int .i64 y2,.string ⟨#[]⟩] t3 (0,0))=W ∧ Hid (∀ o r s a,RdL zE (fv W p q o c r s a) v0 cs) ∧ Hid (∀ o r s a,RdL zH (fv W p q o c r s a) v1 rd) ∧ Hid (∀ o r s a,RdL zH (fv W p q o c r s a) v2 wr) ∧ p<W.heap.size ∧ p+1<W.heap.size ∧ p+1+1<W.heap.size ∧ p+1+1+1<W.heap.size ∧ q<W.heap.size :=
 ⟨zaR P C Rr A Q,fun o r s a=>zQ (zh _) (zN _) q0 hq P C Rr A Q o r s a,fun o r s a=>zQ (ze _) (zu rn) q1 hq P C Rr A Q o r s a,fun o r s a=>zQ (ze _) (zu wn) q2 hq P C Rr A Q o r s a,zb P,zb C,zb Rr,zb A,zb Q⟩
theorem zdl {w W:World} {q:Nat} (B:Below w.heap.size w W) (hq:w.heap.size+3<q) (o c r s a:Obj):Below w.heap.size w (fv W w.heap.size q o c r s a):=by
 unfold fv
 exact zp (fo_B B o c r s) (by omega) a
theorem zae {w W w2:World} {q:Nat} {o c r s a:Obj} (B:Below w.heap.size w W) (Z:w.heap.size+3<q) (Zq:q<W.heap.size) (h:Below (fv W w.heap.size q o c r s a).heap.size (fv W w.heap.size q o c r s a) w2):Below w.heap.size w w2/\w2.heap[w.heap.size]?=some o/\w2.heap[w.heap.size+1]?=some c/\w2.heap[w.heap.size+1+1]?=some r/\w2.heap[w.heap.size+1+1+1]?=some s/\w2.heap[q]?=some a/\q<w2.heap.size:=by
 have h4:=fv_at Z Zq o c r s a
 have hs:=h.size
 rw [zjH] at hs
 exact ⟨Below.then (zdl B Z o c r s a) h,(Grew.below h _ (zb h4.1)).trans h4.1,(Grew.below h _ (zb h4.2.1)).trans h4.2.1,(Grew.below h _ (zb h4.2.2.1)).trans h4.2.2.1,(Grew.below h _ (zb h4.2.2.2.1)).trans h4.2.2.2.1,(Grew.below h _ (zb h4.2.2.2.2)).trans h4.2.2.2.2,by omega⟩
theorem zih (w:World) (a b c d:Obj) (h:Below w.heap.size w ((((w.alloc a).alloc b).alloc c).alloc d)):Below w.heap.size w ((((w.alloc a).alloc b).alloc c).alloc d)/\((((w.alloc a).alloc b).alloc c).alloc d).heap[w.heap.size]?=some a/\((((w.alloc a).alloc b).alloc c).alloc d).heap[w.heap.size+1]?=some b/\((((w.alloc a).alloc b).alloc c).alloc d).heap[w.heap.size+1+1]?=some c/\((((w.alloc a).alloc b).alloc c).alloc d).heap[w.heap.size+1+1+1]?=some d:=⟨h,heap4s w a b c d w.heap.size rfl⟩
theorem ze7 {w W:World} {o c r s:Obj} {v0 v1 v2:Value} {xs:List CellD} {ys zs:List ByteArray} (a:Obj) (B:Below w.heap.size w W) (Z:w.heap.size+3<W.heap.size) (h0:RdL zE (fo W w.heap.size o c r s) v0 xs) (h1:RdL zH (fo W w.heap.size o c r s) v1 ys) (h2:RdL zH (fo W w.heap.size o c r s) v2 zs) :
  Below w.heap.size w ((fo W w.heap.size o c r s).alloc a)/\((fo W w.heap.size o c r s).alloc a).heap[w.heap.size]?=some o/\((fo W w.heap.size o c r s).alloc a).heap[w.heap.size+1]?=some c/\((fo W w.heap.size o c r s).alloc a).heap[w.heap.size+1+1]?=some r/\((fo W w.heap.size o c r s).alloc a).heap[w.heap.size+1+1+1]?=some s/\((fo W w.heap.size o c r s).alloc a).heap[W.heap.size]?=some a /\
   RdL zE ((fo W w.heap.size o c r s).alloc a) v0 xs/\RdL zH ((fo W w.heap.size o c r s).alloc a) v1 ys/\RdL zH ((fo W w.heap.size o c r s).alloc a) v2 zs:=by
 have h4:=fo_at Z o c r s
 refine ⟨(fo_B B o c r s).ofAlloc _,(heap_alloc_old _ _ (zb h4.1)).trans h4.1,(heap_alloc_old _ _ (zb h4.2.1)).trans h4.2.1,(heap_alloc_old _ _ (zb h4.2.2.1)).trans h4.2.2.1,(heap_alloc_old _ _ (zb h4.2.2.2)).trans h4.2.2.2,?_,h0.alloc _,h1.alloc _,h2.alloc _⟩
 have h:=heap_alloc_new (fo W w.heap.size o c r s) a
 rw [zgC] at h
 exact h
theorem ziR (w:World) (a b c d e:Obj) (h:Below w.heap.size w (((((w.alloc a).alloc b).alloc c).alloc d).alloc e)):Below w.heap.size w (((((w.alloc a).alloc b).alloc c).alloc d).alloc e)/\(((((w.alloc a).alloc b).alloc c).alloc d).alloc e).heap[w.heap.size]?=some a/\(((((w.alloc a).alloc b).alloc c).alloc d).alloc e).heap[w.heap.size+1]?=some b/\(((((w.alloc a).alloc b).alloc c).alloc d).alloc e).heap[w.heap.size+1+1]?=some c/\(((((w.alloc a).alloc b).alloc c).alloc d).alloc e).heap[w.heap.size+1+1+1]?=some d/\(((((w.alloc a).alloc b).alloc c).alloc d).alloc e).heap[w.heap.size+1+1+1+1]?=some e:=by
 have h4:=heap4s w a b c d w.heap.size rfl
 have h5:=heap_alloc_new ((((w.alloc a).alloc b).alloc c).alloc d) e
 have hz:((((w.alloc a).alloc b).alloc c).alloc d).heap.size=w.heap.size+1+1+1+1:=by simp
 rw [hz] at h5
 exact ⟨h,(heap_alloc_old _ _ (zb h4.1)).trans h4.1,(heap_alloc_old _ _ (zb h4.2.1)).trans h4.2.1,(heap_alloc_old _ _ (zb h4.2.2.1)).trans h4.2.2.1,(heap_alloc_old _ _ (zb h4.2.2.2)).trans h4.2.2.2,h5⟩
theorem zdN {α : Type} {R:RowOf α} (hk : 0<R.k) {W:World} {v:Value} {xs:List α} {b:Nat} {o:Obj} (h:RdL R W v xs) (hb:W.heap[b]?=some o) (ho:∀ i,W.cell? ⟨b,i,none⟩=none):xs = [] ∨ v.ownBlock ≠ some b:=by
 by_cases hx:xs = []
 ·exact .inl hx
 ·refine .inr fun hq=>?_
  obtain ⟨ao,cap,rfl,_,_,_,h4⟩:=h.shape
  obtain ⟨b',off,rfl,hb',hc⟩:=h4 hx
  have e:b'=b:=by simpa [Value.ownBlock] using hq
  subst e
  have hl : 0<xs.length:=List.length_pos_iff.2 hx
  obtain ⟨u,hu⟩ : ∃ u,(R.row xs[0])[0]?=some u:=by
   have : 0<(R.row xs[0]).length:=by rw [R.len];exact hk
   exact ⟨_,List.getElem?_eq_getElem this⟩
  have:=hc 0 hl 0 u hu
  rw [ho] at this
  cases this
theorem zdL {α : Type} {R:RowOf α} {W:World} {v:Value} {xs:List α} {b:Nat} (h:RdL R W v xs) (hf:xs = [] ∨ v.ownBlock ≠ some b) (o:Obj):RdL R (W.setB b o) v xs:=by
 rcases hf with rfl|hf
 ·rcases h with h|⟨b,off,cap,hv,h1,h2,h3⟩
  ·exact .inl h
  ·exact .inr ⟨b,off,cap,hv,h1,h2,fun j u hj=>by simp at hj⟩
 ·exact h.setB hf o
theorem zbI {W:World} {b:Nat} {t:TypeId} (h:W.heap[b]?=some (.cells #[] t (0,0))) (i:Nat):W.cell? ⟨b,i,none⟩=none:=by
 rw [zg h]
 simp
theorem zbh {α : Type} {R:RowOf α} (hk : 0<R.k) {W W':World} {v:Value} {xs:List α} {p q:Nat} {c:Obj} (hq:p+3<q) (hs:q<W.heap.size) (H:∀ o r s a,RdL R (fv W p q o c r s a) v xs) (h:RdL R W' v xs) (C:W'.heap[p+1]?=some c) (o r s a:Obj):RdL R (fv W' p q o c r s a) v xs:=by
 have hat:=fv_at hq hs (.cells #[] 0) c (.cells #[] 0) (.cells #[] 0) (.cells #[] 0)
 have h0:=H (.cells #[] 0) (.cells #[] 0) (.cells #[] 0) (.cells #[] 0)
 have f0:=zdN hk h0 hat.1 (zbI hat.1)
 have f2:=zdN hk h0 hat.2.2.1 (zbI hat.2.2.1)
 have f3:=zdN hk h0 hat.2.2.2.1 (zbI hat.2.2.2.1)
 have f4:=zdN hk h0 hat.2.2.2.2 (zbI hat.2.2.2.2)
 have e:(W'.setB p o).setB (p+1) c=W'.setB p o:=zi ((World.setB_get _ _ _ _ (by omega)).trans C)
 show RdL R (((((W'.setB p o).setB (p+1) c).setB (p+1+1) r).setB (p+1+1+1) s).setB q a) v xs
 rw [e]
 exact zdL (zdL (zdL (zdL h f0 o) f2 r) f3 s) f4 a
theorem zgE {α : Type} {R:RowOf α} (hk : 0<R.k) {W W':World} {v:Value} {xs:List α} {p:Nat} {c:Obj} (hs:p+3<W.heap.size) (H:∀ o r s,RdL R (fo W p o c r s) v xs) (h:RdL R W' v xs) (C:W'.heap[p+1]?=some c) (o r s:Obj):RdL R (fo W' p o c r s) v xs:=by
 have hat:=fo_at hs (.cells #[] 0) c (.cells #[] 0) (.cells #[] 0)
 have h0:=H (.cells #[] 0) (.cells #[] 0) (.cells #[] 0)
 have f0:=zdN hk h0 hat.1 (zbI hat.1)
 have f2:=zdN hk h0 hat.2.2.1 (zbI hat.2.2.1)
 have f3:=zdN hk h0 hat.2.2.2 (zbI hat.2.2.2)
 have e:(W'.setB p o).setB (p+1) c=W'.setB p o:=zi ((World.setB_get _ _ _ _ (by omega)).trans C)
 show RdL R ((((W'.setB p o).setB (p+1) c).setB (p+1+1) r).setB (p+1+1+1) s) v xs
 rw [e]
 exact zdL (zdL (zdL h f0 o) f2 r) f3 s
theorem fv_more {w W:World} {q:Nat} {o c r s a:Obj} {v0 v1 v2:Value} {xs:List CellD} {ys zs:List ByteArray} (x:Obj) (B:Below w.heap.size w W) (Z:w.heap.size+3<q) (Zq:q<W.heap.size) (h0:RdL zE (fv W w.heap.size q o c r s a) v0 xs) (h1:RdL zH (fv W w.heap.size q o c r s a) v1 ys) (h2:RdL zH (fv W w.heap.size q o c r s a) v2 zs) :
  Below w.heap.size w ((fv W w.heap.size q o c r s a).alloc x)/\((fv W w.heap.size q o c r s a).alloc x).heap[w.heap.size]?=some o/\((fv W w.heap.size q o c r s a).alloc x).heap[w.heap.size+1]?=some c/\((fv W w.heap.size q o c r s a).alloc x).heap[w.heap.size+1+1]?=some r/\((fv W w.heap.size q o c r s a).alloc x).heap[w.heap.size+1+1+1]?=some s/\((fv W w.heap.size q o c r s a).alloc x).heap[q]?=some a /\
   RdL zE ((fv W w.heap.size q o c r s a).alloc x) v0 xs/\RdL zH ((fv W w.heap.size q o c r s a).alloc x) v1 ys/\RdL zH ((fv W w.heap.size q o c r s a).alloc x) v2 zs:=by
 have h4:=fv_at Z Zq o c r s a
 exact ⟨(zdl B Z o c r s a).ofAlloc _,(heap_alloc_old _ _ (zb h4.1)).trans h4.1,(heap_alloc_old _ _ (zb h4.2.1)).trans h4.2.1,(heap_alloc_old _ _ (zb h4.2.2.1)).trans h4.2.2.1,(heap_alloc_old _ _ (zb h4.2.2.2.1)).trans h4.2.2.2.1,(heap_alloc_old _ _ (zb h4.2.2.2.2)).trans h4.2.2.2.2,h0.alloc _,h1.alloc _,h2.alloc _⟩
end Go.Proofs.YtncnbihlngapbaaGreat
