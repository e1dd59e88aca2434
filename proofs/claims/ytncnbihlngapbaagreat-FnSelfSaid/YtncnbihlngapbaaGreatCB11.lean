/- Texts of this claim, merged: the walks and what they stand on. Each condition stands in its theorem. -/
import Derived.Test.YtncnbihlngapbaaGreatCB10
import Derived.Test.YtncnbihlngapbaaGreatCB9
set_option linter.unusedVariables false
set_option linter.unusedSimpArgs false
set_option maxRecDepth 100000
set_option maxHeartbeats 8000000
namespace Go.Proofs.YtncnbihlngapbaaGreat
open Go.ChangeShapes Go.WideShapes Go.ChangeAt Go.RowKit
def SCI (f:FuncId) (args:Value->Array Value) (p:Mp (List Int)):Prop :=
 ∀ (w:World) (v:Value) (m:MachD),MRd w v m->p.fits m->Calls Tryz.prog f (args v) w fun e w'=>∃ v' vs,e=.returned (.tuple #[v',vs])/\OwnL zbY 3 w' w.heap.size vs (p.run m).1/\SS w w' v' (p.run m).2
structure KSt (w:World) (m2:MachD) (s0 s2 kv:Value) (ks:List ByteArray) (wr:World) (m1:MachD) (a1:Option Addr) (n1:Nat) (o:Value) (xs:List Int) (t:TypeId):Prop where
 bel:Below w.heap.size w wr
 at0:wr.heap[w.heap.size]?=some (.cells #[s0,.slice a1 m1.rd.length n1,s2] 76)
 at1:wr.heap[w.heap.size+1]?=some (.cells #[.slice none 0 0,.slice none 0 0,.slice none 0 0] 76)
 r0:RdL zE wr s0 m2.cells
 r1:RdL zH wr (.slice a1 m1.rd.length n1) m1.rd
 r2:RdL zH wr s2 m2.wr
 rk:RdL zH wr kv ks
 own:OwnL zbY t wr (w.heap.size+2) o xs
 o0:Off m2.cells s0 o
 o1:Off m1.rd (.slice a1 m1.rd.length n1) o
 o2:Off m2.wr s2 o
 ok:Off ks kv o
 cl:m1.cells=m2.cells
 wl:m1.wr=m2.wr
theorem Tryz.elemIntQ:Elem Tryz.prog 30 3 1 8:=Elem.of (.int .i64 0) Tryz.underlying30 (by kernel_rfl) rfl (by decide)
theorem isKid_no {k:ByteArray} (h:k.size<5):K.isKidKey k=false:=by
 unfold K.isKidKey
 rw [decide_eq_false (by omega)]
 rfl
theorem isKid_is {k:ByteArray} (h : 5<=k.size):K.isKidKey k=((k.extract (k.size - 2) k.size).toList == [47,112]):=by
 unfold K.isKidKey
 rw [decide_eq_true h,ByteArray.toList_eq]
 rfl
theorem zfT (parent:Int) (p0 : -9223372036854775808<=parent) (p1:parent<=9223372036854775807):SCI 108 (fun x=>#[x,.int .i64 parent]) (K.kids parent):=by
 intro w v m hm hf
 obtain ⟨a0,c0,a1,c1,a2,c2,rfl,H0,H1,H2⟩:=hm.form
 have H0:Hid _:=H0
 have H1:Hid _:=H1
 have H2:Hid _:=H2
 obtain ⟨res,mres,hr⟩ : ∃ res mres,(K.kids parent).run m=(res,mres):=⟨_,_,rfl⟩
 have HL:Hid (Lft (K.kids parent) m (res,mres)):=⟨hf,hr⟩
 rw [hr]
 clear hr hf hm
 unfold K.kids at HL
 go_enter Tryz.func108,Tryz.ntmps108
 (try simp only [])
 ((repeat (first|((first|with_reducible refine zb8 (fun W0=>Below w.heap.size w W0/\W0.heap[w.heap.size]?=some (.cells #[.slice a0 m.cells.length c0,.slice a1 m.rd.length c1,.slice a2 m.wr.length c2] 76)/\W0.heap[w.heap.size+1]?=some (.cells #[.slice none 0 0,.slice none 0 0,.slice none 0 0] 76)) ?_ ?_|with_reducible refine zfu (fun W0=>Below w.heap.size w W0/\W0.heap[w.heap.size]?=some (.cells #[.slice a0 m.cells.length c0,.slice a1 m.rd.length c1,.slice a2 m.wr.length c2] 76)/\W0.heap[w.heap.size+1]?=some (.cells #[.slice none 0 0,.slice none 0 0,.slice none 0 0] 76)) ?_ ?_);(· with_reducible exact z8 w (.cells #[.slice a0 m.cells.length c0,.slice a1 m.rd.length c1,.slice a2 m.wr.length c2] 76) (.cells #[.slice none 0 0,.slice none 0 0,.slice none 0 0] 76) (by repeat (first|with_reducible exact Below.refl _ _|with_reducible apply Below.ofExt|with_reducible apply Below.ofAlloc|with_reducible apply Below.drew|with_reducible apply Below.ofDrewN|with_reducible assumption|(with_reducible refine Below.setCell ?_ (by first|exact Nat.le_refl _|(simp [go_sem];done)|(simp [go_sem];omega)) _)))))|go_skip|go_guarded|go_step|go_upon|go_back));(rintro w1 ⟨B,P,R⟩;have Z:=zb R;have e1:=zl P R;rw [<- e1];have HW0:=Hd (fun o r=>H0.out.below (zV B o r));have HW1:=Hd (fun o r=>H1.out.below (zV B o r));have HW2:=Hd (fun o r=>H2.out.below (zV B o r));have Zp:=Nat.lt_of_succ_lt Z;clear e1 P R H0 H1 H2;((repeat' ((rcases HL.out.ite with ⟨hg,HL2⟩|⟨hg,HL2⟩<;>(clear HL;have HL:=Hd HL2;clear HL2;try first|exact absurd hg (by decide)|exact absurd rfl hg|(exfalso;omega)|(have hgz : _ ∨ _:=hg;clear hg;rcases hgz with hg|hg<;>(try have hgb:=bne_iff_ne.2 hg))|(have hgz:=not_or.1 hg;clear hg;obtain ⟨hg,hgo⟩:=hgz;try replace hgo:=Decidable.not_not.1 hgo))))))))
 ((try simp only []);repeat (first|go_skip|go_guarded|go_step|go_upon|go_back))
 (go_at_call 102;refine (SCL.use (zby _) (KS _) (fun m h=>zcI _ m h) (by first|exact HL.out|exact HL.out.last) (⟨_,_,_,rfl,HW0.out _ _,HW1.out _ _,HW2.out _ _⟩ : MRd _ _ _)).mono ?_;rintro e w2 ⟨v2,al,nl,ks,m2,rfl,⟨hks,hrl⟩,hm,hb,HL2⟩;have hrl0:=hrl;obtain ⟨b0,d0,b1,d1,b2,d2,rfl,q0,q1,q2⟩:=hm.form;obtain ⟨B',P,R,Z',Zx⟩:=zF B Z hb;clear Zx;have HRL:=Hd (fun o r=>zf (ze _) hrl P R o r);clear hm hb hrl hrl0;(clear HW0 HW1 HW2 B Z;have e1:=zl P R;rw [<- e1];clear e1;have HW0:=Hd (fun o r=>zf (zh _) q0 P R o r);have HW1:=Hd (fun o r=>zf (ze _) q1 P R o r);have HW2:=Hd (fun o r=>zf (ze _) q2 P R o r);have B:=B';have Z:=Z';(try clear Zp);have Zp:=Nat.lt_of_succ_lt Z;clear B' Z' P R q0 q1 q2;(try simp only []));(try dsimp only at HL2);clear HL;have HL:=Hd HL2;clear HL2)
 ((try simp only []);repeat (first|go_skip|go_guarded|go_step|go_upon|go_back))
 have hkl:=hks.1
 go_loopw [7,8,9,10] (fun o k u9 u10 wr=>∃ (n:Nat) (xs:List Int) (m1:MachD) (a1:Option Addr) (n1:Nat),k=.int .i64 n/\n<=ks.length/\xs.length<=n/\KSt w m2 (.slice b0 m2.cells.length d0) (.slice b2 m2.wr.length d2) (.slice al ks.length nl) ks wr m1 a1 n1 o xs 3/\Lft (Mp.fold (K.kid parent) xs (ks.drop n) >>= pure) m1 (res,mres)) (fun _ k _ _ _=>ks.length - (intOf k).toNat)
 case atStart =>
  have hz:w.heap.size+2<=w2.heap.size:=Z
  refine ⟨0,[],m2,b1,d1,rfl,Nat.zero_le _,Nat.le_refl _,⟨(zV B _ _).ofAlloc _,?_,?_,(HW0.out _ _).alloc _,(HW1.out _ _).alloc _,(HW2.out _ _).alloc _,(HRL.out _ _).alloc _,?_,?_,?_,?_,?_,rfl,rfl⟩,HL.out.last⟩
  ·have h:=(zZ Z (.cells #[.slice b0 m2.cells.length d0,.slice b1 m2.rd.length d1,.slice b2 m2.wr.length d2] 76) (.cells #[.slice none 0 0,.slice none 0 0,.slice none 0 0] 76)).1
   exact (heap_alloc_old _ _ (zb h)).trans h
  ·have h:=(zZ Z (.cells #[.slice b0 m2.cells.length d0,.slice b1 m2.rd.length d1,.slice b2 m2.wr.length d2] 76) (.cells #[.slice none 0 0,.slice none 0 0,.slice none 0 0] 76)).2
   exact (heap_alloc_old _ _ (zb h)).trans h
  ·have h:=OwnL.empty zbY 3 ((w2.setB (w.heap.size+1) (.cells #[.slice none 0 0,.slice none 0 0,.slice none 0 0] 76)).setB w.heap.size (.cells #[.slice b0 m2.cells.length d0,.slice b1 m2.rd.length d1,.slice b2 m2.wr.length d2] 76))
   rw [zd,zd] at h
   exact OwnL.base h hz
  ·exact Off.fresh (by decide) (HW0.out (.cells #[] 0) (.cells #[] 0)) (fun k hk=>by cases hk;rw [zd,zd];exact Nat.le_refl _)
  ·exact Off.fresh (by decide) (HW1.out (.cells #[] 0) (.cells #[] 0)) (fun k hk=>by cases hk;rw [zd,zd];exact Nat.le_refl _)
  ·exact Off.fresh (by decide) (HW2.out (.cells #[] 0) (.cells #[] 0)) (fun k hk=>by cases hk;rw [zd,zd];exact Nat.le_refl _)
  ·exact Off.fresh (by decide) (HRL.out (.cells #[] 0) (.cells #[] 0)) (fun k hk=>by cases hk;rw [zd,zd];exact Nat.le_refl _)
 case round =>
  clear HL
  obtain ⟨n,xs,m1,a1,n1,rfl,hn,hxl,hst,hl⟩:=hrel
  obtain ⟨B',P,R,q0,q1,q2,qk,ho,f0,f1,f2,fk,hcl,hwl⟩:=hst
  have Z':=zb R
  obtain ⟨oa,oc,rfl⟩:=ho.rd.form
  clear HRL HW0 HW1 HW2 B Z Zp
  have e1:=zl P R
  rw [<- e1]
  clear e1
  have HW0:=Hd (fun o r=>zf (zh _) q0 P R o r)
  have HW1:=Hd (fun o r=>zf (ze _) q1 P R o r)
  have HW2:=Hd (fun o r=>zf (ze _) q2 P R o r)
  have HRL:=Hd (fun o r=>zf (ze _) qk P R o r)
  have HO:=Hd (fun o r=>zaX ho (p:=w.heap.size) (by omega) o r)
  have HF:=Hd (And.intro f0 (And.intro f1 (And.intro f2 (And.intro fk (And.intro hcl hwl)))))
  have B:=B'
  have Z:=Z'
  have Zp:=Nat.lt_of_succ_lt Z
  clear B' Z' P R q0 q1 q2 qk ho f0 f1 f2 fk hcl hwl
  by_cases hlt:(n:Int)<ks.length
  case neg =>
   have HL:=Hd (Lft.fold_end (κ:=pure) (by omega) hl)
   ((try simp only []);repeat (first|go_skip|go_guarded|go_step|go_upon|go_back))
   refine bodyPost_ret (by simp [results,Tryz.results108,go_sem,Z];rfl) rfl ?_
   obtain ⟨rfl,rfl⟩:=HL.out.end
   have hcl:=HF.out.2.2.2.2.1
   have hwl:=HF.out.2.2.2.2.2
   exact ⟨_,_,rfl,OwnL.base (HO.out _ _) (by omega),⟨_,_,_,rfl,by rw [hcl];exact HW0.out _ _,HW1.out _ _,by rw [hwl];exact HW2.out _ _⟩,zV B _ _⟩
  case pos =>
   have hk:n<ks.length:=by omega
   have hl2:=Lft.fold_at (κ:=pure) hk hl
   clear hl
   obtain ⟨b,off,rfl,hbl,hce⟩:=zcv HRL.out hk (.cells #[] 0) (.cells #[] 0)
   rw [zd,zd] at hbl
   have hkz:=hks.2.1 _ (List.getElem_mem hk)
   generalize ks[n]=key at hl2 hce hkz
   unfold K.kid at hl2
   by_cases h5:key.size<5
   case pos =>
    rw [isKid_no h5,if_neg (by decide),zbt] at hl2
    have HL:=Hd hl2
    clear hl2
    ((try simp only []);repeat (first|go_skip|go_guarded|go_step|go_upon|go_back))
    go_roundw
    case rel=>exact ⟨n+1,xs,m1,a1,n1,by go_num,by omega,by omega,(⟨zV B _ _,(zZ Z _ _).1,(zZ Z _ _).2,HW0.out _ _,HW1.out _ _,HW2.out _ _,HRL.out _ _,HO.out _ _,HF.out.1,HF.out.2.1,HF.out.2.2.1,HF.out.2.2.2.1,HF.out.2.2.2.2.1,HF.out.2.2.2.2.2⟩ : KSt _ _ _ _ _ _ _ _ _ _ _ _ _),HL.out⟩
    case measure=>simp [intOf];omega
   case neg =>
    have h5' : 5<=key.size:=by omega
    have hs2:wrap64 ((key.size:Int) - 2)=(key.size:Int) - 2:=IntWalk.wrap64_in _ (by omega)
    rw [isKid_is h5'] at hl2
    by_cases hsf:((key.extract (key.size - 2) key.size).toList == [47,112])=true
    case neg =>
     have hsn:((key.extract (key.size - 2) key.size).toList == [47,112])=false:=by simpa using hsf
     rw [hsn,if_neg (by decide),zbt] at hl2
     have HL:=Hd hl2
     clear hl2
     ((try simp only []);repeat (first|go_skip|go_guarded|go_step|go_upon|go_back))
     exact ⟨⟨n+1,xs,m1,a1,n1,by go_num,by omega,by omega,(⟨zV B _ _,(zZ Z _ _).1,(zZ Z _ _).2,HW0.out _ _,HW1.out _ _,HW2.out _ _,HRL.out _ _,HO.out _ _,HF.out.1,HF.out.2.1,HF.out.2.2.1,HF.out.2.2.2.1,HF.out.2.2.2.2.1,HF.out.2.2.2.2.2⟩ : KSt _ _ _ _ _ _ _ _ _ _ _ _ _),HL.out⟩,by simp [intOf];omega⟩
    case pos =>
     rw [hsf,if_pos rfl,zaM] at hl2
     have HL:=Hd hl2
     clear hl2
     ((try simp only []);repeat (first|go_skip|go_guarded|go_step|go_upon|go_back))
     have hcl:=HF.out.2.2.2.2.1
     have hwl:=HF.out.2.2.2.2.2
     (go_at_call 55;refine (SCA.use (zfX _) (zjv _) (fun a=>0<=a/\a<=999) (fun m _=>zay _ m) HL.out (by rw [hcl];exact HW0.out _ _) (HW1.out _ _) (by rw [hwl];exact HW2.out _ _)).mono ?_)
     rintro e w5 ⟨a3,n3,up,m3,rfl,hup,ho3,hb,hcw,HL2⟩
     have hoff:=Off.later (xs:=m3.rd) ho3 (fun k hk=>((HO.out _ _).lt k hk).2)
     have q0:=(HW0.out _ _).below hb
     have q1:=ho3.rd
     have q2:=(HW2.out _ _).below hb
     have qk:=(HRL.out _ _).below hb
     have qo:=zau (HO.out _ _) hb
     have HF:=Hd (And.intro HF.out.1 (And.intro hoff (And.intro HF.out.2.2.1 (And.intro HF.out.2.2.2.1 (And.intro (hcw.1.trans hcl) (hcw.2.trans hwl))))))
     obtain ⟨B',P,R,Z',Zx⟩:=zF B Z hb
     clear Zx hb ho3 hcl hwl hcw hoff
     (try dsimp only at HL2);clear HL;have HL:=Hd HL2;clear HL2
     (clear HW0 HW1 HW2 HRL HO B Z Zp;have e1:=zl P R;rw [<- e1];clear e1;have HW0:=Hd (fun o r=>zf (zh _) q0 P R o r);have HW1:=Hd (fun o r=>zf (ze _) q1 P R o r);have HW2:=Hd (fun o r=>zf (ze _) q2 P R o r);have HRL:=Hd (fun o r=>zf (ze _) qk P R o r);have HO:=Hd (fun o r=>zaX qo (p:=w.heap.size) (by omega) o r);have B:=B';have Z:=Z';have Zp:=Nat.lt_of_succ_lt Z;clear B' Z' P R q0 q1 q2 qk qo;(try simp only []))
     by_cases hpu:up=parent
     case neg =>
      have hl3:=HL.out
      rw [if_neg hpu,zbt] at hl3
      clear HL
      have HL:=Hd hl3
      clear hl3
      ((try simp only []);repeat (first|go_skip|go_guarded|go_step|go_upon|go_back))
      go_roundw
      case rel=>exact ⟨n+1,xs,m3,a3,n3,by go_num,by omega,by omega,(⟨zV B _ _,(zZ Z _ _).1,(zZ Z _ _).2,HW0.out _ _,HW1.out _ _,HW2.out _ _,HRL.out _ _,HO.out _ _,HF.out.1,HF.out.2.1,HF.out.2.2.1,HF.out.2.2.2.1,HF.out.2.2.2.2.1,HF.out.2.2.2.2.2⟩ : KSt _ _ _ _ _ _ _ _ _ _ _ _ _),HL.out⟩
      case measure=>simp [intOf];omega
     case pos =>
      have hl3:=HL.out
      rw [if_pos hpu,zbt] at hl3
      clear HL
      have HL:=Hd hl3
      clear hl3
      have hze:(key.extract 2 (key.size - 2)).size<=1048576:=by rw [ByteArray.size_extract];omega
      have hq2:(2:Int)<=(key.size:Int) - 2:=by omega
      ((try simp only []);repeat (first|go_skip|go_guarded|go_step|go_upon|go_back))
      (go_at_call 83;refine (zcA _ _ (by omega)).mono ?_)
      rintro e w6 ⟨rfl,hb⟩
      have q0:=(HW0.out _ _).below hb
      have q1:=(HW1.out _ _).below hb
      have q2:=(HW2.out _ _).below hb
      have qk:=(HRL.out _ _).below hb
      have qo:=zau (HO.out _ _) hb
      obtain ⟨B',P,R,Z',Zx⟩:=zF B Z hb
      clear Zx hb
      (clear HW0 HW1 HW2 HRL HO B Z Zp;have e1:=zl P R;rw [<- e1];clear e1;have HW0:=Hd (fun o r=>zf (zh _) q0 P R o r);have HW1:=Hd (fun o r=>zf (ze _) q1 P R o r);have HW2:=Hd (fun o r=>zf (ze _) q2 P R o r);have HRL:=Hd (fun o r=>zf (ze _) qk P R o r);have HO:=Hd (fun o r=>zaX qo (p:=w.heap.size) (by omega) o r);have B:=B';have Z:=Z';have Zp:=Nat.lt_of_succ_lt Z;clear B' Z' P R q0 q1 q2 qk qo;(try simp only []))
      generalize zbu (key.extract 2 (key.size - 2))=val at HL ⊢
      go_wp2_with (at_builtin;refine zP ?_)
      refine zb3 rfl _ _ _ rfl Tryz.elemIntQ ((HO.out _ _).alloc _) rfl (zat zbY _ val _ rfl _ _ (by rw [zd,zd])) rfl (by simp only [List.length_singleton];omega) (by simp only [List.length_singleton];unfold maxLen;omega) (by simp [zd];omega) ?_
      intro v7 w7 hown hg hfr
      have hlt:=fun k hk=>((HO.out (.cells #[.slice b0 m2.cells.length d0,.slice a3 m3.rd.length n3,.slice b2 m2.wr.length d2] 76) (.cells #[.slice none 0 0,.slice none 0 0,.slice none 0 0] 76)).lt k hk)
      have hP:=zZ Z (.cells #[.slice b0 m2.cells.length d0,.slice a3 m3.rd.length n3,.slice b2 m2.wr.length d2] 76) (.cells #[.slice none 0 0,.slice none 0 0,.slice none 0 0] 76)
      have k0:=(HW0.out (.cells #[.slice b0 m2.cells.length d0,.slice a3 m3.rd.length n3,.slice b2 m2.wr.length d2] 76) (.cells #[.slice none 0 0,.slice none 0 0,.slice none 0 0] 76)).alloc (.cells #[.int .i64 val] 3)
      have k1:=(HW1.out (.cells #[.slice b0 m2.cells.length d0,.slice a3 m3.rd.length n3,.slice b2 m2.wr.length d2] 76) (.cells #[.slice none 0 0,.slice none 0 0,.slice none 0 0] 76)).alloc (.cells #[.int .i64 val] 3)
      have k2:=(HW2.out (.cells #[.slice b0 m2.cells.length d0,.slice a3 m3.rd.length n3,.slice b2 m2.wr.length d2] 76) (.cells #[.slice none 0 0,.slice none 0 0,.slice none 0 0] 76)).alloc (.cells #[.int .i64 val] 3)
      have kk:=(HRL.out (.cells #[.slice b0 m2.cells.length d0,.slice a3 m3.rd.length n3,.slice b2 m2.wr.length d2] 76) (.cells #[.slice none 0 0,.slice none 0 0,.slice none 0 0] 76)).alloc (.cells #[.int .i64 val] 3)
      have hfx:=HF.out
      have HK:Hid (KSt w m2 (.slice b0 m2.cells.length d0) (.slice b2 m2.wr.length d2) (.slice (some ⟨b,off,none⟩) ks.length nl) ks w7 m3 a3 n3 v7 (xs ++ [val]) 3):=by
       refine ⟨Below.appL ((zV B _ _).ofAlloc _) hg (OwnL.base ((HO.out _ _).alloc _) (by omega)),?_,?_,k0.keptO hfx.1 hg,k1.keptO hfx.2.1 hg,k2.keptO hfx.2.2.1 hg,kk.keptO hfx.2.2.2.1 hg,hown,hfx.1.next (by decide) k0 hfr,hfx.2.1.next (by decide) k1 hfr,hfx.2.2.1.next (by decide) k2 hfr,hfx.2.2.2.1.next (by decide) kk hfr,hfx.2.2.2.2.1,hfx.2.2.2.2.2⟩
       ·exact (hg.block _ (by simp [zd];omega) (fun e=>by have:=(hlt _ e.symm).1;omega)).trans ((heap_alloc_old _ _ (zb hP.1)).trans hP.1)
       ·exact (hg.block _ (by simp [zd];omega) (fun e=>by have:=(hlt _ e.symm).1;omega)).trans ((heap_alloc_old _ _ (zb hP.2)).trans hP.2)
      clear hown hg hfr hlt hP k0 k1 k2 kk hfx
      ((try simp only []);repeat (first|go_skip|go_guarded|go_step|go_upon|go_back))
      go_roundw
      case rel=>exact ⟨n+1,xs ++ [val],m3,a3,n3,by go_num,by omega,by simp;omega,HK.out,HL.out⟩
      case measure=>simp [intOf];omega
def zaD (x lo hi:Int):Int:=if hi<lo then lo else if x<lo then lo else if hi<x then hi else x
theorem zg5 (x lo hi:Int) (w:World) :
  Calls Tryz.prog 117 #[.int .i64 x,.int .i64 lo,.int .i64 hi] w fun e w'=>e=.returned (.int .i64 (zaD x lo hi))/\w'=w:=by
 by_cases h0:hi<lo
 ·by_cases h1:x<hi
  ·have hq:zaD x lo hi=lo:=by unfold zaD;(repeat (first|rw [if_pos (by omega)]|rw [if_neg (by omega)]))
   rw [hq]
   clear hq
   go_enter Tryz.func117,Tryz.ntmps117
   go_wp2
   all_goals go_ret
   all_goals exact ⟨congrArg (fun z=>Ending.returned (.int .i64 z)) (by omega),rfl⟩
  ·by_cases h2:hi<x
   ·have hq:zaD x lo hi=lo:=by unfold zaD;(repeat (first|rw [if_pos (by omega)]|rw [if_neg (by omega)]))
    rw [hq]
    clear hq
    go_enter Tryz.func117,Tryz.ntmps117
    go_wp2
    all_goals go_ret
    all_goals exact ⟨congrArg (fun z=>Ending.returned (.int .i64 z)) (by omega),rfl⟩
   ·have hq:zaD x lo hi=lo:=by unfold zaD;(repeat (first|rw [if_pos (by omega)]|rw [if_neg (by omega)]))
    rw [hq]
    clear hq
    go_enter Tryz.func117,Tryz.ntmps117
    go_wp2
    all_goals go_ret
    all_goals exact ⟨congrArg (fun z=>Ending.returned (.int .i64 z)) (by omega),rfl⟩
 ·by_cases h1:x<lo
  ·have hq:zaD x lo hi=lo:=by unfold zaD;(repeat (first|rw [if_pos (by omega)]|rw [if_neg (by omega)]))
   rw [hq]
   clear hq
   go_enter Tryz.func117,Tryz.ntmps117
   go_wp2
   all_goals go_ret
   all_goals exact ⟨congrArg (fun z=>Ending.returned (.int .i64 z)) (by omega),rfl⟩
  ·by_cases h2:hi<x
   ·have hq:zaD x lo hi=hi:=by unfold zaD;(repeat (first|rw [if_pos (by omega)]|rw [if_neg (by omega)]))
    rw [hq]
    clear hq
    go_enter Tryz.func117,Tryz.ntmps117
    go_wp2
    all_goals go_ret
    all_goals exact ⟨congrArg (fun z=>Ending.returned (.int .i64 z)) (by omega),rfl⟩
   ·have hq:zaD x lo hi=x:=by unfold zaD;(repeat (first|rw [if_pos (by omega)]|rw [if_neg (by omega)]))
    rw [hq]
    clear hq
    go_enter Tryz.func117,Tryz.ntmps117
    go_wp2
    all_goals go_ret
    all_goals exact ⟨congrArg (fun z=>Ending.returned (.int .i64 z)) (by omega),rfl⟩
theorem zdF (v:ByteArray):(zcc v).size<=20000:=by
 unfold zcc
 split
 ·split
  ·rename_i h;rw [zaj];exact h.1
  ·decide
 ·decide
theorem zd4 (x:Int) (k:Nat) (w:World) (h : 0<=x):Calls Tryz.prog 117 #[.int .i64 x,.int .i64 0,.int .i64 k] w fun e w'=>e=.returned (.int .i64 ((min x.toNat k:Nat):Int))/\Below w.heap.size w w':=by
 refine (zg5 x 0 k w).mono ?_
 rintro e w' ⟨rfl,rfl⟩
 have e:zaD x 0 k=((min x.toNat k:Nat):Int):=by unfold zaD;(repeat' split)<;>omega
 exact ⟨by rw [e],Below.refl _ _⟩
theorem Lft.eachB_at {α γ : Type} {f : α->Mp Unit} {xs:List α} {n:Nat} (hn:n<xs.length) {κ : Unit->Mp γ} {m:MachD} {r : γ × MachD} (h:Lft (Mp.each f (xs.drop n) >>= κ) m r):Lft (f xs[n] >>= fun _=>Mp.each f (xs.drop (n+1)) >>= κ) m r:=by
 rw [List.drop_eq_getElem_cons hn] at h
 have e:(Mp.each f (xs[n] :: xs.drop (n+1)) >>= κ)=(f xs[n] >>= fun _=>Mp.each f (xs.drop (n+1)) >>= κ):=zaM (f xs[n]) (fun _=>Mp.each f (xs.drop (n+1))) κ
 rw [<- e]
 exact h
theorem Lft.eachB_end {α γ : Type} {f : α->Mp Unit} {xs:List α} {n:Nat} (hn:xs.length<=n) {κ : Unit->Mp γ} {m:MachD} {r : γ × MachD} (h:Lft (Mp.each f (xs.drop n) >>= κ) m r):Lft (κ ()) m r:=by
 rw [List.drop_eq_nil_of_le hn] at h
 exact h
theorem zbx (id:Int) (id0 : -9223372036854775808<=id) (id1:id<=9223372036854775807) (n:Int) (n0 : -9223372036854775808<=n) (n1:n<=9223372036854775807):SC 94 (fun x=>#[x,.int .i64 id,.int .i64 n]) (K.cutFile id n) (fun v' r=>.tuple #[v',.int .i64 r]):=by
 refine zdR (fun w m a0 c0 a1 c1 a2 c2 res mres H0 H1 H2 HL=>?_)
 unfold K.cutFile at HL
 go_enter Tryz.func94,Tryz.ntmps94
 (try simp only [])
 ((repeat (first|((with_reducible refine zb8 (fun W0=>Below w.heap.size w W0/\W0.heap[w.heap.size]?=some (.cells #[.slice a0 m.cells.length c0,.slice a1 m.rd.length c1,.slice a2 m.wr.length c2] 76)/\W0.heap[w.heap.size+1]?=some (.cells #[.slice none 0 0,.slice none 0 0,.slice none 0 0] 76)) ?_ ?_);(· with_reducible exact z8 w (.cells #[.slice a0 m.cells.length c0,.slice a1 m.rd.length c1,.slice a2 m.wr.length c2] 76) (.cells #[.slice none 0 0,.slice none 0 0,.slice none 0 0] 76) (by repeat (first|with_reducible exact Below.refl _ _|with_reducible apply Below.ofAlloc))))|go_skip|go_guarded|go_step|go_upon|go_back));(rintro w1 ⟨B,P,R⟩;have Z:=zb R;have e1:=zl P R;rw [<- e1];have HW0:=Hd (fun o r=>H0.out.below (zV B o r));have HW1:=Hd (fun o r=>H1.out.below (zV B o r));have HW2:=Hd (fun o r=>H2.out.below (zV B o r));have Zp:=Nat.lt_of_succ_lt Z;clear e1 P R H0 H1 H2))
 ((repeat' (first|go_skip|go_guarded|go_step|go_upon|go_back|((first|((first|(go_at_call 115;refine (SC.use (zcX _ (by omega) (by omega) _ (by omega) (by omega)) (fun a=>a.size<=20000) (fun m _=>zdF _) (by first|exact HL.out|exact HL.out.last) (⟨_,_,_,rfl,HW0.out _ _,HW1.out _ _,HW2.out _ _⟩ : MRd _ _ _)).mono ?_)|(go_at_call 114;refine (SC.use (zbW _ (by omega) (by omega)) (fun a=>0<=a/\a<=999) (fun m _=>zay _ m) (by first|exact HL.out|exact HL.out.last) (⟨_,_,_,rfl,HW0.out _ _,HW1.out _ _,HW2.out _ _⟩ : MRd _ _ _)).mono ?_));(rintro e w2 ⟨v2,x,m2,rfl,hx,hm,hb,HL2⟩);(obtain ⟨b0,d0,b1,d1,b2,d2,rfl,q0,q1,q2⟩:=hm.form;obtain ⟨B',P,R,Z',Zx⟩:=zF B Z hb;clear Zx;clear hm hb;(clear HW0 HW1 HW2 B Z;have e1:=zl P R;rw [<- e1];clear e1;have HW0:=Hd (fun o r=>zf (zh _) q0 P R o r);have HW1:=Hd (fun o r=>zf (ze _) q1 P R o r);have HW2:=Hd (fun o r=>zf (ze _) q2 P R o r);have B:=B';have Z:=Z';(try clear Zp);have Zp:=Nat.lt_of_succ_lt Z;clear B' Z' P R q0 q1 q2;(try simp only []));clear HL;have HL:=Hd HL2;clear HL2;(all_goals ((repeat' ((rcases HL.out.ite with ⟨hg,HL2⟩|⟨hg,HL2⟩<;>(clear HL;have HL:=Hd HL2;clear HL2))))))))|((go_at_call 86;refine (zT _ _ _ _).mono ?_);rintro e w2 ⟨rfl,rfl⟩;(try simp only []);(try rw [HN.out]);(try rw [HM.out]);(try simp (disch:=omega) only [zbj,zbV]))))|((refine zk (id:=8) [(0,true),(1,true),(2,true),(3,true),(4,true),(5,true),(6,true),(7,false),(8,false),(9,true),(10,false),(11,false)] 11 (by kernel_rfl) (by kernel_rfl) ?_);(repeat (first|(refine zq rfl (fun K hK=>?_);go_simp;(try simp (disch:=omega) only [IntWalk.i64_in,Int.tmod_eq_emod_of_nonneg,Int.tdiv_eq_ediv_of_nonneg]);refine hK _ ?_;clear hK K)|(refine zo rfl (fun K hK=>?_);go_simp;((((go_at_call 117;refine (zd4 _ _ _ (by omega)).mono ?_));rintro e w' ⟨rfl,hb⟩;obtain ⟨X,rfl⟩:=hb.ext;clear hb));(try go_simp);refine hK _ _ (by show Sx _ _;repeat (first|with_reducible apply Sx.ext|with_reducible exact Sx.refl _)) ?_;clear hK K)|(refine zo rfl (fun K hK=>?_);go_simp;refine hK _ _ (by show Sx _ _;repeat (with_reducible exact Sx.drew _)) ?_;clear hK K)));have Q0':=Q0.out;have Q1':=Q1.out;have Q2':=Q2.out;clear Q0 Q1 Q2;refine zM (fun W0=>Below w.heap.size w W0/\W0.heap[w.heap.size]?=some _/\W0.heap[w.heap.size+1]?=some _/\RdL zE W0 (.slice f0 m2.cells.length g0) m2.cells/\RdL zH W0 (.slice f1 m2.rd.length g1) m2.rd/\RdL zH W0 (.slice f2 m2.wr.length g2) m2.wr/\w.heap.size+1<W0.heap.size) ⟨(zV B _ _).ofExt _,(zx Z _ _ _).1,(zx Z _ _ _).2,zt (zh _) Z Q0' _ _,zt (ze _) Z Q1' _ _,zt (ze _) Z Q2' _ _,zb (zx Z _ _ _).2⟩ ?_;clear Q0' Q1' Q2';rintro w3 ⟨B',P,R,q0,q1,q2,Z'⟩;(clear HW0 HW1 HW2 B Z;have e1:=zl P R;rw [<- e1];clear e1;have HW0:=Hd (fun o r=>zf (zh _) q0 P R o r);have HW1:=Hd (fun o r=>zf (ze _) q1 P R o r);have HW2:=Hd (fun o r=>zf (ze _) q2 P R o r);have B:=B';have Z:=Z';(try clear Zp);have Zp:=Nat.lt_of_succ_lt Z;clear B' Z' P R q0 q1 q2))|(exfalso;(simp only [bne_eq_false_iff_eq,beq_eq_false_iff_ne,beq_iff_eq,bne_iff_ne] at *);omega))))
 all_goals first
  | (obtain ⟨rfl,rfl⟩:=HL.out.end;refine bodyPost_ret (by simp [results,Tryz.results94,go_sem,Z];rfl) rfl ?_;exact ⟨_,rfl,⟨_,_,_,rfl,HW0.out _ _,HW1.out _ _,HW2.out _ _⟩,zV B _ _⟩)
  | skip
 ·have hq0:min (n % 8).toNat x.size<=x.size:=Nat.min_le_right _ _
  have hq1:((min (n % 8).toNat x.size:Nat):Int)<=x.size:=by omega
  have hq3:(x.extract 0 (min (n % 8).toNat x.size)).size<=1048576:=by rw [ByteArray.size_extract];omega
  ((refine zk (id:=8) [(0,true),(1,true),(2,true),(3,true),(4,true),(5,true),(6,true),(7,false),(8,false),(9,true),(10,false),(11,false)] 11 (by kernel_rfl) (by kernel_rfl) ?_);(repeat (first|(refine zq rfl (fun K hK=>?_);go_simp;(try simp (disch:=omega) only [IntWalk.i64_in,Int.tmod_eq_emod_of_nonneg,Int.tdiv_eq_ediv_of_nonneg]);refine hK _ ?_;clear hK K)|(refine zo rfl (fun K hK=>?_);go_simp;(first|(((go_at_call 117;refine (zd4 _ _ _ (by omega)).mono ?_));rintro e w' ⟨rfl,hb⟩;obtain ⟨X,rfl⟩:=hb.ext;clear hb)|(((go_at_call 116;refine (SC.use (zfm _ (by omega) (by omega) _ (by omega) (by omega) _ (by omega)) (fun _=>True) (fun _ _=>trivial) (by first|exact HL.out|exact HL.out.last) (⟨_,_,_,rfl,by (refine ⟨?_,?_,?_⟩<;>((repeat (first|with_reducible exact HW0.out _ _|with_reducible exact HW1.out _ _|with_reducible exact HW2.out _ _|with_reducible refine RdL.ext ?_ _))))⟩ : MRd _ _ _)).mono ?_));(rintro e w' ⟨v2,x,m2,rfl,hx,hm,hb,HL2⟩);clear HL;have HL:=Hd HL2;clear HL2;obtain ⟨f0,g0,f1,g1,f2,g2,rfl,q0,q1,q2⟩:=hm.form;obtain ⟨X,rfl⟩:=hb.ext;have Q0:=Hd q0;have Q1:=Hd q1;have Q2:=Hd q2;clear hm q0 q1 q2 hb));(try go_simp);refine hK _ _ (by show Sx _ _;repeat (first|with_reducible apply Sx.more|with_reducible apply Sx.ext|with_reducible exact Sx.refl _)) ?_;clear hK K)|(refine zy rfl rfl (fun K hK=>?_);go_simp;refine hK _ _ ?_;clear hK K)|(refine zo rfl (fun K hK=>?_);go_simp;refine hK _ _ (by show Sx _ _;repeat (with_reducible exact Sx.drew _)) ?_;clear hK K)));have Q0':=Q0.out;have Q1':=Q1.out;have Q2':=Q2.out;clear Q0 Q1 Q2;(try simp only [zm,zA,Array.append_assoc] at Q0' Q1' Q2');refine zM (fun W0=>Below w.heap.size w W0/\W0.heap[w.heap.size]?=some _/\W0.heap[w.heap.size+1]?=some _/\RdL zE W0 (.slice f0 m2.cells.length g0) m2.cells/\RdL zH W0 (.slice f1 m2.rd.length g1) m2.rd/\RdL zH W0 (.slice f2 m2.wr.length g2) m2.wr/\w.heap.size+1<W0.heap.size) ⟨(zV B _ _).ofExt _,(zx Z _ _ _).1,(zx Z _ _ _).2,zt (zh _) Z Q0' _ _,zt (ze _) Z Q1' _ _,zt (ze _) Z Q2' _ _,zb (zx Z _ _ _).2⟩ ?_;clear Q0' Q1' Q2';rintro w3 ⟨B',P,R,q0,q1,q2,Z'⟩;(clear HW0 HW1 HW2 B Z;have e1:=zl P R;rw [<- e1];clear e1;have HW0:=Hd (fun o r=>zf (zh _) q0 P R o r);have HW1:=Hd (fun o r=>zf (ze _) q1 P R o r);have HW2:=Hd (fun o r=>zf (ze _) q2 P R o r);have B:=B';have Z:=Z';(try clear Zp);have Zp:=Nat.lt_of_succ_lt Z;clear B' Z' P R q0 q1 q2))
  (repeat (first|go_skip|go_guarded|go_step|go_upon|go_back))
  rename Int=>sz
  have hs0:n / 8+1=(((n / 8).toNat+1:Nat):Int):=by omega
  rw [hs0]
  have hcnt:(sz.toNat+7) / 8 - ((n / 8).toNat+1)=(sz.toNat+7) / 8 - ((n / 8).toNat+1):=rfl
  clear hs0
  have hsb:(n / 8).toNat+1<=200:=by omega
  generalize (n / 8).toNat+1=s at HL hcnt hsb ⊢
  generalize hcd:(sz.toNat+7) / 8 - s=cnt at HL
  clear hcnt
  have hlen:(List.range' s cnt).length=cnt:=List.length_range'
  go_loopw [9] (fun k wr=>∃ (i:Nat) (m1:MachD),k=.int .i64 ((s+i:Nat):Int)/\i<=cnt/\MBx w wr m1/\Lft (Mp.each (fun p:Nat=>K.lay (K.blockKey id (p:Int)) ⟨#[]⟩) ((List.range' s cnt).drop i) >>= fun _=>K.setNum (K.sizeKey id) n >>= fun _=>pure (0:Int)) m1 (res,mres)) (fun k _=>cnt - ((intOf k).toNat - s))
  case atStart=>exact ⟨0,_,rfl,Nat.zero_le _,(⟨_,_,_,_,_,_,zV B _ _,(zZ Z _ _).1,(zZ Z _ _).2,HW0.out _ _,HW1.out _ _,HW2.out _ _⟩ : MBx _ _ _),HL.out⟩
  case round =>
   clear HL
   obtain ⟨i,m1,rfl,hi,hbx,hl⟩:=hrel
   obtain ⟨b0,d0,b1,d1,b2,d2,B',P,R,q0,q1,q2⟩:=hbx
   have Z':=zb R
   (clear HW0 HW1 HW2 B Z;have e1:=zl P R;rw [<- e1];clear e1;have HW0:=Hd (fun o r=>zf (zh _) q0 P R o r);have HW1:=Hd (fun o r=>zf (ze _) q1 P R o r);have HW2:=Hd (fun o r=>zf (ze _) q2 P R o r);have B:=B';have Z:=Z';(try clear Zp);have Zp:=Nat.lt_of_succ_lt Z;clear B' Z' P R q0 q1 q2;(try simp only []))
   by_cases hlt:i<cnt
   case pos =>
    have hl2:=hl.eachB_at (by rw [hlen];exact hlt)
    rw [List.getElem_range',Nat.one_mul] at hl2
    have HL:=Hd hl2
    clear hl hl2
    have hpl:((s+i:Nat):Int)*8<sz:=by omega
    have hpb:((s+i:Nat):Int)<=400:=by omega
    generalize hpp:s+i=pl at HL hpl hpb ⊢
    (repeat (first|go_skip|go_guarded|go_step|go_upon|go_back))
    ((refine zk (id:=11) [(0,true),(1,true),(2,true),(3,false),(4,false),(5,false)] 5 (by kernel_rfl) (by kernel_rfl) ?_);(repeat (first|(refine zq rfl (fun K hK=>?_);go_simp;refine hK _ ?_;clear hK K)|(refine zo rfl (fun K hK=>?_);go_simp;(first|(((go_at_call 118;refine (zaT _ _ _ (by omega) (by omega) (by omega) (by omega)).mono ?_));rintro e w' ⟨rfl,hb⟩;obtain ⟨X,rfl⟩:=hb.ext;clear hb)|(((go_at_call 84;refine (SC.use (zY _ _) (fun _=>True) (fun _ _=>trivial) (by first|exact HL.out|exact HL.out.last) (⟨_,_,_,rfl,by (refine ⟨?_,?_,?_⟩<;>((repeat (first|with_reducible exact HW0.out _ _|with_reducible exact HW1.out _ _|with_reducible exact HW2.out _ _|with_reducible refine RdL.ext ?_ _))))⟩ : MRd _ _ _)).mono ?_));(rintro e w' ⟨v2,x,m2,rfl,hx,hm,hb,HL2⟩);clear HL;have HL:=Hd HL2;clear HL2;obtain ⟨f0,g0,f1,g1,f2,g2,rfl,q0,q1,q2⟩:=hm.form;obtain ⟨X,rfl⟩:=hb.ext;have Q0:=Hd q0;have Q1:=Hd q1;have Q2:=Hd q2;clear hm q0 q1 q2 hb));(try go_simp);refine hK _ _ (by show Sx _ _;repeat (first|with_reducible apply Sx.more|with_reducible apply Sx.ext|with_reducible exact Sx.refl _)) ?_;clear hK K)|(refine zy rfl rfl (fun K hK=>?_);go_simp;refine hK _ _ ?_;clear hK K)));have Q0':=Q0.out;have Q1':=Q1.out;have Q2':=Q2.out;clear Q0 Q1 Q2;(try simp only [zm,zA,Array.append_assoc] at Q0' Q1' Q2');refine zM (fun W0=>Below w.heap.size w W0/\W0.heap[w.heap.size]?=some _/\W0.heap[w.heap.size+1]?=some _/\RdL zE W0 (.slice f0 m2.cells.length g0) m2.cells/\RdL zH W0 (.slice f1 m2.rd.length g1) m2.rd/\RdL zH W0 (.slice f2 m2.wr.length g2) m2.wr/\w.heap.size+1<W0.heap.size) ⟨(zV B _ _).ofExt _,(zx Z _ _ _).1,(zx Z _ _ _).2,zt (zh _) Z Q0' _ _,zt (ze _) Z Q1' _ _,zt (ze _) Z Q2' _ _,zb (zx Z _ _ _).2⟩ ?_;clear Q0' Q1' Q2';rintro w3 ⟨B',P,R,q0,q1,q2,Z'⟩;(clear HW0 HW1 HW2 B Z;have e1:=zl P R;rw [<- e1];clear e1;have HW0:=Hd (fun o r=>zf (zh _) q0 P R o r);have HW1:=Hd (fun o r=>zf (ze _) q1 P R o r);have HW2:=Hd (fun o r=>zf (ze _) q2 P R o r);have B:=B';have Z:=Z';(try clear Zp);have Zp:=Nat.lt_of_succ_lt Z;clear B' Z' P R q0 q1 q2))
    (repeat (first|go_skip|go_guarded|go_step|go_upon|go_back))
    go_roundw
    case rel=>exact ⟨i+1,m2,by (have:s+(i+1)=pl+1:=by omega);rw [this];go_num,by omega,(⟨_,_,_,_,_,_,zV B _ _,(zZ Z _ _).1,(zZ Z _ _).2,HW0.out _ _,HW1.out _ _,HW2.out _ _⟩ : MBx _ _ _),HL.out⟩
    case measure=>simp [intOf];omega
   case neg =>
    have HL:=Hd (hl.eachB_end (by rw [hlen];omega))
    clear hl
    have hpl:¬ ((s+i:Nat):Int)*8<sz:=by omega
    have hpb:((s+i:Nat):Int)<=400:=by omega
    generalize hpp:s+i=pl at HL hpl hpb ⊢
    (repeat (first|go_skip|go_guarded|go_step|go_upon|go_back))
    ((refine zk (id:=13) [(0,true),(1,true),(3,true),(2,false),(4,false),(5,false),(6,false)] 5 (by kernel_rfl) (by kernel_rfl) ?_);(repeat (first|(refine zq rfl (fun K hK=>?_);go_simp;refine hK _ ?_;clear hK K)|(refine zo rfl (fun K hK=>?_);go_simp;(first|(((go_at_call 87;refine (zS _ _ _ _ (by first|omega|decide) (by first|omega|decide) (by omega) (by omega)).mono ?_));rintro e w' ⟨rfl,hb⟩;obtain ⟨X,rfl⟩:=hb.ext;clear hb)|(((go_at_call 57;refine (SC.use (zK _ _ (by omega) (by omega)) (fun _=>True) (fun _ _=>trivial) (by first|exact HL.out|exact HL.out.last) (⟨_,_,_,rfl,by (refine ⟨?_,?_,?_⟩<;>((repeat (first|with_reducible exact HW0.out _ _|with_reducible exact HW1.out _ _|with_reducible exact HW2.out _ _|with_reducible refine RdL.ext ?_ _))))⟩ : MRd _ _ _)).mono ?_));(rintro e w' ⟨v2,x,m2,rfl,hx,hm,hb,HL2⟩);clear HL;have HL:=Hd HL2;clear HL2;obtain ⟨f0,g0,f1,g1,f2,g2,rfl,q0,q1,q2⟩:=hm.form;obtain ⟨X,rfl⟩:=hb.ext;have Q0:=Hd q0;have Q1:=Hd q1;have Q2:=Hd q2;clear hm q0 q1 q2 hb));(try go_simp);refine hK _ _ (by show Sx _ _;repeat (first|with_reducible apply Sx.more|with_reducible apply Sx.ext|with_reducible exact Sx.refl _)) ?_;clear hK K)|(refine zy rfl rfl (fun K hK=>?_);go_simp;refine hK _ _ ?_;clear hK K)));have Q0':=Q0.out;have Q1':=Q1.out;have Q2':=Q2.out;clear Q0 Q1 Q2;(try simp only [zm,zA,Array.append_assoc] at Q0' Q1' Q2');refine zM (fun W0=>Below w.heap.size w W0/\W0.heap[w.heap.size]?=some _/\W0.heap[w.heap.size+1]?=some _/\RdL zE W0 (.slice f0 m2.cells.length g0) m2.cells/\RdL zH W0 (.slice f1 m2.rd.length g1) m2.rd/\RdL zH W0 (.slice f2 m2.wr.length g2) m2.wr/\w.heap.size+1<W0.heap.size) ⟨(zV B _ _).ofExt _,(zx Z _ _ _).1,(zx Z _ _ _).2,zt (zh _) Z Q0' _ _,zt (ze _) Z Q1' _ _,zt (ze _) Z Q2' _ _,zb (zx Z _ _ _).2⟩ ?_;clear Q0' Q1' Q2';rintro w3 ⟨B',P,R,q0,q1,q2,Z'⟩;(clear HW0 HW1 HW2 B Z;have e1:=zl P R;rw [<- e1];clear e1;have HW0:=Hd (fun o r=>zf (zh _) q0 P R o r);have HW1:=Hd (fun o r=>zf (ze _) q1 P R o r);have HW2:=Hd (fun o r=>zf (ze _) q2 P R o r);have B:=B';have Z:=Z';(try clear Zp);have Zp:=Nat.lt_of_succ_lt Z;clear B' Z' P R q0 q1 q2))
    (repeat (first|go_skip|go_guarded|go_step|go_upon|go_back))
    all_goals (obtain ⟨rfl,rfl⟩:=HL.out.end;refine bodyPost_ret (by simp [results,Tryz.results94,go_sem,Z];rfl) rfl ?_;exact ⟨_,rfl,⟨_,_,_,rfl,HW0.out _ _,HW1.out _ _,HW2.out _ _⟩,zV B _ _⟩)
 ·skip
  rename Int=>sz
  have hs0:n / 8=(((n / 8).toNat:Nat):Int):=by omega
  rw [hs0]
  have hcnt:(sz.toNat+7) / 8 - ((n / 8).toNat)=(sz.toNat+7) / 8 - ((n / 8).toNat):=rfl
  clear hs0
  have hsb:(n / 8).toNat<=200:=by omega
  generalize (n / 8).toNat=s at HL hcnt hsb ⊢
  generalize hcd:(sz.toNat+7) / 8 - s=cnt at HL
  clear hcnt
  have hlen:(List.range' s cnt).length=cnt:=List.length_range'
  go_loopw [9] (fun k wr=>∃ (i:Nat) (m1:MachD),k=.int .i64 ((s+i:Nat):Int)/\i<=cnt/\MBx w wr m1/\Lft (Mp.each (fun p:Nat=>K.lay (K.blockKey id (p:Int)) ⟨#[]⟩) ((List.range' s cnt).drop i) >>= fun _=>K.setNum (K.sizeKey id) n >>= fun _=>pure (0:Int)) m1 (res,mres)) (fun k _=>cnt - ((intOf k).toNat - s))
  case atStart=>exact ⟨0,_,rfl,Nat.zero_le _,(⟨_,_,_,_,_,_,zV B _ _,(zZ Z _ _).1,(zZ Z _ _).2,HW0.out _ _,HW1.out _ _,HW2.out _ _⟩ : MBx _ _ _),HL.out⟩
  case round =>
   clear HL
   obtain ⟨i,m1,rfl,hi,hbx,hl⟩:=hrel
   obtain ⟨b0,d0,b1,d1,b2,d2,B',P,R,q0,q1,q2⟩:=hbx
   have Z':=zb R
   (clear HW0 HW1 HW2 B Z;have e1:=zl P R;rw [<- e1];clear e1;have HW0:=Hd (fun o r=>zf (zh _) q0 P R o r);have HW1:=Hd (fun o r=>zf (ze _) q1 P R o r);have HW2:=Hd (fun o r=>zf (ze _) q2 P R o r);have B:=B';have Z:=Z';(try clear Zp);have Zp:=Nat.lt_of_succ_lt Z;clear B' Z' P R q0 q1 q2;(try simp only []))
   by_cases hlt:i<cnt
   case pos =>
    have hl2:=hl.eachB_at (by rw [hlen];exact hlt)
    rw [List.getElem_range',Nat.one_mul] at hl2
    have HL:=Hd hl2
    clear hl hl2
    have hpl:((s+i:Nat):Int)*8<sz:=by omega
    have hpb:((s+i:Nat):Int)<=400:=by omega
    generalize hpp:s+i=pl at HL hpl hpb ⊢
    (repeat (first|go_skip|go_guarded|go_step|go_upon|go_back))
    ((refine zk (id:=11) [(0,true),(1,true),(2,true),(3,false),(4,false),(5,false)] 5 (by kernel_rfl) (by kernel_rfl) ?_);(repeat (first|(refine zq rfl (fun K hK=>?_);go_simp;refine hK _ ?_;clear hK K)|(refine zo rfl (fun K hK=>?_);go_simp;(first|(((go_at_call 118;refine (zaT _ _ _ (by omega) (by omega) (by omega) (by omega)).mono ?_));rintro e w' ⟨rfl,hb⟩;obtain ⟨X,rfl⟩:=hb.ext;clear hb)|(((go_at_call 84;refine (SC.use (zY _ _) (fun _=>True) (fun _ _=>trivial) (by first|exact HL.out|exact HL.out.last) (⟨_,_,_,rfl,by (refine ⟨?_,?_,?_⟩<;>((repeat (first|with_reducible exact HW0.out _ _|with_reducible exact HW1.out _ _|with_reducible exact HW2.out _ _|with_reducible refine RdL.ext ?_ _))))⟩ : MRd _ _ _)).mono ?_));(rintro e w' ⟨v2,x,m2,rfl,hx,hm,hb,HL2⟩);clear HL;have HL:=Hd HL2;clear HL2;obtain ⟨f0,g0,f1,g1,f2,g2,rfl,q0,q1,q2⟩:=hm.form;obtain ⟨X,rfl⟩:=hb.ext;have Q0:=Hd q0;have Q1:=Hd q1;have Q2:=Hd q2;clear hm q0 q1 q2 hb));(try go_simp);refine hK _ _ (by show Sx _ _;repeat (first|with_reducible apply Sx.more|with_reducible apply Sx.ext|with_reducible exact Sx.refl _)) ?_;clear hK K)|(refine zy rfl rfl (fun K hK=>?_);go_simp;refine hK _ _ ?_;clear hK K)));have Q0':=Q0.out;have Q1':=Q1.out;have Q2':=Q2.out;clear Q0 Q1 Q2;(try simp only [zm,zA,Array.append_assoc] at Q0' Q1' Q2');refine zM (fun W0=>Below w.heap.size w W0/\W0.heap[w.heap.size]?=some _/\W0.heap[w.heap.size+1]?=some _/\RdL zE W0 (.slice f0 m2.cells.length g0) m2.cells/\RdL zH W0 (.slice f1 m2.rd.length g1) m2.rd/\RdL zH W0 (.slice f2 m2.wr.length g2) m2.wr/\w.heap.size+1<W0.heap.size) ⟨(zV B _ _).ofExt _,(zx Z _ _ _).1,(zx Z _ _ _).2,zt (zh _) Z Q0' _ _,zt (ze _) Z Q1' _ _,zt (ze _) Z Q2' _ _,zb (zx Z _ _ _).2⟩ ?_;clear Q0' Q1' Q2';rintro w3 ⟨B',P,R,q0,q1,q2,Z'⟩;(clear HW0 HW1 HW2 B Z;have e1:=zl P R;rw [<- e1];clear e1;have HW0:=Hd (fun o r=>zf (zh _) q0 P R o r);have HW1:=Hd (fun o r=>zf (ze _) q1 P R o r);have HW2:=Hd (fun o r=>zf (ze _) q2 P R o r);have B:=B';have Z:=Z';(try clear Zp);have Zp:=Nat.lt_of_succ_lt Z;clear B' Z' P R q0 q1 q2))
    (repeat (first|go_skip|go_guarded|go_step|go_upon|go_back))
    go_roundw
    case rel=>exact ⟨i+1,m2,by (have:s+(i+1)=pl+1:=by omega);rw [this];go_num,by omega,(⟨_,_,_,_,_,_,zV B _ _,(zZ Z _ _).1,(zZ Z _ _).2,HW0.out _ _,HW1.out _ _,HW2.out _ _⟩ : MBx _ _ _),HL.out⟩
    case measure=>simp [intOf];omega
   case neg =>
    have HL:=Hd (hl.eachB_end (by rw [hlen];omega))
    clear hl
    have hpl:¬ ((s+i:Nat):Int)*8<sz:=by omega
    have hpb:((s+i:Nat):Int)<=400:=by omega
    generalize hpp:s+i=pl at HL hpl hpb ⊢
    (repeat (first|go_skip|go_guarded|go_step|go_upon|go_back))
    ((refine zk (id:=13) [(0,true),(1,true),(3,true),(2,false),(4,false),(5,false),(6,false)] 5 (by kernel_rfl) (by kernel_rfl) ?_);(repeat (first|(refine zq rfl (fun K hK=>?_);go_simp;refine hK _ ?_;clear hK K)|(refine zo rfl (fun K hK=>?_);go_simp;(first|(((go_at_call 87;refine (zS _ _ _ _ (by first|omega|decide) (by first|omega|decide) (by omega) (by omega)).mono ?_));rintro e w' ⟨rfl,hb⟩;obtain ⟨X,rfl⟩:=hb.ext;clear hb)|(((go_at_call 57;refine (SC.use (zK _ _ (by omega) (by omega)) (fun _=>True) (fun _ _=>trivial) (by first|exact HL.out|exact HL.out.last) (⟨_,_,_,rfl,by (refine ⟨?_,?_,?_⟩<;>((repeat (first|with_reducible exact HW0.out _ _|with_reducible exact HW1.out _ _|with_reducible exact HW2.out _ _|with_reducible refine RdL.ext ?_ _))))⟩ : MRd _ _ _)).mono ?_));(rintro e w' ⟨v2,x,m2,rfl,hx,hm,hb,HL2⟩);clear HL;have HL:=Hd HL2;clear HL2;obtain ⟨f0,g0,f1,g1,f2,g2,rfl,q0,q1,q2⟩:=hm.form;obtain ⟨X,rfl⟩:=hb.ext;have Q0:=Hd q0;have Q1:=Hd q1;have Q2:=Hd q2;clear hm q0 q1 q2 hb));(try go_simp);refine hK _ _ (by show Sx _ _;repeat (first|with_reducible apply Sx.more|with_reducible apply Sx.ext|with_reducible exact Sx.refl _)) ?_;clear hK K)|(refine zy rfl rfl (fun K hK=>?_);go_simp;refine hK _ _ ?_;clear hK K)));have Q0':=Q0.out;have Q1':=Q1.out;have Q2':=Q2.out;clear Q0 Q1 Q2;(try simp only [zm,zA,Array.append_assoc] at Q0' Q1' Q2');refine zM (fun W0=>Below w.heap.size w W0/\W0.heap[w.heap.size]?=some _/\W0.heap[w.heap.size+1]?=some _/\RdL zE W0 (.slice f0 m2.cells.length g0) m2.cells/\RdL zH W0 (.slice f1 m2.rd.length g1) m2.rd/\RdL zH W0 (.slice f2 m2.wr.length g2) m2.wr/\w.heap.size+1<W0.heap.size) ⟨(zV B _ _).ofExt _,(zx Z _ _ _).1,(zx Z _ _ _).2,zt (zh _) Z Q0' _ _,zt (ze _) Z Q1' _ _,zt (ze _) Z Q2' _ _,zb (zx Z _ _ _).2⟩ ?_;clear Q0' Q1' Q2';rintro w3 ⟨B',P,R,q0,q1,q2,Z'⟩;(clear HW0 HW1 HW2 B Z;have e1:=zl P R;rw [<- e1];clear e1;have HW0:=Hd (fun o r=>zf (zh _) q0 P R o r);have HW1:=Hd (fun o r=>zf (ze _) q1 P R o r);have HW2:=Hd (fun o r=>zf (ze _) q2 P R o r);have B:=B';have Z:=Z';(try clear Zp);have Zp:=Nat.lt_of_succ_lt Z;clear B' Z' P R q0 q1 q2))
    (repeat (first|go_skip|go_guarded|go_step|go_upon|go_back))
    all_goals (obtain ⟨rfl,rfl⟩:=HL.out.end;refine bodyPost_ret (by simp [results,Tryz.results94,go_sem,Z];rfl) rfl ?_;exact ⟨_,rfl,⟨_,_,_,rfl,HW0.out _ _,HW1.out _ _,HW2.out _ _⟩,zV B _ _⟩)
end Go.Proofs.YtncnbihlngapbaaGreat
