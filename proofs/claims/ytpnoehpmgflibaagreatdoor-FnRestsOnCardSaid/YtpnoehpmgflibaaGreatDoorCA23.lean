/- Texts of this claim, merged: the walks and what they stand on. Each condition stands in its theorem. -/
import Derived.Test.YtpnoehpmgflibaaGreatDoorCA21
import Derived.Test.YtpnoehpmgflibaaGreatDoorCA22
set_option linter.unusedVariables false
set_option linter.unusedSimpArgs false
set_option maxRecDepth 100000
set_option maxHeartbeats 8000000
namespace Go.Proofs.YtpnoehpmgflibaaGreatDoor
open Go.ChangeShapes Go.WideShapes Go.ChangeAt Go.RowKit
def zdR (proc:Int) (c:CallD):Mp AnswerD :=
 if c.kind=12 then K.doSpawn proc else if c.kind=13 then K.doEnd proc c.a else if c.kind=14 then K.codeN (K.reap proc c.a) else K.doKids proc
theorem zkt (parent:Int) (m:MachD) : 0<=((K.spawn parent).run m).1.1/\((K.spawn parent).run m).1.1<=999:=by
 unfold K.spawn
 rw [Mp.run_bind]
 split
 ·exact ⟨Int.le_refl 0,by show (0:Int)<=999;decide⟩
 ·rw [Mp.run_bind]
  exact zem _ _
def KidS (l:List Int):Prop:=l.length<=549755813888/\∀ x ∈ l,0<=x/\x<=999
theorem zkF (parent:Int):∀ (ks:List ByteArray) (b:List Int) (m:MachD),(∀ x ∈ b,0<=x/\x<=999)->(((Mp.fold (K.kid parent) b ks).run m).1.length<=b.length+ks.length/\∀ x ∈ ((Mp.fold (K.kid parent) b ks).run m).1,0<=x/\x<=999)
 | [],b,m,h=>⟨Nat.le_refl _,h⟩
 | k :: ks,b,m,h=>by
  show ((K.kid parent b k >>= fun b=>Mp.fold (K.kid parent) b ks).run m).1.length<=_/\∀ x ∈ ((K.kid parent b k >>= fun b=>Mp.fold (K.kid parent) b ks).run m).1,_
  rw [Mp.run_bind]
  have h1:((K.kid parent b k).run m).1.length<=b.length+1/\∀ x ∈ ((K.kid parent b k).run m).1,0<=x/\x<=999:=by
   unfold K.kid
   split
   ·rw [Mp.run_bind]
    split
    ·refine ⟨by show (b ++ [_]).length<=_;simp,fun x hx=>?_⟩
     rcases List.mem_append.1 hx with hx|hx
     ·exact h x hx
     ·rw [List.mem_singleton] at hx
      subst hx
      exact zeO _
    ·exact ⟨Nat.le_succ _,h⟩
   ·exact ⟨Nat.le_succ _,h⟩
  have ih:=zkF parent ks _ ((K.kid parent b k).run m).2 h1.2
  refine ⟨?_,ih.2⟩
  rw [List.length_cons]
  omega
theorem zl9 (parent:Int) (m:MachD) (h:(K.kids parent).fits m):KidS ((K.kids parent).run m).1:=by
 have h1:=zcp K.nR m ((Mp.fits_bind (K.under K.nR) _ m).1 h).1
 show KidS ((K.under K.nR >>= fun keys=>Mp.fold (K.kid parent) [] keys).run m).1
 rw [Mp.run_bind]
 have h2:=zkF parent ((K.under K.nR).run m).1 [] ((K.under K.nR).run m).2 (fun x hx=>by cases hx)
 refine ⟨?_,h2.2⟩
 have:=h1.1
 have:=h2.1
 simp only [List.length_nil] at this
 omega
theorem SCI.use {β : Type} {f:FuncId} {args:Value->Array Value} {p:Mp (List Int)} (h:SCI f args p) (S:List Int->Prop) (hS:∀ m,p.fits m->S (p.run m).1) {k:List Int->Mp β} {w:World} {v:Value} {m:MachD} {r : β × MachD} (L:Lft (p >>= k) m r) (hm:MRd w v m) :
  Calls Tryz.prog f (args v) w fun e w'=>∃ v' a1 n1 ks m1,e=.returned (.tuple #[v',.slice a1 ks.length n1])/\(S ks/\OwnL zep 3 w' w.heap.size (.slice a1 ks.length n1) ks)/\MRd w' v' m1/\Below w.heap.size w w'/\Lft (k ks) m1 r:=by
 refine (h w v m hm L.step.1).mono ?_
 rintro e w' ⟨v',vs,rfl,hr,hm',hb⟩
 obtain ⟨a1,n1,rfl⟩:=hr.rd.form
 exact ⟨v',_,_,_,_,rfl,⟨hS m L.step.1,hr⟩,hm',hb,L.step.2⟩
structure KBx (w:World) (q:Nat) (c:Obj) (m:MachD) (v0 v1 v2 vl:Value) (ks:List Int) (wr:World) (t:ByteArray):Prop where
 bel:Below w.heap.size w wr
 P:wr.heap[w.heap.size]?=some (.cells #[v0,v1,v2] 54 (0,0))
 C:wr.heap[w.heap.size+1]?=some c
 R:wr.heap[w.heap.size+1+1]?=some (.cells #[.slice none 0 0,.slice none 0 0,.slice none 0 0] 54 (0,0))
 A:wr.heap[w.heap.size+1+1+1]?=some (.cells #[.int .i64 0,.int .i64 0,.string ⟨#[]⟩] 30 (0,0))
 Q:wr.heap[q]?=some (.cells #[.int .i64 0,.int .i64 0,.string t] 30 (0,0))
 r0:∀ o r s a,RdL zu (fv wr w.heap.size q o c r s a) v0 m.cells
 r1:∀ o r s a,RdL zx (fv wr w.heap.size q o c r s a) v1 m.rd
 r2:∀ o r s a,RdL zx (fv wr w.heap.size q o c r s a) v2 m.wr
 rl:∀ o r s a,RdL zep (fv wr w.heap.size q o c r s a) vl ks
theorem KBx.make {w:World} {q:Nat} {c:Obj} {m:MachD} {v0 v1 v2 vl:Value} {ks:List Int} {W:World} (B:Below w.heap.size w W) (hq:w.heap.size+3<q) (hs:q<W.heap.size)
  (r0:∀ o r s a,RdL zu (fv W w.heap.size q o c r s a) v0 m.cells) (r1:∀ o r s a,RdL zx (fv W w.heap.size q o c r s a) v1 m.rd) (r2:∀ o r s a,RdL zx (fv W w.heap.size q o c r s a) v2 m.wr) (rl:∀ o r s a,RdL zep (fv W w.heap.size q o c r s a) vl ks) (t':ByteArray) :
  KBx w q c m v0 v1 v2 vl ks (fv W w.heap.size q (.cells #[v0,v1,v2] 54 (0,0)) c (.cells #[.slice none 0 0,.slice none 0 0,.slice none 0 0] 54 (0,0)) (.cells #[.int .i64 0,.int .i64 0,.string ⟨#[]⟩] 30 (0,0)) (.cells #[.int .i64 0,.int .i64 0,.string t'] 30 (0,0))) t':=by
 have hat:=fv_at hq hs (.cells #[v0,v1,v2] 54 (0,0)) c (.cells #[.slice none 0 0,.slice none 0 0,.slice none 0 0] 54 (0,0)) (.cells #[.int .i64 0,.int .i64 0,.string ⟨#[]⟩] 30 (0,0)) (.cells #[.int .i64 0,.int .i64 0,.string t'] 30 (0,0))
 exact ⟨zdM B hq _ _ _ _ _,hat.1,hat.2.1,hat.2.2.1,hat.2.2.2.1,hat.2.2.2.2,zbj (by decide) hq hs r0 (r0 _ _ _ _) hat.2.1,zbj (by decide) hq hs r1 (r1 _ _ _ _) hat.2.1,zbj (by decide) hq hs r2 (r2 _ _ _ _) hat.2.1,zbj (by decide) hq hs rl (rl _ _ _ _) hat.2.1⟩
theorem KBx.inn {w:World} {q:Nat} {c:Obj} {m:MachD} {v0 v1 v2 vl:Value} {ks:List Int} {wr:World} {t:ByteArray} (h:KBx w q c m v0 v1 v2 vl ks wr t):RdL zu wr v0 m.cells/\RdL zx wr v1 m.rd/\RdL zx wr v2 m.wr/\RdL zep wr vl ks:=by
 have e:fv wr w.heap.size q _ c _ _ _=wr:=zaQ h.P h.C h.R h.A h.Q
 exact ⟨e ▸ h.r0 _ _ _ _,e ▸ h.r1 _ _ _ _,e ▸ h.r2 _ _ _ _,e ▸ h.rl _ _ _ _⟩
theorem KBx.ext {w:World} {q:Nat} {c:Obj} {m:MachD} {v0 v1 v2 vl:Value} {ks:List Int} {wr:World} {t:ByteArray} (h:KBx w q c m v0 v1 v2 vl ks wr t) (hq:w.heap.size+3<q) (X:Ext):KBx w q c m v0 v1 v2 vl ks (wr.ext X) t:=by
 have hs:=za h.Q
 have C':=(World.ext_get _ X (za h.C)).trans h.C
 have k:=h.inn
 exact ⟨h.bel.ofExt X,(World.ext_get _ X (za h.P)).trans h.P,C',(World.ext_get _ X (za h.R)).trans h.R,(World.ext_get _ X (za h.A)).trans h.A,(World.ext_get _ X (za h.Q)).trans h.Q,
  zbj (by decide) hq hs h.r0 (k.1.ext X) C',zbj (by decide) hq hs h.r1 (k.2.1.ext X) C',zbj (by decide) hq hs h.r2 (k.2.2.1.ext X) C',zbj (by decide) hq hs h.rl (k.2.2.2.ext X) C'⟩
theorem KBx.drew {w:World} {q:Nat} {c:Obj} {m:MachD} {v0 v1 v2 vl:Value} {ks:List Int} {wr:World} {t:ByteArray} (h:KBx w q c m v0 v1 v2 vl ks wr t) (hq:w.heap.size+3<q):KBx w q c m v0 v1 v2 vl ks wr.drew t:=by
 have hs:=za h.Q
 have k:=h.inn
 exact ⟨Below.drew h.bel,h.P,h.C,h.R,h.A,h.Q,zbj (by decide) hq hs h.r0 (RdL.drew k.1) h.C,zbj (by decide) hq hs h.r1 (RdL.drew k.2.1) h.C,zbj (by decide) hq hs h.r2 (RdL.drew k.2.2.1) h.C,zbj (by decide) hq hs h.rl (RdL.drew k.2.2.2) h.C⟩
theorem own_fv {ks:List Int} {e:TypeId} {W:World} {Bs p q:Nat} {v:Value} {c:Obj} (h:OwnL zep e W Bs v ks) (hB:q<Bs) (hq:p+3<q) (o r s a:Obj):RdL zep (fv W p q o c r s a) v ks:=by
 have hl:=fun k hk=>(h.lt k hk).1
 exact ((((((h.rd.setB (fun e=>by have:=hl _ e;omega) o).setB (fun e=>by have:=hl _ e;omega) c).setB (fun e=>by have:=hl _ e;omega) r).setB (fun e=>by have:=hl _ e;omega) s)).setB (fun e=>by have:=hl _ e;omega) a)
theorem int_at {W:Obj->Obj->Obj->Obj->World} {al:Option Addr} {nl:Nat} {ks:List Int} (h:∀ o r s a,RdL zep (W o r s a) (.slice al ks.length nl) ks) {n:Nat} (hn:n<ks.length) (o0:Obj):∃ b off,al=some ⟨b,off,none⟩/\b<(W o0 o0 o0 o0).heap.size/\∀ o r s a,(W o r s a).cell? ⟨b,off+n,none⟩=some (.int .i64 ks[n]):=by
 have hne:ks ≠ []:=by intro e;rw [e] at hn;cases hn
 obtain ⟨ao,cap,e0,_,_,_,h4⟩:=(h o0 o0 o0 o0).shape
 obtain ⟨b,off,e,hb,_⟩:=h4 hne
 cases e0
 refine ⟨b,off,e,hb (by decide),fun o r s a=>?_⟩
 obtain ⟨ao,cap,e0,_,_,_,h4⟩:=(h o r s a).shape
 obtain ⟨b',off',e',hb',hc⟩:=h4 hne
 cases e0
 rw [e] at e'
 cases e'
 have:=hc n hn 0 (.int .i64 ks[n]) rfl
 rwa [show off+n*zep.k+0=off+n by show off+n*1+0 = _;omega] at this
theorem zcq (proc:Int) (hp0 : -9223372036854775808<=proc) (hp1:proc<=9223372036854775807) (c:CallD) (ha0 : -9223372036854775808<=c.a) (ha1:c.a<=9223372036854775807):SC 131 (fun x=>#[x,.int .i64 proc,zaM c]) (zdR proc c) (fun v' a=>.tuple #[v',zdc a]):=by
 obtain ⟨kd,nm,tn,ca,cb,tx⟩:=c
 dsimp only at ha0 ha1
 refine zeq (fun w m a0 c0 a1 c1 a2 c2 res mres H0 H1 H2 HL=>?_)
 unfold zdR at HL
 unfold zaM
 dsimp only at HL ⊢
 go_enter Tryz.func131,Tryz.ntmps131
 (try simp only [])
 ((repeat (first|((with_reducible refine zcK (fun W0=>Below w.heap.size w W0/\W0.heap[w.heap.size]?=some (.cells #[.slice a0 m.cells.length c0,.slice a1 m.rd.length c1,.slice a2 m.wr.length c2] 54)/\W0.heap[w.heap.size+1]?=some (.cells #[.int .i64 kd,.string nm,.string tn,.int .i64 ca,.int .i64 cb,.string tx] 26)/\W0.heap[w.heap.size+1+1]?=some (.cells #[.slice none 0 0,.slice none 0 0,.slice none 0 0] 54)/\W0.heap[w.heap.size+1+1+1]?=some (.cells #[.int .i64 0,.int .i64 0,.string ⟨#[]⟩] 30)/\W0.heap[w.heap.size+1+1+1+1]?=some (.cells #[.int .i64 0,.int .i64 0,.string ⟨#[]⟩] 30)) ?_ ?_);(· with_reducible exact zli w (.cells #[.slice a0 m.cells.length c0,.slice a1 m.rd.length c1,.slice a2 m.wr.length c2] 54) (.cells #[.int .i64 kd,.string nm,.string tn,.int .i64 ca,.int .i64 cb,.string tx] 26) (.cells #[.slice none 0 0,.slice none 0 0,.slice none 0 0] 54) (.cells #[.int .i64 0,.int .i64 0,.string ⟨#[]⟩] 30) (.cells #[.int .i64 0,.int .i64 0,.string ⟨#[]⟩] 30) (by repeat (first|with_reducible exact Below.refl _ _|with_reducible apply Below.ofAlloc))))|go_skip|go_guarded|go_step|go_upon|go_back));have HSM:=Hd (Mp.fits_small HL.out.1);rintro w1 ⟨B,P,C,R,A,Q⟩;have q0:=H0.out.below B;have q1:=H1.out.below B;have q2:=H2.out.below B;clear H0 H1 H2;(have Z4:w.heap.size+3<w.heap.size+1+1+1+1:=by omega);generalize w.heap.size+1+1+1+1=q at Z4 Q ⊢;(have n0:¬ w.heap.size=q:=by omega);(have n0':¬ q=w.heap.size:=by omega);(have n1:¬ w.heap.size+1=q:=by omega);(have n1':¬ q=w.heap.size+1:=by omega);(have n2:¬ w.heap.size+1+1=q:=by omega);(have n2':¬ q=w.heap.size+1+1:=by omega);(have n3:¬ w.heap.size+1+1+1=q:=by omega);(have n3':¬ q=w.heap.size+1+1+1:=by omega);(have e1:=zaQ P C R A Q;rw [<- e1];clear e1;have HW0:=Hd (fun o r s a=>zF (zf _) (zz _) q0 Z4 P C R A Q o r s a);have HW1:=Hd (fun o r s a=>zF (zc _) (zn HSM.out.rn) q1 Z4 P C R A Q o r s a);have HW2:=Hd (fun o r s a=>zF (zc _) (zn HSM.out.wn) q2 Z4 P C R A Q o r s a);((have y0:=za P;have y1:=za C;have y2:=za R;have y3:=za A);have yq:=za Q);clear P C R A Q q0 q1 q2))
 by_cases k12:kd=12
 ·subst k12
  rw [if_pos rfl] at HL
  unfold K.doSpawn at HL
  (repeat (first|go_skip|go_guarded|go_step|go_upon|go_back))
  (((go_at_call 134;refine (SC.use2 (zcP _ (by omega) (by omega)) (fun p=>0<=p.1/\p.1<=999) (fun m _=>zkt _ m) (by first|exact HL.out|exact HL.out.last) (⟨_,_,_,rfl,HW0.out _ _ _ _,HW1.out _ _ _ _,HW2.out _ _ _ _⟩ : MRd _ _ _)).mono ?_));((rintro e w2 ⟨v2,x,y,m2,rfl,hx,hm,hb,HL2⟩);obtain ⟨b0,d0,b1,d1,b2,d2,rfl,q0,q1,q2⟩:=hm.form;obtain ⟨B',P,C,R,A,Q,Z'⟩:=z7 B Z4 yq hb;clear hm hb HW0 HW1 HW2 B HSM y0 y1 y2 y3 yq Z';have B:=B';clear B';have HSM:=Hd (Mp.fits_small HL2.1);(have e1:=zaQ P C R A Q;rw [<- e1];clear e1;have HW0:=Hd (fun o r s a=>zF (zf _) (zz _) q0 Z4 P C R A Q o r s a);have HW1:=Hd (fun o r s a=>zF (zc _) (zn HSM.out.rn) q1 Z4 P C R A Q o r s a);have HW2:=Hd (fun o r s a=>zF (zc _) (zn HSM.out.wn) q2 Z4 P C R A Q o r s a);((have y0:=za P;have y1:=za C;have y2:=za R;have y3:=za A);have yq:=za Q);clear P C R A Q q0 q1 q2;(try simp only []));(try dsimp only at HL2);clear HL;have HL:=Hd HL2;clear HL2))
  (try simp only [])
  ((repeat' ((rcases HL.out.ite with ⟨hg,HL2⟩|⟨hg,HL2⟩<;>(clear HL;have HL:=Hd HL2;clear HL2)))))
  ·(try dsimp only at hg)
   subst hg
   (repeat (first|go_skip|go_guarded|go_step|go_upon|go_back))
   (((go_at_call 198;refine (SC.use (zfh _ (by omega) (by omega) _ (by omega) (by omega)) (fun _=>True) (fun _ _=>trivial) (by first|exact HL.out|exact HL.out.last) (⟨_,_,_,rfl,HW0.out _ _ _ _,HW1.out _ _ _ _,HW2.out _ _ _ _⟩ : MRd _ _ _)).mono ?_));((rintro e w2 ⟨v2,x,m2,rfl,hx,hm,hb,HL2⟩);obtain ⟨b0,d0,b1,d1,b2,d2,rfl,q0,q1,q2⟩:=hm.form;obtain ⟨B',P,C,R,A,Q,Z'⟩:=z7 B Z4 yq hb;clear hm hb HW0 HW1 HW2 B HSM y0 y1 y2 y3 yq Z';have B:=B';clear B';have HSM:=Hd (Mp.fits_small HL2.1);(have e1:=zaQ P C R A Q;rw [<- e1];clear e1;have HW0:=Hd (fun o r s a=>zF (zf _) (zz _) q0 Z4 P C R A Q o r s a);have HW1:=Hd (fun o r s a=>zF (zc _) (zn HSM.out.rn) q1 Z4 P C R A Q o r s a);have HW2:=Hd (fun o r s a=>zF (zc _) (zn HSM.out.wn) q2 Z4 P C R A Q o r s a);((have y0:=za P;have y1:=za C;have y2:=za R;have y3:=za A);have yq:=za Q);clear P C R A Q q0 q1 q2;(try simp only []));clear HL;have HL:=Hd HL2;clear HL2))
   ((repeat (first|go_skip|go_guarded|go_step|go_upon|go_back));go_region;(all_goals (repeat (first|go_skip|go_guarded|go_step|go_upon|go_back)));(all_goals (obtain ⟨rfl,rfl⟩:=HL.out.end;refine bodyPost_ret (by simp [results,Tryz.results131,go_sem,y0,y1,y2,y3,yq,n0,n0',n1,n1',n2,n2',n3,n3'];rfl) rfl ?_;(exact ⟨_,rfl,⟨_,_,_,rfl,RdL.drew (HW0.out _ _ _ _),RdL.drew (HW1.out _ _ _ _),RdL.drew (HW2.out _ _ _ _)⟩,Below.drew (zdM B Z4 _ _ _ _ _)⟩))))
  ·((repeat (first|go_skip|go_guarded|go_step|go_upon|go_back));go_region;(all_goals (repeat (first|go_skip|go_guarded|go_step|go_upon|go_back)));(all_goals (obtain ⟨rfl,rfl⟩:=HL.out.end;refine bodyPost_ret (by simp [results,Tryz.results131,go_sem,y0,y1,y2,y3,yq,n0,n0',n1,n1',n2,n2',n3,n3'];rfl) rfl ?_;(exact ⟨_,rfl,⟨_,_,_,rfl,RdL.drew (HW0.out _ _ _ _),RdL.drew (HW1.out _ _ _ _),RdL.drew (HW2.out _ _ _ _)⟩,Below.drew (zdM B Z4 _ _ _ _ _)⟩))))
 rw [if_neg k12] at HL
 by_cases k13:kd=13
 ·subst k13
  rw [if_pos rfl] at HL
  unfold K.doEnd at HL
  (repeat (first|go_skip|go_guarded|go_step|go_upon|go_back))
  (((go_at_call 199;refine (SC.use (zgp _ (by omega) (by omega) _ (by omega) (by omega)) (fun _=>True) (fun _ _=>trivial) (by first|exact HL.out|exact HL.out.last) (⟨_,_,_,rfl,HW0.out _ _ _ _,HW1.out _ _ _ _,HW2.out _ _ _ _⟩ : MRd _ _ _)).mono ?_));((rintro e w2 ⟨v2,x,m2,rfl,hx,hm,hb,HL2⟩);obtain ⟨b0,d0,b1,d1,b2,d2,rfl,q0,q1,q2⟩:=hm.form;obtain ⟨B',P,C,R,A,Q,Z'⟩:=z7 B Z4 yq hb;clear hm hb HW0 HW1 HW2 B HSM y0 y1 y2 y3 yq Z';have B:=B';clear B';have HSM:=Hd (Mp.fits_small HL2.1);(have e1:=zaQ P C R A Q;rw [<- e1];clear e1;have HW0:=Hd (fun o r s a=>zF (zf _) (zz _) q0 Z4 P C R A Q o r s a);have HW1:=Hd (fun o r s a=>zF (zc _) (zn HSM.out.rn) q1 Z4 P C R A Q o r s a);have HW2:=Hd (fun o r s a=>zF (zc _) (zn HSM.out.wn) q2 Z4 P C R A Q o r s a);((have y0:=za P;have y1:=za C;have y2:=za R;have y3:=za A);have yq:=za Q);clear P C R A Q q0 q1 q2;(try simp only []));clear HL;have HL:=Hd HL2;clear HL2))
  ((repeat' ((rcases HL.out.ite with ⟨hg,HL2⟩|⟨hg,HL2⟩<;>(clear HL;have HL:=Hd HL2;clear HL2)))))
  ·subst hg
   (repeat (first|go_skip|go_guarded|go_step|go_upon|go_back))
   (((go_at_call 200;refine (SC.use (zfi _ (by omega) (by omega)) (fun _=>True) (fun _ _=>trivial) (by first|exact HL.out|exact HL.out.last) (⟨_,_,_,rfl,HW0.out _ _ _ _,HW1.out _ _ _ _,HW2.out _ _ _ _⟩ : MRd _ _ _)).mono ?_));((rintro e w2 ⟨v2,x,m2,rfl,hx,hm,hb,HL2⟩);obtain ⟨b0,d0,b1,d1,b2,d2,rfl,q0,q1,q2⟩:=hm.form;obtain ⟨B',P,C,R,A,Q,Z'⟩:=z7 B Z4 yq hb;clear hm hb HW0 HW1 HW2 B HSM y0 y1 y2 y3 yq Z';have B:=B';clear B';have HSM:=Hd (Mp.fits_small HL2.1);(have e1:=zaQ P C R A Q;rw [<- e1];clear e1;have HW0:=Hd (fun o r s a=>zF (zf _) (zz _) q0 Z4 P C R A Q o r s a);have HW1:=Hd (fun o r s a=>zF (zc _) (zn HSM.out.rn) q1 Z4 P C R A Q o r s a);have HW2:=Hd (fun o r s a=>zF (zc _) (zn HSM.out.wn) q2 Z4 P C R A Q o r s a);((have y0:=za P;have y1:=za C;have y2:=za R;have y3:=za A);have yq:=za Q);clear P C R A Q q0 q1 q2;(try simp only []));clear HL;have HL:=Hd HL2;clear HL2))
   ((repeat (first|go_skip|go_guarded|go_step|go_upon|go_back));go_region;(all_goals (repeat (first|go_skip|go_guarded|go_step|go_upon|go_back)));(all_goals (obtain ⟨rfl,rfl⟩:=HL.out.end;refine bodyPost_ret (by simp [results,Tryz.results131,go_sem,y0,y1,y2,y3,yq,n0,n0',n1,n1',n2,n2',n3,n3'];rfl) rfl ?_;(exact ⟨_,rfl,⟨_,_,_,rfl,RdL.drew (HW0.out _ _ _ _),RdL.drew (HW1.out _ _ _ _),RdL.drew (HW2.out _ _ _ _)⟩,Below.drew (zdM B Z4 _ _ _ _ _)⟩))))
  ·((repeat (first|go_skip|go_guarded|go_step|go_upon|go_back));go_region;(all_goals (repeat (first|go_skip|go_guarded|go_step|go_upon|go_back)));(all_goals (obtain ⟨rfl,rfl⟩:=HL.out.end;refine bodyPost_ret (by simp [results,Tryz.results131,go_sem,y0,y1,y2,y3,yq,n0,n0',n1,n1',n2,n2',n3,n3'];rfl) rfl ?_;(exact ⟨_,rfl,⟨_,_,_,rfl,RdL.drew (HW0.out _ _ _ _),RdL.drew (HW1.out _ _ _ _),RdL.drew (HW2.out _ _ _ _)⟩,Below.drew (zdM B Z4 _ _ _ _ _)⟩))))
 rw [if_neg k13] at HL
 by_cases k14:kd=14
 ·subst k14
  rw [if_pos rfl] at HL
  unfold K.codeN at HL
  (repeat (first|go_skip|go_guarded|go_step|go_upon|go_back))
  (((go_at_call 201;refine (SC.use2 (zfT _ (by omega) (by omega) _ (by omega) (by omega)) (fun _=>True) (fun _ _=>trivial) (by first|exact HL.out|exact HL.out.last) (⟨_,_,_,rfl,HW0.out _ _ _ _,HW1.out _ _ _ _,HW2.out _ _ _ _⟩ : MRd _ _ _)).mono ?_));((rintro e w2 ⟨v2,x,y,m2,rfl,hx,hm,hb,HL2⟩);obtain ⟨b0,d0,b1,d1,b2,d2,rfl,q0,q1,q2⟩:=hm.form;obtain ⟨B',P,C,R,A,Q,Z'⟩:=z7 B Z4 yq hb;clear hm hb HW0 HW1 HW2 B HSM y0 y1 y2 y3 yq Z';have B:=B';clear B';have HSM:=Hd (Mp.fits_small HL2.1);(have e1:=zaQ P C R A Q;rw [<- e1];clear e1;have HW0:=Hd (fun o r s a=>zF (zf _) (zz _) q0 Z4 P C R A Q o r s a);have HW1:=Hd (fun o r s a=>zF (zc _) (zn HSM.out.rn) q1 Z4 P C R A Q o r s a);have HW2:=Hd (fun o r s a=>zF (zc _) (zn HSM.out.wn) q2 Z4 P C R A Q o r s a);((have y0:=za P;have y1:=za C;have y2:=za R;have y3:=za A);have yq:=za Q);clear P C R A Q q0 q1 q2;(try simp only []));(try dsimp only at HL2);clear HL;have HL:=Hd HL2;clear HL2))
  ((repeat (first|go_skip|go_guarded|go_step|go_upon|go_back));go_region;(all_goals (repeat (first|go_skip|go_guarded|go_step|go_upon|go_back)));(all_goals (obtain ⟨rfl,rfl⟩:=HL.out.end;refine bodyPost_ret (by simp [results,Tryz.results131,go_sem,y0,y1,y2,y3,yq,n0,n0',n1,n1',n2,n2',n3,n3'];rfl) rfl ?_;(exact ⟨_,rfl,⟨_,_,_,rfl,RdL.drew (HW0.out _ _ _ _),RdL.drew (HW1.out _ _ _ _),RdL.drew (HW2.out _ _ _ _)⟩,Below.drew (zdM B Z4 _ _ _ _ _)⟩))))
 rw [if_neg k14] at HL
 unfold K.doKids at HL
 (repeat (first|go_skip|go_guarded|go_step|go_upon|go_back))
 refine opqC (fun W0=>Below w.heap.size w W0/\W0.heap[w.heap.size]?=some (.cells #[.slice a0 m.cells.length c0,.slice a1 m.rd.length c1,.slice a2 m.wr.length c2] 54)/\W0.heap[w.heap.size+1]?=some (.cells #[.int .i64 kd,.string nm,.string tn,.int .i64 ca,.int .i64 cb,.string tx] 26)/\W0.heap[w.heap.size+1+1]?=some (.cells #[.slice none 0 0,.slice none 0 0,.slice none 0 0] 54)/\W0.heap[w.heap.size+1+1+1]?=some (.cells #[.int .i64 0,.int .i64 0,.string ⟨#[]⟩] 30)/\W0.heap[q]?=some (.cells #[.int .i64 0,.int .i64 0,.string ⟨#[]⟩] 30)/\RdL zu W0 (.slice a0 m.cells.length c0) m.cells/\RdL zx W0 (.slice a1 m.rd.length c1) m.rd/\RdL zx W0 (.slice a2 m.wr.length c2) m.wr) (fv_more _ B Z4 yq (HW0.out _ _ _ _) (HW1.out _ _ _ _) (HW2.out _ _ _ _)) ?_
 rintro w5 ⟨B',P,C,R,A,Q,q0,q1,q2⟩
 clear HW0 HW1 HW2 B y0 y1 y2 y3 yq
 have B:=B'
 clear B'
 (have e1:=zaQ P C R A Q;rw [<- e1];clear e1;have HW0:=Hd (fun o r s a=>zF (zf _) (zz _) q0 Z4 P C R A Q o r s a);have HW1:=Hd (fun o r s a=>zF (zc _) (zn HSM.out.rn) q1 Z4 P C R A Q o r s a);have HW2:=Hd (fun o r s a=>zF (zc _) (zn HSM.out.wn) q2 Z4 P C R A Q o r s a);((have y0:=za P;have y1:=za C;have y2:=za R;have y3:=za A);have yq:=za Q);clear P C R A Q q0 q1 q2;(try simp only []))
 (go_at_call 202;refine (SCI.use (zhc proc hp0 hp1) KidS (fun m h=>zl9 proc m h) HL.out (⟨_,_,_,rfl,HW0.out _ _ _ _,HW1.out _ _ _ _,HW2.out _ _ _ _⟩ : MRd _ _ _)).mono ?_)
 rintro e w2 ⟨v2,al,nl,ks,m2,rfl,⟨hks,hol⟩,hm,hb,HL2⟩
 have HSM2:=Hd (Mp.fits_small HL2.1)
 obtain ⟨b0,d0,b1,d1,b2,d2,rfl,q0,q1,q2⟩:=hm.form
 obtain ⟨B',P,C,R,A,Q,Z'⟩:=z7 B Z4 yq hb
 have hol2:=OwnL.base (B':=q+1) hol (by rw [zd,zd,zd,zd,zd];omega)
 have HRL:=Hd (fun o r s a=>own_fv (p:=w.heap.size) (c:=.cells #[.int .i64 kd,.string nm,.string tn,.int .i64 ca,.int .i64 cb,.string tx] 26) hol2 (Nat.lt_succ_self _) Z4 o r s a)
 clear hm hb HW0 HW1 HW2 B HSM y0 y1 y2 y3 yq Z' hol hol2
 have B:=B'
 have HSM:=HSM2
 clear B' HSM2
 (have e1:=zaQ P C R A Q;rw [<- e1];clear e1;have HW0:=Hd (fun o r s a=>zF (zf _) (zz _) q0 Z4 P C R A Q o r s a);have HW1:=Hd (fun o r s a=>zF (zc _) (zn HSM.out.rn) q1 Z4 P C R A Q o r s a);have HW2:=Hd (fun o r s a=>zF (zc _) (zn HSM.out.wn) q2 Z4 P C R A Q o r s a);((have y0:=za P;have y1:=za C;have y2:=za R;have y3:=za A);have yq:=za Q);clear P C R A Q q0 q1 q2;(try simp only []))
 have hres:=Hd HL2.end
 clear HL HL2
 have hkl:=hks.1
 (repeat (first|go_skip|go_guarded|go_step|go_upon|go_back))
 have j12:(kd==12)=false:=beq_eq_false_iff_ne.2 k12
 have j13:(kd==13)=false:=beq_eq_false_iff_ne.2 k13
 have j14:(kd==14)=false:=beq_eq_false_iff_ne.2 k14
 simp only [j12,j13,j14]
 go_loopw [10] (fun k wr=>∃ (n:Nat) (t:ByteArray),k=.int .i64 n/\n<=ks.length/\t=K.wordsOf ((ks.take n).map fun n=>zX (Lib.itoa n))/\t.size<=n*22/\KBx w q (.cells #[.int .i64 kd,.string nm,.string tn,.int .i64 ca,.int .i64 cb,.string tx] 26) m2 (.slice b0 m2.cells.length d0) (.slice b1 m2.rd.length d1) (.slice b2 m2.wr.length d2) (.slice al ks.length nl) ks wr t) (fun k _=>ks.length - (intOf k).toNat)
 case atStart=>exact ⟨0,⟨#[]⟩,rfl,Nat.zero_le _,rfl,Nat.zero_le _,KBx.make B Z4 yq HW0.out HW1.out HW2.out HRL.out ⟨#[]⟩⟩
 case round =>
  clear HW0 HW1 HW2 HRL B y0 y1 y2 y3 yq
  obtain ⟨n,t,rfl,hn,ht,htz,hkb⟩:=hrel
  have HT:=Hd ht
  clear ht
  obtain ⟨B,P,C,R,A,Q,q0,q1,q2,ql⟩:=hkb
  have HW0:=Hd q0
  have HW1:=Hd q1
  have HW2:=Hd q2
  have HRL:=Hd ql
  have e1:=zaQ P C R A Q
  rw [<- e1]
  clear e1 q0 q1 q2 ql
  ((have y0:=za P;have y1:=za C;have y2:=za R;have y3:=za A);have yq:=za Q)
  clear P C R A Q
  by_cases hlt:(n:Int)<ks.length
  case pos =>
   have hk2:n<ks.length:=by omega
   obtain ⟨b,off,rfl,hbl,hce⟩:=int_at HRL.out hk2 (.cells #[] 0)
   rw [zmo] at hbl
   have hkz:=hks.2 _ (List.getElem_mem hk2)
   have hsn:=zco ((ks.take n).map fun n=>zX (Lib.itoa n)) (zX (Lib.itoa ks[n]))
   have e2:(ks.take n).map (fun n=>zX (Lib.itoa n)) ++ [zX (Lib.itoa ks[n])]=(ks.take (n+1)).map fun n=>zX (Lib.itoa n):=by
    rw [List.take_succ_eq_append_getElem hk2,List.map_append]
    rfl
   rw [e2,<- HT.out] at hsn
   have D:=Hd (fun w=>zbQ ks[n] w (by omega) (by omega))
   have hkz2:(zX (Lib.itoa ks[n])).size<=21:=by
    rw [zN]
    exact Lib.itoa_length_le _ (by omega) (by omega)
   have HSN:=Hd hsn
   clear hsn e2
   generalize zX (Lib.itoa ks[n])=key at D hkz2 HSN
   generalize ks[n]=kn at D hce hkz
   have hc1:¬ 9223372036854775807<t.size+key.size:=by omega
   have hc2:¬ 9223372036854775807<t.size+key.size+1:=by omega
   have hz2:(t++key++K.space).size<=(n+1)*22:=by
    rw [ByteArray.size_append,ByteArray.size_append]
    have:K.space.size=1:=rfl
    omega
   (repeat (first|go_skip|go_guarded|go_step|go_upon|go_back))
   (refine zi (id:=8) [(0,true),(1,true),(2,true),(3,true),(4,true),(5,true),(6,false),(7,false),(8,false),(9,false),(10,false)] 7 (by kernel_rfl) (by kernel_rfl) ?_)
   repeat (first|(refine zk rfl (fun K hK=>?_);go_simp;refine hK _ ?_;clear hK K)|(refine zr rfl (fun K hK=>?_);go_simp;go_at_call 203;refine (D.out _).mono ?_;rintro e w' ⟨rfl,hb⟩;obtain ⟨X,rfl⟩:=hb.ext;clear hb;(try go_simp);refine hK _ _ (by show Sx _ _;repeat (first|with_reducible apply Sx.ext|with_reducible exact Sx.refl _)) ?_;clear hK K)|(refine zt rfl rfl (fun K hK=>?_);go_simp;refine hK _ _ ?_;clear hK K))
   refine zQ ?_
   (repeat (first|go_skip|go_guarded|go_step|go_upon|go_back))
   go_roundw
   case rel=>exact ⟨n+1,t++key++K.space,by go_num,by omega,HSN.out.symm,hz2,KBx.ext (KBx.make B Z4 yq HW0.out HW1.out HW2.out HRL.out _) Z4 _⟩
   case measure=>simp [intOf];omega
  case neg =>
   have e:n=ks.length:=by omega
   have HF:Hid (K.wordsOf (ks.map fun n=>zX (Lib.itoa n))=t):=by show _ = _;rw [HT.out,e,List.take_length]
   clear e
   (repeat (first|go_skip|go_guarded|go_step|go_upon|go_back))
   go_region
   all_goals (repeat (first|go_skip|go_guarded|go_step|go_upon|go_back))
   all_goals (
    refine bodyPost_ret (by simp [results,Tryz.results131,go_sem,y0,y1,y2,y3,yq,n0,n0',n1,n1',n2,n2',n3,n3'];rfl) rfl ?_
    obtain ⟨rfl,rfl⟩:=hres.out
    exact ⟨_,by unfold zdc;rw [HF.out],⟨_,_,_,rfl,RdL.drew (HW0.out _ _ _ _),RdL.drew (HW1.out _ _ _ _),RdL.drew (HW2.out _ _ _ _)⟩,Below.drew (zdM B Z4 _ _ _ _ _)⟩)
theorem zcs (name:ByteArray) (namez:name.size<=1048576):SC 117 (fun x=>#[x,.string name]) (K.unlinkName name) (fun v' n=>.tuple #[v',.int .i64 n]):=by
 refine zeq (fun w m a0 c0 a1 c1 a2 c2 res mres H0 H1 H2 HL=>?_)
 unfold K.unlinkName at HL
 have hc:¬ 9223372036854775807<2+name.size:=by omega
 rcases zaz name with ⟨hn,hz⟩|hn
 all_goals (
  rw [hn] at HL
  have HN:=Hd hn;clear hn)
 all_goals ((repeat' ((rcases HL.out.ite with ⟨hg,HL2⟩|⟨hg,HL2⟩<;>(clear HL;have HL:=Hd HL2;clear HL2;try exact absurd hg (by decide))))))
 all_goals (go_enter Tryz.func117,Tryz.ntmps117;((repeat (first|((with_reducible refine zcK (fun W0=>Below w.heap.size w W0/\W0.heap[w.heap.size]?=some (.cells #[.slice a0 m.cells.length c0,.slice a1 m.rd.length c1,.slice a2 m.wr.length c2] 54)/\W0.heap[w.heap.size+1]?=some (.cells #[.slice none 0 0,.slice none 0 0,.slice none 0 0] 54)) ?_ ?_);(· with_reducible exact zV w (.cells #[.slice a0 m.cells.length c0,.slice a1 m.rd.length c1,.slice a2 m.wr.length c2] 54) (.cells #[.slice none 0 0,.slice none 0 0,.slice none 0 0] 54) (by repeat (first|with_reducible exact Below.refl _ _|with_reducible apply Below.ofAlloc))))|go_skip|go_guarded|go_step|go_upon|go_back));(rintro w1 ⟨B,P,R⟩;have Z:=za R;have e1:=zj P R;rw [<- e1];have HW0:=Hd (fun o r=>H0.out.below (zP B o r));have HW1:=Hd (fun o r=>H1.out.below (zP B o r));have HW2:=Hd (fun o r=>H2.out.below (zP B o r));have Zp:=Nat.lt_of_succ_lt Z;clear e1 P R H0 H1 H2));all_goals ((repeat' (first|go_skip|go_guarded|go_step|go_upon|go_back|((first|((first|(go_at_call 178;refine (SC.use (zbd _ (by omega)) (fun a=>0<=a/\a<=999) (fun m _=>zbf _ m) (by first|exact HL.out|exact HL.out.last) (⟨_,_,_,rfl,HW0.out _ _,HW1.out _ _,HW2.out _ _⟩ : MRd _ _ _)).mono ?_)|(go_at_call 182;refine (SC.use (zan _ _) (fun _=>True) (fun _ _=>trivial) (by first|exact HL.out|exact HL.out.last) (⟨_,_,_,rfl,HW0.out _ _,HW1.out _ _,HW2.out _ _⟩ : MRd _ _ _)).mono ?_));(rintro e w2 ⟨v2,x,m2,rfl,hx,hm,hb,HL2⟩);(obtain ⟨b0,d0,b1,d1,b2,d2,rfl,q0,q1,q2⟩:=hm.form;obtain ⟨B',P,R,Z',Zx⟩:=zG B Z hb;clear Zx;clear hm hb;(clear HW0 HW1 HW2 B Z;have e1:=zj P R;rw [<- e1];clear e1;have HW0:=Hd (fun o r=>zg (zf _) q0 P R o r);have HW1:=Hd (fun o r=>zg (zc _) q1 P R o r);have HW2:=Hd (fun o r=>zg (zc _) q2 P R o r);have B:=B';have Z:=Z';(try clear Zp);have Zp:=Nat.lt_of_succ_lt Z;clear B' Z' P R q0 q1 q2;(try simp only []));clear HL;have HL:=Hd HL2;clear HL2;(all_goals ((repeat' ((rcases HL.out.ite with ⟨hg,HL2⟩|⟨hg,HL2⟩<;>(clear HL;have HL:=Hd HL2;clear HL2))))))))|((go_at_call 177;refine (zcd _ _ (by omega)).mono ?_);rintro e w2 ⟨rfl,rfl⟩;(try simp only []);(try rw [HN.out]);(try rw [HM.out]))))|((first|refine zi (id:=7) [(0,true),(1,true),(2,false),(3,false),(4,true),(5,true),(6,true),(7,false),(8,false)] 4 (by kernel_rfl) (by kernel_rfl) ?_|refine zi (id:=9) [(0,true),(1,true),(3,true),(4,true),(2,false),(5,false),(6,false),(7,false)] 6 (by kernel_rfl) (by kernel_rfl) ?_|refine zi (id:=10) [(0,true),(1,true),(2,false),(3,false),(4,false),(5,false)] 4 (by kernel_rfl) (by kernel_rfl) ?_);(repeat (first|(refine zk rfl (fun K hK=>?_);go_simp;(try simp (disch:=omega) only [IntWalk.i64_in,Int.tmod_eq_emod_of_nonneg,Int.tdiv_eq_ediv_of_nonneg]);refine hK _ ?_;clear hK K)|(refine zr rfl (fun K hK=>?_);go_simp;(first|((go_at_call 181;refine (zZ _ _ _ _ (by first|omega|decide) (by first|omega|decide) (by omega) (by omega)).mono ?_);rintro e w' ⟨rfl,hb⟩;obtain ⟨X,rfl⟩:=hb.ext;clear hb)|((first|(go_at_call 183;refine (SC.use (zdl _) (fun _=>True) (fun _ _=>trivial) (by first|exact HL.out|exact HL.out.last) (⟨_,_,_,rfl,by (refine ⟨?_,?_,?_⟩<;>((repeat (first|with_reducible exact HW0.out _ _|with_reducible exact HW1.out _ _|with_reducible exact HW2.out _ _|with_reducible refine RdL.ext ?_ _))))⟩ : MRd _ _ _)).mono ?_)|(go_at_call 180;refine (SC.use (zH _ _ (by omega) (by omega)) (fun _=>True) (fun _ _=>trivial) (by first|exact HL.out|exact HL.out.last) (⟨_,_,_,rfl,by (refine ⟨?_,?_,?_⟩<;>((repeat (first|with_reducible exact HW0.out _ _|with_reducible exact HW1.out _ _|with_reducible exact HW2.out _ _|with_reducible refine RdL.ext ?_ _))))⟩ : MRd _ _ _)).mono ?_)|(go_at_call 175;refine (SC.use (zU _) (fun a=>0<=a/\a<=999) (fun m _=>zac _ m) (by first|exact HL.out|exact HL.out.last) (⟨_,_,_,rfl,by (refine ⟨?_,?_,?_⟩<;>((repeat (first|with_reducible exact HW0.out _ _|with_reducible exact HW1.out _ _|with_reducible exact HW2.out _ _|with_reducible refine RdL.ext ?_ _))))⟩ : MRd _ _ _)).mono ?_));(rintro e w' ⟨v2,x,m2,rfl,hx,hm,hb,HL2⟩);clear HL;have HL:=Hd HL2;clear HL2;obtain ⟨f0,g0,f1,g1,f2,g2,rfl,q0,q1,q2⟩:=hm.form;obtain ⟨X,rfl⟩:=hb.ext;have Q0:=Hd q0;have Q1:=Hd q1;have Q2:=Hd q2;clear hm q0 q1 q2 hb));(try go_simp);refine hK _ _ (by show Sx _ _;repeat (first|with_reducible apply Sx.more|with_reducible apply Sx.ext|with_reducible exact Sx.refl _)) ?_;clear hK K)|(refine zt rfl rfl (fun K hK=>?_);go_simp;refine hK _ _ ?_;clear hK K)));have Q0':=Q0.out;have Q1':=Q1.out;have Q2':=Q2.out;clear Q0 Q1 Q2;(try simp only [zp,zw,Array.append_assoc] at Q0' Q1' Q2');refine zy (fun W0=>Below w.heap.size w W0/\W0.heap[w.heap.size]?=some _/\W0.heap[w.heap.size+1]?=some _/\RdL zu W0 (.slice f0 m2.cells.length g0) m2.cells/\RdL zx W0 (.slice f1 m2.rd.length g1) m2.rd/\RdL zx W0 (.slice f2 m2.wr.length g2) m2.wr/\w.heap.size+1<W0.heap.size) ⟨(zP B _ _).ofExt _,(zq Z _ _ _).1,(zq Z _ _ _).2,zl (zf _) Z Q0' _ _,zl (zc _) Z Q1' _ _,zl (zc _) Z Q2' _ _,za (zq Z _ _ _).2⟩ ?_;clear Q0' Q1' Q2';rintro w3 ⟨B',P,R,q0,q1,q2,Z'⟩;(clear HW0 HW1 HW2 B Z;have e1:=zj P R;rw [<- e1];clear e1;have HW0:=Hd (fun o r=>zg (zf _) q0 P R o r);have HW1:=Hd (fun o r=>zg (zc _) q1 P R o r);have HW2:=Hd (fun o r=>zg (zc _) q2 P R o r);have B:=B';have Z:=Z';(try clear Zp);have Zp:=Nat.lt_of_succ_lt Z;clear B' Z' P R q0 q1 q2);(all_goals ((repeat' ((rcases HL.out.ite with ⟨hg,HL2⟩|⟨hg,HL2⟩<;>(clear HL;have HL:=Hd HL2;clear HL2)))))))|(exfalso;(simp only [bne_eq_false_iff_eq,beq_eq_false_iff_ne,beq_iff_eq,bne_iff_ne] at *);omega)))))
 all_goals (obtain ⟨rfl,rfl⟩:=HL.out.end;refine bodyPost_ret (by simp [results,Tryz.results117,go_sem,Z];rfl) rfl ?_;exact ⟨_,rfl,⟨_,_,_,rfl,HW0.out _ _,HW1.out _ _,HW2.out _ _⟩,zP B _ _⟩)
theorem zeB (a:ByteArray) (az:a.size<=1048576) (b:ByteArray) (bz:b.size<=1048576):SC 118 (fun x=>#[x,.string a,.string b]) (K.renameName a b) (fun v' n=>.tuple #[v',.int .i64 n]):=by
 refine zeq (fun w m a0 c0 a1 c1 a2 c2 res mres H0 H1 H2 HL=>?_)
 unfold K.renameName at HL
 have hc:¬ 9223372036854775807<2+a.size:=by omega
 have hd:¬ 9223372036854775807<2+b.size:=by omega
 rcases zaz a with ⟨hn,hz⟩|hn
 all_goals (
  rw [hn] at HL
  have HN:=Hd hn;clear hn)
 all_goals rcases zaz b with ⟨hn,hy⟩|hn
 all_goals (
  rw [hn] at HL
  have HM:=Hd hn;clear hn)
 all_goals ((repeat' ((rcases HL.out.ite with ⟨hg,HL2⟩|⟨hg,HL2⟩<;>(clear HL;have HL:=Hd HL2;clear HL2;try exact absurd hg (by decide))))))
 all_goals (go_enter Tryz.func118,Tryz.ntmps118;((repeat (first|((with_reducible refine zcK (fun W0=>Below w.heap.size w W0/\W0.heap[w.heap.size]?=some (.cells #[.slice a0 m.cells.length c0,.slice a1 m.rd.length c1,.slice a2 m.wr.length c2] 54)/\W0.heap[w.heap.size+1]?=some (.cells #[.slice none 0 0,.slice none 0 0,.slice none 0 0] 54)) ?_ ?_);(· with_reducible exact zV w (.cells #[.slice a0 m.cells.length c0,.slice a1 m.rd.length c1,.slice a2 m.wr.length c2] 54) (.cells #[.slice none 0 0,.slice none 0 0,.slice none 0 0] 54) (by repeat (first|with_reducible exact Below.refl _ _|with_reducible apply Below.ofAlloc))))|go_skip|go_guarded|go_step|go_upon|go_back));(rintro w1 ⟨B,P,R⟩;have Z:=za R;have e1:=zj P R;rw [<- e1];have HW0:=Hd (fun o r=>H0.out.below (zP B o r));have HW1:=Hd (fun o r=>H1.out.below (zP B o r));have HW2:=Hd (fun o r=>H2.out.below (zP B o r));have Zp:=Nat.lt_of_succ_lt Z;clear e1 P R H0 H1 H2));all_goals ((repeat' (first|go_skip|go_guarded|go_step|go_upon|go_back|((first|((first|(go_at_call 117;refine (SC.use (zcs _ (by omega)) (fun _=>True) (fun _ _=>trivial) (by first|exact HL.out|exact HL.out.last) (⟨_,_,_,rfl,HW0.out _ _,HW1.out _ _,HW2.out _ _⟩ : MRd _ _ _)).mono ?_)|(go_at_call 178;refine (SC.use (zbd _ (by omega)) (fun a=>0<=a/\a<=999) (fun m _=>zbf _ m) (by first|exact HL.out|exact HL.out.last) (⟨_,_,_,rfl,HW0.out _ _,HW1.out _ _,HW2.out _ _⟩ : MRd _ _ _)).mono ?_)|(go_at_call 180;refine (SC.use (zH _ _ (by omega) (by omega)) (fun _=>True) (fun _ _=>trivial) (by first|exact HL.out|exact HL.out.last) (⟨_,_,_,rfl,HW0.out _ _,HW1.out _ _,HW2.out _ _⟩ : MRd _ _ _)).mono ?_)|(go_at_call 182;refine (SC.use (zan _ _) (fun _=>True) (fun _ _=>trivial) (by first|exact HL.out|exact HL.out.last) (⟨_,_,_,rfl,HW0.out _ _,HW1.out _ _,HW2.out _ _⟩ : MRd _ _ _)).mono ?_));(rintro e w2 ⟨v2,x,m2,rfl,hx,hm,hb,HL2⟩);(obtain ⟨b0,d0,b1,d1,b2,d2,rfl,q0,q1,q2⟩:=hm.form;obtain ⟨B',P,R,Z',Zx⟩:=zG B Z hb;clear Zx;clear hm hb;(clear HW0 HW1 HW2 B Z;have e1:=zj P R;rw [<- e1];clear e1;have HW0:=Hd (fun o r=>zg (zf _) q0 P R o r);have HW1:=Hd (fun o r=>zg (zc _) q1 P R o r);have HW2:=Hd (fun o r=>zg (zc _) q2 P R o r);have B:=B';have Z:=Z';(try clear Zp);have Zp:=Nat.lt_of_succ_lt Z;clear B' Z' P R q0 q1 q2;(try simp only []));clear HL;have HL:=Hd HL2;clear HL2;(all_goals ((repeat' ((rcases HL.out.ite with ⟨hg,HL2⟩|⟨hg,HL2⟩<;>(clear HL;have HL:=Hd HL2;clear HL2))))))))|((go_at_call 177;refine (zcd _ _ (by omega)).mono ?_);rintro e w2 ⟨rfl,rfl⟩;(try simp only []);(try rw [HN.out]);(try rw [HM.out]))))|(exfalso;(simp only [bne_eq_false_iff_eq,beq_eq_false_iff_ne,beq_iff_eq,bne_iff_ne] at *);omega)))))
 all_goals (obtain ⟨rfl,rfl⟩:=HL.out.end;refine bodyPost_ret (by simp [results,Tryz.results118,go_sem,Z];rfl) rfl ?_;exact ⟨_,rfl,⟨_,_,_,rfl,HW0.out _ _,HW1.out _ _,HW2.out _ _⟩,zP B _ _⟩)
end Go.Proofs.YtpnoehpmgflibaaGreatDoor
