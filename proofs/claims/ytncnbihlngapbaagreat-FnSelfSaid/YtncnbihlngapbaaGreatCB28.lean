/- Texts of this claim, merged: the walks and what they stand on. Each condition stands in its theorem. -/
import Derived.Test.YtncnbihlngapbaaGreatCB25
import Derived.Test.YtncnbihlngapbaaGreatCB26
import Derived.Test.YtncnbihlngapbaaGreatCB27
set_option linter.unusedVariables false
set_option linter.unusedSimpArgs false
set_option maxRecDepth 100000
set_option maxHeartbeats 8000000
namespace Go.Proofs.YtncnbihlngapbaaGreat
open Go.ChangeShapes Go.WideShapes Go.ChangeAt Go.RowKit
theorem AnsIn.ne {w:World} {B g cap:Nat} {xs:List AnswerD} (h:AnsIn w B g cap xs) {q:Nat} {cs:Array Value} {t:TypeId} (hq:w.heap[q]?=some (.cells cs t (0,0))) (ht:t ≠ 59):g ≠ q:=by
 rintro rfl
 have h1:=h.at_
 rw [hq] at h1
 injection h1 with h1
 injection h1 with _ h2
 exact ht h2
theorem zjR (s:StepD) (m:MachD) (h1:m.rd.Pairwise ltP) (h2:m.wr.Pairwise ltP) (an:AnswerD) (mm:MachD) (h:(K.doCall s.proc s.call).run ⟨m.cells,[],[]⟩=(an,mm)) :
  (K.doCall s.proc s.call).run m=(an,⟨mm.cells,zak m.rd mm.rd,zak m.wr mm.wr⟩):=by
 rw [Mp.run_from _ m h1 h2,h]
theorem zgY (v vs:Value) (cs:List CellD) (l:List StepD) (w:World) (h:RdL zE w v cs) (hs:RdL rStepM w vs l) (hf:∀ s ∈ l,s.fine) (hl:cs.length<=549755813888) (hl2:l.length<=1048576) (hfit:zfM l ⟨cs,[],[]⟩) :
  Calls Tryz.prog 80 #[v,vs] w fun e w'=>∃ v0 v1 v2 v3,e=.returned (.tuple #[v0,v1,.agg #[v2,v3]])/\RdL zE w' v0 ((K.runAll l).run ⟨cs,[],[]⟩).2.cells/\RdL zbD w' v1 ((K.runAll l).run ⟨cs,[],[]⟩).1/\RdL zH w' v2 ((K.runAll l).run ⟨cs,[],[]⟩).2.rd/\RdL zH w' v3 ((K.runAll l).run ⟨cs,[],[]⟩).2.wr/\Below w.heap.size w w':=by
 obtain ⟨res,mres,hr⟩ : ∃ res mres,(K.runAll l).run ⟨cs,[],[]⟩=(res,mres):=⟨_,_,rfl⟩
 rw [hr]
 dsimp only
 unfold K.runAll at hr
 have HRUN:=Hd hr
 have HFIT:=Hd hfit
 clear hr hfit
 obtain ⟨ao,cap,rfl,hc1,hc2,hnil,hne⟩:=hs.shape
 have HX:=Hd hne
 have HS:=Hd h
 have HF:=Hd hf
 clear h hs hne hnil hf
 unfold maxLen at hc2
 go_enter Tryz.func80,Tryz.ntmps80
 go_wp2_with (at_builtin;refine zP ?_)
 have ho0:OwnL zE 145 ((w.alloc (.cells #[.slice none 0 0,.slice none 0 0] 27)).alloc (.cells #[] 145)) (w.heap.size+1) (.slice (some ⟨w.heap.size+1,0,none⟩) 0 0) []:=by
  have h:=OwnL.empty zE 145 (w.alloc (.cells #[.slice none 0 0,.slice none 0 0] 27))
  rwa [World.size_alloc] at h
 have HO0:=Hd ho0
 clear ho0
 refine zR rfl _ _ _ rfl zan (B:=w.heap.size+1) (v:=.slice (some ⟨w.heap.size+1,0,none⟩) 0 0) (R:=zE) (xs:=[]) HO0.out rfl (ys:=cs) ((HS.out.alloc _).alloc _) rfl (by simp only [List.length_nil];omega) (by simp only [List.length_nil];unfold maxLen;omega) (by simp) ?_
 intro v4 w4 hown4 hg4 _
 have hb4:Below (w.heap.size+1) (w.alloc (.cells #[.slice none 0 0,.slice none 0 0] 27)) w4:=by
  have hu:=ziv hg4
  refine ⟨hu.os,hu.tape,hu.output,Nat.le_trans (by simp) hu.size,fun k hk=>(hu.block k (by simp;omega) (by simp [Value.ownBlock];omega)).trans (heap_alloc_old _ _ (by simp;omega))⟩
 have hP:w4.heap[w.heap.size]?=some (.cells #[.slice none 0 0,.slice none 0 0] 27 (0,0)):=(hb4.block _ (by omega)).trans (heap_alloc_new w _)
 have hbw:Below w.heap.size w w4:=⟨hb4.os,hb4.tape,hb4.output,Nat.le_trans (by simp) hb4.size,fun k hk=>(hb4.block k (by omega)).trans (heap_alloc_old _ _ hk)⟩
 have HO4:=Hd (show RdL zE w4 v4 cs from by simpa using hown4.rd)
 have HP:=Hd hP
 have HB:=Hd hbw
 have hz4:w.heap.size+1<=w4.heap.size:=Nat.le_trans (by simp) hb4.size
 clear hown4 hg4 hb4 hP hbw HO0 HS
 ((try simp only []);repeat (first|go_skip|go_guarded|go_step|go_upon|go_back))
 go_loopw [0,7,9,10,11,12] (fun v0 o7 k _ _ _ W=>∃ (n:Nat) (m:MachD) (out:List AnswerD) (g cap2:Nat) (y z:Value),k=.int .i64 n/\n<=l.length/\out.length<=n/\o7=.slice (some ⟨g,0,none⟩) out.length cap2/\RdL zE W v0 m.cells/\AnsIn W w4.heap.size g cap2 out /\
  W.heap[w4.heap.size+1]?=some (.cells #[y,z] 27 (0,0))/\RdL zH W y m.rd/\RdL zH W z m.wr/\W.heap[w.heap.size]?=some (.cells #[.slice none 0 0,.slice none 0 0] 27 (0,0))/\Below w.heap.size w W/\w4.heap.size+2<=W.heap.size/\(m.rd.Pairwise ltP/\m.wr.Pairwise ltP)/\zfM (l.drop n) m/\(Mp.fold K.runSteps out (l.drop n)).run m=(res,mres)) (fun _ _ k _ _ _ _=>l.length - (intOf k).toNat)
 case atStart =>
  have h2:=zcS w4 (.cells #[] 59) (.cells #[.slice none 0 0,.slice none 0 0] 27) w4.heap.size rfl
  refine ⟨0,⟨cs,[],[]⟩,[],w4.heap.size,0,_,_,rfl,Nat.zero_le _,Nat.le_refl _,rfl,(HO4.out.alloc _).alloc _,⟨Nat.le_refl _,Nat.le_refl _,Nat.zero_le _,h2.1⟩,h2.2,RdL.nil _ _,RdL.nil _ _,?_,(HB.out.ofAlloc _).ofAlloc _,by simp,⟨List.Pairwise.nil,List.Pairwise.nil⟩,HFIT.out,HRUN.out⟩
  exact (heap_alloc_old _ _ (by simp;omega)).trans ((heap_alloc_old _ _ (by omega)).trans HP.out)
 case round =>
  clear HO4 HP HB HFIT HRUN
  obtain ⟨n,m,out,g,cap2,y,z,rfl,hn,hol,rfl,hr0,hA,hQ,hy,hz,hP,hB,hz2,hso,hfit,hrun⟩:=hrel
  by_cases hlt:(n:Int)<l.length
  case neg =>
   have e:n=l.length:=by omega
   subst e
   rw [List.drop_length] at hrun hfit
   have hrr:(out,m)=(res,mres):=hrun
   obtain ⟨rfl,rfl⟩:=Prod.mk.inj hrr
   obtain ⟨y0,yc,rfl⟩:=hy.form
   obtain ⟨z0,zc,rfl⟩:=hz.form
   obtain ⟨a0,ac,rfl⟩:=hr0.form
   have HA:=Hd hA
   have HB:=Hd hB
   have hpl:=zb hP
   have hql:=zb hQ
   have hpq:¬ w4.heap.size+1=w.heap.size:=by omega
   have hpq2:¬ w.heap.size=w4.heap.size+1:=by omega
   have hgp:g ≠ w.heap.size:=hA.ne hP (by decide)
   have q0:∀ o,(wr.setB w.heap.size o).cell? ⟨w4.heap.size+1,0,none⟩=some (.slice y0 m.rd.length yc):=fun o=>(zg (i:=0) ((World.setB_get _ _ _ _ hpq).trans hQ)).trans rfl
   have q1:∀ o,(wr.setB w.heap.size o).cell? ⟨w4.heap.size+1,1,none⟩=some (.slice z0 m.wr.length zc):=fun o=>(zg (i:=1) ((World.setB_get _ _ _ _ hpq).trans hQ)).trans rfl
   have HE:Hid (∀ o,RdL zE (wr.setB w.heap.size o) (.slice a0 m.cells.length ac) m.cells/\RdL zbD (wr.setB w.heap.size o) (.slice (some ⟨g,0,none⟩) out.length cap2) out/\RdL zH (wr.setB w.heap.size o) (.slice y0 m.rd.length yc) m.rd/\RdL zH (wr.setB w.heap.size o) (.slice z0 m.wr.length zc) m.wr/\Below w.heap.size w (wr.setB w.heap.size o)):=fun o=>⟨zaz (zh _) hr0 hP zbA o,(hA.setB hgp o).rd,zaz (ze _) hy hP zbA o,zaz (ze _) hz hP zbA o,zp hB (Nat.le_refl _) o⟩
   have e1:=zi hP
   rw [<- e1]
   clear e1 hA hB hQ hP hr0 hy hz hgp
   ((try simp only []);repeat (first|go_skip|go_guarded|go_step|go_upon|go_back))
   go_region
   all_goals ((try simp only []);repeat (first|go_skip|go_guarded|go_step|go_upon|go_back))
   all_goals (
    refine bodyPost_ret (by simp [results,Tryz.results80,go_sem,hpl];rfl) rfl ?_
    exact ⟨_,_,_,_,rfl,RdL.drew (HE.out _).1,RdL.drew (HE.out _).2.1,RdL.drew (HE.out _).2.2.1,RdL.drew (HE.out _).2.2.2.1,Below.drew (HE.out _).2.2.2.2⟩)
  case pos =>
   have hk:n<l.length:=by omega
   obtain ⟨pb,po,rfl,hbl,hcell⟩:=HX.out (by intro e;simp [e] at hk)
   have hcc:=hcell n hk
   have hfine:=HF.out _ (List.getElem_mem hk)
   rw [List.drop_eq_getElem_cons hk] at hfit hrun
   generalize l[n]=s at hcc hfine hfit hrun
   have hbl:=hbl (by decide)
   obtain ⟨f0,f1,f2,f3⟩:=hfine
   obtain ⟨g0,g1,g2⟩:=hfit
   obtain ⟨an,mm,hres⟩ : ∃ an mm,(K.doCall s.proc s.call).run ⟨m.cells,[],[]⟩=(an,mm):=⟨_,_,rfl⟩
   have hcf:=zjR s m hso.1 hso.2 an mm hres
   have hrun2:(Mp.fold K.runSteps (out ++ [an]) (l.drop (n+1))).run ⟨mm.cells,zak m.rd mm.rd,zak m.wr mm.wr⟩=(res,mres):=by
    have e1:(Mp.fold K.runSteps out (s :: l.drop (n+1)))=(K.doCall s.proc s.call >>= fun a=>Mp.fold K.runSteps (out ++ [a]) (l.drop (n+1))):=zaM _ _ _
    rw [e1,Mp.run_bind,hcf] at hrun
    exact hrun
   rw [hcf] at g2
   have HSM:=Hd (Mp.fits_small g0)
   have hse:=Mp.fits_end g1
   rw [hres] at hse
   have HSM2:=Hd hse
   have DC:=Hd (fun v W h=>zdI v m.cells s.proc f1.1 f1.2 s.call f0 f2.1 f2.2 f3.1 f3.2 W h g1)
   rw [hres] at DC
   have HG2:=Hd g2
   have HR2:=Hd hrun2
   have hsr:=Mp.run_rise (K.doCall s.proc s.call) m hso.1 hso.2
   rw [hcf] at hsr
   have HSR:=Hd hsr
   have HA:=Hd hA
   have HQ:=Hd hQ
   have HY:=Hd hy
   have HZ:=Hd hz
   have HP:=Hd hP
   have HB:=Hd hB
   have HR0:=Hd hr0
   have HCC:=Hd hcc
   clear g0 g1 g2 hse hres hcf hrun hrun2 hsr hA hQ hy hz hP hB hr0 hcc hcell hso
   ((try simp only []);repeat (first|go_skip|go_guarded|go_step|go_upon|go_back))
   refine zaF (fun L a W=>∃ u18 u19 u20 u21 u22 u23 u40 u41 u42 u43 u44 u45 u46 u47 x25 x26 x27 x28 x29 x30 x31 x32 x33 x34 x35 x36 x24 x37 x38 x39 x11 x12 x10,a=⟨#[u0,.slice (some ⟨pb,po,none⟩) l.length cap,undef,undef,.slice none 0 0,.slice none 0 0,.pointer (some ⟨w.heap.size,0,none⟩),.slice (some ⟨g,0,none⟩) out.length cap2,.pointer (some ⟨w4.heap.size+1,0,none⟩),.int .i64 n,x10,x11,x12,.slice (some ⟨w.heap.size+1,0,none⟩) 0 0,v,v4,.slice (some ⟨w4.heap.size,0,none⟩) 0 0,.agg #[.slice none 0 0,.slice none 0 0],u18,u19,u20,u21,u22,u23,x24,x25,x26,x27,x28,x29,x30,x31,x32,x33,x34,x35,x36,x37,x38,x39,u40,u41,u42,u43,u44,u45,u46,u47,undef,undef,undef],[]⟩/\RI w u0 (.slice (some ⟨pb,po,none⟩) l.length cap) (.slice (some ⟨g,0,none⟩) out.length cap2) (w4.heap.size+1) g cap2 w4.heap.size m.cells out y z m.rd m.wr pb po n s an mm L W x25 x26 x27 x28 x29 x30 x31 x32 x33 x34 x35 x36 x24 x37 x38 x39 x11 x12 x10) (by kernel_rfl) ?_ ?_ ?_
   ·have N:∀ j,¬ (Array.replicate 21 false).getD j false=true:=zc3 21
    have hd:∀ {a:Addr} {u:Value},w.cell? a=some u->wr.drew.cell? a=some u:=fun h=>(Grew.below (Below.drew HB.out)).cell h
    exact ⟨_,_,_,_,_,_,_,_,_,_,_,_,_,_,_,_,_,_,_,_,_,_,_,_,_,_,_,_,_,_,_,_,_,rfl,⟨by simp,fun k=>absurd k (N _),fun k=>absurd k (N _),Below.drew HB.out,HP.out,HQ.out,HA.out.below (Below.drew (Below.refl _ _)),RdL.drew HR0.out,RdL.drew HY.out,RdL.drew HZ.out,hd (HCC.out 0 _ rfl),hd (HCC.out 1 _ rfl),hd (HCC.out 2 _ rfl),hd (HCC.out 3 _ rfl),hd (HCC.out 4 _ rfl),hd (HCC.out 5 _ rfl),hd (HCC.out 6 _ rfl),hbl,fun k=>absurd k (N _),fun k=>absurd k (N _),fun k=>absurd k (N _),fun k=>absurd k (N _),fun k=>absurd k (N _),fun k=>absurd k (N _),fun k=>absurd k (N _),fun k=>absurd k (N _),fun k=>absurd k (N _),fun k=>absurd k (N _),fun k=>absurd k (N _),fun k=>absurd k (N _),fun k=>absurd k (N _),fun k=>absurd k (N _),fun k=>absurd k (N _),fun k=>absurd k (N _),fun k=>absurd k (N _),fun k=>absurd k (N _),fun k=>absurd k (N _)⟩⟩
   ·rintro L a W i ⟨u18,u19,u20,u21,u22,u23,u40,u41,u42,u43,u44,u45,u46,u47,x25,x26,x27,x28,x29,x30,x31,x32,x33,x34,x35,x36,x24,x37,x38,x39,x11,x12,x10,rfl,H⟩ hi
    have hlt:=zbN hi
    have hun:=zbM hi
    have hW:Hid (∀ j,zbL _ i j=true->L.getD j false=true):=fun j h=>za1 hi h
    have h21:i<21:=hlt
    clear hlt hi
    have hcs:i=0 ∨ i=1 ∨ i=2 ∨ i=3 ∨ i=4 ∨ i=5 ∨ i=6 ∨ i=7 ∨ i=8 ∨ i=9 ∨ i=10 ∨ i=11 ∨ i=12 ∨ i=13 ∨ i=14 ∨ i=15 ∨ i=16 ∨ i=17 ∨ i=18 ∨ i=19 ∨ i=20:=by omega
    clear h21
    rcases hcs with rfl|rfl|rfl|rfl|rfl|rfl|rfl|rfl|rfl|rfl|rfl|rfl|rfl|rfl|rfl|rfl|rfl|rfl|rfl|rfl|rfl
    ·refine zz rfl (fun K hK=>?_)
     go_simp
     refine hK _ _ ⟨_,_,_,_,_,_,_,_,_,_,_,_,_,_,_,_,_,_,_,_,_,_,_,_,_,_,_,_,_,_,_,_,_,rfl,H.set (i:=0) (by decide) (by decide) (by decide) (by first|(simp;done)|(rw [if_neg (by decide)];rfl)) (by first|(simp;done)|(rw [if_neg (by decide)];rfl)) (by first|(simp;done)|(rw [if_neg (by decide)];rfl)) (by first|(simp;done)|(rw [if_neg (by decide)];rfl)) (by first|(simp;done)|(rw [if_neg (by decide)];rfl)) (by first|(simp;done)|(rw [if_neg (by decide)];rfl)) (by first|(simp;done)|(rw [if_neg (by decide)];rfl)) (by first|(simp;done)|(rw [if_neg (by decide)];rfl)) (by first|(simp;done)|(rw [if_neg (by decide)];rfl)) (by first|(simp;done)|(rw [if_neg (by decide)];rfl)) (by first|(simp;done)|(rw [if_neg (by decide)];rfl)) (by first|(simp;done)|(rw [if_neg (by decide)];rfl)) (by first|(simp;done)|(rw [if_neg (by decide)];rfl)) (by first|(simp;done)|(rw [if_neg (by decide)];rfl)) (by first|(simp;done)|(rw [if_neg (by decide)];rfl)) (by first|(simp;done)|(rw [if_neg (by decide)];rfl)) (by first|(simp;done)|(rw [if_neg (by decide)];rfl)) (by first|(simp;done)|(rw [if_neg (by decide)];rfl)) (by first|(simp;done)|(rw [if_neg (by decide)];rfl))⟩
    ·refine zz rfl (fun K hK=>?_)
     go_simp
     refine hK _ _ ⟨_,_,_,_,_,_,_,_,_,_,_,_,_,_,_,_,_,_,_,_,_,_,_,_,_,_,_,_,_,_,_,_,_,rfl,H.set (i:=1) (by decide) (by decide) (by decide) (by first|(simp;done)|(rw [if_neg (by decide)];rfl)) (by first|(simp;done)|(rw [if_neg (by decide)];rfl)) (by first|(simp;done)|(rw [if_neg (by decide)];rfl)) (by first|(simp;done)|(rw [if_neg (by decide)];rfl)) (by first|(simp;done)|(rw [if_neg (by decide)];rfl)) (by first|(simp;done)|(rw [if_neg (by decide)];rfl)) (by first|(simp;done)|(rw [if_neg (by decide)];rfl)) (by first|(simp;done)|(rw [if_neg (by decide)];rfl)) (by first|(simp;done)|(rw [if_neg (by decide)];rfl)) (by first|(simp;done)|(rw [if_neg (by decide)];rfl)) (by first|(simp;done)|(rw [if_neg (by decide)];rfl)) (by first|(simp;done)|(rw [if_neg (by decide)];rfl)) (by first|(simp;done)|(rw [if_neg (by decide)];rfl)) (by first|(simp;done)|(rw [if_neg (by decide)];rfl)) (by first|(simp;done)|(rw [if_neg (by decide)];rfl)) (by first|(simp;done)|(rw [if_neg (by decide)];rfl)) (by first|(simp;done)|(rw [if_neg (by decide)];rfl)) (by first|(simp;done)|(rw [if_neg (by decide)];rfl)) (by first|(simp;done)|(rw [if_neg (by decide)];rfl))⟩
    ·refine zz rfl (fun K hK=>?_)
     go_simp
     refine hK _ _ ⟨_,_,_,_,_,_,_,_,_,_,_,_,_,_,_,_,_,_,_,_,_,_,_,_,_,_,_,_,_,_,_,_,_,rfl,H.set (i:=2) (by decide) (by decide) (by decide) (by first|(simp;done)|(rw [if_neg (by decide)];rfl)) (by first|(simp;done)|(rw [if_neg (by decide)];rfl)) (by first|(simp;done)|(rw [if_neg (by decide)];rfl)) (by first|(simp;done)|(rw [if_neg (by decide)];rfl)) (by first|(simp;done)|(rw [if_neg (by decide)];rfl)) (by first|(simp;done)|(rw [if_neg (by decide)];rfl)) (by first|(simp;done)|(rw [if_neg (by decide)];rfl)) (by first|(simp;done)|(rw [if_neg (by decide)];rfl)) (by first|(simp;done)|(rw [if_neg (by decide)];rfl)) (by first|(simp;done)|(rw [if_neg (by decide)];rfl)) (by first|(simp;done)|(rw [if_neg (by decide)];rfl)) (by first|(simp;done)|(rw [if_neg (by decide)];rfl)) (by first|(simp;done)|(rw [if_neg (by decide)];rfl)) (by first|(simp;done)|(rw [if_neg (by decide)];rfl)) (by first|(simp;done)|(rw [if_neg (by decide)];rfl)) (by first|(simp;done)|(rw [if_neg (by decide)];rfl)) (by first|(simp;done)|(rw [if_neg (by decide)];rfl)) (by first|(simp;done)|(rw [if_neg (by decide)];rfl)) (by first|(simp;done)|(rw [if_neg (by decide)];rfl))⟩
    ·obtain rfl:=H.f1 (hW.out 1 (by kernel_rfl))
     obtain rfl:=H.f2 (hW.out 2 (by kernel_rfl))
     refine zz rfl (fun K hK=>?_)
     go_simp
     refine hK _ _ ⟨_,_,_,_,_,_,_,_,_,_,_,_,_,_,_,_,_,_,_,_,_,_,_,_,_,_,_,_,_,_,_,_,_,rfl,H.set (i:=3) (by decide) (by decide) (by decide) (by first|(simp;done)|(rw [if_neg (by decide)];rfl)) (by first|(simp;done)|(rw [if_neg (by decide)];rfl)) (by first|(simp;done)|(rw [if_neg (by decide)];rfl)) (by rw [if_pos rfl]) (by first|(simp;done)|(rw [if_neg (by decide)];rfl)) (by first|(simp;done)|(rw [if_neg (by decide)];rfl)) (by first|(simp;done)|(rw [if_neg (by decide)];rfl)) (by first|(simp;done)|(rw [if_neg (by decide)];rfl)) (by first|(simp;done)|(rw [if_neg (by decide)];rfl)) (by first|(simp;done)|(rw [if_neg (by decide)];rfl)) (by first|(simp;done)|(rw [if_neg (by decide)];rfl)) (by first|(simp;done)|(rw [if_neg (by decide)];rfl)) (by first|(simp;done)|(rw [if_neg (by decide)];rfl)) (by first|(simp;done)|(rw [if_neg (by decide)];rfl)) (by first|(simp;done)|(rw [if_neg (by decide)];rfl)) (by first|(simp;done)|(rw [if_neg (by decide)];rfl)) (by first|(simp;done)|(rw [if_neg (by decide)];rfl)) (by first|(simp;done)|(rw [if_neg (by decide)];rfl)) (by first|(simp;done)|(rw [if_neg (by decide)];rfl))⟩
    ·obtain rfl:=H.f3 (hW.out 3 (by kernel_rfl))
     refine zz rfl (fun K hK=>?_)
     go_simp
     refine hK _ _ ⟨_,_,_,_,_,_,_,_,_,_,_,_,_,_,_,_,_,_,_,_,_,_,_,_,_,_,_,_,_,_,_,_,_,rfl,H.set (i:=4) (by decide) (by decide) (by decide) (by first|(simp;done)|(rw [if_neg (by decide)];rfl)) (by first|(simp;done)|(rw [if_neg (by decide)];rfl)) (by first|(simp;done)|(rw [if_neg (by decide)];rfl)) (by first|(simp;done)|(rw [if_neg (by decide)];rfl)) (by rw [if_pos rfl]) (by first|(simp;done)|(rw [if_neg (by decide)];rfl)) (by first|(simp;done)|(rw [if_neg (by decide)];rfl)) (by first|(simp;done)|(rw [if_neg (by decide)];rfl)) (by first|(simp;done)|(rw [if_neg (by decide)];rfl)) (by first|(simp;done)|(rw [if_neg (by decide)];rfl)) (by first|(simp;done)|(rw [if_neg (by decide)];rfl)) (by first|(simp;done)|(rw [if_neg (by decide)];rfl)) (by first|(simp;done)|(rw [if_neg (by decide)];rfl)) (by first|(simp;done)|(rw [if_neg (by decide)];rfl)) (by first|(simp;done)|(rw [if_neg (by decide)];rfl)) (by first|(simp;done)|(rw [if_neg (by decide)];rfl)) (by first|(simp;done)|(rw [if_neg (by decide)];rfl)) (by first|(simp;done)|(rw [if_neg (by decide)];rfl)) (by first|(simp;done)|(rw [if_neg (by decide)];rfl))⟩
    ·obtain rfl:=H.f4 (hW.out 4 (by kernel_rfl))
     have y0:W.cell? ⟨pb,po+n*7,none⟩=some (.int .i64 s.proc):=H.p0
     have hltp:pb<W.heap.size:=Nat.lt_of_lt_of_le H.lt H.bel.size
     refine zz rfl (fun K hK=>?_)
     go_simp
     refine hK _ _ ⟨_,_,_,_,_,_,_,_,_,_,_,_,_,_,_,_,_,_,_,_,_,_,_,_,_,_,_,_,_,_,_,_,_,rfl,H.set (i:=5) (by decide) (by decide) (by decide) (by first|(simp;done)|(rw [if_neg (by decide)];rfl)) (by first|(simp;done)|(rw [if_neg (by decide)];rfl)) (by first|(simp;done)|(rw [if_neg (by decide)];rfl)) (by first|(simp;done)|(rw [if_neg (by decide)];rfl)) (by first|(simp;done)|(rw [if_neg (by decide)];rfl)) (by rw [if_pos rfl]) (by first|(simp;done)|(rw [if_neg (by decide)];rfl)) (by first|(simp;done)|(rw [if_neg (by decide)];rfl)) (by first|(simp;done)|(rw [if_neg (by decide)];rfl)) (by first|(simp;done)|(rw [if_neg (by decide)];rfl)) (by first|(simp;done)|(rw [if_neg (by decide)];rfl)) (by first|(simp;done)|(rw [if_neg (by decide)];rfl)) (by first|(simp;done)|(rw [if_neg (by decide)];rfl)) (by first|(simp;done)|(rw [if_neg (by decide)];rfl)) (by first|(simp;done)|(rw [if_neg (by decide)];rfl)) (by first|(simp;done)|(rw [if_neg (by decide)];rfl)) (by first|(simp;done)|(rw [if_neg (by decide)];rfl)) (by first|(simp;done)|(rw [if_neg (by decide)];rfl)) (by first|(simp;done)|(rw [if_neg (by decide)];rfl))⟩
    ·refine zz rfl (fun K hK=>?_)
     go_simp
     refine hK _ _ ⟨_,_,_,_,_,_,_,_,_,_,_,_,_,_,_,_,_,_,_,_,_,_,_,_,_,_,_,_,_,_,_,_,_,rfl,H.set (i:=6) (by decide) (by decide) (by decide) (by first|(simp;done)|(rw [if_neg (by decide)];rfl)) (by first|(simp;done)|(rw [if_neg (by decide)];rfl)) (by first|(simp;done)|(rw [if_neg (by decide)];rfl)) (by first|(simp;done)|(rw [if_neg (by decide)];rfl)) (by first|(simp;done)|(rw [if_neg (by decide)];rfl)) (by first|(simp;done)|(rw [if_neg (by decide)];rfl)) (by first|(simp;done)|(rw [if_neg (by decide)];rfl)) (by first|(simp;done)|(rw [if_neg (by decide)];rfl)) (by first|(simp;done)|(rw [if_neg (by decide)];rfl)) (by first|(simp;done)|(rw [if_neg (by decide)];rfl)) (by first|(simp;done)|(rw [if_neg (by decide)];rfl)) (by first|(simp;done)|(rw [if_neg (by decide)];rfl)) (by first|(simp;done)|(rw [if_neg (by decide)];rfl)) (by first|(simp;done)|(rw [if_neg (by decide)];rfl)) (by first|(simp;done)|(rw [if_neg (by decide)];rfl)) (by first|(simp;done)|(rw [if_neg (by decide)];rfl)) (by first|(simp;done)|(rw [if_neg (by decide)];rfl)) (by first|(simp;done)|(rw [if_neg (by decide)];rfl)) (by first|(simp;done)|(rw [if_neg (by decide)];rfl))⟩
    ·refine zz rfl (fun K hK=>?_)
     go_simp
     refine hK _ _ ⟨_,_,_,_,_,_,_,_,_,_,_,_,_,_,_,_,_,_,_,_,_,_,_,_,_,_,_,_,_,_,_,_,_,rfl,H.set (i:=7) (by decide) (by decide) (by decide) (by first|(simp;done)|(rw [if_neg (by decide)];rfl)) (by first|(simp;done)|(rw [if_neg (by decide)];rfl)) (by first|(simp;done)|(rw [if_neg (by decide)];rfl)) (by first|(simp;done)|(rw [if_neg (by decide)];rfl)) (by first|(simp;done)|(rw [if_neg (by decide)];rfl)) (by first|(simp;done)|(rw [if_neg (by decide)];rfl)) (by first|(simp;done)|(rw [if_neg (by decide)];rfl)) (by first|(simp;done)|(rw [if_neg (by decide)];rfl)) (by first|(simp;done)|(rw [if_neg (by decide)];rfl)) (by first|(simp;done)|(rw [if_neg (by decide)];rfl)) (by first|(simp;done)|(rw [if_neg (by decide)];rfl)) (by first|(simp;done)|(rw [if_neg (by decide)];rfl)) (by first|(simp;done)|(rw [if_neg (by decide)];rfl)) (by first|(simp;done)|(rw [if_neg (by decide)];rfl)) (by first|(simp;done)|(rw [if_neg (by decide)];rfl)) (by first|(simp;done)|(rw [if_neg (by decide)];rfl)) (by first|(simp;done)|(rw [if_neg (by decide)];rfl)) (by first|(simp;done)|(rw [if_neg (by decide)];rfl)) (by first|(simp;done)|(rw [if_neg (by decide)];rfl))⟩
    ·obtain rfl:=H.f6 (hW.out 6 (by kernel_rfl))
     obtain rfl:=H.f7 (hW.out 7 (by kernel_rfl))
     refine zz rfl (fun K hK=>?_)
     go_simp
     refine hK _ _ ⟨_,_,_,_,_,_,_,_,_,_,_,_,_,_,_,_,_,_,_,_,_,_,_,_,_,_,_,_,_,_,_,_,_,rfl,H.set (i:=8) (by decide) (by decide) (by decide) (by first|(simp;done)|(rw [if_neg (by decide)];rfl)) (by first|(simp;done)|(rw [if_neg (by decide)];rfl)) (by first|(simp;done)|(rw [if_neg (by decide)];rfl)) (by first|(simp;done)|(rw [if_neg (by decide)];rfl)) (by first|(simp;done)|(rw [if_neg (by decide)];rfl)) (by first|(simp;done)|(rw [if_neg (by decide)];rfl)) (by first|(simp;done)|(rw [if_neg (by decide)];rfl)) (by first|(simp;done)|(rw [if_neg (by decide)];rfl)) (by rw [if_pos rfl]) (by first|(simp;done)|(rw [if_neg (by decide)];rfl)) (by first|(simp;done)|(rw [if_neg (by decide)];rfl)) (by first|(simp;done)|(rw [if_neg (by decide)];rfl)) (by first|(simp;done)|(rw [if_neg (by decide)];rfl)) (by first|(simp;done)|(rw [if_neg (by decide)];rfl)) (by first|(simp;done)|(rw [if_neg (by decide)];rfl)) (by first|(simp;done)|(rw [if_neg (by decide)];rfl)) (by first|(simp;done)|(rw [if_neg (by decide)];rfl)) (by first|(simp;done)|(rw [if_neg (by decide)];rfl)) (by first|(simp;done)|(rw [if_neg (by decide)];rfl))⟩
    ·obtain rfl:=H.f8 (hW.out 8 (by kernel_rfl))
     refine zz rfl (fun K hK=>?_)
     go_simp
     refine hK _ _ ⟨_,_,_,_,_,_,_,_,_,_,_,_,_,_,_,_,_,_,_,_,_,_,_,_,_,_,_,_,_,_,_,_,_,rfl,H.set (i:=9) (by decide) (by decide) (by decide) (by first|(simp;done)|(rw [if_neg (by decide)];rfl)) (by first|(simp;done)|(rw [if_neg (by decide)];rfl)) (by first|(simp;done)|(rw [if_neg (by decide)];rfl)) (by first|(simp;done)|(rw [if_neg (by decide)];rfl)) (by first|(simp;done)|(rw [if_neg (by decide)];rfl)) (by first|(simp;done)|(rw [if_neg (by decide)];rfl)) (by first|(simp;done)|(rw [if_neg (by decide)];rfl)) (by first|(simp;done)|(rw [if_neg (by decide)];rfl)) (by first|(simp;done)|(rw [if_neg (by decide)];rfl)) (by rw [if_pos rfl]) (by first|(simp;done)|(rw [if_neg (by decide)];rfl)) (by first|(simp;done)|(rw [if_neg (by decide)];rfl)) (by first|(simp;done)|(rw [if_neg (by decide)];rfl)) (by first|(simp;done)|(rw [if_neg (by decide)];rfl)) (by first|(simp;done)|(rw [if_neg (by decide)];rfl)) (by first|(simp;done)|(rw [if_neg (by decide)];rfl)) (by first|(simp;done)|(rw [if_neg (by decide)];rfl)) (by first|(simp;done)|(rw [if_neg (by decide)];rfl)) (by first|(simp;done)|(rw [if_neg (by decide)];rfl))⟩
    ·obtain rfl:=H.f9 (hW.out 9 (by kernel_rfl))
     have z1:W.cell? ⟨pb,po+n*7+1,none⟩=some _:=H.p1
     have z2:W.cell? ⟨pb,po+n*7+1+1,none⟩=some _:=H.p2
     have z3:W.cell? ⟨pb,po+n*7+1+2,none⟩=some _:=H.p3
     have z4:W.cell? ⟨pb,po+n*7+1+3,none⟩=some _:=H.p4
     have z5:W.cell? ⟨pb,po+n*7+1+4,none⟩=some _:=H.p5
     have z6:W.cell? ⟨pb,po+n*7+1+5,none⟩=some _:=H.p6
     have hltp:pb<W.heap.size:=Nat.lt_of_lt_of_le H.lt H.bel.size
     refine zz rfl (fun K hK=>?_)
     go_simp
     refine hK _ _ ⟨_,_,_,_,_,_,_,_,_,_,_,_,_,_,_,_,_,_,_,_,_,_,_,_,_,_,_,_,_,_,_,_,_,rfl,H.set (i:=10) (by decide) (by decide) (by decide) (by first|(simp;done)|(rw [if_neg (by decide)];rfl)) (by first|(simp;done)|(rw [if_neg (by decide)];rfl)) (by first|(simp;done)|(rw [if_neg (by decide)];rfl)) (by first|(simp;done)|(rw [if_neg (by decide)];rfl)) (by first|(simp;done)|(rw [if_neg (by decide)];rfl)) (by first|(simp;done)|(rw [if_neg (by decide)];rfl)) (by first|(simp;done)|(rw [if_neg (by decide)];rfl)) (by first|(simp;done)|(rw [if_neg (by decide)];rfl)) (by first|(simp;done)|(rw [if_neg (by decide)];rfl)) (by first|(simp;done)|(rw [if_neg (by decide)];rfl)) (by rw [if_pos rfl];rfl) (by first|(simp;done)|(rw [if_neg (by decide)];rfl)) (by first|(simp;done)|(rw [if_neg (by decide)];rfl)) (by first|(simp;done)|(rw [if_neg (by decide)];rfl)) (by first|(simp;done)|(rw [if_neg (by decide)];rfl)) (by first|(simp;done)|(rw [if_neg (by decide)];rfl)) (by first|(simp;done)|(rw [if_neg (by decide)];rfl)) (by first|(simp;done)|(rw [if_neg (by decide)];rfl)) (by first|(simp;done)|(rw [if_neg (by decide)];rfl))⟩
    ·obtain rfl:=H.f0 (hW.out 0 (by kernel_rfl))
     obtain rfl:=H.f5 (hW.out 5 (by kernel_rfl))
     obtain rfl:=H.f10 (hW.out 10 (by kernel_rfl))
     unfold zbk
     refine zz rfl (fun K hK=>?_)
     go_simp
     go_at_call 28
     refine (DC.out _ W H.r0).mono ?_
     rintro e W' ⟨c0,c1,c2,rfl,hm,hb⟩
     try go_simp
     refine hK _ _ ⟨_,_,_,_,_,_,_,_,_,_,_,_,_,_,_,_,_,_,_,_,_,_,_,_,_,_,_,_,_,_,_,_,_,rfl,(H.grow (hb)).set (i:=11) (by decide) (by decide) (by decide) (by first|(simp;done)|(rw [if_neg (by decide)];rfl)) (by first|(simp;done)|(rw [if_neg (by decide)];rfl)) (by first|(simp;done)|(rw [if_neg (by decide)];rfl)) (by first|(simp;done)|(rw [if_neg (by decide)];rfl)) (by first|(simp;done)|(rw [if_neg (by decide)];rfl)) (by first|(simp;done)|(rw [if_neg (by decide)];rfl)) (by first|(simp;done)|(rw [if_neg (by decide)];rfl)) (by first|(simp;done)|(rw [if_neg (by decide)];rfl)) (by first|(simp;done)|(rw [if_neg (by decide)];rfl)) (by first|(simp;done)|(rw [if_neg (by decide)];rfl)) (by first|(simp;done)|(rw [if_neg (by decide)];rfl)) (by rw [if_pos rfl];exact ⟨_,_,_,rfl,hm⟩) (by first|(simp;done)|(rw [if_neg (by decide)];rfl)) (by first|(simp;done)|(rw [if_neg (by decide)];rfl)) (by first|(simp;done)|(rw [if_neg (by decide)];rfl)) (by first|(simp;done)|(rw [if_neg (by decide)];rfl)) (by first|(simp;done)|(rw [if_neg (by decide)];rfl)) (by first|(simp;done)|(rw [if_neg (by decide)];rfl)) (by first|(simp;done)|(rw [if_neg (by decide)];rfl))⟩
    ·obtain ⟨c0,c1,c2,e1,hm1⟩:=H.f11 (hW.out 11 (by kernel_rfl))
     rw [e1] at H ⊢
     refine zz rfl (fun K hK=>?_)
     go_simp
     refine hK _ _ ⟨_,_,_,_,_,_,_,_,_,_,_,_,_,_,_,_,_,_,_,_,_,_,_,_,_,_,_,_,_,_,_,_,_,rfl,H.set (i:=12) (by decide) (by decide) (by decide) (by first|(simp;done)|(rw [if_neg (by decide)];rfl)) (by first|(simp;done)|(rw [if_neg (by decide)];rfl)) (by first|(simp;done)|(rw [if_neg (by decide)];rfl)) (by first|(simp;done)|(rw [if_neg (by decide)];rfl)) (by first|(simp;done)|(rw [if_neg (by decide)];rfl)) (by first|(simp;done)|(rw [if_neg (by decide)];rfl)) (by first|(simp;done)|(rw [if_neg (by decide)];rfl)) (by first|(simp;done)|(rw [if_neg (by decide)];rfl)) (by first|(simp;done)|(rw [if_neg (by decide)];rfl)) (by first|(simp;done)|(rw [if_neg (by decide)];rfl)) (by first|(simp;done)|(rw [if_neg (by decide)];rfl)) (by first|(simp;done)|(rw [if_neg (by decide)];rfl)) (by rw [if_pos rfl];exact ⟨_,_,_,rfl,hm1⟩) (by first|(simp;done)|(rw [if_neg (by decide)];rfl)) (by first|(simp;done)|(rw [if_neg (by decide)];rfl)) (by first|(simp;done)|(rw [if_neg (by decide)];rfl)) (by first|(simp;done)|(rw [if_neg (by decide)];rfl)) (by first|(simp;done)|(rw [if_neg (by decide)];rfl)) (by first|(simp;done)|(rw [if_neg (by decide)];rfl))⟩
    ·obtain ⟨c0,c1,c2,e1,hm1⟩:=H.f12 (hW.out 12 (by kernel_rfl))
     rw [e1] at H ⊢
     obtain ⟨_,_,_,e2,h0,h1,h2⟩:=hm1
     cases e2
     refine zz rfl (fun K hK=>?_)
     go_simp
     refine hK _ _ ⟨_,_,_,_,_,_,_,_,_,_,_,_,_,_,_,_,_,_,_,_,_,_,_,_,_,_,_,_,_,_,_,_,_,rfl,H.set (i:=13) (by decide) (by decide) (by decide) (by first|(simp;done)|(rw [if_neg (by decide)];rfl)) (by first|(simp;done)|(rw [if_neg (by decide)];rfl)) (by first|(simp;done)|(rw [if_neg (by decide)];rfl)) (by first|(simp;done)|(rw [if_neg (by decide)];rfl)) (by first|(simp;done)|(rw [if_neg (by decide)];rfl)) (by first|(simp;done)|(rw [if_neg (by decide)];rfl)) (by first|(simp;done)|(rw [if_neg (by decide)];rfl)) (by first|(simp;done)|(rw [if_neg (by decide)];rfl)) (by first|(simp;done)|(rw [if_neg (by decide)];rfl)) (by first|(simp;done)|(rw [if_neg (by decide)];rfl)) (by first|(simp;done)|(rw [if_neg (by decide)];rfl)) (by first|(simp;done)|(rw [if_neg (by decide)];rfl)) (by first|(simp;done)|(rw [if_neg (by decide)];rfl)) (by rw [if_pos rfl];exact h0) (by first|(simp;done)|(rw [if_neg (by decide)];rfl)) (by first|(simp;done)|(rw [if_neg (by decide)];rfl)) (by first|(simp;done)|(rw [if_neg (by decide)];rfl)) (by first|(simp;done)|(rw [if_neg (by decide)];rfl)) (by first|(simp;done)|(rw [if_neg (by decide)];rfl))⟩
    ·obtain ⟨c0,c1,c2,e1,hm1⟩:=H.f12 (hW.out 12 (by kernel_rfl))
     rw [e1] at H ⊢
     refine zz rfl (fun K hK=>?_)
     go_simp
     refine hK _ _ ⟨_,_,_,_,_,_,_,_,_,_,_,_,_,_,_,_,_,_,_,_,_,_,_,_,_,_,_,_,_,_,_,_,_,rfl,H.set (i:=14) (by decide) (by decide) (by decide) (by first|(simp;done)|(rw [if_neg (by decide)];rfl)) (by first|(simp;done)|(rw [if_neg (by decide)];rfl)) (by first|(simp;done)|(rw [if_neg (by decide)];rfl)) (by first|(simp;done)|(rw [if_neg (by decide)];rfl)) (by first|(simp;done)|(rw [if_neg (by decide)];rfl)) (by first|(simp;done)|(rw [if_neg (by decide)];rfl)) (by first|(simp;done)|(rw [if_neg (by decide)];rfl)) (by first|(simp;done)|(rw [if_neg (by decide)];rfl)) (by first|(simp;done)|(rw [if_neg (by decide)];rfl)) (by first|(simp;done)|(rw [if_neg (by decide)];rfl)) (by first|(simp;done)|(rw [if_neg (by decide)];rfl)) (by first|(simp;done)|(rw [if_neg (by decide)];rfl)) (by first|(simp;done)|(rw [if_neg (by decide)];rfl)) (by first|(simp;done)|(rw [if_neg (by decide)];rfl)) (by rw [if_pos rfl]) (by first|(simp;done)|(rw [if_neg (by decide)];rfl)) (by first|(simp;done)|(rw [if_neg (by decide)];rfl)) (by first|(simp;done)|(rw [if_neg (by decide)];rfl)) (by first|(simp;done)|(rw [if_neg (by decide)];rfl))⟩
    ·obtain ⟨c0,c1,c2,e1,hm1⟩:=H.f12 (hW.out 12 (by kernel_rfl))
     rw [e1] at H ⊢
     obtain ⟨_,_,_,e2,h0,h1,h2⟩:=hm1
     cases e2
     refine zz rfl (fun K hK=>?_)
     go_simp
     refine hK _ _ ⟨_,_,_,_,_,_,_,_,_,_,_,_,_,_,_,_,_,_,_,_,_,_,_,_,_,_,_,_,_,_,_,_,_,rfl,H.set (i:=15) (by decide) (by decide) (by decide) (by first|(simp;done)|(rw [if_neg (by decide)];rfl)) (by first|(simp;done)|(rw [if_neg (by decide)];rfl)) (by first|(simp;done)|(rw [if_neg (by decide)];rfl)) (by first|(simp;done)|(rw [if_neg (by decide)];rfl)) (by first|(simp;done)|(rw [if_neg (by decide)];rfl)) (by first|(simp;done)|(rw [if_neg (by decide)];rfl)) (by first|(simp;done)|(rw [if_neg (by decide)];rfl)) (by first|(simp;done)|(rw [if_neg (by decide)];rfl)) (by first|(simp;done)|(rw [if_neg (by decide)];rfl)) (by first|(simp;done)|(rw [if_neg (by decide)];rfl)) (by first|(simp;done)|(rw [if_neg (by decide)];rfl)) (by first|(simp;done)|(rw [if_neg (by decide)];rfl)) (by first|(simp;done)|(rw [if_neg (by decide)];rfl)) (by first|(simp;done)|(rw [if_neg (by decide)];rfl)) (by first|(simp;done)|(rw [if_neg (by decide)];rfl)) (by rw [if_pos rfl];exact ⟨_,_,rfl,h1,h2⟩) (by first|(simp;done)|(rw [if_neg (by decide)];rfl)) (by first|(simp;done)|(rw [if_neg (by decide)];rfl)) (by first|(simp;done)|(rw [if_neg (by decide)];rfl))⟩
    ·have k19:L.getD 19 false=false:=by cases h:L.getD 19 false with|false=>rfl|true=>exact absurd (H.c19 h) (by rw [hun];decide)
     have hq1:=zb H.Q
     have hg1:=zb H.A.at_
     have hs1:=H.bel.size
     have hp1:=zb H.P
     refine zz rfl (fun K hK=>?_)
     go_simp
     refine hK _ _ ⟨_,_,_,_,_,_,_,_,_,_,_,_,_,_,_,_,_,_,_,_,_,_,_,_,_,_,_,_,_,_,_,_,_,rfl,(H.grow (Below.ofAlloc (Below.refl _ _) _)).set (i:=16) (by decide) (by decide) (by decide) (by first|(simp;done)|(rw [if_neg (by decide)];rfl)) (by first|(simp;done)|(rw [if_neg (by decide)];rfl)) (by first|(simp;done)|(rw [if_neg (by decide)];rfl)) (by first|(simp;done)|(rw [if_neg (by decide)];rfl)) (by first|(simp;done)|(rw [if_neg (by decide)];rfl)) (by first|(simp;done)|(rw [if_neg (by decide)];rfl)) (by first|(simp;done)|(rw [if_neg (by decide)];rfl)) (by first|(simp;done)|(rw [if_neg (by decide)];rfl)) (by first|(simp;done)|(rw [if_neg (by decide)];rfl)) (by first|(simp;done)|(rw [if_neg (by decide)];rfl)) (by first|(simp;done)|(rw [if_neg (by decide)];rfl)) (by first|(simp;done)|(rw [if_neg (by decide)];rfl)) (by first|(simp;done)|(rw [if_neg (by decide)];rfl)) (by first|(simp;done)|(rw [if_neg (by decide)];rfl)) (by first|(simp;done)|(rw [if_neg (by decide)];rfl)) (by first|(simp;done)|(rw [if_neg (by decide)];rfl)) (by rw [if_pos rfl];exact ⟨_,rfl,by omega,by omega,by omega,.inl ⟨k19,heap_alloc_new _ _⟩⟩) (by first|(simp;done)|(rw [if_neg (by decide)];rfl)) (by first|(simp;done)|(rw [if_neg (by decide)];rfl))⟩
    ·have k20:L.getD 20 false=false:=by cases h:L.getD 20 false with|false=>rfl|true=>exact absurd (H.c20 h) (by rw [hun];decide)
     have hq1:=zb H.Q
     have hg1:=zb H.A.at_
     have hs1:=H.bel.size
     have hp1:=zb H.P
     refine zz rfl (fun K hK=>?_)
     go_simp
     refine hK _ _ ⟨_,_,_,_,_,_,_,_,_,_,_,_,_,_,_,_,_,_,_,_,_,_,_,_,_,_,_,_,_,_,_,_,_,rfl,(H.grow (Below.ofAlloc (Below.refl _ _) _)).set (i:=17) (by decide) (by decide) (by decide) (by first|(simp;done)|(rw [if_neg (by decide)];rfl)) (by first|(simp;done)|(rw [if_neg (by decide)];rfl)) (by first|(simp;done)|(rw [if_neg (by decide)];rfl)) (by first|(simp;done)|(rw [if_neg (by decide)];rfl)) (by first|(simp;done)|(rw [if_neg (by decide)];rfl)) (by first|(simp;done)|(rw [if_neg (by decide)];rfl)) (by first|(simp;done)|(rw [if_neg (by decide)];rfl)) (by first|(simp;done)|(rw [if_neg (by decide)];rfl)) (by first|(simp;done)|(rw [if_neg (by decide)];rfl)) (by first|(simp;done)|(rw [if_neg (by decide)];rfl)) (by first|(simp;done)|(rw [if_neg (by decide)];rfl)) (by first|(simp;done)|(rw [if_neg (by decide)];rfl)) (by first|(simp;done)|(rw [if_neg (by decide)];rfl)) (by first|(simp;done)|(rw [if_neg (by decide)];rfl)) (by first|(simp;done)|(rw [if_neg (by decide)];rfl)) (by first|(simp;done)|(rw [if_neg (by decide)];rfl)) (by first|(simp;done)|(rw [if_neg (by decide)];rfl)) (by rw [if_pos rfl];exact ⟨_,rfl,by omega,by omega,by omega,.inl ⟨k20,heap_alloc_new _ _⟩⟩) (by first|(simp;done)|(rw [if_neg (by decide)];rfl))⟩
    ·have h13:=H.f13 (hW.out 13 (by kernel_rfl))
     refine zz rfl (fun K hK=>?_)
     go_simp
     refine hK _ _ ⟨_,_,_,_,_,_,_,_,_,_,_,_,_,_,_,_,_,_,_,_,_,_,_,_,_,_,_,_,_,_,_,_,_,rfl,H.set (i:=18) (by decide) (by decide) (by decide) (by first|(simp;done)|(rw [if_neg (by decide)];rfl)) (by first|(simp;done)|(rw [if_neg (by decide)];rfl)) (by first|(simp;done)|(rw [if_neg (by decide)];rfl)) (by first|(simp;done)|(rw [if_neg (by decide)];rfl)) (by first|(simp;done)|(rw [if_neg (by decide)];rfl)) (by first|(simp;done)|(rw [if_neg (by decide)];rfl)) (by first|(simp;done)|(rw [if_neg (by decide)];rfl)) (by first|(simp;done)|(rw [if_neg (by decide)];rfl)) (by first|(simp;done)|(rw [if_neg (by decide)];rfl)) (by first|(simp;done)|(rw [if_neg (by decide)];rfl)) (by first|(simp;done)|(rw [if_neg (by decide)];rfl)) (by first|(simp;done)|(rw [if_neg (by decide)];rfl)) (by first|(simp;done)|(rw [if_neg (by decide)];rfl)) (by first|(simp;done)|(rw [if_neg (by decide)];rfl)) (by first|(simp;done)|(rw [if_neg (by decide)];rfl)) (by first|(simp;done)|(rw [if_neg (by decide)];rfl)) (by first|(simp;done)|(rw [if_neg (by decide)];rfl)) (by first|(simp;done)|(rw [if_neg (by decide)];rfl)) (by rw [if_pos rfl];exact h13)⟩
    ·obtain ⟨b,rfl,rfl,hB,H'⟩:=H.st19 HSM.out.rn HSM.out.wn HSM2.out.rn HSM2.out.wn (hW.out 14 (by kernel_rfl)) (hW.out 16 (by kernel_rfl)) hun
     have e1:=zi hB
     have hz:=zb hB
     unfold zca
     refine zz rfl (fun K hK=>?_)
     rw [<- e1]
     clear e1
     go_simp
     exact hK _ _ ⟨_,_,_,_,_,_,_,_,_,_,_,_,_,_,_,_,_,_,_,_,_,_,_,_,_,_,_,_,_,_,_,_,_,rfl,H'⟩
    ·obtain ⟨b,a0,c0,a1,c1,rfl,rfl,hB,H'⟩:=H.st20 (hW.out 15 (by kernel_rfl)) (hW.out 17 (by kernel_rfl)) hun
     have e1:=zi hB
     have hz:=zb hB
     refine zz rfl (fun K hK=>?_)
     rw [<- e1]
     clear e1
     go_simp
     exact hK _ _ ⟨_,_,_,_,_,_,_,_,_,_,_,_,_,_,_,_,_,_,_,_,_,_,_,_,_,_,_,_,_,_,_,_,_,rfl,H'⟩
   ·rintro L a W ⟨u18,u19,u20,u21,u22,u23,u40,u41,u42,u43,u44,u45,u46,u47,x25,x26,x27,x28,x29,x30,x31,x32,x33,x34,x35,x36,x24,x37,x38,x39,x11,x12,x10,rfl,H⟩ hr
    have hall:=za9 (ops:=_) H.sz hr (zaA (by kernel_rfl))
    obtain ⟨b11,rfl,hb11,hq11,hg11,h11⟩:=H.f16 (hall 16 (by decide))
    obtain ⟨b12,rfl,hb12,hq12,hg12,h12⟩:=H.f17 (hall 17 (by decide))
    have k19:=hall 19 (by decide)
    have k20:=hall 20 (by decide)
    rcases h11 with h11|⟨_,h11⟩
    ·rw [k19] at h11;cases h11.1
    rcases h12 with h12|⟨_,c,d,h12,hc,hd⟩
    ·rw [k20] at h12;cases h12.1
    have h18:=H.f18 (hall 18 (by decide))
    obtain ⟨x0,xc,rfl⟩:=h18.form
    obtain ⟨c0,cc,rfl⟩:=hc.form
    obtain ⟨d0,dc,rfl⟩:=hd.form
    have hQ:=H.Q
    have hA:=H.A
    have hP:=H.P
    have hbl0:=H.bel
    have hy:=H.ry
    have hz:=H.rz
    obtain ⟨y0,yc,rfl⟩:=hy.form
    obtain ⟨z0,zc,rfl⟩:=hz.form
    have b11l:=zb h11
    have p0:W.cell? ⟨b11,0,none⟩=some (.int .i64 an.code):=(zg (i:=0) h11).trans rfl
    have p1:W.cell? ⟨b11,1,none⟩=some (.int .i64 an.n):=(zg (i:=1) h11).trans rfl
    have p2:W.cell? ⟨b11,2,none⟩=some (.string an.text):=(zg (i:=2) h11).trans rfl
    have HQ:=Hd hQ
    have HA:=Hd hA
    have HP:=Hd hP
    have HB:=Hd hbl0
    have HY:=Hd hy
    have HZ:=Hd hz
    have H12:=Hd h12
    have HC:=Hd hc
    have HD:=Hd hd
    have H18:=Hd h18
    have hsz0:=hbl0.size
    have hql:=zb hQ
    clear hall k19 k20 h11 h12 hc hd hQ hA hP hbl0 hy hz H hr h18
    go_wp2_with (at_builtin;refine zP ?_)
    refine ziu rfl (.tmp 41) (.tmp 43) rfl (B:=w4.heap.size) (g:=g) (cap:=cap2) (xs:=out) (HA.out.below (Below.ofAlloc (Below.refl _ _) _)) rfl (y:=an) (zat zbD _ an _ rfl _ _ rfl) rfl (by omega) (by simp;omega) ?_
    intro g' cap' w7 hA7 hK7
    have hu:=hK7.grown
    have A1:∀ k,k<W.heap.size->k ≠ g->w7.heap[k]?=W.heap[k]?:=fun k hk hne=>(hu.block k (by simp;omega) (by simpa using hne)).trans (heap_alloc_old _ _ hk)
    have hgl:=zb HA.out.at_
    have hgq:w4.heap.size+1 ≠ g:=Ne.symm (HA.out.ne HQ.out (by decide))
    have hgp:w.heap.size ≠ g:=Ne.symm (HA.out.ne HP.out (by decide))
    have hQ7:=(A1 _ hql hgq).trans HQ.out
    have hP7:=(A1 _ (zb HP.out) hgp).trans HP.out
    have h127:=(A1 _ (zb H12.out) hg12).trans H12.out
    have hy7:=hK7.strs _ _ HSM.out.rn (HY.out.alloc _)
    have hz7:=hK7.strs _ _ HSM.out.wn (HZ.out.alloc _)
    have hc7:=hK7.strs _ _ HSM2.out.rn (HC.out.alloc _)
    have hd7:=hK7.strs _ _ HSM2.out.wn (HD.out.alloc _)
    have h187:=hK7.cells _ _ (H18.out.alloc _)
    have hB7:Below w.heap.size w w7:=⟨hu.os.trans HB.out.os,hu.tape.trans HB.out.tape,hu.output.trans HB.out.output,Nat.le_trans hsz0 (Nat.le_trans (by simp) hu.size),fun k hk=>(A1 k (by omega) (by have:=HA.out.base;omega)).trans (HB.out.block k hk)⟩
    have DJ:=Hd (zfV _ _ _ _ _ _ _ _ w7 hy7 hz7 hc7 hd7 (by have:=HSM.out.rl;have:=HSM2.out.rl;omega) (by have:=HSM.out.wl;have:=HSM2.out.wl;omega))
    have q0:w7.cell? ⟨w4.heap.size+1,0,none⟩=some (.slice y0 m.rd.length yc):=(zg (i:=0) hQ7).trans rfl
    have q1:w7.cell? ⟨w4.heap.size+1,1,none⟩=some (.slice z0 m.wr.length zc):=(zg (i:=1) hQ7).trans rfl
    have r0:w7.cell? ⟨b12,0,none⟩=some (.slice c0 mm.rd.length cc):=(zg (i:=0) h127).trans rfl
    have r1:w7.cell? ⟨b12,1,none⟩=some (.slice d0 mm.wr.length dc):=(zg (i:=1) h127).trans rfl
    have hq7:=zb hQ7
    have h12l:=zb h127
    have HQ7:=Hd hQ7
    have HP7:=Hd hP7
    have H187:=Hd h187
    have HA7:=Hd hA7
    have HB7:=Hd hB7
    clear hA7 hK7 hu A1 hQ7 hP7 h127 hy7 hz7 hc7 hd7 h187 hB7 hgq hgp p0 p1 p2
    ((try simp only []);repeat (first|go_skip|go_guarded|go_step|go_upon|go_back))
    (go_at_call 54;refine DJ.out.mono ?_;rintro e w8 ⟨j0,j1,rfl,hj0,hj1,hb8⟩)
    obtain ⟨e0,ec,rfl⟩:=hj0.form
    obtain ⟨f0',fc,rfl⟩:=hj1.form
    have hQ8:=(Grew.below hb8 _ (zb HQ7.out)).trans HQ7.out
    have hP8:=(Grew.below hb8 _ (zb HP7.out)).trans HP7.out
    have hA8:=HA7.out.below hb8
    have hg8:g' ≠ w4.heap.size+1:=hA8.ne hQ8 (by decide)
    have hs8:=hb8.size
    have hB8:=Below.then HB7.out hb8
    have HE:Hid (∀ o,RdL zE (w8.setB (w4.heap.size+1) o) (.slice x0 mm.cells.length xc) mm.cells/\AnsIn (w8.setB (w4.heap.size+1) o) w4.heap.size g' cap' (out ++ [an])/\RdL zH (w8.setB (w4.heap.size+1) o) (.slice e0 (zak m.rd mm.rd).length ec) (zak m.rd mm.rd)/\RdL zH (w8.setB (w4.heap.size+1) o) (.slice f0' (zak m.wr mm.wr).length fc) (zak m.wr mm.wr)/\(w8.setB (w4.heap.size+1) o).heap[w.heap.size]?=some (.cells #[.slice none 0 0,.slice none 0 0] 27 (0,0))/\Below w.heap.size w (w8.setB (w4.heap.size+1) o)):=fun o =>
     ⟨zaz (zh _) (H187.out.below hb8) hQ8 (zfe _ _ _ _ _ _) o,hA8.setB hg8 o,zaz (ze _) hj0 hQ8 (zfe _ _ _ _ _ _) o,zaz (ze _) hj1 hQ8 (zfe _ _ _ _ _ _) o,(World.setB_get _ _ _ _ (by omega)).trans hP8,zp hB8 (by omega) o⟩
    have hq8:=zb hQ8
    have e1:=zi hQ8
    rw [<- e1]
    clear e1 hQ8 hP8 hA8 hB8 hb8 hj0 hj1 q0 q1 r0 r1
    ((try simp only []);repeat (first|go_skip|go_guarded|go_step|go_upon|go_back))
    go_roundw
    case rel=>exact ⟨n+1,⟨mm.cells,zak m.rd mm.rd,zak m.wr mm.wr⟩,out ++ [an],g',cap',_,_,by go_num,by omega,by simp;omega,by rw [List.length_append,List.length_singleton],(HE.out _).1,(HE.out _).2.1,World.setB_at _ _ _ hq8,(HE.out _).2.2.1,(HE.out _).2.2.2.1,(HE.out _).2.2.2.2.1,(HE.out _).2.2.2.2.2,by rw [zd];omega,HSR.out,HG2.out,HR2.out⟩
    case measure=>simp [intOf];omega
def zcV (zs:List CellD) (d:TxD):List CellD:=((K.runAll (zbb d)).run ⟨zs,[],[]⟩).2.cells
theorem zfj (d:TxD):(zbb d).length=d.calls.length:=by unfold zbb;rw [List.length_map]
theorem zg2 (v:Value) (ct:List Value) (zs:List CellD) (d:TxD) (w:World) (h:RdL zE w v zs) (ht:vTx.rd w ct d) (hf:∀ s ∈ zbb d,s.fine) (hl:zs.length<=549755813888) (hl2:d.calls.length<=1048576) (hfit:zfM (zbb d) ⟨zs,[],[]⟩) :
  Calls Tryz.prog 53 #[v,.agg ct.toArray] w fun e w'=>∃ v',e=.returned v'/\RdL zE w' v' (zcV zs d)/\Below w.heap.size w w':=by
 have D1:=Hd (fun w' (hb:Below w.heap.size w w')=>zg3 ct d w' (View.grow _ ht (Grew.below hb)) hl2)
 have D2:=Hd (fun w' vs (hb:Below w.heap.size w w') hs=>zgY v vs zs (zbb d) w' (h.below hb) hs hf hl (by rw [zfj];exact hl2) hfit)
 obtain ⟨res,mres,hr⟩ : ∃ res mres,(K.runAll (zbb d)).run ⟨zs,[],[]⟩=(res,mres):=⟨_,_,rfl⟩
 unfold zcV
 rw [hr] at D2 ⊢
 dsimp only at D2 ⊢
 obtain ⟨a0,c0,a1,c1,a2,c2,a3,c3,a4,c4,rfl⟩:=zjf ht
 obtain ⟨az,cz,rfl⟩:=h.form
 clear hr h ht hf hfit
 go_enter Tryz.func53,Tryz.ntmps53
 ((try simp only []);repeat (first|go_skip|go_guarded|go_step|go_upon|go_back))
 (go_at_call 81;refine (D1.out _ (by repeat (first|with_reducible exact Below.refl _ _|with_reducible apply Below.ofExt|with_reducible apply Below.ofAlloc|with_reducible apply Below.drew|with_reducible apply Below.ofDrewN|with_reducible assumption|(with_reducible refine Below.setCell ?_ (by first|exact Nat.le_refl _|(simp [go_sem];done)|(simp [go_sem];omega)) _)))).mono ?_;rintro e w1 ⟨vs,fp,rfl,ho,hb⟩)
 obtain ⟨xs1,ys1,rfl⟩:=vSlice.form (View.toRd _ ho.own)
 have HO:=Hd (zf7 (R:=rStepM) rfl ho.own)
 have HB:Hid (Below w.heap.size w w1):=Below.then (by repeat (first|with_reducible exact Below.refl _ _|with_reducible apply Below.ofExt|with_reducible apply Below.ofAlloc|with_reducible apply Below.drew|with_reducible apply Below.ofDrewN|with_reducible assumption|(with_reducible refine Below.setCell ?_ (by first|exact Nat.le_refl _|(simp [go_sem];done)|(simp [go_sem];omega)) _))) hb
 clear ho hb
 ((try simp only []);repeat (first|go_skip|go_guarded|go_step|go_upon|go_back))
 (go_at_call 80;refine (D2.out _ _ HB.out HO.out).mono ?_;rintro e w2 ⟨v0,v1,v2,v3,rfl,h0,h1,h2,h3,hb⟩)
 obtain ⟨b0,d0,rfl⟩:=h0.form
 obtain ⟨b1,d1,rfl⟩:=h1.form
 obtain ⟨b2,d2,rfl⟩:=h2.form
 obtain ⟨b3,d3,rfl⟩:=h3.form
 have H0:=Hd h0
 have HB2:=Hd (Below.then HB.out hb)
 clear h0 h1 h2 h3 hb D1 D2
 ((try simp only []);repeat (first|go_skip|go_guarded|go_step|go_upon|go_back))
 refine bodyPost_ret (by simp [results,Tryz.results53,go_sem];rfl) rfl ?_
 first
 | exact ⟨_,rfl,H0.out,HB2.out⟩
 | exact ⟨_,rfl,H0.out.alloc _,HB2.out.ofAlloc _⟩
 | exact ⟨_,rfl,(H0.out.alloc _).alloc _,(HB2.out.ofAlloc _).ofAlloc _⟩
open Mp
open Classical
def Good (k:Nat) (m:MachD):Prop:=∃ (L:Nat) (D:List ByteArray),(∀ x ∈ gk,x ∈ D)/\Inv L D m/\2 ^ (12 - (prc m).toNat)*(D.length+L+14+12*k)<=8589934592
theorem Good.le {k j:Nat} {m:MachD} (h:Good k m) (hj:j<=k):Good j m:=by
 obtain ⟨L,D,h1,h2,h3⟩:=h
 exact ⟨L,D,h1,h2,Nat.le_trans (Nat.mul_le_mul_left _ (by omega)) h3⟩
theorem Good.fresh {k:Nat} {m:MachD} (h:Good k m):Good k ⟨m.cells,[],[]⟩:=by
 obtain ⟨L,D,h1,h2,h3⟩:=h
 exact ⟨L,D,h1,h2.fresh,h3⟩
theorem Good.fits {k:Nat} {m:MachD} (h:Good k m) {l:List StepD} (hl:l.length<=k) (hs:∀ s ∈ l,zbE s.proc/\zbE s.call.a):zfM l m:=by
 obtain ⟨L,D,h1,h2,h3⟩:=h.le hl
 exact zjK l m D hs h1 h2 (Nat.le_trans h3 (by decide))
theorem Good.len {k:Nat} {m:MachD} (h:Good k m):m.cells.length<=8589934592:=by
 obtain ⟨L,D,h1,h2,h3⟩:=h
 have h4:=h2.clen
 have h5:=Nat.le_mul_of_pos_left (D.length+L+14+12*k) (Nat.two_pow_pos (12 - (prc m).toNat))
 omega
theorem Good.touch {k:Nat} {m:MachD} (h:Good k m):(m.rd.length<=8589934592/\∀ s ∈ m.rd,s.size<=1048700)/\m.wr.length<=8589934592/\∀ s ∈ m.wr,s.size<=1048700:=by
 obtain ⟨L,D,h1,h2,h3⟩:=h
 have r1:=zdG (zdh h2.rs) h2.rn
 have w1:=zdG (zdh h2.ws) h2.wn
 have h5:=Nat.le_mul_of_pos_left (D.length+L+14+12*k) (Nat.two_pow_pos (12 - (prc m).toNat))
 exact ⟨⟨by omega,fun s hs=>(h2.rk s hs).2⟩,by omega,fun s hs=>(h2.wk s hs).2⟩
theorem Good.step {k:Nat} {m:MachD} (h:Good (k+1) m) {proc:Int} {c:CallD} (hp:zbE proc) (ha:zbE c.a):Good k ((K.doCall proc c).run m).2:=by
 obtain ⟨L,D,hG,I,hb⟩:=h
 have hpr:=zjq m
 obtain ⟨h1,h2⟩:=zfE hp ha hG I
 refine ⟨L,_,fun x hx=>zb7 _ m D x (hG x hx),zb2 _ L m D I h1,?_⟩
 rcases h2 with h|h
 ·rw [h.1]
  refine Nat.le_trans (Nat.mul_le_mul_left _ ?_) hb
  omega
 ·obtain ⟨h1,h3,h4⟩:=h
  have e : 12 - (prc m).toNat=(12 - (prc ((K.doCall proc c).run m).2).toNat)+1:=by omega
  rw [e,Nat.pow_succ,Nat.mul_assoc] at hb
  refine Nat.le_trans (Nat.mul_le_mul_left _ ?_) hb
  omega
theorem zhw:∀ (l:List StepD) {k:Nat} {m:MachD} (out:List AnswerD),Good (k+l.length) m->(∀ s ∈ l,zbE s.proc/\zbE s.call.a)->Good k ((Mp.fold K.runSteps out l).run m).2
 | [],k,m,out,h,_=>h
 | s :: l,k,m,out,h,hs=>by
  have hs1:=hs s List.mem_cons_self
  have g:=Good.step (k:=k+l.length) (by rw [List.length_cons] at h;exact h) hs1.1 hs1.2
  have e:(K.runSteps out s).run m=(out ++ [((K.doCall s.proc s.call).run m).1],((K.doCall s.proc s.call).run m).2):=by
   unfold K.runSteps
   rw [Mp.run_bind]
   rfl
  show Good k ((K.runSteps out s >>= fun b=>Mp.fold K.runSteps b l).run m).2
  rw [Mp.run_bind,e]
  exact zhw l _ g fun x hx=>hs x (List.mem_cons_of_mem _ hx)
theorem zhn:Inv 0 (gk.foldr (fun k D=>zb9 D k) []) ⟨[],[],[]⟩:=by
 have hn:=zif gk
 revert hn
 generalize gk.foldr (fun k D=>zb9 D k) []=G
 intro hn
 exact ⟨hn,(fun c h=>by cases h),(fun k h=>by cases h),(fun k h=>by cases h),(fun k h=>by cases h),(fun k h=>by cases h),List.Pairwise.nil,List.Pairwise.nil,(fun c h=>by cases h),[],List.nodup_nil,(fun k h=>by cases h),Nat.le_refl _,List.nodup_nil⟩
theorem zhm:(gk.foldr (fun k D=>zb9 D k) []).length<=1137136:=by
 have hk:=zhg gk
 rw [gk_len] at hk
 revert hk
 generalize (gk.foldr (fun k D=>zb9 D k) []).length=n
 intro hk
 omega
theorem zjL:∀ x ∈ gk,x ∈ gk.foldr (fun k D=>zb9 D k) []:=zhf _
theorem ziO:Good 60 ⟨((K.spawn 0).run ⟨[],[],[]⟩).2.cells,[],[]⟩:=by
 have hI:=zhn
 have hl:=zhm
 have hh:=zjL
 revert hI hl hh
 generalize gk.foldr (fun k D=>zb9 D k) []=G
 intro I hl hh
 obtain ⟨h1,h2,h3⟩:=zfG (L:=0) (m:=⟨[],[],[]⟩) (D:=G) 0 I
 refine Good.fresh ⟨0,_,fun x hx=>zb7 _ _ _ x (hh x hx),zb2 _ 0 _ _ I h1,?_⟩
 have h4 : 2 ^ (12 - (prc ((K.spawn 0).run ⟨[],[],[]⟩).2).toNat)<=2 ^ 12:=Nat.pow_le_pow_right (by decide) (by omega)
 have h5:((K.spawn 0).news ⟨[],[],[]⟩ G).length+0+14+12*60<=1137875:=by omega
 have h6:=Nat.mul_le_mul h4 h5
 exact Nat.le_trans h6 (by decide)
theorem ziS:(K.spawn 0).fits ⟨[],[],[]⟩:=by
 have hI:=zhn
 have hl:=zhm
 revert hI hl
 generalize gk.foldr (fun k D=>zb9 D k) []=G
 intro I hl
 obtain ⟨h1,h2,h3⟩:=zfG (L:=0) (m:=⟨[],[],[]⟩) (D:=G) 0 I
 exact zfL _ 0 _ _ I h1 (by omega)
def bootC:List CellD:=((K.spawn 0).run ⟨[],[],[]⟩).2.cells
theorem zjl (w:World):Calls Tryz.prog 27 #[] w fun e w'=>∃ v,e=.returned v/\RdL zE w' v bootC/\Below w.heap.size w w':=by
 have D1:=Hd (fun v w' (h:RdL zE w' v [])=>zfp v [] w' h (by decide))
 have D2:=Hd (fun v w' (h:MRd w' v ⟨[],[],[]⟩)=>zcz 0 (by decide) (by decide) w' v ⟨[],[],[]⟩ h ziS)
 have hb:bootC=((K.spawn 0).run ⟨[],[],[]⟩).2.cells:=rfl
 generalize (K.spawn 0).run ⟨[],[],[]⟩=R at D2 hb
 obtain ⟨r,m⟩:=R
 dsimp only at D2 hb
 rw [hb]
 clear hb
 go_enter Tryz.func27,Tryz.ntmps27
 ((try simp only []);repeat (first|go_skip|go_guarded|go_step|go_upon|go_back))
 (go_at_call 41;refine (D1.out _ _ (OwnL.empty zE _ _).rd).mono ?_;rintro e w1 ⟨v,rfl,ho,hb1⟩)
 have HO:=Hd ho
 clear ho
 ((try simp only []);repeat (first|go_skip|go_guarded|go_step|go_upon|go_back))
 (go_at_call 40;refine (D2.out _ _ ⟨_,_,_,rfl,HO.out.rd,RdL.nil _ _,RdL.nil _ _⟩).mono ?_;rintro e w2 ⟨v2,rfl,hs⟩)
 obtain ⟨⟨v0,v1,v3,rfl,h0,h1,h3⟩,hb2⟩:=hs
 obtain ⟨a0,c0,rfl⟩:=h0.form
 obtain ⟨a1,c1,rfl⟩:=h1.form
 obtain ⟨a3,c3,rfl⟩:=h3.form
 have H0:=Hd h0
 have HB:Hid (Below w.heap.size w w2):=Below.then (Below.then (by repeat (first|with_reducible exact Below.refl _ _|with_reducible apply Below.ofExt|with_reducible apply Below.ofAlloc|with_reducible apply Below.drew|with_reducible apply Below.ofDrewN|with_reducible assumption|(with_reducible refine Below.setCell ?_ (by first|exact Nat.le_refl _|(simp [go_sem];done)|(simp [go_sem];omega)) _))) hb1) hb2
 clear h0 h1 h3 hb1 hb2 HO
 ((try simp only []);repeat (first|go_skip|go_guarded|go_step|go_upon|go_back))
 refine bodyPost_ret (by simp [results,Tryz.results27,go_sem];rfl) rfl ?_
 exact ⟨_,rfl,H0.out.alloc _,HB.out.ofAlloc _⟩
def StoreN (k:Nat) (cs:List CellD):Prop:=Good (60 - k) ⟨cs,[],[]⟩
theorem StoreN.next {k:Nat} {cs:List CellD} (h:StoreN k cs) (hk:k+1<=60) {proc:Int} {c:CallD} (hp:zbE proc) (ha:zbE c.a):StoreN (k+1) ((K.doCall proc c).run ⟨cs,[],[]⟩).2.cells:=by
 have h1:Good (60 - (k+1)+1) ⟨cs,[],[]⟩:=by rw [show 60 - (k+1)+1=60 - k by omega];exact h
 exact (h1.step hp ha).fresh
theorem StoreN.le {k j:Nat} {cs:List CellD} (h:StoreN k cs) (hj:k<=j):StoreN j cs:=Good.le h (by omega)
theorem StoreN.fits {k:Nat} {cs:List CellD} (h:StoreN k cs) (hk:k+1<=60) {proc:Int} {c:CallD} (hp:zbE proc) (ha:zbE c.a):(K.doCall proc c).fits ⟨cs,[],[]⟩ :=
 (Good.fits h (l:=[⟨proc,c⟩]) (by show 1<=_;omega) (by simp only [List.mem_singleton];rintro s rfl;exact ⟨hp,ha⟩)).1
end Go.Proofs.YtncnbihlngapbaaGreat
