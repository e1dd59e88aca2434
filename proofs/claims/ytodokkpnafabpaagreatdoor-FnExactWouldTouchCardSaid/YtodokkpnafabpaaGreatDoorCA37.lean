/- Texts of this claim, merged: the walks and what they stand on. Each condition stands in its theorem. -/
import Derived.Test.YtodokkpnafabpaaGreatDoorCA35
import Derived.Test.YtodokkpnafabpaaGreatDoorCA36
set_option linter.unusedVariables false
set_option linter.unusedSimpArgs false
set_option maxRecDepth 100000
set_option maxHeartbeats 8000000
namespace Go.Proofs.YtodokkpnafabpaaGreatDoor
open Go.ChangeShapes Go.WideShapes Go.ChangeAt Go.RowKit
theorem AnsIn.ne {w:World} {B g cap:Nat} {xs:List AnswerD} (h:AnsIn w B g cap xs) {q:Nat} {cs:Array Value} {t:TypeId} (hq:w.heap[q]?=some (.cells cs t (0,0))) (ht:t ≠ 62):g ≠ q:=by
 rintro rfl
 have h1:=h.at_
 rw [hq] at h1
 injection h1 with h1
 injection h1 with _ h2
 exact ht h2
theorem zj5 (s:StepD) (m:MachD) (h1:m.rd.Pairwise ltP) (h2:m.wr.Pairwise ltP) (an:AnswerD) (mm:MachD) (h:(K.doCall s.proc s.call).run ⟨m.cells,[],[]⟩=(an,mm)) :
  (K.doCall s.proc s.call).run m=(an,⟨mm.cells,zaH m.rd mm.rd,zaH m.wr mm.wr⟩):=by
 rw [Mp.run_from _ m h1 h2,h]
theorem spec_l15Run (v vs:Value) (cs:List CellD) (l:List StepD) (w:World) (h:RdL zu w v cs) (hs:RdL zjt w vs l) (hf:∀ s ∈ l,s.fine) (hl:cs.length<=1048576) (hl2:l.length<=1048576) (hfit:zfM l ⟨cs,[],[]⟩) :
  Calls Tryz.prog 48 #[v,vs] w fun e w'=>∃ v0 v1 v2 v3,e=.returned (.tuple #[v0,v1,.agg #[v2,v3]])/\RdL zu w' v0 ((K.runAll l).run ⟨cs,[],[]⟩).2.cells/\RdL zbw w' v1 ((K.runAll l).run ⟨cs,[],[]⟩).1/\RdL zx w' v2 ((K.runAll l).run ⟨cs,[],[]⟩).2.rd/\RdL zx w' v3 ((K.runAll l).run ⟨cs,[],[]⟩).2.wr/\Below w.heap.size w w':=by
 obtain ⟨res,mres,hr⟩ : ∃ res mres,(K.runAll l).run ⟨cs,[],[]⟩=(res,mres):=⟨_,_,rfl⟩
 rw [hr]
 dsimp only
 unfold K.runAll at hr
 have HRUN:=Hd hr
 have HFIT:=Hd hfit
 clear hr hfit
 obtain ⟨ao,cap,rfl,hc1,hc2,hnil,hne⟩:=hs.shape
 have HX:=Hd hne
 have HS:=Hd h
 have HF:=Hd hf
 clear h hs hne hnil hf
 unfold maxLen at hc2
 go_enter Tryz.func48,Tryz.ntmps48
 go_wp2_with (at_builtin;refine zA ?_)
 have ho0:OwnL zu 66 ((w.alloc (.cells #[.slice none 0 0,.slice none 0 0] 36)).alloc (.cells #[] 66)) (w.heap.size+1) (.slice (some ⟨w.heap.size+1,0,none⟩) 0 0) []:=by
  have h:=OwnL.empty zu 66 (w.alloc (.cells #[.slice none 0 0,.slice none 0 0] 36))
  rwa [World.size_alloc] at h
 have HO0:=Hd ho0
 clear ho0
 refine zI rfl _ _ _ rfl zD (B:=w.heap.size+1) (v:=.slice (some ⟨w.heap.size+1,0,none⟩) 0 0) (R:=zu) (xs:=[]) HO0.out rfl (ys:=cs) ((HS.out.alloc _).alloc _) rfl (by simp only [List.length_nil];omega) (by simp only [List.length_nil];unfold maxLen;omega) (by simp) ?_
 intro v4 w4 hown4 hg4 _
 have hb4:Below (w.heap.size+1) (w.alloc (.cells #[.slice none 0 0,.slice none 0 0] 36)) w4:=by
  have hu:=zaG hg4
  refine ⟨hu.os,hu.tape,hu.output,Nat.le_trans (by simp) hu.size,fun k hk=>(hu.block k (by simp;omega) (by simp [Value.ownBlock];omega)).trans (heap_alloc_old _ _ (by simp;omega))⟩
 have hP:w4.heap[w.heap.size]?=some (.cells #[.slice none 0 0,.slice none 0 0] 36 (0,0)):=(hb4.block _ (by omega)).trans (heap_alloc_new w _)
 have hbw:Below w.heap.size w w4:=⟨hb4.os,hb4.tape,hb4.output,Nat.le_trans (by simp) hb4.size,fun k hk=>(hb4.block k (by omega)).trans (heap_alloc_old _ _ hk)⟩
 have HO4:=Hd (show RdL zu w4 v4 cs from by simpa using hown4.rd)
 have HP:=Hd hP
 have HB:=Hd hbw
 have hz4:w.heap.size+1<=w4.heap.size:=Nat.le_trans (by simp) hb4.size
 clear hown4 hg4 hb4 hP hbw HO0 HS
 ((try simp only []);repeat (first|go_skip|go_guarded|go_step|go_upon|go_back))
 go_loopw [0,7,9,10,11,12] (fun v0 o7 k _ _ _ W=>∃ (n:Nat) (m:MachD) (out:List AnswerD) (g cap2:Nat) (y z:Value),k=.int .i64 n/\n<=l.length/\out.length<=n/\o7=.slice (some ⟨g,0,none⟩) out.length cap2/\RdL zu W v0 m.cells/\AnsIn W w4.heap.size g cap2 out /\
  W.heap[w4.heap.size+1]?=some (.cells #[y,z] 36 (0,0))/\RdL zx W y m.rd/\RdL zx W z m.wr/\W.heap[w.heap.size]?=some (.cells #[.slice none 0 0,.slice none 0 0] 36 (0,0))/\Below w.heap.size w W/\w4.heap.size+2<=W.heap.size/\(m.rd.Pairwise ltP/\m.wr.Pairwise ltP)/\zfM (l.drop n) m/\(Mp.fold K.runSteps out (l.drop n)).run m=(res,mres)) (fun _ _ k _ _ _ _=>l.length - (intOf k).toNat)
 case atStart =>
  have h2:=zci w4 (.cells #[] 62) (.cells #[.slice none 0 0,.slice none 0 0] 36) w4.heap.size rfl
  refine ⟨0,⟨cs,[],[]⟩,[],w4.heap.size,0,_,_,rfl,Nat.zero_le _,Nat.le_refl _,rfl,(HO4.out.alloc _).alloc _,⟨Nat.le_refl _,Nat.le_refl _,Nat.zero_le _,h2.1⟩,h2.2,RdL.nil _ _,RdL.nil _ _,?_,(HB.out.ofAlloc _).ofAlloc _,by simp,⟨List.Pairwise.nil,List.Pairwise.nil⟩,HFIT.out,HRUN.out⟩
  exact (heap_alloc_old _ _ (by simp;omega)).trans ((heap_alloc_old _ _ (by omega)).trans HP.out)
 case round =>
  clear HO4 HP HB HFIT HRUN
  obtain ⟨n,m,out,g,cap2,y,z,rfl,hn,hol,rfl,hr0,hA,hQ,hy,hz,hP,hB,hz2,hso,hfit,hrun⟩:=hrel
  by_cases hlt:(n:Int)<l.length
  case neg =>
   have e:n=l.length:=by omega
   subst e
   rw [List.drop_length] at hrun hfit
   have hrr:(out,m)=(res,mres):=hrun
   obtain ⟨rfl,rfl⟩:=Prod.mk.inj hrr
   obtain ⟨y0,yc,rfl⟩:=hy.form
   obtain ⟨z0,zc,rfl⟩:=hz.form
   obtain ⟨a0,ac,rfl⟩:=hr0.form
   have HA:=Hd hA
   have HB:=Hd hB
   have hpl:=za hP
   have hql:=za hQ
   have hpq:¬ w4.heap.size+1=w.heap.size:=by omega
   have hpq2:¬ w.heap.size=w4.heap.size+1:=by omega
   have hgp:g ≠ w.heap.size:=hA.ne hP (by decide)
   have q0:∀ o,(wr.setB w.heap.size o).cell? ⟨w4.heap.size+1,0,none⟩=some (.slice y0 m.rd.length yc):=fun o=>(zd (i:=0) ((World.setB_get _ _ _ _ hpq).trans hQ)).trans rfl
   have q1:∀ o,(wr.setB w.heap.size o).cell? ⟨w4.heap.size+1,1,none⟩=some (.slice z0 m.wr.length zc):=fun o=>(zd (i:=1) ((World.setB_get _ _ _ _ hpq).trans hQ)).trans rfl
   have HE:Hid (∀ o,RdL zu (wr.setB w.heap.size o) (.slice a0 m.cells.length ac) m.cells/\RdL zbw (wr.setB w.heap.size o) (.slice (some ⟨g,0,none⟩) out.length cap2) out/\RdL zx (wr.setB w.heap.size o) (.slice y0 m.rd.length yc) m.rd/\RdL zx (wr.setB w.heap.size o) (.slice z0 m.wr.length zc) m.wr/\Below w.heap.size w (wr.setB w.heap.size o)):=fun o=>⟨zaV (zh _) hr0 hP zbW o,(hA.setB hgp o).rd,zaV (zb _) hy hP zbW o,zaV (zb _) hz hP zbW o,zr hB (Nat.le_refl _) o⟩
   have e1:=zf hP
   rw [<- e1]
   clear e1 hA hB hQ hP hr0 hy hz hgp
   (repeat (first|go_skip|go_guarded|go_step|go_upon|go_back))
   go_region
   all_goals (repeat (first|go_skip|go_guarded|go_step|go_upon|go_back))
   all_goals (
    refine bodyPost_ret (by simp [results,Tryz.results48,go_sem,hpl];rfl) rfl ?_
    exact ⟨_,_,_,_,rfl,RdL.drew (HE.out _).1,RdL.drew (HE.out _).2.1,RdL.drew (HE.out _).2.2.1,RdL.drew (HE.out _).2.2.2.1,Below.drew (HE.out _).2.2.2.2⟩)
  case pos =>
   have hk:n<l.length:=by omega
   obtain ⟨pb,po,rfl,hbl,hcell⟩:=HX.out (by intro e;simp [e] at hk)
   have hcc:=hcell n hk
   have hfine:=HF.out _ (List.getElem_mem hk)
   rw [List.drop_eq_getElem_cons hk] at hfit hrun
   generalize l[n]=s at hcc hfine hfit hrun
   have hbl:=hbl (by decide)
   obtain ⟨f0,f1,f2,f3⟩:=hfine
   obtain ⟨g0,g1,g2⟩:=hfit
   obtain ⟨an,mm,hres⟩ : ∃ an mm,(K.doCall s.proc s.call).run ⟨m.cells,[],[]⟩=(an,mm):=⟨_,_,rfl⟩
   have hcf:=zj5 s m hso.1 hso.2 an mm hres
   have hrun2:(Mp.fold K.runSteps (out ++ [an]) (l.drop (n+1))).run ⟨mm.cells,zaH m.rd mm.rd,zaH m.wr mm.wr⟩=(res,mres):=by
    have e1:(Mp.fold K.runSteps out (s :: l.drop (n+1)))=(K.doCall s.proc s.call >>= fun a=>Mp.fold K.runSteps (out ++ [a]) (l.drop (n+1))):=zab _ _ _
    rw [e1,Mp.run_bind,hcf] at hrun
    exact hrun
   rw [hcf] at g2
   have HSM:=Hd (Mp.fits_small g0)
   have hse:=Mp.fits_end g1
   rw [hres] at hse
   have HSM2:=Hd hse
   have DC:=Hd (fun v W h=>zhT v m.cells s.proc f1.1 f1.2 s.call f0 f2.1 f2.2 f3.1 f3.2 W h g1)
   rw [hres] at DC
   have HG2:=Hd g2
   have HR2:=Hd hrun2
   have hsr:=Mp.run_rise (K.doCall s.proc s.call) m hso.1 hso.2
   rw [hcf] at hsr
   have HSR:=Hd hsr
   have HA:=Hd hA
   have HQ:=Hd hQ
   have HY:=Hd hy
   have HZ:=Hd hz
   have HP:=Hd hP
   have HB:=Hd hB
   have HR0:=Hd hr0
   have HCC:=Hd hcc
   clear g0 g1 g2 hse hres hcf hrun hrun2 hsr hA hQ hy hz hP hB hr0 hcc hcell hso
   (repeat (first|go_skip|go_guarded|go_step|go_upon|go_back))
   refine zcm (fun L a W=>∃ u18 u19 u20 u21 u22 u23 u40 u41 u42 u43 u44 u45 u46 u47 x25 x26 x27 x28 x29 x30 x31 x32 x33 x34 x35 x36 x24 x37 x38 x39 x11 x12 x10,a=⟨#[u0,.slice (some ⟨pb,po,none⟩) l.length cap,undef,undef,.slice none 0 0,.slice none 0 0,.pointer (some ⟨w.heap.size,0,none⟩),.slice (some ⟨g,0,none⟩) out.length cap2,.pointer (some ⟨w4.heap.size+1,0,none⟩),.int .i64 n,x10,x11,x12,.slice (some ⟨w.heap.size+1,0,none⟩) 0 0,v,v4,.slice (some ⟨w4.heap.size,0,none⟩) 0 0,.agg #[.slice none 0 0,.slice none 0 0],u18,u19,u20,u21,u22,u23,x24,x25,x26,x27,x28,x29,x30,x31,x32,x33,x34,x35,x36,x37,x38,x39,u40,u41,u42,u43,u44,u45,u46,u47,undef,undef,undef],[]⟩/\RI w u0 (.slice (some ⟨pb,po,none⟩) l.length cap) (.slice (some ⟨g,0,none⟩) out.length cap2) (w4.heap.size+1) g cap2 w4.heap.size m.cells out y z m.rd m.wr pb po n s an mm L W x25 x26 x27 x28 x29 x30 x31 x32 x33 x34 x35 x36 x24 x37 x38 x39 x11 x12 x10) (by kernel_rfl) ?_ ?_ ?_
   ·have N:∀ j,¬ (Array.replicate 21 false).getD j false=true:=zh0 21
    have hd:∀ {a:Addr} {u:Value},w.cell? a=some u->wr.drew.cell? a=some u:=fun h=>(Grew.below (Below.drew HB.out)).cell h
    exact ⟨_,_,_,_,_,_,_,_,_,_,_,_,_,_,_,_,_,_,_,_,_,_,_,_,_,_,_,_,_,_,_,_,_,rfl,⟨by simp,fun k=>absurd k (N _),fun k=>absurd k (N _),Below.drew HB.out,HP.out,HQ.out,HA.out.below (Below.drew (Below.refl _ _)),RdL.drew HR0.out,RdL.drew HY.out,RdL.drew HZ.out,hd (HCC.out 0 _ rfl),hd (HCC.out 1 _ rfl),hd (HCC.out 2 _ rfl),hd (HCC.out 3 _ rfl),hd (HCC.out 4 _ rfl),hd (HCC.out 5 _ rfl),hd (HCC.out 6 _ rfl),hbl,fun k=>absurd k (N _),fun k=>absurd k (N _),fun k=>absurd k (N _),fun k=>absurd k (N _),fun k=>absurd k (N _),fun k=>absurd k (N _),fun k=>absurd k (N _),fun k=>absurd k (N _),fun k=>absurd k (N _),fun k=>absurd k (N _),fun k=>absurd k (N _),fun k=>absurd k (N _),fun k=>absurd k (N _),fun k=>absurd k (N _),fun k=>absurd k (N _),fun k=>absurd k (N _),fun k=>absurd k (N _),fun k=>absurd k (N _),fun k=>absurd k (N _)⟩⟩
   ·rintro L a W i ⟨u18,u19,u20,u21,u22,u23,u40,u41,u42,u43,u44,u45,u46,u47,x25,x26,x27,x28,x29,x30,x31,x32,x33,x34,x35,x36,x24,x37,x38,x39,x11,x12,x10,rfl,H⟩ hi
    have hlt:=zgD hi
    have hun:=zgC hi
    have hW:Hid (∀ j,zdD _ i j=true->L.getD j false=true):=fun j h=>zdp hi h
    have h21:i<21:=hlt
    clear hlt hi
    have hcs:i=0 ∨ i=1 ∨ i=2 ∨ i=3 ∨ i=4 ∨ i=5 ∨ i=6 ∨ i=7 ∨ i=8 ∨ i=9 ∨ i=10 ∨ i=11 ∨ i=12 ∨ i=13 ∨ i=14 ∨ i=15 ∨ i=16 ∨ i=17 ∨ i=18 ∨ i=19 ∨ i=20:=by omega
    clear h21
    rcases hcs with rfl|rfl|rfl|rfl|rfl|rfl|rfl|rfl|rfl|rfl|rfl|rfl|rfl|rfl|rfl|rfl|rfl|rfl|rfl|rfl|rfl
    ·refine zN rfl (fun K hK=>?_)
     go_simp
     refine hK _ _ ⟨_,_,_,_,_,_,_,_,_,_,_,_,_,_,_,_,_,_,_,_,_,_,_,_,_,_,_,_,_,_,_,_,_,rfl,H.set (i:=0) (by decide) (by decide) (by decide) (by simp) (by simp) (by simp) (by simp) (by simp) (by simp) (by simp) (by simp) (by simp) (by simp) (by simp) (by simp) (by simp) (by simp) (by simp) (by simp) (by simp) (by simp) (by simp)⟩
    ·refine zN rfl (fun K hK=>?_)
     go_simp
     refine hK _ _ ⟨_,_,_,_,_,_,_,_,_,_,_,_,_,_,_,_,_,_,_,_,_,_,_,_,_,_,_,_,_,_,_,_,_,rfl,H.set (i:=1) (by decide) (by decide) (by decide) (by simp) (by simp) (by simp) (by simp) (by simp) (by simp) (by simp) (by simp) (by simp) (by simp) (by simp) (by simp) (by simp) (by simp) (by simp) (by simp) (by simp) (by simp) (by simp)⟩
    ·refine zN rfl (fun K hK=>?_)
     go_simp
     refine hK _ _ ⟨_,_,_,_,_,_,_,_,_,_,_,_,_,_,_,_,_,_,_,_,_,_,_,_,_,_,_,_,_,_,_,_,_,rfl,H.set (i:=2) (by decide) (by decide) (by decide) (by simp) (by simp) (by simp) (by simp) (by simp) (by simp) (by simp) (by simp) (by simp) (by simp) (by simp) (by simp) (by simp) (by simp) (by simp) (by simp) (by simp) (by simp) (by simp)⟩
    ·obtain rfl:=H.f1 (hW.out 1 (by kernel_rfl))
     obtain rfl:=H.f2 (hW.out 2 (by kernel_rfl))
     refine zN rfl (fun K hK=>?_)
     go_simp
     refine hK _ _ ⟨_,_,_,_,_,_,_,_,_,_,_,_,_,_,_,_,_,_,_,_,_,_,_,_,_,_,_,_,_,_,_,_,_,rfl,H.set (i:=3) (by decide) (by decide) (by decide) (by simp) (by simp) (by simp) (by rw [if_pos rfl]) (by simp) (by simp) (by simp) (by simp) (by simp) (by simp) (by simp) (by simp) (by simp) (by simp) (by simp) (by simp) (by simp) (by simp) (by simp)⟩
    ·obtain rfl:=H.f3 (hW.out 3 (by kernel_rfl))
     refine zN rfl (fun K hK=>?_)
     go_simp
     refine hK _ _ ⟨_,_,_,_,_,_,_,_,_,_,_,_,_,_,_,_,_,_,_,_,_,_,_,_,_,_,_,_,_,_,_,_,_,rfl,H.set (i:=4) (by decide) (by decide) (by decide) (by simp) (by simp) (by simp) (by simp) (by rw [if_pos rfl]) (by simp) (by simp) (by simp) (by simp) (by simp) (by simp) (by simp) (by simp) (by simp) (by simp) (by simp) (by simp) (by simp) (by simp)⟩
    ·obtain rfl:=H.f4 (hW.out 4 (by kernel_rfl))
     have y0:W.cell? ⟨pb,po+n*7,none⟩=some (.int .i64 s.proc):=H.p0
     have hltp:pb<W.heap.size:=Nat.lt_of_lt_of_le H.lt H.bel.size
     refine zN rfl (fun K hK=>?_)
     go_simp
     refine hK _ _ ⟨_,_,_,_,_,_,_,_,_,_,_,_,_,_,_,_,_,_,_,_,_,_,_,_,_,_,_,_,_,_,_,_,_,rfl,H.set (i:=5) (by decide) (by decide) (by decide) (by simp) (by simp) (by simp) (by simp) (by simp) (by rw [if_pos rfl]) (by simp) (by simp) (by simp) (by simp) (by simp) (by simp) (by simp) (by simp) (by simp) (by simp) (by simp) (by simp) (by simp)⟩
    ·refine zN rfl (fun K hK=>?_)
     go_simp
     refine hK _ _ ⟨_,_,_,_,_,_,_,_,_,_,_,_,_,_,_,_,_,_,_,_,_,_,_,_,_,_,_,_,_,_,_,_,_,rfl,H.set (i:=6) (by decide) (by decide) (by decide) (by simp) (by simp) (by simp) (by simp) (by simp) (by simp) (by simp) (by simp) (by simp) (by simp) (by simp) (by simp) (by simp) (by simp) (by simp) (by simp) (by simp) (by simp) (by simp)⟩
    ·refine zN rfl (fun K hK=>?_)
     go_simp
     refine hK _ _ ⟨_,_,_,_,_,_,_,_,_,_,_,_,_,_,_,_,_,_,_,_,_,_,_,_,_,_,_,_,_,_,_,_,_,rfl,H.set (i:=7) (by decide) (by decide) (by decide) (by simp) (by simp) (by simp) (by simp) (by simp) (by simp) (by simp) (by simp) (by simp) (by simp) (by simp) (by simp) (by simp) (by simp) (by simp) (by simp) (by simp) (by simp) (by simp)⟩
    ·obtain rfl:=H.f6 (hW.out 6 (by kernel_rfl))
     obtain rfl:=H.f7 (hW.out 7 (by kernel_rfl))
     refine zN rfl (fun K hK=>?_)
     go_simp
     refine hK _ _ ⟨_,_,_,_,_,_,_,_,_,_,_,_,_,_,_,_,_,_,_,_,_,_,_,_,_,_,_,_,_,_,_,_,_,rfl,H.set (i:=8) (by decide) (by decide) (by decide) (by simp) (by simp) (by simp) (by simp) (by simp) (by simp) (by simp) (by simp) (by rw [if_pos rfl]) (by simp) (by simp) (by simp) (by simp) (by simp) (by simp) (by simp) (by simp) (by simp) (by simp)⟩
    ·obtain rfl:=H.f8 (hW.out 8 (by kernel_rfl))
     refine zN rfl (fun K hK=>?_)
     go_simp
     refine hK _ _ ⟨_,_,_,_,_,_,_,_,_,_,_,_,_,_,_,_,_,_,_,_,_,_,_,_,_,_,_,_,_,_,_,_,_,rfl,H.set (i:=9) (by decide) (by decide) (by decide) (by simp) (by simp) (by simp) (by simp) (by simp) (by simp) (by simp) (by simp) (by simp) (by rw [if_pos rfl]) (by simp) (by simp) (by simp) (by simp) (by simp) (by simp) (by simp) (by simp) (by simp)⟩
    ·obtain rfl:=H.f9 (hW.out 9 (by kernel_rfl))
     have z1:W.cell? ⟨pb,po+n*7+1,none⟩=some _:=H.p1
     have z2:W.cell? ⟨pb,po+n*7+1+1,none⟩=some _:=H.p2
     have z3:W.cell? ⟨pb,po+n*7+1+2,none⟩=some _:=H.p3
     have z4:W.cell? ⟨pb,po+n*7+1+3,none⟩=some _:=H.p4
     have z5:W.cell? ⟨pb,po+n*7+1+4,none⟩=some _:=H.p5
     have z6:W.cell? ⟨pb,po+n*7+1+5,none⟩=some _:=H.p6
     have hltp:pb<W.heap.size:=Nat.lt_of_lt_of_le H.lt H.bel.size
     refine zN rfl (fun K hK=>?_)
     go_simp
     refine hK _ _ ⟨_,_,_,_,_,_,_,_,_,_,_,_,_,_,_,_,_,_,_,_,_,_,_,_,_,_,_,_,_,_,_,_,_,rfl,H.set (i:=10) (by decide) (by decide) (by decide) (by simp) (by simp) (by simp) (by simp) (by simp) (by simp) (by simp) (by simp) (by simp) (by simp) (by rw [if_pos rfl];rfl) (by simp) (by simp) (by simp) (by simp) (by simp) (by simp) (by simp) (by simp)⟩
    ·obtain rfl:=H.f0 (hW.out 0 (by kernel_rfl))
     obtain rfl:=H.f5 (hW.out 5 (by kernel_rfl))
     obtain rfl:=H.f10 (hW.out 10 (by kernel_rfl))
     unfold zbx
     refine zN rfl (fun K hK=>?_)
     go_simp
     go_at_call 24
     refine (DC.out _ W H.r0).mono ?_
     rintro e W' ⟨c0,c1,c2,rfl,hm,hb⟩
     try go_simp
     refine hK _ _ ⟨_,_,_,_,_,_,_,_,_,_,_,_,_,_,_,_,_,_,_,_,_,_,_,_,_,_,_,_,_,_,_,_,_,rfl,(H.grow (hb)).set (i:=11) (by decide) (by decide) (by decide) (by simp) (by simp) (by simp) (by simp) (by simp) (by simp) (by simp) (by simp) (by simp) (by simp) (by ((rw [if_neg (by decide)];rfl))) (by rw [if_pos rfl];exact ⟨_,_,_,rfl,hm⟩) (by simp) (by simp) (by simp) (by simp) (by simp) (by simp) (by simp)⟩
    ·obtain ⟨c0,c1,c2,e1,hm1⟩:=H.f11 (hW.out 11 (by kernel_rfl))
     rw [e1] at H ⊢
     refine zN rfl (fun K hK=>?_)
     go_simp
     refine hK _ _ ⟨_,_,_,_,_,_,_,_,_,_,_,_,_,_,_,_,_,_,_,_,_,_,_,_,_,_,_,_,_,_,_,_,_,rfl,H.set (i:=12) (by decide) (by decide) (by decide) (by simp) (by simp) (by simp) (by simp) (by simp) (by simp) (by simp) (by simp) (by simp) (by simp) (by simp) (by simp) (by rw [if_pos rfl];exact ⟨_,_,_,rfl,hm1⟩) (by simp) (by simp) (by simp) (by simp) (by simp) (by simp)⟩
    ·obtain ⟨c0,c1,c2,e1,hm1⟩:=H.f12 (hW.out 12 (by kernel_rfl))
     rw [e1] at H ⊢
     obtain ⟨_,_,_,e2,h0,h1,h2⟩:=hm1
     cases e2
     refine zN rfl (fun K hK=>?_)
     go_simp
     refine hK _ _ ⟨_,_,_,_,_,_,_,_,_,_,_,_,_,_,_,_,_,_,_,_,_,_,_,_,_,_,_,_,_,_,_,_,_,rfl,H.set (i:=13) (by decide) (by decide) (by decide) (by simp) (by simp) (by simp) (by simp) (by simp) (by simp) (by simp) (by simp) (by simp) (by simp) (by simp) (by simp) (by simp) (by rw [if_pos rfl];exact h0) (by simp) (by simp) (by simp) (by simp) (by simp)⟩
    ·obtain ⟨c0,c1,c2,e1,hm1⟩:=H.f12 (hW.out 12 (by kernel_rfl))
     rw [e1] at H ⊢
     refine zN rfl (fun K hK=>?_)
     go_simp
     refine hK _ _ ⟨_,_,_,_,_,_,_,_,_,_,_,_,_,_,_,_,_,_,_,_,_,_,_,_,_,_,_,_,_,_,_,_,_,rfl,H.set (i:=14) (by decide) (by decide) (by decide) (by simp) (by simp) (by simp) (by simp) (by simp) (by simp) (by simp) (by simp) (by simp) (by simp) (by simp) (by simp) (by simp) (by simp) (by rw [if_pos rfl]) (by simp) (by simp) (by simp) (by simp)⟩
    ·obtain ⟨c0,c1,c2,e1,hm1⟩:=H.f12 (hW.out 12 (by kernel_rfl))
     rw [e1] at H ⊢
     obtain ⟨_,_,_,e2,h0,h1,h2⟩:=hm1
     cases e2
     refine zN rfl (fun K hK=>?_)
     go_simp
     refine hK _ _ ⟨_,_,_,_,_,_,_,_,_,_,_,_,_,_,_,_,_,_,_,_,_,_,_,_,_,_,_,_,_,_,_,_,_,rfl,H.set (i:=15) (by decide) (by decide) (by decide) (by simp) (by simp) (by simp) (by simp) (by simp) (by simp) (by simp) (by simp) (by simp) (by simp) (by simp) (by simp) (by simp) (by simp) (by simp) (by rw [if_pos rfl];exact ⟨_,_,rfl,h1,h2⟩) (by simp) (by simp) (by simp)⟩
    ·have k19:L.getD 19 false=false:=by cases h:L.getD 19 false with|false=>rfl|true=>exact absurd (H.c19 h) (by rw [hun];decide)
     have hq1:=za H.Q
     have hg1:=za H.A.at_
     have hs1:=H.bel.size
     have hp1:=za H.P
     refine zN rfl (fun K hK=>?_)
     go_simp
     refine hK _ _ ⟨_,_,_,_,_,_,_,_,_,_,_,_,_,_,_,_,_,_,_,_,_,_,_,_,_,_,_,_,_,_,_,_,_,rfl,(H.grow (Below.ofAlloc (Below.refl _ _) _)).set (i:=16) (by decide) (by decide) (by decide) (by simp) (by simp) (by simp) (by simp) (by simp) (by simp) (by simp) (by simp) (by simp) (by simp) (by simp) (by simp) (by simp) (by simp) (by simp) (by simp) (by rw [if_pos rfl];exact ⟨_,rfl,by omega,by omega,by omega,.inl ⟨k19,heap_alloc_new _ _⟩⟩) (by simp) (by simp)⟩
    ·have k20:L.getD 20 false=false:=by cases h:L.getD 20 false with|false=>rfl|true=>exact absurd (H.c20 h) (by rw [hun];decide)
     have hq1:=za H.Q
     have hg1:=za H.A.at_
     have hs1:=H.bel.size
     have hp1:=za H.P
     refine zN rfl (fun K hK=>?_)
     go_simp
     refine hK _ _ ⟨_,_,_,_,_,_,_,_,_,_,_,_,_,_,_,_,_,_,_,_,_,_,_,_,_,_,_,_,_,_,_,_,_,rfl,(H.grow (Below.ofAlloc (Below.refl _ _) _)).set (i:=17) (by decide) (by decide) (by decide) (by simp) (by simp) (by simp) (by simp) (by simp) (by simp) (by simp) (by simp) (by simp) (by simp) (by simp) (by simp) (by simp) (by simp) (by simp) (by simp) (by simp) (by rw [if_pos rfl];exact ⟨_,rfl,by omega,by omega,by omega,.inl ⟨k20,heap_alloc_new _ _⟩⟩) (by simp)⟩
    ·have h13:=H.f13 (hW.out 13 (by kernel_rfl))
     refine zN rfl (fun K hK=>?_)
     go_simp
     refine hK _ _ ⟨_,_,_,_,_,_,_,_,_,_,_,_,_,_,_,_,_,_,_,_,_,_,_,_,_,_,_,_,_,_,_,_,_,rfl,H.set (i:=18) (by decide) (by decide) (by decide) (by simp) (by simp) (by simp) (by simp) (by simp) (by simp) (by simp) (by simp) (by simp) (by simp) (by simp) (by simp) (by simp) (by simp) (by simp) (by simp) (by simp) (by simp) (by rw [if_pos rfl];exact h13)⟩
    ·obtain ⟨b,rfl,rfl,hB,H'⟩:=H.st19 HSM.out.rn HSM.out.wn HSM2.out.rn HSM2.out.wn (hW.out 14 (by kernel_rfl)) (hW.out 16 (by kernel_rfl)) hun
     have e1:=zf hB
     have hz:=za hB
     unfold zbO
     refine zN rfl (fun K hK=>?_)
     rw [<- e1]
     clear e1
     go_simp
     exact hK _ _ ⟨_,_,_,_,_,_,_,_,_,_,_,_,_,_,_,_,_,_,_,_,_,_,_,_,_,_,_,_,_,_,_,_,_,rfl,H'⟩
    ·obtain ⟨b,a0,c0,a1,c1,rfl,rfl,hB,H'⟩:=H.st20 (hW.out 15 (by kernel_rfl)) (hW.out 17 (by kernel_rfl)) hun
     have e1:=zf hB
     have hz:=za hB
     refine zN rfl (fun K hK=>?_)
     rw [<- e1]
     clear e1
     go_simp
     exact hK _ _ ⟨_,_,_,_,_,_,_,_,_,_,_,_,_,_,_,_,_,_,_,_,_,_,_,_,_,_,_,_,_,_,_,_,_,rfl,H'⟩
   ·rintro L a W ⟨u18,u19,u20,u21,u22,u23,u40,u41,u42,u43,u44,u45,u46,u47,x25,x26,x27,x28,x29,x30,x31,x32,x33,x34,x35,x36,x24,x37,x38,x39,x11,x12,x10,rfl,H⟩ hr
    have hall:=zej (ops:=_) H.sz hr (zcu (by kernel_rfl))
    obtain ⟨b11,rfl,hb11,hq11,hg11,h11⟩:=H.f16 (hall 16 (by decide))
    obtain ⟨b12,rfl,hb12,hq12,hg12,h12⟩:=H.f17 (hall 17 (by decide))
    have k19:=hall 19 (by decide)
    have k20:=hall 20 (by decide)
    rcases h11 with h11|⟨_,h11⟩
    ·rw [k19] at h11;cases h11.1
    rcases h12 with h12|⟨_,c,d,h12,hc,hd⟩
    ·rw [k20] at h12;cases h12.1
    have h18:=H.f18 (hall 18 (by decide))
    obtain ⟨x0,xc,rfl⟩:=h18.form
    obtain ⟨c0,cc,rfl⟩:=hc.form
    obtain ⟨d0,dc,rfl⟩:=hd.form
    have hQ:=H.Q
    have hA:=H.A
    have hP:=H.P
    have hbl0:=H.bel
    have hy:=H.ry
    have hz:=H.rz
    obtain ⟨y0,yc,rfl⟩:=hy.form
    obtain ⟨z0,zc,rfl⟩:=hz.form
    have b11l:=za h11
    have p0:W.cell? ⟨b11,0,none⟩=some (.int .i64 an.code):=(zd (i:=0) h11).trans rfl
    have p1:W.cell? ⟨b11,1,none⟩=some (.int .i64 an.n):=(zd (i:=1) h11).trans rfl
    have p2:W.cell? ⟨b11,2,none⟩=some (.string an.text):=(zd (i:=2) h11).trans rfl
    have HQ:=Hd hQ
    have HA:=Hd hA
    have HP:=Hd hP
    have HB:=Hd hbl0
    have HY:=Hd hy
    have HZ:=Hd hz
    have H12:=Hd h12
    have HC:=Hd hc
    have HD:=Hd hd
    have H18:=Hd h18
    have hsz0:=hbl0.size
    have hql:=za hQ
    clear hall k19 k20 h11 h12 hc hd hQ hA hP hbl0 hy hz H hr h18
    go_wp2_with (at_builtin;refine zA ?_)
    refine ziP rfl (.tmp 41) (.tmp 43) rfl (B:=w4.heap.size) (g:=g) (cap:=cap2) (xs:=out) (HA.out.below (Below.ofAlloc (Below.refl _ _) _)) rfl (y:=an) (zau zbw _ an _ rfl _ _ rfl) rfl (by omega) (by simp;omega) ?_
    intro g' cap' w7 hA7 hK7
    have hu:=hK7.grown
    have A1:∀ k,k<W.heap.size->k ≠ g->w7.heap[k]?=W.heap[k]?:=fun k hk hne=>(hu.block k (by simp;omega) (by simpa using hne)).trans (heap_alloc_old _ _ hk)
    have hgl:=za HA.out.at_
    have hgq:w4.heap.size+1 ≠ g:=Ne.symm (HA.out.ne HQ.out (by decide))
    have hgp:w.heap.size ≠ g:=Ne.symm (HA.out.ne HP.out (by decide))
    have hQ7:=(A1 _ hql hgq).trans HQ.out
    have hP7:=(A1 _ (za HP.out) hgp).trans HP.out
    have h127:=(A1 _ (za H12.out) hg12).trans H12.out
    have hy7:=hK7.strs _ _ HSM.out.rn (HY.out.alloc _)
    have hz7:=hK7.strs _ _ HSM.out.wn (HZ.out.alloc _)
    have hc7:=hK7.strs _ _ HSM2.out.rn (HC.out.alloc _)
    have hd7:=hK7.strs _ _ HSM2.out.wn (HD.out.alloc _)
    have h187:=hK7.cells _ _ (H18.out.alloc _)
    have hB7:Below w.heap.size w w7:=⟨hu.os.trans HB.out.os,hu.tape.trans HB.out.tape,hu.output.trans HB.out.output,Nat.le_trans hsz0 (Nat.le_trans (by simp) hu.size),fun k hk=>(A1 k (by omega) (by have:=HA.out.base;omega)).trans (HB.out.block k hk)⟩
    have DJ:=Hd (zfW _ _ _ _ _ _ _ _ w7 hy7 hz7 hc7 hd7 (by have:=HSM.out.rl;have:=HSM2.out.rl;omega) (by have:=HSM.out.wl;have:=HSM2.out.wl;omega))
    have q0:w7.cell? ⟨w4.heap.size+1,0,none⟩=some (.slice y0 m.rd.length yc):=(zd (i:=0) hQ7).trans rfl
    have q1:w7.cell? ⟨w4.heap.size+1,1,none⟩=some (.slice z0 m.wr.length zc):=(zd (i:=1) hQ7).trans rfl
    have r0:w7.cell? ⟨b12,0,none⟩=some (.slice c0 mm.rd.length cc):=(zd (i:=0) h127).trans rfl
    have r1:w7.cell? ⟨b12,1,none⟩=some (.slice d0 mm.wr.length dc):=(zd (i:=1) h127).trans rfl
    have hq7:=za hQ7
    have h12l:=za h127
    have HQ7:=Hd hQ7
    have HP7:=Hd hP7
    have H187:=Hd h187
    have HA7:=Hd hA7
    have HB7:=Hd hB7
    clear hA7 hK7 hu A1 hQ7 hP7 h127 hy7 hz7 hc7 hd7 h187 hB7 hgq hgp p0 p1 p2
    ((try simp only []);repeat (first|go_skip|go_guarded|go_step|go_upon|go_back))
    (go_at_call 77;refine DJ.out.mono ?_;rintro e w8 ⟨j0,j1,rfl,hj0,hj1,hb8⟩)
    obtain ⟨e0,ec,rfl⟩:=hj0.form
    obtain ⟨f0',fc,rfl⟩:=hj1.form
    have hQ8:=(Grew.below hb8 _ (za HQ7.out)).trans HQ7.out
    have hP8:=(Grew.below hb8 _ (za HP7.out)).trans HP7.out
    have hA8:=HA7.out.below hb8
    have hg8:g' ≠ w4.heap.size+1:=hA8.ne hQ8 (by decide)
    have hs8:=hb8.size
    have hB8:=Below.then HB7.out hb8
    have HE:Hid (∀ o,RdL zu (w8.setB (w4.heap.size+1) o) (.slice x0 mm.cells.length xc) mm.cells/\AnsIn (w8.setB (w4.heap.size+1) o) w4.heap.size g' cap' (out ++ [an])/\RdL zx (w8.setB (w4.heap.size+1) o) (.slice e0 (zaH m.rd mm.rd).length ec) (zaH m.rd mm.rd)/\RdL zx (w8.setB (w4.heap.size+1) o) (.slice f0' (zaH m.wr mm.wr).length fc) (zaH m.wr mm.wr)/\(w8.setB (w4.heap.size+1) o).heap[w.heap.size]?=some (.cells #[.slice none 0 0,.slice none 0 0] 36 (0,0))/\Below w.heap.size w (w8.setB (w4.heap.size+1) o)):=fun o =>
     ⟨zaV (zh _) (H187.out.below hb8) hQ8 (ze8 _ _ _ _ _ _) o,hA8.setB hg8 o,zaV (zb _) hj0 hQ8 (ze8 _ _ _ _ _ _) o,zaV (zb _) hj1 hQ8 (ze8 _ _ _ _ _ _) o,(World.setB_get _ _ _ _ (by omega)).trans hP8,zr hB8 (by omega) o⟩
    have hq8:=za hQ8
    have e1:=zf hQ8
    rw [<- e1]
    clear e1 hQ8 hP8 hA8 hB8 hb8 hj0 hj1 q0 q1 r0 r1
    ((try simp only []);repeat (first|go_skip|go_guarded|go_step|go_upon|go_back))
    go_roundw
    case rel=>exact ⟨n+1,⟨mm.cells,zaH m.rd mm.rd,zaH m.wr mm.wr⟩,out ++ [an],g',cap',_,_,by go_num,by omega,by simp;omega,by rw [List.length_append,List.length_singleton],(HE.out _).1,(HE.out _).2.1,zy _ _ _ hq8,(HE.out _).2.2.1,(HE.out _).2.2.2.1,(HE.out _).2.2.2.2.1,(HE.out _).2.2.2.2.2,by rw [ze];omega,HSR.out,HG2.out,HR2.out⟩
    case measure=>simp [intOf];omega
structure RUp (R:World->Value->Value->Prop):Prop where
 shp:∀ {W c d},R W c d->(∃ a n k,c=.slice a n k)/\∃ a n k,d=.slice a n k
 grow:∀ {W W' c d},R W c d->Below W.heap.size W W'->R W' c d
 ans:∀ {W c d b},R W c d->W.heap[b]?=some (.cells #[.int .i64 0,.int .i64 0,.string ⟨#[]⟩] 62 (0,0))->∀ o,R (W.setB b o) c d
 tch:∀ {W c d b},R W c d->W.heap[b]?=some (.cells #[.slice none 0 0,.slice none 0 0] 36 (0,0))->∀ o,R (W.setB b o) c d
structure WI (w:World) (v xv:Value) (proc:Int) (c:CallD) (vs:List CellD) (an:AnswerD) (xo co:Obj) (R:World->Value->Value->Prop) (L:Array Bool) (W:World) (x11 x12 x13 x14 x15 x16 x17 x10 x18 x19 x20 x8 x9 x7:Value):Prop where
 sz:L.size=16
 c14:L.getD 14 false=true->L.getD 11 false=true
 c15:L.getD 15 false=true->L.getD 12 false=true
 up:RUp R
 bel:Below w.heap.size w W
 X:W.heap[w.heap.size]?=some xo
 C:W.heap[w.heap.size+1]?=some co
 P:W.heap[w.heap.size+1+1]?=some (.cells #[.slice none 0 0,.slice none 0 0] 36 (0,0))
 f0:L.getD 0 false=true->x11=v
 f1:L.getD 1 false=true->x12=xv
 f2:L.getD 2 false=true->RdL zu W x13 vs
 f3:L.getD 3 false=true->x14=.pointer (some ⟨w.heap.size,2,none⟩)
 f4:L.getD 4 false=true->x15=.int .i64 proc
 f5:L.getD 5 false=true->x16=zbx c
 f6:L.getD 6 false=true->∃ c0 c1 c2,x17=.tuple #[c0,zbO an,.agg #[c1,c2]]/\R W c1 c2
 f7:L.getD 7 false=true->∃ c0 c1 c2,x10=.tuple #[c0,zbO an,.agg #[c1,c2]]/\R W c1 c2
 f8:L.getD 8 false=true->x18=x18 ∨ True
 f9:L.getD 9 false=true->x19=zbO an
 f10:L.getD 10 false=true->∃ c d,x20=.agg #[c,d]/\R W c d
 f11:L.getD 11 false=true->∃ b,x8=.pointer (some ⟨b,0,none⟩)/\w.heap.size+3<=b/\((L.getD 14 false=false/\W.heap[b]?=some (.cells #[.int .i64 0,.int .i64 0,.string ⟨#[]⟩] 62 (0,0))) ∨ (L.getD 14 false=true/\W.heap[b]?=some (.cells #[.int .i64 an.code,.int .i64 an.n,.string an.text] 62 (0,0))))
 f12:L.getD 12 false=true->∃ b,x9=.pointer (some ⟨b,0,none⟩)/\w.heap.size+3<=b/\((L.getD 15 false=false/\W.heap[b]?=some (.cells #[.slice none 0 0,.slice none 0 0] 36 (0,0))) ∨ (L.getD 15 false=true/\∃ c d,W.heap[b]?=some (.cells #[c,d] 36 (0,0))/\R W c d))
 f13:L.getD 13 false=true->x7=x7 ∨ True
section
variable {w:World} {v xv:Value} {proc:Int} {c:CallD} {vs:List CellD} {an:AnswerD} {xo co:Obj} {R:World->Value->Value->Prop} {L:Array Bool} {W W':World} {x11 x12 x13 x14 x15 x16 x17 x10 x18 x19 x20 x8 x9 x7:Value}
theorem WI.grow (h:WI w v xv proc c vs an xo co R L W x11 x12 x13 x14 x15 x16 x17 x10 x18 x19 x20 x8 x9 x7) (hb:Below W.heap.size W W'):WI w v xv proc c vs an xo co R L W' x11 x12 x13 x14 x15 x16 x17 x10 x18 x19 x20 x8 x9 x7:=by
 have G:=fun {k:Nat} {o:Obj} (hk:W.heap[k]?=some o)=>(Grew.below hb k (za hk)).trans hk
 refine ⟨h.sz,h.c14,h.c15,h.up,Below.then h.bel hb,G h.X,G h.C,G h.P,h.f0,h.f1,fun k=>(h.f2 k).below hb,h.f3,h.f4,h.f5,fun k=>?_,fun k=>?_,h.f8,h.f9,fun k=>?_,fun k=>?_,fun k=>?_,h.f13⟩
 ·obtain ⟨c0,c1,c2,e,hm⟩:=(h.f6 k);exact ⟨c0,c1,c2,e,h.up.grow hm hb⟩
 ·obtain ⟨c0,c1,c2,e,hm⟩:=(h.f7 k);exact ⟨c0,c1,c2,e,h.up.grow hm hb⟩
 ·obtain ⟨c,d,e,hm⟩:=(h.f10 k);exact ⟨c,d,e,h.up.grow hm hb⟩
 ·obtain ⟨b,e,h1,h4|h4⟩:=(h.f11 k)<;>first|exact ⟨b,e,h1,.inl ⟨h4.1,G h4.2⟩⟩|exact ⟨b,e,h1,.inr ⟨h4.1,G h4.2⟩⟩
 ·obtain ⟨b,e,h1,h4|⟨h4,c,d,h5,h6⟩⟩:=(h.f12 k)<;>first|exact ⟨b,e,h1,.inl ⟨h4.1,G h4.2⟩⟩|exact ⟨b,e,h1,.inr ⟨h4,c,d,G h5,h.up.grow h6 hb⟩⟩
theorem WI.set (h:WI w v xv proc c vs an xo co R L W x11 x12 x13 x14 x15 x16 x17 x10 x18 x19 x20 x8 x9 x7) {i:Nat} (hi:i<16) (hi14:i ≠ 14) (hi15:i ≠ 15) {y11 y12 y13 y14 y15 y16 y17 y10 y18 y19 y20 y8 y9 y7:Value}
  (e0:if i=0 then y11=v else y11=x11)
  (e1:if i=1 then y12=xv else y12=x12)
  (e2:if i=2 then RdL zu W y13 vs else y13=x13)
  (e3:if i=3 then y14=.pointer (some ⟨w.heap.size,2,none⟩) else y14=x14)
  (e4:if i=4 then y15=.int .i64 proc else y15=x15)
  (e5:if i=5 then y16=zbx c else y16=x16)
  (e6:if i=6 then ∃ c0 c1 c2,y17=.tuple #[c0,zbO an,.agg #[c1,c2]]/\R W c1 c2 else y17=x17)
  (e7:if i=7 then ∃ c0 c1 c2,y10=.tuple #[c0,zbO an,.agg #[c1,c2]]/\R W c1 c2 else y10=x10)
  (e8:if i=8 then y18=y18 ∨ True else y18=x18)
  (e9:if i=9 then y19=zbO an else y19=x19)
  (e10:if i=10 then ∃ c d,y20=.agg #[c,d]/\R W c d else y20=x20)
  (e11:if i=11 then ∃ b,y8=.pointer (some ⟨b,0,none⟩)/\w.heap.size+3<=b/\((L.getD 14 false=false/\W.heap[b]?=some (.cells #[.int .i64 0,.int .i64 0,.string ⟨#[]⟩] 62 (0,0))) ∨ (L.getD 14 false=true/\W.heap[b]?=some (.cells #[.int .i64 an.code,.int .i64 an.n,.string an.text] 62 (0,0)))) else y8=x8)
  (e12:if i=12 then ∃ b,y9=.pointer (some ⟨b,0,none⟩)/\w.heap.size+3<=b/\((L.getD 15 false=false/\W.heap[b]?=some (.cells #[.slice none 0 0,.slice none 0 0] 36 (0,0))) ∨ (L.getD 15 false=true/\∃ c d,W.heap[b]?=some (.cells #[c,d] 36 (0,0))/\R W c d)) else y9=x9)
  (e13:if i=13 then y7=y7 ∨ True else y7=x7) :
  WI w v xv proc c vs an xo co R (L.setIfInBounds i true) W y11 y12 y13 y14 y15 y16 y17 y10 y18 y19 y20 y8 y9 y7:=by
 have up:∀ j,L.getD j false=true->(L.setIfInBounds i true).getD j false=true:=fun j hj=>by
  by_cases hx:i=j
  ·subst hx;exact zbF (by have:=h.sz;omega)
  ·rw [zi hx];exact hj
 refine ⟨by rw [Array.size_setIfInBounds];exact h.sz,fun k=>up _ (h.c14 (by rw [zi hi14] at k;exact k)),fun k=>up _ (h.c15 (by rw [zi hi15] at k;exact k)),h.up,h.bel,h.X,h.C,h.P,fun k=>?_,fun k=>?_,fun k=>?_,fun k=>?_,fun k=>?_,fun k=>?_,fun k=>?_,fun k=>?_,fun k=>?_,fun k=>?_,fun k=>?_,fun k=>?_,fun k=>?_,fun k=>?_⟩
 ·(try rw [zi hi14]);(try rw [zi hi15]);by_cases hx:i=0
  ·rwa [if_pos hx] at e0
  ·rw [if_neg hx] at e0;rw [zi hx] at k;rw [e0];exact h.f0 k
 ·(try rw [zi hi14]);(try rw [zi hi15]);by_cases hx:i=1
  ·rwa [if_pos hx] at e1
  ·rw [if_neg hx] at e1;rw [zi hx] at k;rw [e1];exact h.f1 k
 ·(try rw [zi hi14]);(try rw [zi hi15]);by_cases hx:i=2
  ·rwa [if_pos hx] at e2
  ·rw [if_neg hx] at e2;rw [zi hx] at k;rw [e2];exact h.f2 k
 ·(try rw [zi hi14]);(try rw [zi hi15]);by_cases hx:i=3
  ·rwa [if_pos hx] at e3
  ·rw [if_neg hx] at e3;rw [zi hx] at k;rw [e3];exact h.f3 k
 ·(try rw [zi hi14]);(try rw [zi hi15]);by_cases hx:i=4
  ·rwa [if_pos hx] at e4
  ·rw [if_neg hx] at e4;rw [zi hx] at k;rw [e4];exact h.f4 k
 ·(try rw [zi hi14]);(try rw [zi hi15]);by_cases hx:i=5
  ·rwa [if_pos hx] at e5
  ·rw [if_neg hx] at e5;rw [zi hx] at k;rw [e5];exact h.f5 k
 ·(try rw [zi hi14]);(try rw [zi hi15]);by_cases hx:i=6
  ·rwa [if_pos hx] at e6
  ·rw [if_neg hx] at e6;rw [zi hx] at k;rw [e6];exact h.f6 k
 ·(try rw [zi hi14]);(try rw [zi hi15]);by_cases hx:i=7
  ·rwa [if_pos hx] at e7
  ·rw [if_neg hx] at e7;rw [zi hx] at k;rw [e7];exact h.f7 k
 ·(try rw [zi hi14]);(try rw [zi hi15]);by_cases hx:i=8
  ·rwa [if_pos hx] at e8
  ·rw [if_neg hx] at e8;rw [zi hx] at k;rw [e8];exact h.f8 k
 ·(try rw [zi hi14]);(try rw [zi hi15]);by_cases hx:i=9
  ·rwa [if_pos hx] at e9
  ·rw [if_neg hx] at e9;rw [zi hx] at k;rw [e9];exact h.f9 k
 ·(try rw [zi hi14]);(try rw [zi hi15]);by_cases hx:i=10
  ·rwa [if_pos hx] at e10
  ·rw [if_neg hx] at e10;rw [zi hx] at k;rw [e10];exact h.f10 k
 ·(try rw [zi hi14]);(try rw [zi hi15]);by_cases hx:i=11
  ·rwa [if_pos hx] at e11
  ·rw [if_neg hx] at e11;rw [zi hx] at k;rw [e11];exact h.f11 k
 ·(try rw [zi hi14]);(try rw [zi hi15]);by_cases hx:i=12
  ·rwa [if_pos hx] at e12
  ·rw [if_neg hx] at e12;rw [zi hx] at k;rw [e12];exact h.f12 k
 ·(try rw [zi hi14]);(try rw [zi hi15]);by_cases hx:i=13
  ·rwa [if_pos hx] at e13
  ·rw [if_neg hx] at e13;rw [zi hx] at k;rw [e13];exact h.f13 k
end
end Go.Proofs.YtodokkpnafabpaaGreatDoor
