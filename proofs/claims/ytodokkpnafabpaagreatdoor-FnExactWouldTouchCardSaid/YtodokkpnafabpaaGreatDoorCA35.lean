/- Texts of this claim, merged: the walks and what they stand on. Each condition stands in its theorem. -/
import Derived.Test.YtodokkpnafabpaaGreatDoorCA28
import Derived.Test.YtodokkpnafabpaaGreatDoorCA29
import Derived.Test.YtodokkpnafabpaaGreatDoorCA34
set_option linter.unusedVariables false
set_option linter.unusedSimpArgs false
set_option maxRecDepth 100000
set_option maxHeartbeats 8000000
namespace Go.Proofs.YtodokkpnafabpaaGreatDoor
open Go.ChangeShapes Go.WideShapes Go.ChangeAt Go.RowKit
def zjt:RowOf StepD:=⟨StepD.row,7,fun _=>rfl,fun d u hu=>by simp [StepD.row] at hu;rcases hu with rfl|rfl|rfl|rfl|rfl|rfl|rfl<;>rfl⟩
def StepD.fine (s:StepD):Prop:=s.call.ok/\(-9223372036854775808<=s.proc/\s.proc<=9223372036854775807)/\(-9223372036854775808<=s.call.a/\s.call.a<=9223372036854775807)/\(-9223372036854775808<=s.call.b/\s.call.b<=9223372036854775807)
theorem zjO (vs:Value) (l:List StepD) (hf:∀ s ∈ l,s.fine) (hl:l.length<=1048576) (w0 w:World) (fp:List Nat) (mb:Nat) (m:MachD) (H:IM w0 w mb fp m) (hs:RdL zjt w vs l) (hd:l ≠ []->∀ b off n c,vs=.slice (some ⟨b,off,none⟩) n c->b ∉ fp) (hfit:(K.runAll l).fits m) :
  Calls Tryz.prog 104 #[.pointer (some ⟨mb,0,none⟩),vs] w fun e w'=>∃ vo,e=.returned vo/\∃ fp',IM w0 w' mb fp' ((K.runAll l).run m).2/\IT w fp w' fp'/\KL zbw 62 w' w.heap.size fp' vo ((K.runAll l).run m).1:=by
 obtain ⟨res,mres,hr⟩ : ∃ res mres,(K.runAll l).run m=(res,mres):=⟨_,_,rfl⟩
 have HL:Hid (Lft (K.runAll l) m (res,mres)):=⟨hfit,hr⟩
 rw [hr]
 clear hr hfit
 unfold K.runAll at HL
 have HM:=Hd H
 have HT:=Hd (IT.refl w fp)
 have HB0:=Hd H.bel.size
 have HF:=Hd hf
 have HD:=Hd hd
 obtain ⟨ao,cap,rfl,hc1,hc2,hnil,hne⟩:=hs.shape
 have HX:=Hd hne
 have hb0:=H.bel.size
 clear H hs hne hnil hf hd
 unfold maxLen at hc2
 go_enter Tryz.func104,Tryz.ntmps104
 (repeat (first|go_skip|go_guarded|go_step|go_upon|go_back))
 go_loopw [5,7,10] (fun o _ k wr=>∃ (n:Nat) (xs:List AnswerD) (m1:MachD) (fp1:List Nat),k=.int .i64 n/\n<=l.length/\xs.length<=n/\IM w0 wr mb fp1 m1/\IT w fp wr fp1/\KL zbw 62 wr w.heap.size fp1 o xs/\Lft (Mp.fold K.runSteps xs (l.drop n) >>= pure) m1 (res,mres)) (fun _ _ k _=>l.length - (intOf k).toNat)
 case atStart=>exact ⟨0,[],_,_,rfl,Nat.zero_le _,Nat.le_refl _,HM.out,HT.out,⟨OwnL.nil zbw _ w _,fun j hj=>by cases hj⟩,HL.out.last⟩
 case round =>
  clear HL HM HT
  obtain ⟨n,xs,m1,fp1,rfl,hn,hxl,hm,ht,ho,hl'⟩:=hrel
  obtain ⟨oa,oc,rfl⟩:=ho.1.rd.form
  have HM:=Hd hm
  have HT:=Hd ht
  have HO:=Hd ho
  clear hm ht ho
  by_cases hlt:(n:Int)<l.length
  case neg =>
   have HL:=Hd (Lft.fold_end (κ:=pure) (by omega) hl')
   (repeat (first|go_skip|go_guarded|go_step|go_upon|go_back))
   obtain ⟨rfl,rfl⟩:=HL.out.end
   refine bodyPost_ret (by simp [results,Tryz.results104,go_sem];rfl) rfl ?_
   exact ⟨_,rfl,_,HM.out,HT.out,HO.out⟩
  case pos =>
   have hk:n<l.length:=by omega
   have hl2:=Lft.fold_at (κ:=pure) hk hl'
   clear hl'
   obtain ⟨b,off,rfl,hbl,hcell⟩:=HX.out (by intro e;simp [e] at hk)
   have hc:=hcell n hk
   have hfine:=HF.out _ (List.getElem_mem hk)
   generalize l[n]=s at hc hfine hl2
   obtain ⟨pr,kd,nm,tn,ca,cb,tx⟩:=s
   obtain ⟨f0,f1,f2,f3⟩:=hfine
   dsimp only at f1 f2 f3
   have hbl:=hbl (by decide)
   have hbk:=HT.out.up.block b hbl (HD.out (by intro e;simp [e] at hk) b off _ _ rfl)
   have hg0:∀ {o:Nat} {u:Value},w.cell? ⟨b,o,none⟩=some u->wr.cell? ⟨b,o,none⟩=some u:=fun h=>(World.cell?_of_block (a:=⟨b,_,none⟩) hbk).trans h
   have y0:wr.cell? ⟨b,off+n*7,none⟩=some (.int .i64 pr):=hg0 (hc 0 _ rfl)
   have y1:wr.cell? ⟨b,off+n*7+1,none⟩=some (.int .i64 kd):=hg0 (hc 1 _ rfl)
   have y2:wr.cell? ⟨b,off+n*7+2,none⟩=some (.string nm):=hg0 (hc 2 _ rfl)
   have y3:wr.cell? ⟨b,off+n*7+3,none⟩=some (.string tn):=hg0 (hc 3 _ rfl)
   have y4:wr.cell? ⟨b,off+n*7+4,none⟩=some (.int .i64 ca):=hg0 (hc 4 _ rfl)
   have y5:wr.cell? ⟨b,off+n*7+5,none⟩=some (.int .i64 cb):=hg0 (hc 5 _ rfl)
   have y6:wr.cell? ⟨b,off+n*7+6,none⟩=some (.string tx):=hg0 (hc 6 _ rfl)
   have hbw:b<wr.heap.size:=Nat.lt_of_lt_of_le hbl HT.out.up.size
   have hl3:Lft (K.doCall pr ⟨kd,nm,tn,ca,cb,tx⟩ >>= fun a=>Mp.fold K.runSteps (xs ++ [a]) (l.drop (n+1)) >>= pure) m1 (res,mres):=by
    unfold K.runSteps at hl2
    rw [zab] at hl2
    exact hl2
   have HL:=Hd hl3
   clear hl2 hl3 hc hcell hg0 hbk
   (repeat (first|go_skip|go_guarded|go_step|go_upon|go_back))
   clear y0 y1 y2 y3 y4 y5 y6
   (go_at_call 53;refine (IC.use (impl_do pr f1.1 f1.2 ⟨kd,nm,tn,ca,cb,tx⟩ f0 f2.1 f2.2 f3.1 f3.2) (fun _=>True) (fun _ _=>trivial) HL.out (HM.out.below (Below.ofAlloc (Below.refl _ _) _))).mono ?_;rintro e w2 ⟨x,m2,fp2,rfl,hx,hm,ht,HL2⟩)
   have HT':=Hd (HT.out.trans ((IT.below (Below.ofAlloc (Below.refl _ _) _)).trans ht))
   have HO':=Hd ((HO.out.below (Below.ofAlloc (Below.refl _ _) _)).step ht)
   have HM':=Hd hm
   clear HM HT HO hm ht
   have HM:=HM'
   have HT:=HT'
   have HO:=HO'
   clear HM' HT' HO' HL
   have HL:=Hd HL2
   clear HL2
   obtain ⟨xc,xn,xt⟩:=x
   unfold zbO
   go_wp2_with (at_builtin;refine zA ?_)
   refine zas rfl _ _ _ rfl zd7 (B:=w.heap.size) (v:=.slice oa xs.length oc) (R:=zbw) (xs:=xs) (HO.out.1.alloc _) rfl (zau zbw _ ⟨xc,xn,xt⟩ _ rfl _ _ rfl) rfl (by simp only [List.length_singleton];omega) (by simp only [List.length_singleton];unfold maxLen;omega) (by have:=HT.out.up.size;simp;omega) ?_
   intro v7 w7 hown hg hfr
   have hBo:=fun j hj=>(HO.out.1.lt j hj).1
   have hu:=zaG hg
   have hba:=Below.ofAlloc (Below.refl w2.heap.size w2) (.cells #[.int .i64 xc,.int .i64 xn,.string xt] 62)
   have hm1:=HM.out.below hba
   have hm7:=hm1.upon hu (fun j hj=>HO.out.2 j (by simpa using hj)) (fun j hj=>Nat.le_trans HB0.out (hBo j (by simpa using hj)))
   have ht7:=(HT.out.trans (IT.below hba)).upon hu (fun j hj=>hBo j (by simpa using hj))
   have ho7:KL zbw 62 w7 w.heap.size _ v7 (xs ++ [⟨xc,xn,xt⟩]):=⟨hown,fun j hj hx=>by
    rcases hfr with h|h
    ·exact HO.out.2 j (by rw [<- hj,h]) hx
    ·rw [hj] at h
     have h1:=Option.some.inj h
     have h2:=hm1.hi j hx
     omega⟩
   obtain ⟨oa7,oc7,rfl⟩:=hown.rd.form
   simp only [List.length_append,List.length_singleton] at ho7
   clear hown hg hfr hu hba hm1
   have HM7:=Hd hm7
   have HT7:=Hd ht7
   have HO7:=Hd ho7
   clear hm7 ht7 ho7 hBo
   ((try simp only []);repeat (first|go_skip|go_guarded|go_step|go_upon|go_back))
   go_roundw
   case rel=>exact ⟨n+1,xs ++ [⟨xc,xn,xt⟩],_,_,by go_num,by omega,by simp;omega,HM7.out,HT7.out,HO7.out,HL.out⟩
   case measure=>simp [intOf];omega
theorem impl_run (vs:Value) (l:List StepD) (hf:∀ s ∈ l,s.fine) (hl:l.length<=1048576) (w0 w:World) (fp:List Nat) (mb:Nat) (m:MachD) (H:IM w0 w mb fp m) (hs:RdL zjt w0 vs l) (hfit:(K.runAll l).fits m) :
  Calls Tryz.prog 104 #[.pointer (some ⟨mb,0,none⟩),vs] w fun e w'=>∃ vo,e=.returned vo/\∃ fp',IM w0 w' mb fp' ((K.runAll l).run m).2/\IT w fp w' fp'/\KL zbw 62 w' w.heap.size fp' vo ((K.runAll l).run m).1 :=
 zjO vs l hf hl w0 w fp mb m H (hs.below H.bel) (fun hne b off n c e hx=>by
  subst e
  obtain ⟨ao,cap,e,_,_,_,h⟩:=hs.shape
  obtain ⟨b',off',e',hlt,_⟩:=h hne
  cases e
  cases e'
  have:=H.lo b hx
  have:=hlt (by decide)
  omega) hfit
theorem impl_MachOf (v:Value) (cs:List CellD) (w:World) (h:RdL zu w v cs) (hl:cs.length<=1099511627776) :
  Calls Tryz.prog 52 #[v] w fun e w'=>∃ a c,e=.returned (.agg #[.slice a cs.length c,.slice none 0 0,.slice none 0 0])/\OwnL zu 66 w' w.heap.size (.slice a cs.length c) cs/\Below w.heap.size w w':=by
 have D:=Hd (zfD v cs (w.alloc (.cells #[.slice none 0 0,.slice none 0 0,.slice none 0 0] 84)) (h.alloc _) hl)
 clear h
 go_enter Tryz.func52,Tryz.ntmps52
 (repeat (first|go_skip|go_guarded|go_step|go_upon|go_back))
 (go_at_call 78;refine D.out.mono ?_;rintro e w1 ⟨v1,rfl,ho,hb⟩)
 obtain ⟨a,c,rfl⟩:=ho.rd.form
 have hw:Below w.heap.size w w1:=Below.then (show Below w.heap.size w (w.alloc (.cells #[.slice none 0 0,.slice none 0 0,.slice none 0 0] 84)) from (by repeat (first|with_reducible exact Below.refl _ _|with_reducible apply Below.ofAlloc))) hb
 have hq:w1.heap[w.heap.size]?=some (.cells #[.slice none 0 0,.slice none 0 0,.slice none 0 0] 84 (0,0)):=(Grew.below hb _ (by simp)).trans (heap_alloc_new w _)
 have hb0:w.heap.size+1<=(w.alloc (.cells #[.slice none 0 0,.slice none 0 0,.slice none 0 0] 84)).heap.size:=by simp
 have HO:=Hd (OwnL.base ho hb0)
 have HW:=Hd hw
 have y:=za hq
 have e1:=zf hq
 rw [<- e1]
 clear e1 hq hw ho hb hb0
 ((try simp only []);repeat (first|go_skip|go_guarded|go_step|go_upon|go_back))
 refine bodyPost_ret (by simp [results,Tryz.results52,go_sem,y];rfl) rfl ?_
 exact ⟨_,_,rfl,(HO.out.setB (fun hk=>by have:=(HO.out.lt _ hk).1;omega) _).base (by omega),zr HW.out (Nat.le_refl _) _⟩
end Go.Proofs.YtodokkpnafabpaaGreatDoor
