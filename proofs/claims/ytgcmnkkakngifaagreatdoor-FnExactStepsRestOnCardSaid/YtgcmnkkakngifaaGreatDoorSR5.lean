/- Texts of this claim, merged: the walks and what they stand on. Each condition stands in its theorem. -/
import Derived.Deep.Slices
import Derived.Lib.SmallJoins
import Derived.Test.YtgcmnkkakngifaaGreatDoorCA29
import Derived.Test.YtgcmnkkakngifaaGreatDoorCA35
import Derived.Test.YtgcmnkkakngifaaGreatDoorCA37
import Derived.Test.YtgcmnkkakngifaaGreatDoorSR4
set_option linter.unusedVariables false
set_option linter.unusedSimpArgs false
set_option maxRecDepth 100000
set_option maxHeartbeats 8000000
namespace Go.Proofs.YtgcmnkkakngifaaGreatDoor
open Go.ChangeShapes Go.WideShapes Go.ChangeAt Go.RowKit
def agreeOn (a b:List CellD) (ss:List ByteArray):Bool:=!((diffC a b).any (spansHave ss))
def restOf (a b:List CellD) (r:List AnswerD) (m:MachD) (r':List AnswerD) (m':MachD):Bool :=
 !(agreeOn a b m.rd) || (sameL eqAnswer r r' && (sameTouch ⟨m.rd,m.wr⟩ ⟨m'.rd,m'.wr⟩ && agreeOn m.cells m'.cells m.wr))
theorem rdS_of' {w:World} {v:Value} {xs:List ByteArray} (h:RdL zx w v xs) (hz:∀ s ∈ xs,s.size<=8388608):RdS w v xs:=RdS.ofL h (fun s hs=>Nat.le_trans (hz s hs) (by decide))
theorem small_ok {m:MachD} (h:Mp.Small m):∀ c ∈ m.cells,c.ok:=fun c hc=>⟨by have:=(h.cz c hc).1;omega,by have:=(h.cz c hc).2;omega⟩
theorem rdT_of {w:World} {v:Value} {xs:List ByteArray} {e:TypeId} (h:RdL zx w v xs) (hz:∀ s ∈ xs,s.size<=8388608):(vSlice vStr e).rd w [v] xs:=rd_of_RdL (R:=zx) rfl rfl (by decide) h (fun s hs=>Nat.le_trans (hz s hs) (by decide))
theorem spec_StepsRestOn (va vb vs:Value) (a b:List CellD) (l:List StepD) (w:World) (ha:RdL zu w va a) (hb:RdL zu w vb b) (hs:RdL zjq w vs l) (hka:∀ c ∈ a,c.ok) (hkb:∀ c ∈ b,c.ok) (hf:∀ s ∈ l,s.fine) (hla:a.length<=1048576) (hlb:b.length<=1048576) (hl:l.length<=1048576) (hfa:zfL l ⟨a,[],[]⟩) (hfb:zfL l ⟨b,[],[]⟩)
  (r r':List AnswerD) (m m':MachD) (hr:(K.runAll l).run ⟨a,[],[]⟩ = (r,m)) (hr':(K.runAll l).run ⟨b,[],[]⟩ = (r',m')) (hsm:Mp.Small m) (hsm':Mp.Small m') (hok:∀ x ∈ r,x.ok) (hok':∀ x ∈ r',x.ok) :
  Calls Tryz.prog 34 #[va,vb,vs] w fun e w'=>e = .returned (.bool (restOf a b r m r' m'))/\Below w.heap.size w w':=by
 have D1:=Lib.hid (fun w' (hB:Below w.heap.size w w')=>spec_l15Run va vs a l w' (ha.below hB) (hs.below hB) hf hla hl hfa)
 have D2:=Lib.hid (fun w' (hB:Below w.heap.size w w')=>spec_l15Run vb vs b l w' (hb.below hB) (hs.below hB) hf hlb hl hfb)
 have D3:=Lib.hid (fun w' v ss (hB:Below w.heap.size w w') hv=>spec_AgreeOn va vb v a b ss w' (ha.below hB) (hb.below hB) hv hka hkb (by omega) (by omega))
 have D4:=Lib.hid (fun w' u u' v ss hu hu' hv=>spec_AgreeOn u u' v m.cells m'.cells ss w' hu hu' hv (small_ok hsm) (small_ok hsm') (Nat.le_trans hsm.cl (by decide)) (Nat.le_trans hsm'.cl (by decide)))
 rw [hr] at D1
 rw [hr'] at D2
 dsimp only at D1 D2
 have HSM:=Lib.hid hsm
 have HSM':=Lib.hid hsm'
 have HOK:=Lib.hid hok
 have HOK':=Lib.hid hok'
 obtain ⟨aa,ca,rfl⟩:=ha.form
 obtain ⟨ab,cb,rfl⟩:=hb.form
 obtain ⟨al,cl,rfl⟩:=hs.form
 clear ha hb hs hka hkb hf hfa hfb hr hr' hsm hsm' hok hok'
 go_enter Tryz.func34,Tryz.ntmps34
 (repeat (first|go_skip|go_guarded|go_step|go_upon|go_back))
 (go_at_call 43;refine (D1.out _ (by repeat (with_reducible exact Below.refl _ _))).mono ?_;rintro e w1 ⟨v0,v1,v2,v3,rfl,h0,h1,h2,h3,hb⟩)
 obtain ⟨b0,d0,rfl⟩:=h0.form
 obtain ⟨b1,d1,rfl⟩:=h1.form
 obtain ⟨b2,d2,rfl⟩:=h2.form
 obtain ⟨b3,d3,rfl⟩:=h3.form
 have H0:=Lib.hid h0
 have H1:Hid ((vSlice vAnswer 98).rd w1 _ r):=rd_of_RdL rfl rfl (by decide) h1 HOK.out
 have H2:=Lib.hid h2
 have H3:=Lib.hid h3
 have HB1:Hid (Below w.heap.size w w1):=Lib.hid hb
 clear h0 h1 h2 h3 hb D1
 ((try simp only []);repeat (first|go_skip|go_guarded|go_step|go_upon|go_back))
 (go_at_call 74;refine (D3.out _ _ m.rd (by repeat (first|with_reducible exact HB1.out|with_reducible apply Below.ofAlloc)) (rdS_of' (by repeat (first|with_reducible exact H2.out|with_reducible apply RdL.alloc)) HSM.out.rz)).mono ?_;rintro e w2 ⟨rfl,hb⟩;obtain ⟨X2,rfl⟩:=hb.ext;clear hb)
 clear D3
 rw [show (!((diffC a b).any (spansHave m.rd)))=agreeOn a b m.rd from rfl]
 cases qa:agreeOn a b m.rd with
 | false =>
  ((try simp only []);repeat (first|go_skip|go_guarded|go_step|go_upon|go_back))
  refine bodyPost_ret (by simp [results,Tryz.results34,go_sem];rfl) rfl ?_
  exact ⟨by unfold restOf;rw [qa];rfl,by repeat (first|with_reducible exact HB1.out|with_reducible apply Below.ofExt|with_reducible apply Below.ofAlloc)⟩
 | true =>
  ((try simp only []);repeat (first|go_skip|go_guarded|go_step|go_upon|go_back))
  (go_at_call 43;refine (D2.out _ (by repeat (first|with_reducible exact HB1.out|with_reducible apply Below.ofExt|with_reducible apply Below.ofAlloc))).mono ?_;rintro e w3 ⟨u0,u1,u2,u3,rfl,k0,k1,k2,k3,hb⟩;obtain ⟨X3,rfl⟩:=hb.ext;clear hb)
  simp only [zo] at k0 k1 k2 k3
  obtain ⟨f0,g0,rfl⟩:=k0.form
  obtain ⟨f1,g1,rfl⟩:=k1.form
  obtain ⟨f2,g2,rfl⟩:=k2.form
  obtain ⟨f3,g3,rfl⟩:=k3.form
  have K0:=Lib.hid k0
  have K1:Hid ((vSlice vAnswer 98).rd _ _ r'):=rd_of_RdL rfl rfl (by decide) k1 HOK'.out
  have K2:=Lib.hid k2
  have K3:=Lib.hid k3
  clear k0 k1 k2 k3 D2
  ((try simp only []);repeat (first|go_skip|go_guarded|go_step|go_upon|go_back))
  (go_at_call 45;refine (spec_SameAnswers _ r _ r' _ (by repeat (first|with_reducible exact H1.out|with_reducible apply View.rdExt|with_reducible apply View.rdAlloc)) (by repeat (first|with_reducible exact K1.out|with_reducible apply View.rdAlloc))).mono ?_;rintro e w' ⟨rfl,hb⟩;obtain ⟨X,rfl⟩:=hb.ext;clear hb)
  cases qb:sameL eqAnswer r r' with
  | false =>
   ((try simp only []);repeat (first|go_skip|go_guarded|go_step|go_upon|go_back))
   refine bodyPost_ret (by simp [results,Tryz.results34,go_sem];rfl) rfl ?_
   exact ⟨by unfold restOf;rw [qa,qb];rfl,by repeat (first|with_reducible exact HB1.out|with_reducible apply Below.ofExt|with_reducible apply Below.ofAlloc)⟩
  | true =>
   ((try simp only []);repeat (first|go_skip|go_guarded|go_step|go_upon|go_back))
   (go_at_call 75;refine (spec_SameTouch _ ⟨m.rd,m.wr⟩ _ ⟨m'.rd,m'.wr⟩ _ ⟨_,_,rfl,rdT_of (by repeat (first|with_reducible exact H2.out|with_reducible apply RdL.ext|with_reducible apply RdL.alloc)) HSM.out.rz,rdT_of (by repeat (first|with_reducible exact H3.out|with_reducible apply RdL.ext|with_reducible apply RdL.alloc)) HSM.out.wz⟩ ⟨_,_,rfl,rdT_of (by repeat (first|with_reducible exact K2.out|with_reducible apply RdL.ext|with_reducible apply RdL.alloc)) HSM'.out.rz,rdT_of (by repeat (first|with_reducible exact K3.out|with_reducible apply RdL.ext|with_reducible apply RdL.alloc)) HSM'.out.wz⟩).mono ?_;rintro e w' ⟨rfl,hb⟩;obtain ⟨X,rfl⟩:=hb.ext;clear hb)
   cases qc:sameTouch ⟨m.rd,m.wr⟩ ⟨m'.rd,m'.wr⟩ with
   | false =>
    ((try simp only []);repeat (first|go_skip|go_guarded|go_step|go_upon|go_back))
    refine bodyPost_ret (by simp [results,Tryz.results34,go_sem];rfl) rfl ?_
    exact ⟨by unfold restOf;rw [qa,qb,qc];rfl,by repeat (first|with_reducible exact HB1.out|with_reducible apply Below.ofExt|with_reducible apply Below.ofAlloc)⟩
   | true =>
    ((try simp only []);repeat (first|go_skip|go_guarded|go_step|go_upon|go_back))
    (go_at_call 74;refine (D4.out _ _ _ _ m.wr (by repeat (first|with_reducible exact H0.out|with_reducible apply RdL.ext|with_reducible apply RdL.alloc)) (by repeat (first|with_reducible exact K0.out|with_reducible apply RdL.ext|with_reducible apply RdL.alloc)) (rdS_of' (by repeat (first|with_reducible exact H3.out|with_reducible apply RdL.alloc|with_reducible apply RdL.ext)) HSM.out.wz)).mono ?_;rintro e w4 ⟨rfl,hb⟩;obtain ⟨X4,rfl⟩:=hb.ext;clear hb)
    ((try simp only []);repeat (first|go_skip|go_guarded|go_step|go_upon|go_back))
    refine bodyPost_ret (by simp [results,Tryz.results34,go_sem];rfl) rfl ?_
    exact ⟨by unfold restOf;rw [qa,qb,qc];rfl,by repeat (first|with_reducible exact HB1.out|with_reducible apply Below.ofExt|with_reducible apply Below.ofAlloc)⟩
theorem sameL_symm {α : Type} (p : α->α->Bool) (hp:∀ x y,p x y=p y x):∀ xs ys:List α,sameL p xs ys=sameL p ys xs:=by
 have h:∀ xs ys:List α,((xs.zip ys).all fun z=>p z.1 z.2)=((ys.zip xs).all fun z=>p z.1 z.2):=by
  intro xs
  induction xs with
  | nil=>intro ys;cases ys<;>rfl
  | cons x xs ih =>
   intro ys
   cases ys with
   | nil=>rfl
   | cons y ys =>
    simp only [List.zip_cons_cons,List.all_cons]
    rw [ih ys,hp x y]
 intro xs ys
 unfold sameL
 rw [h xs ys]
 congr 1
 exact decide_eq_decide.2 ⟨Eq.symm,Eq.symm⟩
theorem eqAnswer_symm (x y:AnswerD):eqAnswer x y=eqAnswer y x:=by
 unfold eqAnswer
 rw [Bool.beq_comm (a:=x.code),Bool.beq_comm (a:=x.n),Bool.beq_comm (a:=x.text.toList)]
theorem impl_StepsRestOn (va vb vs:Value) (a b:List CellD) (l:List StepD) (w:World) (hg:Glob w) (ha:RdL zu w va a) (hb:RdL zu w vb b) (hs:RdL zjq w vs l) (hka:∀ c ∈ a,c.ok) (hkb:∀ c ∈ b,c.ok) (hf:∀ s ∈ l,s.fine) (hla:a.length<=1048576) (hlb:b.length<=1048576) (hl:l.length<=1048576) (hfa:(K.runAll l).fits ⟨a,[],[]⟩) (hfb:(K.runAll l).fits ⟨b,[],[]⟩)
  (r r':List AnswerD) (m m':MachD) (hr:(K.runAll l).run ⟨a,[],[]⟩ = (r,m)) (hr':(K.runAll l).run ⟨b,[],[]⟩ = (r',m')) (hsm:Mp.Small m) (hsm':Mp.Small m') (hok:∀ x ∈ r,x.ok) (hok':∀ x ∈ r',x.ok) :
  Calls Tryz.prog 36 #[va,vb,vs] w fun e w'=>e = .returned (.bool (restOf a b r m r' m'))/\Below w.heap.size w w':=by
 have DA:=Lib.hid (fun w' (hB:Below w.heap.size w w')=>impl_MachOf va a w' (ha.below hB) (by omega))
 have DB:=Lib.hid (fun w' (hB:Below w.heap.size w w')=>impl_MachOf vb b w' (hb.below hB) (by omega))
 have D1:=Lib.hid (fun w1 fp p H=>impl_run vs l hf hl w w1 fp p ⟨a,[],[]⟩ H hs hfa)
 have D2:=Lib.hid (fun w1 fp p H=>impl_run vs l hf hl w w1 fp p ⟨b,[],[]⟩ H hs hfb)
 have D3:=Lib.hid (fun w' v ss (hB:Below w.heap.size w w') hv=>impl_AgreeOn va vb v a b ss w' (ha.below hB) (hb.below hB) hv hka hkb (by omega) (by omega))
 have D4:=Lib.hid (fun w' u u' v ss hu hu' hv=>impl_AgreeOn u u' v m.cells m'.cells ss w' hu hu' hv (small_ok hsm) (small_ok hsm') hsm.cl hsm'.cl)
 rw [hr] at D1
 rw [hr'] at D2
 dsimp only at D1 D2
 have HSM:=Lib.hid hsm
 have HSM':=Lib.hid hsm'
 have HOK:=Lib.hid hok
 have HOK':=Lib.hid hok'
 have HG:=Lib.hid hg
 obtain ⟨aa,ca,rfl⟩:=ha.form
 obtain ⟨ab,cb,rfl⟩:=hb.form
 obtain ⟨al,cl,rfl⟩:=hs.form
 clear ha hb hs hka hkb hf hfa hfb hr hr' hsm hsm' hok hok' hg
 go_enter Tryz.func36,Tryz.ntmps36
 (repeat (first|go_skip|go_guarded|go_step|go_upon|go_back))
 (go_at_call 52;refine (DA.out _ (by repeat (with_reducible exact Below.refl _ _))).mono ?_;rintro e w1 ⟨pa,pc,rfl,ho,hb⟩)
 have HO1:=Lib.hid ho
 have HB1:Hid (Below w.heap.size w w1):=Lib.hid hb
 clear ho hb
 ((try simp only []);repeat (first|go_skip|go_guarded|go_step|go_upon|go_back))
 (go_at_call 52;refine (DB.out _ HB1.out).mono ?_;rintro e w2 ⟨pb,pd,rfl,ho,hb⟩)
 have HO2:=Lib.hid ho
 have HP1:=Lib.hid (zgF HO1.out hb)
 have HB2:Hid (Below w.heap.size w w2):=Lib.hid (Below.then HB1.out hb)
 have s01:=HB1.out.size
 have s12:=hb.size
 clear ho hb DA DB
 have h2:=zcf w2 (.cells #[.slice pa a.length pc,.slice none 0 0,.slice none 0 0] 85) (.cells #[.slice pb b.length pd,.slice none 0 0,.slice none 0 0] 85) _ rfl
 have hM1:IM w ((w2.alloc (.cells #[.slice pa a.length pc,.slice none 0 0,.slice none 0 0] 85)).alloc (.cells #[.slice pb b.length pd,.slice none 0 0,.slice none 0 0] 85)) w2.heap.size (w2.heap.size :: (Value.slice pa a.length pc).ownBlock.toList) ⟨a,[],[]⟩:=by
  refine ⟨⟨pa,pc,none,0,none,0,h2.1,(HP1.out.alloc _).alloc _,OwnL.nil zx _ _ _,OwnL.nil zx _ _ _,(fun k hk=>by cases hk),(fun k hk=>?_),(fun k hk=>by cases hk),(fun k hk=>by cases hk)⟩,List.mem_cons_self,(fun j hj=>?_),(fun j hj=>?_),(HB2.out.ofAlloc _).ofAlloc _,HG.out⟩
  ·simp only [List.mem_cons,Option.mem_toList];exact .inr hk
  ·simp only [List.mem_cons,Option.mem_toList] at hj
   rcases hj with rfl|hj
   ·have:=HB2.out.size;omega
   ·exact (HP1.out.lt j hj).1
  ·simp only [List.mem_cons,Option.mem_toList] at hj
   rcases hj with rfl|hj
   ·simp only [World.size_alloc];omega
   ·have:=(HP1.out.lt j hj).2;simp;omega
 have hM2:IM w ((w2.alloc (.cells #[.slice pa a.length pc,.slice none 0 0,.slice none 0 0] 85)).alloc (.cells #[.slice pb b.length pd,.slice none 0 0,.slice none 0 0] 85)) (w2.heap.size + 1) ((w2.heap.size + 1) :: (Value.slice pb b.length pd).ownBlock.toList) ⟨b,[],[]⟩:=by
  refine ⟨⟨pb,pd,none,0,none,0,h2.2,((HO2.out.base HB1.out.size).alloc _).alloc _,OwnL.nil zx _ _ _,OwnL.nil zx _ _ _,(fun k hk=>by cases hk),(fun k hk=>?_),(fun k hk=>by cases hk),(fun k hk=>by cases hk)⟩,List.mem_cons_self,(fun j hj=>?_),(fun j hj=>?_),(HB2.out.ofAlloc _).ofAlloc _,HG.out⟩
  ·simp only [List.mem_cons,Option.mem_toList];exact .inr hk
  ·simp only [List.mem_cons,Option.mem_toList] at hj
   rcases hj with rfl|hj
   ·have:=HB2.out.size;omega
   ·exact ((HO2.out.base HB1.out.size).lt j hj).1
  ·simp only [List.mem_cons,Option.mem_toList] at hj
   rcases hj with rfl|hj
   ·simp only [World.size_alloc];omega
   ·have:=((HO2.out.base HB1.out.size).lt j hj).2;simp;omega
 have HD:Hid (∀ j ∈ w2.heap.size :: (Value.slice pa a.length pc).ownBlock.toList,j ∉ (w2.heap.size + 1) :: (Value.slice pb b.length pd).ownBlock.toList):=Lib.hid (fun j hj hx=>by
  simp only [List.mem_cons,Option.mem_toList] at hj hx
  rcases hj with rfl|hj<;>rcases hx with hx|hx
  ·omega
  ·have:=(HO2.out.lt _ hx).2;omega
  ·have:=(HO1.out.lt _ hj).2;omega
  ·have h1:=(HO1.out.lt _ hj).2;have h2:=(HO2.out.lt _ hx).1;omega)
 have HM1:=Lib.hid hM1
 have HM2:=Lib.hid hM2
 generalize w2.heap.size :: (Value.slice pa a.length pc).ownBlock.toList=f1 at HM1 HD
 generalize (w2.heap.size + 1) :: (Value.slice pb b.length pd).ownBlock.toList=f2 at HM2 HD
 clear hM1 hM2 h2 HO1 HO2 HP1
 ((try simp only []);repeat (first|go_skip|go_guarded|go_step|go_upon|go_back))
 (go_at_call 53;refine (D1.out _ _ _ HM1.out).mono ?_;rintro e w3 ⟨vo,rfl,g1,hm,ht,hk⟩)
 obtain ⟨oa,oc,rfl⟩:=hk.1.rd.form
 have HN2:=Lib.hid (IM.upon HM2.out ht.up HD.out HM1.out.lo)
 have HE:Hid (∀ j ∈ f2,j ∉ g1):=Lib.hid (fun j hj h=>(ht.sub j h).elim (fun h1=>HD.out j h1 hj) (fun h1=>absurd h1 (Nat.not_le.2 (HM2.out.hi j hj))))
 have HF:Hid (∀ j,(Value.slice oa r.length oc).ownBlock=some j->j ∉ f2):=Lib.hid (fun j hj hx=>absurd (hk.1.lt j hj).1 (Nat.not_le.2 (HM2.out.hi j hx)))
 have HN1:=Lib.hid hm
 have HK:=Lib.hid hk
 have HB3:Hid (Below w.heap.size w w3):=Lib.hid hm.bel
 obtain ⟨⟨n0,k0,n1,k1,n2,k2,hp,o0,o1,o2,_⟩,_⟩:=hm
 have H2:=Lib.hid o1.rd
 have q1:w3.cell? ⟨w2.heap.size,1,none⟩ = some (.slice n1 m.rd.length k1):=(zd (i:=1) hp).trans rfl
 have hpl:=za hp
 clear hp o0 o1 o2 hk ht HM1 HM2 D1 HD
 ((try simp only []);repeat (first|go_skip|go_guarded|go_step|go_upon|go_back))
 (go_at_call 77;refine (D3.out _ _ m.rd HB3.out (rdS_of' H2.out HSM.out.rz)).mono ?_;rintro e w4 ⟨rfl,hb⟩)
 have HB4:=Lib.hid (Below.then HB3.out hb)
 have HQ1:=Lib.hid (HN1.out.below hb)
 have HQ2:=Lib.hid (HN2.out.below hb)
 have HK4:=Lib.hid (HK.out.below hb)
 clear hb D3 HN1 HN2 HK H2 q1 hpl HB3
 rw [show (!((diffC a b).any (spansHave m.rd)))=agreeOn a b m.rd from rfl]
 cases qa:agreeOn a b m.rd with
 | false =>
  ((try simp only []);repeat (first|go_skip|go_guarded|go_step|go_upon|go_back))
  refine bodyPost_ret (by simp [results,Tryz.results36,go_sem];rfl) rfl ?_
  exact ⟨by unfold restOf;rw [qa];rfl,HB4.out⟩
 | true =>
  ((try simp only []);repeat (first|go_skip|go_guarded|go_step|go_upon|go_back))
  (go_at_call 53;refine (D2.out _ _ _ HQ2.out).mono ?_;rintro e w5 ⟨vo2,rfl,g2,hm2,ht2,hk2⟩)
  obtain ⟨ob,od,rfl⟩:=hk2.1.rd.form
  have hm1:=HQ1.out.upon ht2.up HE.out HQ2.out.lo
  have hk1:=HK4.out.upon ht2.up HF.out
  have HB5:=Lib.hid hm2.bel
  have A1:Hid ((vSlice vAnswer 98).rd w5 _ r):=rd_of_RdL rfl rfl (by decide) hk1.1.rd HOK.out
  have A2:Hid ((vSlice vAnswer 98).rd w5 _ r'):=rd_of_RdL rfl rfl (by decide) hk2.1.rd HOK'.out
  obtain ⟨⟨x0,y0,x1,y1,x2,y2,hp,o0,o1,o2,_⟩,_⟩:=hm1
  obtain ⟨⟨u0,t0,u1,t1,u2,t2,hp',o0',o1',o2',_⟩,_⟩:=hm2
  have H0:=Lib.hid o0.rd
  have H1:=Lib.hid o1.rd
  have H2:=Lib.hid o2.rd
  have K0:=Lib.hid o0'.rd
  have K1:=Lib.hid o1'.rd
  have K2:=Lib.hid o2'.rd
  have q0:w5.cell? ⟨w2.heap.size,0,none⟩ = some (.slice x0 m.cells.length y0):=(zd (i:=0) hp).trans rfl
  have q1:w5.cell? ⟨w2.heap.size,1,none⟩ = some (.slice x1 m.rd.length y1):=(zd (i:=1) hp).trans rfl
  have q2:w5.cell? ⟨w2.heap.size,2,none⟩ = some (.slice x2 m.wr.length y2):=(zd (i:=2) hp).trans rfl
  have p0:w5.cell? ⟨w2.heap.size + 1,0,none⟩ = some (.slice u0 m'.cells.length t0):=(zd (i:=0) hp').trans rfl
  have p1:w5.cell? ⟨w2.heap.size + 1,1,none⟩ = some (.slice u1 m'.rd.length t1):=(zd (i:=1) hp').trans rfl
  have p2:w5.cell? ⟨w2.heap.size + 1,2,none⟩ = some (.slice u2 m'.wr.length t2):=(zd (i:=2) hp').trans rfl
  have hpl:=za hp
  have hpl':=za hp'
  clear hp hp' o0 o1 o2 o0' o1' o2' hk1 hk2 ht2 D2 HQ1 HQ2 HK4 HE HF
  ((try simp only []);repeat (first|go_skip|go_guarded|go_step|go_upon|go_back))
  (go_at_call 55;refine (impl_SameAnswers _ r' _ r _ (by repeat (with_reducible exact A2.out)) (by repeat (with_reducible exact A1.out))).mono ?_;rintro e w' ⟨rfl,hb⟩;obtain ⟨X,rfl⟩:=hb.ext;clear hb)
  rw [sameL_symm eqAnswer eqAnswer_symm r' r]
  cases qb:sameL eqAnswer r r' with
  | false =>
   ((try simp only []);repeat (first|go_skip|go_guarded|go_step|go_upon|go_back))
   refine bodyPost_ret (by simp [results,Tryz.results36,go_sem];rfl) rfl ?_
   exact ⟨by unfold restOf;rw [qa,qb];rfl,(by repeat (first|with_reducible exact HB5.out|with_reducible apply Below.ofExt|with_reducible apply Below.ofAlloc))⟩
  | true =>
   ((try simp only []);repeat (first|go_skip|go_guarded|go_step|go_upon|go_back))
   (go_at_call 78;refine (impl_SameTouch _ ⟨m.rd,m.wr⟩ _ ⟨m'.rd,m'.wr⟩ _ ⟨_,_,rfl,rdT_of (by repeat (first|with_reducible exact H1.out|with_reducible apply RdL.ext)) HSM.out.rz,rdT_of (by repeat (first|with_reducible exact H2.out|with_reducible apply RdL.ext)) HSM.out.wz⟩ ⟨_,_,rfl,rdT_of (by repeat (first|with_reducible exact K1.out|with_reducible apply RdL.ext)) HSM'.out.rz,rdT_of (by repeat (first|with_reducible exact K2.out|with_reducible apply RdL.ext)) HSM'.out.wz⟩).mono ?_;rintro e w' ⟨rfl,hb⟩;obtain ⟨X,rfl⟩:=hb.ext;clear hb)
   cases qc:sameTouch ⟨m.rd,m.wr⟩ ⟨m'.rd,m'.wr⟩ with
   | false =>
    ((try simp only []);repeat (first|go_skip|go_guarded|go_step|go_upon|go_back))
    refine bodyPost_ret (by simp [results,Tryz.results36,go_sem];rfl) rfl ?_
    exact ⟨by unfold restOf;rw [qa,qb,qc];rfl,(by repeat (first|with_reducible exact HB5.out|with_reducible apply Below.ofExt|with_reducible apply Below.ofAlloc))⟩
   | true =>
    ((try simp only []);repeat (first|go_skip|go_guarded|go_step|go_upon|go_back))
    (go_at_call 77;refine (D4.out _ _ _ _ m.wr (by repeat (first|with_reducible exact H0.out|with_reducible apply RdL.ext)) (by repeat (first|with_reducible exact K0.out|with_reducible apply RdL.ext)) (rdS_of' (by repeat (first|with_reducible exact H2.out|with_reducible apply RdL.ext)) HSM.out.wz)).mono ?_;rintro e w6 ⟨rfl,hb⟩;obtain ⟨X4,rfl⟩:=hb.ext;clear hb)
    ((try simp only []);repeat (first|go_skip|go_guarded|go_step|go_upon|go_back))
    refine bodyPost_ret (by simp [results,Tryz.results36,go_sem];rfl) rfl ?_
    exact ⟨by unfold restOf;rw [qa,qb,qc];rfl,(by repeat (first|with_reducible exact HB5.out|with_reducible apply Below.ofExt))⟩
theorem run_of {zs:List CellD} {l:List StepD} (hf:∀ s ∈ l,s.fine) (hz:wtS CellD.wt zs + l.length<=1048576) :
  zfL l ⟨zs,[],[]⟩/\(K.runAll l).fits ⟨zs,[],[]⟩/\Mp.Small ((K.runAll l).run ⟨zs,[],[]⟩).2/\∀ a ∈ ((K.runAll l).run ⟨zs,[],[]⟩).1,a.ok:=by
 have h:=run_whole (cs:=zs) (l:=l) (by unfold wtS at hz;omega) (fun c hc=>by
  have t1:=wt_mem CellD.wt zs c hc
  have t2:CellD.wt c=c.key.size + c.val.size:=rfl
  unfold wtS at hz
  omega) (fun s hs=>⟨(hf s hs).2.1,(hf s hs).2.2.1⟩)
 exact ⟨h.1,h.2.1,Mp.fits_end h.2.1,h.2.2.1⟩
end Go.Proofs.YtgcmnkkakngifaaGreatDoor
namespace Go
open Go.RowKit Go.ChangeShapes Go.WideShapes Go.Deep
def Opens {α : Type} (P:Program) (T:TypeId) (V:View α):Prop:=∀ (H:Type) (enc:TypeId × Value->H) (w:World) (fuel:Nat) {cs:List Value} {x:DataW H × List MemPlace},
 DataW.trod enc P w 0 (fun _=>true) true fuel T cs=some x->∃ d,V.rd w cs d
theorem opensInt {P:Program} {T:TypeId} (ht:P.underlying T=some (.int .i64)):Opens P T vInt:=by
 intro H enc w fuel cs x h
 obtain ⟨n,rfl,_⟩:=DataW.trod_int ht h
 exact ⟨n,rfl,trivial⟩
theorem opensStr {P:Program} {T:TypeId} (ht:P.underlying T=some .string):Opens P T vStr:=by
 intro H enc w fuel cs x h
 obtain ⟨n,rfl,_,hz⟩:=DataW.trod_string ht h
 exact ⟨n,rfl,hz⟩
theorem flat_cells {k:Nat} (w:World) (b:Nat):∀ (css:List (List Value)) (off:Nat),(∀ i (hc:i < css.length),(css[i]).length=k) ->
  (∀ i (hc:i < css.length) (j:Nat),j < k->w.cell? ⟨b,off + i * k + j,none⟩ = css[i][j]?)->∀ j u,css.flatten[j]?=some u->w.cell? ⟨b,off + j,none⟩ = some u
 | [],_,_,_,j,u,h=>by simp at h
 | c :: r,off,hl,hc,j,u,h=>by
  have h0:c.length=k:=hl 0 (by simp)
  rw [List.flatten_cons] at h
  by_cases hj:j < k
  ·rw [List.getElem?_append_left (by omega)] at h
   have:=hc 0 (by simp) j hj
   rw [Nat.zero_mul,Nat.add_zero] at this
   rw [this]
   exact h
  ·rw [List.getElem?_append_right (by omega),h0] at h
   have:=flat_cells w b r (off + k) (fun i hi=>by have:=hl (i + 1) (by simpa using hi);rwa [List.getElem_cons_succ] at this) (fun i hi q hq=>by
    have:=hc (i + 1) (by simpa using hi) q hq
    rw [List.getElem_cons_succ] at this
    rw [<- this]
    congr 2
    rw [Nat.add_mul]
    omega) (j - k) u h
   rw [<- this]
   congr 2
   omega
theorem add_none (b o n:Nat):(⟨b,o,none⟩ : Addr).add n = ⟨b,o + n,none⟩:=zbw b o n
theorem opens_slice {α : Type} {P:Program} {T E:TypeId} {V:View α} {e:TypeId} (ht:P.underlying T=some (.slice E)) (hc:P.cellsOf E=V.k) (hk : 0 < V.k) (hE:Opens P E V):Opens P T (vSlice V e):=by
 intro H enc w fuel cs x h
 rcases open_slice ht h with ⟨rfl,_⟩|⟨a,len,cap,m,n,D,Pl,rfl,_,hl,hm,hmm,_,hi⟩
 ·exact ⟨[],none,0,[],rfl,Nat.le_refl _,Nat.zero_le _,fun _=>rfl,rfl,fun i hi=>absurd hi (by simp),fun h=>absurd rfl h⟩
 ·have hmm2:cap=m:=hmm.symm
  subst hmm2
  have hi:∀ i,i < cap->∃ cs',w.cells? 0 (a.add (i * P.cellsOf E)) (P.cellsOf E)=some cs'/\DataW.trod enc P w 0 (fun _=>true) true n E cs'=some (D i,Pl i):=hi
  have hex:∀ i,∃ cs':List Value,∃ d:Option α,i < len->cs'.length=V.k/\(∀ j,j < V.k->w.cell? ((a.add (i * V.k)).add j)=cs'[j]?)/\∃ d',d=some d'/\V.rd w cs' d':=by
   intro i
   by_cases hlt:i < len
   ·obtain ⟨cs',h1,h2⟩:=hi i (by omega)
    rw [hc] at h1
    obtain ⟨_,h3,h4⟩:=World.cells?_some h1
    obtain ⟨d,hd⟩:=hE _ _ _ _ h2
    exact ⟨cs',some d,fun _=>⟨h3,h4,d,rfl,hd⟩⟩
   ·exact ⟨[],none,fun h=>absurd h hlt⟩
  have hex2:∃ (f:Nat->List Value) (g:Nat->Option α),∀ i,i < len->(f i).length=V.k/\(∀ j,j < V.k->w.cell? ((a.add (i * V.k)).add j)=(f i)[j]?)/\∃ d',g i=some d'/\V.rd w (f i) d' :=
   ⟨fun i=>(hex i).choose,fun i=>(hex i).choose_spec.choose,fun i=>(hex i).choose_spec.choose_spec⟩
  obtain ⟨f,g,hfg⟩:=hex2
  by_cases hz:len=0
  ·subst hz
   exact ⟨[],some a,cap,[],rfl,Nat.zero_le _,hm,(fun h=>by cases h),rfl,fun i hi=>absurd hi (by simp),fun h=>absurd rfl h⟩
  ·have h0:=(hfg 0 (by omega))
   have hd0:∃ d0 : α,True:=by obtain ⟨_,_,d,_⟩:=h0;exact ⟨d,trivial⟩
   obtain ⟨d0,_⟩:=hd0
   obtain ⟨b,off,sp⟩:=a
   have hsp:sp=none:=by
    cases sp with
    | none=>rfl
    | some q =>
     have h2:=h0.2.1 0 hk
     rw [Nat.zero_mul] at h2
     have h3:(f 0)[0]?=some ((f 0)[0]'(by rw [h0.1];exact hk)):=List.getElem?_eq_getElem _
     rw [h3] at h2
     have e:((⟨b,off,some q⟩ : Addr).add 0).add 0 = ⟨b,off,some q⟩:=by simp [Addr.add]
     rw [e] at h2
     unfold World.cell? at h2
     simp only [Option.isSome_some,if_true] at h2
     split at h2<;>cases h2
   subst hsp
   refine ⟨(List.range len).map fun i=>(g i).getD d0,some ⟨b,off,none⟩,cap,(List.range len).map f,by simp,by simpa using hl,hm,(fun h=>by cases h),by simp,?_,fun _=>⟨b,off,rfl,?_,?_⟩⟩
   ·intro i hi hci
    simp only [List.length_map,List.length_range] at hi hci
    obtain ⟨_,_,d',hd',hr⟩:=hfg i hi
    simp only [List.getElem_map,List.getElem_range,hd',Option.getD_some]
    exact hr
   ·have h2:=h0.2.1 0 hk
    obtain ⟨u,hu⟩ : ∃ u,(f 0)[0]?=some u:=⟨_,List.getElem?_eq_getElem (by rw [h0.1];exact hk)⟩
    rw [hu,add_none,add_none] at h2
    exact World.block_lt_of_cell? w _ h2
   ·refine flat_cells (k:=V.k) w b _ off (fun i hci=>?_) (fun i hci j hj=>?_)
    ·simp only [List.length_map,List.length_range] at hci
     simpa using (hfg i hci).1
    ·simp only [List.length_map,List.length_range] at hci
     have:=(hfg i hci).2.1 j hj
     rw [add_none,add_none] at this
     simpa using this
theorem open_sl {α : Type} {P:Program} {T E e:TypeId} {V:View α} (hs:P.underlying T=some (.slice E)) (hO:Opens P T (vSlice V e)) {H:Type} {enc:TypeId × Value->H} {W:World} {base:Nat} {v:Value} {d:DataW H} {p:List MemPlace}
  (hv:Value.okWide P W .any base T v) (h:DataW.Trod enc P W 0 (fun _=>true) true T v d p):∃ x,(vSlice V e).rd W [v] x:=by
 obtain ⟨a,len,cap,rfl⟩:=okWide_slice hs hv
 obtain ⟨fuel,hf⟩:=h
 exact hO _ _ _ _ hf
end Go
namespace Go.Proofs.YtgcmnkkakngifaaGreatDoor
open Go.ChangeShapes Go.WideShapes Go.ChangeAt Go.RowKit
theorem opens_int:Opens Tryz.prog 3 vInt:=opensInt Tryz.underlying3
def vIntR:View Int:=vRow (fun n=>[.int .i64 n]) 1 InR (fun _=>rfl) (by simp [Value.oneCell'])
def vCallR:View CallD:=vRow CallD.row 6 (fun d=>d.ok/\InR d.a/\InR d.b) (fun _=>rfl) (fun d u hu=>by simp [CallD.row] at hu;rcases hu with rfl|rfl|rfl|rfl|rfl|rfl<;>rfl)
def vStepR:View StepD:=vRow StepD.row 7 (fun d=>d.call.ok/\InR d.proc/\InR d.call.a/\InR d.call.b) (fun _=>rfl) (fun d u hu=>by simp [StepD.row] at hu;rcases hu with rfl|rfl|rfl|rfl|rfl|rfl|rfl<;>rfl)
theorem opens_intR:Opens Tryz.prog 3 vIntR:=by
 intro H enc w fuel cs x h
 obtain ⟨n,rfl,_,hw⟩:=DataW.trod_int Tryz.underlying3 h
 refine ⟨n,rfl,?_⟩
 simp [Lit.wf,IntKind.min,IntKind.max,IntKind.signed,IntKind.bits] at hw
 exact ⟨by omega,by omega⟩
theorem slice_row {α : Type} {row : α->List Value} {k:Nat} {ok ok' : α->Prop} {hk:∀ d,(row d).length=k} {h1:∀ d,∀ u ∈ row d,u.oneCell'=true} {e:TypeId} {w:World} {cs:List Value} {ds:List α} (h:(vSlice (vRow row k ok hk h1) e).rd w cs ds) (hi:∀ d,ok d->ok' d) :
  (vSlice (vRow row k ok' hk h1) e).rd w cs ds:=by
 obtain ⟨ao,cap,css,e,h1,h2,h3,h4,h5,h6⟩:=h
 exact ⟨ao,cap,css,e,h1,h2,h3,h4,fun i hi' hc=>⟨(h5 i hi' hc).1,hi _ (h5 i hi' hc).2⟩,h6⟩
theorem slice_ok {α : Type} {row : α->List Value} {k:Nat} {ok : α->Prop} {hk:∀ d,(row d).length=k} {h1:∀ d,∀ u ∈ row d,u.oneCell'=true} {e:TypeId} {w:World} {cs:List Value} {ds:List α} (h:(vSlice (vRow row k ok hk h1) e).rd w cs ds):∀ d ∈ ds,ok d:=by
 obtain ⟨ao,cap,css,e,h1,h2,h3,h4,h5,h6⟩:=h
 intro d hd
 obtain ⟨i,hi,rfl⟩:=List.getElem_of_mem hd
 exact (h5 i hi (by omega)).2
theorem opens_str:Opens Tryz.prog 9 vStr:=opensStr Tryz.underlying9
theorem Tryz.cellsLCall:Tryz.prog.cellsOf 49=6:=by kernel_rfl
theorem opens_CallR:Opens Tryz.prog 49 vCallR:=by
 intro H enc w fuel cs x h
 obtain ⟨xs,n,_,_,hl,hxl,hf⟩:=DataW.trod_struct Tryz.underlying49 h
 rw [Tryz.cellsLCall] at hl
 match cs,hl with
 | [c0,c1,c2,c3,c4,c5],_ =>
  match xs,hxl with
  | [y0,y1,y2,y3,y4,y5],_ =>
   have h0:DataW.trod enc Tryz.prog w 0 (fun _=>true) true n 3 [c0]=some y0:=by
    have:=hf 0 _ rfl
    rw [show Tryz.prog.cellsOf _=1 by kernel_rfl] at this
    exact this
   have h1:DataW.trod enc Tryz.prog w 0 (fun _=>true) true n 9 [c1]=some y1:=by
    have:=hf 1 _ rfl
    rw [show Tryz.prog.cellsOf _=1 by kernel_rfl] at this
    exact this
   have h2:DataW.trod enc Tryz.prog w 0 (fun _=>true) true n 9 [c2]=some y2:=by
    have:=hf 2 _ rfl
    rw [show Tryz.prog.cellsOf _=1 by kernel_rfl] at this
    exact this
   have h3:DataW.trod enc Tryz.prog w 0 (fun _=>true) true n 3 [c3]=some y3:=by
    have:=hf 3 _ rfl
    rw [show Tryz.prog.cellsOf _=1 by kernel_rfl] at this
    exact this
   have h4:DataW.trod enc Tryz.prog w 0 (fun _=>true) true n 3 [c4]=some y4:=by
    have:=hf 4 _ rfl
    rw [show Tryz.prog.cellsOf _=1 by kernel_rfl] at this
    exact this
   have h5:DataW.trod enc Tryz.prog w 0 (fun _=>true) true n 9 [c5]=some y5:=by
    have:=hf 5 _ rfl
    rw [show Tryz.prog.cellsOf _=1 by kernel_rfl] at this
    exact this
   obtain ⟨d0,e0,_⟩:=opens_int _ _ _ _ h0
   obtain ⟨d1,e1,z1⟩:=opens_str _ _ _ _ h1
   obtain ⟨d2,e2,z2⟩:=opens_str _ _ _ _ h2
   obtain ⟨d3,e3,z3⟩:=opens_intR _ _ _ _ h3
   obtain ⟨d4,e4,z4⟩:=opens_intR _ _ _ _ h4
   obtain ⟨d5,e5,z5⟩:=opens_str _ _ _ _ h5
   simp only [List.cons.injEq,and_true] at e0
   subst e0
   simp only [List.cons.injEq,and_true] at e1
   subst e1
   simp only [List.cons.injEq,and_true] at e2
   subst e2
   simp only [List.cons.injEq,and_true] at e3
   subst e3
   simp only [List.cons.injEq,and_true] at e4
   subst e4
   simp only [List.cons.injEq,and_true] at e5
   subst e5
   exact ⟨⟨d0,d1,d2,d3,d4,d5⟩,rfl,⟨⟨z1,z2,z5⟩,z3,z4⟩⟩
theorem Tryz.cellsLStep:Tryz.prog.cellsOf 106=7:=by kernel_rfl
theorem opens_StepR:Opens Tryz.prog 106 vStepR:=by
 intro H enc w fuel cs x h
 obtain ⟨xs,n,_,_,hl,hxl,hf⟩:=DataW.trod_struct Tryz.underlying106 h
 rw [Tryz.cellsLStep] at hl
 match cs,hl with
 | [c0,c1,c2,c3,c4,c5,c6],_ =>
  match xs,hxl with
  | [y0,y1],_ =>
   have h0:DataW.trod enc Tryz.prog w 0 (fun _=>true) true n 3 [c0]=some y0:=by
    have:=hf 0 _ rfl
    rw [show Tryz.prog.cellsOf _=1 by kernel_rfl] at this
    exact this
   have h1:DataW.trod enc Tryz.prog w 0 (fun _=>true) true n 49 [c1,c2,c3,c4,c5,c6]=some y1:=by
    have:=hf 1 _ rfl
    rw [show Tryz.prog.cellsOf _=6 by kernel_rfl] at this
    exact this
   obtain ⟨d0,e0,z0⟩:=opens_intR _ _ _ _ h0
   obtain ⟨d1,e1⟩:=opens_CallR _ _ _ _ h1
   simp only [List.cons.injEq,and_true] at e0
   subst e0
   obtain ⟨r1,z1⟩:=e1
   simp only [CallD.row,List.cons.injEq,and_true] at r1
   obtain ⟨rfl,rfl,rfl,rfl,rfl,rfl⟩:=r1
   exact ⟨⟨d0,d1⟩,rfl,z1.1,z0,z1.2⟩
theorem opens_StepRS {x:TypeId}:Opens Tryz.prog 59 (vSlice vStepR x):=opens_slice Tryz.underlying59 (by kernel_rfl) (by decide) opens_StepR
theorem Tryz.cellsLCell:Tryz.prog.cellsOf 68=2:=by kernel_rfl
theorem opens_Cell:Opens Tryz.prog 68 zfN:=by
 intro H enc w fuel cs x h
 obtain ⟨xs,n,_,_,hl,hxl,hf⟩:=DataW.trod_struct Tryz.underlying68 h
 rw [Tryz.cellsLCell] at hl
 match cs,hl with
 | [c0,c1],_ =>
  match xs,hxl with
  | [y0,y1],_ =>
   have h0:DataW.trod enc Tryz.prog w 0 (fun _=>true) true n 9 [c0]=some y0:=by
    have:=hf 0 _ rfl
    rw [show Tryz.prog.cellsOf _=1 by kernel_rfl] at this
    exact this
   have h1:DataW.trod enc Tryz.prog w 0 (fun _=>true) true n 9 [c1]=some y1:=by
    have:=hf 1 _ rfl
    rw [show Tryz.prog.cellsOf _=1 by kernel_rfl] at this
    exact this
   obtain ⟨d0,e0,z0⟩:=opens_str _ _ _ _ h0
   obtain ⟨d1,e1,z1⟩:=opens_str _ _ _ _ h1
   simp only [List.cons.injEq,and_true] at e0
   subst e0
   simp only [List.cons.injEq,and_true] at e1
   subst e1
   exact ⟨⟨d0,d1⟩,rfl,⟨z0,z1⟩⟩
theorem opens_CellS {x:TypeId}:Opens Tryz.prog 22 (vSlice zfN x):=opens_slice Tryz.underlying22 (by kernel_rfl) (by decide) opens_Cell
theorem law_StepsRestOn (v0:Value) (d0:List CellD) (v1:Value) (d1:List CellD) (v2:Value) (d2:List StepD) (w:World) (hg:Glob w) (hs0:(vSlice zfN 68).rd w [v0] d0) (hs1:(vSlice zfN 68).rd w [v1] d1) (hs2:(vSlice vStepR 106).rd w [v2] d2):Calls Tryz.prog 8 #[v0,v1,v2] w (Yes w):=by
 unfold Yes
 have HF:Hid (∀ s ∈ d2,s.fine):=slice_ok hs2
 have hs3:(vSlice vStep 106).rd w [v2] d2:=slice_row hs2 (fun d h=>h.1)
 obtain ⟨a0,c0,rfl⟩:=vSlice.form hs0
 obtain ⟨a1,c1,rfl⟩:=vSlice.form hs1
 obtain ⟨a2,c2,rfl⟩:=vSlice.form hs3
 have H0:=Lib.hid hs0
 have H1:=Lib.hid hs1
 have H2:=Lib.hid hs3
 have HG:=Lib.hid hg
 clear hs0 hs1 hs2 hs3 hg
 have BW:=Lib.hid (Below.refl w.heap.size w)
 go_enter Tryz.func8,Tryz.ntmps8
 go_wp2_with fail
 (go_at_call 9;refine (laws_szCellS _ d0 _ _ (View.grow _ H0.out (Grew.below BW.out)) (by omega) (by omega)).mono ?_;rintro e w1 ⟨rfl,hb⟩)
 replace BW:=Lib.hid (Below.then BW.out hb)
 clear hb
 obtain ⟨q0,q0e⟩ : ∃ q:Nat,q=wtS CellD.wt d0:=⟨_,rfl⟩
 rw [<- q0e]
 have Q0:=Lib.hid q0e
 clear q0e
 by_cases g0:(q0:Int)<=1048576
 case neg =>
  rw [zbD g0]
  go_wp2
  go_ret
  exact ⟨rfl,BW.out⟩
 rw [zek g0]
 have n0:¬ (1048576 - (q0:Int):Int) < 0:=by omega
 go_wp2_with fail
 (go_at_call 9;refine (laws_szCellS _ d1 _ _ (View.grow _ H1.out (Grew.below BW.out)) (by omega) (by omega)).mono ?_;rintro e w2 ⟨rfl,hb⟩)
 replace BW:=Lib.hid (Below.then BW.out hb)
 clear hb
 obtain ⟨q1,q1e⟩ : ∃ q:Nat,q=wtS CellD.wt d1:=⟨_,rfl⟩
 rw [<- q1e]
 have Q1:=Lib.hid q1e
 clear q1e
 by_cases g1:(q1:Int)<=1048576 - (q0:Int)
 case neg =>
  rw [zbD g1]
  go_wp2
  go_ret
  exact ⟨rfl,BW.out⟩
 rw [zek g1]
 have n1:¬ (1048576 - (q0:Int) - (q1:Int):Int) < 0:=by omega
 go_wp2_with fail
 (go_at_call 33;refine (laws_szStepS _ d2 _ _ (View.grow _ H2.out (Grew.below BW.out)) (by omega) (by omega)).mono ?_;rintro e w3 ⟨rfl,hb⟩)
 replace BW:=Lib.hid (Below.then BW.out hb)
 clear hb
 obtain ⟨q2,q2e⟩ : ∃ q:Nat,q=wtS StepD.wt d2:=⟨_,rfl⟩
 rw [<- q2e]
 have Q2:=Lib.hid q2e
 clear q2e
 by_cases g2:(q2:Int)<=1048576 - (q0:Int) - (q1:Int)
 case neg =>
  rw [zbD g2]
  go_wp2
  go_ret
  exact ⟨rfl,BW.out⟩
 rw [zek g2]
 have n2:¬ (1048576 - (q0:Int) - (q1:Int) - (q2:Int):Int) < 0:=by omega
 have HSUM:Hid (wtS CellD.wt d0 + wtS CellD.wt d1 + d2.length<=1048576):=by
  have t0:=Q0.out
  have t1:=Q1.out
  have t2:=Q2.out
  have t3:d2.length<=wtS StepD.wt d2:=by unfold wtS;omega
  show _<=_
  omega
 have HL0:Hid (d0.length<=1048576):=by have:=HSUM.out;unfold wtS at this;show _<=_;omega
 have HL1:Hid (d1.length<=1048576):=by have:=HSUM.out;unfold wtS at this;show _<=_;omega
 have HL2:Hid (d2.length<=1048576):=by have:=HSUM.out;show _<=_;omega
 have HW0:=Lib.hid (run_of HF.out (zs:=d0) (by have:=HSUM.out;omega))
 have HW1:=Lib.hid (run_of HF.out (zs:=d1) (by have:=HSUM.out;omega))
 have HK0:=Lib.hid (vCells_ok H0.out)
 have HK1:=Lib.hid (vCells_ok H1.out)
 obtain ⟨r,m,hr⟩ : ∃ r m,(K.runAll d2).run ⟨d0,[],[]⟩ = (r,m):=⟨_,_,rfl⟩
 obtain ⟨r',m',hr'⟩ : ∃ r m,(K.runAll d2).run ⟨d1,[],[]⟩ = (r,m):=⟨_,_,rfl⟩
 have HS:Hid (Mp.Small m/\∀ a ∈ r,a.ok):=by have:=HW0.out.2.2;rw [hr] at this;exact this
 have HS':Hid (Mp.Small m'/\∀ a ∈ r',a.ok):=by have:=HW1.out.2.2;rw [hr'] at this;exact this
 have HR:=Lib.hid hr
 have HR':=Lib.hid hr'
 clear hr hr'
 obtain ⟨bb,hbb⟩ : ∃ bb,bb=restOf d0 d1 r m r' m':=⟨_,rfl⟩
 have HBB:=Lib.hid hbb
 clear hbb
 go_wp2_with fail
 (go_at_call 12;refine (laws_toCellS _ d0 _ (View.grow _ H0.out (Grew.below BW.out)) HL0.out).mono ?_;rintro e w4 ⟨u,fpA0,rfl,hf,hb⟩;obtain ⟨xA0,yA0,rfl⟩:=vSlice.form (View.toRd _ hf.own))
 have OO:=Lib.hid hf.own
 clear hf
 replace BW:=Lib.hid (Below.then BW.out hb)
 clear hb
 have OA0:=Lib.hid OO.out
 clear OO
 go_wp2_with fail
 (go_at_call 12;refine (laws_toCellS _ d1 _ (View.grow _ H1.out (Grew.below BW.out)) HL1.out).mono ?_;rintro e w5 ⟨u,fpA1,rfl,hf,hb⟩;obtain ⟨xA1,yA1,rfl⟩:=vSlice.form (View.toRd _ hf.own))
 have OO:=Lib.hid hf.own
 clear hf
 replace BW:=Lib.hid (Below.then BW.out hb)
 replace OA0:=Lib.hid (View.own_below OA0.out hb)
 clear hb
 have OA1:=Lib.hid OO.out
 clear OO
 go_wp2_with fail
 (go_at_call 35;refine (laws_toStepS _ d2 _ (View.grow _ H2.out (Grew.below BW.out)) HL2.out).mono ?_;rintro e w6 ⟨u,fpA2,rfl,hf,hb⟩;obtain ⟨xA2,yA2,rfl⟩:=vSlice.form (View.toRd _ hf.own))
 have OO:=Lib.hid hf.own
 clear hf
 replace BW:=Lib.hid (Below.then BW.out hb)
 replace OA0:=Lib.hid (View.own_below OA0.out hb)
 replace OA1:=Lib.hid (View.own_below OA1.out hb)
 clear hb
 have OA2:=Lib.hid OO.out
 clear OO
 have DS:=Lib.hid (spec_StepsRestOn _ _ _ d0 d1 d2 _ (rdl_of_own (R:=zu) rfl OA0.out) (rdl_of_own (R:=zu) rfl OA1.out) (rdl_of_own (R:=zjq) rfl OA2.out) HK0.out HK1.out HF.out HL0.out HL1.out HL2.out HW0.out.1 HW1.out.1 r r' m m' HR.out HR'.out HS.out.1 HS'.out.1 HS.out.2 HS'.out.2)
 rw [<- HBB.out] at DS
 go_wp2_with fail
 (go_at_call 34;refine (DS.out).mono ?_;rintro e w7 ⟨rfl,hb⟩)
 clear DS
 replace BW:=Lib.hid (Below.then BW.out hb)
 replace OA0:=Lib.hid (View.own_below OA0.out hb)
 replace OA1:=Lib.hid (View.own_below OA1.out hb)
 replace OA2:=Lib.hid (View.own_below OA2.out hb)
 clear hb
 clear OA0
 clear OA1
 clear OA2
 go_wp2_with fail
 (go_at_call 12;refine (laws_toCellS _ d0 _ (View.grow _ H0.out (Grew.below BW.out)) HL0.out).mono ?_;rintro e w8 ⟨u,fpK0,rfl,hf,hb⟩;obtain ⟨xK0,yK0,rfl⟩:=vSlice.form (View.toRd _ hf.own))
 have OO:=Lib.hid hf.own
 clear hf
 replace BW:=Lib.hid (Below.then BW.out hb)
 clear hb
 have OK0:=Lib.hid OO.out
 clear OO
 go_wp2_with fail
 (go_at_call 12;refine (laws_toCellS _ d1 _ (View.grow _ H1.out (Grew.below BW.out)) HL1.out).mono ?_;rintro e w9 ⟨u,fpK1,rfl,hf,hb⟩;obtain ⟨xK1,yK1,rfl⟩:=vSlice.form (View.toRd _ hf.own))
 have OO:=Lib.hid hf.own
 clear hf
 replace BW:=Lib.hid (Below.then BW.out hb)
 replace OK0:=Lib.hid (View.own_below OK0.out hb)
 clear hb
 have OK1:=Lib.hid OO.out
 clear OO
 go_wp2_with fail
 (go_at_call 35;refine (laws_toStepS _ d2 _ (View.grow _ H2.out (Grew.below BW.out)) HL2.out).mono ?_;rintro e w10 ⟨u,fpK2,rfl,hf,hb⟩;obtain ⟨xK2,yK2,rfl⟩:=vSlice.form (View.toRd _ hf.own))
 have OO:=Lib.hid hf.own
 clear hf
 replace BW:=Lib.hid (Below.then BW.out hb)
 replace OK0:=Lib.hid (View.own_below OK0.out hb)
 replace OK1:=Lib.hid (View.own_below OK1.out hb)
 clear hb
 have OK2:=Lib.hid OO.out
 clear OO
 have DS:=Lib.hid (impl_StepsRestOn _ _ _ d0 d1 d2 _ (HG.out.below BW.out) (rdl_of_own (R:=zu) rfl OK0.out) (rdl_of_own (R:=zu) rfl OK1.out) (rdl_of_own (R:=zjq) rfl OK2.out) HK0.out HK1.out HF.out HL0.out HL1.out HL2.out HW0.out.2.1 HW1.out.2.1 r r' m m' HR.out HR'.out HS.out.1 HS'.out.1 HS.out.2 HS'.out.2)
 rw [<- HBB.out] at DS
 go_wp2_with fail
 (go_at_call 36;refine (DS.out).mono ?_;rintro e w11 ⟨rfl,hb⟩)
 clear DS
 replace BW:=Lib.hid (Below.then BW.out hb)
 replace OK0:=Lib.hid (View.own_below OK0.out hb)
 replace OK1:=Lib.hid (View.own_below OK1.out hb)
 replace OK2:=Lib.hid (View.own_below OK2.out hb)
 clear hb
 have hne:(bb != bb)=false:=by cases bb<;>rfl
 go_wp2_with fail
 (go_at_call 12;refine (laws_toCellS _ d0 _ (View.grow _ H0.out (Grew.below BW.out)) HL0.out).mono ?_;rintro e w12 ⟨u,fpE,rfl,hf,hb⟩;obtain ⟨xE,yE,rfl⟩:=vSlice.form (View.toRd _ hf.own))
 have OO:=Lib.hid hf.own
 clear hf
 replace BW:=Lib.hid (Below.then BW.out hb)
 replace OK0:=Lib.hid (View.own_below OK0.out hb)
 replace OK1:=Lib.hid (View.own_below OK1.out hb)
 replace OK2:=Lib.hid (View.own_below OK2.out hb)
 clear hb
 have OE:=Lib.hid OO.out
 clear OO
 go_wp2_with fail
 (go_at_call 15;refine (laws_eqCellS _ _ d0 _ (View.toRd _ OK0.out) (View.toRd _ OE.out)).mono ?_;rintro e w13 ⟨rfl,hb⟩)
 replace BW:=Lib.hid (Below.then BW.out hb)
 replace OK0:=Lib.hid (View.own_below OK0.out hb)
 replace OK1:=Lib.hid (View.own_below OK1.out hb)
 replace OK2:=Lib.hid (View.own_below OK2.out hb)
 replace OE:=Lib.hid (View.own_below OE.out hb)
 clear hb
 clear OE
 go_wp2_with fail
 (go_at_call 12;refine (laws_toCellS _ d1 _ (View.grow _ H1.out (Grew.below BW.out)) HL1.out).mono ?_;rintro e w14 ⟨u,fpE,rfl,hf,hb⟩;obtain ⟨xE,yE,rfl⟩:=vSlice.form (View.toRd _ hf.own))
 have OO:=Lib.hid hf.own
 clear hf
 replace BW:=Lib.hid (Below.then BW.out hb)
 replace OK0:=Lib.hid (View.own_below OK0.out hb)
 replace OK1:=Lib.hid (View.own_below OK1.out hb)
 replace OK2:=Lib.hid (View.own_below OK2.out hb)
 clear hb
 have OE:=Lib.hid OO.out
 clear OO
 go_wp2_with fail
 (go_at_call 15;refine (laws_eqCellS _ _ d1 _ (View.toRd _ OK1.out) (View.toRd _ OE.out)).mono ?_;rintro e w15 ⟨rfl,hb⟩)
 replace BW:=Lib.hid (Below.then BW.out hb)
 replace OK0:=Lib.hid (View.own_below OK0.out hb)
 replace OK1:=Lib.hid (View.own_below OK1.out hb)
 replace OK2:=Lib.hid (View.own_below OK2.out hb)
 replace OE:=Lib.hid (View.own_below OE.out hb)
 clear hb
 clear OE
 go_wp2_with fail
 (go_at_call 35;refine (laws_toStepS _ d2 _ (View.grow _ H2.out (Grew.below BW.out)) HL2.out).mono ?_;rintro e w16 ⟨u,fpE,rfl,hf,hb⟩;obtain ⟨xE,yE,rfl⟩:=vSlice.form (View.toRd _ hf.own))
 have OO:=Lib.hid hf.own
 clear hf
 replace BW:=Lib.hid (Below.then BW.out hb)
 replace OK0:=Lib.hid (View.own_below OK0.out hb)
 replace OK1:=Lib.hid (View.own_below OK1.out hb)
 replace OK2:=Lib.hid (View.own_below OK2.out hb)
 clear hb
 have OE:=Lib.hid OO.out
 clear OO
 go_wp2_with fail
 (go_at_call 37;refine (laws_eqStepS _ _ d2 _ (View.toRd _ OK2.out) (View.toRd _ OE.out)).mono ?_;rintro e w17 ⟨rfl,hb⟩)
 replace BW:=Lib.hid (Below.then BW.out hb)
 replace OK0:=Lib.hid (View.own_below OK0.out hb)
 replace OK1:=Lib.hid (View.own_below OK1.out hb)
 replace OK2:=Lib.hid (View.own_below OK2.out hb)
 replace OE:=Lib.hid (View.own_below OE.out hb)
 clear hb
 clear OE
 go_wp2
 go_ret
 exact ⟨rfl,BW.out⟩
end Go.Proofs.YtgcmnkkakngifaaGreatDoor
