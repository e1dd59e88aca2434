/- Texts of this claim, merged: the walks and what they stand on. Each condition stands in its theorem. -/
import Derived.Deep.Slices
import Derived.Lib.SmallJoins
import Derived.Test.YtgcmnkkakngifaaGreatDoorCA29
import Derived.Test.YtgcmnkkakngifaaGreatDoorTR3
set_option linter.unusedVariables false
set_option linter.unusedSimpArgs false
set_option maxRecDepth 100000
set_option maxHeartbeats 8000000
namespace Go.Proofs.YtgcmnkkakngifaaGreatDoor
open Go.ChangeShapes Go.WideShapes Go.ChangeAt Go.RowKit
def rightOf (ans:List AnswerD) (m:MachD) (d:TxD):Bool:=sameL eqAnswer ans d.answers && (allInS m.rd d.touch.reads && allInS m.wr d.touch.writes)
theorem rdS_of {w:World} {v:Value} {xs:List ByteArray} (h:RdL zx w v xs) (hz:∀ s ∈ xs,s.size<=8388608):RdS w v xs:=RdS.ofL h (fun s hs=>Nat.le_trans (hz s hs) (by decide))
theorem spec_TxRight (v:Value) (ct:List Value) (zs:List CellD) (d:TxD) (w:World) (h:RdL zu w v zs) (ht:vTx.rd w ct d) (hf:∀ s ∈ stepsOf d,s.fine) (hl:zs.length<=1048576) (hl2:d.calls.length<=1048576) (hfit:zfL (stepsOf d) ⟨zs,[],[]⟩) (ans:List AnswerD) (m:MachD) (hr:(K.runAll (stepsOf d)).run ⟨zs,[],[]⟩ = (ans,m)) (hsm:Mp.Small m) (hok:∀ a ∈ ans,a.ok) :
  Calls Tryz.prog 11 #[v,.agg ct.toArray] w fun e w'=>e = .returned (.bool (rightOf ans m d))/\Below w.heap.size w w':=by
 have D1:=Lib.hid (fun w' (hb:Below w.heap.size w w')=>spec_TxSteps ct d w' (View.grow _ ht (Grew.below hb)) hl2)
 have D2:=Lib.hid (fun w' vs (hb:Below w.heap.size w w') hs=>spec_l15Run v vs zs (stepsOf d) w' (h.below hb) hs hf hl (by rw [stepsOf_len];exact hl2) hfit)
 rw [hr] at D2
 dsimp only at D2
 have HSM:=Lib.hid hsm
 have HOK:=Lib.hid hok
 obtain ⟨s0,s1,s2,s3,s4,rfl,t0,t1,t2,t3,t4⟩:=ht
 obtain ⟨a0,c0,rfl⟩:=vSlice.form t0
 obtain ⟨a1,c1,rfl⟩:=vSlice.form t1
 obtain ⟨a2,c2,rfl⟩:=vSlice.form t2
 obtain ⟨a3,c3,rfl⟩:=vSlice.form t3
 obtain ⟨a4,c4,rfl⟩:=vSlice.form t4
 obtain ⟨az,cz,rfl⟩:=h.form
 have T1:=Lib.hid t1
 have T2:=Lib.hid t2
 have T3:=Lib.hid t3
 clear hr h t0 t1 t2 t3 t4 hf hfit hsm hok
 go_enter Tryz.func11,Tryz.ntmps11
 (repeat (first|go_skip|go_guarded|go_step|go_upon|go_back))
 (go_at_call 44;refine (D1.out _ (by repeat (first|with_reducible exact Below.refl _ _|with_reducible apply Below.ofAlloc))).mono ?_;rintro e w1 ⟨vs,fp,rfl,ho,hb⟩)
 obtain ⟨xs1,ys1,rfl⟩:=vSlice.form (View.toRd _ ho.own)
 have HO:=Lib.hid (rdl_of_own (R:=zjq) rfl ho.own)
 have HB:Hid (Below w.heap.size w w1):=Below.then (by repeat (first|with_reducible exact Below.refl _ _|with_reducible apply Below.ofAlloc)) hb
 have HBX:=Lib.hid hb
 clear ho hb
 ((try simp only []);repeat (first|go_skip|go_guarded|go_step|go_upon|go_back))
 (go_at_call 43;refine (D2.out _ _ HB.out HO.out).mono ?_;rintro e w2 ⟨v0,v1,v2,v3,rfl,h0,h1,h2,h3,hb⟩)
 obtain ⟨b0,d0,rfl⟩:=h0.form
 obtain ⟨b1,d1,rfl⟩:=h1.form
 obtain ⟨b2,d2,rfl⟩:=h2.form
 obtain ⟨b3,d3,rfl⟩:=h3.form
 have H1:Hid ((vSlice vAnswer 98).rd w2 _ ans):=rd_of_RdL rfl rfl (by decide) h1 HOK.out
 have H2:=Lib.hid (rdS_of h2 HSM.out.rz)
 have H3:=Lib.hid (rdS_of h3 HSM.out.wz)
 have HB2:=Lib.hid (Below.then HB.out hb)
 have X1:=Lib.hid (View.grow _ T1.out (Grew.below HB2.out))
 have X2:=Lib.hid (RdS.ofRd (View.grow _ T2.out (Grew.below HB2.out)))
 have X3:=Lib.hid (RdS.ofRd (View.grow _ T3.out (Grew.below HB2.out)))
 obtain ⟨⟨z,y⟩,rfl⟩:=(Below.then HBX.out hb).ext
 clear h0 h1 h2 h3 hb D1 D2 HBX HO HB
 ((try simp only []);repeat (first|go_skip|go_guarded|go_step|go_upon|go_back))
 (go_at_call 45;refine (spec_SameAnswers _ ans _ d.answers _ (by repeat (first|with_reducible exact H1.out|with_reducible apply View.rdAlloc)) (by repeat (first|with_reducible exact X1.out|with_reducible apply View.rdAlloc))).mono ?_;rintro e w' ⟨rfl,hb⟩;obtain ⟨X,rfl⟩:=hb.ext;clear hb)
 cases qa:sameL eqAnswer ans d.answers with
 | false =>
  ((try simp only []);repeat (first|go_skip|go_guarded|go_step|go_upon|go_back))
  refine bodyPost_ret (by simp [results,Tryz.results11,go_sem];rfl) rfl ?_
  exact ⟨by unfold rightOf;rw [qa];rfl,(by repeat (first|with_reducible exact HB2.out|with_reducible apply Below.ofExt|with_reducible apply Below.ofAlloc))⟩
 | true =>
  ((try simp only []);repeat (first|go_skip|go_guarded|go_step|go_upon|go_back))
  (go_at_call 46;refine (spec_Within _ _ m.rd d.touch.reads _ (by repeat (first|with_reducible exact H2.out|with_reducible apply RdS.ext|with_reducible apply RdS.alloc)) (by repeat (first|with_reducible exact X2.out|with_reducible apply RdS.ext|with_reducible apply RdS.alloc))).mono ?_;rintro e w' ⟨rfl,hb⟩;obtain ⟨X,rfl⟩:=hb.ext;clear hb)
  cases qb:allInS m.rd d.touch.reads with
  | false =>
   ((try simp only []);repeat (first|go_skip|go_guarded|go_step|go_upon|go_back))
   refine bodyPost_ret (by simp [results,Tryz.results11,go_sem];rfl) rfl ?_
   exact ⟨by unfold rightOf;rw [qa,qb];rfl,(by repeat (first|with_reducible exact HB2.out|with_reducible apply Below.ofExt|with_reducible apply Below.ofAlloc))⟩
  | true =>
   ((try simp only []);repeat (first|go_skip|go_guarded|go_step|go_upon|go_back))
   (go_at_call 46;refine (spec_Within _ _ m.wr d.touch.writes _ (by repeat (first|with_reducible exact H3.out|with_reducible apply RdS.ext|with_reducible apply RdS.alloc)) (by repeat (first|with_reducible exact X3.out|with_reducible apply RdS.ext|with_reducible apply RdS.alloc))).mono ?_;rintro e w' ⟨rfl,hb⟩;obtain ⟨X,rfl⟩:=hb.ext;clear hb)
   ((try simp only []);repeat (first|go_skip|go_guarded|go_step|go_upon|go_back))
   refine bodyPost_ret (by simp [results,Tryz.results11,go_sem];rfl) rfl ?_
   exact ⟨by unfold rightOf;rw [qa,qb];rfl,(by repeat (first|with_reducible exact HB2.out|with_reducible apply Below.ofExt|with_reducible apply Below.ofAlloc))⟩
theorem impl_TxRight (v:Value) (ct:List Value) (zs:List CellD) (d:TxD) (w:World) (hg:Glob w) (h:RdL zu w v zs) (ht:vTx.rd w ct d) (hf:∀ s ∈ stepsOf d,s.fine) (hl:zs.length<=1048576) (hl2:d.calls.length<=1048576) (hfit:(K.runAll (stepsOf d)).fits ⟨zs,[],[]⟩) (ans:List AnswerD) (m:MachD) (hr:(K.runAll (stepsOf d)).run ⟨zs,[],[]⟩ = (ans,m)) (hsm:Mp.Small m) (hok:∀ a ∈ ans,a.ok) :
  Calls Tryz.prog 14 #[v,.agg ct.toArray] w fun e w'=>e = .returned (.bool (rightOf ans m d))/\Below w.heap.size w w':=by
 have D0:=Lib.hid (fun w' (hb:Below w.heap.size w w')=>impl_MachOf v zs w' (h.below hb) (by omega))
 have D1:=Lib.hid (fun w' (hb:Below w.heap.size w w')=>impl_TxSteps ct d w' (View.grow _ ht (Grew.below hb)) hl2)
 have D2:=Lib.hid (fun w0 w1 fp p vs (H:IM w0 w1 p fp ⟨zs,[],[]⟩) hs hd=>zjL vs (stepsOf d) hf (by rw [stepsOf_len];exact hl2) w0 w1 fp p ⟨zs,[],[]⟩ H hs hd hfit)
 rw [hr] at D2
 dsimp only at D2
 have HSM:=Lib.hid hsm
 have HOK:=Lib.hid hok
 have HG:=Lib.hid hg
 obtain ⟨s0,s1,s2,s3,s4,rfl,t0,t1,t2,t3,t4⟩:=ht
 obtain ⟨a0,c0,rfl⟩:=vSlice.form t0
 obtain ⟨a1,c1,rfl⟩:=vSlice.form t1
 obtain ⟨a2,c2,rfl⟩:=vSlice.form t2
 obtain ⟨a3,c3,rfl⟩:=vSlice.form t3
 obtain ⟨a4,c4,rfl⟩:=vSlice.form t4
 obtain ⟨az,cz,rfl⟩:=h.form
 have T1:=Lib.hid t1
 have T2:=Lib.hid t2
 have T3:=Lib.hid t3
 clear hr h t0 t1 t2 t3 t4 hf hfit hsm hok hg
 go_enter Tryz.func14,Tryz.ntmps14
 (repeat (first|go_skip|go_guarded|go_step|go_upon|go_back))
 (go_at_call 52;refine (D0.out _ (by repeat (first|with_reducible exact Below.refl _ _|with_reducible apply Below.ofAlloc))).mono ?_;rintro e w1 ⟨ma,mc,rfl,ho,hb⟩)
 have HO:=Lib.hid ho
 have HB:=Lib.hid hb
 have hA0:Below w.heap.size w (w.alloc (.cells #[.int .i64 d.id,.int .i64 d.age,.int .i64 d.proc,.int .i64 d.began,.slice a0 d.calls.length c0,.slice a1 d.answers.length c1,.slice a2 d.touch.reads.length c2,.slice a3 d.touch.writes.length c3,.slice a4 d.marks.length c4,.int .i64 d.state] 40)):=(by repeat (first|with_reducible exact Below.refl _ _|with_reducible apply Below.ofAlloc))
 have HA0:=Lib.hid hA0
 have hsz:=hb.size
 have AB:=(Grew.below hb w.heap.size (by simp)).trans (heap_alloc_new w _)
 have e1:=zf AB
 have y:=za AB
 rw [<- e1]
 have E1:=Lib.hid e1
 clear ho hb e1 AB hA0
 ((try simp only []);repeat (first|go_skip|go_guarded|go_step|go_upon|go_back))
 rw [E1.out]
 have hM:IM (w.alloc (.cells #[.int .i64 d.id,.int .i64 d.age,.int .i64 d.proc,.int .i64 d.began,.slice a0 d.calls.length c0,.slice a1 d.answers.length c1,.slice a2 d.touch.reads.length c2,.slice a3 d.touch.writes.length c3,.slice a4 d.marks.length c4,.int .i64 d.state] 40)) (w1.alloc (.cells #[.slice ma zs.length mc,.slice none 0 0,.slice none 0 0] 85)) w1.heap.size (w1.heap.size :: (Value.slice ma zs.length mc).ownBlock.toList) ⟨zs,[],[]⟩:=by
  refine ⟨⟨ma,mc,none,0,none,0,heap_alloc_new w1 _,HO.out.alloc _,OwnL.nil zx _ _ _,OwnL.nil zx _ _ _,(fun k hk=>by cases hk),(fun k hk=>?_),(fun k hk=>by cases hk),(fun k hk=>by cases hk)⟩,List.mem_cons_self,(fun b hb=>?_),(fun b hb=>?_),HB.out.ofAlloc _,HG.out.below HA0.out⟩
  ·simp only [List.mem_cons,Option.mem_toList];exact .inr hk
  ·simp only [List.mem_cons,Option.mem_toList] at hb
   rcases hb with rfl|hb
   ·exact hsz
   ·exact (HO.out.lt b hb).1
  ·simp only [List.mem_cons,Option.mem_toList] at hb
   rcases hb with rfl|hb
   ·simp
   ·have:=(HO.out.lt b hb).2;simp;omega
 have HM:=Lib.hid hM
 clear hM
 (go_at_call 54;refine (D1.out _ (Below.then HA0.out (HB.out.ofAlloc _))).mono ?_;rintro e w2 ⟨vs,fs,rfl,ho,hb⟩)
 obtain ⟨xs1,ys1,rfl⟩:=vSlice.form (View.toRd _ ho.own)
 have HS:=Lib.hid (rdl_of_own (R:=zjq) rfl ho.own)
 have HD:Hid (stepsOf d ≠ []->∀ b off n c,Value.slice xs1 (stepsOf d).length ys1 = .slice (some ⟨b,off,none⟩) n c->b ∉ w1.heap.size :: (Value.slice ma zs.length mc).ownBlock.toList):=Lib.hid (by
  intro _ b off n c e hx
  have ho':=ho.own
  rw [e] at ho'
  have h1:=ho.lo b (own_block ho')
  have h2:=HM.out.hi b hx
  exact absurd h1 (Nat.not_le.2 h2))
 have HM2:=Lib.hid (HM.out.below hb)
 clear ho hb HM HO HB E1 y D1 D0
 ((try simp only []);repeat (first|go_skip|go_guarded|go_step|go_upon|go_back))
 (go_at_call 53;refine (D2.out _ _ _ _ _ HM2.out HS.out HD.out).mono ?_;rintro e w3 ⟨vo,rfl,fp2,hm,ht,hk⟩)
 obtain ⟨oa,oc,rfl⟩:=hk.1.rd.form
 have H1:Hid ((vSlice vAnswer 98).rd w3 _ ans):=rd_of_RdL rfl rfl (by decide) hk.1.rd HOK.out
 obtain ⟨⟨n0,g0,n1,g1,n2,g2,hp,o0,o1,o2,_⟩,_,_,_,bel,_⟩:=hm
 have H2:=Lib.hid (rdS_of o1.rd HSM.out.rz)
 have H3:=Lib.hid (rdS_of o2.rd HSM.out.wz)
 have HB3:=Lib.hid (Below.then HA0.out bel)
 have X1:=Lib.hid (View.grow _ T1.out (Grew.below HB3.out))
 have X2:=Lib.hid (View.grow _ T2.out (Grew.below HB3.out))
 have X3:=Lib.hid (View.grow _ T3.out (Grew.below HB3.out))
 have ab:=(Grew.below bel w.heap.size (by simp)).trans (heap_alloc_new w _)
 have r1:w3.cell? ⟨w.heap.size,5,none⟩ = some (.slice a1 d.answers.length c1):=(zd (i:=5) ab).trans rfl
 have r2:w3.cell? ⟨w.heap.size,6,none⟩ = some (.slice a2 d.touch.reads.length c2):=(zd (i:=6) ab).trans rfl
 have r3:w3.cell? ⟨w.heap.size,7,none⟩ = some (.slice a3 d.touch.writes.length c3):=(zd (i:=7) ab).trans rfl
 have q1:w3.cell? ⟨w1.heap.size,1,none⟩ = some (.slice n1 m.rd.length g1):=(zd (i:=1) hp).trans rfl
 have q2:w3.cell? ⟨w1.heap.size,2,none⟩ = some (.slice n2 m.wr.length g2):=(zd (i:=2) hp).trans rfl
 have hpl:=za hp
 have hal:=za ab
 clear hk hp ab o0 o1 o2 bel ht D2 HM2 HS HD
 ((try simp only []);repeat (first|go_skip|go_guarded|go_step|go_upon|go_back))
 (go_at_call 55;refine (impl_SameAnswers _ ans _ d.answers _ (by repeat (with_reducible exact H1.out)) (by repeat (with_reducible exact X1.out))).mono ?_;rintro e w' ⟨rfl,hb⟩;obtain ⟨X,rfl⟩:=hb.ext;clear hb)
 cases qa:sameL eqAnswer ans d.answers with
 | false =>
  ((try simp only []);repeat (first|go_skip|go_guarded|go_step|go_upon|go_back))
  refine bodyPost_ret (by simp [results,Tryz.results14,go_sem];rfl) rfl ?_
  exact ⟨by unfold rightOf;rw [qa];rfl,(by repeat (first|with_reducible exact HB3.out|with_reducible apply Below.ofExt|with_reducible apply Below.ofAlloc))⟩
 | true =>
  ((try simp only []);repeat (first|go_skip|go_guarded|go_step|go_upon|go_back))
  (go_at_call 56;refine (impl_allIn _ _ m.rd d.touch.reads _ (by repeat (first|with_reducible exact H2.out|with_reducible apply RdS.ext)) (by repeat (first|with_reducible exact X2.out|with_reducible apply View.rdExt))).mono ?_;rintro e w' ⟨rfl,hb⟩;obtain ⟨X,rfl⟩:=hb.ext;clear hb)
  cases qb:allInS m.rd d.touch.reads with
  | false =>
   ((try simp only []);repeat (first|go_skip|go_guarded|go_step|go_upon|go_back))
   refine bodyPost_ret (by simp [results,Tryz.results14,go_sem];rfl) rfl ?_
   exact ⟨by unfold rightOf;rw [qa,qb];rfl,(by repeat (first|with_reducible exact HB3.out|with_reducible apply Below.ofExt|with_reducible apply Below.ofAlloc))⟩
  | true =>
   ((try simp only []);repeat (first|go_skip|go_guarded|go_step|go_upon|go_back))
   (go_at_call 56;refine (impl_allIn _ _ m.wr d.touch.writes _ (by repeat (first|with_reducible exact H3.out|with_reducible apply RdS.ext)) (by repeat (first|with_reducible exact X3.out|with_reducible apply View.rdExt))).mono ?_;rintro e w' ⟨rfl,hb⟩;obtain ⟨X,rfl⟩:=hb.ext;clear hb)
   ((try simp only []);repeat (first|go_skip|go_guarded|go_step|go_upon|go_back))
   refine bodyPost_ret (by simp [results,Tryz.results14,go_sem];rfl) rfl ?_
   exact ⟨by unfold rightOf;rw [qa,qb];rfl,(by repeat (first|with_reducible exact HB3.out|with_reducible apply Below.ofExt))⟩
end Go.Proofs.YtgcmnkkakngifaaGreatDoor
namespace Go
open Go.RowKit Go.ChangeShapes Go.WideShapes Go.Deep
def Opens {α : Type} (P:Program) (T:TypeId) (V:View α):Prop:=∀ (H:Type) (enc:TypeId × Value->H) (w:World) (fuel:Nat) {cs:List Value} {x:DataW H × List MemPlace},
 DataW.trod enc P w 0 (fun _=>true) true fuel T cs=some x->∃ d,V.rd w cs d
theorem opensInt {P:Program} {T:TypeId} (ht:P.underlying T=some (.int .i64)):Opens P T vInt:=by
 intro H enc w fuel cs x h
 obtain ⟨n,rfl,_⟩:=DataW.trod_int ht h
 exact ⟨n,rfl,trivial⟩
theorem opensStr {P:Program} {T:TypeId} (ht:P.underlying T=some .string):Opens P T vStr:=by
 intro H enc w fuel cs x h
 obtain ⟨n,rfl,_,hz⟩:=DataW.trod_string ht h
 exact ⟨n,rfl,hz⟩
theorem flat_cells {k:Nat} (w:World) (b:Nat):∀ (css:List (List Value)) (off:Nat),(∀ i (hc:i < css.length),(css[i]).length=k) ->
  (∀ i (hc:i < css.length) (j:Nat),j < k->w.cell? ⟨b,off + i * k + j,none⟩ = css[i][j]?)->∀ j u,css.flatten[j]?=some u->w.cell? ⟨b,off + j,none⟩ = some u
 | [],_,_,_,j,u,h=>by simp at h
 | c :: r,off,hl,hc,j,u,h=>by
  have h0:c.length=k:=hl 0 (by simp)
  rw [List.flatten_cons] at h
  by_cases hj:j < k
  ·rw [List.getElem?_append_left (by omega)] at h
   have:=hc 0 (by simp) j hj
   rw [Nat.zero_mul,Nat.add_zero] at this
   rw [this]
   exact h
  ·rw [List.getElem?_append_right (by omega),h0] at h
   have:=flat_cells w b r (off + k) (fun i hi=>by have:=hl (i + 1) (by simpa using hi);rwa [List.getElem_cons_succ] at this) (fun i hi q hq=>by
    have:=hc (i + 1) (by simpa using hi) q hq
    rw [List.getElem_cons_succ] at this
    rw [<- this]
    congr 2
    rw [Nat.add_mul]
    omega) (j - k) u h
   rw [<- this]
   congr 2
   omega
theorem add_none (b o n:Nat):(⟨b,o,none⟩ : Addr).add n = ⟨b,o + n,none⟩:=zbw b o n
theorem opens_slice {α : Type} {P:Program} {T E:TypeId} {V:View α} {e:TypeId} (ht:P.underlying T=some (.slice E)) (hc:P.cellsOf E=V.k) (hk : 0 < V.k) (hE:Opens P E V):Opens P T (vSlice V e):=by
 intro H enc w fuel cs x h
 rcases open_slice ht h with ⟨rfl,_⟩|⟨a,len,cap,m,n,D,Pl,rfl,_,hl,hm,hmm,_,hi⟩
 ·exact ⟨[],none,0,[],rfl,Nat.le_refl _,Nat.zero_le _,fun _=>rfl,rfl,fun i hi=>absurd hi (by simp),fun h=>absurd rfl h⟩
 ·have hmm2:cap=m:=hmm.symm
  subst hmm2
  have hi:∀ i,i < cap->∃ cs',w.cells? 0 (a.add (i * P.cellsOf E)) (P.cellsOf E)=some cs'/\DataW.trod enc P w 0 (fun _=>true) true n E cs'=some (D i,Pl i):=hi
  have hex:∀ i,∃ cs':List Value,∃ d:Option α,i < len->cs'.length=V.k/\(∀ j,j < V.k->w.cell? ((a.add (i * V.k)).add j)=cs'[j]?)/\∃ d',d=some d'/\V.rd w cs' d':=by
   intro i
   by_cases hlt:i < len
   ·obtain ⟨cs',h1,h2⟩:=hi i (by omega)
    rw [hc] at h1
    obtain ⟨_,h3,h4⟩:=World.cells?_some h1
    obtain ⟨d,hd⟩:=hE _ _ _ _ h2
    exact ⟨cs',some d,fun _=>⟨h3,h4,d,rfl,hd⟩⟩
   ·exact ⟨[],none,fun h=>absurd h hlt⟩
  have hex2:∃ (f:Nat->List Value) (g:Nat->Option α),∀ i,i < len->(f i).length=V.k/\(∀ j,j < V.k->w.cell? ((a.add (i * V.k)).add j)=(f i)[j]?)/\∃ d',g i=some d'/\V.rd w (f i) d' :=
   ⟨fun i=>(hex i).choose,fun i=>(hex i).choose_spec.choose,fun i=>(hex i).choose_spec.choose_spec⟩
  obtain ⟨f,g,hfg⟩:=hex2
  by_cases hz:len=0
  ·subst hz
   exact ⟨[],some a,cap,[],rfl,Nat.zero_le _,hm,(fun h=>by cases h),rfl,fun i hi=>absurd hi (by simp),fun h=>absurd rfl h⟩
  ·have h0:=(hfg 0 (by omega))
   have hd0:∃ d0 : α,True:=by obtain ⟨_,_,d,_⟩:=h0;exact ⟨d,trivial⟩
   obtain ⟨d0,_⟩:=hd0
   obtain ⟨b,off,sp⟩:=a
   have hsp:sp=none:=by
    cases sp with
    | none=>rfl
    | some q =>
     have h2:=h0.2.1 0 hk
     rw [Nat.zero_mul] at h2
     have h3:(f 0)[0]?=some ((f 0)[0]'(by rw [h0.1];exact hk)):=List.getElem?_eq_getElem _
     rw [h3] at h2
     have e:((⟨b,off,some q⟩ : Addr).add 0).add 0 = ⟨b,off,some q⟩:=by simp [Addr.add]
     rw [e] at h2
     unfold World.cell? at h2
     simp only [Option.isSome_some,if_true] at h2
     split at h2<;>cases h2
   subst hsp
   refine ⟨(List.range len).map fun i=>(g i).getD d0,some ⟨b,off,none⟩,cap,(List.range len).map f,by simp,by simpa using hl,hm,(fun h=>by cases h),by simp,?_,fun _=>⟨b,off,rfl,?_,?_⟩⟩
   ·intro i hi hci
    simp only [List.length_map,List.length_range] at hi hci
    obtain ⟨_,_,d',hd',hr⟩:=hfg i hi
    simp only [List.getElem_map,List.getElem_range,hd',Option.getD_some]
    exact hr
   ·have h2:=h0.2.1 0 hk
    obtain ⟨u,hu⟩ : ∃ u,(f 0)[0]?=some u:=⟨_,List.getElem?_eq_getElem (by rw [h0.1];exact hk)⟩
    rw [hu,add_none,add_none] at h2
    exact World.block_lt_of_cell? w _ h2
   ·refine flat_cells (k:=V.k) w b _ off (fun i hci=>?_) (fun i hci j hj=>?_)
    ·simp only [List.length_map,List.length_range] at hci
     simpa using (hfg i hci).1
    ·simp only [List.length_map,List.length_range] at hci
     have:=(hfg i hci).2.1 j hj
     rw [add_none,add_none] at this
     simpa using this
theorem open_agg {α : Type} {P:Program} {T:TypeId} {V:View α} {fs:Array Field} (hs:P.underlying T=some (.struct fs)) (hO:Opens P T V) {H:Type} {enc:TypeId × Value->H} {W:World} {base:Nat} {v:Value} {d:DataW H} {p:List MemPlace}
  (hv:Value.okWide P W .any base T v) (h:DataW.Trod enc P W 0 (fun _=>true) true T v d p):∃ (cs:List Value) (x : α),v = .agg cs.toArray/\V.rd W cs x:=by
 obtain ⟨cs,rfl,_⟩:=okWide_struct hs hv
 obtain ⟨fuel,hf⟩:=h
 obtain ⟨x,hx⟩:=hO _ _ _ _ hf
 exact ⟨cs.toList,x,by simp,hx⟩
theorem open_sl {α : Type} {P:Program} {T E e:TypeId} {V:View α} (hs:P.underlying T=some (.slice E)) (hO:Opens P T (vSlice V e)) {H:Type} {enc:TypeId × Value->H} {W:World} {base:Nat} {v:Value} {d:DataW H} {p:List MemPlace}
  (hv:Value.okWide P W .any base T v) (h:DataW.Trod enc P W 0 (fun _=>true) true T v d p):∃ x,(vSlice V e).rd W [v] x:=by
 obtain ⟨a,len,cap,rfl⟩:=okWide_slice hs hv
 obtain ⟨fuel,hf⟩:=h
 exact hO _ _ _ _ hf
end Go
namespace Go.Proofs.YtgcmnkkakngifaaGreatDoor
open Go.ChangeShapes Go.WideShapes Go.ChangeAt Go.RowKit
theorem opens_int:Opens Tryz.prog 3 vInt:=opensInt Tryz.underlying3
def vIntR:View Int:=vRow (fun n=>[.int .i64 n]) 1 InR (fun _=>rfl) (by simp [Value.oneCell'])
def vCallR:View CallD:=vRow CallD.row 6 (fun d=>d.ok/\InR d.a/\InR d.b) (fun _=>rfl) (fun d u hu=>by simp [CallD.row] at hu;rcases hu with rfl|rfl|rfl|rfl|rfl|rfl<;>rfl)
theorem opens_intR:Opens Tryz.prog 3 vIntR:=by
 intro H enc w fuel cs x h
 obtain ⟨n,rfl,_,hw⟩:=DataW.trod_int Tryz.underlying3 h
 refine ⟨n,rfl,?_⟩
 simp [Lit.wf,IntKind.min,IntKind.max,IntKind.signed,IntKind.bits] at hw
 exact ⟨by omega,by omega⟩
theorem slice_row {α : Type} {row : α->List Value} {k:Nat} {ok ok' : α->Prop} {hk:∀ d,(row d).length=k} {h1:∀ d,∀ u ∈ row d,u.oneCell'=true} {e:TypeId} {w:World} {cs:List Value} {ds:List α} (h:(vSlice (vRow row k ok hk h1) e).rd w cs ds) (hi:∀ d,ok d->ok' d) :
  (vSlice (vRow row k ok' hk h1) e).rd w cs ds:=by
 obtain ⟨ao,cap,css,e,h1,h2,h3,h4,h5,h6⟩:=h
 exact ⟨ao,cap,css,e,h1,h2,h3,h4,fun i hi' hc=>⟨(h5 i hi' hc).1,hi _ (h5 i hi' hc).2⟩,h6⟩
theorem slice_ok {α : Type} {row : α->List Value} {k:Nat} {ok : α->Prop} {hk:∀ d,(row d).length=k} {h1:∀ d,∀ u ∈ row d,u.oneCell'=true} {e:TypeId} {w:World} {cs:List Value} {ds:List α} (h:(vSlice (vRow row k ok hk h1) e).rd w cs ds):∀ d ∈ ds,ok d:=by
 obtain ⟨ao,cap,css,e,h1,h2,h3,h4,h5,h6⟩:=h
 intro d hd
 obtain ⟨i,hi,rfl⟩:=List.getElem_of_mem hd
 exact (h5 i hi (by omega)).2
theorem opens_str:Opens Tryz.prog 9 vStr:=opensStr Tryz.underlying9
theorem Tryz.cellsLCall:Tryz.prog.cellsOf 49=6:=by kernel_rfl
theorem opens_CallR:Opens Tryz.prog 49 vCallR:=by
 intro H enc w fuel cs x h
 obtain ⟨xs,n,_,_,hl,hxl,hf⟩:=DataW.trod_struct Tryz.underlying49 h
 rw [Tryz.cellsLCall] at hl
 match cs,hl with
 | [c0,c1,c2,c3,c4,c5],_ =>
  match xs,hxl with
  | [y0,y1,y2,y3,y4,y5],_ =>
   have h0:DataW.trod enc Tryz.prog w 0 (fun _=>true) true n 3 [c0]=some y0:=by
    have:=hf 0 _ rfl
    rw [show Tryz.prog.cellsOf _=1 by kernel_rfl] at this
    exact this
   have h1:DataW.trod enc Tryz.prog w 0 (fun _=>true) true n 9 [c1]=some y1:=by
    have:=hf 1 _ rfl
    rw [show Tryz.prog.cellsOf _=1 by kernel_rfl] at this
    exact this
   have h2:DataW.trod enc Tryz.prog w 0 (fun _=>true) true n 9 [c2]=some y2:=by
    have:=hf 2 _ rfl
    rw [show Tryz.prog.cellsOf _=1 by kernel_rfl] at this
    exact this
   have h3:DataW.trod enc Tryz.prog w 0 (fun _=>true) true n 3 [c3]=some y3:=by
    have:=hf 3 _ rfl
    rw [show Tryz.prog.cellsOf _=1 by kernel_rfl] at this
    exact this
   have h4:DataW.trod enc Tryz.prog w 0 (fun _=>true) true n 3 [c4]=some y4:=by
    have:=hf 4 _ rfl
    rw [show Tryz.prog.cellsOf _=1 by kernel_rfl] at this
    exact this
   have h5:DataW.trod enc Tryz.prog w 0 (fun _=>true) true n 9 [c5]=some y5:=by
    have:=hf 5 _ rfl
    rw [show Tryz.prog.cellsOf _=1 by kernel_rfl] at this
    exact this
   obtain ⟨d0,e0,_⟩:=opens_int _ _ _ _ h0
   obtain ⟨d1,e1,z1⟩:=opens_str _ _ _ _ h1
   obtain ⟨d2,e2,z2⟩:=opens_str _ _ _ _ h2
   obtain ⟨d3,e3,z3⟩:=opens_intR _ _ _ _ h3
   obtain ⟨d4,e4,z4⟩:=opens_intR _ _ _ _ h4
   obtain ⟨d5,e5,z5⟩:=opens_str _ _ _ _ h5
   simp only [List.cons.injEq,and_true] at e0
   subst e0
   simp only [List.cons.injEq,and_true] at e1
   subst e1
   simp only [List.cons.injEq,and_true] at e2
   subst e2
   simp only [List.cons.injEq,and_true] at e3
   subst e3
   simp only [List.cons.injEq,and_true] at e4
   subst e4
   simp only [List.cons.injEq,and_true] at e5
   subst e5
   exact ⟨⟨d0,d1,d2,d3,d4,d5⟩,rfl,⟨⟨z1,z2,z5⟩,z3,z4⟩⟩
theorem Tryz.cellsLCell:Tryz.prog.cellsOf 68=2:=by kernel_rfl
theorem opens_Cell:Opens Tryz.prog 68 zfN:=by
 intro H enc w fuel cs x h
 obtain ⟨xs,n,_,_,hl,hxl,hf⟩:=DataW.trod_struct Tryz.underlying68 h
 rw [Tryz.cellsLCell] at hl
 match cs,hl with
 | [c0,c1],_ =>
  match xs,hxl with
  | [y0,y1],_ =>
   have h0:DataW.trod enc Tryz.prog w 0 (fun _=>true) true n 9 [c0]=some y0:=by
    have:=hf 0 _ rfl
    rw [show Tryz.prog.cellsOf _=1 by kernel_rfl] at this
    exact this
   have h1:DataW.trod enc Tryz.prog w 0 (fun _=>true) true n 9 [c1]=some y1:=by
    have:=hf 1 _ rfl
    rw [show Tryz.prog.cellsOf _=1 by kernel_rfl] at this
    exact this
   obtain ⟨d0,e0,z0⟩:=opens_str _ _ _ _ h0
   obtain ⟨d1,e1,z1⟩:=opens_str _ _ _ _ h1
   simp only [List.cons.injEq,and_true] at e0
   subst e0
   simp only [List.cons.injEq,and_true] at e1
   subst e1
   exact ⟨⟨d0,d1⟩,rfl,⟨z0,z1⟩⟩
theorem opens_CellS {x:TypeId}:Opens Tryz.prog 22 (vSlice zfN x):=opens_slice Tryz.underlying22 (by kernel_rfl) (by decide) opens_Cell
end Go.Proofs.YtgcmnkkakngifaaGreatDoor
namespace Go
open Go.RowKit
def vWith {α : Type} (V:View α) (P : α->Prop):View α where
 k:=V.k
 rd w cs d:=V.rd w cs d/\P d
 own w fp cs d:=V.own w fp cs d/\P d
 len h:=V.len h.1
 one h:=V.one h.1
 grow h g:=⟨V.grow h.1 g,h.2⟩
 toRd h:=⟨V.toRd h.1,h.2⟩
 frame h g:=⟨V.frame h.1 g,h.2⟩
 lt h:=V.lt h.1
end Go
namespace Go.Proofs.YtgcmnkkakngifaaGreatDoor
open Go.ChangeShapes Go.WideShapes Go.ChangeAt Go.RowKit
theorem opens_CallRS {x:TypeId}:Opens Tryz.prog 23 (vSlice vCallR x):=opens_slice Tryz.underlying23 (by kernel_rfl) (by decide) opens_CallR
theorem Tryz.cellsLAnswer:Tryz.prog.cellsOf 111=3:=by kernel_rfl
theorem opens_Answer:Opens Tryz.prog 111 vAnswer:=by
 intro H enc w fuel cs x h
 obtain ⟨xs,n,_,_,hl,hxl,hf⟩:=DataW.trod_struct Tryz.underlying111 h
 rw [Tryz.cellsLAnswer] at hl
 match cs,hl with
 | [c0,c1,c2],_ =>
  match xs,hxl with
  | [y0,y1,y2],_ =>
   have h0:DataW.trod enc Tryz.prog w 0 (fun _=>true) true n 3 [c0]=some y0:=by
    have:=hf 0 _ rfl
    rw [show Tryz.prog.cellsOf _=1 by kernel_rfl] at this
    exact this
   have h1:DataW.trod enc Tryz.prog w 0 (fun _=>true) true n 3 [c1]=some y1:=by
    have:=hf 1 _ rfl
    rw [show Tryz.prog.cellsOf _=1 by kernel_rfl] at this
    exact this
   have h2:DataW.trod enc Tryz.prog w 0 (fun _=>true) true n 9 [c2]=some y2:=by
    have:=hf 2 _ rfl
    rw [show Tryz.prog.cellsOf _=1 by kernel_rfl] at this
    exact this
   obtain ⟨d0,e0,_⟩:=opens_int _ _ _ _ h0
   obtain ⟨d1,e1,_⟩:=opens_int _ _ _ _ h1
   obtain ⟨d2,e2,z2⟩:=opens_str _ _ _ _ h2
   simp only [List.cons.injEq,and_true] at e0
   subst e0
   simp only [List.cons.injEq,and_true] at e1
   subst e1
   simp only [List.cons.injEq,and_true] at e2
   subst e2
   exact ⟨⟨d0,d1,d2⟩,rfl,z2⟩
theorem opens_AnswerS {x:TypeId}:Opens Tryz.prog 24 (vSlice vAnswer x):=opens_slice Tryz.underlying24 (by kernel_rfl) (by decide) opens_Answer
theorem opens_StrS {x:TypeId}:Opens Tryz.prog 25 (vSlice vStr x):=opens_slice Tryz.underlying25 (by kernel_rfl) (by decide) opens_str
theorem Tryz.cellsLTouch:Tryz.prog.cellsOf 27=2:=by kernel_rfl
theorem opens_Touch:Opens Tryz.prog 27 vTouch:=by
 intro H enc w fuel cs x h
 obtain ⟨xs,n,_,_,hl,hxl,hf⟩:=DataW.trod_struct Tryz.underlying27 h
 rw [Tryz.cellsLTouch] at hl
 match cs,hl with
 | [c0,c1],_ =>
  match xs,hxl with
  | [y0,y1],_ =>
   have h0:DataW.trod enc Tryz.prog w 0 (fun _=>true) true n 25 [c0]=some y0:=by
    have:=hf 0 _ rfl
    rw [show Tryz.prog.cellsOf _=1 by kernel_rfl] at this
    exact this
   have h1:DataW.trod enc Tryz.prog w 0 (fun _=>true) true n 25 [c1]=some y1:=by
    have:=hf 1 _ rfl
    rw [show Tryz.prog.cellsOf _=1 by kernel_rfl] at this
    exact this
   obtain ⟨d0,e0⟩:=opens_StrS _ _ _ _ h0
   obtain ⟨d1,e1⟩:=opens_StrS _ _ _ _ h1
   exact ⟨⟨d0,d1⟩,_,_,rfl,e0,e1⟩
theorem opens_IntS {x:TypeId}:Opens Tryz.prog 28 (vSlice vInt x):=opens_slice Tryz.underlying28 (by kernel_rfl) (by decide) opens_int
theorem Tryz.cellsLTx:Tryz.prog.cellsOf 30=10:=by kernel_rfl
theorem opens_TxR:Opens Tryz.prog 30 (vWith vTx TxD.rng):=by
 intro H enc w fuel cs x h
 obtain ⟨xs,n,_,_,hl,hxl,hf⟩:=DataW.trod_struct Tryz.underlying30 h
 rw [Tryz.cellsLTx] at hl
 match cs,hl with
 | [c0,c1,c2,c3,c4,c5,c6,c7,c8,c9],_ =>
  match xs,hxl with
  | [y0,y1,y2,y3,y4,y5,y6,y7,y8],_ =>
   have h0:DataW.trod enc Tryz.prog w 0 (fun _=>true) true n 3 [c0]=some y0:=by
    have:=hf 0 _ rfl
    rw [show Tryz.prog.cellsOf _=1 by kernel_rfl] at this
    exact this
   have h1:DataW.trod enc Tryz.prog w 0 (fun _=>true) true n 3 [c1]=some y1:=by
    have:=hf 1 _ rfl
    rw [show Tryz.prog.cellsOf _=1 by kernel_rfl] at this
    exact this
   have h2:DataW.trod enc Tryz.prog w 0 (fun _=>true) true n 3 [c2]=some y2:=by
    have:=hf 2 _ rfl
    rw [show Tryz.prog.cellsOf _=1 by kernel_rfl] at this
    exact this
   have h3:DataW.trod enc Tryz.prog w 0 (fun _=>true) true n 3 [c3]=some y3:=by
    have:=hf 3 _ rfl
    rw [show Tryz.prog.cellsOf _=1 by kernel_rfl] at this
    exact this
   have h4:DataW.trod enc Tryz.prog w 0 (fun _=>true) true n 23 [c4]=some y4:=by
    have:=hf 4 _ rfl
    rw [show Tryz.prog.cellsOf _=1 by kernel_rfl] at this
    exact this
   have h5:DataW.trod enc Tryz.prog w 0 (fun _=>true) true n 24 [c5]=some y5:=by
    have:=hf 5 _ rfl
    rw [show Tryz.prog.cellsOf _=1 by kernel_rfl] at this
    exact this
   have h6:DataW.trod enc Tryz.prog w 0 (fun _=>true) true n 27 [c6,c7]=some y6:=by
    have:=hf 6 _ rfl
    rw [show Tryz.prog.cellsOf _=2 by kernel_rfl] at this
    exact this
   have h7:DataW.trod enc Tryz.prog w 0 (fun _=>true) true n 28 [c8]=some y7:=by
    have:=hf 7 _ rfl
    rw [show Tryz.prog.cellsOf _=1 by kernel_rfl] at this
    exact this
   have h8:DataW.trod enc Tryz.prog w 0 (fun _=>true) true n 3 [c9]=some y8:=by
    have:=hf 8 _ rfl
    rw [show Tryz.prog.cellsOf _=1 by kernel_rfl] at this
    exact this
   obtain ⟨d0,e0,_⟩:=opens_int _ _ _ _ h0
   obtain ⟨d1,e1,_⟩:=opens_int _ _ _ _ h1
   obtain ⟨d2,e2,z2⟩:=opens_intR _ _ _ _ h2
   obtain ⟨d3,e3,_⟩:=opens_int _ _ _ _ h3
   obtain ⟨d4,e4⟩:=opens_CallRS _ _ _ _ h4
   obtain ⟨d5,e5⟩:=opens_AnswerS _ _ _ _ h5
   obtain ⟨d6,e6⟩:=opens_Touch _ _ _ _ h6
   obtain ⟨d7,e7⟩:=opens_IntS _ _ _ _ h7
   obtain ⟨d8,e8,_⟩:=opens_int _ _ _ _ h8
   simp only [List.cons.injEq,and_true] at e0
   subst e0
   simp only [List.cons.injEq,and_true] at e1
   subst e1
   simp only [List.cons.injEq,and_true] at e2
   subst e2
   simp only [List.cons.injEq,and_true] at e3
   subst e3
   simp only [List.cons.injEq,and_true] at e8
   subst e8
   obtain ⟨s6_0,s6_1,r6,t6_0,t6_1⟩:=e6
   simp only [List.cons.injEq,and_true] at r6
   obtain ⟨rfl,rfl⟩:=r6
   exact ⟨⟨d0,d1,d2,d3,d4,d5,d6,d7,d8⟩,⟨_,_,_,_,_,rfl,slice_row e4 (fun d h=>h.1),e5,t6_0,t6_1,e7⟩,z2,fun c hc=>(slice_ok e4 c hc).2⟩
theorem below_dr (w:World) (z:Array Obj) (d0 d1:Nat):Below (w.ext ⟨z,d0⟩).heap.size (w.ext ⟨z,d0⟩) (w.ext ⟨z,d1⟩):=by
 obtain ⟨X,hX⟩:=Sx.same w z d0 d1
 rw [hX]
 exact Below.ofExt (Below.refl _ _) X
theorem steps_fine {w:World} {ct:List Value} {d:TxD} (h:vTx.rd w ct d) (hr:d.rng):∀ s ∈ stepsOf d,s.fine:=by
 obtain ⟨s0,s1,s2,s3,s4,rfl,h0,_⟩:=h
 have hok:=slice_ok h0
 intro s hs
 unfold stepsOf at hs
 obtain ⟨c,hc,rfl⟩:=List.mem_map.1 hs
 exact ⟨hok c hc,hr.1,(hr.2 c hc).1,(hr.2 c hc).2⟩
theorem view_whole {zs:List CellD} {d:TxD} (hf:∀ s ∈ stepsOf d,s.fine) (hz:wtS CellD.wt zs + d.wt<=1048576) :
  zfL (stepsOf d) ⟨zs,[],[]⟩/\(K.runAll (stepsOf d)).fits ⟨zs,[],[]⟩/\(∀ a ∈ ((K.runAll (stepsOf d)).run ⟨zs,[],[]⟩).1,a.ok)/\((K.runAll (stepsOf d)).run ⟨zs,[],[]⟩).1.length=d.calls.length/\(∀ c ∈ viewOf zs d,c.ok)/\(viewOf zs d).length<=549755813888:=by
 have hl:=Tx_lens (d:=d) (Nat.le_refl _)
 have h:=run_whole (cs:=zs) (l:=stepsOf d) (by rw [stepsOf_len];unfold wtS at hz;omega) (fun c hc=>by
  have t1:=wt_mem CellD.wt zs c hc
  have t2:CellD.wt c=c.key.size + c.val.size:=rfl
  unfold wtS at hz
  omega) (fun s hs=>⟨(hf s hs).2.1,(hf s hs).2.2.1⟩)
 rw [stepsOf_len] at h
 exact h
theorem alloc_at (w:World) (o:Obj):(w.alloc o).heap[w.heap.size]?=some o:=by
 show (w.heap.push o)[w.heap.size]? = _
 simp
def cntTouch (d:TouchD):Nat:=1 * d.reads.length + 1 * d.writes.length
def cntTx (d:TxD):Nat:=6 * d.calls.length + 3 * d.answers.length + cntTouch d.touch + 1 * d.marks.length
end Go.Proofs.YtgcmnkkakngifaaGreatDoor
