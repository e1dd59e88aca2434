/- Walks. Each condition stands in its theorem. -/
import Derived.Test.YtodokkpnafabpaaGreatDoorCA29
import Derived.Test.YtodokkpnafabpaaGreatDoorTW4
import Derived.Test.YtodokkpnafabpaaGreatDoorTW5
set_option linter.unusedVariables false
set_option linter.unusedSimpArgs false
set_option maxRecDepth 100000
set_option maxHeartbeats 8000000
namespace Go
open Go.RowKit
def vWith {α : Type} (V:View α) (P : α->Prop):View α where
 k:=V.k
 rd w cs d:=V.rd w cs d/\P d
 own w fp cs d:=V.own w fp cs d/\P d
 len h:=V.len h.1
 one h:=V.one h.1
 grow h g:=⟨V.grow h.1 g,h.2⟩
 toRd h:=⟨V.toRd h.1,h.2⟩
 frame h g:=⟨V.frame h.1 g,h.2⟩
 lt h:=V.lt h.1
end Go
namespace Go.Proofs.YtodokkpnafabpaaGreatDoor
open Go.ChangeShapes Go.WideShapes Go.ChangeAt Go.RowKit
theorem zqak {x:TypeId}:zqY Tryz.prog 23 (vSlice vCallR x):=zqj Tryz.underlying23 (by kernel_rfl) (by decide) opens_CallR
theorem Tryz.cellsLAnswer:Tryz.prog.cellsOf 82=3:=by kernel_rfl
theorem zqal:zqY Tryz.prog 82 zjn:=by
 intro H enc w fuel cs x h
 obtain ⟨xs,n,_,_,hl,hxl,hf⟩:=DataW.trod_struct Tryz.underlying82 h
 rw [Tryz.cellsLAnswer] at hl
 match cs,hl with
 | [c0,c1,c2],_ =>
  match xs,hxl with
  | [y0,y1,y2],_ =>
   have h0:DataW.trod enc Tryz.prog w 0 (fun _=>true) true n 3 [c0]=some y0:=by
    have:=hf 0 _ rfl
    rw [show Tryz.prog.cellsOf _=1 by kernel_rfl] at this
    exact this
   have h1:DataW.trod enc Tryz.prog w 0 (fun _=>true) true n 3 [c1]=some y1:=by
    have:=hf 1 _ rfl
    rw [show Tryz.prog.cellsOf _=1 by kernel_rfl] at this
    exact this
   have h2:DataW.trod enc Tryz.prog w 0 (fun _=>true) true n 9 [c2]=some y2:=by
    have:=hf 2 _ rfl
    rw [show Tryz.prog.cellsOf _=1 by kernel_rfl] at this
    exact this
   obtain ⟨d0,e0,_⟩:=zqf _ _ _ _ h0
   obtain ⟨d1,e1,_⟩:=zqf _ _ _ _ h1
   obtain ⟨d2,e2,z2⟩:=zql _ _ _ _ h2
   simp only [List.cons.injEq,and_true] at e0
   subst e0
   simp only [List.cons.injEq,and_true] at e1
   subst e1
   simp only [List.cons.injEq,and_true] at e2
   subst e2
   exact ⟨⟨d0,d1,d2⟩,rfl,z2⟩
theorem zqab {x:TypeId}:zqY Tryz.prog 24 (vSlice zjn x):=zqj Tryz.underlying24 (by kernel_rfl) (by decide) zqal
theorem zqaa {x:TypeId}:zqY Tryz.prog 25 (vSlice vStr x):=zqj Tryz.underlying25 (by kernel_rfl) (by decide) zql
theorem Tryz.cellsLTouch:Tryz.prog.cellsOf 27=2:=by kernel_rfl
theorem zqay:zqY Tryz.prog 27 zqy:=by
 intro H enc w fuel cs x h
 obtain ⟨xs,n,_,_,hl,hxl,hf⟩:=DataW.trod_struct Tryz.underlying27 h
 rw [Tryz.cellsLTouch] at hl
 match cs,hl with
 | [c0,c1],_ =>
  match xs,hxl with
  | [y0,y1],_ =>
   have h0:DataW.trod enc Tryz.prog w 0 (fun _=>true) true n 25 [c0]=some y0:=by
    have:=hf 0 _ rfl
    rw [show Tryz.prog.cellsOf _=1 by kernel_rfl] at this
    exact this
   have h1:DataW.trod enc Tryz.prog w 0 (fun _=>true) true n 25 [c1]=some y1:=by
    have:=hf 1 _ rfl
    rw [show Tryz.prog.cellsOf _=1 by kernel_rfl] at this
    exact this
   obtain ⟨d0,e0⟩:=zqaa _ _ _ _ h0
   obtain ⟨d1,e1⟩:=zqaa _ _ _ _ h1
   exact ⟨⟨d0,d1⟩,_,_,rfl,e0,e1⟩
theorem zqaN {x:TypeId}:zqY Tryz.prog 28 (vSlice vInt x):=zqj Tryz.underlying28 (by kernel_rfl) (by decide) zqf
theorem Tryz.cellsLTx:Tryz.prog.cellsOf 30=10:=by kernel_rfl
theorem opens_TxR:zqY Tryz.prog 30 (vWith vTx TxD.rng):=by
 intro H enc w fuel cs x h
 obtain ⟨xs,n,_,_,hl,hxl,hf⟩:=DataW.trod_struct Tryz.underlying30 h
 rw [Tryz.cellsLTx] at hl
 match cs,hl with
 | [c0,c1,c2,c3,c4,c5,c6,c7,c8,c9],_ =>
  match xs,hxl with
  | [y0,y1,y2,y3,y4,y5,y6,y7,y8],_ =>
   have h0:DataW.trod enc Tryz.prog w 0 (fun _=>true) true n 3 [c0]=some y0:=by
    have:=hf 0 _ rfl
    rw [show Tryz.prog.cellsOf _=1 by kernel_rfl] at this
    exact this
   have h1:DataW.trod enc Tryz.prog w 0 (fun _=>true) true n 3 [c1]=some y1:=by
    have:=hf 1 _ rfl
    rw [show Tryz.prog.cellsOf _=1 by kernel_rfl] at this
    exact this
   have h2:DataW.trod enc Tryz.prog w 0 (fun _=>true) true n 3 [c2]=some y2:=by
    have:=hf 2 _ rfl
    rw [show Tryz.prog.cellsOf _=1 by kernel_rfl] at this
    exact this
   have h3:DataW.trod enc Tryz.prog w 0 (fun _=>true) true n 3 [c3]=some y3:=by
    have:=hf 3 _ rfl
    rw [show Tryz.prog.cellsOf _=1 by kernel_rfl] at this
    exact this
   have h4:DataW.trod enc Tryz.prog w 0 (fun _=>true) true n 23 [c4]=some y4:=by
    have:=hf 4 _ rfl
    rw [show Tryz.prog.cellsOf _=1 by kernel_rfl] at this
    exact this
   have h5:DataW.trod enc Tryz.prog w 0 (fun _=>true) true n 24 [c5]=some y5:=by
    have:=hf 5 _ rfl
    rw [show Tryz.prog.cellsOf _=1 by kernel_rfl] at this
    exact this
   have h6:DataW.trod enc Tryz.prog w 0 (fun _=>true) true n 27 [c6,c7]=some y6:=by
    have:=hf 6 _ rfl
    rw [show Tryz.prog.cellsOf _=2 by kernel_rfl] at this
    exact this
   have h7:DataW.trod enc Tryz.prog w 0 (fun _=>true) true n 28 [c8]=some y7:=by
    have:=hf 7 _ rfl
    rw [show Tryz.prog.cellsOf _=1 by kernel_rfl] at this
    exact this
   have h8:DataW.trod enc Tryz.prog w 0 (fun _=>true) true n 3 [c9]=some y8:=by
    have:=hf 8 _ rfl
    rw [show Tryz.prog.cellsOf _=1 by kernel_rfl] at this
    exact this
   obtain ⟨d0,e0,_⟩:=zqf _ _ _ _ h0
   obtain ⟨d1,e1,_⟩:=zqf _ _ _ _ h1
   obtain ⟨d2,e2,z2⟩:=zqH _ _ _ _ h2
   obtain ⟨d3,e3,_⟩:=zqf _ _ _ _ h3
   obtain ⟨d4,e4⟩:=zqak _ _ _ _ h4
   obtain ⟨d5,e5⟩:=zqab _ _ _ _ h5
   obtain ⟨d6,e6⟩:=zqay _ _ _ _ h6
   obtain ⟨d7,e7⟩:=zqaN _ _ _ _ h7
   obtain ⟨d8,e8,_⟩:=zqf _ _ _ _ h8
   simp only [List.cons.injEq,and_true] at e0
   subst e0
   simp only [List.cons.injEq,and_true] at e1
   subst e1
   simp only [List.cons.injEq,and_true] at e2
   subst e2
   simp only [List.cons.injEq,and_true] at e3
   subst e3
   simp only [List.cons.injEq,and_true] at e8
   subst e8
   obtain ⟨s6_0,s6_1,r6,t6_0,t6_1⟩:=e6
   simp only [List.cons.injEq,and_true] at r6
   obtain ⟨rfl,rfl⟩:=r6
   exact ⟨⟨d0,d1,d2,d3,d4,d5,d6,d7,d8⟩,⟨_,_,_,_,_,rfl,zqaT e4 (fun d h=>h.1),e5,t6_0,t6_1,e7⟩,z2,fun c hc=>(zqaL e4 c hc).2⟩
theorem zqaK {w:World} {ct:List Value} {d:TxD} (h:vTx.rd w ct d) (hr:d.rng):∀ s ∈ zqa d,s.fine:=by
 obtain ⟨s0,s1,s2,s3,s4,rfl,h0,_⟩:=h
 have hok:=zqaL h0
 intro s hs
 unfold zqa at hs
 obtain ⟨c,hc,rfl⟩:=List.mem_map.1 hs
 exact ⟨hok c hc,hr.1,(hr.2 c hc).1,(hr.2 c hc).2⟩
theorem zqaJ {zs:List CellD} {d:TxD} (hf:∀ s ∈ zqa d,s.fine) (hz:wtS CellD.wt zs+d.wt<=1048576) :
  zfM (zqa d) ⟨zs,[],[]⟩/\(K.runAll (zqa d)).fits ⟨zs,[],[]⟩/\(∀ a ∈ ((K.runAll (zqa d)).run ⟨zs,[],[]⟩).1,a.ok)/\((K.runAll (zqa d)).run ⟨zs,[],[]⟩).1.length=d.calls.length/\(∀ c ∈ zqh zs d,c.ok)/\(zqh zs d).length<=549755813888:=by
 have hl:=zqaw (d:=d) (Nat.le_refl _)
 have h:=run_whole (cs:=zs) (l:=zqa d) (by rw [zqi];unfold wtS at hz;omega) (fun c hc=>by
  have t1:=wt_mem CellD.wt zs c hc
  have t2:CellD.wt c=c.key.size+c.val.size:=rfl
  unfold wtS at hz
  omega) (fun s hs=>⟨(hf s hs).2.1,(hf s hs).2.2.1⟩)
 rw [zqi] at h
 exact h
theorem zqO:∀ (l:List StepD) (s:StepD) (out:List AnswerD) (m:MachD),zfM (l ++ [s]) m->(K.doCall s.proc s.call).fits ⟨((Mp.fold K.runSteps out l).run m).2.cells,[],[]⟩
 | [],s,out,m,h=>h.2.1
 | x :: l,s,out,m,h=>by
  have e:(K.runSteps out x).run m=(out ++ [((K.doCall x.proc x.call).run m).1],((K.doCall x.proc x.call).run m).2):=by
   unfold K.runSteps
   rw [Mp.run_bind]
   rfl
  show (K.doCall s.proc s.call).fits ⟨((K.runSteps out x >>= fun b=>Mp.fold K.runSteps b l).run m).2.cells,[],[]⟩
  rw [Mp.run_bind,e]
  exact zqO l s _ _ h.2.2
theorem zqaR {zs:List CellD} {d:TxD} {c:CallD} (hf:∀ s ∈ zqa d,s.fine) (hp:InR d.proc) (ha:InR c.a) (hz:wtS CellD.wt zs+d.wt<=1048576):(K.doCall d.proc c).fits ⟨zqh zs d,[],[]⟩:=by
 have hl:=zqaw (d:=d) (Nat.le_refl _)
 have h:=run_fits (cs:=zs) (l:=zqa d ++ [⟨d.proc,c⟩]) (by rw [List.length_append,zqi,List.length_singleton];unfold wtS at hz;omega) (fun c hc=>by
  have t1:=wt_mem CellD.wt zs c hc
  have t2:CellD.wt c=c.key.size+c.val.size:=rfl
  unfold wtS at hz
  omega) (fun s hs=>by
  rcases List.mem_append.1 hs with h|h
  ·exact ⟨(hf s h).2.1,(hf s h).2.2.1⟩
  ·rw [List.mem_singleton.1 h];exact ⟨hp,ha⟩)
 exact zqO (zqa d) ⟨d.proc,c⟩ [] _ h
theorem own_str {w:World} {B:Nat} {v:Value} {xs:List ByteArray} (h:OwnL zx 9 w B v xs) (hz:∀ s ∈ xs,s.size<=9223372036854775807):(vSlice vStr 9).own w v.ownBlock.toList [v] xs/\∀ b ∈ v.ownBlock.toList,B<=b:=by
 rcases h.2 with ⟨rfl,h0⟩|⟨g,cap,cur,rfl,hg,hh,hn,hm,hsz,ht⟩
 ·have:xs = []:=List.eq_nil_of_length_eq_zero h0
  subst this
  exact ⟨.inl ⟨rfl,rfl,rfl⟩,fun b hb=>by cases hb⟩
 ·exact ⟨zdE hh rfl hn hm hsz ht hz,by simpa [Value.ownBlock] using hg⟩
theorem zqF {w:World} {B:Nat} {v1 v2:Value} {rd wr:List ByteArray} (h0:OwnL zx 9 w B v1 rd) (h1:OwnL zx 9 w B v2 wr) (hd:∀ k,v1.ownBlock=some k->v2.ownBlock ≠ some k) (hz0:∀ s ∈ rd,s.size<=9223372036854775807) (hz1:∀ s ∈ wr,s.size<=9223372036854775807) :
  ∃ fp:List Nat,zqy.own w fp [v1,v2] ⟨rd,wr⟩/\fp.Nodup/\∀ b ∈ fp,B<=b:=by
 obtain ⟨o0,l0⟩:=own_str h0 hz0
 obtain ⟨o1,l1⟩:=own_str h1 hz1
 refine ⟨_,⟨v1,v2,_,_,rfl,rfl,o0,o1⟩,?_,fun b hb=>?_⟩
 ·cases e1:v1.ownBlock with
  | none=>cases v2.ownBlock<;>simp
  | some a=>cases e2:v2.ownBlock with
   | none=>simp
   | some b =>
    have:=hd a e1
    rw [e2] at this
    simp only [Option.toList_some,List.cons_append,List.nil_append,List.nodup_cons,List.mem_singleton,List.not_mem_nil,not_false_eq_true,List.nodup_nil,and_true]
    intro e
    exact this (by rw [e])
 ·rcases List.mem_append.1 hb with h|h
  ·exact l0 b h
  ·exact l1 b h
theorem nd2 {A B:List Nat} (h:(A++B).Nodup):A.Nodup/\B.Nodup/\∀ x ∈ B,x ∉ A:=by
 rw [List.nodup_append] at h
 exact ⟨h.1,h.2.1,fun x hx hx'=>h.2.2 x hx' x hx rfl⟩
theorem rebox {fp:List Nat} {W w':World} {q:Nat} {o:Obj} (hu:Upon fp W w') (hq:W.heap[q]?=some o) (hn:q ∉ fp):∃ w1:World,w'=w1.setB q o/\q<w1.heap.size :=
 ⟨w',(zf ((hu.block q (za hq) hn).trans hq)).symm,Nat.lt_of_lt_of_le (za hq) hu.size⟩
theorem zqau (w:World) (o:Obj):(w.alloc o).heap[w.heap.size]?=some o:=by
 show (w.heap.push o)[w.heap.size]? = _
 simp
theorem zqE (fp:List Nat) (w:World) (o:Obj):Upon fp w (w.alloc o):=Upon.below ((Below.refl _ _).ofAlloc o)
def zqd (d:TouchD):Nat:=1*d.reads.length+1*d.writes.length
theorem zqS (cs:List Value) (fp:List Nat) (d:TouchD) (k:Int) (w:World) (hs:zqy.own w fp cs d) (hn:fp.Nodup) (h0 : 0<=k) (h1:k+(zqd d:Nat)<=1125899906842000) :
  Calls Tryz.prog 17 #[.agg cs.toArray,.int .i64 k] w fun e w'=>e=.returned (.int .i64 (k+(zqd d:Nat)))/\Upon fp w w':=by
 have hlt:=View.lt _ hs
 obtain ⟨s0,s1,f0,f1,rfl,rfl,o0,o1⟩:=hs
 obtain ⟨a0,c0,rfl⟩:=vSlice.form (View.toRd _ o0)
 obtain ⟨a1,c1,rfl⟩:=vSlice.form (View.toRd _ o1)
 have HLT:=Hd hlt
 have O0:=Hd o0
 have O1:=Hd o1
 have HN:=Hd hn
 clear hlt o0 o1 hn
 have hcd:(zqd d:Int)=d.reads.length+d.writes.length:=by unfold zqd;omega
 have HC:=Hd hcd
 have h2:k+(d.reads.length:Int)+(d.writes.length:Int)<=1125899906842000:=by rw [hcd] at h1;omega
 clear hcd h1
 go_enter Tryz.func17,Tryz.ntmps17
 go_wp2_with fail
 (go_at_call 42;refine (zqc _ f0 d.reads k _ (View.ownAlloc O0.out _) h0 (by omega)).mono ?_;rintro e w' ⟨rfl,_,hu⟩)
 have hU:=(zqE (f0++f1) w (.cells #[.slice a0 d.reads.length c0,.slice a1 d.writes.length c1] 36)).trans (hu.mono (fun x hx=>List.mem_append_left _ hx))
 have hO:=View.ownUpon (View.ownAlloc O1.out (.cells #[.slice a0 d.reads.length c0,.slice a1 d.writes.length c1] 36)) hu (nd2 HN.out).2.2
 obtain ⟨w1,rfl,hq1⟩:=rebox hu (zqau w _) (fun h=>absurd (HLT.out _ (List.mem_append_left _ h)) (Nat.lt_irrefl _))
 have HU:=Hd hU
 have HO:=Hd hO
 clear hu hU hO
 go_wp2_with fail
 (go_at_call 42;refine (zqc _ f1 d.writes _ _ HO.out (by omega) (by omega)).mono ?_;rintro e w' ⟨rfl,_,hu⟩)
 have HV:=Hd hu
 clear hu
 go_wp2
 go_ret
 exact ⟨zgB (by rw [HC.out];omega),HU.out.trans (HV.out.mono (fun x hx=>List.mem_append_right _ hx))⟩
def zqav (d:TxD):Nat:=6*d.calls.length+3*d.answers.length+zqd d.touch+1*d.marks.length
theorem zqaC (cs:List Value) (fp:List Nat) (d:TxD) (k:Int) (w:World) (hs:vTx.own w fp cs d) (hn:fp.Nodup) (h0 : 0<=k) (h1:k+(zqav d:Nat)<=4294960000) :
  Calls Tryz.prog 16 #[.agg cs.toArray,.int .i64 k] w fun e w'=>e=.returned (.int .i64 (k+(zqav d:Nat)))/\Upon fp w w':=by
 have hlt:=View.lt _ hs
 obtain ⟨s0,s1,s2,s3,s4,f0,f1,f2,f3,f4,rfl,rfl,o0,o1,o2,o3,o4⟩:=hs
 obtain ⟨a0,c0,rfl⟩:=vSlice.form (View.toRd _ o0)
 obtain ⟨a1,c1,rfl⟩:=vSlice.form (View.toRd _ o1)
 obtain ⟨a2,c2,rfl⟩:=vSlice.form (View.toRd _ o2)
 obtain ⟨a3,c3,rfl⟩:=vSlice.form (View.toRd _ o3)
 obtain ⟨a4,c4,rfl⟩:=vSlice.form (View.toRd _ o4)
 have HLT:=Hd hlt
 have O0:=Hd (View.ownAlloc o0 (.cells #[.int .i64 d.id,.int .i64 d.age,.int .i64 d.proc,.int .i64 d.began,.slice a0 d.calls.length c0,.slice a1 d.answers.length c1,.slice a2 d.touch.reads.length c2,.slice a3 d.touch.writes.length c3,.slice a4 d.marks.length c4,.int .i64 d.state] 43))
 have O1:=Hd (View.ownAlloc o1 (.cells #[.int .i64 d.id,.int .i64 d.age,.int .i64 d.proc,.int .i64 d.began,.slice a0 d.calls.length c0,.slice a1 d.answers.length c1,.slice a2 d.touch.reads.length c2,.slice a3 d.touch.writes.length c3,.slice a4 d.marks.length c4,.int .i64 d.state] 43))
 have O2:=Hd (View.ownAlloc o2 (.cells #[.int .i64 d.id,.int .i64 d.age,.int .i64 d.proc,.int .i64 d.began,.slice a0 d.calls.length c0,.slice a1 d.answers.length c1,.slice a2 d.touch.reads.length c2,.slice a3 d.touch.writes.length c3,.slice a4 d.marks.length c4,.int .i64 d.state] 43))
 have O3:=Hd (View.ownAlloc o3 (.cells #[.int .i64 d.id,.int .i64 d.age,.int .i64 d.proc,.int .i64 d.began,.slice a0 d.calls.length c0,.slice a1 d.answers.length c1,.slice a2 d.touch.reads.length c2,.slice a3 d.touch.writes.length c3,.slice a4 d.marks.length c4,.int .i64 d.state] 43))
 have O4:=Hd (View.ownAlloc o4 (.cells #[.int .i64 d.id,.int .i64 d.age,.int .i64 d.proc,.int .i64 d.began,.slice a0 d.calls.length c0,.slice a1 d.answers.length c1,.slice a2 d.touch.reads.length c2,.slice a3 d.touch.writes.length c3,.slice a4 d.marks.length c4,.int .i64 d.state] 43))
 have n4:=nd2 hn
 have n3:=nd2 n4.1
 have n2:=nd2 n3.1
 have n1:=nd2 n2.1
 have N4:=Hd n4
 have N3:=Hd n3
 have N2:=Hd n2
 have N1:=Hd n1
 clear hlt o0 o1 o2 o3 o4 hn n1 n2 n3 n4
 have hcd:(zqav d:Int)=6*d.calls.length+3*d.answers.length+zqd d.touch+d.marks.length:=by unfold zqav;omega
 have HC:=Hd hcd
 rw [hcd] at h1
 clear hcd
 obtain ⟨ct,hct⟩ : ∃ ct:Nat,ct=zqd d.touch:=⟨_,rfl⟩
 rw [<- hct] at h1
 have HCT:=Hd hct
 clear hct
 have hw0:w.heap.size ∉ f0++f1++f2++f3++f4:=fun h=>absurd (HLT.out _ h) (Nat.lt_irrefl _)
 have HW0:=Hd hw0
 clear hw0
 go_enter Tryz.func16,Tryz.ntmps16
 go_wp2_with fail
 (go_at_call 39;refine (zqU _ f0 d.calls k _ O0.out h0 (by omega)).mono ?_;rintro e w' ⟨rfl,_,hu⟩)
 have hU:=(zqE (f0++f1++f2++f3++f4) w (.cells #[.int .i64 d.id,.int .i64 d.age,.int .i64 d.proc,.int .i64 d.began,.slice a0 d.calls.length c0,.slice a1 d.answers.length c1,.slice a2 d.touch.reads.length c2,.slice a3 d.touch.writes.length c3,.slice a4 d.marks.length c4,.int .i64 d.state] 43)).trans (hu.mono (fun x hx=>by simp [hx]))
 have p1:=View.ownUpon O1.out hu N1.out.2.2
 have p2:=View.ownUpon O2.out hu (fun x hx h=>N2.out.2.2 x hx (by simp [h]))
 have p3:=View.ownUpon O3.out hu (fun x hx h=>N3.out.2.2 x hx (by simp [h]))
 have p4:=View.ownUpon O4.out hu (fun x hx h=>N4.out.2.2 x hx (by simp [h]))
 obtain ⟨w1,rfl,hq1⟩:=rebox hu (zqau w _) (fun h=>HW0.out (by simp [h]))
 have U1:=Hd hU
 have P1:=Hd p1
 have P2:=Hd p2
 have P3:=Hd p3
 have P4:=Hd p4
 clear hu hU p1 p2 p3 p4 O0 O1 O2 O3 O4
 go_wp2_with fail
 (go_at_call 40;refine (zqJ _ f1 d.answers _ _ P1.out (by omega) (by omega)).mono ?_;rintro e w' ⟨rfl,_,hu⟩)
 have hU:=U1.out.trans (hu.mono (fp':=f0++f1++f2++f3++f4) (fun x hx=>by simp [hx]))
 have p2:=View.ownUpon P2.out hu (fun x hx h=>N2.out.2.2 x hx (by simp [h]))
 have p3:=View.ownUpon P3.out hu (fun x hx h=>N3.out.2.2 x hx (by simp [h]))
 have p4:=View.ownUpon P4.out hu (fun x hx h=>N4.out.2.2 x hx (by simp [h]))
 obtain ⟨w2,rfl,hq2⟩:=rebox hu (zy _ _ _ hq1) (fun h=>HW0.out (by simp [h]))
 have U2:=Hd hU
 have R2:=Hd p2
 have R3:=Hd p3
 have R4:=Hd p4
 clear hu hU p2 p3 p4 P1 P2 P3 P4 U1 hq1
 go_wp2_with fail
 (go_at_call 17;refine (zqS _ (f2++f3) d.touch _ _ ⟨_,_,f2,f3,rfl,rfl,R2.out,R3.out⟩ (List.nodup_append.2 ⟨N2.out.2.1,N3.out.2.1,fun x hx y hy e=>N3.out.2.2 y hy (by simp [<- e,hx])⟩) (by omega) (by rw [<- HCT.out];omega)).mono ?_;rintro e w' ⟨rfl,hu⟩)
 have hU:=U2.out.trans (hu.mono (fp':=f0++f1++f2++f3++f4) (fun x hx=>by simp at hx ⊢;rcases hx with h|h<;>simp [h]))
 have p4:=View.ownUpon R4.out hu (fun x hx h=>N4.out.2.2 x hx (by simp at h ⊢;rcases h with h|h<;>simp [h]))
 obtain ⟨w3,rfl,hq3⟩:=rebox hu (zy _ _ _ hq2) (fun h=>HW0.out (by simp at h ⊢;rcases h with h|h<;>simp [h]))
 have U3:=Hd hU
 have S4:=Hd p4
 clear hu hU p4 R2 R3 R4 U2 hq2
 rw [<- HCT.out]
 go_wp2_with fail
 (go_at_call 41;refine (zqag _ f4 d.marks _ _ S4.out (by omega) (by omega)).mono ?_;rintro e w' ⟨rfl,_,hu⟩)
 have U4:=Hd (U3.out.trans (hu.mono (fp':=f0++f1++f2++f3++f4) (fun x hx=>by simp [hx])))
 clear hu
 go_wp2
 go_ret
 exact ⟨zgB (by rw [HC.out,<- HCT.out];omega),U4.out⟩
def mkTouch (k:Int) (n m:Nat):TouchD:=⟨marks zqz 1 k n,marks zqz 1 (k+(n:Int)) m⟩
theorem zqM (cs:List Value) (fp:List Nat) (d:TouchD) (k:Int) (w:World) (hs:zqy.own w fp cs d) (hn:fp.Nodup) (h0 : 0<=k) (h1:k+(zqd d:Nat)<=1125899906842000) :
  Calls Tryz.prog 17 #[.agg cs.toArray,.int .i64 k] w fun e w'=>e=.returned (.int .i64 (k+(zqd d:Nat)))/\zqy.own w' fp cs (mkTouch k d.reads.length d.writes.length)/\Upon fp w w':=by
 have hlt:=View.lt _ hs
 obtain ⟨s0,s1,f0,f1,rfl,rfl,o0,o1⟩:=hs
 obtain ⟨a0,c0,rfl⟩:=vSlice.form (View.toRd _ o0)
 obtain ⟨a1,c1,rfl⟩:=vSlice.form (View.toRd _ o1)
 have HLT:=Hd hlt
 have O0:=Hd o0
 have O1:=Hd o1
 have HN:=Hd hn
 clear hlt o0 o1 hn
 have hcd:(zqd d:Int)=d.reads.length+d.writes.length:=by unfold zqd;omega
 have HC:=Hd hcd
 have h2:k+(d.reads.length:Int)+(d.writes.length:Int)<=1125899906842000:=by rw [hcd] at h1;omega
 clear hcd h1
 go_enter Tryz.func17,Tryz.ntmps17
 go_wp2_with fail
 (go_at_call 42;refine (zqc _ f0 d.reads k _ (View.ownAlloc O0.out _) h0 (by omega)).mono ?_;rintro e w' ⟨rfl,hm,hu⟩)
 have hU:=(zqE (f0++f1) w (.cells #[.slice a0 d.reads.length c0,.slice a1 d.writes.length c1] 36)).trans (hu.mono (fun x hx=>List.mem_append_left _ hx))
 have hO:=View.ownUpon (View.ownAlloc O1.out (.cells #[.slice a0 d.reads.length c0,.slice a1 d.writes.length c1] 36)) hu (nd2 HN.out).2.2
 obtain ⟨w1,rfl,hq1⟩:=rebox hu (zqau w _) (fun h=>absurd (HLT.out _ (List.mem_append_left _ h)) (Nat.lt_irrefl _))
 have HU:=Hd hU
 have HO:=Hd hO
 have HM:=Hd hm
 clear hu hU hO hm
 go_wp2_with fail
 (go_at_call 42;refine (zqc _ f1 d.writes _ _ HO.out (by omega) (by omega)).mono ?_;rintro e w' ⟨rfl,hm,hu⟩)
 have HV:=Hd hu
 have HW:=Hd (View.ownUpon HM.out hu (fun x hx h=>(nd2 HN.out).2.2 x h hx))
 have HM2:=Hd hm
 clear hu hm
 go_wp2
 go_ret
 exact ⟨zgB (by rw [HC.out];omega),⟨_,_,f0,f1,rfl,rfl,HW.out,HM2.out⟩,HU.out.trans (HV.out.mono (fun x hx=>List.mem_append_right _ hx))⟩
theorem zqs (cs:List Value) (k:Int) (n m:Nat) (w:World) (hs:zqy.rd w cs (mkTouch k n m)) (h0 : 0<=k) (h1:k+(n:Int)+(m:Int)<=1125899906842000) :
  Calls Tryz.prog 18 #[.agg cs.toArray,.int .i64 k] w fun e w'=>e=.returned (.int .i64 (k+((1*n+1*m:Nat):Int)))/\Below w.heap.size w w':=by
 obtain ⟨s0,s1,rfl,o0,o1⟩:=hs
 replace o0:(vSlice vStr 9).rd w [s0] (marks zqz 1 k n):=o0
 replace o1:(vSlice vStr 9).rd w [s1] (marks zqz 1 (k+(n:Int)) m):=o1
 obtain ⟨a0,c0,rfl⟩:=vSlice.form o0
 obtain ⟨a1,c1,rfl⟩:=vSlice.form o1
 have O0:=Hd o0
 have O1:=Hd o1
 clear o0 o1
 have hn0:¬ k+(n:Int)<0:=by omega
 have hn1:¬ k+(n:Int)+(m:Int)<0:=by omega
 go_enter Tryz.func18,Tryz.ntmps18
 go_wp2_with fail
 (go_at_call 43;refine (zqq _ k n _ (by (skip);(repeat (first|with_reducible exact O0.out|with_reducible apply View.rdAlloc));all_goals exact (0:Nat)) h0 (by omega)).mono ?_;rintro e w' ⟨rfl,hb⟩;obtain ⟨X,rfl⟩:=hb.ext;clear hb)
 go_wp2_with fail
 (go_at_call 43;refine (zqq _ _ m _ (by (skip);(repeat (first|with_reducible exact O1.out|with_reducible apply View.rdExt|with_reducible apply View.rdAlloc));all_goals exact (0:Nat)) (by omega) (by omega)).mono ?_;rintro e w' ⟨rfl,hb⟩;obtain ⟨X,rfl⟩:=hb.ext;clear hb)
 go_wp2
 go_ret
 exact ⟨zgB (by omega),(by repeat (first|with_reducible exact Below.refl _ _|with_reducible apply Below.ofExt|with_reducible apply Below.ofAlloc))⟩
end Go.Proofs.YtodokkpnafabpaaGreatDoor
