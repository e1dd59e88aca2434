/- Texts of this claim, merged: the walks and what they stand on. Each condition stands in its theorem. -/
import Derived.Laws.CopyOwn
import Derived.Laws.Externs
import Derived.Lib.AppendZerosOnto
import Derived.Lib.Overlaps
import Derived.Test.YtncnbihlngapbaaGreatCB20
set_option linter.unusedVariables false
set_option linter.unusedSimpArgs false
set_option maxRecDepth 100000
set_option maxHeartbeats 8000000
namespace Go.Proofs.YtncnbihlngapbaaGreat
open Go.ChangeShapes Go.WideShapes Go.ChangeAt Go.RowKit
theorem zdC:Elem Tryz.prog 32 63 6 72:=Elem.of (.agg #[.int .i64 0,.string ⟨#[]⟩,.string ⟨#[]⟩,.int .i64 0,.int .i64 0,.string ⟨#[]⟩]) Tryz.underlying32 (by kernel_rfl) rfl (by decide)
theorem zep:Elem Tryz.prog 33 59 3 32:=Elem.of (.agg #[.int .i64 0,.int .i64 0,.string ⟨#[]⟩]) Tryz.underlying33 (by kernel_rfl) rfl (by decide)
theorem zem:Elem Tryz.prog 25 9 1 16:=Elem.of (.string ⟨#[]⟩) Tryz.underlying25 (by kernel_rfl) rfl (by decide)
theorem zeo:Elem Tryz.prog 30 3 1 8:=Elem.of (.int .i64 0) Tryz.underlying30 (by kernel_rfl) rfl (by decide)
theorem zi6 {P:Program} {e:TypeId} {zv:Value} (h:(P.info? e).map (fun i=>i.zero)=some (some zv)) (hc:∀ u ∈ zv.cells,∀ s,u=.string s->s.size=0):∀ i z,P.info? e=some i->i.zero=some z->∀ u ∈ z.cells,∀ s,u=.string s->s.size=0:=by
 intro i z hi hz
 rw [hi] at h
 simp only [Option.map_some,hz,Option.some.injEq] at h
 subst h
 exact hc
theorem zdB:∀ i z,Tryz.prog.info? 63=some i->i.zero=some z->∀ u ∈ z.cells,∀ s,u=.string s->s.size=0 :=
 zi6 (zv:=.agg #[.int .i64 0,.string ⟨#[]⟩,.string ⟨#[]⟩,.int .i64 0,.int .i64 0,.string ⟨#[]⟩]) (by kernel_rfl) (by
  intro u hu s hs
  subst hs
  have hu:(Value.string s) ∈ (#[.int .i64 0,.string ⟨#[]⟩,.string ⟨#[]⟩,.int .i64 0,.int .i64 0,.string ⟨#[]⟩]:Array Value):=hu
  simp at hu
  rw [hu]
  rfl)
theorem zel:∀ i z,Tryz.prog.info? 59=some i->i.zero=some z->∀ u ∈ z.cells,∀ s,u=.string s->s.size=0 :=
 zi6 (zv:=.agg #[.int .i64 0,.int .i64 0,.string ⟨#[]⟩]) (by kernel_rfl) (by
  intro u hu s hs
  subst hs
  have hu:(Value.string s) ∈ (#[.int .i64 0,.int .i64 0,.string ⟨#[]⟩]:Array Value):=hu
  simp at hu
  rw [hu]
  rfl)
theorem RdF.setB {n:Nat} {W:World} {v:Value} {xs:List ByteArray} (h:RdF n W v xs) {p:Nat} (hp:p<n) (o:Obj):RdF n (W.setB p o) v xs:=⟨h.1.setB (fun e=>by have:=h.2 p e;omega) o,h.2⟩
theorem RdF.base {n n':Nat} {W:World} {v:Value} {xs:List ByteArray} (h:RdF n W v xs) (hn:n'<=n):RdF n' W v xs:=⟨h.1,fun k hk=>Nat.le_trans hn (h.2 k hk)⟩
theorem zbi {α β : Type} {R:RowOf α} {R':RowOf β} {e e':TypeId} {w:World} {B B':Nat} {v v':Value} {xs:List α} {ys:List β} (h:OwnL R e w B v xs) (h':OwnL R' e' w B' v' ys) (he:e ≠ e'):v.ownBlock=none ∨ v.ownBlock ≠ v'.ownBlock:=by
 rcases h.2 with ⟨rfl,_⟩|⟨g,cap,cur,rfl,_,hh,_⟩
 ·exact .inl rfl
 ·refine .inr fun q=>?_
  rcases h'.2 with ⟨rfl,_⟩|⟨g',cap',cur',rfl,_,hh',_⟩
  ·simp [Value.ownBlock] at q
  ·have q:g=g':=by simpa [Value.ownBlock] using q
   subst q
   rw [hh] at hh'
   injection hh' with hh'
   injection hh' with _ hh'
   exact he hh'
def zcj:RowOf CallD:=⟨CallD.row,6,fun _=>rfl,fun d u hu=>by simp [CallD.row] at hu;rcases hu with rfl|rfl|rfl|rfl|rfl|rfl<;>rfl⟩
structure TxO (w:World) (B:Nat) (x:TxR) (d:TxD):Prop where
 id:x.id=d.id
 age:x.age=d.age
 proc:x.proc=d.proc
 began:x.began=d.began
 state:x.state=d.state
 calls:OwnL zcj 63 w B x.calls.v d.calls
 answers:OwnL zbD 59 w B x.answers.v d.answers
 tr:RdF B w x.tr.v d.touch.reads
 tw:RdF B w x.tw.v d.touch.writes
 marks:OwnL zbY 3 w B x.marks.v d.marks
 off:∀ o,o=x.calls.v ∨ o=x.answers.v ∨ o=x.marks.v->Off d.touch.reads x.tr.v o/\Off d.touch.writes x.tw.v o
 sc:Spare w x.calls.v (d.calls.length*6)
 sa:Spare w x.answers.v (d.answers.length*3)
structure TxN (w:World) (x:TxR) (d:TxD):Prop where
 id:x.id=d.id
 age:x.age=d.age
 proc:x.proc=d.proc
 began:x.began=d.began
 state:x.state=d.state
 calls:RdL zcj w x.calls.v d.calls
 answers:RdL zbD w x.answers.v d.answers
 tr:RdL zH w x.tr.v d.touch.reads
 tw:RdL zH w x.tw.v d.touch.writes
 marks:RdL zbY w x.marks.v d.marks
 lens:d.calls.length<=1000/\d.answers.length<=1000/\d.touch.reads.length<=549755813888/\d.touch.writes.length<=549755813888/\d.marks.length<=1000
theorem za6 {α : Type} (R:RowOf α) (e:TypeId) (w:World) (g B:Nat) (hg:g=w.heap.size) (hB:B<=w.heap.size):OwnL R e (w.alloc (.cells #[] e)) B (.slice (some ⟨g,0,none⟩) 0 0) []:=by
 subst hg
 exact (OwnL.empty R e w).base hB
structure KI (w:World) (xid xage xproc xbegan xs:Int) (a1 a2 r0 s0 m0:Option Addr) (n1 c1 n2 c2 rn rc sn sc mn mc:Nat) (cl:List CallD) (an:List AnswerD) (rs ws:List ByteArray) (n0:Nat) (L:Array Bool) (W:World) (x13 x14 x15 x16 x17 x18 x19 x20 x21 x22 x23 x24:Value):Prop where
 sz:L.size=13
 bel:Below w.heap.size w W
 P:W.heap[w.heap.size]?=some (.cells #[.int .i64 xid,.int .i64 xage,.int .i64 xproc,.int .i64 xbegan,.slice a1 n1 c1,.slice a2 n2 c2,.slice r0 rn rc,.slice s0 sn sc,.slice m0 mn mc,.int .i64 xs] 35 (0,0))
 R:W.heap[w.heap.size+1]?=some (.cells #[.int .i64 0,.int .i64 0,.int .i64 0,.int .i64 0,.slice none 0 0,.slice none 0 0,.slice none 0 0,.slice none 0 0,.slice none 0 0,.int .i64 0] 35 (0,0))
 o1:OwnL zcj 63 W (w.heap.size+2) (.slice a1 n1 c1) cl
 o2:OwnL zbD 59 W (w.heap.size+2) (.slice a2 n2 c2) an
 s1_:Spare W (.slice a1 n1 c1) (cl.length*6)
 s2_:Spare W (.slice a2 n2 c2) (an.length*3)
 s0_:n0<=W.heap.size
 q0:RdL zH W (.slice r0 rn rc) rs
 q1:RdL zH W (.slice s0 sn sc) ws
 f0:L.getD 0 false=true->∃ b,x13=.slice (some ⟨b,0,none⟩) 0 0/\n0<=b/\W.heap[b]?=some (.cells #[] 9 (0,0))/\OwnL zH 9 W n0 x13 []
 f1:L.getD 1 false=true->x14=.pointer (some ⟨w.heap.size,6,none⟩)
 f2:L.getD 2 false=true->x15=.pointer (some ⟨w.heap.size,6,none⟩)
 f3:L.getD 3 false=true->x16=.slice r0 rn rc
 f4:L.getD 4 false=true->RdF n0 W x17 rs
 f5:L.getD 5 false=true->∃ b,x18=.slice (some ⟨b,0,none⟩) 0 0/\n0<=b/\W.heap[b]?=some (.cells #[] 9 (0,0))/\OwnL zH 9 W n0 x18 []
 f6:L.getD 6 false=true->x19=.pointer (some ⟨w.heap.size,6,none⟩)
 f7:L.getD 7 false=true->x20=.pointer (some ⟨w.heap.size,7,none⟩)
 f8:L.getD 8 false=true->x21=.slice s0 sn sc
 f9:L.getD 9 false=true->RdF n0 W x22 ws
 f10:L.getD 10 false=true->∃ y z,x23=.agg #[y,z]/\RdF n0 W y rs/\RdF n0 W z ws
 f11:L.getD 11 false=true->x24=.pointer (some ⟨w.heap.size,6,none⟩)
section
variable {w:World} {xid xage xproc xbegan xs:Int} {a1 a2 r0 s0 m0:Option Addr} {n1 c1 n2 c2 rn rc sn sc mn mc:Nat} {cl:List CallD} {an:List AnswerD} {rs ws:List ByteArray} {n0:Nat} {L:Array Bool} {W W':World} {x13 x14 x15 x16 x17 x18 x19 x20 x21 x22 x23 x24:Value}
theorem KI.grow (h:KI w xid xage xproc xbegan xs a1 a2 r0 s0 m0 n1 c1 n2 c2 rn rc sn sc mn mc cl an rs ws n0 L W x13 x14 x15 x16 x17 x18 x19 x20 x21 x22 x23 x24) (hb:Below W.heap.size W W'):KI w xid xage xproc xbegan xs a1 a2 r0 s0 m0 n1 c1 n2 c2 rn rc sn sc mn mc cl an rs ws n0 L W' x13 x14 x15 x16 x17 x18 x19 x20 x21 x22 x23 x24:=by
 have G:=fun {k:Nat} {o:Obj} (hk:W.heap[k]?=some o)=>(Grew.below hb k (zb hk)).trans hk
 refine ⟨h.sz,Below.then h.bel hb,G h.P,G h.R,zau h.o1 hb,zau h.o2 hb,h.s1_.frame (fun q hq=>Grew.below hb q (h.o1.lt q hq).2),h.s2_.frame (fun q hq=>Grew.below hb q (h.o2.lt q hq).2),Nat.le_trans h.s0_ hb.size,h.q0.below hb,h.q1.below hb,fun k=>?_,h.f1,h.f2,h.f3,fun k=>((h.f4 k)).below hb,fun k=>?_,h.f6,h.f7,h.f8,fun k=>((h.f9 k)).below hb,fun k=>?_,h.f11⟩
 ·obtain ⟨b,e,h1,h2,h3⟩:=(h.f0 k);exact ⟨b,e,h1,G h2,zau h3 hb⟩
 ·obtain ⟨b,e,h1,h2,h3⟩:=(h.f5 k);exact ⟨b,e,h1,G h2,zau h3 hb⟩
 ·obtain ⟨y,z,e,h1,h2⟩:=(h.f10 k);exact ⟨y,z,e,h1.below hb,h2.below hb⟩
theorem KI.set (h:KI w xid xage xproc xbegan xs a1 a2 r0 s0 m0 n1 c1 n2 c2 rn rc sn sc mn mc cl an rs ws n0 L W x13 x14 x15 x16 x17 x18 x19 x20 x21 x22 x23 x24) {i:Nat} (hi:i<13)  {y13 y14 y15 y16 y17 y18 y19 y20 y21 y22 y23 y24:Value}
  (e0:if i=0 then ∃ b,y13=.slice (some ⟨b,0,none⟩) 0 0/\n0<=b/\W.heap[b]?=some (.cells #[] 9 (0,0))/\OwnL zH 9 W n0 y13 [] else y13=x13)
  (e1:if i=1 then y14=.pointer (some ⟨w.heap.size,6,none⟩) else y14=x14)
  (e2:if i=2 then y15=.pointer (some ⟨w.heap.size,6,none⟩) else y15=x15)
  (e3:if i=3 then y16=.slice r0 rn rc else y16=x16)
  (e4:if i=4 then RdF n0 W y17 rs else y17=x17)
  (e5:if i=5 then ∃ b,y18=.slice (some ⟨b,0,none⟩) 0 0/\n0<=b/\W.heap[b]?=some (.cells #[] 9 (0,0))/\OwnL zH 9 W n0 y18 [] else y18=x18)
  (e6:if i=6 then y19=.pointer (some ⟨w.heap.size,6,none⟩) else y19=x19)
  (e7:if i=7 then y20=.pointer (some ⟨w.heap.size,7,none⟩) else y20=x20)
  (e8:if i=8 then y21=.slice s0 sn sc else y21=x21)
  (e9:if i=9 then RdF n0 W y22 ws else y22=x22)
  (e10:if i=10 then ∃ y z,y23=.agg #[y,z]/\RdF n0 W y rs/\RdF n0 W z ws else y23=x23)
  (e11:if i=11 then y24=.pointer (some ⟨w.heap.size,6,none⟩) else y24=x24) :
  KI w xid xage xproc xbegan xs a1 a2 r0 s0 m0 n1 c1 n2 c2 rn rc sn sc mn mc cl an rs ws n0 (L.setIfInBounds i true) W y13 y14 y15 y16 y17 y18 y19 y20 y21 y22 y23 y24:=by
 have up:∀ j,L.getD j false=true->(L.setIfInBounds i true).getD j false=true:=fun j hj=>by
  by_cases hx:i=j
  ·subst hx;exact zaN (by have:=h.sz;omega)
  ·rw [zj hx];exact hj
 refine ⟨by rw [Array.size_setIfInBounds];exact h.sz,h.bel,h.P,h.R,h.o1,h.o2,h.s1_,h.s2_,h.s0_,h.q0,h.q1,fun k=>?_,fun k=>?_,fun k=>?_,fun k=>?_,fun k=>?_,fun k=>?_,fun k=>?_,fun k=>?_,fun k=>?_,fun k=>?_,fun k=>?_,fun k=>?_⟩
 ·by_cases hx:i=0
  ·rwa [if_pos hx] at e0
  ·rw [if_neg hx] at e0;rw [zj hx] at k;rw [e0];exact h.f0 k
 ·by_cases hx:i=1
  ·rwa [if_pos hx] at e1
  ·rw [if_neg hx] at e1;rw [zj hx] at k;rw [e1];exact h.f1 k
 ·by_cases hx:i=2
  ·rwa [if_pos hx] at e2
  ·rw [if_neg hx] at e2;rw [zj hx] at k;rw [e2];exact h.f2 k
 ·by_cases hx:i=3
  ·rwa [if_pos hx] at e3
  ·rw [if_neg hx] at e3;rw [zj hx] at k;rw [e3];exact h.f3 k
 ·by_cases hx:i=4
  ·rwa [if_pos hx] at e4
  ·rw [if_neg hx] at e4;rw [zj hx] at k;rw [e4];exact h.f4 k
 ·by_cases hx:i=5
  ·rwa [if_pos hx] at e5
  ·rw [if_neg hx] at e5;rw [zj hx] at k;rw [e5];exact h.f5 k
 ·by_cases hx:i=6
  ·rwa [if_pos hx] at e6
  ·rw [if_neg hx] at e6;rw [zj hx] at k;rw [e6];exact h.f6 k
 ·by_cases hx:i=7
  ·rwa [if_pos hx] at e7
  ·rw [if_neg hx] at e7;rw [zj hx] at k;rw [e7];exact h.f7 k
 ·by_cases hx:i=8
  ·rwa [if_pos hx] at e8
  ·rw [if_neg hx] at e8;rw [zj hx] at k;rw [e8];exact h.f8 k
 ·by_cases hx:i=9
  ·rwa [if_pos hx] at e9
  ·rw [if_neg hx] at e9;rw [zj hx] at k;rw [e9];exact h.f9 k
 ·by_cases hx:i=10
  ·rwa [if_pos hx] at e10
  ·rw [if_neg hx] at e10;rw [zj hx] at k;rw [e10];exact h.f10 k
 ·by_cases hx:i=11
  ·rwa [if_pos hx] at e11
  ·rw [if_neg hx] at e11;rw [zj hx] at k;rw [e11];exact h.f11 k
end
theorem zeG (x:TxR) (d:TxD) (w:World) (h:TxN w x d) :
  Calls Tryz.prog 52 #[x.v] w fun e w'=>∃ y:TxR,e=.returned y.v/\TxO w' w.heap.size y d/\Below w.heap.size w w':=by
 obtain ⟨hid,hage,hproc,hbegan,hstate,h0,h1,h2,h3,h4,hl0,hl1,hl2,hl3,hl4⟩:=h
 obtain ⟨xid,xage,xproc,xbegan,xc,xa,xr,xw,xm,xs⟩:=x
 dsimp only at hid hage hproc hbegan hstate h0 h1 h2 h3 h4
 unfold TxR.v Raw.v
 unfold Raw.v at h0 h1 h2 h3 h4
 dsimp only
 have H0:=Hd h0
 have H1:=Hd h1
 have H2:=Hd h2
 have H3:=Hd h3
 have H4:=Hd h4
 have HS:=Hd (And.intro hid (And.intro hage (And.intro hproc (And.intro hbegan hstate))))
 clear h0 h1 h2 h3 h4 hid hage hproc hbegan hstate
 go_enter Tryz.func52,Tryz.ntmps52
 go_wp2_with (at_builtin;refine zP ?_)
 refine zcG rfl _ _ _ rfl (R:=zcj) (e:=63) zdC zdB (B:=w.heap.size+2) (za6 zcj 63 ((w.alloc _).alloc _) _ _ (by simp [zd]) (by simp [zd]<;>omega)) (Spare.empty (by simp [zd])) rfl (((H0.out.alloc _).alloc _).alloc _) rfl (by simp only [List.length_nil];omega) (by simp only [List.length_nil];unfold maxLen;omega) (by simp [zd]<;>omega) ?_
 intro v1 w1 o1 g1 _ S1 _
 rw [List.nil_append] at S1
 rw [List.nil_append] at o1
 have b1:Below w.heap.size w w1:=Below.appL (a:=w) (R:=zcj) (e:=63) ((by repeat (first|with_reducible exact Below.refl _ _|with_reducible apply Below.ofExt|with_reducible apply Below.ofAlloc|with_reducible apply Below.drew|with_reducible apply Below.ofDrewN|with_reducible assumption|(with_reducible refine Below.setCell ?_ (by first|exact Nat.le_refl _|(simp [go_sem];done)|(simp [go_sem];omega)) _)))) g1 (za6 zcj 63 ((w.alloc _).alloc _) _ _ (by simp [zd]) (by simp [zd]<;>omega))
 have P1:=(g1.block w.heap.size (by simp [zd]<;>omega) (by simp [Value.ownBlock]<;>omega)).trans ((Below.heap_alloc _ _ _ (by simp;omega)).trans ((Below.heap_alloc _ _ _ (by simp)).trans (World.alloc_new _ _)))
 have R1:=(g1.block (w.heap.size+1) (by simp [zd]<;>omega) (by simp [Value.ownBlock]<;>omega)).trans ((Below.heap_alloc _ _ _ (by simp)).trans (zcl (by simp)))
 have l1:=zb P1
 have m1:=zb R1
 obtain ⟨a1,c1,rfl⟩:=o1.rd.form
 have O1:=Hd o1
 have S1:=Hd S1
 clear o1 g1
 rw [<- zi P1]
 clear P1
 go_wp2_with (at_builtin;refine zP ?_)
 refine zcG rfl _ _ _ rfl (R:=zbD) (e:=59) zep zel (B:=w.heap.size+2) (za6 zbD 59 (w1.setB w.heap.size _) _ _ (by simp [zd]) (by simp [zd]<;>omega)) (Spare.empty (by simp [zd])) rfl (H1.out.below ((zp b1 (Nat.le_refl _) _).ofAlloc _)) rfl (by simp only [List.length_nil];omega) (by simp only [List.length_nil];unfold maxLen;omega) (by simp [zd]<;>omega) ?_
 intro v2 w2 o2 g2 _ S2 _
 rw [List.nil_append] at S2
 rw [List.nil_append] at o2
 have b2:Below w.heap.size w w2:=Below.appL (a:=w) (R:=zbD) (e:=59) ((zp b1 (Nat.le_refl _) _).ofAlloc _) g2 (za6 zbD 59 (w1.setB w.heap.size _) _ _ (by simp [zd]) (by simp [zd]<;>omega))
 have P2:=(g2.block w.heap.size (by simp [zd]<;>omega) (by simp [Value.ownBlock]<;>omega)).trans ((Below.heap_alloc _ _ _ (by simp only [zd];omega)).trans (World.setB_at _ _ _ l1))
 have R2:=(g2.block (w.heap.size+1) (by simp [zd]<;>omega) (by simp [Value.ownBlock]<;>omega)).trans ((Below.heap_alloc _ _ _ (by simp only [zd];omega)).trans ((World.setB_get _ _ _ _ (by omega)).trans R1))
 have l2:=zb P2
 have m2:=zb R2
 have S1:=Hd (S1.out.frame fun q hq=>(g2.block q (by have:=(O1.out.lt _ hq).2;simp [zd];omega) (fun e=>by have:=(O1.out.lt _ hq).2;simp [Value.ownBlock] at e;omega)).trans ((Below.heap_alloc _ _ _ (by have:=(O1.out.lt _ hq).2;simp [zd];omega)).trans (World.setB_get _ _ _ _ (by have:=(O1.out.lt _ hq).1;omega))))
 have O1:=Hd (OwnL.kept ((O1.out.setB (fun e=>by have:=(O1.out.lt _ e).1;omega) _).alloc _) g2 (.inr fun e=>by have:=(O1.out.lt _ (by simpa [Value.ownBlock] using e)).2;omega))
 obtain ⟨a2,c2,rfl⟩:=o2.rd.form
 have O2:=Hd o2
 have S2:=Hd S2
 clear o2 g2 b1 R1 l1 m1
 rw [<- zi P2]
 clear P2
 go_wp2_with fail
 have C1:=Hd (fun k hk=>(O1.out.lt k hk).2)
 have C2:=Hd (fun k hk=>(O2.out.lt k hk).2)
 refine zaF (fun L a W=>(L.getD 12 false=false/\∃ x13 x14 x15 x16 x17 x18 x19 x20 x21 x22 x23 x24,a=⟨#[.agg #[.int .i64 xid,.int .i64 xage,.int .i64 xproc,.int .i64 xbegan,.slice xc.a xc.n xc.cap,.slice xa.a xa.n xa.cap,.slice xr.a xr.n xr.cap,.slice xw.a xw.n xw.cap,.slice xm.a xm.n xm.cap,.int .i64 xs],.pointer (some ⟨w.heap.size,0,none⟩),.pointer (some ⟨w.heap.size+1,0,none⟩),.slice (some ⟨w.heap.size+1+1,0,none⟩) 0 0,.pointer (some ⟨w.heap.size,4,none⟩),.slice xc.a xc.n xc.cap,.slice a1 d.calls.length c1,.pointer (some ⟨w.heap.size,4,none⟩),.slice (some ⟨w1.heap.size,0,none⟩) 0 0,.pointer (some ⟨w.heap.size,5,none⟩),.slice xa.a xa.n xa.cap,.slice a2 d.answers.length c2,.pointer (some ⟨w.heap.size,5,none⟩),x13,x14,x15,x16,x17,x18,x19,x20,x21,x22,x23,x24,undef,undef,undef,undef,undef,undef],[]⟩/\KI w xid xage xproc xbegan xs a1 a2 xr.a xw.a xm.a d.calls.length c1 d.answers.length c2 xr.n xr.cap xw.n xw.cap xm.n xm.cap d.calls d.answers d.touch.reads d.touch.writes w2.heap.size L W x13 x14 x15 x16 x17 x18 x19 x20 x21 x22 x23 x24) ∨ ((∀ j,j<13->L.getD j false=true)/\∃ x13 x14 x15 x16 x17 x18 x19 x20 x21 x22 x23 x24 a3 c3 a4 c4,a=⟨#[.agg #[.int .i64 xid,.int .i64 xage,.int .i64 xproc,.int .i64 xbegan,.slice xc.a xc.n xc.cap,.slice xa.a xa.n xa.cap,.slice xr.a xr.n xr.cap,.slice xw.a xw.n xw.cap,.slice xm.a xm.n xm.cap,.int .i64 xs],.pointer (some ⟨w.heap.size,0,none⟩),.pointer (some ⟨w.heap.size+1,0,none⟩),.slice (some ⟨w.heap.size+1+1,0,none⟩) 0 0,.pointer (some ⟨w.heap.size,4,none⟩),.slice xc.a xc.n xc.cap,.slice a1 d.calls.length c1,.pointer (some ⟨w.heap.size,4,none⟩),.slice (some ⟨w1.heap.size,0,none⟩) 0 0,.pointer (some ⟨w.heap.size,5,none⟩),.slice xa.a xa.n xa.cap,.slice a2 d.answers.length c2,.pointer (some ⟨w.heap.size,5,none⟩),x13,x14,x15,x16,x17,x18,x19,x20,x21,x22,x23,x24,undef,undef,undef,undef,undef,undef],[]⟩/\Below w.heap.size w W/\W.heap[w.heap.size]?=some (.cells #[.int .i64 xid,.int .i64 xage,.int .i64 xproc,.int .i64 xbegan,.slice a1 d.calls.length c1,.slice a2 d.answers.length c2,.slice a3 d.touch.reads.length c3,.slice a4 d.touch.writes.length c4,.slice xm.a xm.n xm.cap,.int .i64 xs] 35 (0,0))/\W.heap[w.heap.size+1]?=some (.cells #[.int .i64 0,.int .i64 0,.int .i64 0,.int .i64 0,.slice none 0 0,.slice none 0 0,.slice none 0 0,.slice none 0 0,.slice none 0 0,.int .i64 0] 35 (0,0))/\OwnL zcj 63 W (w.heap.size+2) (.slice a1 d.calls.length c1) d.calls/\OwnL zbD 59 W (w.heap.size+2) (.slice a2 d.answers.length c2) d.answers/\Spare W (.slice a1 d.calls.length c1) (d.calls.length*6)/\Spare W (.slice a2 d.answers.length c2) (d.answers.length*3)/\RdF w2.heap.size W (.slice a3 d.touch.reads.length c3) d.touch.reads/\RdF w2.heap.size W (.slice a4 d.touch.writes.length c4) d.touch.writes)) (by kernel_rfl) ?_ ?_ ?_
 ·have N:∀ j,¬ (Array.replicate 13 false).getD j false=true:=zc3 13
  refine .inl ⟨rfl,_,_,_,_,_,_,_,_,_,_,_,_,rfl,⟨by simp,(Below.drew (zp b2 (Nat.le_refl _) _)),World.setB_at _ _ _ l2,(World.setB_get _ _ _ _ (by omega)).trans R2,O1.out.setB (fun e=>by have:=(O1.out.lt _ e).1;omega) _,O2.out.setB (fun e=>by have:=(O2.out.lt _ e).1;omega) _,S1.out.frame (fun q hq=>World.setB_get _ _ _ _ (by have:=(O1.out.lt _ hq).1;omega)),S2.out.frame (fun q hq=>World.setB_get _ _ _ _ (by have:=(O2.out.lt _ hq).1;omega)),Nat.le_of_eq (zd _ _ _).symm,H2.out.below (Below.drew (zp b2 (Nat.le_refl _) _)),H3.out.below (Below.drew (zp b2 (Nat.le_refl _) _)),fun k=>absurd k (N _),fun k=>absurd k (N _),fun k=>absurd k (N _),fun k=>absurd k (N _),fun k=>absurd k (N _),fun k=>absurd k (N _),fun k=>absurd k (N _),fun k=>absurd k (N _),fun k=>absurd k (N _),fun k=>absurd k (N _),fun k=>absurd k (N _),fun k=>absurd k (N _)⟩⟩
 ·rintro L a W i (⟨h12,x13,x14,x15,x16,x17,x18,x19,x20,x21,x22,x23,x24,rfl,H⟩|⟨hall,hrest⟩) hi
  case inr =>
   have hlt:=zbN hi
   have hun:=zbM hi
   rw [hall i hlt] at hun
   cases hun
  have hlt:=zbN hi
  have hun:=zbM hi
  have hW:Hid (∀ j,zbL _ i j=true->L.getD j false=true):=fun j h=>za1 hi h
  have h13:i<13:=hlt
  clear hlt hi
  have hsz:=H.bel.size
  have hz0:=zb H.P
  have hz1:=zb H.R
  have hcs:i=0 ∨ i=1 ∨ i=2 ∨ i=3 ∨ i=4 ∨ i=5 ∨ i=6 ∨ i=7 ∨ i=8 ∨ i=9 ∨ i=10 ∨ i=11 ∨ i=12:=by omega
  clear h13
  rcases hcs with rfl|rfl|rfl|rfl|rfl|rfl|rfl|rfl|rfl|rfl|rfl|rfl|rfl
  ·refine zz rfl (fun K hK=>?_)
   go_simp
   refine hK _ _ (.inl ⟨(zj (by decide)).trans h12,_,_,_,_,_,_,_,_,_,_,_,_,rfl,(H.grow (Below.ofAlloc (Below.refl _ _) _)).set (i:=0) (by decide) (by rw [if_pos rfl];exact ⟨_,rfl,H.s0_,heap_alloc_new _ _,OwnL.base (OwnL.empty zH _ _) H.s0_⟩) (by first|(simp;done)|(rw [if_neg (by decide)];rfl)) (by first|(simp;done)|(rw [if_neg (by decide)];rfl)) (by first|(simp;done)|(rw [if_neg (by decide)];rfl)) (by first|(simp;done)|(rw [if_neg (by decide)];rfl)) (by first|(simp;done)|(rw [if_neg (by decide)];rfl)) (by first|(simp;done)|(rw [if_neg (by decide)];rfl)) (by first|(simp;done)|(rw [if_neg (by decide)];rfl)) (by first|(simp;done)|(rw [if_neg (by decide)];rfl)) (by first|(simp;done)|(rw [if_neg (by decide)];rfl)) (by first|(simp;done)|(rw [if_neg (by decide)];rfl)) (by first|(simp;done)|(rw [if_neg (by decide)];rfl))⟩)
  ·refine zz rfl (fun K hK=>?_)
   go_simp
   refine hK _ _ (.inl ⟨(zj (by decide)).trans h12,_,_,_,_,_,_,_,_,_,_,_,_,rfl,H.set (i:=1) (by decide) (by first|(simp;done)|(rw [if_neg (by decide)];rfl)) (by rw [if_pos rfl]) (by first|(simp;done)|(rw [if_neg (by decide)];rfl)) (by first|(simp;done)|(rw [if_neg (by decide)];rfl)) (by first|(simp;done)|(rw [if_neg (by decide)];rfl)) (by first|(simp;done)|(rw [if_neg (by decide)];rfl)) (by first|(simp;done)|(rw [if_neg (by decide)];rfl)) (by first|(simp;done)|(rw [if_neg (by decide)];rfl)) (by first|(simp;done)|(rw [if_neg (by decide)];rfl)) (by first|(simp;done)|(rw [if_neg (by decide)];rfl)) (by first|(simp;done)|(rw [if_neg (by decide)];rfl)) (by first|(simp;done)|(rw [if_neg (by decide)];rfl))⟩)
  ·obtain rfl:=H.f1 (hW.out 1 (by kernel_rfl))
   refine zz rfl (fun K hK=>?_)
   go_simp
   refine hK _ _ (.inl ⟨(zj (by decide)).trans h12,_,_,_,_,_,_,_,_,_,_,_,_,rfl,H.set (i:=2) (by decide) (by first|(simp;done)|(rw [if_neg (by decide)];rfl)) (by first|(simp;done)|(rw [if_neg (by decide)];rfl)) (by rw [if_pos rfl]) (by first|(simp;done)|(rw [if_neg (by decide)];rfl)) (by first|(simp;done)|(rw [if_neg (by decide)];rfl)) (by first|(simp;done)|(rw [if_neg (by decide)];rfl)) (by first|(simp;done)|(rw [if_neg (by decide)];rfl)) (by first|(simp;done)|(rw [if_neg (by decide)];rfl)) (by first|(simp;done)|(rw [if_neg (by decide)];rfl)) (by first|(simp;done)|(rw [if_neg (by decide)];rfl)) (by first|(simp;done)|(rw [if_neg (by decide)];rfl)) (by first|(simp;done)|(rw [if_neg (by decide)];rfl))⟩)
  ·obtain rfl:=H.f2 (hW.out 2 (by kernel_rfl))
   have p0:W.cell? ⟨w.heap.size,6,none⟩=some (.slice xr.a xr.n xr.cap):=(zg (i:=6) H.P).trans rfl
   refine zz rfl (fun K hK=>?_)
   go_simp
   refine hK _ _ (.inl ⟨(zj (by decide)).trans h12,_,_,_,_,_,_,_,_,_,_,_,_,rfl,H.set (i:=3) (by decide) (by first|(simp;done)|(rw [if_neg (by decide)];rfl)) (by first|(simp;done)|(rw [if_neg (by decide)];rfl)) (by first|(simp;done)|(rw [if_neg (by decide)];rfl)) (by rw [if_pos rfl]) (by first|(simp;done)|(rw [if_neg (by decide)];rfl)) (by first|(simp;done)|(rw [if_neg (by decide)];rfl)) (by first|(simp;done)|(rw [if_neg (by decide)];rfl)) (by first|(simp;done)|(rw [if_neg (by decide)];rfl)) (by first|(simp;done)|(rw [if_neg (by decide)];rfl)) (by first|(simp;done)|(rw [if_neg (by decide)];rfl)) (by first|(simp;done)|(rw [if_neg (by decide)];rfl)) (by first|(simp;done)|(rw [if_neg (by decide)];rfl))⟩)
  ·obtain ⟨b,rfl,hb,hg,ho⟩:=H.f0 (hW.out 0 (by kernel_rfl))
   obtain rfl:=H.f3 (hW.out 3 (by kernel_rfl))
   refine zz rfl (fun K hK=>?_)
   change Oper.wp _ _ _ _ _ _
   refine zgj (.tmp 13) (.tmp 16) _ rfl zem ho H.s0_ hg rfl H.q0 rfl (by omega) (by unfold maxLen;omega) ?_
   intro v' w' hr hbl hfr
   refine hK _ _ (.inl ⟨(zj (by decide)).trans h12,_,_,_,_,_,_,_,_,_,_,_,_,rfl,(H.grow hbl).set (i:=4) (by decide) (by first|(simp;done)|(rw [if_neg (by decide)];rfl)) (by first|(simp;done)|(rw [if_neg (by decide)];rfl)) (by first|(simp;done)|(rw [if_neg (by decide)];rfl)) (by first|(simp;done)|(rw [if_neg (by decide)];rfl)) (by rw [if_pos rfl];exact ⟨hr,hfr⟩) (by first|(simp;done)|(rw [if_neg (by decide)];rfl)) (by first|(simp;done)|(rw [if_neg (by decide)];rfl)) (by first|(simp;done)|(rw [if_neg (by decide)];rfl)) (by first|(simp;done)|(rw [if_neg (by decide)];rfl)) (by first|(simp;done)|(rw [if_neg (by decide)];rfl)) (by first|(simp;done)|(rw [if_neg (by decide)];rfl)) (by first|(simp;done)|(rw [if_neg (by decide)];rfl))⟩)
  ·refine zz rfl (fun K hK=>?_)
   go_simp
   refine hK _ _ (.inl ⟨(zj (by decide)).trans h12,_,_,_,_,_,_,_,_,_,_,_,_,rfl,(H.grow (Below.ofAlloc (Below.refl _ _) _)).set (i:=5) (by decide) (by first|(simp;done)|(rw [if_neg (by decide)];rfl)) (by first|(simp;done)|(rw [if_neg (by decide)];rfl)) (by first|(simp;done)|(rw [if_neg (by decide)];rfl)) (by first|(simp;done)|(rw [if_neg (by decide)];rfl)) (by first|(simp;done)|(rw [if_neg (by decide)];rfl)) (by rw [if_pos rfl];exact ⟨_,rfl,H.s0_,heap_alloc_new _ _,OwnL.base (OwnL.empty zH _ _) H.s0_⟩) (by first|(simp;done)|(rw [if_neg (by decide)];rfl)) (by first|(simp;done)|(rw [if_neg (by decide)];rfl)) (by first|(simp;done)|(rw [if_neg (by decide)];rfl)) (by first|(simp;done)|(rw [if_neg (by decide)];rfl)) (by first|(simp;done)|(rw [if_neg (by decide)];rfl)) (by first|(simp;done)|(rw [if_neg (by decide)];rfl))⟩)
  ·refine zz rfl (fun K hK=>?_)
   go_simp
   refine hK _ _ (.inl ⟨(zj (by decide)).trans h12,_,_,_,_,_,_,_,_,_,_,_,_,rfl,H.set (i:=6) (by decide) (by first|(simp;done)|(rw [if_neg (by decide)];rfl)) (by first|(simp;done)|(rw [if_neg (by decide)];rfl)) (by first|(simp;done)|(rw [if_neg (by decide)];rfl)) (by first|(simp;done)|(rw [if_neg (by decide)];rfl)) (by first|(simp;done)|(rw [if_neg (by decide)];rfl)) (by first|(simp;done)|(rw [if_neg (by decide)];rfl)) (by rw [if_pos rfl]) (by first|(simp;done)|(rw [if_neg (by decide)];rfl)) (by first|(simp;done)|(rw [if_neg (by decide)];rfl)) (by first|(simp;done)|(rw [if_neg (by decide)];rfl)) (by first|(simp;done)|(rw [if_neg (by decide)];rfl)) (by first|(simp;done)|(rw [if_neg (by decide)];rfl))⟩)
  ·obtain rfl:=H.f6 (hW.out 6 (by kernel_rfl))
   refine zz rfl (fun K hK=>?_)
   go_simp
   refine hK _ _ (.inl ⟨(zj (by decide)).trans h12,_,_,_,_,_,_,_,_,_,_,_,_,rfl,H.set (i:=7) (by decide) (by first|(simp;done)|(rw [if_neg (by decide)];rfl)) (by first|(simp;done)|(rw [if_neg (by decide)];rfl)) (by first|(simp;done)|(rw [if_neg (by decide)];rfl)) (by first|(simp;done)|(rw [if_neg (by decide)];rfl)) (by first|(simp;done)|(rw [if_neg (by decide)];rfl)) (by first|(simp;done)|(rw [if_neg (by decide)];rfl)) (by first|(simp;done)|(rw [if_neg (by decide)];rfl)) (by rw [if_pos rfl]) (by first|(simp;done)|(rw [if_neg (by decide)];rfl)) (by first|(simp;done)|(rw [if_neg (by decide)];rfl)) (by first|(simp;done)|(rw [if_neg (by decide)];rfl)) (by first|(simp;done)|(rw [if_neg (by decide)];rfl))⟩)
  ·obtain rfl:=H.f7 (hW.out 7 (by kernel_rfl))
   have p0:W.cell? ⟨w.heap.size,7,none⟩=some (.slice xw.a xw.n xw.cap):=(zg (i:=7) H.P).trans rfl
   refine zz rfl (fun K hK=>?_)
   go_simp
   refine hK _ _ (.inl ⟨(zj (by decide)).trans h12,_,_,_,_,_,_,_,_,_,_,_,_,rfl,H.set (i:=8) (by decide) (by first|(simp;done)|(rw [if_neg (by decide)];rfl)) (by first|(simp;done)|(rw [if_neg (by decide)];rfl)) (by first|(simp;done)|(rw [if_neg (by decide)];rfl)) (by first|(simp;done)|(rw [if_neg (by decide)];rfl)) (by first|(simp;done)|(rw [if_neg (by decide)];rfl)) (by first|(simp;done)|(rw [if_neg (by decide)];rfl)) (by first|(simp;done)|(rw [if_neg (by decide)];rfl)) (by first|(simp;done)|(rw [if_neg (by decide)];rfl)) (by rw [if_pos rfl]) (by first|(simp;done)|(rw [if_neg (by decide)];rfl)) (by first|(simp;done)|(rw [if_neg (by decide)];rfl)) (by first|(simp;done)|(rw [if_neg (by decide)];rfl))⟩)
  ·obtain ⟨b,rfl,hb,hg,ho⟩:=H.f5 (hW.out 5 (by kernel_rfl))
   obtain rfl:=H.f8 (hW.out 8 (by kernel_rfl))
   refine zz rfl (fun K hK=>?_)
   change Oper.wp _ _ _ _ _ _
   refine zgj (.tmp 18) (.tmp 21) _ rfl zem ho H.s0_ hg rfl H.q1 rfl (by omega) (by unfold maxLen;omega) ?_
   intro v' w' hr hbl hfr
   refine hK _ _ (.inl ⟨(zj (by decide)).trans h12,_,_,_,_,_,_,_,_,_,_,_,_,rfl,(H.grow hbl).set (i:=9) (by decide) (by first|(simp;done)|(rw [if_neg (by decide)];rfl)) (by first|(simp;done)|(rw [if_neg (by decide)];rfl)) (by first|(simp;done)|(rw [if_neg (by decide)];rfl)) (by first|(simp;done)|(rw [if_neg (by decide)];rfl)) (by first|(simp;done)|(rw [if_neg (by decide)];rfl)) (by first|(simp;done)|(rw [if_neg (by decide)];rfl)) (by first|(simp;done)|(rw [if_neg (by decide)];rfl)) (by first|(simp;done)|(rw [if_neg (by decide)];rfl)) (by first|(simp;done)|(rw [if_neg (by decide)];rfl)) (by rw [if_pos rfl];exact ⟨hr,hfr⟩) (by first|(simp;done)|(rw [if_neg (by decide)];rfl)) (by first|(simp;done)|(rw [if_neg (by decide)];rfl))⟩)
  ·have k4:=H.f4 (hW.out 4 (by kernel_rfl))
   have k9:=H.f9 (hW.out 9 (by kernel_rfl))
   obtain ⟨g0,d0,rfl⟩:=k4.form
   obtain ⟨g1,d1,rfl⟩:=k9.form
   refine zz rfl (fun K hK=>?_)
   go_simp
   refine hK _ _ (.inl ⟨(zj (by decide)).trans h12,_,_,_,_,_,_,_,_,_,_,_,_,rfl,H.set (i:=10) (by decide) (by first|(simp;done)|(rw [if_neg (by decide)];rfl)) (by first|(simp;done)|(rw [if_neg (by decide)];rfl)) (by first|(simp;done)|(rw [if_neg (by decide)];rfl)) (by first|(simp;done)|(rw [if_neg (by decide)];rfl)) (by first|(simp;done)|(rw [if_neg (by decide)];rfl)) (by first|(simp;done)|(rw [if_neg (by decide)];rfl)) (by first|(simp;done)|(rw [if_neg (by decide)];rfl)) (by first|(simp;done)|(rw [if_neg (by decide)];rfl)) (by first|(simp;done)|(rw [if_neg (by decide)];rfl)) (by first|(simp;done)|(rw [if_neg (by decide)];rfl)) (by rw [if_pos rfl];exact ⟨_,_,rfl,k4,k9⟩) (by first|(simp;done)|(rw [if_neg (by decide)];rfl))⟩)
  ·refine zz rfl (fun K hK=>?_)
   go_simp
   refine hK _ _ (.inl ⟨(zj (by decide)).trans h12,_,_,_,_,_,_,_,_,_,_,_,_,rfl,H.set (i:=11) (by decide) (by first|(simp;done)|(rw [if_neg (by decide)];rfl)) (by first|(simp;done)|(rw [if_neg (by decide)];rfl)) (by first|(simp;done)|(rw [if_neg (by decide)];rfl)) (by first|(simp;done)|(rw [if_neg (by decide)];rfl)) (by first|(simp;done)|(rw [if_neg (by decide)];rfl)) (by first|(simp;done)|(rw [if_neg (by decide)];rfl)) (by first|(simp;done)|(rw [if_neg (by decide)];rfl)) (by first|(simp;done)|(rw [if_neg (by decide)];rfl)) (by first|(simp;done)|(rw [if_neg (by decide)];rfl)) (by first|(simp;done)|(rw [if_neg (by decide)];rfl)) (by first|(simp;done)|(rw [if_neg (by decide)];rfl)) (by rw [if_pos rfl])⟩)
  ·obtain rfl:=H.f11 (hW.out 11 (by kernel_rfl))
   obtain ⟨y,z,rfl,k4,k9⟩:=H.f10 (hW.out 10 (by kernel_rfl))
   obtain ⟨a3,c3,rfl⟩:=k4.form
   obtain ⟨a4,c4,rfl⟩:=k9.form
   have hP:=H.P
   have e1:=zi hP
   refine zz rfl (fun K hK=>?_)
   rw [<- e1]
   clear e1
   go_simp
   refine hK _ _ (.inr ⟨fun j hj=>?_,_,_,_,_,_,_,_,_,_,_,_,_,a3,c3,a4,c4,rfl,zp H.bel (Nat.le_refl _) _,World.setB_at _ _ _ hz0,(World.setB_get _ _ _ _ (by omega)).trans H.R,H.o1.setB (fun e=>by have:=(H.o1.lt _ e).1;omega) _,H.o2.setB (fun e=>by have:=(H.o2.lt _ e).1;omega) _,H.s1_.frame (fun q hq=>World.setB_get _ _ _ _ (by have:=(H.o1.lt _ hq).1;omega)),H.s2_.frame (fun q hq=>World.setB_get _ _ _ _ (by have:=(H.o2.lt _ hq).1;omega)),k4.setB (by omega) _,k9.setB (by omega) _⟩)
   by_cases hj2:j=12
   ·subst hj2;exact zaN (by rw [H.sz];decide)
   ·rw [zj (by omega)]
    have:j=0 ∨ j=1 ∨ j=2 ∨ j=3 ∨ j=4 ∨ j=5 ∨ j=6 ∨ j=7 ∨ j=8 ∨ j=9 ∨ j=10 ∨ j=11:=by omega
    rcases this with rfl|rfl|rfl|rfl|rfl|rfl|rfl|rfl|rfl|rfl|rfl|rfl<;>exact hW.out _ (by kernel_rfl)
 ·rintro L a W (⟨h12,x13,x14,x15,x16,x17,x18,x19,x20,x21,x22,x23,x24,rfl,H⟩|⟨_,x13,x14,x15,x16,x17,x18,x19,x20,x21,x22,x23,x24,a3,c3,a4,c4,rfl,b4,P4,R4,o1,o2,s1_,s2_,T3,T4⟩) hr
  ·have hall:=za9 (ops:=_) H.sz hr (zaA (by kernel_rfl))
   have:=hall 12 (by decide)
   rw [h12] at this
   cases this
  clear hr O1 O2 S1 S2
  have S1:=Hd s1_
  have S2:=Hd s2_
  clear s1_ s2_
  have O1:=Hd o1
  have O2:=Hd o2
  have F3:=T3.1
  have F4:=T4.1
  have F3:=Hd F3
  have F4:=Hd F4
  have T3:=Hd T3
  have T4:=Hd T4
  have hz5:=zb R4
  have l4:=zb P4
  have m4:=zb R4
  clear o1 o2
  rw [<- zi P4]
  clear P4
  go_wp2_with (at_builtin;refine zP ?_)
  refine zR rfl _ _ _ rfl (R:=zbY) (e:=3) zeo (B:=W.heap.size) (za6 zbY 3 (W.setB w.heap.size _) _ _ (by simp [zd]) (by simp [zd]<;>omega)) rfl (H4.out.below ((zp b4 (Nat.le_refl _) _).ofAlloc _)) rfl (by simp only [List.length_nil];omega) (by simp only [List.length_nil];unfold maxLen;omega) (by simp [zd]<;>omega) ?_
  intro v5 w5 o5 g5 _
  rw [List.nil_append] at o5
  have b5:Below w.heap.size w w5:=Below.appL (a:=w) (R:=zbY) (e:=3) ((zp b4 (Nat.le_refl _) _).ofAlloc _) g5 (za6 zbY 3 (W.setB w.heap.size _) _ _ (by simp [zd]) (by simp [zd]<;>omega))
  have P5:=(g5.block w.heap.size (by simp [zd]<;>omega) (by simp [Value.ownBlock]<;>omega)).trans ((Below.heap_alloc _ _ _ (by simp only [zd];omega)).trans (World.setB_at _ _ _ l4))
  have R5:=(g5.block (w.heap.size+1) (by simp [zd]<;>omega) (by simp [Value.ownBlock]<;>omega)).trans ((Below.heap_alloc _ _ _ (by simp only [zd];omega)).trans ((World.setB_get _ _ _ _ (by omega)).trans R4))
  have l5:=zb P5
  have m5:=zb R5
  have S1:=Hd (S1.out.frame fun q hq=>(g5.block q (by have:=(O1.out.lt _ hq).2;simp [zd];omega) (fun e=>by have:=(O1.out.lt _ hq).2;simp [Value.ownBlock] at e;omega)).trans ((Below.heap_alloc _ _ _ (by have:=(O1.out.lt _ hq).2;simp [zd];omega)).trans (World.setB_get _ _ _ _ (by have:=(O1.out.lt _ hq).1;omega))))
  have S2:=Hd (S2.out.frame fun q hq=>(g5.block q (by have:=(O2.out.lt _ hq).2;simp [zd];omega) (fun e=>by have:=(O2.out.lt _ hq).2;simp [Value.ownBlock] at e;omega)).trans ((Below.heap_alloc _ _ _ (by have:=(O2.out.lt _ hq).2;simp [zd];omega)).trans (World.setB_get _ _ _ _ (by have:=(O2.out.lt _ hq).1;omega))))
  have O1:=Hd (OwnL.kept ((O1.out.setB (fun e=>by have:=(O1.out.lt _ e).1;omega) _).alloc _) g5 (.inr fun e=>by have:=(O1.out.lt _ (by simpa [Value.ownBlock] using e)).2;omega))
  have O2:=Hd (OwnL.kept ((O2.out.setB (fun e=>by have:=(O2.out.lt _ e).1;omega) _).alloc _) g5 (.inr fun e=>by have:=(O2.out.lt _ (by simpa [Value.ownBlock] using e)).2;omega))
  have q5:Below (W.setB w.heap.size _).heap.size (W.setB w.heap.size _) w5:=Below.appL (a:=W.setB w.heap.size _) (R:=zbY) (e:=3) (Below.ofAlloc (Below.refl _ _) _) g5 (za6 zbY 3 _ _ _ (by simp [zd]) (Nat.le_refl _))
  have T3:=Hd ((T3.out.setB (by omega) _).below q5)
  have T4:=Hd ((T4.out.setB (by omega) _).below q5)
  clear q5
  obtain ⟨a5,c5,rfl⟩:=o5.rd.form
  have O5:=Hd o5
  clear o5 g5 b4 R4 l4 m4
  have n1:¬ w.heap.size+1=w.heap.size:=by omega
  have n2:¬ w.heap.size=w.heap.size+1:=by omega
  have R5s:∀ o,(w5.setB w.heap.size o).heap[w.heap.size+1]? = _:=fun o=>(World.setB_get _ _ _ _ (by omega)).trans R5
  rw [<- zi P5,<- zi (R5s _)]
  clear P5 R5 R5s
  go_wp2
  refine bodyPost_ret (by simp [results,Tryz.results52,go_sem,l5,m5,n1,n2];rfl) rfl ?_
  refine ⟨⟨xid,xage,xproc,xbegan,⟨a1,_,c1⟩,⟨a2,_,c2⟩,⟨a3,_,c3⟩,⟨a4,_,c4⟩,⟨a5,_,c5⟩,xs⟩,rfl,⟨HS.out.1,HS.out.2.1,HS.out.2.2.1,HS.out.2.2.2.1,HS.out.2.2.2.2,?_,?_,?_,?_,?_,?_,?_,?_⟩,zp (zp b5 (Nat.le_refl _) _) (by omega) _⟩
  ·exact (((O1.out.setB (fun e=>by have:=(O1.out.lt _ e).1;omega) _).setB (fun e=>by have:=(O1.out.lt _ e).1;omega) _).base (by omega))
  ·exact (((O2.out.setB (fun e=>by have:=(O2.out.lt _ e).1;omega) _).setB (fun e=>by have:=(O2.out.lt _ e).1;omega) _).base (by omega))
  ·exact ((T3.out.setB (by omega) _).setB (by omega) _).base (by omega)
  ·exact ((T4.out.setB (by omega) _).setB (by omega) _).base (by omega)
  ·exact (((O5.out.setB (fun e=>by have:=(O5.out.lt _ e).1;omega) _).setB (fun e=>by have:=(O5.out.lt _ e).1;omega) _).base (by omega))
  ·rintro o (rfl|rfl|rfl)
   ·exact ⟨.inr fun k hk e=>by have h1:=C1.out k hk;have h2:=T3.out.2 k e;omega,.inr fun k hk e=>by have h1:=C1.out k hk;have h2:=T4.out.2 k e;omega⟩
   ·exact ⟨.inr fun k hk e=>by have h1:=C2.out k hk;have h2:=T3.out.2 k e;omega,.inr fun k hk e=>by have h1:=C2.out k hk;have h2:=T4.out.2 k e;omega⟩
   ·exact ⟨Off.fresh (by decide) F3.out (fun k hk=>(O5.out.lt k hk).1),Off.fresh (by decide) F4.out (fun k hk=>(O5.out.lt k hk).1)⟩
  ·exact (S1.out.frame fun q hq=>World.setB_get _ _ _ _ (by have:=(O1.out.lt _ hq).1;omega)).frame fun q hq=>World.setB_get _ _ _ _ (by have:=(O1.out.lt _ hq).1;omega)
  ·exact (S2.out.frame fun q hq=>World.setB_get _ _ _ _ (by have:=(O2.out.lt _ hq).1;omega)).frame fun q hq=>World.setB_get _ _ _ _ (by have:=(O2.out.lt _ hq).1;omega)
end Go.Proofs.YtncnbihlngapbaaGreat
namespace Go
open Go.RowKit
section
variable {P:Program} {w:World} {t e:TypeId} {k bytes:Nat}
end
theorem ziv {w w':World} {row:Option Nat} (h:w.grownBy w' row):Upon row.toList w w' :=
 ⟨h.os,h.tape,h.output,h.size,fun b hb hn=>h.block b hb (fun e=>hn (by rw [<- e];simp))⟩
end Go
namespace Go.Proofs.YtncnbihlngapbaaGreat
open Go.ChangeShapes Go.WideShapes Go.ChangeAt Go.RowKit
theorem alloc_new (w:World) (o:Obj) (n:Nat) (h:n=w.heap.size):(w.alloc o).heap[n]?=some o:=by
 subst h
 show (w.heap.push o)[_]? = _
 simp
theorem own_bel {α : Type} {R:RowOf α} {e:TypeId} {w w':World} {B:Nat} {v:Value} {xs:List α} (h:OwnL R e w B v xs) (hb:Below w.heap.size w w'):OwnL R e w' B v xs:=by
 obtain ⟨X,rfl⟩:=hb.ext
 exact h.ext X
def RrP (s:ByteArray) (w:World) (e:Ending) (w':World):Prop:=∃ n v b cs,e=.returned (.tuple #[.int .i64 n,v,.bool b])/\OwnL zE 145 w' w.heap.size v cs/\RrOk s n b cs/\Below w.heap.size w w'
theorem RrP.mk {s:ByteArray} {n:Int} {v:Value} {b:Bool} {cs:List CellD} {w w':World} (h1:OwnL zE 145 w' w.heap.size v cs) (h2:RrOk s n b cs) (h3:Below w.heap.size w w'):RrP s w (.returned (.tuple #[.int .i64 n,v,.bool b])) w':=⟨n,v,b,cs,rfl,h1,h2,h3⟩
def Tab10 (w : World) : Prop := Lib.TabIs Tryz.prog w "internal/strconv.uint64pow10" .u64 Lib.pow10Tab
theorem Tab10.below {w w':World} (h:Tab10 w) (hb:Below w.heap.size w w'):Tab10 w':=Go.Lib.tabBelow_of_tabIs h w' hb
def NumQ (s:ByteArray) (w:World) (e:Ending) (w':World):Prop:=∃ n b,e=.returned (.tuple #[.int .i64 n,.bool b])/\Num s.data.toList n b/\Below w.heap.size w w'/\(b=true->Lib.itoa n=s.data.toList)/\(b=false->n=0)
theorem NumQ.mk {s:ByteArray} {n:Int} {w w':World} (h2:Num s.data.toList n true) (h3:Below w.heap.size w w') (h4:Lib.itoa n=s.data.toList):NumQ s w (.returned (.tuple #[.int .i64 n,.bool true])) w':=⟨n,true,rfl,h2,h3,fun _=>h4,(fun h=>by cases h)⟩
theorem NumQ.no {s:ByteArray} {w w':World} (h2:Num s.data.toList 0 false) (h3:Below w.heap.size w w'):NumQ s w (.returned (.tuple #[.int .i64 0,.bool false])) w':=⟨0,false,rfl,h2,h3,(fun h=>by cases h),fun _=>rfl⟩
theorem zft {e:TypeId} {w:World} {B:Nat} {v:Value} {xs:List Int} (h:OwnL zbY e w B v xs):∃ fp:List Nat,(vSlice vInt e).own w fp [v] xs/\fp.Nodup/\∀ b ∈ fp,B<=b:=by
 rcases h.2 with ⟨rfl,h0⟩|⟨g,cap,cur,rfl,hg,hh,hn,hm,hsz,ht⟩
 ·have:xs = []:=List.eq_nil_of_length_eq_zero h0
  subst this
  exact ⟨[],.inl ⟨rfl,rfl,rfl⟩,List.nodup_nil,by simp⟩
 ·exact ⟨[g],zdX hh rfl hn hm hsz ht (fun _ _=>trivial),by simp,by simpa using hg⟩
end Go.Proofs.YtncnbihlngapbaaGreat
