/- Texts of this claim, merged: the walks and what they stand on. Each condition stands in its theorem. -/
import Derived.Test.YtodokkpnafabpaaGreatDoorCA37
set_option linter.unusedVariables false
set_option linter.unusedSimpArgs false
set_option maxRecDepth 100000
set_option maxHeartbeats 8000000
namespace Go.Proofs.YtodokkpnafabpaaGreatDoor
open Go.ChangeShapes Go.WideShapes Go.ChangeAt Go.RowKit
structure LI (B:World) (v txl cl cv:Value) (d0:List CellD) (d1:TxD) (R:World->Value->Value->Prop) (L:Array Bool) (W:World) (y0 y1 y2 y3 y4 y5 y6 y7:Value):Prop where
 sz:L.size=9
 c8:L.getD 8 false=true->L.getD 6 false=true
 c8b:L.getD 8 false=true->L.getD 7 false=true
 up:RUp R
 bel:Below B.heap.size B W
 f0:L.getD 0 false=true->y0=v
 f1:L.getD 1 false=true->L.getD 8 false=false->RdL zu W y1 d0
 f2:L.getD 2 false=true->y2=txl
 f3:L.getD 3 false=true->L.getD 8 false=false->∃ cs:List Value,y3=.agg cs.toArray/\vTx.rd W cs d1
 f4:L.getD 4 false=true->y4=cl
 f5:L.getD 5 false=true->y5=cv
 f6:L.getD 6 false=true->∃ c d,y6=.agg #[c,d]/\R W c d
 f7:L.getD 7 false=true->∃ b,y7=.pointer (some ⟨b,0,none⟩)/\B.heap.size<=b/\((L.getD 8 false=false/\W.heap[b]?=some (.cells #[.slice none 0 0,.slice none 0 0] 36 (0,0))) ∨ (L.getD 8 false=true/\∃ c d,W.heap[b]?=some (.cells #[c,d] 36 (0,0))/\R W c d))
section
variable {B:World} {v txl cl cv:Value} {d0:List CellD} {d1:TxD} {R:World->Value->Value->Prop} {L:Array Bool} {W W':World} {y0 y1 y2 y3 y4 y5 y6 y7:Value}
theorem LI.grow (h:LI B v txl cl cv d0 d1 R L W y0 y1 y2 y3 y4 y5 y6 y7) (hb:Below W.heap.size W W'):LI B v txl cl cv d0 d1 R L W' y0 y1 y2 y3 y4 y5 y6 y7:=by
 have G:=fun {k:Nat} {o:Obj} (hk:W.heap[k]?=some o)=>(Grew.below hb k (za hk)).trans hk
 refine ⟨h.sz,h.c8,h.c8b,h.up,Below.then h.bel hb,h.f0,fun k=>fun k8=>((h.f1 k) k8).below hb,h.f2,fun k=>fun k8=>by obtain ⟨cs,e,hm⟩:=(h.f3 k) k8;exact ⟨cs,e,View.grow _ hm (Grew.below hb)⟩,h.f4,h.f5,fun k=>?_,fun k=>?_⟩
 ·obtain ⟨c,d,e,hm⟩:=(h.f6 k);exact ⟨c,d,e,h.up.grow hm hb⟩
 ·obtain ⟨b,e,h1,h4|⟨h4,c,d,h5,h6⟩⟩:=(h.f7 k)<;>first|exact ⟨b,e,h1,.inl ⟨h4.1,G h4.2⟩⟩|exact ⟨b,e,h1,.inr ⟨h4,c,d,G h5,h.up.grow h6 hb⟩⟩
theorem LI.set (h:LI B v txl cl cv d0 d1 R L W y0 y1 y2 y3 y4 y5 y6 y7) {i:Nat} (hi:i<9) (hi8:i ≠ 8) {z0 z1 z2 z3 z4 z5 z6 z7:Value}
  (e0:if i=0 then z0=v else z0=y0)
  (e1:if i=1 then L.getD 8 false=false->RdL zu W z1 d0 else z1=y1)
  (e2:if i=2 then z2=txl else z2=y2)
  (e3:if i=3 then L.getD 8 false=false->∃ cs:List Value,z3=.agg cs.toArray/\vTx.rd W cs d1 else z3=y3)
  (e4:if i=4 then z4=cl else z4=y4)
  (e5:if i=5 then z5=cv else z5=y5)
  (e6:if i=6 then ∃ c d,z6=.agg #[c,d]/\R W c d else z6=y6)
  (e7:if i=7 then ∃ b,z7=.pointer (some ⟨b,0,none⟩)/\B.heap.size<=b/\((L.getD 8 false=false/\W.heap[b]?=some (.cells #[.slice none 0 0,.slice none 0 0] 36 (0,0))) ∨ (L.getD 8 false=true/\∃ c d,W.heap[b]?=some (.cells #[c,d] 36 (0,0))/\R W c d)) else z7=y7) :
  LI B v txl cl cv d0 d1 R (L.setIfInBounds i true) W z0 z1 z2 z3 z4 z5 z6 z7:=by
 have up:∀ j,L.getD j false=true->(L.setIfInBounds i true).getD j false=true:=fun j hj=>by
  by_cases hx:i=j
  ·subst hx;exact zbF (by have:=h.sz;omega)
  ·rw [zi hx];exact hj
 refine ⟨by rw [Array.size_setIfInBounds];exact h.sz,fun k=>up _ (h.c8 (by rw [zi hi8] at k;exact k)),fun k=>up _ (h.c8b (by rw [zi hi8] at k;exact k)),h.up,h.bel,fun k=>?_,fun k=>?_,fun k=>?_,fun k=>?_,fun k=>?_,fun k=>?_,fun k=>?_,fun k=>?_⟩
 ·(try rw [zi hi8]);by_cases hx:i=0
  ·rwa [if_pos hx] at e0
  ·rw [if_neg hx] at e0;rw [zi hx] at k;rw [e0];exact h.f0 k
 ·(try rw [zi hi8]);by_cases hx:i=1
  ·rwa [if_pos hx] at e1
  ·rw [if_neg hx] at e1;rw [zi hx] at k;rw [e1];exact h.f1 k
 ·(try rw [zi hi8]);by_cases hx:i=2
  ·rwa [if_pos hx] at e2
  ·rw [if_neg hx] at e2;rw [zi hx] at k;rw [e2];exact h.f2 k
 ·(try rw [zi hi8]);by_cases hx:i=3
  ·rwa [if_pos hx] at e3
  ·rw [if_neg hx] at e3;rw [zi hx] at k;rw [e3];exact h.f3 k
 ·(try rw [zi hi8]);by_cases hx:i=4
  ·rwa [if_pos hx] at e4
  ·rw [if_neg hx] at e4;rw [zi hx] at k;rw [e4];exact h.f4 k
 ·(try rw [zi hi8]);by_cases hx:i=5
  ·rwa [if_pos hx] at e5
  ·rw [if_neg hx] at e5;rw [zi hx] at k;rw [e5];exact h.f5 k
 ·(try rw [zi hi8]);by_cases hx:i=6
  ·rwa [if_pos hx] at e6
  ·rw [if_neg hx] at e6;rw [zi hx] at k;rw [e6];exact h.f6 k
 ·(try rw [zi hi8]);by_cases hx:i=7
  ·rwa [if_pos hx] at e7
  ·rw [if_neg hx] at e7;rw [zi hx] at k;rw [e7];exact h.f7 k
end
structure LJ (B:World) (v txi cl cv:Value) (R:World->Value->Value->Prop) (L:Array Bool) (W:World) (y0 y1 y2 y3 y4 y5:Value):Prop where
 sz:L.size=7
 c6:L.getD 6 false=true->L.getD 4 false=true
 c6b:L.getD 6 false=true->L.getD 5 false=true
 up:RUp R
 bel:Below B.heap.size B W
 f0:L.getD 0 false=true->y0=v
 f1:L.getD 1 false=true->y1=txi
 f2:L.getD 2 false=true->y2=cl
 f3:L.getD 3 false=true->y3=cv
 f4:L.getD 4 false=true->∃ c d,y4=.agg #[c,d]/\R W c d
 f5:L.getD 5 false=true->∃ b,y5=.pointer (some ⟨b,0,none⟩)/\B.heap.size<=b/\((L.getD 6 false=false/\W.heap[b]?=some (.cells #[.slice none 0 0,.slice none 0 0] 36 (0,0))) ∨ (L.getD 6 false=true/\∃ c d,W.heap[b]?=some (.cells #[c,d] 36 (0,0))/\R W c d))
section
variable {B:World} {v txi cl cv:Value} {R:World->Value->Value->Prop} {L:Array Bool} {W W':World} {y0 y1 y2 y3 y4 y5:Value}
theorem LJ.grow (h:LJ B v txi cl cv R L W y0 y1 y2 y3 y4 y5) (hb:Below W.heap.size W W'):LJ B v txi cl cv R L W' y0 y1 y2 y3 y4 y5:=by
 have G:=fun {k:Nat} {o:Obj} (hk:W.heap[k]?=some o)=>(Grew.below hb k (za hk)).trans hk
 refine ⟨h.sz,h.c6,h.c6b,h.up,Below.then h.bel hb,h.f0,h.f1,h.f2,h.f3,fun k=>?_,fun k=>?_⟩
 ·obtain ⟨c,d,e,hm⟩:=(h.f4 k);exact ⟨c,d,e,h.up.grow hm hb⟩
 ·obtain ⟨b,e,h1,h4|⟨h4,c,d,h5,h6⟩⟩:=(h.f5 k)<;>first|exact ⟨b,e,h1,.inl ⟨h4.1,G h4.2⟩⟩|exact ⟨b,e,h1,.inr ⟨h4,c,d,G h5,h.up.grow h6 hb⟩⟩
theorem LJ.set (h:LJ B v txi cl cv R L W y0 y1 y2 y3 y4 y5) {i:Nat} (hi:i<7) (hi6:i ≠ 6) {z0 z1 z2 z3 z4 z5:Value}
  (e0:if i=0 then z0=v else z0=y0)
  (e1:if i=1 then z1=txi else z1=y1)
  (e2:if i=2 then z2=cl else z2=y2)
  (e3:if i=3 then z3=cv else z3=y3)
  (e4:if i=4 then ∃ c d,z4=.agg #[c,d]/\R W c d else z4=y4)
  (e5:if i=5 then ∃ b,z5=.pointer (some ⟨b,0,none⟩)/\B.heap.size<=b/\((L.getD 6 false=false/\W.heap[b]?=some (.cells #[.slice none 0 0,.slice none 0 0] 36 (0,0))) ∨ (L.getD 6 false=true/\∃ c d,W.heap[b]?=some (.cells #[c,d] 36 (0,0))/\R W c d)) else z5=y5) :
  LJ B v txi cl cv R (L.setIfInBounds i true) W z0 z1 z2 z3 z4 z5:=by
 have up:∀ j,L.getD j false=true->(L.setIfInBounds i true).getD j false=true:=fun j hj=>by
  by_cases hx:i=j
  ·subst hx;exact zbF (by have:=h.sz;omega)
  ·rw [zi hx];exact hj
 refine ⟨by rw [Array.size_setIfInBounds];exact h.sz,fun k=>up _ (h.c6 (by rw [zi hi6] at k;exact k)),fun k=>up _ (h.c6b (by rw [zi hi6] at k;exact k)),h.up,h.bel,fun k=>?_,fun k=>?_,fun k=>?_,fun k=>?_,fun k=>?_,fun k=>?_⟩
 ·(try rw [zi hi6]);by_cases hx:i=0
  ·rwa [if_pos hx] at e0
  ·rw [if_neg hx] at e0;rw [zi hx] at k;rw [e0];exact h.f0 k
 ·(try rw [zi hi6]);by_cases hx:i=1
  ·rwa [if_pos hx] at e1
  ·rw [if_neg hx] at e1;rw [zi hx] at k;rw [e1];exact h.f1 k
 ·(try rw [zi hi6]);by_cases hx:i=2
  ·rwa [if_pos hx] at e2
  ·rw [if_neg hx] at e2;rw [zi hx] at k;rw [e2];exact h.f2 k
 ·(try rw [zi hi6]);by_cases hx:i=3
  ·rwa [if_pos hx] at e3
  ·rw [if_neg hx] at e3;rw [zi hx] at k;rw [e3];exact h.f3 k
 ·(try rw [zi hi6]);by_cases hx:i=4
  ·rwa [if_pos hx] at e4
  ·rw [if_neg hx] at e4;rw [zi hx] at k;rw [e4];exact h.f4 k
 ·(try rw [zi hi6]);by_cases hx:i=5
  ·rwa [if_pos hx] at e5
  ·rw [if_neg hx] at e5;rw [zi hx] at k;rw [e5];exact h.f5 k
end
end Go.Proofs.YtodokkpnafabpaaGreatDoor
