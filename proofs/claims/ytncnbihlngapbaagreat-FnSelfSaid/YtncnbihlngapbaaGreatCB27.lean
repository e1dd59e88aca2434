/- Texts of this claim, merged: the walks and what they stand on. Each condition stands in its theorem. -/
import Derived.Test.YtncnbihlngapbaaGreatCB19
import Derived.Test.YtncnbihlngapbaaGreatCB24
set_option linter.unusedVariables false
set_option linter.unusedSimpArgs false
set_option maxRecDepth 100000
set_option maxHeartbeats 8000000
namespace Go.Proofs.YtncnbihlngapbaaGreat
open Go.ChangeShapes Go.WideShapes Go.ChangeAt Go.RowKit
structure RI (w:World) (v0 vs vq:Value) (q g cap B:Nat) (cs:List CellD) (out:List AnswerD) (y z:Value) (rd wr:List ByteArray) (pb po n:Nat) (s:StepD) (an:AnswerD) (m:MachD) (L:Array Bool) (W:World) (x25 x26 x27 x28 x29 x30 x31 x32 x33 x34 x35 x36 x24 x37 x38 x39 x11 x12 x10:Value):Prop where
 sz:L.size=21
 c19:L.getD 19 false=true->L.getD 16 false=true
 c20:L.getD 20 false=true->L.getD 17 false=true
 bel:Below w.heap.size w W
 P:W.heap[w.heap.size]?=some (.cells #[.slice none 0 0,.slice none 0 0] 27 (0,0))
 Q:W.heap[q]?=some (.cells #[y,z] 27 (0,0))
 A:AnsIn W B g cap out
 r0:RdL zE W v0 cs
 ry:RdL zH W y rd
 rz:RdL zH W z wr
 p0:W.cell? ⟨pb,po+n*7+0,none⟩=some (.int .i64 s.proc)
 p1:W.cell? ⟨pb,po+n*7+1,none⟩=some (.int .i64 s.call.kind)
 p2:W.cell? ⟨pb,po+n*7+2,none⟩=some (.string s.call.name)
 p3:W.cell? ⟨pb,po+n*7+3,none⟩=some (.string s.call.to)
 p4:W.cell? ⟨pb,po+n*7+4,none⟩=some (.int .i64 s.call.a)
 p5:W.cell? ⟨pb,po+n*7+5,none⟩=some (.int .i64 s.call.b)
 p6:W.cell? ⟨pb,po+n*7+6,none⟩=some (.string s.call.text)
 lt:pb<w.heap.size
 f0:L.getD 0 false=true->x25=v0
 f1:L.getD 1 false=true->x26=vs
 f2:L.getD 2 false=true->x27=.int .i64 n
 f3:L.getD 3 false=true->x28=.pointer (some ⟨pb,po+n*7,none⟩)
 f4:L.getD 4 false=true->x29=.pointer (some ⟨pb,po+n*7,none⟩)
 f5:L.getD 5 false=true->x30=.int .i64 s.proc
 f6:L.getD 6 false=true->x31=vs
 f7:L.getD 7 false=true->x32=.int .i64 n
 f8:L.getD 8 false=true->x33=.pointer (some ⟨pb,po+n*7,none⟩)
 f9:L.getD 9 false=true->x34=.pointer (some ⟨pb,po+n*7+1,none⟩)
 f10:L.getD 10 false=true->x35=zbk s.call
 f11:L.getD 11 false=true->∃ c0 c1 c2,x36=.tuple #[c0,zca an,.agg #[c1,c2]]/\MRd W (.agg #[c0,c1,c2]) m
 f12:L.getD 12 false=true->∃ c0 c1 c2,x24=.tuple #[c0,zca an,.agg #[c1,c2]]/\MRd W (.agg #[c0,c1,c2]) m
 f13:L.getD 13 false=true->RdL zE W x37 m.cells
 f14:L.getD 14 false=true->x38=zca an
 f15:L.getD 15 false=true->∃ c d,x39=.agg #[c,d]/\RdL zH W c m.rd/\RdL zH W d m.wr
 f16:L.getD 16 false=true->∃ b,x11=.pointer (some ⟨b,0,none⟩)/\w.heap.size+1<=b/\b ≠ q/\b ≠ g/\((L.getD 19 false=false/\W.heap[b]?=some (.cells #[.int .i64 0,.int .i64 0,.string ⟨#[]⟩] 59 (0,0))) ∨ (L.getD 19 false=true/\W.heap[b]?=some (.cells #[.int .i64 an.code,.int .i64 an.n,.string an.text] 59 (0,0))))
 f17:L.getD 17 false=true->∃ b,x12=.pointer (some ⟨b,0,none⟩)/\w.heap.size+1<=b/\b ≠ q/\b ≠ g/\((L.getD 20 false=false/\W.heap[b]?=some (.cells #[.slice none 0 0,.slice none 0 0] 27 (0,0))) ∨ (L.getD 20 false=true/\∃ c d,W.heap[b]?=some (.cells #[c,d] 27 (0,0))/\RdL zH W c m.rd/\RdL zH W d m.wr))
 f18:L.getD 18 false=true->RdL zE W x10 m.cells
section
variable {w:World} {v0 vs vq:Value} {q g cap B:Nat} {cs:List CellD} {out:List AnswerD} {y z:Value} {rd wr:List ByteArray} {pb po n:Nat} {s:StepD} {an:AnswerD} {m:MachD} {L:Array Bool} {W W':World} {x25 x26 x27 x28 x29 x30 x31 x32 x33 x34 x35 x36 x24 x37 x38 x39 x11 x12 x10:Value}
theorem RI.grow (h:RI w v0 vs vq q g cap B cs out y z rd wr pb po n s an m L W x25 x26 x27 x28 x29 x30 x31 x32 x33 x34 x35 x36 x24 x37 x38 x39 x11 x12 x10) (hb:Below W.heap.size W W'):RI w v0 vs vq q g cap B cs out y z rd wr pb po n s an m L W' x25 x26 x27 x28 x29 x30 x31 x32 x33 x34 x35 x36 x24 x37 x38 x39 x11 x12 x10:=by
 have G:=fun {k:Nat} {o:Obj} (hk:W.heap[k]?=some o)=>(Grew.below hb k (zb hk)).trans hk
 refine ⟨h.sz,h.c19,h.c20,Below.then h.bel hb,G h.P,G h.Q,h.A.below hb,h.r0.below hb,h.ry.below hb,h.rz.below hb,(Grew.below hb).cell h.p0,(Grew.below hb).cell h.p1,(Grew.below hb).cell h.p2,(Grew.below hb).cell h.p3,(Grew.below hb).cell h.p4,(Grew.below hb).cell h.p5,(Grew.below hb).cell h.p6,h.lt,h.f0,h.f1,h.f2,h.f3,h.f4,h.f5,h.f6,h.f7,h.f8,h.f9,h.f10,fun k=>?_,fun k=>?_,fun k=>(h.f13 k).below hb,h.f14,fun k=>?_,fun k=>?_,fun k=>?_,fun k=>(h.f18 k).below hb⟩
 ·obtain ⟨c0,c1,c2,e,hm⟩:=(h.f11 k);exact ⟨c0,c1,c2,e,hm.below hb⟩
 ·obtain ⟨c0,c1,c2,e,hm⟩:=(h.f12 k);exact ⟨c0,c1,c2,e,hm.below hb⟩
 ·obtain ⟨c,d,e,h1,h2⟩:=(h.f15 k);exact ⟨c,d,e,h1.below hb,h2.below hb⟩
 ·obtain ⟨b,e,h1,h2,h3,h4|h4⟩:=(h.f16 k)<;>first|exact ⟨b,e,h1,h2,h3,.inl ⟨h4.1,G h4.2⟩⟩|exact ⟨b,e,h1,h2,h3,.inr ⟨h4.1,G h4.2⟩⟩
 ·obtain ⟨b,e,h1,h2,h3,h4|⟨h4,c,d,h5,h6,h7⟩⟩:=(h.f17 k)<;>first|exact ⟨b,e,h1,h2,h3,.inl ⟨h4.1,G h4.2⟩⟩|exact ⟨b,e,h1,h2,h3,.inr ⟨h4,c,d,G h5,h6.below hb,h7.below hb⟩⟩
theorem RI.set (h:RI w v0 vs vq q g cap B cs out y z rd wr pb po n s an m L W x25 x26 x27 x28 x29 x30 x31 x32 x33 x34 x35 x36 x24 x37 x38 x39 x11 x12 x10) {i:Nat} (hi:i<21) (hi19:i ≠ 19) (hi20:i ≠ 20) {y25 y26 y27 y28 y29 y30 y31 y32 y33 y34 y35 y36 y24 y37 y38 y39 y11 y12 y10:Value}
  (e0:if i=0 then y25=v0 else y25=x25)
  (e1:if i=1 then y26=vs else y26=x26)
  (e2:if i=2 then y27=.int .i64 n else y27=x27)
  (e3:if i=3 then y28=.pointer (some ⟨pb,po+n*7,none⟩) else y28=x28)
  (e4:if i=4 then y29=.pointer (some ⟨pb,po+n*7,none⟩) else y29=x29)
  (e5:if i=5 then y30=.int .i64 s.proc else y30=x30)
  (e6:if i=6 then y31=vs else y31=x31)
  (e7:if i=7 then y32=.int .i64 n else y32=x32)
  (e8:if i=8 then y33=.pointer (some ⟨pb,po+n*7,none⟩) else y33=x33)
  (e9:if i=9 then y34=.pointer (some ⟨pb,po+n*7+1,none⟩) else y34=x34)
  (e10:if i=10 then y35=zbk s.call else y35=x35)
  (e11:if i=11 then ∃ c0 c1 c2,y36=.tuple #[c0,zca an,.agg #[c1,c2]]/\MRd W (.agg #[c0,c1,c2]) m else y36=x36)
  (e12:if i=12 then ∃ c0 c1 c2,y24=.tuple #[c0,zca an,.agg #[c1,c2]]/\MRd W (.agg #[c0,c1,c2]) m else y24=x24)
  (e13:if i=13 then RdL zE W y37 m.cells else y37=x37)
  (e14:if i=14 then y38=zca an else y38=x38)
  (e15:if i=15 then ∃ c d,y39=.agg #[c,d]/\RdL zH W c m.rd/\RdL zH W d m.wr else y39=x39)
  (e16:if i=16 then ∃ b,y11=.pointer (some ⟨b,0,none⟩)/\w.heap.size+1<=b/\b ≠ q/\b ≠ g/\((L.getD 19 false=false/\W.heap[b]?=some (.cells #[.int .i64 0,.int .i64 0,.string ⟨#[]⟩] 59 (0,0))) ∨ (L.getD 19 false=true/\W.heap[b]?=some (.cells #[.int .i64 an.code,.int .i64 an.n,.string an.text] 59 (0,0)))) else y11=x11)
  (e17:if i=17 then ∃ b,y12=.pointer (some ⟨b,0,none⟩)/\w.heap.size+1<=b/\b ≠ q/\b ≠ g/\((L.getD 20 false=false/\W.heap[b]?=some (.cells #[.slice none 0 0,.slice none 0 0] 27 (0,0))) ∨ (L.getD 20 false=true/\∃ c d,W.heap[b]?=some (.cells #[c,d] 27 (0,0))/\RdL zH W c m.rd/\RdL zH W d m.wr)) else y12=x12)
  (e18:if i=18 then RdL zE W y10 m.cells else y10=x10) :
  RI w v0 vs vq q g cap B cs out y z rd wr pb po n s an m (L.setIfInBounds i true) W y25 y26 y27 y28 y29 y30 y31 y32 y33 y34 y35 y36 y24 y37 y38 y39 y11 y12 y10:=by
 have up:∀ j,L.getD j false=true->(L.setIfInBounds i true).getD j false=true:=fun j hj=>by
  by_cases hx:i=j
  ·subst hx;exact zaN (by have:=h.sz;omega)
  ·rw [zj hx];exact hj
 refine ⟨by rw [Array.size_setIfInBounds];exact h.sz,fun k=>up _ (h.c19 (by rw [zj hi19] at k;exact k)),fun k=>up _ (h.c20 (by rw [zj hi20] at k;exact k)),h.bel,h.P,h.Q,h.A,h.r0,h.ry,h.rz,h.p0,h.p1,h.p2,h.p3,h.p4,h.p5,h.p6,h.lt,fun k=>?_,fun k=>?_,fun k=>?_,fun k=>?_,fun k=>?_,fun k=>?_,fun k=>?_,fun k=>?_,fun k=>?_,fun k=>?_,fun k=>?_,fun k=>?_,fun k=>?_,fun k=>?_,fun k=>?_,fun k=>?_,fun k=>?_,fun k=>?_,fun k=>?_⟩
 ·(try rw [zj hi19]);(try rw [zj hi20]);by_cases hx:i=0
  ·rwa [if_pos hx] at e0
  ·rw [if_neg hx] at e0;rw [zj hx] at k;rw [e0];exact h.f0 k
 ·(try rw [zj hi19]);(try rw [zj hi20]);by_cases hx:i=1
  ·rwa [if_pos hx] at e1
  ·rw [if_neg hx] at e1;rw [zj hx] at k;rw [e1];exact h.f1 k
 ·(try rw [zj hi19]);(try rw [zj hi20]);by_cases hx:i=2
  ·rwa [if_pos hx] at e2
  ·rw [if_neg hx] at e2;rw [zj hx] at k;rw [e2];exact h.f2 k
 ·(try rw [zj hi19]);(try rw [zj hi20]);by_cases hx:i=3
  ·rwa [if_pos hx] at e3
  ·rw [if_neg hx] at e3;rw [zj hx] at k;rw [e3];exact h.f3 k
 ·(try rw [zj hi19]);(try rw [zj hi20]);by_cases hx:i=4
  ·rwa [if_pos hx] at e4
  ·rw [if_neg hx] at e4;rw [zj hx] at k;rw [e4];exact h.f4 k
 ·(try rw [zj hi19]);(try rw [zj hi20]);by_cases hx:i=5
  ·rwa [if_pos hx] at e5
  ·rw [if_neg hx] at e5;rw [zj hx] at k;rw [e5];exact h.f5 k
 ·(try rw [zj hi19]);(try rw [zj hi20]);by_cases hx:i=6
  ·rwa [if_pos hx] at e6
  ·rw [if_neg hx] at e6;rw [zj hx] at k;rw [e6];exact h.f6 k
 ·(try rw [zj hi19]);(try rw [zj hi20]);by_cases hx:i=7
  ·rwa [if_pos hx] at e7
  ·rw [if_neg hx] at e7;rw [zj hx] at k;rw [e7];exact h.f7 k
 ·(try rw [zj hi19]);(try rw [zj hi20]);by_cases hx:i=8
  ·rwa [if_pos hx] at e8
  ·rw [if_neg hx] at e8;rw [zj hx] at k;rw [e8];exact h.f8 k
 ·(try rw [zj hi19]);(try rw [zj hi20]);by_cases hx:i=9
  ·rwa [if_pos hx] at e9
  ·rw [if_neg hx] at e9;rw [zj hx] at k;rw [e9];exact h.f9 k
 ·(try rw [zj hi19]);(try rw [zj hi20]);by_cases hx:i=10
  ·rwa [if_pos hx] at e10
  ·rw [if_neg hx] at e10;rw [zj hx] at k;rw [e10];exact h.f10 k
 ·(try rw [zj hi19]);(try rw [zj hi20]);by_cases hx:i=11
  ·rwa [if_pos hx] at e11
  ·rw [if_neg hx] at e11;rw [zj hx] at k;rw [e11];exact h.f11 k
 ·(try rw [zj hi19]);(try rw [zj hi20]);by_cases hx:i=12
  ·rwa [if_pos hx] at e12
  ·rw [if_neg hx] at e12;rw [zj hx] at k;rw [e12];exact h.f12 k
 ·(try rw [zj hi19]);(try rw [zj hi20]);by_cases hx:i=13
  ·rwa [if_pos hx] at e13
  ·rw [if_neg hx] at e13;rw [zj hx] at k;rw [e13];exact h.f13 k
 ·(try rw [zj hi19]);(try rw [zj hi20]);by_cases hx:i=14
  ·rwa [if_pos hx] at e14
  ·rw [if_neg hx] at e14;rw [zj hx] at k;rw [e14];exact h.f14 k
 ·(try rw [zj hi19]);(try rw [zj hi20]);by_cases hx:i=15
  ·rwa [if_pos hx] at e15
  ·rw [if_neg hx] at e15;rw [zj hx] at k;rw [e15];exact h.f15 k
 ·(try rw [zj hi19]);(try rw [zj hi20]);by_cases hx:i=16
  ·rwa [if_pos hx] at e16
  ·rw [if_neg hx] at e16;rw [zj hx] at k;rw [e16];exact h.f16 k
 ·(try rw [zj hi19]);(try rw [zj hi20]);by_cases hx:i=17
  ·rwa [if_pos hx] at e17
  ·rw [if_neg hx] at e17;rw [zj hx] at k;rw [e17];exact h.f17 k
 ·(try rw [zj hi19]);(try rw [zj hi20]);by_cases hx:i=18
  ·rwa [if_pos hx] at e18
  ·rw [if_neg hx] at e18;rw [zj hx] at k;rw [e18];exact h.f18 k
theorem RI.st19 (hrd:∀ s ∈ rd,s.size ≠ 0) (hwr:∀ s ∈ wr,s.size ≠ 0) (hmr:∀ s ∈ m.rd,s.size ≠ 0) (hmw:∀ s ∈ m.wr,s.size ≠ 0) (h:RI w v0 vs vq q g cap B cs out y z rd wr pb po n s an m L W x25 x26 x27 x28 x29 x30 x31 x32 x33 x34 x35 x36 x24 x37 x38 x39 x11 x12 x10) (k14:L.getD 14 false=true) (k16:L.getD 16 false=true) (k19:L.getD 19 false=false) :
  ∃ b,x11=.pointer (some ⟨b,0,none⟩)/\x38=zca an/\W.heap[b]?=some (.cells #[.int .i64 0,.int .i64 0,.string ⟨#[]⟩] 59 (0,0))/\RI w v0 vs vq q g cap B cs out y z rd wr pb po n s an m (L.setIfInBounds 19 true) (W.setB b (.cells #[.int .i64 an.code,.int .i64 an.n,.string an.text] 59 (0,0))) x25 x26 x27 x28 x29 x30 x31 x32 x33 x34 x35 x36 x24 x37 x38 x39 x11 x12 x10:=by
 obtain ⟨b,e11,hb,hbq,hbg,h1|h1⟩:=h.f16 k16
 case inr=>rw [h1.1] at k19;cases k19
 have hB:=h1.2
 have hz:=zb hB
 have kk:=fun {j:Nat} (hj : 19 ≠ j) (k:(L.setIfInBounds 19 true).getD j false=true)=>(zj (L:=L) hj) ▸ k
 have N:∀ k,b ≠ k->(W.setB b (.cells #[.int .i64 an.code,.int .i64 an.n,.string an.text] 59 (0,0))).heap[k]?=W.heap[k]?:=fun k hk=>World.setB_get _ _ _ _ (Ne.symm hk)
 have C:∀ i,(W.setB b (.cells #[.int .i64 an.code,.int .i64 an.n,.string an.text] 59 (0,0))).cell? ⟨pb,i,none⟩=W.cell? ⟨pb,i,none⟩:=fun i=>World.cell?_of_block (w:=W) (a:=⟨pb,i,none⟩) (N pb (by have:=h.lt;omega))
 refine ⟨b,e11,h.f14 k14,hB,⟨by rw [Array.size_setIfInBounds];exact h.sz,fun _=>by rw [zj (by decide)];exact k16,fun k=>by rw [zj (by decide)];exact h.c20 (kk (by decide) k),zp h.bel (by omega) _,(N _ (by omega)).trans h.P,(N _ hbq).trans h.Q,h.A.setB (Ne.symm hbg) _,zcM h.r0 hB _,zbg hrd h.ry hB _,zbg hwr h.rz hB _,(C _).trans h.p0,(C _).trans h.p1,(C _).trans h.p2,(C _).trans h.p3,(C _).trans h.p4,(C _).trans h.p5,(C _).trans h.p6,h.lt,
  fun k=>h.f0 (kk (by decide) k),fun k=>h.f1 (kk (by decide) k),fun k=>h.f2 (kk (by decide) k),fun k=>h.f3 (kk (by decide) k),fun k=>h.f4 (kk (by decide) k),fun k=>h.f5 (kk (by decide) k),fun k=>h.f6 (kk (by decide) k),fun k=>h.f7 (kk (by decide) k),fun k=>h.f8 (kk (by decide) k),fun k=>h.f9 (kk (by decide) k),fun k=>h.f10 (kk (by decide) k),fun k=>?_,fun k=>?_,fun k=>zcM (h.f13 (kk (by decide) k)) hB _,fun k=>h.f14 (kk (by decide) k),fun k=>?_,fun k=>?_,fun k=>?_,fun k=>zcM (h.f18 (kk (by decide) k)) hB _⟩⟩
 ·obtain ⟨c0,c1,c2,e,hm⟩:=h.f11 (kk (by decide) k)
  exact ⟨c0,c1,c2,e,hm.ansBox hmr hmw hB _⟩
 ·obtain ⟨c0,c1,c2,e,hm⟩:=h.f12 (kk (by decide) k)
  exact ⟨c0,c1,c2,e,hm.ansBox hmr hmw hB _⟩
 ·obtain ⟨c,d,e,h3,h4⟩:=h.f15 (kk (by decide) k)
  exact ⟨c,d,e,zbg hmr h3 hB _,zbg hmw h4 hB _⟩
 ·exact ⟨b,e11,hb,hbq,hbg,.inr ⟨zaN (by rw [h.sz];decide),World.setB_at _ _ _ hz⟩⟩
 ·obtain ⟨b',e,h3,h4,h5,h6⟩:=h.f17 (kk (by decide) k)
  have hne:b ≠ b':=by
   rintro rfl
   rcases h6 with h6|⟨_,c,d,h6,_⟩
   ·have h7:=h6.2;rw [hB] at h7;cases h7
   ·rw [hB] at h6;cases h6
  refine ⟨b',e,h3,h4,h5,?_⟩
  rw [zj (by decide),N b' hne]
  rcases h6 with h6|⟨h7,c,d,h6,h8,h9⟩
  ·exact .inl h6
  ·exact .inr ⟨h7,c,d,h6,zbg hmr h8 hB _,zbg hmw h9 hB _⟩
theorem RI.st20 (h:RI w v0 vs vq q g cap B cs out y z rd wr pb po n s an m L W x25 x26 x27 x28 x29 x30 x31 x32 x33 x34 x35 x36 x24 x37 x38 x39 x11 x12 x10) (k15:L.getD 15 false=true) (k17:L.getD 17 false=true) (k20:L.getD 20 false=false) :
  ∃ b a0 c0 a1 c1,x12=.pointer (some ⟨b,0,none⟩)/\x39=.agg #[.slice a0 m.rd.length c0,.slice a1 m.wr.length c1]/\W.heap[b]?=some (.cells #[.slice none 0 0,.slice none 0 0] 27 (0,0))/\RI w v0 vs vq q g cap B cs out y z rd wr pb po n s an m (L.setIfInBounds 20 true) (W.setB b (.cells #[.slice a0 m.rd.length c0,.slice a1 m.wr.length c1] 27 (0,0))) x25 x26 x27 x28 x29 x30 x31 x32 x33 x34 x35 x36 x24 x37 x38 x39 x11 x12 x10:=by
 obtain ⟨b,e12,hb,hbq,hbg,h1|h1⟩:=h.f17 k17
 case inr=>rw [h1.1] at k20;cases k20
 have hB:=h1.2
 have hz:=zb hB
 obtain ⟨c,d,e39,q0,q1⟩:=h.f15 k15
 obtain ⟨a0,c0,rfl⟩:=q0.form
 obtain ⟨a1,c1,rfl⟩:=q1.form
 have kk:=fun {j:Nat} (hj : 20 ≠ j) (k:(L.setIfInBounds 20 true).getD j false=true)=>(zj (L:=L) hj) ▸ k
 have N:∀ k,b ≠ k->(W.setB b (.cells #[.slice a0 m.rd.length c0,.slice a1 m.wr.length c1] 27 (0,0))).heap[k]?=W.heap[k]?:=fun k hk=>World.setB_get _ _ _ _ (Ne.symm hk)
 have C:∀ i,(W.setB b (.cells #[.slice a0 m.rd.length c0,.slice a1 m.wr.length c1] 27 (0,0))).cell? ⟨pb,i,none⟩=W.cell? ⟨pb,i,none⟩:=fun i=>World.cell?_of_block (w:=W) (a:=⟨pb,i,none⟩) (N pb (by have:=h.lt;omega))
 have S:=fun {v:Value} {xs:List ByteArray} (hv:RdL zH W v xs)=>zaz (ze _) hv hB zbA (.cells #[.slice a0 m.rd.length c0,.slice a1 m.wr.length c1] 27 (0,0))
 have SC:=fun {v:Value} {xs:List CellD} (hv:RdL zE W v xs)=>zaz (zh _) hv hB zbA (.cells #[.slice a0 m.rd.length c0,.slice a1 m.wr.length c1] 27 (0,0))
 refine ⟨b,a0,c0,a1,c1,e12,e39,hB,⟨by rw [Array.size_setIfInBounds];exact h.sz,fun k=>by rw [zj (by decide)];exact h.c19 (kk (by decide) k),fun _=>by rw [zj (by decide)];exact k17,zp h.bel (by omega) _,(N _ (by omega)).trans h.P,(N _ hbq).trans h.Q,h.A.setB (Ne.symm hbg) _,SC h.r0,S h.ry,S h.rz,(C _).trans h.p0,(C _).trans h.p1,(C _).trans h.p2,(C _).trans h.p3,(C _).trans h.p4,(C _).trans h.p5,(C _).trans h.p6,h.lt,
  fun k=>h.f0 (kk (by decide) k),fun k=>h.f1 (kk (by decide) k),fun k=>h.f2 (kk (by decide) k),fun k=>h.f3 (kk (by decide) k),fun k=>h.f4 (kk (by decide) k),fun k=>h.f5 (kk (by decide) k),fun k=>h.f6 (kk (by decide) k),fun k=>h.f7 (kk (by decide) k),fun k=>h.f8 (kk (by decide) k),fun k=>h.f9 (kk (by decide) k),fun k=>h.f10 (kk (by decide) k),fun k=>?_,fun k=>?_,fun k=>SC (h.f13 (kk (by decide) k)),fun k=>h.f14 (kk (by decide) k),fun k=>?_,fun k=>?_,fun k=>?_,fun k=>SC (h.f18 (kk (by decide) k))⟩⟩
 ·obtain ⟨c0,c1,c2,e,hm⟩:=h.f11 (kk (by decide) k)
  exact ⟨c0,c1,c2,e,hm.touchBox hB _⟩
 ·obtain ⟨c0,c1,c2,e,hm⟩:=h.f12 (kk (by decide) k)
  exact ⟨c0,c1,c2,e,hm.touchBox hB _⟩
 ·obtain ⟨c,d,e,h3,h4⟩:=h.f15 (kk (by decide) k)
  exact ⟨c,d,e,S h3,S h4⟩
 ·obtain ⟨b',e,h3,h4,h5,h6⟩:=h.f16 (kk (by decide) k)
  have hne:b ≠ b':=by
   rintro rfl
   rcases h6 with h6|h6<;>(have h7:=h6.2;rw [hB] at h7;cases h7)
  refine ⟨b',e,h3,h4,h5,?_⟩
  rw [zj (by decide),N b' hne]
  exact h6
 ·exact ⟨b,e12,hb,hbq,hbg,.inr ⟨zaN (by rw [h.sz];decide),_,_,World.setB_at _ _ _ hz,S q0,S q1⟩⟩
end
end Go.Proofs.YtncnbihlngapbaaGreat
