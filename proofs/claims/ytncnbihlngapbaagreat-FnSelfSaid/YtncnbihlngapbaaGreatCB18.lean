/- Texts of this claim, merged: the walks and what they stand on. Each condition stands in its theorem. -/
import Derived.Test.YtncnbihlngapbaaGreatCB17
set_option linter.unusedVariables false
set_option linter.unusedSimpArgs false
set_option maxRecDepth 100000
set_option maxHeartbeats 8000000
namespace Go.Proofs.YtncnbihlngapbaaGreat
open Go.ChangeShapes Go.WideShapes Go.ChangeAt Go.RowKit
structure CI (w:World) (s:Value) (proc:Int) (c:CallD) (cs:List CellD) (an:AnswerD) (m:MachD) (L:Array Bool) (W:World) (x9 x10 x11 x12 x13 x14 x15 x16 x17 x18:Value):Prop where
 sz:L.size=12
 c10:L.getD 10 false=true->L.getD 8 false=true
 c11:L.getD 11 false=true->L.getD 9 false=true
 bel:Below w.heap.size w W
 C:W.heap[w.heap.size]?=some (.cells #[.int .i64 c.kind,.string c.name,.string c.to,.int .i64 c.a,.int .i64 c.b,.string c.text] 63 (0,0))
 A:W.heap[w.heap.size+1]?=some (.cells #[.int .i64 0,.int .i64 0,.string ⟨#[]⟩] 59 (0,0))
 T:W.heap[w.heap.size+1+1]?=some (.cells #[.slice none 0 0,.slice none 0 0] 27 (0,0))
 f0:L.getD 0 false=true->x12=s
 f1:L.getD 1 false=true->MRd W x13 ⟨cs,[],[]⟩
 f2:L.getD 2 false=true->x14=.int .i64 proc
 f3:L.getD 3 false=true->x15=zbk c
 f4:L.getD 4 false=true->∃ v',x16=.tuple #[v',zca an]/\MRd W v' m
 f5:L.getD 5 false=true->∃ v',x11=.tuple #[v',zca an]/\MRd W v' m
 f6:L.getD 6 false=true->MRd W x17 m
 f7:L.getD 7 false=true->x18=zca an
 f8:L.getD 8 false=true->∃ b,x9=.pointer (some ⟨b,0,none⟩)/\w.heap.size+3<=b/\((L.getD 10 false=false/\W.heap[b]?=some (.cells #[.slice none 0 0,.slice none 0 0,.slice none 0 0] 76 (0,0))) ∨ (L.getD 10 false=true/\∃ v0 v1 v2,W.heap[b]?=some (.cells #[v0,v1,v2] 76 (0,0))/\MRd W (.agg #[v0,v1,v2]) m))
 f9:L.getD 9 false=true->∃ b,x10=.pointer (some ⟨b,0,none⟩)/\w.heap.size+3<=b/\((L.getD 11 false=false/\W.heap[b]?=some (.cells #[.int .i64 0,.int .i64 0,.string ⟨#[]⟩] 59 (0,0))) ∨ (L.getD 11 false=true/\W.heap[b]?=some (.cells #[.int .i64 an.code,.int .i64 an.n,.string an.text] 59 (0,0))))
theorem MRd.oneBox {W:World} {v:Value} {m:MachD} (h:MRd W v m) {b:Nat} {a0 a1 a2:Option Addr} {n0 n1 n2 c0 c1 c2:Nat} {t:TypeId} (hb:W.heap[b]?=some (.cells #[.slice a0 n0 c0,.slice a1 n1 c1,.slice a2 n2 c2] t (0,0))) (o:Obj):MRd (W.setB b o) v m:=by
 obtain ⟨v0,v1,v2,rfl,h0,h1,h2⟩:=h
 exact ⟨v0,v1,v2,rfl,zba (zh _) h0 hb o,zba (ze _) h1 hb o,zba (ze _) h2 hb o⟩
theorem MRd.ansBox {W:World} {v:Value} {m:MachD} (hr:∀ s ∈ m.rd,s.size ≠ 0) (hw:∀ s ∈ m.wr,s.size ≠ 0) (h:MRd W v m) {b:Nat} {x y:Int} {t:TypeId} (hb:W.heap[b]?=some (.cells #[.int .i64 x,.int .i64 y,.string ⟨#[]⟩] t (0,0))) (o:Obj):MRd (W.setB b o) v m:=by
 obtain ⟨v0,v1,v2,rfl,h0,h1,h2⟩:=h
 exact ⟨v0,v1,v2,rfl,zcM h0 hb o,zbg hr h1 hb o,zbg hw h2 hb o⟩
theorem zaz {α : Type} {R:RowOf α} {w:World} {v:Value} {xs:List α} (hstr:∀ u ∈ xs.flatMap R.row,∃ s,u=.string s) (h:RdL R w v xs) {p:Nat} {cs:Array Value} {t:TypeId} (hp:w.heap[p]?=some (.cells cs t (0,0))) (hc:∀ u ∈ cs,∀ s,u ≠ .string s) (o:Obj):RdL R (w.setB p o) v xs:=by
 by_cases hq:v.ownBlock=some p
 ·rcases h with h|⟨b,off,cap,hv,h1,h2,h3⟩
  ·exact .inl h
  ·refine .inr ⟨b,off,cap,hv,h1,h2,fun j u hj=>?_⟩
   exfalso
   subst hv
   have e:b=p:=by simpa [Value.ownBlock] using hq
   subst e
   have hc2:=h3 j u hj
   rw [zg hp] at hc2
   obtain ⟨s,rfl⟩:=hstr u (List.mem_of_getElem? hj)
   exact hc _ (Array.mem_of_getElem? hc2) s rfl
 ·exact h.setB hq o
theorem MRd.touchBox {W:World} {v:Value} {m:MachD} (h:MRd W v m) {b:Nat} {a0 a1:Option Addr} {n0 n1 c0 c1:Nat} {t:TypeId} (hb:W.heap[b]?=some (.cells #[.slice a0 n0 c0,.slice a1 n1 c1] t (0,0))) (o:Obj):MRd (W.setB b o) v m:=by
 have hn:∀ u ∈ (#[.slice a0 n0 c0,.slice a1 n1 c1]:Array Value),∀ s,u ≠ .string s:=by
  intro u hu s
  simp at hu
  rcases hu with rfl|rfl<;>simp
 obtain ⟨v0,v1,v2,rfl,h0,h1,h2⟩:=h
 exact ⟨v0,v1,v2,rfl,zaz (zh _) h0 hb hn o,zaz (ze _) h1 hb hn o,zaz (ze _) h2 hb hn o⟩
section
variable {w:World} {s:Value} {proc:Int} {c:CallD} {cs:List CellD} {an:AnswerD} {m:MachD} {L:Array Bool} {W W':World} {x9 x10 x11 x12 x13 x14 x15 x16 x17 x18:Value}
theorem CI.grow (h:CI w s proc c cs an m L W x9 x10 x11 x12 x13 x14 x15 x16 x17 x18) (hb:Below W.heap.size W W'):CI w s proc c cs an m L W' x9 x10 x11 x12 x13 x14 x15 x16 x17 x18:=by
 have G:=fun {k:Nat} {o:Obj} (hk:W.heap[k]?=some o)=>(Grew.below hb k (zb hk)).trans hk
 refine ⟨h.sz,h.c10,h.c11,Below.then h.bel hb,G h.C,G h.A,G h.T,h.f0,fun k=>(h.f1 k).below hb,h.f2,h.f3,fun k=>?_,fun k=>?_,fun k=>(h.f6 k).below hb,h.f7,fun k=>?_,fun k=>?_⟩
 ·obtain ⟨v',e,hm⟩:=h.f4 k
  exact ⟨v',e,hm.below hb⟩
 ·obtain ⟨v',e,hm⟩:=h.f5 k
  exact ⟨v',e,hm.below hb⟩
 ·obtain ⟨b,e,hb1,h1|⟨h1,v0,v1,v2,h2,h3⟩⟩:=h.f8 k
  ·exact ⟨b,e,hb1,.inl ⟨h1.1,G h1.2⟩⟩
  ·exact ⟨b,e,hb1,.inr ⟨h1,v0,v1,v2,G h2,h3.below hb⟩⟩
 ·obtain ⟨b,e,hb1,h1|h1⟩:=h.f9 k
  ·exact ⟨b,e,hb1,.inl ⟨h1.1,G h1.2⟩⟩
  ·exact ⟨b,e,hb1,.inr ⟨h1.1,G h1.2⟩⟩
theorem CI.set (h:CI w s proc c cs an m L W x9 x10 x11 x12 x13 x14 x15 x16 x17 x18) {i:Nat} (hi:i<10) (hi0:i ≠ 10) {y9 y10 y11 y12 y13 y14 y15 y16 y17 y18:Value}
  (e0:if i=0 then y12=s else y12=x12) (e1:if i=1 then MRd W y13 ⟨cs,[],[]⟩ else y13=x13) (e2:if i=2 then y14=.int .i64 proc else y14=x14) (e3:if i=3 then y15=zbk c else y15=x15)
  (e4:if i=4 then ∃ v',y16=.tuple #[v',zca an]/\MRd W v' m else y16=x16) (e5:if i=5 then ∃ v',y11=.tuple #[v',zca an]/\MRd W v' m else y11=x11) (e6:if i=6 then MRd W y17 m else y17=x17) (e7:if i=7 then y18=zca an else y18=x18)
  (e8:if i=8 then L.getD 10 false=false/\∃ b,y9=.pointer (some ⟨b,0,none⟩)/\w.heap.size+3<=b/\W.heap[b]?=some (.cells #[.slice none 0 0,.slice none 0 0,.slice none 0 0] 76 (0,0)) else y9=x9)
  (e9:if i=9 then L.getD 11 false=false/\∃ b,y10=.pointer (some ⟨b,0,none⟩)/\w.heap.size+3<=b/\W.heap[b]?=some (.cells #[.int .i64 0,.int .i64 0,.string ⟨#[]⟩] 59 (0,0)) else y10=x10) :
  CI w s proc c cs an m (L.setIfInBounds i true) W y9 y10 y11 y12 y13 y14 y15 y16 y17 y18:=by
 have k10:(L.setIfInBounds i true).getD 10 false=L.getD 10 false:=zj (by omega)
 have k11:(L.setIfInBounds i true).getD 11 false=L.getD 11 false:=zj (by omega)
 have up:∀ j,L.getD j false=true->(L.setIfInBounds i true).getD j false=true:=fun j hj=>by
  by_cases hx:i=j
  ·subst hx;exact zaN (by have:=h.sz;omega)
  ·rw [zj hx];exact hj
 refine ⟨by rw [Array.size_setIfInBounds];exact h.sz,fun k=>up _ (h.c10 (k10 ▸ k)),fun k=>up _ (h.c11 (k11 ▸ k)),h.bel,h.C,h.A,h.T,fun k=>?_,fun k=>?_,fun k=>?_,fun k=>?_,fun k=>?_,fun k=>?_,fun k=>?_,fun k=>?_,fun k=>?_,fun k=>?_⟩
 ·by_cases hx:i=0
  ·rwa [if_pos hx] at e0
  ·rw [if_neg hx] at e0;rw [zj hx] at k;rw [e0];exact h.f0 k
 ·by_cases hx:i=1
  ·rwa [if_pos hx] at e1
  ·rw [if_neg hx] at e1;rw [zj hx] at k;rw [e1];exact h.f1 k
 ·by_cases hx:i=2
  ·rwa [if_pos hx] at e2
  ·rw [if_neg hx] at e2;rw [zj hx] at k;rw [e2];exact h.f2 k
 ·by_cases hx:i=3
  ·rwa [if_pos hx] at e3
  ·rw [if_neg hx] at e3;rw [zj hx] at k;rw [e3];exact h.f3 k
 ·by_cases hx:i=4
  ·rwa [if_pos hx] at e4
  ·rw [if_neg hx] at e4;rw [zj hx] at k;rw [e4];exact h.f4 k
 ·by_cases hx:i=5
  ·rwa [if_pos hx] at e5
  ·rw [if_neg hx] at e5;rw [zj hx] at k;rw [e5];exact h.f5 k
 ·by_cases hx:i=6
  ·rwa [if_pos hx] at e6
  ·rw [if_neg hx] at e6;rw [zj hx] at k;rw [e6];exact h.f6 k
 ·by_cases hx:i=7
  ·rwa [if_pos hx] at e7
  ·rw [if_neg hx] at e7;rw [zj hx] at k;rw [e7];exact h.f7 k
 ·rw [k10]
  by_cases hx:i=8
  ·rw [if_pos hx] at e8
   obtain ⟨h1,b,e,h2,h3⟩:=e8
   exact ⟨b,e,h2,.inl ⟨h1,h3⟩⟩
  ·rw [if_neg hx] at e8;rw [zj hx] at k;rw [e8];exact h.f8 k
 ·rw [k11]
  by_cases hx:i=9
  ·rw [if_pos hx] at e9
   obtain ⟨h1,b,e,h2,h3⟩:=e9
   exact ⟨b,e,h2,.inl ⟨h1,h3⟩⟩
  ·rw [if_neg hx] at e9;rw [zj hx] at k;rw [e9];exact h.f9 k
theorem CI.st10 (h:CI w s proc c cs an m L W x9 x10 x11 x12 x13 x14 x15 x16 x17 x18) (k6:L.getD 6 false=true) (k8:L.getD 8 false=true) (k10:L.getD 10 false=false) :
  ∃ b a0 c0 a1 c1 a2 c2,x9=.pointer (some ⟨b,0,none⟩)/\x17=.agg #[.slice a0 m.cells.length c0,.slice a1 m.rd.length c1,.slice a2 m.wr.length c2]/\W.heap[b]?=some (.cells #[.slice none 0 0,.slice none 0 0,.slice none 0 0] 76 (0,0))/\CI w s proc c cs an m (L.setIfInBounds 10 true) (W.setB b (.cells #[.slice a0 m.cells.length c0,.slice a1 m.rd.length c1,.slice a2 m.wr.length c2] 76 (0,0))) x9 x10 x11 x12 x13 x14 x15 x16 x17 x18:=by
 obtain ⟨b,e9,hb,h1|h1⟩:=h.f8 k8
 case inr=>rw [h1.1] at k10;cases k10
 have hm6:=h.f6 k6
 obtain ⟨a0,c0,a1,c1,a2,c2,e17,r0,r1,r2⟩:=hm6.form
 have hB:=h1.2
 have hz:=zb hB
 have N:∀ k,k<w.heap.size+3->(W.setB b (.cells #[.slice a0 m.cells.length c0,.slice a1 m.rd.length c1,.slice a2 m.wr.length c2] 76 (0,0))).heap[k]?=W.heap[k]?:=fun k hk=>World.setB_get _ _ _ _ (by omega)
 have kk:=fun {j:Nat} (hj : 10 ≠ j) (k:(L.setIfInBounds 10 true).getD j false=true)=>(zj (L:=L) hj) ▸ k
 refine ⟨b,a0,c0,a1,c1,a2,c2,e9,e17,hB,⟨by rw [Array.size_setIfInBounds];exact h.sz,fun _=>by rw [zj (by decide)];exact k8,fun k=>by rw [zj (by decide)];exact h.c11 (kk (by decide) k),zp h.bel (by omega) _,(N _ (by omega)).trans h.C,(N _ (by omega)).trans h.A,(N _ (by omega)).trans h.T,fun k=>h.f0 (kk (by decide) k),fun k=>(h.f1 (kk (by decide) k)).oneBox hB _,fun k=>h.f2 (kk (by decide) k),fun k=>h.f3 (kk (by decide) k),fun k=>?_,fun k=>?_,fun k=>(h.f6 (kk (by decide) k)).oneBox hB _,fun k=>h.f7 (kk (by decide) k),fun k=>?_,fun k=>?_⟩⟩
 ·obtain ⟨v',e,hm⟩:=h.f4 (kk (by decide) k)
  exact ⟨v',e,hm.oneBox hB _⟩
 ·obtain ⟨v',e,hm⟩:=h.f5 (kk (by decide) k)
  exact ⟨v',e,hm.oneBox hB _⟩
 ·refine ⟨b,e9,hb,.inr ⟨zaN (by rw [h.sz];decide),_,_,_,World.setB_at _ _ _ hz,?_⟩⟩
  exact MRd.oneBox ⟨_,_,_,rfl,r0,r1,r2⟩ hB _
 ·obtain ⟨b',e,hb',h2⟩:=h.f9 (kk (by decide) k)
  have hne:b ≠ b':=by
   rintro rfl
   rcases h2 with h2|h2<;>(have h3:=h2.2;rw [hB] at h3;cases h3)
  rw [zj (by decide)]
  have e3:(W.setB b (.cells #[.slice a0 m.cells.length c0,.slice a1 m.rd.length c1,.slice a2 m.wr.length c2] 76 (0,0))).heap[b']?=W.heap[b']?:=World.setB_get _ _ _ _ (by omega)
  refine ⟨b',e,hb',?_⟩
  rw [e3]
  exact h2
theorem CI.st11 (hrd:∀ s ∈ m.rd,s.size ≠ 0) (hwr:∀ s ∈ m.wr,s.size ≠ 0) (h:CI w s proc c cs an m L W x9 x10 x11 x12 x13 x14 x15 x16 x17 x18) (k7:L.getD 7 false=true) (k9:L.getD 9 false=true) (k11:L.getD 11 false=false) :
  ∃ b,x10=.pointer (some ⟨b,0,none⟩)/\x18=zca an/\W.heap[b]?=some (.cells #[.int .i64 0,.int .i64 0,.string ⟨#[]⟩] 59 (0,0))/\CI w s proc c cs an m (L.setIfInBounds 11 true) (W.setB b (.cells #[.int .i64 an.code,.int .i64 an.n,.string an.text] 59 (0,0))) x9 x10 x11 x12 x13 x14 x15 x16 x17 x18:=by
 obtain ⟨b,e10,hb,h1|h1⟩:=h.f9 k9
 case inr=>rw [h1.1] at k11;cases k11
 have hB:=h1.2
 have hz:=zb hB
 have N:∀ k,k<w.heap.size+3->(W.setB b (.cells #[.int .i64 an.code,.int .i64 an.n,.string an.text] 59 (0,0))).heap[k]?=W.heap[k]?:=fun k hk=>World.setB_get _ _ _ _ (by omega)
 have kk:=fun {j:Nat} (hj : 11 ≠ j) (k:(L.setIfInBounds 11 true).getD j false=true)=>(zj (L:=L) hj) ▸ k
 refine ⟨b,e10,h.f7 k7,hB,⟨by rw [Array.size_setIfInBounds];exact h.sz,fun k=>by rw [zj (by decide)];exact h.c10 (kk (by decide) k),fun _=>by rw [zj (by decide)];exact k9,zp h.bel (by omega) _,(N _ (by omega)).trans h.C,(N _ (by omega)).trans h.A,(N _ (by omega)).trans h.T,fun k=>h.f0 (kk (by decide) k),fun k=>(h.f1 (kk (by decide) k)).ansBox (by simp) (by simp) hB _,fun k=>h.f2 (kk (by decide) k),fun k=>h.f3 (kk (by decide) k),fun k=>?_,fun k=>?_,fun k=>(h.f6 (kk (by decide) k)).ansBox hrd hwr hB _,fun k=>h.f7 (kk (by decide) k),fun k=>?_,fun k=>?_⟩⟩
 ·obtain ⟨v',e,hm⟩:=h.f4 (kk (by decide) k)
  exact ⟨v',e,hm.ansBox hrd hwr hB _⟩
 ·obtain ⟨v',e,hm⟩:=h.f5 (kk (by decide) k)
  exact ⟨v',e,hm.ansBox hrd hwr hB _⟩
 ·obtain ⟨b',e,hb',h2⟩:=h.f8 (kk (by decide) k)
  have hne:b ≠ b':=by
   rintro rfl
   rcases h2 with h2|⟨_,v0,v1,v2,h2,_⟩
   ·have h3:=h2.2;rw [hB] at h3;cases h3
   ·rw [hB] at h2;cases h2
  rw [zj (by decide)]
  have e3:(W.setB b (.cells #[.int .i64 an.code,.int .i64 an.n,.string an.text] 59 (0,0))).heap[b']?=W.heap[b']?:=World.setB_get _ _ _ _ (by omega)
  refine ⟨b',e,hb',?_⟩
  rw [e3]
  rcases h2 with h2|⟨h0,v0,v1,v2,h2,h3⟩
  ·exact .inl h2
  ·exact .inr ⟨h0,v0,v1,v2,h2,h3.ansBox hrd hwr hB _⟩
 ·exact ⟨b,e10,hb,.inr ⟨zaN (by rw [h.sz];decide),World.setB_at _ _ _ hz⟩⟩
end
theorem zdI (v:Value) (cs:List CellD) (proc:Int) (hp0 : -9223372036854775808<=proc) (hp1:proc<=9223372036854775807) (c:CallD) (hc:c.ok) (ha0 : -9223372036854775808<=c.a) (ha1:c.a<=9223372036854775807) (hb0 : -9223372036854775808<=c.b) (hb1:c.b<=9223372036854775807) (w:World) (h:RdL zE w v cs) (hf:(K.doCall proc c).fits ⟨cs,[],[]⟩) :
  Calls Tryz.prog 28 #[v,.int .i64 proc,zbk c] w fun e w'=>∃ v0 v1 v2,e=.returned (.tuple #[v0,zca ((K.doCall proc c).run ⟨cs,[],[]⟩).1,.agg #[v1,v2]])/\MRd w' (.agg #[v0,v1,v2]) ((K.doCall proc c).run ⟨cs,[],[]⟩).2/\Below w.heap.size w w':=by
 have hsm:=Mp.fits_end hf
 have hl:=(Mp.fits_small hf).cl
 dsimp only at hl
 have D1:=Hd (fun w' (hb:Below w.heap.size w w')=>zfp v cs w' (h.below hb) hl)
 have D2:Hid (∀ w' v',MRd w' v' ⟨cs,[],[]⟩->Calls Tryz.prog 42 #[v',.int .i64 proc,.agg #[.int .i64 c.kind,.string c.name,.string c.to,.int .i64 c.a,.int .i64 c.b,.string c.text]] w' fun e w1=>∃ v1,e=.returned (.tuple #[v1,zca ((K.doCall proc c).run ⟨cs,[],[]⟩).1])/\SS w' w1 v1 ((K.doCall proc c).run ⟨cs,[],[]⟩).2):=fun w' v' hm=>zfR proc hp0 hp1 c hc ha0 ha1 hb0 hb1 w' v' ⟨cs,[],[]⟩ hm hf
 generalize (K.doCall proc c).run ⟨cs,[],[]⟩=R at hsm D2 ⊢
 obtain ⟨an,m⟩:=R
 dsimp only at hsm D2 ⊢
 have HRD:=Hd hsm.rn
 have HWR:=Hd hsm.wn
 clear hsm hf hl h
 obtain ⟨kd,nm,tn,ca,cb,tx⟩:=c
 unfold zbk
 dsimp only at ha0 ha1 hb0 hb1 D2 ⊢
 go_enter Tryz.func28,Tryz.ntmps28
 (try simp only []);repeat (first|go_skip|go_guarded|go_step|go_upon|go_back)
 refine zaF (fun L a W=>∃ x9 x10 x11 x12 x13 x14 x15 x16 x17 x18,a=⟨#[v,.int .i64 proc,.agg #[.int .i64 kd,.string nm,.string tn,.int .i64 ca,.int .i64 cb,.string tx],undef,undef,.pointer (some ⟨w.heap.size,0,none⟩),.slice none 0 0,.pointer (some ⟨w.heap.size+1,0,none⟩),.pointer (some ⟨w.heap.size+1+1,0,none⟩),x9,x10,x11,x12,x13,x14,x15,x16,x17,x18,undef,undef,undef,undef,undef],[]⟩/\CI w v proc ⟨kd,nm,tn,ca,cb,tx⟩ cs an m L W x9 x10 x11 x12 x13 x14 x15 x16 x17 x18) (by kernel_rfl) ?_ ?_ ?_
 ·have N:∀ j,¬ (Array.replicate 12 false).getD j false=true:=zc3 12
  have h3:=zjD w (.cells #[.int .i64 kd,.string nm,.string tn,.int .i64 ca,.int .i64 cb,.string tx] 63) (.cells #[.int .i64 0,.int .i64 0,.string ⟨#[]⟩] 59) (.cells #[.slice none 0 0,.slice none 0 0] 27) w.heap.size rfl
  refine ⟨_,_,_,_,_,_,_,_,_,_,rfl,⟨by simp,fun k=>absurd k (N _),fun k=>absurd k (N _),(by repeat (first|with_reducible exact Below.refl _ _|with_reducible apply Below.ofExt|with_reducible apply Below.ofAlloc|with_reducible apply Below.drew|with_reducible apply Below.ofDrewN|with_reducible assumption|(with_reducible refine Below.setCell ?_ (by first|exact Nat.le_refl _|(simp [go_sem];done)|(simp [go_sem];omega)) _))),h3.1,h3.2.1,h3.2.2,fun k=>absurd k (N _),fun k=>absurd k (N _),fun k=>absurd k (N _),fun k=>absurd k (N _),fun k=>absurd k (N _),fun k=>absurd k (N _),fun k=>absurd k (N _),fun k=>absurd k (N _),fun k=>absurd k (N _),fun k=>absurd k (N _)⟩⟩
 ·rintro L a W i ⟨x9,x10,x11,x12,x13,x14,x15,x16,x17,x18,rfl,H⟩ hi
  have hlt:=zbN hi
  have hun:=zbM hi
  have hW:Hid (∀ j,zbL _ i j=true->L.getD j false=true):=fun j h=>za1 hi h
  have h12:i<12:=hlt
  clear hlt hi
  have hcs:i=0 ∨ i=1 ∨ i=2 ∨ i=3 ∨ i=4 ∨ i=5 ∨ i=6 ∨ i=7 ∨ i=8 ∨ i=9 ∨ i=10 ∨ i=11:=by omega
  clear h12
  rcases hcs with rfl|rfl|rfl|rfl|rfl|rfl|rfl|rfl|rfl|rfl|rfl|rfl
  ·refine zz rfl (fun K hK=>?_)
   go_simp
   refine hK _ _ ⟨_,_,_,_,_,_,_,_,_,_,rfl,H.set (i:=0) (by decide) (by decide) (by first|(simp;done)|(rw [if_neg (by decide)];rfl)) (by first|(simp;done)|(rw [if_neg (by decide)];rfl)) (by first|(simp;done)|(rw [if_neg (by decide)];rfl)) (by first|(simp;done)|(rw [if_neg (by decide)];rfl)) (by first|(simp;done)|(rw [if_neg (by decide)];rfl)) (by first|(simp;done)|(rw [if_neg (by decide)];rfl)) (by first|(simp;done)|(rw [if_neg (by decide)];rfl)) (by first|(simp;done)|(rw [if_neg (by decide)];rfl)) (by first|(simp;done)|(rw [if_neg (by decide)];rfl)) (by first|(simp;done)|(rw [if_neg (by decide)];rfl))⟩
  ·obtain rfl:=H.f0 (hW.out 0 (by kernel_rfl))
   refine zz rfl (fun K hK=>?_)
   go_simp
   go_at_call 41
   refine (D1.out W H.bel).mono ?_
   rintro e W' ⟨v',rfl,ho,hb⟩
   try go_simp
   refine hK _ _ ⟨_,_,_,_,_,_,_,_,_,_,rfl,(H.grow hb).set (i:=1) (by decide) (by decide) (by first|(simp;done)|(rw [if_neg (by decide)];rfl)) (by rw [if_pos rfl];exact ⟨_,_,_,rfl,ho.rd,RdL.nil _ _,RdL.nil _ _⟩) (by first|(simp;done)|(rw [if_neg (by decide)];rfl)) (by first|(simp;done)|(rw [if_neg (by decide)];rfl)) (by first|(simp;done)|(rw [if_neg (by decide)];rfl)) (by first|(simp;done)|(rw [if_neg (by decide)];rfl)) (by first|(simp;done)|(rw [if_neg (by decide)];rfl)) (by first|(simp;done)|(rw [if_neg (by decide)];rfl)) (by first|(simp;done)|(rw [if_neg (by decide)];rfl)) (by first|(simp;done)|(rw [if_neg (by decide)];rfl))⟩
  ·refine zz rfl (fun K hK=>?_)
   go_simp
   refine hK _ _ ⟨_,_,_,_,_,_,_,_,_,_,rfl,H.set (i:=2) (by decide) (by decide) (by first|(simp;done)|(rw [if_neg (by decide)];rfl)) (by first|(simp;done)|(rw [if_neg (by decide)];rfl)) (by first|(simp;done)|(rw [if_neg (by decide)];rfl)) (by first|(simp;done)|(rw [if_neg (by decide)];rfl)) (by first|(simp;done)|(rw [if_neg (by decide)];rfl)) (by first|(simp;done)|(rw [if_neg (by decide)];rfl)) (by first|(simp;done)|(rw [if_neg (by decide)];rfl)) (by first|(simp;done)|(rw [if_neg (by decide)];rfl)) (by first|(simp;done)|(rw [if_neg (by decide)];rfl)) (by first|(simp;done)|(rw [if_neg (by decide)];rfl))⟩
  ·have hC:=H.C
   have hz:=zb hC
   have p0:W.cell? ⟨w.heap.size,0,none⟩=some (.int .i64 kd):=(zg (i:=0) hC).trans rfl
   have p1:W.cell? ⟨w.heap.size,1,none⟩=some (.string nm):=(zg (i:=1) hC).trans rfl
   have p2:W.cell? ⟨w.heap.size,2,none⟩=some (.string tn):=(zg (i:=2) hC).trans rfl
   have p3:W.cell? ⟨w.heap.size,3,none⟩=some (.int .i64 ca):=(zg (i:=3) hC).trans rfl
   have p4:W.cell? ⟨w.heap.size,4,none⟩=some (.int .i64 cb):=(zg (i:=4) hC).trans rfl
   have p5:W.cell? ⟨w.heap.size,5,none⟩=some (.string tx):=(zg (i:=5) hC).trans rfl
   refine zz rfl (fun K hK=>?_)
   go_simp
   refine hK _ _ ⟨_,_,_,_,_,_,_,_,_,_,rfl,H.set (i:=3) (by decide) (by decide) (by first|(simp;done)|(rw [if_neg (by decide)];rfl)) (by first|(simp;done)|(rw [if_neg (by decide)];rfl)) (by first|(simp;done)|(rw [if_neg (by decide)];rfl)) (by rw [if_pos rfl];rfl) (by first|(simp;done)|(rw [if_neg (by decide)];rfl)) (by first|(simp;done)|(rw [if_neg (by decide)];rfl)) (by first|(simp;done)|(rw [if_neg (by decide)];rfl)) (by first|(simp;done)|(rw [if_neg (by decide)];rfl)) (by first|(simp;done)|(rw [if_neg (by decide)];rfl)) (by first|(simp;done)|(rw [if_neg (by decide)];rfl))⟩
  ·have hm:=H.f1 (hW.out 1 (by kernel_rfl))
   obtain rfl:=H.f2 (hW.out 2 (by kernel_rfl))
   obtain rfl:=H.f3 (hW.out 3 (by kernel_rfl))
   unfold zbk
   refine zz rfl (fun K hK=>?_)
   go_simp
   go_at_call 42
   refine (D2.out W _ hm).mono ?_
   rintro e W' ⟨v1,rfl,hm1,hb⟩
   try go_simp
   refine hK _ _ ⟨_,_,_,_,_,_,_,_,_,_,rfl,(H.grow hb).set (i:=4) (by decide) (by decide) (by first|(simp;done)|(rw [if_neg (by decide)];rfl)) (by first|(simp;done)|(rw [if_neg (by decide)];rfl)) (by first|(simp;done)|(rw [if_neg (by decide)];rfl)) (by first|(simp;done)|(rw [if_neg (by decide)];rfl)) (by rw [if_pos rfl];exact ⟨_,rfl,hm1⟩) (by first|(simp;done)|(rw [if_neg (by decide)];rfl)) (by first|(simp;done)|(rw [if_neg (by decide)];rfl)) (by first|(simp;done)|(rw [if_neg (by decide)];rfl)) (by first|(simp;done)|(rw [if_neg (by decide)];rfl)) (by first|(simp;done)|(rw [if_neg (by decide)];rfl))⟩
  ·obtain ⟨v1,e1,hm1⟩:=H.f4 (hW.out 4 (by kernel_rfl))
   have HH:=H
   rw [e1] at H ⊢
   refine zz rfl (fun K hK=>?_)
   go_simp
   refine hK _ _ ⟨_,_,_,_,_,_,_,_,_,_,rfl,H.set (i:=5) (by decide) (by decide) (by first|(simp;done)|(rw [if_neg (by decide)];rfl)) (by first|(simp;done)|(rw [if_neg (by decide)];rfl)) (by first|(simp;done)|(rw [if_neg (by decide)];rfl)) (by first|(simp;done)|(rw [if_neg (by decide)];rfl)) (by first|(simp;done)|(rw [if_neg (by decide)];rfl)) (by rw [if_pos rfl];exact ⟨v1,rfl,hm1⟩) (by first|(simp;done)|(rw [if_neg (by decide)];rfl)) (by first|(simp;done)|(rw [if_neg (by decide)];rfl)) (by first|(simp;done)|(rw [if_neg (by decide)];rfl)) (by first|(simp;done)|(rw [if_neg (by decide)];rfl))⟩
  ·obtain ⟨v1,e1,hm1⟩:=H.f5 (hW.out 5 (by kernel_rfl))
   rw [e1] at H ⊢
   refine zz rfl (fun K hK=>?_)
   go_simp
   refine hK _ _ ⟨_,_,_,_,_,_,_,_,_,_,rfl,H.set (i:=6) (by decide) (by decide) (by first|(simp;done)|(rw [if_neg (by decide)];rfl)) (by first|(simp;done)|(rw [if_neg (by decide)];rfl)) (by first|(simp;done)|(rw [if_neg (by decide)];rfl)) (by first|(simp;done)|(rw [if_neg (by decide)];rfl)) (by first|(simp;done)|(rw [if_neg (by decide)];rfl)) (by first|(simp;done)|(rw [if_neg (by decide)];rfl)) (by rw [if_pos rfl];exact hm1) (by first|(simp;done)|(rw [if_neg (by decide)];rfl)) (by first|(simp;done)|(rw [if_neg (by decide)];rfl)) (by first|(simp;done)|(rw [if_neg (by decide)];rfl))⟩
  ·obtain ⟨v1,e1,hm1⟩:=H.f5 (hW.out 5 (by kernel_rfl))
   rw [e1] at H ⊢
   refine zz rfl (fun K hK=>?_)
   go_simp
   refine hK _ _ ⟨_,_,_,_,_,_,_,_,_,_,rfl,H.set (i:=7) (by decide) (by decide) (by first|(simp;done)|(rw [if_neg (by decide)];rfl)) (by first|(simp;done)|(rw [if_neg (by decide)];rfl)) (by first|(simp;done)|(rw [if_neg (by decide)];rfl)) (by first|(simp;done)|(rw [if_neg (by decide)];rfl)) (by first|(simp;done)|(rw [if_neg (by decide)];rfl)) (by first|(simp;done)|(rw [if_neg (by decide)];rfl)) (by first|(simp;done)|(rw [if_neg (by decide)];rfl)) (by simp) (by first|(simp;done)|(rw [if_neg (by decide)];rfl)) (by first|(simp;done)|(rw [if_neg (by decide)];rfl))⟩
  ·have k10:L.getD 10 false=false:=by cases h:L.getD 10 false with|false=>rfl|true=>exact absurd (H.c10 h) (by rw [hun];decide)
   refine zz rfl (fun K hK=>?_)
   go_simp
   refine hK _ _ ⟨_,_,_,_,_,_,_,_,_,_,rfl,(H.grow (Below.ofAlloc (Below.refl _ _) _)).set (i:=8) (by decide) (by decide) (by first|(simp;done)|(rw [if_neg (by decide)];rfl)) (by first|(simp;done)|(rw [if_neg (by decide)];rfl)) (by first|(simp;done)|(rw [if_neg (by decide)];rfl)) (by first|(simp;done)|(rw [if_neg (by decide)];rfl)) (by first|(simp;done)|(rw [if_neg (by decide)];rfl)) (by first|(simp;done)|(rw [if_neg (by decide)];rfl)) (by first|(simp;done)|(rw [if_neg (by decide)];rfl)) (by first|(simp;done)|(rw [if_neg (by decide)];rfl)) (by rw [if_pos rfl];exact ⟨k10,_,rfl,by have:=H.bel.size;have:=zb H.T;omega,heap_alloc_new _ _⟩) (by first|(simp;done)|(rw [if_neg (by decide)];rfl))⟩
  ·have k11:L.getD 11 false=false:=by cases h:L.getD 11 false with|false=>rfl|true=>exact absurd (H.c11 h) (by rw [hun];decide)
   refine zz rfl (fun K hK=>?_)
   go_simp
   refine hK _ _ ⟨_,_,_,_,_,_,_,_,_,_,rfl,(H.grow (Below.ofAlloc (Below.refl _ _) _)).set (i:=9) (by decide) (by decide) (by first|(simp;done)|(rw [if_neg (by decide)];rfl)) (by first|(simp;done)|(rw [if_neg (by decide)];rfl)) (by first|(simp;done)|(rw [if_neg (by decide)];rfl)) (by first|(simp;done)|(rw [if_neg (by decide)];rfl)) (by first|(simp;done)|(rw [if_neg (by decide)];rfl)) (by first|(simp;done)|(rw [if_neg (by decide)];rfl)) (by first|(simp;done)|(rw [if_neg (by decide)];rfl)) (by first|(simp;done)|(rw [if_neg (by decide)];rfl)) (by first|(simp;done)|(rw [if_neg (by decide)];rfl)) (by rw [if_pos rfl];exact ⟨k11,_,rfl,by have:=H.bel.size;have:=zb H.T;omega,heap_alloc_new _ _⟩)⟩
  ·obtain ⟨b,a0,c0,a1,c1,a2,c2,rfl,rfl,hB,H'⟩:=H.st10 (hW.out 6 (by kernel_rfl)) (hW.out 8 (by kernel_rfl)) hun
   have e1:=zi hB
   have hz:=zb hB
   refine zz rfl (fun K hK=>?_)
   rw [<- e1]
   clear e1
   go_simp
   exact hK _ _ ⟨_,_,_,_,_,_,_,_,_,_,rfl,H'⟩
  ·obtain ⟨b,rfl,rfl,hB,H'⟩:=H.st11 HRD.out HWR.out (hW.out 7 (by kernel_rfl)) (hW.out 9 (by kernel_rfl)) hun
   have e1:=zi hB
   have hz:=zb hB
   unfold zca
   refine zz rfl (fun K hK=>?_)
   rw [<- e1]
   clear e1
   go_simp
   exact hK _ _ ⟨_,_,_,_,_,_,_,_,_,_,rfl,H'⟩
 ·rintro L a W ⟨x9,x10,x11,x12,x13,x14,x15,x16,x17,x18,rfl,H⟩ hr
  have hall:=za9 (ops:=_) H.sz hr (zaA (by kernel_rfl))
  obtain ⟨b9,rfl,hb9,h9⟩:=H.f8 (hall 8 (by decide))
  obtain ⟨b10,rfl,hb10,h10⟩:=H.f9 (hall 9 (by decide))
  have k10:=hall 10 (by decide)
  have k11:=hall 11 (by decide)
  rcases h9 with h9|⟨_,v0,v1,v2,h9,hm⟩
  ·rw [k10] at h9;cases h9.1
  rcases h10 with h10|⟨_,h10⟩
  ·rw [k11] at h10;cases h10.1
  obtain ⟨a0,c0,a1,c1,a2,c2,e,_,_,_⟩:=hm.form
  cases e
  have hA:=H.A
  have hT:=H.T
  have HB:=Hd H.bel
  have HM:Hid (∀ o r,MRd ((W.setB (w.heap.size+1) o).setB (w.heap.size+1+1) r) (.agg #[.slice a0 m.cells.length c0,.slice a1 m.rd.length c1,.slice a2 m.wr.length c2]) m):=fun o r=>(hm.ansBox HRD.out HWR.out hA o).touchBox ((World.setB_get _ _ _ _ (by omega)).trans hT) r
  have y1:=zb hA
  have y2:=zb hT
  have hc9:∀ i o r,((W.setB (w.heap.size+1) o).setB (w.heap.size+1+1) r).cell? ⟨b9,i,none⟩=(#[.slice a0 m.cells.length c0,.slice a1 m.rd.length c1,.slice a2 m.wr.length c2]:Array Value)[i]?:=fun i o r=>by
   rw [zg (((World.setB_get _ _ _ _ (by omega)).trans ((World.setB_get _ _ _ _ (by omega)).trans h9)))]
  have hc10:∀ i o r,((W.setB (w.heap.size+1) o).setB (w.heap.size+1+1) r).cell? ⟨b10,i,none⟩=(#[.int .i64 an.code,.int .i64 an.n,.string an.text]:Array Value)[i]?:=fun i o r=>by
   rw [zg (((World.setB_get _ _ _ _ (by omega)).trans ((World.setB_get _ _ _ _ (by omega)).trans h10)))]
  have z9:b9<W.heap.size:=zb h9
  have z10:b10<W.heap.size:=zb h10
  have p0:=fun o r=>hc9 0 o r
  have p1:=fun o r=>hc9 1 o r
  have p2:=fun o r=>hc9 2 o r
  have r0:=fun o r=>hc10 0 o r
  have r1:=fun o r=>hc10 1 o r
  have r2:=fun o r=>hc10 2 o r
  simp at p0 p1 p2 r0 r1 r2
  have e1:(W.setB (w.heap.size+1) (.cells #[.int .i64 0,.int .i64 0,.string ⟨#[]⟩] 59 (0,0))).setB (w.heap.size+1+1) (.cells #[.slice none 0 0,.slice none 0 0] 27 (0,0))=W:=by rw [zi hA,zi hT]
  rw [<- e1]
  clear e1 hA hT hc9 hc10 h9 h10 hm H hall k10 k11 hr
  (try simp only []);repeat (first|go_skip|go_guarded|go_step|go_upon|go_back)
  go_region
  all_goals ((try simp only []);repeat (first|go_skip|go_guarded|go_step|go_upon|go_back))
  all_goals (
   refine bodyPost_ret (by simp [results,Tryz.results28,go_sem,y1,y2];rfl) rfl ?_
   obtain ⟨u0,u1,u2,e,q0,q1,q2⟩:=HM.out (.cells #[.int .i64 an.code,.int .i64 an.n,.string an.text] 59 (0,0)) (.cells #[.slice a1 m.rd.length c1,.slice a2 m.wr.length c2] 27 (0,0))
   cases e
   exact ⟨_,_,_,rfl,⟨_,_,_,rfl,RdL.drew q0,RdL.drew q1,RdL.drew q2⟩,Below.drew (zp (zp HB.out (by omega) _) (by omega) _)⟩)
end Go.Proofs.YtncnbihlngapbaaGreat
namespace Go
theorem run_appZ {P:Program} {w:World} {t ty e:TypeId} {size bytes:Nat} (E:Elem P t e size bytes) {g B:Nat} (hown:w.ownsRow B e size (.slice (some ⟨g,0,none⟩) 0 0) 0 []) (hB:B<=w.heap.size) (hg:w.heap[g]?=some (.cells #[] e (0,0)))
  {x:Value} {m:Nat} {news:List Value} (hx:Sl w x m news) (hl:news.length=m*size) (h1:∀ u ∈ news,u.oneCell'=true) (hb:m*bytes<=140737488355328) (h63:m<=maxLen) :
  ∃ v' w',(Builtin.append_ #[t,t] ty #[.slice (some ⟨g,0,none⟩) 0 0,x]).run P w=.ok v' w'/\Sl w' v' m news/\RowKit.Below w.heap.size w w'/\(∀ k,v'.ownBlock=some k->B<=k):=by
 obtain ⟨v',w',hr,h2,h3,h4⟩:=zhI (P:=P) (ty:=ty) E hown hx hl h1 (by simpa using hb) (by simpa using h63) hB
 have same:∀ {u:Value} {w'':World},(Builtin.append_ #[t,t] ty #[.slice (some ⟨g,0,none⟩) 0 0,x]).run P w=.ok u w''->w'=w'':=fun h=>by
  rw [hr] at h
  injection h
 refine ⟨v',w',hr,?_,?_,fun k hk=>(World.ownsRow.lt h2 k hk).1⟩
 ·have:=World.ownsRow.sl h2
  simpa using this
 ·obtain ⟨i,z,hi,hz,hs,hby,hzs⟩:=E.hi
  subst hs
  subst hby
  have hsm : 0+m<=9223372036854775807:=by simp only [maxLen] at h63;omega
  rcases hx with ⟨rfl,rfl,rfl⟩|⟨b,off,cap,rfl,_,_,hc⟩
  ·rw [same (run_append_owned_none w B t ty e i i.size E.ht hi _ 0 [] hown)]
   exact RowKit.Below.refl _ _
  ·have hnews:∀ j u,news[j]?=some u->w.cell? ((⟨b,off,none⟩ : Addr).add j)=some u:=fun j u hj=>by rw [zbQ];exact hc j u hj
   by_cases hm:m=0
   ·subst hm
    have hn:news = []:=List.eq_nil_of_length_eq_zero (by simpa using hl)
    subst hn
    have hw:=same (run_append_room (P:=P) w t ty e i E.ht hi g 0 0 #[] hg ⟨b,off,none⟩ 0 cap [] (by simp) hnews h1 (Nat.le_refl _) (by simp))
    refine ⟨h3.os,h3.tape,h3.output,h3.size,fun k hk=>?_⟩
    by_cases hkg:k=g
    ·subst hkg
     rw [hw,setRow_heap w k #[] _ e (0,0) hg,hg]
     simp
    ·exact h3.block k hk (by simpa [Value.ownBlock] using hkg)
   ·rw [same (run_append_grow (P:=P) w t ty e i z E.ht hi hz ⟨g,0,none⟩ 0 0 [] (by simp) (fun j u hj=>by simp at hj) ⟨b,off,none⟩ m cap news hl hnews (by omega) (by omega) (growslice_fits (by omega) (by simpa using hb)))]
    exact RowKit.Below.ofAlloc (RowKit.Below.drew (RowKit.Below.refl _ _)) _
theorem zgj {α : Type} {P:Program} {R:RowOf α} {w:World} {o:Oper} {a:Act} {K:Act->World->Prop} {Q:Exit->Act->World->Prop} (s x:Operand) (t:TypeId)
  (ho:o.op=.call { callee:=.builtin .append,args:=#[s,x],argTypes:=#[t,t] })
  {e:TypeId} {bytes:Nat} (E:Elem P t e R.k bytes) {g B:Nat} (hown:OwnL R e w B (.slice (some ⟨g,0,none⟩) 0 0) ([]:List α)) (hB:B<=w.heap.size) (hg:w.heap[g]?=some (.cells #[] e (0,0))) (hs:a.eval s=.slice (some ⟨g,0,none⟩) 0 0)
  {vx:Value} {ys:List α} (hx:RdL R w vx ys) (hvx:a.eval x=vx) (hb:ys.length*bytes<=140737488355328) (h63:ys.length<=maxLen)
  (h:∀ v' w',RdL R w' v' ys->RowKit.Below w.heap.size w w'->(∀ k,v'.ownBlock=some k->B<=k)->K (a.put o.dst v') w'):o.wp P a w K Q:=by
 obtain ⟨v',w',hr,h2,h3,h4⟩:=run_appZ (P:=P) (ty:=o.type) E hown hB hg hx (R.flat_len ys) (R.flat_one ys) hb h63
 unfold Oper.wp execOp
 simp only [ho,resolve,invoke,builtin,Sem.run_bind,Sem.run_pure,Result.andThen_ok,List.map_toArray,List.map_cons,List.map_nil,hs,hvx,hr]
 exact h v' w' h2 h3 h4
end Go
