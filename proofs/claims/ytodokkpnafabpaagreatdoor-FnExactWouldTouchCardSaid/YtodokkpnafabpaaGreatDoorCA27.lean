/- Texts of this claim, merged: the walks and what they stand on. Each condition stands in its theorem. -/
import Derived.Test.YtodokkpnafabpaaGreatDoorCA10
import Derived.Test.YtodokkpnafabpaaGreatDoorCA26
set_option linter.unusedVariables false
set_option linter.unusedSimpArgs false
set_option maxRecDepth 100000
set_option maxHeartbeats 8000000
namespace Go.Proofs.YtodokkpnafabpaaGreatDoor
open Go.ChangeShapes Go.WideShapes Go.ChangeAt Go.RowKit
structure JI (w:World) (va0 va1 vb0 vb1:Value) (a0 a1 b0 b1:List ByteArray) (L:Array Bool) (W:World) (x5 x8 x9 x10 x11 x12 x13 x14 x15 x16:Value):Prop where
 sz:L.size=11
 c10:L.getD 10 false=true->L.getD 9 false=true
 bel:Below w.heap.size w W
 P0:W.heap[w.heap.size]?=some (.cells #[va0,va1] 36 (0,0))
 P1:W.heap[w.heap.size+1]?=some (.cells #[vb0,vb1] 36 (0,0))
 P2:W.heap[w.heap.size+1+1]?=some (.cells #[.slice none 0 0,.slice none 0 0] 36 (0,0))
 r0:RdL zx W va0 a0
 r1:RdL zx W va1 a1
 s0:RdL zx W vb0 b0
 s1:RdL zx W vb1 b1
 f0:L.getD 0 false=true->∃ b,x8=.slice (some ⟨b,0,none⟩) 0 0/\w.heap.size+3<=b/\W.heap[b]?=some (.cells #[] 9 (0,0))/\OwnL zx 9 W (w.heap.size+3) x8 []
 f1:L.getD 1 false=true->x9=.pointer (some ⟨w.heap.size,0,none⟩)
 f2:L.getD 2 false=true->x10=va0
 f3:L.getD 3 false=true->RdL zx W x11 a0
 f4:L.getD 4 false=true->∃ b,x12=.slice (some ⟨b,0,none⟩) 0 0/\w.heap.size+3<=b/\W.heap[b]?=some (.cells #[] 9 (0,0))/\OwnL zx 9 W (w.heap.size+3) x12 []
 f5:L.getD 5 false=true->x13=.pointer (some ⟨w.heap.size,1,none⟩)
 f6:L.getD 6 false=true->x14=va1
 f7:L.getD 7 false=true->RdL zx W x15 a1
 f8:L.getD 8 false=true->∃ y z,x16=.agg #[y,z]/\RdL zx W y a0/\RdL zx W z a1
 f9:L.getD 9 false=true->∃ b,x5=.pointer (some ⟨b,0,none⟩)/\w.heap.size+3<=b/\((L.getD 10 false=false/\W.heap[b]?=some (.cells #[.slice none 0 0,.slice none 0 0] 36 (0,0))) ∨ (L.getD 10 false=true/\∃ y z,W.heap[b]?=some (.cells #[y,z] 36 (0,0))/\RdL zx W y a0/\RdL zx W z a1))
section
variable {w:World} {va0 va1 vb0 vb1:Value} {a0 a1 b0 b1:List ByteArray} {L:Array Bool} {W W':World} {x5 x8 x9 x10 x11 x12 x13 x14 x15 x16:Value}
theorem JI.grow (h:JI w va0 va1 vb0 vb1 a0 a1 b0 b1 L W x5 x8 x9 x10 x11 x12 x13 x14 x15 x16) (hb:Below W.heap.size W W'):JI w va0 va1 vb0 vb1 a0 a1 b0 b1 L W' x5 x8 x9 x10 x11 x12 x13 x14 x15 x16:=by
 have G:=fun {k:Nat} {o:Obj} (hk:W.heap[k]?=some o)=>(Grew.below hb k (za hk)).trans hk
 refine ⟨h.sz,h.c10,Below.then h.bel hb,G h.P0,G h.P1,G h.P2,h.r0.below hb,h.r1.below hb,h.s0.below hb,h.s1.below hb,fun k=>?_,h.f1,h.f2,fun k=>(h.f3 k).below hb,fun k=>?_,h.f5,h.f6,fun k=>(h.f7 k).below hb,fun k=>?_,fun k=>?_⟩
 ·obtain ⟨b,e,h1,h2,h3⟩:=h.f0 k
  exact ⟨b,e,h1,G h2,zcp h3 hb⟩
 ·obtain ⟨b,e,h1,h2,h3⟩:=h.f4 k
  exact ⟨b,e,h1,G h2,zcp h3 hb⟩
 ·obtain ⟨y,z,e,h1,h2⟩:=h.f8 k
  exact ⟨y,z,e,h1.below hb,h2.below hb⟩
 ·obtain ⟨b,e,hb1,h1|⟨h1,y,z,h2,h3,h4⟩⟩:=h.f9 k
  ·exact ⟨b,e,hb1,.inl ⟨h1.1,G h1.2⟩⟩
  ·exact ⟨b,e,hb1,.inr ⟨h1,y,z,G h2,h3.below hb,h4.below hb⟩⟩
theorem JI.set (h:JI w va0 va1 vb0 vb1 a0 a1 b0 b1 L W x5 x8 x9 x10 x11 x12 x13 x14 x15 x16) {i:Nat} (hi:i<10) {y5 y8 y9 y10 y11 y12 y13 y14 y15 y16:Value}
  (e0:if i=0 then ∃ b,y8=.slice (some ⟨b,0,none⟩) 0 0/\w.heap.size+3<=b/\W.heap[b]?=some (.cells #[] 9 (0,0))/\OwnL zx 9 W (w.heap.size+3) y8 [] else y8=x8) (e1:if i=1 then y9=.pointer (some ⟨w.heap.size,0,none⟩) else y9=x9) (e2:if i=2 then y10=va0 else y10=x10) (e3:if i=3 then RdL zx W y11 a0 else y11=x11)
  (e4:if i=4 then ∃ b,y12=.slice (some ⟨b,0,none⟩) 0 0/\w.heap.size+3<=b/\W.heap[b]?=some (.cells #[] 9 (0,0))/\OwnL zx 9 W (w.heap.size+3) y12 [] else y12=x12) (e5:if i=5 then y13=.pointer (some ⟨w.heap.size,1,none⟩) else y13=x13) (e6:if i=6 then y14=va1 else y14=x14) (e7:if i=7 then RdL zx W y15 a1 else y15=x15)
  (e8:if i=8 then ∃ y z,y16=.agg #[y,z]/\RdL zx W y a0/\RdL zx W z a1 else y16=x16)
  (e9:if i=9 then L.getD 10 false=false/\∃ b,y5=.pointer (some ⟨b,0,none⟩)/\w.heap.size+3<=b/\W.heap[b]?=some (.cells #[.slice none 0 0,.slice none 0 0] 36 (0,0)) else y5=x5) :
  JI w va0 va1 vb0 vb1 a0 a1 b0 b1 (L.setIfInBounds i true) W y5 y8 y9 y10 y11 y12 y13 y14 y15 y16:=by
 have k10:(L.setIfInBounds i true).getD 10 false=L.getD 10 false:=zi (by omega)
 have up:∀ j,L.getD j false=true->(L.setIfInBounds i true).getD j false=true:=fun j hj=>by
  by_cases hx:i=j
  ·subst hx;exact zbF (by have:=h.sz;omega)
  ·rw [zi hx];exact hj
 refine ⟨by rw [Array.size_setIfInBounds];exact h.sz,fun k=>up _ (h.c10 (k10 ▸ k)),h.bel,h.P0,h.P1,h.P2,h.r0,h.r1,h.s0,h.s1,fun k=>?_,fun k=>?_,fun k=>?_,fun k=>?_,fun k=>?_,fun k=>?_,fun k=>?_,fun k=>?_,fun k=>?_,fun k=>?_⟩
 ·by_cases hx:i=0
  ·rwa [if_pos hx] at e0
  ·rw [if_neg hx] at e0;rw [zi hx] at k;rw [e0];exact h.f0 k
 ·by_cases hx:i=1
  ·rwa [if_pos hx] at e1
  ·rw [if_neg hx] at e1;rw [zi hx] at k;rw [e1];exact h.f1 k
 ·by_cases hx:i=2
  ·rwa [if_pos hx] at e2
  ·rw [if_neg hx] at e2;rw [zi hx] at k;rw [e2];exact h.f2 k
 ·by_cases hx:i=3
  ·rwa [if_pos hx] at e3
  ·rw [if_neg hx] at e3;rw [zi hx] at k;rw [e3];exact h.f3 k
 ·by_cases hx:i=4
  ·rwa [if_pos hx] at e4
  ·rw [if_neg hx] at e4;rw [zi hx] at k;rw [e4];exact h.f4 k
 ·by_cases hx:i=5
  ·rwa [if_pos hx] at e5
  ·rw [if_neg hx] at e5;rw [zi hx] at k;rw [e5];exact h.f5 k
 ·by_cases hx:i=6
  ·rwa [if_pos hx] at e6
  ·rw [if_neg hx] at e6;rw [zi hx] at k;rw [e6];exact h.f6 k
 ·by_cases hx:i=7
  ·rwa [if_pos hx] at e7
  ·rw [if_neg hx] at e7;rw [zi hx] at k;rw [e7];exact h.f7 k
 ·by_cases hx:i=8
  ·rwa [if_pos hx] at e8
  ·rw [if_neg hx] at e8;rw [zi hx] at k;rw [e8];exact h.f8 k
 ·rw [k10]
  by_cases hx:i=9
  ·rw [if_pos hx] at e9
   obtain ⟨h1,b,e,h2,h3⟩:=e9
   exact ⟨b,e,h2,.inl ⟨h1,h3⟩⟩
  ·rw [if_neg hx] at e9;rw [zi hx] at k;rw [e9];exact h.f9 k
theorem zbW:∀ u ∈ (#[.slice none 0 0,.slice none 0 0]:Array Value),∀ s,u ≠ .string s:=by
 intro u hu s
 simp at hu
 subst hu
 simp
theorem JI.st10 (h:JI w va0 va1 vb0 vb1 a0 a1 b0 b1 L W x5 x8 x9 x10 x11 x12 x13 x14 x15 x16) (k8:L.getD 8 false=true) (k9:L.getD 9 false=true) (k10:L.getD 10 false=false) :
  ∃ b p0 c0 p1 c1,x5=.pointer (some ⟨b,0,none⟩)/\x16=.agg #[.slice p0 a0.length c0,.slice p1 a1.length c1]/\W.heap[b]?=some (.cells #[.slice none 0 0,.slice none 0 0] 36 (0,0))/\JI w va0 va1 vb0 vb1 a0 a1 b0 b1 (L.setIfInBounds 10 true) (W.setB b (.cells #[.slice p0 a0.length c0,.slice p1 a1.length c1] 36 (0,0))) x5 x8 x9 x10 x11 x12 x13 x14 x15 x16:=by
 obtain ⟨b,e5,hb,h1|h1⟩:=h.f9 k9
 case inr=>rw [h1.1] at k10;cases k10
 obtain ⟨y,z,e16,q0,q1⟩:=h.f8 k8
 obtain ⟨p0,c0,rfl⟩:=q0.form
 obtain ⟨p1,c1,rfl⟩:=q1.form
 have hB:=h1.2
 have hz:=za hB
 have N:∀ k,k<w.heap.size+3->(W.setB b (.cells #[.slice p0 a0.length c0,.slice p1 a1.length c1] 36 (0,0))).heap[k]?=W.heap[k]?:=fun k hk=>World.setB_get _ _ _ _ (by omega)
 have kk:=fun {j:Nat} (hj : 10 ≠ j) (k:(L.setIfInBounds 10 true).getD j false=true)=>(zi (L:=L) hj) ▸ k
 have S:=fun {v:Value} {xs:List ByteArray} (hv:RdL zx W v xs)=>zaV (zb _) hv hB zbW (.cells #[.slice p0 a0.length c0,.slice p1 a1.length c1] 36 (0,0))
 have EB:∀ {x:Value},(∃ b',x=.slice (some ⟨b',0,none⟩) 0 0/\w.heap.size+3<=b'/\W.heap[b']?=some (.cells #[] 9 (0,0))/\OwnL zx 9 W (w.heap.size+3) x [])->∃ b',x=.slice (some ⟨b',0,none⟩) 0 0/\w.heap.size+3<=b'/\(W.setB b (.cells #[.slice p0 a0.length c0,.slice p1 a1.length c1] 36 (0,0))).heap[b']?=some (.cells #[] 9 (0,0))/\OwnL zx 9 (W.setB b (.cells #[.slice p0 a0.length c0,.slice p1 a1.length c1] 36 (0,0))) (w.heap.size+3) x []:=by
  rintro x ⟨b',rfl,h2,h3,h4⟩
  have hne:b' ≠ b:=by rintro rfl;rw [hB] at h3;cases h3
  exact ⟨b',rfl,h2,(World.setB_get _ _ _ _ hne).trans h3,h4.setB (by simpa [Value.ownBlock] using hne) _⟩
 refine ⟨b,p0,c0,p1,c1,e5,e16,hB,⟨by rw [Array.size_setIfInBounds];exact h.sz,fun _=>by rw [zi (by decide)];exact k9,zr h.bel (by omega) _,(N _ (by omega)).trans h.P0,(N _ (by omega)).trans h.P1,(N _ (by omega)).trans h.P2,S h.r0,S h.r1,S h.s0,S h.s1,fun k=>EB (h.f0 (kk (by decide) k)),fun k=>h.f1 (kk (by decide) k),fun k=>h.f2 (kk (by decide) k),fun k=>S (h.f3 (kk (by decide) k)),fun k=>EB (h.f4 (kk (by decide) k)),fun k=>h.f5 (kk (by decide) k),fun k=>h.f6 (kk (by decide) k),fun k=>S (h.f7 (kk (by decide) k)),fun k=>?_,fun k=>?_⟩⟩
 ·exact ⟨_,_,e16,S q0,S q1⟩
 ·exact ⟨b,e5,hb,.inr ⟨zbF (by rw [h.sz];decide),_,_,zy _ _ _ hz,S q0,S q1⟩⟩
end
structure JL (w:World) (q:Nat) (vb0 vb1:Value) (b0 b1:List ByteArray) (W:World) (y z:Value) (a0 a1:List ByteArray):Prop where
 bel:Below w.heap.size w W
 P1:W.heap[w.heap.size+1]?=some (.cells #[vb0,vb1] 36 (0,0))
 P2:W.heap[w.heap.size+1+1]?=some (.cells #[.slice none 0 0,.slice none 0 0] 36 (0,0))
 Q:W.heap[q]?=some (.cells #[y,z] 36 (0,0))
 ry:RdL zx W y a0
 rz:RdL zx W z a1
 s0:RdL zx W vb0 b0
 s1:RdL zx W vb1 b1
theorem ze8 (a0 a1:Option Addr) (n0 n1 c0 c1:Nat):∀ u ∈ (#[.slice a0 n0 c0,.slice a1 n1 c1]:Array Value),∀ s,u ≠ .string s:=by
 intro u hu s
 simp at hu
 rcases hu with rfl|rfl<;>simp
theorem zjB {w:World} {q:Nat} {v:Value} {xs:List ByteArray} {X:Ext} {a0 a1:Option Addr} {n0 n1 c0 c1:Nat} (hq:q<w.heap.size) (h:RdL zx ((w.setB q (.cells #[.slice a0 n0 c0,.slice a1 n1 c1] 36 (0,0))).ext X) v xs) (o:Obj):RdL zx ((w.setB q o).ext X) v xs:=by
 have hg:((w.setB q (.cells #[.slice a0 n0 c0,.slice a1 n1 c1] 36 (0,0))).ext X).heap[q]?=some (.cells #[.slice a0 n0 c0,.slice a1 n1 c1] 36 (0,0)):=(World.ext_get _ X (by rw [ze];exact hq)).trans (zy _ _ _ hq)
 have h1:=zaV (zb _) h hg (ze8 _ _ _ _ _ _) o
 rw [zan _ _ _ _ (by rw [ze];exact hq)] at h1
 have e:(w.setB q (.cells #[.slice a0 n0 c0,.slice a1 n1 c1] 36 (0,0))).setB q o=w.setB q o:=by simp [go_sem]
 rwa [e] at h1
theorem JL.all {w:World} {q:Nat} {vb0 vb1:Value} {b0 b1:List ByteArray} {W:World} {e0 e1:Option Addr} {n0 n1 d0 d1:Nat} {a0 a1:List ByteArray} (h:JL w q vb0 vb1 b0 b1 W (.slice e0 n0 d0) (.slice e1 n1 d1) a0 a1) (hq:w.heap.size+3<=q) (o:Obj) :
  Below w.heap.size w (W.setB q o)/\(W.setB q o).heap[w.heap.size+1]?=some (.cells #[vb0,vb1] 36 (0,0))/\(W.setB q o).heap[w.heap.size+1+1]?=some (.cells #[.slice none 0 0,.slice none 0 0] 36 (0,0))/\RdL zx (W.setB q o) (.slice e0 n0 d0) a0/\RdL zx (W.setB q o) (.slice e1 n1 d1) a1/\RdL zx (W.setB q o) vb0 b0/\RdL zx (W.setB q o) vb1 b1:=by
 have S:=fun {v:Value} {xs:List ByteArray} (hv:RdL zx W v xs)=>zaV (zb _) hv h.Q (ze8 _ _ _ _ _ _) o
 exact ⟨zr h.bel (by omega) o,(World.setB_get _ _ _ _ (by omega)).trans h.P1,(World.setB_get _ _ _ _ (by omega)).trans h.P2,S h.ry,S h.rz,S h.s0,S h.s1⟩
theorem JL.laid {w:World} {q:Nat} {vb0 vb1:Value} {b0 b1:List ByteArray} {W:World} {e0 e1:Option Addr} {n0 n1 d0 d1:Nat} {a0 a1:List ByteArray} (h:JL w q vb0 vb1 b0 b1 W (.slice e0 n0 d0) (.slice e1 n1 d1) a0 a1) (hq:w.heap.size+3<=q) {X:Ext} {y z:Value} {c0 c1:List ByteArray}
  (hy:RdL zx ((W.setB q (.cells #[.slice e0 n0 d0,.slice e1 n1 d1] 36 (0,0))).ext X) y c0) (hz:RdL zx ((W.setB q (.cells #[.slice e0 n0 d0,.slice e1 n1 d1] 36 (0,0))).ext X) z c1) :
  JL w q vb0 vb1 b0 b1 ((W.setB q (.cells #[y,z] 36 (0,0))).ext X) y z c0 c1:=by
 have hs:=za h.Q
 have k:=h.all hq (.cells #[y,z] 36 (0,0))
 have G:=fun {j:Nat} {o:Obj} (hk:(W.setB q (.cells #[y,z] 36 (0,0))).heap[j]?=some o)=>(World.ext_get _ X (za hk)).trans hk
 exact ⟨k.1.ofExt X,G k.2.1,G k.2.2.1,G (zy _ _ _ hs),zjB hs hy _,zjB hs hz _,k.2.2.2.2.2.1.ext X,k.2.2.2.2.2.2.ext X⟩
theorem zfv:∀ (ys xs:List ByteArray),(zaH xs ys).length<=xs.length+ys.length
 | [],xs=>Nat.le_refl _
 | y :: ys,xs=>by
  have h:=zfv ys (zbp xs y)
  have h2:=zfo xs y
  show (zaH (zbp xs y) ys).length<=_
  rw [List.length_cons]
  omega
theorem zfW (va0 va1 vb0 vb1:Value) (a0 a1 b0 b1:List ByteArray) (w:World) (h0:RdL zx w va0 a0) (h1:RdL zx w va1 a1) (g0:RdL zx w vb0 b0) (g1:RdL zx w vb1 b1) (hl0:a0.length+b0.length<=1099511627776) (hl1:a1.length+b1.length<=1099511627776) :
  Calls Tryz.prog 77 #[.agg #[va0,va1],.agg #[vb0,vb1]] w fun e w'=>∃ v0 v1,e=.returned (.agg #[v0,v1])/\RdL zx w' v0 (zaH a0 b0)/\RdL zx w' v1 (zaH a1 b1)/\Below w.heap.size w w':=by
 go_enter Tryz.func77,Tryz.ntmps77
 (skip);repeat (first|go_skip|go_guarded|go_step|go_upon|go_back)
 have H0:=Hd h0
 have H1:=Hd h1
 have G0:=Hd g0
 have G1:=Hd g1
 clear h0 h1 g0 g1
 refine zcm (fun L a W=>∃ x5 x8 x9 x10 x11 x12 x13 x14 x15 x16,a=⟨#[.agg #[va0,va1],.agg #[vb0,vb1],.pointer (some ⟨w.heap.size,0,none⟩),.pointer (some ⟨w.heap.size+1,0,none⟩),.pointer (some ⟨w.heap.size+1+1,0,none⟩),x5,undef,undef,x8,x9,x10,x11,x12,x13,x14,x15,x16,undef,undef,undef,undef,undef,undef,undef,undef,undef,undef,undef,undef,undef,undef,undef,undef,undef,undef,undef,undef,undef,undef,undef,undef,undef,undef,undef,undef,undef,undef,undef,undef,undef],[]⟩/\JI w va0 va1 vb0 vb1 a0 a1 b0 b1 L W x5 x8 x9 x10 x11 x12 x13 x14 x15 x16) (by kernel_rfl) ?_ ?_ ?_
 ·have N:∀ j,¬ (Array.replicate 11 false).getD j false=true:=zh0 11
  have h3:=ziA w (.cells #[va0,va1] 36) (.cells #[vb0,vb1] 36) (.cells #[.slice none 0 0,.slice none 0 0] 36) w.heap.size rfl
  exact ⟨_,_,_,_,_,_,_,_,_,_,rfl,⟨by simp,fun k=>absurd k (N _),(by repeat (first|with_reducible exact Below.refl _ _|with_reducible apply Below.ofAlloc|with_reducible apply Below.drew)),h3.1,h3.2.1,h3.2.2,RdL.drew (((H0.out.alloc _).alloc _).alloc _),RdL.drew (((H1.out.alloc _).alloc _).alloc _),RdL.drew (((G0.out.alloc _).alloc _).alloc _),RdL.drew (((G1.out.alloc _).alloc _).alloc _),fun k=>absurd k (N _),fun k=>absurd k (N _),fun k=>absurd k (N _),fun k=>absurd k (N _),fun k=>absurd k (N _),fun k=>absurd k (N _),fun k=>absurd k (N _),fun k=>absurd k (N _),fun k=>absurd k (N _),fun k=>absurd k (N _)⟩⟩
 ·rintro L a W i ⟨x5,x8,x9,x10,x11,x12,x13,x14,x15,x16,rfl,H⟩ hi
  have hlt:=zgD hi
  have hun:=zgC hi
  have hW:Hid (∀ j,zdD _ i j=true->L.getD j false=true):=fun j h=>zdp hi h
  have h12:i<11:=hlt
  clear hlt hi
  have hcs:i=0 ∨ i=1 ∨ i=2 ∨ i=3 ∨ i=4 ∨ i=5 ∨ i=6 ∨ i=7 ∨ i=8 ∨ i=9 ∨ i=10:=by omega
  clear h12
  rcases hcs with rfl|rfl|rfl|rfl|rfl|rfl|rfl|rfl|rfl|rfl|rfl
  ·refine zN rfl (fun K hK=>?_)
   go_simp
   refine hK _ _ ⟨_,_,_,_,_,_,_,_,_,_,rfl,(H.grow (Below.ofAlloc (Below.refl _ _) _)).set (i:=0) (by decide) (by rw [if_pos rfl];have hs:=H.bel.size;have hs2:=za H.P2;exact ⟨_,rfl,by omega,heap_alloc_new _ _,OwnL.base (OwnL.empty zx _ _) (by omega)⟩) (by simp) (by simp) (by simp) (by simp) (by simp) (by simp) (by simp) (by simp) (by simp)⟩
  ·refine zN rfl (fun K hK=>?_)
   go_simp
   refine hK _ _ ⟨_,_,_,_,_,_,_,_,_,_,rfl,H.set (i:=1) (by decide) (by simp) (by rw [if_pos rfl]) (by simp) (by simp) (by simp) (by simp) (by simp) (by simp) (by simp) (by simp)⟩
  ·obtain rfl:=H.f1 (hW.out 1 (by kernel_rfl))
   have p0:W.cell? ⟨w.heap.size,0,none⟩=some va0:=(zd (i:=0) H.P0).trans rfl
   have hz:=za H.P0
   obtain ⟨q0,d0,rfl⟩:=H.r0.form
   refine zN rfl (fun K hK=>?_)
   go_simp
   refine hK _ _ ⟨_,_,_,_,_,_,_,_,_,_,rfl,H.set (i:=2) (by decide) (by simp) (by simp) (by rw [if_pos rfl]) (by simp) (by simp) (by simp) (by simp) (by simp) (by simp) (by simp)⟩
  ·obtain ⟨b,rfl,hb,hg,ho⟩:=H.f0 (hW.out 0 (by kernel_rfl))
   obtain rfl:=H.f2 (hW.out 2 (by kernel_rfl))
   refine zN rfl (fun K hK=>?_)
   change Oper.wp _ _ _ _ _ _
   have hs:=H.bel.size
   have hs2:=za H.P2
   refine zji (.tmp 8) (.tmp 10) _ rfl zz ho (by omega) hg rfl H.r0 rfl (by omega) (by unfold maxLen;omega) ?_
   intro v' w' hr hbl
   refine hK _ _ ⟨_,_,_,_,_,_,_,_,_,_,rfl,(H.grow hbl).set (i:=3) (by decide) (by simp) (by simp) (by simp) (by rw [if_pos rfl];exact hr) (by simp) (by simp) (by simp) (by simp) (by simp) (by simp)⟩
  ·refine zN rfl (fun K hK=>?_)
   go_simp
   refine hK _ _ ⟨_,_,_,_,_,_,_,_,_,_,rfl,(H.grow (Below.ofAlloc (Below.refl _ _) _)).set (i:=4) (by decide) (by simp) (by simp) (by simp) (by simp) (by rw [if_pos rfl];have hs:=H.bel.size;have hs2:=za H.P2;exact ⟨_,rfl,by omega,heap_alloc_new _ _,OwnL.base (OwnL.empty zx _ _) (by omega)⟩) (by simp) (by simp) (by simp) (by simp) (by simp)⟩
  ·refine zN rfl (fun K hK=>?_)
   go_simp
   refine hK _ _ ⟨_,_,_,_,_,_,_,_,_,_,rfl,H.set (i:=5) (by decide) (by simp) (by simp) (by simp) (by simp) (by simp) (by rw [if_pos rfl]) (by simp) (by simp) (by simp) (by simp)⟩
  ·obtain rfl:=H.f5 (hW.out 5 (by kernel_rfl))
   have p0:W.cell? ⟨w.heap.size,1,none⟩=some va1:=(zd (i:=1) H.P0).trans rfl
   have hz:=za H.P0
   obtain ⟨q0,d0,rfl⟩:=H.r1.form
   refine zN rfl (fun K hK=>?_)
   go_simp
   refine hK _ _ ⟨_,_,_,_,_,_,_,_,_,_,rfl,H.set (i:=6) (by decide) (by simp) (by simp) (by simp) (by simp) (by simp) (by simp) (by rw [if_pos rfl]) (by simp) (by simp) (by simp)⟩
  ·obtain ⟨b,rfl,hb,hg,ho⟩:=H.f4 (hW.out 4 (by kernel_rfl))
   obtain rfl:=H.f6 (hW.out 6 (by kernel_rfl))
   refine zN rfl (fun K hK=>?_)
   change Oper.wp _ _ _ _ _ _
   have hs:=H.bel.size
   have hs2:=za H.P2
   refine zji (.tmp 12) (.tmp 14) _ rfl zz ho (by omega) hg rfl H.r1 rfl (by omega) (by unfold maxLen;omega) ?_
   intro v' w' hr hbl
   refine hK _ _ ⟨_,_,_,_,_,_,_,_,_,_,rfl,(H.grow hbl).set (i:=7) (by decide) (by simp) (by simp) (by simp) (by simp) (by simp) (by simp) (by simp) (by rw [if_pos rfl];exact hr) (by simp) (by simp)⟩
  ·have k3:=H.f3 (hW.out 3 (by kernel_rfl))
   have k7:=H.f7 (hW.out 7 (by kernel_rfl))
   obtain ⟨q0,d0,rfl⟩:=k3.form
   obtain ⟨q1,d1,rfl⟩:=k7.form
   refine zN rfl (fun K hK=>?_)
   go_simp
   refine hK _ _ ⟨_,_,_,_,_,_,_,_,_,_,rfl,H.set (i:=8) (by decide) (by simp) (by simp) (by simp) (by simp) (by simp) (by simp) (by simp) (by simp) (by rw [if_pos rfl];exact ⟨_,_,rfl,k3,k7⟩) (by simp)⟩
  ·have k10:L.getD 10 false=false:=by cases h:L.getD 10 false with|false=>rfl|true=>exact absurd (H.c10 h) (by rw [hun];decide)
   refine zN rfl (fun K hK=>?_)
   go_simp
   refine hK _ _ ⟨_,_,_,_,_,_,_,_,_,_,rfl,(H.grow (Below.ofAlloc (Below.refl _ _) _)).set (i:=9) (by decide) (by simp) (by simp) (by simp) (by simp) (by simp) (by simp) (by simp) (by simp) (by simp) (by rw [if_pos rfl];exact ⟨k10,_,rfl,by have:=H.bel.size;have:=za H.P2;omega,heap_alloc_new _ _⟩)⟩
  ·obtain ⟨b,p0,c0,p1,c1,rfl,rfl,hB,H'⟩:=H.st10 (hW.out 8 (by kernel_rfl)) (hW.out 9 (by kernel_rfl)) hun
   have e1:=zf hB
   have hz:=za hB
   refine zN rfl (fun K hK=>?_)
   rw [<- e1]
   clear e1
   go_simp
   exact hK _ _ ⟨_,_,_,_,_,_,_,_,_,_,rfl,H'⟩
 ·rintro L a W ⟨x5,x8,x9,x10,x11,x12,x13,x14,x15,x16,rfl,H⟩ hr
  have hall:=zej (ops:=_) H.sz hr (zcu (by kernel_rfl))
  obtain ⟨b5,rfl,hb5,h9⟩:=H.f9 (hall 9 (by decide))
  have k10:=hall 10 (by decide)
  rcases h9 with h9|⟨_,y,z,h9,hy,hz⟩
  ·rw [k10] at h9;cases h9.1
  obtain ⟨e0,d0,rfl⟩:=hy.form
  obtain ⟨e1,d1,rfl⟩:=hz.form
  obtain ⟨u0,v0,rfl⟩:=H.s0.form
  obtain ⟨u1,v1,rfl⟩:=H.s1.form
  have HK:Hid (JL w b5 (.slice u0 b0.length v0) (.slice u1 b1.length v1) b0 b1 W (.slice e0 a0.length d0) (.slice e1 a1.length d1) a0 a1):=⟨H.bel,H.P1,H.P2,h9,hy,hz,H.s0,H.s1⟩
  clear h9 hy hz H hall k10 hr H0 H1 G0 G1
  (try simp only []);repeat (first|go_skip|go_guarded|go_step|go_upon|go_back)
  go_loopw [6] (fun k wr=>∃ (n:Nat) (e0:Option Addr) (d0:Nat),k=.int .i64 n/\n<=b0.length/\JL w b5 (.slice u0 b0.length v0) (.slice u1 b1.length v1) b0 b1 wr (.slice e0 (zaH a0 (b0.take n)).length d0) (.slice e1 a1.length d1) (zaH a0 (b0.take n)) a1) (fun k _=>b0.length - (intOf k).toNat)
  case atStart=>exact ⟨0,e0,d0,rfl,Nat.zero_le _,HK.out⟩
  case round =>
   clear HK
   obtain ⟨n,e0,d0,rfl,hn,hj⟩:=hrel
   have HJ:=Hd hj
   have hzq:=za hj.Q
   have e1:=zf hj.Q
   rw [<- e1]
   have y1:w.heap.size+1<wr.heap.size:=za hj.P1
   have y2:w.heap.size+1+1<wr.heap.size:=za hj.P2
   clear e1 hj
   have p0:∀ o,(wr.setB b5 o).cell? ⟨w.heap.size+1,0,none⟩=some (.slice u0 b0.length v0):=fun o=>(zd (i:=0) (HJ.out.all hb5 o).2.1).trans rfl
   have p1:∀ o,(wr.setB b5 o).cell? ⟨w.heap.size+1,1,none⟩=some (.slice u1 b1.length v1):=fun o=>(zd (i:=1) (HJ.out.all hb5 o).2.1).trans rfl
   by_cases hlt:(n:Int)<b0.length
   case pos =>
    have hk2:n<b0.length:=by omega
    obtain ⟨b,off,rfl,hbl,hce⟩:=zb9 (W:=fun o r=>wr.setB b5 o) (fun o r=>(HJ.out.all hb5 o).2.2.2.2.2.1) hk2 (.cells #[] 0) (.cells #[] 0)
    rw [ze] at hbl
    have hce:=fun o=>hce o (.cells #[] 0)
    have hsn:=zgm a0 (b0.take n) b0[n]
    rw [<- List.take_succ_eq_append_getElem hk2] at hsn
    have HSN:=Hd hsn
    clear hsn
    generalize b0[n]=key at hce HSN
    have hjl:=zfv (b0.take n) a0
    rw [List.length_take] at hjl
    generalize zaH a0 (b0.take n)=cur at HJ HSN hjl ⊢
    (skip);repeat (first|go_skip|go_guarded|go_step|go_upon|go_back)
    (refine zj (id:=5) [(0,true),(1,true),(2,true),(3,true),(4,true),(5,true),(6,true),(7,false),(8,false),(9,false)] 8 (by kernel_rfl) (by kernel_rfl) ?_)
    repeat (first|(refine zm rfl (fun K hK=>?_);go_simp;refine hK _ ?_;clear hK K)|(refine zt rfl (fun K hK=>?_);go_simp;go_at_call 137;refine (za5 _ cur key _ (by exact (HJ.out.all hb5 _).2.2.2.1) (by omega)).mono ?_;rintro e w' ⟨v',rfl,ho,hb⟩;obtain ⟨X,rfl⟩:=hb.ext;obtain ⟨f0,g0,rfl⟩:=ho.rd.form;have HO:=Hd ho.rd;clear ho hb;(try go_simp);refine hK _ _ (by show Sx _ _;repeat (first|with_reducible apply Sx.ext|with_reducible exact Sx.refl _)) ?_;clear hK K)|(refine zw rfl rfl (fun K hK=>?_);go_simp;refine hK _ _ ?_;clear hK K))
    refine zaf ?_
    have hy:=HO.out
    clear HO
    (try simp only [zp,zv,Array.append_assoc] at hy)
    have HN:=Hd (JL.laid HJ.out hb5 hy ((HJ.out.all hb5 _).2.2.2.2.1.ext X))
    clear hy
    (skip);repeat (first|go_skip|go_guarded|go_step|go_upon|go_back)
    go_roundw
    case rel=>exact ⟨n+1,f0,g0,by go_num,by omega,by rw [HSN.out];exact HN.out⟩
    case measure=>simp [intOf];omega
   case neg =>
    have e:n=b0.length:=by omega
    subst e
    rw [List.take_length] at HJ ⊢
    generalize hJ0:zaH a0 b0=c0 at HJ ⊢
    (skip);repeat (first|go_skip|go_guarded|go_step|go_upon|go_back)
    go_loopw [7] (fun k wr=>∃ (n:Nat) (e1:Option Addr) (d1:Nat),k=.int .i64 n/\n<=b1.length/\JL w b5 (.slice u0 b0.length v0) (.slice u1 b1.length v1) b0 b1 wr (.slice e0 c0.length d0) (.slice e1 (zaH a1 (b1.take n)).length d1) c0 (zaH a1 (b1.take n))) (fun k _=>b1.length - (intOf k).toNat)
    case atStart=>exact ⟨0,e1,d1,rfl,Nat.zero_le _,⟨(HJ.out.all hb5 _).1,(HJ.out.all hb5 _).2.1,(HJ.out.all hb5 _).2.2.1,zy _ _ _ hzq,(HJ.out.all hb5 _).2.2.2.1,(HJ.out.all hb5 _).2.2.2.2.1,(HJ.out.all hb5 _).2.2.2.2.2.1,(HJ.out.all hb5 _).2.2.2.2.2.2⟩⟩
    case round =>
     clear HJ hzq y1 y2 p0 p1
     obtain ⟨n,e1,d1,rfl,hn,hj⟩:=hrel
     have HJ:=Hd hj
     have hzq:=za hj.Q
     have ew:=zf hj.Q
     rw [<- ew]
     have y1:w.heap.size+1<wr.heap.size:=za hj.P1
     have y2:w.heap.size+1+1<wr.heap.size:=za hj.P2
     clear ew hj
     have p0:∀ o,(wr.setB b5 o).cell? ⟨w.heap.size+1,0,none⟩=some (.slice u0 b0.length v0):=fun o=>(zd (i:=0) (HJ.out.all hb5 o).2.1).trans rfl
     have p1:∀ o,(wr.setB b5 o).cell? ⟨w.heap.size+1,1,none⟩=some (.slice u1 b1.length v1):=fun o=>(zd (i:=1) (HJ.out.all hb5 o).2.1).trans rfl
     by_cases hlt:(n:Int)<b1.length
     case pos =>
      have hk2:n<b1.length:=by omega
      obtain ⟨b,off,rfl,hbl,hce⟩:=zb9 (W:=fun o r=>wr.setB b5 o) (fun o r=>(HJ.out.all hb5 o).2.2.2.2.2.2) hk2 (.cells #[] 0) (.cells #[] 0)
      rw [ze] at hbl
      have hce:=fun o=>hce o (.cells #[] 0)
      have hsn:=zgm a1 (b1.take n) b1[n]
      rw [<- List.take_succ_eq_append_getElem hk2] at hsn
      have HSN:=Hd hsn
      clear hsn
      generalize b1[n]=key at hce HSN
      have hjl:=zfv (b1.take n) a1
      rw [List.length_take] at hjl
      generalize zaH a1 (b1.take n)=cur at HJ HSN hjl ⊢
      (skip);repeat (first|go_skip|go_guarded|go_step|go_upon|go_back)
      (refine zj (id:=9) [(0,true),(1,true),(2,true),(3,true),(4,true),(5,true),(6,true),(7,false),(8,false),(9,false)] 8 (by kernel_rfl) (by kernel_rfl) ?_)
      repeat (first|(refine zm rfl (fun K hK=>?_);go_simp;refine hK _ ?_;clear hK K)|(refine zt rfl (fun K hK=>?_);go_simp;go_at_call 137;refine (za5 _ cur key _ (by exact (HJ.out.all hb5 _).2.2.2.2.1) (by omega)).mono ?_;rintro e w' ⟨v',rfl,ho,hb⟩;obtain ⟨X,rfl⟩:=hb.ext;obtain ⟨f0,g0,rfl⟩:=ho.rd.form;have HO:=Hd ho.rd;clear ho hb;(try go_simp);refine hK _ _ (by show Sx _ _;repeat (first|with_reducible apply Sx.ext|with_reducible exact Sx.refl _)) ?_;clear hK K)|(refine zw rfl rfl (fun K hK=>?_);go_simp;refine hK _ _ ?_;clear hK K))
      refine zaf ?_
      have hy:=HO.out
      clear HO
      (try simp only [zp,zv,Array.append_assoc] at hy)
      have HN:=Hd (JL.laid HJ.out hb5 ((HJ.out.all hb5 _).2.2.2.1.ext X) hy)
      clear hy
      (skip);repeat (first|go_skip|go_guarded|go_step|go_upon|go_back)
      go_roundw
      case rel=>exact ⟨n+1,f0,g0,by go_num,by omega,by rw [HSN.out];exact HN.out⟩
      case measure=>simp [intOf];omega
     case neg =>
      have e:n=b1.length:=by omega
      subst e
      rw [List.take_length] at HJ ⊢
      have p2:∀ o,(wr.setB b5 o).heap[w.heap.size+1+1]?=some (.cells #[.slice none 0 0,.slice none 0 0] 36 (0,0)):=fun o=>(HJ.out.all hb5 o).2.2.1
      generalize hJ1:zaH a1 b1=c1 at HJ ⊢
      have ew:=zf (p2 (.cells #[.slice e0 c0.length d0,.slice e1 c1.length d1] 36 (0,0)))
      rw [<- ew]
      clear ew
      have y3:w.heap.size+1+1<(wr.setB b5 (.cells #[.slice e0 c0.length d0,.slice e1 c1.length d1] 36 (0,0))).heap.size:=by rw [ze];exact y2
      have n1:¬ b5=w.heap.size+1+1:=by omega
      have n2:¬ w.heap.size+1+1=b5:=by omega
      have HE:Hid (∀ o,RdL zx ((wr.setB b5 (.cells #[.slice e0 c0.length d0,.slice e1 c1.length d1] 36 (0,0))).setB (w.heap.size+1+1) o) (.slice e0 c0.length d0) c0/\RdL zx ((wr.setB b5 (.cells #[.slice e0 c0.length d0,.slice e1 c1.length d1] 36 (0,0))).setB (w.heap.size+1+1) o) (.slice e1 c1.length d1) c1/\Below w.heap.size w ((wr.setB b5 (.cells #[.slice e0 c0.length d0,.slice e1 c1.length d1] 36 (0,0))).setB (w.heap.size+1+1) o)):=fun o=>⟨zaV (zb _) (HJ.out.all hb5 _).2.2.2.1 (p2 _) zbW o,zaV (zb _) (HJ.out.all hb5 _).2.2.2.2.1 (p2 _) zbW o,zr (HJ.out.all hb5 _).1 (by omega) o⟩
      clear HJ p2
      (skip);repeat (first|go_skip|go_guarded|go_step|go_upon|go_back)
      refine bodyPost_ret (by simp [results,Tryz.results77,go_sem,y2,n1,n2];rfl) rfl ?_
      subst hJ0
      subst hJ1
      exact ⟨_,_,rfl,(HE.out _).1,(HE.out _).2.1,(HE.out _).2.2⟩
end Go.Proofs.YtodokkpnafabpaaGreatDoor
