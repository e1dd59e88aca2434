/- Texts of this claim, merged: the walks and what they stand on. Each condition stands in its theorem. -/
import Derived.Deep.OwnRows
import Derived.Test.YtncnbihlngapbaaGreatCB18
import Derived.Test.YtncnbihlngapbaaGreatCB6
set_option linter.unusedVariables false
set_option linter.unusedSimpArgs false
set_option maxRecDepth 100000
set_option maxHeartbeats 8000000
namespace Go.Proofs.YtncnbihlngapbaaGreat
open Go.ChangeShapes Go.WideShapes Go.ChangeAt Go.RowKit
def RdF (n:Nat) (W:World) (v:Value) (xs:List ByteArray):Prop:=RdL zH W v xs/\∀ k,v.ownBlock=some k->n<=k
theorem RdF.below {n:Nat} {W W':World} {v:Value} {xs:List ByteArray} (h:RdF n W v xs) (hb:Below W.heap.size W W'):RdF n W' v xs:=⟨h.1.below hb,h.2⟩
theorem RdF.form {n:Nat} {W:World} {v:Value} {xs:List ByteArray} (h:RdF n W v xs):∃ a c,v=.slice a xs.length c:=h.1.form
structure JI (w:World) (va0 va1 vb0 vb1:Value) (a0 a1 b0 b1:List ByteArray) (L:Array Bool) (W:World) (x5 x8 x9 x10 x11 x12 x13 x14 x15 x16:Value):Prop where
 sz:L.size=11
 c10:L.getD 10 false=true->L.getD 9 false=true
 bel:Below w.heap.size w W
 P0:W.heap[w.heap.size]?=some (.cells #[va0,va1] 27 (0,0))
 P1:W.heap[w.heap.size+1]?=some (.cells #[vb0,vb1] 27 (0,0))
 P2:W.heap[w.heap.size+1+1]?=some (.cells #[.slice none 0 0,.slice none 0 0] 27 (0,0))
 r0:RdL zH W va0 a0
 r1:RdL zH W va1 a1
 s0:RdL zH W vb0 b0
 s1:RdL zH W vb1 b1
 f0:L.getD 0 false=true->∃ b,x8=.slice (some ⟨b,0,none⟩) 0 0/\w.heap.size+3<=b/\W.heap[b]?=some (.cells #[] 9 (0,0))/\OwnL zH 9 W (w.heap.size+3) x8 []
 f1:L.getD 1 false=true->x9=.pointer (some ⟨w.heap.size,0,none⟩)
 f2:L.getD 2 false=true->x10=va0
 f3:L.getD 3 false=true->RdF w.heap.size W x11 a0
 f4:L.getD 4 false=true->∃ b,x12=.slice (some ⟨b,0,none⟩) 0 0/\w.heap.size+3<=b/\W.heap[b]?=some (.cells #[] 9 (0,0))/\OwnL zH 9 W (w.heap.size+3) x12 []
 f5:L.getD 5 false=true->x13=.pointer (some ⟨w.heap.size,1,none⟩)
 f6:L.getD 6 false=true->x14=va1
 f7:L.getD 7 false=true->RdF w.heap.size W x15 a1
 f8:L.getD 8 false=true->∃ y z,x16=.agg #[y,z]/\RdF w.heap.size W y a0/\RdF w.heap.size W z a1
 f9:L.getD 9 false=true->∃ b,x5=.pointer (some ⟨b,0,none⟩)/\w.heap.size+3<=b/\((L.getD 10 false=false/\W.heap[b]?=some (.cells #[.slice none 0 0,.slice none 0 0] 27 (0,0))) ∨ (L.getD 10 false=true/\∃ y z,W.heap[b]?=some (.cells #[y,z] 27 (0,0))/\RdF w.heap.size W y a0/\RdF w.heap.size W z a1))
section
variable {w:World} {va0 va1 vb0 vb1:Value} {a0 a1 b0 b1:List ByteArray} {L:Array Bool} {W W':World} {x5 x8 x9 x10 x11 x12 x13 x14 x15 x16:Value}
theorem JI.grow (h:JI w va0 va1 vb0 vb1 a0 a1 b0 b1 L W x5 x8 x9 x10 x11 x12 x13 x14 x15 x16) (hb:Below W.heap.size W W'):JI w va0 va1 vb0 vb1 a0 a1 b0 b1 L W' x5 x8 x9 x10 x11 x12 x13 x14 x15 x16:=by
 have G:=fun {k:Nat} {o:Obj} (hk:W.heap[k]?=some o)=>(Grew.below hb k (zb hk)).trans hk
 refine ⟨h.sz,h.c10,Below.then h.bel hb,G h.P0,G h.P1,G h.P2,h.r0.below hb,h.r1.below hb,h.s0.below hb,h.s1.below hb,fun k=>?_,h.f1,h.f2,fun k=>(h.f3 k).below hb,fun k=>?_,h.f5,h.f6,fun k=>(h.f7 k).below hb,fun k=>?_,fun k=>?_⟩
 ·obtain ⟨b,e,h1,h2,h3⟩:=h.f0 k
  exact ⟨b,e,h1,G h2,zau h3 hb⟩
 ·obtain ⟨b,e,h1,h2,h3⟩:=h.f4 k
  exact ⟨b,e,h1,G h2,zau h3 hb⟩
 ·obtain ⟨y,z,e,h1,h2⟩:=h.f8 k
  exact ⟨y,z,e,h1.below hb,h2.below hb⟩
 ·obtain ⟨b,e,hb1,h1|⟨h1,y,z,h2,h3,h4⟩⟩:=h.f9 k
  ·exact ⟨b,e,hb1,.inl ⟨h1.1,G h1.2⟩⟩
  ·exact ⟨b,e,hb1,.inr ⟨h1,y,z,G h2,h3.below hb,h4.below hb⟩⟩
theorem JI.set (h:JI w va0 va1 vb0 vb1 a0 a1 b0 b1 L W x5 x8 x9 x10 x11 x12 x13 x14 x15 x16) {i:Nat} (hi:i<10) {y5 y8 y9 y10 y11 y12 y13 y14 y15 y16:Value}
  (e0:if i=0 then ∃ b,y8=.slice (some ⟨b,0,none⟩) 0 0/\w.heap.size+3<=b/\W.heap[b]?=some (.cells #[] 9 (0,0))/\OwnL zH 9 W (w.heap.size+3) y8 [] else y8=x8) (e1:if i=1 then y9=.pointer (some ⟨w.heap.size,0,none⟩) else y9=x9) (e2:if i=2 then y10=va0 else y10=x10) (e3:if i=3 then RdF w.heap.size W y11 a0 else y11=x11)
  (e4:if i=4 then ∃ b,y12=.slice (some ⟨b,0,none⟩) 0 0/\w.heap.size+3<=b/\W.heap[b]?=some (.cells #[] 9 (0,0))/\OwnL zH 9 W (w.heap.size+3) y12 [] else y12=x12) (e5:if i=5 then y13=.pointer (some ⟨w.heap.size,1,none⟩) else y13=x13) (e6:if i=6 then y14=va1 else y14=x14) (e7:if i=7 then RdF w.heap.size W y15 a1 else y15=x15)
  (e8:if i=8 then ∃ y z,y16=.agg #[y,z]/\RdF w.heap.size W y a0/\RdF w.heap.size W z a1 else y16=x16)
  (e9:if i=9 then L.getD 10 false=false/\∃ b,y5=.pointer (some ⟨b,0,none⟩)/\w.heap.size+3<=b/\W.heap[b]?=some (.cells #[.slice none 0 0,.slice none 0 0] 27 (0,0)) else y5=x5) :
  JI w va0 va1 vb0 vb1 a0 a1 b0 b1 (L.setIfInBounds i true) W y5 y8 y9 y10 y11 y12 y13 y14 y15 y16:=by
 have k10:(L.setIfInBounds i true).getD 10 false=L.getD 10 false:=zj (by omega)
 have up:∀ j,L.getD j false=true->(L.setIfInBounds i true).getD j false=true:=fun j hj=>by
  by_cases hx:i=j
  ·subst hx;exact zaN (by have:=h.sz;omega)
  ·rw [zj hx];exact hj
 refine ⟨by rw [Array.size_setIfInBounds];exact h.sz,fun k=>up _ (h.c10 (k10 ▸ k)),h.bel,h.P0,h.P1,h.P2,h.r0,h.r1,h.s0,h.s1,fun k=>?_,fun k=>?_,fun k=>?_,fun k=>?_,fun k=>?_,fun k=>?_,fun k=>?_,fun k=>?_,fun k=>?_,fun k=>?_⟩
 ·by_cases hx:i=0
  ·rwa [if_pos hx] at e0
  ·rw [if_neg hx] at e0;rw [zj hx] at k;rw [e0];exact h.f0 k
 ·by_cases hx:i=1
  ·rwa [if_pos hx] at e1
  ·rw [if_neg hx] at e1;rw [zj hx] at k;rw [e1];exact h.f1 k
 ·by_cases hx:i=2
  ·rwa [if_pos hx] at e2
  ·rw [if_neg hx] at e2;rw [zj hx] at k;rw [e2];exact h.f2 k
 ·by_cases hx:i=3
  ·rwa [if_pos hx] at e3
  ·rw [if_neg hx] at e3;rw [zj hx] at k;rw [e3];exact h.f3 k
 ·by_cases hx:i=4
  ·rwa [if_pos hx] at e4
  ·rw [if_neg hx] at e4;rw [zj hx] at k;rw [e4];exact h.f4 k
 ·by_cases hx:i=5
  ·rwa [if_pos hx] at e5
  ·rw [if_neg hx] at e5;rw [zj hx] at k;rw [e5];exact h.f5 k
 ·by_cases hx:i=6
  ·rwa [if_pos hx] at e6
  ·rw [if_neg hx] at e6;rw [zj hx] at k;rw [e6];exact h.f6 k
 ·by_cases hx:i=7
  ·rwa [if_pos hx] at e7
  ·rw [if_neg hx] at e7;rw [zj hx] at k;rw [e7];exact h.f7 k
 ·by_cases hx:i=8
  ·rwa [if_pos hx] at e8
  ·rw [if_neg hx] at e8;rw [zj hx] at k;rw [e8];exact h.f8 k
 ·rw [k10]
  by_cases hx:i=9
  ·rw [if_pos hx] at e9
   obtain ⟨h1,b,e,h2,h3⟩:=e9
   exact ⟨b,e,h2,.inl ⟨h1,h3⟩⟩
  ·rw [if_neg hx] at e9;rw [zj hx] at k;rw [e9];exact h.f9 k
theorem zbA:∀ u ∈ (#[.slice none 0 0,.slice none 0 0]:Array Value),∀ s,u ≠ .string s:=by
 intro u hu s
 simp at hu
 subst hu
 simp
theorem JI.st10 (h:JI w va0 va1 vb0 vb1 a0 a1 b0 b1 L W x5 x8 x9 x10 x11 x12 x13 x14 x15 x16) (k8:L.getD 8 false=true) (k9:L.getD 9 false=true) (k10:L.getD 10 false=false) :
  ∃ b p0 c0 p1 c1,x5=.pointer (some ⟨b,0,none⟩)/\x16=.agg #[.slice p0 a0.length c0,.slice p1 a1.length c1]/\W.heap[b]?=some (.cells #[.slice none 0 0,.slice none 0 0] 27 (0,0))/\JI w va0 va1 vb0 vb1 a0 a1 b0 b1 (L.setIfInBounds 10 true) (W.setB b (.cells #[.slice p0 a0.length c0,.slice p1 a1.length c1] 27 (0,0))) x5 x8 x9 x10 x11 x12 x13 x14 x15 x16:=by
 obtain ⟨b,e5,hb,h1|h1⟩:=h.f9 k9
 case inr=>rw [h1.1] at k10;cases k10
 obtain ⟨y,z,e16,q0,q1⟩:=h.f8 k8
 obtain ⟨p0,c0,rfl⟩:=q0.form
 obtain ⟨p1,c1,rfl⟩:=q1.form
 have hB:=h1.2
 have hz:=zb hB
 have N:∀ k,k<w.heap.size+3->(W.setB b (.cells #[.slice p0 a0.length c0,.slice p1 a1.length c1] 27 (0,0))).heap[k]?=W.heap[k]?:=fun k hk=>World.setB_get _ _ _ _ (by omega)
 have kk:=fun {j:Nat} (hj : 10 ≠ j) (k:(L.setIfInBounds 10 true).getD j false=true)=>(zj (L:=L) hj) ▸ k
 have S:=fun {v:Value} {xs:List ByteArray} (hv:RdL zH W v xs)=>zaz (ze _) hv hB zbA (.cells #[.slice p0 a0.length c0,.slice p1 a1.length c1] 27 (0,0))
 have SF:=fun {v:Value} {xs:List ByteArray} (hv:RdF w.heap.size W v xs)=>(⟨S hv.1,hv.2⟩ : RdF w.heap.size (W.setB b (.cells #[.slice p0 a0.length c0,.slice p1 a1.length c1] 27 (0,0))) v xs)
 have EB:∀ {x:Value},(∃ b',x=.slice (some ⟨b',0,none⟩) 0 0/\w.heap.size+3<=b'/\W.heap[b']?=some (.cells #[] 9 (0,0))/\OwnL zH 9 W (w.heap.size+3) x [])->∃ b',x=.slice (some ⟨b',0,none⟩) 0 0/\w.heap.size+3<=b'/\(W.setB b (.cells #[.slice p0 a0.length c0,.slice p1 a1.length c1] 27 (0,0))).heap[b']?=some (.cells #[] 9 (0,0))/\OwnL zH 9 (W.setB b (.cells #[.slice p0 a0.length c0,.slice p1 a1.length c1] 27 (0,0))) (w.heap.size+3) x []:=by
  rintro x ⟨b',rfl,h2,h3,h4⟩
  have hne:b' ≠ b:=by rintro rfl;rw [hB] at h3;cases h3
  exact ⟨b',rfl,h2,(World.setB_get _ _ _ _ hne).trans h3,h4.setB (by simpa [Value.ownBlock] using hne) _⟩
 refine ⟨b,p0,c0,p1,c1,e5,e16,hB,⟨by rw [Array.size_setIfInBounds];exact h.sz,fun _=>by rw [zj (by decide)];exact k9,zp h.bel (by omega) _,(N _ (by omega)).trans h.P0,(N _ (by omega)).trans h.P1,(N _ (by omega)).trans h.P2,S h.r0,S h.r1,S h.s0,S h.s1,fun k=>EB (h.f0 (kk (by decide) k)),fun k=>h.f1 (kk (by decide) k),fun k=>h.f2 (kk (by decide) k),fun k=>SF (h.f3 (kk (by decide) k)),fun k=>EB (h.f4 (kk (by decide) k)),fun k=>h.f5 (kk (by decide) k),fun k=>h.f6 (kk (by decide) k),fun k=>SF (h.f7 (kk (by decide) k)),fun k=>?_,fun k=>?_⟩⟩
 ·exact ⟨_,_,e16,SF q0,SF q1⟩
 ·exact ⟨b,e5,hb,.inr ⟨zaN (by rw [h.sz];decide),_,_,World.setB_at _ _ _ hz,SF q0,SF q1⟩⟩
end
structure JL (w:World) (q:Nat) (vb0 vb1:Value) (b0 b1:List ByteArray) (W:World) (y z:Value) (a0 a1:List ByteArray):Prop where
 bel:Below w.heap.size w W
 P1:W.heap[w.heap.size+1]?=some (.cells #[vb0,vb1] 27 (0,0))
 P2:W.heap[w.heap.size+1+1]?=some (.cells #[.slice none 0 0,.slice none 0 0] 27 (0,0))
 Q:W.heap[q]?=some (.cells #[y,z] 27 (0,0))
 ry:RdF w.heap.size W y a0
 rz:RdF w.heap.size W z a1
 s0:RdL zH W vb0 b0
 s1:RdL zH W vb1 b1
theorem zfe (a0 a1:Option Addr) (n0 n1 c0 c1:Nat):∀ u ∈ (#[.slice a0 n0 c0,.slice a1 n1 c1]:Array Value),∀ s,u ≠ .string s:=by
 intro u hu s
 simp at hu
 rcases hu with rfl|rfl<;>simp
theorem zjt {w:World} {q:Nat} {v:Value} {xs:List ByteArray} {X:Ext} {a0 a1:Option Addr} {n0 n1 c0 c1:Nat} (hq:q<w.heap.size) (h:RdL zH ((w.setB q (.cells #[.slice a0 n0 c0,.slice a1 n1 c1] 27 (0,0))).ext X) v xs) (o:Obj):RdL zH ((w.setB q o).ext X) v xs:=by
 have hg:((w.setB q (.cells #[.slice a0 n0 c0,.slice a1 n1 c1] 27 (0,0))).ext X).heap[q]?=some (.cells #[.slice a0 n0 c0,.slice a1 n1 c1] 27 (0,0)):=(World.ext_get _ X (by rw [zd];exact hq)).trans (World.setB_at _ _ _ hq)
 have h1:=zaz (ze _) h hg (zfe _ _ _ _ _ _) o
 rw [zaC _ _ _ _ (by rw [zd];exact hq)] at h1
 have e:(w.setB q (.cells #[.slice a0 n0 c0,.slice a1 n1 c1] 27 (0,0))).setB q o=w.setB q o:=by simp [go_sem]
 rwa [e] at h1
theorem JL.all {w:World} {q:Nat} {vb0 vb1:Value} {b0 b1:List ByteArray} {W:World} {e0 e1:Option Addr} {n0 n1 d0 d1:Nat} {a0 a1:List ByteArray} (h:JL w q vb0 vb1 b0 b1 W (.slice e0 n0 d0) (.slice e1 n1 d1) a0 a1) (hq:w.heap.size+3<=q) (o:Obj) :
  Below w.heap.size w (W.setB q o)/\(W.setB q o).heap[w.heap.size+1]?=some (.cells #[vb0,vb1] 27 (0,0))/\(W.setB q o).heap[w.heap.size+1+1]?=some (.cells #[.slice none 0 0,.slice none 0 0] 27 (0,0))/\RdL zH (W.setB q o) (.slice e0 n0 d0) a0/\RdL zH (W.setB q o) (.slice e1 n1 d1) a1/\RdL zH (W.setB q o) vb0 b0/\RdL zH (W.setB q o) vb1 b1:=by
 have S:=fun {v:Value} {xs:List ByteArray} (hv:RdL zH W v xs)=>zaz (ze _) hv h.Q (zfe _ _ _ _ _ _) o
 exact ⟨zp h.bel (by omega) o,(World.setB_get _ _ _ _ (by omega)).trans h.P1,(World.setB_get _ _ _ _ (by omega)).trans h.P2,S h.ry.1,S h.rz.1,S h.s0,S h.s1⟩
theorem JL.laid {w:World} {q:Nat} {vb0 vb1:Value} {b0 b1:List ByteArray} {W:World} {e0 e1:Option Addr} {n0 n1 d0 d1:Nat} {a0 a1:List ByteArray} (h:JL w q vb0 vb1 b0 b1 W (.slice e0 n0 d0) (.slice e1 n1 d1) a0 a1) (hq:w.heap.size+3<=q) {X:Ext} {y z:Value} {c0 c1:List ByteArray}
  (hy:RdL zH ((W.setB q (.cells #[.slice e0 n0 d0,.slice e1 n1 d1] 27 (0,0))).ext X) y c0) (hz:RdL zH ((W.setB q (.cells #[.slice e0 n0 d0,.slice e1 n1 d1] 27 (0,0))).ext X) z c1) (fy:∀ k,y.ownBlock=some k->w.heap.size<=k) (fz:∀ k,z.ownBlock=some k->w.heap.size<=k) :
  JL w q vb0 vb1 b0 b1 ((W.setB q (.cells #[y,z] 27 (0,0))).ext X) y z c0 c1:=by
 have hs:=zb h.Q
 have k:=h.all hq (.cells #[y,z] 27 (0,0))
 have G:=fun {j:Nat} {o:Obj} (hk:(W.setB q (.cells #[y,z] 27 (0,0))).heap[j]?=some o)=>(World.ext_get _ X (zb hk)).trans hk
 exact ⟨k.1.ofExt X,G k.2.1,G k.2.2.1,G (World.setB_at _ _ _ hs),⟨zjt hs hy _,fy⟩,⟨zjt hs hz _,fz⟩,k.2.2.2.2.2.1.ext X,k.2.2.2.2.2.2.ext X⟩
theorem zc4:∀ (ys xs:List ByteArray),(zak xs ys).length<=xs.length+ys.length
 | [],xs=>Nat.le_refl _
 | y :: ys,xs=>by
  have h:=zc4 ys (zck xs y)
  have h2:=zcN xs y
  show (zak (zck xs y) ys).length<=_
  rw [List.length_cons]
  omega
theorem zc0 (va0 va1 vb0 vb1:Value) (a0 a1 b0 b1:List ByteArray) (w:World) (h0:RdL zH w va0 a0) (h1:RdL zH w va1 a1) (g0:RdL zH w vb0 b0) (g1:RdL zH w vb1 b1) (hl0:a0.length+b0.length<=1099511627776) (hl1:a1.length+b1.length<=1099511627776) :
  Calls Tryz.prog 54 #[.agg #[va0,va1],.agg #[vb0,vb1]] w fun e w'=>∃ v0 v1,e=.returned (.agg #[v0,v1])/\RdF w.heap.size w' v0 (zak a0 b0)/\RdF w.heap.size w' v1 (zak a1 b1)/\Below w.heap.size w w':=by
 go_enter Tryz.func54,Tryz.ntmps54
 (try simp only []);repeat (first|go_skip|go_guarded|go_step|go_upon|go_back)
 have H0:=Hd h0
 have H1:=Hd h1
 have G0:=Hd g0
 have G1:=Hd g1
 clear h0 h1 g0 g1
 refine zaF (fun L a W=>∃ x5 x8 x9 x10 x11 x12 x13 x14 x15 x16,a=⟨#[.agg #[va0,va1],.agg #[vb0,vb1],.pointer (some ⟨w.heap.size,0,none⟩),.pointer (some ⟨w.heap.size+1,0,none⟩),.pointer (some ⟨w.heap.size+1+1,0,none⟩),x5,undef,undef,x8,x9,x10,x11,x12,x13,x14,x15,x16,undef,undef,undef,undef,undef,undef,undef,undef,undef,undef,undef,undef,undef,undef,undef,undef,undef,undef,undef,undef,undef,undef,undef,undef,undef,undef,undef,undef,undef,undef,undef,undef,undef],[]⟩/\JI w va0 va1 vb0 vb1 a0 a1 b0 b1 L W x5 x8 x9 x10 x11 x12 x13 x14 x15 x16) (by kernel_rfl) ?_ ?_ ?_
 ·have N:∀ j,¬ (Array.replicate 11 false).getD j false=true:=zc3 11
  have h3:=zjD w (.cells #[va0,va1] 27) (.cells #[vb0,vb1] 27) (.cells #[.slice none 0 0,.slice none 0 0] 27) w.heap.size rfl
  exact ⟨_,_,_,_,_,_,_,_,_,_,rfl,⟨by simp,fun k=>absurd k (N _),(by repeat (first|with_reducible exact Below.refl _ _|with_reducible apply Below.ofExt|with_reducible apply Below.ofAlloc|with_reducible apply Below.drew|with_reducible apply Below.ofDrewN|with_reducible assumption|(with_reducible refine Below.setCell ?_ (by first|exact Nat.le_refl _|(simp [go_sem];done)|(simp [go_sem];omega)) _))),h3.1,h3.2.1,h3.2.2,RdL.drew (((H0.out.alloc _).alloc _).alloc _),RdL.drew (((H1.out.alloc _).alloc _).alloc _),RdL.drew (((G0.out.alloc _).alloc _).alloc _),RdL.drew (((G1.out.alloc _).alloc _).alloc _),fun k=>absurd k (N _),fun k=>absurd k (N _),fun k=>absurd k (N _),fun k=>absurd k (N _),fun k=>absurd k (N _),fun k=>absurd k (N _),fun k=>absurd k (N _),fun k=>absurd k (N _),fun k=>absurd k (N _),fun k=>absurd k (N _)⟩⟩
 ·rintro L a W i ⟨x5,x8,x9,x10,x11,x12,x13,x14,x15,x16,rfl,H⟩ hi
  have hlt:=zbN hi
  have hun:=zbM hi
  have hW:Hid (∀ j,zbL _ i j=true->L.getD j false=true):=fun j h=>za1 hi h
  have h12:i<11:=hlt
  clear hlt hi
  have hcs:i=0 ∨ i=1 ∨ i=2 ∨ i=3 ∨ i=4 ∨ i=5 ∨ i=6 ∨ i=7 ∨ i=8 ∨ i=9 ∨ i=10:=by omega
  clear h12
  rcases hcs with rfl|rfl|rfl|rfl|rfl|rfl|rfl|rfl|rfl|rfl|rfl
  ·refine zz rfl (fun K hK=>?_)
   go_simp
   refine hK _ _ ⟨_,_,_,_,_,_,_,_,_,_,rfl,(H.grow (Below.ofAlloc (Below.refl _ _) _)).set (i:=0) (by decide) (by rw [if_pos rfl];have hs:=H.bel.size;have hs2:=zb H.P2;exact ⟨_,rfl,by omega,heap_alloc_new _ _,OwnL.base (OwnL.empty zH _ _) (by omega)⟩) (by first|(simp;done)|(rw [if_neg (by decide)];rfl)) (by first|(simp;done)|(rw [if_neg (by decide)];rfl)) (by first|(simp;done)|(rw [if_neg (by decide)];rfl)) (by first|(simp;done)|(rw [if_neg (by decide)];rfl)) (by first|(simp;done)|(rw [if_neg (by decide)];rfl)) (by first|(simp;done)|(rw [if_neg (by decide)];rfl)) (by first|(simp;done)|(rw [if_neg (by decide)];rfl)) (by first|(simp;done)|(rw [if_neg (by decide)];rfl)) (by first|(simp;done)|(rw [if_neg (by decide)];rfl))⟩
  ·refine zz rfl (fun K hK=>?_)
   go_simp
   refine hK _ _ ⟨_,_,_,_,_,_,_,_,_,_,rfl,H.set (i:=1) (by decide) (by first|(simp;done)|(rw [if_neg (by decide)];rfl)) (by rw [if_pos rfl]) (by first|(simp;done)|(rw [if_neg (by decide)];rfl)) (by first|(simp;done)|(rw [if_neg (by decide)];rfl)) (by first|(simp;done)|(rw [if_neg (by decide)];rfl)) (by first|(simp;done)|(rw [if_neg (by decide)];rfl)) (by first|(simp;done)|(rw [if_neg (by decide)];rfl)) (by first|(simp;done)|(rw [if_neg (by decide)];rfl)) (by first|(simp;done)|(rw [if_neg (by decide)];rfl)) (by first|(simp;done)|(rw [if_neg (by decide)];rfl))⟩
  ·obtain rfl:=H.f1 (hW.out 1 (by kernel_rfl))
   have p0:W.cell? ⟨w.heap.size,0,none⟩=some va0:=(zg (i:=0) H.P0).trans rfl
   have hz:=zb H.P0
   obtain ⟨q0,d0,rfl⟩:=H.r0.form
   refine zz rfl (fun K hK=>?_)
   go_simp
   refine hK _ _ ⟨_,_,_,_,_,_,_,_,_,_,rfl,H.set (i:=2) (by decide) (by first|(simp;done)|(rw [if_neg (by decide)];rfl)) (by first|(simp;done)|(rw [if_neg (by decide)];rfl)) (by rw [if_pos rfl]) (by first|(simp;done)|(rw [if_neg (by decide)];rfl)) (by first|(simp;done)|(rw [if_neg (by decide)];rfl)) (by first|(simp;done)|(rw [if_neg (by decide)];rfl)) (by first|(simp;done)|(rw [if_neg (by decide)];rfl)) (by first|(simp;done)|(rw [if_neg (by decide)];rfl)) (by first|(simp;done)|(rw [if_neg (by decide)];rfl)) (by first|(simp;done)|(rw [if_neg (by decide)];rfl))⟩
  ·obtain ⟨b,rfl,hb,hg,ho⟩:=H.f0 (hW.out 0 (by kernel_rfl))
   obtain rfl:=H.f2 (hW.out 2 (by kernel_rfl))
   refine zz rfl (fun K hK=>?_)
   change Oper.wp _ _ _ _ _ _
   have hs:=H.bel.size
   have hs2:=zb H.P2
   refine zgj (.tmp 8) (.tmp 10) _ rfl zah ho (by omega) hg rfl H.r0 rfl (by omega) (by unfold maxLen;omega) ?_
   intro v' w' hr hbl hfr
   refine hK _ _ ⟨_,_,_,_,_,_,_,_,_,_,rfl,(H.grow hbl).set (i:=3) (by decide) (by first|(simp;done)|(rw [if_neg (by decide)];rfl)) (by first|(simp;done)|(rw [if_neg (by decide)];rfl)) (by first|(simp;done)|(rw [if_neg (by decide)];rfl)) (by rw [if_pos rfl];exact ⟨hr,fun k hk=>Nat.le_trans (by omega) (hfr k hk)⟩) (by first|(simp;done)|(rw [if_neg (by decide)];rfl)) (by first|(simp;done)|(rw [if_neg (by decide)];rfl)) (by first|(simp;done)|(rw [if_neg (by decide)];rfl)) (by first|(simp;done)|(rw [if_neg (by decide)];rfl)) (by first|(simp;done)|(rw [if_neg (by decide)];rfl)) (by first|(simp;done)|(rw [if_neg (by decide)];rfl))⟩
  ·refine zz rfl (fun K hK=>?_)
   go_simp
   refine hK _ _ ⟨_,_,_,_,_,_,_,_,_,_,rfl,(H.grow (Below.ofAlloc (Below.refl _ _) _)).set (i:=4) (by decide) (by first|(simp;done)|(rw [if_neg (by decide)];rfl)) (by first|(simp;done)|(rw [if_neg (by decide)];rfl)) (by first|(simp;done)|(rw [if_neg (by decide)];rfl)) (by first|(simp;done)|(rw [if_neg (by decide)];rfl)) (by rw [if_pos rfl];have hs:=H.bel.size;have hs2:=zb H.P2;exact ⟨_,rfl,by omega,heap_alloc_new _ _,OwnL.base (OwnL.empty zH _ _) (by omega)⟩) (by first|(simp;done)|(rw [if_neg (by decide)];rfl)) (by first|(simp;done)|(rw [if_neg (by decide)];rfl)) (by first|(simp;done)|(rw [if_neg (by decide)];rfl)) (by first|(simp;done)|(rw [if_neg (by decide)];rfl)) (by first|(simp;done)|(rw [if_neg (by decide)];rfl))⟩
  ·refine zz rfl (fun K hK=>?_)
   go_simp
   refine hK _ _ ⟨_,_,_,_,_,_,_,_,_,_,rfl,H.set (i:=5) (by decide) (by first|(simp;done)|(rw [if_neg (by decide)];rfl)) (by first|(simp;done)|(rw [if_neg (by decide)];rfl)) (by first|(simp;done)|(rw [if_neg (by decide)];rfl)) (by first|(simp;done)|(rw [if_neg (by decide)];rfl)) (by first|(simp;done)|(rw [if_neg (by decide)];rfl)) (by rw [if_pos rfl]) (by first|(simp;done)|(rw [if_neg (by decide)];rfl)) (by first|(simp;done)|(rw [if_neg (by decide)];rfl)) (by first|(simp;done)|(rw [if_neg (by decide)];rfl)) (by first|(simp;done)|(rw [if_neg (by decide)];rfl))⟩
  ·obtain rfl:=H.f5 (hW.out 5 (by kernel_rfl))
   have p0:W.cell? ⟨w.heap.size,1,none⟩=some va1:=(zg (i:=1) H.P0).trans rfl
   have hz:=zb H.P0
   obtain ⟨q0,d0,rfl⟩:=H.r1.form
   refine zz rfl (fun K hK=>?_)
   go_simp
   refine hK _ _ ⟨_,_,_,_,_,_,_,_,_,_,rfl,H.set (i:=6) (by decide) (by first|(simp;done)|(rw [if_neg (by decide)];rfl)) (by first|(simp;done)|(rw [if_neg (by decide)];rfl)) (by first|(simp;done)|(rw [if_neg (by decide)];rfl)) (by first|(simp;done)|(rw [if_neg (by decide)];rfl)) (by first|(simp;done)|(rw [if_neg (by decide)];rfl)) (by first|(simp;done)|(rw [if_neg (by decide)];rfl)) (by rw [if_pos rfl]) (by first|(simp;done)|(rw [if_neg (by decide)];rfl)) (by first|(simp;done)|(rw [if_neg (by decide)];rfl)) (by first|(simp;done)|(rw [if_neg (by decide)];rfl))⟩
  ·obtain ⟨b,rfl,hb,hg,ho⟩:=H.f4 (hW.out 4 (by kernel_rfl))
   obtain rfl:=H.f6 (hW.out 6 (by kernel_rfl))
   refine zz rfl (fun K hK=>?_)
   change Oper.wp _ _ _ _ _ _
   have hs:=H.bel.size
   have hs2:=zb H.P2
   refine zgj (.tmp 12) (.tmp 14) _ rfl zah ho (by omega) hg rfl H.r1 rfl (by omega) (by unfold maxLen;omega) ?_
   intro v' w' hr hbl hfr
   refine hK _ _ ⟨_,_,_,_,_,_,_,_,_,_,rfl,(H.grow hbl).set (i:=7) (by decide) (by first|(simp;done)|(rw [if_neg (by decide)];rfl)) (by first|(simp;done)|(rw [if_neg (by decide)];rfl)) (by first|(simp;done)|(rw [if_neg (by decide)];rfl)) (by first|(simp;done)|(rw [if_neg (by decide)];rfl)) (by first|(simp;done)|(rw [if_neg (by decide)];rfl)) (by first|(simp;done)|(rw [if_neg (by decide)];rfl)) (by first|(simp;done)|(rw [if_neg (by decide)];rfl)) (by rw [if_pos rfl];exact ⟨hr,fun k hk=>Nat.le_trans (by omega) (hfr k hk)⟩) (by first|(simp;done)|(rw [if_neg (by decide)];rfl)) (by first|(simp;done)|(rw [if_neg (by decide)];rfl))⟩
  ·have k3:=H.f3 (hW.out 3 (by kernel_rfl))
   have k7:=H.f7 (hW.out 7 (by kernel_rfl))
   obtain ⟨q0,d0,rfl⟩:=k3.form
   obtain ⟨q1,d1,rfl⟩:=k7.form
   refine zz rfl (fun K hK=>?_)
   go_simp
   refine hK _ _ ⟨_,_,_,_,_,_,_,_,_,_,rfl,H.set (i:=8) (by decide) (by first|(simp;done)|(rw [if_neg (by decide)];rfl)) (by first|(simp;done)|(rw [if_neg (by decide)];rfl)) (by first|(simp;done)|(rw [if_neg (by decide)];rfl)) (by first|(simp;done)|(rw [if_neg (by decide)];rfl)) (by first|(simp;done)|(rw [if_neg (by decide)];rfl)) (by first|(simp;done)|(rw [if_neg (by decide)];rfl)) (by first|(simp;done)|(rw [if_neg (by decide)];rfl)) (by first|(simp;done)|(rw [if_neg (by decide)];rfl)) (by rw [if_pos rfl];exact ⟨_,_,rfl,k3,k7⟩) (by first|(simp;done)|(rw [if_neg (by decide)];rfl))⟩
  ·have k10:L.getD 10 false=false:=by cases h:L.getD 10 false with|false=>rfl|true=>exact absurd (H.c10 h) (by rw [hun];decide)
   refine zz rfl (fun K hK=>?_)
   go_simp
   refine hK _ _ ⟨_,_,_,_,_,_,_,_,_,_,rfl,(H.grow (Below.ofAlloc (Below.refl _ _) _)).set (i:=9) (by decide) (by first|(simp;done)|(rw [if_neg (by decide)];rfl)) (by first|(simp;done)|(rw [if_neg (by decide)];rfl)) (by first|(simp;done)|(rw [if_neg (by decide)];rfl)) (by first|(simp;done)|(rw [if_neg (by decide)];rfl)) (by first|(simp;done)|(rw [if_neg (by decide)];rfl)) (by first|(simp;done)|(rw [if_neg (by decide)];rfl)) (by first|(simp;done)|(rw [if_neg (by decide)];rfl)) (by first|(simp;done)|(rw [if_neg (by decide)];rfl)) (by first|(simp;done)|(rw [if_neg (by decide)];rfl)) (by rw [if_pos rfl];exact ⟨k10,_,rfl,by have:=H.bel.size;have:=zb H.P2;omega,heap_alloc_new _ _⟩)⟩
  ·obtain ⟨b,p0,c0,p1,c1,rfl,rfl,hB,H'⟩:=H.st10 (hW.out 8 (by kernel_rfl)) (hW.out 9 (by kernel_rfl)) hun
   have e1:=zi hB
   have hz:=zb hB
   refine zz rfl (fun K hK=>?_)
   rw [<- e1]
   clear e1
   go_simp
   exact hK _ _ ⟨_,_,_,_,_,_,_,_,_,_,rfl,H'⟩
 ·rintro L a W ⟨x5,x8,x9,x10,x11,x12,x13,x14,x15,x16,rfl,H⟩ hr
  have hall:=za9 (ops:=_) H.sz hr (zaA (by kernel_rfl))
  obtain ⟨b5,rfl,hb5,h9⟩:=H.f9 (hall 9 (by decide))
  have k10:=hall 10 (by decide)
  rcases h9 with h9|⟨_,y,z,h9,hy,hz⟩
  ·rw [k10] at h9;cases h9.1
  obtain ⟨e0,d0,rfl⟩:=hy.form
  obtain ⟨e1,d1,rfl⟩:=hz.form
  obtain ⟨u0,v0,rfl⟩:=H.s0.form
  obtain ⟨u1,v1,rfl⟩:=H.s1.form
  have HK:Hid (JL w b5 (.slice u0 b0.length v0) (.slice u1 b1.length v1) b0 b1 W (.slice e0 a0.length d0) (.slice e1 a1.length d1) a0 a1):=⟨H.bel,H.P1,H.P2,h9,hy,hz,H.s0,H.s1⟩
  clear h9 hy hz H hall k10 hr H0 H1 G0 G1
  (try simp only []);repeat (first|go_skip|go_guarded|go_step|go_upon|go_back)
  go_loopw [6] (fun k wr=>∃ (n:Nat) (e0:Option Addr) (d0:Nat),k=.int .i64 n/\n<=b0.length/\JL w b5 (.slice u0 b0.length v0) (.slice u1 b1.length v1) b0 b1 wr (.slice e0 (zak a0 (b0.take n)).length d0) (.slice e1 a1.length d1) (zak a0 (b0.take n)) a1) (fun k _=>b0.length - (intOf k).toNat)
  case atStart=>exact ⟨0,e0,d0,rfl,Nat.zero_le _,HK.out⟩
  case round =>
   clear HK
   obtain ⟨n,e0,d0,rfl,hn,hj⟩:=hrel
   have HJ:=Hd hj
   have hzq:=zb hj.Q
   have e1:=zi hj.Q
   rw [<- e1]
   have y1:w.heap.size+1<wr.heap.size:=zb hj.P1
   have y2:w.heap.size+1+1<wr.heap.size:=zb hj.P2
   clear e1 hj
   have p0:∀ o,(wr.setB b5 o).cell? ⟨w.heap.size+1,0,none⟩=some (.slice u0 b0.length v0):=fun o=>(zg (i:=0) (HJ.out.all hb5 o).2.1).trans rfl
   have p1:∀ o,(wr.setB b5 o).cell? ⟨w.heap.size+1,1,none⟩=some (.slice u1 b1.length v1):=fun o=>(zg (i:=1) (HJ.out.all hb5 o).2.1).trans rfl
   by_cases hlt:(n:Int)<b0.length
   case pos =>
    have hk2:n<b0.length:=by omega
    obtain ⟨b,off,rfl,hbl,hce⟩:=zcv (W:=fun o r=>wr.setB b5 o) (fun o r=>(HJ.out.all hb5 o).2.2.2.2.2.1) hk2 (.cells #[] 0) (.cells #[] 0)
    rw [zd] at hbl
    have hce:=fun o=>hce o (.cells #[] 0)
    have hsn:=zgc a0 (b0.take n) b0[n]
    rw [<- List.take_succ_eq_append_getElem hk2] at hsn
    have HSN:=Hd hsn
    clear hsn
    generalize b0[n]=key at hce HSN
    have hjl:=zc4 (b0.take n) a0
    rw [List.length_take] at hjl
    generalize zak a0 (b0.take n)=cur at HJ HSN hjl ⊢
    (try simp only []);repeat (first|go_skip|go_guarded|go_step|go_upon|go_back)
    (first|refine zk (id:=1) [(1,true),(2,true),(5,true),(6,true)] 10 (by kernel_rfl) (by kernel_rfl) ?_|refine zk (id:=5) [(0,true),(1,true),(2,true),(3,true),(4,true),(5,true),(6,true),(7,false),(8,false),(9,false)] 8 (by kernel_rfl) (by kernel_rfl) ?_|refine zk (id:=9) [(0,true),(1,true),(2,true),(3,true),(4,true),(5,true),(6,true),(7,false),(8,false),(9,false)] 8 (by kernel_rfl) (by kernel_rfl) ?_)
    repeat (first|(refine zq rfl (fun K hK=>?_);go_simp;(try simp (disch:=omega) only [IntWalk.i64_in,Int.tmod_eq_emod_of_nonneg,Int.tdiv_eq_ediv_of_nonneg]);refine hK _ ?_;clear hK K)|(refine zo rfl (fun K hK=>?_);go_simp;go_at_call 22;refine (zaS _ cur key _ (by first|exact (HJ.out.all hb5 _).2.2.2.1|exact RdL.drew (HJ.out.all hb5 _).2.2.2.1) (by omega)).mono ?_;rintro e w' ⟨v',rfl,ho,hb⟩;obtain ⟨X,rfl⟩:=hb.ext;obtain ⟨f0,g0,rfl⟩:=ho.rd.form;have HO:=Hd ho.rd;have HF:=Hd (fun k hk=>(ho.lt k hk).1);clear ho hb;(try go_simp);refine hK _ _ (by show Sx _ _;(try simp only [<- Array.append_assoc]);repeat (first|with_reducible exact Sx.drew _|with_reducible exact Sx.same _ _ _ _|with_reducible exact ⟨_,rfl⟩|with_reducible apply Sx.more|with_reducible apply Sx.ext|with_reducible apply Sx.alloc|with_reducible apply zL|with_reducible exact Sx.refl _)) ?_;clear hK K)|(refine zy rfl rfl (fun K hK=>?_);go_simp;refine hK _ _ ?_;clear hK K)|(refine zo rfl (fun K hK=>?_);go_simp;refine hK _ _ (by show Sx _ _;(try simp only [<- Array.append_assoc]);repeat (first|with_reducible exact Sx.drew _|with_reducible exact Sx.same _ _ _ _|with_reducible exact ⟨_,rfl⟩|with_reducible apply Sx.more|with_reducible apply Sx.ext|with_reducible apply Sx.alloc|with_reducible apply zL|with_reducible exact Sx.refl _)) ?_;clear hK K))
    refine zX ?_
    have hy:=HO.out
    clear HO
    (try simp only [zm,zA,Array.append_assoc] at hy)
    have HN:=Hd (JL.laid HJ.out hb5 hy ((HJ.out.all hb5 _).2.2.2.2.1.ext X) (fun k hk=>by have h1:=HF.out k hk;have h2:=HJ.out.bel.size;simp [zd] at h1;omega) HJ.out.rz.2)
    clear hy
    (try simp only []);repeat (first|go_skip|go_guarded|go_step|go_upon|go_back)
    go_roundw
    case rel=>exact ⟨n+1,f0,g0,by go_num,by omega,by rw [HSN.out];exact HN.out⟩
    case measure=>simp [intOf];omega
   case neg =>
    have e:n=b0.length:=by omega
    subst e
    rw [List.take_length] at HJ ⊢
    generalize hJ0:zak a0 b0=c0 at HJ ⊢
    (try simp only []);repeat (first|go_skip|go_guarded|go_step|go_upon|go_back)
    go_loopw [7] (fun k wr=>∃ (n:Nat) (e1:Option Addr) (d1:Nat),k=.int .i64 n/\n<=b1.length/\JL w b5 (.slice u0 b0.length v0) (.slice u1 b1.length v1) b0 b1 wr (.slice e0 c0.length d0) (.slice e1 (zak a1 (b1.take n)).length d1) c0 (zak a1 (b1.take n))) (fun k _=>b1.length - (intOf k).toNat)
    case atStart=>exact ⟨0,e1,d1,rfl,Nat.zero_le _,⟨(HJ.out.all hb5 _).1,(HJ.out.all hb5 _).2.1,(HJ.out.all hb5 _).2.2.1,World.setB_at _ _ _ hzq,⟨(HJ.out.all hb5 _).2.2.2.1,HJ.out.ry.2⟩,⟨(HJ.out.all hb5 _).2.2.2.2.1,HJ.out.rz.2⟩,(HJ.out.all hb5 _).2.2.2.2.2.1,(HJ.out.all hb5 _).2.2.2.2.2.2⟩⟩
    case round =>
     clear HJ hzq y1 y2 p0 p1
     obtain ⟨n,e1,d1,rfl,hn,hj⟩:=hrel
     have HJ:=Hd hj
     have hzq:=zb hj.Q
     have ew:=zi hj.Q
     rw [<- ew]
     have y1:w.heap.size+1<wr.heap.size:=zb hj.P1
     have y2:w.heap.size+1+1<wr.heap.size:=zb hj.P2
     clear ew hj
     have p0:∀ o,(wr.setB b5 o).cell? ⟨w.heap.size+1,0,none⟩=some (.slice u0 b0.length v0):=fun o=>(zg (i:=0) (HJ.out.all hb5 o).2.1).trans rfl
     have p1:∀ o,(wr.setB b5 o).cell? ⟨w.heap.size+1,1,none⟩=some (.slice u1 b1.length v1):=fun o=>(zg (i:=1) (HJ.out.all hb5 o).2.1).trans rfl
     by_cases hlt:(n:Int)<b1.length
     case pos =>
      have hk2:n<b1.length:=by omega
      obtain ⟨b,off,rfl,hbl,hce⟩:=zcv (W:=fun o r=>wr.setB b5 o) (fun o r=>(HJ.out.all hb5 o).2.2.2.2.2.2) hk2 (.cells #[] 0) (.cells #[] 0)
      rw [zd] at hbl
      have hce:=fun o=>hce o (.cells #[] 0)
      have hsn:=zgc a1 (b1.take n) b1[n]
      rw [<- List.take_succ_eq_append_getElem hk2] at hsn
      have HSN:=Hd hsn
      clear hsn
      generalize b1[n]=key at hce HSN
      have hjl:=zc4 (b1.take n) a1
      rw [List.length_take] at hjl
      generalize zak a1 (b1.take n)=cur at HJ HSN hjl ⊢
      (try simp only []);repeat (first|go_skip|go_guarded|go_step|go_upon|go_back)
      (first|refine zk (id:=1) [(1,true),(2,true),(5,true),(6,true)] 10 (by kernel_rfl) (by kernel_rfl) ?_|refine zk (id:=5) [(0,true),(1,true),(2,true),(3,true),(4,true),(5,true),(6,true),(7,false),(8,false),(9,false)] 8 (by kernel_rfl) (by kernel_rfl) ?_|refine zk (id:=9) [(0,true),(1,true),(2,true),(3,true),(4,true),(5,true),(6,true),(7,false),(8,false),(9,false)] 8 (by kernel_rfl) (by kernel_rfl) ?_)
      repeat (first|(refine zq rfl (fun K hK=>?_);go_simp;(try simp (disch:=omega) only [IntWalk.i64_in,Int.tmod_eq_emod_of_nonneg,Int.tdiv_eq_ediv_of_nonneg]);refine hK _ ?_;clear hK K)|(refine zo rfl (fun K hK=>?_);go_simp;go_at_call 22;refine (zaS _ cur key _ (by first|exact (HJ.out.all hb5 _).2.2.2.2.1|exact RdL.drew (HJ.out.all hb5 _).2.2.2.2.1) (by omega)).mono ?_;rintro e w' ⟨v',rfl,ho,hb⟩;obtain ⟨X,rfl⟩:=hb.ext;obtain ⟨f0,g0,rfl⟩:=ho.rd.form;have HO:=Hd ho.rd;have HF:=Hd (fun k hk=>(ho.lt k hk).1);clear ho hb;(try go_simp);refine hK _ _ (by show Sx _ _;(try simp only [<- Array.append_assoc]);repeat (first|with_reducible exact Sx.drew _|with_reducible exact Sx.same _ _ _ _|with_reducible exact ⟨_,rfl⟩|with_reducible apply Sx.more|with_reducible apply Sx.ext|with_reducible apply Sx.alloc|with_reducible apply zL|with_reducible exact Sx.refl _)) ?_;clear hK K)|(refine zy rfl rfl (fun K hK=>?_);go_simp;refine hK _ _ ?_;clear hK K)|(refine zo rfl (fun K hK=>?_);go_simp;refine hK _ _ (by show Sx _ _;(try simp only [<- Array.append_assoc]);repeat (first|with_reducible exact Sx.drew _|with_reducible exact Sx.same _ _ _ _|with_reducible exact ⟨_,rfl⟩|with_reducible apply Sx.more|with_reducible apply Sx.ext|with_reducible apply Sx.alloc|with_reducible apply zL|with_reducible exact Sx.refl _)) ?_;clear hK K))
      refine zX ?_
      have hy:=HO.out
      clear HO
      (try simp only [zm,zA,Array.append_assoc] at hy)
      have HN:=Hd (JL.laid HJ.out hb5 ((HJ.out.all hb5 _).2.2.2.1.ext X) hy HJ.out.ry.2 (fun k hk=>by have h1:=HF.out k hk;have h2:=HJ.out.bel.size;simp [zd] at h1;omega))
      clear hy
      (try simp only []);repeat (first|go_skip|go_guarded|go_step|go_upon|go_back)
      go_roundw
      case rel=>exact ⟨n+1,f0,g0,by go_num,by omega,by rw [HSN.out];exact HN.out⟩
      case measure=>simp [intOf];omega
     case neg =>
      have e:n=b1.length:=by omega
      subst e
      rw [List.take_length] at HJ ⊢
      have p2:∀ o,(wr.setB b5 o).heap[w.heap.size+1+1]?=some (.cells #[.slice none 0 0,.slice none 0 0] 27 (0,0)):=fun o=>(HJ.out.all hb5 o).2.2.1
      generalize hJ1:zak a1 b1=c1 at HJ ⊢
      have ew:=zi (p2 (.cells #[.slice e0 c0.length d0,.slice e1 c1.length d1] 27 (0,0)))
      rw [<- ew]
      clear ew
      have y3:w.heap.size+1+1<(wr.setB b5 (.cells #[.slice e0 c0.length d0,.slice e1 c1.length d1] 27 (0,0))).heap.size:=by rw [zd];exact y2
      have n1:¬ b5=w.heap.size+1+1:=by omega
      have n2:¬ w.heap.size+1+1=b5:=by omega
      have HE:Hid (∀ o,RdF w.heap.size ((wr.setB b5 (.cells #[.slice e0 c0.length d0,.slice e1 c1.length d1] 27 (0,0))).setB (w.heap.size+1+1) o) (.slice e0 c0.length d0) c0/\RdF w.heap.size ((wr.setB b5 (.cells #[.slice e0 c0.length d0,.slice e1 c1.length d1] 27 (0,0))).setB (w.heap.size+1+1) o) (.slice e1 c1.length d1) c1/\Below w.heap.size w ((wr.setB b5 (.cells #[.slice e0 c0.length d0,.slice e1 c1.length d1] 27 (0,0))).setB (w.heap.size+1+1) o)):=fun o=>⟨⟨zaz (ze _) (HJ.out.all hb5 _).2.2.2.1 (p2 _) zbA o,HJ.out.ry.2⟩,⟨zaz (ze _) (HJ.out.all hb5 _).2.2.2.2.1 (p2 _) zbA o,HJ.out.rz.2⟩,zp (HJ.out.all hb5 _).1 (by omega) o⟩
      clear HJ p2
      (try simp only []);repeat (first|go_skip|go_guarded|go_step|go_upon|go_back)
      refine bodyPost_ret (by simp [results,Tryz.results54,go_sem,y2,n1,n2];rfl) rfl ?_
      subst hJ0
      subst hJ1
      exact ⟨_,_,rfl,(HE.out _).1,(HE.out _).2.1,(HE.out _).2.2⟩
theorem zfV (va0 va1 vb0 vb1:Value) (a0 a1 b0 b1:List ByteArray) (w:World) (h0:RdL zH w va0 a0) (h1:RdL zH w va1 a1) (g0:RdL zH w vb0 b0) (g1:RdL zH w vb1 b1) (hl0:a0.length+b0.length<=1099511627776) (hl1:a1.length+b1.length<=1099511627776) :
  Calls Tryz.prog 54 #[.agg #[va0,va1],.agg #[vb0,vb1]] w fun e w'=>∃ v0 v1,e=.returned (.agg #[v0,v1])/\RdL zH w' v0 (zak a0 b0)/\RdL zH w' v1 (zak a1 b1)/\Below w.heap.size w w':=(zc0 va0 va1 vb0 vb1 a0 a1 b0 b1 w h0 h1 g0 g1 hl0 hl1).mono fun e w' ⟨v0,v1,e,r0,r1,hb⟩=>⟨v0,v1,e,r0.1,r1.1,hb⟩
def zbD:RowOf AnswerD:=⟨AnswerD.row,3,fun _=>rfl,fun d u hu=>by simp [AnswerD.row] at hu;rcases hu with rfl|rfl|rfl<;>rfl⟩
def zdc (k:Nat):List Value:=(List.replicate k [Value.int .i64 0,.int .i64 0,.string ⟨#[]⟩]).flatten
theorem zgh (k:Nat):(zdc k).length=k*3:=by
 unfold zdc
 induction k with
 | zero=>rfl
 | succ k ih=>rw [List.replicate_succ,List.flatten_cons,List.length_append,ih];simp;omega
structure AnsIn (w:World) (B g cap:Nat) (xs:List AnswerD):Prop where
 base:B<=g
 le:xs.length<=cap
 mx:cap<=maxLen
 at_:w.heap[g]?=some (.cells (xs.flatMap zbD.row++zdc (cap - xs.length)).toArray 59 (0,0))
theorem AnsIn.rd {w:World} {B g cap:Nat} {xs:List AnswerD} (h:AnsIn w B g cap xs):RdL zbD w (.slice (some ⟨g,0,none⟩) xs.length cap) xs:=by
 refine .inr ⟨g,0,cap,rfl,h.le,h.mx,fun j u hj=>?_⟩
 rw [zg h.at_]
 rw [Nat.zero_add,List.getElem?_toArray,List.getElem?_append_left (List.getElem?_eq_some_iff.1 hj).1]
 exact hj
theorem AnsIn.below {w w':World} {B g cap:Nat} {xs:List AnswerD} (h:AnsIn w B g cap xs) (hb:Below w.heap.size w w'):AnsIn w' B g cap xs :=
 ⟨h.base,h.le,h.mx,(Grew.below hb g (zb h.at_)).trans h.at_⟩
theorem AnsIn.setB {w:World} {B g cap:Nat} {xs:List AnswerD} (h:AnsIn w B g cap xs) {p:Nat} (hp:g ≠ p) (o:Obj):AnsIn (w.setB p o) B g cap xs :=
 ⟨h.base,h.le,h.mx,(World.setB_get _ _ _ _ hp).trans h.at_⟩
theorem zgi:∀ (k i:Nat) (u:Value),(zdc k)[i]?=some u->(i % 3 ≠ 2/\u=.int .i64 0) ∨ (i % 3=2/\u=.string ⟨#[]⟩)
 | 0,i,u,h=>by simp [zdc] at h
 | k+1,i,u,h=>by
  have e:zdc (k+1) = [Value.int .i64 0,.int .i64 0,.string ⟨#[]⟩]++zdc k:=by unfold zdc;rw [List.replicate_succ,List.flatten_cons]
  rw [e] at h
  by_cases hi:i<3
  ·rw [List.getElem?_append_left hi] at h
   have:i=0 ∨ i=1 ∨ i=2:=by omega
   rcases this with rfl|rfl|rfl<;>simp at h<;>subst h
   ·exact .inl ⟨by decide,rfl⟩
   ·exact .inl ⟨by decide,rfl⟩
   ·exact .inr ⟨rfl,rfl⟩
  ·rw [List.getElem?_append_right (by simp;omega)] at h
   have ih:=zgi k (i - 3) u (by simpa using h)
   have e2:(i - 3) % 3=i % 3:=by omega
   rwa [e2] at ih
theorem za3 (xs:List AnswerD):(xs.flatMap zbD.row).length=xs.length*3:=zbD.flat_len xs
theorem zi7 (k:Nat):zdc (k+1) = [Value.int .i64 0,.int .i64 0,.string ⟨#[]⟩]++zdc k:=by unfold zdc;rw [List.replicate_succ,List.flatten_cons]
theorem zim {xs:List AnswerD} {x:AnswerD} {k i:Nat} {u:Value} (h:(xs.flatMap zbD.row++zdc (k+1))[i]?=some u):((xs ++ [x]).flatMap zbD.row++zdc k)[i]?=some u ∨ (xs.length*3<=i/\((i % 3 ≠ 2/\u=.int .i64 0) ∨ (i % 3=2/\u=.string ⟨#[]⟩))):=by
 by_cases hi:i<xs.length*3
 ·left
  rw [List.getElem?_append_left (by rw [za3];exact hi)] at h
  rw [List.flatMap_append,List.append_assoc,List.getElem?_append_left (by rw [za3];exact hi)]
  exact h
 ·right
  refine ⟨by omega,?_⟩
  rw [List.getElem?_append_right (by rw [za3];omega),za3] at h
  have h2:=zgi _ _ _ h
  have e:(i - xs.length*3) % 3=i % 3:=by omega
  rwa [e] at h2
theorem rd_upd {α : Type} {R:RowOf α} {w w':World} {v:Value} {ys:List α} {g:Nat} {t:TypeId} {xs:List AnswerD} {x:AnswerD} {k:Nat} (h:RdL R w v ys) (hg:w.grownBy w' (some g))
  (ho:w.heap[g]?=some (.cells (xs.flatMap zbD.row++zdc (k+1)).toArray t (0,0))) (hn:w'.heap[g]?=some (.cells ((xs ++ [x]).flatMap zbD.row++zdc k).toArray t (0,0)))
  (hk:∀ off,(∀ j u,(ys.flatMap R.row)[j]?=some u->(xs.flatMap zbD.row++zdc (k+1))[off+j]?=some u)->∀ j u,(ys.flatMap R.row)[j]?=some u->¬ (xs.length*3<=off+j/\(((off+j) % 3 ≠ 2/\u=.int .i64 0) ∨ ((off+j) % 3=2/\u=.string ⟨#[]⟩)))):RdL R w' v ys:=by
 rcases h with h|⟨b,off,cap,hv,h1,h2,h3⟩
 ·exact .inl h
 ·refine .inr ⟨b,off,cap,hv,h1,h2,fun j u hj=>?_⟩
  have hc:=h3 j u hj
  by_cases hb:b=g
  ·subst hb
   have h3':∀ j u,(ys.flatMap R.row)[j]?=some u->(xs.flatMap zbD.row++zdc (k+1))[off+j]?=some u:=fun j u hj=>by
    have:=h3 j u hj
    rw [zg ho] at this
    simpa using this
   rw [zg hn]
   rcases zim (x:=x) (h3' j u hj) with hs|hs
   ·simpa using hs
   ·exact absurd hs (hk off h3' j u hj)
  ·have hlt:b<w.heap.size:=by
    unfold World.cell? at hc
    cases hw:w.heap[b]? with
    | none=>simp [hw] at hc
    | some o=>exact zb hw
   rw [World.cell?_of_block (w:=w) (w':=w') (a:=⟨b,off+j,none⟩) (hg.block b hlt (by simpa using hb))]
   exact hc
theorem rd_updS {w w':World} {v:Value} {ys:List ByteArray} {g:Nat} {t:TypeId} {xs:List AnswerD} {x:AnswerD} {k:Nat} (hn0:∀ s ∈ ys,s.size ≠ 0) (h:RdL zH w v ys) (hg:w.grownBy w' (some g))
  (ho:w.heap[g]?=some (.cells (xs.flatMap zbD.row++zdc (k+1)).toArray t (0,0))) (hn:w'.heap[g]?=some (.cells ((xs ++ [x]).flatMap zbD.row++zdc k).toArray t (0,0))):RdL zH w' v ys:=by
 refine rd_upd h hg ho hn fun off _ j u hj=>?_
 rintro ⟨_,⟨_,rfl⟩|⟨_,rfl⟩⟩
 ·obtain ⟨s,hs⟩:=ze ys _ (List.mem_of_getElem? hj)
  cases hs
 ·obtain ⟨s,hs,hu⟩:=List.mem_flatMap.1 (List.mem_of_getElem? hj)
  simp [zH] at hu
  exact hn0 s hs (by rw [<- hu];rfl)
theorem rd_updC {w w':World} {v:Value} {ys:List CellD} {g:Nat} {t:TypeId} {xs:List AnswerD} {x:AnswerD} {k:Nat} (h:RdL zE w v ys) (hg:w.grownBy w' (some g))
  (ho:w.heap[g]?=some (.cells (xs.flatMap zbD.row++zdc (k+1)).toArray t (0,0))) (hn:w'.heap[g]?=some (.cells ((xs ++ [x]).flatMap zbD.row++zdc k).toArray t (0,0))):RdL zE w' v ys:=by
 have hlen:(ys.flatMap zE.row).length=ys.length*2:=zE.flat_len ys
 refine rd_upd h hg ho hn fun off h3 j u hj=>?_
 rintro ⟨hge,hh⟩
 have hst:=fun j u (hj:(ys.flatMap zE.row)[j]?=some u)=>zh ys _ (List.mem_of_getElem? hj)
 rcases hh with ⟨_,rfl⟩|⟨hm,_⟩
 ·obtain ⟨s,hs⟩:=hst _ _ hj
  cases hs
 ·have hjl:=(List.getElem?_eq_some_iff.1 hj).1
  have other:∀ i u,(ys.flatMap zE.row)[i]?=some u->xs.length*3<=off+i->(off+i) % 3=2:=fun i u hi hgi=>by
   rcases zim (x:=x) (h3 i u hi) with _|⟨_,h5⟩
   ·have h6:=h3 i u hi
    rw [List.getElem?_append_right (by rw [za3];omega),za3] at h6
    rcases zgi _ _ _ h6 with ⟨_,rfl⟩|⟨h7,_⟩
    ·obtain ⟨s,hs⟩:=hst _ _ hi
     cases hs
    ·omega
   ·rcases h5 with ⟨_,rfl⟩|⟨h7,_⟩
    ·obtain ⟨s,hs⟩:=hst _ _ hi
     cases hs
    ·exact h7
  by_cases hp:j % 2=0
  ·have hj1:j+1<(ys.flatMap zE.row).length:=by omega
   have:=other (j+1) _ (List.getElem?_eq_getElem hj1) (by omega)
   omega
  ·have hj1:j - 1<(ys.flatMap zE.row).length:=by omega
   by_cases hg2:xs.length*3<=off+(j - 1)
   ·have:=other (j - 1) _ (List.getElem?_eq_getElem hj1) hg2
    omega
   ·omega
structure Keeps (w w':World) (g:Nat):Prop where
 grown:w.grownBy w' (some g)
 strs:∀ v ys,(∀ s ∈ ys,s.size ≠ 0)->RdL zH w v ys->RdL zH w' v ys
 cells:∀ v ys,RdL zE w v ys->RdL zE w' v ys
theorem Tryz.elemAnsQ:Elem Tryz.prog 33 59 3 32:=Elem.of (.agg #[.int .i64 0,.int .i64 0,.string ⟨#[]⟩]) Tryz.underlying33 (by kernel_rfl) rfl (by decide)
theorem Tryz.zeroAns:(Tryz.prog.info? 59).map (·.zero)=some (some (.agg #[.int .i64 0,.int .i64 0,.string ⟨#[]⟩])):=by kernel_rfl
theorem zgg (n:Nat):(Builtin.zeroCells (Value.agg #[.int .i64 0,.int .i64 0,.string ⟨#[]⟩]).cells n).toList=zdc n:=by
 apply List.ext_getElem?
 intro i
 have hc:(Value.agg #[.int .i64 0,.int .i64 0,.string ⟨#[]⟩]).cells=#[.int .i64 0,.int .i64 0,.string ⟨#[]⟩]:=rfl
 rw [hc]
 unfold Builtin.zeroCells
 by_cases hi:i<n*3
 ·have h1:i<(zdc n).length:=by rw [zgh];exact hi
  rw [List.getElem?_eq_getElem h1]
  have h2:=zgi n i _ (List.getElem?_eq_getElem h1)
  have hm:i % 3=0 ∨ i % 3=1 ∨ i % 3=2:=by omega
  rcases h2 with ⟨h3,h4⟩|⟨h3,h4⟩
  ·rw [h4]
   rcases hm with hm|hm|hm
   ·simp [hi,hm]
   ·simp [hi,hm]
   ·exact absurd hm h3
  ·rw [h4]
   simp [hi,h3]
 ·rw [List.getElem?_eq_none (show (zdc n).length<=i by rw [zgh];omega)]
  rw [List.getElem?_eq_none]
  simp
  omega
theorem zjY {w:World} {B g cap:Nat} {xs:List AnswerD} {ty:TypeId} (h:AnsIn w B g cap xs) (x:AnswerD) {v:Value} (hx:RdL zbD w v [x]) (hl:(xs.length+1)*32<=140737488355328) (hB:B<=w.heap.size) :
  ∃ g' cap' w',(Builtin.append_ #[33,33] ty #[.slice (some ⟨g,0,none⟩) xs.length cap,v]).run Tryz.prog w=.ok (.slice (some ⟨g',0,none⟩) (xs.length+1) cap') w'/\AnsIn w' B g' cap' (xs ++ [x])/\Keeps w w' g:=by
 have E:=Tryz.elemAnsQ
 obtain ⟨i,z,hi,hz,hs,hby,hzs⟩:=E.hi
 have hze:z=.agg #[.int .i64 0,.int .i64 0,.string ⟨#[]⟩]:=by
  have:=Tryz.zeroAns
  rw [hi] at this
  simp only [Option.map_some,Option.some.injEq] at this
  rw [hz] at this
  exact Option.some.inj this
 subst hze
 have hxl:([x].flatMap zbD.row).length=1*i.size:=by rw [hs];rfl
 have hbx:=hx
 rcases hx with ⟨_,h1,_⟩|⟨b,off,c,rfl,_,_,hc⟩
 ·cases h1
 have hnews:∀ j u,([x].flatMap zbD.row)[j]?=some u->w.cell? ((⟨b,off,none⟩ : Addr).add j)=some u:=fun j u hj=>by rw [zbQ];exact hc j u hj
 have hfl:=za3 xs
 by_cases hroom:xs.length+1<=cap
 ·obtain ⟨k,hk⟩ : ∃ k,cap - xs.length=k+1:=⟨cap - xs.length - 1,by omega⟩
  have hat:=h.at_
  rw [hk] at hat
  have hsz:(xs.flatMap zbD.row++zdc (k+1)).toArray.size=xs.length*3+(k+1)*3:=by
   rw [List.size_toArray,List.length_append,hfl,zgh]
  have hr:=run_append_room (P:=Tryz.prog) w 33 ty 59 i E.ht hi g xs.length cap _ hat ⟨b,off,none⟩ 1 c ([x].flatMap zbD.row) hxl hnews (zbD.flat_one [x]) hroom (by rw [hsz,hxl,hs];omega)
  have hcur:((xs.flatMap zbD.row++zdc (k+1)).toArray.toList.take (xs.length*i.size) ++ [x].flatMap zbD.row++(xs.flatMap zbD.row++zdc (k+1)).toArray.toList.drop (xs.length*i.size+([x].flatMap zbD.row).length))=(xs ++ [x]).flatMap zbD.row++zdc k:=by
   rw [hxl,hs,zi7]
   have e1:xs.length*3=(xs.flatMap zbD.row).length:=hfl.symm
   have e3:([Value.int .i64 0,.int .i64 0,.string ⟨#[]⟩]:List Value).length=1*3:=rfl
   rw [List.flatMap_append,e1,List.take_left,<- List.append_assoc (xs.flatMap zbD.row),List.drop_left' (by rw [List.length_append,e3])]
  rw [hcur] at hr
  have hn:=setRow_heap w g (xs.flatMap zbD.row++zdc (k+1)).toArray ((xs ++ [x]).flatMap zbD.row++zdc k).toArray 59 (0,0) hat
  have hgr:w.grownBy (w.setRow g ((xs ++ [x]).flatMap zbD.row++zdc k).toArray) (some g):=by
   refine ⟨rfl,rfl,rfl,by simp [World.setRow],fun j hj hne=>?_⟩
   have:g ≠ j:=fun e=>hne (by rw [e])
   simp [World.setRow,Array.getElem?_modify,this]
  refine ⟨g,cap,_,hr,⟨h.base,by simp;omega,h.mx,?_⟩,⟨hgr,fun v ys hn0 hv=>rd_updS hn0 hv hgr hat hn,fun v ys hv=>rd_updC hv hgr hat hn⟩⟩
  have e2:cap - (xs ++ [x]).length=k:=by simp;omega
  rw [e2]
  exact hn
 ·have hcap:cap=xs.length:=by have:=h.le;omega
  have holds:∀ j u,(xs.flatMap zbD.row)[j]?=some u->w.cell? ((⟨g,0,none⟩ : Addr).add j)=some u:=fun j u hj=>by
   rw [zbQ,zg h.at_]
   rw [Nat.zero_add,List.getElem?_toArray,List.getElem?_append_left (List.getElem?_eq_some_iff.1 hj).1]
   exact hj
  have hr:=run_append_grow (P:=Tryz.prog) w 33 ty 59 i _ E.ht hi hz ⟨g,0,none⟩ xs.length cap (xs.flatMap zbD.row) (by rw [hfl,hs]) holds ⟨b,off,none⟩ 1 c ([x].flatMap zbD.row) hxl hnews (by omega) (by omega) (growslice_fits (by omega) (by rw [hby];omega))
  have hge:=grownCap_ge w (xs.length+1) cap 59
  have hmx:=grownCap_le_maxLen w (xs.length+1) cap 59 (by unfold maxLen;omega)
  generalize grownCap w (xs.length+1) cap 59=cap' at hr hge hmx
  have hA:(xs.flatMap zbD.row).toArray++([x].flatMap zbD.row).toArray++Builtin.zeroCells (Value.agg #[.int .i64 0,.int .i64 0,.string ⟨#[]⟩]).cells (cap' - (xs.length+1))=((xs ++ [x]).flatMap zbD.row++zdc (cap' - (xs ++ [x]).length)).toArray:=by
   apply Array.toList_inj.1
   rw [Array.toList_append,Array.toList_append,zgg,List.flatMap_append,List.length_append,List.length_singleton]
  rw [hA] at hr
  have hb:Below w.heap.size w (w.drew.alloc (.cells ((xs ++ [x]).flatMap zbD.row++zdc (cap' - (xs ++ [x]).length)).toArray 59)):=Below.ofAlloc (Below.drew (Below.refl _ _)) _
  have hn:=heap_alloc_new w.drew (.cells ((xs ++ [x]).flatMap zbD.row++zdc (cap' - (xs ++ [x]).length)).toArray 59)
  have hle:(xs ++ [x]).length<=cap':=by rw [List.length_append,List.length_singleton];exact hge
  exact ⟨w.heap.size,cap',_,hr,⟨hB,hle,hmx,hn⟩,⟨⟨hb.os,hb.tape,hb.output,hb.size,fun j hj _=>hb.block j hj⟩,fun v ys _ hv=>hv.below hb,fun v ys hv=>hv.below hb⟩⟩
theorem ziu {w:World} {B g cap:Nat} {xs:List AnswerD} {ops:Array Oper} {rest:List Oper} {o:Oper} {a:Act} {Q:Exit->Act->World->Prop} (hgd:o.guard=none) (s x:Operand)
  (ho:o.op=.call { callee:=.builtin .append,args:=#[s,x],argTypes:=#[33,33] }) (h:AnsIn w B g cap xs) (hs:a.eval s=.slice (some ⟨g,0,none⟩) xs.length cap)
  {vx:Value} {y:AnswerD} (hx:RdL zbD w vx [y]) (hvx:a.eval x=vx) (hl:(xs.length+1)*32<=140737488355328) (hB:B<=w.heap.size)
  (hk:∀ g' cap' w',AnsIn w' B g' cap' (xs ++ [y])->Keeps w w' g->wpList Tryz.prog ops Q rest (a.put o.dst (.slice (some ⟨g',0,none⟩) (xs.length+1) cap')) w'):wpList Tryz.prog ops Q (o :: rest) a w:=by
 refine wpList_plain hgd fun K hK=>?_
 obtain ⟨g',cap',w',hr,h2,h3⟩:=zjY (ty:=o.type) h y hx hl hB
 unfold Oper.wp execOp
 simp only [ho,resolve,invoke,builtin,Sem.run_bind,Sem.run_pure,Result.andThen_ok,List.map_toArray,List.map_cons,List.map_nil,hs,hvx,hr]
 exact hK _ _ (hk g' cap' w' h2 h3)
def older (x y:TxR):Bool:=decide (x.age<y.age) || (decide (x.age=y.age) && decide (x.id<y.id))
theorem zie (v:Value) (n:Nat) (cs:List Value) (w:World) (hs:Sl w v n cs):Calls Tryz.prog 4 #[v] w fun e w'=>e=.returned (.bool (decide (1048576<n)))/\w=w':=by
 obtain ⟨ao,cap,rfl,hc1,hc2,hnil,hcell⟩:=hs.shape
 clear hs hnil hcell
 by_cases h:(1048576:Int)<n
 ·have h' : 1048576<n:=by omega
  go_enter Tryz.func4,Tryz.ntmps4
  go_wp2
  go_ret
  exact ⟨by simp [h'],rfl⟩
 ·have h':¬ 1048576<n:=by omega
  go_enter Tryz.func4,Tryz.ntmps4
  go_wp2
  go_ret
  exact ⟨by simp [h'],rfl⟩
theorem _root_.Go.OwnB.setB {e:TypeId} {w:World} {B:Nat} {v:Value} {l:List UInt8} (h:OwnB e w B v l) {p:Nat} (hp:v.ownBlock ≠ some p) (o:Obj):OwnB e (w.setB p o) B v l:=by
 rcases h with hn|⟨g,cap,cur,fz,rfl,h1,h2,rest⟩
 ·exact .inl hn
 ·exact .inr ⟨g,cap,cur,fz,rfl,h1,(World.setB_get w p o g (fun e=>hp (by simp [Value.ownBlock,e]))).trans h2,rest⟩
theorem _root_.Go.OwnB.got {e:TypeId} {w w':World} {B:Nat} {v:Value} {l:List UInt8} {p:Nat} {o:Obj} (h:OwnB e w B v l) (g:Got p w o w') (hp:v.ownBlock ≠ some p):OwnB e w' B v l:=by
 obtain ⟨X,rfl⟩:=g
 exact (h.setB hp o).ext X
theorem Got.appB {e:TypeId} {w w1 w2:World} {v:Value} {l:List UInt8} {p:Nat} {o:Obj} (h:Got p w o w1) (hg:w1.grownBy w2 v.ownBlock) (ho:OwnB e w1 w.heap.size v l):Got p w o w2:=by
 obtain ⟨X,rfl⟩:=h
 have ho':OwnB e ((w.setB p o).ext X) (w.setB p o).heap.size v l:=by rw [zd];exact ho
 exact (RowKit.Below.appB (a:=w.setB p o) ((Below.refl _ _).ofExt X) hg ho').ext
theorem u8_in (x:Int) (h0 : 0<=x) (h1:x<=255):IntKind.u8.wrap x=x:=by
 unfold IntKind.wrap
 simp [IntKind.bits,IntKind.signed]
 omega
theorem zcZ (p:Nat) (vb:Value) (bs:List UInt8) (i h n:Int) (w:World) (hc:Cur w p vb bs i h) (hn:n<=4294967296) :
  Calls Tryz.prog 10 #[.pointer (some ⟨p,0,none⟩),.int .i64 n] w fun e w'=>∃ b,e=.returned (.bool b)/\zh7 p vb bs w w':=by
 have hp:=hc.lt
 have HC:=Hd hc
 clear hc
 go_enter Tryz.func10,Tryz.ntmps10
 go_wp2_with fail
 (go_at_call 11;refine (zW p vb bs _ _ _ _ HC.out hn).mono ?_;rintro e w' ⟨x,i1,h1,rfl,⟨hx0,_,_⟩,hg,hi0,hi1⟩)
 go_wp2
 go_ret
 exact ⟨_,rfl,⟨i1,h1,hg,hi0,hi1⟩⟩
theorem zg1 (p:Nat) (vb:Value) (bs:List UInt8) (i h:Int) (n:Nat) (w:World) (hc:Cur w p vb bs i h) (hn:n<=5000) :
  Calls Tryz.prog 43 #[.pointer (some ⟨p,0,none⟩),.int .i64 n] w fun e w'=>∃ s,e=.returned (.string s)/\s.size=n/\zh7 p vb bs w w':=by
 have hp:=hc.lt
 have HC:=Hd hc
 clear hc
 go_enter Tryz.func43,Tryz.ntmps43
 go_wp2
 go_loopw [5,6] (fun v k wr=>∃ (m:Nat) (l:List UInt8) (i' h':Int),k=.int .i64 m/\m<=n/\l.length=m/\OwnB 5 wr w.heap.size v l/\Got p w (zaE vb i' h') wr/\0<=i'/\i'<=bs.length) (fun _ k _=>n - (intOf k).toNat)
 case atStart=>exact ⟨0,[],i,h,rfl,by omega,rfl,OwnB.empty _ _,(zcn HC.out.blk).alloc _,HC.out.lo,HC.out.hi⟩
 case round =>
  obtain ⟨m,l,i1,h1,rfl,hm,rfl,ho,hg,hi0,hi1⟩:=hrel
  have hc1:=HC.out.got hg hi0 hi1
  have hvl:=ho.lt
  by_cases hlt:(l.length:Int)<n
  ·obtain ⟨oa,oc,rfl⟩:=ho.form
   have hne:(Value.slice oa l.length oc).ownBlock ≠ some p:=fun e=>by have:=(hvl p e).1;omega
   have HO:=Hd ho
   have HN:=Hd hne
   clear ho hne hvl
   go_wp2_with fail
   (go_at_call 20;refine (zbm p vb bs _ _ _ hc1).mono ?_;rintro e w2 ⟨x,i2,h2,rfl,hx0,hx1,hg2,hj0,hj1⟩)
   have ho2:=HO.out.got hg2 HN.out
   have hgg:=hg.then hg2 hp
   have hz:=hgg.size
   have hw8:=u8_in x hx0 hx1
   obtain ⟨k,rfl⟩:=Int.eq_ofNat_of_zero_le hx0
   have hkc:(k:Int)=((UInt8.ofNat k).toNat:Int):=by simp;omega
   have HO2:=Hd ho2
   have HKC:=Hd hkc
   clear ho2 hkc
   go_wp2_with (at_builtin;refine zP ?_)
   refine zdD _ zbK rfl (.tmp 15) (.tmp 19) rfl (B:=w.heap.size) (l:=l) (m:=[UInt8.ofNat k]) (HO2.out.alloc _) rfl (zh6 _ (UInt8.ofNat k) k HKC.out _ _ rfl) rfl (by simp;omega) (by simp;omega) ?_
   intro v4 w4 hown4 hgr4
   have hg4:Got p w _ w4:=Got.appB (hgg.alloc _) hgr4 (HO2.out.alloc _)
   clear hgr4
   go_wp2
   go_roundw
   case rel=>exact ⟨l.length+1,_,i2,h2,by go_num,by omega,by simp,hown4,hg4,hj0,hj1⟩
   case measure=>simp [intOf];omega
  ·have e:l.length=n:=by omega
   subst e
   have hcv:=zbz (P:=Tryz.prog) wr zbK Tryz.underlying9 ho.sl
   obtain ⟨oa,oc,rfl⟩:=ho.form
   clear ho hvl
   go_wp2
   go_ret
   exact ⟨_,rfl,zaj l,⟨i1,h1,hg,hi0,hi1⟩⟩
theorem zgr (p:Nat) (vb:Value) (bs:List UInt8) (i h m:Int) (w:World) (hc:Cur w p vb bs i h) (h0 : 0<=m) (h1:m<=5000) :
  Calls Tryz.prog 43 #[.pointer (some ⟨p,0,none⟩),.int .i64 m] w fun e w'=>∃ s,e=.returned (.string s)/\(s.size:Int)=m/\zh7 p vb bs w w':=by
 obtain ⟨n,rfl⟩:=Int.eq_ofNat_of_zero_le h0
 refine (zg1 p vb bs i h n w hc (by omega)).mono ?_
 rintro e w' ⟨s,rfl,hs,hd⟩
 exact ⟨s,rfl,by omega,hd⟩
end Go.Proofs.YtncnbihlngapbaaGreat
