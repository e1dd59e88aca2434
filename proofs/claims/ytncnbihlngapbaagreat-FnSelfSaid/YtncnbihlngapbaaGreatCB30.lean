/- Texts of this claim, merged: the walks and what they stand on. Each condition stands in its theorem. -/
import Derived.Test.YtncnbihlngapbaaGreatCB29
set_option linter.unusedVariables false
set_option linter.unusedSimpArgs false
set_option maxRecDepth 100000
set_option maxHeartbeats 8000000
namespace Go.Proofs.YtncnbihlngapbaaGreat
open Go.ChangeShapes Go.WideShapes Go.ChangeAt Go.RowKit
theorem zh9 (a b c d e:Int) (a0 a1 a2 a3 a4:Option Addr) (n0 c0 n1 c1 n2 c2 n3 c3 n4 c4:Nat):∀ u ∈ (#[.int .i64 a,.int .i64 b,.int .i64 c,.int .i64 d,.slice a0 n0 c0,.slice a1 n1 c1,.slice a2 n2 c2,.slice a3 n3 c3,.slice a4 n4 c4,.int .i64 e]:Array Value),∀ s,u ≠ .string s:=by
 intro u hu s
 simp at hu
 rcases hu with rfl|rfl|rfl|rfl|rfl|rfl|rfl|rfl|rfl|rfl<;>simp
theorem putS_mem {xs:List ByteArray} {y z:ByteArray} (h:z ∈ zck xs y):z ∈ xs ∨ z=y:=by
 unfold zck at h
 split at h
 ·exact .inl h
 ·rcases List.mem_append.1 h with h|h
  ·exact .inl (List.mem_of_mem_take h)
  ·rcases List.mem_cons.1 h with rfl|h
   ·exact .inr rfl
   ·exact .inl (List.mem_of_mem_drop h)
theorem zfy:∀ (ys xs:List ByteArray) {z:ByteArray},z ∈ zak xs ys->z ∈ xs ∨ z ∈ ys
 | [],xs,z,h=>.inl h
 | y :: ys,xs,z,h=>by
  rcases zfy ys (zck xs y) (show z ∈ zak (zck xs y) ys from h) with h|h
  ·rcases putS_mem h with h|rfl
   ·exact .inl h
   ·exact .inr List.mem_cons_self
  ·exact .inr (List.mem_cons_of_mem _ h)
theorem StoreN.view {k n:Nat} {zs:List CellD} {d:TxD} (h:StoreN k zs) (b:TxB n d) (hk:k+n<=60):zfM (zbb d) ⟨zs,[],[]⟩/\StoreN (k+n) (zcV zs d):=by
 have hs:∀ s ∈ zbb d,zbE s.proc/\zbE s.call.a:=fun s hs=>by
  unfold zbb at hs
  obtain ⟨c,hc,rfl⟩:=List.mem_map.1 hs
  exact ⟨b.proc,(b.calls c hc).in_.1⟩
 have hl:=zfj d
 have hn:=b.ncalls
 refine ⟨Good.fits h (by omega) hs,?_⟩
 have h1:Good (60 - (k+n)+(zbb d).length) ⟨zs,[],[]⟩:=Good.le h (by omega)
 exact (zhw (zbb d) [] h1 hs).fresh
theorem zhz {n:Nat} {d:TxD} (b:TxB n d):∀ s ∈ zbb d,s.fine:=fun s hs=>by
 unfold zbb at hs
 obtain ⟨c,hc,rfl⟩:=List.mem_map.1 hs
 have h:=(b.calls c hc).in_
 exact ⟨(b.calls c hc).ok,b.proc,h.1,h.2⟩
theorem TxB.ask {n:Nat} {d:TxD} (b:TxB n d) {c:CallD} (hc:SmallCall c) {an:AnswerD} (ha:an.ok) {m:MachD} (hr:(m.rd.length<=8589934592/\∀ s ∈ m.rd,s.size<=1048700)/\m.wr.length<=8589934592/\∀ s ∈ m.wr,s.size<=1048700) :
  TxB (n+1) { d with calls:=d.calls ++ [c],answers:=d.answers ++ [an],touch:=⟨zak d.touch.reads m.rd,zak d.touch.writes m.wr⟩ }:=by
 obtain ⟨⟨r1,r2⟩,r3,r4⟩:=hr
 have l1:=zc4 m.rd d.touch.reads
 have l2:=zc4 m.wr d.touch.writes
 have b1:=b.nrd
 have b2:=b.nwr
 refine ⟨fun x hx=>?_,?_,?_,fun x hx=>?_,Nat.le_trans b.nmarks (by omega),?_,?_,fun s hs=>?_,fun s hs=>?_,b.proc⟩
 ·rcases List.mem_append.1 hx with hx|hx
  ·exact b.calls x hx
  ·rw [List.mem_singleton.1 hx];exact hc
 ·have:=b.ncalls;simp;omega
 ·have:=b.nans;simp;omega
 ·rcases List.mem_append.1 hx with hx|hx
  ·exact b.ans x hx
  ·rw [List.mem_singleton.1 hx];exact ha
 ·show (zak _ _).length<=_;omega
 ·show (zak _ _).length<=_;omega
 ·rcases zfy _ _ hs with h|h
  ·exact b.rd s h
  ·exact r2 s h
 ·rcases zfy _ _ hs with h|h
  ·exact b.wr s h
  ·exact r4 s h
structure KA (w:World) (p q B:Nat) (po qo:Obj) (y:TxR) (dd:TxD) (v52 v53:Value) (L:Array Bool) (W:World) (x52 x53:Value):Prop where
 sz:L.size=4
 bel:Below w.heap.size w W
 P:W.heap[p]?=some po
 Q:W.heap[q]?=some qo
 o:TxO W B y dd
 f0:L.getD 0 false=true->x52=v52
 f1:L.getD 1 false=true->x53=v53
section
variable {w:World} {p q B:Nat} {po qo:Obj} {y:TxR} {dd:TxD} {v52 v53:Value} {L:Array Bool} {W W':World} {x52 x53:Value}
theorem KA.grow (h:KA w p q B po qo y dd v52 v53 L W x52 x53) (hb:Below W.heap.size W W'):KA w p q B po qo y dd v52 v53 L W' x52 x53:=by
 have G:=fun {k:Nat} {o:Obj} (hk:W.heap[k]?=some o)=>(Grew.below hb k (zb hk)).trans hk
 refine ⟨h.sz,Below.then h.bel hb,G h.P,G h.Q,h.o.below hb,h.f0,h.f1⟩
theorem KA.set (h:KA w p q B po qo y dd v52 v53 L W x52 x53) {i:Nat} (hi:i<4)  {y52 y53:Value}
  (e0:if i=0 then y52=v52 else y52=x52)
  (e1:if i=1 then y53=v53 else y53=x53) :
  KA w p q B po qo y dd v52 v53 (L.setIfInBounds i true) W y52 y53:=by
 have up:∀ j,L.getD j false=true->(L.setIfInBounds i true).getD j false=true:=fun j hj=>by
  by_cases hx:i=j
  ·subst hx;exact zaN (by have:=h.sz;omega)
  ·rw [zj hx];exact hj
 refine ⟨by rw [Array.size_setIfInBounds];exact h.sz,h.bel,h.P,h.Q,h.o,fun k=>?_,fun k=>?_⟩
 ·by_cases hx:i=0
  ·rwa [if_pos hx] at e0
  ·rw [if_neg hx] at e0;rw [zj hx] at k;rw [e0];exact h.f0 k
 ·by_cases hx:i=1
  ·rwa [if_pos hx] at e1
  ·rw [if_neg hx] at e1;rw [zj hx] at k;rw [e1];exact h.f1 k
theorem KA.setB (h:KA w p q B po qo y dd v52 v53 L W x52 x53) {r:Nat} (h1:r ≠ p) (h2:r ≠ q) (h3:w.heap.size<=r) (h4:r<B) (o:Obj):KA w p q B po qo y dd v52 v53 L (W.setB r o) x52 x53 :=
 ⟨h.sz,zp h.bel h3 o,(World.setB_get _ _ _ _ h1.symm).trans h.P,(World.setB_get _ _ _ _ h2.symm).trans h.Q,h.o.setB h4 o,h.f0,h.f1⟩
end
theorem ziA (v:Value) (zs:List CellD) (k:Nat) (hst:StoreN k zs) (x:TxR) (d:TxD) (n:Nat) (b:TxB n d) (hn:n<=11) (hk:k+n+1<=60) (hs:d.state=1) (c:CallD) (hc:SmallCall c) (w:World) (hz:RdL zE w v zs) (h:TxN w x d) :
  Calls Tryz.prog 38 #[v,x.v,zbk c] w fun e w'=>∃ (y:TxR) (an:Value) (d':TxD),e=.returned (.tuple #[y.v,an])/\TxO w' w.heap.size y d'/\TxB (n+1) d'/\d'.state=1/\d'.id=d.id/\Below w.heap.size w w':=by
 have DC:=Hd (fun W (h:TxN W x d)=>zeG x d W h)
 have hin:=hc.in_
 have hvw:=hst.view b (by omega)
 have DV:=Hd (fun (y:TxR) W (hz:RdL zE W v zs) (h:vTx.rd W y.cells d)=>zg2 v y.cells zs d W hz h (zhz b) (Nat.le_trans (Good.len hst) (by decide)) (by have:=b.ncalls;omega) hvw.1)
 have hfit:(K.doCall d.proc c).fits ⟨zcV zs d,[],[]⟩:=hvw.2.fits (by omega) b.proc hin.1
 have DO:=Hd (fun u W (hu:RdL zE W u (zcV zs d))=>zdI u (zcV zs d) d.proc b.proc.1 b.proc.2 c hc.ok hin.1.1 hin.1.2 hin.2.1 hin.2.2 W hu hfit)
 have HT:=Hd (Good.touch (k:=60 - (k+n+1)) (Good.step (by rw [show 60 - (k+n+1)+1=60 - (k+n) by omega];exact hvw.2) b.proc hin.1 (c:=c)))
 have HA:=Hd (y_doCall d.proc c ⟨zcV zs d,[],[]⟩ hfit)
 have HSM:=Hd (Mp.fits_end hfit)
 clear hfit hvw
 generalize (K.doCall d.proc c).run ⟨zcV zs d,[],[]⟩=R at DO HT HA HSM
 obtain ⟨an,m⟩:=R
 dsimp only at DO HT HA HSM
 have HZ:=Hd hz
 have HX:=Hd h
 clear h hz hin
 obtain ⟨xid,xage,xproc,xbegan,xc,xa,xr,xw,xm,xs⟩:=x
 obtain ⟨az,cz,rfl⟩:=HZ.out.form
 have HC:=Hd hc
 clear hc
 obtain ⟨kd,nm,tn,ca,cb,tx⟩:=c
 obtain ⟨ak,aN,at_⟩:=an
 unfold TxR.v Raw.v zbk at *
 unfold zca at DO
 dsimp only at DC DV DO ⊢
 go_enter Tryz.func38,Tryz.ntmps38
 go_wp2_with fail
 (go_at_call 52;refine (DC.out _ (HX.out.below (by repeat (first|with_reducible exact Below.refl _ _|with_reducible apply Below.ofExt|with_reducible apply Below.ofAlloc|with_reducible apply Below.drew|with_reducible apply Below.ofDrewN|with_reducible assumption|(with_reducible refine Below.setCell ?_ (by first|exact Nat.le_refl _|(simp [go_sem];done)|(simp [go_sem];omega)) _))))).mono ?_;rintro e w1 ⟨y,rfl,ho,hb⟩)
 have O:Hid (TxO w1 (w.heap.size+4) y d):=ho.base (by simp)
 have b1:Below w.heap.size w w1:=Below.then (by repeat (first|with_reducible exact Below.refl _ _|with_reducible apply Below.ofExt|with_reducible apply Below.ofAlloc|with_reducible apply Below.drew|with_reducible apply Below.ofDrewN|with_reducible assumption|(with_reducible refine Below.setCell ?_ (by first|exact Nat.le_refl _|(simp [go_sem];done)|(simp [go_sem];omega)) _))) hb
 have P1:=(hb.block w.heap.size (by first|(simp;done)|(simp;omega))).trans ((Below.heap_alloc _ _ _ (by first|(simp;done)|(simp;omega))).trans ((Below.heap_alloc _ _ _ (by first|(simp;done)|(simp;omega))).trans ((Below.heap_alloc _ _ _ (by first|(simp;done)|(simp;omega))).trans (World.alloc_new _ _))))
 have C1:=(hb.block (w.heap.size+1) (by first|(simp;done)|(simp;omega))).trans ((Below.heap_alloc _ _ _ (by first|(simp;done)|(simp;omega))).trans ((Below.heap_alloc _ _ _ (by first|(simp;done)|(simp;omega))).trans (zcl (by first|(simp;done)|(simp;omega)))))
 have R1:=(hb.block (w.heap.size+1+1) (by first|(simp;done)|(simp;omega))).trans ((Below.heap_alloc _ _ _ (by first|(simp;done)|(simp;omega))).trans (zcl (by first|(simp;done)|(simp;omega))))
 have A1:=(hb.block (w.heap.size+1+1+1) (by first|(simp;done)|(simp;omega))).trans (zcl (by first|(simp;done)|(simp;omega)))
 clear ho hb DC HX
 obtain ⟨yid,yage,yproc,ybegan,⟨ya,yn,yc⟩,⟨za,zn,zc⟩,⟨ra,rn,rc⟩,⟨ta,tn',tc⟩,⟨ma,mn,mc⟩,ys⟩:=y
 obtain rfl:ys=1:=O.out.state.trans hs
 obtain rfl:yproc=d.proc:=O.out.proc
 obtain rfl:yn=d.calls.length:=by
  obtain ⟨a,c,e⟩:=O.out.calls.rd.form
  injection e
 obtain rfl:zn=d.answers.length:=by
  obtain ⟨a,c,e⟩:=O.out.answers.rd.form
  injection e
 obtain rfl:rn=d.touch.reads.length:=by
  obtain ⟨a,c,e⟩:=O.out.tr.form
  injection e
 obtain rfl:tn'=d.touch.writes.length:=by
  obtain ⟨a,c,e⟩:=O.out.tw.form
  injection e
 have l1:=zb A1
 have hcl:¬ (12:Int)<=d.calls.length:=by have:=b.ncalls;omega
 have l0:=zb P1
 rw [<- zi P1]
 clear P1
 dsimp only
 go_wp2_with fail
 refine zb8 (fun W0=>Below w.heap.size w W0/\W0.heap[w.heap.size]?=some _/\W0.heap[w.heap.size+1]?=some _/\W0.heap[w.heap.size+1+1]?=some _/\W0.heap[w.heap.size+1+1+1]?=some _/\TxO W0 (w.heap.size+4) _ d) ⟨zp b1 (Nat.le_refl _) _,World.setB_at _ _ _ l0,(World.setB_get _ _ _ _ (by omega)).trans C1,(World.setB_get _ _ _ _ (by omega)).trans R1,(World.setB_get _ _ _ _ (by omega)).trans A1,O.out.setB (by omega) _⟩ ?_
 rintro w0 ⟨b2,P2,C2,R2,A2,O2⟩
 have O:=Hd O2
 clear O2 b1 C1 R1 A1 l0 l1
 have D1:Hid (∀ W,Below w0.heap.size w0 W->Calls Tryz.prog 53 #[.slice az zs.length cz,.agg #[.int .i64 yid,.int .i64 yage,.int .i64 d.proc,.int .i64 ybegan,.slice ya d.calls.length yc,.slice za d.answers.length zc,.slice ra d.touch.reads.length rc,.slice ta d.touch.writes.length tc,.slice ma mn mc,.int .i64 1]] W fun e w'=>∃ u,e=.returned u/\RdL zE w' u (zcV zs d)/\Below W.heap.size W w'):=Hd (fun W hB=>DV.out ⟨yid,yage,d.proc,ybegan,⟨ya,_,yc⟩,⟨za,_,zc⟩,⟨ra,_,rc⟩,⟨ta,_,tc⟩,⟨ma,mn,mc⟩,1⟩ W (HZ.out.below (Below.then b2 hB)) ((O.out.below hB).vrd b))
 have D2:Hid (∀ W u,RdL zE W u (zcV zs d)->Calls Tryz.prog 28 #[u,.int .i64 d.proc,.agg #[.int .i64 kd,.string nm,.string tn,.int .i64 ca,.int .i64 cb,.string tx]] W fun e w'=>∃ c0 c1 c2,e=.returned (.tuple #[c0,zca ⟨ak,aN,at_⟩,.agg #[c1,c2]])/\(RdL zH w' c1 m.rd/\RdL zH w' c2 m.wr)/\Below W.heap.size W w'):=Hd (fun W u hu=>(DO.out u W hu).mono fun e w' ⟨c0,c1,c2,e1,⟨_,_,_,e2,h0,h1,h2⟩,h3⟩=>by
  cases e2
  exact ⟨c0,c1,c2,e1,⟨h1,h2⟩,h3⟩)
 have HR:Hid (RUp (fun W c d=>RdL zH W c m.rd/\RdL zH W d m.wr)):=Hd (rup_rd HSM.out.rn HSM.out.wn)
 clear DV DO HZ
 refine zaF (fun L a W=>∃ x11 x12 x13 x14 x15 x16 x17 x10 x18 x19 x20 x8 x9 x7,a=⟨#[.slice az zs.length cz,.agg #[.int .i64 xid,.int .i64 xage,.int .i64 xproc,.int .i64 xbegan,.slice xc.a xc.n xc.cap,.slice xa.a xa.n xa.cap,.slice xr.a xr.n xr.cap,.slice xw.a xw.n xw.cap,.slice xm.a xm.n xm.cap,.int .i64 xs],.agg #[.int .i64 kd,.string nm,.string tn,.int .i64 ca,.int .i64 cb,.string tx],undef,.pointer (some ⟨w.heap.size,0,none⟩),.pointer (some ⟨w.heap.size+1,0,none⟩),.pointer (some ⟨w.heap.size+1+1,0,none⟩),.pointer (some ⟨w.heap.size+1+1+1,0,none⟩),x7,x8,x9,.agg #[.int .i64 xid,.int .i64 xage,.int .i64 xproc,.int .i64 xbegan,.slice xc.a xc.n xc.cap,.slice xa.a xa.n xa.cap,.slice xr.a xr.n xr.cap,.slice xw.a xw.n xw.cap,.slice xm.a xm.n xm.cap,.int .i64 xs],.agg #[.int .i64 yid,.int .i64 yage,.int .i64 d.proc,.int .i64 ybegan,.slice ya d.calls.length yc,.slice za d.answers.length zc,.slice ra d.touch.reads.length rc,.slice ta d.touch.writes.length tc,.slice ma mn mc,.int .i64 1],.pointer (some ⟨w.heap.size,9,none⟩),.int .i64 1,.bool false,undef,undef,.pointer (some ⟨w.heap.size,4,none⟩),.slice ya d.calls.length yc,.int .i64 d.calls.length,.bool false,undef,undef,x10,x11,x12,x13,x14,x15,x16,x17,x18,x19,x20,undef,undef,undef,undef,undef,undef,undef,undef,undef,undef,undef,undef,undef,undef,undef,undef,undef,undef,undef],[]⟩/\WJ w0 w.heap.size (.slice az zs.length cz) (.agg #[.int .i64 yid,.int .i64 yage,.int .i64 d.proc,.int .i64 ybegan,.slice ya d.calls.length yc,.slice za d.answers.length zc,.slice ra d.touch.reads.length rc,.slice ta d.touch.writes.length tc,.slice ma mn mc,.int .i64 1]) d.proc ⟨kd,nm,tn,ca,cb,tx⟩ (zcV zs d) ⟨ak,aN,at_⟩ (.cells #[.int .i64 yid,.int .i64 yage,.int .i64 d.proc,.int .i64 ybegan,.slice ya d.calls.length yc,.slice za d.answers.length zc,.slice ra d.touch.reads.length rc,.slice ta d.touch.writes.length tc,.slice ma mn mc,.int .i64 1] 35 (0,0)) (.cells #[.int .i64 kd,.string nm,.string tn,.int .i64 ca,.int .i64 cb,.string tx] 63 (0,0)) (fun W c d=>RdL zH W c m.rd/\RdL zH W d m.wr) L W x11 x12 x13 x14 x15 x16 x17 x10 x18 x19 x20 x8 x9 x7) (by kernel_rfl) ?_ ?_ ?_
 ·have N:∀ j,¬ (Array.replicate 16 false).getD j false=true:=zc3 16
  refine ⟨_,_,_,_,_,_,_,_,_,_,_,_,_,_,rfl,⟨by simp,fun k=>absurd k (N _),fun k=>absurd k (N _),HR.out,by have:=zb A2;omega,Below.drew (Below.refl _ _),P2,C2,fun k=>absurd k (N _),fun k=>absurd k (N _),fun k=>absurd k (N _),fun k=>absurd k (N _),fun k=>absurd k (N _),fun k=>absurd k (N _),fun k=>absurd k (N _),fun k=>absurd k (N _),fun k=>absurd k (N _),fun k=>absurd k (N _),fun k=>absurd k (N _),fun k=>absurd k (N _),fun k=>absurd k (N _),fun k=>absurd k (N _)⟩⟩
 ·rintro L a W i ⟨x11,x12,x13,x14,x15,x16,x17,x10,x18,x19,x20,x8,x9,x7,rfl,H⟩ hi
  have hlt:=zbN hi
  have hun:=zbM hi
  have hW:Hid (∀ j,zbL _ i j=true->L.getD j false=true):=fun j h=>za1 hi h
  have h16:i<16:=hlt
  clear hlt hi
  have hcs:i=0 ∨ i=1 ∨ i=2 ∨ i=3 ∨ i=4 ∨ i=5 ∨ i=6 ∨ i=7 ∨ i=8 ∨ i=9 ∨ i=10 ∨ i=11 ∨ i=12 ∨ i=13 ∨ i=14 ∨ i=15:=by omega
  clear h16
  rcases hcs with rfl|rfl|rfl|rfl|rfl|rfl|rfl|rfl|rfl|rfl|rfl|rfl|rfl|rfl|rfl|rfl
  ·refine zz rfl (fun K hK=>?_)
   go_simp
   refine hK _ _ ⟨_,_,_,_,_,_,_,_,_,_,_,_,_,_,rfl,H.set (i:=0) (by decide) (by decide) (by decide) (by first|(simp;done)|(rw [if_neg (by decide)];rfl)) (by first|(simp;done)|(rw [if_neg (by decide)];rfl)) (by first|(simp;done)|(rw [if_neg (by decide)];rfl)) (by first|(simp;done)|(rw [if_neg (by decide)];rfl)) (by first|(simp;done)|(rw [if_neg (by decide)];rfl)) (by first|(simp;done)|(rw [if_neg (by decide)];rfl)) (by first|(simp;done)|(rw [if_neg (by decide)];rfl)) (by first|(simp;done)|(rw [if_neg (by decide)];rfl)) (by first|(simp;done)|(rw [if_neg (by decide)];rfl)) (by first|(simp;done)|(rw [if_neg (by decide)];rfl)) (by first|(simp;done)|(rw [if_neg (by decide)];rfl)) (by first|(simp;done)|(rw [if_neg (by decide)];rfl)) (by first|(simp;done)|(rw [if_neg (by decide)];rfl)) (by first|(simp;done)|(rw [if_neg (by decide)];rfl))⟩
  ·have hx:=H.X
   have hz:=zb hx
   have p0:W.cell? ⟨w.heap.size,0,none⟩=some (.int .i64 yid):=(zg (i:=0) hx).trans rfl
   have p1:W.cell? ⟨w.heap.size,1,none⟩=some (.int .i64 yage):=(zg (i:=1) hx).trans rfl
   have p2:W.cell? ⟨w.heap.size,2,none⟩=some (.int .i64 d.proc):=(zg (i:=2) hx).trans rfl
   have p3:W.cell? ⟨w.heap.size,3,none⟩=some (.int .i64 ybegan):=(zg (i:=3) hx).trans rfl
   have p4:W.cell? ⟨w.heap.size,4,none⟩=some (.slice ya d.calls.length yc):=(zg (i:=4) hx).trans rfl
   have p5:W.cell? ⟨w.heap.size,5,none⟩=some (.slice za d.answers.length zc):=(zg (i:=5) hx).trans rfl
   have p6:W.cell? ⟨w.heap.size,6,none⟩=some (.slice ra d.touch.reads.length rc):=(zg (i:=6) hx).trans rfl
   have p7:W.cell? ⟨w.heap.size,7,none⟩=some (.slice ta d.touch.writes.length tc):=(zg (i:=7) hx).trans rfl
   have p8:W.cell? ⟨w.heap.size,8,none⟩=some (.slice ma mn mc):=(zg (i:=8) hx).trans rfl
   have p9:W.cell? ⟨w.heap.size,9,none⟩=some (.int .i64 1):=(zg (i:=9) hx).trans rfl
   refine zz rfl (fun K hK=>?_)
   go_simp
   refine hK _ _ ⟨_,_,_,_,_,_,_,_,_,_,_,_,_,_,rfl,H.set (i:=1) (by decide) (by decide) (by decide) (by first|(simp;done)|(rw [if_neg (by decide)];rfl)) (by rw [if_pos rfl]) (by first|(simp;done)|(rw [if_neg (by decide)];rfl)) (by first|(simp;done)|(rw [if_neg (by decide)];rfl)) (by first|(simp;done)|(rw [if_neg (by decide)];rfl)) (by first|(simp;done)|(rw [if_neg (by decide)];rfl)) (by first|(simp;done)|(rw [if_neg (by decide)];rfl)) (by first|(simp;done)|(rw [if_neg (by decide)];rfl)) (by first|(simp;done)|(rw [if_neg (by decide)];rfl)) (by first|(simp;done)|(rw [if_neg (by decide)];rfl)) (by first|(simp;done)|(rw [if_neg (by decide)];rfl)) (by first|(simp;done)|(rw [if_neg (by decide)];rfl)) (by first|(simp;done)|(rw [if_neg (by decide)];rfl)) (by first|(simp;done)|(rw [if_neg (by decide)];rfl))⟩
  ·obtain rfl:=H.f0 (hW.out 0 (by kernel_rfl))
   obtain rfl:=H.f1 (hW.out 1 (by kernel_rfl))
   refine zz rfl (fun K hK=>?_)
   go_simp
   go_at_call 53
   refine (D1.out W H.bel).mono ?_
   rintro e W' ⟨u,rfl,ho,hb⟩
   try go_simp
   refine hK _ _ ⟨_,_,_,_,_,_,_,_,_,_,_,_,_,_,rfl,(H.grow (hb)).set (i:=2) (by decide) (by decide) (by decide) (by first|(simp;done)|(rw [if_neg (by decide)];rfl)) (by first|(simp;done)|(rw [if_neg (by decide)];rfl)) (by rw [if_pos rfl];exact ho) (by first|(simp;done)|(rw [if_neg (by decide)];rfl)) (by first|(simp;done)|(rw [if_neg (by decide)];rfl)) (by first|(simp;done)|(rw [if_neg (by decide)];rfl)) (by first|(simp;done)|(rw [if_neg (by decide)];rfl)) (by first|(simp;done)|(rw [if_neg (by decide)];rfl)) (by first|(simp;done)|(rw [if_neg (by decide)];rfl)) (by first|(simp;done)|(rw [if_neg (by decide)];rfl)) (by first|(simp;done)|(rw [if_neg (by decide)];rfl)) (by first|(simp;done)|(rw [if_neg (by decide)];rfl)) (by first|(simp;done)|(rw [if_neg (by decide)];rfl)) (by first|(simp;done)|(rw [if_neg (by decide)];rfl))⟩
  ·refine zz rfl (fun K hK=>?_)
   go_simp
   refine hK _ _ ⟨_,_,_,_,_,_,_,_,_,_,_,_,_,_,rfl,H.set (i:=3) (by decide) (by decide) (by decide) (by first|(simp;done)|(rw [if_neg (by decide)];rfl)) (by first|(simp;done)|(rw [if_neg (by decide)];rfl)) (by first|(simp;done)|(rw [if_neg (by decide)];rfl)) (by first|(simp;done)|(rw [if_neg (by decide)];rfl)) (by first|(simp;done)|(rw [if_neg (by decide)];rfl)) (by first|(simp;done)|(rw [if_neg (by decide)];rfl)) (by first|(simp;done)|(rw [if_neg (by decide)];rfl)) (by first|(simp;done)|(rw [if_neg (by decide)];rfl)) (by first|(simp;done)|(rw [if_neg (by decide)];rfl)) (by first|(simp;done)|(rw [if_neg (by decide)];rfl)) (by first|(simp;done)|(rw [if_neg (by decide)];rfl)) (by first|(simp;done)|(rw [if_neg (by decide)];rfl)) (by first|(simp;done)|(rw [if_neg (by decide)];rfl)) (by first|(simp;done)|(rw [if_neg (by decide)];rfl))⟩
  ·obtain rfl:=H.f3 (hW.out 3 (by kernel_rfl))
   have hx:=H.X
   have hz:=zb hx
   have p2:W.cell? ⟨w.heap.size,2,none⟩=some (.int .i64 d.proc):=(zg (i:=2) hx).trans rfl
   refine zz rfl (fun K hK=>?_)
   go_simp
   refine hK _ _ ⟨_,_,_,_,_,_,_,_,_,_,_,_,_,_,rfl,H.set (i:=4) (by decide) (by decide) (by decide) (by first|(simp;done)|(rw [if_neg (by decide)];rfl)) (by first|(simp;done)|(rw [if_neg (by decide)];rfl)) (by first|(simp;done)|(rw [if_neg (by decide)];rfl)) (by first|(simp;done)|(rw [if_neg (by decide)];rfl)) (by first|(simp;done)|(rw [if_neg (by decide)];rfl)) (by first|(simp;done)|(rw [if_neg (by decide)];rfl)) (by first|(simp;done)|(rw [if_neg (by decide)];rfl)) (by first|(simp;done)|(rw [if_neg (by decide)];rfl)) (by first|(simp;done)|(rw [if_neg (by decide)];rfl)) (by first|(simp;done)|(rw [if_neg (by decide)];rfl)) (by first|(simp;done)|(rw [if_neg (by decide)];rfl)) (by first|(simp;done)|(rw [if_neg (by decide)];rfl)) (by first|(simp;done)|(rw [if_neg (by decide)];rfl)) (by first|(simp;done)|(rw [if_neg (by decide)];rfl))⟩
  ·have hx:=H.C
   have hz:=zb hx
   have p0:W.cell? ⟨w.heap.size+1,0,none⟩=some (.int .i64 kd):=(zg (i:=0) hx).trans rfl
   have p1:W.cell? ⟨w.heap.size+1,1,none⟩=some (.string nm):=(zg (i:=1) hx).trans rfl
   have p2:W.cell? ⟨w.heap.size+1,2,none⟩=some (.string tn):=(zg (i:=2) hx).trans rfl
   have p3:W.cell? ⟨w.heap.size+1,3,none⟩=some (.int .i64 ca):=(zg (i:=3) hx).trans rfl
   have p4:W.cell? ⟨w.heap.size+1,4,none⟩=some (.int .i64 cb):=(zg (i:=4) hx).trans rfl
   have p5:W.cell? ⟨w.heap.size+1,5,none⟩=some (.string tx):=(zg (i:=5) hx).trans rfl
   refine zz rfl (fun K hK=>?_)
   go_simp
   refine hK _ _ ⟨_,_,_,_,_,_,_,_,_,_,_,_,_,_,rfl,H.set (i:=5) (by decide) (by decide) (by decide) (by first|(simp;done)|(rw [if_neg (by decide)];rfl)) (by first|(simp;done)|(rw [if_neg (by decide)];rfl)) (by first|(simp;done)|(rw [if_neg (by decide)];rfl)) (by first|(simp;done)|(rw [if_neg (by decide)];rfl)) (by first|(simp;done)|(rw [if_neg (by decide)];rfl)) (by rw [if_pos rfl];rfl) (by first|(simp;done)|(rw [if_neg (by decide)];rfl)) (by first|(simp;done)|(rw [if_neg (by decide)];rfl)) (by first|(simp;done)|(rw [if_neg (by decide)];rfl)) (by first|(simp;done)|(rw [if_neg (by decide)];rfl)) (by first|(simp;done)|(rw [if_neg (by decide)];rfl)) (by first|(simp;done)|(rw [if_neg (by decide)];rfl)) (by first|(simp;done)|(rw [if_neg (by decide)];rfl)) (by first|(simp;done)|(rw [if_neg (by decide)];rfl))⟩
  ·have h2:=H.f2 (hW.out 2 (by kernel_rfl))
   obtain rfl:=H.f4 (hW.out 4 (by kernel_rfl))
   obtain rfl:=H.f5 (hW.out 5 (by kernel_rfl))
   unfold zbk
   refine zz rfl (fun K hK=>?_)
   go_simp
   go_at_call 28
   refine (D2.out W _ h2).mono ?_
   rintro e W' ⟨c0,c1,c2,rfl,hm,hb⟩
   try go_simp
   refine hK _ _ ⟨_,_,_,_,_,_,_,_,_,_,_,_,_,_,rfl,(H.grow (hb)).set (i:=6) (by decide) (by decide) (by decide) (by first|(simp;done)|(rw [if_neg (by decide)];rfl)) (by first|(simp;done)|(rw [if_neg (by decide)];rfl)) (by first|(simp;done)|(rw [if_neg (by decide)];rfl)) (by first|(simp;done)|(rw [if_neg (by decide)];rfl)) (by first|(simp;done)|(rw [if_neg (by decide)];rfl)) (by first|(simp;done)|(rw [if_neg (by decide)];rfl)) (by rw [if_pos rfl];exact ⟨_,_,_,rfl,hm⟩) (by first|(simp;done)|(rw [if_neg (by decide)];rfl)) (by first|(simp;done)|(rw [if_neg (by decide)];rfl)) (by first|(simp;done)|(rw [if_neg (by decide)];rfl)) (by first|(simp;done)|(rw [if_neg (by decide)];rfl)) (by first|(simp;done)|(rw [if_neg (by decide)];rfl)) (by first|(simp;done)|(rw [if_neg (by decide)];rfl)) (by first|(simp;done)|(rw [if_neg (by decide)];rfl))⟩
  ·obtain ⟨c0,c1,c2,e1,hm1⟩:=H.f6 (hW.out 6 (by kernel_rfl))
   rw [e1] at H ⊢
   refine zz rfl (fun K hK=>?_)
   go_simp
   refine hK _ _ ⟨_,_,_,_,_,_,_,_,_,_,_,_,_,_,rfl,H.set (i:=7) (by decide) (by decide) (by decide) (by first|(simp;done)|(rw [if_neg (by decide)];rfl)) (by first|(simp;done)|(rw [if_neg (by decide)];rfl)) (by first|(simp;done)|(rw [if_neg (by decide)];rfl)) (by first|(simp;done)|(rw [if_neg (by decide)];rfl)) (by first|(simp;done)|(rw [if_neg (by decide)];rfl)) (by first|(simp;done)|(rw [if_neg (by decide)];rfl)) (by first|(simp;done)|(rw [if_neg (by decide)];rfl)) (by rw [if_pos rfl];exact ⟨_,_,_,rfl,hm1⟩) (by first|(simp;done)|(rw [if_neg (by decide)];rfl)) (by first|(simp;done)|(rw [if_neg (by decide)];rfl)) (by first|(simp;done)|(rw [if_neg (by decide)];rfl)) (by first|(simp;done)|(rw [if_neg (by decide)];rfl)) (by first|(simp;done)|(rw [if_neg (by decide)];rfl)) (by first|(simp;done)|(rw [if_neg (by decide)];rfl))⟩
  ·obtain ⟨c0,c1,c2,e1,hm1⟩:=H.f7 (hW.out 7 (by kernel_rfl))
   rw [e1] at H ⊢
   refine zz rfl (fun K hK=>?_)
   go_simp
   refine hK _ _ ⟨_,_,_,_,_,_,_,_,_,_,_,_,_,_,rfl,H.set (i:=8) (by decide) (by decide) (by decide) (by first|(simp;done)|(rw [if_neg (by decide)];rfl)) (by first|(simp;done)|(rw [if_neg (by decide)];rfl)) (by first|(simp;done)|(rw [if_neg (by decide)];rfl)) (by first|(simp;done)|(rw [if_neg (by decide)];rfl)) (by first|(simp;done)|(rw [if_neg (by decide)];rfl)) (by first|(simp;done)|(rw [if_neg (by decide)];rfl)) (by first|(simp;done)|(rw [if_neg (by decide)];rfl)) (by first|(simp;done)|(rw [if_neg (by decide)];rfl)) (by first|(simp;done)|(rw [if_neg (by decide)];rfl)) (by first|(simp;done)|(rw [if_neg (by decide)];rfl)) (by first|(simp;done)|(rw [if_neg (by decide)];rfl)) (by first|(simp;done)|(rw [if_neg (by decide)];rfl)) (by first|(simp;done)|(rw [if_neg (by decide)];rfl)) (by first|(simp;done)|(rw [if_neg (by decide)];rfl))⟩
  ·obtain ⟨c0,c1,c2,e1,hm1⟩:=H.f7 (hW.out 7 (by kernel_rfl))
   rw [e1] at H ⊢
   refine zz rfl (fun K hK=>?_)
   go_simp
   refine hK _ _ ⟨_,_,_,_,_,_,_,_,_,_,_,_,_,_,rfl,H.set (i:=9) (by decide) (by decide) (by decide) (by first|(simp;done)|(rw [if_neg (by decide)];rfl)) (by first|(simp;done)|(rw [if_neg (by decide)];rfl)) (by first|(simp;done)|(rw [if_neg (by decide)];rfl)) (by first|(simp;done)|(rw [if_neg (by decide)];rfl)) (by first|(simp;done)|(rw [if_neg (by decide)];rfl)) (by first|(simp;done)|(rw [if_neg (by decide)];rfl)) (by first|(simp;done)|(rw [if_neg (by decide)];rfl)) (by first|(simp;done)|(rw [if_neg (by decide)];rfl)) (by first|(simp;done)|(rw [if_neg (by decide)];rfl)) (by rw [if_pos rfl]) (by first|(simp;done)|(rw [if_neg (by decide)];rfl)) (by first|(simp;done)|(rw [if_neg (by decide)];rfl)) (by first|(simp;done)|(rw [if_neg (by decide)];rfl)) (by first|(simp;done)|(rw [if_neg (by decide)];rfl))⟩
  ·obtain ⟨c0,c1,c2,e1,hm1⟩:=H.f7 (hW.out 7 (by kernel_rfl))
   rw [e1] at H ⊢
   refine zz rfl (fun K hK=>?_)
   go_simp
   refine hK _ _ ⟨_,_,_,_,_,_,_,_,_,_,_,_,_,_,rfl,H.set (i:=10) (by decide) (by decide) (by decide) (by first|(simp;done)|(rw [if_neg (by decide)];rfl)) (by first|(simp;done)|(rw [if_neg (by decide)];rfl)) (by first|(simp;done)|(rw [if_neg (by decide)];rfl)) (by first|(simp;done)|(rw [if_neg (by decide)];rfl)) (by first|(simp;done)|(rw [if_neg (by decide)];rfl)) (by first|(simp;done)|(rw [if_neg (by decide)];rfl)) (by first|(simp;done)|(rw [if_neg (by decide)];rfl)) (by first|(simp;done)|(rw [if_neg (by decide)];rfl)) (by first|(simp;done)|(rw [if_neg (by decide)];rfl)) (by first|(simp;done)|(rw [if_neg (by decide)];rfl)) (by rw [if_pos rfl];exact ⟨_,_,rfl,hm1⟩) (by first|(simp;done)|(rw [if_neg (by decide)];rfl)) (by first|(simp;done)|(rw [if_neg (by decide)];rfl)) (by first|(simp;done)|(rw [if_neg (by decide)];rfl))⟩
  ·have k14:L.getD 14 false=false:=by cases h:L.getD 14 false with|false=>rfl|true=>exact absurd (H.c14 h) (by rw [hun];decide)
   have hq1:=H.bel.size
   refine zz rfl (fun K hK=>?_)
   go_simp
   refine hK _ _ ⟨_,_,_,_,_,_,_,_,_,_,_,_,_,_,rfl,(H.grow (Below.ofAlloc (Below.refl _ _) _)).set (i:=11) (by decide) (by decide) (by decide) (by first|(simp;done)|(rw [if_neg (by decide)];rfl)) (by first|(simp;done)|(rw [if_neg (by decide)];rfl)) (by first|(simp;done)|(rw [if_neg (by decide)];rfl)) (by first|(simp;done)|(rw [if_neg (by decide)];rfl)) (by first|(simp;done)|(rw [if_neg (by decide)];rfl)) (by first|(simp;done)|(rw [if_neg (by decide)];rfl)) (by first|(simp;done)|(rw [if_neg (by decide)];rfl)) (by first|(simp;done)|(rw [if_neg (by decide)];rfl)) (by first|(simp;done)|(rw [if_neg (by decide)];rfl)) (by first|(simp;done)|(rw [if_neg (by decide)];rfl)) (by first|(simp;done)|(rw [if_neg (by decide)];rfl)) (by rw [if_pos rfl];exact ⟨_,rfl,by omega,.inl ⟨k14,heap_alloc_new _ _⟩⟩) (by first|(simp;done)|(rw [if_neg (by decide)];rfl)) (by first|(simp;done)|(rw [if_neg (by decide)];rfl))⟩
  ·have k15:L.getD 15 false=false:=by cases h:L.getD 15 false with|false=>rfl|true=>exact absurd (H.c15 h) (by rw [hun];decide)
   have hq1:=H.bel.size
   refine zz rfl (fun K hK=>?_)
   go_simp
   refine hK _ _ ⟨_,_,_,_,_,_,_,_,_,_,_,_,_,_,rfl,(H.grow (Below.ofAlloc (Below.refl _ _) _)).set (i:=12) (by decide) (by decide) (by decide) (by first|(simp;done)|(rw [if_neg (by decide)];rfl)) (by first|(simp;done)|(rw [if_neg (by decide)];rfl)) (by first|(simp;done)|(rw [if_neg (by decide)];rfl)) (by first|(simp;done)|(rw [if_neg (by decide)];rfl)) (by first|(simp;done)|(rw [if_neg (by decide)];rfl)) (by first|(simp;done)|(rw [if_neg (by decide)];rfl)) (by first|(simp;done)|(rw [if_neg (by decide)];rfl)) (by first|(simp;done)|(rw [if_neg (by decide)];rfl)) (by first|(simp;done)|(rw [if_neg (by decide)];rfl)) (by first|(simp;done)|(rw [if_neg (by decide)];rfl)) (by first|(simp;done)|(rw [if_neg (by decide)];rfl)) (by first|(simp;done)|(rw [if_neg (by decide)];rfl)) (by rw [if_pos rfl];exact ⟨_,rfl,by omega,.inl ⟨k15,heap_alloc_new _ _⟩⟩) (by first|(simp;done)|(rw [if_neg (by decide)];rfl))⟩
  ·refine zz rfl (fun K hK=>?_)
   go_simp
   refine hK _ _ ⟨_,_,_,_,_,_,_,_,_,_,_,_,_,_,rfl,H.set (i:=13) (by decide) (by decide) (by decide) (by first|(simp;done)|(rw [if_neg (by decide)];rfl)) (by first|(simp;done)|(rw [if_neg (by decide)];rfl)) (by first|(simp;done)|(rw [if_neg (by decide)];rfl)) (by first|(simp;done)|(rw [if_neg (by decide)];rfl)) (by first|(simp;done)|(rw [if_neg (by decide)];rfl)) (by first|(simp;done)|(rw [if_neg (by decide)];rfl)) (by first|(simp;done)|(rw [if_neg (by decide)];rfl)) (by first|(simp;done)|(rw [if_neg (by decide)];rfl)) (by first|(simp;done)|(rw [if_neg (by decide)];rfl)) (by first|(simp;done)|(rw [if_neg (by decide)];rfl)) (by first|(simp;done)|(rw [if_neg (by decide)];rfl)) (by first|(simp;done)|(rw [if_neg (by decide)];rfl)) (by first|(simp;done)|(rw [if_neg (by decide)];rfl)) (by first|(simp;done)|(rw [if_neg (by decide)];rfl))⟩
  ·obtain ⟨b,rfl,rfl,hB,H'⟩:=H.st14 (hW.out 9 (by kernel_rfl)) (hW.out 11 (by kernel_rfl)) hun
   have e1:=zi hB
   have hz:=zb hB
   unfold zca
   dsimp only
   refine zz rfl (fun K hK=>?_)
   rw [<- e1]
   clear e1
   go_simp
   exact hK _ _ ⟨_,_,_,_,_,_,_,_,_,_,_,_,_,_,rfl,H'⟩
  ·obtain ⟨b,u0,u1,rfl,rfl,⟨⟨_,_,_,rfl⟩,_,_,_,rfl⟩,hB,H'⟩:=H.st15 (hW.out 10 (by kernel_rfl)) (hW.out 12 (by kernel_rfl)) hun
   have e1:=zi hB
   have hz:=zb hB
   refine zz rfl (fun K hK=>?_)
   rw [<- e1]
   clear e1
   go_simp
   exact hK _ _ ⟨_,_,_,_,_,_,_,_,_,_,_,_,_,_,rfl,H'⟩
 ·rintro L a Wo ⟨x11,x12,x13,x14,x15,x16,x17,x10,x18,x19,x20,x8,x9,x7,rfl,H⟩ hr
  have hall:=za9 (ops:=_) H.sz hr (zaA (by kernel_rfl))
  obtain ⟨q8,rfl,hq8,h8⟩:=H.f11 (hall 11 (by decide))
  obtain ⟨q9,rfl,hq9,h9⟩:=H.f12 (hall 12 (by decide))
  have k14:=hall 14 (by decide)
  have k15:=hall 15 (by decide)
  rcases h8 with h8|⟨_,h8⟩
  ·rw [k14] at h8;cases h8.1
  rcases h9 with h9|⟨_,u0,u1,h9,hm⟩
  ·rw [k15] at h9;cases h9.1
  obtain ⟨⟨u0a,u0n,u0c,rfl⟩,u1a,u1n,u1c,rfl⟩:=HR.out.shp hm
  have P3:=H.X
  have C3:=H.C
  have R3:=(H.bel.block _ (zb R2)).trans R2
  have A3:=(H.bel.block _ (zb A2)).trans A2
  have b3:=Below.then b2 H.bel
  have O3:=Hd (O.out.below H.bel)
  have HM:=Hd hm
  have HCL:=Hd (fun k hk=>(O.out.calls.lt k hk).2)
  have HAL:=Hd (fun k hk=>(O.out.answers.lt k hk).2)
  have hq:w.heap.size+1+1+1<w0.heap.size:=zb A2
  clear hall hr H k14 k15 D1 D2 hm O b2 P2 C2 R2 A2
  have l3:=zb P3
  have m3:=zb C3
  have e8:=zb h8
  have e9:=zb h9
  have n1:¬ w.heap.size+1=w.heap.size:=by omega
  have n2:¬ w.heap.size=w.heap.size+1:=by omega
  have C3s:∀ o,(Wo.setB w.heap.size o).heap[w.heap.size+1]? = _:=fun o=>(World.setB_get _ _ _ _ (by omega)).trans C3
  have EW:=Hd ((zi (C3s _)).trans (zi P3))
  rw [<- EW.out]
  clear C3s C3
  go_wp2_with (at_builtin;refine zP ?_)
  rw [EW.out]
  clear EW
  refine zcG rfl _ _ _ rfl zdC zdB ((O3.out.alloc _).calls) ((O3.out.alloc _).sc) rfl (zat zcj Wo ⟨kd,nm,tn,ca,cb,tx⟩ _ rfl _ _ (by simp [zd])) rfl (by simp only [List.length_singleton];omega) (by simp only [List.length_singleton];unfold maxLen;omega) (by simp;omega) ?_
  intro v4 w4 o4 g4 hv4 sp4 st4
  have F4:∀ (k:Nat) (o:Obj),Wo.heap[k]?=some o->(k<w.heap.size+4 ∨ w0.heap.size<=k)->w4.heap[k]?=some o:=fun k o hk hr=>(g4.block k (by have:=zb hk;simp;omega) (fun e=>by have h1:=(O3.out.calls.lt _ e.symm).1;have h2:=HCL.out _ e.symm;omega)).trans ((Below.heap_alloc _ _ _ (zb hk)).trans hk)
  have b4:=Below.appL (a:=w) (R:=zcj) (e:=63) (b3.ofAlloc _) g4 ((O3.out.alloc _).calls.base (by omega))
  obtain ⟨a4,c4,rfl⟩:=o4.rd.form
  have O4:=Hd (TxO.appC (c':=⟨a4,_,c4⟩) (xs:=[⟨kd,nm,tn,ca,cb,tx⟩]) (O3.out.alloc _) o4 g4 hv4 sp4)
  have HM4:=Hd (And.intro ((HM.out.1.alloc _).stays HSM.out.rn st4) ((HM.out.2.alloc _).stays HSM.out.wn st4))
  have P4:=F4 _ _ P3 (.inl (by omega))
  have R4:=F4 _ _ R3 (.inl (by omega))
  have A4:=F4 _ _ A3 (.inl (by omega))
  have E8:=F4 _ _ h8 (.inr hq8)
  have E9:=F4 _ _ h9 (.inr hq9)
  clear F4 b3 P3 R3 A3 h8 h9 HM g4 o4 hv4 sp4 st4 HCL l3 m3 e8 e9
  have l4:=zb P4
  have e8:=zb E8
  have e9:=zb E9
  have n3:¬ q8=w.heap.size:=by omega
  have n4:¬ w.heap.size=q8:=by omega
  have E8s:∀ o,(w4.setB w.heap.size o).heap[q8]? = _:=fun o=>(World.setB_get _ _ _ _ (by omega)).trans E8
  rw [<- zi P4,<- zi (E8s _)]
  go_wp2_with (at_builtin;refine zP ?_)
  rw [zi (E8s _)]
  refine zcG rfl _ _ _ rfl zep zel (((O4.out.setB (p:=w.heap.size) (by omega) _).alloc _).answers) (((O4.out.setB (p:=w.heap.size) (by omega) _).alloc _).sa) rfl (zat zbD (w4.setB _ _) ⟨ak,aN,at_⟩ _ rfl _ _ (by simp [zd])) rfl (by simp only [List.length_singleton];have:=b.nans;omega) (by simp only [List.length_singleton];have:=b.nans;unfold maxLen;omega) (by simp [zd];omega) ?_
  intro v5 w5 o5 g5 hv5 sp5 st5
  have hown:∀ q,(Value.slice za d.answers.length zc).ownBlock=some q->w.heap.size+4<=q/\q<w0.heap.size:=fun q hq=>⟨(O4.out.answers.lt q hq).1,HAL.out q hq⟩
  have F5:∀ (k:Nat) (o:Obj),w4.heap[k]?=some o->k ≠ w.heap.size->(k<w.heap.size+4 ∨ w0.heap.size<=k)->w5.heap[k]?=some o:=fun k o hk hne hr=>(g5.block k (by have:=zb hk;simp [zd];omega) (fun e=>by have h1:=hown _ e.symm;omega)).trans ((Below.heap_alloc _ _ _ (by rw [zd];exact zb hk)).trans ((World.setB_get _ _ _ _ hne).trans hk))
  have P5:=(g5.block w.heap.size (by simp [zd];omega) (fun e=>by have h1:=hown _ e.symm;omega)).trans ((Below.heap_alloc _ _ _ (by rw [zd];exact l4)).trans (World.setB_at _ _ _ l4))
  have b5:=Below.appL (a:=w) (R:=zbD) (e:=59) ((zp b4 (Nat.le_refl _) _).ofAlloc _) g5 (((O4.out.setB (p:=w.heap.size) (by omega) _).alloc _).answers.base (by omega))
  obtain ⟨a5,c5,rfl⟩:=o5.rd.form
  have O5:=Hd (TxO.appA (a':=⟨a5,_,c5⟩) (xs:=[⟨ak,aN,at_⟩]) ((O4.out.setB (p:=w.heap.size) (by omega) _).alloc _) o5 g5 hv5 sp5)
  have HM5:=Hd (And.intro (((zaz (ze _) HM4.out.1 P4 (zh9 _ _ _ _ _ _ _ _ _ _ _ _ _ _ _ _ _ _ _ _) _).alloc _).stays HSM.out.rn st5) (((zaz (ze _) HM4.out.2 P4 (zh9 _ _ _ _ _ _ _ _ _ _ _ _ _ _ _ _ _ _ _ _) _).alloc _).stays HSM.out.wn st5))
  have R5:=F5 _ _ R4 (by omega) (.inl (by omega))
  have A5:=F5 _ _ A4 (by omega) (.inl (by omega))
  have E85:=F5 _ _ E8 (by omega) (.inr hq8)
  have E95:=F5 _ _ E9 (by omega) (.inr hq9)
  clear F5 b4 P4 R4 A4 E8 E9 E8s HM4 g5 o5 hv5 sp5 st5 HAL hown l4 e8 e9 O4 O3
  have l5:=zb P5
  have e8:=zb E85
  have e9:=zb E95
  have n5:¬ q9=w.heap.size:=by omega
  have n6:¬ w.heap.size=q9:=by omega
  have E9s:∀ o,(w5.setB w.heap.size o).heap[q9]? = _:=fun o=>(World.setB_get _ _ _ _ (by omega)).trans E95
  rw [<- zi P5,<- zi (E9s _)]
  go_wp2_with fail
  rw [zi (E9s _)]
  go_at_call 54
  refine (zc0 _ _ _ _ d.touch.reads d.touch.writes m.rd m.wr _ (O5.out.setB (p:=w.heap.size) (by omega) _).tr.1 (O5.out.setB (p:=w.heap.size) (by omega) _).tw.1 (zaz (ze _) HM5.out.1 P5 (zh9 _ _ _ _ _ _ _ _ _ _ _ _ _ _ _ _ _ _ _ _) _) (zaz (ze _) HM5.out.2 P5 (zh9 _ _ _ _ _ _ _ _ _ _ _ _ _ _ _ _ _ _ _ _) _) (by have:=b.nrd;have:=HT.out.1.1;omega) (by have:=b.nwr;have:=HT.out.2.1;omega)).mono ?_
  rintro e w6 ⟨j0,j1,rfl,r0,r1,hb6⟩
  obtain ⟨i0,k0,rfl⟩:=r0.form
  obtain ⟨i1,k1,rfl⟩:=r1.form
  have O6:=Hd (TxO.touch (n:=n) (r':=⟨i0,_,k0⟩) (t':=⟨i1,_,k1⟩) (O5.out.setB (p:=w.heap.size) (by omega) _) (by rw [zd];omega) hb6 r0 r1)
  have P6:=(hb6.block w.heap.size (by rw [zd];exact l5)).trans (World.setB_at _ _ _ l5)
  have R6:=(hb6.block (w.heap.size+1+1) (by rw [zd];exact zb R5)).trans ((World.setB_get _ _ _ _ (by omega)).trans R5)
  have A6:=(hb6.block (w.heap.size+1+1+1) (by rw [zd];exact zb A5)).trans ((World.setB_get _ _ _ _ (by omega)).trans A5)
  have E86:=(hb6.block q8 (by rw [zd];exact e8)).trans ((World.setB_get _ _ _ _ (by omega)).trans E85)
  have b6:=Below.then (zp b5 (Nat.le_refl _) _) hb6
  clear r0 r1 hb6 P5 R5 A5 E85 E95 E9s O5 HM5 b5 l5 e8 e9 n5 n6
  have l6:=zb P6
  rw [<- zi P6]
  go_wp2_with fail
  clear n3 n4 l6
  have O6':Hid (TxO w6 (w.heap.size+4) ⟨yid,yage,d.proc,ybegan,⟨a4,d.calls.length+1,c4⟩,⟨a5,d.answers.length+1,c5⟩,⟨i0,(zak d.touch.reads m.rd).length,k0⟩,⟨i1,(zak d.touch.writes m.wr).length,k1⟩,⟨ma,mn,mc⟩,1⟩ { d with calls:=d.calls ++ [⟨kd,nm,tn,ca,cb,tx⟩],answers:=d.answers ++ [⟨ak,aN,at_⟩],touch:=⟨zak d.touch.reads m.rd,zak d.touch.writes m.wr⟩ }):=by
   have h:=O6.out
   simp only [List.length_append,List.length_cons,List.length_nil,Nat.zero_add] at h
   exact Hd h
  refine zaF (fun L a W=>∃ x52 x53,a=⟨#[.slice az zs.length cz,.agg #[.int .i64 xid,.int .i64 xage,.int .i64 xproc,.int .i64 xbegan,.slice xc.a xc.n xc.cap,.slice xa.a xa.n xa.cap,.slice xr.a xr.n xr.cap,.slice xw.a xw.n xw.cap,.slice xm.a xm.n xm.cap,.int .i64 xs],.agg #[.int .i64 kd,.string nm,.string tn,.int .i64 ca,.int .i64 cb,.string tx],undef,.pointer (some ⟨w.heap.size,0,none⟩),.pointer (some ⟨w.heap.size+1,0,none⟩),.pointer (some ⟨w.heap.size+1+1,0,none⟩),.pointer (some ⟨w.heap.size+1+1+1,0,none⟩),x7,.pointer (some ⟨q8,0,none⟩),.pointer (some ⟨q9,0,none⟩),.agg #[.int .i64 xid,.int .i64 xage,.int .i64 xproc,.int .i64 xbegan,.slice xc.a xc.n xc.cap,.slice xa.a xa.n xa.cap,.slice xr.a xr.n xr.cap,.slice xw.a xw.n xw.cap,.slice xm.a xm.n xm.cap,.int .i64 xs],.agg #[.int .i64 yid,.int .i64 yage,.int .i64 d.proc,.int .i64 ybegan,.slice ya d.calls.length yc,.slice za d.answers.length zc,.slice ra d.touch.reads.length rc,.slice ta d.touch.writes.length tc,.slice ma mn mc,.int .i64 1],.pointer (some ⟨w.heap.size,9,none⟩),.int .i64 1,.bool false,undef,undef,.pointer (some ⟨w.heap.size,4,none⟩),.slice ya d.calls.length yc,.int .i64 d.calls.length,.bool false,undef,undef,x10,x11,x12,x13,x14,x15,x16,x17,x18,x19,x20,.pointer (some ⟨w.heap.size,4,none⟩),.slice ya d.calls.length yc,.agg #[.int .i64 kd,.string nm,.string tn,.int .i64 ca,.int .i64 cb,.string tx],.slice (some ⟨Wo.heap.size,0,none⟩) 1 1,.slice a4 (d.calls.length+1) c4,.pointer (some ⟨w.heap.size,4,none⟩),.pointer (some ⟨w.heap.size,5,none⟩),.slice za d.answers.length zc,.agg #[.int .i64 ak,.int .i64 aN,.string at_],.slice (some ⟨w4.heap.size,0,none⟩) 1 1,.slice a5 (d.answers.length+1) c5,.pointer (some ⟨w.heap.size,5,none⟩),.pointer (some ⟨w.heap.size,6,none⟩),.agg #[.slice ra d.touch.reads.length rc,.slice ta d.touch.writes.length tc],.agg #[.slice u0a u0n u0c,.slice u1a u1n u1c],.agg #[.slice i0 (zak d.touch.reads m.rd).length k0,.slice i1 (zak d.touch.writes m.wr).length k1],.pointer (some ⟨w.heap.size,6,none⟩),x52,x53],[]⟩/\KA w w.heap.size q8 (w.heap.size+4) (.cells #[.int .i64 yid,.int .i64 yage,.int .i64 d.proc,.int .i64 ybegan,.slice a4 (d.calls.length+1) c4,.slice a5 (d.answers.length+1) c5,.slice i0 (zak d.touch.reads m.rd).length k0,.slice i1 (zak d.touch.writes m.wr).length k1,.slice ma mn mc,.int .i64 1] 35 (0,0)) (.cells #[.int .i64 ak,.int .i64 aN,.string at_] 59 (0,0)) ⟨yid,yage,d.proc,ybegan,⟨a4,d.calls.length+1,c4⟩,⟨a5,d.answers.length+1,c5⟩,⟨i0,(zak d.touch.reads m.rd).length,k0⟩,⟨i1,(zak d.touch.writes m.wr).length,k1⟩,⟨ma,mn,mc⟩,1⟩ { d with calls:=d.calls ++ [⟨kd,nm,tn,ca,cb,tx⟩],answers:=d.answers ++ [⟨ak,aN,at_⟩],touch:=⟨zak d.touch.reads m.rd,zak d.touch.writes m.wr⟩ } (.agg #[.int .i64 yid,.int .i64 yage,.int .i64 d.proc,.int .i64 ybegan,.slice a4 (d.calls.length+1) c4,.slice a5 (d.answers.length+1) c5,.slice i0 (zak d.touch.reads m.rd).length k0,.slice i1 (zak d.touch.writes m.wr).length k1,.slice ma mn mc,.int .i64 1]) (.agg #[.int .i64 ak,.int .i64 aN,.string at_]) L W x52 x53/\((L.getD 2 false=false/\W.heap[w.heap.size+1+1]?=some (.cells #[.int .i64 0,.int .i64 0,.int .i64 0,.int .i64 0,.slice none 0 0,.slice none 0 0,.slice none 0 0,.slice none 0 0,.slice none 0 0,.int .i64 0] 35 (0,0))) ∨ (L.getD 2 false=true/\W.heap[w.heap.size+1+1]?=some (.cells #[.int .i64 yid,.int .i64 yage,.int .i64 d.proc,.int .i64 ybegan,.slice a4 (d.calls.length+1) c4,.slice a5 (d.answers.length+1) c5,.slice i0 (zak d.touch.reads m.rd).length k0,.slice i1 (zak d.touch.writes m.wr).length k1,.slice ma mn mc,.int .i64 1] 35 (0,0))))/\((L.getD 3 false=false/\W.heap[w.heap.size+1+1+1]?=some (.cells #[.int .i64 0,.int .i64 0,.string ⟨#[]⟩] 59 (0,0))) ∨ (L.getD 3 false=true/\W.heap[w.heap.size+1+1+1]?=some (.cells #[.int .i64 ak,.int .i64 aN,.string at_] 59 (0,0))))) (by kernel_rfl) ?_ ?_ ?_
  ·have N:∀ j,¬ (Array.replicate 4 false).getD j false=true:=zc3 4
   exact ⟨_,_,rfl,⟨by simp,Below.drew (zp b6 (Nat.le_refl _) _),World.setB_at _ _ _ (zb P6),(World.setB_get _ _ _ _ (by omega)).trans E86,TxO.drew (O6'.out.setB (by omega) _),fun k=>absurd k (N _),fun k=>absurd k (N _)⟩,.inl ⟨rfl,(World.setB_get _ _ _ _ (by omega)).trans R6⟩,.inl ⟨rfl,(World.setB_get _ _ _ _ (by omega)).trans A6⟩⟩
  ·rintro L a W i ⟨x52,x53,rfl,H,hR,hA⟩ hi
   have hlt:=zbN hi
   have hun:=zbM hi
   have hW:Hid (∀ j,zbL _ i j=true->L.getD j false=true):=fun j h=>za1 hi h
   have h4:i<4:=hlt
   clear hlt hi
   have hcs:i=0 ∨ i=1 ∨ i=2 ∨ i=3:=by omega
   clear h4
   have kR:∀ i,i ≠ 2->((L.setIfInBounds i true).getD 2 false=L.getD 2 false):=fun i hi=>zj (by omega)
   have kA:∀ i,i ≠ 3->((L.setIfInBounds i true).getD 3 false=L.getD 3 false):=fun i hi=>zj (by omega)
   have KR:=Hd kR
   have KA':=Hd kA
   clear kR kA
   have HR':=Hd hR
   have HA':=Hd hA
   rcases hcs with rfl|rfl|rfl|rfl
   ·have hx:=H.P
    have hz:=zb hx
    have y0:W.cell? ⟨w.heap.size,0,none⟩=some (.int .i64 yid):=(zg (i:=0) hx).trans rfl
    have y1:W.cell? ⟨w.heap.size,1,none⟩=some (.int .i64 yage):=(zg (i:=1) hx).trans rfl
    have y2:W.cell? ⟨w.heap.size,2,none⟩=some (.int .i64 d.proc):=(zg (i:=2) hx).trans rfl
    have y3:W.cell? ⟨w.heap.size,3,none⟩=some (.int .i64 ybegan):=(zg (i:=3) hx).trans rfl
    have y4:W.cell? ⟨w.heap.size,4,none⟩=some (.slice a4 (d.calls.length+1) c4):=(zg (i:=4) hx).trans rfl
    have y5:W.cell? ⟨w.heap.size,5,none⟩=some (.slice a5 (d.answers.length+1) c5):=(zg (i:=5) hx).trans rfl
    have y6:W.cell? ⟨w.heap.size,6,none⟩=some (.slice i0 (zak d.touch.reads m.rd).length k0):=(zg (i:=6) hx).trans rfl
    have y7:W.cell? ⟨w.heap.size,7,none⟩=some (.slice i1 (zak d.touch.writes m.wr).length k1):=(zg (i:=7) hx).trans rfl
    have y8:W.cell? ⟨w.heap.size,8,none⟩=some (.slice ma mn mc):=(zg (i:=8) hx).trans rfl
    have y9:W.cell? ⟨w.heap.size,9,none⟩=some (.int .i64 1):=(zg (i:=9) hx).trans rfl
    refine zz rfl (fun K hK=>?_)
    go_simp
    exact hK _ _ ⟨_,_,rfl,H.set (i:=0) (by decide) (by rw [if_pos rfl]) (by first|(simp;done)|(rw [if_neg (by decide)];rfl)),by rw [KR.out 0 (by decide)];exact HR'.out,by rw [KA'.out 0 (by decide)];exact HA'.out⟩
   ·have hx:=H.Q
    have hz:=zb hx
    have y0:W.cell? ⟨q8,0,none⟩=some (.int .i64 ak):=(zg (i:=0) hx).trans rfl
    have y1:W.cell? ⟨q8,1,none⟩=some (.int .i64 aN):=(zg (i:=1) hx).trans rfl
    have y2:W.cell? ⟨q8,2,none⟩=some (.string at_):=(zg (i:=2) hx).trans rfl
    refine zz rfl (fun K hK=>?_)
    go_simp
    exact hK _ _ ⟨_,_,rfl,H.set (i:=1) (by decide) (by first|(simp;done)|(rw [if_neg (by decide)];rfl)) (by rw [if_pos rfl]),by rw [KR.out 1 (by decide)];exact HR'.out,by rw [KA'.out 1 (by decide)];exact HA'.out⟩
   ·obtain rfl:=H.f0 (hW.out 0 (by kernel_rfl))
    rcases hR with ⟨_,hB⟩|⟨hv,_⟩
    ·have e1:=Hd (zi hB)
     have hz:=zb hB
     refine zz rfl (fun K hK=>?_)
     rw [<- e1.out]
     clear e1 hB hA
     go_simp
     refine hK _ _ ⟨_,_,rfl,(H.setB (by omega) (by omega) (by omega) (by omega) _).set (i:=2) (by decide) (by first|(simp;done)|(rw [if_neg (by decide)];rfl)) (by first|(simp;done)|(rw [if_neg (by decide)];rfl)),.inr ⟨zaN (by rw [H.sz];decide),World.setB_at _ _ _ hz⟩,?_⟩
     rw [KA'.out 2 (by decide),World.setB_get _ _ _ _ (by omega)]
     exact HA'.out
    ·rw [hv] at hun;cases hun
   ·obtain rfl:=H.f1 (hW.out 1 (by kernel_rfl))
    rcases hA with ⟨_,hB⟩|⟨hv,_⟩
    ·have e1:=Hd (zi hB)
     have hz:=zb hB
     refine zz rfl (fun K hK=>?_)
     rw [<- e1.out]
     clear e1 hB hR
     go_simp
     refine hK _ _ ⟨_,_,rfl,(H.setB (by omega) (by omega) (by omega) (by omega) _).set (i:=3) (by decide) (by first|(simp;done)|(rw [if_neg (by decide)];rfl)) (by first|(simp;done)|(rw [if_neg (by decide)];rfl)),?_,.inr ⟨zaN (by rw [H.sz];decide),World.setB_at _ _ _ hz⟩⟩
     rw [KR.out 3 (by decide),World.setB_get _ _ _ _ (by omega)]
     exact HR'.out
    ·rw [hv] at hun;cases hun
  ·rintro L a W ⟨x52,x53,rfl,H,hR,hA⟩ hr
   have hall:=za9 (ops:=_) H.sz hr (zaA (by kernel_rfl))
   rcases hR with ⟨hv,_⟩|⟨_,hR⟩
   ·rw [hall 2 (by decide)] at hv;cases hv
   rcases hA with ⟨hv,_⟩|⟨_,hA⟩
   ·rw [hall 3 (by decide)] at hv;cases hv
   have HO:=Hd H.o
   have HB:=Hd H.bel
   clear hall hr H O6 O6' P6 R6 A6 E86
   have z2:=zb hR
   have z3:=zb hA
   have hA2:∀ o,(W.setB (w.heap.size+1+1) o).heap[w.heap.size+1+1+1]? = _:=fun o=>(World.setB_get _ _ _ _ (by omega)).trans hA
   rw [<- zi hR,<- zi (hA2 _)]
   clear hR hA hA2
   have n7:¬ w.heap.size+1+1+1=w.heap.size+1+1:=by omega
   have n8:¬ w.heap.size+1+1=w.heap.size+1+1+1:=by omega
   go_wp2
   refine bodyPost_ret (by simp [results,Tryz.results38,go_sem,z2,z3,n7,n8];rfl) rfl ?_
   refine ⟨⟨yid,yage,d.proc,ybegan,⟨a4,d.calls.length+1,c4⟩,⟨a5,d.answers.length+1,c5⟩,⟨i0,(zak d.touch.reads m.rd).length,k0⟩,⟨i1,(zak d.touch.writes m.wr).length,k1⟩,⟨ma,mn,mc⟩,1⟩,_,{ d with calls:=d.calls ++ [⟨kd,nm,tn,ca,cb,tx⟩],answers:=d.answers ++ [⟨ak,aN,at_⟩],touch:=⟨zak d.touch.reads m.rd,zak d.touch.writes m.wr⟩ },rfl,?_,b.ask HC.out HA.out HT.out,hs,rfl,zp (zp HB.out (by omega) _) (by omega) _⟩
   exact ((HO.out.setB (by omega) _).setB (by omega) _).base (by omega)
end Go.Proofs.YtncnbihlngapbaaGreat
