/- Texts of this claim, merged: the walks and what they stand on. Each condition stands in its theorem. -/
import Derived.Test.YtpnoehpmgflibaaGreatDoorCA20
set_option linter.unusedVariables false
set_option linter.unusedSimpArgs false
set_option maxRecDepth 100000
set_option maxHeartbeats 8000000
namespace Go.Proofs.YtpnoehpmgflibaaGreatDoor
open Go.ChangeShapes Go.WideShapes Go.ChangeAt Go.RowKit
def zaM (c:CallD):Value:=.agg #[.int .i64 c.kind,.string c.name,.string c.to,.int .i64 c.a,.int .i64 c.b,.string c.text]
theorem zjE (c:CallD) (hc:c.ok) (w:World):Calls Tryz.prog 114 #[zaM c] w fun e w'=>e=.returned (.bool (K.callOk c))/\Below w.heap.size w w':=by
 obtain ⟨kd,nm,to,a,b,tx⟩:=c
 obtain ⟨z1,z2,z3⟩:=hc
 dsimp only at z1 z2 z3
 unfold zaM
 dsimp only
 have HK:Hid (K.callOk ⟨kd,nm,to,a,b,tx⟩=((inB kd 1 22 && decide (nm.size<=20)) && (decide (to.size<=20) && decide (tx.size<=64)))):=by show _ = _;rfl
 by_cases h1 : 1<=kd/\kd<=22
 case neg =>
  have HI:=Hd (zbb h1)
  go_enter Tryz.func114,Tryz.ntmps114
  (repeat (first|go_skip|go_guarded|go_step|go_upon|go_back))
  (go_at_call 59;refine (zM _ _ _ _).mono ?_;rintro e w' ⟨rfl,rfl⟩)
  rw [HI.out]
  ((try simp only []);repeat (first|go_skip|go_guarded|go_step|go_upon|go_back))
  go_ret
  exact ⟨by rw [HK.out,HI.out];rfl,(by repeat (first|with_reducible exact Below.refl _ _|with_reducible apply Below.ofAlloc))⟩
 case pos =>
  have HI:=Hd (zaP h1)
  by_cases h2:(nm.size:Int)<=20
  case neg =>
   have h2':¬ nm.size<=20:=by omega
   have HD:=Hd (decide_eq_false h2')
   clear h2'
   go_enter Tryz.func114,Tryz.ntmps114
   (repeat (first|go_skip|go_guarded|go_step|go_upon|go_back))
   (go_at_call 59;refine (zM _ _ _ _).mono ?_;rintro e w' ⟨rfl,rfl⟩)
   rw [HI.out]
   ((try simp only []);repeat (first|go_skip|go_guarded|go_step|go_upon|go_back))
   go_ret
   exact ⟨by rw [HK.out,HI.out,HD.out];rfl,(by repeat (first|with_reducible exact Below.refl _ _|with_reducible apply Below.ofAlloc))⟩
  case pos =>
   have h2':nm.size<=20:=by omega
   have HD:=Hd (decide_eq_true h2')
   clear h2'
   by_cases h3:(to.size:Int)<=20
   case neg =>
    have h3':¬ to.size<=20:=by omega
    have HD3:=Hd (decide_eq_false h3')
    clear h3'
    go_enter Tryz.func114,Tryz.ntmps114
    (repeat (first|go_skip|go_guarded|go_step|go_upon|go_back))
    (go_at_call 59;refine (zM _ _ _ _).mono ?_;rintro e w' ⟨rfl,rfl⟩)
    rw [HI.out]
    ((try simp only []);repeat (first|go_skip|go_guarded|go_step|go_upon|go_back))
    go_ret
    exact ⟨by rw [HK.out,HI.out,HD.out,HD3.out];rfl,(by repeat (first|with_reducible exact Below.refl _ _|with_reducible apply Below.ofAlloc))⟩
   case pos =>
    have h3':to.size<=20:=by omega
    have HD3:=Hd (decide_eq_true h3')
    clear h3'
    by_cases h4:(tx.size:Int)<=64
    case neg =>
     have h4':¬ tx.size<=64:=by omega
     have HD4:=Hd (decide_eq_false h4')
     clear h4'
     go_enter Tryz.func114,Tryz.ntmps114
     (repeat (first|go_skip|go_guarded|go_step|go_upon|go_back))
     (go_at_call 59;refine (zM _ _ _ _).mono ?_;rintro e w' ⟨rfl,rfl⟩)
     rw [HI.out]
     ((try simp only []);repeat (first|go_skip|go_guarded|go_step|go_upon|go_back))
     go_ret
     exact ⟨by rw [HK.out,HI.out,HD.out,HD3.out,HD4.out];rfl,(by repeat (first|with_reducible exact Below.refl _ _|with_reducible apply Below.ofAlloc))⟩
    case pos =>
     have h4':tx.size<=64:=by omega
     have HD4:=Hd (decide_eq_true h4')
     clear h4'
     go_enter Tryz.func114,Tryz.ntmps114
     (repeat (first|go_skip|go_guarded|go_step|go_upon|go_back))
     (go_at_call 59;refine (zM _ _ _ _).mono ?_;rintro e w' ⟨rfl,rfl⟩)
     rw [HI.out]
     ((try simp only []);repeat (first|go_skip|go_guarded|go_step|go_upon|go_back))
     go_ret
     exact ⟨by rw [HK.out,HI.out,HD.out,HD3.out,HD4.out];rfl,(by repeat (first|with_reducible exact Below.refl _ _|with_reducible apply Below.ofAlloc))⟩
def ziy {α : Type} (R:RowOf α) (xs:List α):Prop:=∀ (w:World) (v:Value) (p:Nat) (x y:Int) (t:TypeId),RdL R w v xs->w.heap[p]?=some (.cells #[.int .i64 x,.int .i64 y,.string ⟨#[]⟩] t (0,0))->∀ o,RdL R (w.setB p o) v xs
theorem zn {xs:List ByteArray} (hn:∀ s ∈ xs,s.size ≠ 0):ziy zx xs:=fun w v p x y t h hp o=>zf7 hn h hp o
theorem zz (xs:List CellD):ziy zu xs:=fun w v p x y t h hp o=>zh4 h hp o
theorem heap4s (W:World) (a b c d:Obj) (n:Nat) (hn:n=W.heap.size):((((W.alloc a).alloc b).alloc c).alloc d).heap[n]?=some a/\((((W.alloc a).alloc b).alloc c).alloc d).heap[n+1]?=some b/\((((W.alloc a).alloc b).alloc c).alloc d).heap[n+1+1]?=some c/\((((W.alloc a).alloc b).alloc c).alloc d).heap[n+1+1+1]?=some d:=by
 subst hn
 show ((((W.heap.push a).push b).push c).push d)[W.heap.size]?=some a/\((((W.heap.push a).push b).push c).push d)[W.heap.size+1]?=some b/\((((W.heap.push a).push b).push c).push d)[W.heap.size+1+1]?=some c/\((((W.heap.push a).push b).push c).push d)[W.heap.size+1+1+1]?=some d
 refine ⟨?_,?_,?_,?_⟩<;>(simp only [Array.getElem?_push,Array.size_push];repeat (first|rfl|rw [if_pos trivial]|rw [if_neg (by omega)]))
/-! ### four boxes -/
abbrev fo (W:World) (p:Nat) (o c r s:Obj):World:=(((W.setB p o).setB (p+1) c).setB (p+1+1) r).setB (p+1+1+1) s
theorem zlh {W:World} {p:Nat} {o c r s:Obj} (P:W.heap[p]?=some o) (C:W.heap[p+1]?=some c) (R:W.heap[p+1+1]?=some r) (A:W.heap[p+1+1+1]?=some s):(((W.setB p o).setB (p+1) c).setB (p+1+1) r).setB (p+1+1+1) s=W:=by
 rw [ze P,ze C,ze R,ze A]
theorem zim (W:World) (p:Nat) (o c r s:Obj):(fo W p o c r s).heap.size=W.heap.size:=by
 unfold fo
 rw [zd,zd,zd,zd]
theorem fo_at {W:World} {p:Nat} (h:p+3<W.heap.size) (o c r s:Obj):(fo W p o c r s).heap[p]?=some o/\(fo W p o c r s).heap[p+1]?=some c/\(fo W p o c r s).heap[p+1+1]?=some r/\(fo W p o c r s).heap[p+1+1+1]?=some s:=by
 unfold fo
 refine ⟨?_,?_,?_,?_⟩
 ·rw [World.setB_get _ _ _ _ (by omega),World.setB_get _ _ _ _ (by omega),World.setB_get _ _ _ _ (by omega)]
  exact World.setB_at _ _ _ (by omega)
 ·rw [World.setB_get _ _ _ _ (by omega),World.setB_get _ _ _ _ (by omega)]
  exact World.setB_at _ _ _ (by rw [zd];omega)
 ·rw [World.setB_get _ _ _ _ (by omega)]
  exact World.setB_at _ _ _ (by rw [zd,zd];omega)
 ·exact World.setB_at _ _ _ (by rw [zd,zd,zd];omega)
theorem zfx {α : Type} {R:RowOf α} {W:World} {v:Value} {xs:List α} (hstr:∀ u ∈ xs.flatMap R.row,∃ s,u=.string s) (ha:ziy R xs) (h:RdL R W v xs) {p:Nat} {a0 a1 a2 a3 a4 a5:Option Addr} {n0 n1 n2 c0 c1 c2 n3 n4 n5 c3 c4 c5:Nat} {t t' t2:TypeId} {x y:Int} {c:Obj}
  (P:W.heap[p]?=some (.cells #[.slice a0 n0 c0,.slice a1 n1 c1,.slice a2 n2 c2] t (0,0))) (C:W.heap[p+1]?=some c) (Rr:W.heap[p+1+1]?=some (.cells #[.slice a3 n3 c3,.slice a4 n4 c4,.slice a5 n5 c5] t' (0,0))) (A:W.heap[p+1+1+1]?=some (.cells #[.int .i64 x,.int .i64 y,.string ⟨#[]⟩] t2 (0,0))) (o r s:Obj):RdL R (fo W p o c r s) v xs:=by
 unfold fo
 have h1:=za9 hstr h P o
 have e:(W.setB p o).setB (p+1) c=W.setB p o:=ze ((World.setB_get _ _ _ _ (by omega)).trans C)
 rw [e]
 have h2:=za9 hstr h1 ((World.setB_get _ _ _ _ (by omega)).trans Rr) r
 exact ha _ _ _ _ _ _ h2 ((World.setB_get _ _ _ _ (by omega)).trans ((World.setB_get _ _ _ _ (by omega)).trans A)) s
theorem fo_B {w W:World} (B:Below w.heap.size w W) (o c r s:Obj):Below w.heap.size w (fo W w.heap.size o c r s):=by
 unfold fo
 exact zo (zo (zo (zo B (Nat.le_refl _) o) (by omega) c) (by omega) r) (by omega) s
theorem zin {w W w2:World} {o c r s:Obj} (B:Below w.heap.size w W) (Z:w.heap.size+3<W.heap.size) (h:Below (fo W w.heap.size o c r s).heap.size (fo W w.heap.size o c r s) w2):Below w.heap.size w w2/\w2.heap[w.heap.size]?=some o/\w2.heap[w.heap.size+1]?=some c/\w2.heap[w.heap.size+1+1]?=some r/\w2.heap[w.heap.size+1+1+1]?=some s/\w.heap.size+3<w2.heap.size:=by
 have h4:=fo_at Z o c r s
 have hs:=h.size
 rw [zim] at hs
 exact ⟨Below.then (fo_B B o c r s) h,(Grew.below h _ (za h4.1)).trans h4.1,(Grew.below h _ (za h4.2.1)).trans h4.2.1,(Grew.below h _ (za h4.2.2.1)).trans h4.2.2.1,(Grew.below h _ (za h4.2.2.2)).trans h4.2.2.2,by omega⟩
/-! ### five boxes -/
abbrev fv (W:World) (p q:Nat) (o c r s a:Obj):World:=(fo W p o c r s).setB q a
theorem zaQ {W:World} {p q:Nat} {o c r s a:Obj} (P:W.heap[p]?=some o) (C:W.heap[p+1]?=some c) (R:W.heap[p+1+1]?=some r) (A:W.heap[p+1+1+1]?=some s) (Q:W.heap[q]?=some a):((((W.setB p o).setB (p+1) c).setB (p+1+1) r).setB (p+1+1+1) s).setB q a=W:=by
 rw [zlh P C R A,ze Q]
theorem zmo (W:World) (p q:Nat) (o c r s a:Obj):(fv W p q o c r s a).heap.size=W.heap.size:=by
 unfold fv
 rw [zd,zim]
theorem fo_get {W:World} {p q:Nat} (hq:p+3<q) (o c r s:Obj):(fo W p o c r s).heap[q]?=W.heap[q]?:=by
 unfold fo
 rw [World.setB_get _ _ _ _ (by omega),World.setB_get _ _ _ _ (by omega),World.setB_get _ _ _ _ (by omega),World.setB_get _ _ _ _ (by omega)]
theorem fv_at {W:World} {p q:Nat} (h:p+3<q) (hq:q<W.heap.size) (o c r s a:Obj):(fv W p q o c r s a).heap[p]?=some o/\(fv W p q o c r s a).heap[p+1]?=some c/\(fv W p q o c r s a).heap[p+1+1]?=some r/\(fv W p q o c r s a).heap[p+1+1+1]?=some s/\(fv W p q o c r s a).heap[q]?=some a:=by
 have h4:=fo_at (W:=W) (p:=p) (by omega) o c r s
 unfold fv
 refine ⟨?_,?_,?_,?_,?_⟩
 ·rw [World.setB_get _ _ _ _ (by omega)];exact h4.1
 ·rw [World.setB_get _ _ _ _ (by omega)];exact h4.2.1
 ·rw [World.setB_get _ _ _ _ (by omega)];exact h4.2.2.1
 ·rw [World.setB_get _ _ _ _ (by omega)];exact h4.2.2.2
 ·exact World.setB_at _ _ _ (by rw [zim];exact hq)
theorem zF {α : Type} {R:RowOf α} {W:World} {v:Value} {xs:List α} (hstr:∀ u ∈ xs.flatMap R.row,∃ s,u=.string s) (ha:ziy R xs) (h:RdL R W v xs) {p q:Nat} (hq:p+3<q) {a0 a1 a2 a3 a4 a5:Option Addr} {n0 n1 n2 c0 c1 c2 n3 n4 n5 c3 c4 c5:Nat} {t t' t2 t3:TypeId} {x y x2 y2:Int} {c:Obj}
  (P:W.heap[p]?=some (.cells #[.slice a0 n0 c0,.slice a1 n1 c1,.slice a2 n2 c2] t (0,0))) (C:W.heap[p+1]?=some c) (Rr:W.heap[p+1+1]?=some (.cells #[.slice a3 n3 c3,.slice a4 n4 c4,.slice a5 n5 c5] t' (0,0))) (A:W.heap[p+1+1+1]?=some (.cells #[.int .i64 x,.int .i64 y,.string ⟨#[]⟩] t2 (0,0))) (Q:W.heap[q]?=some (.cells #[.int .i64 x2,.int .i64 y2,.string ⟨#[]⟩] t3 (0,0))) (o r s a:Obj):RdL R (fv W p q o c r s a) v xs:=by
 unfold fv
 exact ha _ _ _ _ _ _ (zfx hstr ha h P C Rr A o r s) ((fo_get hq o c r s).trans Q) a
theorem nx5 {W:World} {v0 v1 v2:Value} {cs:List CellD} {rd wr:List ByteArray} (rn:∀ s ∈ rd,s.size ≠ 0) (wn:∀ s ∈ wr,s.size ≠ 0) {p q:Nat} (hq:p+3<q) {a0 a1 a2 a3 a4 a5:Option Addr} {n0 n1 n2 c0 c1 c2 n3 n4 n5 c3 c4 c5:Nat} {t t' t2 t3:TypeId} {x y x2 y2:Int} {c:Obj} (P:W.heap[p]?=some (.cells #[.slice a0 n0 c0,.slice a1 n1 c1,.slice a2 n2 c2] t (0,0))) (C:W.heap[p+1]?=some c) (Rr:W.heap[p+1+1]?=some (.cells #[.slice a3 n3 c3,.slice a4 n4 c4,.slice a5 n5 c5] t' (0,0))) (A:W.heap[p+1+1+1]?=some (.cells #[.int .i64 x,.int .i64 y,.string ⟨#[]⟩] t2 (0,0))) (Q:W.heap[q]?=some (.cells #[.int .i64 x2,.int .i64 y2,.string ⟨#[]⟩] t3 (0,0))) (q0:RdL zu W v0 cs) (q1:RdL zx W v1 rd) (q2:RdL zx W v2 wr) :
  ((((W.setB p (.cells #[.slice a0 n0 c0,.slice a1 n1 c1,.slice a2 n2 c2] t (0,0))).setB (p+1) c).setB (p+1+1) (.cells #[.slice a3 n3 c3,.slice a4 n4 c4,.slice a5 n5 c5] t' (0,0))).setB (p+1+1+1) (.cells #[.int .i64 x,.int .i64 y,.string ⟨#[]⟩] t2 (0,0))).setB q (.cells #[.int .i64 x2,.int .i64 y2,.string ⟨#[]⟩] t3 (0,0))=W ∧ Hid (∀ o r s a,RdL zu (fv W p q o c r s a) v0 cs) ∧ Hid (∀ o r s a,RdL zx (fv W p q o c r s a) v1 rd) ∧ Hid (∀ o r s a,RdL zx (fv W p q o c r s a) v2 wr) ∧ p<W.heap.size ∧ p+1<W.heap.size ∧ p+1+1<W.heap.size ∧ p+1+1+1<W.heap.size ∧ q<W.heap.size :=
 ⟨zaQ P C Rr A Q,fun o r s a=>zF (zf _) (zz _) q0 hq P C Rr A Q o r s a,fun o r s a=>zF (zc _) (zn rn) q1 hq P C Rr A Q o r s a,fun o r s a=>zF (zc _) (zn wn) q2 hq P C Rr A Q o r s a,za P,za C,za Rr,za A,za Q⟩
theorem zdM {w W:World} {q:Nat} (B:Below w.heap.size w W) (hq:w.heap.size+3<q) (o c r s a:Obj):Below w.heap.size w (fv W w.heap.size q o c r s a):=by
 unfold fv
 exact zo (fo_B B o c r s) (by omega) a
theorem z7 {w W w2:World} {q:Nat} {o c r s a:Obj} (B:Below w.heap.size w W) (Z:w.heap.size+3<q) (Zq:q<W.heap.size) (h:Below (fv W w.heap.size q o c r s a).heap.size (fv W w.heap.size q o c r s a) w2):Below w.heap.size w w2/\w2.heap[w.heap.size]?=some o/\w2.heap[w.heap.size+1]?=some c/\w2.heap[w.heap.size+1+1]?=some r/\w2.heap[w.heap.size+1+1+1]?=some s/\w2.heap[q]?=some a/\q<w2.heap.size:=by
 have h4:=fv_at Z Zq o c r s a
 have hs:=h.size
 rw [zmo] at hs
 exact ⟨Below.then (zdM B Z o c r s a) h,(Grew.below h _ (za h4.1)).trans h4.1,(Grew.below h _ (za h4.2.1)).trans h4.2.1,(Grew.below h _ (za h4.2.2.1)).trans h4.2.2.1,(Grew.below h _ (za h4.2.2.2.1)).trans h4.2.2.2.1,(Grew.below h _ (za h4.2.2.2.2)).trans h4.2.2.2.2,by omega⟩
theorem zkK (w:World) (a b c d:Obj) (h:Below w.heap.size w ((((w.alloc a).alloc b).alloc c).alloc d)):Below w.heap.size w ((((w.alloc a).alloc b).alloc c).alloc d)/\((((w.alloc a).alloc b).alloc c).alloc d).heap[w.heap.size]?=some a/\((((w.alloc a).alloc b).alloc c).alloc d).heap[w.heap.size+1]?=some b/\((((w.alloc a).alloc b).alloc c).alloc d).heap[w.heap.size+1+1]?=some c/\((((w.alloc a).alloc b).alloc c).alloc d).heap[w.heap.size+1+1+1]?=some d:=⟨h,heap4s w a b c d w.heap.size rfl⟩
theorem zgd {w W:World} {o c r s:Obj} {v0 v1 v2:Value} {xs:List CellD} {ys zs:List ByteArray} (a:Obj) (B:Below w.heap.size w W) (Z:w.heap.size+3<W.heap.size) (h0:RdL zu (fo W w.heap.size o c r s) v0 xs) (h1:RdL zx (fo W w.heap.size o c r s) v1 ys) (h2:RdL zx (fo W w.heap.size o c r s) v2 zs) :
  Below w.heap.size w ((fo W w.heap.size o c r s).alloc a)/\((fo W w.heap.size o c r s).alloc a).heap[w.heap.size]?=some o/\((fo W w.heap.size o c r s).alloc a).heap[w.heap.size+1]?=some c/\((fo W w.heap.size o c r s).alloc a).heap[w.heap.size+1+1]?=some r/\((fo W w.heap.size o c r s).alloc a).heap[w.heap.size+1+1+1]?=some s/\((fo W w.heap.size o c r s).alloc a).heap[W.heap.size]?=some a /\
   RdL zu ((fo W w.heap.size o c r s).alloc a) v0 xs/\RdL zx ((fo W w.heap.size o c r s).alloc a) v1 ys/\RdL zx ((fo W w.heap.size o c r s).alloc a) v2 zs:=by
 have h4:=fo_at Z o c r s
 refine ⟨(fo_B B o c r s).ofAlloc _,(heap_alloc_old _ _ (za h4.1)).trans h4.1,(heap_alloc_old _ _ (za h4.2.1)).trans h4.2.1,(heap_alloc_old _ _ (za h4.2.2.1)).trans h4.2.2.1,(heap_alloc_old _ _ (za h4.2.2.2)).trans h4.2.2.2,?_,h0.alloc _,h1.alloc _,h2.alloc _⟩
 have h:=heap_alloc_new (fo W w.heap.size o c r s) a
 rw [zim] at h
 exact h
theorem zli (w:World) (a b c d e:Obj) (h:Below w.heap.size w (((((w.alloc a).alloc b).alloc c).alloc d).alloc e)):Below w.heap.size w (((((w.alloc a).alloc b).alloc c).alloc d).alloc e)/\(((((w.alloc a).alloc b).alloc c).alloc d).alloc e).heap[w.heap.size]?=some a/\(((((w.alloc a).alloc b).alloc c).alloc d).alloc e).heap[w.heap.size+1]?=some b/\(((((w.alloc a).alloc b).alloc c).alloc d).alloc e).heap[w.heap.size+1+1]?=some c/\(((((w.alloc a).alloc b).alloc c).alloc d).alloc e).heap[w.heap.size+1+1+1]?=some d/\(((((w.alloc a).alloc b).alloc c).alloc d).alloc e).heap[w.heap.size+1+1+1+1]?=some e:=by
 have h4:=heap4s w a b c d w.heap.size rfl
 have h5:=heap_alloc_new ((((w.alloc a).alloc b).alloc c).alloc d) e
 have hz:((((w.alloc a).alloc b).alloc c).alloc d).heap.size=w.heap.size+1+1+1+1:=by simp
 rw [hz] at h5
 exact ⟨h,(heap_alloc_old _ _ (za h4.1)).trans h4.1,(heap_alloc_old _ _ (za h4.2.1)).trans h4.2.1,(heap_alloc_old _ _ (za h4.2.2.1)).trans h4.2.2.1,(heap_alloc_old _ _ (za h4.2.2.2)).trans h4.2.2.2,h5⟩
theorem zej {α : Type} {R:RowOf α} (hk : 0<R.k) {W:World} {v:Value} {xs:List α} {b:Nat} {o:Obj} (h:RdL R W v xs) (hb:W.heap[b]?=some o) (ho:∀ i,W.cell? ⟨b,i,none⟩=none):xs = [] ∨ v.ownBlock ≠ some b:=by
 by_cases hx:xs = []
 ·exact .inl hx
 ·refine .inr fun hq=>?_
  obtain ⟨ao,cap,rfl,_,_,_,h4⟩:=h.shape
  obtain ⟨b',off,rfl,hb',hc⟩:=h4 hx
  have e:b'=b:=by simpa [Value.ownBlock] using hq
  subst e
  have hl : 0<xs.length:=List.length_pos_iff.2 hx
  obtain ⟨u,hu⟩ : ∃ u,(R.row xs[0])[0]?=some u:=by
   have : 0<(R.row xs[0]).length:=by rw [R.len];exact hk
   exact ⟨_,List.getElem?_eq_getElem this⟩
  have:=hc 0 hl 0 u hu
  rw [ho] at this
  cases this
theorem zeg {α : Type} {R:RowOf α} {W:World} {v:Value} {xs:List α} {b:Nat} (h:RdL R W v xs) (hf:xs = [] ∨ v.ownBlock ≠ some b) (o:Obj):RdL R (W.setB b o) v xs:=by
 rcases hf with rfl|hf
 ·rcases h with h|⟨b,off,cap,hv,h1,h2,h3⟩
  ·exact .inl h
  ·exact .inr ⟨b,off,cap,hv,h1,h2,fun j u hj=>by simp at hj⟩
 ·exact h.setB hf o
theorem zbN {W:World} {b:Nat} {t:TypeId} (h:W.heap[b]?=some (.cells #[] t (0,0))) (i:Nat):W.cell? ⟨b,i,none⟩=none:=by
 rw [zb h]
 simp
theorem zbj {α : Type} {R:RowOf α} (hk : 0<R.k) {W W':World} {v:Value} {xs:List α} {p q:Nat} {c:Obj} (hq:p+3<q) (hs:q<W.heap.size) (H:∀ o r s a,RdL R (fv W p q o c r s a) v xs) (h:RdL R W' v xs) (C:W'.heap[p+1]?=some c) (o r s a:Obj):RdL R (fv W' p q o c r s a) v xs:=by
 have hat:=fv_at hq hs (.cells #[] 0) c (.cells #[] 0) (.cells #[] 0) (.cells #[] 0)
 have h0:=H (.cells #[] 0) (.cells #[] 0) (.cells #[] 0) (.cells #[] 0)
 have f0:=zej hk h0 hat.1 (zbN hat.1)
 have f2:=zej hk h0 hat.2.2.1 (zbN hat.2.2.1)
 have f3:=zej hk h0 hat.2.2.2.1 (zbN hat.2.2.2.1)
 have f4:=zej hk h0 hat.2.2.2.2 (zbN hat.2.2.2.2)
 have e:(W'.setB p o).setB (p+1) c=W'.setB p o:=ze ((World.setB_get _ _ _ _ (by omega)).trans C)
 show RdL R (((((W'.setB p o).setB (p+1) c).setB (p+1+1) r).setB (p+1+1+1) s).setB q a) v xs
 rw [e]
 exact zeg (zeg (zeg (zeg h f0 o) f2 r) f3 s) f4 a
theorem zio {α : Type} {R:RowOf α} (hk : 0<R.k) {W W':World} {v:Value} {xs:List α} {p:Nat} {c:Obj} (hs:p+3<W.heap.size) (H:∀ o r s,RdL R (fo W p o c r s) v xs) (h:RdL R W' v xs) (C:W'.heap[p+1]?=some c) (o r s:Obj):RdL R (fo W' p o c r s) v xs:=by
 have hat:=fo_at hs (.cells #[] 0) c (.cells #[] 0) (.cells #[] 0)
 have h0:=H (.cells #[] 0) (.cells #[] 0) (.cells #[] 0)
 have f0:=zej hk h0 hat.1 (zbN hat.1)
 have f2:=zej hk h0 hat.2.2.1 (zbN hat.2.2.1)
 have f3:=zej hk h0 hat.2.2.2 (zbN hat.2.2.2)
 have e:(W'.setB p o).setB (p+1) c=W'.setB p o:=ze ((World.setB_get _ _ _ _ (by omega)).trans C)
 show RdL R ((((W'.setB p o).setB (p+1) c).setB (p+1+1) r).setB (p+1+1+1) s) v xs
 rw [e]
 exact zeg (zeg (zeg h f0 o) f2 r) f3 s
theorem fv_more {w W:World} {q:Nat} {o c r s a:Obj} {v0 v1 v2:Value} {xs:List CellD} {ys zs:List ByteArray} (x:Obj) (B:Below w.heap.size w W) (Z:w.heap.size+3<q) (Zq:q<W.heap.size) (h0:RdL zu (fv W w.heap.size q o c r s a) v0 xs) (h1:RdL zx (fv W w.heap.size q o c r s a) v1 ys) (h2:RdL zx (fv W w.heap.size q o c r s a) v2 zs) :
  Below w.heap.size w ((fv W w.heap.size q o c r s a).alloc x)/\((fv W w.heap.size q o c r s a).alloc x).heap[w.heap.size]?=some o/\((fv W w.heap.size q o c r s a).alloc x).heap[w.heap.size+1]?=some c/\((fv W w.heap.size q o c r s a).alloc x).heap[w.heap.size+1+1]?=some r/\((fv W w.heap.size q o c r s a).alloc x).heap[w.heap.size+1+1+1]?=some s/\((fv W w.heap.size q o c r s a).alloc x).heap[q]?=some a /\
   RdL zu ((fv W w.heap.size q o c r s a).alloc x) v0 xs/\RdL zx ((fv W w.heap.size q o c r s a).alloc x) v1 ys/\RdL zx ((fv W w.heap.size q o c r s a).alloc x) v2 zs:=by
 have h4:=fv_at Z Zq o c r s a
 exact ⟨(zdM B Z o c r s a).ofAlloc _,(heap_alloc_old _ _ (za h4.1)).trans h4.1,(heap_alloc_old _ _ (za h4.2.1)).trans h4.2.1,(heap_alloc_old _ _ (za h4.2.2.1)).trans h4.2.2.1,(heap_alloc_old _ _ (za h4.2.2.2.1)).trans h4.2.2.2.1,(heap_alloc_old _ _ (za h4.2.2.2.2)).trans h4.2.2.2.2,h0.alloc _,h1.alloc _,h2.alloc _⟩
theorem zdi (c:CallD) (hnz:c.name.size<=20) (htz:c.text.size<=64) (ha0 : -9223372036854775808<=c.a) (ha1:c.a<=9223372036854775807) (hb0 : -9223372036854775808<=c.b) (hb1:c.b<=9223372036854775807):SC 120 (fun x=>#[x,zaM c]) (K.doFile c) (fun v' a=>.tuple #[v',zdc a]):=by
 obtain ⟨kd,nm,tn,ca,cb,tx⟩:=c
 dsimp only at hnz htz ha0 ha1 hb0 hb1
 refine zeq (fun w m a0 c0 a1 c1 a2 c2 res mres H0 H1 H2 HL=>?_)
 unfold K.doFile at HL
 unfold zaM
 dsimp only at HL ⊢
 go_enter Tryz.func120,Tryz.ntmps120
 (try simp only [])
 ((repeat (first|((with_reducible refine zcK (fun W0=>Below w.heap.size w W0/\W0.heap[w.heap.size]?=some (.cells #[.slice a0 m.cells.length c0,.slice a1 m.rd.length c1,.slice a2 m.wr.length c2] 54)/\W0.heap[w.heap.size+1]?=some (.cells #[.int .i64 kd,.string nm,.string tn,.int .i64 ca,.int .i64 cb,.string tx] 26)/\W0.heap[w.heap.size+1+1]?=some (.cells #[.slice none 0 0,.slice none 0 0,.slice none 0 0] 54)/\W0.heap[w.heap.size+1+1+1]?=some (.cells #[.int .i64 0,.int .i64 0,.string ⟨#[]⟩] 30)) ?_ ?_);(· with_reducible exact zkK w (.cells #[.slice a0 m.cells.length c0,.slice a1 m.rd.length c1,.slice a2 m.wr.length c2] 54) (.cells #[.int .i64 kd,.string nm,.string tn,.int .i64 ca,.int .i64 cb,.string tx] 26) (.cells #[.slice none 0 0,.slice none 0 0,.slice none 0 0] 54) (.cells #[.int .i64 0,.int .i64 0,.string ⟨#[]⟩] 30) (by repeat (first|with_reducible exact Below.refl _ _|with_reducible apply Below.ofAlloc))))|go_skip|go_guarded|go_step|go_upon|go_back));have HSM:=Hd (Mp.fits_small HL.out.1);rintro w1 ⟨B,P,C,R,A⟩;have q0:=H0.out.below B;have q1:=H1.out.below B;have q2:=H2.out.below B;clear H0 H1 H2;(have e1:=zlh P C R A;rw [<- e1];clear e1;have HW0:=Hd (fun o r s=>zfx (zf _) (zz _) q0 P C R A o r s);have HW1:=Hd (fun o r s=>zfx (zc _) (zn HSM.out.rn) q1 P C R A o r s);have HW2:=Hd (fun o r s=>zfx (zc _) (zn HSM.out.wn) q2 P C R A o r s);(have y0:=za P;have y1:=za C;have y2:=za R;have y3:=za A);clear P C R A q0 q1 q2))
 (repeat (first|go_skip|go_guarded|go_step|go_upon|go_back))
 (((go_at_call 178;refine (SC.use (zbd _ (by omega)) (fun a=>0<=a/\a<=999) (fun m _=>zbf _ m) (by first|exact HL.out|exact HL.out.last) (⟨_,_,_,rfl,HW0.out _ _ _,HW1.out _ _ _,HW2.out _ _ _⟩ : MRd _ _ _)).mono ?_));((rintro e w2 ⟨v2,x,m2,rfl,hx,hm,hb,HL2⟩);obtain ⟨b0,d0,b1,d1,b2,d2,rfl,q0,q1,q2⟩:=hm.form;obtain ⟨B',P,C,R,A,Z⟩:=zin B (by omega) hb;clear hm hb HW0 HW1 HW2 B HSM y0 y1 y2 y3;have B:=B';clear B';have HSM:=Hd (Mp.fits_small HL2.1);(have e1:=zlh P C R A;rw [<- e1];clear e1;have HW0:=Hd (fun o r s=>zfx (zf _) (zz _) q0 P C R A o r s);have HW1:=Hd (fun o r s=>zfx (zc _) (zn HSM.out.rn) q1 P C R A o r s);have HW2:=Hd (fun o r s=>zfx (zc _) (zn HSM.out.wn) q2 P C R A o r s);(have y0:=za P;have y1:=za C;have y2:=za R;have y3:=za A);clear P C R A q0 q1 q2;(try simp only []));clear HL;have HL:=Hd HL2;clear HL2))
 ((repeat' ((rcases HL.out.ite with ⟨hg,HL2⟩|⟨hg,HL2⟩<;>(clear HL;have HL:=Hd HL2;clear HL2)))))
 ·(repeat (first|go_skip|go_guarded|go_step|go_upon|go_back))
  obtain ⟨rfl,rfl⟩:=HL.out.end
  refine bodyPost_ret (by simp [results,Tryz.results120,go_sem,y0,y1,y2,y3];rfl) rfl ?_
  exact ⟨_,rfl,⟨_,_,_,rfl,HW0.out _ _ _,HW1.out _ _ _,HW2.out _ _ _⟩,fo_B B _ _ _ _⟩
 ·have hk:=beq_iff_eq.2 hg
  clear hg
  ((repeat (first|(with_reducible refine zcK (fun W0=>Below w.heap.size w W0/\W0.heap[w.heap.size]?=some (.cells #[.slice b0 m2.cells.length d0,.slice b1 m2.rd.length d1,.slice b2 m2.wr.length d2] 54)/\W0.heap[w.heap.size+1]?=some (.cells #[.int .i64 kd,.string nm,.string tn,.int .i64 ca,.int .i64 cb,.string tx] 26)/\W0.heap[w.heap.size+1+1]?=some (.cells #[.slice none 0 0,.slice none 0 0,.slice none 0 0] 54)/\W0.heap[w.heap.size+1+1+1]?=some (.cells #[.int .i64 0,.int .i64 0,.string ⟨#[]⟩] 30)/\W0.heap[w2.heap.size]?=some (.cells #[.int .i64 0,.int .i64 0,.string ⟨#[]⟩] 30)/\RdL zu W0 (.slice b0 m2.cells.length d0) m2.cells/\RdL zx W0 (.slice b1 m2.rd.length d1) m2.rd/\RdL zx W0 (.slice b2 m2.wr.length d2) m2.wr) ?_ ?_;(· with_reducible exact zgd _ B Z (HW0.out _ _ _) (HW1.out _ _ _) (HW2.out _ _ _)))|go_skip|go_guarded|go_step|go_upon|go_back));rintro w3 ⟨B',P,C,R,A,Q,q0,q1,q2⟩;clear HW0 HW1 HW2 B y0 y1 y2 y3;have B:=B';have Z4:=Z;clear B' Z;generalize w2.heap.size=q at Z4 Q ⊢;(have n0:¬ w.heap.size=q:=by omega);(have n0':¬ q=w.heap.size:=by omega);(have n1:¬ w.heap.size+1=q:=by omega);(have n1':¬ q=w.heap.size+1:=by omega);(have n2:¬ w.heap.size+1+1=q:=by omega);(have n2':¬ q=w.heap.size+1+1:=by omega);(have n3:¬ w.heap.size+1+1+1=q:=by omega);(have n3':¬ q=w.heap.size+1+1+1:=by omega);(have e1:=zaQ P C R A Q;rw [<- e1];clear e1;have HW0:=Hd (fun o r s a=>zF (zf _) (zz _) q0 Z4 P C R A Q o r s a);have HW1:=Hd (fun o r s a=>zF (zc _) (zn HSM.out.rn) q1 Z4 P C R A Q o r s a);have HW2:=Hd (fun o r s a=>zF (zc _) (zn HSM.out.wn) q2 Z4 P C R A Q o r s a);((have y0:=za P;have y1:=za C;have y2:=za R;have y3:=za A);have yq:=za Q);clear P C R A Q q0 q1 q2))
  (repeat (first|go_skip|go_guarded|go_step|go_upon|go_back))
  (((go_at_call 185;refine (SC.use (zfW _ (by omega) (by omega) _ (by omega) (by omega) _ (by omega) (by omega)) (fun _=>True) (fun _ _=>trivial) (by first|exact HL.out|exact HL.out.last) (⟨_,_,_,rfl,HW0.out _ _ _ _,HW1.out _ _ _ _,HW2.out _ _ _ _⟩ : MRd _ _ _)).mono ?_));((rintro e w2 ⟨v2,x,m2,rfl,hx,hm,hb,HL2⟩);obtain ⟨b0,d0,b1,d1,b2,d2,rfl,q0,q1,q2⟩:=hm.form;obtain ⟨B',P,C,R,A,Q,Z'⟩:=z7 B Z4 yq hb;clear hm hb HW0 HW1 HW2 B HSM y0 y1 y2 y3 yq Z';have B:=B';clear B';have HSM:=Hd (Mp.fits_small HL2.1);(have e1:=zaQ P C R A Q;rw [<- e1];clear e1;have HW0:=Hd (fun o r s a=>zF (zf _) (zz _) q0 Z4 P C R A Q o r s a);have HW1:=Hd (fun o r s a=>zF (zc _) (zn HSM.out.rn) q1 Z4 P C R A Q o r s a);have HW2:=Hd (fun o r s a=>zF (zc _) (zn HSM.out.wn) q2 Z4 P C R A Q o r s a);((have y0:=za P;have y1:=za C;have y2:=za R;have y3:=za A);have yq:=za Q);clear P C R A Q q0 q1 q2;(try simp only []));clear HL;have HL:=Hd HL2;clear HL2))
  (repeat (first|go_skip|go_guarded|go_step|go_upon|go_back))
  go_region
  all_goals (repeat (first|go_skip|go_guarded|go_step|go_upon|go_back))
  all_goals (obtain ⟨rfl,rfl⟩:=HL.out.end;refine bodyPost_ret (by simp [results,Tryz.results120,go_sem,y0,y1,y2,y3,yq,n0,n0',n1,n1',n2,n2',n3,n3'];rfl) rfl ?_;(exact ⟨_,rfl,⟨_,_,_,rfl,RdL.drew (HW0.out _ _ _ _),RdL.drew (HW1.out _ _ _ _),RdL.drew (HW2.out _ _ _ _)⟩,Below.drew (zdM B Z4 _ _ _ _ _)⟩))
 ·have hk:=beq_iff_eq.2 hg
  clear hg
  ((repeat (first|(with_reducible refine zcK (fun W0=>Below w.heap.size w W0/\W0.heap[w.heap.size]?=some (.cells #[.slice b0 m2.cells.length d0,.slice b1 m2.rd.length d1,.slice b2 m2.wr.length d2] 54)/\W0.heap[w.heap.size+1]?=some (.cells #[.int .i64 kd,.string nm,.string tn,.int .i64 ca,.int .i64 cb,.string tx] 26)/\W0.heap[w.heap.size+1+1]?=some (.cells #[.slice none 0 0,.slice none 0 0,.slice none 0 0] 54)/\W0.heap[w.heap.size+1+1+1]?=some (.cells #[.int .i64 0,.int .i64 0,.string ⟨#[]⟩] 30)/\W0.heap[w2.heap.size]?=some (.cells #[.int .i64 0,.int .i64 0,.string ⟨#[]⟩] 30)/\RdL zu W0 (.slice b0 m2.cells.length d0) m2.cells/\RdL zx W0 (.slice b1 m2.rd.length d1) m2.rd/\RdL zx W0 (.slice b2 m2.wr.length d2) m2.wr) ?_ ?_;(· with_reducible exact zgd _ B Z (HW0.out _ _ _) (HW1.out _ _ _) (HW2.out _ _ _)))|go_skip|go_guarded|go_step|go_upon|go_back));rintro w3 ⟨B',P,C,R,A,Q,q0,q1,q2⟩;clear HW0 HW1 HW2 B y0 y1 y2 y3;have B:=B';have Z4:=Z;clear B' Z;generalize w2.heap.size=q at Z4 Q ⊢;(have n0:¬ w.heap.size=q:=by omega);(have n0':¬ q=w.heap.size:=by omega);(have n1:¬ w.heap.size+1=q:=by omega);(have n1':¬ q=w.heap.size+1:=by omega);(have n2:¬ w.heap.size+1+1=q:=by omega);(have n2':¬ q=w.heap.size+1+1:=by omega);(have n3:¬ w.heap.size+1+1+1=q:=by omega);(have n3':¬ q=w.heap.size+1+1+1:=by omega);(have e1:=zaQ P C R A Q;rw [<- e1];clear e1;have HW0:=Hd (fun o r s a=>zF (zf _) (zz _) q0 Z4 P C R A Q o r s a);have HW1:=Hd (fun o r s a=>zF (zc _) (zn HSM.out.rn) q1 Z4 P C R A Q o r s a);have HW2:=Hd (fun o r s a=>zF (zc _) (zn HSM.out.wn) q2 Z4 P C R A Q o r s a);((have y0:=za P;have y1:=za C;have y2:=za R;have y3:=za A);have yq:=za Q);clear P C R A Q q0 q1 q2))
  (repeat (first|go_skip|go_guarded|go_step|go_upon|go_back))
  (((go_at_call 186;refine (SC.use (zfj _ (by omega) (by omega) _ (by omega) (by omega) _ (by omega)) (fun _=>True) (fun _ _=>trivial) (by first|exact HL.out|exact HL.out.last) (⟨_,_,_,rfl,HW0.out _ _ _ _,HW1.out _ _ _ _,HW2.out _ _ _ _⟩ : MRd _ _ _)).mono ?_));((rintro e w2 ⟨v2,x,m2,rfl,hx,hm,hb,HL2⟩);obtain ⟨b0,d0,b1,d1,b2,d2,rfl,q0,q1,q2⟩:=hm.form;obtain ⟨B',P,C,R,A,Q,Z'⟩:=z7 B Z4 yq hb;clear hm hb HW0 HW1 HW2 B HSM y0 y1 y2 y3 yq Z';have B:=B';clear B';have HSM:=Hd (Mp.fits_small HL2.1);(have e1:=zaQ P C R A Q;rw [<- e1];clear e1;have HW0:=Hd (fun o r s a=>zF (zf _) (zz _) q0 Z4 P C R A Q o r s a);have HW1:=Hd (fun o r s a=>zF (zc _) (zn HSM.out.rn) q1 Z4 P C R A Q o r s a);have HW2:=Hd (fun o r s a=>zF (zc _) (zn HSM.out.wn) q2 Z4 P C R A Q o r s a);((have y0:=za P;have y1:=za C;have y2:=za R;have y3:=za A);have yq:=za Q);clear P C R A Q q0 q1 q2;(try simp only []));clear HL;have HL:=Hd HL2;clear HL2))
  (repeat (first|go_skip|go_guarded|go_step|go_upon|go_back))
  go_region
  all_goals (repeat (first|go_skip|go_guarded|go_step|go_upon|go_back))
  all_goals (obtain ⟨rfl,rfl⟩:=HL.out.end;refine bodyPost_ret (by simp [results,Tryz.results120,go_sem,y0,y1,y2,y3,yq,n0,n0',n1,n1',n2,n2',n3,n3'];rfl) rfl ?_;(exact ⟨_,rfl,⟨_,_,_,rfl,RdL.drew (HW0.out _ _ _ _),RdL.drew (HW1.out _ _ _ _),RdL.drew (HW2.out _ _ _ _)⟩,Below.drew (zdM B Z4 _ _ _ _ _)⟩))
 ·((repeat (first|(with_reducible refine zcK (fun W0=>Below w.heap.size w W0/\W0.heap[w.heap.size]?=some (.cells #[.slice b0 m2.cells.length d0,.slice b1 m2.rd.length d1,.slice b2 m2.wr.length d2] 54)/\W0.heap[w.heap.size+1]?=some (.cells #[.int .i64 kd,.string nm,.string tn,.int .i64 ca,.int .i64 cb,.string tx] 26)/\W0.heap[w.heap.size+1+1]?=some (.cells #[.slice none 0 0,.slice none 0 0,.slice none 0 0] 54)/\W0.heap[w.heap.size+1+1+1]?=some (.cells #[.int .i64 0,.int .i64 0,.string ⟨#[]⟩] 30)/\W0.heap[w2.heap.size]?=some (.cells #[.int .i64 0,.int .i64 0,.string ⟨#[]⟩] 30)/\RdL zu W0 (.slice b0 m2.cells.length d0) m2.cells/\RdL zx W0 (.slice b1 m2.rd.length d1) m2.rd/\RdL zx W0 (.slice b2 m2.wr.length d2) m2.wr) ?_ ?_;(· with_reducible exact zgd _ B Z (HW0.out _ _ _) (HW1.out _ _ _) (HW2.out _ _ _)))|go_skip|go_guarded|go_step|go_upon|go_back));rintro w3 ⟨B',P,C,R,A,Q,q0,q1,q2⟩;clear HW0 HW1 HW2 B y0 y1 y2 y3;have B:=B';have Z4:=Z;clear B' Z;generalize w2.heap.size=q at Z4 Q ⊢;(have n0:¬ w.heap.size=q:=by omega);(have n0':¬ q=w.heap.size:=by omega);(have n1:¬ w.heap.size+1=q:=by omega);(have n1':¬ q=w.heap.size+1:=by omega);(have n2:¬ w.heap.size+1+1=q:=by omega);(have n2':¬ q=w.heap.size+1+1:=by omega);(have n3:¬ w.heap.size+1+1+1=q:=by omega);(have n3':¬ q=w.heap.size+1+1+1:=by omega);(have e1:=zaQ P C R A Q;rw [<- e1];clear e1;have HW0:=Hd (fun o r s a=>zF (zf _) (zz _) q0 Z4 P C R A Q o r s a);have HW1:=Hd (fun o r s a=>zF (zc _) (zn HSM.out.rn) q1 Z4 P C R A Q o r s a);have HW2:=Hd (fun o r s a=>zF (zc _) (zn HSM.out.wn) q2 Z4 P C R A Q o r s a);((have y0:=za P;have y1:=za C;have y2:=za R;have y3:=za A);have yq:=za Q);clear P C R A Q q0 q1 q2))
  (repeat (first|go_skip|go_guarded|go_step|go_upon|go_back))
  (((go_at_call 187;refine (SC.use (zgs _ (by omega) (by omega) _ (by omega) (by omega)) (fun _=>True) (fun _ _=>trivial) (by first|exact HL.out|exact HL.out.last) (⟨_,_,_,rfl,HW0.out _ _ _ _,HW1.out _ _ _ _,HW2.out _ _ _ _⟩ : MRd _ _ _)).mono ?_));((rintro e w2 ⟨v2,x,m2,rfl,hx,hm,hb,HL2⟩);obtain ⟨b0,d0,b1,d1,b2,d2,rfl,q0,q1,q2⟩:=hm.form;obtain ⟨B',P,C,R,A,Q,Z'⟩:=z7 B Z4 yq hb;clear hm hb HW0 HW1 HW2 B HSM y0 y1 y2 y3 yq Z';have B:=B';clear B';have HSM:=Hd (Mp.fits_small HL2.1);(have e1:=zaQ P C R A Q;rw [<- e1];clear e1;have HW0:=Hd (fun o r s a=>zF (zf _) (zz _) q0 Z4 P C R A Q o r s a);have HW1:=Hd (fun o r s a=>zF (zc _) (zn HSM.out.rn) q1 Z4 P C R A Q o r s a);have HW2:=Hd (fun o r s a=>zF (zc _) (zn HSM.out.wn) q2 Z4 P C R A Q o r s a);((have y0:=za P;have y1:=za C;have y2:=za R;have y3:=za A);have yq:=za Q);clear P C R A Q q0 q1 q2;(try simp only []));clear HL;have HL:=Hd HL2;clear HL2))
  (repeat (first|go_skip|go_guarded|go_step|go_upon|go_back))
  go_region
  all_goals (repeat (first|go_skip|go_guarded|go_step|go_upon|go_back))
  all_goals (obtain ⟨rfl,rfl⟩:=HL.out.end;refine bodyPost_ret (by simp [results,Tryz.results120,go_sem,y0,y1,y2,y3,yq,n0,n0',n1,n1',n2,n2',n3,n3'];rfl) rfl ?_;(exact ⟨_,rfl,⟨_,_,_,rfl,RdL.drew (HW0.out _ _ _ _),RdL.drew (HW1.out _ _ _ _),RdL.drew (HW2.out _ _ _ _)⟩,Below.drew (zdM B Z4 _ _ _ _ _)⟩))
end Go.Proofs.YtpnoehpmgflibaaGreatDoor
