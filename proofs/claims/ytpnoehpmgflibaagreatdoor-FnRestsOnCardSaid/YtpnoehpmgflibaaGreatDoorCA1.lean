/- Texts of this claim, merged: the walks and what they stand on. Each condition stands in its theorem. -/
import Derived.OpenShut
import Derived.OrdersHeld
import Derived.ProofKit
import Derived.Test.YtpnoehpmgflibaaGreatDoorRows
import Derived.WalkKit
import Derived.WalkLawsBesides
import Derived.WalkSpells
set_option linter.unusedVariables false
set_option linter.unusedSimpArgs false
set_option maxRecDepth 100000
set_option maxHeartbeats 8000000
namespace Go.Proofs.YtpnoehpmgflibaaGreatDoor
open Go.ChangeShapes Go.WideShapes Go.ChangeAt Go.RowKit
theorem Tryz.own:ownKnob Tryz.prog.godebug=none:=by kernel_rfl
theorem Tryz.laidOut:laidOutB Tryz.prog=true:=by kernel_rfl
def Yes (W:World):Ending->World->Prop:=fun e W'=>e=.returned (.bool true)/\Below W.heap.size W W'
theorem zex {H:Type} {enc:TypeId × Value->H} {P:Program} (hl:laidOutB P=true) {W W':World} (hb:Below W.heap.size W W') :
  ∀ (ts:List TypeId) (vs:List Value) (ds:List (DataW H)) (ps:List MemPlace),(∀ t ∈ ts,P.readableRec t=true/\t<P.types.size) ->
   (∀ x ∈ ps,x.block<W.heap.size)->DataW.TrodAll enc P W 0 (fun _=>true) true ts vs ds ps ->
   DataW.TrodAll enc P W' 0 (fun b=>decide (b<W.heap.size)) true ts vs ds ps
 | [],[],[],_,_,_,h=>h
 | t :: ts,v :: vs,d :: ds,_,hr,hlt,⟨p,q,h1,h2,e⟩=>by
  subst e
  exact ⟨p,q,Below.trod hl (hr t (by simp)).1 (hr t (by simp)).2 h1 hb (fun x hx=>hlt x (by simp [hx])),
   zex hl hb ts vs ds q (fun t ht=>hr t (by simp [ht])) (fun x hx=>hlt x (by simp [hx])) h2,rfl⟩
 | [],_ :: _,_,_,_,_,h=>h.elim
 | [],[],_ :: _,_,_,_,h=>h.elim
 | _ :: _,[],_,_,_,_,h=>h.elim
 | _ :: _,_ :: _,[],_,_,_,h=>h.elim
theorem law_post {H:Type} {enc:TypeId × Value->H} {P:Program} (hl:laidOutB P=true) {f:Func} {s:ChangeSpec} {W W':World} {args:Array Value} {ds gs:List (DataW H)} {before:List MemPlace}
  (hW:DataW.Whole enc P f.params.toList s.vars false W args.toList ds gs before) (hv:s.vars = [])
  (hr:∀ t ∈ f.params.toList,P.readableRec t=true/\t<P.types.size)
  (hres:DataW.TrodAll enc P W' W.heap.size (fun _=>false) false f.resultTypes.toList ((Value.bool true).resultList f.resultTypes.size) (s.fn H (ds++gs)).results [])
  (hargs:(s.fn H (ds++gs)).args=ds) (hvars:(s.fn H (ds++gs)).vars = []) (hb:Below W.heap.size W W') :
  s.post enc P f false true false false W args (.bool true) W':=by
 have hW':=hW
 obtain ⟨p,q,hA,hV,hpq,_,_⟩:=hW'
 rw [hv] at hV
 have hq:gs = []/\q = []:=by
  cases gs with
  | nil=>exact ⟨rfl,hV⟩
  | cons g gs=>exact hV.elim
 obtain ⟨rfl,rfl⟩:=hq
 simp only [List.append_nil] at hpq
 subst hpq
 refine ⟨ds,[],before,[],before,[],hW,hres,?_,?_,hb.frame _,fun h=>by cases h⟩
 ·rw [hargs]
  exact zex hl hb _ _ _ _ hr (fun x hx=>hW.lt x hx) hA
 ·rw [hv,hvars]
  rfl
end Go.Proofs.YtpnoehpmgflibaaGreatDoor
namespace Go
open Go.RowKit
theorem Hd {p:Prop} (h:p):Hid p:=h
structure Ext where
 bs:Array Obj
 dr:Nat
instance:Inhabited Ext:=⟨⟨#[],0⟩⟩
def World.ext (w:World) (X:Ext):World:={ w with heap:=w.heap++X.bs,drawn:=X.dr }
/- sums of the walk: a block stands below every later heap size; two blocks differ -/
@[go_sem] theorem sum_lt0 (a  : Nat):(a<a+1)=True:=eq_true (by omega)
@[go_sem] theorem sum_ne0 (a  : Nat):(a=a+1)=False:=eq_false (by omega)
@[go_sem] theorem sum_en0 (a  : Nat):(a+1=a)=False:=eq_false (by omega)
@[go_sem] theorem sum_lt1 (a x0:Nat):(a<a+1+x0)=True:=eq_true (by omega)
@[go_sem] theorem sum_ne1 (a x0:Nat):(a=a+1+x0)=False:=eq_false (by omega)
@[go_sem] theorem sum_en1 (a x0:Nat):(a+1+x0=a)=False:=eq_false (by omega)
@[go_sem] theorem sum_le1 (a x0:Nat):(a<=a+x0)=True:=eq_true (by omega)
@[go_sem] theorem sum_lt2 (a x0 x1:Nat):(a<a+1+x0+x1)=True:=eq_true (by omega)
@[go_sem] theorem sum_ne2 (a x0 x1:Nat):(a=a+1+x0+x1)=False:=eq_false (by omega)
@[go_sem] theorem sum_en2 (a x0 x1:Nat):(a+1+x0+x1=a)=False:=eq_false (by omega)
@[go_sem] theorem sum_le2 (a x0 x1:Nat):(a<=a+x0+x1)=True:=eq_true (by omega)
@[go_sem] theorem sum_lt3 (a x0 x1 x2:Nat):(a<a+1+x0+x1+x2)=True:=eq_true (by omega)
@[go_sem] theorem sum_ne3 (a x0 x1 x2:Nat):(a=a+1+x0+x1+x2)=False:=eq_false (by omega)
@[go_sem] theorem sum_en3 (a x0 x1 x2:Nat):(a+1+x0+x1+x2=a)=False:=eq_false (by omega)
@[go_sem] theorem sum_le3 (a x0 x1 x2:Nat):(a<=a+x0+x1+x2)=True:=eq_true (by omega)
@[go_sem] theorem sum_lt4 (a x0 x1 x2 x3:Nat):(a<a+1+x0+x1+x2+x3)=True:=eq_true (by omega)
@[go_sem] theorem sum_ne4 (a x0 x1 x2 x3:Nat):(a=a+1+x0+x1+x2+x3)=False:=eq_false (by omega)
@[go_sem] theorem sum_en4 (a x0 x1 x2 x3:Nat):(a+1+x0+x1+x2+x3=a)=False:=eq_false (by omega)
@[go_sem] theorem sum_le4 (a x0 x1 x2 x3:Nat):(a<=a+x0+x1+x2+x3)=True:=eq_true (by omega)
@[go_sem] theorem sum_lt5 (a x0 x1 x2 x3 x4:Nat):(a<a+1+x0+x1+x2+x3+x4)=True:=eq_true (by omega)
@[go_sem] theorem sum_ne5 (a x0 x1 x2 x3 x4:Nat):(a=a+1+x0+x1+x2+x3+x4)=False:=eq_false (by omega)
@[go_sem] theorem sum_en5 (a x0 x1 x2 x3 x4:Nat):(a+1+x0+x1+x2+x3+x4=a)=False:=eq_false (by omega)
@[go_sem] theorem sum_le5 (a x0 x1 x2 x3 x4:Nat):(a<=a+x0+x1+x2+x3+x4)=True:=eq_true (by omega)
@[go_sem] theorem sum_lt6 (a x0 x1 x2 x3 x4 x5:Nat):(a<a+1+x0+x1+x2+x3+x4+x5)=True:=eq_true (by omega)
@[go_sem] theorem sum_ne6 (a x0 x1 x2 x3 x4 x5:Nat):(a=a+1+x0+x1+x2+x3+x4+x5)=False:=eq_false (by omega)
@[go_sem] theorem sum_en6 (a x0 x1 x2 x3 x4 x5:Nat):(a+1+x0+x1+x2+x3+x4+x5=a)=False:=eq_false (by omega)
@[go_sem] theorem sum_le6 (a x0 x1 x2 x3 x4 x5:Nat):(a<=a+x0+x1+x2+x3+x4+x5)=True:=eq_true (by omega)
@[go_sem] theorem sum_lt7 (a x0 x1 x2 x3 x4 x5 x6:Nat):(a<a+1+x0+x1+x2+x3+x4+x5+x6)=True:=eq_true (by omega)
@[go_sem] theorem sum_ne7 (a x0 x1 x2 x3 x4 x5 x6:Nat):(a=a+1+x0+x1+x2+x3+x4+x5+x6)=False:=eq_false (by omega)
@[go_sem] theorem sum_en7 (a x0 x1 x2 x3 x4 x5 x6:Nat):(a+1+x0+x1+x2+x3+x4+x5+x6=a)=False:=eq_false (by omega)
@[go_sem] theorem sum_le7 (a x0 x1 x2 x3 x4 x5 x6:Nat):(a<=a+x0+x1+x2+x3+x4+x5+x6)=True:=eq_true (by omega)
@[go_sem] theorem sum_lt8 (a x0 x1 x2 x3 x4 x5 x6 x7:Nat):(a<a+1+x0+x1+x2+x3+x4+x5+x6+x7)=True:=eq_true (by omega)
@[go_sem] theorem sum_ne8 (a x0 x1 x2 x3 x4 x5 x6 x7:Nat):(a=a+1+x0+x1+x2+x3+x4+x5+x6+x7)=False:=eq_false (by omega)
@[go_sem] theorem sum_en8 (a x0 x1 x2 x3 x4 x5 x6 x7:Nat):(a+1+x0+x1+x2+x3+x4+x5+x6+x7=a)=False:=eq_false (by omega)
@[go_sem] theorem sum_le8 (a x0 x1 x2 x3 x4 x5 x6 x7:Nat):(a<=a+x0+x1+x2+x3+x4+x5+x6+x7)=True:=eq_true (by omega)
@[go_sem] theorem sum_lt9 (a x0 x1 x2 x3 x4 x5 x6 x7 x8:Nat):(a<a+1+x0+x1+x2+x3+x4+x5+x6+x7+x8)=True:=eq_true (by omega)
@[go_sem] theorem sum_ne9 (a x0 x1 x2 x3 x4 x5 x6 x7 x8:Nat):(a=a+1+x0+x1+x2+x3+x4+x5+x6+x7+x8)=False:=eq_false (by omega)
@[go_sem] theorem sum_en9 (a x0 x1 x2 x3 x4 x5 x6 x7 x8:Nat):(a+1+x0+x1+x2+x3+x4+x5+x6+x7+x8=a)=False:=eq_false (by omega)
@[go_sem] theorem sum_le9 (a x0 x1 x2 x3 x4 x5 x6 x7 x8:Nat):(a<=a+x0+x1+x2+x3+x4+x5+x6+x7+x8)=True:=eq_true (by omega)
@[go_sem] theorem sum_lt10 (a x0 x1 x2 x3 x4 x5 x6 x7 x8 x9:Nat):(a<a+1+x0+x1+x2+x3+x4+x5+x6+x7+x8+x9)=True:=eq_true (by omega)
@[go_sem] theorem sum_ne10 (a x0 x1 x2 x3 x4 x5 x6 x7 x8 x9:Nat):(a=a+1+x0+x1+x2+x3+x4+x5+x6+x7+x8+x9)=False:=eq_false (by omega)
@[go_sem] theorem sum_en10 (a x0 x1 x2 x3 x4 x5 x6 x7 x8 x9:Nat):(a+1+x0+x1+x2+x3+x4+x5+x6+x7+x8+x9=a)=False:=eq_false (by omega)
@[go_sem] theorem sum_le10 (a x0 x1 x2 x3 x4 x5 x6 x7 x8 x9:Nat):(a<=a+x0+x1+x2+x3+x4+x5+x6+x7+x8+x9)=True:=eq_true (by omega)
@[go_sem] theorem sum_lt11 (a x0 x1 x2 x3 x4 x5 x6 x7 x8 x9 x10:Nat):(a<a+1+x0+x1+x2+x3+x4+x5+x6+x7+x8+x9+x10)=True:=eq_true (by omega)
@[go_sem] theorem sum_ne11 (a x0 x1 x2 x3 x4 x5 x6 x7 x8 x9 x10:Nat):(a=a+1+x0+x1+x2+x3+x4+x5+x6+x7+x8+x9+x10)=False:=eq_false (by omega)
@[go_sem] theorem sum_en11 (a x0 x1 x2 x3 x4 x5 x6 x7 x8 x9 x10:Nat):(a+1+x0+x1+x2+x3+x4+x5+x6+x7+x8+x9+x10=a)=False:=eq_false (by omega)
@[go_sem] theorem sum_le11 (a x0 x1 x2 x3 x4 x5 x6 x7 x8 x9 x10:Nat):(a<=a+x0+x1+x2+x3+x4+x5+x6+x7+x8+x9+x10)=True:=eq_true (by omega)
@[go_sem] theorem sum_lt12 (a x0 x1 x2 x3 x4 x5 x6 x7 x8 x9 x10 x11:Nat):(a<a+1+x0+x1+x2+x3+x4+x5+x6+x7+x8+x9+x10+x11)=True:=eq_true (by omega)
@[go_sem] theorem sum_ne12 (a x0 x1 x2 x3 x4 x5 x6 x7 x8 x9 x10 x11:Nat):(a=a+1+x0+x1+x2+x3+x4+x5+x6+x7+x8+x9+x10+x11)=False:=eq_false (by omega)
@[go_sem] theorem sum_en12 (a x0 x1 x2 x3 x4 x5 x6 x7 x8 x9 x10 x11:Nat):(a+1+x0+x1+x2+x3+x4+x5+x6+x7+x8+x9+x10+x11=a)=False:=eq_false (by omega)
@[go_sem] theorem sum_le12 (a x0 x1 x2 x3 x4 x5 x6 x7 x8 x9 x10 x11:Nat):(a<=a+x0+x1+x2+x3+x4+x5+x6+x7+x8+x9+x10+x11)=True:=eq_true (by omega)
@[go_sem] theorem zm (w:World) (X:Ext):(w.ext X).heap.size=w.heap.size+X.bs.size:=by
 show (w.heap++X.bs).size = _
 simp
theorem ze8 (w:World) (d:Nat) (h:d=w.drawn):w.ext ⟨#[],d⟩=w:=by subst h;unfold World.ext;simp
theorem World.ext_size_le (w:World) (X:Ext):w.heap.size<=(w.ext X).heap.size:=by rw [zm];omega
theorem World.ext_get (w:World) (X:Ext) {b:Nat} (h:b<w.heap.size):(w.ext X).heap[b]?=w.heap[b]?:=by
 show (w.heap++X.bs)[b]? = _
 rw [Array.getElem?_append_left h]
@[go_sem] theorem zdz (w:World) (X:Ext) (b o:Nat) (h:b<w.heap.size):(w.ext X).cell? ⟨b,o,none⟩=w.cell? ⟨b,o,none⟩ :=
 World.cell?_of_block (w:=w) (w.ext_get X h)
@[go_sem] theorem World.frozen?_ext (w:World) (X:Ext) (b o:Nat) (h:b<w.heap.size):(w.ext X).frozen? ⟨b,o,none⟩=w.frozen? ⟨b,o,none⟩ :=
 World.frozen?_of_block (w:=w) (w.ext_get X h)
@[go_sem] theorem zw (w:World) (X:Ext):(w.ext X).drew=w.ext ⟨X.bs,X.dr+1⟩:=rfl
@[go_sem] theorem World.ext_drew (w:World) (X:Ext):w.drew.ext X=w.ext X:=rfl
@[go_sem] theorem zp (w:World) (X Y:Ext):(w.ext X).ext Y=w.ext ⟨X.bs++Y.bs,Y.dr⟩:=by unfold World.ext;simp only [Array.append_assoc]
@[go_sem] theorem World.setCell_ext (w:World) (X:Ext) (b o:Nat) (v:Value) (h:b<w.heap.size):(w.ext X).setCell ⟨b,o,none⟩ v=(w.setCell ⟨b,o,none⟩ v).ext X:=by
 have e:∀ f:Obj->Obj,(w.heap++X.bs).modify b f=w.heap.modify b f++X.bs:=by
  intro f
  apply Array.ext_getElem?
  intro i
  rw [Array.getElem?_modify]
  rcases Nat.lt_or_ge i w.heap.size with hi|hi
  ·rw [Array.getElem?_append_left hi,Array.getElem?_append_left (by simpa using hi),Array.getElem?_modify]
  ·rw [Array.getElem?_append_right hi,Array.getElem?_append_right (by simpa using hi),if_neg (by omega)]
   simp
 simp only [World.setCell,World.ext,e]
def World.setB (w:World) (p:Nat) (o:Obj):World:={ w with heap:=w.heap.setIfInBounds p o }
@[go_sem] theorem zd (w:World) (p:Nat) (o:Obj):(w.setB p o).heap.size=w.heap.size:=by simp [World.setB]
theorem World.setB_get (w:World) (p:Nat) (o:Obj) (b:Nat) (h:b ≠ p):(w.setB p o).heap[b]?=w.heap[b]?:=by
 show (w.heap.setIfInBounds p o)[b]? = _
 rw [Array.getElem?_setIfInBounds_ne (Ne.symm h)]
theorem World.setB_at (w:World) (p:Nat) (o:Obj) (h:p<w.heap.size):(w.setB p o).heap[p]?=some o:=by
 show (w.heap.setIfInBounds p o)[p]? = _
 simp [h]
@[go_sem] theorem zay (w:World) (X:Ext) (p:Nat) (o:Obj) (h:p<w.heap.size):(w.ext X).setB p o=(w.setB p o).ext X:=by
 unfold World.ext World.setB
 simp only [Array.setIfInBounds_append_left h]
@[go_sem] theorem zaU (w:World) (p:Nat) (o o':Obj) (h:p=w.heap.size):(w.alloc o).setB p o'=w.alloc o':=by
 subst h
 have e:(w.heap.push o).setIfInBounds w.heap.size o'=w.heap.push o':=by
  apply Array.ext_getElem?
  intro i
  rw [Array.getElem?_setIfInBounds,Array.getElem?_push,Array.getElem?_push]
  by_cases h:w.heap.size=i
  ·subst h;simp
  ·rw [if_neg h];simp [Ne.symm h]
 show ({ w with heap:=(w.heap.push o).setIfInBounds w.heap.size o' }:World) = { w with heap:=w.heap.push o' }
 rw [e]
@[go_sem] theorem World.setB_alloc_past (w:World) (p:Nat) (o o':Obj) (h:p<w.heap.size):(w.alloc o).setB p o'=(w.setB p o').alloc o:=by
 have e:(w.heap.push o).setIfInBounds p o'=(w.heap.setIfInBounds p o').push o:=by
  apply Array.ext_getElem?
  intro i
  rw [Array.getElem?_setIfInBounds,Array.getElem?_push,Array.getElem?_push,Array.getElem?_setIfInBounds,Array.size_setIfInBounds]
  by_cases h1:p=i
  ·subst h1;simp [Nat.ne_of_lt h,h,Nat.lt_succ_of_lt h]
  ·rw [if_neg h1,if_neg h1]
 show ({ w with heap:=(w.heap.push o).setIfInBounds p o' }:World) = { w with heap:=(w.heap.setIfInBounds p o').push o }
 rw [e]
@[go_sem] theorem za7 (w:World) (p:Nat) (o o':Obj):(w.setB p o).setB p o'=w.setB p o':=by
 unfold World.setB
 simp
@[go_sem] theorem zal (w:World) (p:Nat) (o:Obj):w.drew.setB p o=(w.setB p o).drew:=rfl
@[go_sem] theorem zbn (w:World) (p:Nat) (o:Obj) (b i:Nat) (h:b ≠ p):(w.setB p o).cell? ⟨b,i,none⟩=w.cell? ⟨b,i,none⟩ :=
 World.cell?_of_block (w:=w) (w.setB_get p o b h)
@[go_sem] theorem World.frozen?_setB_ne (w:World) (p:Nat) (o:Obj) (b i:Nat) (h:b ≠ p):(w.setB p o).frozen? ⟨b,i,none⟩=w.frozen? ⟨b,i,none⟩ :=
 World.frozen?_of_block (w:=w) (w.setB_get p o b h)
@[go_sem] theorem World.cell?_setB_at (w:World) (p i:Nat) (cs:Array Value) (t:TypeId) (f:Nat × Nat) (h:p<w.heap.size):(w.setB p (.cells cs t f)).cell? ⟨p,i,none⟩=cs[i]?:=by
 simp [World.cell?,World.setB_at w p _ h]
@[go_sem] theorem World.frozen?_setB_at (w:World) (p i:Nat) (cs:Array Value) (t:TypeId) (h:p<w.heap.size):(w.setB p (.cells cs t (0,0))).frozen? ⟨p,i,none⟩=false:=by
 simp [World.frozen?,World.setB_at w p _ h]
@[go_sem] theorem World.setCell_setB_at (w:World) (p i:Nat) (v:Value) (cs:Array Value) (t:TypeId) (f:Nat × Nat) (h:p<w.heap.size) :
  (w.setB p (.cells cs t f)).setCell ⟨p,i,none⟩ v=w.setB p (.cells (cs.setIfInBounds i v) t f):=by
 have e:(w.heap.setIfInBounds p (.cells cs t f)).modify p (fun|.cells c e fr=>.cells (c.setIfInBounds i v) e fr|o=>o)=w.heap.setIfInBounds p (.cells (cs.setIfInBounds i v) t f):=by
  apply Array.ext_getElem?
  intro k
  rw [Array.getElem?_modify,Array.getElem?_setIfInBounds,Array.getElem?_setIfInBounds]
  by_cases h1:p=k
  ·subst h1;simp [h]
  ·simp [h1]
 unfold World.setCell World.setB
 dsimp only
 rw [<- e]
 rfl
@[go_sem] theorem World.setCell_setB_ne (w:World) (p b i:Nat) (v:Value) (o:Obj) (h:b ≠ p) :
  (w.setB p o).setCell ⟨b,i,none⟩ v=(w.setCell ⟨b,i,none⟩ v).setB p o:=by
 have e:∀ f:Obj->Obj,(w.heap.setIfInBounds p o).modify b f=(w.heap.modify b f).setIfInBounds p o:=fun f=>by
  apply Array.ext_getElem?
  intro k
  rw [Array.getElem?_modify,Array.getElem?_setIfInBounds,Array.getElem?_setIfInBounds,Array.getElem?_modify,Array.size_modify]
  by_cases h1:p=k
  ·subst h1;simp [h]
  ·simp [h1]
 unfold World.setCell World.setB
 dsimp only
 rw [<- e]
theorem ze {w:World} {p:Nat} {o:Obj} (h:w.heap[p]?=some o):w.setB p o=w:=by
 have e:w.heap.setIfInBounds p o=w.heap:=by
  apply Array.ext_getElem?
  intro k
  rw [Array.getElem?_setIfInBounds]
  by_cases h1:p=k
  ·subst h1
   have:=(Array.getElem?_eq_some_iff.1 h).1
   rw [if_pos rfl,if_pos this,h]
  ·rw [if_neg h1]
 unfold World.setB
 rw [e]
theorem zd8 {P:Program} {f:FuncId} {args:Array Value} {w:World} {p:Nat} {o:Obj} {R:Ending->World->Prop} (h:w.heap[p]?=some o) (H:Calls P f args (w.setB p o) R):Calls P f args w R:=by
 rw [ze h] at H
 exact H
theorem za {w:World} {p:Nat} {o:Obj} (h:w.heap[p]?=some o):p<w.heap.size:=(Array.getElem?_eq_some_iff.1 h).1
theorem RowKit.Below.ext {w w':World} (h:Below w.heap.size w w'):∃ X,w'=w.ext X:=by
 refine ⟨⟨w'.heap.extract w.heap.size w'.heap.size,w'.drawn⟩,?_⟩
 have hh:w'.heap=w.heap++w'.heap.extract w.heap.size w'.heap.size:=by
  apply Array.ext_getElem?
  intro i
  rcases Nat.lt_or_ge i w.heap.size with hi|hi
  ·rw [Array.getElem?_append_left hi,h.block i hi]
  ·rw [Array.getElem?_append_right hi,Array.getElem?_extract]
   have:=h.size
   by_cases h2:i<w'.heap.size
   ·rw [if_pos (by omega)]
    congr 1
    omega
   ·rw [if_neg (by omega)]
    simp;omega
 obtain ⟨h1,h2,h3,h4,h5⟩:=h
 cases w';cases w
 simp only [World.ext] at *
 subst h1 h2 h3
 congr
namespace RowKit
theorem Below.ofExt {a w:World} (h:Below a.heap.size a w) (X:Ext):Below a.heap.size a (w.ext X) :=
 h.trans ⟨rfl,rfl,rfl,w.ext_size_le X,fun _ hk=>w.ext_get X (Nat.lt_of_lt_of_le hk h.size)⟩
theorem Below.ofAlloc {a w:World} (h:Below a.heap.size a w) (o:Obj):Below a.heap.size a (w.alloc o):=h.alloc h.size o
theorem Below.then {a w w':World} (h:Below a.heap.size a w) (h':Below w.heap.size w w'):Below a.heap.size a w':=h.trans (h'.mono h.size)
end RowKit
end Go
namespace Go.Proofs.YtpnoehpmgflibaaGreatDoor
theorem zlS {k:IntKind} {a b:Int} (h:a=b):Ending.returned (.int k a)=.returned (.int k b):=by rw [h]
theorem beq_str (a b:ByteArray):(a.toList==b.toList)=decide (a=b):=by
 rw [Bool.eq_iff_iff,beq_iff_eq,decide_eq_true_eq,ByteArray.toList_eq,ByteArray.toList_eq]
 constructor
 ·intro h;cases a;cases b;simp_all
 ·rintro rfl;rfl
theorem zdh (s:ByteArray) (k:Nat) (h:k<s.size):s.data.toList.take (k+1)=s.data.toList.take k ++ [s[k]]:=by
 rw [List.take_succ_eq_append_getElem (by simpa using h)];rfl
end Go.Proofs.YtpnoehpmgflibaaGreatDoor
namespace Go
open Go.RowKit
def Sl (w:World) (v:Value) (n:Nat) (cs:List Value):Prop :=
 (v=.slice none 0 0/\n=0/\cs = []) ∨
 ∃ b off cap,v=.slice (some ⟨b,off,none⟩) n cap/\n<=cap/\cap<=maxLen/\∀ j u,cs[j]?=some u->w.cell? ⟨b,off+j,none⟩=some u
theorem Sl.ext {w:World} {v:Value} {n:Nat} {cs:List Value} (h:Sl w v n cs) (X:Ext):Sl (w.ext X) v n cs:=by
 rcases h with h|⟨b,off,cap,hv,h1,h2,h3⟩
 ·exact .inl h
 ·refine .inr ⟨b,off,cap,hv,h1,h2,fun j u hj=>?_⟩
  have hc:=h3 j u hj
  rw [zdz w X b (off+j) (World.block_lt_of_cell? w ⟨b,off+j,none⟩ hc)]
  exact hc
theorem Sl.alloc {w:World} {v:Value} {n:Nat} {cs:List Value} (h:Sl w v n cs) (o:Obj):Sl (w.alloc o) v n cs:=by
 rcases h with h|⟨b,off,cap,hv,h1,h2,h3⟩
 ·exact .inl h
 ·refine .inr ⟨b,off,cap,hv,h1,h2,fun j u hj=>?_⟩
  have hc:=h3 j u hj
  rw [World.cell?_alloc_past o b (off+j) (World.block_lt_of_cell? w ⟨b,off+j,none⟩ hc)]
  exact hc
theorem Sl.drew {w:World} {v:Value} {n:Nat} {cs:List Value} (h:Sl w v n cs):Sl w.drew v n cs:=h
theorem Sl.setB {w:World} {v:Value} {n:Nat} {cs:List Value} (h:Sl w v n cs) {p:Nat} (hp:v.ownBlock ≠ some p) (o:Obj):Sl (w.setB p o) v n cs:=by
 rcases h with h|⟨b,off,cap,hv,h1,h2,h3⟩
 ·exact .inl h
 ·refine .inr ⟨b,off,cap,hv,h1,h2,fun j u hj=>?_⟩
  subst hv
  rw [zbn w p o b (off+j) (fun e=>hp (by simp [Value.ownBlock,e]))]
  exact h3 j u hj
theorem Sl.lt {w:World} {v:Value} {n:Nat} {cs:List Value} (h:Sl w v n cs) (hc:cs ≠ []):∀ b,v.ownBlock=some b->b<w.heap.size:=by
 intro b hb
 rcases h with ⟨rfl,_,_⟩|⟨b',off,cap,rfl,h1,h2,h3⟩
 ·simp [Value.ownBlock] at hb
 ·simp only [Value.ownBlock,Option.some.injEq] at hb
  subst hb
  cases cs with
  | nil=>exact absurd rfl hc
  | cons u r=>exact World.block_lt_of_cell? w ⟨b',off+0,none⟩ (h3 0 u rfl)
theorem zen {w:World} {b n:Nat} {cs:List Value} {t:TypeId} {f:Nat × Nat} (h:w.heap[b]?=some (.cells cs.toArray t f)) (hm:n<=maxLen):Sl w (.slice (some ⟨b,0,none⟩) n n) n cs:=by
 refine .inr ⟨b,0,n,rfl,Nat.le_refl _,hm,fun j u hj=>?_⟩
 simp only [World.cell?,h,Nat.zero_add]
 simpa using hj
theorem Sl.below {w w':World} {v:Value} {n:Nat} {cs:List Value} (h:Sl w v n cs) (hb:Below w.heap.size w w'):Sl w' v n cs:=by
 obtain ⟨X,rfl⟩:=hb.ext
 exact h.ext X
theorem Sl.shape {w:World} {v:Value} {n:Nat} {cs:List Value} (h:Sl w v n cs):∃ ao cap,v=.slice ao n cap/\n<=cap/\cap<=maxLen/\(ao=none->cap=0/\n=0) /\
  (0<n->∃ b off,ao=some ⟨b,off,none⟩/\∀ j u,cs[j]?=some u->w.cell? ⟨b,off+j,none⟩=some u):=by
 rcases h with ⟨rfl,rfl,rfl⟩|⟨b,off,cap,rfl,h1,h2,h3⟩
 ·exact ⟨none,0,rfl,Nat.le_refl _,Nat.zero_le _,fun _=>⟨rfl,rfl⟩,fun h=>absurd h (by omega)⟩
 ·exact ⟨some ⟨b,off,none⟩,cap,rfl,h1,h2,(fun h=>by cases h),fun _=>⟨b,off,rfl,h3⟩⟩
def zL (l:List UInt8):List Value:=l.map fun c=>.int .u8 c.toNat
end Go
namespace Go
def Sx (w0:World) (w:World):Prop:=∃ X,w=w0.ext X
theorem Sx.drew (w:World):Sx w w.drew:=⟨⟨#[],w.drawn+1⟩,by show World.drew w=World.ext w _;unfold World.drew World.ext;simp only [Array.append_empty]⟩
theorem Sx.ext {w0 w:World} (h:Sx w0 w) (X:Ext):Sx w0 (w.ext X):=by
 obtain ⟨Y,rfl⟩:=h
 exact ⟨⟨Y.bs++X.bs,X.dr⟩,by unfold World.ext;simp only [Array.append_assoc]⟩
theorem Sx.alloc {w0 w:World} (h:Sx w0 w) (o:Obj):Sx w0 (w.alloc o):=by
 obtain ⟨Y,rfl⟩:=h
 exact ⟨⟨Y.bs.push o,Y.dr⟩,by unfold World.ext World.alloc;simp only [Array.append_push]⟩
theorem Sx.more {w0 w:World} {xs bs:Array Obj} {d:Nat} (h:Sx w0 (w.ext ⟨xs,0⟩)):Sx w0 (w.ext ⟨xs++bs,d⟩):=by
 have:=h.ext ⟨bs,d⟩
 rwa [zp] at this
theorem Sx.same (w:World) (xs:Array Obj) (d0 d1:Nat):Sx (w.ext ⟨xs,d0⟩) (w.ext ⟨xs,d1⟩):=⟨⟨#[],d1⟩,by rw [zp];simp⟩
theorem ziw {w0 w:World} (h:Sx w0 w):Sx w0 w.drew:=by
 obtain ⟨Y,rfl⟩:=h
 exact ⟨⟨Y.bs,Y.dr+1⟩,rfl⟩
section
variable {P:Program} {ops:Array Oper} {Q:Exit->Act->World->Prop} {S:World->Prop} {n:Nat}
def RetQ (P:Program) (w:World) (v:Value):Result Next->Prop
 | .ok (.value u) w'=>u=v/\w'=w
 | .ok (.enter f args) w'=>w'=w/\Calls P f args w fun e w''=>e=.returned v/\w''=w
 | _=>False
theorem zlu (P:Program) (w w':World) (v:Value) (f:FuncId) (args:Array Value):RetQ P w v (.ok (.enter f args) w')=(w'=w/\Calls P f args w fun e w''=>e=.returned v/\w''=w):=rfl
theorem zlt (P:Program) (w w':World) (v u:Value):RetQ P w v (.ok (.value u) w')=(u=v/\w'=w):=rfl
attribute [go_sem] zlu zlt
def YieldsQ (P:Program) (ops:Array Oper) (S:World->Prop) (o:Oper) (v:Value) (a:Act):Prop :=
 (Region.wanted o (yielded ops a.tmps)=true/\∀ w,S w->RetQ P w v ((execOp a.eval o).run P w)) ∨
 (Region.wanted o (yielded ops a.tmps)=false/\v=undef)
theorem YieldsQ.wpOp {i:Nat} {o:Oper} {v:Value} {a:Act} (hi:ops[i]?=some o) (hy:YieldsQ P ops S o v a)
  {K:Act->World->Prop} {w:World} (hS:S w) (h:K (a.put o.dst v) w):wpOp P ops Q i K a w:=by
 unfold Go.wpOp
 simp only [hi]
 rcases hy with ⟨hw,hv⟩|⟨hw,rfl⟩
 ·simp only [hw,if_true]
  refine .inl ?_
  have hv:=hv w hS
  unfold Oper.wp
  generalize (execOp a.eval o).run P w=r at hv
  cases r with
  | ok n w' =>
   cases n with
   | value u=>simp only [RetQ] at hv;obtain ⟨rfl,rfl⟩:=hv;exact h
   | enter f args =>
    simp only [RetQ] at hv
    obtain ⟨rfl,hv⟩:=hv
    refine Calls.mono hv fun e w'' he=>?_
    obtain ⟨rfl,rfl⟩:=he
    exact h
   | _=>exact hv.elim
  | halt x w'=>exact hv.elim
 ·simp only [hw,Bool.false_eq_true,if_false];exact h
theorem YieldsQ.of_same {o:Oper} {v:Value} {a a':Act} (hy:YieldsQ P ops S o v a) (he:execOp a'.eval o=execOp a.eval o)
  (hw:Region.wanted o (yielded ops a'.tmps)=Region.wanted o (yielded ops a.tmps)):YieldsQ P ops S o v a':=by
 unfold YieldsQ at *
 rw [he,hw]
 exact hy
theorem zer {j:Nat} {oi oj:Oper} {v:Value} (hj:ops[j]?=some oj) (hap:oi.apart ops oj=true)
  (hsi:∀ cs b,oi.op ≠ .select cs b) (hsj:∀ cs b,oj.op ≠ .select cs b)
  (hQ:∀ c a w,Q (.panic c) (a.put oi.dst v) w->Q (.panic c) a w) {K:Act->World->Prop} {a:Act} {w:World}
  (hy:YieldsQ P ops S oi v a) (h:wpOp P ops Q j K (a.put oi.dst v) w) :
  wpOp P ops Q j (fun a' w'=>YieldsQ P ops S oi v a'/\K (a'.put oi.dst v) w') a w:=by
 obtain ⟨h1,h2,h3⟩:=Oper.apart_spec hap
 have keep:∀ (a:Act),YieldsQ P ops S oi v a->∀ u,YieldsQ P ops S oi v (a.put oj.dst u):=fun a hy u =>
  hy.of_same (execOp_put oi hsi a oj.dst u h3) (wanted_put oi a oj.dst u h3)
 have keepD:∀ d,YieldsQ P ops S oi v { a with defers:=d :: a.defers }:=fun d=>hy.of_same rfl rfl
 unfold wpOp at *
 simp only [hj] at *
 rw [wanted_put oj a oi.dst v h1] at h
 split
 ·rename_i hw
  simp only [hw,if_true] at h
  rcases h with h|⟨hasks,hlets⟩
  case inr=>exact .inr ⟨by unfold Oper.asks at *;rw [execOp_put oj hsj a oi.dst v h1] at hasks;exact hasks,hlets⟩
  refine .inl ?_
  unfold Oper.wp at *
  rw [execOp_put oj hsj a oi.dst v h1] at h
  generalize (execOp a.eval oj).run P w=r at *
  cases r with
  | ok n w' =>
   cases n<;>simp only [Oper.upon] at h ⊢
   case value u=>exact ⟨keep a hy u,by rw [<- Act.put_comm a v u h2];exact h⟩
   case skip=>exact ⟨keep a hy _,by rw [<- Act.put_comm a v undef h2];exact h⟩
   case defer d =>
    refine ⟨keep _ (keepD d) _,?_⟩
    rw [<- Act.put_comm _ v undef h2,<- Act.put_defers]
    exact h
   case enter f args =>
    refine Calls.mono h fun e w'' he=>?_
    cases e with
    | returned u=>exact ⟨keep a hy u,by rw [<- Act.put_comm a v u h2];exact he⟩
    | panicked c=>exact hQ _ _ _ he
    | outgrown=>exact he
   case row row args=>exact Rows.mono h fun u w'' he=>⟨keep a hy u,by rw [<- Act.put_comm a v u h2];exact he⟩
  | halt x w' =>
   cases x<;>simp only [Oper.upon] at h ⊢
   case panic u=>exact hQ _ _ _ h
 ·rename_i hw
  simp only [hw] at h
  exact ⟨keep a hy _,by rw [<- Act.put_comm a v undef h2];exact h⟩
def zbO (P:Program) (ops:Array Oper) (Q:Exit->Act->World->Prop) (S:World->Prop) (n:Nat):Nat->Array Bool->Act->World->Prop
 | 0,listed,a,w=>Region.ready .any ops listed = []/\Q .normal a w
 | fuel+1,listed,a,w =>
  (Region.ready .any ops listed = []->Q .normal a w) /\
  ∀ i ∈ Region.ready .any ops listed,wpOp P ops Q i (fun a' w'=>(i<n->S w')/\zbO P ops Q S n fuel (listed.setIfInBounds i true) a' w') a w
theorem zcM:∀ (fuel:Nat) (listed:Array Bool) (a:Act) (w:World),zbO P ops Q S n fuel listed a w->wpAny P .any ops Q fuel listed a w
 | 0,_,_,_,h=>h
 | fuel+1,_,_,_,h=>⟨h.1,fun i hi=>wpOp_mono (fun a' w' h'=>zcM fuel _ a' w' h'.2) (h.2 i hi)⟩
def zgl (ops:Array Oper) (n i:Nat):Bool :=
 (List.range ops.size).all fun j => decide (j < n) || match ops[j]? with
  | some o=>o.after.any fun e=>Region.binds .any e && e.on==i
  | none=>true
theorem zg7 {i j:Nat} {o:Oper} (h:zgl ops n i=true) (hj:ops[j]?=some o) (hn:n<=j):∃ e ∈ o.after,Region.binds .any e=true/\e.on=i:=by
 have hlt:j<ops.size:=(Array.getElem?_eq_some_iff.1 hj).1
 have h1:=List.all_eq_true.1 h j (List.mem_range.2 hlt)
 simp only [hj,Bool.or_eq_true,decide_eq_true_eq] at h1
 rcases h1 with h1|h1
 ·omega
 ·obtain ⟨e,he,hb⟩:=Array.any_eq_true'.1 h1
  simp only [Bool.and_eq_true,beq_iff_eq] at hb
  exact ⟨e,he,hb.1,hb.2⟩
theorem zaS {listed:Array Bool} {i:Nat} (h0:listed.getD i true=false) (h1:listed.getD i false=true):False:=by
 rcases Nat.lt_or_ge i listed.size with h'|h'
 ·simp [h'] at h0 h1;rw [h0] at h1;cases h1
 ·simp [Array.getElem?_eq_none h'] at h1
theorem zfC {i:Nat} {oi:Oper} {v:Value} (hi:ops[i]?=some oi) (hs:Region.noSelect ops=true)
  (hQ:∀ c a w,Q (.panic c) (a.put oi.dst v) w->Q (.panic c) a w) (ht:zgl ops n i=true) :
  ∀ (fuel:Nat) (listed:Array Bool) (a:Act) (w:World),
   (∀ j oj,ops[j]?=some oj->j ≠ i->listed.getD j true=false->(∀ e ∈ oj.after,Region.binds .any e=true->e.on ≠ i)->oi.apart ops oj=true) ->
   i ∈ Region.ready .any ops listed->YieldsQ P ops S oi v a->S w ->
   zbO P ops Q S n fuel (listed.setIfInBounds i true) (a.put oi.dst v) w->zbO P ops Q S n (fuel+1) listed a w:=by
 have hsel:=Region.noSelect_spec hs
 intro fuel
 induction fuel with
 | zero =>
  intro listed a w _ hr hy hS H
  refine ⟨fun h=>(by rw [h] at hr;cases hr),fun j hj=>?_⟩
  by_cases hji:j=i
  ·subst hji;exact hy.wpOp hi hS ⟨fun _=>hS,H⟩
  ·have:=ready_mono hj hji
   rw [H.1] at this
   cases this
 | succ fuel ih =>
  intro listed a w hfree hr hy hS H
  refine ⟨fun h=>(by rw [h] at hr;cases hr),fun j hj=>?_⟩
  by_cases hji:j=i
  ·subst hji;exact hy.wpOp hi hS ⟨fun _=>hS,H⟩
  ·have h1:=H.2 j (ready_mono hj hji)
   obtain ⟨hjun,oj,hoj,hall⟩:=mem_ready.1 hj
   have hnot:∀ e ∈ oj.after,Region.binds .any e=true->e.on ≠ i:=fun e he hb heq =>
    zaS (mem_ready.1 hr).1 (heq ▸ hall e he hb)
   have hjn:j<n:=by
    rcases Nat.lt_or_ge j n with h|h
    ·exact h
    ·obtain ⟨e,he,hb,hon⟩:=zg7 ht hoj h
     exact absurd hon (hnot e he hb)
   have h2:=zer hoj (hfree j oj hoj hji hjun hnot) (fun cs b=>hsel i oi cs b hi) (fun cs b=>hsel j oj cs b hoj) hQ hy h1
   have hfree':∀ k ok,ops[k]?=some ok->k ≠ i->(listed.setIfInBounds j true).getD k true=false ->
     (∀ e ∈ ok.after,Region.binds .any e=true->e.on ≠ i)->oi.apart ops ok=true:=fun k ok hk hki hun hno=>by
    refine hfree k ok hk hki ?_ hno
    by_cases hjk:j=k
    ·subst hjk;exact hjun
    ·rw [getD_set_ne true hjk] at hun;exact hun
   refine wpOp_mono (fun a' w' h3=>⟨fun _=>h3.2.1 hjn,ih (listed.setIfInBounds j true) a' w' hfree' (ready_mono hr (Ne.symm hji)) h3.1 (h3.2.1 hjn) ?_⟩) h2
   rw [Array.setIfInBounds_comm _ _ hji]
   exact h3.2.2
def Sf {ι : Type} (F : ι->World) (w:World):Prop:=∃ x,w=F x
def Oper.quietV {ι : Type} (P:Program) (o:Oper) (a:Act) (F : ι->World) (next:Act->Prop):Prop :=
 ∃ v,(∀ x,(execOp a.eval o).run P (F x)=.ok (.value v) (F x))/\next (a.put o.dst v)
attribute [go_sem] Oper.quietV
def Oper.quietX {ι : Type} (P:Program) (o:Oper) (a:Act) (F : ι->World) (next:Act->Prop):Prop :=
 ∃ v,(∀ x,RetQ P (F x) v ((execOp a.eval o).run P (F x)))/\next (a.put o.dst v)
attribute [go_sem] Oper.quietX
def zaY {ι : Type} (P:Program) (ops:Array Oper) (Q:Exit->Act->World->Prop) (F : ι->World) (n:Nat):List (Nat × Bool)->Act->World->Prop
 | [],a,w=>Q .normal a w
 | (i,true) :: r,a,w=>match ops[i]? with
  | none=>False
  | some o=>if Region.wanted o (yielded ops a.tmps) then o.quietX P a F (fun a'=>zaY P ops Q F n r a' w) else zaY P ops Q F n r (a.put o.dst undef) w
 | (i,false) :: r,a,w=>match ops[i]? with
  | none=>False
  | some o=>if Region.wanted o (yielded ops a.tmps) then o.wp P a w (fun a' w'=>(i<n->Sf F w')/\zaY P ops Q F n r a' w') Q else zaY P ops Q F n r (a.put o.dst undef) w
def zi3 (ops:Array Oper) (n:Nat):List (Nat × Bool)->Array Bool->Bool
 | [],listed=>(Region.ready .any ops listed).isEmpty
 | (i,true) :: r,listed=>decide (i<n) && (Region.ready .any ops listed).contains i && Region.free .any ops listed i && zgl ops n i && zi3 ops n r (listed.setIfInBounds i true)
 | (i,false) :: r,listed=>(decide (i<n) || r.all fun x=>decide (n<=x.1)) && (match Region.ready .any ops listed with|[j]=>j==i|_=>false) && zi3 ops n r (listed.setIfInBounds i true)
theorem zc1 {ι : Type} {F : ι->World} (hs:Region.noSelect ops=true) (hQ:∀ c (a:Act) (d:Option Tmp) (v:Value) w,Q (.panic c) (a.put d v) w->Q (.panic c) a w) :
  ∀ (ord:List (Nat × Bool)) (listed:Array Bool) (a:Act) (w:World),zi3 ops n ord listed=true->((∃ x ∈ ord,x.1<n)->Sf F w)->zaY P ops Q F n ord a w ->
   zbO P ops Q (Sf F) n ord.length listed a w
 | [],listed,a,w,hok,_,h=>by
  simp only [zi3,List.isEmpty_iff] at hok
  exact ⟨hok,h⟩
 | (i,true) :: r,listed,a,w,hok,hS,h=>by
  simp only [zi3,Bool.and_eq_true,decide_eq_true_eq] at hok
  obtain ⟨⟨⟨⟨hin,hr⟩,hf⟩,ht⟩,hok⟩:=hok
  have hw:=hS ⟨(i,true),by simp,hin⟩
  simp only [zaY] at h
  cases ho:ops[i]? with
  | none=>simp [ho] at h
  | some o =>
   simp only [ho] at h
   have again:=fun a' h'=>zc1 hs hQ r (listed.setIfInBounds i true) a' w hok (fun _=>hw) h'
   by_cases hwt:Region.wanted o (yielded ops a.tmps)=true
   ·simp only [hwt,if_true] at h
    obtain ⟨v,hv,hk⟩:=h
    exact zfC ho hs (fun c a w=>hQ c a _ _ w) ht _ listed a w (Region.free_spec ho hf) (by simpa using hr)
     (Or.inl ⟨hwt,fun w' hw'=>by obtain ⟨X,rfl⟩:=hw';exact hv X⟩) hw (again _ hk)
   ·have hwt':Region.wanted o (yielded ops a.tmps)=false:=by simpa using hwt
    simp only [hwt',Bool.false_eq_true,if_false] at h
    exact zfC ho hs (fun c a w=>hQ c a _ _ w) ht _ listed a w (Region.free_spec ho hf) (by simpa using hr)
     (Or.inr ⟨hwt',rfl⟩) hw (again _ h)
 | (i,false) :: r,listed,a,w,hok,hS,h=>by
  simp only [zi3,Bool.and_eq_true,Bool.or_eq_true,decide_eq_true_eq] at hok
  obtain ⟨⟨hin,hr⟩,hok⟩:=hok
  have hr':Region.ready .any ops listed = [i]:=by
   split at hr
   ·rename_i j hj;rw [hj];simp at hr;rw [hr]
   ·cases hr
  refine ⟨fun h0=>(by rw [h0] at hr';cases hr'),fun j hj=>?_⟩
  rw [hr',List.mem_singleton] at hj
  subst hj
  simp only [zaY] at h
  cases ho:ops[j]? with
  | none=>simp [ho] at h
  | some o =>
   simp only [ho] at h
   unfold wpOp
   simp only [ho]
   have again:=fun (a':Act) (w':World) (hw':(∃ x ∈ r,x.1<n)->Sf F w') h'=>zc1 (F:=F) hs hQ r (listed.setIfInBounds j true) a' w' hok hw' h'
   have later:(∃ x ∈ r,x.1<n)->j<n:=fun ⟨x,hx,hxn⟩=>by
    rcases hin with h1|h1
    ·exact h1
    ·have:=List.all_eq_true.1 h1 x hx
     simp only [decide_eq_true_eq] at this
     omega
   by_cases hwt:Region.wanted o (yielded ops a.tmps)=true
   ·simp only [hwt,if_true] at h ⊢
    exact Or.inl (Oper.wp_mono (fun a' w' h'=>⟨h'.1,again a' w' (fun hx=>h'.1 (later hx)) h'.2⟩) h)
   ·have hwt':Region.wanted o (yielded ops a.tmps)=false:=by simpa using hwt
    simp only [hwt',Bool.false_eq_true,if_false] at h ⊢
    exact ⟨fun hj=>hS ⟨(j,false),by simp,hj⟩,again _ _ (fun hx=>hS ⟨(j,false),by simp,later hx⟩) h⟩
def zbX (Q:Exit->Act->World->Prop):Exit->Act->World->Prop
 | .panic _,_,_=>False
 | e,a,w=>Q e a w
theorem zg6 {ι : Type} (F : ι->World) {id:Nat} {l:List Oper} {a:Act} {w:World} (ord:List (Nat × Bool)) (n:Nat) (hm:P.follows .mixedOrders=true)
  (hok:(zi3 l.toArray n ord (Array.replicate l.toArray.size false) && Region.noSelect l.toArray && ord.length==l.toArray.size)=true)
  (h0:Sf F w.drew) (h:zaY P l.toArray (zbX Q) F n ord a w.drew):(Code.region id l.toArray true).wp P Q a w:=by
 simp only [Bool.and_eq_true,beq_iff_eq] at hok
 have h1:(Code.region id l.toArray true).wp P (zbX Q) a w:=by
  refine wp_region_any hm ?_
  rw [<- hok.2]
  exact zcM _ _ _ _ (zc1 hok.1.2 (fun _ _ _ _ _ h=>h) ord _ a _ (hok.2 ▸ hok.1.1) (fun _=>h0) h)
 exact Code.wp_mono (fun e a w h=>by cases e<;>first|exact h|exact h.elim) h1
theorem zaA {id:Nat} {l:List Oper} {a:Act} {w:World} (ord:List (Nat × Bool)) (n:Nat) (hm:P.follows .mixedOrders=true)
  (hok:(zi3 l.toArray n ord (Array.replicate l.toArray.size false) && Region.noSelect l.toArray && ord.length==l.toArray.size)=true)
  (h:zaY P l.toArray (zbX Q) (fun X=>w.ext X) n ord a w.drew):(Code.region id l.toArray true).wp P Q a w:=zg6 (fun X=>w.ext X) ord n hm hok (Sx.drew w) h
section
variable {ι : Type} {F : ι->World} {r:List (Nat × Bool)} {a:Act} {w:World} {o:Oper} {i:Nat}
theorem zQ (h:Q .normal a w):zaY P ops (zbX Q) F n [] a w:=h
theorem zk (ho:ops[i]?=some o)
  (h:∀ K:Act->Prop,(∀ a,zaY P ops Q F n r a w->K a)->if Region.wanted o (yielded ops a.tmps) then o.quietV P a F K else K (a.put o.dst undef)) :
  zaY P ops Q F n ((i,true) :: r) a w:=by
 simp only [zaY,ho]
 have:=h _ (fun _ h=>h)
 by_cases hwt:Region.wanted o (yielded ops a.tmps)=true
 ·simp only [hwt,if_true] at this ⊢
  obtain ⟨v,h1,h2⟩:=this
  exact ⟨v,fun x=>by rw [h1 x];exact ⟨rfl,rfl⟩,h2⟩
 ·simp only [hwt,Bool.false_eq_true,if_false] at this ⊢
  exact this
theorem zr (ho:ops[i]?=some o)
  (h:∀ K:Act->World->Prop,(∀ a w,Sf F w->zaY P ops Q F n r a w->K a w)->if Region.wanted o (yielded ops a.tmps) then o.wp P a w K Q else K (a.put o.dst undef) w):zaY P ops Q F n ((i,false) :: r) a w:=by
 simp only [zaY,ho]
 have:=h (fun a w=>Sf F w/\zaY P ops Q F n r a w) (fun _ _ h1 h2=>⟨h1,h2⟩)
 by_cases hwt:Region.wanted o (yielded ops a.tmps)=true
 ·simp only [hwt,if_true] at this ⊢
  exact Oper.wp_mono (fun a' w' h'=>⟨fun _=>h'.1,h'.2⟩) this
 ·simp only [hwt,Bool.false_eq_true,if_false] at this ⊢
  exact this.2
theorem zt (ho:ops[i]?=some o) (hi:decide (n<=i)=true)
  (h:∀ K:Act->World->Prop,(∀ a w,zaY P ops Q F n r a w->K a w)->if Region.wanted o (yielded ops a.tmps) then o.wp P a w K Q else K (a.put o.dst undef) w) :
  zaY P ops Q F n ((i,false) :: r) a w:=by
 simp only [zaY,ho]
 simp only [decide_eq_true_eq] at hi
 have:=h (fun a w=>zaY P ops Q F n r a w) (fun _ _ h1=>h1)
 by_cases hwt:Region.wanted o (yielded ops a.tmps)=true
 ·simp only [hwt,if_true] at this ⊢
  exact Oper.wp_mono (fun a' w' h'=>⟨fun h0=>by omega,h'⟩) this
 ·simp only [hwt,Bool.false_eq_true,if_false] at this ⊢
  exact this
end
end
def Got (p:Nat) (w:World) (o:Obj) (w':World):Prop:=∃ X,w'=(w.setB p o).ext X
theorem Got.mk (p:Nat) (w:World) (o:Obj):Got p w o (w.setB p o):=⟨⟨#[],w.drawn⟩,by unfold World.ext World.setB;simp⟩
theorem Got.ext {p:Nat} {w w':World} {o:Obj} (h:Got p w o w') (X:Ext):Got p w o (w'.ext X):=by
 obtain ⟨Y,rfl⟩:=h
 exact ⟨_,zp _ Y X⟩
theorem Got.drew {p:Nat} {w w':World} {o:Obj} (h:Got p w o w'):Got p w o w'.drew:=by
 obtain ⟨Y,rfl⟩:=h
 exact ⟨_,zw _ Y⟩
theorem Got.alloc {p:Nat} {w w':World} {o:Obj} (h:Got p w o w') (x:Obj):Got p w o (w'.alloc x):=by
 obtain ⟨Y,rfl⟩:=h
 exact ⟨⟨Y.bs.push x,Y.dr⟩,by unfold World.ext World.alloc;simp only [Array.append_push]⟩
end Go
namespace Go
open Go.RowKit
theorem World.ownsRow.ext {w:World} {base:Nat} {e:TypeId} {size:Nat} {v:Value} {n:Nat} {xs:List Value} (h:w.ownsRow base e size v n xs) (X:Ext):(w.ext X).ownsRow base e size v n xs :=
 h.kept (row:=none) ⟨rfl,rfl,rfl,w.ext_size_le X,fun k hk _=>w.ext_get X hk⟩ (by cases hv:v.ownBlock<;>simp)
theorem World.ownsRow.setB {w:World} {base:Nat} {e:TypeId} {size:Nat} {v:Value} {n:Nat} {xs:List Value} (h:w.ownsRow base e size v n xs) {p:Nat} (hp:v.ownBlock ≠ some p) (o:Obj):(w.setB p o).ownsRow base e size v n xs :=
 h.kept (row:=some p) ⟨rfl,rfl,rfl,by rw [zd];exact Nat.le_refl _,fun k hk hne=>w.setB_get p o k (fun e=>hne (by rw [e]))⟩ (by cases hv:v.ownBlock<;>simp_all)
theorem World.ownsRow.base {w:World} {base base':Nat} {e:TypeId} {size:Nat} {v:Value} {n:Nat} {xs:List Value} (h:w.ownsRow base e size v n xs) (hb:base'<=base):w.ownsRow base' e size v n xs:=by
 refine ⟨h.1,?_⟩
 rcases h.2 with h2|⟨g,cap,cur,hv,hg,r⟩
 ·exact .inl h2
 ·exact .inr ⟨g,cap,cur,hv,Nat.le_trans hb hg,r⟩
theorem zdO (b o j:Nat):(⟨b,o,none⟩ : Addr).add j=⟨b,o+j,none⟩:=by unfold Addr.add;split<;>simp_all
theorem World.ownsRow.sl {w:World} {base:Nat} {e:TypeId} {size:Nat} {v:Value} {n:Nat} {xs:List Value} (h:w.ownsRow base e size v n xs):Sl w v n xs:=by
 have h':=h
 obtain ⟨hl,h2⟩:=h'
 rcases h2 with ⟨rfl,rfl⟩|⟨g,cap,cur,rfl,hg,hh,hn,hc,hs,ht⟩
 ·exact .inl ⟨rfl,rfl,List.eq_nil_of_length_eq_zero (by simpa using hl)⟩
 ·refine .inr ⟨g,0,cap,rfl,hn,hc,fun j u hj=>?_⟩
  have:=h.cells (g:=g) rfl j u hj
  rw [zdO] at this
  exact this
theorem zmF (w:World) (cs:List Value) (t:TypeId) (n:Nat) (hm:n<=maxLen):Sl (w.alloc (.cells cs.toArray t)) (.slice (some ⟨w.heap.size,0,none⟩) n n) n cs :=
 zen (t:=t) (f:=(0,0)) (by show (w.heap.push _)[w.heap.size]? = _;simp) hm
theorem Sl.lit (w:World) (cs:Array Value) (t:TypeId) (n:Nat) (hm:n<=maxLen):Sl (w.alloc (.cells cs t)) (.slice (some ⟨w.heap.size,0,none⟩) n n) n cs.toList :=
 zmF w cs.toList t n hm
theorem Sl.cut {w:World} {b off:Nat} {cs:List Value} (k:Nat) (h:∀ j u,cs[j]?=some u->w.cell? ⟨b,off+j,none⟩=some u) (lo hi c:Nat) (h2:hi - lo<=c) (hc:c<=maxLen) :
  Sl w (.slice (some ⟨b,off+lo*k,none⟩) (hi - lo) c) (hi - lo) ((cs.drop (lo*k)).take ((hi - lo)*k)):=by
 refine .inr ⟨b,off+lo*k,c,rfl,h2,hc,fun j u hj=>?_⟩
 rw [List.getElem?_take] at hj
 split at hj
 ·rw [List.getElem?_drop] at hj
  rw [Nat.add_assoc]
  exact h _ _ hj
 ·cases hj
structure Elem (P:Program) (t e:TypeId) (size bytes:Nat):Prop where
 ht:P.underlying t=some (.slice e)
 hi:∃ i z,P.info? e=some i/\i.zero=some z/\i.size=size/\i.bytes=bytes/\z.cells.size=size
 pos : 0<size
theorem Elem.of {P:Program} {t e:TypeId} {size bytes:Nat} (z:Value) (ht:P.underlying t=some (.slice e)) (h:(P.info? e).map (fun i=>(i.zero,i.size,i.bytes))=some (some z,size,bytes)) (hz:z.cells.size=size) (pos : 0<size):Elem P t e size bytes:=by
 obtain ⟨i,h1,h2,h3,h4⟩:=info_parts h
 exact ⟨ht,⟨i,z,h1,h2,h3,h4,hz⟩,pos⟩
def Stop (p:Prop):Prop:=p
theorem zA {p:Prop} (h:Stop p):p:=h
section
variable {P:Program}
theorem zlR {w:World} {t ty e:TypeId} {size bytes:Nat} (E:Elem P t e size bytes) {base:Nat} {v:Value} {n:Nat} {xs:List Value} (hown:w.ownsRow base e size v n xs)
  {x:Value} {m:Nat} {news:List Value} (hx:Sl w x m news) (hl:news.length=m*size) (h1:∀ u ∈ news,u.oneCell'=true) (hb:(n+m)*bytes<=140737488355328) (h63:n+m<=maxLen) (hbase:base<=w.heap.size) :
  ∃ v' w',(Builtin.append_ #[t,t] ty #[v,x]).run P w=.ok v' w'/\w'.ownsRow base e size v' (n+m) (xs++news)/\w.grownBy w' v.ownBlock/\(v'=.slice none 0 0 ↔ v=.slice none 0 0/\m=0):=by
 obtain ⟨i,z,hi,hz,hs,hby,hzs⟩:=E.hi
 rcases hx with ⟨rfl,rfl,rfl⟩|⟨b,off,cap,rfl,_,_,hc⟩
 ·exact ⟨v,w,run_append_owned_none w base t ty e i size E.ht hi v n xs hown,by simpa using hown,⟨rfl,rfl,rfl,Nat.le_refl _,fun _ _ _=>rfl⟩,by simp⟩
 ·exact run_append_own w base t ty e i z size bytes E.ht hi hz hs hby hzs E.pos v n xs hown ⟨b,off,none⟩ m cap news hl (fun j u hj=>by rw [zdO];exact hc j u hj) h1 h63 hb hbase
theorem wp_app {w:World} {o:Oper} {a:Act} {K:Act->World->Prop} {Q:Exit->Act->World->Prop} (s x:Operand) (t:TypeId)
  (ho:o.op=.call { callee:=.builtin .append,args:=#[s,x],argTypes:=#[t,t] })
  {e:TypeId} {size bytes:Nat} (E:Elem P t e size bytes) {base:Nat} {v:Value} {n:Nat} {xs:List Value} (hs:a.eval s=v) (hown:w.ownsRow base e size v n xs)
  {vx:Value} {m:Nat} {news:List Value} (hvx:a.eval x=vx) (hx:Sl w vx m news) (hl:news.length=m*size) (h1:∀ u ∈ news,u.oneCell'=true) (hb:(n+m)*bytes<=140737488355328) (h63:n+m<=maxLen) (hbase:base<=w.heap.size)
  (h:∀ v' w',w'.ownsRow base e size v' (n+m) (xs++news)->w.grownBy w' v.ownBlock->(v'=.slice none 0 0 ↔ v=.slice none 0 0/\m=0)->K (a.put o.dst v') w'):o.wp P a w K Q:=by
 obtain ⟨v',w',hr,h2,h3,h4⟩:=zlR (P:=P) (ty:=o.type) E hown hx hl h1 hb h63 hbase
 unfold Oper.wp execOp
 simp only [ho,resolve,invoke,builtin,Sem.run_bind,Sem.run_pure,Result.andThen_ok,List.map_toArray,List.map_cons,List.map_nil,hs,hvx,hr]
 exact h v' w' h2 h3 h4
end
theorem RowKit.Below.app {a w w':World} {v:Value} {e:TypeId} {size n:Nat} {xs:List Value} (h:Below a.heap.size a w) (hg:w.grownBy w' v.ownBlock) (ho:w.ownsRow a.heap.size e size v n xs):Below a.heap.size a w' :=
 h.grown hg h.size (fun k hk=>(ho.lt k hk).1)
end Go
