/- Texts of this claim, merged: the walks and what they stand on. Each condition stands in its theorem. -/
import Derived.Test.YtncnbihlngapbaaGreatCB21
import Derived.Test.YtncnbihlngapbaaGreatCB24
set_option linter.unusedVariables false
set_option linter.unusedSimpArgs false
set_option maxRecDepth 100000
set_option maxHeartbeats 8000000
namespace Go.Proofs.YtncnbihlngapbaaGreat
open Go.ChangeShapes Go.WideShapes Go.ChangeAt Go.RowKit
structure IT (ws:World) (fs:List Nat) (w:World) (fp:List Nat):Prop where
 up:Upon fs ws w
 sub:∀ b ∈ fp,b ∈ fs ∨ ws.heap.size<=b
theorem IT.refl (w:World) (fp:List Nat):IT w fp w fp:=⟨Upon.refl _ _,fun b h=>.inl h⟩
theorem IT.trans {a b c:World} {fa fb fc:List Nat} (h:IT a fa b fb) (h':IT b fb c fc):IT a fa c fc:=by
 refine ⟨?_,fun x hx=>?_⟩
 ·exact ⟨h'.up.os.trans h.up.os,h'.up.tape.trans h.up.tape,h'.up.output.trans h.up.output,Nat.le_trans h.up.size h'.up.size,fun k hk hn =>
   (h'.up.block k (Nat.lt_of_lt_of_le hk h.up.size) (fun hx=>by rcases h.sub k hx with h1|h1;exact hn h1;omega)).trans (h.up.block k hk hn)⟩
 ·rcases h'.sub x hx with h1|h1
  ·exact h.sub x h1
  ·exact .inr (Nat.le_trans h.up.size h1)
theorem IT.below {w w':World} {fp:List Nat} (hb:Below w.heap.size w w'):IT w fp w' fp :=
 ⟨⟨hb.os,hb.tape,hb.output,hb.size,fun k hk _=>hb.block k hk⟩,fun b h=>.inl h⟩
theorem own_upon {α : Type} {R:RowOf α} {e:TypeId} {w w':World} {fp:List Nat} {B:Nat} {v:Value} {xs:List α} (ho:OwnL R e w B v xs) (h:Upon fp w w') (hn:∀ k,v.ownBlock=some k->k ∉ fp):OwnL R e w' B v xs:=by
 rcases ho.2 with ⟨rfl,h0⟩|⟨g,cap,cur,rfl,hg,hh,hr⟩
 ·exact ⟨ho.1,.inl ⟨rfl,h0⟩⟩
 ·exact ⟨ho.1,.inr ⟨g,cap,cur,rfl,hg,(h.block g (zb hh) (hn g rfl)).trans hh,hr⟩⟩
theorem IT.own {α : Type} {R:RowOf α} {e:TypeId} {w w':World} {fp fp':List Nat} {B:Nat} {v:Value} {xs:List α} (h:IT w fp w' fp') (ho:OwnL R e w B v xs) (hn:∀ k,v.ownBlock=some k->k ∉ fp):OwnL R e w' B v xs/\∀ k,v.ownBlock=some k->k ∉ fp':=by
 refine ⟨own_upon ho h.up hn,fun k hk hx=>?_⟩
 rcases h.sub k hx with h1|h1
 ·exact hn k hk h1
 ·have:=(ho.lt k hk).2
  omega
def KL {α : Type} (R:RowOf α) (e:TypeId) (w:World) (B:Nat) (fp:List Nat) (v:Value) (ks:List α):Prop:=OwnL R e w B v ks/\∀ j,v.ownBlock=some j->j ∉ fp
theorem KL.below {α : Type} {R:RowOf α} {e:TypeId} {w w':World} {B:Nat} {fp:List Nat} {v:Value} {ks:List α} (h:KL R e w B fp v ks) (hb:Below w.heap.size w w'):KL R e w' B fp v ks:=⟨own_bel h.1 hb,h.2⟩
def BX (w:World) (fp:List Nat) (q:Nat) (o:Obj):Prop:=w.heap[q]?=some o/\q ∉ fp
theorem BX.below {w w':World} {fp:List Nat} {q:Nat} {o:Obj} (h:BX w fp q o) (hb:Below w.heap.size w w'):BX w' fp q o:=⟨(Grew.below hb q (zb h.1)).trans h.1,h.2⟩
structure BW (wr:World) where
 w:World
 b:Below wr.heap.size wr w
instance (wr:World):Nonempty (BW wr):=⟨⟨wr,Below.refl _ _⟩⟩
def rStepM:RowOf StepD:=⟨StepD.row,7,fun _=>rfl,fun d u hu=>by simp [StepD.row] at hu;rcases hu with rfl|rfl|rfl|rfl|rfl|rfl|rfl<;>rfl⟩
def StepD.fine (s:StepD):Prop:=s.call.ok/\(-9223372036854775808<=s.proc/\s.proc<=9223372036854775807)/\(-9223372036854775808<=s.call.a/\s.call.a<=9223372036854775807)/\(-9223372036854775808<=s.call.b/\s.call.b<=9223372036854775807)
end Go.Proofs.YtncnbihlngapbaaGreat
