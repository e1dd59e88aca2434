/- Texts of this claim, merged: the walks and what they stand on. Each condition stands in its theorem. -/
import Derived.Deep.Slices
import Derived.Lib.SmallJoins
import Derived.Test.YtgcmnkkakngifaaGreatDoorCA4
set_option linter.unusedVariables false
set_option linter.unusedSimpArgs false
set_option maxRecDepth 100000
set_option maxHeartbeats 8000000
namespace Go.Proofs.YtgcmnkkakngifaaGreatDoor
open Go.ChangeShapes Go.WideShapes Go.ChangeAt Go.RowKit
structure StepD where
 proc:Int
 call:CallD
def StepD.row (d:StepD):List Value:=[.int .i64 d.proc,.int .i64 d.call.kind,.string d.call.name,.string d.call.to,.int .i64 d.call.a,.int .i64 d.call.b,.string d.call.text]
def StepD.ok (d:StepD):Prop:=d.call.name.size<=9223372036854775807/\d.call.to.size<=9223372036854775807/\d.call.text.size<=9223372036854775807
def zio (xs:List ByteArray):Nat:=wtS ByteArray.size xs
structure TouchD where
 reads:List ByteArray
 writes:List ByteArray
def TouchD.wt (d:TouchD):Nat:=zio d.reads + zio d.writes
structure TxD where
 id:Int
 age:Int
 proc:Int
 began:Int
 calls:List CallD
 answers:List AnswerD
 touch:TouchD
 marks:List Int
 state:Int
def TxD.wt (d:TxD):Nat:=wtS CallD.wt d.calls + wtS AnswerD.wt d.answers + zio d.touch.reads + zio d.touch.writes + d.marks.length
theorem OwnR.same {α : Type} {R:RowOf α} {e:TypeId} {w:World} {B:Nat} {v:Value} {xs:List α} {bs:Array Obj} {d0 dr:Nat} (h:OwnL R e (w.ext ⟨bs,d0⟩) B v xs):OwnL R e (w.ext ⟨bs,dr⟩) B v xs:=by
 have:=h.ext ⟨#[],dr⟩
 rwa [zo,Array.append_empty] at this
end Go.Proofs.YtgcmnkkakngifaaGreatDoor
namespace Go
open Go.RowKit
theorem View.own_below {α : Type} {V:View α} {w w':World} {fp:List Nat} {cs:List Value} {d : α} (h:V.own w fp cs d) (hb:Below w.heap.size w w'):V.own w' fp cs d:=V.frame h fun b hx=>hb.block b (V.lt h b hx)
theorem wt_mem {α : Type} (wt : α->Nat):∀ (ds:List α),∀ d ∈ ds,wt d<=(ds.map wt).sum
 | [],d,h=>by cases h
 | x :: ds,d,h=>by
  rw [List.map_cons,List.sum_cons]
  rcases List.mem_cons.1 h with rfl|h
  ·omega
  ·have:=wt_mem wt ds d h;omega
end Go
namespace Go.Proofs.YtgcmnkkakngifaaGreatDoor
open Go.ChangeShapes Go.WideShapes Go.ChangeAt Go.RowKit
theorem rd_of_RdL {α : Type} {row : α->List Value} {k:Nat} {ok : α->Prop} {hk:∀ d,(row d).length=k} {h1:∀ d,∀ u ∈ row d,u.oneCell'=true} {R:RowOf α} (hr:R.row=row) (hkk:R.k=k) (h0 : 0 < k) {e:TypeId} {w:World} {v:Value} {xs:List α} (h:RdL R w v xs) (hok:∀ d ∈ xs,ok d) :
  (vSlice (vRow row k ok hk h1) e).rd w [v] xs:=by
 subst hr hkk
 rcases h with ⟨rfl,hz,_⟩|⟨b,off,cap,rfl,h2,h3,h4⟩
 ·have:xs = []:=List.eq_nil_of_length_eq_zero hz
  subst this
  exact ⟨none,0,[],rfl,Nat.le_refl _,Nat.zero_le _,fun _=>rfl,rfl,fun i hi=>absurd hi (by simp),fun h=>absurd rfl h⟩
 ·refine ⟨_,cap,xs.map R.row,rfl,h2,h3,(fun h=>by cases h),by simp,fun i hi hc=>⟨by simp,hok _ (List.getElem_mem hi)⟩,fun hne=>⟨b,off,rfl,?_,fun j u hj=>h4 j u (by rw [List.flatMap_def];exact hj)⟩⟩
  cases xs with
  | nil=>exact absurd rfl hne
  | cons x xs =>
   have hl:=R.len x
   cases hx:R.row x with
   | nil=>rw [hx,List.length_nil] at hl;omega
   | cons u us=>exact World.block_lt_of_cell? w _ (h4 0 u (by rw [List.flatMap_cons,hx];rfl))
def InR (n:Int):Prop:=-9223372036854775808<=n/\n<=9223372036854775807
end Go.Proofs.YtgcmnkkakngifaaGreatDoor
namespace Go
open Go.RowKit
end Go
namespace Go.Proofs.YtgcmnkkakngifaaGreatDoor
open Go.ChangeShapes Go.WideShapes Go.ChangeAt Go.RowKit
def TxD.rng (d:TxD):Prop:=InR d.proc/\∀ c ∈ d.calls,InR c.a/\InR c.b
end Go.Proofs.YtgcmnkkakngifaaGreatDoor
