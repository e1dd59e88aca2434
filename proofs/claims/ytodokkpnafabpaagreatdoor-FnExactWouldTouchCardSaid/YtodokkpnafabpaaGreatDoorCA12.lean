/- Texts of this claim, merged: the walks and what they stand on. Each condition stands in its theorem. -/
import Derived.Deep.Slices
import Derived.Lib.SmallJoins
import Derived.Test.YtodokkpnafabpaaGreatDoorCA4
set_option linter.unusedVariables false
set_option linter.unusedSimpArgs false
set_option maxRecDepth 100000
set_option maxHeartbeats 8000000
namespace Go.Proofs.YtodokkpnafabpaaGreatDoor
open Go.ChangeShapes Go.WideShapes Go.ChangeAt Go.RowKit
structure StepD where
 proc:Int
 call:CallD
def StepD.row (d:StepD):List Value:=[.int .i64 d.proc,.int .i64 d.call.kind,.string d.call.name,.string d.call.to,.int .i64 d.call.a,.int .i64 d.call.b,.string d.call.text]
def StepD.ok (d:StepD):Prop:=d.call.name.size<=9223372036854775807/\d.call.to.size<=9223372036854775807/\d.call.text.size<=9223372036854775807
def zip (xs:List ByteArray):Nat:=wtS ByteArray.size xs
structure TouchD where
 reads:List ByteArray
 writes:List ByteArray
def TouchD.wt (d:TouchD):Nat:=zip d.reads+zip d.writes
structure TxD where
 id:Int
 age:Int
 proc:Int
 began:Int
 calls:List CallD
 answers:List AnswerD
 touch:TouchD
 marks:List Int
 state:Int
def vTx:View TxD where
 k:=10
 rd w cs d:=∃ (s0 s1 s2 s3 s4:Value),cs = [.int .i64 d.id,.int .i64 d.age,.int .i64 d.proc,.int .i64 d.began,s0,s1,s2,s3,s4,.int .i64 d.state]/\(vSlice vCall 45).rd w [s0] d.calls/\(vSlice zjn 62).rd w [s1] d.answers/\(vSlice vStr 9).rd w [s2] d.touch.reads/\(vSlice vStr 9).rd w [s3] d.touch.writes/\(vSlice vInt 3).rd w [s4] d.marks
 own w fp cs d:=∃ (s0 s1 s2 s3 s4:Value) (f0 f1 f2 f3 f4:List Nat),cs = [.int .i64 d.id,.int .i64 d.age,.int .i64 d.proc,.int .i64 d.began,s0,s1,s2,s3,s4,.int .i64 d.state]/\fp=f0++f1++f2++f3++f4/\(vSlice vCall 45).own w f0 [s0] d.calls/\(vSlice zjn 62).own w f1 [s1] d.answers/\(vSlice vStr 9).own w f2 [s2] d.touch.reads/\(vSlice vStr 9).own w f3 [s3] d.touch.writes/\(vSlice vInt 3).own w f4 [s4] d.marks
 len:=by rintro w cs d ⟨s0,s1,s2,s3,s4,rfl,_⟩;rfl
 one:=by
  rintro w cs d ⟨s0,s1,s2,s3,s4,rfl,h0,h1,h2,h3,h4⟩ u hu
  simp only [List.mem_cons,List.not_mem_nil,or_false] at hu
  rcases hu with rfl|rfl|rfl|rfl|rfl|rfl|rfl|rfl|rfl|rfl
  ·rfl
  ·rfl
  ·rfl
  ·rfl
  ·exact View.one _ h0 _ (by simp)
  ·exact View.one _ h1 _ (by simp)
  ·exact View.one _ h2 _ (by simp)
  ·exact View.one _ h3 _ (by simp)
  ·exact View.one _ h4 _ (by simp)
  ·rfl
 grow:=by rintro w w' cs d ⟨s0,s1,s2,s3,s4,rfl,h0,h1,h2,h3,h4⟩ g;exact ⟨s0,s1,s2,s3,s4,rfl,View.grow _ h0 g,View.grow _ h1 g,View.grow _ h2 g,View.grow _ h3 g,View.grow _ h4 g⟩
 toRd:=by rintro w fp cs d ⟨s0,s1,s2,s3,s4,f0,f1,f2,f3,f4,rfl,rfl,h0,h1,h2,h3,h4⟩;exact ⟨s0,s1,s2,s3,s4,rfl,View.toRd _ h0,View.toRd _ h1,View.toRd _ h2,View.toRd _ h3,View.toRd _ h4⟩
 frame:=by
  rintro w w' fp cs d ⟨s0,s1,s2,s3,s4,f0,f1,f2,f3,f4,rfl,rfl,h0,h1,h2,h3,h4⟩ g
  exact ⟨s0,s1,s2,s3,s4,f0,f1,f2,f3,f4,rfl,rfl,View.frame _ h0 fun b hb=>g b (by simp [hb]),View.frame _ h1 fun b hb=>g b (by simp [hb]),View.frame _ h2 fun b hb=>g b (by simp [hb]),View.frame _ h3 fun b hb=>g b (by simp [hb]),View.frame _ h4 fun b hb=>g b (by simp [hb])⟩
 lt:=by
  rintro w fp cs d ⟨s0,s1,s2,s3,s4,f0,f1,f2,f3,f4,rfl,rfl,h0,h1,h2,h3,h4⟩ b hb
  simp only [List.mem_append,List.append_assoc] at hb
  rcases hb with hb|hb|hb|hb|hb
  ·exact View.lt _ h0 b hb
  ·exact View.lt _ h1 b hb
  ·exact View.lt _ h2 b hb
  ·exact View.lt _ h3 b hb
  ·exact View.lt _ h4 b hb
def TxD.wt (d:TxD):Nat:=wtS CallD.wt d.calls+wtS AnswerD.wt d.answers+zip d.touch.reads+zip d.touch.writes+d.marks.length
theorem OwnR.same {α : Type} {R:RowOf α} {e:TypeId} {w:World} {B:Nat} {v:Value} {xs:List α} {bs:Array Obj} {d0 dr:Nat} (h:OwnL R e (w.ext ⟨bs,d0⟩) B v xs):OwnL R e (w.ext ⟨bs,dr⟩) B v xs:=by
 have:=h.ext ⟨#[],dr⟩
 rwa [zp,Array.append_empty] at this
end Go.Proofs.YtodokkpnafabpaaGreatDoor
namespace Go
open Go.RowKit
theorem View.own_below {α : Type} {V:View α} {w w':World} {fp:List Nat} {cs:List Value} {d : α} (h:V.own w fp cs d) (hb:Below w.heap.size w w'):V.own w' fp cs d:=V.frame h fun b hx=>hb.block b (V.lt h b hx)
theorem wt_mem {α : Type} (wt : α->Nat):∀ (ds:List α),∀ d ∈ ds,wt d<=(ds.map wt).sum
 | [],d,h=>by cases h
 | x :: ds,d,h=>by
  rw [List.map_cons,List.sum_cons]
  rcases List.mem_cons.1 h with rfl|h
  ·omega
  ·have:=wt_mem wt ds d h;omega
end Go
namespace Go.Proofs.YtodokkpnafabpaaGreatDoor
open Go.ChangeShapes Go.WideShapes Go.ChangeAt Go.RowKit
theorem rd_of_RdL {α : Type} {row : α->List Value} {k:Nat} {ok : α->Prop} {hk:∀ d,(row d).length=k} {h1:∀ d,∀ u ∈ row d,u.oneCell'=true} {R:RowOf α} (hr:R.row=row) (hkk:R.k=k) (h0 : 0<k) {e:TypeId} {w:World} {v:Value} {xs:List α} (h:RdL R w v xs) (hok:∀ d ∈ xs,ok d) :
  (vSlice (vRow row k ok hk h1) e).rd w [v] xs:=by
 subst hr hkk
 rcases h with ⟨rfl,hz,_⟩|⟨b,off,cap,rfl,h2,h3,h4⟩
 ·have:xs = []:=List.eq_nil_of_length_eq_zero hz
  subst this
  exact ⟨none,0,[],rfl,Nat.le_refl _,Nat.zero_le _,fun _=>rfl,rfl,fun i hi=>absurd hi (by simp),fun h=>absurd rfl h⟩
 ·refine ⟨_,cap,xs.map R.row,rfl,h2,h3,(fun h=>by cases h),by simp,fun i hi hc=>⟨by simp,hok _ (List.getElem_mem hi)⟩,fun hne=>⟨b,off,rfl,?_,fun j u hj=>h4 j u (by rw [List.flatMap_def];exact hj)⟩⟩
  cases xs with
  | nil=>exact absurd rfl hne
  | cons x xs =>
   have hl:=R.len x
   cases hx:R.row x with
   | nil=>rw [hx,List.length_nil] at hl;omega
   | cons u us=>exact World.block_lt_of_cell? w _ (h4 0 u (by rw [List.flatMap_cons,hx];rfl))
def InR (n:Int):Prop:=-9223372036854775808<=n/\n<=9223372036854775807
end Go.Proofs.YtodokkpnafabpaaGreatDoor
namespace Go
open Go.RowKit
end Go
namespace Go.Proofs.YtodokkpnafabpaaGreatDoor
open Go.ChangeShapes Go.WideShapes Go.ChangeAt Go.RowKit
def TxD.rng (d:TxD):Prop:=InR d.proc/\∀ c ∈ d.calls,InR c.a/\InR c.b
end Go.Proofs.YtodokkpnafabpaaGreatDoor
