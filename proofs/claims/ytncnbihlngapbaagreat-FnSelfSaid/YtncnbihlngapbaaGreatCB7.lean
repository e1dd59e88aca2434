/- Texts of this claim, merged: the walks and what they stand on. Each condition stands in its theorem. -/
import Derived.Test.YtncnbihlngapbaaGreatCB2
set_option linter.unusedVariables false
set_option linter.unusedSimpArgs false
set_option maxRecDepth 100000
set_option maxHeartbeats 8000000
namespace Go.Proofs.YtncnbihlngapbaaGreat
open Go.ChangeShapes Go.WideShapes Go.ChangeAt Go.RowKit
structure StepD where
 proc:Int
 call:CallD
def StepD.row (d:StepD):List Value:=[.int .i64 d.proc,.int .i64 d.call.kind,.string d.call.name,.string d.call.to,.int .i64 d.call.a,.int .i64 d.call.b,.string d.call.text]
def StepD.ok (d:StepD):Prop:=d.call.name.size<=9223372036854775807/\d.call.to.size<=9223372036854775807/\d.call.text.size<=9223372036854775807
def vStep:View StepD:=vRow StepD.row 7 StepD.ok (fun _=>rfl) (fun d u hu=>by simp [StepD.row] at hu;rcases hu with rfl|rfl|rfl|rfl|rfl|rfl|rfl<;>rfl)
end Go.Proofs.YtncnbihlngapbaaGreat
namespace Go
open Go.RowKit
end Go
namespace Go.Proofs.YtncnbihlngapbaaGreat
open Go.ChangeShapes Go.WideShapes Go.ChangeAt Go.RowKit
theorem zax {α : Type} {row : α->List Value} {k:Nat} {ok : α->Prop} {hk:∀ d,(row d).length=k} {h1:∀ d,∀ u ∈ row d,u.oneCell'=true} {R:RowOf α} (hr:R.row=row) (hkk:R.k=k) (h0 : 0<k) {e:TypeId} {w:World} {v:Value} {xs:List α} (h:RdL R w v xs) (hok:∀ d ∈ xs,ok d) :
  (vSlice (vRow row k ok hk h1) e).rd w [v] xs:=by
 subst hr hkk
 rcases h with ⟨rfl,hz,_⟩|⟨b,off,cap,rfl,h2,h3,h4⟩
 ·have:xs = []:=List.eq_nil_of_length_eq_zero hz
  subst this
  exact ⟨none,0,[],rfl,Nat.le_refl _,Nat.zero_le _,fun _=>rfl,rfl,fun i hi=>absurd hi (by simp),fun h=>absurd rfl h⟩
 ·refine ⟨_,cap,xs.map R.row,rfl,h2,h3,(fun h=>by cases h),by simp,fun i hi hc=>⟨by simp,hok _ (List.getElem_mem hi)⟩,fun hne=>⟨b,off,rfl,?_,fun j u hj=>h4 j u (by rw [List.flatMap_def];exact hj)⟩⟩
  cases xs with
  | nil=>exact absurd rfl hne
  | cons x xs =>
   have hl:=R.len x
   cases hx:R.row x with
   | nil=>rw [hx,List.length_nil] at hl;omega
   | cons u us=>exact World.block_lt_of_cell? w _ (h4 0 u (by rw [List.flatMap_cons,hx];rfl))
end Go.Proofs.YtncnbihlngapbaaGreat
