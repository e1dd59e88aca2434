/- Texts of this claim, merged: the walks and what they stand on. Each condition stands in its theorem. -/
import Derived.Test.YtpnoehpmgflibaaGreatDoorCA5
set_option linter.unusedVariables false
set_option linter.unusedSimpArgs false
set_option maxRecDepth 100000
set_option maxHeartbeats 8000000
namespace Go.Proofs.YtpnoehpmgflibaaGreatDoor
open Go.ChangeShapes Go.WideShapes Go.ChangeAt Go.RowKit
structure StepD where
 proc:Int
 call:CallD
def StepD.row (d:StepD):List Value:=[.int .i64 d.proc,.int .i64 d.call.kind,.string d.call.name,.string d.call.to,.int .i64 d.call.a,.int .i64 d.call.b,.string d.call.text]
def StepD.ok (d:StepD):Prop:=d.call.name.size<=9223372036854775807/\d.call.to.size<=9223372036854775807/\d.call.text.size<=9223372036854775807
theorem zcN {v:Value} {xs:List ByteArray} {w:World} {e:TypeId} (h:(vSlice zkq e).rd w [v] xs):∃ ao cap,v=.slice ao xs.length cap/\xs.length<=cap/\cap<=maxLen/\(ao=none->cap=0/\xs = []) /\
  (xs ≠ []->∃ b off,ao=some ⟨b,off,none⟩/\b<w.heap.size/\∀ (i:Nat) (hi:i<xs.length),w.cell? ⟨b,off+i,none⟩=some (Value.string xs[i]))/\∀ s ∈ xs,s.size<=9223372036854775807:=by
 obtain ⟨ao,cap,rfl,h1,h2,h3,h4⟩:=vSlice.shape h
 refine ⟨ao,cap,rfl,h1,h2,fun e=>⟨h3 e,List.eq_nil_of_length_eq_zero (by have:=h3 e;omega)⟩,fun hne=>?_,fun s hs=>?_⟩
 ·have hl : 0<xs.length:=List.length_pos_iff.2 hne
  obtain ⟨b,off,cs,rfl,hb,_,_⟩:=h4 0 hl
  refine ⟨b,off,rfl,hb,fun i hi=>?_⟩
  obtain ⟨b',off',cs',e,_,hr,hc⟩:=h4 i hi
  simp only [Option.some.injEq,Addr.mk.injEq,and_true] at e
  obtain ⟨rfl,rfl⟩:=e
  obtain ⟨rfl,_⟩:=hr
  have:=hc 0 _ rfl
  simpa [zkq,vRow] using this
 ·obtain ⟨i,hi,rfl⟩:=List.getElem_of_mem hs
  obtain ⟨_,_,_,_,_,hr,_⟩:=h4 i hi
  exact hr.2
structure TouchD where
 reads:List ByteArray
 writes:List ByteArray
def zdf:View TouchD where
 k:=2
 rd w cs d:=∃ (s0 s1:Value),cs = [s0,s1]/\(vSlice zkq 9).rd w [s0] d.reads/\(vSlice zkq 9).rd w [s1] d.writes
 own w fp cs d:=∃ (s0 s1:Value) (f0 f1:List Nat),cs = [s0,s1]/\fp=f0++f1/\(vSlice zkq 9).own w f0 [s0] d.reads/\(vSlice zkq 9).own w f1 [s1] d.writes
 len:=by rintro w cs d ⟨s0,s1,rfl,_⟩;rfl
 one:=by
  rintro w cs d ⟨s0,s1,rfl,h0,h1⟩ u hu
  simp only [List.mem_cons,List.not_mem_nil,or_false] at hu
  rcases hu with rfl|rfl
  ·exact View.one _ h0 _ (by simp)
  ·exact View.one _ h1 _ (by simp)
 grow:=by rintro w w' cs d ⟨s0,s1,rfl,h0,h1⟩ g;exact ⟨s0,s1,rfl,View.grow _ h0 g,View.grow _ h1 g⟩
 toRd:=by rintro w fp cs d ⟨s0,s1,f0,f1,rfl,rfl,h0,h1⟩;exact ⟨s0,s1,rfl,View.toRd _ h0,View.toRd _ h1⟩
 frame:=by
  rintro w w' fp cs d ⟨s0,s1,f0,f1,rfl,rfl,h0,h1⟩ g
  exact ⟨s0,s1,f0,f1,rfl,rfl,View.frame _ h0 fun b hb=>g b (by simp [hb]),View.frame _ h1 fun b hb=>g b (by simp [hb])⟩
 lt:=by
  rintro w fp cs d ⟨s0,s1,f0,f1,rfl,rfl,h0,h1⟩ b hb
  simp only [List.mem_append] at hb
  rcases hb with hb|hb
  ·exact View.lt _ h0 b hb
  ·exact View.lt _ h1 b hb
end Go.Proofs.YtpnoehpmgflibaaGreatDoor
namespace Go
open Go.RowKit
end Go
namespace Go.Proofs.YtpnoehpmgflibaaGreatDoor
open Go.ChangeShapes Go.WideShapes Go.ChangeAt Go.RowKit
theorem zgE {α : Type} {row : α->List Value} {k:Nat} {ok : α->Prop} {hk:∀ d,(row d).length=k} {h1:∀ d,∀ u ∈ row d,u.oneCell'=true} {R:RowOf α} (hr:R.row=row) (hkk:R.k=k) (h0 : 0<k) {e:TypeId} {w:World} {v:Value} {xs:List α} (h:RdL R w v xs) (hok:∀ d ∈ xs,ok d) :
  (vSlice (vRow row k ok hk h1) e).rd w [v] xs:=by
 subst hr hkk
 rcases h with ⟨rfl,hz,_⟩|⟨b,off,cap,rfl,h2,h3,h4⟩
 ·have:xs = []:=List.eq_nil_of_length_eq_zero hz
  subst this
  exact ⟨none,0,[],rfl,Nat.le_refl _,Nat.zero_le _,fun _=>rfl,rfl,fun i hi=>absurd hi (by simp),fun h=>absurd rfl h⟩
 ·refine ⟨_,cap,xs.map R.row,rfl,h2,h3,(fun h=>by cases h),by simp,fun i hi hc=>⟨by simp,hok _ (List.getElem_mem hi)⟩,fun hne=>⟨b,off,rfl,?_,fun j u hj=>h4 j u (by rw [List.flatMap_def];exact hj)⟩⟩
  cases xs with
  | nil=>exact absurd rfl hne
  | cons x xs =>
   have hl:=R.len x
   cases hx:R.row x with
   | nil=>rw [hx,List.length_nil] at hl;omega
   | cons u us=>exact World.block_lt_of_cell? w _ (h4 0 u (by rw [List.flatMap_cons,hx];rfl))
end Go.Proofs.YtpnoehpmgflibaaGreatDoor
