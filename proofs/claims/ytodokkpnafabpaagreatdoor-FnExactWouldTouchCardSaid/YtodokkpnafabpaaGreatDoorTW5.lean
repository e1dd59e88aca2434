/- Walks. Each condition stands in its theorem. -/
import Derived.Deep.Slices
import Derived.Lib.SmallJoins
import Derived.Test.YtodokkpnafabpaaGreatDoorTW2
set_option linter.unusedVariables false
set_option linter.unusedSimpArgs false
set_option maxRecDepth 100000
set_option maxHeartbeats 8000000
namespace Go
open Go.RowKit Go.ChangeShapes Go.WideShapes Go.Deep
def zqY {α : Type} (P:Program) (T:TypeId) (V:View α):Prop:=∀ (H:Type) (enc:TypeId × Value->H) (w:World) (fuel:Nat) {cs:List Value} {x:DataW H × List MemPlace},
 DataW.trod enc P w 0 (fun _=>true) true fuel T cs=some x->∃ d,V.rd w cs d
theorem opensInt {P:Program} {T:TypeId} (ht:P.underlying T=some (.int .i64)):zqY P T vInt:=by
 intro H enc w fuel cs x h
 obtain ⟨n,rfl,_⟩:=DataW.trod_int ht h
 exact ⟨n,rfl,trivial⟩
theorem opensStr {P:Program} {T:TypeId} (ht:P.underlying T=some .string):zqY P T vStr:=by
 intro H enc w fuel cs x h
 obtain ⟨n,rfl,_,hz⟩:=DataW.trod_string ht h
 exact ⟨n,rfl,hz⟩
theorem zqai {k:Nat} (w:World) (b:Nat):∀ (css:List (List Value)) (off:Nat),(∀ i (hc:i<css.length),(css[i]).length=k) ->
  (∀ i (hc:i<css.length) (j:Nat),j<k->w.cell? ⟨b,off+i*k+j,none⟩=css[i][j]?)->∀ j u,css.flatten[j]?=some u->w.cell? ⟨b,off+j,none⟩=some u
 | [],_,_,_,j,u,h=>by simp at h
 | c :: r,off,hl,hc,j,u,h=>by
  have h0:c.length=k:=hl 0 (by simp)
  rw [List.flatten_cons] at h
  by_cases hj:j<k
  ·rw [List.getElem?_append_left (by omega)] at h
   have:=hc 0 (by simp) j hj
   rw [Nat.zero_mul,Nat.add_zero] at this
   rw [this]
   exact h
  ·rw [List.getElem?_append_right (by omega),h0] at h
   have:=zqai w b r (off+k) (fun i hi=>by have:=hl (i+1) (by simpa using hi);rwa [List.getElem_cons_succ] at this) (fun i hi q hq=>by
    have:=hc (i+1) (by simpa using hi) q hq
    rw [List.getElem_cons_succ] at this
    rw [<- this]
    congr 2
    rw [Nat.add_mul]
    omega) (j - k) u h
   rw [<- this]
   congr 2
   omega
theorem zqX (b o n:Nat):(⟨b,o,none⟩ : Addr).add n=⟨b,o+n,none⟩:=zby b o n
theorem zqj {α : Type} {P:Program} {T E:TypeId} {V:View α} {e:TypeId} (ht:P.underlying T=some (.slice E)) (hc:P.cellsOf E=V.k) (hk : 0<V.k) (hE:zqY P E V):zqY P T (vSlice V e):=by
 intro H enc w fuel cs x h
 rcases open_slice ht h with ⟨rfl,_⟩|⟨a,len,cap,m,n,D,Pl,rfl,_,hl,hm,hmm,_,hi⟩
 ·exact ⟨[],none,0,[],rfl,Nat.le_refl _,Nat.zero_le _,fun _=>rfl,rfl,fun i hi=>absurd hi (by simp),fun h=>absurd rfl h⟩
 ·have hmm2:cap=m:=hmm.symm
  subst hmm2
  have hi:∀ i,i<cap->∃ cs',w.cells? 0 (a.add (i*P.cellsOf E)) (P.cellsOf E)=some cs'/\DataW.trod enc P w 0 (fun _=>true) true n E cs'=some (D i,Pl i):=hi
  have hex:∀ i,∃ cs':List Value,∃ d:Option α,i<len->cs'.length=V.k/\(∀ j,j<V.k->w.cell? ((a.add (i*V.k)).add j)=cs'[j]?)/\∃ d',d=some d'/\V.rd w cs' d':=by
   intro i
   by_cases hlt:i<len
   ·obtain ⟨cs',h1,h2⟩:=hi i (by omega)
    rw [hc] at h1
    obtain ⟨_,h3,h4⟩:=World.cells?_some h1
    obtain ⟨d,hd⟩:=hE _ _ _ _ h2
    exact ⟨cs',some d,fun _=>⟨h3,h4,d,rfl,hd⟩⟩
   ·exact ⟨[],none,fun h=>absurd h hlt⟩
  have hex2:∃ (f:Nat->List Value) (g:Nat->Option α),∀ i,i<len->(f i).length=V.k/\(∀ j,j<V.k->w.cell? ((a.add (i*V.k)).add j)=(f i)[j]?)/\∃ d',g i=some d'/\V.rd w (f i) d' :=
   ⟨fun i=>(hex i).choose,fun i=>(hex i).choose_spec.choose,fun i=>(hex i).choose_spec.choose_spec⟩
  obtain ⟨f,g,hfg⟩:=hex2
  by_cases hz:len=0
  ·subst hz
   exact ⟨[],some a,cap,[],rfl,Nat.zero_le _,hm,(fun h=>by cases h),rfl,fun i hi=>absurd hi (by simp),fun h=>absurd rfl h⟩
  ·have h0:=(hfg 0 (by omega))
   have hd0:∃ d0 : α,True:=by obtain ⟨_,_,d,_⟩:=h0;exact ⟨d,trivial⟩
   obtain ⟨d0,_⟩:=hd0
   obtain ⟨b,off,sp⟩:=a
   have hsp:sp=none:=by
    cases sp with
    | none=>rfl
    | some q =>
     have h2:=h0.2.1 0 hk
     rw [Nat.zero_mul] at h2
     have h3:(f 0)[0]?=some ((f 0)[0]'(by rw [h0.1];exact hk)):=List.getElem?_eq_getElem _
     rw [h3] at h2
     have e:((⟨b,off,some q⟩ : Addr).add 0).add 0=⟨b,off,some q⟩:=by simp [Addr.add]
     rw [e] at h2
     unfold World.cell? at h2
     simp only [Option.isSome_some,if_true] at h2
     split at h2<;>cases h2
   subst hsp
   refine ⟨(List.range len).map fun i=>(g i).getD d0,some ⟨b,off,none⟩,cap,(List.range len).map f,by simp,by simpa using hl,hm,(fun h=>by cases h),by simp,?_,fun _=>⟨b,off,rfl,?_,?_⟩⟩
   ·intro i hi hci
    simp only [List.length_map,List.length_range] at hi hci
    obtain ⟨_,_,d',hd',hr⟩:=hfg i hi
    simp only [List.getElem_map,List.getElem_range,hd',Option.getD_some]
    exact hr
   ·have h2:=h0.2.1 0 hk
    obtain ⟨u,hu⟩ : ∃ u,(f 0)[0]?=some u:=⟨_,List.getElem?_eq_getElem (by rw [h0.1];exact hk)⟩
    rw [hu,zqX,zqX] at h2
    exact World.block_lt_of_cell? w _ h2
   ·refine zqai (k:=V.k) w b _ off (fun i hci=>?_) (fun i hci j hj=>?_)
    ·simp only [List.length_map,List.length_range] at hci
     simpa using (hfg i hci).1
    ·simp only [List.length_map,List.length_range] at hci
     have:=(hfg i hci).2.1 j hj
     rw [zqX,zqX] at this
     simpa using this
theorem open_agg {α : Type} {P:Program} {T:TypeId} {V:View α} {fs:Array Field} (hs:P.underlying T=some (.struct fs)) (hO:zqY P T V) {H:Type} {enc:TypeId × Value->H} {W:World} {base:Nat} {v:Value} {d:DataW H} {p:List MemPlace}
  (hv:Value.okWide P W .any base T v) (h:DataW.Trod enc P W 0 (fun _=>true) true T v d p):∃ (cs:List Value) (x : α),v=.agg cs.toArray/\V.rd W cs x:=by
 obtain ⟨cs,rfl,_⟩:=okWide_struct hs hv
 obtain ⟨fuel,hf⟩:=h
 obtain ⟨x,hx⟩:=hO _ _ _ _ hf
 exact ⟨cs.toList,x,by simp,hx⟩
theorem open_sl {α : Type} {P:Program} {T E e:TypeId} {V:View α} (hs:P.underlying T=some (.slice E)) (hO:zqY P T (vSlice V e)) {H:Type} {enc:TypeId × Value->H} {W:World} {base:Nat} {v:Value} {d:DataW H} {p:List MemPlace}
  (hv:Value.okWide P W .any base T v) (h:DataW.Trod enc P W 0 (fun _=>true) true T v d p):∃ x,(vSlice V e).rd W [v] x:=by
 obtain ⟨a,len,cap,rfl⟩:=okWide_slice hs hv
 obtain ⟨fuel,hf⟩:=h
 exact hO _ _ _ _ hf
end Go
namespace Go.Proofs.YtodokkpnafabpaaGreatDoor
open Go.ChangeShapes Go.WideShapes Go.ChangeAt Go.RowKit
theorem zqf:zqY Tryz.prog 3 vInt:=opensInt Tryz.underlying3
def vIntR:View Int:=vRow (fun n=>[.int .i64 n]) 1 InR (fun _=>rfl) (by simp [Value.oneCell'])
def vCallR:View CallD:=vRow CallD.row 6 (fun d=>d.ok/\InR d.a/\InR d.b) (fun _=>rfl) (fun d u hu=>by simp [CallD.row] at hu;rcases hu with rfl|rfl|rfl|rfl|rfl|rfl<;>rfl)
theorem zqH:zqY Tryz.prog 3 vIntR:=by
 intro H enc w fuel cs x h
 obtain ⟨n,rfl,_,hw⟩:=DataW.trod_int Tryz.underlying3 h
 refine ⟨n,rfl,?_⟩
 simp [Lit.wf,IntKind.min,IntKind.max,IntKind.signed,IntKind.bits] at hw
 exact ⟨by omega,by omega⟩
theorem zqaT {α : Type} {row : α->List Value} {k:Nat} {ok ok' : α->Prop} {hk:∀ d,(row d).length=k} {h1:∀ d,∀ u ∈ row d,u.oneCell'=true} {e:TypeId} {w:World} {cs:List Value} {ds:List α} (h:(vSlice (vRow row k ok hk h1) e).rd w cs ds) (hi:∀ d,ok d->ok' d) :
  (vSlice (vRow row k ok' hk h1) e).rd w cs ds:=by
 obtain ⟨ao,cap,css,e,h1,h2,h3,h4,h5,h6⟩:=h
 exact ⟨ao,cap,css,e,h1,h2,h3,h4,fun i hi' hc=>⟨(h5 i hi' hc).1,hi _ (h5 i hi' hc).2⟩,h6⟩
theorem zqaL {α : Type} {row : α->List Value} {k:Nat} {ok : α->Prop} {hk:∀ d,(row d).length=k} {h1:∀ d,∀ u ∈ row d,u.oneCell'=true} {e:TypeId} {w:World} {cs:List Value} {ds:List α} (h:(vSlice (vRow row k ok hk h1) e).rd w cs ds):∀ d ∈ ds,ok d:=by
 obtain ⟨ao,cap,css,e,h1,h2,h3,h4,h5,h6⟩:=h
 intro d hd
 obtain ⟨i,hi,rfl⟩:=List.getElem_of_mem hd
 exact (h5 i hi (by omega)).2
theorem zql:zqY Tryz.prog 9 vStr:=opensStr Tryz.underlying9
theorem Tryz.cellsLCall:Tryz.prog.cellsOf 32=6:=by kernel_rfl
theorem opens_CallR:zqY Tryz.prog 32 vCallR:=by
 intro H enc w fuel cs x h
 obtain ⟨xs,n,_,_,hl,hxl,hf⟩:=DataW.trod_struct Tryz.underlying32 h
 rw [Tryz.cellsLCall] at hl
 match cs,hl with
 | [c0,c1,c2,c3,c4,c5],_ =>
  match xs,hxl with
  | [y0,y1,y2,y3,y4,y5],_ =>
   have h0:DataW.trod enc Tryz.prog w 0 (fun _=>true) true n 3 [c0]=some y0:=by
    have:=hf 0 _ rfl
    rw [show Tryz.prog.cellsOf _=1 by kernel_rfl] at this
    exact this
   have h1:DataW.trod enc Tryz.prog w 0 (fun _=>true) true n 9 [c1]=some y1:=by
    have:=hf 1 _ rfl
    rw [show Tryz.prog.cellsOf _=1 by kernel_rfl] at this
    exact this
   have h2:DataW.trod enc Tryz.prog w 0 (fun _=>true) true n 9 [c2]=some y2:=by
    have:=hf 2 _ rfl
    rw [show Tryz.prog.cellsOf _=1 by kernel_rfl] at this
    exact this
   have h3:DataW.trod enc Tryz.prog w 0 (fun _=>true) true n 3 [c3]=some y3:=by
    have:=hf 3 _ rfl
    rw [show Tryz.prog.cellsOf _=1 by kernel_rfl] at this
    exact this
   have h4:DataW.trod enc Tryz.prog w 0 (fun _=>true) true n 3 [c4]=some y4:=by
    have:=hf 4 _ rfl
    rw [show Tryz.prog.cellsOf _=1 by kernel_rfl] at this
    exact this
   have h5:DataW.trod enc Tryz.prog w 0 (fun _=>true) true n 9 [c5]=some y5:=by
    have:=hf 5 _ rfl
    rw [show Tryz.prog.cellsOf _=1 by kernel_rfl] at this
    exact this
   obtain ⟨d0,e0,_⟩:=zqf _ _ _ _ h0
   obtain ⟨d1,e1,z1⟩:=zql _ _ _ _ h1
   obtain ⟨d2,e2,z2⟩:=zql _ _ _ _ h2
   obtain ⟨d3,e3,z3⟩:=zqH _ _ _ _ h3
   obtain ⟨d4,e4,z4⟩:=zqH _ _ _ _ h4
   obtain ⟨d5,e5,z5⟩:=zql _ _ _ _ h5
   simp only [List.cons.injEq,and_true] at e0
   subst e0
   simp only [List.cons.injEq,and_true] at e1
   subst e1
   simp only [List.cons.injEq,and_true] at e2
   subst e2
   simp only [List.cons.injEq,and_true] at e3
   subst e3
   simp only [List.cons.injEq,and_true] at e4
   subst e4
   simp only [List.cons.injEq,and_true] at e5
   subst e5
   exact ⟨⟨d0,d1,d2,d3,d4,d5⟩,rfl,⟨⟨z1,z2,z5⟩,z3,z4⟩⟩
theorem Tryz.cellsLCell:Tryz.prog.cellsOf 56=2:=by kernel_rfl
theorem zqaO:zqY Tryz.prog 56 zfO:=by
 intro H enc w fuel cs x h
 obtain ⟨xs,n,_,_,hl,hxl,hf⟩:=DataW.trod_struct Tryz.underlying56 h
 rw [Tryz.cellsLCell] at hl
 match cs,hl with
 | [c0,c1],_ =>
  match xs,hxl with
  | [y0,y1],_ =>
   have h0:DataW.trod enc Tryz.prog w 0 (fun _=>true) true n 9 [c0]=some y0:=by
    have:=hf 0 _ rfl
    rw [show Tryz.prog.cellsOf _=1 by kernel_rfl] at this
    exact this
   have h1:DataW.trod enc Tryz.prog w 0 (fun _=>true) true n 9 [c1]=some y1:=by
    have:=hf 1 _ rfl
    rw [show Tryz.prog.cellsOf _=1 by kernel_rfl] at this
    exact this
   obtain ⟨d0,e0,z0⟩:=zql _ _ _ _ h0
   obtain ⟨d1,e1,z1⟩:=zql _ _ _ _ h1
   simp only [List.cons.injEq,and_true] at e0
   subst e0
   simp only [List.cons.injEq,and_true] at e1
   subst e1
   exact ⟨⟨d0,d1⟩,rfl,⟨z0,z1⟩⟩
theorem opens_CellS {x:TypeId}:zqY Tryz.prog 22 (vSlice zfO x):=zqj Tryz.underlying22 (by kernel_rfl) (by decide) zqaO
end Go.Proofs.YtodokkpnafabpaaGreatDoor
