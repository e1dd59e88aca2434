/- Texts of this claim, merged: the walks and what they stand on. Each condition stands in its theorem. -/
import Derived.BigQuiet
import Derived.Deep.QuietTactic
import Derived.Laws.IdiomStrings
import Derived.Lib.Hide
import Derived.Lib.SliceRun
import Derived.Test.YtodokkpnafabpaaGreatDoorCA1
set_option linter.unusedVariables false
set_option linter.unusedSimpArgs false
set_option maxRecDepth 100000
set_option maxHeartbeats 8000000
namespace Go
open Go.RowKit
@[go_sem] theorem World.drewN_ext (w:World) (X:Ext) (n:Nat):(w.ext X).drewN n=w.ext ⟨X.bs,X.dr+n⟩:=rfl
theorem RowKit.Below.ofDrewN {a w:World} (h:Below a.heap.size a w) (n:Nat):Below a.heap.size a (w.drewN n):=⟨h.os,h.tape,h.output,h.size,h.block⟩
def Grew (w w':World):Prop:=∀ b,b<w.heap.size->w'.heap[b]?=w.heap[b]?
theorem Grew.refl (w:World):Grew w w:=fun _ _=>rfl
theorem Grew.ext (w:World) (X:Ext):Grew w (w.ext X):=fun _ h=>w.ext_get X h
theorem Grew.alloc (w:World) (o:Obj):Grew w (w.alloc o):=fun _ h=>by
 show (w.heap.push o)[_]?=w.heap[_]?
 rw [Array.getElem?_push,if_neg (Nat.ne_of_lt h)]
theorem Grew.drew (w:World):Grew w w.drew:=fun _ _=>rfl
theorem Grew.below {w w':World} (h:Below w.heap.size w w'):Grew w w':=fun b hb=>h.block b hb
theorem Grew.cell {w w':World} (g:Grew w w') {a:Addr} {v:Value} (h:w.cell? a=some v):w'.cell? a=some v :=
 (World.cell?_of_block (g a.block (World.block_lt_of_cell? w a h))).trans h
structure View (α : Type) where
 k:Nat
 rd:World->List Value->α->Prop
 own:World->List Nat->List Value->α->Prop
 len:∀ {w cs d},rd w cs d->cs.length=k
 one:∀ {w cs d},rd w cs d->∀ u ∈ cs,u.oneCell'=true
 grow:∀ {w w' cs d},rd w cs d->Grew w w'->rd w' cs d
 toRd:∀ {w fp cs d},own w fp cs d->rd w cs d
 frame:∀ {w w' fp cs d},own w fp cs d->(∀ b ∈ fp,w'.heap[b]?=w.heap[b]?)->own w' fp cs d
 lt:∀ {w fp cs d},own w fp cs d->∀ b ∈ fp,b<w.heap.size
section
variable {α β : Type} {V:View α} {w w':World} {cs:List Value} {fp:List Nat} {d : α}
theorem View.ownGrow (h:V.own w fp cs d) (g:Grew w w'):V.own w' fp cs d:=V.frame h fun b hb=>g b (V.lt h b hb)
theorem View.ownExt (h:V.own w fp cs d) (X:Ext):V.own (w.ext X) fp cs d:=View.ownGrow h (Grew.ext w X)
end
theorem zh9 {k:Nat} {css:List (List Value)} (h:∀ i (hc:i<css.length),(css[i]).length=k) (i:Nat) (hi:i<css.length) (j:Nat) (u:Value) (hu:css[i][j]?=some u):css.flatten[i*k+j]?=some u:=by
 induction css generalizing i with
 | nil=>simp at hi
 | cons c r ih =>
  have h0:c.length=k:=h 0 (by simp)
  cases i with
  | zero =>
   have hj:j<c.length:=by
    have:=(List.getElem?_eq_some_iff.1 hu).1
    simpa using this
   rw [List.flatten_cons,List.getElem?_append_left (by omega)]
   simpa using hu
  | succ i =>
   rw [List.flatten_cons,List.getElem?_append_right (by rw [h0,Nat.add_mul];omega),h0,show (i+1)*k+j - k=i*k+j by rw [Nat.add_mul];omega]
   exact ih (fun i hc=>by have:=h (i+1) (by simpa using hc);rwa [List.getElem_cons_succ] at this) i (by simpa using hi) (by simpa using hu)
def vSlice {α : Type} (V:View α) (e:TypeId):View (List α) where
 k:=1
 rd w cs ds:=∃ (ao:Option Addr) (cap:Nat) (css:List (List Value)),cs = [.slice ao ds.length cap]/\ds.length<=cap/\cap<=maxLen/\(ao=none->cap=0)/\css.length=ds.length /\
  (∀ i (hi:i<ds.length) (hc:i<css.length),V.rd w css[i] ds[i]) /\
  (ds ≠ []->∃ b off,ao=some ⟨b,off,none⟩/\b<w.heap.size/\∀ j u,css.flatten[j]?=some u->w.cell? ⟨b,off+j,none⟩=some u)
 own w fp cs ds:=(cs = [.slice none 0 0]/\ds = []/\fp = []) ∨ ∃ (b cap:Nat) (blk:Array Value) (css:List (List Value)) (fps:List (List Nat)),cs = [.slice (some ⟨b,0,none⟩) ds.length cap]/\w.heap[b]?=some (.cells blk e (0,0)) /\
  ds.length<=cap/\cap<=maxLen/\blk.size=cap*V.k/\blk.toList.take (ds.length*V.k)=css.flatten/\fp=b :: fps.flatten/\css.length=ds.length/\fps.length=ds.length /\
  ∀ i (hi:i<ds.length) (hc:i<css.length) (hf:i<fps.length),V.own w fps[i] css[i] ds[i]
 len:=by rintro w cs ds ⟨ao,cap,css,rfl,_⟩;rfl
 one:=by rintro w cs ds ⟨ao,cap,css,rfl,_⟩ u hu;simp at hu;subst hu;rfl
 grow:=by
  rintro w w' cs ds ⟨ao,cap,css,rfl,h1,h2,h3,h4,h5,h6⟩ g
  refine ⟨ao,cap,css,rfl,h1,h2,h3,h4,fun i hi hc=>V.grow (h5 i hi hc) g,fun hne=>?_⟩
  obtain ⟨b,off,e,hb,hcell⟩:=h6 hne
  refine ⟨b,off,e,?_,fun j u hj=>g.cell (hcell j u hj)⟩
  have:=g b hb
  rw [Array.getElem?_eq_getElem hb] at this
  exact (Array.getElem?_eq_some_iff.1 this).1
 toRd:=by
  rintro w fp cs ds (⟨rfl,rfl,rfl⟩|⟨b,cap,blk,css,fps,rfl,hb,h1,h2,h3,h4,rfl,h5,h6,h7⟩)
  ·exact ⟨none,0,[],rfl,Nat.le_refl _,Nat.zero_le _,fun _=>rfl,rfl,fun i hi=>absurd hi (by simp),fun h=>absurd rfl h⟩
  ·refine ⟨_,cap,css,rfl,h1,h2,(fun h=>by cases h),h5,fun i hi hc=>V.toRd (h7 i hi hc (by omega)),fun _=>⟨b,0,rfl,za hb,fun j u hj=>?_⟩⟩
   rw [zd hb,<- h4] at *
   rw [List.getElem?_take] at hj
   split at hj
   ·rw [Nat.zero_add]
    simpa using hj
   ·cases hj
 frame:=by
  rintro w w' fp cs ds (⟨rfl,rfl,rfl⟩|⟨b,cap,blk,css,fps,rfl,hb,h1,h2,h3,h4,rfl,h5,h6,h7⟩) g
  ·exact .inl ⟨rfl,rfl,rfl⟩
  ·refine .inr ⟨b,cap,blk,css,fps,rfl,(g b (by simp)).trans hb,h1,h2,h3,h4,rfl,h5,h6,fun i hi hc hf=>V.frame (h7 i hi hc hf) fun c hcb=>g c ?_⟩
   exact List.mem_cons_of_mem _ (List.mem_flatten.2 ⟨_,List.getElem_mem hf,hcb⟩)
 lt:=by
  rintro w fp cs ds (⟨rfl,rfl,rfl⟩|⟨b,cap,blk,css,fps,rfl,hb,h1,h2,h3,h4,rfl,h5,h6,h7⟩) c hc
  ·cases hc
  ·rcases List.mem_cons.1 hc with rfl|hc
   ·exact za hb
   ·obtain ⟨l,hl,hcl⟩:=List.mem_flatten.1 hc
    obtain ⟨i,hi,rfl⟩:=List.getElem_of_mem hl
    exact V.lt (h7 i (by omega) (by omega) hi) c hcl
section
variable {α : Type} {V:View α} {e:TypeId} {w:World} {v:Value} {ds:List α}
theorem vSlice.shape (h:(vSlice V e).rd w [v] ds):∃ ao cap,v=.slice ao ds.length cap/\ds.length<=cap/\cap<=maxLen/\(ao=none->cap=0) /\
  (∀ i (hi:i<ds.length),∃ b off cs,ao=some ⟨b,off,none⟩/\b<w.heap.size/\V.rd w cs ds[i]/\∀ j u,cs[j]?=some u->w.cell? ⟨b,off+i*V.k+j,none⟩=some u):=by
 obtain ⟨ao,cap,css,hv,h1,h2,h3,h4,h5,h6⟩:=h
 simp only [List.cons.injEq,and_true] at hv
 refine ⟨ao,cap,hv,h1,h2,h3,fun i hi=>?_⟩
 obtain ⟨b,off,ea,hb,hcell⟩:=h6 (by intro hz;subst hz;simp at hi)
 refine ⟨b,off,css[i],ea,hb,h5 i hi (by omega),fun j u hj=>?_⟩
 rw [Nat.add_assoc]
 exact hcell _ u (zh9 (fun i hc=>V.len (h5 i (by omega) hc)) i (by omega) j u hj)
end
end Go
namespace Go
open Go.RowKit
def vRow {α : Type} (row : α->List Value) (k:Nat) (ok : α->Prop) (hk:∀ d,(row d).length=k) (h1:∀ d,∀ u ∈ row d,u.oneCell'=true):View α where
 k:=k
 rd _ cs d:=cs=row d/\ok d
 own _ fp cs d:=fp = []/\cs=row d/\ok d
 len h:=by rw [h.1];exact hk _
 one h:=by rw [h.1];exact h1 _
 grow h _:=h
 toRd h:=h.2
 frame h _:=h
 lt h:=by rw [h.1];simp
def vInt:View Int:=vRow (fun n=>[.int .i64 n]) 1 (fun _=>True) (fun _=>rfl) (by simp [Value.oneCell'])
def vStr:View ByteArray:=vRow (fun n=>[.string n]) 1 (fun s=>s.size<=9223372036854775807) (fun _=>rfl) (by simp [Value.oneCell'])
end Go
namespace Go.Proofs.YtodokkpnafabpaaGreatDoor
open Go.RowKit
def zgk (left:Int) (wt:Nat):Int:=if (wt:Int)<=left then left - wt else -1
theorem zel {left:Int} {a:Nat} (h:((a:Nat):Int)<=left):zgk left a=left - a:=by
 unfold zgk
 rw [if_pos h]
theorem zbG {left:Int} {a:Nat} (h:¬ ((a:Nat):Int)<=left):zgk left a = -1:=by
 unfold zgk
 rw [if_neg h]
def wtS {α : Type} (wt : α->Nat) (ds:List α):Nat:=ds.length+(ds.map wt).sum
end Go.Proofs.YtodokkpnafabpaaGreatDoor
namespace Go
open Go.RowKit
structure Fresh {α : Type} (V:View α) (w w':World) (fp:List Nat) (cs:List Value) (d : α):Prop where
 own:V.own w' fp cs d
 nodup:fp.Nodup
 lo:∀ b ∈ fp,w.heap.size<=b
theorem zdE {α : Type} {row : α->List Value} {k:Nat} {ok : α->Prop} {hk:∀ d,(row d).length=k} {h1:∀ d,∀ u ∈ row d,u.oneCell'=true} {e:TypeId} {w:World} {b cap n:Nat} {blk:Array Value} {ds:List α}
  (h:w.heap[b]?=some (.cells blk e (0,0))) (hl:n=ds.length) (hn:n<=cap) (hm:cap<=maxLen) (hs:blk.size=cap*k) (ht:blk.toList.take (n*k)=ds.flatMap row) (hok:∀ d ∈ ds,ok d) :
  (vSlice (vRow row k ok hk h1) e).own w [b] [.slice (some ⟨b,0,none⟩) n cap] ds:=by
 subst hl
 refine .inr ⟨b,cap,blk,ds.map row,ds.map fun _=>[],rfl,h,hn,hm,hs,?_,?_,by simp,by simp,?_⟩
 ·rw [<- List.flatMap_def];exact ht
 ·have:(ds.map fun _=>([]:List Nat)).flatten = []:=by
   rw [List.flatten_eq_nil_iff]
   intro l hl
   obtain ⟨_,_,rfl⟩:=List.mem_map.1 hl
   rfl
  rw [this]
 ·intro i hi hc hf
  refine ⟨by simp,by simp,hok _ (List.getElem_mem hi)⟩
theorem vSlice.freshRow {α : Type} {row : α->List Value} {k:Nat} {ok : α->Prop} {hk:∀ d,(row d).length=k} {h1:∀ d,∀ u ∈ row d,u.oneCell'=true} {e:TypeId} {w:World} {X:Ext} {n:Nat} {blk:Array Value} {ds:List α}
  (hl:n=ds.length) (hm:n<=9223372036854775807) (hs:blk.size=n*k) (ht:blk.toList.take (n*k)=ds.flatMap row) (hok:∀ d ∈ ds,ok d) :
  Fresh (vSlice (vRow row k ok hk h1) e) w ((w.alloc (.cells blk e)).ext X) [w.heap.size] [.slice (some ⟨w.heap.size,0,none⟩) n n] ds:=by
 refine ⟨View.ownExt (zdE (blk:=blk) ?_ hl (Nat.le_refl _) (by unfold maxLen;omega) hs ht hok) X,by simp,by simp⟩
 show (w.heap.push (.cells blk e))[w.heap.size]? = _
 simp
end Go
namespace Go
open Go.RowKit
theorem zcU {cs:Array Value} {n m p:Nat} {L:List Value} {v:Value} (h:cs.toList.take n=L) (hm:m=n) (hp:p=n+1) (hn:n<cs.size):(cs.setIfInBounds m v).toList.take p=L ++ [v]:=by
 subst hm hp
 exact zjo h hn
def Made {α : Type} (V:View α) (w:World) (d : α):Ending->World->Prop:=fun e w'=>∃ v' fp,e=.returned v'/\Fresh V w w' fp [v'] d/\Below w.heap.size w w'
end Go
namespace Go
open Go.RowKit
theorem vSlice.form {α : Type} {V:View α} {e:TypeId} {w:World} {v:Value} {ds:List α} (h:(vSlice V e).rd w [v] ds):∃ ao cap,v=.slice ao ds.length cap:=by
 obtain ⟨ao,cap,rfl,_⟩:=vSlice.shape h
 exact ⟨ao,cap,rfl⟩
structure Sp (lo hi:Nat) (fp:List Nat):Prop where
 nodup:fp.Nodup
 lo:∀ b ∈ fp,lo<=b
 hi:∀ b ∈ fp,b<hi
theorem Sp.append {lo mid mid' hi:Nat} {f g:List Nat} (h:Sp lo mid f) (h':Sp mid' hi g) (h0:lo<=mid') (h1:mid<=mid') (h2:mid<=hi):Sp lo hi (f++g):=by
 refine ⟨List.nodup_append.2 ⟨h.nodup,h'.nodup,fun a ha b hb e=>?_⟩,fun b hb=>?_,fun b hb=>?_⟩
 ·have:=h.hi a ha
  have:=h'.lo b hb
  omega
 ·rcases List.mem_append.1 hb with hb|hb
  ·exact h.lo b hb
  ·exact Nat.le_trans h0 (h'.lo b hb)
 ·rcases List.mem_append.1 hb with hb|hb
  ·exact Nat.lt_of_lt_of_le (h.hi b hb) h2
  ·exact h'.hi b hb
def Pre (A B:Array Obj):Prop:=∃ R,B=A++R
theorem Pre.refl (A:Array Obj):Pre A A:=⟨#[],by simp⟩
theorem Pre.app {A B:Array Obj} (h:Pre A B) (R:Array Obj):Pre A (B++R):=by
 obtain ⟨S,rfl⟩:=h
 exact ⟨S++R,by rw [Array.append_assoc]⟩
end Go
namespace Go.Proofs.YtodokkpnafabpaaGreatDoor
open Go.ChangeShapes Go.WideShapes Go.ChangeAt Go.RowKit
def inB (n lo hi:Int):Bool:=decide (lo<=n) && decide (n<=hi)
theorem zK (n lo hi:Int) (w:World) :
  Calls Tryz.prog 107 #[.int .i64 n,.int .i64 lo,.int .i64 hi] w fun e w'=>e=.returned (.bool (inB n lo hi))/\w'=w:=by
 by_cases h1:lo<=n
 ·by_cases h2:n<=hi
  ·have hq:inB n lo hi=true:=by unfold inB;rw [decide_eq_true h1,decide_eq_true h2];rfl
   rw [hq]
   clear hq
   go_enter Tryz.func107,Tryz.ntmps107
   go_wp2
   go_ret
   exact ⟨rfl,rfl⟩
  ·have hq:inB n lo hi=false:=by unfold inB;rw [decide_eq_true h1,decide_eq_false h2];rfl
   rw [hq]
   clear hq
   go_enter Tryz.func107,Tryz.ntmps107
   go_wp2
   go_ret
   exact ⟨rfl,rfl⟩
 ·have hq:inB n lo hi=false:=by unfold inB;rw [decide_eq_false h1];rfl
  rw [hq]
  clear hq
  go_enter Tryz.func107,Tryz.ntmps107
  go_wp2
  go_ret
  exact ⟨rfl,rfl⟩
theorem zac (n lo hi:Int) (w:World) :
  Calls Tryz.prog 140 #[.int .i64 n,.int .i64 lo,.int .i64 hi] w fun e w'=>e=.returned (.bool (inB n lo hi))/\w'=w:=by
 by_cases h1:lo<=n
 ·by_cases h2:n<=hi
  ·have hq:inB n lo hi=true:=by unfold inB;rw [decide_eq_true h1,decide_eq_true h2];rfl
   rw [hq]
   clear hq
   go_enter Tryz.func140,Tryz.ntmps140
   go_wp2
   go_ret
   exact ⟨rfl,rfl⟩
  ·have hq:inB n lo hi=false:=by unfold inB;rw [decide_eq_true h1,decide_eq_false h2];rfl
   rw [hq]
   clear hq
   go_enter Tryz.func140,Tryz.ntmps140
   go_wp2
   go_ret
   exact ⟨rfl,rfl⟩
 ·have hq:inB n lo hi=false:=by unfold inB;rw [decide_eq_false h1];rfl
  rw [hq]
  clear hq
  go_enter Tryz.func140,Tryz.ntmps140
  go_wp2
  go_ret
  exact ⟨rfl,rfl⟩
def zaX (c:UInt8):Bool:=inB (c.toNat:Int) 33 126 && !((c.toNat:Int)==42)
def zcz (s:ByteArray):Bool:=s.data.toList.all zaX && inB (s.size:Int) 1 40
theorem zc0 (s:ByteArray) (n:Nat) (h:(s.data.toList.take n).all zaX=false):zcz s=false:=by
 unfold zcz
 have:s.data.toList.all zaX=false:=by
  cases hp:s.data.toList.all zaX with
  | false=>rfl
  | true =>
   rw [List.all_eq_true] at hp
   have:(s.data.toList.take n).all zaX=true:=by
    rw [List.all_eq_true]
    exact fun x hx=>hp x (List.mem_of_mem_take hx)
   rw [this] at h
   cases h
 rw [this]
 rfl
theorem zcW (s:ByteArray) (w:World) (hs:s.size<=9223372036854775807) :
  Calls Tryz.prog 188 #[.string s] w fun e w'=>e=.returned (.bool (zcz s))/\w'=w:=by
 go_enter Tryz.func188,Tryz.ntmps188
 go_wp2
 go_loopw [3] (fun k wr=>∃ (n:Nat),k=.int .i64 n/\n<=s.size/\wr=w/\(s.data.toList.take n).all zaX=true) (fun k _=>s.size - (intOf k).toNat)
 case atStart=>exact ⟨0,rfl,by omega,rfl,rfl⟩
 case round =>
  obtain ⟨n,rfl,hn,rfl,hall⟩:=hrel
  have HA:=Hd hall
  clear hall
  by_cases hlt:(n:Int)<s.size
  case pos =>
   have hk:n<s.size:=by omega
   have hst:=zcC s n hk
   have HS:=Hd hst
   clear hst
   have hc0 : 0<=(s[n].toNat:Int):=by omega
   have hc1:(s[n].toNat:Int)<=255:=by have:=s[n].toNat_lt;omega
   have hob:zaX s[n]=zaX s[n]:=rfl
   conv at hob=>rhs;unfold zaX
   by_cases f1:(s[n].toNat:Int)<33
   case pos =>
    have HB:Hid (zaX s[n]=false):=by show _=false;rw [hob];unfold inB;simp;omega
    clear hob
    have HI:Hid (inB (s[n].toNat:Int) 33 126=false):=by show _ = _;unfold inB;simp;omega
    go_wp2_with fail
    (go_at_call 107;refine (zK _ _ _ _).mono ?_;rintro e w' ⟨rfl,rfl⟩)
    rw [HI.out]
    go_wp2
    go_ret
    exact ⟨by rw [zc0 s (n+1) (by rw [HS.out,List.all_append];simp [HB.out])];rfl,rfl⟩
   by_cases f2 : 126<(s[n].toNat:Int)
   case pos =>
    have HB:Hid (zaX s[n]=false):=by show _=false;rw [hob];unfold inB;simp;omega
    clear hob
    have HI:Hid (inB (s[n].toNat:Int) 33 126=false):=by show _ = _;unfold inB;simp;omega
    go_wp2_with fail
    (go_at_call 107;refine (zK _ _ _ _).mono ?_;rintro e w' ⟨rfl,rfl⟩)
    rw [HI.out]
    go_wp2
    go_ret
    exact ⟨by rw [zc0 s (n+1) (by rw [HS.out,List.all_append];simp [HB.out])];rfl,rfl⟩
   by_cases f3:(s[n].toNat:Int)=42
   case pos =>
    have HB:Hid (zaX s[n]=false):=by show _=false;rw [hob];unfold inB;simp;omega
    clear hob
    have f4:((s[n].toNat:Int)==42)=true:=by simp [f3]
    have HI:Hid (inB (s[n].toNat:Int) 33 126=true):=by show _ = _;unfold inB;simp;omega
    go_wp2_with fail
    (go_at_call 107;refine (zK _ _ _ _).mono ?_;rintro e w' ⟨rfl,rfl⟩)
    rw [show inB 42 33 126=true from rfl]
    go_wp2
    go_ret
    exact ⟨by rw [zc0 s (n+1) (by rw [HS.out,List.all_append];simp [HB.out])];rfl,rfl⟩
   have HB:Hid (zaX s[n]=true):=by show _=true;rw [hob];unfold inB;simp;omega
   clear hob
   have f4:((s[n].toNat:Int)==42)=false:=by simp [f3]
   have HI:Hid (inB (s[n].toNat:Int) 33 126=true):=by show _ = _;unfold inB;simp;omega
   go_wp2_with fail
   (go_at_call 107;refine (zK _ _ _ _).mono ?_;rintro e w' ⟨rfl,rfl⟩)
   rw [HI.out]
   go_wp2
   go_roundw
   case rel=>exact ⟨n+1,by go_num,by omega,trivial,by rw [HS.out,List.all_append,HA.out];simp [HB.out]⟩
   case measure=>simp [intOf];omega
  case neg =>
   have e:n=s.size:=by omega
   subst e
   have ha:=HA.out
   rw [List.take_of_length_le (by simp)] at ha
   have HF:Hid (zcz s=inB s.size 1 40):=by show zcz s = _;unfold zcz;rw [ha];rfl
   go_wp2_with fail
   (go_at_call 107;refine (zK _ _ _ _).mono ?_;rintro e w' ⟨rfl,rfl⟩)
   go_wp2
   go_ret
   exact ⟨by rw [HF.out];rfl,rfl⟩
theorem zcg (s:ByteArray) (w:World) (hs:s.size<=9223372036854775807) :
  Calls Tryz.prog 193 #[.string s] w fun e w'=>e=.returned (.bool (zcz s))/\w'=w:=by
 go_enter Tryz.func193,Tryz.ntmps193
 go_wp2
 go_loopw [6] (fun k wr=>∃ (n:Nat),k=.int .i64 n/\n<=s.size/\wr=w/\(s.data.toList.take n).all zaX=true) (fun k _=>s.size - (intOf k).toNat)
 case atStart=>exact ⟨0,rfl,by omega,rfl,rfl⟩
 case round =>
  obtain ⟨n,rfl,hn,rfl,hall⟩:=hrel
  have HA:=Hd hall
  clear hall
  by_cases hlt:(n:Int)<s.size
  case pos =>
   have hk:n<s.size:=by omega
   have hst:=zcC s n hk
   have HS:=Hd hst
   clear hst
   have hc0 : 0<=(s[n].toNat:Int):=by omega
   have hc1:(s[n].toNat:Int)<=255:=by have:=s[n].toNat_lt;omega
   have hob:zaX s[n]=zaX s[n]:=rfl
   conv at hob=>rhs;unfold zaX
   by_cases f1:(s[n].toNat:Int)<33
   case pos =>
    have HB:Hid (zaX s[n]=false):=by show _=false;rw [hob];unfold inB;simp;omega
    clear hob
    have HI:Hid (inB (s[n].toNat:Int) 33 126=false):=by show _ = _;unfold inB;simp;omega
    go_wp2
    go_ret
    exact ⟨by rw [zc0 s (n+1) (by rw [HS.out,List.all_append];simp [HB.out])];rfl,rfl⟩
   by_cases f2 : 126<(s[n].toNat:Int)
   case pos =>
    have HB:Hid (zaX s[n]=false):=by show _=false;rw [hob];unfold inB;simp;omega
    clear hob
    have HI:Hid (inB (s[n].toNat:Int) 33 126=false):=by show _ = _;unfold inB;simp;omega
    go_wp2
    go_ret
    exact ⟨by rw [zc0 s (n+1) (by rw [HS.out,List.all_append];simp [HB.out])];rfl,rfl⟩
   by_cases f3:(s[n].toNat:Int)=42
   case pos =>
    have HB:Hid (zaX s[n]=false):=by show _=false;rw [hob];unfold inB;simp;omega
    clear hob
    have f4:((s[n].toNat:Int)==42)=true:=by simp [f3]
    have HI:Hid (inB (s[n].toNat:Int) 33 126=true):=by show _ = _;unfold inB;simp;omega
    go_wp2
    go_ret
    exact ⟨by rw [zc0 s (n+1) (by rw [HS.out,List.all_append];simp [HB.out])];rfl,rfl⟩
   have HB:Hid (zaX s[n]=true):=by show _=true;rw [hob];unfold inB;simp;omega
   clear hob
   have f4:((s[n].toNat:Int)==42)=false:=by simp [f3]
   have HI:Hid (inB (s[n].toNat:Int) 33 126=true):=by show _ = _;unfold inB;simp;omega
   go_wp2
   go_roundw
   case rel=>exact ⟨n+1,by go_num,by omega,trivial,by rw [HS.out,List.all_append,HA.out];simp [HB.out]⟩
   case measure=>simp [intOf];omega
  case neg =>
   have e:n=s.size:=by omega
   subst e
   have ha:=HA.out
   rw [List.take_of_length_le (by simp)] at ha
   have HF:Hid (zcz s=inB s.size 1 40):=by show zcz s = _;unfold zcz;rw [ha];rfl
   go_wp2_with fail
   (go_at_call 140;refine (zac _ _ _ _).mono ?_;rintro e w' ⟨rfl,rfl⟩)
   go_wp2
   go_ret
   exact ⟨by rw [HF.out];rfl,rfl⟩
end Go.Proofs.YtodokkpnafabpaaGreatDoor
namespace Go
open Go.RowKit
structure Upon (fp:List Nat) (w w':World):Prop where
 os:w'.os=w.os
 tape:w'.tape=w.tape
 output:w'.output=w.output
 size:w.heap.size<=w'.heap.size
 block:∀ b,b<w.heap.size->b ∉ fp->w'.heap[b]?=w.heap[b]?
theorem Upon.refl (fp:List Nat) (w:World):Upon fp w w:=⟨rfl,rfl,rfl,Nat.le_refl _,fun _ _ _=>rfl⟩
theorem Upon.trans {fp:List Nat} {a b c:World} (h:Upon fp a b) (h':Upon fp b c):Upon fp a c :=
 ⟨h'.os.trans h.os,h'.tape.trans h.tape,h'.output.trans h.output,Nat.le_trans h.size h'.size,fun k hk hn=>(h'.block k (Nat.lt_of_lt_of_le hk h.size) hn).trans (h.block k hk hn)⟩
theorem Upon.mono {fp fp':List Nat} {a b:World} (h:Upon fp a b) (hs:∀ x ∈ fp,x ∈ fp'):Upon fp' a b :=
 ⟨h.os,h.tape,h.output,h.size,fun k hk hn=>h.block k hk (fun hx=>hn (hs k hx))⟩
theorem Upon.below {fp:List Nat} {a b:World} (h:Below a.heap.size a b):Upon fp a b:=⟨h.os,h.tape,h.output,h.size,fun k hk _=>h.block k hk⟩
theorem Upon.setB {fp:List Nat} (w:World) {b:Nat} (o:Obj) (hb:b ∈ fp):Upon fp w (w.setB b o) :=
 ⟨rfl,rfl,rfl,by rw [ze];exact Nat.le_refl _,fun k _ hn=>World.setB_get w b o k (fun e=>hn (e ▸ hb))⟩
theorem Upon.setBExt {fp:List Nat} (w:World) {b:Nat} (o:Obj) (X:Ext) (hb:b ∈ fp):Upon fp w ((w.setB b o).ext X) :=
 (Upon.setB w o hb).trans (Upon.below (((Below.refl _ _)).ofExt X))
end Go
namespace Go.Proofs.YtodokkpnafabpaaGreatDoor
open Go.ChangeShapes Go.WideShapes Go.ChangeAt Go.RowKit
def marks {α : Type} (mk:Int->α) (c:Nat) (k:Int) (n:Nat):List α:=(List.range n).map fun i=>mk (k+(c*i:Nat))
structure CellD where
 key:ByteArray
 val:ByteArray
def CellD.row (d:CellD):List Value:=[.string d.key,.string d.val]
def CellD.ok (d:CellD):Prop:=d.key.size<=9223372036854775807/\d.val.size<=9223372036854775807
def CellD.wt (d:CellD):Nat:=d.key.size+d.val.size
def zfO:View CellD:=vRow CellD.row 2 CellD.ok (fun _=>rfl) (fun d u hu=>by simp [CellD.row] at hu;rcases hu with rfl|rfl<;>rfl)
theorem zD:Elem Tryz.prog 38 66 2 32:=Elem.of (.agg #[.string ⟨#[]⟩,.string ⟨#[]⟩]) Tryz.underlying38 (by kernel_rfl) rfl (by decide)
theorem zh3 (d:CellD) (left:Int) (w:World) (hok:d.ok) (h0 : 0<=left) (h1:left<=1125899906842624) :
  Calls Tryz.prog 19 #[.agg d.row.toArray,.int .i64 left] w fun e w'=>e=.returned (.int .i64 (zgk left d.wt))/\Below w.heap.size w w':=by
 obtain ⟨f0,f1⟩:=d
 obtain ⟨z0,z1⟩:=hok
 simp only at z0 z1
 simp only [CellD.row,CellD.wt]
 have e0:wrap64 (left - f0.size)=left - f0.size:=IntWalk.wrap64_in _ (by omega)
 by_cases g0:left - f0.size<0
 ·rw [zbG (by omega)]
  go_enter Tryz.func19,Tryz.ntmps19
  go_wp2
  go_ret
  exact ⟨rfl,(by repeat (first|with_reducible exact Below.refl _ _|with_reducible apply Below.ofAlloc))⟩
 ·skip
  have e1:wrap64 (left - f0.size - f1.size)=left - f0.size - f1.size:=IntWalk.wrap64_in _ (by omega)
  by_cases g1:left - f0.size - f1.size<0
  ·rw [zbG (by omega)]
   go_enter Tryz.func19,Tryz.ntmps19
   go_wp2
   go_ret
   exact ⟨rfl,(by repeat (first|with_reducible exact Below.refl _ _|with_reducible apply Below.ofAlloc))⟩
  ·skip
   rw [zel (by omega)]
   go_enter Tryz.func19,Tryz.ntmps19
   go_wp2
   go_ret
   exact ⟨zgB (by omega),(by repeat (first|with_reducible exact Below.refl _ _|with_reducible apply Below.ofAlloc))⟩
theorem laws_szCellS (v:Value) (ds:List CellD) (left:Int) (w:World) {e:TypeId} (hs:(vSlice zfO e).rd w [v] ds) (h0 : 0<=left) (h1:left<=1125899906842624) :
  Calls Tryz.prog 4 #[v,.int .i64 left] w fun e w'=>e=.returned (.int .i64 (zgk left (wtS CellD.wt ds)))/\Below w.heap.size w w':=by
 obtain ⟨ao,cap,rfl,hc1,hc2,hnil,hcell⟩:=vSlice.shape hs
 have HX:=Hd hcell
 clear hcell hs hnil
 unfold maxLen at hc2
 have hsub:wrap64 (left - ds.length)=left - ds.length:=IntWalk.wrap64_in _ (by omega)
 by_cases hl:left - ds.length<0
 ·rw [zbG (by unfold wtS;omega)]
  go_enter Tryz.func4,Tryz.ntmps4
  go_wp2
  go_ret
  exact ⟨rfl,(by repeat (with_reducible exact Below.refl _ _))⟩
 ·go_enter Tryz.func4,Tryz.ntmps4
  go_wp2
  go_loopw [1,5] (fun l k wr=>∃ (n:Nat) (m:Int) (X:Ext),k=.int .i64 n/\n<=ds.length/\wr=w.ext X/\l=.int .i64 m/\m+((ds.take n).map CellD.wt).sum=left - ds.length/\0<=m) (fun _ k _=>ds.length - (intOf k).toNat)
  case atStart=>exact ⟨0,_,⟨#[],_⟩,rfl,by omega,(zbz _ _ rfl).symm,rfl,by simp,by omega⟩
  case round =>
   obtain ⟨n,m,X,rfl,hn,rfl,rfl,hsum,hm⟩:=hrel
   have HS:=Hd hsum
   have hm2:m<=left:=by omega
   clear hsum
   by_cases hlt:(n:Int)<ds.length
   ·have hk:n<ds.length:=by omega
    obtain ⟨b,off,cs,rfl,hbl,hrd,hcell⟩:=HX.out n hk
    have hstep:=zgy CellD.wt ds n hk
    have hle:=zhO CellD.wt ds (n+1)
    generalize ds[n]=d at hrd hstep
    have HT:=Hd hstep
    have HL:=Hd hle
    clear hstep hle
    obtain ⟨rfl,hok⟩:=hrd
    obtain ⟨x0,x1⟩:=d
    have c0:=hcell 0 _ rfl
    have c1:=hcell 1 _ rfl
    clear hcell
    simp only [show zfO.k=2 from rfl,Nat.add_zero] at c0 c1
    go_wp2_with fail
    (go_at_call 19;refine (zh3 ⟨x0,x1⟩ m _ hok hm (by omega)).mono ?_;rintro e w' ⟨rfl,hb⟩;obtain ⟨X,rfl⟩:=hb.ext;clear hb)
    generalize CellD.wt ⟨x0,x1⟩=wt at HT
    by_cases hg:(wt:Int)<=m
    ·rw [zel hg]
     have hg2:¬ m - (wt:Int)<0:=by omega
     go_wp2
     go_roundw
     case rel=>exact ⟨n+1,m - wt,_,by go_num,by omega,rfl,rfl,by rw [HT.out];have:=HS.out;omega,by omega⟩
     case measure=>simp [intOf];omega
    ·rw [zbG hg]
     go_wp2
     go_ret
     refine ⟨?_,(by repeat (first|with_reducible exact Below.refl _ _|with_reducible apply Below.ofExt))⟩
     have:=HS.out
     have h2:=HT.out
     have h3:=HL.out
     rw [zbG (by unfold wtS;omega)]
     rfl
   ·go_wp2
    go_ret
    refine ⟨?_,(by repeat (first|with_reducible exact Below.refl _ _|with_reducible apply Below.ofExt))⟩
    have e:n=ds.length:=by omega
    subst e
    have:=HS.out
    rw [List.take_length] at this
    rw [zel (by unfold wtS;omega)]
    exact zgB (by unfold wtS;omega)
theorem zh2 (x0:ByteArray) (x1:ByteArray) (w:World) :
  Calls Tryz.prog 26 #[.agg #[.string x0,.string x1]] w fun e w'=>e=.returned (.agg #[.string x0,.string x1])/\Below w.heap.size w w':=by
 go_enter Tryz.func26,Tryz.ntmps26
 go_wp2
 refine bodyPost_ret (by simp [results,Tryz.results26,go_sem];rfl) rfl ?_
 exact ⟨rfl,(by repeat (first|with_reducible exact Below.refl _ _|with_reducible apply Below.ofAlloc))⟩
theorem zh4 (x0:ByteArray) (x1:ByteArray) (w:World) :
  Calls Tryz.prog 34 #[.agg #[.string x0,.string x1],.agg #[.string x0,.string x1]] w fun e w'=>e=.returned (.bool true)/\Below w.heap.size w w':=by
 go_enter Tryz.func34,Tryz.ntmps34
 go_wp2
 go_ret
 exact ⟨rfl,(by repeat (first|with_reducible exact Below.refl _ _|with_reducible apply Below.ofAlloc))⟩
theorem laws_toCellS (v:Value) (ds:List CellD) (w:World) {e:TypeId} (hs:(vSlice zfO e).rd w [v] ds) (hl:ds.length<=1048576) :
  Calls Tryz.prog 8 #[v] w (Made (vSlice zfO 66) w ds):=by
 obtain ⟨ao,cap,rfl,hc1,hc2,hnil,hcell⟩:=vSlice.shape hs
 have HX:=Hd hcell
 have HOK:Hid (∀ d ∈ ds,CellD.ok d):=fun d hd=>by
  obtain ⟨i,hi,rfl⟩:=List.getElem_of_mem hd
  obtain ⟨_,_,_,_,_,h,_⟩:=hcell i hi
  exact h.2
 clear hcell hs hnil
 unfold maxLen at hc2
 obtain ⟨cs0,hsz0,hmk⟩:=Elem.make zD ds.length (by omega) (by omega)
 go_enter Tryz.func8,Tryz.ntmps8
 go_wp2
 go_loopw [4] (fun k wr=>∃ (n:Nat) (cs:Array Value) (X:Ext),k=.int .i64 n/\n<=ds.length/\wr=(w.alloc (.cells cs 66)).ext X/\cs.size=ds.length*2/\cs.toList.take (n*2)=(ds.take n).flatMap CellD.row) (fun k _=>ds.length - (intOf k).toNat)
 case atStart=>exact ⟨0,cs0,⟨#[],_⟩,rfl,by omega,(zbz _ _ rfl).symm,hsz0,by simp⟩
 case round =>
  obtain ⟨n,cs,X,rfl,hn,rfl,hsz,htk⟩:=hrel
  have HT:=Hd htk
  have HSZ:=Hd hsz
  clear htk hmk hsz0 hsz
  by_cases hlt:(n:Int)<ds.length
  ·have hk:n<ds.length:=by omega
   obtain ⟨b,off,cs',rfl,hbl,hrd,hcell⟩:=HX.out n hk
   have hfs:(ds.take (n+1)).flatMap CellD.row=(ds.take n).flatMap CellD.row++CellD.row ds[n]:=by
    simp only [List.take_succ_eq_append_getElem hk,List.flatMap_append,List.flatMap_cons,List.flatMap_nil,List.append_nil]
   generalize ds[n]=d at hrd hfs
   have HF:=Hd hfs
   clear hfs
   obtain ⟨rfl,hok⟩:=hrd
   obtain ⟨x0,x1⟩:=d
   have c0:=hcell 0 _ rfl
   have c1:=hcell 1 _ rfl
   clear hcell
   simp only [show zfO.k=2 from rfl,Nat.add_zero] at c0 c1
   have hsz2:n*2+2<=cs.size:=by rw [HSZ.out];omega
   have o0:cs[n*2]?=some cs[n*2]:=Array.getElem?_eq_getElem (by omega)
   have o1:cs[n*2+1]?=some cs[n*2+1]:=Array.getElem?_eq_getElem (by omega)
   generalize cs[n*2]=y0 at o0
   generalize cs[n*2+1]=y1 at o1
   go_wp2_with fail
   (go_at_call 26;refine (zh2 x0 x1 _).mono ?_;rintro e w' ⟨rfl,hb⟩;obtain ⟨X,rfl⟩:=hb.ext;clear hb)
   go_wp2
   go_roundw
   case rel =>
    have h0:=zcU (v:=.string x0) HT.out rfl rfl (by omega)
    have h1:=zcU (p:=(n+1)*2) (v:=.string x1) h0 rfl (by omega) (by simp;omega)
    exact ⟨n+1,_,_,by go_num,by omega,rfl,by simpa using HSZ.out,by rw [HF.out];simpa [CellD.row] using h1⟩
   case measure=>simp [intOf];omega
  ·go_wp2
   go_ret
   have e:n=ds.length:=by omega
   subst e
   have ht:=HT.out
   rw [List.take_length] at ht
   exact ⟨_,_,rfl,vSlice.freshRow rfl (by omega) HSZ.out ht HOK.out,(by repeat (first|with_reducible exact Below.refl _ _|with_reducible apply Below.ofExt|with_reducible apply Below.ofAlloc))⟩
theorem laws_eqCellS (v v':Value) (ds:List CellD) (w:World) {e e':TypeId} (hs:(vSlice zfO e).rd w [v] ds) (hs':(vSlice zfO e').rd w [v'] ds) :
  Calls Tryz.prog 13 #[v,v'] w fun e w'=>e=.returned (.bool true)/\Below w.heap.size w w':=by
 obtain ⟨ao,cap,rfl,hc1,hc2,hnil,hcell⟩:=vSlice.shape hs
 obtain ⟨ao',cap',rfl,hc1',hc2',hnil',hcell'⟩:=vSlice.shape hs'
 have HX:=Hd hcell
 have HX':=Hd hcell'
 clear hcell hs hnil hcell' hs' hnil'
 unfold maxLen at hc2 hc2'
 go_enter Tryz.func13,Tryz.ntmps13
 go_wp2
 go_loopw [5] (fun k wr=>∃ (n:Nat) (X:Ext),k=.int .i64 n/\n<=ds.length/\wr=w.ext X) (fun k _=>ds.length - (intOf k).toNat)
 case atStart=>exact ⟨0,⟨#[],_⟩,rfl,by omega,(zbz _ _ rfl).symm⟩
 case round =>
  obtain ⟨n,X,rfl,hn,rfl⟩:=hrel
  by_cases hlt:(n:Int)<ds.length
  ·have hk:n<ds.length:=by omega
   obtain ⟨b,off,cs,rfl,hbl,hrd,hcell⟩:=HX.out n hk
   obtain ⟨b',off',cs',rfl,hbl',hrd',hcell'⟩:=HX'.out n hk
   generalize ds[n]=d at hrd hrd'
   obtain ⟨rfl,hok⟩:=hrd
   obtain ⟨rfl,hok'⟩:=hrd'
   obtain ⟨x0,x1⟩:=d
   have c0:=hcell 0 _ rfl
   have c1:=hcell 1 _ rfl
   have e0:=hcell' 0 _ rfl
   have e1:=hcell' 1 _ rfl
   clear hcell hcell'
   simp only [show zfO.k=2 from rfl,Nat.add_zero] at c0 c1 e0 e1
   go_wp2
   refine zgw [(0,true),(1,true),(2,true),(3,true),(4,true),(5,true),(6,true),(7,true),(8,false),(9,true)] 10 (by kernel_rfl) (by kernel_rfl) ?_
   repeat (refine zm rfl (fun K hK=>?_);go_simp;(try simp (disch:=omega) only [IntWalk.i64_in]);refine hK _ ?_;clear hK K)
   refine zt rfl (fun K hK=>?_);go_simp;go_at_call 34;refine (zh4 x0 x1 _).mono ?_;rintro e w' ⟨rfl,hb⟩;obtain ⟨X,rfl⟩:=hb.ext;clear hb;try go_simp;refine hK _ _ (by show Sx _ _;repeat (first|with_reducible exact Sx.same _ _ _ _|with_reducible apply Sx.more)) ?_;clear hK K
   repeat (refine zm rfl (fun K hK=>?_);go_simp;(try simp (disch:=omega) only [IntWalk.i64_in]);refine hK _ ?_;clear hK K)
   refine zaf ?_
   go_wp2
   go_roundw
   case rel=>exact ⟨n+1,_,by go_num,by omega,rfl⟩
   case measure=>simp [intOf];omega
  ·go_wp2
   go_ret
   exact ⟨rfl,(by repeat (first|with_reducible exact Below.refl _ _|with_reducible apply Below.ofExt))⟩
theorem zbu:∀ l:List UInt8,Op.bytesLess l l=false
 | []=>rfl
 | x :: l=>by
  simp only [Op.bytesLess,zbu l,Bool.and_false,Bool.or_false]
  exact decide_eq_false (UInt8.lt_irrefl x)
theorem zbL:∀ (a b:List UInt8),(Op.bytesLess a b || a==b) = !Op.bytesLess b a
 | [],[]=>rfl
 | [],_ :: _=>rfl
 | _ :: _,[]=>rfl
 | x :: a,y :: b=>by
  have ih:=zbL a b
  simp only [Op.bytesLess]
  by_cases h:x=y
  ·subst h
   have hn:¬ x<x:=UInt8.lt_irrefl x
   have e:(x :: a==x :: b)=(a==b):=by simp [List.cons_beq_cons]
   rw [e,decide_eq_false hn]
   simpa using ih
  ·have e:(x :: a==y :: b)=false:=by simp [h]
   have e2:(x==y)=false:=by simp [h]
   have e3:(y==x)=false:=by simp [Ne.symm h]
   rw [e,e2,e3]
   have:¬ x.toNat=y.toNat:=fun q=>h (UInt8.toNat_inj.1 q)
   by_cases hl:x<y
   ·have hn:¬ y<x:=by rw [UInt8.lt_iff_toNat_lt] at hl ⊢;omega
    simp [hl,hn]
   ·have hn:y<x:=by rw [UInt8.lt_iff_toNat_lt] at hl ⊢;omega
    simp [hl,hn]
def zY (key:ByteArray) (c:CellD):Bool:=c.key.toList==key.toList
def zae (key:ByteArray) (c:CellD):Bool:=Op.bytesLess key.toList c.key.toList
theorem zcO {key:ByteArray} {c:CellD} (h:zae key c=true):zY key c=false:=by
 cases hk:zY key c with
 | false=>rfl
 | true =>
  unfold zY at hk
  unfold zae at h
  rw [eq_of_beq hk,zbu] at h
  cases h
theorem zjF {key:ByteArray} {c:CellD} (h:zae key c=true):Op.bytesLess c.key.toList key.toList=false:=by
 have:=zbL c.key.toList key.toList
 unfold zae at h
 rw [h,Bool.not_true,Bool.or_eq_false_iff] at this
 exact this.1
theorem zho {key:ByteArray} {c:CellD} (h:zY key c=true):Op.bytesLess c.key.toList key.toList=false:=by
 unfold zY at h
 rw [eq_of_beq h]
 exact zbu _
theorem zgj {key:ByteArray} {c:CellD} (h:zae key c=false) (hk:zY key c=false):Op.bytesLess c.key.toList key.toList=true:=by
 have:=zbL c.key.toList key.toList
 unfold zae at h
 unfold zY at hk
 rwa [h,hk,Bool.or_false,Bool.not_false] at this
def zE (key:ByteArray) (xs:List CellD):List CellD:=xs.filter fun c=>!zY key c
def zfZ (key val:ByteArray) (ys:List CellD):List CellD:=(ys.takeWhile fun c=>!zae key c)++⟨key,val⟩ :: (ys.dropWhile fun c=>!zae key c)
def zck (key val:ByteArray) (xs:List CellD):List CellD :=
 if zcz key=false ∨ 60<val.size then xs else if val.size=0 then zE key xs else zfZ key val (zE key xs)
def zb7 (key val:ByteArray) (zs:List CellD):List CellD:=if zs.any (zae key) then zfZ key val (zE key zs) else zE key zs
theorem zaz (key:ByteArray) (zs:List CellD) (c:CellD):zE key (zs ++ [c])=zE key zs++(if zY key c then [] else [c]):=by
 unfold zE
 rw [List.filter_append]
 congr 1
 cases hk:zY key c<;>simp [hk]
theorem zdn (key:ByteArray) (zs:List CellD):(zE key zs).any (zae key)=zs.any (zae key):=by
 unfold zE
 rw [List.any_filter]
 induction zs with
 | nil=>rfl
 | cons c zs ih =>
  rw [List.any_cons,List.any_cons,ih]
  congr 1
  cases hg:zae key c with
  | false=>exact Bool.and_false _
  | true=>rw [zcO hg];rfl
theorem zb3 {α : Type} (p : α->Bool):∀ l:List α,l.any p=false->(l.takeWhile fun c=>!p c)=l/\(l.dropWhile fun c=>!p c) = []
 | [],_=>⟨rfl,rfl⟩
 | x :: l,h=>by
  rw [List.any_cons,Bool.or_eq_false_iff] at h
  obtain ⟨h1,h2⟩:=zb3 p l h.2
  simp [List.takeWhile_cons,List.dropWhile_cons,h.1,h1,h2]
theorem zc9 {α : Type} (p : α->Bool) (c : α):∀ l:List α,l.any p=true->((l ++ [c]).takeWhile fun c=>!p c)=(l.takeWhile fun c=>!p c)/\((l ++ [c]).dropWhile fun c=>!p c)=(l.dropWhile fun c=>!p c) ++ [c]
 | [],h=>by cases h
 | x :: l,h=>by
  cases hp:p x with
  | true =>
   simp [List.takeWhile_cons,List.dropWhile_cons,hp]
  | false =>
   rw [List.any_cons,hp,Bool.false_or] at h
   obtain ⟨h1,h2⟩:=zc9 p c l h
   simp [List.takeWhile_cons,List.dropWhile_cons,hp,h1,h2]
theorem zhv {key val:ByteArray} {ys:List CellD} (h:ys.any (zae key)=false):zfZ key val ys=ys ++ [⟨key,val⟩]:=by
 unfold zfZ
 obtain ⟨h1,h2⟩:=zb3 (zae key) ys h
 rw [h1,h2]
theorem zjM {key val:ByteArray} {ys:List CellD} (c:CellD) (h:ys.any (zae key)=true):zfZ key val (ys ++ [c])=zfZ key val ys ++ [c]:=by
 unfold zfZ
 obtain ⟨h1,h2⟩:=zc9 (zae key) c ys h
 rw [h1,h2,List.append_assoc,List.cons_append]
theorem zhW {key val:ByteArray} {zs:List CellD} {c:CellD} (h:zs.any (zae key)=false) (hg:zae key c=true):zb7 key val (zs ++ [c])=(zb7 key val zs ++ [⟨key,val⟩]) ++ [c]:=by
 unfold zb7
 rw [List.any_append,h,if_pos (by simp [hg]),if_neg (by simp),zaz,zcO hg,if_neg (by simp)]
 have h':(zE key zs).any (zae key)=false:=by rw [zdn];exact h
 unfold zfZ
 obtain ⟨h1,h2⟩:=zb3 (zae key) _ h'
 rw [List.takeWhile_append_of_pos,List.dropWhile_append_of_pos]
 ·simp [List.takeWhile_cons,List.dropWhile_cons,hg]
 ·intro x hx
  rw [List.any_eq_false] at h'
  simpa using h' x hx
 ·intro x hx
  rw [List.any_eq_false] at h'
  simpa using h' x hx
theorem zgd {key val:ByteArray} {zs:List CellD} {c:CellD} (hk:zY key c=true):zb7 key val (zs ++ [c])=zb7 key val zs:=by
 have hg:zae key c=false:=by
  cases hg:zae key c with
  | false=>rfl
  | true=>rw [zcO hg] at hk;cases hk
 unfold zb7
 rw [List.any_append,zaz,hk,if_pos rfl,List.append_nil]
 simp [hg]
theorem zdr {key val:ByteArray} {zs:List CellD} {c:CellD} (hk:zY key c=false) (h:zs.any (zae key)=true ∨ zae key c=false):zb7 key val (zs ++ [c])=zb7 key val zs ++ [c]:=by
 have e:zE key (zs ++ [c])=zE key zs ++ [c]:=by rw [zaz,hk];rfl
 have ea:(zs ++ [c]).any (zae key)=(zs.any (zae key) || zae key c):=by simp [List.any_append]
 unfold zb7
 rw [e,ea]
 cases hz:zs.any (zae key) with
 | true =>
  rw [if_pos (by simp),if_pos rfl]
  exact zjM c (by rw [zdn];exact hz)
 | false =>
  rcases h with h|h
  ·rw [hz] at h;cases h
  ·rw [h]
   rfl
theorem zjv {key val:ByteArray} {zs:List CellD}:(if zs.any (zae key) then zb7 key val zs else zb7 key val zs ++ [⟨key,val⟩])=zfZ key val (zE key zs):=by
 unfold zb7
 cases hz:zs.any (zae key) with
 | true=>simp
 | false =>
  simp only [Bool.false_eq_true,if_false]
  exact (zhv (by rw [zdn];exact hz)).symm
theorem zdm (key:ByteArray) (xs:List CellD):(zE key xs).length<=xs.length:=List.length_filter_le _ _
theorem insC_len (key val:ByteArray) (ys:List CellD):(zfZ key val ys).length=ys.length+1:=by
 unfold zfZ
 have:=congrArg List.length (List.takeWhile_append_dropWhile (p:=fun c=>!zae key c) (l:=ys))
 rw [List.length_append] at this ⊢
 rw [List.length_cons]
 omega
theorem zju (key val:ByteArray) (zs:List CellD):(zb7 key val zs).length<=zs.length+1:=by
 unfold zb7
 have:=zdm key zs
 split
 ·rw [insC_len];omega
 ·omega
theorem zcA:∀ d:CellD,∀ u ∈ CellD.row d,u.oneCell'=true:=fun d u hu=>by simp [CellD.row] at hu;rcases hu with rfl|rfl<;>rfl
def zu:RowOf CellD:=⟨CellD.row,2,fun _=>rfl,zcA⟩
theorem rdl_of_own {α : Type} {row : α->List Value} {k:Nat} {ok : α->Prop} {hk:∀ d,(row d).length=k} {h1:∀ d,∀ u ∈ row d,u.oneCell'=true} {R:RowOf α} (hr:R.row=row) {e:TypeId} {w:World} {fp:List Nat} {v:Value} {ds:List α}
  (h:(vSlice (vRow row k ok hk h1) e).own w fp [v] ds):RdL R w v ds:=by
 subst hr
 rcases h with ⟨hv,rfl,_⟩|⟨b,cap,blk,css,fps,hv,hb,h2,h3,h4,h5,h6,h7,h8,h9⟩
 ·cases hv
  exact RdL.nil _ _
 ·cases hv
  refine .inr ⟨b,0,cap,rfl,h2,h3,fun j u hj=>?_⟩
  have e:css=ds.map R.row:=List.ext_getElem (by simp [h7]) (fun i a c=>by
   have:=(h9 i (by omega) a (by omega)).2.1
   simpa using this)
  rw [e,<- List.flatMap_def] at h5
  rw [<- h5,List.getElem?_take] at hj
  split at hj
  ·rw [zd hb,Nat.zero_add]
   simpa using hj
  ·cases hj
theorem zhY {α : Type} {row : α->List Value} {k:Nat} {ok : α->Prop} {hk:∀ d,(row d).length=k} {h1:∀ d,∀ u ∈ row d,u.oneCell'=true} {R:RowOf α} (hr:R.row=row) (hkk:R.k=k) {e:TypeId} {w:World} {B:Nat} {v:Value} {xs:List α} (h:OwnL R e w B v xs) (hok:∀ d ∈ xs,ok d) :
  ∃ fp:List Nat,(vSlice (vRow row k ok hk h1) e).own w fp [v] xs/\fp.Nodup/\∀ b ∈ fp,B<=b:=by
 subst hr hkk
 rcases h.2 with ⟨rfl,h0⟩|⟨g,cap,cur,rfl,hg,hh,hn,hm,hsz,ht⟩
 ·have:xs = []:=List.eq_nil_of_length_eq_zero h0
  subst this
  exact ⟨[],.inl ⟨rfl,rfl,rfl⟩,List.nodup_nil,by simp⟩
 ·exact ⟨[g],zdE hh rfl hn hm hsz ht hok,by simp,by simpa using hg⟩
theorem vCells_ok {v:Value} {xs:List CellD} {w:World} {e:TypeId} (h:(vSlice zfO e).rd w [v] xs):∀ c ∈ xs,c.ok:=by
 obtain ⟨_,_,_,_,_,_,hcell⟩:=vSlice.shape h
 intro c hc
 obtain ⟨i,hi,rfl⟩:=List.getElem_of_mem hc
 obtain ⟨_,_,_,_,_,h,_⟩:=hcell i hi
 exact h.2
theorem own_of_cells {w:World} {B:Nat} {v:Value} {xs:List CellD} {e:TypeId} (h:OwnL zu e w B v xs) (hok:∀ d ∈ xs,d.ok):∃ fp:List Nat,(vSlice zfO e).own w fp [v] xs/\fp.Nodup/\∀ b ∈ fp,B<=b :=
 zhY (R:=zu) (row:=CellD.row) (k:=2) rfl rfl (ok:=CellD.ok) (hk:=fun _=>rfl) (h1:=zcA) h hok
theorem zfD (v:Value) (xs:List CellD) (w:World) (hs:RdL zu w v xs) (hl:xs.length<=1099511627776) :
  Calls Tryz.prog 78 #[v] w fun e w'=>∃ v',e=.returned v'/\OwnL zu 66 w' w.heap.size v' xs/\Below w.heap.size w w':=by
 obtain ⟨ao,cap,rfl,hc1,hc2,hnil,hne⟩:=hs.shape
 have HS:=Hd hs
 clear hs hne
 have qT:∀ (w:World) (a:Option Addr) (n c n' c':Nat),(binOp .eql 38 (.slice a n c) (.slice none n' c')).run Tryz.prog w=.ok (.bool a.isNone) w:=fun w a n c n' c'=>Lib.run_eql_slice_nil w _ _ a n c n' c' Tryz.underlying38
 cases ao with
 | none =>
  obtain ⟨rfl,rfl⟩:=hnil rfl
  go_enter Tryz.func78,Tryz.ntmps78
  go_wp2
  go_ret
  exact ⟨_,rfl,OwnL.nil zu _ _ _,(by repeat (first|with_reducible exact Below.refl _ _|with_reducible apply Below.ofExt|with_reducible apply Below.ofAlloc|with_reducible apply Below.drew|with_reducible apply Below.ofDrewN|with_reducible assumption|(with_reducible refine Below.setCell ?_ (by first|exact Nat.le_refl _|(simp [go_sem];done)|(simp [go_sem];omega)) _)))⟩
 | some a =>
  clear hnil
  go_enter Tryz.func78,Tryz.ntmps78
  go_wp2_with (at_builtin;refine zA ?_)
  refine zI rfl _ _ _ rfl (R:=zu) (e:=66) zD (B:=w.heap.size) (OwnL.empty zu _ w) rfl (HS.out.alloc _) rfl (by simp only [List.length_nil];omega) (by simp only [List.length_nil];unfold maxLen;omega) (by simp) ?_
  intro v4 w4 hown4 hgr4 _
  have hb4:Below w.heap.size w w4:=Below.appL (a:=w) (R:=zu) (e:=66) (by repeat (first|with_reducible exact Below.refl _ _|with_reducible apply Below.ofAlloc)) hgr4 (OwnL.empty zu _ w)
  go_wp2
  go_ret
  exact ⟨_,rfl,hown4,hb4⟩
theorem zaS {α : Type} (p : α->Bool) (xs:List α) (n:Nat) (h:n<xs.length):(xs.take (n+1)).any p=((xs.take n).any p || p xs[n]):=by
 simp only [List.take_succ_eq_append_getElem h,List.any_append,List.any_cons,List.any_nil,Bool.or_false]
theorem zg0 {α : Type} (p : α->Bool) (xs:List α) (n:Nat) (h:(xs.take n).any p=true):xs.any p=true:=by
 rw [List.any_eq_true] at h ⊢
 obtain ⟨x,hx,hp⟩:=h
 exact ⟨x,List.mem_of_mem_take hx,hp⟩
def zam {α : Type} (p : α->Bool) (ds:List α):Int:=if ds.any p then ds.findIdx p else -1
theorem zaw {α : Type} (p : α->Bool) (ds:List α) (h:ds.any p=false):zam p ds = -1:=by unfold zam;rw [h];rfl
theorem zar {α : Type} (p : α->Bool) (ds:List α) (n:Nat) (hn:n<ds.length) (h:(ds.take n).any p=false) (h2:p ds[n]=true):zam p ds=n:=by
 have ha:ds.any p=true:=zg0 p ds (n+1) (by rw [zaS p ds n hn,h2,Bool.or_true])
 unfold zam
 rw [if_pos ha]
 congr 1
 rw [List.findIdx_eq hn]
 refine ⟨h2,fun j hj=>?_⟩
 cases hp:p ds[j] with
 | false=>rfl
 | true =>
  rw [List.any_eq_false] at h
  exact absurd hp (h _ (by rw [List.mem_take_iff_getElem];exact ⟨j,by omega,rfl⟩))
theorem zdT (c:CellD) (key:ByteArray) (b:Nat) (w:World) (hb:b<w.heap.size) (hc:w.cell? ⟨b,0,none⟩=some (.string key)) :
  Calls Tryz.prog 195 #[.agg #[.string c.key,.string c.val],.pointer (some ⟨b,0,none⟩)] w fun e w'=>e=.returned (.bool (zY key c))/\Below w.heap.size w w':=by
 have h:zY key c=(c.key.toList==key.toList):=rfl
 rw [h]
 clear h
 go_enter Tryz.func195,Tryz.ntmps195
 go_wp2
 go_ret
 exact ⟨rfl,(by repeat (first|with_reducible exact Below.refl _ _|with_reducible apply Below.ofAlloc))⟩
theorem zhy (c:CellD) (key:ByteArray) (b:Nat) (w:World) (hb:b<w.heap.size) (hc:w.cell? ⟨b,0,none⟩=some (.string key)) :
  Calls Tryz.prog 197 #[.agg #[.string c.key,.string c.val],.pointer (some ⟨b,0,none⟩)] w fun e w'=>e=.returned (.bool (zae key c))/\Below w.heap.size w w':=by
 cases hg:zae key c with
 | true =>
  have hik:=zcO hg
  have hle:=zjF hg
  have hke:(c.key.toList==key.toList)=false:=hik
  have hge:Op.bytesLess key.toList c.key.toList=true:=hg
  go_enter Tryz.func197,Tryz.ntmps197
  go_wp2
  go_ret
  exact ⟨rfl,(by repeat (first|with_reducible exact Below.refl _ _|with_reducible apply Below.ofExt|with_reducible apply Below.ofAlloc|with_reducible apply Below.drew|with_reducible apply Below.ofDrewN|with_reducible assumption|(with_reducible refine Below.setCell ?_ (by first|exact Nat.le_refl _|(simp [go_sem];done)|(simp [go_sem];omega)) _)))⟩
 | false =>
  have hge:Op.bytesLess key.toList c.key.toList=false:=hg
  cases hik:zY key c with
  | true =>
   have hle:=zho hik
   have hke:(c.key.toList==key.toList)=true:=hik
   go_enter Tryz.func197,Tryz.ntmps197
   go_wp2
   go_ret
   exact ⟨rfl,(by repeat (first|with_reducible exact Below.refl _ _|with_reducible apply Below.ofExt|with_reducible apply Below.ofAlloc|with_reducible apply Below.drew|with_reducible apply Below.ofDrewN|with_reducible assumption|(with_reducible refine Below.setCell ?_ (by first|exact Nat.le_refl _|(simp [go_sem];done)|(simp [go_sem];omega)) _)))⟩
  | false =>
   have hle:=zgj hg hik
   have hke:(c.key.toList==key.toList)=false:=hik
   go_enter Tryz.func197,Tryz.ntmps197
   go_wp2
   go_ret
   exact ⟨rfl,(by repeat (first|with_reducible exact Below.refl _ _|with_reducible apply Below.ofAlloc))⟩
theorem zcy (v:Value) (ds:List CellD) (key:ByteArray) (b0:Nat) (w:World) (hs:RdL zu w v ds) (hb0:b0<w.heap.size) (hc0:w.cell? ⟨b0,0,none⟩=some (.string key)) :
  Calls Tryz.prog 196 #[v,.func (Fn.func 195) #[] #[.pointer (some ⟨b0,0,none⟩)]] w fun e w'=>e=.returned (.int .i64 (zam (zY key) ds))/\Below w.heap.size w w':=by
 obtain ⟨ao,cap,rfl,hc1,hc2,hnil,hne⟩:=hs.shape
 have HX:=Hd hne
 have HC:=Hd hc0
 clear hs hne hnil hc0
 unfold maxLen at hc2
 go_enter Tryz.func196,Tryz.ntmps196
 go_wp2
 go_loopw [8] (fun k wr=>∃ (n:Nat),k=.int .i64 n/\n<=ds.length/\Below w.heap.size w wr/\(ds.take n).any (zY key)=false) (fun k _=>ds.length - (intOf k).toNat)
 case atStart=>exact ⟨0,rfl,by omega,(by repeat (with_reducible exact Below.refl _ _)),rfl⟩
 case round =>
  obtain ⟨n,rfl,hn,hbel,hany⟩:=hrel
  obtain ⟨X,rfl⟩:=hbel.ext
  have HA:=Hd hany
  clear hany
  by_cases hlt:(n:Int)<ds.length
  ·have hk:n<ds.length:=by omega
   obtain ⟨b,off,rfl,hbl,hcell⟩:=HX.out (by intro e;simp [e] at hk)
   have hc:=hcell n hk
   have hst:=zaS (zY key) ds n hk
   have hff:(ds.take n).any (zY key)=false->zY key ds[n]=true->zam (zY key) ds=n:=fun h h2=>zar (zY key) ds n hk h h2
   generalize ds[n]=d at hc hst hff
   have y0:w.cell? ⟨b,off+n*2,none⟩=some (.string d.key):=hc 0 _ rfl
   have y1:w.cell? ⟨b,off+n*2+1,none⟩=some (.string d.val):=hc 1 _ rfl
   clear hc hcell
   have hbl:=hbl (by decide)
   have HT:=Hd hst
   have HF:=Hd hff
   clear hst hff
   cases hm:zY key d with
   | true =>
    have HM:=Hd hm
    clear hm
    go_wp2_with fail
    (go_at_call 195;refine (zdT d key b0 _ (by simp [go_sem];try omega) (by repeat (first|exact HC.out|refine Grew.cell (Grew.ext _ _) ?_))).mono ?_;rintro e w' ⟨rfl,hb⟩;obtain ⟨X,rfl⟩:=hb.ext;clear hb)
    rw [HM.out]
    go_wp2
    go_ret
    exact ⟨by rw [HF.out HA.out HM.out];rfl,(by repeat (first|with_reducible exact Below.refl _ _|with_reducible apply Below.ofExt|with_reducible apply Below.ofAlloc|with_reducible apply Below.drew|with_reducible apply Below.ofDrewN|with_reducible assumption|(with_reducible refine Below.setCell ?_ (by first|exact Nat.le_refl _|(simp [go_sem];done)|(simp [go_sem];omega)) _)))⟩
   | false =>
    have HM:=Hd hm
    clear hm
    go_wp2_with fail
    (go_at_call 195;refine (zdT d key b0 _ (by simp [go_sem];try omega) (by repeat (first|exact HC.out|refine Grew.cell (Grew.ext _ _) ?_))).mono ?_;rintro e w' ⟨rfl,hb⟩;obtain ⟨X,rfl⟩:=hb.ext;clear hb)
    rw [HM.out]
    go_wp2
    go_roundw
    case rel=>exact ⟨n+1,by go_num,by omega,(by repeat (first|with_reducible exact Below.refl _ _|with_reducible apply Below.ofExt)),by rw [HT.out,HA.out,HM.out];rfl⟩
    case measure=>simp [intOf];omega
  ·go_wp2
   go_ret
   have e:n=ds.length:=by omega
   subst e
   have ha:=HA.out
   rw [List.take_length] at ha
   exact ⟨by rw [zaw (zY key) ds ha];rfl,(by repeat (first|with_reducible exact Below.refl _ _|with_reducible apply Below.ofExt))⟩
theorem zcx (v:Value) (ds:List CellD) (key:ByteArray) (b0:Nat) (w:World) (hs:RdL zu w v ds) (hb0:b0<w.heap.size) (hc0:w.cell? ⟨b0,0,none⟩=some (.string key)) :
  Calls Tryz.prog 196 #[v,.func (Fn.func 197) #[] #[.pointer (some ⟨b0,0,none⟩)]] w fun e w'=>e=.returned (.int .i64 (zam (zae key) ds))/\Below w.heap.size w w':=by
 obtain ⟨ao,cap,rfl,hc1,hc2,hnil,hne⟩:=hs.shape
 have HX:=Hd hne
 have HC:=Hd hc0
 clear hs hne hnil hc0
 unfold maxLen at hc2
 go_enter Tryz.func196,Tryz.ntmps196
 go_wp2
 go_loopw [8] (fun k wr=>∃ (n:Nat),k=.int .i64 n/\n<=ds.length/\Below w.heap.size w wr/\(ds.take n).any (zae key)=false) (fun k _=>ds.length - (intOf k).toNat)
 case atStart=>exact ⟨0,rfl,by omega,(by repeat (with_reducible exact Below.refl _ _)),rfl⟩
 case round =>
  obtain ⟨n,rfl,hn,hbel,hany⟩:=hrel
  obtain ⟨X,rfl⟩:=hbel.ext
  have HA:=Hd hany
  clear hany
  by_cases hlt:(n:Int)<ds.length
  ·have hk:n<ds.length:=by omega
   obtain ⟨b,off,rfl,hbl,hcell⟩:=HX.out (by intro e;simp [e] at hk)
   have hc:=hcell n hk
   have hst:=zaS (zae key) ds n hk
   have hff:(ds.take n).any (zae key)=false->zae key ds[n]=true->zam (zae key) ds=n:=fun h h2=>zar (zae key) ds n hk h h2
   generalize ds[n]=d at hc hst hff
   have y0:w.cell? ⟨b,off+n*2,none⟩=some (.string d.key):=hc 0 _ rfl
   have y1:w.cell? ⟨b,off+n*2+1,none⟩=some (.string d.val):=hc 1 _ rfl
   clear hc hcell
   have hbl:=hbl (by decide)
   have HT:=Hd hst
   have HF:=Hd hff
   clear hst hff
   cases hm:zae key d with
   | true =>
    have HM:=Hd hm
    clear hm
    go_wp2_with fail
    (go_at_call 197;refine (zhy d key b0 _ (by simp [go_sem];try omega) (by repeat (first|exact HC.out|refine Grew.cell (Grew.ext _ _) ?_))).mono ?_;rintro e w' ⟨rfl,hb⟩;obtain ⟨X,rfl⟩:=hb.ext;clear hb)
    rw [HM.out]
    go_wp2
    go_ret
    exact ⟨by rw [HF.out HA.out HM.out];rfl,(by repeat (first|with_reducible exact Below.refl _ _|with_reducible apply Below.ofExt|with_reducible apply Below.ofAlloc|with_reducible apply Below.drew|with_reducible apply Below.ofDrewN|with_reducible assumption|(with_reducible refine Below.setCell ?_ (by first|exact Nat.le_refl _|(simp [go_sem];done)|(simp [go_sem];omega)) _)))⟩
   | false =>
    have HM:=Hd hm
    clear hm
    go_wp2_with fail
    (go_at_call 197;refine (zhy d key b0 _ (by simp [go_sem];try omega) (by repeat (first|exact HC.out|refine Grew.cell (Grew.ext _ _) ?_))).mono ?_;rintro e w' ⟨rfl,hb⟩;obtain ⟨X,rfl⟩:=hb.ext;clear hb)
    rw [HM.out]
    go_wp2
    go_roundw
    case rel=>exact ⟨n+1,by go_num,by omega,(by repeat (first|with_reducible exact Below.refl _ _|with_reducible apply Below.ofExt)),by rw [HT.out,HA.out,HM.out];rfl⟩
    case measure=>simp [intOf];omega
  ·go_wp2
   go_ret
   have e:n=ds.length:=by omega
   subst e
   have ha:=HA.out
   rw [List.take_length] at ha
   exact ⟨by rw [zaw (zae key) ds ha];rfl,(by repeat (first|with_reducible exact Below.refl _ _|with_reducible apply Below.ofExt))⟩
end Go.Proofs.YtodokkpnafabpaaGreatDoor
