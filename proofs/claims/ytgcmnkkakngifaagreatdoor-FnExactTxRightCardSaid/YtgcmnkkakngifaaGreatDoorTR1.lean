/- Texts of this claim, merged: the walks and what they stand on. Each condition stands in its theorem. -/
import Derived.BigQuiet
import Derived.Deep.QuietTactic
import Derived.Laws.IdiomStrings
import Derived.Lib.AppendStr
import Derived.Lib.FrozenHead
import Derived.OpenShut
import Derived.ProofKit
import Derived.Test.YtgcmnkkakngifaaGreatDoorCA1
import Derived.Test.YtgcmnkkakngifaaGreatDoorCA12
import Derived.Test.YtgcmnkkakngifaaGreatDoorCA2
import Derived.Test.YtgcmnkkakngifaaGreatDoorCA3
import Derived.Test.YtgcmnkkakngifaaGreatDoorCA4
import Derived.Test.YtgcmnkkakngifaaGreatDoorRows
import Derived.WalkKit
import Derived.WalkLawsBesides
import Derived.WalkSpells
set_option linter.unusedVariables false
set_option linter.unusedSimpArgs false
set_option maxRecDepth 100000
set_option maxHeartbeats 8000000
namespace Go.Proofs.YtgcmnkkakngifaaGreatDoor
open Go.ChangeShapes Go.WideShapes Go.ChangeAt Go.RowKit
theorem Tryz.own:ownKnob Tryz.prog.godebug=none:=by kernel_rfl
theorem Tryz.laidOut:laidOutB Tryz.prog=true:=by kernel_rfl
def Yes (W:World):Ending->World->Prop:=fun e W'=>e = .returned (.bool true)/\Below W.heap.size W W'
theorem trodAll_stays {H:Type} {enc:TypeId × Value->H} {P:Program} (hl:laidOutB P=true) {W W':World} (hb:Below W.heap.size W W') :
  ∀ (ts:List TypeId) (vs:List Value) (ds:List (DataW H)) (ps:List MemPlace),(∀ t ∈ ts,P.readableRec t=true/\t < P.types.size) ->
   (∀ x ∈ ps,x.block < W.heap.size)->DataW.TrodAll enc P W 0 (fun _=>true) true ts vs ds ps ->
   DataW.TrodAll enc P W' 0 (fun b=>decide (b < W.heap.size)) true ts vs ds ps
 | [],[],[],_,_,_,h=>h
 | t :: ts,v :: vs,d :: ds,_,hr,hlt,⟨p,q,h1,h2,e⟩=>by
  subst e
  exact ⟨p,q,Below.trod hl (hr t (by simp)).1 (hr t (by simp)).2 h1 hb (fun x hx=>hlt x (by simp [hx])),
   trodAll_stays hl hb ts vs ds q (fun t ht=>hr t (by simp [ht])) (fun x hx=>hlt x (by simp [hx])) h2,rfl⟩
 | [],_ :: _,_,_,_,_,h=>h.elim
 | [],[],_ :: _,_,_,_,h=>h.elim
 | _ :: _,[],_,_,_,_,h=>h.elim
 | _ :: _,_ :: _,[],_,_,_,h=>h.elim
theorem law_post {H:Type} {enc:TypeId × Value->H} {P:Program} (hl:laidOutB P=true) {f:Func} {s:ChangeSpec} {W W':World} {args:Array Value} {ds gs:List (DataW H)} {before:List MemPlace}
  (hW:DataW.Whole enc P f.params.toList s.vars false W args.toList ds gs before) (hv:s.vars = [])
  (hr:∀ t ∈ f.params.toList,P.readableRec t=true/\t < P.types.size)
  (hres:DataW.TrodAll enc P W' W.heap.size (fun _=>false) false f.resultTypes.toList ((Value.bool true).resultList f.resultTypes.size) (s.fn H (ds ++ gs)).results [])
  (hargs:(s.fn H (ds ++ gs)).args=ds) (hvars:(s.fn H (ds ++ gs)).vars = []) (hb:Below W.heap.size W W') :
  s.post enc P f false true false false W args (.bool true) W':=by
 have hW':=hW
 obtain ⟨p,q,hA,hV,hpq,_,_⟩:=hW'
 rw [hv] at hV
 have hq:gs = []/\q = []:=by
  cases gs with
  | nil=>exact ⟨rfl,hV⟩
  | cons g gs=>exact hV.elim
 obtain ⟨rfl,rfl⟩:=hq
 simp only [List.append_nil] at hpq
 subst hpq
 refine ⟨ds,[],before,[],before,[],hW,hres,?_,?_,hb.frame _,fun h=>by cases h⟩
 ·rw [hargs]
  exact trodAll_stays hl hb _ _ _ _ hr (fun x hx=>hW.lt x hx) hA
 ·rw [hv,hvars]
  rfl
end Go.Proofs.YtgcmnkkakngifaaGreatDoor
namespace Go
open Go.RowKit
theorem Sl.lt {w:World} {v:Value} {n:Nat} {cs:List Value} (h:Sl w v n cs) (hc:cs ≠ []):∀ b,v.ownBlock=some b->b < w.heap.size:=by
 intro b hb
 rcases h with ⟨rfl,_,_⟩|⟨b',off,cap,rfl,h1,h2,h3⟩
 ·simp [Value.ownBlock] at hb
 ·simp only [Value.ownBlock,Option.some.injEq] at hb
  subst hb
  cases cs with
  | nil=>exact absurd rfl hc
  | cons u r=>exact World.block_lt_of_cell? w ⟨b',off + 0,none⟩ (h3 0 u rfl)
end Go
namespace Go
open Go.RowKit
theorem Sl.lit (w:World) (cs:Array Value) (t:TypeId) (n:Nat) (hm:n<=maxLen):Sl (w.alloc (.cells cs t)) (.slice (some ⟨w.heap.size,0,none⟩) n n) n cs.toList :=
 Sl.new w cs.toList t n hm
section
variable {P:Program}
end
end Go
namespace Go
open Go.RowKit
variable {α : Type}
section
variable {R:RowOf α} {w:World} {v:Value} {xs:List α} {e:TypeId} {B:Nat}
theorem OwnL.kept {w':World} {row:Option Nat} (h:OwnL R e w B v xs) (hg:w.grownBy w' row) (hne:v.ownBlock=none ∨ v.ownBlock ≠ row):OwnL R e w' B v xs:=World.ownsRow.kept h hg hne
theorem OwnL.lit (R:RowOf α) (w:World) (xs:List α) (n:Nat) (hn:n=xs.length) (hm:n<=maxLen) (cs:Array Value) (hcs:cs=(xs.flatMap R.row).toArray) (e:TypeId):OwnL R e (w.alloc (.cells cs e)) w.heap.size (.slice (some ⟨w.heap.size,0,none⟩) n n) xs:=by
 subst hcs hn
 have:=World.ownsRow_lit (e:=e) (size:=R.k) w (xs.flatMap R.row).toArray xs.length (base:=w.heap.size) (Nat.le_refl _) hm (by simp [R.flat_len])
 simpa [OwnL] using this
end
section
variable {P:Program}
end
/-! ### the Go types -/
theorem Got.other {p:Nat} {w w1:World} {o:Obj} (h:Got p w o w1) {b:Nat} (hb:b < w.heap.size) (hne:b ≠ p):w1.heap[b]?=w.heap[b]?:=by
 obtain ⟨X,rfl⟩:=h
 rw [World.ext_get _ _ (by rw [ze];exact hb),World.setB_get _ _ _ _ hne]
theorem RdW.shape {α : Type} {R:RowOf α} {w:World} {v:Value} {xs:List α} (h:RdW R w v xs):∃ ao cap,v = .slice ao xs.length cap/\xs.length<=cap/\cap<=maxLen/\(ao=none->cap=0/\xs = []) /\
  (xs ≠ []->∃ b off,ao=some ⟨b,off,none⟩/\(0 < R.k->b < w.heap.size)/\∀ (i:Nat) (hi:i < xs.length) (j:Nat) (u:Value),(R.row xs[i])[j]?=some u->w.cell? ⟨b,off + i * R.k + j,none⟩ = some u):=by
 rcases h with h|⟨rfl,a,rfl⟩
 ·exact h.shape
 ·exact ⟨some a,0,rfl,Nat.le_refl _,Nat.zero_le _,(fun e=>by cases e),fun e=>absurd rfl e⟩
attribute [go_sem] SpF
end Go
namespace Go
open Go.RowKit
section
variable {α β : Type} {V:View α} {w w':World} {cs:List Value} {fp:List Nat} {d : α}
theorem View.rdExt (h:V.rd w cs d) (X:Ext):V.rd (w.ext X) cs d:=V.grow h (Grew.ext w X)
theorem View.rdAlloc (h:V.rd w cs d) (o:Obj):V.rd (w.alloc o) cs d:=V.grow h (Grew.alloc w o)
end
section
variable {α : Type} {V:View α} {e:TypeId} {w:World} {v:Value} {ds:List α}
end
end Go
namespace Go
open Go.RowKit
def vInt:View Int:=vRow (fun n=>[.int .i64 n]) 1 (fun _=>True) (fun _=>rfl) (by simp [Value.oneCell'])
def vStr:View ByteArray:=vRow (fun n=>[.string n]) 1 (fun s=>s.size<=9223372036854775807) (fun _=>rfl) (by simp [Value.oneCell'])
end Go
namespace Go.Proofs.YtgcmnkkakngifaaGreatDoor
open Go.RowKit
end Go.Proofs.YtgcmnkkakngifaaGreatDoor
namespace Go
open Go.RowKit
end Go
namespace Go
open Go.RowKit
def MadeA {α : Type} (V:View α) (w:World) (d : α):Ending->World->Prop:=fun e w'=>∃ (cs:List Value) (fp:List Nat),e = .returned (.agg cs.toArray)/\Fresh V w w' fp cs d/\Below w.heap.size w w'
end Go
namespace Go
open Go.RowKit
theorem Sp.nil (lo hi:Nat):Sp lo hi []:=⟨List.nodup_nil,by simp,by simp⟩
theorem Sp.mono {lo hi lo' hi':Nat} {f:List Nat} (h:Sp lo hi f) (h0:lo'<=lo) (h1:hi<=hi'):Sp lo' hi' f :=
 ⟨h.nodup,fun b hb=>Nat.le_trans h0 (h.lo b hb),fun b hb=>Nat.lt_of_lt_of_le (h.hi b hb) h1⟩
theorem Fresh.sp {α : Type} {V:View α} {w w':World} {fp:List Nat} {cs:List Value} {d : α} (h:Fresh V w w' fp cs d):Sp w.heap.size w'.heap.size fp:=⟨h.nodup,h.lo,V.lt h.own⟩
theorem World.ext_get_ge (w:World) (X:Ext) {k:Nat} (h:w.heap.size<=k):(w.ext X).heap[k]?=X.bs[k - w.heap.size]?:=by
 show (w.heap ++ X.bs)[k]? = _
 rw [Array.getElem?_append_right h]
theorem tail_agree {a b:World} {A B:Array Obj} {d d':Nat} (hs:a.heap.size=b.heap.size) (hp:Pre A B) {k:Nat} (h1:a.heap.size<=k) (h2:k < (a.ext ⟨A,d⟩).heap.size):(b.ext ⟨B,d'⟩).heap[k]?=(a.ext ⟨A,d⟩).heap[k]?:=by
 obtain ⟨R,rfl⟩:=hp
 rw [World.ext_get_ge _ _ h1,World.ext_get_ge _ _ (by omega)]
 rw [zm] at h2
 simp only at h2 ⊢
 rw [Array.getElem?_append_left (by omega),hs]
theorem View.ownTail {α : Type} {V:View α} {a b:World} {A B:Array Obj} {d d':Nat} {fp:List Nat} {cs:List Value} {x : α} (h:V.own (a.ext ⟨A,d⟩) fp cs x) (lo:∀ k ∈ fp,a.heap.size<=k) (hs:a.heap.size=b.heap.size) (hp:Pre A B) :
  V.own (b.ext ⟨B,d'⟩) fp cs x :=
 V.frame h fun k hk=>tail_agree hs hp (lo k hk) (V.lt h k hk)
structure RowsOwn {α : Type} (V:View α) (w:World) (css:List (List Value)) (fps:List (List Nat)) (ds:List α):Prop where
 cl:css.length=ds.length
 fl:fps.length=ds.length
 el:∀ i (hi:i < ds.length) (hc:i < css.length) (hf:i < fps.length),V.own w fps[i] css[i] ds[i]
theorem RowsOwn.nil {α : Type} (V:View α) (w:World):RowsOwn V w [] [] []:=⟨rfl,rfl,fun i hi=>absurd hi (by simp)⟩
theorem RowsOwn.frame {α : Type} {V:View α} {w w':World} {css:List (List Value)} {fps:List (List Nat)} {ds:List α} (h:RowsOwn V w css fps ds) (g:∀ b ∈ fps.flatten,w'.heap[b]?=w.heap[b]?):RowsOwn V w' css fps ds :=
 ⟨h.cl,h.fl,fun i hi hc hf=>V.frame (h.el i hi hc hf) fun b hb=>g b (List.mem_flatten.2 ⟨_,List.getElem_mem hf,hb⟩)⟩
theorem RowsOwn.lt {α : Type} {V:View α} {w:World} {css:List (List Value)} {fps:List (List Nat)} {ds:List α} (h:RowsOwn V w css fps ds):∀ b ∈ fps.flatten,b < w.heap.size:=by
 intro b hb
 obtain ⟨l,hl,hbl⟩:=List.mem_flatten.1 hb
 obtain ⟨i,hi,rfl⟩:=List.getElem_of_mem hl
 exact V.lt (h.el i (by have:=h.fl;omega) (by have:=h.fl;have:=h.cl;omega) hi) b hbl
theorem RowsOwn.tail {α : Type} {V:View α} {a b:World} {A B:Array Obj} {d d':Nat} {css:List (List Value)} {fps:List (List Nat)} {ds:List α} (h:RowsOwn V (a.ext ⟨A,d⟩) css fps ds) (lo:∀ k ∈ fps.flatten,a.heap.size<=k) (hs:a.heap.size=b.heap.size) (hp:Pre A B) :
  RowsOwn V (b.ext ⟨B,d'⟩) css fps ds:=h.frame fun k hk=>tail_agree hs hp (lo k hk) (h.lt k hk)
end Go
namespace Go.Proofs.YtgcmnkkakngifaaGreatDoor
open Go.ChangeShapes Go.WideShapes Go.ChangeAt Go.RowKit
theorem firstIdx_ge {α : Type} (p : α->Bool) (ds:List α):decide (0<=zal p ds)=ds.any p:=by
 unfold zal
 cases h:ds.any p with
 | true=>rw [if_pos rfl];simp
 | false=>simp
end Go.Proofs.YtgcmnkkakngifaaGreatDoor
namespace Go
open Go.ChangeShapes Go.WideShapes Go.ChangeAt Go.RowKit
section
variable {e:TypeId} {w:World} {B:Nat} {v:Value} {l:List UInt8}
theorem OwnB.base {B':Nat} (h:OwnB e w B v l) (hb:B'<=B):OwnB e w B' v l:=by
 rcases h with hn|⟨g,cap,cur,fz,hv,h1,rest⟩
 ·exact .inl hn
 ·exact .inr ⟨g,cap,cur,fz,hv,Nat.le_trans hb h1,rest⟩
theorem OwnB.rd (h:OwnB e w B v l):RdL zei w v l:=by
 unfold RdL
 have hf:=zjU l
 rw [hf]
 exact h.sl
end
section
variable {P:Program} (w:World)
end
end Go
namespace Go.Proofs.YtgcmnkkakngifaaGreatDoor
open Go.ChangeShapes Go.WideShapes Go.ChangeAt Go.RowKit
theorem ReadsTo.nil:ReadsTo [] []:=⟨[],rfl,rfl,by simp⟩
theorem CutTo.nil (c:UInt8) (L:List UInt8):CutTo c L [] 0 0:=.inl ⟨by omega,by omega,by simp,by simp⟩
theorem CutTo.all {c:UInt8} {L:List UInt8} {xs:List ByteArray} {b i:Nat} (h:CutTo c L xs b i) (hi:L.length < i):xs.map (·.data.toList)=zbk c L:=by
 rcases h with ⟨h1,_⟩|⟨_,h⟩
 ·omega
 ·exact h
theorem CutTo.lo {c:UInt8} {L:List UInt8} {xs:List ByteArray} {b i:Nat} (h:CutTo c L xs b i) (hi:i<=L.length):b<=i:=by
 rcases h with ⟨_,h,_⟩|⟨h,_⟩
 ·exact h
 ·omega
def Sm (cs:List CellD):Prop:=∀ c ∈ cs,c.key.size<=20000/\c.val.size<=20000
theorem Sm.nil:Sm []:=by intro c hc;cases hc
def vCall:View CallD:=vRow CallD.row 6 CallD.ok (fun _=>rfl) (fun d u hu=>by simp [CallD.row] at hu;rcases hu with rfl|rfl|rfl|rfl|rfl|rfl<;>rfl)
theorem Tryz.elemCallS:Elem Tryz.prog 36 52 6 72:=Elem.of (.agg #[.int .i64 0,.string ⟨#[]⟩,.string ⟨#[]⟩,.int .i64 0,.int .i64 0,.string ⟨#[]⟩]) Tryz.underlying36 (by kernel_rfl) rfl (by decide)
theorem laws_szCall (d:CallD) (left:Int) (w:World) (hok:d.ok) (h0 : 0<=left) (h1:left<=4294967296) :
  Calls Tryz.prog 24 #[.agg d.row.toArray,.int .i64 left] w fun e w'=>e = .returned (.int .i64 (zgj left d.wt))/\Below w.heap.size w w':=by
 obtain ⟨f0,f1,f2,f3,f4,f5⟩:=d
 obtain ⟨z0,z1,z2⟩:=hok
 simp only at z0 z1 z2
 simp only [CallD.row,CallD.wt]
 have e0:wrap64 (left - f1.size)=left - f1.size:=IntWalk.wrap64_in _ (by omega)
 by_cases g0:left - f1.size < 0
 ·rw [zbD (by omega)]
  go_enter Tryz.func24,Tryz.ntmps24
  go_wp2
  go_ret
  exact ⟨rfl,(by repeat (first|with_reducible exact Below.refl _ _|with_reducible apply Below.ofAlloc))⟩
 ·skip
  have e1:wrap64 (left - f1.size - f2.size)=left - f1.size - f2.size:=IntWalk.wrap64_in _ (by omega)
  by_cases g1:left - f1.size - f2.size < 0
  ·rw [zbD (by omega)]
   go_enter Tryz.func24,Tryz.ntmps24
   go_wp2
   go_ret
   exact ⟨rfl,(by repeat (first|with_reducible exact Below.refl _ _|with_reducible apply Below.ofAlloc))⟩
  ·skip
   have e2:wrap64 (left - f1.size - f2.size - f5.size)=left - f1.size - f2.size - f5.size:=IntWalk.wrap64_in _ (by omega)
   by_cases g2:left - f1.size - f2.size - f5.size < 0
   ·rw [zbD (by omega)]
    go_enter Tryz.func24,Tryz.ntmps24
    go_wp2
    go_ret
    exact ⟨rfl,(by repeat (first|with_reducible exact Below.refl _ _|with_reducible apply Below.ofAlloc))⟩
   ·skip
    rw [zek (by omega)]
    go_enter Tryz.func24,Tryz.ntmps24
    go_wp2
    go_ret
    exact ⟨zgA (by omega),(by repeat (first|with_reducible exact Below.refl _ _|with_reducible apply Below.ofAlloc))⟩
theorem laws_szCallS (v:Value) (ds:List CallD) (left:Int) (w:World) {e:TypeId} (hs:(vSlice vCall e).rd w [v] ds) (h0 : 0<=left) (h1:left<=4294967296) :
  Calls Tryz.prog 39 #[v,.int .i64 left] w fun e w'=>e = .returned (.int .i64 (zgj left (wtS CallD.wt ds)))/\Below w.heap.size w w':=by
 obtain ⟨ao,cap,rfl,hc1,hc2,hnil,hcell⟩:=vSlice.shape hs
 have HX:=Lib.hid hcell
 clear hcell hs hnil
 unfold maxLen at hc2
 have hsub:wrap64 (left - ds.length)=left - ds.length:=IntWalk.wrap64_in _ (by omega)
 by_cases hl:left - ds.length < 0
 ·rw [zbD (by unfold wtS;omega)]
  go_enter Tryz.func39,Tryz.ntmps39
  go_wp2
  go_ret
  exact ⟨rfl,(by repeat (with_reducible exact Below.refl _ _))⟩
 ·go_enter Tryz.func39,Tryz.ntmps39
  go_wp2
  go_loopw [1,5] (fun l k wr=>∃ (n:Nat) (m:Int) (X:Ext),k = .int .i64 n/\n<=ds.length/\wr=w.ext X/\l = .int .i64 m/\m + ((ds.take n).map CallD.wt).sum=left - ds.length/\0<=m) (fun _ k _=>ds.length - (intOf k).toNat)
  case atStart=>exact ⟨0,_,⟨#[],_⟩,rfl,by omega,(zbx _ _ rfl).symm,rfl,by simp,by omega⟩
  case round =>
   obtain ⟨n,m,X,rfl,hn,rfl,rfl,hsum,hm⟩:=hrel
   have HS:=Lib.hid hsum
   have hm2:m<=left:=by omega
   clear hsum
   by_cases hlt:(n:Int) < ds.length
   ·have hk:n < ds.length:=by omega
    obtain ⟨b,off,cs,rfl,hbl,hrd,hcell⟩:=HX.out n hk
    have hstep:=zgx CallD.wt ds n hk
    have hle:=zhN CallD.wt ds (n + 1)
    generalize ds[n]=d at hrd hstep
    have HT:=Lib.hid hstep
    have HL:=Lib.hid hle
    clear hstep hle
    obtain ⟨rfl,hok⟩:=hrd
    obtain ⟨x0,x1,x2,x3,x4,x5⟩:=d
    have c0:=hcell 0 _ rfl
    have c1:=hcell 1 _ rfl
    have c2:=hcell 2 _ rfl
    have c3:=hcell 3 _ rfl
    have c4:=hcell 4 _ rfl
    have c5:=hcell 5 _ rfl
    clear hcell
    simp only [show vCall.k=6 from rfl,Nat.add_zero] at c0 c1 c2 c3 c4 c5
    go_wp2_with fail
    (go_at_call 24;refine (laws_szCall ⟨x0,x1,x2,x3,x4,x5⟩ m _ hok hm (by omega)).mono ?_;rintro e w' ⟨rfl,hb⟩;obtain ⟨X,rfl⟩:=hb.ext;clear hb)
    generalize CallD.wt ⟨x0,x1,x2,x3,x4,x5⟩ = wt at HT
    by_cases hg:(wt:Int)<=m
    ·rw [zek hg]
     have hg2:¬ m - (wt:Int) < 0:=by omega
     go_wp2
     go_roundw
     case rel=>exact ⟨n + 1,m - wt,_,by go_num,by omega,rfl,rfl,by rw [HT.out];have:=HS.out;omega,by omega⟩
     case measure=>simp [intOf];omega
    ·rw [zbD hg]
     go_wp2
     go_ret
     refine ⟨?_,(by repeat (first|with_reducible exact Below.refl _ _|with_reducible apply Below.ofExt))⟩
     have:=HS.out
     have h2:=HT.out
     have h3:=HL.out
     rw [zbD (by unfold wtS;omega)]
     rfl
   ·go_wp2
    go_ret
    refine ⟨?_,(by repeat (first|with_reducible exact Below.refl _ _|with_reducible apply Below.ofExt))⟩
    have e:n=ds.length:=by omega
    subst e
    have:=HS.out
    rw [List.take_length] at this
    rw [zek (by unfold wtS;omega)]
    exact zgA (by unfold wtS;omega)
theorem laws_toCall (x0:Int) (x1:ByteArray) (x2:ByteArray) (x3:Int) (x4:Int) (x5:ByteArray) (w:World) :
  Calls Tryz.prog 26 #[.agg #[.int .i64 x0,.string x1,.string x2,.int .i64 x3,.int .i64 x4,.string x5]] w fun e w'=>e = .returned (.agg #[.int .i64 x0,.string x1,.string x2,.int .i64 x3,.int .i64 x4,.string x5])/\Below w.heap.size w w':=by
 go_enter Tryz.func26,Tryz.ntmps26
 go_wp2
 refine bodyPost_ret (by simp [results,Tryz.results26,go_sem];rfl) rfl ?_
 exact ⟨rfl,(by repeat (first|with_reducible exact Below.refl _ _|with_reducible apply Below.ofAlloc))⟩
theorem laws_eqCall (x0:Int) (x1:ByteArray) (x2:ByteArray) (x3:Int) (x4:Int) (x5:ByteArray) (w:World) :
  Calls Tryz.prog 91 #[.agg #[.int .i64 x0,.string x1,.string x2,.int .i64 x3,.int .i64 x4,.string x5],.agg #[.int .i64 x0,.string x1,.string x2,.int .i64 x3,.int .i64 x4,.string x5]] w fun e w'=>e = .returned (.bool true)/\Below w.heap.size w w':=by
 go_enter Tryz.func91,Tryz.ntmps91
 go_wp2
 go_ret
 exact ⟨rfl,(by repeat (first|with_reducible exact Below.refl _ _|with_reducible apply Below.ofAlloc))⟩
theorem laws_toCallS (v:Value) (ds:List CallD) (w:World) {e:TypeId} (hs:(vSlice vCall e).rd w [v] ds) (hl:ds.length<=1048576) :
  Calls Tryz.prog 48 #[v] w (Made (vSlice vCall 52) w ds):=by
 obtain ⟨ao,cap,rfl,hc1,hc2,hnil,hcell⟩:=vSlice.shape hs
 have HX:=Lib.hid hcell
 have HOK:Hid (∀ d ∈ ds,CallD.ok d):=fun d hd=>by
  obtain ⟨i,hi,rfl⟩:=List.getElem_of_mem hd
  obtain ⟨_,_,_,_,_,h,_⟩:=hcell i hi
  exact h.2
 clear hcell hs hnil
 unfold maxLen at hc2
 obtain ⟨cs0,hsz0,hmk⟩:=Elem.make Tryz.elemCallS ds.length (by omega) (by omega)
 go_enter Tryz.func48,Tryz.ntmps48
 go_wp2
 go_loopw [4] (fun k wr=>∃ (n:Nat) (cs:Array Value) (X:Ext),k = .int .i64 n/\n<=ds.length/\wr=(w.alloc (.cells cs 52)).ext X/\cs.size=ds.length * 6/\cs.toList.take (n * 6)=(ds.take n).flatMap CallD.row) (fun k _=>ds.length - (intOf k).toNat)
 case atStart=>exact ⟨0,cs0,⟨#[],_⟩,rfl,by omega,(zbx _ _ rfl).symm,hsz0,by simp⟩
 case round =>
  obtain ⟨n,cs,X,rfl,hn,rfl,hsz,htk⟩:=hrel
  have HT:=Lib.hid htk
  have HSZ:=Lib.hid hsz
  clear htk hmk hsz0 hsz
  by_cases hlt:(n:Int) < ds.length
  ·have hk:n < ds.length:=by omega
   obtain ⟨b,off,cs',rfl,hbl,hrd,hcell⟩:=HX.out n hk
   have hfs:(ds.take (n + 1)).flatMap CallD.row=(ds.take n).flatMap CallD.row ++ CallD.row ds[n]:=by
    simp only [List.take_succ_eq_append_getElem hk,List.flatMap_append,List.flatMap_cons,List.flatMap_nil,List.append_nil]
   generalize ds[n]=d at hrd hfs
   have HF:=Lib.hid hfs
   clear hfs
   obtain ⟨rfl,hok⟩:=hrd
   obtain ⟨x0,x1,x2,x3,x4,x5⟩:=d
   have c0:=hcell 0 _ rfl
   have c1:=hcell 1 _ rfl
   have c2:=hcell 2 _ rfl
   have c3:=hcell 3 _ rfl
   have c4:=hcell 4 _ rfl
   have c5:=hcell 5 _ rfl
   clear hcell
   simp only [show vCall.k=6 from rfl,Nat.add_zero] at c0 c1 c2 c3 c4 c5
   have hsz2:n * 6 + 6<=cs.size:=by rw [HSZ.out];omega
   have o0:cs[n * 6]?=some cs[n * 6]:=Array.getElem?_eq_getElem (by omega)
   have o1:cs[n * 6 + 1]?=some cs[n * 6 + 1]:=Array.getElem?_eq_getElem (by omega)
   have o2:cs[n * 6 + 2]?=some cs[n * 6 + 2]:=Array.getElem?_eq_getElem (by omega)
   have o3:cs[n * 6 + 3]?=some cs[n * 6 + 3]:=Array.getElem?_eq_getElem (by omega)
   have o4:cs[n * 6 + 4]?=some cs[n * 6 + 4]:=Array.getElem?_eq_getElem (by omega)
   have o5:cs[n * 6 + 5]?=some cs[n * 6 + 5]:=Array.getElem?_eq_getElem (by omega)
   generalize cs[n * 6]=y0 at o0
   generalize cs[n * 6 + 1]=y1 at o1
   generalize cs[n * 6 + 2]=y2 at o2
   generalize cs[n * 6 + 3]=y3 at o3
   generalize cs[n * 6 + 4]=y4 at o4
   generalize cs[n * 6 + 5]=y5 at o5
   go_wp2_with fail
   (go_at_call 26;refine (laws_toCall x0 x1 x2 x3 x4 x5 _).mono ?_;rintro e w' ⟨rfl,hb⟩;obtain ⟨X,rfl⟩:=hb.ext;clear hb)
   go_wp2
   go_roundw
   case rel =>
    have h0:=zcT (v:=.int .i64 x0) HT.out rfl rfl (by omega)
    have h1:=zcT (v:=.string x1) h0 rfl rfl (by simp;omega)
    have h2:=zcT (v:=.string x2) h1 rfl rfl (by simp;omega)
    have h3:=zcT (v:=.int .i64 x3) h2 rfl rfl (by simp;omega)
    have h4:=zcT (v:=.int .i64 x4) h3 rfl rfl (by simp;omega)
    have h5:=zcT (p:=(n + 1) * 6) (v:=.string x5) h4 rfl (by omega) (by simp;omega)
    exact ⟨n + 1,_,_,by go_num,by omega,rfl,by simpa using HSZ.out,by rw [HF.out];simpa [CallD.row] using h5⟩
   case measure=>simp [intOf];omega
  ·go_wp2
   go_ret
   have e:n=ds.length:=by omega
   subst e
   have ht:=HT.out
   rw [List.take_length] at ht
   exact ⟨_,_,rfl,vSlice.freshRow rfl (by omega) HSZ.out ht HOK.out,(by repeat (first|with_reducible exact Below.refl _ _|with_reducible apply Below.ofExt|with_reducible apply Below.ofAlloc))⟩
theorem laws_eqCallS (v v':Value) (ds:List CallD) (w:World) {e e':TypeId} (hs:(vSlice vCall e).rd w [v] ds) (hs':(vSlice vCall e').rd w [v'] ds) :
  Calls Tryz.prog 58 #[v,v'] w fun e w'=>e = .returned (.bool true)/\Below w.heap.size w w':=by
 obtain ⟨ao,cap,rfl,hc1,hc2,hnil,hcell⟩:=vSlice.shape hs
 obtain ⟨ao',cap',rfl,hc1',hc2',hnil',hcell'⟩:=vSlice.shape hs'
 have HX:=Lib.hid hcell
 have HX':=Lib.hid hcell'
 clear hcell hs hnil hcell' hs' hnil'
 unfold maxLen at hc2 hc2'
 go_enter Tryz.func58,Tryz.ntmps58
 go_wp2
 go_loopw [5] (fun k wr=>∃ (n:Nat) (X:Ext),k = .int .i64 n/\n<=ds.length/\wr=w.ext X) (fun k _=>ds.length - (intOf k).toNat)
 case atStart=>exact ⟨0,⟨#[],_⟩,rfl,by omega,(zbx _ _ rfl).symm⟩
 case round =>
  obtain ⟨n,X,rfl,hn,rfl⟩:=hrel
  by_cases hlt:(n:Int) < ds.length
  ·have hk:n < ds.length:=by omega
   obtain ⟨b,off,cs,rfl,hbl,hrd,hcell⟩:=HX.out n hk
   obtain ⟨b',off',cs',rfl,hbl',hrd',hcell'⟩:=HX'.out n hk
   generalize ds[n]=d at hrd hrd'
   obtain ⟨rfl,hok⟩:=hrd
   obtain ⟨rfl,hok'⟩:=hrd'
   obtain ⟨x0,x1,x2,x3,x4,x5⟩:=d
   have c0:=hcell 0 _ rfl
   have c1:=hcell 1 _ rfl
   have c2:=hcell 2 _ rfl
   have c3:=hcell 3 _ rfl
   have c4:=hcell 4 _ rfl
   have c5:=hcell 5 _ rfl
   have e0:=hcell' 0 _ rfl
   have e1:=hcell' 1 _ rfl
   have e2:=hcell' 2 _ rfl
   have e3:=hcell' 3 _ rfl
   have e4:=hcell' 4 _ rfl
   have e5:=hcell' 5 _ rfl
   clear hcell hcell'
   simp only [show vCall.k=6 from rfl,Nat.add_zero] at c0 c1 c2 c3 c4 c5 e0 e1 e2 e3 e4 e5
   go_wp2
   refine zgv [(0,true),(1,true),(2,true),(3,true),(4,true),(5,true),(6,true),(7,true),(8,false),(9,true)] 10 (by kernel_rfl) (by kernel_rfl) ?_
   repeat (refine zl rfl (fun K hK=>?_);go_simp;(try simp (disch:=omega) only [IntWalk.i64_in]);refine hK _ ?_;clear hK K)
   refine zt rfl (fun K hK=>?_);go_simp;go_at_call 91;refine (laws_eqCall x0 x1 x2 x3 x4 x5 _).mono ?_;rintro e w' ⟨rfl,hb⟩;obtain ⟨X,rfl⟩:=hb.ext;clear hb;try go_simp;refine hK _ _ (by show Sx _ _;repeat (first|with_reducible exact Sx.same _ _ _ _|with_reducible apply Sx.more)) ?_;clear hK K
   repeat (refine zl rfl (fun K hK=>?_);go_simp;(try simp (disch:=omega) only [IntWalk.i64_in]);refine hK _ ?_;clear hK K)
   refine zae ?_
   go_wp2
   go_roundw
   case rel=>exact ⟨n + 1,_,by go_num,by omega,rfl⟩
   case measure=>simp [intOf];omega
  ·go_wp2
   go_ret
   exact ⟨rfl,(by repeat (first|with_reducible exact Below.refl _ _|with_reducible apply Below.ofExt))⟩
def vAnswer:View AnswerD:=vRow AnswerD.row 3 AnswerD.ok (fun _=>rfl) (fun d u hu=>by simp [AnswerD.row] at hu;rcases hu with rfl|rfl|rfl<;>rfl)
theorem Tryz.elemAnswerS:Elem Tryz.prog 37 98 3 32:=Elem.of (.agg #[.int .i64 0,.int .i64 0,.string ⟨#[]⟩]) Tryz.underlying37 (by kernel_rfl) rfl (by decide)
theorem laws_szAnswer (d:AnswerD) (left:Int) (w:World) (hok:d.ok) (h0 : 0<=left) (h1:left<=1125899906842624) :
  Calls Tryz.prog 80 #[.agg d.row.toArray,.int .i64 left] w fun e w'=>e = .returned (.int .i64 (zgj left d.wt))/\Below w.heap.size w w':=by
 obtain ⟨f0,f1,f2⟩:=d
 have z0:=hok
 unfold AnswerD.ok at z0
 clear hok
 simp only at z0
 simp only [AnswerD.row,AnswerD.wt]
 have e0:wrap64 (left - f2.size)=left - f2.size:=IntWalk.wrap64_in _ (by omega)
 by_cases g0:left - f2.size < 0
 ·rw [zbD (by omega)]
  go_enter Tryz.func80,Tryz.ntmps80
  go_wp2
  go_ret
  exact ⟨rfl,(by repeat (first|with_reducible exact Below.refl _ _|with_reducible apply Below.ofAlloc))⟩
 ·skip
  rw [zek (by omega)]
  go_enter Tryz.func80,Tryz.ntmps80
  go_wp2
  go_ret
  exact ⟨zgA (by omega),(by repeat (first|with_reducible exact Below.refl _ _|with_reducible apply Below.ofAlloc))⟩
theorem laws_szAnswerS (v:Value) (ds:List AnswerD) (left:Int) (w:World) {e:TypeId} (hs:(vSlice vAnswer e).rd w [v] ds) (h0 : 0<=left) (h1:left<=1125899906842624) :
  Calls Tryz.prog 40 #[v,.int .i64 left] w fun e w'=>e = .returned (.int .i64 (zgj left (wtS AnswerD.wt ds)))/\Below w.heap.size w w':=by
 obtain ⟨ao,cap,rfl,hc1,hc2,hnil,hcell⟩:=vSlice.shape hs
 have HX:=Lib.hid hcell
 clear hcell hs hnil
 unfold maxLen at hc2
 have hsub:wrap64 (left - ds.length)=left - ds.length:=IntWalk.wrap64_in _ (by omega)
 by_cases hl:left - ds.length < 0
 ·rw [zbD (by unfold wtS;omega)]
  go_enter Tryz.func40,Tryz.ntmps40
  go_wp2
  go_ret
  exact ⟨rfl,(by repeat (with_reducible exact Below.refl _ _))⟩
 ·go_enter Tryz.func40,Tryz.ntmps40
  go_wp2
  go_loopw [1,5] (fun l k wr=>∃ (n:Nat) (m:Int) (X:Ext),k = .int .i64 n/\n<=ds.length/\wr=w.ext X/\l = .int .i64 m/\m + ((ds.take n).map AnswerD.wt).sum=left - ds.length/\0<=m) (fun _ k _=>ds.length - (intOf k).toNat)
  case atStart=>exact ⟨0,_,⟨#[],_⟩,rfl,by omega,(zbx _ _ rfl).symm,rfl,by simp,by omega⟩
  case round =>
   obtain ⟨n,m,X,rfl,hn,rfl,rfl,hsum,hm⟩:=hrel
   have HS:=Lib.hid hsum
   have hm2:m<=left:=by omega
   clear hsum
   by_cases hlt:(n:Int) < ds.length
   ·have hk:n < ds.length:=by omega
    obtain ⟨b,off,cs,rfl,hbl,hrd,hcell⟩:=HX.out n hk
    have hstep:=zgx AnswerD.wt ds n hk
    have hle:=zhN AnswerD.wt ds (n + 1)
    generalize ds[n]=d at hrd hstep
    have HT:=Lib.hid hstep
    have HL:=Lib.hid hle
    clear hstep hle
    obtain ⟨rfl,hok⟩:=hrd
    obtain ⟨x0,x1,x2⟩:=d
    have c0:=hcell 0 _ rfl
    have c1:=hcell 1 _ rfl
    have c2:=hcell 2 _ rfl
    clear hcell
    simp only [show vAnswer.k=3 from rfl,Nat.add_zero] at c0 c1 c2
    go_wp2_with fail
    (go_at_call 80;refine (laws_szAnswer ⟨x0,x1,x2⟩ m _ hok hm (by omega)).mono ?_;rintro e w' ⟨rfl,hb⟩;obtain ⟨X,rfl⟩:=hb.ext;clear hb)
    generalize AnswerD.wt ⟨x0,x1,x2⟩ = wt at HT
    by_cases hg:(wt:Int)<=m
    ·rw [zek hg]
     have hg2:¬ m - (wt:Int) < 0:=by omega
     go_wp2
     go_roundw
     case rel=>exact ⟨n + 1,m - wt,_,by go_num,by omega,rfl,rfl,by rw [HT.out];have:=HS.out;omega,by omega⟩
     case measure=>simp [intOf];omega
    ·rw [zbD hg]
     go_wp2
     go_ret
     refine ⟨?_,(by repeat (first|with_reducible exact Below.refl _ _|with_reducible apply Below.ofExt))⟩
     have:=HS.out
     have h2:=HT.out
     have h3:=HL.out
     rw [zbD (by unfold wtS;omega)]
     rfl
   ·go_wp2
    go_ret
    refine ⟨?_,(by repeat (first|with_reducible exact Below.refl _ _|with_reducible apply Below.ofExt))⟩
    have e:n=ds.length:=by omega
    subst e
    have:=HS.out
    rw [List.take_length] at this
    rw [zek (by unfold wtS;omega)]
    exact zgA (by unfold wtS;omega)
theorem laws_toAnswer (x0:Int) (x1:Int) (x2:ByteArray) (w:World) :
  Calls Tryz.prog 83 #[.agg #[.int .i64 x0,.int .i64 x1,.string x2]] w fun e w'=>e = .returned (.agg #[.int .i64 x0,.int .i64 x1,.string x2])/\Below w.heap.size w w':=by
 go_enter Tryz.func83,Tryz.ntmps83
 go_wp2
 refine bodyPost_ret (by simp [results,Tryz.results83,go_sem];rfl) rfl ?_
 exact ⟨rfl,(by repeat (first|with_reducible exact Below.refl _ _|with_reducible apply Below.ofAlloc))⟩
theorem laws_eqAnswer (x0:Int) (x1:Int) (x2:ByteArray) (w:World) :
  Calls Tryz.prog 92 #[.agg #[.int .i64 x0,.int .i64 x1,.string x2],.agg #[.int .i64 x0,.int .i64 x1,.string x2]] w fun e w'=>e = .returned (.bool true)/\Below w.heap.size w w':=by
 go_enter Tryz.func92,Tryz.ntmps92
 go_wp2
 go_ret
 exact ⟨rfl,(by repeat (first|with_reducible exact Below.refl _ _|with_reducible apply Below.ofAlloc))⟩
theorem laws_toAnswerS (v:Value) (ds:List AnswerD) (w:World) {e:TypeId} (hs:(vSlice vAnswer e).rd w [v] ds) (hl:ds.length<=1048576) :
  Calls Tryz.prog 49 #[v] w (Made (vSlice vAnswer 98) w ds):=by
 obtain ⟨ao,cap,rfl,hc1,hc2,hnil,hcell⟩:=vSlice.shape hs
 have HX:=Lib.hid hcell
 have HOK:Hid (∀ d ∈ ds,AnswerD.ok d):=fun d hd=>by
  obtain ⟨i,hi,rfl⟩:=List.getElem_of_mem hd
  obtain ⟨_,_,_,_,_,h,_⟩:=hcell i hi
  exact h.2
 clear hcell hs hnil
 unfold maxLen at hc2
 obtain ⟨cs0,hsz0,hmk⟩:=Elem.make Tryz.elemAnswerS ds.length (by omega) (by omega)
 go_enter Tryz.func49,Tryz.ntmps49
 go_wp2
 go_loopw [4] (fun k wr=>∃ (n:Nat) (cs:Array Value) (X:Ext),k = .int .i64 n/\n<=ds.length/\wr=(w.alloc (.cells cs 98)).ext X/\cs.size=ds.length * 3/\cs.toList.take (n * 3)=(ds.take n).flatMap AnswerD.row) (fun k _=>ds.length - (intOf k).toNat)
 case atStart=>exact ⟨0,cs0,⟨#[],_⟩,rfl,by omega,(zbx _ _ rfl).symm,hsz0,by simp⟩
 case round =>
  obtain ⟨n,cs,X,rfl,hn,rfl,hsz,htk⟩:=hrel
  have HT:=Lib.hid htk
  have HSZ:=Lib.hid hsz
  clear htk hmk hsz0 hsz
  by_cases hlt:(n:Int) < ds.length
  ·have hk:n < ds.length:=by omega
   obtain ⟨b,off,cs',rfl,hbl,hrd,hcell⟩:=HX.out n hk
   have hfs:(ds.take (n + 1)).flatMap AnswerD.row=(ds.take n).flatMap AnswerD.row ++ AnswerD.row ds[n]:=by
    simp only [List.take_succ_eq_append_getElem hk,List.flatMap_append,List.flatMap_cons,List.flatMap_nil,List.append_nil]
   generalize ds[n]=d at hrd hfs
   have HF:=Lib.hid hfs
   clear hfs
   obtain ⟨rfl,hok⟩:=hrd
   obtain ⟨x0,x1,x2⟩:=d
   have c0:=hcell 0 _ rfl
   have c1:=hcell 1 _ rfl
   have c2:=hcell 2 _ rfl
   clear hcell
   simp only [show vAnswer.k=3 from rfl,Nat.add_zero] at c0 c1 c2
   have hsz2:n * 3 + 3<=cs.size:=by rw [HSZ.out];omega
   have o0:cs[n * 3]?=some cs[n * 3]:=Array.getElem?_eq_getElem (by omega)
   have o1:cs[n * 3 + 1]?=some cs[n * 3 + 1]:=Array.getElem?_eq_getElem (by omega)
   have o2:cs[n * 3 + 2]?=some cs[n * 3 + 2]:=Array.getElem?_eq_getElem (by omega)
   generalize cs[n * 3]=y0 at o0
   generalize cs[n * 3 + 1]=y1 at o1
   generalize cs[n * 3 + 2]=y2 at o2
   go_wp2_with fail
   (go_at_call 83;refine (laws_toAnswer x0 x1 x2 _).mono ?_;rintro e w' ⟨rfl,hb⟩;obtain ⟨X,rfl⟩:=hb.ext;clear hb)
   go_wp2
   go_roundw
   case rel =>
    have h0:=zcT (v:=.int .i64 x0) HT.out rfl rfl (by omega)
    have h1:=zcT (v:=.int .i64 x1) h0 rfl rfl (by simp;omega)
    have h2:=zcT (p:=(n + 1) * 3) (v:=.string x2) h1 rfl (by omega) (by simp;omega)
    exact ⟨n + 1,_,_,by go_num,by omega,rfl,by simpa using HSZ.out,by rw [HF.out];simpa [AnswerD.row] using h2⟩
   case measure=>simp [intOf];omega
  ·go_wp2
   go_ret
   have e:n=ds.length:=by omega
   subst e
   have ht:=HT.out
   rw [List.take_length] at ht
   exact ⟨_,_,rfl,vSlice.freshRow rfl (by omega) HSZ.out ht HOK.out,(by repeat (first|with_reducible exact Below.refl _ _|with_reducible apply Below.ofExt|with_reducible apply Below.ofAlloc))⟩
theorem laws_eqAnswerS (v v':Value) (ds:List AnswerD) (w:World) {e e':TypeId} (hs:(vSlice vAnswer e).rd w [v] ds) (hs':(vSlice vAnswer e').rd w [v'] ds) :
  Calls Tryz.prog 59 #[v,v'] w fun e w'=>e = .returned (.bool true)/\Below w.heap.size w w':=by
 obtain ⟨ao,cap,rfl,hc1,hc2,hnil,hcell⟩:=vSlice.shape hs
 obtain ⟨ao',cap',rfl,hc1',hc2',hnil',hcell'⟩:=vSlice.shape hs'
 have HX:=Lib.hid hcell
 have HX':=Lib.hid hcell'
 clear hcell hs hnil hcell' hs' hnil'
 unfold maxLen at hc2 hc2'
 go_enter Tryz.func59,Tryz.ntmps59
 go_wp2
 go_loopw [5] (fun k wr=>∃ (n:Nat) (X:Ext),k = .int .i64 n/\n<=ds.length/\wr=w.ext X) (fun k _=>ds.length - (intOf k).toNat)
 case atStart=>exact ⟨0,⟨#[],_⟩,rfl,by omega,(zbx _ _ rfl).symm⟩
 case round =>
  obtain ⟨n,X,rfl,hn,rfl⟩:=hrel
  by_cases hlt:(n:Int) < ds.length
  ·have hk:n < ds.length:=by omega
   obtain ⟨b,off,cs,rfl,hbl,hrd,hcell⟩:=HX.out n hk
   obtain ⟨b',off',cs',rfl,hbl',hrd',hcell'⟩:=HX'.out n hk
   generalize ds[n]=d at hrd hrd'
   obtain ⟨rfl,hok⟩:=hrd
   obtain ⟨rfl,hok'⟩:=hrd'
   obtain ⟨x0,x1,x2⟩:=d
   have c0:=hcell 0 _ rfl
   have c1:=hcell 1 _ rfl
   have c2:=hcell 2 _ rfl
   have e0:=hcell' 0 _ rfl
   have e1:=hcell' 1 _ rfl
   have e2:=hcell' 2 _ rfl
   clear hcell hcell'
   simp only [show vAnswer.k=3 from rfl,Nat.add_zero] at c0 c1 c2 e0 e1 e2
   go_wp2
   refine zgv [(0,true),(1,true),(2,true),(3,true),(4,true),(5,true),(6,true),(7,true),(8,false),(9,true)] 10 (by kernel_rfl) (by kernel_rfl) ?_
   repeat (refine zl rfl (fun K hK=>?_);go_simp;(try simp (disch:=omega) only [IntWalk.i64_in]);refine hK _ ?_;clear hK K)
   refine zt rfl (fun K hK=>?_);go_simp;go_at_call 92;refine (laws_eqAnswer x0 x1 x2 _).mono ?_;rintro e w' ⟨rfl,hb⟩;obtain ⟨X,rfl⟩:=hb.ext;clear hb;try go_simp;refine hK _ _ (by show Sx _ _;repeat (first|with_reducible exact Sx.same _ _ _ _|with_reducible apply Sx.more)) ?_;clear hK K
   repeat (refine zl rfl (fun K hK=>?_);go_simp;(try simp (disch:=omega) only [IntWalk.i64_in]);refine hK _ ?_;clear hK K)
   refine zae ?_
   go_wp2
   go_roundw
   case rel=>exact ⟨n + 1,_,by go_num,by omega,rfl⟩
   case measure=>simp [intOf];omega
  ·go_wp2
   go_ret
   exact ⟨rfl,(by repeat (first|with_reducible exact Below.refl _ _|with_reducible apply Below.ofExt))⟩
def vStep:View StepD:=vRow StepD.row 7 StepD.ok (fun _=>rfl) (fun d u hu=>by simp [StepD.row] at hu;rcases hu with rfl|rfl|rfl|rfl|rfl|rfl|rfl<;>rfl)
theorem vStr_shape {v:Value} {xs:List ByteArray} {w:World} {e:TypeId} (h:(vSlice vStr e).rd w [v] xs):∃ ao cap,v = .slice ao xs.length cap/\xs.length<=cap/\cap<=maxLen/\(ao=none->cap=0/\xs = []) /\
  (xs ≠ []->∃ b off,ao=some ⟨b,off,none⟩/\b < w.heap.size/\∀ (i:Nat) (hi:i < xs.length),w.cell? ⟨b,off + i,none⟩ = some (Value.string xs[i]))/\∀ s ∈ xs,s.size<=9223372036854775807:=by
 obtain ⟨ao,cap,rfl,h1,h2,h3,h4⟩:=vSlice.shape h
 refine ⟨ao,cap,rfl,h1,h2,fun e=>⟨h3 e,List.eq_nil_of_length_eq_zero (by have:=h3 e;omega)⟩,fun hne=>?_,fun s hs=>?_⟩
 ·have hl : 0 < xs.length:=List.length_pos_iff.2 hne
  obtain ⟨b,off,cs,rfl,hb,_,_⟩:=h4 0 hl
  refine ⟨b,off,rfl,hb,fun i hi=>?_⟩
  obtain ⟨b',off',cs',e,_,hr,hc⟩:=h4 i hi
  simp only [Option.some.injEq,Addr.mk.injEq,and_true] at e
  obtain ⟨rfl,rfl⟩:=e
  obtain ⟨rfl,_⟩:=hr
  have:=hc 0 _ rfl
  simpa [vStr,vRow] using this
 ·obtain ⟨i,hi,rfl⟩:=List.getElem_of_mem hs
  obtain ⟨_,_,_,_,_,hr,_⟩:=h4 i hi
  exact hr.2
theorem Tryz.elemStringS:Elem Tryz.prog 25 9 1 16:=Elem.of (.string ⟨#[]⟩) Tryz.underlying25 (by kernel_rfl) rfl (by decide)
theorem laws_szStringS (v:Value) (xs:List ByteArray) (left:Int) (w:World) {e:TypeId} (hs:(vSlice vStr e).rd w [v] xs) (h0 : 0<=left) (h1:left<=4294967296) :
  Calls Tryz.prog 81 #[v,.int .i64 left] w fun e w'=>e = .returned (.int .i64 (zgj left (zio xs)))/\Below w.heap.size w w':=by
 obtain ⟨ao,cap,rfl,hc1,hc2,hnil,hcell,hz⟩:=vStr_shape hs
 have HX:=Lib.hid hcell
 have HZ:=Lib.hid hz
 clear hcell hs hnil hz
 unfold maxLen at hc2
 have hsub:wrap64 (left - xs.length)=left - xs.length:=IntWalk.wrap64_in _ (by omega)
 by_cases hl:left - xs.length < 0
 ·rw [zbD (by unfold zio wtS;omega)]
  go_enter Tryz.func81,Tryz.ntmps81
  go_wp2
  go_ret
  exact ⟨rfl,(by repeat (with_reducible exact Below.refl _ _))⟩
 ·go_enter Tryz.func81,Tryz.ntmps81
  go_wp2
  go_loopw [1,5] (fun l k wr=>∃ (n:Nat) (m:Int),k = .int .i64 n/\n<=xs.length/\wr=w/\l = .int .i64 m/\m + ((xs.take n).map ByteArray.size).sum=left - xs.length/\0<=m) (fun _ k _=>xs.length - (intOf k).toNat)
  case atStart=>exact ⟨0,_,rfl,by omega,rfl,rfl,by simp,by omega⟩
  case round =>
   obtain ⟨n,m,rfl,hn,rfl,rfl,hsum,hm⟩:=hrel
   have HS:=Lib.hid hsum
   have hm2:m<=left:=by omega
   clear hsum
   by_cases hlt:(n:Int) < xs.length
   ·have hk:n < xs.length:=by omega
    obtain ⟨b,off,rfl,hbl,hcell⟩:=HX.out (by intro e;simp [e] at hk)
    have hcc:=hcell n hk
    have hstep:=zgx ByteArray.size xs n hk
    have hle:=zhN ByteArray.size xs (n + 1)
    have hsz:xs[n].size<=2 ^ 63 - 1:=HZ.out _ (List.getElem_mem hk)
    generalize xs[n]=s at hcc hstep hsz
    have HT:=Lib.hid hstep
    have HL:=Lib.hid hle
    clear hcell hstep hle
    have hw:wrap64 (m - s.size)=m - s.size:=IntWalk.wrap64_in _ (by omega)
    by_cases hneg:m - s.size < 0
    ·go_wp2
     go_ret
     refine ⟨?_,(by repeat (with_reducible exact Below.refl _ _))⟩
     have:=HS.out
     have h2:=HT.out
     have h3:=HL.out
     rw [zbD (by unfold zio wtS;omega)]
     rfl
    ·go_wp2
     go_roundw
     case rel=>exact ⟨n + 1,m - s.size,by go_num,by omega,trivial,rfl,by rw [HT.out];have:=HS.out;omega,by omega⟩
     case measure=>simp [intOf];omega
   ·go_wp2
    go_ret
    refine ⟨?_,(by repeat (with_reducible exact Below.refl _ _))⟩
    have e:n=xs.length:=by omega
    subst e
    have:=HS.out
    rw [List.take_length] at this
    rw [zek (by unfold zio wtS;omega)]
    exact zgA (by unfold zio wtS;omega)
theorem laws_toStringS (v:Value) (xs:List ByteArray) (w:World) {e:TypeId} (hs:(vSlice vStr e).rd w [v] xs) (hl:xs.length<=1048576) :
  Calls Tryz.prog 84 #[v] w (Made (vSlice vStr 9) w xs):=by
 obtain ⟨ao,cap,rfl,hc1,hc2,hnil,hcell,hz⟩:=vStr_shape hs
 have HX:=Lib.hid hcell
 have HOK:=Lib.hid hz
 clear hcell hs hnil hz
 unfold maxLen at hc2
 obtain ⟨cs0,hsz0,hmk⟩:=Elem.make Tryz.elemStringS xs.length (by omega) (by omega)
 rw [Nat.mul_one] at hsz0
 go_enter Tryz.func84,Tryz.ntmps84
 go_wp2
 go_loopw [4] (fun k wr=>∃ (n:Nat) (cs:Array Value) (X:Ext),k = .int .i64 n/\n<=xs.length/\wr=(w.alloc (.cells cs 9)).ext X/\cs.size=xs.length/\cs.toList.take n=(xs.take n).flatMap (fun n=>[Value.string n])) (fun k _=>xs.length - (intOf k).toNat)
 case atStart=>exact ⟨0,cs0,⟨#[],_⟩,rfl,by omega,(zbx _ _ rfl).symm,hsz0,by simp⟩
 case round =>
  obtain ⟨n,cs,X,rfl,hn,rfl,hsz,htk⟩:=hrel
  have HT:=Lib.hid htk
  have HSZ:=Lib.hid hsz
  clear htk hmk hsz0 hsz
  by_cases hlt:(n:Int) < xs.length
  ·have hk:n < xs.length:=by omega
   obtain ⟨b,off,rfl,hbl,hcell⟩:=HX.out (by intro e;simp [e] at hk)
   have hcc:=hcell n hk
   have hfs:(xs.take (n + 1)).flatMap (fun n=>[Value.string n])=(xs.take n).flatMap (fun n=>[Value.string n]) ++ [Value.string xs[n]]:=by
    simp only [List.take_succ_eq_append_getElem hk,List.flatMap_append,List.flatMap_cons,List.flatMap_nil,List.append_nil]
   have hl2:n < cs.size:=by rw [HSZ.out];exact hk
   have hcs:cs[n]?=some cs[n]:=Array.getElem?_eq_getElem hl2
   generalize cs[n]=u at hcs
   generalize xs[n]=x at hcc hfs
   have HF:=Lib.hid hfs
   clear hcell hfs
   go_wp2
   go_roundw
   case rel =>
    exact ⟨n + 1,_,X,by go_num,by omega,rfl,by simpa using HSZ.out,by rw [HF.out];exact zjl HT.out hl2⟩
   case measure=>simp [intOf];omega
  ·go_wp2
   go_ret
   have e:n=xs.length:=by omega
   subst e
   have ht:=HT.out
   rw [List.take_length] at ht
   exact ⟨_,_,rfl,vSlice.freshRow rfl (by omega) (by rw [Nat.mul_one];exact HSZ.out) (by rw [Nat.mul_one];exact ht) HOK.out,(by repeat (first|with_reducible exact Below.refl _ _|with_reducible apply Below.ofExt|with_reducible apply Below.ofAlloc))⟩
theorem laws_eqStringS (v v':Value) (xs:List ByteArray) (w:World) {e e':TypeId} (hs:(vSlice vStr e).rd w [v] xs) (hs':(vSlice vStr e').rd w [v'] xs) :
  Calls Tryz.prog 70 #[v,v'] w fun e w'=>e = .returned (.bool true)/\Below w.heap.size w w':=by
 obtain ⟨ao,cap,rfl,hc1,hc2,hnil,hcell,hz⟩:=vStr_shape hs
 obtain ⟨ao',cap',rfl,hc1',hc2',hnil',hcell',hz'⟩:=vStr_shape hs'
 have HX:=Lib.hid hcell
 have HX':=Lib.hid hcell'
 clear hcell hs hnil hcell' hs' hnil' hz hz'
 unfold maxLen at hc2 hc2'
 go_enter Tryz.func70,Tryz.ntmps70
 go_wp2
 go_loopw [5] (fun k wr=>∃ (n:Nat) (X:Ext),k = .int .i64 n/\n<=xs.length/\wr=w.ext X) (fun k _=>xs.length - (intOf k).toNat)
 case atStart=>exact ⟨0,⟨#[],_⟩,rfl,by omega,(zbx _ _ rfl).symm⟩
 case round =>
  obtain ⟨n,X,rfl,hn,rfl⟩:=hrel
  by_cases hlt:(n:Int) < xs.length
  ·have hk:n < xs.length:=by omega
   obtain ⟨b,off,rfl,hbl,hcell⟩:=HX.out (by intro e;simp [e] at hk)
   obtain ⟨b',off',rfl,hbl',hcell'⟩:=HX'.out (by intro e;simp [e] at hk)
   have hcc:=hcell n hk
   have hcc':=hcell' n hk
   generalize xs[n]=s at hcc hcc'
   clear hcell hcell'
   go_wp2
   refine zgv [(0,true),(1,true),(2,true),(3,true),(4,true),(5,true),(6,true),(7,true),(8,true)] 9 (by kernel_rfl) (by kernel_rfl) ?_
   repeat (refine zl rfl (fun K hK=>?_);go_simp;(try simp (disch:=omega) only [IntWalk.i64_in]);refine hK _ ?_;clear hK K)
   refine zae ?_
   go_wp2
   go_roundw
   case rel=>exact ⟨n + 1,_,by go_num,by omega,rfl⟩
   case measure=>simp [intOf];omega
  ·go_wp2
   go_ret
   exact ⟨rfl,(by repeat (first|with_reducible exact Below.refl _ _|with_reducible apply Below.ofExt))⟩
end Go.Proofs.YtgcmnkkakngifaaGreatDoor
