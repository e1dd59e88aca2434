/- Walks. Each condition stands in its theorem. -/
import Derived.BigQuiet
import Derived.Deep.QuietTactic
import Derived.Laws.IdiomStrings
import Derived.Lib.AppendStr
import Derived.Lib.FrozenHead
import Derived.Lib.Hide
import Derived.OpenShut
import Derived.ProofKit
import Derived.Test.YtodokkpnafabpaaGreatDoorCA1
import Derived.Test.YtodokkpnafabpaaGreatDoorCA2
import Derived.Test.YtodokkpnafabpaaGreatDoorCA3
import Derived.Test.YtodokkpnafabpaaGreatDoorCA4
import Derived.Test.YtodokkpnafabpaaGreatDoorRows
import Derived.WalkKit
import Derived.WalkLawsBesides
import Derived.WalkSpells
set_option linter.unusedVariables false
set_option linter.unusedSimpArgs false
set_option maxRecDepth 100000
set_option maxHeartbeats 8000000
namespace Go.Proofs.YtodokkpnafabpaaGreatDoor
open Go.ChangeShapes Go.WideShapes Go.ChangeAt Go.RowKit
theorem Tryz.laidOut:laidOutB Tryz.prog=true:=by kernel_rfl
def Yes (W:World):Ending->World->Prop:=fun e W'=>e=.returned (.bool true)/\Below W.heap.size W W'
theorem zqB {H:Type} {enc:TypeId × Value->H} {P:Program} (hl:laidOutB P=true) {W W':World} (hb:Below W.heap.size W W') :
  ∀ (ts:List TypeId) (vs:List Value) (ds:List (DataW H)) (ps:List MemPlace),(∀ t ∈ ts,P.readableRec t=true/\t<P.types.size) ->
   (∀ x ∈ ps,x.block<W.heap.size)->DataW.TrodAll enc P W 0 (fun _=>true) true ts vs ds ps ->
   DataW.TrodAll enc P W' 0 (fun b=>decide (b<W.heap.size)) true ts vs ds ps
 | [],[],[],_,_,_,h=>h
 | t :: ts,v :: vs,d :: ds,_,hr,hlt,⟨p,q,h1,h2,e⟩=>by
  subst e
  exact ⟨p,q,Below.trod hl (hr t (by simp)).1 (hr t (by simp)).2 h1 hb (fun x hx=>hlt x (by simp [hx])),
   zqB hl hb ts vs ds q (fun t ht=>hr t (by simp [ht])) (fun x hx=>hlt x (by simp [hx])) h2,rfl⟩
 | [],_ :: _,_,_,_,_,h=>h.elim
 | [],[],_ :: _,_,_,_,h=>h.elim
 | _ :: _,[],_,_,_,_,h=>h.elim
 | _ :: _,_ :: _,[],_,_,_,h=>h.elim
theorem law_post {H:Type} {enc:TypeId × Value->H} {P:Program} (hl:laidOutB P=true) {f:Func} {s:ChangeSpec} {W W':World} {args:Array Value} {ds gs:List (DataW H)} {before:List MemPlace}
  (hW:DataW.Whole enc P f.params.toList s.vars false W args.toList ds gs before) (hv:s.vars = [])
  (hr:∀ t ∈ f.params.toList,P.readableRec t=true/\t<P.types.size)
  (hres:DataW.TrodAll enc P W' W.heap.size (fun _=>false) false f.resultTypes.toList ((Value.bool true).resultList f.resultTypes.size) (s.fn H (ds++gs)).results [])
  (hargs:(s.fn H (ds++gs)).args=ds) (hvars:(s.fn H (ds++gs)).vars = []) (hb:Below W.heap.size W W') :
  s.post enc P f false true false false W args (.bool true) W':=by
 have hW':=hW
 obtain ⟨p,q,hA,hV,hpq,_,_⟩:=hW'
 rw [hv] at hV
 have hq:gs = []/\q = []:=by
  cases gs with
  | nil=>exact ⟨rfl,hV⟩
  | cons g gs=>exact hV.elim
 obtain ⟨rfl,rfl⟩:=hq
 simp only [List.append_nil] at hpq
 subst hpq
 refine ⟨ds,[],before,[],before,[],hW,hres,?_,?_,hb.frame _,fun h=>by cases h⟩
 ·rw [hargs]
  exact zqB hl hb _ _ _ _ hr (fun x hx=>hW.lt x hx) hA
 ·rw [hv,hvars]
  rfl
end Go.Proofs.YtodokkpnafabpaaGreatDoor
namespace Go
open Go.RowKit
theorem Sl.lt {w:World} {v:Value} {n:Nat} {cs:List Value} (h:Sl w v n cs) (hc:cs ≠ []):∀ b,v.ownBlock=some b->b<w.heap.size:=by
 intro b hb
 rcases h with ⟨rfl,_,_⟩|⟨b',off,cap,rfl,h1,h2,h3⟩
 ·simp [Value.ownBlock] at hb
 ·simp only [Value.ownBlock,Option.some.injEq] at hb
  subst hb
  cases cs with
  | nil=>exact absurd rfl hc
  | cons u r=>exact World.block_lt_of_cell? w ⟨b',off+0,none⟩ (h3 0 u rfl)
end Go
namespace Go
open Go.RowKit
theorem Sl.lit (w:World) (cs:Array Value) (t:TypeId) (n:Nat) (hm:n<=maxLen):Sl (w.alloc (.cells cs t)) (.slice (some ⟨w.heap.size,0,none⟩) n n) n cs.toList :=
 Sl.new w cs.toList t n hm
section
variable {P:Program}
end
end Go
namespace Go
open Go.RowKit
variable {α : Type}
section
variable {R:RowOf α} {w:World} {v:Value} {xs:List α} {e:TypeId} {B:Nat}
theorem OwnL.kept {w':World} {row:Option Nat} (h:OwnL R e w B v xs) (hg:w.grownBy w' row) (hne:v.ownBlock=none ∨ v.ownBlock ≠ row):OwnL R e w' B v xs:=World.ownsRow.kept h hg hne
theorem OwnL.lit (R:RowOf α) (w:World) (xs:List α) (n:Nat) (hn:n=xs.length) (hm:n<=maxLen) (cs:Array Value) (hcs:cs=(xs.flatMap R.row).toArray) (e:TypeId):OwnL R e (w.alloc (.cells cs e)) w.heap.size (.slice (some ⟨w.heap.size,0,none⟩) n n) xs:=by
 subst hcs hn
 have:=World.ownsRow_lit (e:=e) (size:=R.k) w (xs.flatMap R.row).toArray xs.length (base:=w.heap.size) (Nat.le_refl _) hm (by simp [R.flat_len])
 simpa [OwnL] using this
end
section
variable {P:Program}
end
/-! ### the Go types -/
theorem Got.other {p:Nat} {w w1:World} {o:Obj} (h:Got p w o w1) {b:Nat} (hb:b<w.heap.size) (hne:b ≠ p):w1.heap[b]?=w.heap[b]?:=by
 obtain ⟨X,rfl⟩:=h
 rw [World.ext_get _ _ (by rw [ze];exact hb),World.setB_get _ _ _ _ hne]
attribute [go_sem] SpF
end Go
namespace Go
open Go.RowKit
section
variable {α β : Type} {V:View α} {w w':World} {cs:List Value} {fp:List Nat} {d : α}
theorem View.rdExt (h:V.rd w cs d) (X:Ext):V.rd (w.ext X) cs d:=V.grow h (Grew.ext w X)
theorem View.rdAlloc (h:V.rd w cs d) (o:Obj):V.rd (w.alloc o) cs d:=V.grow h (Grew.alloc w o)
theorem View.ownAlloc (h:V.own w fp cs d) (o:Obj):V.own (w.alloc o) fp cs d:=View.ownGrow h (Grew.alloc w o)
end
section
variable {α : Type} {V:View α} {e:TypeId} {w:World} {v:Value} {ds:List α}
end
end Go
namespace Go
open Go.RowKit
end Go
namespace Go.Proofs.YtodokkpnafabpaaGreatDoor
open Go.RowKit
end Go.Proofs.YtodokkpnafabpaaGreatDoor
namespace Go
open Go.RowKit
end Go
namespace Go
open Go.RowKit
def MadeA {α : Type} (V:View α) (w:World) (d : α):Ending->World->Prop:=fun e w'=>∃ (cs:List Value) (fp:List Nat),e=.returned (.agg cs.toArray)/\Fresh V w w' fp cs d/\Below w.heap.size w w'
end Go
namespace Go
open Go.RowKit
theorem Sp.nil (lo hi:Nat):Sp lo hi []:=⟨List.nodup_nil,by simp,by simp⟩
theorem Sp.mono {lo hi lo' hi':Nat} {f:List Nat} (h:Sp lo hi f) (h0:lo'<=lo) (h1:hi<=hi'):Sp lo' hi' f :=
 ⟨h.nodup,fun b hb=>Nat.le_trans h0 (h.lo b hb),fun b hb=>Nat.lt_of_lt_of_le (h.hi b hb) h1⟩
theorem Fresh.sp {α : Type} {V:View α} {w w':World} {fp:List Nat} {cs:List Value} {d : α} (h:Fresh V w w' fp cs d):Sp w.heap.size w'.heap.size fp:=⟨h.nodup,h.lo,V.lt h.own⟩
theorem World.ext_get_ge (w:World) (X:Ext) {k:Nat} (h:w.heap.size<=k):(w.ext X).heap[k]?=X.bs[k - w.heap.size]?:=by
 show (w.heap++X.bs)[k]? = _
 rw [Array.getElem?_append_right h]
theorem zqZ {a b:World} {A B:Array Obj} {d d':Nat} (hs:a.heap.size=b.heap.size) (hp:Pre A B) {k:Nat} (h1:a.heap.size<=k) (h2:k<(a.ext ⟨A,d⟩).heap.size):(b.ext ⟨B,d'⟩).heap[k]?=(a.ext ⟨A,d⟩).heap[k]?:=by
 obtain ⟨R,rfl⟩:=hp
 rw [World.ext_get_ge _ _ h1,World.ext_get_ge _ _ (by omega)]
 rw [zn] at h2
 simp only at h2 ⊢
 rw [Array.getElem?_append_left (by omega),hs]
theorem View.ownTail {α : Type} {V:View α} {a b:World} {A B:Array Obj} {d d':Nat} {fp:List Nat} {cs:List Value} {x : α} (h:V.own (a.ext ⟨A,d⟩) fp cs x) (lo:∀ k ∈ fp,a.heap.size<=k) (hs:a.heap.size=b.heap.size) (hp:Pre A B) :
  V.own (b.ext ⟨B,d'⟩) fp cs x :=
 V.frame h fun k hk=>zqZ hs hp (lo k hk) (V.lt h k hk)
structure RowsOwn {α : Type} (V:View α) (w:World) (css:List (List Value)) (fps:List (List Nat)) (ds:List α):Prop where
 cl:css.length=ds.length
 fl:fps.length=ds.length
 el:∀ i (hi:i<ds.length) (hc:i<css.length) (hf:i<fps.length),V.own w fps[i] css[i] ds[i]
theorem RowsOwn.nil {α : Type} (V:View α) (w:World):RowsOwn V w [] [] []:=⟨rfl,rfl,fun i hi=>absurd hi (by simp)⟩
theorem RowsOwn.frame {α : Type} {V:View α} {w w':World} {css:List (List Value)} {fps:List (List Nat)} {ds:List α} (h:RowsOwn V w css fps ds) (g:∀ b ∈ fps.flatten,w'.heap[b]?=w.heap[b]?):RowsOwn V w' css fps ds :=
 ⟨h.cl,h.fl,fun i hi hc hf=>V.frame (h.el i hi hc hf) fun b hb=>g b (List.mem_flatten.2 ⟨_,List.getElem_mem hf,hb⟩)⟩
theorem RowsOwn.lt {α : Type} {V:View α} {w:World} {css:List (List Value)} {fps:List (List Nat)} {ds:List α} (h:RowsOwn V w css fps ds):∀ b ∈ fps.flatten,b<w.heap.size:=by
 intro b hb
 obtain ⟨l,hl,hbl⟩:=List.mem_flatten.1 hb
 obtain ⟨i,hi,rfl⟩:=List.getElem_of_mem hl
 exact V.lt (h.el i (by have:=h.fl;omega) (by have:=h.fl;have:=h.cl;omega) hi) b hbl
theorem RowsOwn.tail {α : Type} {V:View α} {a b:World} {A B:Array Obj} {d d':Nat} {css:List (List Value)} {fps:List (List Nat)} {ds:List α} (h:RowsOwn V (a.ext ⟨A,d⟩) css fps ds) (lo:∀ k ∈ fps.flatten,a.heap.size<=k) (hs:a.heap.size=b.heap.size) (hp:Pre A B) :
  RowsOwn V (b.ext ⟨B,d'⟩) css fps ds:=h.frame fun k hk=>zqZ hs hp (lo k hk) (h.lt k hk)
end Go
namespace Go
open Go.RowKit
theorem Upon.toBelow {fp:List Nat} {B:Nat} {a b:World} (h:Upon fp a b) (hB:B<=a.heap.size) (hf:∀ x ∈ fp,B<=x):Below B a b :=
 ⟨h.os,h.tape,h.output,h.size,fun k hk=>h.block k (Nat.lt_of_lt_of_le hk hB) (fun hx=>absurd (hf k hx) (by omega))⟩
theorem View.ownUpon {α : Type} {V:View α} {w w':World} {fp fp':List Nat} {cs:List Value} {d : α} (h:V.own w fp cs d) (g:Upon fp' w w') (hd:∀ b ∈ fp,b ∉ fp'):V.own w' fp cs d :=
 V.frame h fun b hb=>g.block b (V.lt h b hb) (hd b hb)
end Go
namespace Go.Proofs.YtodokkpnafabpaaGreatDoor
open Go.ChangeShapes Go.WideShapes Go.ChangeAt Go.RowKit
def digB (n:Nat):UInt8:=UInt8.ofNat (48+n % 10)
def zqg:Nat->Nat->ByteArray->ByteArray
 | 0,_,out=>out
 | f+1,k,out=>if k=0 then out else zqg f (k / 10) (⟨#[digB k]⟩++out)
theorem zqan:∀ (f k:Nat) (out:ByteArray),k<=f->zqg f k out=zqg k k out:=by
 intro f
 induction f using Nat.strongRecOn with
 | ind f ih =>
  intro k out hk
  match f,k,hk with
  | 0,0,_=>rfl
  | f+1,0,_=>rfl
  | f+1,k+1,hk =>
   simp only [zqg,if_neg (Nat.succ_ne_zero k)]
   rw [ih f (Nat.lt_succ_self f) _ _ (by omega),ih k (by omega) _ _ (by omega)]
theorem zqam:∀ (f k:Nat) (out:ByteArray),(zqg f k out).size<=f+out.size:=by
 intro f
 induction f with
 | zero=>intro k out;simp [zqg]
 | succ f ih =>
  intro k out
  simp only [zqg]
  split
  ·omega
  ·refine Nat.le_trans (ih _ _) ?_
   have:(⟨#[digB k]⟩++out:ByteArray).size=1+out.size:=by rw [ByteArray.size_append];rfl
   omega
def zqz (k:Int):ByteArray:=if k<=0 then ⟨#[109,48]⟩ else ⟨#[109]⟩++zqg k.toNat k.toNat ⟨#[]⟩
theorem zqe (k:Int) (h:k<=1125899906842624):(zqz k).size<=9223372036854775807:=by
 unfold zqz
 split
 ·decide
 ·rw [ByteArray.size_append]
  have h1:=zqam k.toNat k.toNat ⟨#[]⟩
  have h2:(⟨#[109]⟩ : ByteArray).size=1:=rfl
  have h3:(⟨#[]⟩ : ByteArray).size=0:=rfl
  omega
theorem zqm {α : Type} (mk:Int->α) (c:Nat) (k:Int) (n:Nat):(marks mk c k n).length=n:=by simp [marks]
theorem zqp {α : Type} (mk:Int->α) (c:Nat) (k:Int) (n:Nat):marks mk c k (n+1)=marks mk c k n ++ [mk (k+(c*n:Nat))]:=by
 simp [marks,List.range_succ]
theorem zqaX {α : Type} (mk:Int->α) (c:Nat) (k:Int) (n i:Nat) (h:i<(marks mk c k n).length):(marks mk c k n)[i]=mk (k+(c*i:Nat)):=by
 simp [marks]
theorem zqC {α : Type} {mk:Int->α} {c:Nat} {k:Int} {n:Nat} {d : α} (h:d ∈ marks mk c k n):∃ i,i<n/\d=mk (k+(c*i:Nat)):=by
 simp only [marks,List.mem_map,List.mem_range] at h
 obtain ⟨i,hi,rfl⟩:=h
 exact ⟨i,hi,rfl⟩
theorem zqaH (n:Nat):((digB n).toNat:Int)=48+(n:Int) % 10:=by
 unfold digB
 rw [UInt8.toNat_ofNat']
 omega
theorem conv_one (w:World) (c:UInt8) (x:Int) (hx:x=(c.toNat:Int)) (b:Nat) (hb:b=w.heap.size) :
  Sem.run Tryz.prog (convert 99 9 (.slice (some ⟨b,0,none⟩) 1 1)) (w.alloc (.cells #[.int .u8 x] 5))=.ok (.string ⟨#[c]⟩) (w.alloc (.cells #[.int .u8 x] 5)):=by
 subst hb hx
 refine run_convert_bytes_back (w:=w.alloc (.cells #[.int .u8 (c.toNat:Int)] 5)) (P:=Tryz.prog) 99 9 5 ⟨w.heap.size,0,none⟩ 1 [c] Tryz.underlying99 Tryz.underlying5 Tryz.underlying9 ?_
 intro j hj
 have:j=0:=by simpa using hj
 subst this
 show (w.alloc _).cell? ⟨w.heap.size,0,none⟩ = _
 simp [go_sem]
theorem zqb (k:Int) (w:World) (h0 : 0<=k) (h1:k<=1125899906842624) :
  Calls Tryz.prog 38 #[.int .i64 k] w fun e w'=>e=.returned (.string (zqz k))/\Below w.heap.size w w':=by
 by_cases hz:k<=0
 ·have:zqz k=⟨#[109,48]⟩:=by unfold zqz;rw [if_pos hz]
  rw [this]
  go_enter Tryz.func38,Tryz.ntmps38
  go_wp2
  go_ret
  exact ⟨rfl,(by repeat (with_reducible exact Below.refl _ _))⟩
 ·have:zqz k=⟨#[109]⟩++zqg k.toNat k.toNat ⟨#[]⟩:=by unfold zqz;rw [if_neg hz]
  rw [this]
  obtain ⟨m,rfl⟩ : ∃ m:Nat,k=m:=⟨k.toNat,by omega⟩
  simp only [Int.toNat_natCast]
  go_enter Tryz.func38,Tryz.ntmps38
  go_wp2
  go_loopw [0,3] (fun kk o wr=>∃ (n:Nat) (s:ByteArray),kk=.int .i64 n/\n<=m/\Below w.heap.size w wr/\o=.string s/\zqg n n s=zqg m m ⟨#[]⟩/\s.size+n<=m) (fun kk _ _=>(intOf kk).toNat)
  case atStart=>exact ⟨m,⟨#[]⟩,rfl,by omega,(by repeat (with_reducible exact Below.refl _ _)),rfl,rfl,by show 0+m<=m;omega⟩
  case round =>
   obtain ⟨n,s,rfl,hn,hbel,rfl,haux,hsz⟩:=hrel
   obtain ⟨X,rfl⟩:=hbel.ext
   have HA:=Hd haux
   clear haux
   by_cases hlt : 0<(n:Int)
   ·have hk:=conv_one (w.ext X) (digB n) (48+(n:Int) % 10) (zqaH n).symm (w.heap.size+X.bs.size) (by rw [zn])
    have hst:zqg n n s=zqg (n / 10) (n / 10) (⟨#[digB n]⟩++s):=by
     obtain ⟨p,rfl⟩ : ∃ p,n=p+1:=⟨n - 1,by omega⟩
     show (if p+1=0 then s else zqg p ((p+1) / 10) _) = _
     rw [if_neg (by omega),zqan p _ _ (by omega)]
    have HK:=Hd hst
    clear hst
    go_wp2
    go_roundw
    case rel =>
     refine ⟨n / 10,_,by go_num,by omega,(by repeat (first|with_reducible exact Below.refl _ _|with_reducible apply Below.ofExt|with_reducible apply Below.ofAlloc)),rfl,by rw [<- HK.out];exact HA.out,?_⟩
     rw [ByteArray.size_append]
     have:(⟨#[digB n]⟩ : ByteArray).size=1:=rfl
     omega
    case measure=>simp [intOf];omega
   ·go_wp2
    go_ret
    have e:n=0:=by omega
    subst e
    have h:=HA.out
    exact ⟨by rw [<- h];rfl,(by repeat (first|with_reducible exact Below.refl _ _|with_reducible apply Below.ofExt))⟩
def zqaP (k:Int):CellD:=⟨zqz k,zqz (k+1)⟩
theorem zqaV (k:Int) (h:k<=1125899906842600):(zqaP k).ok:=⟨zqe _ (by omega),zqe _ (by omega)⟩
theorem zqac {k:Int} {n:Nat} (h:k+(2*n:Nat)<=1125899906842600):∀ d ∈ marks zqaP 2 k n,d.ok:=by
 intro d hd
 obtain ⟨i,hi,rfl⟩:=zqC hd
 exact zqaV _ (by omega)
theorem zqT (v:Value) (fp:List Nat) (ds:List CellD) (k:Int) (w:World) (hs:(vSlice zfO 66).own w fp [v] ds) (h0 : 0<=k) (h1:k+(2*ds.length:Nat)<=1125899906842000) :
  Calls Tryz.prog 15 #[v,.int .i64 k] w fun e w'=>e=.returned (.int .i64 (k+(2*ds.length:Nat)))/\(vSlice zfO 66).own w' fp [v] (marks zqaP 2 k ds.length)/\Upon fp w w':=by
 rcases hs with ⟨hv,rfl,rfl⟩|⟨b,cap,blk,css,fps,hv,hb,hn,hm,hsz,ht,rfl,hcl,hfl,hel⟩
 ·simp only [List.cons.injEq,and_true] at hv
  subst hv
  go_enter Tryz.func15,Tryz.ntmps15
  go_wp2
  go_loopw [1,5] (fun kk i wr=>kk=.int .i64 k/\i=.int .i64 0/\wr=w) (fun _ _ _=>0)
  case atStart=>exact ⟨rfl,rfl,rfl⟩
  case round =>
   obtain ⟨rfl,rfl,rfl⟩:=hrel
   go_wp2
   go_ret
   exact ⟨by simp,.inl ⟨rfl,rfl,rfl⟩,Upon.refl _ _⟩
 ·simp only [List.cons.injEq,and_true] at hv
  subst hv
  have hfe:fps.flatten = []:=by
   rw [List.flatten_eq_nil_iff]
   intro l hl
   obtain ⟨i,hi,rfl⟩:=List.getElem_of_mem hl
   exact (hel i (by omega) (by omega) hi).1
  rw [hfe]
  have hbl:=za hb
  have hsz':blk.size=cap*2:=hsz
  clear hel ht hfe hcl hfl hsz
  generalize hnn:ds.length=N at hn h1
  clear hnn
  unfold maxLen at hm
  refine World.at_block hb ?_
  clear hb
  go_enter Tryz.func15,Tryz.ntmps15
  go_wp2
  go_loopw [1,5] (fun kk i wr=>∃ (n:Nat) (cs:Array Value) (X:Ext) (m:Int),kk=.int .i64 m/\m=k+(2*n:Nat)/\i=.int .i64 n/\n<=N/\wr=(w.setB b (.cells cs 66)).ext X/\cs.size=cap*2/\cs.toList.take (n*2)=(marks zqaP 2 k n).flatMap CellD.row) (fun _ i _=>N - (intOf i).toNat)
  case atStart=>exact ⟨0,blk,⟨#[],_⟩,k,rfl,by simp,rfl,by omega,(zbz _ _ rfl).symm,hsz',by simp [marks]⟩
  case round =>
   obtain ⟨n,cs,X,m,rfl,hmk,rfl,hn2,rfl,hcs,htk⟩:=hrel
   have HT:=Hd htk
   have HSZ:=Hd hcs
   have HM:=Hd hmk
   clear htk hcs hsz'
   have hm0 : 0<=m:=by omega
   have hm1:m<=1125899906842000:=by omega
   by_cases hlt:(n:Int)<N
   ·have hk:n<N:=by omega
    have hm2:m+2<=1125899906842000:=by omega
    clear hmk
    have hsz2:n*2+2<=cs.size:=by rw [HSZ.out];omega
    have l0:n*2<cs.size:=by omega
    have l1:n*2+1<cs.size:=by omega
    go_wp2_with fail
    (go_at_call 38;refine (zqb _ _ (by omega) (by omega)).mono ?_;rintro e w' ⟨rfl,hb⟩;obtain ⟨X,rfl⟩:=hb.ext;clear hb)
    go_wp2_with fail
    (go_at_call 38;refine (zqb _ _ (by omega) (by omega)).mono ?_;rintro e w' ⟨rfl,hb⟩;obtain ⟨X,rfl⟩:=hb.ext;clear hb)
    go_wp2
    go_roundw
    case rel =>
     refine ⟨n+1,_,_,_,rfl,?_,by go_num,by omega,rfl,?_,?_⟩
     ·have:=HM.out
      omega
     ·simpa using HSZ.out
     ·skip
      have h0:=zcU (v:=.string (zqz m)) HT.out rfl rfl (by omega)
      have h1:=zcU (p:=(n+1)*2) (v:=.string (zqz (m+1))) h0 rfl (by omega) (by simp;omega)
      rw [zqp,List.flatMap_append,<- HM.out]
      simpa [zqaP,CellD.row] using h1
    case measure=>simp [intOf];omega
   ·clear hmk
    go_wp2
    go_ret
    have e:n=N:=by omega
    subst e
    exact ⟨zgB HM.out,View.ownExt (zdE (zy _ _ _ hbl) (zqm _ _ _ _).symm hn (by unfold maxLen;exact hm) HSZ.out HT.out (zqac (by omega))) X,Upon.setBExt _ _ _ (by simp)⟩
end Go.Proofs.YtodokkpnafabpaaGreatDoor
namespace Go
open Go.ChangeShapes Go.WideShapes Go.ChangeAt Go.RowKit
section
variable {e:TypeId} {w:World} {B:Nat} {v:Value} {l:List UInt8}
theorem OwnB.base {B':Nat} (h:OwnB e w B v l) (hb:B'<=B):OwnB e w B' v l:=by
 rcases h with hn|⟨g,cap,cur,fz,hv,h1,rest⟩
 ·exact .inl hn
 ·exact .inr ⟨g,cap,cur,fz,hv,Nat.le_trans hb h1,rest⟩
end
section
variable {P:Program} (w:World)
end
end Go
namespace Go.Proofs.YtodokkpnafabpaaGreatDoor
open Go.ChangeShapes Go.WideShapes Go.ChangeAt Go.RowKit
theorem ReadsTo.nil:ReadsTo [] []:=⟨[],rfl,rfl,by simp⟩
theorem CutTo.nil (c:UInt8) (L:List UInt8):CutTo c L [] 0 0:=.inl ⟨by omega,by omega,by simp,by simp⟩
theorem CutTo.all {c:UInt8} {L:List UInt8} {xs:List ByteArray} {b i:Nat} (h:CutTo c L xs b i) (hi:L.length<i):xs.map (·.data.toList)=zbl c L:=by
 rcases h with ⟨h1,_⟩|⟨_,h⟩
 ·omega
 ·exact h
theorem CutTo.lo {c:UInt8} {L:List UInt8} {xs:List ByteArray} {b i:Nat} (h:CutTo c L xs b i) (hi:i<=L.length):b<=i:=by
 rcases h with ⟨_,h,_⟩|⟨h,_⟩
 ·exact h
 ·omega
def Sm (cs:List CellD):Prop:=∀ c ∈ cs,c.key.size<=20000/\c.val.size<=20000
theorem Sm.nil:Sm []:=by intro c hc;cases hc
def zqaQ (k:Int):CallD:=⟨k,zqz (k+1),zqz (k+1+1),k+1+1+1,k+1+1+1+1,zqz (k+1+1+1+1+1)⟩
theorem zqaW (k:Int) (h:k<=4294967280):(zqaQ k).ok:=⟨zqe _ (by omega),zqe _ (by omega),zqe _ (by omega)⟩
theorem zqad {k:Int} {n:Nat} (h:k+(6*n:Nat)<=4294967280):∀ d ∈ marks zqaQ 6 k n,d.ok:=by
 intro d hd
 obtain ⟨i,hi,rfl⟩:=zqC hd
 exact zqaW _ (by omega)
theorem Tryz.elemCallS:Elem Tryz.prog 40 45 6 72:=Elem.of (.agg #[.int .i64 0,.string ⟨#[]⟩,.string ⟨#[]⟩,.int .i64 0,.int .i64 0,.string ⟨#[]⟩]) Tryz.underlying40 (by kernel_rfl) rfl (by decide)
theorem zqN (d:CallD) (left:Int) (w:World) (hok:d.ok) (h0 : 0<=left) (h1:left<=4294967296) :
  Calls Tryz.prog 6 #[.agg d.row.toArray,.int .i64 left] w fun e w'=>e=.returned (.int .i64 (zgk left d.wt))/\Below w.heap.size w w':=by
 obtain ⟨f0,f1,f2,f3,f4,f5⟩:=d
 obtain ⟨z0,z1,z2⟩:=hok
 simp only at z0 z1 z2
 simp only [CallD.row,CallD.wt]
 have e0:wrap64 (left - f1.size)=left - f1.size:=IntWalk.wrap64_in _ (by omega)
 by_cases g0:left - f1.size<0
 ·rw [zbG (by omega)]
  go_enter Tryz.func6,Tryz.ntmps6
  go_wp2
  go_ret
  exact ⟨rfl,(by repeat (first|with_reducible exact Below.refl _ _|with_reducible apply Below.ofAlloc))⟩
 ·skip
  have e1:wrap64 (left - f1.size - f2.size)=left - f1.size - f2.size:=IntWalk.wrap64_in _ (by omega)
  by_cases g1:left - f1.size - f2.size<0
  ·rw [zbG (by omega)]
   go_enter Tryz.func6,Tryz.ntmps6
   go_wp2
   go_ret
   exact ⟨rfl,(by repeat (first|with_reducible exact Below.refl _ _|with_reducible apply Below.ofAlloc))⟩
  ·skip
   have e2:wrap64 (left - f1.size - f2.size - f5.size)=left - f1.size - f2.size - f5.size:=IntWalk.wrap64_in _ (by omega)
   by_cases g2:left - f1.size - f2.size - f5.size<0
   ·rw [zbG (by omega)]
    go_enter Tryz.func6,Tryz.ntmps6
    go_wp2
    go_ret
    exact ⟨rfl,(by repeat (first|with_reducible exact Below.refl _ _|with_reducible apply Below.ofAlloc))⟩
   ·skip
    rw [zel (by omega)]
    go_enter Tryz.func6,Tryz.ntmps6
    go_wp2
    go_ret
    exact ⟨zgB (by omega),(by repeat (first|with_reducible exact Below.refl _ _|with_reducible apply Below.ofAlloc))⟩
theorem zqar (v:Value) (ds:List CallD) (left:Int) (w:World) {e:TypeId} (hs:(vSlice vCall e).rd w [v] ds) (h0 : 0<=left) (h1:left<=4294967296) :
  Calls Tryz.prog 20 #[v,.int .i64 left] w fun e w'=>e=.returned (.int .i64 (zgk left (wtS CallD.wt ds)))/\Below w.heap.size w w':=by
 obtain ⟨ao,cap,rfl,hc1,hc2,hnil,hcell⟩:=vSlice.shape hs
 have HX:=Hd hcell
 clear hcell hs hnil
 unfold maxLen at hc2
 have hsub:wrap64 (left - ds.length)=left - ds.length:=IntWalk.wrap64_in _ (by omega)
 by_cases hl:left - ds.length<0
 ·rw [zbG (by unfold wtS;omega)]
  go_enter Tryz.func20,Tryz.ntmps20
  go_wp2
  go_ret
  exact ⟨rfl,(by repeat (with_reducible exact Below.refl _ _))⟩
 ·go_enter Tryz.func20,Tryz.ntmps20
  go_wp2
  go_loopw [1,5] (fun l k wr=>∃ (n:Nat) (m:Int) (X:Ext),k=.int .i64 n/\n<=ds.length/\wr=w.ext X/\l=.int .i64 m/\m+((ds.take n).map CallD.wt).sum=left - ds.length/\0<=m) (fun _ k _=>ds.length - (intOf k).toNat)
  case atStart=>exact ⟨0,_,⟨#[],_⟩,rfl,by omega,(zbz _ _ rfl).symm,rfl,by simp,by omega⟩
  case round =>
   obtain ⟨n,m,X,rfl,hn,rfl,rfl,hsum,hm⟩:=hrel
   have HS:=Hd hsum
   have hm2:m<=left:=by omega
   clear hsum
   by_cases hlt:(n:Int)<ds.length
   ·have hk:n<ds.length:=by omega
    obtain ⟨b,off,cs,rfl,hbl,hrd,hcell⟩:=HX.out n hk
    have hstep:=zgy CallD.wt ds n hk
    have hle:=zhO CallD.wt ds (n+1)
    generalize ds[n]=d at hrd hstep
    have HT:=Hd hstep
    have HL:=Hd hle
    clear hstep hle
    obtain ⟨rfl,hok⟩:=hrd
    obtain ⟨x0,x1,x2,x3,x4,x5⟩:=d
    have c0:=hcell 0 _ rfl
    have c1:=hcell 1 _ rfl
    have c2:=hcell 2 _ rfl
    have c3:=hcell 3 _ rfl
    have c4:=hcell 4 _ rfl
    have c5:=hcell 5 _ rfl
    clear hcell
    simp only [show vCall.k=6 from rfl,Nat.add_zero] at c0 c1 c2 c3 c4 c5
    go_wp2_with fail
    (go_at_call 6;refine (zqN ⟨x0,x1,x2,x3,x4,x5⟩ m _ hok hm (by omega)).mono ?_;rintro e w' ⟨rfl,hb⟩;obtain ⟨X,rfl⟩:=hb.ext;clear hb)
    generalize CallD.wt ⟨x0,x1,x2,x3,x4,x5⟩=wt at HT
    by_cases hg:(wt:Int)<=m
    ·rw [zel hg]
     have hg2:¬ m - (wt:Int)<0:=by omega
     go_wp2
     go_roundw
     case rel=>exact ⟨n+1,m - wt,_,by go_num,by omega,rfl,rfl,by rw [HT.out];have:=HS.out;omega,by omega⟩
     case measure=>simp [intOf];omega
    ·rw [zbG hg]
     go_wp2
     go_ret
     refine ⟨?_,(by repeat (first|with_reducible exact Below.refl _ _|with_reducible apply Below.ofExt))⟩
     have:=HS.out
     have h2:=HT.out
     have h3:=HL.out
     rw [zbG (by unfold wtS;omega)]
     rfl
   ·go_wp2
    go_ret
    refine ⟨?_,(by repeat (first|with_reducible exact Below.refl _ _|with_reducible apply Below.ofExt))⟩
    have e:n=ds.length:=by omega
    subst e
    have:=HS.out
    rw [List.take_length] at this
    rw [zel (by unfold wtS;omega)]
    exact zgB (by unfold wtS;omega)
theorem zqr (x0:Int) (x1:ByteArray) (x2:ByteArray) (x3:Int) (x4:Int) (x5:ByteArray) (w:World) :
  Calls Tryz.prog 10 #[.agg #[.int .i64 x0,.string x1,.string x2,.int .i64 x3,.int .i64 x4,.string x5]] w fun e w'=>e=.returned (.agg #[.int .i64 x0,.string x1,.string x2,.int .i64 x3,.int .i64 x4,.string x5])/\Below w.heap.size w w':=by
 go_enter Tryz.func10,Tryz.ntmps10
 go_wp2
 refine bodyPost_ret (by simp [results,Tryz.results10,go_sem];rfl) rfl ?_
 exact ⟨rfl,(by repeat (first|with_reducible exact Below.refl _ _|with_reducible apply Below.ofAlloc))⟩
theorem zqaE (x0:Int) (x1:ByteArray) (x2:ByteArray) (x3:Int) (x4:Int) (x5:ByteArray) (w:World) :
  Calls Tryz.prog 56 #[.agg #[.int .i64 x0,.string x1,.string x2,.int .i64 x3,.int .i64 x4,.string x5],.agg #[.int .i64 x0,.string x1,.string x2,.int .i64 x3,.int .i64 x4,.string x5]] w fun e w'=>e=.returned (.bool true)/\Below w.heap.size w w':=by
 go_enter Tryz.func56,Tryz.ntmps56
 go_wp2
 go_ret
 exact ⟨rfl,(by repeat (first|with_reducible exact Below.refl _ _|with_reducible apply Below.ofAlloc))⟩
theorem zqap (v:Value) (ds:List CallD) (w:World) {e:TypeId} (hs:(vSlice vCall e).rd w [v] ds) (hl:ds.length<=1048576) :
  Calls Tryz.prog 27 #[v] w (Made (vSlice vCall 45) w ds):=by
 obtain ⟨ao,cap,rfl,hc1,hc2,hnil,hcell⟩:=vSlice.shape hs
 have HX:=Hd hcell
 have HOK:Hid (∀ d ∈ ds,CallD.ok d):=fun d hd=>by
  obtain ⟨i,hi,rfl⟩:=List.getElem_of_mem hd
  obtain ⟨_,_,_,_,_,h,_⟩:=hcell i hi
  exact h.2
 clear hcell hs hnil
 unfold maxLen at hc2
 obtain ⟨cs0,hsz0,hmk⟩:=Elem.make Tryz.elemCallS ds.length (by omega) (by omega)
 go_enter Tryz.func27,Tryz.ntmps27
 go_wp2
 go_loopw [4] (fun k wr=>∃ (n:Nat) (cs:Array Value) (X:Ext),k=.int .i64 n/\n<=ds.length/\wr=(w.alloc (.cells cs 45)).ext X/\cs.size=ds.length*6/\cs.toList.take (n*6)=(ds.take n).flatMap CallD.row) (fun k _=>ds.length - (intOf k).toNat)
 case atStart=>exact ⟨0,cs0,⟨#[],_⟩,rfl,by omega,(zbz _ _ rfl).symm,hsz0,by simp⟩
 case round =>
  obtain ⟨n,cs,X,rfl,hn,rfl,hsz,htk⟩:=hrel
  have HT:=Hd htk
  have HSZ:=Hd hsz
  clear htk hmk hsz0 hsz
  by_cases hlt:(n:Int)<ds.length
  ·have hk:n<ds.length:=by omega
   obtain ⟨b,off,cs',rfl,hbl,hrd,hcell⟩:=HX.out n hk
   have hfs:(ds.take (n+1)).flatMap CallD.row=(ds.take n).flatMap CallD.row++CallD.row ds[n]:=by
    simp only [List.take_succ_eq_append_getElem hk,List.flatMap_append,List.flatMap_cons,List.flatMap_nil,List.append_nil]
   generalize ds[n]=d at hrd hfs
   have HF:=Hd hfs
   clear hfs
   obtain ⟨rfl,hok⟩:=hrd
   obtain ⟨x0,x1,x2,x3,x4,x5⟩:=d
   have c0:=hcell 0 _ rfl
   have c1:=hcell 1 _ rfl
   have c2:=hcell 2 _ rfl
   have c3:=hcell 3 _ rfl
   have c4:=hcell 4 _ rfl
   have c5:=hcell 5 _ rfl
   clear hcell
   simp only [show vCall.k=6 from rfl,Nat.add_zero] at c0 c1 c2 c3 c4 c5
   have hsz2:n*6+6<=cs.size:=by rw [HSZ.out];omega
   have o0:cs[n*6]?=some cs[n*6]:=Array.getElem?_eq_getElem (by omega)
   have o1:cs[n*6+1]?=some cs[n*6+1]:=Array.getElem?_eq_getElem (by omega)
   have o2:cs[n*6+2]?=some cs[n*6+2]:=Array.getElem?_eq_getElem (by omega)
   have o3:cs[n*6+3]?=some cs[n*6+3]:=Array.getElem?_eq_getElem (by omega)
   have o4:cs[n*6+4]?=some cs[n*6+4]:=Array.getElem?_eq_getElem (by omega)
   have o5:cs[n*6+5]?=some cs[n*6+5]:=Array.getElem?_eq_getElem (by omega)
   generalize cs[n*6]=y0 at o0
   generalize cs[n*6+1]=y1 at o1
   generalize cs[n*6+2]=y2 at o2
   generalize cs[n*6+3]=y3 at o3
   generalize cs[n*6+4]=y4 at o4
   generalize cs[n*6+5]=y5 at o5
   go_wp2_with fail
   (go_at_call 10;refine (zqr x0 x1 x2 x3 x4 x5 _).mono ?_;rintro e w' ⟨rfl,hb⟩;obtain ⟨X,rfl⟩:=hb.ext;clear hb)
   go_wp2
   go_roundw
   case rel =>
    have h0:=zcU (v:=.int .i64 x0) HT.out rfl rfl (by omega)
    have h1:=zcU (v:=.string x1) h0 rfl rfl (by simp;omega)
    have h2:=zcU (v:=.string x2) h1 rfl rfl (by simp;omega)
    have h3:=zcU (v:=.int .i64 x3) h2 rfl rfl (by simp;omega)
    have h4:=zcU (v:=.int .i64 x4) h3 rfl rfl (by simp;omega)
    have h5:=zcU (p:=(n+1)*6) (v:=.string x5) h4 rfl (by omega) (by simp;omega)
    exact ⟨n+1,_,_,by go_num,by omega,rfl,by simpa using HSZ.out,by rw [HF.out];simpa [CallD.row] using h5⟩
   case measure=>simp [intOf];omega
  ·go_wp2
   go_ret
   have e:n=ds.length:=by omega
   subst e
   have ht:=HT.out
   rw [List.take_length] at ht
   exact ⟨_,_,rfl,vSlice.freshRow rfl (by omega) HSZ.out ht HOK.out,(by repeat (first|with_reducible exact Below.refl _ _|with_reducible apply Below.ofExt|with_reducible apply Below.ofAlloc))⟩
theorem zqas (v v':Value) (ds:List CallD) (w:World) {e e':TypeId} (hs:(vSlice vCall e).rd w [v] ds) (hs':(vSlice vCall e').rd w [v'] ds) :
  Calls Tryz.prog 35 #[v,v'] w fun e w'=>e=.returned (.bool true)/\Below w.heap.size w w':=by
 obtain ⟨ao,cap,rfl,hc1,hc2,hnil,hcell⟩:=vSlice.shape hs
 obtain ⟨ao',cap',rfl,hc1',hc2',hnil',hcell'⟩:=vSlice.shape hs'
 have HX:=Hd hcell
 have HX':=Hd hcell'
 clear hcell hs hnil hcell' hs' hnil'
 unfold maxLen at hc2 hc2'
 go_enter Tryz.func35,Tryz.ntmps35
 go_wp2
 go_loopw [5] (fun k wr=>∃ (n:Nat) (X:Ext),k=.int .i64 n/\n<=ds.length/\wr=w.ext X) (fun k _=>ds.length - (intOf k).toNat)
 case atStart=>exact ⟨0,⟨#[],_⟩,rfl,by omega,(zbz _ _ rfl).symm⟩
 case round =>
  obtain ⟨n,X,rfl,hn,rfl⟩:=hrel
  by_cases hlt:(n:Int)<ds.length
  ·have hk:n<ds.length:=by omega
   obtain ⟨b,off,cs,rfl,hbl,hrd,hcell⟩:=HX.out n hk
   obtain ⟨b',off',cs',rfl,hbl',hrd',hcell'⟩:=HX'.out n hk
   generalize ds[n]=d at hrd hrd'
   obtain ⟨rfl,hok⟩:=hrd
   obtain ⟨rfl,hok'⟩:=hrd'
   obtain ⟨x0,x1,x2,x3,x4,x5⟩:=d
   have c0:=hcell 0 _ rfl
   have c1:=hcell 1 _ rfl
   have c2:=hcell 2 _ rfl
   have c3:=hcell 3 _ rfl
   have c4:=hcell 4 _ rfl
   have c5:=hcell 5 _ rfl
   have e0:=hcell' 0 _ rfl
   have e1:=hcell' 1 _ rfl
   have e2:=hcell' 2 _ rfl
   have e3:=hcell' 3 _ rfl
   have e4:=hcell' 4 _ rfl
   have e5:=hcell' 5 _ rfl
   clear hcell hcell'
   simp only [show vCall.k=6 from rfl,Nat.add_zero] at c0 c1 c2 c3 c4 c5 e0 e1 e2 e3 e4 e5
   go_wp2
   refine zgw [(0,true),(1,true),(2,true),(3,true),(4,true),(5,true),(6,true),(7,true),(8,false),(9,true)] 10 (by kernel_rfl) (by kernel_rfl) ?_
   repeat (refine zm rfl (fun K hK=>?_);go_simp;(try simp (disch:=omega) only [IntWalk.i64_in]);refine hK _ ?_;clear hK K)
   refine zt rfl (fun K hK=>?_);go_simp;go_at_call 56;refine (zqaE x0 x1 x2 x3 x4 x5 _).mono ?_;rintro e w' ⟨rfl,hb⟩;obtain ⟨X,rfl⟩:=hb.ext;clear hb;try go_simp;refine hK _ _ (by show Sx _ _;repeat (first|with_reducible exact Sx.same _ _ _ _|with_reducible apply Sx.more)) ?_;clear hK K
   repeat (refine zm rfl (fun K hK=>?_);go_simp;(try simp (disch:=omega) only [IntWalk.i64_in]);refine hK _ ?_;clear hK K)
   refine zaf ?_
   go_wp2
   go_roundw
   case rel=>exact ⟨n+1,_,by go_num,by omega,rfl⟩
   case measure=>simp [intOf];omega
  ·go_wp2
   go_ret
   exact ⟨rfl,(by repeat (first|with_reducible exact Below.refl _ _|with_reducible apply Below.ofExt))⟩
theorem zqU (v:Value) (fp:List Nat) (ds:List CallD) (k:Int) (w:World) (hs:(vSlice vCall 45).own w fp [v] ds) (h0 : 0<=k) (h1:k+(6*ds.length:Nat)<=4294960000) :
  Calls Tryz.prog 39 #[v,.int .i64 k] w fun e w'=>e=.returned (.int .i64 (k+(6*ds.length:Nat)))/\(vSlice vCall 45).own w' fp [v] (marks zqaQ 6 k ds.length)/\Upon fp w w':=by
 rcases hs with ⟨hv,rfl,rfl⟩|⟨b,cap,blk,css,fps,hv,hb,hn,hm,hsz,ht,rfl,hcl,hfl,hel⟩
 ·simp only [List.cons.injEq,and_true] at hv
  subst hv
  go_enter Tryz.func39,Tryz.ntmps39
  go_wp2
  go_loopw [1,5] (fun kk i wr=>kk=.int .i64 k/\i=.int .i64 0/\wr=w) (fun _ _ _=>0)
  case atStart=>exact ⟨rfl,rfl,rfl⟩
  case round =>
   obtain ⟨rfl,rfl,rfl⟩:=hrel
   go_wp2
   go_ret
   exact ⟨by simp,.inl ⟨rfl,rfl,rfl⟩,Upon.refl _ _⟩
 ·simp only [List.cons.injEq,and_true] at hv
  subst hv
  have hfe:fps.flatten = []:=by
   rw [List.flatten_eq_nil_iff]
   intro l hl
   obtain ⟨i,hi,rfl⟩:=List.getElem_of_mem hl
   exact (hel i (by omega) (by omega) hi).1
  rw [hfe]
  have hbl:=za hb
  have hsz':blk.size=cap*6:=hsz
  clear hel ht hfe hcl hfl hsz
  generalize hnn:ds.length=N at hn h1
  clear hnn
  unfold maxLen at hm
  refine World.at_block hb ?_
  clear hb
  go_enter Tryz.func39,Tryz.ntmps39
  go_wp2
  go_loopw [1,5] (fun kk i wr=>∃ (n:Nat) (cs:Array Value) (X:Ext) (m:Int),kk=.int .i64 m/\m=k+(6*n:Nat)/\i=.int .i64 n/\n<=N/\wr=(w.setB b (.cells cs 45)).ext X/\cs.size=cap*6/\cs.toList.take (n*6)=(marks zqaQ 6 k n).flatMap CallD.row) (fun _ i _=>N - (intOf i).toNat)
  case atStart=>exact ⟨0,blk,⟨#[],_⟩,k,rfl,by simp,rfl,by omega,(zbz _ _ rfl).symm,hsz',by simp [marks]⟩
  case round =>
   obtain ⟨n,cs,X,m,rfl,hmk,rfl,hn2,rfl,hcs,htk⟩:=hrel
   have HT:=Hd htk
   have HSZ:=Hd hcs
   have HM:=Hd hmk
   clear htk hcs hsz'
   have hm0 : 0<=m:=by omega
   have hm1:m<=4294960000:=by omega
   by_cases hlt:(n:Int)<N
   ·have hk:n<N:=by omega
    have hm2:m+6<=4294960000:=by omega
    clear hmk
    have hsz2:n*6+6<=cs.size:=by rw [HSZ.out];omega
    have l0:n*6<cs.size:=by omega
    have l1:n*6+1<cs.size:=by omega
    have l2:n*6+2<cs.size:=by omega
    have l3:n*6+3<cs.size:=by omega
    have l4:n*6+4<cs.size:=by omega
    have l5:n*6+5<cs.size:=by omega
    go_wp2_with fail
    (go_at_call 38;refine (zqb _ _ (by omega) (by omega)).mono ?_;rintro e w' ⟨rfl,hb⟩;obtain ⟨X,rfl⟩:=hb.ext;clear hb)
    go_wp2_with fail
    (go_at_call 38;refine (zqb _ _ (by omega) (by omega)).mono ?_;rintro e w' ⟨rfl,hb⟩;obtain ⟨X,rfl⟩:=hb.ext;clear hb)
    go_wp2_with fail
    (go_at_call 38;refine (zqb _ _ (by omega) (by omega)).mono ?_;rintro e w' ⟨rfl,hb⟩;obtain ⟨X,rfl⟩:=hb.ext;clear hb)
    go_wp2
    go_roundw
    case rel =>
     refine ⟨n+1,_,_,_,rfl,?_,by go_num,by omega,rfl,?_,?_⟩
     ·have:=HM.out
      omega
     ·simpa using HSZ.out
     ·skip
      have h0:=zcU (v:=.int .i64 m) HT.out rfl rfl (by omega)
      have h1:=zcU (v:=.string (zqz (m+1))) h0 rfl rfl (by simp;omega)
      have h2:=zcU (v:=.string (zqz (m+1+1))) h1 rfl rfl (by simp;omega)
      have h3:=zcU (v:=.int .i64 (m+1+1+1)) h2 rfl rfl (by simp;omega)
      have h4:=zcU (v:=.int .i64 (m+1+1+1+1)) h3 rfl rfl (by simp;omega)
      have h5:=zcU (p:=(n+1)*6) (v:=.string (zqz (m+1+1+1+1+1))) h4 rfl (by omega) (by simp;omega)
      rw [zqp,List.flatMap_append,<- HM.out]
      simpa [zqaQ,CallD.row] using h5
    case measure=>simp [intOf];omega
   ·clear hmk
    go_wp2
    go_ret
    have e:n=N:=by omega
    subst e
    exact ⟨zgB HM.out,View.ownExt (zdE (zy _ _ _ hbl) (zqm _ _ _ _).symm hn (by unfold maxLen;exact hm) HSZ.out HT.out (zqad (by omega))) X,Upon.setBExt _ _ _ (by simp)⟩
end Go.Proofs.YtodokkpnafabpaaGreatDoor
