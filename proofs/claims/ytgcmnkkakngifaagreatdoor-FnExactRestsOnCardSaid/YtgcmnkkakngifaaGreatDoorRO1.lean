/- Texts of this claim, merged: the walks and what they stand on. Each condition stands in its theorem. -/
import Derived.BigQuiet
import Derived.Deep.QuietTactic
import Derived.Laws.IdiomStrings
import Derived.Lib.AppendStr
import Derived.Lib.FrozenHead
import Derived.Lib.Hide
import Derived.OpenShut
import Derived.ProofKit
import Derived.Sort.KeysCollected
import Derived.Sort.Walk0
import Derived.Test.YtgcmnkkakngifaaGreatDoorCA1
import Derived.Test.YtgcmnkkakngifaaGreatDoorCA10
import Derived.Test.YtgcmnkkakngifaaGreatDoorCA12
import Derived.Test.YtgcmnkkakngifaaGreatDoorCA2
import Derived.Test.YtgcmnkkakngifaaGreatDoorCA3
import Derived.Test.YtgcmnkkakngifaaGreatDoorCA4
import Derived.Test.YtgcmnkkakngifaaGreatDoorRows
import Derived.WalkKit
import Derived.WalkLawsBesides
import Derived.WalkSpells
set_option linter.unusedVariables false
set_option linter.unusedSimpArgs false
set_option maxRecDepth 100000
set_option maxHeartbeats 8000000
namespace Go.Proofs.YtgcmnkkakngifaaGreatDoor
open Go.ChangeShapes Go.WideShapes Go.ChangeAt Go.RowKit
theorem Tryz.own:ownKnob Tryz.prog.godebug=none:=by kernel_rfl
theorem Tryz.laidOut:laidOutB Tryz.prog=true:=by kernel_rfl
def Yes (W:World):Ending->World->Prop:=fun e W'=>e = .returned (.bool true)/\Below W.heap.size W W'
theorem trodAll_stays {H:Type} {enc:TypeId × Value->H} {P:Program} (hl:laidOutB P=true) {W W':World} (hb:Below W.heap.size W W') :
  ∀ (ts:List TypeId) (vs:List Value) (ds:List (DataW H)) (ps:List MemPlace),(∀ t ∈ ts,P.readableRec t=true/\t < P.types.size) ->
   (∀ x ∈ ps,x.block < W.heap.size)->DataW.TrodAll enc P W 0 (fun _=>true) true ts vs ds ps ->
   DataW.TrodAll enc P W' 0 (fun b=>decide (b < W.heap.size)) true ts vs ds ps
 | [],[],[],_,_,_,h=>h
 | t :: ts,v :: vs,d :: ds,_,hr,hlt,⟨p,q,h1,h2,e⟩=>by
  subst e
  exact ⟨p,q,Below.trod hl (hr t (by simp)).1 (hr t (by simp)).2 h1 hb (fun x hx=>hlt x (by simp [hx])),
   trodAll_stays hl hb ts vs ds q (fun t ht=>hr t (by simp [ht])) (fun x hx=>hlt x (by simp [hx])) h2,rfl⟩
 | [],_ :: _,_,_,_,_,h=>h.elim
 | [],[],_ :: _,_,_,_,h=>h.elim
 | _ :: _,[],_,_,_,_,h=>h.elim
 | _ :: _,_ :: _,[],_,_,_,h=>h.elim
theorem law_post {H:Type} {enc:TypeId × Value->H} {P:Program} (hl:laidOutB P=true) {f:Func} {s:ChangeSpec} {W W':World} {args:Array Value} {ds gs:List (DataW H)} {before:List MemPlace}
  (hW:DataW.Whole enc P f.params.toList s.vars false W args.toList ds gs before) (hv:s.vars = [])
  (hr:∀ t ∈ f.params.toList,P.readableRec t=true/\t < P.types.size)
  (hres:DataW.TrodAll enc P W' W.heap.size (fun _=>false) false f.resultTypes.toList ((Value.bool true).resultList f.resultTypes.size) (s.fn H (ds ++ gs)).results [])
  (hargs:(s.fn H (ds ++ gs)).args=ds) (hvars:(s.fn H (ds ++ gs)).vars = []) (hb:Below W.heap.size W W') :
  s.post enc P f false true false false W args (.bool true) W':=by
 have hW':=hW
 obtain ⟨p,q,hA,hV,hpq,_,_⟩:=hW'
 rw [hv] at hV
 have hq:gs = []/\q = []:=by
  cases gs with
  | nil=>exact ⟨rfl,hV⟩
  | cons g gs=>exact hV.elim
 obtain ⟨rfl,rfl⟩:=hq
 simp only [List.append_nil] at hpq
 subst hpq
 refine ⟨ds,[],before,[],before,[],hW,hres,?_,?_,hb.frame _,fun h=>by cases h⟩
 ·rw [hargs]
  exact trodAll_stays hl hb _ _ _ _ hr (fun x hx=>hW.lt x hx) hA
 ·rw [hv,hvars]
  rfl
end Go.Proofs.YtgcmnkkakngifaaGreatDoor
namespace Go
open Go.RowKit
theorem Sl.lt {w:World} {v:Value} {n:Nat} {cs:List Value} (h:Sl w v n cs) (hc:cs ≠ []):∀ b,v.ownBlock=some b->b < w.heap.size:=by
 intro b hb
 rcases h with ⟨rfl,_,_⟩|⟨b',off,cap,rfl,h1,h2,h3⟩
 ·simp [Value.ownBlock] at hb
 ·simp only [Value.ownBlock,Option.some.injEq] at hb
  subst hb
  cases cs with
  | nil=>exact absurd rfl hc
  | cons u r=>exact World.block_lt_of_cell? w ⟨b',off + 0,none⟩ (h3 0 u rfl)
end Go
namespace Go
open Go.RowKit
theorem Sl.lit (w:World) (cs:Array Value) (t:TypeId) (n:Nat) (hm:n<=maxLen):Sl (w.alloc (.cells cs t)) (.slice (some ⟨w.heap.size,0,none⟩) n n) n cs.toList :=
 Sl.new w cs.toList t n hm
section
variable {P:Program}
end
end Go
namespace Go
open Go.RowKit
variable {α : Type}
section
variable {R:RowOf α} {w:World} {v:Value} {xs:List α} {e:TypeId} {B:Nat}
theorem OwnL.kept {w':World} {row:Option Nat} (h:OwnL R e w B v xs) (hg:w.grownBy w' row) (hne:v.ownBlock=none ∨ v.ownBlock ≠ row):OwnL R e w' B v xs:=World.ownsRow.kept h hg hne
theorem OwnL.lit (R:RowOf α) (w:World) (xs:List α) (n:Nat) (hn:n=xs.length) (hm:n<=maxLen) (cs:Array Value) (hcs:cs=(xs.flatMap R.row).toArray) (e:TypeId):OwnL R e (w.alloc (.cells cs e)) w.heap.size (.slice (some ⟨w.heap.size,0,none⟩) n n) xs:=by
 subst hcs hn
 have:=World.ownsRow_lit (e:=e) (size:=R.k) w (xs.flatMap R.row).toArray xs.length (base:=w.heap.size) (Nat.le_refl _) hm (by simp [R.flat_len])
 simpa [OwnL] using this
end
section
variable {P:Program}
end
/-! ### the Go types -/
theorem Got.other {p:Nat} {w w1:World} {o:Obj} (h:Got p w o w1) {b:Nat} (hb:b < w.heap.size) (hne:b ≠ p):w1.heap[b]?=w.heap[b]?:=by
 obtain ⟨X,rfl⟩:=h
 rw [World.ext_get _ _ (by rw [ze];exact hb),World.setB_get _ _ _ _ hne]
theorem RdW.shape {α : Type} {R:RowOf α} {w:World} {v:Value} {xs:List α} (h:RdW R w v xs):∃ ao cap,v = .slice ao xs.length cap/\xs.length<=cap/\cap<=maxLen/\(ao=none->cap=0/\xs = []) /\
  (xs ≠ []->∃ b off,ao=some ⟨b,off,none⟩/\(0 < R.k->b < w.heap.size)/\∀ (i:Nat) (hi:i < xs.length) (j:Nat) (u:Value),(R.row xs[i])[j]?=some u->w.cell? ⟨b,off + i * R.k + j,none⟩ = some u):=by
 rcases h with h|⟨rfl,a,rfl⟩
 ·exact h.shape
 ·exact ⟨some a,0,rfl,Nat.le_refl _,Nat.zero_le _,(fun e=>by cases e),fun e=>absurd rfl e⟩
attribute [go_sem] SpF
end Go
namespace Go
open Go.RowKit
section
variable {α β : Type} {V:View α} {w w':World} {cs:List Value} {fp:List Nat} {d : α}
theorem View.rdExt (h:V.rd w cs d) (X:Ext):V.rd (w.ext X) cs d:=V.grow h (Grew.ext w X)
theorem View.rdAlloc (h:V.rd w cs d) (o:Obj):V.rd (w.alloc o) cs d:=V.grow h (Grew.alloc w o)
end
section
variable {α : Type} {V:View α} {e:TypeId} {w:World} {v:Value} {ds:List α}
end
end Go
namespace Go
open Go.RowKit
def vInt:View Int:=vRow (fun n=>[.int .i64 n]) 1 (fun _=>True) (fun _=>rfl) (by simp [Value.oneCell'])
def vStr:View ByteArray:=vRow (fun n=>[.string n]) 1 (fun s=>s.size<=9223372036854775807) (fun _=>rfl) (by simp [Value.oneCell'])
end Go
namespace Go.Proofs.YtgcmnkkakngifaaGreatDoor
open Go.RowKit
end Go.Proofs.YtgcmnkkakngifaaGreatDoor
namespace Go
open Go.RowKit
end Go
namespace Go
open Go.RowKit
end Go
namespace Go
open Go.RowKit
theorem Sp.nil (lo hi:Nat):Sp lo hi []:=⟨List.nodup_nil,by simp,by simp⟩
theorem Sp.mono {lo hi lo' hi':Nat} {f:List Nat} (h:Sp lo hi f) (h0:lo'<=lo) (h1:hi<=hi'):Sp lo' hi' f :=
 ⟨h.nodup,fun b hb=>Nat.le_trans h0 (h.lo b hb),fun b hb=>Nat.lt_of_lt_of_le (h.hi b hb) h1⟩
theorem World.ext_get_ge (w:World) (X:Ext) {k:Nat} (h:w.heap.size<=k):(w.ext X).heap[k]?=X.bs[k - w.heap.size]?:=by
 show (w.heap ++ X.bs)[k]? = _
 rw [Array.getElem?_append_right h]
theorem tail_agree {a b:World} {A B:Array Obj} {d d':Nat} (hs:a.heap.size=b.heap.size) (hp:Pre A B) {k:Nat} (h1:a.heap.size<=k) (h2:k < (a.ext ⟨A,d⟩).heap.size):(b.ext ⟨B,d'⟩).heap[k]?=(a.ext ⟨A,d⟩).heap[k]?:=by
 obtain ⟨R,rfl⟩:=hp
 rw [World.ext_get_ge _ _ h1,World.ext_get_ge _ _ (by omega)]
 rw [zm] at h2
 simp only at h2 ⊢
 rw [Array.getElem?_append_left (by omega),hs]
structure RowsOwn {α : Type} (V:View α) (w:World) (css:List (List Value)) (fps:List (List Nat)) (ds:List α):Prop where
 cl:css.length=ds.length
 fl:fps.length=ds.length
 el:∀ i (hi:i < ds.length) (hc:i < css.length) (hf:i < fps.length),V.own w fps[i] css[i] ds[i]
theorem RowsOwn.nil {α : Type} (V:View α) (w:World):RowsOwn V w [] [] []:=⟨rfl,rfl,fun i hi=>absurd hi (by simp)⟩
theorem RowsOwn.frame {α : Type} {V:View α} {w w':World} {css:List (List Value)} {fps:List (List Nat)} {ds:List α} (h:RowsOwn V w css fps ds) (g:∀ b ∈ fps.flatten,w'.heap[b]?=w.heap[b]?):RowsOwn V w' css fps ds :=
 ⟨h.cl,h.fl,fun i hi hc hf=>V.frame (h.el i hi hc hf) fun b hb=>g b (List.mem_flatten.2 ⟨_,List.getElem_mem hf,hb⟩)⟩
theorem RowsOwn.lt {α : Type} {V:View α} {w:World} {css:List (List Value)} {fps:List (List Nat)} {ds:List α} (h:RowsOwn V w css fps ds):∀ b ∈ fps.flatten,b < w.heap.size:=by
 intro b hb
 obtain ⟨l,hl,hbl⟩:=List.mem_flatten.1 hb
 obtain ⟨i,hi,rfl⟩:=List.getElem_of_mem hl
 exact V.lt (h.el i (by have:=h.fl;omega) (by have:=h.fl;have:=h.cl;omega) hi) b hbl
theorem RowsOwn.tail {α : Type} {V:View α} {a b:World} {A B:Array Obj} {d d':Nat} {css:List (List Value)} {fps:List (List Nat)} {ds:List α} (h:RowsOwn V (a.ext ⟨A,d⟩) css fps ds) (lo:∀ k ∈ fps.flatten,a.heap.size<=k) (hs:a.heap.size=b.heap.size) (hp:Pre A B) :
  RowsOwn V (b.ext ⟨B,d'⟩) css fps ds:=h.frame fun k hk=>tail_agree hs hp (lo k hk) (h.lt k hk)
end Go
namespace Go.Proofs.YtgcmnkkakngifaaGreatDoor
open Go.ChangeShapes Go.WideShapes Go.ChangeAt Go.RowKit
theorem quietE {P:Program} {f:FuncId} {args:Array Value} {w:World} {X:Ext} {n:Nat} {v:Value} (h:Calls P f args (w.ext ⟨X.bs,X.dr + n⟩) fun e w'=>e = .returned v/\w'=w.ext ⟨X.bs,X.dr + n⟩) :
  Calls P f args (w.ext ⟨X.bs,X.dr + n⟩) fun e w''=>e = .returned v/\∃ m,w''=(w.ext X).drewN m:=h.mono fun _ _ ⟨a,b⟩=>⟨a,n,b⟩
def isOpen (a:ByteArray):Bool:=decide (1<=a.size) && ((a.extract (a.size - 1) a.size).toList == [42])
def openPre (a:ByteArray):ByteArray:=if isOpen a then a.extract 0 (a.size - 1) else a
def spanHas (s k:ByteArray):Bool:=if isOpen s then zaz k (openPre s) else (s.toList == k.toList)
theorem openPre_size (a:ByteArray):(openPre a).size<=a.size:=by
 unfold openPre
 split
 ·rw [ByteArray.size_extract];omega
 ·exact Nat.le_refl _
theorem last_is0 (a:ByteArray) (h : 0 < a.size):(a.extract (a.size - 1) a.size) = ⟨#[a[a.size - 1]]⟩:=by
 apply ByteArray.ext
 apply Array.ext_getElem?
 intro i
 rw [ByteArray.data_extract,Array.getElem?_extract]
 cases i with
 | zero =>
  have:a.size - 1 < a.data.size:=by show a.size - 1 < a.size;omega
  rw [Nat.add_zero]
  simp
  exact ⟨by omega,Array.getElem?_eq_getElem this⟩
 | succ n =>
  simp
  have e:a.data.size=a.size:=rfl
  omega
theorem last_is1 (c:UInt8):((⟨#[c]⟩ : ByteArray).toList == [42])=((c.toNat:Int) == 42):=by
 have:(⟨#[c]⟩ : ByteArray).toList = [c]:=by rw [ByteArray.toList_eq]
 rw [this]
 by_cases h:c=42
 ·subst h;rfl
 ·have:c.toNat ≠ 42:=fun e=>h (by rw [<- UInt8.toNat_inj];exact e)
  have h2:((c.toNat:Int) == 42)=false:=by simp;omega
  rw [h2]
  simp [h]
theorem last_is (a:ByteArray) (h : 0 < a.size):((a[a.size - 1].toNat:Int) == 42)=isOpen a:=by
 unfold isOpen
 have h1 : 1<=a.size:=h
 rw [last_is0 a h,last_is1]
 simp [h1]
theorem lite_HasSuffix (a:ByteArray) (w:World) (ha:a.size<=9223372036854775807):Calls Tryz.prog 264 #[.string a,.string ⟨#[42]⟩] w fun e w'=>e = .returned (.bool (isOpen a))/\w=w':=by
 by_cases h : 1<=a.size
 ·have h':(1:Int)<=a.size:=by omega
  go_enter Tryz.func264,Tryz.ntmps264
  go_wp2
  go_ret
  exact ⟨by simp [isOpen,h],rfl⟩
 ·have h':¬ (1:Int)<=a.size:=by omega
  go_enter Tryz.func264,Tryz.ntmps264
  go_wp2
  go_ret
  exact ⟨by simp [isOpen,h],rfl⟩
theorem lite_CutSuffix (a:ByteArray) (w:World) (ha:a.size<=9223372036854775807):Calls Tryz.prog 242 #[.string a,.string ⟨#[42]⟩] w fun e w'=>e = .returned (.tuple #[.string (openPre a),.bool (isOpen a)])/\w=w':=by
 cases ho:isOpen a with
 | true =>
  have h1 : 1<=a.size:=by
   unfold isOpen at ho
   simp at ho
   exact ho.1
  have h2:(1:Int)<=a.size:=by omega
  go_enter Tryz.func242,Tryz.ntmps242
  go_wp2_with fail
  (go_at_call 264;refine (lite_HasSuffix a _ ha).mono ?_;rintro e w' ⟨rfl,rfl⟩)
  rw [ho]
  go_wp2
  refine bodyPost_ret (by simp [results,Tryz.results242,go_sem];rfl) rfl ?_
  exact ⟨by simp [openPre,ho],rfl⟩
 | false =>
  go_enter Tryz.func242,Tryz.ntmps242
  go_wp2_with fail
  (go_at_call 264;refine (lite_HasSuffix a _ ha).mono ?_;rintro e w' ⟨rfl,rfl⟩)
  rw [ho]
  go_wp2
  refine bodyPost_ret (by simp [results,Tryz.results242,go_sem];rfl) rfl ?_
  exact ⟨by simp [openPre,ho],rfl⟩
theorem strings_CutSuffix (a:ByteArray) (w:World) (ha:a.size<=9223372036854775807):Calls Tryz.prog 190 #[.string a,.string ⟨#[42]⟩] w fun e w'=>e = .returned (.tuple #[.string (openPre a),.bool (isOpen a)])/\w=w':=by
 go_enter Tryz.func190,Tryz.ntmps190
 go_wp2_with fail
 (go_at_call 242;refine (lite_CutSuffix a _ ha).mono ?_;rintro e w' ⟨rfl,rfl⟩)
 go_wp2
 refine bodyPost_ret (by simp [results,Tryz.results190,go_sem];rfl) rfl ?_
 exact ⟨rfl,rfl⟩
theorem spec_l03Open (a:ByteArray) (w:World) (ha:a.size<=9223372036854775807):Calls Tryz.prog 229 #[.string a] w fun e w'=>e = .returned (.tuple #[.string (openPre a),.bool (isOpen a)])/\w=w':=by
 by_cases h : 0 < a.size
 ·have h':(0:Int) < a.size:=by omega
  have hl:=last_is a h
  cases ho:isOpen a with
  | true =>
   rw [ho] at hl
   go_enter Tryz.func229,Tryz.ntmps229
   go_wp2
   refine bodyPost_ret (by simp [results,Tryz.results229,go_sem];rfl) rfl ?_
   exact ⟨by simp [openPre,ho],rfl⟩
  | false =>
   rw [ho] at hl
   go_enter Tryz.func229,Tryz.ntmps229
   go_wp2
   refine bodyPost_ret (by simp [results,Tryz.results229,go_sem];rfl) rfl ?_
   exact ⟨by simp [openPre,ho],rfl⟩
 ·have h':¬ (0:Int) < a.size:=by omega
  have ho:isOpen a=false:=by unfold isOpen;simp;omega
  go_enter Tryz.func229,Tryz.ntmps229
  go_wp2
  refine bodyPost_ret (by simp [results,Tryz.results229,go_sem];rfl) rfl ?_
  exact ⟨by simp [openPre,ho],rfl⟩
theorem spec_SpanHas (s k:ByteArray) (w:World) (hs:s.size<=9223372036854775807) (hk:k.size<=9223372036854775807):Calls Tryz.prog 162 #[.string s,.string k] w fun e w'=>e = .returned (.bool (spanHas s k))/\w=w':=by
 cases ho:isOpen s with
 | true =>
  go_enter Tryz.func162,Tryz.ntmps162
  go_wp2_with fail
  (go_at_call 229;refine (spec_l03Open s _ hs).mono ?_;rintro e w' ⟨rfl,rfl⟩)
  rw [ho]
  go_wp2_with fail
  (go_at_call 230;refine (zfT k (openPre s) _ hk (Nat.le_trans (openPre_size s) hs)).mono ?_;rintro e w' ⟨rfl,rfl⟩)
  go_wp2
  go_ret
  exact ⟨by simp [spanHas,ho],rfl⟩
 | false =>
  have hp:openPre s=s:=by unfold openPre;rw [ho];rfl
  go_enter Tryz.func162,Tryz.ntmps162
  go_wp2_with fail
  (go_at_call 229;refine (spec_l03Open s _ hs).mono ?_;rintro e w' ⟨rfl,rfl⟩)
  rw [ho]
  go_wp2
  go_ret
  exact ⟨by simp [spanHas,ho],rfl⟩
theorem impl_SpanHas (s k:ByteArray) (w:World) (hs:s.size<=9223372036854775807) (hk:k.size<=9223372036854775807):Calls Tryz.prog 167 #[.string s,.string k] w fun e w'=>e = .returned (.bool (spanHas s k))/\w=w':=by
 cases ho:isOpen s with
 | true =>
  go_enter Tryz.func167,Tryz.ntmps167
  go_wp2_with fail
  (go_at_call 190;refine (strings_CutSuffix s _ hs).mono ?_;rintro e w' ⟨rfl,rfl⟩)
  rw [ho]
  go_wp2_with fail
  (go_at_call 234;refine (zea k (openPre s) _ hk (Nat.le_trans (openPre_size s) hs)).mono ?_;rintro e w' ⟨rfl,rfl⟩)
  go_wp2
  go_ret
  exact ⟨by simp [spanHas,ho],rfl⟩
 | false =>
  have hp:openPre s=s:=by unfold openPre;rw [ho];rfl
  go_enter Tryz.func167,Tryz.ntmps167
  go_wp2_with fail
  (go_at_call 190;refine (strings_CutSuffix s _ hs).mono ?_;rintro e w' ⟨rfl,rfl⟩)
  rw [ho]
  go_wp2
  go_ret
  exact ⟨by simp [spanHas,ho],rfl⟩
end Go.Proofs.YtgcmnkkakngifaaGreatDoor
namespace Go
open Go.ChangeShapes Go.WideShapes Go.ChangeAt Go.RowKit
section
variable {e:TypeId} {w:World} {B:Nat} {v:Value} {l:List UInt8}
theorem OwnB.base {B':Nat} (h:OwnB e w B v l) (hb:B'<=B):OwnB e w B' v l:=by
 rcases h with hn|⟨g,cap,cur,fz,hv,h1,rest⟩
 ·exact .inl hn
 ·exact .inr ⟨g,cap,cur,fz,hv,Nat.le_trans hb h1,rest⟩
theorem OwnB.rd (h:OwnB e w B v l):RdL zei w v l:=by
 unfold RdL
 have hf:=zjU l
 rw [hf]
 exact h.sl
end
section
variable {P:Program} (w:World)
end
end Go
namespace Go.Proofs.YtgcmnkkakngifaaGreatDoor
open Go.ChangeShapes Go.WideShapes Go.ChangeAt Go.RowKit
theorem ReadsTo.nil:ReadsTo [] []:=⟨[],rfl,rfl,by simp⟩
theorem CutTo.nil (c:UInt8) (L:List UInt8):CutTo c L [] 0 0:=.inl ⟨by omega,by omega,by simp,by simp⟩
theorem CutTo.all {c:UInt8} {L:List UInt8} {xs:List ByteArray} {b i:Nat} (h:CutTo c L xs b i) (hi:L.length < i):xs.map (·.data.toList)=zbk c L:=by
 rcases h with ⟨h1,_⟩|⟨_,h⟩
 ·omega
 ·exact h
theorem CutTo.lo {c:UInt8} {L:List UInt8} {xs:List ByteArray} {b i:Nat} (h:CutTo c L xs b i) (hi:i<=L.length):b<=i:=by
 rcases h with ⟨_,h,_⟩|⟨h,_⟩
 ·exact h
 ·omega
def Sm (cs:List CellD):Prop:=∀ c ∈ cs,c.key.size<=20000/\c.val.size<=20000
theorem Sm.nil:Sm []:=by intro c hc;cases hc
theorem laws_szCall (d:CallD) (left:Int) (w:World) (hok:d.ok) (h0 : 0<=left) (h1:left<=4294967296) :
  Calls Tryz.prog 24 #[.agg d.row.toArray,.int .i64 left] w fun e w'=>e = .returned (.int .i64 (zgj left d.wt))/\Below w.heap.size w w':=by
 obtain ⟨f0,f1,f2,f3,f4,f5⟩:=d
 obtain ⟨z0,z1,z2⟩:=hok
 simp only at z0 z1 z2
 simp only [CallD.row,CallD.wt]
 have e0:wrap64 (left - f1.size)=left - f1.size:=IntWalk.wrap64_in _ (by omega)
 by_cases g0:left - f1.size < 0
 ·rw [zbD (by omega)]
  go_enter Tryz.func24,Tryz.ntmps24
  go_wp2
  go_ret
  exact ⟨rfl,(by repeat (first|with_reducible exact Below.refl _ _|with_reducible apply Below.ofAlloc))⟩
 ·skip
  have e1:wrap64 (left - f1.size - f2.size)=left - f1.size - f2.size:=IntWalk.wrap64_in _ (by omega)
  by_cases g1:left - f1.size - f2.size < 0
  ·rw [zbD (by omega)]
   go_enter Tryz.func24,Tryz.ntmps24
   go_wp2
   go_ret
   exact ⟨rfl,(by repeat (first|with_reducible exact Below.refl _ _|with_reducible apply Below.ofAlloc))⟩
  ·skip
   have e2:wrap64 (left - f1.size - f2.size - f5.size)=left - f1.size - f2.size - f5.size:=IntWalk.wrap64_in _ (by omega)
   by_cases g2:left - f1.size - f2.size - f5.size < 0
   ·rw [zbD (by omega)]
    go_enter Tryz.func24,Tryz.ntmps24
    go_wp2
    go_ret
    exact ⟨rfl,(by repeat (first|with_reducible exact Below.refl _ _|with_reducible apply Below.ofAlloc))⟩
   ·skip
    rw [zek (by omega)]
    go_enter Tryz.func24,Tryz.ntmps24
    go_wp2
    go_ret
    exact ⟨zgA (by omega),(by repeat (first|with_reducible exact Below.refl _ _|with_reducible apply Below.ofAlloc))⟩
theorem laws_toCall (x0:Int) (x1:ByteArray) (x2:ByteArray) (x3:Int) (x4:Int) (x5:ByteArray) (w:World) :
  Calls Tryz.prog 26 #[.agg #[.int .i64 x0,.string x1,.string x2,.int .i64 x3,.int .i64 x4,.string x5]] w fun e w'=>e = .returned (.agg #[.int .i64 x0,.string x1,.string x2,.int .i64 x3,.int .i64 x4,.string x5])/\Below w.heap.size w w':=by
 go_enter Tryz.func26,Tryz.ntmps26
 go_wp2
 refine bodyPost_ret (by simp [results,Tryz.results26,go_sem];rfl) rfl ?_
 exact ⟨rfl,(by repeat (first|with_reducible exact Below.refl _ _|with_reducible apply Below.ofAlloc))⟩
def vAnswer:View AnswerD:=vRow AnswerD.row 3 AnswerD.ok (fun _=>rfl) (fun d u hu=>by simp [AnswerD.row] at hu;rcases hu with rfl|rfl|rfl<;>rfl)
theorem putS_len (xs:List ByteArray) (y:ByteArray):(zbo xs y).length<=xs.length + 1:=by
 obtain ⟨A,D,e,_,_,hp⟩:=zhf xs y
 rw [hp]
 split
 ·omega
 ·rw [e];simp;omega
end Go.Proofs.YtgcmnkkakngifaaGreatDoor
namespace Go.Proofs.YtgcmnkkakngifaaGreatDoor
open Go.RowKit
def sameL {α : Type} (p : α->α->Bool) (xs ys:List α):Bool:=decide (xs.length=ys.length) && (xs.zip ys).all fun z=>p z.1 z.2
theorem all_take_step {α : Type} (p : α->Bool) (xs:List α) (n:Nat) (h:n < xs.length):(xs.take (n + 1)).all p=((xs.take n).all p && p xs[n]):=by
 simp only [List.take_succ_eq_append_getElem h,List.all_append,List.all_cons,List.all_nil,Bool.and_true]
theorem all_take_false {α : Type} (p : α->Bool) (xs:List α) (n:Nat) (h:(xs.take n).all p=false):xs.all p=false:=by
 cases hp:xs.all p with
 | false=>rfl
 | true =>
  rw [List.all_eq_true] at hp
  have:(xs.take n).all p=true:=by
   rw [List.all_eq_true]
   exact fun x hx=>hp x (List.mem_of_mem_take hx)
  rw [this] at h
  cases h
theorem sameL_len {α : Type} {p : α->α->Bool} {xs ys:List α} (h:xs.length ≠ ys.length):sameL p xs ys=false:=by
 unfold sameL
 simp [h]
theorem sameL_all {α : Type} {p : α->α->Bool} {xs ys:List α} (h:xs.length=ys.length):sameL p xs ys=(xs.zip ys).all fun z=>p z.1 z.2:=by
 unfold sameL
 simp [h]
theorem zip_step {α : Type} (p : α->α->Bool) (xs ys:List α) (n:Nat) (h:n < xs.length) (h':n < ys.length):((xs.zip ys).take (n + 1)).all (fun z=>p z.1 z.2)=(((xs.zip ys).take n).all (fun z=>p z.1 z.2) && p xs[n] ys[n]):=by
 rw [all_take_step _ _ n (by rw [List.length_zip];omega)]
 simp
def eqAnswer (a b:AnswerD):Bool:=(a.code == b.code) && (a.n == b.n) && (a.text.toList == b.text.toList)
theorem spec_SameAnswers (v:Value) (xs:List AnswerD) (v':Value) (ys:List AnswerD) (w:World) {e e':TypeId} (hs:(vSlice vAnswer e).rd w [v] xs) (hs':(vSlice vAnswer e').rd w [v'] ys) :
  Calls Tryz.prog 45 #[v,v'] w fun e w'=>e = .returned (.bool (sameL eqAnswer xs ys))/\Below w.heap.size w w':=by
 obtain ⟨ao,cap,rfl,hc1,hc2,hnil,hcell⟩:=vSlice.shape hs
 obtain ⟨ao',cap',rfl,hc1',hc2',hnil',hcell'⟩:=vSlice.shape hs'
 have HX:=Lib.hid hcell
 have HX':=Lib.hid hcell'
 clear hcell hs hnil hcell' hs' hnil'
 unfold maxLen at hc2 hc2'
 by_cases hlen:xs.length=ys.length
 case neg =>
  rw [sameL_len hlen]
  have hne:¬ (xs.length:Int)=ys.length:=by omega
  have hnb:((xs.length:Int) == ys.length)=false:=by simp;omega
  go_enter Tryz.func45,Tryz.ntmps45
  go_wp2
  go_ret
  exact ⟨rfl,(by repeat (with_reducible exact Below.refl _ _))⟩
 have HL:=Lib.hid hlen
 have hle:ys.length<=xs.length:=by omega
 have hlb:((xs.length:Int) == ys.length)=true:=by simp;omega
 have hlc:((xs.length:Int) != ys.length)=false:=by simp;omega
 clear hlen
 go_enter Tryz.func45,Tryz.ntmps45
 go_wp2
 go_loopw [5] (fun k wr=>∃ (n:Nat),k = .int .i64 n/\n<=xs.length/\Below w.heap.size w wr/\((xs.zip ys).take n).all (fun z=>eqAnswer z.1 z.2)=true) (fun k _=>xs.length - (intOf k).toNat)
 case atStart=>exact ⟨0,rfl,by omega,(by repeat (with_reducible exact Below.refl _ _)),rfl⟩
 case round =>
  obtain ⟨n,rfl,hn,hbel,hall⟩:=hrel
  obtain ⟨X,rfl⟩:=hbel.ext
  have HA:=Lib.hid hall
  clear hall
  by_cases hlt:(n:Int) < xs.length
  case pos =>
   have hk:n < xs.length:=by omega
   have hk':n < ys.length:=by rw [<- HL.out];exact hk
   obtain ⟨b,off,csc,rfl,hblc,hrdc,hcellc⟩:=HX.out n hk
   obtain ⟨b',off',cse,rfl,hble,hrde,hcelle⟩:=HX'.out n hk'
   have hst:=zip_step eqAnswer xs ys n hk hk'
   generalize xs[n]=x at hrdc hst
   generalize ys[n]=y at hrde hst
   obtain ⟨rfl,_⟩:=hrdc
   obtain ⟨rfl,_⟩:=hrde
   have hq:eqAnswer x y=eqAnswer x y:=rfl
   conv at hq=>rhs;unfold eqAnswer
   obtain ⟨x0,x1,x2⟩:=x
   obtain ⟨y0,y1,y2⟩:=y
   simp only at hq
   have c0:=hcellc 0 _ rfl
   have c1:=hcellc 1 _ rfl
   have c2:=hcellc 2 _ rfl
   have e0:=hcelle 0 _ rfl
   have e1:=hcelle 1 _ rfl
   have e2:=hcelle 2 _ rfl
   clear hcellc hcelle
   simp only [show vAnswer.k=3 from rfl,Nat.add_zero] at c0 e0 c1 e1 c2 e2
   have HST:=Lib.hid hst
   clear hst
   by_cases f0:x0=y0
   case neg =>
    have HQ:Hid (eqAnswer ⟨x0,x1,x2⟩ ⟨y0,y1,y2⟩ = false):=by show _=false;rw [hq];simp [f0]
    clear hq
    have g0:(x0 == y0)=false:=by simp [f0]
    go_wp2
    go_quiet (fail)
    go_wp2
    go_ret
    exact ⟨by rw [sameL_all HL.out,all_take_false _ (xs.zip ys) (n + 1) (by rw [HST.out,HQ.out,Bool.and_false])];rfl,(by repeat (first|with_reducible exact Below.refl _ _|with_reducible apply Below.ofExt|with_reducible apply Below.ofDrewN))⟩
   have g0:(x0 == y0)=true:=by simp [f0]
   by_cases f1:x1=y1
   case neg =>
    have HQ:Hid (eqAnswer ⟨x0,x1,x2⟩ ⟨y0,y1,y2⟩ = false):=by show _=false;rw [hq];simp [f0,f1]
    clear hq
    have g1:(x1 == y1)=false:=by simp [f1]
    go_wp2
    go_quiet (fail)
    go_wp2
    go_ret
    exact ⟨by rw [sameL_all HL.out,all_take_false _ (xs.zip ys) (n + 1) (by rw [HST.out,HQ.out,Bool.and_false])];rfl,(by repeat (first|with_reducible exact Below.refl _ _|with_reducible apply Below.ofExt|with_reducible apply Below.ofDrewN))⟩
   have g1:(x1 == y1)=true:=by simp [f1]
   by_cases f2:x2.toList=y2.toList
   case neg =>
    have HQ:Hid (eqAnswer ⟨x0,x1,x2⟩ ⟨y0,y1,y2⟩ = false):=by show _=false;rw [hq];simp [f0,f1,f2]
    clear hq
    have g2:(x2.toList == y2.toList)=false:=by simp [f2]
    go_wp2
    go_quiet (fail)
    go_wp2
    go_ret
    exact ⟨by rw [sameL_all HL.out,all_take_false _ (xs.zip ys) (n + 1) (by rw [HST.out,HQ.out,Bool.and_false])];rfl,(by repeat (first|with_reducible exact Below.refl _ _|with_reducible apply Below.ofExt|with_reducible apply Below.ofDrewN))⟩
   have g2:(x2.toList == y2.toList)=true:=by simp [f2]
   have HQ:Hid (eqAnswer ⟨x0,x1,x2⟩ ⟨y0,y1,y2⟩ = true):=by show _=true;rw [hq];simp [f0,f1,f2]
   clear hq
   go_wp2
   go_quiet (fail)
   go_wp2
   go_roundw
   case rel=>exact ⟨n + 1,by go_num,by omega,(by repeat (first|with_reducible exact Below.refl _ _|with_reducible apply Below.ofExt)),by rw [HST.out,HA.out,HQ.out];rfl⟩
   case measure=>simp [intOf];omega
  case neg =>
   go_wp2
   go_ret
   have e:n=xs.length:=by omega
   subst e
   have ha:=HA.out
   rw [List.take_of_length_le (by rw [List.length_zip];omega)] at ha
   exact ⟨by rw [sameL_all HL.out,ha];rfl,(by repeat (first|with_reducible exact Below.refl _ _|with_reducible apply Below.ofExt))⟩
theorem answers_Equal (v:Value) (xs:List AnswerD) (v':Value) (ys:List AnswerD) (w:World) {e e':TypeId} (hs:(vSlice vAnswer e).rd w [v] xs) (hs':(vSlice vAnswer e').rd w [v'] ys) :
  Calls Tryz.prog 87 #[v,v'] w fun e w'=>e = .returned (.bool (sameL eqAnswer xs ys))/\Below w.heap.size w w':=by
 obtain ⟨ao,cap,rfl,hc1,hc2,hnil,hcell⟩:=vSlice.shape hs
 obtain ⟨ao',cap',rfl,hc1',hc2',hnil',hcell'⟩:=vSlice.shape hs'
 have HX:=Lib.hid hcell
 have HX':=Lib.hid hcell'
 clear hcell hs hnil hcell' hs' hnil'
 unfold maxLen at hc2 hc2'
 by_cases hlen:xs.length=ys.length
 case neg =>
  rw [sameL_len hlen]
  have hne:¬ (xs.length:Int)=ys.length:=by omega
  have hnb:((xs.length:Int) == ys.length)=false:=by simp;omega
  go_enter Tryz.func87,Tryz.ntmps87
  go_wp2
  go_ret
  exact ⟨rfl,(by repeat (with_reducible exact Below.refl _ _))⟩
 have HL:=Lib.hid hlen
 have hle:ys.length<=xs.length:=by omega
 have hlb:((xs.length:Int) == ys.length)=true:=by simp;omega
 have hlc:((xs.length:Int) != ys.length)=false:=by simp;omega
 clear hlen
 go_enter Tryz.func87,Tryz.ntmps87
 go_wp2
 go_loopw [13] (fun k wr=>∃ (n:Nat),k = .int .i64 n/\n<=xs.length/\Below w.heap.size w wr/\((xs.zip ys).take n).all (fun z=>eqAnswer z.1 z.2)=true) (fun k _=>xs.length - (intOf k).toNat)
 case atStart=>exact ⟨0,rfl,by omega,(by repeat (with_reducible exact Below.refl _ _)),rfl⟩
 case round =>
  obtain ⟨n,rfl,hn,hbel,hall⟩:=hrel
  obtain ⟨X,rfl⟩:=hbel.ext
  have HA:=Lib.hid hall
  clear hall
  by_cases hlt:(n:Int) < xs.length
  case pos =>
   have hk:n < xs.length:=by omega
   have hk':n < ys.length:=by rw [<- HL.out];exact hk
   obtain ⟨b,off,csc,rfl,hblc,hrdc,hcellc⟩:=HX.out n hk
   obtain ⟨b',off',cse,rfl,hble,hrde,hcelle⟩:=HX'.out n hk'
   have hst:=zip_step eqAnswer xs ys n hk hk'
   generalize xs[n]=x at hrdc hst
   generalize ys[n]=y at hrde hst
   obtain ⟨rfl,_⟩:=hrdc
   obtain ⟨rfl,_⟩:=hrde
   have hq:eqAnswer x y=eqAnswer x y:=rfl
   conv at hq=>rhs;unfold eqAnswer
   obtain ⟨x0,x1,x2⟩:=x
   obtain ⟨y0,y1,y2⟩:=y
   simp only at hq
   have c0:=hcellc 0 _ rfl
   have c1:=hcellc 1 _ rfl
   have c2:=hcellc 2 _ rfl
   have e0:=hcelle 0 _ rfl
   have e1:=hcelle 1 _ rfl
   have e2:=hcelle 2 _ rfl
   clear hcellc hcelle
   simp only [show vAnswer.k=3 from rfl,Nat.add_zero] at c0 e0 c1 e1 c2 e2
   have HST:=Lib.hid hst
   clear hst
   by_cases f0:x0=y0
   case neg =>
    have HQ:Hid (eqAnswer ⟨x0,x1,x2⟩ ⟨y0,y1,y2⟩ = false):=by show _=false;rw [hq];simp [f0]
    clear hq
    have g0:(x0 == y0)=false:=by simp [f0]
    go_wp2
    go_quiet (fail)
    go_wp2
    go_ret
    exact ⟨by rw [sameL_all HL.out,all_take_false _ (xs.zip ys) (n + 1) (by rw [HST.out,HQ.out,Bool.and_false])];rfl,(by repeat (first|with_reducible exact Below.refl _ _|with_reducible apply Below.ofExt|with_reducible apply Below.ofDrewN))⟩
   have g0:(x0 == y0)=true:=by simp [f0]
   by_cases f1:x1=y1
   case neg =>
    have HQ:Hid (eqAnswer ⟨x0,x1,x2⟩ ⟨y0,y1,y2⟩ = false):=by show _=false;rw [hq];simp [f0,f1]
    clear hq
    have g1:(x1 == y1)=false:=by simp [f1]
    go_wp2
    go_quiet (fail)
    go_wp2
    go_ret
    exact ⟨by rw [sameL_all HL.out,all_take_false _ (xs.zip ys) (n + 1) (by rw [HST.out,HQ.out,Bool.and_false])];rfl,(by repeat (first|with_reducible exact Below.refl _ _|with_reducible apply Below.ofExt|with_reducible apply Below.ofDrewN))⟩
   have g1:(x1 == y1)=true:=by simp [f1]
   by_cases f2:x2.toList=y2.toList
   case neg =>
    have HQ:Hid (eqAnswer ⟨x0,x1,x2⟩ ⟨y0,y1,y2⟩ = false):=by show _=false;rw [hq];simp [f0,f1,f2]
    clear hq
    have g2:(x2.toList == y2.toList)=false:=by simp [f2]
    go_wp2
    go_quiet (fail)
    go_wp2
    go_ret
    exact ⟨by rw [sameL_all HL.out,all_take_false _ (xs.zip ys) (n + 1) (by rw [HST.out,HQ.out,Bool.and_false])];rfl,(by repeat (first|with_reducible exact Below.refl _ _|with_reducible apply Below.ofExt|with_reducible apply Below.ofDrewN))⟩
   have g2:(x2.toList == y2.toList)=true:=by simp [f2]
   have HQ:Hid (eqAnswer ⟨x0,x1,x2⟩ ⟨y0,y1,y2⟩ = true):=by show _=true;rw [hq];simp [f0,f1,f2]
   clear hq
   go_wp2
   go_quiet (fail)
   go_wp2
   go_roundw
   case rel=>exact ⟨n + 1,by go_num,by omega,(by repeat (first|with_reducible exact Below.refl _ _|with_reducible apply Below.ofExt)),by rw [HST.out,HA.out,HQ.out];rfl⟩
   case measure=>simp [intOf];omega
  case neg =>
   go_wp2
   go_ret
   have e:n=xs.length:=by omega
   subst e
   have ha:=HA.out
   rw [List.take_of_length_le (by rw [List.length_zip];omega)] at ha
   exact ⟨by rw [sameL_all HL.out,ha];rfl,(by repeat (first|with_reducible exact Below.refl _ _|with_reducible apply Below.ofExt))⟩
theorem vStr_shape {v:Value} {xs:List ByteArray} {w:World} {e:TypeId} (h:(vSlice vStr e).rd w [v] xs):∃ ao cap,v = .slice ao xs.length cap/\xs.length<=cap/\cap<=maxLen/\(ao=none->cap=0/\xs = []) /\
  (xs ≠ []->∃ b off,ao=some ⟨b,off,none⟩/\b < w.heap.size/\∀ (i:Nat) (hi:i < xs.length),w.cell? ⟨b,off + i,none⟩ = some (Value.string xs[i]))/\∀ s ∈ xs,s.size<=9223372036854775807:=by
 obtain ⟨ao,cap,rfl,h1,h2,h3,h4⟩:=vSlice.shape h
 refine ⟨ao,cap,rfl,h1,h2,fun e=>⟨h3 e,List.eq_nil_of_length_eq_zero (by have:=h3 e;omega)⟩,fun hne=>?_,fun s hs=>?_⟩
 ·have hl : 0 < xs.length:=List.length_pos_iff.2 hne
  obtain ⟨b,off,cs,rfl,hb,_,_⟩:=h4 0 hl
  refine ⟨b,off,rfl,hb,fun i hi=>?_⟩
  obtain ⟨b',off',cs',e,_,hr,hc⟩:=h4 i hi
  simp only [Option.some.injEq,Addr.mk.injEq,and_true] at e
  obtain ⟨rfl,rfl⟩:=e
  obtain ⟨rfl,_⟩:=hr
  have:=hc 0 _ rfl
  simpa [vStr,vRow] using this
 ·obtain ⟨i,hi,rfl⟩:=List.getElem_of_mem hs
  obtain ⟨_,_,_,_,_,hr,_⟩:=h4 i hi
  exact hr.2
def eqStr (a b:ByteArray):Bool:=a.toList == b.toList
theorem spec_l03Same (v:Value) (xs:List ByteArray) (v':Value) (ys:List ByteArray) (w:World) {e e':TypeId} (hs:(vSlice vStr e).rd w [v] xs) (hs':(vSlice vStr e').rd w [v'] ys) :
  Calls Tryz.prog 101 #[v,v'] w fun e w'=>e = .returned (.bool (sameL eqStr xs ys))/\Below w.heap.size w w':=by
 obtain ⟨ao,cap,rfl,hc1,hc2,hnil,hcell,_⟩:=vStr_shape hs
 obtain ⟨ao',cap',rfl,hc1',hc2',hnil',hcell',_⟩:=vStr_shape hs'
 have HX:=Lib.hid hcell
 have HX':=Lib.hid hcell'
 clear hcell hs hnil hcell' hs' hnil'
 unfold maxLen at hc2 hc2'
 by_cases hlen:xs.length=ys.length
 case neg =>
  rw [sameL_len hlen]
  have hne:¬ (xs.length:Int)=ys.length:=by omega
  have hnb:((xs.length:Int) == ys.length)=false:=by simp;omega
  go_enter Tryz.func101,Tryz.ntmps101
  go_wp2
  go_ret
  exact ⟨rfl,(by repeat (with_reducible exact Below.refl _ _))⟩
 have HL:=Lib.hid hlen
 have hle:ys.length<=xs.length:=by omega
 have hlb:((xs.length:Int) == ys.length)=true:=by simp;omega
 have hlc:((xs.length:Int) != ys.length)=false:=by simp;omega
 clear hlen
 go_enter Tryz.func101,Tryz.ntmps101
 go_wp2
 go_loopw [5] (fun k wr=>∃ (n:Nat),k = .int .i64 n/\n<=xs.length/\Below w.heap.size w wr/\((xs.zip ys).take n).all (fun z=>eqStr z.1 z.2)=true) (fun k _=>xs.length - (intOf k).toNat)
 case atStart=>exact ⟨0,rfl,by omega,(by repeat (with_reducible exact Below.refl _ _)),rfl⟩
 case round =>
  obtain ⟨n,rfl,hn,hbel,hall⟩:=hrel
  obtain ⟨X,rfl⟩:=hbel.ext
  have HA:=Lib.hid hall
  clear hall
  by_cases hlt:(n:Int) < xs.length
  case pos =>
   have hk:n < xs.length:=by omega
   have hk':n < ys.length:=by rw [<- HL.out];exact hk
   obtain ⟨b,off,rfl,hblc,hcellc⟩:=HX.out (by intro e;simp [e] at hk)
   have c0:=hcellc n hk
   obtain ⟨b',off',rfl,hble,hcelle⟩:=HX'.out (by intro e;simp [e] at hk')
   have e0:=hcelle n hk'
   have hst:=zip_step eqStr xs ys n hk hk'
   clear hcellc hcelle
   generalize xs[n]=x at c0 hst
   generalize ys[n]=y at e0 hst
   have hq:eqStr x y=eqStr x y:=rfl
   conv at hq=>rhs;unfold eqStr
   have HST:=Lib.hid hst
   clear hst
   by_cases f0:x.toList=y.toList
   case neg =>
    have HQ:Hid (eqStr x y=false):=by show _=false;rw [hq];simp [f0]
    clear hq
    have g0:(x.toList == y.toList)=false:=by simp [f0]
    go_wp2
    go_quiet (fail)
    go_wp2
    go_ret
    exact ⟨by rw [sameL_all HL.out,all_take_false _ (xs.zip ys) (n + 1) (by rw [HST.out,HQ.out,Bool.and_false])];rfl,(by repeat (first|with_reducible exact Below.refl _ _|with_reducible apply Below.ofExt|with_reducible apply Below.ofDrewN))⟩
   have g0:(x.toList == y.toList)=true:=by simp [f0]
   have HQ:Hid (eqStr x y=true):=by show _=true;rw [hq];simp [f0]
   clear hq
   go_wp2
   go_quiet (fail)
   go_wp2
   go_roundw
   case rel=>exact ⟨n + 1,by go_num,by omega,(by repeat (first|with_reducible exact Below.refl _ _|with_reducible apply Below.ofExt)),by rw [HST.out,HA.out,HQ.out];rfl⟩
   case measure=>simp [intOf];omega
  case neg =>
   go_wp2
   go_ret
   have e:n=xs.length:=by omega
   subst e
   have ha:=HA.out
   rw [List.take_of_length_le (by rw [List.length_zip];omega)] at ha
   exact ⟨by rw [sameL_all HL.out,ha];rfl,(by repeat (first|with_reducible exact Below.refl _ _|with_reducible apply Below.ofExt))⟩
theorem strs_Equal (v:Value) (xs:List ByteArray) (v':Value) (ys:List ByteArray) (w:World) {e e':TypeId} (hs:(vSlice vStr e).rd w [v] xs) (hs':(vSlice vStr e').rd w [v'] ys) :
  Calls Tryz.prog 105 #[v,v'] w fun e w'=>e = .returned (.bool (sameL eqStr xs ys))/\Below w.heap.size w w':=by
 obtain ⟨ao,cap,rfl,hc1,hc2,hnil,hcell,_⟩:=vStr_shape hs
 obtain ⟨ao',cap',rfl,hc1',hc2',hnil',hcell',_⟩:=vStr_shape hs'
 have HX:=Lib.hid hcell
 have HX':=Lib.hid hcell'
 clear hcell hs hnil hcell' hs' hnil'
 unfold maxLen at hc2 hc2'
 by_cases hlen:xs.length=ys.length
 case neg =>
  rw [sameL_len hlen]
  have hne:¬ (xs.length:Int)=ys.length:=by omega
  have hnb:((xs.length:Int) == ys.length)=false:=by simp;omega
  go_enter Tryz.func105,Tryz.ntmps105
  go_wp2
  go_ret
  exact ⟨rfl,(by repeat (with_reducible exact Below.refl _ _))⟩
 have HL:=Lib.hid hlen
 have hle:ys.length<=xs.length:=by omega
 have hlb:((xs.length:Int) == ys.length)=true:=by simp;omega
 have hlc:((xs.length:Int) != ys.length)=false:=by simp;omega
 clear hlen
 go_enter Tryz.func105,Tryz.ntmps105
 go_wp2
 go_loopw [13] (fun k wr=>∃ (n:Nat),k = .int .i64 n/\n<=xs.length/\Below w.heap.size w wr/\((xs.zip ys).take n).all (fun z=>eqStr z.1 z.2)=true) (fun k _=>xs.length - (intOf k).toNat)
 case atStart=>exact ⟨0,rfl,by omega,(by repeat (with_reducible exact Below.refl _ _)),rfl⟩
 case round =>
  obtain ⟨n,rfl,hn,hbel,hall⟩:=hrel
  obtain ⟨X,rfl⟩:=hbel.ext
  have HA:=Lib.hid hall
  clear hall
  by_cases hlt:(n:Int) < xs.length
  case pos =>
   have hk:n < xs.length:=by omega
   have hk':n < ys.length:=by rw [<- HL.out];exact hk
   obtain ⟨b,off,rfl,hblc,hcellc⟩:=HX.out (by intro e;simp [e] at hk)
   have c0:=hcellc n hk
   obtain ⟨b',off',rfl,hble,hcelle⟩:=HX'.out (by intro e;simp [e] at hk')
   have e0:=hcelle n hk'
   have hst:=zip_step eqStr xs ys n hk hk'
   clear hcellc hcelle
   generalize xs[n]=x at c0 hst
   generalize ys[n]=y at e0 hst
   have hq:eqStr x y=eqStr x y:=rfl
   conv at hq=>rhs;unfold eqStr
   have HST:=Lib.hid hst
   clear hst
   by_cases f0:x.toList=y.toList
   case neg =>
    have HQ:Hid (eqStr x y=false):=by show _=false;rw [hq];simp [f0]
    clear hq
    have g0:(x.toList == y.toList)=false:=by simp [f0]
    go_wp2
    go_quiet (fail)
    go_wp2
    go_ret
    exact ⟨by rw [sameL_all HL.out,all_take_false _ (xs.zip ys) (n + 1) (by rw [HST.out,HQ.out,Bool.and_false])];rfl,(by repeat (first|with_reducible exact Below.refl _ _|with_reducible apply Below.ofExt|with_reducible apply Below.ofDrewN))⟩
   have g0:(x.toList == y.toList)=true:=by simp [f0]
   have HQ:Hid (eqStr x y=true):=by show _=true;rw [hq];simp [f0]
   clear hq
   go_wp2
   go_quiet (fail)
   go_wp2
   go_roundw
   case rel=>exact ⟨n + 1,by go_num,by omega,(by repeat (first|with_reducible exact Below.refl _ _|with_reducible apply Below.ofExt)),by rw [HST.out,HA.out,HQ.out];rfl⟩
   case measure=>simp [intOf];omega
  case neg =>
   go_wp2
   go_ret
   have e:n=xs.length:=by omega
   subst e
   have ha:=HA.out
   rw [List.take_of_length_le (by rw [List.length_zip];omega)] at ha
   exact ⟨by rw [sameL_all HL.out,ha];rfl,(by repeat (first|with_reducible exact Below.refl _ _|with_reducible apply Below.ofExt))⟩
def vTouch:View TouchD where
 k:=2
 rd w cs d:=∃ (s0 s1:Value),cs = [s0,s1]/\(vSlice vStr 9).rd w [s0] d.reads/\(vSlice vStr 9).rd w [s1] d.writes
 own w fp cs d:=∃ (s0 s1:Value) (f0 f1:List Nat),cs = [s0,s1]/\fp=f0 ++ f1/\(vSlice vStr 9).own w f0 [s0] d.reads/\(vSlice vStr 9).own w f1 [s1] d.writes
 len:=by rintro w cs d ⟨s0,s1,rfl,_⟩;rfl
 one:=by
  rintro w cs d ⟨s0,s1,rfl,h0,h1⟩ u hu
  simp only [List.mem_cons,List.not_mem_nil,or_false] at hu
  rcases hu with rfl|rfl
  ·exact View.one _ h0 _ (by simp)
  ·exact View.one _ h1 _ (by simp)
 grow:=by rintro w w' cs d ⟨s0,s1,rfl,h0,h1⟩ g;exact ⟨s0,s1,rfl,View.grow _ h0 g,View.grow _ h1 g⟩
 toRd:=by rintro w fp cs d ⟨s0,s1,f0,f1,rfl,rfl,h0,h1⟩;exact ⟨s0,s1,rfl,View.toRd _ h0,View.toRd _ h1⟩
 frame:=by
  rintro w w' fp cs d ⟨s0,s1,f0,f1,rfl,rfl,h0,h1⟩ g
  exact ⟨s0,s1,f0,f1,rfl,rfl,View.frame _ h0 fun b hb=>g b (by simp [hb]),View.frame _ h1 fun b hb=>g b (by simp [hb])⟩
 lt:=by
  rintro w fp cs d ⟨s0,s1,f0,f1,rfl,rfl,h0,h1⟩ b hb
  simp only [List.mem_append] at hb
  rcases hb with hb|hb
  ·exact View.lt _ h0 b hb
  ·exact View.lt _ h1 b hb
end Go.Proofs.YtgcmnkkakngifaaGreatDoor
