/- Texts of this claim, merged: the walks and what they stand on. Each condition stands in its theorem. -/
import Derived.BigQuiet
import Derived.Deep.QuietTactic
import Derived.Laws.IdiomStrings
import Derived.Lib.AppendStr
import Derived.Lib.FrozenHead
import Derived.Lib.Hide
import Derived.OpenShut
import Derived.ProofKit
import Derived.Sort.KeysCollected
import Derived.Sort.Walk0
import Derived.Test.YtgcmnkkakngifaaGreatDoorCA1
import Derived.Test.YtgcmnkkakngifaaGreatDoorCA10
import Derived.Test.YtgcmnkkakngifaaGreatDoorCA12
import Derived.Test.YtgcmnkkakngifaaGreatDoorCA2
import Derived.Test.YtgcmnkkakngifaaGreatDoorCA3
import Derived.Test.YtgcmnkkakngifaaGreatDoorCA4
import Derived.Test.YtgcmnkkakngifaaGreatDoorRows
import Derived.WalkKit
import Derived.WalkLawsBesides
import Derived.WalkSpells
set_option linter.unusedVariables false
set_option linter.unusedSimpArgs false
set_option maxRecDepth 100000
set_option maxHeartbeats 8000000
namespace Go.Proofs.YtgcmnkkakngifaaGreatDoor
open Go.ChangeShapes Go.WideShapes Go.ChangeAt Go.RowKit
theorem Tryz.own:ownKnob Tryz.prog.godebug=none:=by kernel_rfl
theorem Tryz.laidOut:laidOutB Tryz.prog=true:=by kernel_rfl
def Yes (W:World):Ending->World->Prop:=fun e W'=>e = .returned (.bool true)/\Below W.heap.size W W'
theorem trodAll_stays {H:Type} {enc:TypeId × Value->H} {P:Program} (hl:laidOutB P=true) {W W':World} (hb:Below W.heap.size W W') :
  ∀ (ts:List TypeId) (vs:List Value) (ds:List (DataW H)) (ps:List MemPlace),(∀ t ∈ ts,P.readableRec t=true/\t < P.types.size) ->
   (∀ x ∈ ps,x.block < W.heap.size)->DataW.TrodAll enc P W 0 (fun _=>true) true ts vs ds ps ->
   DataW.TrodAll enc P W' 0 (fun b=>decide (b < W.heap.size)) true ts vs ds ps
 | [],[],[],_,_,_,h=>h
 | t :: ts,v :: vs,d :: ds,_,hr,hlt,⟨p,q,h1,h2,e⟩=>by
  subst e
  exact ⟨p,q,Below.trod hl (hr t (by simp)).1 (hr t (by simp)).2 h1 hb (fun x hx=>hlt x (by simp [hx])),
   trodAll_stays hl hb ts vs ds q (fun t ht=>hr t (by simp [ht])) (fun x hx=>hlt x (by simp [hx])) h2,rfl⟩
 | [],_ :: _,_,_,_,_,h=>h.elim
 | [],[],_ :: _,_,_,_,h=>h.elim
 | _ :: _,[],_,_,_,_,h=>h.elim
 | _ :: _,_ :: _,[],_,_,_,h=>h.elim
theorem law_post {H:Type} {enc:TypeId × Value->H} {P:Program} (hl:laidOutB P=true) {f:Func} {s:ChangeSpec} {W W':World} {args:Array Value} {ds gs:List (DataW H)} {before:List MemPlace}
  (hW:DataW.Whole enc P f.params.toList s.vars false W args.toList ds gs before) (hv:s.vars = [])
  (hr:∀ t ∈ f.params.toList,P.readableRec t=true/\t < P.types.size)
  (hres:DataW.TrodAll enc P W' W.heap.size (fun _=>false) false f.resultTypes.toList ((Value.bool true).resultList f.resultTypes.size) (s.fn H (ds ++ gs)).results [])
  (hargs:(s.fn H (ds ++ gs)).args=ds) (hvars:(s.fn H (ds ++ gs)).vars = []) (hb:Below W.heap.size W W') :
  s.post enc P f false true false false W args (.bool true) W':=by
 have hW':=hW
 obtain ⟨p,q,hA,hV,hpq,_,_⟩:=hW'
 rw [hv] at hV
 have hq:gs = []/\q = []:=by
  cases gs with
  | nil=>exact ⟨rfl,hV⟩
  | cons g gs=>exact hV.elim
 obtain ⟨rfl,rfl⟩:=hq
 simp only [List.append_nil] at hpq
 subst hpq
 refine ⟨ds,[],before,[],before,[],hW,hres,?_,?_,hb.frame _,fun h=>by cases h⟩
 ·rw [hargs]
  exact trodAll_stays hl hb _ _ _ _ hr (fun x hx=>hW.lt x hx) hA
 ·rw [hv,hvars]
  rfl
end Go.Proofs.YtgcmnkkakngifaaGreatDoor
namespace Go
open Go.RowKit
theorem Sl.lt {w:World} {v:Value} {n:Nat} {cs:List Value} (h:Sl w v n cs) (hc:cs ≠ []):∀ b,v.ownBlock=some b->b < w.heap.size:=by
 intro b hb
 rcases h with ⟨rfl,_,_⟩|⟨b',off,cap,rfl,h1,h2,h3⟩
 ·simp [Value.ownBlock] at hb
 ·simp only [Value.ownBlock,Option.some.injEq] at hb
  subst hb
  cases cs with
  | nil=>exact absurd rfl hc
  | cons u r=>exact World.block_lt_of_cell? w ⟨b',off + 0,none⟩ (h3 0 u rfl)
end Go
namespace Go
open Go.RowKit
theorem Sl.lit (w:World) (cs:Array Value) (t:TypeId) (n:Nat) (hm:n<=maxLen):Sl (w.alloc (.cells cs t)) (.slice (some ⟨w.heap.size,0,none⟩) n n) n cs.toList :=
 Sl.new w cs.toList t n hm
section
variable {P:Program}
end
end Go
namespace Go
open Go.RowKit
variable {α : Type}
section
variable {R:RowOf α} {w:World} {v:Value} {xs:List α} {e:TypeId} {B:Nat}
theorem OwnL.kept {w':World} {row:Option Nat} (h:OwnL R e w B v xs) (hg:w.grownBy w' row) (hne:v.ownBlock=none ∨ v.ownBlock ≠ row):OwnL R e w' B v xs:=World.ownsRow.kept h hg hne
theorem OwnL.lit (R:RowOf α) (w:World) (xs:List α) (n:Nat) (hn:n=xs.length) (hm:n<=maxLen) (cs:Array Value) (hcs:cs=(xs.flatMap R.row).toArray) (e:TypeId):OwnL R e (w.alloc (.cells cs e)) w.heap.size (.slice (some ⟨w.heap.size,0,none⟩) n n) xs:=by
 subst hcs hn
 have:=World.ownsRow_lit (e:=e) (size:=R.k) w (xs.flatMap R.row).toArray xs.length (base:=w.heap.size) (Nat.le_refl _) hm (by simp [R.flat_len])
 simpa [OwnL] using this
end
section
variable {P:Program}
end
/-! ### the Go types -/
theorem Got.other {p:Nat} {w w1:World} {o:Obj} (h:Got p w o w1) {b:Nat} (hb:b < w.heap.size) (hne:b ≠ p):w1.heap[b]?=w.heap[b]?:=by
 obtain ⟨X,rfl⟩:=h
 rw [World.ext_get _ _ (by rw [ze];exact hb),World.setB_get _ _ _ _ hne]
theorem RdW.shape {α : Type} {R:RowOf α} {w:World} {v:Value} {xs:List α} (h:RdW R w v xs):∃ ao cap,v = .slice ao xs.length cap/\xs.length<=cap/\cap<=maxLen/\(ao=none->cap=0/\xs = []) /\
  (xs ≠ []->∃ b off,ao=some ⟨b,off,none⟩/\(0 < R.k->b < w.heap.size)/\∀ (i:Nat) (hi:i < xs.length) (j:Nat) (u:Value),(R.row xs[i])[j]?=some u->w.cell? ⟨b,off + i * R.k + j,none⟩ = some u):=by
 rcases h with h|⟨rfl,a,rfl⟩
 ·exact h.shape
 ·exact ⟨some a,0,rfl,Nat.le_refl _,Nat.zero_le _,(fun e=>by cases e),fun e=>absurd rfl e⟩
attribute [go_sem] SpF
end Go
namespace Go
open Go.RowKit
section
variable {α β : Type} {V:View α} {w w':World} {cs:List Value} {fp:List Nat} {d : α}
theorem View.rdExt (h:V.rd w cs d) (X:Ext):V.rd (w.ext X) cs d:=V.grow h (Grew.ext w X)
theorem View.rdAlloc (h:V.rd w cs d) (o:Obj):V.rd (w.alloc o) cs d:=V.grow h (Grew.alloc w o)
end
section
variable {α : Type} {V:View α} {e:TypeId} {w:World} {v:Value} {ds:List α}
end
end Go
namespace Go
open Go.RowKit
def vInt:View Int:=vRow (fun n=>[.int .i64 n]) 1 (fun _=>True) (fun _=>rfl) (by simp [Value.oneCell'])
def vStr:View ByteArray:=vRow (fun n=>[.string n]) 1 (fun s=>s.size<=9223372036854775807) (fun _=>rfl) (by simp [Value.oneCell'])
end Go
namespace Go.Proofs.YtgcmnkkakngifaaGreatDoor
open Go.RowKit
end Go.Proofs.YtgcmnkkakngifaaGreatDoor
namespace Go
open Go.RowKit
end Go
namespace Go
open Go.RowKit
end Go
namespace Go
open Go.RowKit
theorem Sp.nil (lo hi:Nat):Sp lo hi []:=⟨List.nodup_nil,by simp,by simp⟩
theorem Sp.mono {lo hi lo' hi':Nat} {f:List Nat} (h:Sp lo hi f) (h0:lo'<=lo) (h1:hi<=hi'):Sp lo' hi' f :=
 ⟨h.nodup,fun b hb=>Nat.le_trans h0 (h.lo b hb),fun b hb=>Nat.lt_of_lt_of_le (h.hi b hb) h1⟩
theorem World.ext_get_ge (w:World) (X:Ext) {k:Nat} (h:w.heap.size<=k):(w.ext X).heap[k]?=X.bs[k - w.heap.size]?:=by
 show (w.heap ++ X.bs)[k]? = _
 rw [Array.getElem?_append_right h]
theorem tail_agree {a b:World} {A B:Array Obj} {d d':Nat} (hs:a.heap.size=b.heap.size) (hp:Pre A B) {k:Nat} (h1:a.heap.size<=k) (h2:k < (a.ext ⟨A,d⟩).heap.size):(b.ext ⟨B,d'⟩).heap[k]?=(a.ext ⟨A,d⟩).heap[k]?:=by
 obtain ⟨R,rfl⟩:=hp
 rw [World.ext_get_ge _ _ h1,World.ext_get_ge _ _ (by omega)]
 rw [zm] at h2
 simp only at h2 ⊢
 rw [Array.getElem?_append_left (by omega),hs]
structure RowsOwn {α : Type} (V:View α) (w:World) (css:List (List Value)) (fps:List (List Nat)) (ds:List α):Prop where
 cl:css.length=ds.length
 fl:fps.length=ds.length
 el:∀ i (hi:i < ds.length) (hc:i < css.length) (hf:i < fps.length),V.own w fps[i] css[i] ds[i]
theorem RowsOwn.nil {α : Type} (V:View α) (w:World):RowsOwn V w [] [] []:=⟨rfl,rfl,fun i hi=>absurd hi (by simp)⟩
theorem RowsOwn.frame {α : Type} {V:View α} {w w':World} {css:List (List Value)} {fps:List (List Nat)} {ds:List α} (h:RowsOwn V w css fps ds) (g:∀ b ∈ fps.flatten,w'.heap[b]?=w.heap[b]?):RowsOwn V w' css fps ds :=
 ⟨h.cl,h.fl,fun i hi hc hf=>V.frame (h.el i hi hc hf) fun b hb=>g b (List.mem_flatten.2 ⟨_,List.getElem_mem hf,hb⟩)⟩
theorem RowsOwn.lt {α : Type} {V:View α} {w:World} {css:List (List Value)} {fps:List (List Nat)} {ds:List α} (h:RowsOwn V w css fps ds):∀ b ∈ fps.flatten,b < w.heap.size:=by
 intro b hb
 obtain ⟨l,hl,hbl⟩:=List.mem_flatten.1 hb
 obtain ⟨i,hi,rfl⟩:=List.getElem_of_mem hl
 exact V.lt (h.el i (by have:=h.fl;omega) (by have:=h.fl;have:=h.cl;omega) hi) b hbl
theorem RowsOwn.tail {α : Type} {V:View α} {a b:World} {A B:Array Obj} {d d':Nat} {css:List (List Value)} {fps:List (List Nat)} {ds:List α} (h:RowsOwn V (a.ext ⟨A,d⟩) css fps ds) (lo:∀ k ∈ fps.flatten,a.heap.size<=k) (hs:a.heap.size=b.heap.size) (hp:Pre A B) :
  RowsOwn V (b.ext ⟨B,d'⟩) css fps ds:=h.frame fun k hk=>tail_agree hs hp (lo k hk) (h.lt k hk)
end Go
namespace Go.Proofs.YtgcmnkkakngifaaGreatDoor
open Go.ChangeShapes Go.WideShapes Go.ChangeAt Go.RowKit
theorem quietE {P:Program} {f:FuncId} {args:Array Value} {w:World} {X:Ext} {n:Nat} {v:Value} (h:Calls P f args (w.ext ⟨X.bs,X.dr + n⟩) fun e w'=>e = .returned v/\w'=w.ext ⟨X.bs,X.dr + n⟩) :
  Calls P f args (w.ext ⟨X.bs,X.dr + n⟩) fun e w''=>e = .returned v/\∃ m,w''=(w.ext X).drewN m:=h.mono fun _ _ ⟨a,b⟩=>⟨a,n,b⟩
def isOpen (a:ByteArray):Bool:=decide (1<=a.size) && ((a.extract (a.size - 1) a.size).toList == [42])
def openPre (a:ByteArray):ByteArray:=if isOpen a then a.extract 0 (a.size - 1) else a
def spanHas (s k:ByteArray):Bool:=if isOpen s then zaz k (openPre s) else (s.toList == k.toList)
theorem openPre_size (a:ByteArray):(openPre a).size<=a.size:=by
 unfold openPre
 split
 ·rw [ByteArray.size_extract];omega
 ·exact Nat.le_refl _
theorem last_is0 (a:ByteArray) (h : 0 < a.size):(a.extract (a.size - 1) a.size) = ⟨#[a[a.size - 1]]⟩:=by
 apply ByteArray.ext
 apply Array.ext_getElem?
 intro i
 rw [ByteArray.data_extract,Array.getElem?_extract]
 cases i with
 | zero =>
  have:a.size - 1 < a.data.size:=by show a.size - 1 < a.size;omega
  rw [Nat.add_zero]
  simp
  exact ⟨by omega,Array.getElem?_eq_getElem this⟩
 | succ n =>
  simp
  have e:a.data.size=a.size:=rfl
  omega
theorem last_is1 (c:UInt8):((⟨#[c]⟩ : ByteArray).toList == [42])=((c.toNat:Int) == 42):=by
 have:(⟨#[c]⟩ : ByteArray).toList = [c]:=by rw [ByteArray.toList_eq]
 rw [this]
 by_cases h:c=42
 ·subst h;rfl
 ·have:c.toNat ≠ 42:=fun e=>h (by rw [<- UInt8.toNat_inj];exact e)
  have h2:((c.toNat:Int) == 42)=false:=by simp;omega
  rw [h2]
  simp [h]
theorem last_is (a:ByteArray) (h : 0 < a.size):((a[a.size - 1].toNat:Int) == 42)=isOpen a:=by
 unfold isOpen
 have h1 : 1<=a.size:=h
 rw [last_is0 a h,last_is1]
 simp [h1]
theorem lite_HasSuffix (a:ByteArray) (w:World) (ha:a.size<=9223372036854775807):Calls Tryz.prog 264 #[.string a,.string ⟨#[42]⟩] w fun e w'=>e = .returned (.bool (isOpen a))/\w=w':=by
 by_cases h : 1<=a.size
 ·have h':(1:Int)<=a.size:=by omega
  go_enter Tryz.func264,Tryz.ntmps264
  go_wp2
  go_ret
  exact ⟨by simp [isOpen,h],rfl⟩
 ·have h':¬ (1:Int)<=a.size:=by omega
  go_enter Tryz.func264,Tryz.ntmps264
  go_wp2
  go_ret
  exact ⟨by simp [isOpen,h],rfl⟩
theorem lite_CutSuffix (a:ByteArray) (w:World) (ha:a.size<=9223372036854775807):Calls Tryz.prog 242 #[.string a,.string ⟨#[42]⟩] w fun e w'=>e = .returned (.tuple #[.string (openPre a),.bool (isOpen a)])/\w=w':=by
 cases ho:isOpen a with
 | true =>
  have h1 : 1<=a.size:=by
   unfold isOpen at ho
   simp at ho
   exact ho.1
  have h2:(1:Int)<=a.size:=by omega
  go_enter Tryz.func242,Tryz.ntmps242
  go_wp2_with fail
  (go_at_call 264;refine (lite_HasSuffix a _ ha).mono ?_;rintro e w' ⟨rfl,rfl⟩)
  rw [ho]
  go_wp2
  refine bodyPost_ret (by simp [results,Tryz.results242,go_sem];rfl) rfl ?_
  exact ⟨by simp [openPre,ho],rfl⟩
 | false =>
  go_enter Tryz.func242,Tryz.ntmps242
  go_wp2_with fail
  (go_at_call 264;refine (lite_HasSuffix a _ ha).mono ?_;rintro e w' ⟨rfl,rfl⟩)
  rw [ho]
  go_wp2
  refine bodyPost_ret (by simp [results,Tryz.results242,go_sem];rfl) rfl ?_
  exact ⟨by simp [openPre,ho],rfl⟩
theorem strings_CutSuffix (a:ByteArray) (w:World) (ha:a.size<=9223372036854775807):Calls Tryz.prog 190 #[.string a,.string ⟨#[42]⟩] w fun e w'=>e = .returned (.tuple #[.string (openPre a),.bool (isOpen a)])/\w=w':=by
 go_enter Tryz.func190,Tryz.ntmps190
 go_wp2_with fail
 (go_at_call 242;refine (lite_CutSuffix a _ ha).mono ?_;rintro e w' ⟨rfl,rfl⟩)
 go_wp2
 refine bodyPost_ret (by simp [results,Tryz.results190,go_sem];rfl) rfl ?_
 exact ⟨rfl,rfl⟩
theorem spec_l03Open (a:ByteArray) (w:World) (ha:a.size<=9223372036854775807):Calls Tryz.prog 229 #[.string a] w fun e w'=>e = .returned (.tuple #[.string (openPre a),.bool (isOpen a)])/\w=w':=by
 by_cases h : 0 < a.size
 ·have h':(0:Int) < a.size:=by omega
  have hl:=last_is a h
  cases ho:isOpen a with
  | true =>
   rw [ho] at hl
   go_enter Tryz.func229,Tryz.ntmps229
   go_wp2
   refine bodyPost_ret (by simp [results,Tryz.results229,go_sem];rfl) rfl ?_
   exact ⟨by simp [openPre,ho],rfl⟩
  | false =>
   rw [ho] at hl
   go_enter Tryz.func229,Tryz.ntmps229
   go_wp2
   refine bodyPost_ret (by simp [results,Tryz.results229,go_sem];rfl) rfl ?_
   exact ⟨by simp [openPre,ho],rfl⟩
 ·have h':¬ (0:Int) < a.size:=by omega
  have ho:isOpen a=false:=by unfold isOpen;simp;omega
  go_enter Tryz.func229,Tryz.ntmps229
  go_wp2
  refine bodyPost_ret (by simp [results,Tryz.results229,go_sem];rfl) rfl ?_
  exact ⟨by simp [openPre,ho],rfl⟩
theorem spec_SpanHas (s k:ByteArray) (w:World) (hs:s.size<=9223372036854775807) (hk:k.size<=9223372036854775807):Calls Tryz.prog 162 #[.string s,.string k] w fun e w'=>e = .returned (.bool (spanHas s k))/\w=w':=by
 cases ho:isOpen s with
 | true =>
  go_enter Tryz.func162,Tryz.ntmps162
  go_wp2_with fail
  (go_at_call 229;refine (spec_l03Open s _ hs).mono ?_;rintro e w' ⟨rfl,rfl⟩)
  rw [ho]
  go_wp2_with fail
  (go_at_call 230;refine (zfT k (openPre s) _ hk (Nat.le_trans (openPre_size s) hs)).mono ?_;rintro e w' ⟨rfl,rfl⟩)
  go_wp2
  go_ret
  exact ⟨by simp [spanHas,ho],rfl⟩
 | false =>
  have hp:openPre s=s:=by unfold openPre;rw [ho];rfl
  go_enter Tryz.func162,Tryz.ntmps162
  go_wp2_with fail
  (go_at_call 229;refine (spec_l03Open s _ hs).mono ?_;rintro e w' ⟨rfl,rfl⟩)
  rw [ho]
  go_wp2
  go_ret
  exact ⟨by simp [spanHas,ho],rfl⟩
theorem impl_SpanHas (s k:ByteArray) (w:World) (hs:s.size<=9223372036854775807) (hk:k.size<=9223372036854775807):Calls Tryz.prog 167 #[.string s,.string k] w fun e w'=>e = .returned (.bool (spanHas s k))/\w=w':=by
 cases ho:isOpen s with
 | true =>
  go_enter Tryz.func167,Tryz.ntmps167
  go_wp2_with fail
  (go_at_call 190;refine (strings_CutSuffix s _ hs).mono ?_;rintro e w' ⟨rfl,rfl⟩)
  rw [ho]
  go_wp2_with fail
  (go_at_call 234;refine (zea k (openPre s) _ hk (Nat.le_trans (openPre_size s) hs)).mono ?_;rintro e w' ⟨rfl,rfl⟩)
  go_wp2
  go_ret
  exact ⟨by simp [spanHas,ho],rfl⟩
 | false =>
  have hp:openPre s=s:=by unfold openPre;rw [ho];rfl
  go_enter Tryz.func167,Tryz.ntmps167
  go_wp2_with fail
  (go_at_call 190;refine (strings_CutSuffix s _ hs).mono ?_;rintro e w' ⟨rfl,rfl⟩)
  rw [ho]
  go_wp2
  go_ret
  exact ⟨by simp [spanHas,ho],rfl⟩
end Go.Proofs.YtgcmnkkakngifaaGreatDoor
namespace Go
open Go.ChangeShapes Go.WideShapes Go.ChangeAt Go.RowKit
section
variable {e:TypeId} {w:World} {B:Nat} {v:Value} {l:List UInt8}
theorem OwnB.base {B':Nat} (h:OwnB e w B v l) (hb:B'<=B):OwnB e w B' v l:=by
 rcases h with hn|⟨g,cap,cur,fz,hv,h1,rest⟩
 ·exact .inl hn
 ·exact .inr ⟨g,cap,cur,fz,hv,Nat.le_trans hb h1,rest⟩
theorem OwnB.rd (h:OwnB e w B v l):RdL zei w v l:=by
 unfold RdL
 have hf:=zjU l
 rw [hf]
 exact h.sl
end
section
variable {P:Program} (w:World)
end
end Go
namespace Go.Proofs.YtgcmnkkakngifaaGreatDoor
open Go.ChangeShapes Go.WideShapes Go.ChangeAt Go.RowKit
theorem ReadsTo.nil:ReadsTo [] []:=⟨[],rfl,rfl,by simp⟩
theorem CutTo.nil (c:UInt8) (L:List UInt8):CutTo c L [] 0 0:=.inl ⟨by omega,by omega,by simp,by simp⟩
theorem CutTo.all {c:UInt8} {L:List UInt8} {xs:List ByteArray} {b i:Nat} (h:CutTo c L xs b i) (hi:L.length < i):xs.map (·.data.toList)=zbk c L:=by
 rcases h with ⟨h1,_⟩|⟨_,h⟩
 ·omega
 ·exact h
theorem CutTo.lo {c:UInt8} {L:List UInt8} {xs:List ByteArray} {b i:Nat} (h:CutTo c L xs b i) (hi:i<=L.length):b<=i:=by
 rcases h with ⟨_,h,_⟩|⟨h,_⟩
 ·exact h
 ·omega
def Sm (cs:List CellD):Prop:=∀ c ∈ cs,c.key.size<=20000/\c.val.size<=20000
theorem Sm.nil:Sm []:=by intro c hc;cases hc
theorem laws_szCall (d:CallD) (left:Int) (w:World) (hok:d.ok) (h0 : 0<=left) (h1:left<=4294967296) :
  Calls Tryz.prog 24 #[.agg d.row.toArray,.int .i64 left] w fun e w'=>e = .returned (.int .i64 (zgj left d.wt))/\Below w.heap.size w w':=by
 obtain ⟨f0,f1,f2,f3,f4,f5⟩:=d
 obtain ⟨z0,z1,z2⟩:=hok
 simp only at z0 z1 z2
 simp only [CallD.row,CallD.wt]
 have e0:wrap64 (left - f1.size)=left - f1.size:=IntWalk.wrap64_in _ (by omega)
 by_cases g0:left - f1.size < 0
 ·rw [zbD (by omega)]
  go_enter Tryz.func24,Tryz.ntmps24
  go_wp2
  go_ret
  exact ⟨rfl,(by repeat (first|with_reducible exact Below.refl _ _|with_reducible apply Below.ofAlloc))⟩
 ·skip
  have e1:wrap64 (left - f1.size - f2.size)=left - f1.size - f2.size:=IntWalk.wrap64_in _ (by omega)
  by_cases g1:left - f1.size - f2.size < 0
  ·rw [zbD (by omega)]
   go_enter Tryz.func24,Tryz.ntmps24
   go_wp2
   go_ret
   exact ⟨rfl,(by repeat (first|with_reducible exact Below.refl _ _|with_reducible apply Below.ofAlloc))⟩
  ·skip
   have e2:wrap64 (left - f1.size - f2.size - f5.size)=left - f1.size - f2.size - f5.size:=IntWalk.wrap64_in _ (by omega)
   by_cases g2:left - f1.size - f2.size - f5.size < 0
   ·rw [zbD (by omega)]
    go_enter Tryz.func24,Tryz.ntmps24
    go_wp2
    go_ret
    exact ⟨rfl,(by repeat (first|with_reducible exact Below.refl _ _|with_reducible apply Below.ofAlloc))⟩
   ·skip
    rw [zek (by omega)]
    go_enter Tryz.func24,Tryz.ntmps24
    go_wp2
    go_ret
    exact ⟨zgA (by omega),(by repeat (first|with_reducible exact Below.refl _ _|with_reducible apply Below.ofAlloc))⟩
theorem laws_toCall (x0:Int) (x1:ByteArray) (x2:ByteArray) (x3:Int) (x4:Int) (x5:ByteArray) (w:World) :
  Calls Tryz.prog 26 #[.agg #[.int .i64 x0,.string x1,.string x2,.int .i64 x3,.int .i64 x4,.string x5]] w fun e w'=>e = .returned (.agg #[.int .i64 x0,.string x1,.string x2,.int .i64 x3,.int .i64 x4,.string x5])/\Below w.heap.size w w':=by
 go_enter Tryz.func26,Tryz.ntmps26
 go_wp2
 refine bodyPost_ret (by simp [results,Tryz.results26,go_sem];rfl) rfl ?_
 exact ⟨rfl,(by repeat (first|with_reducible exact Below.refl _ _|with_reducible apply Below.ofAlloc))⟩
theorem laws_eqCall (x0:Int) (x1:ByteArray) (x2:ByteArray) (x3:Int) (x4:Int) (x5:ByteArray) (w:World) :
  Calls Tryz.prog 91 #[.agg #[.int .i64 x0,.string x1,.string x2,.int .i64 x3,.int .i64 x4,.string x5],.agg #[.int .i64 x0,.string x1,.string x2,.int .i64 x3,.int .i64 x4,.string x5]] w fun e w'=>e = .returned (.bool true)/\Below w.heap.size w w':=by
 go_enter Tryz.func91,Tryz.ntmps91
 go_wp2
 go_ret
 exact ⟨rfl,(by repeat (first|with_reducible exact Below.refl _ _|with_reducible apply Below.ofAlloc))⟩
def vAnswer:View AnswerD:=vRow AnswerD.row 3 AnswerD.ok (fun _=>rfl) (fun d u hu=>by simp [AnswerD.row] at hu;rcases hu with rfl|rfl|rfl<;>rfl)
def StepD.wt (d:StepD):Nat:=d.call.wt
def vStep:View StepD:=vRow StepD.row 7 StepD.ok (fun _=>rfl) (fun d u hu=>by simp [StepD.row] at hu;rcases hu with rfl|rfl|rfl|rfl|rfl|rfl|rfl<;>rfl)
theorem Tryz.elemStepS:Elem Tryz.prog 62 103 7 80:=Elem.of (.agg #[.int .i64 0,.int .i64 0,.string ⟨#[]⟩,.string ⟨#[]⟩,.int .i64 0,.int .i64 0,.string ⟨#[]⟩]) Tryz.underlying62 (by kernel_rfl) rfl (by decide)
theorem laws_szStep (d:StepD) (left:Int) (w:World) (hok:d.ok) (h0 : 0<=left) (h1:left<=4294967296) :
  Calls Tryz.prog 73 #[.agg d.row.toArray,.int .i64 left] w fun e w'=>e = .returned (.int .i64 (zgj left d.wt))/\Below w.heap.size w w':=by
 obtain ⟨f0,⟨f1,f2,f3,f4,f5,f6⟩⟩:=d
 have hok2:CallD.ok ⟨f1,f2,f3,f4,f5,f6⟩:=hok
 clear hok
 simp only [StepD.row,StepD.wt]
 have D:=Lib.hid (fun w=>laws_szCall ⟨f1,f2,f3,f4,f5,f6⟩ left w hok2 h0 h1)
 generalize CallD.wt ⟨f1,f2,f3,f4,f5,f6⟩ = wt at D ⊢
 by_cases hg:(wt:Int)<=left
 ·have hn:¬ left - (wt:Int) < 0:=by omega
  have HG:=Lib.hid (zek hg)
  rw [zek hg]
  go_enter Tryz.func73,Tryz.ntmps73
  (skip);repeat (first|go_skip|go_guarded|go_step|go_upon|go_back)
  (go_at_call 24;refine (D.out _).mono ?_;rintro e w' ⟨rfl,hb⟩;obtain ⟨X,rfl⟩:=hb.ext;clear hb)
  rw [HG.out]
  go_wp2
  go_ret
  exact ⟨rfl,(by repeat (first|with_reducible exact Below.refl _ _|with_reducible apply Below.ofExt|with_reducible apply Below.ofAlloc))⟩
 ·have HG:=Lib.hid (zbD hg)
  rw [zbD hg]
  go_enter Tryz.func73,Tryz.ntmps73
  (skip);repeat (first|go_skip|go_guarded|go_step|go_upon|go_back)
  (go_at_call 24;refine (D.out _).mono ?_;rintro e w' ⟨rfl,hb⟩;obtain ⟨X,rfl⟩:=hb.ext;clear hb)
  rw [HG.out]
  go_wp2
  go_ret
  exact ⟨rfl,(by repeat (first|with_reducible exact Below.refl _ _|with_reducible apply Below.ofExt|with_reducible apply Below.ofAlloc))⟩
theorem laws_szStepS (v:Value) (ds:List StepD) (left:Int) (w:World) {e:TypeId} (hs:(vSlice vStep e).rd w [v] ds) (h0 : 0<=left) (h1:left<=4294967296) :
  Calls Tryz.prog 33 #[v,.int .i64 left] w fun e w'=>e = .returned (.int .i64 (zgj left (wtS StepD.wt ds)))/\Below w.heap.size w w':=by
 obtain ⟨ao,cap,rfl,hc1,hc2,hnil,hcell⟩:=vSlice.shape hs
 have HX:=Lib.hid hcell
 clear hcell hs hnil
 unfold maxLen at hc2
 have hsub:wrap64 (left - ds.length)=left - ds.length:=IntWalk.wrap64_in _ (by omega)
 by_cases hl:left - ds.length < 0
 ·rw [zbD (by unfold wtS;omega)]
  go_enter Tryz.func33,Tryz.ntmps33
  go_wp2
  go_ret
  exact ⟨rfl,(by repeat (with_reducible exact Below.refl _ _))⟩
 ·go_enter Tryz.func33,Tryz.ntmps33
  go_wp2
  go_loopw [1,5] (fun l k wr=>∃ (n:Nat) (m:Int) (X:Ext),k = .int .i64 n/\n<=ds.length/\wr=w.ext X/\l = .int .i64 m/\m + ((ds.take n).map StepD.wt).sum=left - ds.length/\0<=m) (fun _ k _=>ds.length - (intOf k).toNat)
  case atStart=>exact ⟨0,_,⟨#[],_⟩,rfl,by omega,(zbx _ _ rfl).symm,rfl,by simp,by omega⟩
  case round =>
   obtain ⟨n,m,X,rfl,hn,rfl,rfl,hsum,hm⟩:=hrel
   have HS:=Lib.hid hsum
   have hm2:m<=left:=by omega
   clear hsum
   by_cases hlt:(n:Int) < ds.length
   ·have hk:n < ds.length:=by omega
    obtain ⟨b,off,cs,rfl,hbl,hrd,hcell⟩:=HX.out n hk
    have hstep:=zgx StepD.wt ds n hk
    have hle:=zhN StepD.wt ds (n + 1)
    generalize ds[n]=d at hrd hstep
    have HT:=Lib.hid hstep
    have HL:=Lib.hid hle
    clear hstep hle
    obtain ⟨rfl,hok⟩:=hrd
    obtain ⟨x0,⟨x1,x2,x3,x4,x5,x6⟩⟩:=d
    have c0:=hcell 0 _ rfl
    have c1:=hcell 1 _ rfl
    have c2:=hcell 2 _ rfl
    have c3:=hcell 3 _ rfl
    have c4:=hcell 4 _ rfl
    have c5:=hcell 5 _ rfl
    have c6:=hcell 6 _ rfl
    clear hcell
    simp only [show vStep.k=7 from rfl,Nat.add_zero] at c0 c1 c2 c3 c4 c5 c6
    go_wp2_with fail
    (go_at_call 73;refine (laws_szStep ⟨x0,⟨x1,x2,x3,x4,x5,x6⟩⟩ m _ hok hm (by omega)).mono ?_;rintro e w' ⟨rfl,hb⟩;obtain ⟨X,rfl⟩:=hb.ext;clear hb)
    generalize StepD.wt ⟨x0,⟨x1,x2,x3,x4,x5,x6⟩⟩ = wt at HT
    by_cases hg:(wt:Int)<=m
    ·rw [zek hg]
     have hg2:¬ m - (wt:Int) < 0:=by omega
     go_wp2
     go_roundw
     case rel=>exact ⟨n + 1,m - wt,_,by go_num,by omega,rfl,rfl,by rw [HT.out];have:=HS.out;omega,by omega⟩
     case measure=>simp [intOf];omega
    ·rw [zbD hg]
     go_wp2
     go_ret
     refine ⟨?_,(by repeat (first|with_reducible exact Below.refl _ _|with_reducible apply Below.ofExt))⟩
     have:=HS.out
     have h2:=HT.out
     have h3:=HL.out
     rw [zbD (by unfold wtS;omega)]
     rfl
   ·go_wp2
    go_ret
    refine ⟨?_,(by repeat (first|with_reducible exact Below.refl _ _|with_reducible apply Below.ofExt))⟩
    have e:n=ds.length:=by omega
    subst e
    have:=HS.out
    rw [List.take_length] at this
    rw [zek (by unfold wtS;omega)]
    exact zgA (by unfold wtS;omega)
theorem laws_toStep (x0:Int) (x1:Int) (x2:ByteArray) (x3:ByteArray) (x4:Int) (x5:Int) (x6:ByteArray) (w:World) :
  Calls Tryz.prog 76 #[.agg #[.int .i64 x0,.int .i64 x1,.string x2,.string x3,.int .i64 x4,.int .i64 x5,.string x6]] w fun e w'=>e = .returned (.agg #[.int .i64 x0,.int .i64 x1,.string x2,.string x3,.int .i64 x4,.int .i64 x5,.string x6])/\Below w.heap.size w w':=by
 go_enter Tryz.func76,Tryz.ntmps76
 go_wp2_with fail
 (go_at_call 26;refine (laws_toCall x1 x2 x3 x4 x5 x6 _).mono ?_;rintro e w' ⟨rfl,hb⟩;obtain ⟨X,rfl⟩:=hb.ext;clear hb)
 go_wp2
 refine bodyPost_ret (by simp [results,Tryz.results76,go_sem];rfl) rfl ?_
 exact ⟨rfl,(by repeat (first|with_reducible exact Below.refl _ _|with_reducible apply Below.ofExt|with_reducible apply Below.ofAlloc))⟩
theorem laws_eqStep (x0:Int) (x1:Int) (x2:ByteArray) (x3:ByteArray) (x4:Int) (x5:Int) (x6:ByteArray) (w:World) :
  Calls Tryz.prog 79 #[.agg #[.int .i64 x0,.int .i64 x1,.string x2,.string x3,.int .i64 x4,.int .i64 x5,.string x6],.agg #[.int .i64 x0,.int .i64 x1,.string x2,.string x3,.int .i64 x4,.int .i64 x5,.string x6]] w fun e w'=>e = .returned (.bool true)/\Below w.heap.size w w':=by
 go_enter Tryz.func79,Tryz.ntmps79
 go_wp2_with fail
 (go_at_call 91;refine (laws_eqCall x1 x2 x3 x4 x5 x6 _).mono ?_;rintro e w' ⟨rfl,hb⟩;obtain ⟨X,rfl⟩:=hb.ext;clear hb)
 go_wp2
 go_ret
 exact ⟨rfl,(by repeat (first|with_reducible exact Below.refl _ _|with_reducible apply Below.ofExt|with_reducible apply Below.ofAlloc))⟩
theorem laws_toStepS (v:Value) (ds:List StepD) (w:World) {e:TypeId} (hs:(vSlice vStep e).rd w [v] ds) (hl:ds.length<=1048576) :
  Calls Tryz.prog 35 #[v] w (Made (vSlice vStep 103) w ds):=by
 obtain ⟨ao,cap,rfl,hc1,hc2,hnil,hcell⟩:=vSlice.shape hs
 have HX:=Lib.hid hcell
 have HOK:Hid (∀ d ∈ ds,StepD.ok d):=fun d hd=>by
  obtain ⟨i,hi,rfl⟩:=List.getElem_of_mem hd
  obtain ⟨_,_,_,_,_,h,_⟩:=hcell i hi
  exact h.2
 clear hcell hs hnil
 unfold maxLen at hc2
 obtain ⟨cs0,hsz0,hmk⟩:=Elem.make Tryz.elemStepS ds.length (by omega) (by omega)
 go_enter Tryz.func35,Tryz.ntmps35
 go_wp2
 go_loopw [4] (fun k wr=>∃ (n:Nat) (cs:Array Value) (X:Ext),k = .int .i64 n/\n<=ds.length/\wr=(w.alloc (.cells cs 103)).ext X/\cs.size=ds.length * 7/\cs.toList.take (n * 7)=(ds.take n).flatMap StepD.row) (fun k _=>ds.length - (intOf k).toNat)
 case atStart=>exact ⟨0,cs0,⟨#[],_⟩,rfl,by omega,(zbx _ _ rfl).symm,hsz0,by simp⟩
 case round =>
  obtain ⟨n,cs,X,rfl,hn,rfl,hsz,htk⟩:=hrel
  have HT:=Lib.hid htk
  have HSZ:=Lib.hid hsz
  clear htk hmk hsz0 hsz
  by_cases hlt:(n:Int) < ds.length
  ·have hk:n < ds.length:=by omega
   obtain ⟨b,off,cs',rfl,hbl,hrd,hcell⟩:=HX.out n hk
   have hfs:(ds.take (n + 1)).flatMap StepD.row=(ds.take n).flatMap StepD.row ++ StepD.row ds[n]:=by
    simp only [List.take_succ_eq_append_getElem hk,List.flatMap_append,List.flatMap_cons,List.flatMap_nil,List.append_nil]
   generalize ds[n]=d at hrd hfs
   have HF:=Lib.hid hfs
   clear hfs
   obtain ⟨rfl,hok⟩:=hrd
   obtain ⟨x0,⟨x1,x2,x3,x4,x5,x6⟩⟩:=d
   have c0:=hcell 0 _ rfl
   have c1:=hcell 1 _ rfl
   have c2:=hcell 2 _ rfl
   have c3:=hcell 3 _ rfl
   have c4:=hcell 4 _ rfl
   have c5:=hcell 5 _ rfl
   have c6:=hcell 6 _ rfl
   clear hcell
   simp only [show vStep.k=7 from rfl,Nat.add_zero] at c0 c1 c2 c3 c4 c5 c6
   have hsz2:n * 7 + 7<=cs.size:=by rw [HSZ.out];omega
   have o0:cs[n * 7]?=some cs[n * 7]:=Array.getElem?_eq_getElem (by omega)
   have o1:cs[n * 7 + 1]?=some cs[n * 7 + 1]:=Array.getElem?_eq_getElem (by omega)
   have o2:cs[n * 7 + 2]?=some cs[n * 7 + 2]:=Array.getElem?_eq_getElem (by omega)
   have o3:cs[n * 7 + 3]?=some cs[n * 7 + 3]:=Array.getElem?_eq_getElem (by omega)
   have o4:cs[n * 7 + 4]?=some cs[n * 7 + 4]:=Array.getElem?_eq_getElem (by omega)
   have o5:cs[n * 7 + 5]?=some cs[n * 7 + 5]:=Array.getElem?_eq_getElem (by omega)
   have o6:cs[n * 7 + 6]?=some cs[n * 7 + 6]:=Array.getElem?_eq_getElem (by omega)
   generalize cs[n * 7]=y0 at o0
   generalize cs[n * 7 + 1]=y1 at o1
   generalize cs[n * 7 + 2]=y2 at o2
   generalize cs[n * 7 + 3]=y3 at o3
   generalize cs[n * 7 + 4]=y4 at o4
   generalize cs[n * 7 + 5]=y5 at o5
   generalize cs[n * 7 + 6]=y6 at o6
   go_wp2_with fail
   (go_at_call 76;refine (laws_toStep x0 x1 x2 x3 x4 x5 x6 _).mono ?_;rintro e w' ⟨rfl,hb⟩;obtain ⟨X,rfl⟩:=hb.ext;clear hb)
   go_wp2
   go_roundw
   case rel =>
    have h0:=zcT (v:=.int .i64 x0) HT.out rfl rfl (by omega)
    have h1:=zcT (v:=.int .i64 x1) h0 rfl rfl (by simp;omega)
    have h2:=zcT (v:=.string x2) h1 rfl rfl (by simp;omega)
    have h3:=zcT (v:=.string x3) h2 rfl rfl (by simp;omega)
    have h4:=zcT (v:=.int .i64 x4) h3 rfl rfl (by simp;omega)
    have h5:=zcT (v:=.int .i64 x5) h4 rfl rfl (by simp;omega)
    have h6:=zcT (p:=(n + 1) * 7) (v:=.string x6) h5 rfl (by omega) (by simp;omega)
    exact ⟨n + 1,_,_,by go_num,by omega,rfl,by simpa using HSZ.out,by rw [HF.out];simpa [StepD.row] using h6⟩
   case measure=>simp [intOf];omega
  ·go_wp2
   go_ret
   have e:n=ds.length:=by omega
   subst e
   have ht:=HT.out
   rw [List.take_length] at ht
   exact ⟨_,_,rfl,vSlice.freshRow rfl (by omega) HSZ.out ht HOK.out,(by repeat (first|with_reducible exact Below.refl _ _|with_reducible apply Below.ofExt|with_reducible apply Below.ofAlloc))⟩
theorem laws_eqStepS (v v':Value) (ds:List StepD) (w:World) {e e':TypeId} (hs:(vSlice vStep e).rd w [v] ds) (hs':(vSlice vStep e').rd w [v'] ds) :
  Calls Tryz.prog 37 #[v,v'] w fun e w'=>e = .returned (.bool true)/\Below w.heap.size w w':=by
 obtain ⟨ao,cap,rfl,hc1,hc2,hnil,hcell⟩:=vSlice.shape hs
 obtain ⟨ao',cap',rfl,hc1',hc2',hnil',hcell'⟩:=vSlice.shape hs'
 have HX:=Lib.hid hcell
 have HX':=Lib.hid hcell'
 clear hcell hs hnil hcell' hs' hnil'
 unfold maxLen at hc2 hc2'
 go_enter Tryz.func37,Tryz.ntmps37
 go_wp2
 go_loopw [5] (fun k wr=>∃ (n:Nat) (X:Ext),k = .int .i64 n/\n<=ds.length/\wr=w.ext X) (fun k _=>ds.length - (intOf k).toNat)
 case atStart=>exact ⟨0,⟨#[],_⟩,rfl,by omega,(zbx _ _ rfl).symm⟩
 case round =>
  obtain ⟨n,X,rfl,hn,rfl⟩:=hrel
  by_cases hlt:(n:Int) < ds.length
  ·have hk:n < ds.length:=by omega
   obtain ⟨b,off,cs,rfl,hbl,hrd,hcell⟩:=HX.out n hk
   obtain ⟨b',off',cs',rfl,hbl',hrd',hcell'⟩:=HX'.out n hk
   generalize ds[n]=d at hrd hrd'
   obtain ⟨rfl,hok⟩:=hrd
   obtain ⟨rfl,hok'⟩:=hrd'
   obtain ⟨x0,⟨x1,x2,x3,x4,x5,x6⟩⟩:=d
   have c0:=hcell 0 _ rfl
   have c1:=hcell 1 _ rfl
   have c2:=hcell 2 _ rfl
   have c3:=hcell 3 _ rfl
   have c4:=hcell 4 _ rfl
   have c5:=hcell 5 _ rfl
   have c6:=hcell 6 _ rfl
   have e0:=hcell' 0 _ rfl
   have e1:=hcell' 1 _ rfl
   have e2:=hcell' 2 _ rfl
   have e3:=hcell' 3 _ rfl
   have e4:=hcell' 4 _ rfl
   have e5:=hcell' 5 _ rfl
   have e6:=hcell' 6 _ rfl
   clear hcell hcell'
   simp only [show vStep.k=7 from rfl,Nat.add_zero] at c0 c1 c2 c3 c4 c5 c6 e0 e1 e2 e3 e4 e5 e6
   go_wp2
   refine zgv [(0,true),(1,true),(2,true),(3,true),(4,true),(5,true),(6,true),(7,true),(8,false),(9,true)] 10 (by kernel_rfl) (by kernel_rfl) ?_
   repeat (refine zl rfl (fun K hK=>?_);go_simp;(try simp (disch:=omega) only [IntWalk.i64_in]);refine hK _ ?_;clear hK K)
   refine zt rfl (fun K hK=>?_);go_simp;go_at_call 79;refine (laws_eqStep x0 x1 x2 x3 x4 x5 x6 _).mono ?_;rintro e w' ⟨rfl,hb⟩;obtain ⟨X,rfl⟩:=hb.ext;clear hb;try go_simp;refine hK _ _ (by show Sx _ _;repeat (first|with_reducible exact Sx.same _ _ _ _|with_reducible apply Sx.more)) ?_;clear hK K
   repeat (refine zl rfl (fun K hK=>?_);go_simp;(try simp (disch:=omega) only [IntWalk.i64_in]);refine hK _ ?_;clear hK K)
   refine zae ?_
   go_wp2
   go_roundw
   case rel=>exact ⟨n + 1,_,by go_num,by omega,rfl⟩
   case measure=>simp [intOf];omega
  ·go_wp2
   go_ret
   exact ⟨rfl,(by repeat (first|with_reducible exact Below.refl _ _|with_reducible apply Below.ofExt))⟩
theorem putS_len (xs:List ByteArray) (y:ByteArray):(zbo xs y).length<=xs.length + 1:=by
 obtain ⟨A,D,e,_,_,hp⟩:=zhf xs y
 rw [hp]
 split
 ·omega
 ·rw [e];simp;omega
end Go.Proofs.YtgcmnkkakngifaaGreatDoor
namespace Go.Proofs.YtgcmnkkakngifaaGreatDoor
open Go.RowKit
def sameL {α : Type} (p : α->α->Bool) (xs ys:List α):Bool:=decide (xs.length=ys.length) && (xs.zip ys).all fun z=>p z.1 z.2
theorem all_take_step {α : Type} (p : α->Bool) (xs:List α) (n:Nat) (h:n < xs.length):(xs.take (n + 1)).all p=((xs.take n).all p && p xs[n]):=by
 simp only [List.take_succ_eq_append_getElem h,List.all_append,List.all_cons,List.all_nil,Bool.and_true]
theorem all_take_false {α : Type} (p : α->Bool) (xs:List α) (n:Nat) (h:(xs.take n).all p=false):xs.all p=false:=by
 cases hp:xs.all p with
 | false=>rfl
 | true =>
  rw [List.all_eq_true] at hp
  have:(xs.take n).all p=true:=by
   rw [List.all_eq_true]
   exact fun x hx=>hp x (List.mem_of_mem_take hx)
  rw [this] at h
  cases h
theorem sameL_len {α : Type} {p : α->α->Bool} {xs ys:List α} (h:xs.length ≠ ys.length):sameL p xs ys=false:=by
 unfold sameL
 simp [h]
theorem sameL_all {α : Type} {p : α->α->Bool} {xs ys:List α} (h:xs.length=ys.length):sameL p xs ys=(xs.zip ys).all fun z=>p z.1 z.2:=by
 unfold sameL
 simp [h]
theorem zip_step {α : Type} (p : α->α->Bool) (xs ys:List α) (n:Nat) (h:n < xs.length) (h':n < ys.length):((xs.zip ys).take (n + 1)).all (fun z=>p z.1 z.2)=(((xs.zip ys).take n).all (fun z=>p z.1 z.2) && p xs[n] ys[n]):=by
 rw [all_take_step _ _ n (by rw [List.length_zip];omega)]
 simp
end Go.Proofs.YtgcmnkkakngifaaGreatDoor
