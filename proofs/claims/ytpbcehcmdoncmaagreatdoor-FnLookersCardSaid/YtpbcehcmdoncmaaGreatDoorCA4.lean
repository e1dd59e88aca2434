/- Texts of this claim, merged: the walks and what they stand on. Each condition stands in its theorem. -/
import Derived.Lib.AppendIntMem
import Derived.Lib.AtoiAllCases
import Derived.Lib.HexFns
import Derived.Lib.ItoaNum
import Derived.Lib.ShelfFacts
import Derived.Test.YtpbcehcmdoncmaaGreatDoorCA3
set_option linter.unusedVariables false
set_option linter.unusedSimpArgs false
set_option maxRecDepth 100000
set_option maxHeartbeats 8000000
namespace Go
theorem Sx.refl (w:World):Sx w w:=⟨⟨#[],w.drawn⟩,(zeo _ _ rfl).symm⟩
section
variable {P:Program} {ops:Array Oper} {Q:Exit->Act->World->Prop} {S:World->Prop} {n:Nat}
def zch (ops:Array Oper):Nat->Nat->Nat->Bool
 | 0,_,_=>false
 | f+1,j,i=>match ops[j]? with
  | none=>false
  | some o=>o.after.any fun e=>Region.binds .any e && (e.on==i || zch ops f e.on i)
def zfz (ops:Array Oper) (n i:Nat):Bool:=(List.range ops.size).all fun j=>decide (j<n) || zch ops ops.size j i
def ze3 (ops:Array Oper) (listed:Array Bool):Prop:=∀ k o,ops[k]?=some o->listed.getD k false=true->∀ e ∈ o.after,Region.binds .any e=true->listed.getD e.on false=true
theorem zcU {listed:Array Bool} (hc:ze3 ops listed) {i:Nat}:∀ (f j:Nat) (o:Oper),ops[j]?=some o->(∀ e ∈ o.after,Region.binds .any e=true->listed.getD e.on false=true)->zch ops f j i=true->listed.getD i false=true
 | 0,_,_,_,_,h=>by simp [zch] at h
 | f+1,j,o,ho,hd,h=>by
  simp only [zch,ho] at h
  obtain ⟨e,he,hb⟩:=Array.any_eq_true'.1 h
  simp only [Bool.and_eq_true,Bool.or_eq_true,beq_iff_eq] at hb
  obtain ⟨hb1,hb2⟩:=hb
  have hl:=hd e he hb1
  rcases hb2 with hb2|hb2
  ·rw [<- hb2];exact hl
  ·cases ho2:ops[e.on]? with
   | none =>
    cases f with
    | zero=>simp [zch] at hb2
    | succ f=>simp [zch,ho2] at hb2
   | some o2=>exact zcU hc f e.on o2 ho2 (hc e.on o2 ho2 hl) hb2
theorem zbK {listed:Array Bool} (hc:ze3 ops listed) {i:Nat} (hr:i ∈ Region.ready .any ops listed):ze3 ops (listed.setIfInBounds i true):=by
 obtain ⟨_,oi,hoi,hall⟩:=mem_ready.1 hr
 have keep:∀ k,listed.getD k false=true->(listed.setIfInBounds i true).getD k false=true:=fun k hk=>getD_set_true hk
 intro k o ho hk e he hb
 by_cases hik:i=k
 ·subst hik
  rw [hoi] at ho
  cases ho
  exact keep _ (hall e he hb)
 ·rw [getD_set_ne false hik] at hk
  exact keep _ (hc k o ho hk e he hb)
theorem zgl {i j:Nat} {o:Oper} (h:zfz ops n i=true) (hj:ops[j]?=some o) (hn:n<=j):zch ops ops.size j i=true:=by
 have hlt:j<ops.size:=(Array.getElem?_eq_some_iff.1 hj).1
 have h1:=List.all_eq_true.1 h j (List.mem_range.2 hlt)
 simp only [Bool.or_eq_true,decide_eq_true_eq] at h1
 rcases h1 with h1|h1
 ·omega
 ·exact h1
theorem zgc (ops:Array Oper) (m:Nat):ze3 ops (Array.replicate m false):=by
 intro k o _ h
 simp only [Array.getD_eq_getD_getElem?,Array.getElem?_replicate] at h
 split at h<;>simp at h
theorem zdO {i:Nat} {oi:Oper} {v:Value} (hi:ops[i]?=some oi) (hs:Region.noSelect ops=true)
  (hQ:∀ c a w,Q (.panic c) (a.put oi.dst v) w->Q (.panic c) a w) (ht:zfz ops n i=true) :
  ∀ (fuel:Nat) (listed:Array Bool) (a:Act) (w:World),ze3 ops listed ->
   (∀ j oj,ops[j]?=some oj->j ≠ i->listed.getD j true=false->(∀ e ∈ oj.after,Region.binds .any e=true->e.on ≠ i)->oi.apart ops oj=true) ->
   i ∈ Region.ready .any ops listed->YieldsQ P ops S oi v a->S w ->
   zbZ P ops Q S n fuel (listed.setIfInBounds i true) (a.put oi.dst v) w->zbZ P ops Q S n (fuel+1) listed a w:=by
 have hsel:=Region.noSelect_spec hs
 intro fuel
 induction fuel with
 | zero =>
  intro listed a w _ _ hr hy hS H
  refine ⟨fun h=>(by rw [h] at hr;cases hr),fun j hj=>?_⟩
  by_cases hji:j=i
  ·subst hji;exact hy.wpOp hi hS ⟨fun _=>hS,H⟩
  ·have:=ready_mono hj hji
   rw [H.1] at this
   cases this
 | succ fuel ih =>
  intro listed a w hcl hfree hr hy hS H
  refine ⟨fun h=>(by rw [h] at hr;cases hr),fun j hj=>?_⟩
  by_cases hji:j=i
  ·subst hji;exact hy.wpOp hi hS ⟨fun _=>hS,H⟩
  ·have h1:=H.2 j (ready_mono hj hji)
   obtain ⟨hjun,oj,hoj,hall⟩:=mem_ready.1 hj
   have hnot:∀ e ∈ oj.after,Region.binds .any e=true->e.on ≠ i:=fun e he hb heq =>
    za8 (mem_ready.1 hr).1 (heq ▸ hall e he hb)
   have hjn:j<n:=by
    rcases Nat.lt_or_ge j n with h|h
    ·exact h
    ·exact (za8 (mem_ready.1 hr).1 (zcU hcl _ j oj hoj hall (zgl ht hoj h))).elim
   have h2:=zdN hoj (hfree j oj hoj hji hjun hnot) (fun cs b=>hsel i oi cs b hi) (fun cs b=>hsel j oj cs b hoj) hQ hy h1
   have hfree':∀ k ok,ops[k]?=some ok->k ≠ i->(listed.setIfInBounds j true).getD k true=false ->
     (∀ e ∈ ok.after,Region.binds .any e=true->e.on ≠ i)->oi.apart ops ok=true:=fun k ok hk hki hun hno=>by
    refine hfree k ok hk hki ?_ hno
    by_cases hjk:j=k
    ·subst hjk;exact hjun
    ·rw [getD_set_ne true hjk] at hun;exact hun
   refine wpOp_mono (fun a' w' h3=>⟨fun _=>h3.2.1 hjn,ih (listed.setIfInBounds j true) a' w' (zbK hcl hj) hfree' (ready_mono hr (Ne.symm hji)) h3.1 (h3.2.1 hjn) ?_⟩) h2
   rw [Array.setIfInBounds_comm _ _ hji]
   exact h3.2.2
def zeX (ops:Array Oper) (n:Nat):List (Nat × Bool)->Array Bool->Bool
 | [],listed=>(Region.ready .any ops listed).isEmpty
 | (i,true) :: r,listed=>decide (i<n) && (Region.ready .any ops listed).contains i && Region.free .any ops listed i && zfz ops n i && zeX ops n r (listed.setIfInBounds i true)
 | (i,false) :: r,listed=>(decide (i<n) || r.all fun x=>decide (n<=x.1)) && (match Region.ready .any ops listed with|[j]=>j==i|_=>false) && zeX ops n r (listed.setIfInBounds i true)
theorem zce {ι : Type} {F : ι->World} (hs:Region.noSelect ops=true) (hQ:∀ c (a:Act) (d:Option Tmp) (v:Value) w,Q (.panic c) (a.put d v) w->Q (.panic c) a w) :
  ∀ (ord:List (Nat × Bool)) (listed:Array Bool) (a:Act) (w:World),ze3 ops listed->zeX ops n ord listed=true->((∃ x ∈ ord,x.1<n)->Sf F w)->zaZ P ops Q F n ord a w ->
   zbZ P ops Q (Sf F) n ord.length listed a w
 | [],listed,a,w,_,hok,_,h=>by
  simp only [zeX,List.isEmpty_iff] at hok
  exact ⟨hok,h⟩
 | (i,true) :: r,listed,a,w,hcl,hok,hS,h=>by
  simp only [zeX,Bool.and_eq_true,decide_eq_true_eq] at hok
  obtain ⟨⟨⟨⟨hin,hr⟩,hf⟩,ht⟩,hok⟩:=hok
  have hw:=hS ⟨(i,true),by simp,hin⟩
  simp only [zaZ] at h
  cases ho:ops[i]? with
  | none=>simp [ho] at h
  | some o =>
   simp only [ho] at h
   have again:=fun a' h'=>zce hs hQ r (listed.setIfInBounds i true) a' w (zbK hcl (by simpa using hr)) hok (fun _=>hw) h'
   by_cases hwt:Region.wanted o (yielded ops a.tmps)=true
   ·simp only [hwt,if_true] at h
    obtain ⟨v,hv,hk⟩:=h
    exact zdO ho hs (fun c a w=>hQ c a _ _ w) ht _ listed a w hcl (Region.free_spec ho hf) (by simpa using hr)
     (Or.inl ⟨hwt,fun w' hw'=>by obtain ⟨X,rfl⟩:=hw';exact hv X⟩) hw (again _ hk)
   ·have hwt':Region.wanted o (yielded ops a.tmps)=false:=by simpa using hwt
    simp only [hwt',Bool.false_eq_true,if_false] at h
    exact zdO ho hs (fun c a w=>hQ c a _ _ w) ht _ listed a w hcl (Region.free_spec ho hf) (by simpa using hr)
     (Or.inr ⟨hwt',rfl⟩) hw (again _ h)
 | (i,false) :: r,listed,a,w,hcl,hok,hS,h=>by
  simp only [zeX,Bool.and_eq_true,Bool.or_eq_true,decide_eq_true_eq] at hok
  obtain ⟨⟨hin,hr⟩,hok⟩:=hok
  have hr':Region.ready .any ops listed = [i]:=by
   split at hr
   ·rename_i j hj;rw [hj];simp at hr;rw [hr]
   ·cases hr
  refine ⟨fun h0=>(by rw [h0] at hr';cases hr'),fun j hj=>?_⟩
  rw [hr',List.mem_singleton] at hj
  subst hj
  simp only [zaZ] at h
  cases ho:ops[j]? with
  | none=>simp [ho] at h
  | some o =>
   simp only [ho] at h
   unfold wpOp
   simp only [ho]
   have again:=fun (a':Act) (w':World) (hw':(∃ x ∈ r,x.1<n)->Sf F w') h'=>zce (F:=F) hs hQ r (listed.setIfInBounds j true) a' w' (zbK hcl (by rw [hr'];simp)) hok hw' h'
   have later:(∃ x ∈ r,x.1<n)->j<n:=fun ⟨x,hx,hxn⟩=>by
    rcases hin with h1|h1
    ·exact h1
    ·have:=List.all_eq_true.1 h1 x hx
     simp only [decide_eq_true_eq] at this
     omega
   by_cases hwt:Region.wanted o (yielded ops a.tmps)=true
   ·simp only [hwt,if_true] at h ⊢
    exact Or.inl (Oper.wp_mono (fun a' w' h'=>⟨h'.1,again a' w' (fun hx=>h'.1 (later hx)) h'.2⟩) h)
   ·have hwt':Region.wanted o (yielded ops a.tmps)=false:=by simpa using hwt
    simp only [hwt',Bool.false_eq_true,if_false] at h ⊢
    exact ⟨fun hj=>hS ⟨(j,false),by simp,hj⟩,again _ _ (fun hx=>hS ⟨(j,false),by simp,later hx⟩) h⟩
theorem zft {ι : Type} (F : ι->World) {id:Nat} {l:List Oper} {a:Act} {w:World} (ord:List (Nat × Bool)) (n:Nat) (hm:P.follows .mixedOrders=true)
  (hok:(zeX l.toArray n ord (Array.replicate l.toArray.size false) && Region.noSelect l.toArray && ord.length==l.toArray.size)=true)
  (h0:Sf F w.drew) (h:zaZ P l.toArray (zeq Q) F n ord a w.drew):(Code.region id l.toArray true).wp P Q a w:=by
 simp only [Bool.and_eq_true,beq_iff_eq] at hok
 have h1:(Code.region id l.toArray true).wp P (zeq Q) a w:=by
  refine wp_region_any hm ?_
  rw [<- hok.2]
  exact zc4 _ _ _ _ (zce hok.1.2 (fun _ _ _ _ _ h=>h) ord _ a _ (zgc _ _) (hok.2 ▸ hok.1.1) (fun _=>h0) h)
 exact Code.wp_mono (fun e a w h=>by cases e<;>first|exact h|exact h.elim) h1
theorem zab {id:Nat} {l:List Oper} {a:Act} {w:World} (ord:List (Nat × Bool)) (n:Nat) (hm:P.follows .mixedOrders=true)
  (hok:(zeX l.toArray n ord (Array.replicate l.toArray.size false) && Region.noSelect l.toArray && ord.length==l.toArray.size)=true)
  (h:zaZ P l.toArray (zeq Q) (fun X=>w.ext X) n ord a w.drew):(Code.region id l.toArray true).wp P Q a w:=zft (fun X=>w.ext X) ord n hm hok (Sx.drew w) h
end
end Go
namespace Go.Proofs.YtpbcehcmdoncmaaGreatDoor
open Go.ChangeShapes Go.WideShapes Go.ChangeAt Go.RowKit
theorem zaM:ByteT Tryz.prog 22 5:=ByteT.of Tryz.underlying22 Tryz.underlying5 (by kernel_rfl)
def zQ (l:List UInt8):ByteArray:=⟨l.toArray⟩
theorem zS (l:List UInt8):(zQ l).size=l.length:=by unfold zQ;show l.toArray.size = _;simp
theorem zgG (l:List UInt8):(zQ l).data.toList=l:=by simp [zQ]
def zf8 (s:ByteArray):ByteArray:=if s.size<=20000 then zQ (Lib.Hx.encode s.data.toList) else ⟨#[]⟩
theorem zct (s:ByteArray):(zf8 s).size<=40000:=by
 unfold zf8
 split
 ·rw [zS,Lib.Hx.encode_length]
  have:s.data.toList.length=s.size:=by simp
  omega
 ·decide
theorem zef {x:Nat} (h:x<10):Lib.Hx.digit x=UInt8.ofNat (48+x):=by
 match x,h with
 | 0,_|1,_|2,_|3,_|4,_|5,_|6,_|7,_|8,_|9,_=>rfl
theorem digit_hi {x:Nat} (h : 10<=x) (h2:x<16):Lib.Hx.digit x=UInt8.ofNat (87+x):=by
 rcases (by omega:x=10 ∨ x=11 ∨ x=12 ∨ x=13 ∨ x=14 ∨ x=15) with rfl|rfl|rfl|rfl|rfl|rfl<;>rfl
theorem zgh (w:World) (cs:Array Value) (t:TypeId) {b:Nat} (hb:b=w.heap.size):(w.alloc (.cells cs t)).heap[b]?=some (.cells cs t (0,0)):=by
 subst hb
 exact heap_alloc_new w _
theorem zdm (x:Int) (w:World) (h0 : 0<=x) (h1:x<16) :
  Calls Tryz.prog 174 #[.int .i64 x] w fun e w'=>e=.returned (.int .u8 ((Lib.Hx.digit x.toNat).toNat:Int))/\w=w':=by
 go_enter Tryz.func174,Tryz.ntmps174
 go_wp2
 all_goals go_ret
 ·refine ⟨zkl ?_,rfl⟩
  rw [zef (by omega)]
  simp
  omega
 ·refine ⟨zkl ?_,rfl⟩
  rw [digit_hi (by omega) (by omega)]
  simp
  omega
theorem enc_snoc (l:List UInt8) (c:UInt8):Lib.Hx.encode (l ++ [c])=Lib.Hx.encode l ++ [Lib.Hx.digit (c.toNat / 16),Lib.Hx.digit (c.toNat % 16)]:=by
 simp [Lib.Hx.encode,List.flatMap_append]
theorem zfi (s:ByteArray) (w:World) (hs:s.size<=9223372036854775807) :
  Calls Tryz.prog 143 #[.string s] w fun e w'=>e=.returned (.tuple #[.string (zf8 s),.bool (decide (s.size<=20000))])/\Below w.heap.size w w':=by
 go_enter Tryz.func143,Tryz.ntmps143
 by_cases hb:(20000:Int)<s.size
 ·go_wp2
  refine bodyPost_ret (by simp [results,Tryz.results143,go_sem];rfl) rfl ?_
  refine ⟨?_,(by repeat (with_reducible exact Below.refl _ _))⟩
  unfold zf8
  rw [if_neg (by omega),decide_eq_false (by omega)]
 go_wp2
 go_loopw [4,5] (fun o k wr=>∃ (n:Nat),k=.int .i64 n/\n<=s.size/\Below w.heap.size w wr/\OwnB 5 wr w.heap.size o (Lib.Hx.encode (s.data.toList.take n))) (fun _ k _=>s.size - (intOf k).toNat)
 case atStart=>exact ⟨0,rfl,by omega,(by repeat (first|with_reducible exact Below.refl _ _|with_reducible apply Below.ofAlloc)),OwnB.empty _ _⟩
 case round =>
  obtain ⟨n,rfl,hn,hbel,ho⟩:=hrel
  obtain ⟨X,rfl⟩:=hbel.ext
  by_cases hlt:(n:Int)<s.size
  case pos =>
   have hk:n<s.size:=by omega
   have hc1:(s[n].toNat:Int)<=255:=by have:=s[n].toNat_lt;omega
   have hc0 : 0<=(s[n].toNat:Int):=by omega
   have hst:=enc_snoc (s.data.toList.take n) s[n]
   rw [<- zcO s n hk] at hst
   have htm:((s[n].toNat:Int)).tmod 16=(s[n].toNat:Int) % 16:=Int.tmod_eq_emod_of_nonneg (by omega)
   have HTM:=Hd htm
   clear htm
   have HST:=Hd hst
   have hlen:(Lib.Hx.encode (s.data.toList.take n)).length<=40000:=by rw [Lib.Hx.encode_length];simp;omega
   have HLN:=Hd hlen
   clear hst hlen
   generalize Lib.Hx.encode (s.data.toList.take n)=l at *
   obtain ⟨oa,oc,rfl⟩:=ho.form
   have HO:=Hd ho
   clear ho
   go_wp2
   refine zab [(0,true),(1,true),(2,true),(3,true),(4,true),(5,true),(7,true),(8,true),(9,true),(10,true),(11,true),(6,false),(12,false),(13,false),(14,false),(15,false)] 14 (by kernel_rfl) (by kernel_rfl) ?_
   repeat (refine zj rfl (fun K hK=>?_);go_simp;(try simp (disch:=omega) only [IntWalk.i64_in]);refine hK _ ?_;clear hK K)
   rw [HTM.out]
   refine zr rfl (fun K hK=>?_);go_simp;go_at_call 174;refine (zdm _ _ (by omega) (by omega)).mono ?_;rintro e w' ⟨rfl,rfl⟩;try go_simp;refine hK _ _ (by show Sx _ _;repeat (with_reducible exact Sx.same _ _ _ _)) ?_;clear hK K
   refine zr rfl (fun K hK=>?_);go_simp;go_at_call 174;refine (zdm _ _ (by omega) (by omega)).mono ?_;rintro e w' ⟨rfl,rfl⟩;try go_simp;refine hK _ _ (by show Sx _ _;repeat (with_reducible exact Sx.same _ _ _ _)) ?_;clear hK K
   refine zr rfl (fun K hK=>?_);go_simp;refine hK _ _ (by show Sx _ _;repeat (first|with_reducible exact Sx.same _ _ _ _|with_reducible apply Sx.alloc)) ?_;clear hK K
   refine zq rfl rfl (fun K hK=>?_)
   rw [if_pos (by rfl)]
   refine zj7 _ zaM (.tmp 16) (.tmp 29) rfl (B:=w.heap.size) (l:=l) (m:=[Lib.Hx.digit (s[n].toNat / 16),Lib.Hx.digit (s[n].toNat % 16)]) ((OwnB.same HO.out).alloc _) rfl (vx:=.slice (some ⟨w.heap.size+X.bs.size,0,none⟩) 2 2) ?_ rfl (by have:=HLN.out;simp;omega) (by simp [zl];omega) ?_
   ·refine zdK (t:=5) (f:=(0,0)) (zgh _ _ _ (by simp [zl])) (by decide)
   intro v4 w4 hown4 hgr4
   refine hK _ _ ?_
   clear hK K
   have hb4:Below w.heap.size w w4:=Below.appB (by repeat (first|with_reducible exact Below.refl _ _|with_reducible apply Below.ofExt|with_reducible apply Below.ofAlloc)) hgr4 ((OwnB.same HO.out).alloc _)
   repeat (refine zq rfl rfl (fun K hK=>?_);go_simp;refine hK _ _ ?_;clear hK K)
   refine zR ?_
   go_wp2
   go_roundw
   case rel=>exact ⟨n+1,by go_num,by omega,hb4,by rw [HST.out];exact hown4⟩
   case measure=>simp [intOf];omega
  case neg =>
   have e:n=s.size:=by omega
   subst e
   rw [List.take_of_length_le (by simp)] at ho
   have hr:=zaq (P:=Tryz.prog) (w.ext X) zaM Tryz.underlying9 ho.sl
   obtain ⟨oa,oc,rfl⟩:=ho.form
   clear ho
   go_wp2
   refine bodyPost_ret (by simp [results,Tryz.results143,go_sem];rfl) rfl ?_
   refine ⟨?_,(by repeat (first|with_reducible exact Below.refl _ _|with_reducible apply Below.ofExt))⟩
   unfold zf8
   rw [if_pos (by omega),decide_eq_true (by omega)]
   rfl
theorem zk4 (w:World) (c:UInt8) (x:Int) (hx:x=(c.toNat:Int)) (b:Nat) (hb:b=w.heap.size) :
  Sem.run Tryz.prog (convert 22 9 (.slice (some ⟨b,0,none⟩) 1 1)) (w.alloc (.cells #[.int .u8 x] 5))=.ok (.string ⟨#[c]⟩) (w.alloc (.cells #[.int .u8 x] 5)):=by
 subst hb hx
 refine run_convert_bytes_back (w:=w.alloc (.cells #[.int .u8 (c.toNat:Int)] 5)) (P:=Tryz.prog) 22 9 5 ⟨w.heap.size,0,none⟩ 1 [c] Tryz.underlying22 Tryz.underlying5 Tryz.underlying9 ?_
 intro j hj
 have:j=0:=by simpa using hj
 subst this
 show (w.alloc _).cell? ⟨w.heap.size,0,none⟩ = _
 simp [go_sem]
def ziR (m:Nat):List UInt8:=if m=0 then [] else Lib.decDigits m
theorem zgb {m:Nat} (h:m ≠ 0):ziR m=ziR (m / 10) ++ [Lib.Hx.digit (m % 10)]:=by
 unfold ziR
 rw [if_neg h,Lib.decDigits]
 split
 ·rename_i h1
  rw [if_pos (by omega),Nat.mod_eq_of_lt h1,zef h1]
  rfl
 ·rw [if_neg (by omega),zef (by omega)]
theorem dec0_len:∀ (m:Nat),(ziR m).length<=m / 2+1:=by
 intro m
 induction m using Nat.strongRecOn with
 | ind m ih =>
  by_cases h:m=0
  ·subst h;simp [ziR]
  ·rw [zgb h,List.length_append]
   by_cases h2:m<10
   ·rw [show m / 10=0 by omega]
    simp [ziR]
   ·have:=ih (m / 10) (by omega)
    simp
    omega
theorem zfq (m:Nat):(Lib.decDigits m).length<=m / 2+1:=by
 by_cases h:m=0
 ·subst h
  rw [Lib.decDigits,dif_pos (by decide)]
  simp
 ·have:=dec0_len m
  unfold ziR at this
  rwa [if_neg h] at this
theorem zc5 (c:UInt8) (l:List UInt8):(⟨#[c]⟩ : ByteArray)++zQ l=zQ (c :: l):=by
 apply ByteArray.ext
 simp [zQ,ByteArray.data_append]
theorem zkF:Lib.itoa 0 = [48]:=by
 unfold Lib.itoa
 rw [if_neg (by decide),Lib.decDigits,dif_pos (by decide)]
 rfl
theorem zbw (n:Int) (w:World) (h0 : -9223372036854775808<=n) (h1:n<=9223372036854775807) :
  Calls Tryz.prog 132 #[.int .i64 n] w fun e w'=>e=.returned (.string (zQ (Lib.itoa n)))/\Below w.heap.size w w':=by
 go_enter Tryz.func132,Tryz.ntmps132
 by_cases hz:n=0
 ·subst hz
  go_wp2
  go_ret
  refine ⟨?_,(by repeat (with_reducible exact Below.refl _ _))⟩
  rw [zkF]
  rfl
 have hzb:(n==0)=false:=by simpa using hz
 by_cases hn:n<0
 ·have hi:Lib.itoa n=45 :: Lib.decDigits n.natAbs:=by unfold Lib.itoa;rw [if_pos hn]
  obtain ⟨N,hN⟩ : ∃ N:Nat,n = -(N:Int):=⟨n.natAbs,by omega⟩
  subst hN
  rw [show (-(N:Int)).natAbs=N by omega] at hi
  have HI:=Hd hi
  clear hi
  go_wp2
  go_loopw [0,4] (fun k o wr=>∃ (m:Nat) (l:List UInt8),k=.int .i64 (-(m:Int))/\m<=9223372036854775808/\o=.string (zQ l)/\ziR m++l=Lib.decDigits N/\Below w.heap.size w wr) (fun k _ _=>(intOf k).natAbs)
  case atStart=>exact ⟨N,[],rfl,by omega,rfl,by simp [ziR];omega,(by repeat (with_reducible exact Below.refl _ _))⟩
  case round =>
   obtain ⟨m,l,rfl,hm,rfl,hd,hbel⟩:=hrel
   obtain ⟨X,rfl⟩:=hbel.ext
   have hll:(zQ l).size<=4611686018427387910:=by
    have:=zfq N
    rw [<- hd,List.length_append] at this
    rw [zS]
    omega
   have HD:=Hd hd
   clear hd
   by_cases hmz:m=0
   ·subst hmz
    rw [show (-((0:Nat):Int))=0 from rfl]
    go_wp2
    go_ret
    refine ⟨?_,(by repeat (first|with_reducible exact Below.refl _ _|with_reducible apply Below.ofExt))⟩
    have:=HD.out
    simp only [ziR,if_true,List.nil_append] at this
    rw [HI.out,<- this,<- zc5]
    rfl
   ·have hst:=zgb hmz
    have HST:=Hd hst
    clear hst
    have hrel2:ziR (m / 10)++(Lib.Hx.digit (m % 10) :: l)=Lib.decDigits N:=by
     rw [<- HD.out,HST.out,List.append_assoc]
     rfl
    have HR:=Hd hrel2
    clear hrel2
    by_cases hd0:m % 10=0
    ·have hdi:(m:Int) % 10=0:=by omega
     have hk:=zk4 (w.ext X) (Lib.Hx.digit (m % 10)) 48 (by rw [hd0];rfl) (w.heap.size+X.bs.size) (by rw [zl])
     rw [hd0] at hk HR
     go_wp2
     go_roundw
     case rel=>exact ⟨m / 10,_,by go_num,by omega,by rw [zc5],HR.out,(by repeat (first|with_reducible exact Below.refl _ _|with_reducible apply Below.ofExt|with_reducible apply Below.ofAlloc))⟩
     case measure=>simp [intOf];omega
    ·have hk:=zk4 (w.ext X) (Lib.Hx.digit (m % 10)) (48+(m:Int) % 10) (by rw [zef (by omega)];simp;omega) (w.heap.size+X.bs.size) (by rw [zl])
     have hpos : 0<(m:Int) % 10:=by omega
     have HD0:=Hd hd0
     clear hd0
     go_wp2
     go_roundw
     case rel=>exact ⟨m / 10,_,by go_num,by omega,by rw [zc5],HR.out,(by repeat (first|with_reducible exact Below.refl _ _|with_reducible apply Below.ofExt|with_reducible apply Below.ofAlloc))⟩
     case measure=>simp [intOf];omega
 ·have hi:Lib.itoa n=Lib.decDigits n.toNat:=by unfold Lib.itoa;rw [if_neg hn]
  obtain ⟨N,hN⟩ : ∃ N:Nat,n=(N:Int):=⟨n.toNat,by omega⟩
  subst hN
  rw [Int.toNat_natCast] at hi
  have HI:=Hd hi
  clear hi
  go_wp2
  go_loopw [0,4] (fun k o wr=>∃ (m:Nat) (l:List UInt8),k=.int .i64 (m:Int)/\m<=9223372036854775808/\o=.string (zQ l)/\ziR m++l=Lib.decDigits N/\Below w.heap.size w wr) (fun k _ _=>(intOf k).natAbs)
  case atStart=>exact ⟨N,[],rfl,by omega,rfl,by simp [ziR];omega,(by repeat (with_reducible exact Below.refl _ _))⟩
  case round =>
   obtain ⟨m,l,rfl,hm,rfl,hd,hbel⟩:=hrel
   obtain ⟨X,rfl⟩:=hbel.ext
   have hll:(zQ l).size<=4611686018427387910:=by
    have:=zfq N
    rw [<- hd,List.length_append] at this
    rw [zS]
    omega
   have HD:=Hd hd
   clear hd
   by_cases hmz:m=0
   ·subst hmz
    rw [show ((0:Nat):Int)=0 from rfl]
    go_wp2
    go_ret
    refine ⟨?_,(by repeat (first|with_reducible exact Below.refl _ _|with_reducible apply Below.ofExt))⟩
    have:=HD.out
    simp only [ziR,if_true,List.nil_append] at this
    rw [HI.out,<- this]
    rfl
   ·have hst:=zgb hmz
    have HST:=Hd hst
    clear hst
    have hrel2:ziR (m / 10)++(Lib.Hx.digit (m % 10) :: l)=Lib.decDigits N:=by
     rw [<- HD.out,HST.out,List.append_assoc]
     rfl
    have HR:=Hd hrel2
    clear hrel2
    have hk:=zk4 (w.ext X) (Lib.Hx.digit (m % 10)) (48+(m:Int) % 10) (by rw [zef (by omega)];simp;omega) (w.heap.size+X.bs.size) (by rw [zl])
    go_wp2
    go_roundw
    case rel=>exact ⟨m / 10,_,by go_num,by omega,by rw [zc5],HR.out,(by repeat (first|with_reducible exact Below.refl _ _|with_reducible apply Below.ofExt|with_reducible apply Below.ofAlloc))⟩
    case measure=>simp [intOf];omega
theorem zeM (w:World) (s:ByteArray) (hs:s.size<=9223372036854775807) :
  ∃ v w1,Sem.run Tryz.prog (convert 9 22 (.string s)) w=.ok v w1/\OwnB 5 w1 w.heap.size v s.data.toList/\Below w.heap.size w w1:=by
 refine ⟨_,_,run_bytes_of_string w 9 22 5 s Tryz.underlying9 Tryz.underlying22 Tryz.underlying5,OwnB.ofString 5 w s hs,?_⟩
 exact (Below.refl _ _).drew.alloc (Nat.le_refl _) _
theorem zhy (w:World) (c:UInt8) (x:Int) (hx:x=(c.toNat:Int)) (t:TypeId) (b:Nat) (hb:b=w.heap.size):Sl (w.alloc (.cells #[.int .u8 x] t)) (.slice (some ⟨b,0,none⟩) 1 1) ([c]:List UInt8).length (zG [c]):=by
 subst hx
 exact zdK (t:=t) (f:=(0,0)) (zgh _ _ _ hb) (by decide)
def bsum (l:List UInt8):Int:=l.foldl (fun n c=>(31*n+(c.toNat:Int)) % 9973) 7
theorem itoa_len (n:Int) (h0 : -9223372036854775808<=n) (h1:n<=9223372036854775807):(Lib.itoa n).length<=4611686018427387920:=by
 unfold Lib.itoa
 split
 ·have:=zfq n.natAbs
  rw [List.length_cons]
  omega
 ·have:=zfq n.toNat
  omega
theorem zkN (x a b:Int) (w:World):Calls Tryz.prog 66 #[.int .i64 x,.int .i64 a,.int .i64 b] w fun e w'=>e=.returned (.bool (inB x a b))/\w=w':=(z7 x a b w).mono fun e w' h=>⟨h.1,h.2.symm⟩
def recAdd (acc:List UInt8) (c:CellD):List UInt8:=acc++32 :: ((zf8 c.key).data.toList++61 :: (zf8 c.val).data.toList)
def recOne (acc:List UInt8) (c:CellD):Bool:=zbH c.key && (decide ((c.val.size:Int)<=60) && decide ((acc.length:Int)<=4000))
def recGo:List UInt8->List CellD->Option (List UInt8)
 | acc,[]=>some acc
 | acc,c :: cs=>if recOne acc c then recGo (recAdd acc c) cs else none
def recEnd (l:List UInt8):List UInt8:=l++32 :: 35 :: (Lib.itoa (bsum l) ++ [10])
def recText (seq:Int) (cs:List CellD):ByteArray :=
 if inB seq 1 100000 then
  match recGo (Lib.itoa seq) cs with
  | none=>⟨#[]⟩
  | some l=>if ((recEnd l).length:Int)<=4000 then zQ (recEnd l) else ⟨#[]⟩
 else ⟨#[]⟩
def zgV (s:ByteArray):List UInt8:=Lib.Hx.encode s.data.toList
theorem zik (u:Nat) (h:u<10):UInt8.ofNat (48+u) ≠ 32/\UInt8.ofNat (48+u) ≠ 61/\(UInt8.ofNat (48+u)).toNat=48+u:=by
 have hall:∀ x:Fin 10,UInt8.ofNat (48+x.val) ≠ 32/\UInt8.ofNat (48+x.val) ≠ 61/\(UInt8.ofNat (48+x.val)).toNat=48+x.val:=by decide
 exact hall ⟨u,h⟩
theorem zgM (c:UInt8):∀ (l:List UInt8) (acc u:Nat),Lib.parseUint10 acc l=.ok u->Lib.parseUint10 acc (l ++ [c])=Lib.parseUint10 u [c]
 | [],acc,u,h=>by
  simp only [Lib.parseUint10] at h
  injection h with h
  rw [h]
  rfl
 | b :: l,acc,u,h=>by
  simp only [Lib.parseUint10,List.cons_append] at h ⊢
  split at h
  ·rename_i h1
   rw [if_pos h1]
   split at h
   ·cases h
   ·rename_i h2
    rw [if_neg h2]
    split at h
    ·cases h
    ·rename_i h3
     rw [if_neg h3]
     exact zgM c l _ u h
  ·cases h
theorem zkr (u:Nat) (h:u<=1000000000):Lib.parseUint10 0 (Lib.decDigits u)=.ok u:=by
 induction u using Nat.strongRecOn with
 | _ u ih =>
  rw [Lib.decDigits]
  split
  ·rename_i h1
   have hd:=(zik u h1).2.2
   simp only [Lib.parseUint10]
   rw [hd,if_pos (by omega),if_neg (by omega),if_neg (by omega)]
   congr 1
   omega
  ·rename_i h1
   have hd:=(zik (u % 10) (by omega)).2.2
   rw [zgM _ _ _ _ (ih (u / 10) (by omega) (by omega))]
   simp only [Lib.parseUint10]
   rw [hd,if_pos (by omega),if_neg (by omega),if_neg (by omega)]
   congr 1
   omega
theorem zk1 (u:Nat):∃ c r,Lib.decDigits u=c :: r/\48<=c.toNat/\c.toNat<=57:=by
 induction u using Nat.strongRecOn with
 | _ u ih =>
  rw [Lib.decDigits]
  split
  ·rename_i h
   have hd:=(zik u h).2.2
   exact ⟨_,[],rfl,by omega,by omega⟩
  ·obtain ⟨c,r,e,h1,h2⟩:=ih (u / 10) (by omega)
   exact ⟨c,r ++ [_],by rw [e];rfl,h1,h2⟩
theorem zge (n:Int) (h0 : 0<=n) (h1:n<=1000000000):Lib.atoiAll (Lib.itoa n)=.ok n:=by
 obtain ⟨u,rfl⟩:=Int.eq_ofNat_of_zero_le h0
 unfold Lib.itoa
 rw [if_neg (by omega),Int.toNat_natCast]
 have hp:=zkr u (by omega)
 obtain ⟨c,r,e,a,b⟩:=zk1 u
 rw [e] at hp ⊢
 rw [Lib.atoiAll_plain c r (by omega) (by omega)]
 unfold Lib.parseMag
 rw [if_neg (by simp),hp]
 unfold Lib.signless
 simp only
 rw [if_neg (by omega)]
def wordL (c:CellD):List UInt8:=zgV c.key++61 :: zgV c.val
def unhexI (l:List UInt8):List UInt8:=match Lib.Hx.decode l with
 | (d,.ok)=>if d.length<=20000/\Lib.Hx.encode d=l then d else []
 | _=>[]
def numI (l:List UInt8):Int:=match Lib.atoiAll l with
 | .ok n=>if (0<=n/\n<=1000000000)/\Lib.itoa n=l then n else 0
 | _=>0
def cellI (w:List UInt8):CellD:=⟨zQ (unhexI (Lib.cut w [61]).1),zQ (unhexI (Lib.cut w [61]).2.1)⟩
theorem zaU (s:ByteArray):zQ s.data.toList=s:=by
 apply ByteArray.ext
 simp [zQ]
def seqI (ws:List (List UInt8)):Int:=numI (ws.headD [])
def listI (ws:List (List UInt8)):List CellD:=((ws.drop 1).take (ws.length - 2)).map cellI
def readI (t:ByteArray):Option (Int × List CellD) :=
 if t.size ≠ 0/\recText (seqI (zbp 32 t.data.toList)) (listI (zbp 32 t.data.toList))=t then some (seqI (zbp 32 t.data.toList),listI (zbp 32 t.data.toList)) else none
def Unh (l:List UInt8) (r:ByteArray):Prop:=∀ s:ByteArray,s.size<=20000->l=zgV s->r=s
def Num (l:List UInt8) (n:Int) (ok:Bool):Prop:=(0<=n/\n<=1000000000)/\∀ m:Int,1<=m->m<=100000->l=Lib.itoa m->n=m/\ok=true
def CellR (word:List UInt8) (c:CellD):Prop:=∀ d:CellD,d.key.size<=40->d.val.size<=60->word=wordL d->c=d
def ReadsTo (ws:List (List UInt8)) (cs:List CellD):Prop:=∃ zs:List (List UInt8 × CellD),zs.map (·.1)=ws/\zs.map (·.2)=cs/\∀ z ∈ zs,CellR z.1 z.2
theorem ReadsTo.nil:ReadsTo [] []:=⟨[],rfl,rfl,by simp⟩
theorem ReadsTo.length {ws:List (List UInt8)} {cs:List CellD} (h:ReadsTo ws cs):cs.length=ws.length:=by
 obtain ⟨zs,rfl,rfl,_⟩:=h
 simp
def zdL (c:UInt8):Int:=if 48<=(c.toNat:Int)/\(c.toNat:Int)<=57 then c.toNat - 48 else if 97<=(c.toNat:Int)/\(c.toNat:Int)<=102 then c.toNat - 97+10 else -1
theorem zgD (x:Nat) (h:x<16):zdL (Lib.Hx.digit x)=x:=by
 have hall:∀ x:Fin 16,zdL (Lib.Hx.digit x.val)=(x.val:Int):=by decide
 exact hall ⟨x,h⟩
theorem zg5 (c:UInt8) : -1<=zdL c/\zdL c<=15:=by
 unfold zdL
 split
 ·omega
 ·split
  ·omega
  ·omega
theorem zkX:∀ (l:List UInt8) (m:Nat) (h:m<l.length),(Lib.Hx.encode l)[2*m]?=some (Lib.Hx.digit (l[m].toNat / 16))/\(Lib.Hx.encode l)[2*m+1]?=some (Lib.Hx.digit (l[m].toNat % 16))
 | [],m,h=>by simp at h
 | c :: l,0,_=>by simp [Lib.Hx.encode]
 | c :: l,m+1,h=>by
  have ih:=zkX l m (by simpa using h)
  have e:Lib.Hx.encode (c :: l)=Lib.Hx.digit (c.toNat / 16) :: Lib.Hx.digit (c.toNat % 16) :: Lib.Hx.encode l:=by simp [Lib.Hx.encode]
  rw [e,show 2*(m+1)=2*m+1+1 by omega,List.getElem?_cons_succ,List.getElem?_cons_succ,List.getElem?_cons_succ,List.getElem?_cons_succ]
  simpa using ih
theorem zho (t:ByteArray):(zgV t).length=2*t.size:=by
 unfold zgV
 rw [Lib.Hx.encode_length]
 have:t.data.toList.length=t.size:=by simp
 omega
def UnhTo (L acc:List UInt8) (m:Nat):Prop:=(∀ t:ByteArray,L=zgV t->acc=t.data.toList.take m)/\Lib.Hx.encode acc=L.take (2*m)
theorem UnhTo.nil (L:List UInt8):UnhTo L [] 0:=⟨fun t _=>by simp,by simp [Lib.Hx.encode]⟩
theorem zhD (c:UInt8) (h : 0<=zdL c):Lib.Hx.digit (zdL c).toNat=c:=by
 have hall:∀ c:Fin 256,0<=zdL (UInt8.ofNat c.val)->Lib.Hx.digit (zdL (UInt8.ofNat c.val)).toNat=UInt8.ofNat c.val:=by decide
 have:=hall ⟨c.toNat,c.toNat_lt⟩
 simp only [UInt8.ofNat_toNat] at this
 exact this h
theorem unh_at {L:List UInt8} {t:ByteArray} {m:Nat} (h : 2*m+1<L.length) (e:L=zgV t):∃ hm:m<t.data.toList.length,zdL (L[2*m]'(by omega))=((t.data.toList[m].toNat / 16:Nat):Int)/\zdL L[2*m+1]=((t.data.toList[m].toNat % 16:Nat):Int):=by
 subst e
 have hm:m<t.data.toList.length:=by
  rw [zho] at h
  have:t.data.toList.length=t.size:=by simp
  omega
 have hg:=zkX t.data.toList m hm
 have hb:=t.data.toList[m].toNat_lt
 have h1:=List.getElem?_eq_getElem (l:=zgV t) (i:=2*m) (by omega)
 have h2:=List.getElem?_eq_getElem (l:=zgV t) (i:=2*m+1) h
 have e1:(zgV t)[2*m]'(by omega)=Lib.Hx.digit (t.data.toList[m].toNat / 16):=Option.some.inj (h1.symm.trans hg.1)
 have e2:(zgV t)[2*m+1]=Lib.Hx.digit (t.data.toList[m].toNat % 16):=Option.some.inj (h2.symm.trans hg.2)
 refine ⟨hm,?_,?_⟩
 ·rw [e1,zgD _ (by omega)]
 ·rw [e2,zgD _ (by omega)]
theorem UnhTo.step {L acc:List UInt8} {m:Nat} (H:UnhTo L acc m) (h : 2*m+1<L.length) {c:UInt8} (hc:(c.toNat:Int)=16*zdL (L[2*m]'(by omega))+zdL L[2*m+1]) (h1 : 0<=zdL (L[2*m]'(by omega))) (h2 : 0<=zdL L[2*m+1]):UnhTo L (acc ++ [c]) (m+1):=by
 refine ⟨?_,?_⟩
 case refine_2 =>
  have l1:=zg5 (L[2*m]'(by omega))
  have l2:=zg5 L[2*m+1]
  have d1:c.toNat / 16=(zdL (L[2*m]'(by omega))).toNat:=by omega
  have d2:c.toNat % 16=(zdL L[2*m+1]).toNat:=by omega
  have e1:Lib.Hx.encode (acc ++ [c])=Lib.Hx.encode acc ++ [Lib.Hx.digit (c.toNat / 16),Lib.Hx.digit (c.toNat % 16)]:=by simp [Lib.Hx.encode]
  rw [e1,d1,d2,zhD _ h1,zhD _ h2,H.2,show 2*(m+1)=2*m+1+1 from by omega,List.take_succ_eq_append_getElem h,List.take_succ_eq_append_getElem (by omega : 2*m<L.length),List.append_assoc]
  rfl
 intro t e
 obtain ⟨hm,e1,e2⟩:=unh_at h e
 rw [e1,e2] at hc
 rw [H.1 t e,List.take_succ_eq_append_getElem hm]
 congr 2
 apply UInt8.toNat_inj.1
 omega
theorem UnhTo.bad {L:List UInt8} {m:Nat} (h : 2*m+1<L.length) (hb:zdL (L[2*m]'(by omega))<0 ∨ zdL L[2*m+1]<0) (r:ByteArray):Unh L r:=by
 intro t _ e
 obtain ⟨hm,e1,e2⟩:=unh_at h e
 rw [e1,e2] at hb
 omega
theorem UnhTo.all {L acc:List UInt8} {m:Nat} (H:UnhTo L acc m) (h:L.length<=2*m):Unh L (zQ acc):=by
 intro t _ e
 have h2:=zho t
 rw [<- e] at h2
 have:t.data.toList.length=t.size:=by simp
 rw [H.1 t e,List.take_of_length_le (by omega),zaU]
theorem UnhTo.back {L acc:List UInt8} {m:Nat} (H:UnhTo L acc m) (h:L.length<=2*m):L=zgV (zQ acc):=by
 have:=H.2
 rw [List.take_of_length_le h] at this
 rw [<- this]
 rfl
theorem Unh.long {L:List UInt8} (h : 40000<L.length ∨ L.length % 2 ≠ 0) (r:ByteArray):Unh L r:=by
 intro t h1 e
 have:=zho t
 rw [<- e] at this
 omega
def zhB (l:List UInt8):Int:=l.foldl (fun a c=>10*a+(c.toNat - 48)) 0
def zjV (c:UInt8):Prop:=48<=c.toNat/\c.toNat<=57
theorem zhE (l:List UInt8) (c:UInt8):zhB (l ++ [c])=10*zhB l+(c.toNat - 48):=by simp [zhB,List.foldl_append]
theorem dec_val (u:Nat):zhB (Lib.decDigits u)=u/\∀ c ∈ Lib.decDigits u,zjV c:=by
 induction u using Nat.strongRecOn with
 | _ u ih =>
  rw [Lib.decDigits]
  split
  ·rename_i h
   have hd:=(zik u h).2.2
   refine ⟨?_,fun c hc=>?_⟩
   ·show 10*(0:Int)+((UInt8.ofNat (48+u)).toNat - 48)=u
    rw [hd]
    omega
   ·rw [List.mem_singleton.1 hc]
    unfold zjV
    omega
  ·rename_i h
   have hd:=(zik (u % 10) (by omega)).2.2
   obtain ⟨h1,h2⟩:=ih (u / 10) (by omega)
   refine ⟨?_,fun c hc=>?_⟩
   ·rw [zhE,h1,hd]
    omega
   ·rcases List.mem_append.1 hc with hc|hc
    ·exact h2 c hc
    ·rw [List.mem_singleton.1 hc]
     unfold zjV
     omega
theorem zk0:∀ (k u:Nat),u<10 ^ (k+1)->(Lib.decDigits u).length<=k+1
 | 0,u,h=>by
  rw [Lib.decDigits,dif_pos (by omega)]
  simp
 | k+1,u,h=>by
  rw [Lib.decDigits]
  split
  ·simp
  ·have:=zk0 k (u / 10) (by rw [Nat.pow_succ] at h;omega)
   rw [List.length_append,List.length_singleton]
   omega
theorem zdb {m:Int} (h0 : 0<=m) (h1:m<=1000000000):zhB (Lib.itoa m)=m/\(∀ c ∈ Lib.itoa m,zjV c)/\(Lib.itoa m).length<=10:=by
 unfold Lib.itoa
 rw [if_neg (by omega)]
 obtain ⟨a,b⟩:=dec_val m.toNat
 exact ⟨by rw [a];omega,b,zk0 9 _ (by omega)⟩
theorem Num.long {l:List UInt8} (h : 10<l.length):Num l 0 false:=by
 refine ⟨by omega,fun m h1 h2 e=>?_⟩
 have:=(zdb (m:=m) (by omega) (by omega)).2.2
 rw [<- e] at this
 omega
theorem Num.bad {l:List UInt8} {c:UInt8} (hc:c ∈ l) (h:¬ zjV c):Num l 0 false:=by
 refine ⟨by omega,fun m h1 h2 e=>?_⟩
 exact absurd ((zdb (m:=m) (by omega) (by omega)).2.1 c (by rw [<- e];exact hc)) h
theorem Num.good {l:List UInt8} {n:Int} (h0 : 0<=n) (h1:n<=1000000000) (h:n=zhB l):Num l n true:=by
 refine ⟨⟨h0,h1⟩,fun m a b e=>⟨?_,rfl⟩⟩
 have:=(zdb (m:=m) (by omega) (by omega)).1
 rw [h,e,this]
theorem Num.other {l:List UInt8} {n:Int} (h:n=zhB l) (h1 : 1000000000<n ∨ Lib.itoa n ≠ l):Num l 0 false:=by
 refine ⟨by omega,fun m a b e=>?_⟩
 have:=(zdb (m:=m) (by omega) (by omega)).1
 rw [<- e,<- h] at this
 subst this
 rcases h1 with h1|h1
 ·omega
 ·exact absurd e.symm h1
theorem zka:∀ (l:List UInt8) (a:Int),0<=a->(∀ c ∈ l,zjV c)->0<=l.foldl (fun (a:Int) (c:UInt8)=>10*a+(c.toNat - 48)) a/\l.foldl (fun (a:Int) (c:UInt8)=>10*a+(c.toNat - 48)) a+1<=(a+1)*10 ^ l.length
 | [],a,h,_=>by simp;omega
 | c :: l,a,h,hd=>by
  have hc:=hd c (by simp)
  unfold zjV at hc
  obtain ⟨h1,h2⟩:=zka l (10*a+(c.toNat - 48)) (by omega) (fun d hm=>hd d (List.mem_cons_of_mem _ hm))
  refine ⟨h1,Int.le_trans h2 ?_⟩
  rw [List.length_cons,Int.pow_succ,Int.mul_comm (10 ^ l.length) 10,<- Int.mul_assoc]
  refine Int.mul_le_mul_of_nonneg_right (by omega) (Int.le_of_lt (Int.pow_pos (by decide)))
theorem valD_bd (l:List UInt8) (h:∀ c ∈ l,zjV c) : 0<=zhB l/\zhB l<10 ^ l.length:=by
 have:=zka l 0 (by omega) h
 unfold zhB
 omega
theorem zjx {l:List UInt8} (h:∀ n,Lib.atoiAll l ≠ .ok n):Num l 0 false:=by
 refine ⟨by omega,fun m h1 h2 e=>?_⟩
 exact absurd (zge m (by omega) (by omega)) (by rw [<- e];exact h m)
theorem Num.atoiOk {l:List UInt8} {n:Int} (h:Lib.atoiAll l=.ok n) (h0 : 0<=n) (h1:n<=1000000000):Num l n true:=by
 refine ⟨⟨h0,h1⟩,fun m a b e=>⟨?_,rfl⟩⟩
 have:=zge m (by omega) (by omega)
 rw [<- e,h] at this
 injection this
theorem zg2 {l:List UInt8} {n:Int} (h:Lib.atoiAll l=.ok n) (h1:n<0 ∨ 1000000000<n ∨ Lib.itoa n ≠ l):Num l 0 false:=by
 refine ⟨by omega,fun m a b e=>?_⟩
 have:=zge m (by omega) (by omega)
 rw [<- e,h] at this
 injection this with this
 subst this
 rcases h1 with h1|h1|h1
 ·omega
 ·omega
 ·exact absurd e.symm h1
theorem Unh.dec {l d:List UInt8} (h:Lib.Hx.decode l=(d,.ok)):Unh l (zQ d):=by
 intro t _ e
 subst e
 unfold zgV at h
 rw [Lib.Hx.decode_encode] at h
 injection h with h
 rw [<- h,zaU]
theorem Unh.no {l d:List UInt8} {x} (h:Lib.Hx.decode l=(d,x)) (h1:x ≠ .ok ∨ 20000<d.length ∨ Lib.Hx.encode d ≠ l) (r:ByteArray):Unh l r:=by
 intro t ht e
 subst e
 unfold zgV at h
 rw [Lib.Hx.decode_encode] at h
 injection h with h h2
 subst h
 subst h2
 rcases h1 with h1|h1|h1
 ·exact absurd rfl h1
 ·have:t.data.toList.length=t.size:=by simp
  omega
 ·exact absurd rfl h1
def CutTo (c:UInt8) (L:List UInt8) (xs:List ByteArray) (b i:Nat):Prop :=
 (i<=L.length/\b<=i/\c ∉ (L.drop b).take (i - b)/\xs.map (·.data.toList)++zbp c (L.drop b)=zbp c L) ∨ (i=L.length+1/\xs.map (·.data.toList)=zbp c L)
theorem CutTo.nil (c:UInt8) (L:List UInt8):CutTo c L [] 0 0:=.inl ⟨by omega,by omega,by simp,by simp⟩
theorem CutTo.cut {c:UInt8} {L:List UInt8} {xs:List ByteArray} {b i:Nat} (h:CutTo c L xs b i) (hi:i<L.length) (hc:L[i]=c) {s:ByteArray} (hs:s.data.toList=(L.drop b).take (i - b)):CutTo c L (xs ++ [s]) (i+1) (i+1):=by
 rcases h with ⟨h1,h2,h3,h4⟩|⟨h,_⟩
 ·refine .inl ⟨by omega,by omega,by simp,?_⟩
  have e:L.drop b=(L.drop b).take (i - b)++c :: L.drop (i+1):=by
   conv=>lhs;rw [<- List.take_append_drop (i - b) (L.drop b)]
   rw [List.drop_drop,show b+(i - b)=i by omega,List.drop_eq_getElem_cons hi,hc]
  rw [e,zgH c _ _ h3] at h4
  rw [List.map_append,List.append_assoc,<- h4,<- hs]
  rfl
 ·omega
theorem CutTo.all {c:UInt8} {L:List UInt8} {xs:List ByteArray} {b i:Nat} (h:CutTo c L xs b i) (hi:L.length<i):xs.map (·.data.toList)=zbp c L:=by
 rcases h with ⟨h1,_⟩|⟨_,h⟩
 ·omega
 ·exact h
theorem CutTo.lo {c:UInt8} {L:List UInt8} {xs:List ByteArray} {b i:Nat} (h:CutTo c L xs b i) (hi:i<=L.length):b<=i:=by
 rcases h with ⟨_,h,_⟩|⟨h,_⟩
 ·exact h
 ·omega
def UnhP (s:ByteArray) (w:World) (e:Ending) (w':World):Prop:=∃ r b,e=.returned (.tuple #[.string r,.bool b])/\r.size<=20000/\Unh s.data.toList r/\Below w.heap.size w w'/\(b=true->s.data.toList=zgV r)/\(b=false->r=⟨#[]⟩/\∀ q,Unh s.data.toList q)
theorem UnhP.mk {s r:ByteArray} {w w':World} (h1:r.size<=20000) (h2:Unh s.data.toList r) (h3:Below w.heap.size w w') (h4:s.data.toList=zgV r):UnhP s w (.returned (.tuple #[.string r,.bool true])) w':=⟨r,true,rfl,h1,h2,h3,(fun _=>h4),(fun h=>by cases h)⟩
theorem UnhP.no {s:ByteArray} {w w':World} (h2:∀ q,Unh s.data.toList q) (h3:Below w.heap.size w w'):UnhP s w (.returned (.tuple #[.string ⟨#[]⟩,.bool false])) w':=⟨⟨#[]⟩,false,rfl,by decide,h2 _,h3,(fun h=>by cases h),(fun _=>⟨rfl,h2⟩)⟩
def NumP (s:ByteArray) (w:World) (e:Ending) (w':World):Prop:=∃ n b,e=.returned (.tuple #[.int .i64 n,.bool b])/\Num s.data.toList n b/\Below w.heap.size w w'/\(b=true->Lib.itoa n=s.data.toList)
theorem NumP.mk {s:ByteArray} {n:Int} {w w':World} (h2:Num s.data.toList n true) (h3:Below w.heap.size w w') (h4:Lib.itoa n=s.data.toList):NumP s w (.returned (.tuple #[.int .i64 n,.bool true])) w':=⟨n,true,rfl,h2,h3,fun _=>h4⟩
theorem NumP.no {s:ByteArray} {w w':World} (h2:Num s.data.toList 0 false) (h3:Below w.heap.size w w'):NumP s w (.returned (.tuple #[.int .i64 0,.bool false])) w':=⟨0,false,rfl,h2,h3,fun h=>by cases h⟩
def SplP (t:TypeId) (c:UInt8) (s:ByteArray) (w:World) (e:Ending) (w':World):Prop:=∃ v xs,e=.returned v/\OwnL zv t w' w.heap.size v xs/\xs.map (·.data.toList)=zbp c s.data.toList/\Below w.heap.size w w'
theorem SplP.mk {t:TypeId} {c:UInt8} {s:ByteArray} {v:Value} {xs:List ByteArray} {w w':World} (h1:OwnL zv t w' w.heap.size v xs) (h2:xs.map (·.data.toList)=zbp c s.data.toList) (h3:Below w.heap.size w w'):SplP t c s w (.returned v) w':=⟨v,xs,rfl,h1,h2,h3⟩
def Sm (cs:List CellD):Prop:=∀ c ∈ cs,c.key.size<=20000/\c.val.size<=20000
theorem Sm.nil:Sm []:=by intro c hc;cases hc
def RrOk (s:ByteArray) (n:Int) (b:Bool) (cs:List CellD):Prop:=(b=true->readI s=some (n,cs))/\(b=false->n=0/\cs = []/\readI s=none)
structure CallD where
 kind:Int
 name:ByteArray
 to:ByteArray
 a:Int
 b:Int
 text:ByteArray
def CallD.row (d:CallD):List Value:=[.int .i64 d.kind,.string d.name,.string d.to,.int .i64 d.a,.int .i64 d.b,.string d.text]
def CallD.ok (d:CallD):Prop:=d.name.size<=9223372036854775807/\d.to.size<=9223372036854775807/\d.text.size<=9223372036854775807
structure AnswerD where
 code:Int
 n:Int
 text:ByteArray
def AnswerD.row (d:AnswerD):List Value:=[.int .i64 d.code,.int .i64 d.n,.string d.text]
def AnswerD.ok (d:AnswerD):Prop:=d.text.size<=9223372036854775807
end Go.Proofs.YtpbcehcmdoncmaaGreatDoor
