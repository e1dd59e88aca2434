/- Texts of this claim, merged: the walks and what they stand on. Each condition stands in its theorem. -/
import Derived.Lib.ItoaLen
import Derived.Test.YtpnoehpmgflibaaGreatDoorCA9
set_option linter.unusedVariables false
set_option linter.unusedSimpArgs false
set_option maxRecDepth 100000
set_option maxHeartbeats 8000000
namespace Go.Proofs.YtpnoehpmgflibaaGreatDoor
open Go.ChangeShapes Go.WideShapes Go.ChangeAt Go.RowKit
def Lft {α : Type} (p:Mp α) (m:MachD) (r : α × MachD):Prop:=p.fits m/\p.run m=r
theorem Lft.step {α β : Type} {x:Mp α} {k : α->Mp β} {m:MachD} {r : β × MachD} (h:Lft (x >>= k) m r):x.fits m/\Lft (k (x.run m).1) (x.run m).2 r:=by
 have h1:=(Mp.fits_bind x k m).1 h.1
 exact ⟨h1.1,h1.2,by rw [<- Mp.run_bind];exact h.2⟩
theorem Lft.ite {α : Type} {c:Prop} [Decidable c] {x y:Mp α} {m:MachD} {r : α × MachD} (h:Lft (if c then x else y) m r):(c/\Lft x m r) ∨ (¬ c/\Lft y m r):=by
 by_cases hc:c
 ·rw [if_pos hc] at h;exact .inl ⟨hc,h⟩
 ·rw [if_neg hc] at h;exact .inr ⟨hc,h⟩
theorem Lft.end {α : Type} {a : α} {m:MachD} {res : α} {mres:MachD} (h:Lft (pure a:Mp α) m (res,mres)):res=a/\mres=m:=by
 have:=h.2
 exact ⟨(congrArg Prod.fst this).symm,(congrArg Prod.snd this).symm⟩
theorem Mp.bind_pure {α : Type} (x:Mp α):(x >>= pure)=x:=by
 show Mp.bind x Mp.ret=x
 induction x with
 | ret a=>rfl
 | look k f ih=>simp only [Mp.bind,ih]
 | lay k v n ih=>simp only [Mp.bind,ih]
 | under p f ih=>simp only [Mp.bind,ih]
theorem zam {α β γ : Type} (x:Mp α) (f : α->Mp β) (g : β->Mp γ):((x >>= f) >>= g)=(x >>= fun a=>f a >>= g):=by
 show Mp.bind (Mp.bind x f) g=Mp.bind x fun a=>Mp.bind (f a) g
 induction x with
 | ret a=>rfl
 | look k f ih=>simp only [Mp.bind,ih]
 | lay k v n ih=>simp only [Mp.bind,ih]
 | under p f ih=>simp only [Mp.bind,ih]
theorem zar {α β : Type} (a : α) (f : α->Mp β):((pure a:Mp α) >>= f)=f a:=rfl
theorem zc9 {α β : Type} (c:Prop) [Decidable c] (x y:Mp α) (f : α->Mp β):((if c then x else y) >>= f)=if c then x >>= f else y >>= f:=by split<;>rfl
theorem Lft.last {α : Type} {x:Mp α} {m:MachD} {r : α × MachD} (h:Lft x m r):Lft (x >>= pure) m r:=by rw [Mp.bind_pure];exact h
theorem SC.use {α β : Type} {f:FuncId} {args:Value->Array Value} {p:Mp α} {ret:Value->α->Value} (h:SC f args p ret) (S : α->Prop) (hS:∀ m,p.fits m->S (p.run m).1) {k : α->Mp β} {w:World} {v:Value} {m:MachD} {r : β × MachD} (L:Lft (p >>= k) m r) (hm:MRd w v m) :
  Calls Tryz.prog f (args v) w fun e w'=>∃ v' a m1,e=.returned (ret v' a)/\S a/\MRd w' v' m1/\Below w.heap.size w w'/\Lft (k a) m1 r:=by
 refine (h w v m hm L.step.1).mono ?_
 rintro e w' ⟨v',rfl,hm',hb⟩
 exact ⟨v',_,_,rfl,hS m L.step.1,hm',hb,L.step.2⟩
theorem SC.use2 {α γ β : Type} {f:FuncId} {args:Value->Array Value} {p:Mp (α × γ)} {ret:Value->α × γ->Value} (h:SC f args p ret) (S : α × γ->Prop) (hS:∀ m,p.fits m->S (p.run m).1) {k : α × γ->Mp β} {w:World} {v:Value} {m:MachD} {r : β × MachD} (L:Lft (p >>= k) m r) (hm:MRd w v m) :
  Calls Tryz.prog f (args v) w fun e w'=>∃ v' a b m1,e=.returned (ret v' (a,b))/\S (a,b)/\MRd w' v' m1/\Below w.heap.size w w'/\Lft (k (a,b)) m1 r:=by
 refine (h w v m hm L.step.1).mono ?_
 rintro e w' ⟨v',rfl,hm',hb⟩
 exact ⟨v',_,_,_,rfl,hS m L.step.1,hm',hb,L.step.2⟩
theorem zeq {α : Type} {f:FuncId} {args:Value->Array Value} {p:Mp α} {ret:Value->α->Value}
  (h : ∀ (w : World) (m : MachD) (a0 : Option Addr) (c0 : Nat) (a1 : Option Addr) (c1 : Nat) (a2 : Option Addr) (c2 : Nat) (res : α) (mres : MachD), Hid (RdL zu w (.slice a0 m.cells.length c0) m.cells) -> Hid (RdL zx w (.slice a1 m.rd.length c1) m.rd) -> Hid (RdL zx w (.slice a2 m.wr.length c2) m.wr) -> Hid (Lft p m (res, mres)) ->
   Calls Tryz.prog f (args (.agg #[.slice a0 m.cells.length c0,.slice a1 m.rd.length c1,.slice a2 m.wr.length c2])) w fun e w'=>∃ v',e=.returned (ret v' res)/\SS w w' v' mres):SC f args p ret :=
 SCmk fun w m a0 c0 a1 c1 a2 c2 H0 H1 H2 hf=>h w m a0 c0 a1 c1 a2 c2 _ _ H0 H1 H2 ⟨hf,rfl⟩
theorem zV (w:World) (o r:Obj) (h:Below w.heap.size w ((w.alloc o).alloc r)):Below w.heap.size w ((w.alloc o).alloc r)/\((w.alloc o).alloc r).heap[w.heap.size]?=some o/\((w.alloc o).alloc r).heap[w.heap.size+1]?=some r:=⟨h,(zaq w o r w.heap.size rfl).1,(zaq w o r w.heap.size rfl).2⟩
theorem opqC {P:Program} {f:FuncId} {args:Array Value} {Q:Ending->World->Prop} {W:World} (S:World->Prop) (h:S W) (H:∀ W0,S W0->Calls P f args W0 Q):Calls P f args W Q:=H W h
theorem zy {ι : Type} {P:Program} {ops:Array Oper} {Q:Exit->Act->World->Prop} {F : ι->World} {n:Nat} {a:Act} {w:World} (S:World->Prop) (h:S w) (H:∀ W0,S W0->Q .normal a W0):zaY P ops (zbX Q) F n [] a w:=zQ (H w h)
theorem wpOrd_nilT {ι : Type} {P:Program} {ops:Array Oper} {Q:Exit → Act → World → Prop} {F : ι → World} {n:Nat} {a:Act} {W:World} (w:World) (m2:MachD) (f0:Option Addr) (g0:Nat) (f1:Option Addr) (g1:Nat) (f2:Option Addr) (g2:Nat) {o1 o2:Obj} (h:Below w.heap.size w W ∧ W.heap[w.heap.size]?=some o1 ∧ W.heap[w.heap.size+1]?=some o2 ∧ RdL zu W (.slice f0 m2.cells.length g0) m2.cells ∧ RdL zx W (.slice f1 m2.rd.length g1) m2.rd ∧ RdL zx W (.slice f2 m2.wr.length g2) m2.wr ∧ w.heap.size+1<W.heap.size) (H:∀ W0,(Below w.heap.size w W0 ∧ W0.heap[w.heap.size]?=some o1 ∧ W0.heap[w.heap.size+1]?=some o2 ∧ RdL zu W0 (.slice f0 m2.cells.length g0) m2.cells ∧ RdL zx W0 (.slice f1 m2.rd.length g1) m2.rd ∧ RdL zx W0 (.slice f2 m2.wr.length g2) m2.wr ∧ w.heap.size+1<W0.heap.size) → Q .normal a W0):zaY P ops (zbX Q) F n [] a W:=zQ (H W h)
theorem zq {w:World} {p:Nat} (h:p+1<w.heap.size) (o r:Obj) (Y:Ext):(((w.setB (p+1) r).setB p o).ext Y).heap[p]?=some o/\(((w.setB (p+1) r).setB p o).ext Y).heap[p+1]?=some r:=by
 have h2:=zS h o r
 exact ⟨(World.ext_get _ Y (za h2.1)).trans h2.1,(World.ext_get _ Y (za h2.2)).trans h2.2⟩
theorem zP {w w1:World} (B:Below w.heap.size w w1) (o r:Obj):Below w.heap.size w ((w1.setB (w.heap.size+1) r).setB w.heap.size o):=zo (zo B (by omega) r) (Nat.le_refl _) o
theorem zaP {n lo hi:Int} (h:lo<=n/\n<=hi):inB n lo hi=true:=by unfold inB;simp;omega
theorem zbb {n lo hi:Int} (h:¬ (lo<=n/\n<=hi)):inB n lo hi=false:=by unfold inB;simp;omega
theorem zac (k:ByteArray) (m:MachD) : 0<=((K.num k).run m).1/\((K.num k).run m).1<=999:=zeO _
theorem zem (k:ByteArray) (m:MachD) : 0<=((K.bump k).run m).1/\((K.bump k).run m).1<=999:=by
 unfold K.bump
 rw [Mp.run_bind]
 have:=zac k m
 split
 ·show (0:Int)<=0/\(0:Int)<=999
  omega
 ·rw [Mp.run_bind]
  show 0<=((K.num k).run m).1+1/\((K.num k).run m).1+1<=999
  omega
theorem zbl (h t:ByteArray) (n:Int) (h0 : -9223372036854775808<=n) (h1:n<=9223372036854775807):(zO h n t).size<=h.size+21+t.size:=by
 unfold zO
 rw [ByteArray.size_append,ByteArray.size_append,zN]
 have:=Lib.itoa_length_le n h0 h1
 omega
theorem zaD (id:Int) (h0 : -9223372036854775808<=id) (h1:id<=9223372036854775807):(K.pagesKey id).size<=100:=by
 have:=zbl K.nM K.slash id h0 h1
 have c1:K.nM.size=2:=rfl
 have c2:K.slash.size=1:=rfl
 show (zO K.nM id K.slash).size<=_
 omega
theorem zfc {t:ByteArray} (h:t.size=0):t=⟨#[]⟩/\t.toList.isEmpty=true:=by
 obtain ⟨⟨l⟩⟩:=t
 cases l with
 | nil=>exact ⟨rfl,by rw [ByteArray.toList_eq];rfl⟩
 | cons a l=>cases h
theorem zfd {t:ByteArray} (h:¬ t.size=0) : 0<t.size/\t.toList.isEmpty=false:=by
 refine ⟨by omega,?_⟩
 rw [ByteArray.toList_eq]
 obtain ⟨⟨l⟩⟩:=t
 cases l with
 | nil=>exact absurd rfl h
 | cons a l=>rfl
theorem zdj (id k:Int) (w:World) (h0 : -9223372036854775808<=id) (h1:id<=9223372036854775807) (k0 : -9223372036854775808<=k) (k1:k<=9223372036854775807) :
  Calls Tryz.prog 191 #[.int .i64 id,.int .i64 k] w fun e w'=>e=.returned (.string (zO (K.pipeKey id K.tQ) k ⟨#[]⟩))/\Below w.heap.size w w':=by
 have hs:=zbl K.nP K.tQ id h0 h1
 have c1:(K.nP).size=2:=rfl
 have c2:(K.tQ).size=3:=rfl
 have hs2:(K.pipeKey id K.tQ).size<=1073741824:=by show (zO K.nP id K.tQ).size<=_;omega
 have D:=Hd (fun w=>zcc id K.tQ w (by decide) h0 h1)
 have D2:=Hd (fun w=>zZ (K.pipeKey id K.tQ) ⟨#[]⟩ k w hs2 (by decide) k0 k1)
 clear hs c1 c2 hs2
 go_enter Tryz.func191,Tryz.ntmps191
 (repeat (first|go_skip|go_guarded|go_step|go_upon|go_back))
 (go_at_call 188;refine (D.out _).mono ?_;rintro e w1 ⟨rfl,hb1⟩)
 ((try simp only []);repeat (first|go_skip|go_guarded|go_step|go_upon|go_back))
 (go_at_call 181;refine (D2.out _).mono ?_;rintro e w2 ⟨rfl,hb2⟩)
 ((try simp only []);repeat (first|go_skip|go_guarded|go_step|go_upon|go_back))
 go_ret
 exact ⟨rfl,Below.then hb1 hb2⟩
theorem zdW (id k:Int) (w:World) (h0 : -9223372036854775808<=id) (h1:id<=9223372036854775807) (k0 : -9223372036854775808<=k) (k1:k<=9223372036854775807) :
  Calls Tryz.prog 194 #[.int .i64 id,.int .i64 k] w fun e w'=>e=.returned (.string (zO (K.signalKey id K.tQ) k ⟨#[]⟩))/\Below w.heap.size w w':=by
 have hs:=zbl K.nG K.tQ id h0 h1
 have c1:(K.nG).size=2:=rfl
 have c2:(K.tQ).size=3:=rfl
 have hs2:(K.signalKey id K.tQ).size<=1073741824:=by show (zO K.nG id K.tQ).size<=_;omega
 have D:=Hd (fun w=>zee id K.tQ w (by decide) h0 h1)
 have D2:=Hd (fun w=>zZ (K.signalKey id K.tQ) ⟨#[]⟩ k w hs2 (by decide) k0 k1)
 clear hs c1 c2 hs2
 go_enter Tryz.func194,Tryz.ntmps194
 (repeat (first|go_skip|go_guarded|go_step|go_upon|go_back))
 (go_at_call 193;refine (D.out _).mono ?_;rintro e w1 ⟨rfl,hb1⟩)
 ((try simp only []);repeat (first|go_skip|go_guarded|go_step|go_upon|go_back))
 (go_at_call 181;refine (D2.out _).mono ?_;rintro e w2 ⟨rfl,hb2⟩)
 ((try simp only []);repeat (first|go_skip|go_guarded|go_step|go_upon|go_back))
 go_ret
 exact ⟨rfl,Below.then hb1 hb2⟩
theorem zbB (id k:Int) (w:World) (h0 : -9223372036854775808<=id) (h1:id<=9223372036854775807) (k0 : -9223372036854775808<=k) (k1:k<=9223372036854775807) :
  Calls Tryz.prog 225 #[.int .i64 id,.int .i64 k] w fun e w'=>e=.returned (.string (zO (zO K.nI id K.tB) k ⟨#[]⟩))/\Below w.heap.size w w':=by
 have hs:=zbl K.nI K.tB id h0 h1
 have c1:(K.nI).size=2:=rfl
 have c2:(K.tB).size=3:=rfl
 have hs2:(zO K.nI id K.tB).size<=1073741824:=by show (zO K.nI id K.tB).size<=_;omega
 have D:=Hd (fun w=>zZ K.nI K.tB id w (by decide) (by decide) h0 h1)
 have D2:=Hd (fun w=>zZ (zO K.nI id K.tB) ⟨#[]⟩ k w hs2 (by decide) k0 k1)
 clear hs c1 c2 hs2
 go_enter Tryz.func225,Tryz.ntmps225
 (repeat (first|go_skip|go_guarded|go_step|go_upon|go_back))
 (go_at_call 181;refine (D.out _).mono ?_;rintro e w1 ⟨rfl,hb1⟩)
 ((try simp only []);repeat (first|go_skip|go_guarded|go_step|go_upon|go_back))
 (go_at_call 181;refine (D2.out _).mono ?_;rintro e w2 ⟨rfl,hb2⟩)
 ((try simp only []);repeat (first|go_skip|go_guarded|go_step|go_upon|go_back))
 go_ret
 exact ⟨rfl,Below.then hb1 hb2⟩
theorem zdp {x:ByteArray} (h:x.data.toList.head? ≠ some 45):K.messageOf x=⟨#[]⟩:=if_neg h
theorem zeP {x:ByteArray} (h:x.data.toList.head?=some 45):K.messageOf x=zb2 (x.extract 1 x.size):=if_pos h
theorem zfM {β : Type} (k:ByteArray) (f:ByteArray->Mp β):(K.message k >>= f)=(K.look k >>= fun x=>f (K.messageOf x)):=rfl
theorem zc4 (s:ByteArray) (w:World) (hs:s.size<=1048576) :
  Calls Tryz.prog 192 #[.string s] w fun e w'=>∃ b,(b=true ∨ zb2 s=⟨#[]⟩)/\e=.returned (.tuple #[.string (zb2 s),.bool b])/\Below w.heap.size w w':=by
 refine (zkV s w hs).mono ?_
 rintro e w' ⟨r,b,rfl,hr,_,hb,hy,hn⟩
 cases b with
 | true=>exact ⟨true,.inl rfl,by rw [zhr hr (hy rfl)],hb⟩
 | false =>
  have h:=hn rfl
  have e:=ziD h.2
  exact ⟨false,.inr e,by rw [e,h.1],hb⟩
theorem zi7 (x:ByteArray) (hx:x.size<=1048576):(x.size=0/\x.toList.isEmpty=true/\K.messageOf x=⟨#[]⟩) ∨ (∃ h : 0<x.size,x.toList.isEmpty=false/\((x[0]'h).toNat:Int) ≠ 45/\K.messageOf x=⟨#[]⟩) ∨ (∃ h : 0<x.size,x.toList.isEmpty=false/\((x[0]'h).toNat:Int)=45/\K.messageOf x=zb2 (x.extract 1 x.size)/\(x.extract 1 x.size).size<=1048576):=by
 by_cases h0:x.size=0
 ·obtain ⟨rfl,ht⟩:=zfc h0
  exact .inl ⟨rfl,ht,zdp (by decide)⟩
 ·obtain ⟨hp,ht⟩:=zfd h0
  have hd:x.data.toList.head?=some (x[0]'hp):=by
   rw [List.head?_eq_getElem?,List.getElem?_eq_getElem (by simpa using hp)]
   rfl
  by_cases h1:((x[0]'hp).toNat:Int)=45
  ·refine .inr (.inr ⟨hp,ht,h1,zeP ?_,?_⟩)
   ·rw [hd]
    have:(x[0]'hp)=45:=UInt8.toNat_inj.1 (by have h2:(45:UInt8).toNat=45:=rfl;omega)
    rw [this]
   ·rw [ByteArray.size_extract];omega
  ·refine .inr (.inl ⟨hp,ht,h1,zdp ?_⟩)
   rw [hd]
   intro he
   have:x[0]'hp=45:=Option.some.inj he
   rw [this] at h1
   exact h1 rfl
theorem zhG (s:ByteArray) (n:Nat) (h:(s.data.toList.take n).all K.nameByte=false):K.nameOk s=false:=by
 unfold K.nameOk
 have:s.data.toList.all K.nameByte=false:=by
  cases hp:s.data.toList.all K.nameByte with
  | false=>rfl
  | true =>
   rw [List.all_eq_true] at hp
   have:(s.data.toList.take n).all K.nameByte=true:=by
    rw [List.all_eq_true]
    exact fun x hx=>hp x (List.mem_of_mem_take hx)
   rw [this] at h
   cases h
 rw [this]
 rfl
theorem zhF (s:ByteArray) (h:(s.data.toList.take s.size).all K.nameByte=true):K.nameOk s=inB (s.size:Int) 1 12:=by
 rw [List.take_of_length_le (by simp)] at h
 unfold K.nameOk
 rw [h]
 rfl
theorem zjW {s:ByteArray} (h:K.nameOk s=true):s.size<=12:=by
 unfold K.nameOk inB at h
 simp at h
 omega
theorem zcd (s:ByteArray) (w:World) (hs:s.size<=9223372036854775807):Calls Tryz.prog 177 #[.string s] w fun e w'=>e=.returned (.bool (K.nameOk s))/\w'=w:=by
 go_enter Tryz.func177,Tryz.ntmps177
 (repeat (first|go_skip|go_guarded|go_step|go_upon|go_back))
 go_loopw [3] (fun k wr=>∃ n:Nat,k=.int .i64 n/\n<=s.size/\wr=w/\(s.data.toList.take n).all K.nameByte=true) (fun k _=>s.size - (intOf k).toNat)
 case atStart=>exact ⟨0,rfl,Nat.zero_le _,rfl,rfl⟩
 case round =>
  obtain ⟨n,rfl,hn,rfl,hall⟩:=hrel
  have HA:=Hd hall
  clear hall
  by_cases hlt:(n:Int)<s.size
  case pos =>
   have hk:n<s.size:=by omega
   have hst:=zdh s n hk
   have HS:=Hd hst
   clear hst
   have hc0 : 0<=(s[n].toNat:Int):=by omega
   have hc1:(s[n].toNat:Int)<=255:=by have:=s[n].toNat_lt;omega
   have hw:wrap64 (s[n].toNat:Int)=s[n].toNat:=IntWalk.wrap64_in _ (by omega)
   have hob:K.nameByte s[n]=((inB (s[n].toNat:Int) 97 122 || inB (s[n].toNat:Int) 48 57) || (s[n].toNat:Int)==46 || (s[n].toNat:Int)==45):=rfl
   by_cases f1 : 97<=(s[n].toNat:Int)/\(s[n].toNat:Int)<=122
   case pos =>
    have I1:=zaP f1
    rw [I1] at hob
    have HB:Hid ((s.data.toList.take (n+1)).all K.nameByte=true):=by show _ = _;rw [HS.out,List.all_append,HA.out];simp [hob]
    have HI:=Hd I1
    clear I1 hob
    (repeat (first|go_skip|go_guarded|go_step|go_upon|go_back))
    (go_at_call 59;refine (zM _ _ _ _).mono ?_;rintro e w' ⟨rfl,rfl⟩)
    try rw [hw]
    rw [HI.out]
    go_wp2
    go_roundw
    case rel=>exact ⟨n+1,by go_num,by omega,by first|rfl|trivial,HB.out⟩
    case measure=>simp [intOf];omega
   have HI:=Hd (zbb f1)
   rw [zbb f1] at hob
   by_cases f2 : 48<=(s[n].toNat:Int)/\(s[n].toNat:Int)<=57
   case pos =>
    have I1:=zaP f2
    rw [I1] at hob
    have HB:Hid ((s.data.toList.take (n+1)).all K.nameByte=true):=by show _ = _;rw [HS.out,List.all_append,HA.out];simp [hob]
    have HI2:=Hd I1
    clear I1 hob
    (repeat (first|go_skip|go_guarded|go_step|go_upon|go_back))
    (go_at_call 59;refine (zM _ _ _ _).mono ?_;rintro e w' ⟨rfl,rfl⟩)
    try rw [hw]
    rw [HI.out]
    ((try simp only []);repeat (first|go_skip|go_guarded|go_step|go_upon|go_back))
    (go_at_call 59;refine (zM _ _ _ _).mono ?_;rintro e w' ⟨rfl,rfl⟩)
    try rw [hw]
    rw [HI2.out]
    go_wp2
    go_roundw
    case rel=>exact ⟨n+1,by go_num,by omega,by first|rfl|trivial,HB.out⟩
    case measure=>simp [intOf];omega
   have HI2:=Hd (zbb f2)
   rw [zbb f2] at hob
   by_cases f3:(s[n].toNat:Int)=46 ∨ (s[n].toNat:Int)=45
   case pos =>
    have HB:Hid ((s.data.toList.take (n+1)).all K.nameByte=true):=by
     show _ = _
     rw [HS.out,List.all_append,HA.out]
     rcases f3 with h|h<;>rw [h] at hob<;>simp [hob]
    clear hob
    rcases f3 with h|h
    all_goals (
     (repeat (first|go_skip|go_guarded|go_step|go_upon|go_back))
     (go_at_call 59;refine (zM _ _ _ _).mono ?_;rintro e w' ⟨rfl,rfl⟩)
     (try rw [hw])
     first|rw [show inB 46 97 122=false from rfl]|rw [show inB 45 97 122=false from rfl]
     ((try simp only []);repeat (first|go_skip|go_guarded|go_step|go_upon|go_back))
     (go_at_call 59;refine (zM _ _ _ _).mono ?_;rintro e w' ⟨rfl,rfl⟩)
     (try rw [hw])
     first|rw [show inB 46 48 57=false from rfl]|rw [show inB 45 48 57=false from rfl]
     go_wp2
     go_roundw
     case rel=>exact ⟨n+1,by go_num,by omega,by first|rfl|trivial,HB.out⟩
     case measure=>simp [intOf];omega)
   have g1:¬ (s[n].toNat:Int)=46:=fun h=>f3 (.inl h)
   have g2:¬ (s[n].toNat:Int)=45:=fun h=>f3 (.inr h)
   have HB:Hid (K.nameOk s=false):=zhG s (n+1) (by
    rw [HS.out,List.all_append]
    simp only [List.all_cons,List.all_nil,hob]
    simp
    intro _
    exact ⟨fun h=>g1 (by omega),fun h=>g2 (by omega)⟩)
   clear hob f3
   (repeat (first|go_skip|go_guarded|go_step|go_upon|go_back))
   (go_at_call 59;refine (zM _ _ _ _).mono ?_;rintro e w' ⟨rfl,rfl⟩)
   try rw [hw]
   rw [HI.out]
   ((try simp only []);repeat (first|go_skip|go_guarded|go_step|go_upon|go_back))
   (go_at_call 59;refine (zM _ _ _ _).mono ?_;rintro e w' ⟨rfl,rfl⟩)
   try rw [hw]
   rw [HI2.out]
   have k1:((s[n].toNat:Int) != 46)=true:=bne_iff_ne.2 g1
   have k2:((s[n].toNat:Int) != 45)=true:=bne_iff_ne.2 g2
   go_wp2
   go_ret
   exact ⟨by rw [HB.out];rfl,rfl⟩
  case neg =>
   have e:n=s.size:=by omega
   have HE:Hid (K.nameOk s=inB (s.size:Int) 1 12):=zhF s (e ▸ HA.out)
   (repeat (first|go_skip|go_guarded|go_step|go_upon|go_back))
   (go_at_call 59;refine (zM _ _ _ _).mono ?_;rintro e w' ⟨rfl,rfl⟩)
   rw [<- HE.out]
   go_wp2
   go_ret
   exact ⟨rfl,rfl⟩
theorem zbf (a:ByteArray) (m:MachD) : 0<=((K.fileOf a).run m).1/\((K.fileOf a).run m).1<=999:=by
 unfold K.fileOf
 split
 ·exact zac _ m
 ·show (0:Int)<=0/\(0:Int)<=999
  omega
theorem zaz (a:ByteArray):(K.nameOk a=true/\a.size<=12) ∨ K.nameOk a=false:=by
 cases h:K.nameOk a with
 | true=>exact .inl ⟨rfl,zjW h⟩
 | false=>exact .inr rfl
theorem zbd (name:ByteArray) (hs:name.size<=1048576):SC 178 (fun x=>#[x,.string name]) (K.fileOf name) (fun v' n=>.tuple #[v',.int .i64 n]):=by
 have hc:¬ 9223372036854775807<2+name.size:=by omega
 refine zeq (fun w m a0 c0 a1 c1 a2 c2 res mres H0 H1 H2 HL=>?_)
 unfold K.fileOf at HL
 rcases zaz name with ⟨hn,hz⟩|hn
 all_goals (
  rw [hn] at HL
  have HN:=Hd hn;clear hn
  ((repeat' ((rcases HL.out.ite with ⟨hg,HL2⟩|⟨hg,HL2⟩<;>(clear HL;have HL:=Hd HL2;clear HL2;try first|exact absurd hg (by decide)|exact absurd rfl hg|(exfalso;omega)|(have hgz : _ ∨ _:=hg;clear hg;rcases hgz with hg|hg<;>(try have hgb:=bne_iff_ne.2 hg))|(have hgz:=not_or.1 hg;clear hg;obtain ⟨hg,hgo⟩:=hgz;try replace hgo:=Decidable.not_not.1 hgo)))))))
 all_goals (go_enter Tryz.func178,Tryz.ntmps178;((repeat (first|((with_reducible refine zcK (fun W0=>Below w.heap.size w W0/\W0.heap[w.heap.size]?=some (.cells #[.slice a0 m.cells.length c0,.slice a1 m.rd.length c1,.slice a2 m.wr.length c2] 54)/\W0.heap[w.heap.size+1]?=some (.cells #[.slice none 0 0,.slice none 0 0,.slice none 0 0] 54)) ?_ ?_);(· with_reducible exact zV w (.cells #[.slice a0 m.cells.length c0,.slice a1 m.rd.length c1,.slice a2 m.wr.length c2] 54) (.cells #[.slice none 0 0,.slice none 0 0,.slice none 0 0] 54) (by repeat (first|with_reducible exact Below.refl _ _|with_reducible apply Below.ofAlloc))))|go_skip|go_guarded|go_step|go_upon|go_back));(rintro w1 ⟨B,P,R⟩;have Z:=za R;have e1:=zj P R;rw [<- e1];have HW0:=Hd (fun o r=>H0.out.below (zP B o r));have HW1:=Hd (fun o r=>H1.out.below (zP B o r));have HW2:=Hd (fun o r=>H2.out.below (zP B o r));have Zp:=Nat.lt_of_succ_lt Z;clear e1 P R H0 H1 H2)))
 all_goals (repeat' (first|go_skip|go_guarded|go_step|go_upon|go_back|(go_at_call 177;refine (zcd _ _ (by omega)).mono ?_;rintro e w' ⟨rfl,rfl⟩;rw [HN.out];try simp only [])|((((go_at_call 175;refine (SC.use (zU _) (fun a=>0<=a/\a<=999) (fun m _=>zac _ m) (by first|exact HL.out|exact HL.out.last) (⟨_,_,_,rfl,HW0.out _ _,HW1.out _ _,HW2.out _ _⟩ : MRd _ _ _)).mono ?_);(rintro e w2 ⟨v2,x,m2,rfl,hx,hm,hb,HL2⟩);(obtain ⟨b0,d0,b1,d1,b2,d2,rfl,q0,q1,q2⟩:=hm.form;obtain ⟨B',P,R,Z',Zx⟩:=zG B Z hb;clear Zx;clear hm hb;(clear HW0 HW1 HW2 B Z;have e1:=zj P R;rw [<- e1];clear e1;have HW0:=Hd (fun o r=>zg (zf _) q0 P R o r);have HW1:=Hd (fun o r=>zg (zc _) q1 P R o r);have HW2:=Hd (fun o r=>zg (zc _) q2 P R o r);have B:=B';have Z:=Z';(try clear Zp);have Zp:=Nat.lt_of_succ_lt Z;clear B' Z' P R q0 q1 q2;(try simp only []));clear HL;have HL:=Hd HL2;clear HL2))))))
 all_goals (obtain ⟨rfl,rfl⟩:=HL.out.end;refine bodyPost_ret (by simp [results,Tryz.results178,go_sem,Z];rfl) rfl ?_;exact ⟨_,rfl,⟨_,_,_,rfl,HW0.out _ _,HW1.out _ _,HW2.out _ _⟩,zP B _ _⟩)
theorem zfu (s:ByteArray) (w:World) (hg:Glob w) (hs:s.size<=1048576):Calls Tryz.prog 161 #[.string s] w fun e w'=>e=.returned (.int .i64 (za0 s))/\Below w.heap.size w w':=by
 have D:=Hd (zft s w hg hs)
 clear hg
 go_enter Tryz.func161,Tryz.ntmps161
 (skip);repeat (first|go_skip|go_guarded|go_step|go_upon|go_back)
 (go_at_call 214;refine D.out.mono ?_;rintro e w1 ⟨n,b,rfl,hn,hb,he,hz⟩)
 have e:=zkB hn he
 have E:=Hd e
 have hn0:=hn.1
 clear e hn he D
 cases b with
 | false =>
  have E2:Hid (za0 s=0):=by show _ = _;rw [E.out];rfl
  obtain rfl:=hz rfl
  clear E hz
  go_wp2
  go_ret
  exact ⟨by rw [E2.out];rfl,hb⟩
 | true =>
  by_cases h9:n<=999
  ·have E2:Hid (za0 s=n):=by show _ = _;rw [E.out,if_pos ⟨rfl,h9⟩]
   clear E
   go_wp2
   go_ret
   exact ⟨by rw [E2.out];rfl,hb⟩
  ·have E2:Hid (za0 s=0):=by show _ = _;rw [E.out,if_neg (fun h=>h9 h.2)]
   clear E
   go_wp2
   go_ret
   exact ⟨by rw [E2.out];rfl,hb⟩
theorem zah (h t:ByteArray) (n:Int) (w:World) (hg:Glob w) (hh:h.size<=1073741824) (ht:t.size<=1073741824) (h0 : -9223372036854775808<=n) (h1:n<=9223372036854775807) :
  Calls Tryz.prog 149 #[.string h,.int .i64 n,.string t] w fun e w'=>e=.returned (.string (zO h n t))/\Below w.heap.size w w':=by
 have hd:=zjf n h0 h1
 have D:=zcy n w h0 h1 hg.tab
 clear hg
 unfold zO
 generalize zX (Lib.itoa n)=d at hd D ⊢
 have D1:=Hd D
 clear D
 have c1:¬ (9223372036854775807<(h.size:Int)+d.size):=by omega
 have c2:¬ (9223372036854775807<(h.size:Int)+d.size+t.size):=by omega
 have c3:(h.size:Int)+d.size<=9223372036854775807:=by omega
 have c4:(h.size:Int)+d.size+t.size<=9223372036854775807:=by omega
 go_enter Tryz.func149,Tryz.ntmps149
 (skip);repeat (first|go_skip|go_guarded|go_step|go_upon|go_back)
 (go_at_call 84;refine D1.out.mono ?_;rintro e w1 ⟨rfl,hb1⟩)
 go_wp2
 go_ret
 exact ⟨rfl,hb1⟩
theorem zgU (s:ByteArray) (w:World) (hg:Glob w) (hs:s.size<=1048576) :
  Calls Tryz.prog 232 #[.string s] w fun e w'=>∃ b,(b=true ∨ zb2 s=⟨#[]⟩)/\e=.returned (.tuple #[.string (zb2 s),.bool b])/\Below w.heap.size w w':=by
 refine (zle s w hg hs).mono ?_
 rintro e w' ⟨r,b,rfl,hr,_,hb,hy,hn⟩
 cases b with
 | true=>exact ⟨true,.inl rfl,by rw [zhr hr (hy rfl)],hb⟩
 | false =>
  have h:=hn rfl
  have e:=ziD h.2
  exact ⟨false,.inr e,by rw [e,h.1],hb⟩
theorem zcj (s:ByteArray) (w:World) (hs:s.size<=9223372036854775807):Calls Tryz.prog 141 #[.string s] w fun e w'=>e=.returned (.bool (K.nameOk s))/\w'=w:=by
 go_enter Tryz.func141,Tryz.ntmps141
 (repeat (first|go_skip|go_guarded|go_step|go_upon|go_back))
 go_loopw [7] (fun k wr=>∃ n:Nat,k=.int .i64 n/\n<=s.size/\wr=w/\(s.data.toList.take n).all K.nameByte=true) (fun k _=>s.size - (intOf k).toNat)
 case atStart=>exact ⟨0,rfl,Nat.zero_le _,rfl,rfl⟩
 case round =>
  obtain ⟨n,rfl,hn,rfl,hall⟩:=hrel
  have HA:=Hd hall
  clear hall
  by_cases hlt:(n:Int)<s.size
  case pos =>
   have hk:n<s.size:=by omega
   have hst:=zdh s n hk
   have HS:=Hd hst
   clear hst
   have hc0 : 0<=(s[n].toNat:Int):=by omega
   have hc1:(s[n].toNat:Int)<=255:=by have:=s[n].toNat_lt;omega
   have hob:K.nameByte s[n]=((inB (s[n].toNat:Int) 97 122 || inB (s[n].toNat:Int) 48 57) || (s[n].toNat:Int)==46 || (s[n].toNat:Int)==45):=rfl
   by_cases hok:(97<=(s[n].toNat:Int)/\(s[n].toNat:Int)<=122) ∨ (48<=(s[n].toNat:Int)/\(s[n].toNat:Int)<=57) ∨ (s[n].toNat:Int)=46 ∨ (s[n].toNat:Int)=45
   case pos =>
    have HB:Hid ((s.data.toList.take (n+1)).all K.nameByte=true):=by
     show _ = _
     rw [HS.out,List.all_append,HA.out]
     simp only [List.all_cons,List.all_nil,hob,Bool.true_and,Bool.and_true]
     unfold inB
     simp
     omega
    clear hob
    have k1:(97<=(s[n].toNat:Int)/\(s[n].toNat:Int)<=122) ∨ (¬ 97<=(s[n].toNat:Int)/\48<=(s[n].toNat:Int)/\(s[n].toNat:Int)<=57) ∨ (s[n].toNat:Int)=46 ∨ (s[n].toNat:Int)=45:=by omega
    clear hok
    rcases k1 with ⟨f1,f2⟩|⟨f1,f2,f3⟩|f1|f1
    all_goals (
     (repeat (first|go_skip|go_guarded|go_step|go_upon|go_back))
     go_wp2
     go_roundw
     case rel=>exact ⟨n+1,by go_num,by omega,by first|rfl|trivial,HB.out⟩
     case measure=>simp [intOf];omega)
   case neg =>
    have HB:Hid (K.nameOk s=false):=zhG s (n+1) (by
     rw [HS.out,List.all_append]
     have:K.nameByte s[n]=false:=by
      rw [hob]
      unfold inB
      simp
      omega
     simp only [List.all_cons,List.all_nil,this]
     simp)
    clear hob
    have g1:¬ (s[n].toNat:Int)=46:=fun h=>hok (by omega)
    have g2:¬ (s[n].toNat:Int)=45:=fun h=>hok (by omega)
    have k1:((s[n].toNat:Int) != 46)=true:=bne_iff_ne.2 g1
    have k2:((s[n].toNat:Int) != 45)=true:=bne_iff_ne.2 g2
    have k3:(¬ 97<=(s[n].toNat:Int)/\¬ 48<=(s[n].toNat:Int)) ∨ (¬ 97<=(s[n].toNat:Int)/\48<=(s[n].toNat:Int)/\¬ (s[n].toNat:Int)<=57) ∨ (97<=(s[n].toNat:Int)/\¬ (s[n].toNat:Int)<=122/\48<=(s[n].toNat:Int)/\¬ (s[n].toNat:Int)<=57):=by omega
    clear hok
    rcases k3 with ⟨f1,f2⟩|⟨f1,f2,f3⟩|⟨f1,f2,f3,f4⟩
    all_goals (
     (repeat (first|go_skip|go_guarded|go_step|go_upon|go_back))
     go_wp2
     go_ret
     exact ⟨by rw [HB.out];rfl,rfl⟩)
  case neg =>
   have e:n=s.size:=by omega
   have HE:Hid (K.nameOk s=inB (s.size:Int) 1 12):=zhF s (e ▸ HA.out)
   (repeat (first|go_skip|go_guarded|go_step|go_upon|go_back))
   (go_at_call 140;refine (zag _ _ _ _).mono ?_;rintro e w' ⟨rfl,rfl⟩)
   rw [<- HE.out]
   go_wp2
   go_ret
   exact ⟨rfl,rfl⟩
def SCL (f:FuncId) (args:Value->Array Value) (p:Mp (List ByteArray)):Prop :=
 ∀ (w:World) (v:Value) (m:MachD),MRd w v m->p.fits m->Calls Tryz.prog f (args v) w fun e w'=>∃ v' vs,e=.returned (.tuple #[v',vs])/\RdL zx w' vs (p.run m).1/\SS w w' v' (p.run m).2
theorem SCL.use {β : Type} {f:FuncId} {args:Value->Array Value} {p:Mp (List ByteArray)} (h:SCL f args p) (S:List ByteArray->Prop) (hS:∀ m,p.fits m->S (p.run m).1) {k:List ByteArray->Mp β} {w:World} {v:Value} {m:MachD} {r : β × MachD} (L:Lft (p >>= k) m r) (hm:MRd w v m) :
  Calls Tryz.prog f (args v) w fun e w'=>∃ v' a1 n1 ks m1,e=.returned (.tuple #[v',.slice a1 ks.length n1])/\(S ks/\RdL zx w' (.slice a1 ks.length n1) ks)/\MRd w' v' m1/\Below w.heap.size w w'/\Lft (k ks) m1 r:=by
 refine (h w v m hm L.step.1).mono ?_
 rintro e w' ⟨v',vs,rfl,hr,hm',hb⟩
 obtain ⟨a1,n1,rfl⟩:=hr.form
 exact ⟨v',_,_,_,_,rfl,⟨hS m L.step.1,hr⟩,hm',hb,L.step.2⟩
def KS (p:ByteArray) (ks:List ByteArray):Prop:=ks.length<=549755813888/\(∀ k ∈ ks,k.size<=1048576)/\∀ k ∈ ks,p.size<=k.size
theorem zcp (p:ByteArray) (m:MachD) (h:(K.under p).fits m):KS p ((K.under p).run m).1:=by
 have hs:Mp.Small m:=h.1
 show KS p (zK p m.cells)
 unfold zK
 refine ⟨?_,fun k hk=>?_,fun k hk=>?_⟩
 ·rw [List.length_map]
  exact Nat.le_trans (List.length_filter_le _ _) hs.cl
 ·obtain ⟨c,hc,rfl⟩:=List.mem_map.1 hk
  exact (hs.cz c (List.mem_filter.1 hc).1).1
 ·obtain ⟨c,hc,rfl⟩:=List.mem_map.1 hk
  have h1:=(List.mem_filter.1 hc).2
  unfold zaj at h1
  simp at h1
  exact h1.1
theorem zbC (k:ByteArray):SCL 195 (fun x=>#[x,.string k]) (K.under k):=by
 intro w v m hm hf
 obtain ⟨a0,c0,a1,c1,a2,c2,rfl,H0,H1,H2⟩:=hm.form
 have H0:Hid _:=H0
 have H1:Hid _:=H1
 have H2:Hid _:=H2
 obtain ⟨hs,hk,_⟩:=hf
 have hcs:¬ 9223372036854775807<k.size+1:=by omega
 have hkz:∀ c ∈ m.cells,c.key.size<=1048576:=fun c hc=>(hs.cz c hc).1
 have hl0:=hs.cl
 have hl2:=hs.rl
 have D1:=Hd (fun w' (hb:Below w.heap.size w w')=>zct _ m.rd (k++star) w' (H1.out.below hb) (by omega))
 have D2:=Hd (fun w' (hb:Below w.heap.size w w')=>zhd _ m.cells k w' (H0.out.below hb) hkz (by omega) hs.cl)
 go_enter Tryz.func195,Tryz.ntmps195
 (skip);repeat (first|go_skip|go_guarded|go_step|go_upon|go_back)
 (go_at_call 99;refine (D1.out _ (by repeat (first|with_reducible exact Below.refl _ _|with_reducible apply Below.ofAlloc))).mono ?_;rintro e w1 ⟨v1,rfl,ho1,hb1⟩)
 obtain ⟨b1,d1,rfl⟩:=ho1.rd.form
 have h2:=zaq w (obM (.slice a0 m.cells.length c0) (.slice a1 m.rd.length c1) (.slice a2 m.wr.length c2)) zlw w.heap.size rfl
 have B1:Below w.heap.size w w1:=Below.then (show Below w.heap.size w ((w.alloc (obM (.slice a0 m.cells.length c0) (.slice a1 m.rd.length c1) (.slice a2 m.wr.length c2))).alloc zlw) from (by repeat (first|with_reducible exact Below.refl _ _|with_reducible apply Below.ofAlloc))) hb1
 have P1:=(Grew.below hb1 w.heap.size (by first|(simp;done)|(simp;omega))).trans h2.1
 have R1:=(Grew.below hb1 (w.heap.size+1) (by first|(simp;done)|(simp;omega))).trans h2.2
 have T1:=Hd ho1
 have Z1:=hb1.size
 rw [show ((w.alloc (Obj.cells #[.slice a0 m.cells.length c0,.slice a1 m.rd.length c1,.slice a2 m.wr.length c2] 54)).alloc (Obj.cells #[.slice none 0 0,.slice none 0 0,.slice none 0 0] 54)).heap.size=w.heap.size+1+1 by simp] at Z1
 have Zp:w.heap.size<w1.heap.size:=by omega
 have Zq:w.heap.size+1<w1.heap.size:=by omega
 unfold obM at P1
 unfold zlw at R1
 have e1:=zj P1 R1
 rw [<- e1]
 clear e1
 have S1:=fun o r=>zo (zo B1 (p:=w.heap.size+1) (by omega) r) (p:=w.heap.size) (Nat.le_refl _) o
 (try simp only []);repeat (first|go_skip|go_guarded|go_step|go_upon|go_back)
 refine zai [(0,true),(1,true),(2,true),(3,true),(4,false),(5,false),(6,false)] 5 (by kernel_rfl) (by kernel_rfl) ?_
 repeat (refine zk rfl (fun K hK=>?_);go_simp;(try simp (disch:=omega) only [IntWalk.i64_in]);refine hK _ ?_;clear hK K)
 refine zr rfl (fun K hK=>?_);go_simp;go_at_call 228;refine (D2.out _ (by (with_reducible apply Below.drew;with_reducible exact S1 _ _))).mono ?_;rintro e w' ⟨vl,rfl,hol,hb⟩;obtain ⟨X,rfl⟩:=hb.ext;have HOL:=Hd hol.rd;clear hb hol;try go_simp;refine hK _ _ (by show Sx _ _;repeat (first|with_reducible apply Sx.ext|with_reducible exact Sx.refl _)) ?_;clear hK K
 repeat (refine zk rfl (fun K hK=>?_);go_simp;(try simp (disch:=omega) only [IntWalk.i64_in]);refine hK _ ?_;clear hK K)
 repeat (refine zt rfl rfl (fun K hK=>?_);go_simp;refine hK _ _ ?_;clear hK K)
 refine zQ ?_
 (skip);repeat (first|go_skip|go_guarded|go_step|go_upon|go_back)
 have Y1:w.heap.size+1<w1.heap.size:=Zq
 refine bodyPost_ret (by simp [results,Tryz.results195,go_sem,Y1];rfl) rfl ?_
 have BF:=fun o r=>zo (zo B1 (p:=w.heap.size+1) (by omega) r) (p:=w.heap.size) (Nat.le_refl _) o
 exact ⟨_,_,rfl,za5 (zc _) Y1 HOL.out _,⟨_,_,_,rfl,H0.out.below ((BF _ _).ofExt X),((za2 T1.out (p:=w.heap.size) (by simp) _ _).rd).ext X,H2.out.below ((BF _ _).ofExt X)⟩,(BF _ _).ofExt X⟩
def MBx (w wr:World) (m:MachD):Prop:=∃ (a0:Option Addr) (c0:Nat) (a1:Option Addr) (c1:Nat) (a2:Option Addr) (c2:Nat),Below w.heap.size w wr/\wr.heap[w.heap.size]?=some (.cells #[.slice a0 m.cells.length c0,.slice a1 m.rd.length c1,.slice a2 m.wr.length c2] 54)/\wr.heap[w.heap.size+1]?=some (.cells #[.slice none 0 0,.slice none 0 0,.slice none 0 0] 54)/\RdL zu wr (.slice a0 m.cells.length c0) m.cells/\RdL zx wr (.slice a1 m.rd.length c1) m.rd/\RdL zx wr (.slice a2 m.wr.length c2) m.wr
theorem zdq {W:Obj->Obj->World} {al:Option Addr} {nl:Nat} {ks:List ByteArray} (h:∀ o r,RdL zx (W o r) (.slice al ks.length nl) ks) {n:Nat} (hn:n<ks.length) (o0 r0:Obj):∃ b off,al=some ⟨b,off,none⟩/\b<(W o0 r0).heap.size/\∀ o r,(W o r).cell? ⟨b,off+n,none⟩=some (.string ks[n]):=by
 have hne:ks ≠ []:=by intro e;rw [e] at hn;cases hn
 obtain ⟨ao,cap,e0,_,_,_,h4⟩:=(h o0 r0).shapeS
 obtain ⟨b,off,e,hb,_⟩:=h4 hne
 cases e0
 refine ⟨b,off,e,hb,fun o r=>?_⟩
 obtain ⟨ao,cap,e0,_,_,_,h4⟩:=(h o r).shapeS
 obtain ⟨b',off',e',hb',hc⟩:=h4 hne
 cases e0
 rw [e] at e'
 cases e'
 exact hc n hn
theorem Lft.each_at {α : Type} {f : α->Mp Unit} {xs:List α} {n:Nat} (hn:n<xs.length) {m:MachD} {r:Unit × MachD} (h:Lft (Mp.each f (xs.drop n)) m r):Lft (f xs[n] >>= fun _=>Mp.each f (xs.drop (n+1))) m r:=by
 rw [List.drop_eq_getElem_cons hn] at h
 exact h
theorem Lft.each_end {α : Type} {f : α->Mp Unit} {xs:List α} {n:Nat} (hn:xs.length<=n) {m:MachD} {r:Unit × MachD} (h:Lft (Mp.each f (xs.drop n)) m r):Lft (pure ():Mp Unit) m r:=by
 rw [List.drop_eq_nil_of_le hn] at h
 exact h
theorem zdl (p:ByteArray):SC 183 (fun x=>#[x,.string p]) (K.wipe p) (fun v' _=>v'):=by
 refine zeq (fun w m a0 c0 a1 c1 a2 c2 res mres H0 H1 H2 HL=>?_)
 unfold K.wipe at HL
 go_enter Tryz.func183,Tryz.ntmps183
 (try simp only [])
 ((repeat (first|((with_reducible refine zcK (fun W0=>Below w.heap.size w W0/\W0.heap[w.heap.size]?=some (.cells #[.slice a0 m.cells.length c0,.slice a1 m.rd.length c1,.slice a2 m.wr.length c2] 54)/\W0.heap[w.heap.size+1]?=some (.cells #[.slice none 0 0,.slice none 0 0,.slice none 0 0] 54)) ?_ ?_);(· with_reducible exact zV w (.cells #[.slice a0 m.cells.length c0,.slice a1 m.rd.length c1,.slice a2 m.wr.length c2] 54) (.cells #[.slice none 0 0,.slice none 0 0,.slice none 0 0] 54) (by repeat (first|with_reducible exact Below.refl _ _|with_reducible apply Below.ofAlloc))))|go_skip|go_guarded|go_step|go_upon|go_back));(rintro w1 ⟨B,P,R⟩;have Z:=za R;have e1:=zj P R;rw [<- e1];have HW0:=Hd (fun o r=>H0.out.below (zP B o r));have HW1:=Hd (fun o r=>H1.out.below (zP B o r));have HW2:=Hd (fun o r=>H2.out.below (zP B o r));have Zp:=Nat.lt_of_succ_lt Z;clear e1 P R H0 H1 H2))
 (repeat (first|go_skip|go_guarded|go_step|go_upon|go_back))
 (go_at_call 195;refine (SCL.use (zbC _) (KS _) (fun m h=>zcp _ m h) (by first|exact HL.out|exact HL.out.last) (⟨_,_,_,rfl,HW0.out _ _,HW1.out _ _,HW2.out _ _⟩ : MRd _ _ _)).mono ?_;rintro e w2 ⟨v2,al,nl,ks,m2,rfl,⟨hks,hrl⟩,hm,hb,HL2⟩;have hrl0:=hrl;obtain ⟨b0,d0,b1,d1,b2,d2,rfl,q0,q1,q2⟩:=hm.form;obtain ⟨B',P,R,Z',Zx⟩:=zG B Z hb;clear Zx;have HRL:=Hd (fun o r=>zg (zc _) hrl P R o r);clear hm hb hrl hrl0;(clear HW0 HW1 HW2 B Z;have e1:=zj P R;rw [<- e1];clear e1;have HW0:=Hd (fun o r=>zg (zf _) q0 P R o r);have HW1:=Hd (fun o r=>zg (zc _) q1 P R o r);have HW2:=Hd (fun o r=>zg (zc _) q2 P R o r);have B:=B';have Z:=Z';(try clear Zp);have Zp:=Nat.lt_of_succ_lt Z;clear B' Z' P R q0 q1 q2;(try simp only []));clear HL;have HL:=Hd HL2;clear HL2)
 (repeat (first|go_skip|go_guarded|go_step|go_upon|go_back))
 go_loopw [6] (fun k wr=>∃ (n:Nat) (m1:MachD),k=.int .i64 n/\n<=ks.length/\MBx w wr m1/\RdL zx wr (.slice al ks.length nl) ks/\Lft (Mp.each (fun k=>K.lay k ⟨#[]⟩) (ks.drop n)) m1 (res,mres)) (fun k _=>ks.length - (intOf k).toNat)
 case atStart=>exact ⟨0,m2,rfl,Nat.zero_le _,(⟨_,_,_,_,_,_,zP B _ _,(zS Z _ _).1,(zS Z _ _).2,HW0.out _ _,HW1.out _ _,HW2.out _ _⟩ : MBx _ _ _),HRL.out _ _,HL.out⟩
 case round =>
  clear HL
  obtain ⟨n,m1,rfl,hn,hbx,hrl,hl⟩:=hrel
  (obtain ⟨b0,d0,b1,d1,b2,d2,B',P,R,q0,q1,q2⟩:=hbx;have Z':=za R;clear HRL;have HRL:=Hd (fun o r=>zg (zc _) hrl P R o r);clear hrl;(clear HW0 HW1 HW2 B Z;have e1:=zj P R;rw [<- e1];clear e1;have HW0:=Hd (fun o r=>zg (zf _) q0 P R o r);have HW1:=Hd (fun o r=>zg (zc _) q1 P R o r);have HW2:=Hd (fun o r=>zg (zc _) q2 P R o r);have B:=B';have Z:=Z';(try clear Zp);have Zp:=Nat.lt_of_succ_lt Z;clear B' Z' P R q0 q1 q2;(try simp only [])))
  by_cases hlt:(n:Int)<ks.length
  case pos =>
   have hk:n<ks.length:=by omega
   have HL:=Hd (hl.each_at hk)
   obtain ⟨b,off,rfl,hbl,hce⟩:=zdq HRL.out hk (.cells #[] 0) (.cells #[] 0)
   rw [zd,zd] at hbl
   have hkz:=hks.2.1 _ (List.getElem_mem hk)
   have hkl:=hks.1
   clear hl
   generalize ks[n]=key at HL hce hkz
   (repeat (first|go_skip|go_guarded|go_step|go_upon|go_back))
   (refine zi (id:=5) [(0,true),(1,true),(2,true),(3,true),(4,true),(5,false),(6,false)] 6 (by kernel_rfl) (by kernel_rfl) ?_;(repeat (first|(refine zk rfl (fun K hK=>?_);go_simp;refine hK _ ?_;clear hK K)|(refine zr rfl (fun K hK=>?_);go_simp;((go_at_call 182;refine (SC.use (zan _ _) (fun _=>True) (fun _ _=>trivial) (by first|exact HL.out|exact HL.out.last) (⟨_,_,_,rfl,by (refine ⟨?_,?_,?_⟩<;>((repeat (first|with_reducible exact HW0.out _ _|with_reducible exact HW1.out _ _|with_reducible exact HW2.out _ _|with_reducible apply RdL.drew))))⟩ : MRd _ _ _)).mono ?_);(rintro e w' ⟨v2,x,m2,rfl,hx,hm,hb,HL2⟩);clear HL;have HL:=Hd HL2;clear HL2;obtain ⟨f0,g0,f1,g1,f2,g2,rfl,q0,q1,q2⟩:=hm.form;obtain ⟨X,rfl⟩:=hb.ext;have Q0:=Hd q0;have Q1:=Hd q1;have Q2:=Hd q2;clear hm q0 q1 q2 hb);(try go_simp);refine hK _ _ (by show Sx _ _;repeat (first|with_reducible apply Sx.ext|with_reducible exact Sx.refl _)) ?_;clear hK K)|(refine zt rfl rfl (fun K hK=>?_);go_simp;refine hK _ _ ?_;clear hK K)));have Q0':=Q0.out;have Q1':=Q1.out;have Q2':=Q2.out;clear Q0 Q1 Q2;refine zy (fun W0=>Below w.heap.size w W0/\W0.heap[w.heap.size]?=some _/\W0.heap[w.heap.size+1]?=some _/\RdL zu W0 (.slice f0 m2.cells.length g0) m2.cells/\RdL zx W0 (.slice f1 m2.rd.length g1) m2.rd/\RdL zx W0 (.slice f2 m2.wr.length g2) m2.wr/\w.heap.size+1<W0.heap.size/\RdL zx W0 _ ks) ⟨(zP B _ _).ofExt _,(zq Z _ _ _).1,(zq Z _ _ _).2,zl (zf _) Z Q0' _ _,zl (zc _) Z Q1' _ _,zl (zc _) Z Q2' _ _,za (zq Z _ _ _).2,(HRL.out _ _).ext _⟩ ?_;clear Q0' Q1' Q2';rintro w3 ⟨B',P,R,q0,q1,q2,Z',hrl⟩;clear HRL;have HRL:=Hd (fun o r=>zg (zc _) hrl P R o r);clear hrl;(clear HW0 HW1 HW2 B Z;have e1:=zj P R;rw [<- e1];clear e1;have HW0:=Hd (fun o r=>zg (zf _) q0 P R o r);have HW1:=Hd (fun o r=>zg (zc _) q1 P R o r);have HW2:=Hd (fun o r=>zg (zc _) q2 P R o r);have B:=B';have Z:=Z';(try clear Zp);have Zp:=Nat.lt_of_succ_lt Z;clear B' Z' P R q0 q1 q2))
   (repeat (first|go_skip|go_guarded|go_step|go_upon|go_back))
   go_roundw
   case rel=>exact ⟨n+1,m2,by go_num,by omega,(⟨_,_,_,_,_,_,zP B _ _,(zS Z _ _).1,(zS Z _ _).2,HW0.out _ _,HW1.out _ _,HW2.out _ _⟩ : MBx _ _ _),HRL.out _ _,HL.out⟩
   case measure=>simp [intOf];omega
  case neg =>
   have HL:=Hd (hl.each_end (by omega))
   (repeat (first|go_skip|go_guarded|go_step|go_upon|go_back))
   all_goals (obtain ⟨rfl,rfl⟩:=HL.out.end;refine bodyPost_ret (by simp [results,Tryz.results183,go_sem,Z];rfl) rfl ?_;exact ⟨_,rfl,⟨_,_,_,rfl,HW0.out _ _,HW1.out _ _,HW2.out _ _⟩,zP B _ _⟩)
end Go.Proofs.YtpnoehpmgflibaaGreatDoor
