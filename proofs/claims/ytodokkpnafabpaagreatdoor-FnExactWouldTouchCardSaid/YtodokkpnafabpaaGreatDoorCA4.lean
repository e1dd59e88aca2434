/- Texts of this claim, merged: the walks and what they stand on. Each condition stands in its theorem. -/
import Derived.Lib.AppendIntMem
import Derived.Lib.AtoiAllCases
import Derived.Lib.HexFns
import Derived.Lib.ItoaNum
import Derived.Lib.ShelfFacts
import Derived.Test.YtodokkpnafabpaaGreatDoorCA3
set_option linter.unusedVariables false
set_option linter.unusedSimpArgs false
set_option maxRecDepth 100000
set_option maxHeartbeats 8000000
namespace Go.Proofs.YtodokkpnafabpaaGreatDoor
open Go.ChangeShapes Go.WideShapes Go.ChangeAt Go.RowKit
theorem zbj:ByteT Tryz.prog 99 5:=ByteT.of Tryz.underlying99 Tryz.underlying5 (by kernel_rfl)
def zT (l:List UInt8):ByteArray:=⟨l.toArray⟩
theorem zU (l:List UInt8):(zT l).size=l.length:=by unfold zT;show l.toArray.size = _;simp
theorem zga (l:List UInt8):(zT l).data.toList=l:=by simp [zT]
def zfE (s:ByteArray):ByteArray:=if s.size<=20000 then zT (Lib.Hx.encode s.data.toList) else ⟨#[]⟩
theorem zch (s:ByteArray):(zfE s).size<=40000:=by
 unfold zfE
 split
 ·rw [zU,Lib.Hx.encode_length]
  have:s.data.toList.length=s.size:=by simp
  omega
 ·decide
theorem zdX {x:Nat} (h:x<10):Lib.Hx.digit x=UInt8.ofNat (48+x):=by
 match x,h with
 | 0,_|1,_|2,_|3,_|4,_|5,_|6,_|7,_|8,_|9,_=>rfl
theorem digit_hi {x:Nat} (h : 10<=x) (h2:x<16):Lib.Hx.digit x=UInt8.ofNat (87+x):=by
 rcases (by omega:x=10 ∨ x=11 ∨ x=12 ∨ x=13 ∨ x=14 ∨ x=15) with rfl|rfl|rfl|rfl|rfl|rfl<;>rfl
theorem zfL (w:World) (cs:Array Value) (t:TypeId) {b:Nat} (hb:b=w.heap.size):(w.alloc (.cells cs t)).heap[b]?=some (.cells cs t (0,0)):=by
 subst hb
 exact heap_alloc_new w _
theorem zdc (x:Int) (w:World) (h0 : 0<=x) (h1:x<16) :
  Calls Tryz.prog 170 #[.int .i64 x] w fun e w'=>e=.returned (.int .u8 ((Lib.Hx.digit x.toNat).toNat:Int))/\w=w':=by
 go_enter Tryz.func170,Tryz.ntmps170
 go_wp2
 all_goals go_ret
 ·refine ⟨zgB ?_,rfl⟩
  rw [zdX (by omega)]
  simp
  omega
 ·refine ⟨zgB ?_,rfl⟩
  rw [digit_hi (by omega) (by omega)]
  simp
  omega
theorem enc_snoc (l:List UInt8) (c:UInt8):Lib.Hx.encode (l ++ [c])=Lib.Hx.encode l ++ [Lib.Hx.digit (c.toNat / 16),Lib.Hx.digit (c.toNat % 16)]:=by
 simp [Lib.Hx.encode,List.flatMap_append]
theorem zeW (s:ByteArray) (w:World) (hs:s.size<=9223372036854775807) :
  Calls Tryz.prog 121 #[.string s] w fun e w'=>e=.returned (.tuple #[.string (zfE s),.bool (decide (s.size<=20000))])/\Below w.heap.size w w':=by
 go_enter Tryz.func121,Tryz.ntmps121
 by_cases hb:(20000:Int)<s.size
 ·go_wp2
  refine bodyPost_ret (by simp [results,Tryz.results121,go_sem];rfl) rfl ?_
  refine ⟨?_,(by repeat (with_reducible exact Below.refl _ _))⟩
  unfold zfE
  rw [if_neg (by omega),decide_eq_false (by omega)]
 go_wp2
 go_loopw [4,5] (fun o k wr=>∃ (n:Nat),k=.int .i64 n/\n<=s.size/\Below w.heap.size w wr/\OwnB 5 wr w.heap.size o (Lib.Hx.encode (s.data.toList.take n))) (fun _ k _=>s.size - (intOf k).toNat)
 case atStart=>exact ⟨0,rfl,by omega,(by repeat (first|with_reducible exact Below.refl _ _|with_reducible apply Below.ofAlloc)),OwnB.empty _ _⟩
 case round =>
  obtain ⟨n,rfl,hn,hbel,ho⟩:=hrel
  obtain ⟨X,rfl⟩:=hbel.ext
  by_cases hlt:(n:Int)<s.size
  case pos =>
   have hk:n<s.size:=by omega
   have hc1:(s[n].toNat:Int)<=255:=by have:=s[n].toNat_lt;omega
   have hc0 : 0<=(s[n].toNat:Int):=by omega
   have hst:=enc_snoc (s.data.toList.take n) s[n]
   rw [<- zcC s n hk] at hst
   have htm:((s[n].toNat:Int)).tmod 16=(s[n].toNat:Int) % 16:=Int.tmod_eq_emod_of_nonneg (by omega)
   have HTM:=Hd htm
   clear htm
   have HST:=Hd hst
   have hlen:(Lib.Hx.encode (s.data.toList.take n)).length<=40000:=by rw [Lib.Hx.encode_length];simp;omega
   have HLN:=Hd hlen
   clear hst hlen
   generalize Lib.Hx.encode (s.data.toList.take n)=l at *
   obtain ⟨oa,oc,rfl⟩:=ho.form
   have HO:=Hd ho
   clear ho
   go_wp2
   refine zag [(0,true),(1,true),(2,true),(3,true),(4,true),(5,true),(7,true),(8,true),(9,true),(10,true),(11,true),(6,false),(12,false),(13,false),(14,false),(15,false)] 14 (by kernel_rfl) (by kernel_rfl) ?_
   repeat (refine zm rfl (fun K hK=>?_);go_simp;(try simp (disch:=omega) only [IntWalk.i64_in]);refine hK _ ?_;clear hK K)
   rw [HTM.out]
   refine zt rfl (fun K hK=>?_);go_simp;go_at_call 170;refine (zdc _ _ (by omega) (by omega)).mono ?_;rintro e w' ⟨rfl,rfl⟩;try go_simp;refine hK _ _ (by show Sx _ _;repeat (with_reducible exact Sx.same _ _ _ _)) ?_;clear hK K
   refine zt rfl (fun K hK=>?_);go_simp;go_at_call 170;refine (zdc _ _ (by omega) (by omega)).mono ?_;rintro e w' ⟨rfl,rfl⟩;try go_simp;refine hK _ _ (by show Sx _ _;repeat (with_reducible exact Sx.same _ _ _ _)) ?_;clear hK K
   refine zt rfl (fun K hK=>?_);go_simp;refine hK _ _ (by show Sx _ _;repeat (first|with_reducible exact Sx.same _ _ _ _|with_reducible apply Sx.alloc)) ?_;clear hK K
   refine zw rfl rfl (fun K hK=>?_)
   rw [if_pos (by rfl)]
   refine zjj _ zbj (.tmp 16) (.tmp 29) rfl (B:=w.heap.size) (l:=l) (m:=[Lib.Hx.digit (s[n].toNat / 16),Lib.Hx.digit (s[n].toNat % 16)]) ((OwnB.same HO.out).alloc _) rfl (vx:=.slice (some ⟨w.heap.size+X.bs.size,0,none⟩) 2 2) ?_ rfl (by have:=HLN.out;simp;omega) (by simp [zn];omega) ?_
   ·refine zdv (t:=5) (f:=(0,0)) (zfL _ _ _ (by simp [zn])) (by decide)
   intro v4 w4 hown4 hgr4
   refine hK _ _ ?_
   clear hK K
   have hb4:Below w.heap.size w w4:=Below.appB (by repeat (first|with_reducible exact Below.refl _ _|with_reducible apply Below.ofExt|with_reducible apply Below.ofAlloc)) hgr4 ((OwnB.same HO.out).alloc _)
   repeat (refine zw rfl rfl (fun K hK=>?_);go_simp;refine hK _ _ ?_;clear hK K)
   refine zaf ?_
   go_wp2
   go_roundw
   case rel=>exact ⟨n+1,by go_num,by omega,hb4,by rw [HST.out];exact hown4⟩
   case measure=>simp [intOf];omega
  case neg =>
   have e:n=s.size:=by omega
   subst e
   rw [List.take_of_length_le (by simp)] at ho
   have hr:=zaB (P:=Tryz.prog) (w.ext X) zbj Tryz.underlying9 ho.sl
   obtain ⟨oa,oc,rfl⟩:=ho.form
   clear ho
   go_wp2
   refine bodyPost_ret (by simp [results,Tryz.results121,go_sem];rfl) rfl ?_
   refine ⟨?_,(by repeat (first|with_reducible exact Below.refl _ _|with_reducible apply Below.ofExt))⟩
   unfold zfE
   rw [if_pos (by omega),decide_eq_true (by omega)]
   rfl
theorem zj4 (w:World) (c:UInt8) (x:Int) (hx:x=(c.toNat:Int)) (b:Nat) (hb:b=w.heap.size) :
  Sem.run Tryz.prog (convert 99 9 (.slice (some ⟨b,0,none⟩) 1 1)) (w.alloc (.cells #[.int .u8 x] 5))=.ok (.string ⟨#[c]⟩) (w.alloc (.cells #[.int .u8 x] 5)):=by
 subst hb hx
 refine run_convert_bytes_back (w:=w.alloc (.cells #[.int .u8 (c.toNat:Int)] 5)) (P:=Tryz.prog) 99 9 5 ⟨w.heap.size,0,none⟩ 1 [c] Tryz.underlying99 Tryz.underlying5 Tryz.underlying9 ?_
 intro j hj
 have:j=0:=by simpa using hj
 subst this
 show (w.alloc _).cell? ⟨w.heap.size,0,none⟩ = _
 simp [go_sem]
def zib (m:Nat):List UInt8:=if m=0 then [] else Lib.decDigits m
theorem zfG {m:Nat} (h:m ≠ 0):zib m=zib (m / 10) ++ [Lib.Hx.digit (m % 10)]:=by
 unfold zib
 rw [if_neg h,Lib.decDigits]
 split
 ·rename_i h1
  rw [if_pos (by omega),Nat.mod_eq_of_lt h1,zdX h1]
  rfl
 ·rw [if_neg (by omega),zdX (by omega)]
theorem dec0_len:∀ (m:Nat),(zib m).length<=m / 2+1:=by
 intro m
 induction m using Nat.strongRecOn with
 | ind m ih =>
  by_cases h:m=0
  ·subst h;simp [zib]
  ·rw [zfG h,List.length_append]
   by_cases h2:m<10
   ·rw [show m / 10=0 by omega]
    simp [zib]
   ·have:=ih (m / 10) (by omega)
    simp
    omega
theorem ze1 (m:Nat):(Lib.decDigits m).length<=m / 2+1:=by
 by_cases h:m=0
 ·subst h
  rw [Lib.decDigits,dif_pos (by decide)]
  simp
 ·have:=dec0_len m
  unfold zib at this
  rwa [if_neg h] at this
theorem zcV (c:UInt8) (l:List UInt8):(⟨#[c]⟩ : ByteArray)++zT l=zT (c :: l):=by
 apply ByteArray.ext
 simp [zT,ByteArray.data_append]
theorem zjK:Lib.itoa 0 = [48]:=by
 unfold Lib.itoa
 rw [if_neg (by decide),Lib.decDigits,dif_pos (by decide)]
 rfl
theorem zbn (n:Int) (w:World) (h0 : -9223372036854775808<=n) (h1:n<=9223372036854775807) :
  Calls Tryz.prog 136 #[.int .i64 n] w fun e w'=>e=.returned (.string (zT (Lib.itoa n)))/\Below w.heap.size w w':=by
 go_enter Tryz.func136,Tryz.ntmps136
 by_cases hz:n=0
 ·subst hz
  go_wp2
  go_ret
  refine ⟨?_,(by repeat (with_reducible exact Below.refl _ _))⟩
  rw [zjK]
  rfl
 have hzb:(n==0)=false:=by simpa using hz
 by_cases hn:n<0
 ·have hi:Lib.itoa n=45 :: Lib.decDigits n.natAbs:=by unfold Lib.itoa;rw [if_pos hn]
  obtain ⟨N,hN⟩ : ∃ N:Nat,n = -(N:Int):=⟨n.natAbs,by omega⟩
  subst hN
  rw [show (-(N:Int)).natAbs=N by omega] at hi
  have HI:=Hd hi
  clear hi
  go_wp2
  go_loopw [0,4] (fun k o wr=>∃ (m:Nat) (l:List UInt8),k=.int .i64 (-(m:Int))/\m<=9223372036854775808/\o=.string (zT l)/\zib m++l=Lib.decDigits N/\Below w.heap.size w wr) (fun k _ _=>(intOf k).natAbs)
  case atStart=>exact ⟨N,[],rfl,by omega,rfl,by simp [zib];omega,(by repeat (with_reducible exact Below.refl _ _))⟩
  case round =>
   obtain ⟨m,l,rfl,hm,rfl,hd,hbel⟩:=hrel
   obtain ⟨X,rfl⟩:=hbel.ext
   have hll:(zT l).size<=4611686018427387910:=by
    have:=ze1 N
    rw [<- hd,List.length_append] at this
    rw [zU]
    omega
   have HD:=Hd hd
   clear hd
   by_cases hmz:m=0
   ·subst hmz
    rw [show (-((0:Nat):Int))=0 from rfl]
    go_wp2
    go_ret
    refine ⟨?_,(by repeat (first|with_reducible exact Below.refl _ _|with_reducible apply Below.ofExt))⟩
    have:=HD.out
    simp only [zib,if_true,List.nil_append] at this
    rw [HI.out,<- this,<- zcV]
    rfl
   ·have hst:=zfG hmz
    have HST:=Hd hst
    clear hst
    have hrel2:zib (m / 10)++(Lib.Hx.digit (m % 10) :: l)=Lib.decDigits N:=by
     rw [<- HD.out,HST.out,List.append_assoc]
     rfl
    have HR:=Hd hrel2
    clear hrel2
    by_cases hd0:m % 10=0
    ·have hdi:(m:Int) % 10=0:=by omega
     have hk:=zj4 (w.ext X) (Lib.Hx.digit (m % 10)) 48 (by rw [hd0];rfl) (w.heap.size+X.bs.size) (by rw [zn])
     rw [hd0] at hk HR
     go_wp2
     go_roundw
     case rel=>exact ⟨m / 10,_,by go_num,by omega,by rw [zcV],HR.out,(by repeat (first|with_reducible exact Below.refl _ _|with_reducible apply Below.ofExt|with_reducible apply Below.ofAlloc))⟩
     case measure=>simp [intOf];omega
    ·have hk:=zj4 (w.ext X) (Lib.Hx.digit (m % 10)) (48+(m:Int) % 10) (by rw [zdX (by omega)];simp;omega) (w.heap.size+X.bs.size) (by rw [zn])
     have hpos : 0<(m:Int) % 10:=by omega
     have HD0:=Hd hd0
     clear hd0
     go_wp2
     go_roundw
     case rel=>exact ⟨m / 10,_,by go_num,by omega,by rw [zcV],HR.out,(by repeat (first|with_reducible exact Below.refl _ _|with_reducible apply Below.ofExt|with_reducible apply Below.ofAlloc))⟩
     case measure=>simp [intOf];omega
 ·have hi:Lib.itoa n=Lib.decDigits n.toNat:=by unfold Lib.itoa;rw [if_neg hn]
  obtain ⟨N,hN⟩ : ∃ N:Nat,n=(N:Int):=⟨n.toNat,by omega⟩
  subst hN
  rw [Int.toNat_natCast] at hi
  have HI:=Hd hi
  clear hi
  go_wp2
  go_loopw [0,4] (fun k o wr=>∃ (m:Nat) (l:List UInt8),k=.int .i64 (m:Int)/\m<=9223372036854775808/\o=.string (zT l)/\zib m++l=Lib.decDigits N/\Below w.heap.size w wr) (fun k _ _=>(intOf k).natAbs)
  case atStart=>exact ⟨N,[],rfl,by omega,rfl,by simp [zib];omega,(by repeat (with_reducible exact Below.refl _ _))⟩
  case round =>
   obtain ⟨m,l,rfl,hm,rfl,hd,hbel⟩:=hrel
   obtain ⟨X,rfl⟩:=hbel.ext
   have hll:(zT l).size<=4611686018427387910:=by
    have:=ze1 N
    rw [<- hd,List.length_append] at this
    rw [zU]
    omega
   have HD:=Hd hd
   clear hd
   by_cases hmz:m=0
   ·subst hmz
    rw [show ((0:Nat):Int)=0 from rfl]
    go_wp2
    go_ret
    refine ⟨?_,(by repeat (first|with_reducible exact Below.refl _ _|with_reducible apply Below.ofExt))⟩
    have:=HD.out
    simp only [zib,if_true,List.nil_append] at this
    rw [HI.out,<- this]
    rfl
   ·have hst:=zfG hmz
    have HST:=Hd hst
    clear hst
    have hrel2:zib (m / 10)++(Lib.Hx.digit (m % 10) :: l)=Lib.decDigits N:=by
     rw [<- HD.out,HST.out,List.append_assoc]
     rfl
    have HR:=Hd hrel2
    clear hrel2
    have hk:=zj4 (w.ext X) (Lib.Hx.digit (m % 10)) (48+(m:Int) % 10) (by rw [zdX (by omega)];simp;omega) (w.heap.size+X.bs.size) (by rw [zn])
    go_wp2
    go_roundw
    case rel=>exact ⟨m / 10,_,by go_num,by omega,by rw [zcV],HR.out,(by repeat (first|with_reducible exact Below.refl _ _|with_reducible apply Below.ofExt|with_reducible apply Below.ofAlloc))⟩
    case measure=>simp [intOf];omega
theorem zeu (w:World) (s:ByteArray) (hs:s.size<=9223372036854775807) :
  ∃ v w1,Sem.run Tryz.prog (convert 9 99 (.string s)) w=.ok v w1/\OwnB 5 w1 w.heap.size v s.data.toList/\Below w.heap.size w w1:=by
 refine ⟨_,_,run_bytes_of_string w 9 99 5 s Tryz.underlying9 Tryz.underlying99 Tryz.underlying5,OwnB.ofString 5 w s hs,?_⟩
 exact (Below.refl _ _).drew.alloc (Nat.le_refl _) _
theorem zio (w:World) (c:UInt8) (x:Int) (hx:x=(c.toNat:Int)) (t:TypeId) (b:Nat) (hb:b=w.heap.size):Sl (w.alloc (.cells #[.int .u8 x] t)) (.slice (some ⟨b,0,none⟩) 1 1) ([c]:List UInt8).length (zX [c]):=by
 subst hx
 exact zdv (t:=t) (f:=(0,0)) (zfL _ _ _ hb) (by decide)
def bsum (l:List UInt8):Int:=l.foldl (fun n c=>(31*n+(c.toNat:Int)) % 9973) 7
theorem itoa_len (n:Int) (h0 : -9223372036854775808<=n) (h1:n<=9223372036854775807):(Lib.itoa n).length<=4611686018427387920:=by
 unfold Lib.itoa
 split
 ·have:=ze1 n.natAbs
  rw [List.length_cons]
  omega
 ·have:=ze1 n.toNat
  omega
theorem zjS (x a b:Int) (w:World):Calls Tryz.prog 140 #[.int .i64 x,.int .i64 a,.int .i64 b] w fun e w'=>e=.returned (.bool (inB x a b))/\w=w':=(zac x a b w).mono fun e w' h=>⟨h.1,h.2.symm⟩
def recAdd (acc:List UInt8) (c:CellD):List UInt8:=acc++32 :: ((zfE c.key).data.toList++61 :: (zfE c.val).data.toList)
def recOne (acc:List UInt8) (c:CellD):Bool:=zcz c.key && (decide ((c.val.size:Int)<=60) && decide ((acc.length:Int)<=4000))
def recGo:List UInt8->List CellD->Option (List UInt8)
 | acc,[]=>some acc
 | acc,c :: cs=>if recOne acc c then recGo (recAdd acc c) cs else none
def recEnd (l:List UInt8):List UInt8:=l++32 :: 35 :: (Lib.itoa (bsum l) ++ [10])
def recText (seq:Int) (cs:List CellD):ByteArray :=
 if inB seq 1 100000 then
  match recGo (Lib.itoa seq) cs with
  | none=>⟨#[]⟩
  | some l=>if ((recEnd l).length:Int)<=4000 then zT (recEnd l) else ⟨#[]⟩
 else ⟨#[]⟩
def zgn (s:ByteArray):List UInt8:=Lib.Hx.encode s.data.toList
theorem zhB (u:Nat) (h:u<10):UInt8.ofNat (48+u) ≠ 32/\UInt8.ofNat (48+u) ≠ 61/\(UInt8.ofNat (48+u)).toNat=48+u:=by
 have hall:∀ x:Fin 10,UInt8.ofNat (48+x.val) ≠ 32/\UInt8.ofNat (48+x.val) ≠ 61/\(UInt8.ofNat (48+x.val)).toNat=48+x.val:=by decide
 exact hall ⟨u,h⟩
theorem zge (c:UInt8):∀ (l:List UInt8) (acc u:Nat),Lib.parseUint10 acc l=.ok u->Lib.parseUint10 acc (l ++ [c])=Lib.parseUint10 u [c]
 | [],acc,u,h=>by
  simp only [Lib.parseUint10] at h
  injection h with h
  rw [h]
  rfl
 | b :: l,acc,u,h=>by
  simp only [Lib.parseUint10,List.cons_append] at h ⊢
  split at h
  ·rename_i h1
   rw [if_pos h1]
   split at h
   ·cases h
   ·rename_i h2
    rw [if_neg h2]
    split at h
    ·cases h
    ·rename_i h3
     rw [if_neg h3]
     exact zge c l _ u h
  ·cases h
theorem zjx (u:Nat) (h:u<=1000000000):Lib.parseUint10 0 (Lib.decDigits u)=.ok u:=by
 induction u using Nat.strongRecOn with
 | _ u ih =>
  rw [Lib.decDigits]
  split
  ·rename_i h1
   have hd:=(zhB u h1).2.2
   simp only [Lib.parseUint10]
   rw [hd,if_pos (by omega),if_neg (by omega),if_neg (by omega)]
   congr 1
   omega
  ·rename_i h1
   have hd:=(zhB (u % 10) (by omega)).2.2
   rw [zge _ _ _ _ (ih (u / 10) (by omega) (by omega))]
   simp only [Lib.parseUint10]
   rw [hd,if_pos (by omega),if_neg (by omega),if_neg (by omega)]
   congr 1
   omega
theorem zj1 (u:Nat):∃ c r,Lib.decDigits u=c :: r/\48<=c.toNat/\c.toNat<=57:=by
 induction u using Nat.strongRecOn with
 | _ u ih =>
  rw [Lib.decDigits]
  split
  ·rename_i h
   have hd:=(zhB u h).2.2
   exact ⟨_,[],rfl,by omega,by omega⟩
  ·obtain ⟨c,r,e,h1,h2⟩:=ih (u / 10) (by omega)
   exact ⟨c,r ++ [_],by rw [e];rfl,h1,h2⟩
theorem zfI (n:Int) (h0 : 0<=n) (h1:n<=1000000000):Lib.atoiAll (Lib.itoa n)=.ok n:=by
 obtain ⟨u,rfl⟩:=Int.eq_ofNat_of_zero_le h0
 unfold Lib.itoa
 rw [if_neg (by omega),Int.toNat_natCast]
 have hp:=zjx u (by omega)
 obtain ⟨c,r,e,a,b⟩:=zj1 u
 rw [e] at hp ⊢
 rw [Lib.atoiAll_plain c r (by omega) (by omega)]
 unfold Lib.parseMag
 rw [if_neg (by simp),hp]
 unfold Lib.signless
 simp only
 rw [if_neg (by omega)]
def wordL (c:CellD):List UInt8:=zgn c.key++61 :: zgn c.val
def unhexI (l:List UInt8):List UInt8:=match Lib.Hx.decode l with
 | (d,.ok)=>if d.length<=20000/\Lib.Hx.encode d=l then d else []
 | _=>[]
def numI (l:List UInt8):Int:=match Lib.atoiAll l with
 | .ok n=>if (0<=n/\n<=1000000000)/\Lib.itoa n=l then n else 0
 | _=>0
def cellI (w:List UInt8):CellD:=⟨zT (unhexI (Lib.cut w [61]).1),zT (unhexI (Lib.cut w [61]).2.1)⟩
theorem zaP (s:ByteArray):zT s.data.toList=s:=by
 apply ByteArray.ext
 simp [zT]
def seqI (ws:List (List UInt8)):Int:=numI (ws.headD [])
def listI (ws:List (List UInt8)):List CellD:=((ws.drop 1).take (ws.length - 2)).map cellI
def readI (t:ByteArray):Option (Int × List CellD) :=
 if t.size ≠ 0/\recText (seqI (zbl 32 t.data.toList)) (listI (zbl 32 t.data.toList))=t then some (seqI (zbl 32 t.data.toList),listI (zbl 32 t.data.toList)) else none
def Unh (l:List UInt8) (r:ByteArray):Prop:=∀ s:ByteArray,s.size<=20000->l=zgn s->r=s
def Num (l:List UInt8) (n:Int) (ok:Bool):Prop:=(0<=n/\n<=1000000000)/\∀ m:Int,1<=m->m<=100000->l=Lib.itoa m->n=m/\ok=true
def CellR (word:List UInt8) (c:CellD):Prop:=∀ d:CellD,d.key.size<=40->d.val.size<=60->word=wordL d->c=d
def ReadsTo (ws:List (List UInt8)) (cs:List CellD):Prop:=∃ zs:List (List UInt8 × CellD),zs.map (·.1)=ws/\zs.map (·.2)=cs/\∀ z ∈ zs,CellR z.1 z.2
theorem ReadsTo.length {ws:List (List UInt8)} {cs:List CellD} (h:ReadsTo ws cs):cs.length=ws.length:=by
 obtain ⟨zs,rfl,rfl,_⟩:=h
 simp
def zdx (c:UInt8):Int:=if 48<=(c.toNat:Int)/\(c.toNat:Int)<=57 then c.toNat - 48 else if 97<=(c.toNat:Int)/\(c.toNat:Int)<=102 then c.toNat - 97+10 else -1
theorem zf8 (x:Nat) (h:x<16):zdx (Lib.Hx.digit x)=x:=by
 have hall:∀ x:Fin 16,zdx (Lib.Hx.digit x.val)=(x.val:Int):=by decide
 exact hall ⟨x,h⟩
theorem zgx (c:UInt8) : -1<=zdx c/\zdx c<=15:=by
 unfold zdx
 split
 ·omega
 ·split
  ·omega
  ·omega
theorem zjZ:∀ (l:List UInt8) (m:Nat) (h:m<l.length),(Lib.Hx.encode l)[2*m]?=some (Lib.Hx.digit (l[m].toNat / 16))/\(Lib.Hx.encode l)[2*m+1]?=some (Lib.Hx.digit (l[m].toNat % 16))
 | [],m,h=>by simp at h
 | c :: l,0,_=>by simp [Lib.Hx.encode]
 | c :: l,m+1,h=>by
  have ih:=zjZ l m (by simpa using h)
  have e:Lib.Hx.encode (c :: l)=Lib.Hx.digit (c.toNat / 16) :: Lib.Hx.digit (c.toNat % 16) :: Lib.Hx.encode l:=by simp [Lib.Hx.encode]
  rw [e,show 2*(m+1)=2*m+1+1 by omega,List.getElem?_cons_succ,List.getElem?_cons_succ,List.getElem?_cons_succ,List.getElem?_cons_succ]
  simpa using ih
theorem zgS (t:ByteArray):(zgn t).length=2*t.size:=by
 unfold zgn
 rw [Lib.Hx.encode_length]
 have:t.data.toList.length=t.size:=by simp
 omega
def UnhTo (L acc:List UInt8) (m:Nat):Prop:=(∀ t:ByteArray,L=zgn t->acc=t.data.toList.take m)/\Lib.Hx.encode acc=L.take (2*m)
theorem UnhTo.nil (L:List UInt8):UnhTo L [] 0:=⟨fun t _=>by simp,by simp [Lib.Hx.encode]⟩
theorem zg6 (c:UInt8) (h : 0<=zdx c):Lib.Hx.digit (zdx c).toNat=c:=by
 have hall:∀ c:Fin 256,0<=zdx (UInt8.ofNat c.val)->Lib.Hx.digit (zdx (UInt8.ofNat c.val)).toNat=UInt8.ofNat c.val:=by decide
 have:=hall ⟨c.toNat,c.toNat_lt⟩
 simp only [UInt8.ofNat_toNat] at this
 exact this h
theorem unh_at {L:List UInt8} {t:ByteArray} {m:Nat} (h : 2*m+1<L.length) (e:L=zgn t):∃ hm:m<t.data.toList.length,zdx (L[2*m]'(by omega))=((t.data.toList[m].toNat / 16:Nat):Int)/\zdx L[2*m+1]=((t.data.toList[m].toNat % 16:Nat):Int):=by
 subst e
 have hm:m<t.data.toList.length:=by
  rw [zgS] at h
  have:t.data.toList.length=t.size:=by simp
  omega
 have hg:=zjZ t.data.toList m hm
 have hb:=t.data.toList[m].toNat_lt
 have h1:=List.getElem?_eq_getElem (l:=zgn t) (i:=2*m) (by omega)
 have h2:=List.getElem?_eq_getElem (l:=zgn t) (i:=2*m+1) h
 have e1:(zgn t)[2*m]'(by omega)=Lib.Hx.digit (t.data.toList[m].toNat / 16):=Option.some.inj (h1.symm.trans hg.1)
 have e2:(zgn t)[2*m+1]=Lib.Hx.digit (t.data.toList[m].toNat % 16):=Option.some.inj (h2.symm.trans hg.2)
 refine ⟨hm,?_,?_⟩
 ·rw [e1,zf8 _ (by omega)]
 ·rw [e2,zf8 _ (by omega)]
theorem UnhTo.step {L acc:List UInt8} {m:Nat} (H:UnhTo L acc m) (h : 2*m+1<L.length) {c:UInt8} (hc:(c.toNat:Int)=16*zdx (L[2*m]'(by omega))+zdx L[2*m+1]) (h1 : 0<=zdx (L[2*m]'(by omega))) (h2 : 0<=zdx L[2*m+1]):UnhTo L (acc ++ [c]) (m+1):=by
 refine ⟨?_,?_⟩
 case refine_2 =>
  have l1:=zgx (L[2*m]'(by omega))
  have l2:=zgx L[2*m+1]
  have d1:c.toNat / 16=(zdx (L[2*m]'(by omega))).toNat:=by omega
  have d2:c.toNat % 16=(zdx L[2*m+1]).toNat:=by omega
  have e1:Lib.Hx.encode (acc ++ [c])=Lib.Hx.encode acc ++ [Lib.Hx.digit (c.toNat / 16),Lib.Hx.digit (c.toNat % 16)]:=by simp [Lib.Hx.encode]
  rw [e1,d1,d2,zg6 _ h1,zg6 _ h2,H.2,show 2*(m+1)=2*m+1+1 from by omega,List.take_succ_eq_append_getElem h,List.take_succ_eq_append_getElem (by omega : 2*m<L.length),List.append_assoc]
  rfl
 intro t e
 obtain ⟨hm,e1,e2⟩:=unh_at h e
 rw [e1,e2] at hc
 rw [H.1 t e,List.take_succ_eq_append_getElem hm]
 congr 2
 apply UInt8.toNat_inj.1
 omega
theorem UnhTo.bad {L:List UInt8} {m:Nat} (h : 2*m+1<L.length) (hb:zdx (L[2*m]'(by omega))<0 ∨ zdx L[2*m+1]<0) (r:ByteArray):Unh L r:=by
 intro t _ e
 obtain ⟨hm,e1,e2⟩:=unh_at h e
 rw [e1,e2] at hb
 omega
theorem UnhTo.all {L acc:List UInt8} {m:Nat} (H:UnhTo L acc m) (h:L.length<=2*m):Unh L (zT acc):=by
 intro t _ e
 have h2:=zgS t
 rw [<- e] at h2
 have:t.data.toList.length=t.size:=by simp
 rw [H.1 t e,List.take_of_length_le (by omega),zaP]
theorem UnhTo.back {L acc:List UInt8} {m:Nat} (H:UnhTo L acc m) (h:L.length<=2*m):L=zgn (zT acc):=by
 have:=H.2
 rw [List.take_of_length_le h] at this
 rw [<- this]
 rfl
theorem Unh.long {L:List UInt8} (h : 40000<L.length ∨ L.length % 2 ≠ 0) (r:ByteArray):Unh L r:=by
 intro t h1 e
 have:=zgS t
 rw [<- e] at this
 omega
def zg2 (l:List UInt8):Int:=l.foldl (fun a c=>10*a+(c.toNat - 48)) 0
def zi3 (c:UInt8):Prop:=48<=c.toNat/\c.toNat<=57
theorem zg7 (l:List UInt8) (c:UInt8):zg2 (l ++ [c])=10*zg2 l+(c.toNat - 48):=by simp [zg2,List.foldl_append]
theorem dec_val (u:Nat):zg2 (Lib.decDigits u)=u/\∀ c ∈ Lib.decDigits u,zi3 c:=by
 induction u using Nat.strongRecOn with
 | _ u ih =>
  rw [Lib.decDigits]
  split
  ·rename_i h
   have hd:=(zhB u h).2.2
   refine ⟨?_,fun c hc=>?_⟩
   ·show 10*(0:Int)+((UInt8.ofNat (48+u)).toNat - 48)=u
    rw [hd]
    omega
   ·rw [List.mem_singleton.1 hc]
    unfold zi3
    omega
  ·rename_i h
   have hd:=(zhB (u % 10) (by omega)).2.2
   obtain ⟨h1,h2⟩:=ih (u / 10) (by omega)
   refine ⟨?_,fun c hc=>?_⟩
   ·rw [zg7,h1,hd]
    omega
   ·rcases List.mem_append.1 hc with hc|hc
    ·exact h2 c hc
    ·rw [List.mem_singleton.1 hc]
     unfold zi3
     omega
theorem zj0:∀ (k u:Nat),u<10 ^ (k+1)->(Lib.decDigits u).length<=k+1
 | 0,u,h=>by
  rw [Lib.decDigits,dif_pos (by omega)]
  simp
 | k+1,u,h=>by
  rw [Lib.decDigits]
  split
  ·simp
  ·have:=zj0 k (u / 10) (by rw [Nat.pow_succ] at h;omega)
   rw [List.length_append,List.length_singleton]
   omega
theorem zc1 {m:Int} (h0 : 0<=m) (h1:m<=1000000000):zg2 (Lib.itoa m)=m/\(∀ c ∈ Lib.itoa m,zi3 c)/\(Lib.itoa m).length<=10:=by
 unfold Lib.itoa
 rw [if_neg (by omega)]
 obtain ⟨a,b⟩:=dec_val m.toNat
 exact ⟨by rw [a];omega,b,zj0 9 _ (by omega)⟩
theorem Num.long {l:List UInt8} (h : 10<l.length):Num l 0 false:=by
 refine ⟨by omega,fun m h1 h2 e=>?_⟩
 have:=(zc1 (m:=m) (by omega) (by omega)).2.2
 rw [<- e] at this
 omega
theorem Num.bad {l:List UInt8} {c:UInt8} (hc:c ∈ l) (h:¬ zi3 c):Num l 0 false:=by
 refine ⟨by omega,fun m h1 h2 e=>?_⟩
 exact absurd ((zc1 (m:=m) (by omega) (by omega)).2.1 c (by rw [<- e];exact hc)) h
theorem Num.good {l:List UInt8} {n:Int} (h0 : 0<=n) (h1:n<=1000000000) (h:n=zg2 l):Num l n true:=by
 refine ⟨⟨h0,h1⟩,fun m a b e=>⟨?_,rfl⟩⟩
 have:=(zc1 (m:=m) (by omega) (by omega)).1
 rw [h,e,this]
theorem Num.other {l:List UInt8} {n:Int} (h:n=zg2 l) (h1 : 1000000000<n ∨ Lib.itoa n ≠ l):Num l 0 false:=by
 refine ⟨by omega,fun m a b e=>?_⟩
 have:=(zc1 (m:=m) (by omega) (by omega)).1
 rw [<- e,<- h] at this
 subst this
 rcases h1 with h1|h1
 ·omega
 ·exact absurd e.symm h1
theorem zjm:∀ (l:List UInt8) (a:Int),0<=a->(∀ c ∈ l,zi3 c)->0<=l.foldl (fun (a:Int) (c:UInt8)=>10*a+(c.toNat - 48)) a/\l.foldl (fun (a:Int) (c:UInt8)=>10*a+(c.toNat - 48)) a+1<=(a+1)*10 ^ l.length
 | [],a,h,_=>by simp;omega
 | c :: l,a,h,hd=>by
  have hc:=hd c (by simp)
  unfold zi3 at hc
  obtain ⟨h1,h2⟩:=zjm l (10*a+(c.toNat - 48)) (by omega) (fun d hm=>hd d (List.mem_cons_of_mem _ hm))
  refine ⟨h1,Int.le_trans h2 ?_⟩
  rw [List.length_cons,Int.pow_succ,Int.mul_comm (10 ^ l.length) 10,<- Int.mul_assoc]
  refine Int.mul_le_mul_of_nonneg_right (by omega) (Int.le_of_lt (Int.pow_pos (by decide)))
theorem valD_bd (l:List UInt8) (h:∀ c ∈ l,zi3 c) : 0<=zg2 l/\zg2 l<10 ^ l.length:=by
 have:=zjm l 0 (by omega) h
 unfold zg2
 omega
theorem ziL {l:List UInt8} (h:∀ n,Lib.atoiAll l ≠ .ok n):Num l 0 false:=by
 refine ⟨by omega,fun m h1 h2 e=>?_⟩
 exact absurd (zfI m (by omega) (by omega)) (by rw [<- e];exact h m)
theorem Num.atoiOk {l:List UInt8} {n:Int} (h:Lib.atoiAll l=.ok n) (h0 : 0<=n) (h1:n<=1000000000):Num l n true:=by
 refine ⟨⟨h0,h1⟩,fun m a b e=>⟨?_,rfl⟩⟩
 have:=zfI m (by omega) (by omega)
 rw [<- e,h] at this
 injection this
theorem zgs {l:List UInt8} {n:Int} (h:Lib.atoiAll l=.ok n) (h1:n<0 ∨ 1000000000<n ∨ Lib.itoa n ≠ l):Num l 0 false:=by
 refine ⟨by omega,fun m a b e=>?_⟩
 have:=zfI m (by omega) (by omega)
 rw [<- e,h] at this
 injection this with this
 subst this
 rcases h1 with h1|h1|h1
 ·omega
 ·omega
 ·exact absurd e.symm h1
theorem Unh.dec {l d:List UInt8} (h:Lib.Hx.decode l=(d,.ok)):Unh l (zT d):=by
 intro t _ e
 subst e
 unfold zgn at h
 rw [Lib.Hx.decode_encode] at h
 injection h with h
 rw [<- h,zaP]
theorem Unh.no {l d:List UInt8} {x} (h:Lib.Hx.decode l=(d,x)) (h1:x ≠ .ok ∨ 20000<d.length ∨ Lib.Hx.encode d ≠ l) (r:ByteArray):Unh l r:=by
 intro t ht e
 subst e
 unfold zgn at h
 rw [Lib.Hx.decode_encode] at h
 injection h with h h2
 subst h
 subst h2
 rcases h1 with h1|h1|h1
 ·exact absurd rfl h1
 ·have:t.data.toList.length=t.size:=by simp
  omega
 ·exact absurd rfl h1
def CutTo (c:UInt8) (L:List UInt8) (xs:List ByteArray) (b i:Nat):Prop :=
 (i<=L.length/\b<=i/\c ∉ (L.drop b).take (i - b)/\xs.map (·.data.toList)++zbl c (L.drop b)=zbl c L) ∨ (i=L.length+1/\xs.map (·.data.toList)=zbl c L)
theorem CutTo.cut {c:UInt8} {L:List UInt8} {xs:List ByteArray} {b i:Nat} (h:CutTo c L xs b i) (hi:i<L.length) (hc:L[i]=c) {s:ByteArray} (hs:s.data.toList=(L.drop b).take (i - b)):CutTo c L (xs ++ [s]) (i+1) (i+1):=by
 rcases h with ⟨h1,h2,h3,h4⟩|⟨h,_⟩
 ·refine .inl ⟨by omega,by omega,by simp,?_⟩
  have e:L.drop b=(L.drop b).take (i - b)++c :: L.drop (i+1):=by
   conv=>lhs;rw [<- List.take_append_drop (i - b) (L.drop b)]
   rw [List.drop_drop,show b+(i - b)=i by omega,List.drop_eq_getElem_cons hi,hc]
  rw [e,zgb c _ _ h3] at h4
  rw [List.map_append,List.append_assoc,<- h4,<- hs]
  rfl
 ·omega
def UnhP (s:ByteArray) (w:World) (e:Ending) (w':World):Prop:=∃ r b,e=.returned (.tuple #[.string r,.bool b])/\r.size<=20000/\Unh s.data.toList r/\Below w.heap.size w w'/\(b=true->s.data.toList=zgn r)/\(b=false->r=⟨#[]⟩/\∀ q,Unh s.data.toList q)
theorem UnhP.mk {s r:ByteArray} {w w':World} (h1:r.size<=20000) (h2:Unh s.data.toList r) (h3:Below w.heap.size w w') (h4:s.data.toList=zgn r):UnhP s w (.returned (.tuple #[.string r,.bool true])) w':=⟨r,true,rfl,h1,h2,h3,(fun _=>h4),(fun h=>by cases h)⟩
theorem UnhP.no {s:ByteArray} {w w':World} (h2:∀ q,Unh s.data.toList q) (h3:Below w.heap.size w w'):UnhP s w (.returned (.tuple #[.string ⟨#[]⟩,.bool false])) w':=⟨⟨#[]⟩,false,rfl,by decide,h2 _,h3,(fun h=>by cases h),(fun _=>⟨rfl,h2⟩)⟩
def NumP (s:ByteArray) (w:World) (e:Ending) (w':World):Prop:=∃ n b,e=.returned (.tuple #[.int .i64 n,.bool b])/\Num s.data.toList n b/\Below w.heap.size w w'/\(b=true->Lib.itoa n=s.data.toList)
theorem NumP.mk {s:ByteArray} {n:Int} {w w':World} (h2:Num s.data.toList n true) (h3:Below w.heap.size w w') (h4:Lib.itoa n=s.data.toList):NumP s w (.returned (.tuple #[.int .i64 n,.bool true])) w':=⟨n,true,rfl,h2,h3,fun _=>h4⟩
theorem NumP.no {s:ByteArray} {w w':World} (h2:Num s.data.toList 0 false) (h3:Below w.heap.size w w'):NumP s w (.returned (.tuple #[.int .i64 0,.bool false])) w':=⟨0,false,rfl,h2,h3,fun h=>by cases h⟩
def SplP (t:TypeId) (c:UInt8) (s:ByteArray) (w:World) (e:Ending) (w':World):Prop:=∃ v xs,e=.returned v/\OwnL zx t w' w.heap.size v xs/\xs.map (·.data.toList)=zbl c s.data.toList/\Below w.heap.size w w'
theorem SplP.mk {t:TypeId} {c:UInt8} {s:ByteArray} {v:Value} {xs:List ByteArray} {w w':World} (h1:OwnL zx t w' w.heap.size v xs) (h2:xs.map (·.data.toList)=zbl c s.data.toList) (h3:Below w.heap.size w w'):SplP t c s w (.returned v) w':=⟨v,xs,rfl,h1,h2,h3⟩
def RrOk (s:ByteArray) (n:Int) (b:Bool) (cs:List CellD):Prop:=(b=true->readI s=some (n,cs))/\(b=false->n=0/\cs = []/\readI s=none)
structure CallD where
 kind:Int
 name:ByteArray
 to:ByteArray
 a:Int
 b:Int
 text:ByteArray
def CallD.row (d:CallD):List Value:=[.int .i64 d.kind,.string d.name,.string d.to,.int .i64 d.a,.int .i64 d.b,.string d.text]
def CallD.ok (d:CallD):Prop:=d.name.size<=9223372036854775807/\d.to.size<=9223372036854775807/\d.text.size<=9223372036854775807
def CallD.wt (d:CallD):Nat:=d.name.size+d.to.size+d.text.size
def vCall:View CallD:=vRow CallD.row 6 CallD.ok (fun _=>rfl) (fun d u hu=>by simp [CallD.row] at hu;rcases hu with rfl|rfl|rfl|rfl|rfl|rfl<;>rfl)
structure AnswerD where
 code:Int
 n:Int
 text:ByteArray
def AnswerD.row (d:AnswerD):List Value:=[.int .i64 d.code,.int .i64 d.n,.string d.text]
def AnswerD.ok (d:AnswerD):Prop:=d.text.size<=9223372036854775807
def AnswerD.wt (d:AnswerD):Nat:=d.text.size
def zjn:View AnswerD:=vRow AnswerD.row 3 AnswerD.ok (fun _=>rfl) (fun d u hu=>by simp [AnswerD.row] at hu;rcases hu with rfl|rfl|rfl<;>rfl)
end Go.Proofs.YtodokkpnafabpaaGreatDoor
namespace Go.Proofs.YtodokkpnafabpaaGreatDoor
open Go.ChangeShapes Go.WideShapes Go.ChangeAt Go.RowKit
structure MachD where
 cells:List CellD
 rd:List ByteArray
 wr:List ByteArray
inductive Mp (α : Type) where
 | ret (a : α)
 | look (k:ByteArray) (f:ByteArray->Mp α)
 | lay (k v:ByteArray) (n:Mp α)
 | under (p:ByteArray) (f:List ByteArray->Mp α)
def zhP:ByteArray:=⟨#[42]⟩
def zS (p:ByteArray) (cs:List CellD):List ByteArray:=(cs.filter fun c=>zaA c.key p).map (·.key)
namespace MachD
def look (m:MachD) (k:ByteArray):MachD:={ m with rd:=zbp m.rd k }
def lay (m:MachD) (k v:ByteArray):MachD:={ m with wr:=zbp m.wr k,cells:=zck k v m.cells }
def under (m:MachD) (p:ByteArray):MachD:={ m with rd:=zbp m.rd (p++zhP) }
end MachD
namespace Mp
variable {α β γ : Type}
def bind:Mp α->(α->Mp β)->Mp β
 | ret a,g=>g a
 | look k f,g=>look k fun x=>bind (f x) g
 | lay k v n,g=>lay k v (bind n g)
 | under p f,g=>under p fun x=>bind (f x) g
instance:Monad Mp where
 pure:=ret
 bind:=bind
def run:Mp α->MachD->α × MachD
 | ret a,m=>(a,m)
 | look k f,m=>run (f (zeG k m.cells)) (m.look k)
 | lay k v n,m=>run n (m.lay k v)
 | under p f,m=>run (f (zS p m.cells)) (m.under p)
structure Small (m:MachD):Prop where
 cl:m.cells.length<=549755813888
 rl:m.rd.length<=549755813888
 wl:m.wr.length<=549755813888
 cz:∀ c ∈ m.cells,c.key.size<=1048576/\c.val.size<=1048576
 rz:∀ s ∈ m.rd,s.size<=8388608
 wz:∀ s ∈ m.wr,s.size<=8388608
 rn:∀ s ∈ m.rd,s.size ≠ 0
 wn:∀ s ∈ m.wr,s.size ≠ 0
def fits:Mp α->MachD->Prop
 | ret _,m=>Small m
 | look k f,m=>Small m/\k.size<=4194304/\fits (f (zeG k m.cells)) (m.look k)
 | lay k v n,m=>Small m/\k.size<=4194304/\fits n (m.lay k v)
 | under p f,m=>Small m/\p.size<=4194304/\fits (f (zS p m.cells)) (m.under p)
theorem run_bind (x:Mp α) (f : α->Mp β) (m:MachD):(x >>= f).run m=(f (x.run m).1).run (x.run m).2:=by
 show (bind x f).run m = _
 induction x generalizing m with
 | ret a=>rfl
 | look k g ih=>exact ih _ _
 | lay k v n ih=>exact ih _
 | under p g ih=>exact ih _ _
theorem fits_small {x:Mp α} {m:MachD} (h:x.fits m):Small m:=by
 cases x with
 | ret a=>exact h
 | look k f=>exact h.1
 | lay k v n=>exact h.1
 | under p f=>exact h.1
theorem fits_bind (x:Mp α) (f : α->Mp β) (m:MachD):(x >>= f).fits m ↔ x.fits m/\(f (x.run m).1).fits (x.run m).2:=by
 show (bind x f).fits m ↔ _
 induction x generalizing m with
 | ret a =>
  constructor
  ·intro h
   exact ⟨fits_small h,h⟩
  ·exact fun h=>h.2
 | look k g ih =>
  simp only [bind,fits,run,ih]
  constructor
  ·rintro ⟨h1,h2,h3,h4⟩;exact ⟨⟨h1,h2,h3⟩,h4⟩
  ·rintro ⟨⟨h1,h2,h3⟩,h4⟩;exact ⟨h1,h2,h3,h4⟩
 | lay k v n ih =>
  simp only [bind,fits,run,ih]
  constructor
  ·rintro ⟨h1,h2,h3,h4⟩;exact ⟨⟨h1,h2,h3⟩,h4⟩
  ·rintro ⟨⟨h1,h2,h3⟩,h4⟩;exact ⟨h1,h2,h3,h4⟩
 | under p g ih =>
  simp only [bind,fits,run,ih]
  constructor
  ·rintro ⟨h1,h2,h3,h4⟩;exact ⟨⟨h1,h2,h3⟩,h4⟩
  ·rintro ⟨⟨h1,h2,h3⟩,h4⟩;exact ⟨h1,h2,h3,h4⟩
theorem fits_end {x:Mp α} {m:MachD} (h:x.fits m):Small (x.run m).2:=by
 induction x generalizing m with
 | ret a=>exact h
 | look k g ih=>exact ih _ h.2.2
 | lay k v n ih=>exact ih h.2.2
 | under p g ih=>exact ih _ h.2.2
theorem run_pure (a : α) (m:MachD):(pure a:Mp α).run m=(a,m):=rfl
theorem zjX (a : α) (m:MachD):(pure a:Mp α).fits m ↔ Small m:=Iff.rfl
def each (f : α->Mp Unit):List α->Mp Unit
 | []=>pure ()
 | x :: xs=>do f x;each f xs
def fold (f : β->α->Mp β) : β->List α->Mp β
 | b,[]=>pure b
 | b,x :: xs=>do let b <- f b x;fold f b xs
end Mp
open Mp
def zaM (v:ByteArray):Int:=if 1<=zg2 v.data.toList/\zg2 v.data.toList<=999/\Lib.itoa (zg2 v.data.toList)=v.data.toList then zg2 v.data.toList else 0
def zbv (v:ByteArray):ByteArray:=match Lib.Hx.decode v.data.toList with
 | (d,.ok)=>if d.length<=20000/\Lib.Hx.encode d=v.data.toList then zT d else ⟨#[]⟩
 | _=>⟨#[]⟩
theorem ziw {s:ByteArray} {n:Int} {b:Bool} (h:Num s.data.toList n b) (hb:b=true->Lib.itoa n=s.data.toList):zaM s=if b=true/\n<=999 then n else 0:=by
 unfold zaM
 cases b with
 | true =>
  have e:=hb rfl
  have hv:=(zc1 (m:=n) h.1.1 (by have:=h.1.2;omega)).1
  rw [e] at hv
  rw [hv]
  by_cases h1 : 1<=n/\n<=999
  ·rw [if_pos ⟨h1.1,h1.2,e⟩,if_pos ⟨rfl,h1.2⟩]
  ·rw [if_neg (fun hh=>h1 ⟨hh.1,hh.2.1⟩)]
   have:=h.1.1
   by_cases h2:n<=999
   ·rw [if_pos ⟨rfl,h2⟩];omega
   ·rw [if_neg (fun hh=>h2 hh.2)]
 | false =>
  rw [if_neg (fun hh=>by
   have:=(h.2 _ hh.1 (by omega) hh.2.2.symm).2
   cases this),if_neg (fun hh=>by cases hh.1)]
theorem zf9 {s r:ByteArray} (hr:r.size<=20000) (h:s.data.toList=zgn r):zbv s=r:=by
 unfold zbv
 rw [h]
 unfold zgn
 rw [Lib.Hx.decode_encode]
 have hl:r.data.toList.length=r.size:=by simp
 dsimp only
 rw [if_pos ⟨by omega,rfl⟩,zaP]
theorem zg8 {s:ByteArray} (h:∀ q,Unh s.data.toList q):zbv s=⟨#[]⟩:=by
 unfold zbv
 split
 ·rename_i d hd
  split
  ·rename_i hh
   have a:=h (zT d) (zT d) (by rw [zU];exact hh.1) hh.2.symm
   have b:=h (zT (0 :: d)) (zT d) (by rw [zU];exact hh.1) hh.2.symm
   have c:=congrArg ByteArray.size b
   rw [zU,zU] at c
   simp at c
  ·rfl
 ·rfl
def zP (h:ByteArray) (n:Int) (t:ByteArray):ByteArray:=h++zT (Lib.itoa n)++t
namespace K
def look (k:ByteArray):Mp ByteArray:=.look k .ret
def lay (k v:ByteArray):Mp Unit:=.lay k v (.ret ())
def under (p:ByteArray):Mp (List ByteArray):=.under p .ret
def wipe (p:ByteArray):Mp Unit:=do
 let ks <- under p
 each (fun k=>lay k ⟨#[]⟩) ks
def num (k:ByteArray):Mp Int:=do return zaM (<- look k)
def numText (n:Int):ByteArray:=if 1<=n/\n<=999 then zT (Lib.itoa n) else ⟨#[]⟩
def setNum (k:ByteArray) (n:Int):Mp Unit:=lay k (numText n)
def bump (k:ByteArray):Mp Int:=do
 let n <- num k
 if 999<n+1 then return 0 else do
  setNum k (n+1)
  return n+1
def messageOf (v:ByteArray):ByteArray:=if v.data.toList.head?=some 45 then zbv (v.extract 1 v.size) else ⟨#[]⟩
def message (k:ByteArray):Mp ByteArray:=do return messageOf (<- look k)
def nameByte (c:UInt8):Bool:=inB (c.toNat:Int) 97 122 || inB (c.toNat:Int) 48 57 || (c.toNat:Int)==46 || (c.toNat:Int)==45
def nameOk (s:ByteArray):Bool:=s.data.toList.all nameByte && inB (s.size:Int) 1 12
def nN:ByteArray:=⟨#[110,47]⟩
def nI:ByteArray:=⟨#[105,47]⟩
def tL:ByteArray:=⟨#[47,108]⟩
def cFile:ByteArray:=⟨#[99,47,102,105,108,101]⟩
def fileOf (name:ByteArray):Mp Int:=if nameOk name then num (nN++name) else return 0
def makeName (name:ByteArray):Mp (Int × Int) :=
 if nameOk name then do
  let id <- fileOf name
  if id ≠ 0 then return (0,1) else do
   let many <- num cFile
   if 20<=many then return (0,3) else do
    let id <- bump cFile
    setNum (nN++name) id
    setNum (zP nI id tL) 1
    return (id,0)
 else return (0,4)
def linkName (a b:ByteArray):Mp Int :=
 if nameOk a/\nameOk b then do
  let id <- fileOf a
  if id=0 then return 2 else do
   let other <- fileOf b
   if other ≠ 0 then return 1 else do
    let links <- num (zP nI id tL)
    if 4<=links then return 3 else do
     setNum (nN++b) id
     setNum (zP nI id tL) (links+1)
     return 0
 else return 4
def unlinkName (name:ByteArray):Mp Int :=
 if nameOk name then do
  let id <- fileOf name
  if id=0 then return 2 else do
   lay (nN++name) ⟨#[]⟩
   let links <- num (zP nI id tL)
   if 1<links then do
    setNum (zP nI id tL) (links - 1)
    return 0
   else do
    wipe (zP nI id ⟨#[47]⟩)
    return 0
 else return 4
def renameName (a b:ByteArray):Mp Int :=
 if nameOk a/\nameOk b then do
  let id <- fileOf a
  if id=0 then return 2 else do
   let other <- fileOf b
   if other=id then return 0 else do
    if other ≠ 0 then do
     let _ <- unlinkName b
     setNum (nN++b) id
     lay (nN++a) ⟨#[]⟩
     return 0
    else do
     setNum (nN++b) id
     lay (nN++a) ⟨#[]⟩
     return 0
 else return 4
def names:Mp (List ByteArray):=do return (<- under nN).map fun k=>k.extract 2 k.size
/-! ### files -/
def tS:ByteArray:=⟨#[47,115]⟩
def tB:ByteArray:=⟨#[47,98,47]⟩
def sizeKey (id:Int):ByteArray:=zP nI id tS
def blockKey (id place:Int):ByteArray:=zP (zP nI id tB) place ⟨#[]⟩
def block (id place:Int):Mp ByteArray:=do return zbv (<- look (blockKey id place))
def places (a b:Nat):List Nat:=List.range' (a / 8) ((b+7) / 8 - a / 8)
def readBlock (id:Int) (a b:Nat) (out:ByteArray) (place:Nat):Mp ByteArray:=do
 let s <- block id place
 let lo:=a - place*8
 let hi:=min (b - place*8) (min 8 s.size)
 return if lo<hi then out++s.extract lo hi else out
def readFile (id a n:Int):Mp ByteArray:=do
 let size <- num (sizeKey id)
 if a<0 ∨ n<1 ∨ size<=a then return ⟨#[]⟩ else
  fold (readBlock id a.toNat (a+min n (size - a)).toNat) ⟨#[]⟩ (places a.toNat (a+min n (size - a)).toNat)
def setAt (b:List UInt8) (i:Nat) (c:UInt8):List UInt8:=(b++List.replicate (i+1 - b.length) 0).set i c
def wBlock (text:List UInt8) (a b place:Nat) (old:List UInt8):List UInt8 :=
 (List.range' (max a (place*8)) (min b (place*8+8) - max a (place*8))).foldl (fun l k=>setAt l (k - place*8) (text.getD (k - a) 0)) old
def writeBlock (id:Int) (text:ByteArray) (a b place:Nat):Mp Unit:=do
 let s <- block id place
 lay (blockKey id place) (zfE (zT (wBlock text.data.toList a b place s.data.toList)))
def writeFile (id a:Int) (text:ByteArray):Mp Int:=do
 let size <- num (sizeKey id)
 if ¬ (0<=a/\a<=size) ∨ text.size=0 then return 4 else
  if 64<a+text.size then return 3 else do
   each (writeBlock id text a.toNat (a.toNat+text.size)) (places a.toNat (a.toNat+text.size))
   if size<a+text.size then setNum (sizeKey id) (a+text.size) else pure ()
   return 0
def cutFile (id n:Int):Mp Int:=do
 let size <- num (sizeKey id)
 if ¬ (0<=n/\n<=size) then return 4 else
  if 0<n % 8 then do
   let s <- block id (n / 8)
   lay (blockKey id (n / 8)) (zfE (s.extract 0 (min (n % 8).toNat s.size)))
   each (fun p:Nat=>lay (blockKey id (p:Int)) ⟨#[]⟩) (List.range' ((n / 8).toNat+1) ((size.toNat+7) / 8 - ((n / 8).toNat+1)))
   setNum (sizeKey id) n
   return 0
  else do
   each (fun p:Nat=>lay (blockKey id (p:Int)) ⟨#[]⟩) (List.range' (n / 8).toNat ((size.toNat+7) / 8 - (n / 8).toNat))
   setNum (sizeKey id) n
   return 0
/-! ### pipes -/
def nP:ByteArray:=⟨#[112,47]⟩
def tO:ByteArray:=⟨#[47,111]⟩
def tT:ByteArray:=⟨#[47,116]⟩
def tH:ByteArray:=⟨#[47,104]⟩
def tQ:ByteArray:=⟨#[47,113,47]⟩
def cPipe:ByteArray:=⟨#[99,47,112,105,112,101]⟩
def pipeKey (id:Int) (t:ByteArray):ByteArray:=zP nP id t
def dash:ByteArray:=⟨#[45]⟩
def makePipe:Mp (Int × Int):=do
 let many <- num cPipe
 if 8<=many then return (0,3) else do
  let id <- bump cPipe
  setNum (pipeKey id tO) 1
  return (id,0)
def isPipe (id:Int):Mp Bool:=do return (<- num (pipeKey id tO))==1
def putPipe (id:Int) (text:ByteArray):Mp Int:=do
 let is <- isPipe id
 if is=false then return 2 else
  if 20<text.size then return 4 else do
   let tail <- num (pipeKey id tT)
   let head <- num (pipeKey id tH)
   if 4<=tail - head then return 5 else
    if 999<=tail then return 3 else do
     setNum (pipeKey id tT) (tail+1)
     lay (zP (pipeKey id tQ) (tail+1) ⟨#[]⟩) (dash++zfE text)
     return 0
def takePipe (id:Int):Mp (ByteArray × Int):=do
 let is <- isPipe id
 if is=false then return (⟨#[]⟩,2) else do
  let head <- num (pipeKey id tH)
  let tail <- num (pipeKey id tT)
  if tail=head then return (⟨#[]⟩,5) else do
   let text <- message (zP (pipeKey id tQ) (head+1) ⟨#[]⟩)
   lay (zP (pipeKey id tQ) (head+1) ⟨#[]⟩) ⟨#[]⟩
   setNum (pipeKey id tH) (head+1)
   return (text,0)
/-! ### processes -/
def nR:ByteArray:=⟨#[114,47]⟩
def tP:ByteArray:=⟨#[47,112]⟩
def tX:ByteArray:=⟨#[47,120]⟩
def slash:ByteArray:=⟨#[47]⟩
def cProc:ByteArray:=⟨#[99,47,112,114,111,99]⟩
def procKey (id:Int) (t:ByteArray):ByteArray:=zP nR id t
def state (id:Int):Mp Int:=num (procKey id tS)
def spawn (parent:Int):Mp (Int × Int):=do
 let many <- num cProc
 if 12<=many then return (0,3) else do
  let id <- bump cProc
  setNum (procKey id tS) 1
  setNum (procKey id tP) parent
  return (id,0)
def endProc (id n:Int):Mp Int:=do
 let s <- state id
 if s ≠ 1 then return 2 else
  if ¬ (0<=n/\n<=100) then return 4 else do
   setNum (procKey id tS) 2
   setNum (procKey id tX) (n+1)
   return 0
def reap (parent id:Int):Mp (Int × Int):=do
 let own <- num (procKey id tP)
 if own=0 ∨ own ≠ parent then return (0,2) else do
  let s <- state id
  if s=1 then return (0,5) else
   if s ≠ 2 then return (0,2) else do
    let n <- num (procKey id tX)
    wipe (procKey id slash)
    return (n - 1,0)
def isKidKey (key:ByteArray):Bool:=decide (5<=key.size) && ((key.extract (key.size - 2) key.size).data.toList == [47,112])
def kid (parent:Int) (out:List Int) (key:ByteArray):Mp (List Int) :=
 if isKidKey key then do
  let up <- num key
  return if up=parent then out ++ [zaM (key.extract 2 (key.size - 2))] else out
 else return out
def kids (parent:Int):Mp (List Int):=do
 let keys <- under nR
 fold (kid parent) [] keys
/-! ### signals -/
def nG:ByteArray:=⟨#[103,47]⟩
def nT:ByteArray:=⟨#[116,47]⟩
def cClock:ByteArray:=⟨#[99,47,99,108,111,99,107]⟩
def signalKey (id:Int) (t:ByteArray):ByteArray:=zP nG id t
def send (to n:Int):Mp Int:=do
 let s <- state to
 if s ≠ 1 then return 2 else
  if ¬ (1<=n/\n<=31) then return 4 else do
   let tail <- num (signalKey to tT)
   let head <- num (signalKey to tH)
   if 4<=tail - head then return 5 else
    if 999<=tail then return 3 else do
     setNum (signalKey to tT) (tail+1)
     setNum (zP (signalKey to tQ) (tail+1) ⟨#[]⟩) n
     return 0
def takeSignal (id:Int):Mp (Int × Int):=do
 let head <- num (signalKey id tH)
 let tail <- num (signalKey id tT)
 if tail=head then return (0,5) else do
  let n <- num (zP (signalKey id tQ) (head+1) ⟨#[]⟩)
  lay (zP (signalKey id tQ) (head+1) ⟨#[]⟩) ⟨#[]⟩
  setNum (signalKey id tH) (head+1)
  return (n,0)
def setTimer (id a:Int):Mp Int :=
 if 0<=a/\a<=999 then do
  setNum (zP nT id ⟨#[]⟩) a
  return 0
 else return 4
def tickOne (clock:Int) (count:Int) (key:ByteArray):Mp Int:=do
 let a <- num key
 if clock<a then return count else do
  lay key ⟨#[]⟩
  let _ <- send (zaM (key.extract 2 key.size)) 14
  return count+1
def tick (n:Int):Mp (Int × Int) :=
 if n<1 then return (0,4) else do
  let clock <- num cClock
  if 999 - clock<n then return (0,3) else do
   setNum cClock (clock+n)
   let keys <- under nT
   let k <- fold (tickOne (clock+n)) 0 keys
   return (k,0)
/-! ### pages, output -/
def nM:ByteArray:=⟨#[109,47]⟩
def pagesKey (id:Int):ByteArray:=zP nM id slash
def storePage (id page:Int) (text:ByteArray):Mp Int :=
 if (0<=page/\page<=3)/\text.size<=20 then do
  lay (zP (pagesKey id) page ⟨#[]⟩) (if text.size=0 then ⟨#[]⟩ else dash++zfE text)
  return 0
 else return 4
def loadPage (id page:Int):Mp (ByteArray × Int) :=
 if 0<=page/\page<=3 then do
  let t <- message (zP (pagesKey id) page ⟨#[]⟩)
  return (t,0)
 else return (⟨#[]⟩,4)
def forkOne (frm to:Int) (key:ByteArray):Mp Unit:=do
 let v <- look key
 lay (pagesKey to++key.extract (pagesKey frm).size key.size) v
def forkPages (frm to:Int):Mp Unit:=do
 let keys <- under (pagesKey frm)
 each (forkOne frm to) keys
def dropPages (id:Int):Mp Unit:=wipe (pagesKey id)
def dN:ByteArray:=⟨#[100,47,110]⟩
def nD:ByteArray:=⟨#[100,47]⟩
def putOut (text:ByteArray):Mp Int :=
 if 1<=text.size/\text.size<=20 then do
  let n <- num dN
  if 40<=n then return 3 else do
   setNum dN (n+1)
   lay (zP nD (n+1) ⟨#[]⟩) (dash++zfE text)
   return 0
 else return 4
/-! ### calls -/
def callOk (c:CallD):Bool:=(inB c.kind 1 22 && decide (c.name.size<=20)) && (decide (c.to.size<=20) && decide (c.text.size<=64))
def space:ByteArray:=⟨#[32]⟩
def wordsOf (l:List ByteArray):ByteArray:=l.foldl (fun t w=>t++(w++space)) ⟨#[]⟩
def doFile (c:CallD):Mp AnswerD:=do
 let id <- fileOf c.name
 if id=0 then return ⟨2,0,⟨#[]⟩⟩ else
  if c.kind=6 then do
   let t <- readFile id c.a c.b
   return ⟨0,0,t⟩
  else if c.kind=7 then do
   let r <- writeFile id c.a c.text
   return ⟨r,0,⟨#[]⟩⟩
  else do
   let r <- cutFile id c.a
   return ⟨r,0,⟨#[]⟩⟩
def code (x:Mp Int):Mp AnswerD:=do return ⟨<- x,0,⟨#[]⟩⟩
def codeN (x:Mp (Int × Int)):Mp AnswerD:=do
 let p <- x
 return ⟨p.2,p.1,⟨#[]⟩⟩
def codeT (x:Mp (ByteArray × Int)):Mp AnswerD:=do
 let p <- x
 return ⟨p.2,0,p.1⟩
def doSpawn (proc:Int):Mp AnswerD:=do
 let p <- spawn proc
 if p.2=0 then do
  forkPages proc p.1
  return ⟨p.2,p.1,⟨#[]⟩⟩
 else return ⟨p.2,p.1,⟨#[]⟩⟩
def doEnd (proc n:Int):Mp AnswerD:=do
 let r <- endProc proc n
 if r=0 then do
  dropPages proc
  return ⟨r,0,⟨#[]⟩⟩
 else return ⟨r,0,⟨#[]⟩⟩
def doNames:Mp AnswerD:=do return ⟨0,0,wordsOf (<- names)⟩
def doKids (proc:Int):Mp AnswerD:=do
 let l <- kids proc
 return ⟨0,0,wordsOf (l.map fun n=>zT (Lib.itoa n))⟩
def doKind (proc:Int) (c:CallD):Mp AnswerD :=
 if c.kind=1 then codeN (makeName c.name)
 else if c.kind=2 then code (linkName c.name c.to)
 else if c.kind=3 then code (unlinkName c.name)
 else if c.kind=4 then code (renameName c.name c.to)
 else if c.kind=5 then doNames
 else if c.kind=6 ∨ c.kind=7 ∨ c.kind=8 then doFile c
 else if c.kind=9 then codeN makePipe
 else if c.kind=10 then code (putPipe c.a c.text)
 else if c.kind=11 then codeT (takePipe c.a)
 else if c.kind=12 then doSpawn proc
 else if c.kind=13 then doEnd proc c.a
 else if c.kind=14 then codeN (reap proc c.a)
 else if c.kind=15 then doKids proc
 else if c.kind=16 then code (send c.a c.b)
 else if c.kind=17 then codeN (takeSignal proc)
 else if c.kind=18 then code (setTimer proc c.a)
 else if c.kind=19 then codeN (tick c.a)
 else if c.kind=20 then code (storePage proc c.a c.text)
 else if c.kind=21 then codeT (loadPage proc c.a)
 else code (putOut c.text)
def doCall (proc:Int) (c:CallD):Mp AnswerD:=do
 let s <- state proc
 if s ≠ 1 then return ⟨2,0,⟨#[]⟩⟩ else
  if callOk c=false then return ⟨4,0,⟨#[]⟩⟩ else doKind proc c
end K
end Go.Proofs.YtodokkpnafabpaaGreatDoor
