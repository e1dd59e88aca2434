/- Texts of this claim, merged: the walks and what they stand on. Each condition stands in its theorem. -/
import Derived.Laws.CopyOwn
import Derived.Lib.AppendZerosOnto
import Derived.Lib.Overlaps
import Derived.Test.YtpnoehpmgflibaaGreatDoorCA4
set_option linter.unusedVariables false
set_option linter.unusedSimpArgs false
set_option maxRecDepth 100000
set_option maxHeartbeats 8000000
namespace Go.Proofs.YtpnoehpmgflibaaGreatDoor
open Go.ChangeShapes Go.WideShapes Go.ChangeAt Go.RowKit
def zeo (c:UInt8):Int:=if 48<=(c.toNat:Int)/\(c.toNat:Int)<=57 then c.toNat - 48 else if 97<=(c.toNat:Int)/\(c.toNat:Int)<=102 then c.toNat - 97+10 else -1
theorem zhq (x:Nat) (h:x<16):zeo (Lib.Hx.digit x)=x:=by
 have hall:∀ x:Fin 16,zeo (Lib.Hx.digit x.val)=(x.val:Int):=by decide
 exact hall ⟨x,h⟩
theorem zhV (c:UInt8) : -1<=zeo c/\zeo c<=15:=by
 unfold zeo
 split
 ·omega
 ·split
  ·omega
  ·omega
theorem zms:∀ (l:List UInt8) (m:Nat) (h:m<l.length),(Lib.Hx.encode l)[2*m]?=some (Lib.Hx.digit (l[m].toNat / 16))/\(Lib.Hx.encode l)[2*m+1]?=some (Lib.Hx.digit (l[m].toNat % 16))
 | [],m,h=>by simp at h
 | c :: l,0,_=>by simp [Lib.Hx.encode]
 | c :: l,m+1,h=>by
  have ih:=zms l m (by simpa using h)
  have e:Lib.Hx.encode (c :: l)=Lib.Hx.digit (c.toNat / 16) :: Lib.Hx.digit (c.toNat % 16) :: Lib.Hx.encode l:=by simp [Lib.Hx.encode]
  rw [e,show 2*(m+1)=2*m+1+1 by omega,List.getElem?_cons_succ,List.getElem?_cons_succ,List.getElem?_cons_succ,List.getElem?_cons_succ]
  simpa using ih
theorem zik (t:ByteArray):(zhM t).length=2*t.size:=by
 unfold zhM
 rw [Lib.Hx.encode_length]
 have:t.data.toList.length=t.size:=by simp
 omega
def UnhTo (L acc:List UInt8) (m:Nat):Prop:=(∀ t:ByteArray,L=zhM t->acc=t.data.toList.take m)/\Lib.Hx.encode acc=L.take (2*m)
theorem UnhTo.nil (L:List UInt8):UnhTo L [] 0:=⟨fun t _=>by simp,by simp [Lib.Hx.encode]⟩
theorem ziB (c:UInt8) (h : 0<=zeo c):Lib.Hx.digit (zeo c).toNat=c:=by
 have hall:∀ c:Fin 256,0<=zeo (UInt8.ofNat c.val)->Lib.Hx.digit (zeo (UInt8.ofNat c.val)).toNat=UInt8.ofNat c.val:=by decide
 have:=hall ⟨c.toNat,c.toNat_lt⟩
 simp only [UInt8.ofNat_toNat] at this
 exact this h
theorem unh_at {L:List UInt8} {t:ByteArray} {m:Nat} (h : 2*m+1<L.length) (e:L=zhM t):∃ hm:m<t.data.toList.length,zeo (L[2*m]'(by omega))=((t.data.toList[m].toNat / 16:Nat):Int)/\zeo L[2*m+1]=((t.data.toList[m].toNat % 16:Nat):Int):=by
 subst e
 have hm:m<t.data.toList.length:=by
  rw [zik] at h
  have:t.data.toList.length=t.size:=by simp
  omega
 have hg:=zms t.data.toList m hm
 have hb:=t.data.toList[m].toNat_lt
 have h1:=List.getElem?_eq_getElem (l:=zhM t) (i:=2*m) (by omega)
 have h2:=List.getElem?_eq_getElem (l:=zhM t) (i:=2*m+1) h
 have e1:(zhM t)[2*m]'(by omega)=Lib.Hx.digit (t.data.toList[m].toNat / 16):=Option.some.inj (h1.symm.trans hg.1)
 have e2:(zhM t)[2*m+1]=Lib.Hx.digit (t.data.toList[m].toNat % 16):=Option.some.inj (h2.symm.trans hg.2)
 refine ⟨hm,?_,?_⟩
 ·rw [e1,zhq _ (by omega)]
 ·rw [e2,zhq _ (by omega)]
theorem UnhTo.step {L acc:List UInt8} {m:Nat} (H:UnhTo L acc m) (h : 2*m+1<L.length) {c:UInt8} (hc:(c.toNat:Int)=16*zeo (L[2*m]'(by omega))+zeo L[2*m+1]) (h1 : 0<=zeo (L[2*m]'(by omega))) (h2 : 0<=zeo L[2*m+1]):UnhTo L (acc ++ [c]) (m+1):=by
 refine ⟨?_,?_⟩
 case refine_2 =>
  have l1:=zhV (L[2*m]'(by omega))
  have l2:=zhV L[2*m+1]
  have d1:c.toNat / 16=(zeo (L[2*m]'(by omega))).toNat:=by omega
  have d2:c.toNat % 16=(zeo L[2*m+1]).toNat:=by omega
  have e1:Lib.Hx.encode (acc ++ [c])=Lib.Hx.encode acc ++ [Lib.Hx.digit (c.toNat / 16),Lib.Hx.digit (c.toNat % 16)]:=by simp [Lib.Hx.encode]
  rw [e1,d1,d2,ziB _ h1,ziB _ h2,H.2,show 2*(m+1)=2*m+1+1 from by omega,List.take_succ_eq_append_getElem h,List.take_succ_eq_append_getElem (by omega : 2*m<L.length),List.append_assoc]
  rfl
 intro t e
 obtain ⟨hm,e1,e2⟩:=unh_at h e
 rw [e1,e2] at hc
 rw [H.1 t e,List.take_succ_eq_append_getElem hm]
 congr 2
 apply UInt8.toNat_inj.1
 omega
theorem UnhTo.bad {L:List UInt8} {m:Nat} (h : 2*m+1<L.length) (hb:zeo (L[2*m]'(by omega))<0 ∨ zeo L[2*m+1]<0) (r:ByteArray):Unh L r:=by
 intro t _ e
 obtain ⟨hm,e1,e2⟩:=unh_at h e
 rw [e1,e2] at hb
 omega
theorem UnhTo.all {L acc:List UInt8} {m:Nat} (H:UnhTo L acc m) (h:L.length<=2*m):Unh L (zX acc):=by
 intro t _ e
 have h2:=zik t
 rw [<- e] at h2
 have:t.data.toList.length=t.size:=by simp
 rw [H.1 t e,List.take_of_length_le (by omega),za8]
theorem UnhTo.back {L acc:List UInt8} {m:Nat} (H:UnhTo L acc m) (h:L.length<=2*m):L=zhM (zX acc):=by
 have:=H.2
 rw [List.take_of_length_le h] at this
 rw [<- this]
 rfl
theorem Unh.long {L:List UInt8} (h : 40000<L.length ∨ L.length % 2 ≠ 0) (r:ByteArray):Unh L r:=by
 intro t h1 e
 have:=zik t
 rw [<- e] at this
 omega
def ziz (l:List UInt8):Int:=l.foldl (fun a c=>10*a+(c.toNat - 48)) 0
def zlk (c:UInt8):Prop:=48<=c.toNat/\c.toNat<=57
theorem ziC (l:List UInt8) (c:UInt8):ziz (l ++ [c])=10*ziz l+(c.toNat - 48):=by simp [ziz,List.foldl_append]
theorem dec_val (u:Nat):ziz (Lib.decDigits u)=u/\∀ c ∈ Lib.decDigits u,zlk c:=by
 induction u using Nat.strongRecOn with
 | _ u ih =>
  rw [Lib.decDigits]
  split
  ·rename_i h
   have hd:=(zjr u h).2.2
   refine ⟨?_,fun c hc=>?_⟩
   ·show 10*(0:Int)+((UInt8.ofNat (48+u)).toNat - 48)=u
    rw [hd]
    omega
   ·rw [List.mem_singleton.1 hc]
    unfold zlk
    omega
  ·rename_i h
   have hd:=(zjr (u % 10) (by omega)).2.2
   obtain ⟨h1,h2⟩:=ih (u / 10) (by omega)
   refine ⟨?_,fun c hc=>?_⟩
   ·rw [ziC,h1,hd]
    omega
   ·rcases List.mem_append.1 hc with hc|hc
    ·exact h2 c hc
    ·rw [List.mem_singleton.1 hc]
     unfold zlk
     omega
theorem zmu:∀ (k u:Nat),u<10 ^ (k+1)->(Lib.decDigits u).length<=k+1
 | 0,u,h=>by
  rw [Lib.decDigits,dif_pos (by omega)]
  simp
 | k+1,u,h=>by
  rw [Lib.decDigits]
  split
  ·simp
  ·have:=zmu k (u / 10) (by rw [Nat.pow_succ] at h;omega)
   rw [List.length_append,List.length_singleton]
   omega
theorem zdH {m:Int} (h0 : 0<=m) (h1:m<=1000000000):ziz (Lib.itoa m)=m/\(∀ c ∈ Lib.itoa m,zlk c)/\(Lib.itoa m).length<=10:=by
 unfold Lib.itoa
 rw [if_neg (by omega)]
 obtain ⟨a,b⟩:=dec_val m.toNat
 exact ⟨by rw [a];omega,b,zmu 9 _ (by omega)⟩
theorem Num.long {l:List UInt8} (h : 10<l.length):Num l 0 false:=by
 refine ⟨by omega,fun m h1 h2 e=>?_⟩
 have:=(zdH (m:=m) (by omega) (by omega)).2.2
 rw [<- e] at this
 omega
theorem Num.bad {l:List UInt8} {c:UInt8} (hc:c ∈ l) (h:¬ zlk c):Num l 0 false:=by
 refine ⟨by omega,fun m h1 h2 e=>?_⟩
 exact absurd ((zdH (m:=m) (by omega) (by omega)).2.1 c (by rw [<- e];exact hc)) h
theorem Num.good {l:List UInt8} {n:Int} (h0 : 0<=n) (h1:n<=1000000000) (h:n=ziz l):Num l n true:=by
 refine ⟨⟨h0,h1⟩,fun m a b e=>⟨?_,rfl⟩⟩
 have:=(zdH (m:=m) (by omega) (by omega)).1
 rw [h,e,this]
theorem Num.other {l:List UInt8} {n:Int} (h:n=ziz l) (h1 : 1000000000<n ∨ Lib.itoa n ≠ l):Num l 0 false:=by
 refine ⟨by omega,fun m a b e=>?_⟩
 have:=(zdH (m:=m) (by omega) (by omega)).1
 rw [<- e,<- h] at this
 subst this
 rcases h1 with h1|h1
 ·omega
 ·exact absurd e.symm h1
theorem zlC:∀ (l:List UInt8) (a:Int),0<=a->(∀ c ∈ l,zlk c)->0<=l.foldl (fun (a:Int) (c:UInt8)=>10*a+(c.toNat - 48)) a/\l.foldl (fun (a:Int) (c:UInt8)=>10*a+(c.toNat - 48)) a+1<=(a+1)*10 ^ l.length
 | [],a,h,_=>by simp;omega
 | c :: l,a,h,hd=>by
  have hc:=hd c (by simp)
  unfold zlk at hc
  obtain ⟨h1,h2⟩:=zlC l (10*a+(c.toNat - 48)) (by omega) (fun d hm=>hd d (List.mem_cons_of_mem _ hm))
  refine ⟨h1,Int.le_trans h2 ?_⟩
  rw [List.length_cons,Int.pow_succ,Int.mul_comm (10 ^ l.length) 10,<- Int.mul_assoc]
  refine Int.mul_le_mul_of_nonneg_right (by omega) (Int.le_of_lt (Int.pow_pos (by decide)))
theorem valD_bd (l:List UInt8) (h:∀ c ∈ l,zlk c) : 0<=ziz l/\ziz l<10 ^ l.length:=by
 have:=zlC l 0 (by omega) h
 unfold ziz
 omega
theorem zkS {l:List UInt8} (h:∀ n,Lib.atoiAll l ≠ .ok n):Num l 0 false:=by
 refine ⟨by omega,fun m h1 h2 e=>?_⟩
 exact absurd (zg1 m (by omega) (by omega)) (by rw [<- e];exact h m)
theorem Num.atoiOk {l:List UInt8} {n:Int} (h:Lib.atoiAll l=.ok n) (h0 : 0<=n) (h1:n<=1000000000):Num l n true:=by
 refine ⟨⟨h0,h1⟩,fun m a b e=>⟨?_,rfl⟩⟩
 have:=zg1 m (by omega) (by omega)
 rw [<- e,h] at this
 injection this
theorem zhR {l:List UInt8} {n:Int} (h:Lib.atoiAll l=.ok n) (h1:n<0 ∨ 1000000000<n ∨ Lib.itoa n ≠ l):Num l 0 false:=by
 refine ⟨by omega,fun m a b e=>?_⟩
 have:=zg1 m (by omega) (by omega)
 rw [<- e,h] at this
 injection this with this
 subst this
 rcases h1 with h1|h1|h1
 ·omega
 ·omega
 ·exact absurd e.symm h1
theorem Unh.dec {l d:List UInt8} (h:Lib.Hx.decode l=(d,.ok)):Unh l (zX d):=by
 intro t _ e
 subst e
 unfold zhM at h
 rw [Lib.Hx.decode_encode] at h
 injection h with h
 rw [<- h,za8]
theorem Unh.no {l d:List UInt8} {x} (h:Lib.Hx.decode l=(d,x)) (h1:x ≠ .ok ∨ 20000<d.length ∨ Lib.Hx.encode d ≠ l) (r:ByteArray):Unh l r:=by
 intro t ht e
 subst e
 unfold zhM at h
 rw [Lib.Hx.decode_encode] at h
 injection h with h h2
 subst h
 subst h2
 rcases h1 with h1|h1|h1
 ·exact absurd rfl h1
 ·have:t.data.toList.length=t.size:=by simp
  omega
 ·exact absurd rfl h1
def CutTo (c:UInt8) (L:List UInt8) (xs:List ByteArray) (b i:Nat):Prop :=
 (i<=L.length/\b<=i/\c ∉ (L.drop b).take (i - b)/\xs.map (·.data.toList)++zbI c (L.drop b)=zbI c L) ∨ (i=L.length+1/\xs.map (·.data.toList)=zbI c L)
theorem CutTo.nil (c:UInt8) (L:List UInt8):CutTo c L [] 0 0:=.inl ⟨by omega,by omega,by simp,by simp⟩
theorem CutTo.cut {c:UInt8} {L:List UInt8} {xs:List ByteArray} {b i:Nat} (h:CutTo c L xs b i) (hi:i<L.length) (hc:L[i]=c) {s:ByteArray} (hs:s.data.toList=(L.drop b).take (i - b)):CutTo c L (xs ++ [s]) (i+1) (i+1):=by
 rcases h with ⟨h1,h2,h3,h4⟩|⟨h,_⟩
 ·refine .inl ⟨by omega,by omega,by simp,?_⟩
  have e:L.drop b=(L.drop b).take (i - b)++c :: L.drop (i+1):=by
   conv=>lhs;rw [<- List.take_append_drop (i - b) (L.drop b)]
   rw [List.drop_drop,show b+(i - b)=i by omega,List.drop_eq_getElem_cons hi,hc]
  rw [e,zhv c _ _ h3] at h4
  rw [List.map_append,List.append_assoc,<- h4,<- hs]
  rfl
 ·omega
theorem CutTo.all {c:UInt8} {L:List UInt8} {xs:List ByteArray} {b i:Nat} (h:CutTo c L xs b i) (hi:L.length<i):xs.map (·.data.toList)=zbI c L:=by
 rcases h with ⟨h1,_⟩|⟨_,h⟩
 ·omega
 ·exact h
theorem CutTo.lo {c:UInt8} {L:List UInt8} {xs:List ByteArray} {b i:Nat} (h:CutTo c L xs b i) (hi:i<=L.length):b<=i:=by
 rcases h with ⟨_,h,_⟩|⟨h,_⟩
 ·exact h
 ·omega
def UnhP (s:ByteArray) (w:World) (e:Ending) (w':World):Prop:=∃ r b,e=.returned (.tuple #[.string r,.bool b])/\r.size<=20000/\Unh s.data.toList r/\Below w.heap.size w w'/\(b=true->s.data.toList=zhM r)/\(b=false->r=⟨#[]⟩/\∀ q,Unh s.data.toList q)
theorem UnhP.mk {s r:ByteArray} {w w':World} (h1:r.size<=20000) (h2:Unh s.data.toList r) (h3:Below w.heap.size w w') (h4:s.data.toList=zhM r):UnhP s w (.returned (.tuple #[.string r,.bool true])) w':=⟨r,true,rfl,h1,h2,h3,(fun _=>h4),(fun h=>by cases h)⟩
theorem UnhP.no {s:ByteArray} {w w':World} (h2:∀ q,Unh s.data.toList q) (h3:Below w.heap.size w w'):UnhP s w (.returned (.tuple #[.string ⟨#[]⟩,.bool false])) w':=⟨⟨#[]⟩,false,rfl,by decide,h2 _,h3,(fun h=>by cases h),(fun _=>⟨rfl,h2⟩)⟩
def NumP (s:ByteArray) (w:World) (e:Ending) (w':World):Prop:=∃ n b,e=.returned (.tuple #[.int .i64 n,.bool b])/\Num s.data.toList n b/\Below w.heap.size w w'/\(b=true->Lib.itoa n=s.data.toList)
theorem NumP.mk {s:ByteArray} {n:Int} {w w':World} (h2:Num s.data.toList n true) (h3:Below w.heap.size w w') (h4:Lib.itoa n=s.data.toList):NumP s w (.returned (.tuple #[.int .i64 n,.bool true])) w':=⟨n,true,rfl,h2,h3,fun _=>h4⟩
theorem NumP.no {s:ByteArray} {w w':World} (h2:Num s.data.toList 0 false) (h3:Below w.heap.size w w'):NumP s w (.returned (.tuple #[.int .i64 0,.bool false])) w':=⟨0,false,rfl,h2,h3,fun h=>by cases h⟩
def SplP (t:TypeId) (c:UInt8) (s:ByteArray) (w:World) (e:Ending) (w':World):Prop:=∃ v xs,e=.returned v/\OwnL zx t w' w.heap.size v xs/\xs.map (·.data.toList)=zbI c s.data.toList/\Below w.heap.size w w'
theorem SplP.mk {t:TypeId} {c:UInt8} {s:ByteArray} {v:Value} {xs:List ByteArray} {w w':World} (h1:OwnL zx t w' w.heap.size v xs) (h2:xs.map (·.data.toList)=zbI c s.data.toList) (h3:Below w.heap.size w w'):SplP t c s w (.returned v) w':=⟨v,xs,rfl,h1,h2,h3⟩
def Sm (cs:List CellD):Prop:=∀ c ∈ cs,c.key.size<=20000/\c.val.size<=20000
theorem Sm.nil:Sm []:=by intro c hc;cases hc
def RrOk (s:ByteArray) (n:Int) (b:Bool) (cs:List CellD):Prop:=(b=true->readI s=some (n,cs))/\(b=false->n=0/\cs = []/\readI s=none)
structure CallD where
 kind:Int
 name:ByteArray
 to:ByteArray
 a:Int
 b:Int
 text:ByteArray
def CallD.row (d:CallD):List Value:=[.int .i64 d.kind,.string d.name,.string d.to,.int .i64 d.a,.int .i64 d.b,.string d.text]
def CallD.ok (d:CallD):Prop:=d.name.size<=9223372036854775807/\d.to.size<=9223372036854775807/\d.text.size<=9223372036854775807
structure AnswerD where
 code:Int
 n:Int
 text:ByteArray
def AnswerD.row (d:AnswerD):List Value:=[.int .i64 d.code,.int .i64 d.n,.string d.text]
def AnswerD.ok (d:AnswerD):Prop:=d.text.size<=9223372036854775807
end Go.Proofs.YtpnoehpmgflibaaGreatDoor
namespace Go.Proofs.YtpnoehpmgflibaaGreatDoor
open Go.ChangeShapes Go.WideShapes Go.ChangeAt Go.RowKit
structure MachD where
 cells:List CellD
 rd:List ByteArray
 wr:List ByteArray
inductive Mp (α : Type) where
 | ret (a : α)
 | look (k:ByteArray) (f:ByteArray->Mp α)
 | lay (k v:ByteArray) (n:Mp α)
 | under (p:ByteArray) (f:List ByteArray->Mp α)
def star:ByteArray:=⟨#[42]⟩
def zK (p:ByteArray) (cs:List CellD):List ByteArray:=(cs.filter fun c=>zaj c.key p).map (·.key)
namespace MachD
def look (m:MachD) (k:ByteArray):MachD:={ m with rd:=zb3 m.rd k }
def lay (m:MachD) (k v:ByteArray):MachD:={ m with wr:=zb3 m.wr k,cells:=zbM k v m.cells }
def under (m:MachD) (p:ByteArray):MachD:={ m with rd:=zb3 m.rd (p++star) }
end MachD
namespace Mp
variable {α β γ : Type}
def bind:Mp α->(α->Mp β)->Mp β
 | ret a,g=>g a
 | look k f,g=>look k fun x=>bind (f x) g
 | lay k v n,g=>lay k v (bind n g)
 | under p f,g=>under p fun x=>bind (f x) g
instance:Monad Mp where
 pure:=ret
 bind:=bind
def run:Mp α->MachD->α × MachD
 | ret a,m=>(a,m)
 | look k f,m=>run (f (zbm k m.cells)) (m.look k)
 | lay k v n,m=>run n (m.lay k v)
 | under p f,m=>run (f (zK p m.cells)) (m.under p)
structure Small (m:MachD):Prop where
 cl:m.cells.length<=549755813888
 rl:m.rd.length<=549755813888
 wl:m.wr.length<=549755813888
 cz:∀ c ∈ m.cells,c.key.size<=1048576/\c.val.size<=1048576
 rz:∀ s ∈ m.rd,s.size<=8388608
 wz:∀ s ∈ m.wr,s.size<=8388608
 rn:∀ s ∈ m.rd,s.size ≠ 0
 wn:∀ s ∈ m.wr,s.size ≠ 0
def fits:Mp α->MachD->Prop
 | ret _,m=>Small m
 | look k f,m=>Small m/\k.size<=4194304/\fits (f (zbm k m.cells)) (m.look k)
 | lay k v n,m=>Small m/\k.size<=4194304/\fits n (m.lay k v)
 | under p f,m=>Small m/\p.size<=4194304/\fits (f (zK p m.cells)) (m.under p)
theorem run_bind (x:Mp α) (f : α->Mp β) (m:MachD):(x >>= f).run m=(f (x.run m).1).run (x.run m).2:=by
 show (bind x f).run m = _
 induction x generalizing m with
 | ret a=>rfl
 | look k g ih=>exact ih _ _
 | lay k v n ih=>exact ih _
 | under p g ih=>exact ih _ _
theorem fits_small {x:Mp α} {m:MachD} (h:x.fits m):Small m:=by
 cases x with
 | ret a=>exact h
 | look k f=>exact h.1
 | lay k v n=>exact h.1
 | under p f=>exact h.1
theorem fits_bind (x:Mp α) (f : α->Mp β) (m:MachD):(x >>= f).fits m ↔ x.fits m/\(f (x.run m).1).fits (x.run m).2:=by
 show (bind x f).fits m ↔ _
 induction x generalizing m with
 | ret a =>
  constructor
  ·intro h
   exact ⟨fits_small h,h⟩
  ·exact fun h=>h.2
 | look k g ih =>
  simp only [bind,fits,run,ih]
  constructor
  ·rintro ⟨h1,h2,h3,h4⟩;exact ⟨⟨h1,h2,h3⟩,h4⟩
  ·rintro ⟨⟨h1,h2,h3⟩,h4⟩;exact ⟨h1,h2,h3,h4⟩
 | lay k v n ih =>
  simp only [bind,fits,run,ih]
  constructor
  ·rintro ⟨h1,h2,h3,h4⟩;exact ⟨⟨h1,h2,h3⟩,h4⟩
  ·rintro ⟨⟨h1,h2,h3⟩,h4⟩;exact ⟨h1,h2,h3,h4⟩
 | under p g ih =>
  simp only [bind,fits,run,ih]
  constructor
  ·rintro ⟨h1,h2,h3,h4⟩;exact ⟨⟨h1,h2,h3⟩,h4⟩
  ·rintro ⟨⟨h1,h2,h3⟩,h4⟩;exact ⟨h1,h2,h3,h4⟩
theorem fits_end {x:Mp α} {m:MachD} (h:x.fits m):Small (x.run m).2:=by
 induction x generalizing m with
 | ret a=>exact h
 | look k g ih=>exact ih _ h.2.2
 | lay k v n ih=>exact ih h.2.2
 | under p g ih=>exact ih _ h.2.2
theorem run_pure (a : α) (m:MachD):(pure a:Mp α).run m=(a,m):=rfl
def each (f : α->Mp Unit):List α->Mp Unit
 | []=>pure ()
 | x :: xs=>do f x;each f xs
def fold (f : β->α->Mp β) : β->List α->Mp β
 | b,[]=>pure b
 | b,x :: xs=>do let b <- f b x;fold f b xs
end Mp
open Mp
def za0 (v:ByteArray):Int:=if 1<=ziz v.data.toList/\ziz v.data.toList<=999/\Lib.itoa (ziz v.data.toList)=v.data.toList then ziz v.data.toList else 0
def zb2 (v:ByteArray):ByteArray:=match Lib.Hx.decode v.data.toList with
 | (d,.ok)=>if d.length<=20000/\Lib.Hx.encode d=v.data.toList then zX d else ⟨#[]⟩
 | _=>⟨#[]⟩
theorem zkB {s:ByteArray} {n:Int} {b:Bool} (h:Num s.data.toList n b) (hb:b=true->Lib.itoa n=s.data.toList):za0 s=if b=true/\n<=999 then n else 0:=by
 unfold za0
 cases b with
 | true =>
  have e:=hb rfl
  have hv:=(zdH (m:=n) h.1.1 (by have:=h.1.2;omega)).1
  rw [e] at hv
  rw [hv]
  by_cases h1 : 1<=n/\n<=999
  ·rw [if_pos ⟨h1.1,h1.2,e⟩,if_pos ⟨rfl,h1.2⟩]
  ·rw [if_neg (fun hh=>h1 ⟨hh.1,hh.2.1⟩)]
   have:=h.1.1
   by_cases h2:n<=999
   ·rw [if_pos ⟨rfl,h2⟩];omega
   ·rw [if_neg (fun hh=>h2 hh.2)]
 | false =>
  rw [if_neg (fun hh=>by
   have:=(h.2 _ hh.1 (by omega) hh.2.2.symm).2
   cases this),if_neg (fun hh=>by cases hh.1)]
theorem zhr {s r:ByteArray} (hr:r.size<=20000) (h:s.data.toList=zhM r):zb2 s=r:=by
 unfold zb2
 rw [h]
 unfold zhM
 rw [Lib.Hx.decode_encode]
 have hl:r.data.toList.length=r.size:=by simp
 dsimp only
 rw [if_pos ⟨by omega,rfl⟩,za8]
theorem ziD {s:ByteArray} (h:∀ q,Unh s.data.toList q):zb2 s=⟨#[]⟩:=by
 unfold zb2
 split
 ·rename_i d hd
  split
  ·rename_i hh
   have a:=h (zX d) (zX d) (by rw [zN];exact hh.1) hh.2.symm
   have b:=h (zX (0 :: d)) (zX d) (by rw [zN];exact hh.1) hh.2.symm
   have c:=congrArg ByteArray.size b
   rw [zN,zN] at c
   simp at c
  ·rfl
 ·rfl
def zO (h:ByteArray) (n:Int) (t:ByteArray):ByteArray:=h++zX (Lib.itoa n)++t
namespace K
def look (k:ByteArray):Mp ByteArray:=.look k .ret
def lay (k v:ByteArray):Mp Unit:=.lay k v (.ret ())
def under (p:ByteArray):Mp (List ByteArray):=.under p .ret
def wipe (p:ByteArray):Mp Unit:=do
 let ks <- under p
 each (fun k=>lay k ⟨#[]⟩) ks
def num (k:ByteArray):Mp Int:=do return za0 (<- look k)
def numText (n:Int):ByteArray:=if 1<=n/\n<=999 then zX (Lib.itoa n) else ⟨#[]⟩
def setNum (k:ByteArray) (n:Int):Mp Unit:=lay k (numText n)
def bump (k:ByteArray):Mp Int:=do
 let n <- num k
 if 999<n+1 then return 0 else do
  setNum k (n+1)
  return n+1
def messageOf (v:ByteArray):ByteArray:=if v.data.toList.head?=some 45 then zb2 (v.extract 1 v.size) else ⟨#[]⟩
def message (k:ByteArray):Mp ByteArray:=do return messageOf (<- look k)
def nameByte (c:UInt8):Bool:=inB (c.toNat:Int) 97 122 || inB (c.toNat:Int) 48 57 || (c.toNat:Int)==46 || (c.toNat:Int)==45
def nameOk (s:ByteArray):Bool:=s.data.toList.all nameByte && inB (s.size:Int) 1 12
def nN:ByteArray:=⟨#[110,47]⟩
def nI:ByteArray:=⟨#[105,47]⟩
def tL:ByteArray:=⟨#[47,108]⟩
def cFile:ByteArray:=⟨#[99,47,102,105,108,101]⟩
def fileOf (name:ByteArray):Mp Int:=if nameOk name then num (nN++name) else return 0
def makeName (name:ByteArray):Mp (Int × Int) :=
 if nameOk name then do
  let id <- fileOf name
  if id ≠ 0 then return (0,1) else do
   let many <- num cFile
   if 20<=many then return (0,3) else do
    let id <- bump cFile
    setNum (nN++name) id
    setNum (zO nI id tL) 1
    return (id,0)
 else return (0,4)
def linkName (a b:ByteArray):Mp Int :=
 if nameOk a/\nameOk b then do
  let id <- fileOf a
  if id=0 then return 2 else do
   let other <- fileOf b
   if other ≠ 0 then return 1 else do
    let links <- num (zO nI id tL)
    if 4<=links then return 3 else do
     setNum (nN++b) id
     setNum (zO nI id tL) (links+1)
     return 0
 else return 4
def unlinkName (name:ByteArray):Mp Int :=
 if nameOk name then do
  let id <- fileOf name
  if id=0 then return 2 else do
   lay (nN++name) ⟨#[]⟩
   let links <- num (zO nI id tL)
   if 1<links then do
    setNum (zO nI id tL) (links - 1)
    return 0
   else do
    wipe (zO nI id ⟨#[47]⟩)
    return 0
 else return 4
def renameName (a b:ByteArray):Mp Int :=
 if nameOk a/\nameOk b then do
  let id <- fileOf a
  if id=0 then return 2 else do
   let other <- fileOf b
   if other=id then return 0 else do
    if other ≠ 0 then do
     let _ <- unlinkName b
     setNum (nN++b) id
     lay (nN++a) ⟨#[]⟩
     return 0
    else do
     setNum (nN++b) id
     lay (nN++a) ⟨#[]⟩
     return 0
 else return 4
def names:Mp (List ByteArray):=do return (<- under nN).map fun k=>k.extract 2 k.size
/-! ### files -/
def tS:ByteArray:=⟨#[47,115]⟩
def tB:ByteArray:=⟨#[47,98,47]⟩
def sizeKey (id:Int):ByteArray:=zO nI id tS
def blockKey (id place:Int):ByteArray:=zO (zO nI id tB) place ⟨#[]⟩
def block (id place:Int):Mp ByteArray:=do return zb2 (<- look (blockKey id place))
def places (a b:Nat):List Nat:=List.range' (a / 8) ((b+7) / 8 - a / 8)
def readBlock (id:Int) (a b:Nat) (out:ByteArray) (place:Nat):Mp ByteArray:=do
 let s <- block id place
 let lo:=a - place*8
 let hi:=min (b - place*8) (min 8 s.size)
 return if lo<hi then out++s.extract lo hi else out
def readFile (id a n:Int):Mp ByteArray:=do
 let size <- num (sizeKey id)
 if a<0 ∨ n<1 ∨ size<=a then return ⟨#[]⟩ else
  fold (readBlock id a.toNat (a+min n (size - a)).toNat) ⟨#[]⟩ (places a.toNat (a+min n (size - a)).toNat)
def setAt (b:List UInt8) (i:Nat) (c:UInt8):List UInt8:=(b++List.replicate (i+1 - b.length) 0).set i c
def wBlock (text:List UInt8) (a b place:Nat) (old:List UInt8):List UInt8 :=
 (List.range' (max a (place*8)) (min b (place*8+8) - max a (place*8))).foldl (fun l k=>setAt l (k - place*8) (text.getD (k - a) 0)) old
def writeBlock (id:Int) (text:ByteArray) (a b place:Nat):Mp Unit:=do
 let s <- block id place
 lay (blockKey id place) (zfb (zX (wBlock text.data.toList a b place s.data.toList)))
def writeFile (id a:Int) (text:ByteArray):Mp Int:=do
 let size <- num (sizeKey id)
 if ¬ (0<=a/\a<=size) ∨ text.size=0 then return 4 else
  if 64<a+text.size then return 3 else do
   each (writeBlock id text a.toNat (a.toNat+text.size)) (places a.toNat (a.toNat+text.size))
   if size<a+text.size then setNum (sizeKey id) (a+text.size) else pure ()
   return 0
def cutFile (id n:Int):Mp Int:=do
 let size <- num (sizeKey id)
 if ¬ (0<=n/\n<=size) then return 4 else
  if 0<n % 8 then do
   let s <- block id (n / 8)
   lay (blockKey id (n / 8)) (zfb (s.extract 0 (min (n % 8).toNat s.size)))
   each (fun p:Nat=>lay (blockKey id (p:Int)) ⟨#[]⟩) (List.range' ((n / 8).toNat+1) ((size.toNat+7) / 8 - ((n / 8).toNat+1)))
   setNum (sizeKey id) n
   return 0
  else do
   each (fun p:Nat=>lay (blockKey id (p:Int)) ⟨#[]⟩) (List.range' (n / 8).toNat ((size.toNat+7) / 8 - (n / 8).toNat))
   setNum (sizeKey id) n
   return 0
/-! ### pipes -/
def nP:ByteArray:=⟨#[112,47]⟩
def tO:ByteArray:=⟨#[47,111]⟩
def tT:ByteArray:=⟨#[47,116]⟩
def tH:ByteArray:=⟨#[47,104]⟩
def tQ:ByteArray:=⟨#[47,113,47]⟩
def cPipe:ByteArray:=⟨#[99,47,112,105,112,101]⟩
def pipeKey (id:Int) (t:ByteArray):ByteArray:=zO nP id t
def dash:ByteArray:=⟨#[45]⟩
def makePipe:Mp (Int × Int):=do
 let many <- num cPipe
 if 8<=many then return (0,3) else do
  let id <- bump cPipe
  setNum (pipeKey id tO) 1
  return (id,0)
def isPipe (id:Int):Mp Bool:=do return (<- num (pipeKey id tO))==1
def putPipe (id:Int) (text:ByteArray):Mp Int:=do
 let is <- isPipe id
 if is=false then return 2 else
  if 20<text.size then return 4 else do
   let tail <- num (pipeKey id tT)
   let head <- num (pipeKey id tH)
   if 4<=tail - head then return 5 else
    if 999<=tail then return 3 else do
     setNum (pipeKey id tT) (tail+1)
     lay (zO (pipeKey id tQ) (tail+1) ⟨#[]⟩) (dash++zfb text)
     return 0
def takePipe (id:Int):Mp (ByteArray × Int):=do
 let is <- isPipe id
 if is=false then return (⟨#[]⟩,2) else do
  let head <- num (pipeKey id tH)
  let tail <- num (pipeKey id tT)
  if tail=head then return (⟨#[]⟩,5) else do
   let text <- message (zO (pipeKey id tQ) (head+1) ⟨#[]⟩)
   lay (zO (pipeKey id tQ) (head+1) ⟨#[]⟩) ⟨#[]⟩
   setNum (pipeKey id tH) (head+1)
   return (text,0)
/-! ### processes -/
def nR:ByteArray:=⟨#[114,47]⟩
def tP:ByteArray:=⟨#[47,112]⟩
def tX:ByteArray:=⟨#[47,120]⟩
def slash:ByteArray:=⟨#[47]⟩
def cProc:ByteArray:=⟨#[99,47,112,114,111,99]⟩
def procKey (id:Int) (t:ByteArray):ByteArray:=zO nR id t
def state (id:Int):Mp Int:=num (procKey id tS)
def spawn (parent:Int):Mp (Int × Int):=do
 let many <- num cProc
 if 12<=many then return (0,3) else do
  let id <- bump cProc
  setNum (procKey id tS) 1
  setNum (procKey id tP) parent
  return (id,0)
def endProc (id n:Int):Mp Int:=do
 let s <- state id
 if s ≠ 1 then return 2 else
  if ¬ (0<=n/\n<=100) then return 4 else do
   setNum (procKey id tS) 2
   setNum (procKey id tX) (n+1)
   return 0
def reap (parent id:Int):Mp (Int × Int):=do
 let own <- num (procKey id tP)
 if own=0 ∨ own ≠ parent then return (0,2) else do
  let s <- state id
  if s=1 then return (0,5) else
   if s ≠ 2 then return (0,2) else do
    let n <- num (procKey id tX)
    wipe (procKey id slash)
    return (n - 1,0)
def isKidKey (key:ByteArray):Bool:=decide (5<=key.size) && ((key.extract (key.size - 2) key.size).data.toList == [47,112])
def kid (parent:Int) (out:List Int) (key:ByteArray):Mp (List Int) :=
 if isKidKey key then do
  let up <- num key
  return if up=parent then out ++ [za0 (key.extract 2 (key.size - 2))] else out
 else return out
def kids (parent:Int):Mp (List Int):=do
 let keys <- under nR
 fold (kid parent) [] keys
/-! ### signals -/
def nG:ByteArray:=⟨#[103,47]⟩
def nT:ByteArray:=⟨#[116,47]⟩
def cClock:ByteArray:=⟨#[99,47,99,108,111,99,107]⟩
def signalKey (id:Int) (t:ByteArray):ByteArray:=zO nG id t
def send (to n:Int):Mp Int:=do
 let s <- state to
 if s ≠ 1 then return 2 else
  if ¬ (1<=n/\n<=31) then return 4 else do
   let tail <- num (signalKey to tT)
   let head <- num (signalKey to tH)
   if 4<=tail - head then return 5 else
    if 999<=tail then return 3 else do
     setNum (signalKey to tT) (tail+1)
     setNum (zO (signalKey to tQ) (tail+1) ⟨#[]⟩) n
     return 0
def takeSignal (id:Int):Mp (Int × Int):=do
 let head <- num (signalKey id tH)
 let tail <- num (signalKey id tT)
 if tail=head then return (0,5) else do
  let n <- num (zO (signalKey id tQ) (head+1) ⟨#[]⟩)
  lay (zO (signalKey id tQ) (head+1) ⟨#[]⟩) ⟨#[]⟩
  setNum (signalKey id tH) (head+1)
  return (n,0)
def setTimer (id a:Int):Mp Int :=
 if 0<=a/\a<=999 then do
  setNum (zO nT id ⟨#[]⟩) a
  return 0
 else return 4
def tickOne (clock:Int) (count:Int) (key:ByteArray):Mp Int:=do
 let a <- num key
 if clock<a then return count else do
  lay key ⟨#[]⟩
  let _ <- send (za0 (key.extract 2 key.size)) 14
  return count+1
def tick (n:Int):Mp (Int × Int) :=
 if n<1 then return (0,4) else do
  let clock <- num cClock
  if 999 - clock<n then return (0,3) else do
   setNum cClock (clock+n)
   let keys <- under nT
   let k <- fold (tickOne (clock+n)) 0 keys
   return (k,0)
/-! ### pages, output -/
def nM:ByteArray:=⟨#[109,47]⟩
def pagesKey (id:Int):ByteArray:=zO nM id slash
def storePage (id page:Int) (text:ByteArray):Mp Int :=
 if (0<=page/\page<=3)/\text.size<=20 then do
  lay (zO (pagesKey id) page ⟨#[]⟩) (if text.size=0 then ⟨#[]⟩ else dash++zfb text)
  return 0
 else return 4
def loadPage (id page:Int):Mp (ByteArray × Int) :=
 if 0<=page/\page<=3 then do
  let t <- message (zO (pagesKey id) page ⟨#[]⟩)
  return (t,0)
 else return (⟨#[]⟩,4)
def forkOne (frm to:Int) (key:ByteArray):Mp Unit:=do
 let v <- look key
 lay (pagesKey to++key.extract (pagesKey frm).size key.size) v
def forkPages (frm to:Int):Mp Unit:=do
 let keys <- under (pagesKey frm)
 each (forkOne frm to) keys
def dropPages (id:Int):Mp Unit:=wipe (pagesKey id)
def dN:ByteArray:=⟨#[100,47,110]⟩
def nD:ByteArray:=⟨#[100,47]⟩
def putOut (text:ByteArray):Mp Int :=
 if 1<=text.size/\text.size<=20 then do
  let n <- num dN
  if 40<=n then return 3 else do
   setNum dN (n+1)
   lay (zO nD (n+1) ⟨#[]⟩) (dash++zfb text)
   return 0
 else return 4
/-! ### calls -/
def callOk (c:CallD):Bool:=(inB c.kind 1 22 && decide (c.name.size<=20)) && (decide (c.to.size<=20) && decide (c.text.size<=64))
def space:ByteArray:=⟨#[32]⟩
def wordsOf (l:List ByteArray):ByteArray:=l.foldl (fun t w=>t++(w++space)) ⟨#[]⟩
def doFile (c:CallD):Mp AnswerD:=do
 let id <- fileOf c.name
 if id=0 then return ⟨2,0,⟨#[]⟩⟩ else
  if c.kind=6 then do
   let t <- readFile id c.a c.b
   return ⟨0,0,t⟩
  else if c.kind=7 then do
   let r <- writeFile id c.a c.text
   return ⟨r,0,⟨#[]⟩⟩
  else do
   let r <- cutFile id c.a
   return ⟨r,0,⟨#[]⟩⟩
def code (x:Mp Int):Mp AnswerD:=do return ⟨<- x,0,⟨#[]⟩⟩
def codeN (x:Mp (Int × Int)):Mp AnswerD:=do
 let p <- x
 return ⟨p.2,p.1,⟨#[]⟩⟩
def codeT (x:Mp (ByteArray × Int)):Mp AnswerD:=do
 let p <- x
 return ⟨p.2,0,p.1⟩
def doSpawn (proc:Int):Mp AnswerD:=do
 let p <- spawn proc
 if p.2=0 then do
  forkPages proc p.1
  return ⟨p.2,p.1,⟨#[]⟩⟩
 else return ⟨p.2,p.1,⟨#[]⟩⟩
def doEnd (proc n:Int):Mp AnswerD:=do
 let r <- endProc proc n
 if r=0 then do
  dropPages proc
  return ⟨r,0,⟨#[]⟩⟩
 else return ⟨r,0,⟨#[]⟩⟩
def doNames:Mp AnswerD:=do return ⟨0,0,wordsOf (<- names)⟩
def doKids (proc:Int):Mp AnswerD:=do
 let l <- kids proc
 return ⟨0,0,wordsOf (l.map fun n=>zX (Lib.itoa n))⟩
def doKind (proc:Int) (c:CallD):Mp AnswerD :=
 if c.kind=1 then codeN (makeName c.name)
 else if c.kind=2 then code (linkName c.name c.to)
 else if c.kind=3 then code (unlinkName c.name)
 else if c.kind=4 then code (renameName c.name c.to)
 else if c.kind=5 then doNames
 else if c.kind=6 ∨ c.kind=7 ∨ c.kind=8 then doFile c
 else if c.kind=9 then codeN makePipe
 else if c.kind=10 then code (putPipe c.a c.text)
 else if c.kind=11 then codeT (takePipe c.a)
 else if c.kind=12 then doSpawn proc
 else if c.kind=13 then doEnd proc c.a
 else if c.kind=14 then codeN (reap proc c.a)
 else if c.kind=15 then doKids proc
 else if c.kind=16 then code (send c.a c.b)
 else if c.kind=17 then codeN (takeSignal proc)
 else if c.kind=18 then code (setTimer proc c.a)
 else if c.kind=19 then codeN (tick c.a)
 else if c.kind=20 then code (storePage proc c.a c.text)
 else if c.kind=21 then codeT (loadPage proc c.a)
 else code (putOut c.text)
def doCall (proc:Int) (c:CallD):Mp AnswerD:=do
 let s <- state proc
 if s ≠ 1 then return ⟨2,0,⟨#[]⟩⟩ else
  if callOk c=false then return ⟨4,0,⟨#[]⟩⟩ else doKind proc c
end K
end Go.Proofs.YtpnoehpmgflibaaGreatDoor
namespace Go
open Go.RowKit
theorem zgC {w:World} {g:Nat} {cur cs:Array Value} {t:TypeId} (hg:w.heap[g]?=some (.cells cur t (0,0))):w.setRow g cs=w.setB g (.cells cs t):=by
 unfold World.setRow World.setB
 congr 1
 apply Array.ext_getElem?
 intro i
 have hl:=za hg
 rw [Array.getElem?_modify,Array.getElem?_setIfInBounds]
 by_cases e:g=i
 ·subst e
  rw [if_pos rfl,if_pos rfl,if_pos hl,hg]
  rfl
 ·rw [if_neg e,if_neg e]
section
variable {P:Program} {w:World} {t e:TypeId} {k bytes:Nat}
theorem zbT (E:Elem P t e k bytes) (ty:TypeId) (g off dLen dCap:Nat) (ad:Addr) (sLen sCap:Nat) (cur:List Value) (T:TypeId) (hg:w.heap[g]?=some (.cells cur.toArray T (0,0)))
  (cs:List Value) (hn:cs.length=Nat.min sLen dLen*k) (hsrc:∀ j v,cs[j]?=some v->w.cell? (ad.add j)=some v) (hfit:off+cs.length<=cur.length) (h1:∀ v ∈ cs,v.oneCell'=true) :
  (Builtin.copy_ #[t,t] ty #[.slice (some ⟨g,off,none⟩) dLen dCap,.slice (some ad) sLen sCap]).run P w=.ok (goInt (Nat.min sLen dLen)) (w.setB g (.cells (splice cur off cs).toArray T)):=by
 obtain ⟨i,z,hi,hz,hs,hb,hzz⟩:=E.hi
 have hl:=run_loadCells_list (P:=P) w ad cs hsrc
 have hst:=run_storeCells_at P g off T cs 0 cur.toArray w hg (by simpa using hfit) h1
 rw [zgC hg] at hst
 have e1:(cur.toArray.toList.take (off+0)++cs++cur.toArray.toList.drop (off+0+cs.length))=splice cur off cs:=by unfold splice;simp
 rw [e1] at hst
 subst hs
 simp [Builtin.copy_,run_underlying E.ht,Builtin.lenOf,Builtin.firstCells,sizeOf,typeInfo,hi,<- hn,hl,hst]
theorem zjz {tn:TypeId} (E:Elem P t e k bytes) (htn:P.underlying tn=some (.int .i64)) (base:Option Addr) (sLen sCap:Nat) (olds:List Value) (hol:olds.length=sLen*k) (hold:base=none->sLen=0) (hsrc:∀ ad,base=some ad->∀ j v,olds[j]?=some v->w.cell? (ad.add j)=some v)
  (m:Nat) (h0 : 0<m) (hg:sCap<sLen+m) (hbig:(sLen+m)*bytes<=140737488355328) (hmb:m*bytes<=281474976710656) (h63:sLen+m<=9223372036854775807) :
  ∃ (G:Nat) (L:List Value),sLen+m<=G/\G<=maxLen/\L.length=G*k/\L.take (sLen*k)=olds /\
   ∀ ty,(Builtin.append_ #[t,tn] ty #[.slice base sLen sCap,.int .i64 (m:Int)]).run P w=.ok (.slice (some ⟨w.heap.size,0,none⟩) (sLen+m) G) (w.drew.alloc (.cells L.toArray e)):=by
 obtain ⟨i,z,hi,hz,hs,hb,hzz⟩:=E.hi
 have hpos:=E.pos
 subst hs hb
 have ho:(Builtin.firstCells i.size sLen (.slice base sLen sCap)).run P w.drew=.ok olds.toArray w.drew:=by
  cases base with
  | none =>
   have:=hold rfl
   subst this
   have:olds = []:=List.eq_nil_of_length_eq_zero (by omega)
   subst this
   exact run_firstCells_none w.drew i.size 0 0 sCap
  | some ad=>exact run_firstCells_some w.drew i.size sLen ad sLen sCap olds hol (fun j v hj=>hsrc ad rfl j v hj)
 refine ⟨grownCap w (sLen+m) sCap e,olds++(Builtin.zeroCells z.cells m).toList++(Builtin.zeroCells z.cells (grownCap w (sLen+m) sCap e - (sLen+m))).toList,grownCap_ge w _ _ _,grownCap_le_maxLen w _ _ _ (by unfold maxLen;omega),?_,?_,fun ty=>?_⟩
 ·have hge:=grownCap_ge w (sLen+m) sCap e
  rw [List.length_append,List.length_append,hol]
  simp only [Builtin.zeroCells,Array.length_toList,Array.size_map,Array.size_range,hzz]
  rw [<- Nat.add_mul,<- Nat.add_mul]
  congr 1
  omega
 ·rw [List.append_assoc,<- hol,List.take_left]
 ·have h:=Lib.run_append_grow_zeros w t tn ty e i z .i64 .i64 E.ht htn hi hz base sLen sCap olds ho m h0 hpos hg (by omega) hmb (growslice_fits hg hbig)
  rw [h]
  congr 3
  apply Array.ext'
  simp
theorem zf3 {o:Oper} {a:Act} {K:Act->World->Prop} {Q:Exit->Act->World->Prop} {w':World} {v u r:Value} (d s:Operand) (t:TypeId)
  (ho:o.op=.call { callee:=.builtin .copy,args:=#[d,s],argTypes:=#[t,t] }) (hd:a.eval d=v) (hs:a.eval s=u)
  (hr:(Builtin.copy_ #[t,t] o.type #[v,u]).run P w=.ok r w') (h:K (a.put o.dst r) w'):o.wp P a w K Q:=by
 unfold Oper.wp execOp
 simp only [ho,resolve,invoke,builtin,Sem.run_bind,Sem.run_pure,Result.andThen_ok,List.map_toArray,List.map_cons,List.map_nil,hd,hs,hr]
 exact h
theorem zgi {ops:Array Oper} {rest:List Oper} {o:Oper} {a:Act} {Q:Exit->Act->World->Prop} {w':World} {v u r:Value} (hgd:o.guard=none) (d s:Operand) (t tn:TypeId)
  (ho:o.op=.call { callee:=.builtin .append,args:=#[d,s],argTypes:=#[t,tn] }) (hd:a.eval d=v) (hs:a.eval s=u)
  (hr:(Builtin.append_ #[t,tn] o.type #[v,u]).run P w=.ok r w') (h:wpList P ops Q rest (a.put o.dst r) w'):wpList P ops Q (o :: rest) a w :=
 wpList_plain hgd fun _ hK=>by
  unfold Oper.wp execOp
  simp only [ho,resolve,invoke,builtin,Sem.run_bind,Sem.run_pure,Result.andThen_ok,List.map_toArray,List.map_cons,List.map_nil,hd,hs,hr]
  exact hK _ _ h
theorem zlx {z:Value} (n:Nat) (hz:∀ u ∈ z.cells,u.oneCell'=true):∀ v ∈ (Builtin.zeroCells z.cells n).toList,v.oneCell'=true:=by
 intro v hv
 simp only [Builtin.zeroCells,Array.toList_map,List.mem_map,Array.mem_toList_iff,Array.mem_range] at hv
 obtain ⟨i,hi,rfl⟩:=hv
 have h0 : 0<z.cells.size:=by
  rcases Nat.eq_zero_or_pos z.cells.size with h|h
  ·rw [h] at hi;omega
  ·exact h
 have hlt:i % z.cells.size<z.cells.size:=Nat.mod_lt _ h0
 rw [getElem!_pos z.cells _ hlt]
 exact hz _ (Array.getElem_mem hlt)
theorem zk1 (z:Value) (ht:P.underlying t=some (.slice e)) (hv0:(P.info? e).map (fun i=>i.zero)=some (some z)) (h1:∀ u ∈ z.cells,u.oneCell'=true) (ty:TypeId) (g off n c:Nat) (hn : 0<n) (cur:List Value) (T:TypeId) (hg:w.heap[g]?=some (.cells cur.toArray T (0,0)))
  (hfit:off+n*z.cells.size<=cur.length) :
  (Builtin.clear_ #[t] ty #[.slice (some ⟨g,off,none⟩) n c]).run P w=.ok (.tuple #[]) (w.setB g (.cells (splice cur off (Builtin.zeroCells z.cells n).toList).toArray T)):=by
 have hv:∀ w,(zeroValue e).run P w=.ok z w:=fun w=>by
  cases hi:P.info? e with
  | none=>rw [hi] at hv0;cases hv0
  | some i =>
   rw [hi] at hv0
   have hz:i.zero=some z:=by simpa using hv0
   simp [zeroValue,typeInfo,hi,hz]
 have hl:(Builtin.zeroCells z.cells n).toList.length=n*z.cells.size:=by simp [Builtin.zeroCells]
 have hst:=run_storeCells_at P g off T (Builtin.zeroCells z.cells n).toList 0 cur.toArray w hg (by rw [hl];simpa using hfit) (zlx n h1)
 rw [zgC hg] at hst
 have e1:(cur.toArray.toList.take (off+0)++(Builtin.zeroCells z.cells n).toList++cur.toArray.toList.drop (off+0+(Builtin.zeroCells z.cells n).toList.length))=splice cur off (Builtin.zeroCells z.cells n).toList:=by unfold splice;simp
 rw [e1] at hst
 obtain ⟨m,rfl⟩ : ∃ m,n=m+1:=⟨n - 1,by omega⟩
 simp [Builtin.clear_,run_underlying ht,hv,hst]
end
theorem zgk {α : Type} (L:List α) (off:Nat) (cs:List α) (m:Nat) (h:m<=off) (hl:off<=L.length):(splice L off cs).take m=L.take m:=by
 unfold splice
 rw [List.take_append_of_le_length (by rw [List.length_take];omega),List.take_take,Nat.min_eq_left h]
theorem zbo {w w':World} {row:Option Nat} (h:w.grownBy w' row):Upon row.toList w w' :=
 ⟨h.os,h.tape,h.output,h.size,fun b hb hn=>h.block b hb (fun e=>hn (by rw [<- e];simp))⟩
theorem zhw {α : Type} (L:List α) (off:Nat) (cs:List α):splice L off cs=L.take off++(cs++L.drop (off+cs.length)):=rfl
theorem zgo {α : Type} (L:List α) (off:Nat) (cs ds:List α) (hl:off+cs.length+ds.length<=L.length):(splice (splice L off cs) (off+cs.length) ds).take (off+cs.length+ds.length)=L.take off++(cs++ds):=by
 have e1:(splice L off cs).take (off+cs.length)=L.take off++cs:=by
  unfold splice
  rw [<- List.append_assoc,List.take_left' (by rw [List.length_append,List.length_take];omega)]
 have e2:(splice (splice L off cs) (off+cs.length) ds)=(L.take off++cs)++(ds++(splice L off cs).drop (off+cs.length+ds.length)):=by
  rw [zhw (splice L off cs),e1]
 rw [e2,<- List.append_assoc,List.take_left' (by simp only [List.length_append,List.length_take];omega),List.append_assoc]
theorem zfE {α : Type} (L:List α) (off:Nat) (cs ds:List α) (hl:off+cs.length+ds.length<=L.length):(splice (splice L (off+cs.length) ds) off cs).take (off+cs.length+ds.length)=L.take off++(cs++ds):=by
 have e1:(splice L (off+cs.length) ds).take off=L.take off:=zgk _ _ _ _ (by omega) (by omega)
 have e2:(splice L (off+cs.length) ds).drop (off+cs.length)=ds++L.drop (off+cs.length+ds.length):=by
  unfold splice
  rw [List.drop_left' (by rw [List.length_take];omega)]
 have e3:splice (splice L (off+cs.length) ds) off cs=(L.take off++(cs++ds))++L.drop (off+cs.length+ds.length):=by
  rw [zhw (splice L (off+cs.length) ds),e1,e2]
  simp only [List.append_assoc]
 rw [e3,List.take_left' (by simp only [List.length_append,List.length_take];omega)]
end Go
namespace Go.Proofs.YtpnoehpmgflibaaGreatDoor
open Go.ChangeShapes Go.WideShapes Go.ChangeAt Go.RowKit
theorem ze6 {α : Type} (p : α->Bool):∀ xs:List α,xs.any p=true->∃ n,∃ h:n<xs.length,(xs.take n).any p=false/\p xs[n]=true
 | [],h=>by cases h
 | x :: xs,h=>by
  cases hp:p x with
  | true=>exact ⟨0,by simp,rfl,hp⟩
  | false =>
   rw [List.any_cons,hp,Bool.false_or] at h
   obtain ⟨n,hn,h1,h2⟩:=ze6 p xs h
   exact ⟨n+1,by simpa using hn,by rw [List.take_succ_cons,List.any_cons,hp,h1];rfl,by simpa using h2⟩
theorem zfD (key:ByteArray) (xs:List CellD) (h:xs.any (z6 key)=false):zB key xs=xs:=by
 unfold zB
 rw [List.filter_eq_self]
 intro c hc
 rw [List.any_eq_false] at h
 simpa using h c hc
theorem zf6 (xs:List CellD):(xs.flatMap CellD.row).length=xs.length*2:=by
 have:=zu.flat_len xs
 exact this
theorem zb0 (v:Value) (ds:List CellD) (key:ByteArray) (b0 B:Nat) (w:World) (ho:OwnL zu 47 w B v ds) (hb0:b0<w.heap.size) (hnb0:v.ownBlock ≠ some b0) (hc0:w.cell? ⟨b0,0,none⟩=some (.string key)) :
  Calls Tryz.prog 107 #[v,.func (Fn.func 108) #[] #[.pointer (some ⟨b0,0,none⟩)]] w fun e w'=>∃ v',e=.returned v'/\OwnL zu 47 w' B v' (zB key ds)/\v'.ownBlock=v.ownBlock/\Upon v.ownBlock.toList w w':=by
 have HOWN:=Hd ho
 cases hany:ds.any (z6 key) with
 | false =>
  have HI:Hid (zaw (z6 key) ds = -1):=zaI _ _ hany
  have HW:Hid (zB key ds=ds):=zfD key ds hany
  obtain ⟨ao,cap,rfl⟩:=ho.rd.form
  have HC:=Hd hc0
  clear ho hc0 hany
  go_enter Tryz.func107,Tryz.ntmps107
  go_wp2_with fail
  (go_at_call 109;refine (zdb _ ds key b0 _ HOWN.out.rd hb0 HC.out).mono ?_;rintro e w' ⟨rfl,hb⟩;obtain ⟨X,rfl⟩:=hb.ext;clear hb)
  rw [HI.out]
  go_wp2
  go_ret
  exact ⟨_,rfl,by rw [HW.out];exact HOWN.out.ext _,rfl,Upon.below (by repeat (first|with_reducible exact Below.refl _ _|with_reducible apply Below.ofExt|with_reducible apply Below.ofAlloc|with_reducible apply Below.drew|with_reducible apply Below.ofDrewN|with_reducible assumption|(with_reducible refine Below.setCell ?_ (by first|exact Nat.le_refl _|(simp [go_sem];done)|(simp [go_sem];omega)) _)))⟩
 | true =>
  obtain ⟨i0,hi0,hbef,hat⟩:=ze6 _ _ hany
  have HI:Hid (zaw (z6 key) ds=i0):=zaE _ _ i0 hi0 hbef hat
  have HST:Hid (zB key (ds.take (i0+1))=ds.take i0):=by
   show _ = _
   rw [List.take_succ_eq_append_getElem hi0,zaR,hat,if_pos rfl,List.append_nil,zfD key _ hbef]
  clear hany hbef hat
  rcases ho.2 with ⟨_,h0⟩|⟨g,cap,cur,rfl,hg,hh,hn,hm,hsz,ht⟩
  ·have:ds = []:=List.eq_nil_of_length_eq_zero h0
   rw [this] at hi0
   simp at hi0
  have hgl:=za hh
  have hnb:b0 ≠ g:=fun e=>hnb0 (by rw [e];rfl)
  have hnb':¬ g=b0:=fun e=>hnb e.symm
  clear hnb0 ho
  have HH:=Hd hh
  have HT:Hid (cur.toList.take (ds.length*2)=ds.flatMap CellD.row):=ht
  have HSZ:Hid (cur.size=cap*2):=hsz
  have HE:Hid (w.setB g (.cells cur 47 (0,0))=w):=ze hh
  have HC:=Hd hc0
  have hce:∀ (n:Nat) (hk:n<ds.length),cur[n*2]?=some (.string ds[n].key)/\cur[n*2+1]?=some (.string ds[n].val):=by
   intro n hk
   obtain ⟨ao',cp',e1,_,_,_,hne⟩:=HOWN.out.rd.shape
   obtain ⟨b',off',rfl,_,hcell⟩:=hne (by intro e;rw [e] at hk;simp at hk)
   simp only [Value.slice.injEq,Option.some.injEq,Addr.mk.injEq,and_true,true_and] at e1
   obtain ⟨⟨rfl,rfl⟩,rfl⟩:=e1
   have h0:=hcell n hk 0 _ rfl
   have h1:=hcell n hk 1 _ rfl
   rw [zb HH.out] at h0 h1
   simp only [show zu.k=2 from rfl,Nat.zero_add,Nat.add_zero] at h0 h1
   exact ⟨h0,h1⟩
  clear hh ht hsz hc0
  unfold maxLen at hm
  refine zd8 HH.out ?_
  go_enter Tryz.func107,Tryz.ntmps107
  go_wp2_with fail
  (go_at_call 109;refine (zdb _ ds key b0 _ (by rw [HE.out];exact HOWN.out.rd) (by simp [go_sem];omega) (by rw [HE.out];exact HC.out)).mono ?_;rintro e w' ⟨rfl,hb⟩;obtain ⟨X,rfl⟩:=hb.ext;clear hb)
  rw [HI.out]
  have HCE:=Hd hce
  clear hce
  have hne1:((i0:Int) == -1)=false:=beq_false_of_ne (by omega)
  go_wp2
  go_loopw [5,6] (fun iv jv wr=>∃ (k j:Nat) (cs:Array Value),iv=.int .i64 k/\jv=.int .i64 j/\k<j/\j<=ds.length/\Below (w.setB g (.cells cs 47)).heap.size (w.setB g (.cells cs 47)) wr/\cs.size=cap*2/\cs.toList.take (k*2)=(zB key (ds.take j)).flatMap CellD.row/\∀ m,j*2<=m->m<ds.length*2->cs[m]?=cur[m]?) (fun _ jv _=>ds.length - (intOf jv).toNat)
  case atStart=>exact ⟨i0,i0+1,cur,rfl,by go_num,by omega,by omega,(by repeat (first|with_reducible exact Below.refl _ _|with_reducible apply Below.ofExt|with_reducible apply Below.ofAlloc|with_reducible apply Below.drew|with_reducible apply Below.ofDrewN|with_reducible assumption|(with_reducible refine Below.setCell ?_ (by first|exact Nat.le_refl _|(simp [go_sem];done)|(simp [go_sem];omega)) _))),HSZ.out,by
   rw [HST.out]
   have h:=HT.out
   have h2:=congrArg (List.take (i0*2)) h
   rw [List.take_take,Nat.min_eq_left (by omega)] at h2
   rw [h2]
   have e:ds.flatMap CellD.row=(ds.take i0).flatMap CellD.row++(ds.drop i0).flatMap CellD.row:=by rw [<- List.flatMap_append,List.take_append_drop]
   rw [e,List.take_left' (by rw [zf6,List.length_take,Nat.min_eq_left (by omega)])],fun m _ _=>rfl⟩
  case round =>
   obtain ⟨k,j,cs,rfl,rfl,hkj,hj,hbel,hcs,htk,htl⟩:=hrel
   obtain ⟨Y,rfl⟩:=hbel.ext
   clear hbel
   have HTK:=Hd htk
   have HTL:=Hd htl
   have HCS:=Hd hcs
   clear htk htl hcs
   by_cases hlt:(j:Int)<ds.length
   case pos =>
    have hk:j<ds.length:=by omega
    obtain ⟨y0,y1⟩:=HCE.out j hk
    rw [<- HTL.out _ (by omega) (by omega)] at y0
    rw [<- HTL.out _ (by omega) (by omega)] at y1
    have hst:ds.take (j+1)=ds.take j ++ [ds[j]]:=List.take_succ_eq_append_getElem hk
    generalize ds[j]=d at y0 y1 hst
    have l0:k*2<cs.size:=by rw [HCS.out];omega
    have l1:k*2+1<cs.size:=by rw [HCS.out];omega
    have l4:g<w.heap.size+Y.bs.size:=by omega
    have l5:g<w.heap.size+Y.bs.size+1:=by omega
    have l6:¬ g=w.heap.size+Y.bs.size:=by omega
    cases hik:z6 key d with
    | true =>
     have HS:Hid (zB key (ds.take (j+1))=zB key (ds.take j)):=by show _ = _;rw [hst,zaR,hik,if_pos rfl,List.append_nil]
     clear hst
     go_wp2_with fail
     (go_at_call 108;refine (zeU d key b0 _ (by simp [go_sem];try omega) (by repeat (first|exact HC.out|refine Grew.cell (Grew.ext _ _) ?_|refine Grew.cell (Grew.alloc _ _) ?_|rw [zbn _ _ _ _ _ hnb]))).mono ?_;rintro e w' ⟨rfl,hb⟩;obtain ⟨X,rfl⟩:=hb.ext;clear hb)
     rw [hik]
     go_wp2
     go_roundw
     case rel=>exact ⟨k,j+1,cs,rfl,by go_num,by omega,by omega,(by repeat (first|with_reducible exact Below.refl _ _|with_reducible apply Below.ofExt|with_reducible apply Below.ofAlloc)),HCS.out,by rw [HS.out];exact HTK.out,fun m h1 h2=>HTL.out m (by omega) h2⟩
     case measure=>simp [intOf];omega
    | false =>
     have HS:Hid (zB key (ds.take (j+1))=zB key (ds.take j) ++ [d]):=by show _ = _;rw [hst,zaR,hik];rfl
     clear hst
     go_wp2_with fail
     (go_at_call 108;refine (zeU d key b0 _ (by simp [go_sem];try omega) (by repeat (first|exact HC.out|refine Grew.cell (Grew.ext _ _) ?_|refine Grew.cell (Grew.alloc _ _) ?_|rw [zbn _ _ _ _ _ hnb]))).mono ?_;rintro e w' ⟨rfl,hb⟩;obtain ⟨X,rfl⟩:=hb.ext;clear hb)
     rw [hik]
     go_wp2
     go_roundw
     case rel=>exact ⟨k+1,j+1,_,by go_num,by go_num,by omega,by omega,(by repeat (first|with_reducible exact Below.refl _ _|with_reducible apply Below.ofExt|with_reducible apply Below.ofAlloc|with_reducible apply Below.drew|with_reducible apply Below.ofDrewN|with_reducible assumption|(with_reducible refine Below.setCell ?_ (by first|exact Nat.le_refl _|(simp [go_sem];done)|(simp [go_sem];omega)) _))),by simpa using HCS.out,by
      have h0:=zhs (v:=.string d.key) HTK.out rfl rfl (by omega)
      have h1:=zhs (p:=(k+1)*2) (v:=.string d.val) h0 rfl (by omega) (by simp;omega)
      rw [HS.out,List.flatMap_append]
      simpa [CellD.row] using h1,fun m h1 h2=>by
      rw [Array.getElem?_setIfInBounds_ne (by omega),Array.getElem?_setIfInBounds_ne (by omega)]
      exact HTL.out m (by omega) h2⟩
     case measure=>simp [intOf];omega
   case neg =>
    have e:j=ds.length:=by omega
    have hlen:k=(zB key ds).length:=by
     have:=congrArg List.length HTK.out
     rw [e,List.take_length,zf6,List.length_take,show cs.toList.length=cap*2 from (Array.length_toList (xs:=cs)).trans HCS.out] at this
     omega
    have HLEN:=Hd hlen
    have hck:¬ cap=k:=by have:=HLEN.out;omega
    have HLC:Hid (cs.toList.length=cap*2):=(Array.length_toList (xs:=cs)).trans HCS.out
    have HG:Hid (((w.setB g (.cells cs 47)).ext Y).heap[g]?=some (.cells cs.toList.toArray 47 (0,0))):=by
     show _ = _
     rw [World.ext_get _ _ (by rw [zd];exact hgl),World.setB_at _ _ _ hgl,Array.toArray_toList]
    have hcl:∀ ty,(Builtin.clear_ #[24] ty #[.slice (some ⟨g,k*2,none⟩) (ds.length - k) (cap - k)]).run Tryz.prog ((w.setB g (.cells cs 47)).ext Y)=.ok (.tuple #[]) ((w.setB g (.cells (splice cs.toList (k*2) (Builtin.zeroCells (Value.agg #[.string ⟨#[]⟩,.string ⟨#[]⟩]).cells (ds.length - k)).toList).toArray 47)).ext Y):=fun ty=>by
     have:=zk1 (P:=Tryz.prog) (w:=(w.setB g (.cells cs 47)).ext Y) (t:=24) (e:=47) (.agg #[.string ⟨#[]⟩,.string ⟨#[]⟩]) Tryz.underlying24 (by kernel_rfl) (by decide) ty g (k*2) (ds.length - k) (cap - k) (by omega) cs.toList 47 HG.out (by rw [HLC.out];show k*2+(ds.length - k)*2<=_;omega)
     rw [this]
     congr 1
     rw [zay _ _ _ _ (by rw [zd];exact hgl),za7]
    obtain ⟨L,hL⟩ : ∃ L,L=splice cs.toList (k*2) (Builtin.zeroCells (Value.agg #[.string ⟨#[]⟩,.string ⟨#[]⟩]).cells (ds.length - k)).toList:=⟨_,rfl⟩
    rw [<- hL] at hcl
    have HL:Hid (L.length=cap*2/\L.take (k*2)=(zB key ds).flatMap CellD.row):=by
     rw [hL]
     refine ⟨?_,?_⟩
     ·rw [length_splice _ _ _ (by rw [show (Builtin.zeroCells (Value.agg #[.string ⟨#[]⟩,.string ⟨#[]⟩]).cells (ds.length - k)).toList.length=(ds.length - k)*2 by simp [Builtin.zeroCells,Value.cells],HLC.out];omega),HLC.out]
     ·rw [zgk _ _ _ _ (Nat.le_refl _) (by rw [HLC.out];omega),HTK.out,e,List.take_length]
    clear hL hlen
    go_wp2
    go_ret
    have hlen:=HLEN.out
    refine ⟨_,rfl,?_,rfl,?_⟩
    ·show OwnL zu 47 _ B (.slice (some ⟨g,0,none⟩) k cap) _
     rw [hlen]
     refine OwnL.ext ?_ _
     refine ⟨zu.flat_len _,.inr ⟨g,cap,L.toArray,rfl,hg,World.setB_at _ _ _ hgl,by rw [<- hlen];omega,by unfold maxLen;omega,by show L.toArray.size=cap*2;simpa using HL.out.1,by rw [<- hlen];show L.toArray.toList.take (k*2) = _;exact HL.out.2⟩⟩
    ·exact Upon.setBExt _ _ _ (by simp [Value.ownBlock])
end Go.Proofs.YtpnoehpmgflibaaGreatDoor
