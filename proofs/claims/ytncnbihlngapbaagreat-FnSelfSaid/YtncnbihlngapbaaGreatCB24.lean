/- Texts of this claim, merged: the walks and what they stand on. Each condition stands in its theorem. -/
import Derived.Test.YtncnbihlngapbaaGreatCB6
import Derived.Test.YtncnbihlngapbaaGreatCB7
set_option linter.unusedVariables false
set_option linter.unusedSimpArgs false
set_option maxRecDepth 100000
set_option maxHeartbeats 8000000
namespace Go.Proofs.YtncnbihlngapbaaGreat
open Go.ChangeShapes Go.WideShapes Go.ChangeAt Go.RowKit
open Mp
namespace K
def runSteps (out:List AnswerD) (s:StepD):Mp (List AnswerD):=do return out ++ [<- doCall s.proc s.call]
def runAll (l:List StepD):Mp (List AnswerD):=fold runSteps [] l
end K
open Mp
open Classical
theorem zc7 (k:ByteArray) (cs:List CellD):ze6 k cs=match cs.find? (zaH k) with|some c=>c.val|none=>⟨#[]⟩:=by
 unfold ze6
 cases cs.find? (zaH k)<;>rfl
theorem zjA {k k':ByteArray} (h:k ≠ k') {c:CellD} (hc:zaH k c=true):zaH k' c=false:=by
 cases h':zaH k' c with
 | false=>rfl
 | true=>exact absurd (((zcE k c).1 hc).symm.trans ((zcE k' c).1 h')) h
theorem zeO {k k':ByteArray} (h:k ≠ k') (cs:List CellD):(zap k' cs).find? (zaH k)=cs.find? (zaH k):=by
 unfold zap
 induction cs with
 | nil=>rfl
 | cons c cs ih =>
  cases hc:zaH k c with
  | true=>rw [List.filter_cons_of_pos (by rw [zjA h hc];rfl),List.find?_cons_of_pos hc,List.find?_cons_of_pos hc]
  | false =>
   rw [List.find?_cons_of_neg (by rw [hc];decide)]
   cases hk:zaH k' c with
   | true=>rw [List.filter_cons_of_neg (by rw [hk];decide),ih]
   | false=>rw [List.filter_cons_of_pos (by rw [hk];rfl),List.find?_cons_of_neg (by rw [hc];decide),ih]
theorem find_ins {k k' v:ByteArray} (h:k ≠ k') (cs:List CellD):(zgL k' v cs).find? (zaH k)=cs.find? (zaH k):=by
 unfold zgL
 have e:=List.takeWhile_append_dropWhile (p:=fun c=>!zaw k' c) (l:=cs)
 have hk:zaH k ⟨k',v⟩=false:=by
  cases h':zaH k ⟨k',v⟩ with
  | false=>rfl
  | true=>exact absurd ((zcE k ⟨k',v⟩).1 h').symm h
 conv=>rhs;rw [<- e]
 rw [List.find?_append,List.find?_append,List.find?_cons_of_neg (by rw [hk];decide)]
theorem find_put {k k' v:ByteArray} (h:k ≠ k') (cs:List CellD):(zd7 k' v cs).find? (zaH k)=cs.find? (zaH k):=by
 unfold zd7
 split
 ·rfl
 ·split
  ·rw [zeO h]
  ·rw [find_ins h,zeO h]
theorem ziP {k k' v:ByteArray} (h:k ≠ k') (cs:List CellD):ze6 k (zd7 k' v cs)=ze6 k cs:=by
 rw [zc7,zc7,find_put h]
theorem zjF {k v:ByteArray} (hk:zex k=true) (h0:v.size ≠ 0) (h1:v.size<=60) (cs:List CellD):ze6 k (zd7 k v cs)=v:=by
 rw [zc7]
 unfold zd7
 rw [if_neg (by rintro (h|h);rw [hk] at h;cases h;omega),if_neg h0]
 unfold zgL
 have hn:(zap k cs).find? (zaH k)=none:=by
  rw [List.find?_eq_none]
  intro c hc h
  have:=(List.mem_filter.1 hc).2
  rw [h] at this
  cases this
 have e:=List.takeWhile_append_dropWhile (p:=fun c=>!zaw k c) (l:=zap k cs)
 rw [<- e,List.find?_append] at hn
 have h1:((zap k cs).takeWhile fun c=>!zaw k c).find? (zaH k)=none:=by
  cases h:((zap k cs).takeWhile fun c=>!zaw k c).find? (zaH k) with
  | none=>rfl
  | some c=>rw [h] at hn;cases hn
 rw [List.find?_append,h1,List.find?_cons_of_pos ((zcE k ⟨k,v⟩).2 rfl)]
 rfl
def prc (m:MachD):Int:=zbu (ze6 K.cProc m.cells)
theorem zjq (m:MachD) : 0<=prc m/\prc m<=999:=zcO _
theorem Mp.KeysW.prc {α : Type} {x:Mp α} {m:MachD} (h:x.KeysW m):prc (x.run m).2=prc m:=by
 induction x generalizing m with
 | ret a=>rfl
 | look k g ih=>exact ih _ h.2
 | lay k v n ih =>
  refine (ih h.2).trans ?_
  show zbu (ze6 K.cProc (zd7 k v m.cells)) = _
  rw [ziP (Ne.symm h.1.2)]
  rfl
 | under p g ih=>exact ih _ h.2
theorem ziF {n:Int} (h0 : 1<=n) (h1:n<=999):zbu (zas (Lib.itoa n))=n/\(zas (Lib.itoa n)).size ≠ 0/\(zas (Lib.itoa n)).size<=21:=by
 have hv:=(zdk (m:=n) (by omega) (by omega)).1
 have e:(zas (Lib.itoa n)).data.toList=Lib.itoa n:=by simp [zas]
 have hl:=Lib.itoa_length_le n (by omega) (by omega)
 refine ⟨?_,?_,by rw [zaj];omega⟩
 ·unfold zbu
  rw [e,hv,if_pos ⟨h0,h1,rfl⟩]
 ·intro hz
  rw [zaj] at hz
  have:Lib.itoa n = []:=List.length_eq_zero_iff.1 hz
  rw [this] at hv
  have h3:zgK []=0:=rfl
  omega
section
variable {α β : Type} {L:Nat} {m:MachD} {D:List ByteArray}
def AtB (L:Nat) (p:Mp α) (m:MachD) (D:List ByteArray) (c:Nat) (S : α->MachD->List ByteArray->Prop):Prop :=
 Inv L D m->p.KeysB m/\(p.news m D).length<=D.length+c/\S (p.run m).1 (p.run m).2 (p.news m D)
theorem At.b {p:Mp α} {c:Nat} {S : α->MachD->List ByteArray->Prop} (h:At L p m D c S):AtB L p m D c (fun a m' D'=>S a m' D'/\prc m'=prc m):=fun I=>by
 obtain ⟨h1,h2,h3⟩:=h I
 exact ⟨h1.b,h2,h3,h1.prc⟩
theorem AtB.bind {x:Mp α} {f : α->Mp β} {c d:Nat} {S : α->MachD->List ByteArray->Prop} {T : β->MachD->List ByteArray->Prop} (h:AtB L x m D c S)
  (k:∀ a m' D',S a m' D'->Inv L D' m'->(∀ y ∈ D,y ∈ D')->D'.length<=D.length+c->AtB L (f a) m' D' d T):AtB L (x >>= f) m D (c+d) T:=by
 intro I
 obtain ⟨h1,h2,h3⟩:=h I
 have I2:=zb2 x L m D I h1
 obtain ⟨k1,k2,k3⟩:=k _ _ _ h3 I2 (zb7 x m D) h2 I2
 refine ⟨(Mp.keysB_bind x f m).2 ⟨h1,k1⟩,?_,?_⟩
 ·rw [zcm];omega
 ·rw [zcm,Mp.run_bind];exact k3
theorem AtB.le {x:Mp α} {c d:Nat} {S : α->MachD->List ByteArray->Prop} (h:AtB L x m D c S) (hc:c<=d):AtB L x m D d S:=fun I=>by
 obtain ⟨h1,h2,h3⟩:=h I
 exact ⟨h1,by omega,h3⟩
theorem AtB.ret {a : α} {S : α->MachD->List ByteArray->Prop} (h:S a m D):AtB L (pure a:Mp α) m D 0 S:=fun _=>⟨trivial,Nat.le_refl _,h⟩
theorem AtB.ite {p:Prop} [Decidable p] {x y:Mp α} {c:Nat} {S : α->MachD->List ByteArray->Prop} (h1:p->AtB L x m D c S) (h2:¬ p->AtB L y m D c S):AtB L (if p then x else y) m D c S:=by
 by_cases h:p
 ·rw [if_pos h];exact h1 h
 ·rw [if_neg h];exact h2 h
theorem zil:AtB L (K.num K.cProc) m D 1 (fun a m' _=>a=prc m/\prc m'=prc m):=fun I=>⟨⟨⟨by decide,by decide⟩,trivial⟩,zdi D _,rfl,rfl⟩
theorem atB_set {n:Int} (h0 : 1<=n) (h1:n<=999):AtB L (K.setNum K.cProc n) m D 1 (fun _ m' _=>prc m'=n):=fun I=>by
 refine ⟨⟨⟨by decide,by decide⟩,trivial⟩,zdi D _,?_⟩
 show zbu (ze6 K.cProc (zd7 K.cProc (K.numText n) m.cells))=n
 have ht:=ziF h0 h1
 unfold K.numText
 rw [if_pos ⟨h0,h1⟩,zjF (by decide) ht.2.1 (by omega)]
 exact ht.1
theorem zfG (parent:Int):AtB L (K.spawn parent) m D 5 (fun p m' _=>(p.2 ≠ 0/\prc m'=prc m) ∨ (p.2=0/\zbE p.1/\prc m'=prc m+1/\prc m'<=12)):=by
 have hp0:=zjq m
 unfold K.spawn
 refine AtB.bind (d:=4) zil fun many m1 D1 h1 _ _ _=>AtB.ite (fun _=>(AtB.ret (.inl ⟨by decide,h1.2⟩)).le (by omega)) fun hm=>?_
 refine AtB.bind (c:=2) (d:=2) (S:=fun id m' _=>id=prc m+1/\prc m'=prc m+1) ?_ fun id m2 D2 h2 _ _ _=>?_
 ·unfold K.bump
  refine AtB.bind (d:=1) zil fun n m2 D2 h2 _ _ _=>AtB.ite (fun h=>absurd h (by omega)) fun _=>?_
  exact AtB.bind (d:=0) (atB_set (by omega) (by omega)) fun _ m3 D3 h3 _ _ _=>AtB.ret ⟨by omega,by omega⟩
 ·have hid:zbE id:=⟨by omega,by omega⟩
  refine AtB.bind (d:=1) (zam (zbo hid (by decide))).b fun _ m3 D3 h3 _ _ _=>?_
  exact AtB.bind (d:=0) (zam (zbo hid (by decide))).b fun _ m4 D4 h4 _ _ _=>AtB.ret (.inr ⟨rfl,hid,by omega,by omega⟩)
theorem zh5 {proc:Int} (hp:zbE proc):AtB L (K.doSpawn proc) m D (D.length+L+11) (fun _ m' D'=>(prc m'=prc m/\D'.length<=D.length+5) ∨ (prc m'=prc m+1/\prc m'<=12)):=by
 have hd:D.length+L+11=5+(D.length+L+6):=by omega
 rw [hd]
 have hS:AtB L (K.spawn proc) m D 5 (fun p m' D'=>((p.2 ≠ 0/\prc m'=prc m) ∨ (p.2=0/\zbE p.1/\prc m'=prc m+1/\prc m'<=12))/\D'.length<=D.length+5):=fun I=>by
  have h:=zfG (L:=L) (m:=m) (D:=D) proc I
  exact ⟨h.1,h.2.1,h.2.2,h.2.1⟩
 unfold K.doSpawn
 refine AtB.bind (d:=D.length+L+6) hS fun p m1 D1 h1 _ _ _=>?_
 refine AtB.ite (fun h0=>?_) fun hn=>?_
 ·rcases h1.1 with h|h
  ·exact absurd h0 h.1
  ·refine AtB.le (AtB.bind (d:=0) (zht hp h.2.1).b fun _ m2 D2 h2 _ _ _=>AtB.ret (.inr ⟨by omega,by omega⟩)) ?_
   have:=h1.2
   omega
 ·rcases h1.1 with h|h
  ·exact (AtB.ret (.inl ⟨h.2,h1.2⟩)).le (by omega)
  ·exact absurd h.1 hn
theorem zfE {proc:Int} {c:CallD} (hp:zbE proc) (ha:zbE c.a) (hG:∀ k ∈ gk,k ∈ D) (I:Inv L D m) :
  (K.doCall proc c).KeysB m/\((prc ((K.doCall proc c).run m).2=prc m/\((K.doCall proc c).news m D).length<=D.length+12) ∨ (prc ((K.doCall proc c).run m).2=prc m+1/\prc ((K.doCall proc c).run m).2<=12/\((K.doCall proc c).news m D).length<=2*D.length+L+14)):=by
 by_cases hk:c.kind=12
 ·have h:AtB L (K.doCall proc c) m D (D.length+L+13) (fun _ m' D'=>(prc m'=prc m/\D'.length<=D.length+12) ∨ (prc m'=prc m+1/\prc m'<=12)):=by
   unfold K.doCall
   have hd:D.length+L+13=1+(D.length+L+12):=by omega
   rw [hd]
   refine AtB.bind (d:=D.length+L+12) (zei hp).b fun s m1 D1 h1 _ hs hl=>AtB.ite (fun _=>(AtB.ret (.inl ⟨h1.2,by omega⟩)).le (by omega)) fun _=>AtB.ite (fun _=>(AtB.ret (.inl ⟨h1.2,by omega⟩)).le (by omega)) fun _=>?_
   have e:K.doKind proc c=K.doSpawn proc:=by
    unfold K.doKind
    rw [hk]
    rfl
   rw [e]
   intro I1
   obtain ⟨k1,k2,k3⟩:=zh5 (L:=L) (m:=m1) (D:=D1) hp I1
   refine ⟨k1,by omega,?_⟩
   rcases k3 with k3|k3
   ·exact .inl ⟨by omega,by omega⟩
   ·exact .inr ⟨by omega,by omega⟩
  obtain ⟨h1,h2,h3⟩:=h I
  refine ⟨h1,?_⟩
  rcases h3 with h3|h3
  ·exact .inl h3
  ·exact .inr ⟨h3.1,h3.2,by omega⟩
 ·have h:At L (K.doCall proc c) m D 11 (fun _ _ _=>True):=by
   unfold K.doCall
   refine At.bind (c:=1) (d:=10) (zei hp) fun s m1 D1 h1 _ hs=>At.ite (fun _=>(At.ret trivial).le (by omega)) fun _=>At.ite (fun _=>(At.ret trivial).le (by omega)) fun _=>?_
   exact zjV hp ha hk fun k h=>hs k (hG k h)
  obtain ⟨h1,h2,h3⟩:=h I
  exact ⟨h1.b,.inl ⟨h1.prc,by omega⟩⟩
theorem Inv.fresh (h:Inv L D m):Inv L D ⟨m.cells,[],[]⟩:=⟨h.nd,h.cn,(fun k hk=>by cases hk),(fun k hk=>by cases hk),(fun k hk=>by cases hk),(fun k hk=>by cases hk),List.Pairwise.nil,List.Pairwise.nil,h.cz,h.cl⟩
end
def zfM:List StepD->MachD->Prop
 | [],m=>Small m
 | s :: l,m=>(K.doCall s.proc s.call).fits m/\(K.doCall s.proc s.call).fits ⟨m.cells,[],[]⟩/\zfM l ((K.doCall s.proc s.call).run m).2
theorem zjK {L:Nat}:∀ (l:List StepD) (m:MachD) (D:List ByteArray),(∀ s ∈ l,zbE s.proc/\zbE s.call.a)->(∀ k ∈ gk,k ∈ D)->Inv L D m->2 ^ (12 - (prc m).toNat)*(D.length+L+14+12*l.length)<=549755813888->zfM l m
 | [],m,D,_,_,I,hb=>by
  have h2 : 0<2 ^ (12 - (prc m).toNat):=Nat.two_pow_pos _
  have h3:=Nat.le_mul_of_pos_left (D.length+L+14+12*0) h2
  rw [List.length_nil] at hb
  exact I.small (by omega)
 | s :: l,m,D,hs,hG,I,hb=>by
  have h2 : 0<2 ^ (12 - (prc m).toNat):=Nat.two_pow_pos _
  have hp:=zjq m
  obtain ⟨hs1,hs2⟩:=hs s List.mem_cons_self
  have hc:=zfE hs1 hs2 hG I
  have hf:=zfE hs1 hs2 hG I.fresh
  rw [List.length_cons] at hb
  have key:∀ m0:MachD,prc m0=prc m->Inv L D m0->((K.doCall s.proc s.call).KeysB m0/\((prc ((K.doCall s.proc s.call).run m0).2=prc m0/\((K.doCall s.proc s.call).news m0 D).length<=D.length+12) ∨ (prc ((K.doCall s.proc s.call).run m0).2=prc m0+1/\prc ((K.doCall s.proc s.call).run m0).2<=12/\((K.doCall s.proc s.call).news m0 D).length<=2*D.length+L+14))) ->
    2 ^ (12 - (prc ((K.doCall s.proc s.call).run m0).2).toNat)*(((K.doCall s.proc s.call).news m0 D).length+L+14+12*l.length)<=549755813888:=by
   rintro m0 hm0 I0 ⟨_,h|h⟩
   ·rw [h.1,hm0]
    refine Nat.le_trans (Nat.mul_le_mul_left _ ?_) hb
    omega
   ·obtain ⟨h1,h3,h4⟩:=h
    have e : 12 - (prc m).toNat=(12 - (prc ((K.doCall s.proc s.call).run m0).2).toNat)+1:=by omega
    rw [e,Nat.pow_succ,Nat.mul_assoc] at hb
    refine Nat.le_trans (Nat.mul_le_mul_left _ ?_) hb
    omega
  have fit:∀ m0:MachD,Inv L D m0->(K.doCall s.proc s.call).KeysB m0->2 ^ (12 - (prc ((K.doCall s.proc s.call).run m0).2).toNat)*(((K.doCall s.proc s.call).news m0 D).length+L+14+12*l.length)<=549755813888->(K.doCall s.proc s.call).fits m0:=fun m0 I0 hk hh=>by
   refine zfL _ L m0 D I0 hk ?_
   have h5:=Nat.le_mul_of_pos_left (((K.doCall s.proc s.call).news m0 D).length+L+14+12*l.length) (Nat.two_pow_pos (12 - (prc ((K.doCall s.proc s.call).run m0).2).toNat))
   omega
  have k1:=key m rfl I hc
  have k2:=key ⟨m.cells,[],[]⟩ rfl I.fresh hf
  exact ⟨fit m I hc.1 k1,fit _ I.fresh hf.1 k2,zjK l _ _ (fun x hx=>hs x (List.mem_cons_of_mem _ hx)) (fun k hk=>zb7 _ m D k (hG k hk)) (zb2 _ L m D I hc.1) k1⟩
theorem zhg:∀ l:List ByteArray,(l.foldr (fun k D=>zb9 D k) []).length<=l.length
 | []=>Nat.le_refl _
 | k :: l=>by
  have:=zhg l
  have h2:=zdi (l.foldr (fun k D=>zb9 D k) []) k
  rw [List.foldr_cons,List.length_cons]
  omega
theorem zhf:∀ (l:List ByteArray),∀ x ∈ l,x ∈ l.foldr (fun k D=>zb9 D k) []
 | [],_,h=>by cases h
 | k :: l,x,h=>by
  rw [List.foldr_cons]
  rcases List.mem_cons.1 h with rfl|h
  ·exact zav.2 (.inr rfl)
  ·exact zav.2 (.inl (zhf l x h))
theorem zif:∀ l:List ByteArray,(l.foldr (fun k D=>zb9 D k) []).Nodup
 | []=>List.nodup_nil
 | k :: l=>zhP (zif l) k
open Mp
section
variable {α β : Type}
def Mp.Yields (p:Mp α) (S : α->Prop):Prop:=∀ m,p.fits m->S (p.run m).1
theorem Mp.Yields.any (p:Mp α):p.Yields (fun _=>True):=fun _ _=>trivial
theorem Mp.Yields.ret {a : α} {S : α->Prop} (h:S a):(pure a:Mp α).Yields S:=fun _ _=>h
theorem Mp.Yields.bind {x:Mp α} {f : α->Mp β} {S : α->Prop} {T : β->Prop} (h:x.Yields S) (k:∀ a,S a->(f a).Yields T):(x >>= f).Yields T:=fun m hf=>by
 obtain ⟨h1,h2⟩:=(fits_bind x f m).1 hf
 rw [run_bind]
 exact k _ (h m h1) _ h2
theorem Mp.Yields.ite {p:Prop} [Decidable p] {x y:Mp α} {S : α->Prop} (h1:p->x.Yields S) (h2:¬ p->y.Yields S):(if p then x else y).Yields S:=by
 by_cases h:p
 ·rw [if_pos h];exact h1 h
 ·rw [if_neg h];exact h2 h
theorem Mp.Yields.mono {x:Mp α} {S T : α->Prop} (h:x.Yields S) (k:∀ a,S a->T a):x.Yields T:=fun m hf=>k _ (h m hf)
theorem Mp.Yields.fold {f : β->α->Mp β} {sz : β->Nat} {c:Nat} (h:∀ b x,(f b x).Yields (fun b'=>sz b'<=sz b+c)):∀ (l:List α) (b : β),(Mp.fold f b l).Yields (fun b'=>sz b'<=sz b+c*l.length)
 | [],b=>.ret (by simp)
 | x :: l,b=>by
  show (f b x >>= fun b=>Mp.fold f b l).Yields _
  refine (h b x).bind fun b' hb=>(Mp.Yields.fold h l b').mono fun a ha=>?_
  rw [List.length_cons,Nat.mul_add]
  omega
end
theorem zi8 (p:ByteArray):(K.under p).Yields (fun ks=>ks.length<=549755813888/\∀ k ∈ ks,k.size<=1048576):=fun m h=>by
 have hs:=fits_small h
 refine ⟨?_,?_⟩
 ·show (zag p m.cells).length<=_
  unfold zag
  rw [List.length_map]
  exact Nat.le_trans (List.length_filter_le _ _) hs.cl
 ·intro k hk
  obtain ⟨c,hc,rfl⟩:=List.mem_map.1 (show k ∈ zag p m.cells from hk)
  exact (hs.cz c (List.mem_filter.1 hc).1).1
theorem zgT (v:ByteArray):(zcc v).size<=20000:=by
 unfold zcc
 split
 ·split
  ·rename_i h
   rw [zaj]
   exact h.1
  ·exact Nat.zero_le _
 ·exact Nat.zero_le _
theorem zhc (v:ByteArray):(K.messageOf v).size<=20000:=by
 unfold K.messageOf
 split
 ·exact zgT _
 ·exact Nat.zero_le _
theorem zgM (k:ByteArray):(K.message k).Yields (fun t=>t.size<=20000):=(Mp.Yields.any _).bind fun a _=>.ret (zhc a)
theorem y_block (id place:Int):(K.block id place).Yields (fun t=>t.size<=20000):=(Mp.Yields.any _).bind fun a _=>.ret (zgT a)
theorem zge (s:ByteArray) (a b:Nat):(s.extract a b).size<=s.size:=by
 rw [ByteArray.size_extract]
 omega
theorem zhy (id:Int) (a b:Nat) (out:ByteArray) (place:Nat):(K.readBlock id a b out place).Yields (fun t=>t.size<=out.size+20000):=(y_block id place).bind fun s hs=>.ret (by
 split
 ·rw [ByteArray.size_append]
  have:=zge s (a - place*8) (min (b - place*8) (min 8 s.size))
  omega
 ·omega)
theorem ziD (a b:Nat):(K.places a b).length<=(b+7) / 8:=by
 unfold K.places
 rw [List.length_range']
 omega
theorem y_num (k:ByteArray):(K.num k).Yields (fun n=>0<=n/\n<=999):=(Mp.Yields.any _).bind fun a _=>.ret (zcO a)
theorem zis (id a n:Int):(K.readFile id a n).Yields (fun t=>t.size<=20000000):=by
 unfold K.readFile
 refine (y_num _).bind fun size hsz=>.ite (fun _=>.ret (Nat.zero_le _)) fun hc=>?_
 refine (Mp.Yields.fold (sz:=ByteArray.size) (c:=20000) (zhy id a.toNat (a+min n (size - a)).toNat) _ ⟨#[]⟩).mono fun t ht=>?_
 have h1:=ziD a.toNat (a+min n (size - a)).toNat
 have h2:(⟨#[]⟩ : ByteArray).size=0:=rfl
 have h3:(a+min n (size - a)).toNat<=999:=by omega
 have h4:((a+min n (size - a)).toNat+7) / 8<=125:=by omega
 have h5:=Nat.mul_le_mul_left 20000 (Nat.le_trans h1 h4)
 omega
theorem zf3 (c:Nat):∀ (l:List ByteArray),(∀ x ∈ l,x.size<=c)->∀ t:ByteArray,(l.foldl (fun t w=>t++(w++K.space)) t).size<=t.size+(c+1)*l.length
 | [],_,t=>by simp
 | x :: l,h,t=>by
  rw [List.foldl_cons]
  have h1:=zf3 c l (fun y hy=>h y (List.mem_cons_of_mem _ hy)) (t++(x++K.space))
  have h2:=h x List.mem_cons_self
  have h3:K.space.size=1:=rfl
  rw [ByteArray.size_append,ByteArray.size_append] at h1
  rw [List.length_cons,Nat.mul_add]
  omega
theorem zfc {c:Nat} {l:List ByteArray} (hc:c<=1048576) (hl:l.length<=549755813888) (h:∀ x ∈ l,x.size<=c):(K.wordsOf l).size<=9223372036854775807:=by
 have h1:=zf3 c l h ⟨#[]⟩
 have h2:(⟨#[]⟩ : ByteArray).size=0:=rfl
 have h3:=Nat.mul_le_mul (show c+1<=1048577 by omega) hl
 unfold K.wordsOf
 omega
theorem zi9:K.doNames.Yields AnswerD.ok:=by
 unfold K.doNames K.names
 refine Mp.Yields.bind (S:=fun l=>l.length<=549755813888/\∀ k ∈ l,k.size<=1048576) ((zi8 _).bind fun ks hk=>.ret ⟨by rw [List.length_map];exact hk.1,?_⟩) fun l hl=>.ret (zfc (Nat.le_refl _) hl.1 hl.2)
 intro k hk2
 obtain ⟨x,hx,rfl⟩:=List.mem_map.1 hk2
 exact Nat.le_trans (zge _ _ _) (hk.2 x hx)
theorem y_kid (parent:Int) (out:List Int) (key:ByteArray) (h:∀ n ∈ out,0<=n/\n<=999):(K.kid parent out key).Yields (fun l=>(∀ n ∈ l,0<=n/\n<=999)/\l.length<=out.length+1):=by
 unfold K.kid
 refine .ite (fun _=>(Mp.Yields.any _).bind fun up _=>.ret ?_) fun _=>.ret ⟨h,by omega⟩
 split
 ·refine ⟨fun n hn=>?_,by simp⟩
  rcases List.mem_append.1 hn with hn|hn
  ·exact h n hn
  ·rw [List.mem_singleton.1 hn]
   exact zcO _
 ·exact ⟨h,by omega⟩
theorem zgN (parent:Int):∀ (l:List ByteArray) (out:List Int),(∀ n ∈ out,0<=n/\n<=999)->(Mp.fold (K.kid parent) out l).Yields (fun r=>(∀ n ∈ r,0<=n/\n<=999)/\r.length<=out.length+l.length)
 | [],out,h=>.ret ⟨h,by simp⟩
 | k :: l,out,h=>by
  show (K.kid parent out k >>= fun b=>Mp.fold (K.kid parent) b l).Yields _
  refine (y_kid parent out k h).bind fun b hb=>(zgN parent l b hb.1).mono fun r hr=>⟨hr.1,?_⟩
  have h1:=hr.2
  have h2:=hb.2
  rw [List.length_cons]
  omega
theorem y_doKids (p:Int):(K.doKids p).Yields AnswerD.ok:=by
 unfold K.doKids K.kids
 refine Mp.Yields.bind (S:=fun l=>l.length<=549755813888/\∀ n ∈ l,(0:Int)<=n/\n<=999) ((zi8 _).bind fun ks hk=>(zgN p ks [] (fun _ h=>by cases h)).mono fun r hr=>⟨?_,hr.1⟩) fun l hl=>.ret (zfc (c:=100) (by decide) (by rw [List.length_map];exact hl.1) fun x hx=>?_)
 ·have h1:=hr.2
  have h2:=hk.1
  rw [List.length_nil] at h1
  omega
 ·obtain ⟨n,hn,rfl⟩:=List.mem_map.1 hx
  have:=hl.2 n hn
  have h2:=Lib.itoa_length_le n (by omega) (by omega)
  rw [zaj]
  omega
theorem zc2 (a b:Int):AnswerD.ok ⟨a,b,⟨#[]⟩⟩:=Nat.zero_le _
theorem y_code (x:Mp Int):(K.code x).Yields AnswerD.ok:=(Mp.Yields.any _).bind fun _ _=>.ret (zc2 _ _)
theorem y_codeN (x:Mp (Int × Int)):(K.codeN x).Yields AnswerD.ok:=(Mp.Yields.any _).bind fun _ _=>.ret (zc2 _ _)
theorem zja {x:Mp (ByteArray × Int)} (h:x.Yields fun p=>p.1.size<=20000):(K.codeT x).Yields AnswerD.ok:=h.bind fun p hp=>.ret (show p.1.size<=_ by omega)
theorem zir (id:Int):(K.takePipe id).Yields fun p=>p.1.size<=20000:=by
 unfold K.takePipe
 exact (Mp.Yields.any _).bind fun _ _=>.ite (fun _=>.ret (Nat.zero_le _)) fun _=>(Mp.Yields.any _).bind fun _ _=>(Mp.Yields.any _).bind fun _ _=>.ite (fun _=>.ret (Nat.zero_le _)) fun _=>(zgM _).bind fun t ht=>(Mp.Yields.any _).bind fun _ _=>(Mp.Yields.any _).bind fun _ _=>.ret ht
theorem zit (id page:Int):(K.loadPage id page).Yields fun p=>p.1.size<=20000:=by
 unfold K.loadPage
 exact .ite (fun _=>(zgM _).bind fun t ht=>.ret ht) fun _=>.ret (Nat.zero_le _)
theorem y_doFile (c:CallD):(K.doFile c).Yields AnswerD.ok:=by
 unfold K.doFile
 refine (Mp.Yields.any _).bind fun id _=>.ite (fun _=>.ret (zc2 _ _)) fun _=>.ite (fun _=>(zis _ _ _).bind fun t ht=>.ret (show t.size<=_ by omega)) fun _=>.ite (fun _=>(Mp.Yields.any _).bind fun _ _=>.ret (zc2 _ _)) fun _=>(Mp.Yields.any _).bind fun _ _=>.ret (zc2 _ _)
theorem y_doCall (p:Int) (c:CallD):(K.doCall p c).Yields AnswerD.ok:=by
 unfold K.doCall
 refine (Mp.Yields.any _).bind fun s _=>.ite (fun _=>.ret (zc2 _ _)) fun _=>.ite (fun _=>.ret (zc2 _ _)) fun _=>?_
 unfold K.doKind K.doSpawn K.doEnd
 repeat' (first|exact y_code _|exact y_codeN _|exact zi9|exact y_doKids _|exact y_doFile _|exact zja (zir _)|exact zja (zit _ _)|exact .ret (zc2 _ _)|refine .ite (fun _=>?_) fun _=>?_|refine (Mp.Yields.any _).bind fun _ _=>?_)
end Go.Proofs.YtncnbihlngapbaaGreat
