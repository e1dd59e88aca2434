/- Texts of this claim, merged: the walks and what they stand on. Each condition stands in its theorem. -/
import Derived.Test.YtpnoehpmgflibaaGreatDoorCA12
import Derived.Test.YtpnoehpmgflibaaGreatDoorCA13
set_option linter.unusedVariables false
set_option linter.unusedSimpArgs false
set_option maxRecDepth 100000
set_option maxHeartbeats 8000000
namespace Go.Proofs.YtpnoehpmgflibaaGreatDoor
open Go.ChangeShapes Go.WideShapes Go.ChangeAt Go.RowKit
open Mp
open Classical
theorem zdv (k:ByteArray) (cs:List CellD):zbm k cs=match cs.find? (z6 k) with|some c=>c.val|none=>⟨#[]⟩:=by
 unfold zbm
 cases cs.find? (z6 k)<;>rfl
theorem zmc {k k':ByteArray} (h:k ≠ k') {c:CellD} (hc:z6 k c=true):z6 k' c=false:=by
 cases h':z6 k' c with
 | false=>rfl
 | true=>exact absurd (((zcT k c).1 hc).symm.trans ((zcT k' c).1 h')) h
theorem zfQ {k k':ByteArray} (h:k ≠ k') (cs:List CellD):(zB k' cs).find? (z6 k)=cs.find? (z6 k):=by
 unfold zB
 induction cs with
 | nil=>rfl
 | cons c cs ih =>
  cases hc:z6 k c with
  | true=>rw [List.filter_cons_of_pos (by rw [zmc h hc];rfl),List.find?_cons_of_pos hc,List.find?_cons_of_pos hc]
  | false =>
   rw [List.find?_cons_of_neg (by rw [hc];decide)]
   cases hk:z6 k' c with
   | true=>rw [List.filter_cons_of_neg (by rw [hk];decide),ih]
   | false=>rw [List.filter_cons_of_pos (by rw [hk];rfl),List.find?_cons_of_neg (by rw [hc];decide),ih]
theorem find_ins {k k' v:ByteArray} (h:k ≠ k') (cs:List CellD):(zfN k' v cs).find? (z6 k)=cs.find? (z6 k):=by
 unfold zfN
 have e:=List.takeWhile_append_dropWhile (p:=fun c=>!zaa k' c) (l:=cs)
 have hk:z6 k ⟨k',v⟩=false:=by
  cases h':z6 k ⟨k',v⟩ with
  | false=>rfl
  | true=>exact absurd ((zcT k ⟨k',v⟩).1 h').symm h
 conv=>rhs;rw [<- e]
 rw [List.find?_append,List.find?_append,List.find?_cons_of_neg (by rw [hk];decide)]
theorem find_put {k k' v:ByteArray} (h:k ≠ k') (cs:List CellD):(zbM k' v cs).find? (z6 k)=cs.find? (z6 k):=by
 unfold zbM
 split
 ·rfl
 ·split
  ·rw [zfQ h]
  ·rw [find_ins h,zfQ h]
theorem zfw {k k' v:ByteArray} (h:k ≠ k') (cs:List CellD):zbm k (zbM k' v cs)=zbm k cs:=by
 rw [zdv,zdv,find_put h]
theorem zml {k v:ByteArray} (hk:zbc k=true) (h0:v.size ≠ 0) (h1:v.size<=60) (cs:List CellD):zbm k (zbM k v cs)=v:=by
 rw [zdv]
 unfold zbM
 rw [if_neg (by rintro (h|h);rw [hk] at h;cases h;omega),if_neg h0]
 unfold zfN
 have hn:(zB k cs).find? (z6 k)=none:=by
  rw [List.find?_eq_none]
  intro c hc h
  have:=(List.mem_filter.1 hc).2
  rw [h] at this
  cases this
 have e:=List.takeWhile_append_dropWhile (p:=fun c=>!zaa k c) (l:=zB k cs)
 rw [<- e,List.find?_append] at hn
 have h1:((zB k cs).takeWhile fun c=>!zaa k c).find? (z6 k)=none:=by
  cases h:((zB k cs).takeWhile fun c=>!zaa k c).find? (z6 k) with
  | none=>rfl
  | some c=>rw [h] at hn;cases hn
 rw [List.find?_append,h1,List.find?_cons_of_pos ((zcT k ⟨k,v⟩).2 rfl)]
 rfl
def prc (m:MachD):Int:=za0 (zbm K.cProc m.cells)
theorem zlX (m:MachD) : 0<=prc m/\prc m<=999:=zeN _
theorem Mp.KeysW.prc {α : Type} {x:Mp α} {m:MachD} (h:x.KeysW m):prc (x.run m).2=prc m:=by
 induction x generalizing m with
 | ret a=>rfl
 | look k g ih=>exact ih _ h.2
 | lay k v n ih =>
  refine (ih h.2).trans ?_
  show za0 (zbm K.cProc (zbM k v m.cells)) = _
  rw [zfw (Ne.symm h.1.2)]
  rfl
 | under p g ih=>exact ih _ h.2
theorem zk7 {n:Int} (h0 : 1<=n) (h1:n<=999):za0 (zX (Lib.itoa n))=n/\(zX (Lib.itoa n)).size ≠ 0/\(zX (Lib.itoa n)).size<=21:=by
 have hv:=(zdH (m:=n) (by omega) (by omega)).1
 have e:(zX (Lib.itoa n)).data.toList=Lib.itoa n:=by simp [zX]
 have hl:=Lib.itoa_length_le n (by omega) (by omega)
 refine ⟨?_,?_,by rw [zN];omega⟩
 ·unfold za0
  rw [e,hv,if_pos ⟨h0,h1,rfl⟩]
 ·intro hz
  rw [zN] at hz
  have:Lib.itoa n = []:=List.length_eq_zero_iff.1 hz
  rw [this] at hv
  have h3:ziz []=0:=rfl
  omega
section
variable {α β : Type} {L:Nat} {m:MachD} {D:List ByteArray}
def AtB (L:Nat) (p:Mp α) (m:MachD) (D:List ByteArray) (c:Nat) (S : α->MachD->List ByteArray->Prop):Prop :=
 Inv L D m->p.KeysB m/\(p.news m D).length<=D.length+c/\S (p.run m).1 (p.run m).2 (p.news m D)
theorem At.b {p:Mp α} {c:Nat} {S : α->MachD->List ByteArray->Prop} (h:At L p m D c S):AtB L p m D c (fun a m' D'=>S a m' D'/\prc m'=prc m):=fun I=>by
 obtain ⟨h1,h2,h3⟩:=h I
 exact ⟨h1.b,h2,h3,h1.prc⟩
theorem AtB.bind {x:Mp α} {f : α->Mp β} {c d:Nat} {S : α->MachD->List ByteArray->Prop} {T : β->MachD->List ByteArray->Prop} (h:AtB L x m D c S)
  (k:∀ a m' D',S a m' D'->Inv L D' m'->(∀ y ∈ D,y ∈ D')->D'.length<=D.length+c->AtB L (f a) m' D' d T):AtB L (x >>= f) m D (c+d) T:=by
 intro I
 obtain ⟨h1,h2,h3⟩:=h I
 have I2:=zb9 x L m D I h1
 obtain ⟨k1,k2,k3⟩:=k _ _ _ h3 I2 (zcn x m D) h2 I2
 refine ⟨(Mp.keysB_bind x f m).2 ⟨h1,k1⟩,?_,?_⟩
 ·rw [zcA];omega
 ·rw [zcA,Mp.run_bind];exact k3
theorem AtB.le {x:Mp α} {c d:Nat} {S : α->MachD->List ByteArray->Prop} (h:AtB L x m D c S) (hc:c<=d):AtB L x m D d S:=fun I=>by
 obtain ⟨h1,h2,h3⟩:=h I
 exact ⟨h1,by omega,h3⟩
theorem AtB.ret {a : α} {S : α->MachD->List ByteArray->Prop} (h:S a m D):AtB L (pure a:Mp α) m D 0 S:=fun _=>⟨trivial,Nat.le_refl _,h⟩
theorem AtB.ite {p:Prop} [Decidable p] {x y:Mp α} {c:Nat} {S : α->MachD->List ByteArray->Prop} (h1:p->AtB L x m D c S) (h2:¬ p->AtB L y m D c S):AtB L (if p then x else y) m D c S:=by
 by_cases h:p
 ·rw [if_pos h];exact h1 h
 ·rw [if_neg h];exact h2 h
theorem zkO:AtB L (K.num K.cProc) m D 1 (fun a m' _=>a=prc m/\prc m'=prc m):=fun I=>⟨⟨⟨by decide,by decide⟩,trivial⟩,zcv D _,rfl,rfl⟩
theorem atB_set {n:Int} (h0 : 1<=n) (h1:n<=999):AtB L (K.setNum K.cProc n) m D 1 (fun _ m' _=>prc m'=n):=fun I=>by
 refine ⟨⟨⟨by decide,by decide⟩,trivial⟩,zcv D _,?_⟩
 show za0 (zbm K.cProc (zbM K.cProc (K.numText n) m.cells))=n
 have ht:=zk7 h0 h1
 unfold K.numText
 rw [if_pos ⟨h0,h1⟩,zml (by decide) ht.2.1 (by omega)]
 exact ht.1
theorem zg3 (parent:Int):AtB L (K.spawn parent) m D 5 (fun p m' _=>(p.2 ≠ 0/\prc m'=prc m) ∨ (p.2=0/\zby p.1/\prc m'=prc m+1/\prc m'<=12)):=by
 have hp0:=zlX m
 unfold K.spawn
 refine AtB.bind (d:=4) zkO fun many m1 D1 h1 _ _ _=>AtB.ite (fun _=>(AtB.ret (.inl ⟨by decide,h1.2⟩)).le (by omega)) fun hm=>?_
 refine AtB.bind (c:=2) (d:=2) (S:=fun id m' _=>id=prc m+1/\prc m'=prc m+1) ?_ fun id m2 D2 h2 _ _ _=>?_
 ·unfold K.bump
  refine AtB.bind (d:=1) zkO fun n m2 D2 h2 _ _ _=>AtB.ite (fun h=>absurd h (by omega)) fun _=>?_
  exact AtB.bind (d:=0) (atB_set (by omega) (by omega)) fun _ m3 D3 h3 _ _ _=>AtB.ret ⟨by omega,by omega⟩
 ·have hid:zby id:=⟨by omega,by omega⟩
  refine AtB.bind (d:=1) (zak (zbs hid (by decide))).b fun _ m3 D3 h3 _ _ _=>?_
  exact AtB.bind (d:=0) (zak (zbs hid (by decide))).b fun _ m4 D4 h4 _ _ _=>AtB.ret (.inr ⟨rfl,hid,by omega,by omega⟩)
theorem zkn {proc:Int} (hp:zby proc):AtB L (K.doSpawn proc) m D (D.length+L+11) (fun _ m' D'=>(prc m'=prc m/\D'.length<=D.length+5) ∨ (prc m'=prc m+1/\prc m'<=12)):=by
 have hd:D.length+L+11=5+(D.length+L+6):=by omega
 rw [hd]
 have hS:AtB L (K.spawn proc) m D 5 (fun p m' D'=>((p.2 ≠ 0/\prc m'=prc m) ∨ (p.2=0/\zby p.1/\prc m'=prc m+1/\prc m'<=12))/\D'.length<=D.length+5):=fun I=>by
  have h:=zg3 (L:=L) (m:=m) (D:=D) proc I
  exact ⟨h.1,h.2.1,h.2.2,h.2.1⟩
 unfold K.doSpawn
 refine AtB.bind (d:=D.length+L+6) hS fun p m1 D1 h1 _ _ _=>?_
 refine AtB.ite (fun h0=>?_) fun hn=>?_
 ·rcases h1.1 with h|h
  ·exact absurd h0 h.1
  ·refine AtB.le (AtB.bind (d:=0) (zjx hp h.2.1).b fun _ m2 D2 h2 _ _ _=>AtB.ret (.inr ⟨by omega,by omega⟩)) ?_
   have:=h1.2
   omega
 ·rcases h1.1 with h|h
  ·exact (AtB.ret (.inl ⟨h.2,h1.2⟩)).le (by omega)
  ·exact absurd h.1 hn
theorem zg0 {proc:Int} {c:CallD} (hp:zby proc) (ha:zby c.a) (hG:∀ k ∈ gk,k ∈ D) (I:Inv L D m) :
  (K.doCall proc c).KeysB m/\((prc ((K.doCall proc c).run m).2=prc m/\((K.doCall proc c).news m D).length<=D.length+12) ∨ (prc ((K.doCall proc c).run m).2=prc m+1/\prc ((K.doCall proc c).run m).2<=12/\((K.doCall proc c).news m D).length<=2*D.length+L+14)):=by
 by_cases hk:c.kind=12
 ·have h:AtB L (K.doCall proc c) m D (D.length+L+13) (fun _ m' D'=>(prc m'=prc m/\D'.length<=D.length+12) ∨ (prc m'=prc m+1/\prc m'<=12)):=by
   unfold K.doCall
   have hd:D.length+L+13=1+(D.length+L+12):=by omega
   rw [hd]
   refine AtB.bind (d:=D.length+L+12) (ze4 hp).b fun s m1 D1 h1 _ hs hl=>AtB.ite (fun _=>(AtB.ret (.inl ⟨h1.2,by omega⟩)).le (by omega)) fun _=>AtB.ite (fun _=>(AtB.ret (.inl ⟨h1.2,by omega⟩)).le (by omega)) fun _=>?_
   have e:K.doKind proc c=K.doSpawn proc:=by
    unfold K.doKind
    rw [hk]
    rfl
   rw [e]
   intro I1
   obtain ⟨k1,k2,k3⟩:=zkn (L:=L) (m:=m1) (D:=D1) hp I1
   refine ⟨k1,by omega,?_⟩
   rcases k3 with k3|k3
   ·exact .inl ⟨by omega,by omega⟩
   ·exact .inr ⟨by omega,by omega⟩
  obtain ⟨h1,h2,h3⟩:=h I
  refine ⟨h1,?_⟩
  rcases h3 with h3|h3
  ·exact .inl h3
  ·exact .inr ⟨h3.1,h3.2,by omega⟩
 ·have h:At L (K.doCall proc c) m D 11 (fun _ _ _=>True):=by
   unfold K.doCall
   refine At.bind (c:=1) (d:=10) (ze4 hp) fun s m1 D1 h1 _ hs=>At.ite (fun _=>(At.ret trivial).le (by omega)) fun _=>At.ite (fun _=>(At.ret trivial).le (by omega)) fun _=>?_
   exact zmC hp ha hk fun k h=>hs k (hG k h)
  obtain ⟨h1,h2,h3⟩:=h I
  exact ⟨h1.b,.inl ⟨h1.prc,by omega⟩⟩
theorem Inv.fresh (h:Inv L D m):Inv L D ⟨m.cells,[],[]⟩:=⟨h.nd,h.cn,(fun k hk=>by cases hk),(fun k hk=>by cases hk),(fun k hk=>by cases hk),(fun k hk=>by cases hk),List.Pairwise.nil,List.Pairwise.nil,h.cz,h.cl⟩
end
def zmG:List StepD->MachD->Prop
 | [],m=>Small m
 | s :: l,m=>(K.doCall s.proc s.call).fits m/\(K.doCall s.proc s.call).fits ⟨m.cells,[],[]⟩/\zmG l ((K.doCall s.proc s.call).run m).2
theorem zmq {L:Nat}:∀ (l:List StepD) (m:MachD) (D:List ByteArray),(∀ s ∈ l,zby s.proc/\zby s.call.a)->(∀ k ∈ gk,k ∈ D)->Inv L D m->2 ^ (12 - (prc m).toNat)*(D.length+L+14+12*l.length)<=549755813888->zmG l m
 | [],m,D,_,_,I,hb=>by
  have h2 : 0<2 ^ (12 - (prc m).toNat):=Nat.two_pow_pos _
  have h3:=Nat.le_mul_of_pos_left (D.length+L+14+12*0) h2
  rw [List.length_nil] at hb
  exact I.small (by omega)
 | s :: l,m,D,hs,hG,I,hb=>by
  have h2 : 0<2 ^ (12 - (prc m).toNat):=Nat.two_pow_pos _
  have hp:=zlX m
  obtain ⟨hs1,hs2⟩:=hs s List.mem_cons_self
  have hc:=zg0 hs1 hs2 hG I
  have hf:=zg0 hs1 hs2 hG I.fresh
  rw [List.length_cons] at hb
  have key:∀ m0:MachD,prc m0=prc m->Inv L D m0->((K.doCall s.proc s.call).KeysB m0/\((prc ((K.doCall s.proc s.call).run m0).2=prc m0/\((K.doCall s.proc s.call).news m0 D).length<=D.length+12) ∨ (prc ((K.doCall s.proc s.call).run m0).2=prc m0+1/\prc ((K.doCall s.proc s.call).run m0).2<=12/\((K.doCall s.proc s.call).news m0 D).length<=2*D.length+L+14))) ->
    2 ^ (12 - (prc ((K.doCall s.proc s.call).run m0).2).toNat)*(((K.doCall s.proc s.call).news m0 D).length+L+14+12*l.length)<=549755813888:=by
   rintro m0 hm0 I0 ⟨_,h|h⟩
   ·rw [h.1,hm0]
    refine Nat.le_trans (Nat.mul_le_mul_left _ ?_) hb
    omega
   ·obtain ⟨h1,h3,h4⟩:=h
    have e : 12 - (prc m).toNat=(12 - (prc ((K.doCall s.proc s.call).run m0).2).toNat)+1:=by omega
    rw [e,Nat.pow_succ,Nat.mul_assoc] at hb
    refine Nat.le_trans (Nat.mul_le_mul_left _ ?_) hb
    omega
  have fit:∀ m0:MachD,Inv L D m0->(K.doCall s.proc s.call).KeysB m0->2 ^ (12 - (prc ((K.doCall s.proc s.call).run m0).2).toNat)*(((K.doCall s.proc s.call).news m0 D).length+L+14+12*l.length)<=549755813888->(K.doCall s.proc s.call).fits m0:=fun m0 I0 hk hh=>by
   refine zg5 _ L m0 D I0 hk ?_
   have h5:=Nat.le_mul_of_pos_left (((K.doCall s.proc s.call).news m0 D).length+L+14+12*l.length) (Nat.two_pow_pos (12 - (prc ((K.doCall s.proc s.call).run m0).2).toNat))
   omega
  have k1:=key m rfl I hc
  have k2:=key ⟨m.cells,[],[]⟩ rfl I.fresh hf
  exact ⟨fit m I hc.1 k1,fit _ I.fresh hf.1 k2,zmq l _ _ (fun x hx=>hs x (List.mem_cons_of_mem _ hx)) (fun k hk=>zcn _ m D k (hG k hk)) (zb9 _ L m D I hc.1) k1⟩
theorem zjb:∀ l:List ByteArray,(l.foldr (fun k D=>zcg D k) []).length<=l.length
 | []=>Nat.le_refl _
 | k :: l=>by
  have:=zjb l
  have h2:=zcv (l.foldr (fun k D=>zcg D k) []) k
  rw [List.foldr_cons,List.length_cons]
  omega
theorem zja:∀ (l:List ByteArray),∀ x ∈ l,x ∈ l.foldr (fun k D=>zcg D k) []
 | [],_,h=>by cases h
 | k :: l,x,h=>by
  rw [List.foldr_cons]
  rcases List.mem_cons.1 h with rfl|h
  ·exact zau.2 (.inr rfl)
  ·exact zau.2 (.inl (zja l x h))
theorem zkE:∀ l:List ByteArray,(l.foldr (fun k D=>zcg D k) []).Nodup
 | []=>List.nodup_nil
 | k :: l=>zj0 (zkE l) k
end Go.Proofs.YtpnoehpmgflibaaGreatDoor
