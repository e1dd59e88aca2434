/- Texts of this claim, merged: the walks and what they stand on. Each condition stands in its theorem. -/
import Derived.Test.YtodokkpnafabpaaGreatDoorCA11
import Derived.Test.YtodokkpnafabpaaGreatDoorCA12
set_option linter.unusedVariables false
set_option linter.unusedSimpArgs false
set_option maxRecDepth 100000
set_option maxHeartbeats 8000000
namespace Go.Proofs.YtodokkpnafabpaaGreatDoor
open Go.ChangeShapes Go.WideShapes Go.ChangeAt Go.RowKit
open Mp
namespace K
def runSteps (out:List AnswerD) (s:StepD):Mp (List AnswerD):=do return out ++ [<- doCall s.proc s.call]
def runAll (l:List StepD):Mp (List AnswerD):=fold runSteps [] l
end K
open Mp
open Classical
theorem zcP (k:ByteArray) (cs:List CellD):zeG k cs=match cs.find? (zY k) with|some c=>c.val|none=>⟨#[]⟩:=by
 unfold zeG
 cases cs.find? (zY k)<;>rfl
theorem zjL {k k':ByteArray} (h:k ≠ k') {c:CellD} (hc:zY k c=true):zY k' c=false:=by
 cases h':zY k' c with
 | false=>rfl
 | true=>exact absurd (((zce k c).1 hc).symm.trans ((zce k' c).1 h')) h
theorem zeH {k k':ByteArray} (h:k ≠ k') (cs:List CellD):(zE k' cs).find? (zY k)=cs.find? (zY k):=by
 unfold zE
 induction cs with
 | nil=>rfl
 | cons c cs ih =>
  cases hc:zY k c with
  | true=>rw [List.filter_cons_of_pos (by rw [zjL h hc];rfl),List.find?_cons_of_pos hc,List.find?_cons_of_pos hc]
  | false =>
   rw [List.find?_cons_of_neg (by rw [hc];decide)]
   cases hk:zY k' c with
   | true=>rw [List.filter_cons_of_neg (by rw [hk];decide),ih]
   | false=>rw [List.filter_cons_of_pos (by rw [hk];rfl),List.find?_cons_of_neg (by rw [hc];decide),ih]
theorem find_ins {k k' v:ByteArray} (h:k ≠ k') (cs:List CellD):(zfZ k' v cs).find? (zY k)=cs.find? (zY k):=by
 unfold zfZ
 have e:=List.takeWhile_append_dropWhile (p:=fun c=>!zae k' c) (l:=cs)
 have hk:zY k ⟨k',v⟩=false:=by
  cases h':zY k ⟨k',v⟩ with
  | false=>rfl
  | true=>exact absurd ((zce k ⟨k',v⟩).1 h').symm h
 conv=>rhs;rw [<- e]
 rw [List.find?_append,List.find?_append,List.find?_cons_of_neg (by rw [hk];decide)]
theorem find_put {k k' v:ByteArray} (h:k ≠ k') (cs:List CellD):(zck k' v cs).find? (zY k)=cs.find? (zY k):=by
 unfold zck
 split
 ·rfl
 ·split
  ·rw [zeH h]
  ·rw [find_ins h,zeH h]
theorem zi0 {k k' v:ByteArray} (h:k ≠ k') (cs:List CellD):zeG k (zck k' v cs)=zeG k cs:=by
 rw [zcP,zcP,find_put h]
theorem zjU {k v:ByteArray} (hk:zcz k=true) (h0:v.size ≠ 0) (h1:v.size<=60) (cs:List CellD):zeG k (zck k v cs)=v:=by
 rw [zcP]
 unfold zck
 rw [if_neg (by rintro (h|h);rw [hk] at h;cases h;omega),if_neg h0]
 unfold zfZ
 have hn:(zE k cs).find? (zY k)=none:=by
  rw [List.find?_eq_none]
  intro c hc h
  have:=(List.mem_filter.1 hc).2
  rw [h] at this
  cases this
 have e:=List.takeWhile_append_dropWhile (p:=fun c=>!zae k c) (l:=zE k cs)
 rw [<- e,List.find?_append] at hn
 have h1:((zE k cs).takeWhile fun c=>!zae k c).find? (zY k)=none:=by
  cases h:((zE k cs).takeWhile fun c=>!zae k c).find? (zY k) with
  | none=>rfl
  | some c=>rw [h] at hn;cases hn
 rw [List.find?_append,h1,List.find?_cons_of_pos ((zce k ⟨k,v⟩).2 rfl)]
 rfl
def prc (m:MachD):Int:=zaM (zeG K.cProc m.cells)
theorem prc_in (m:MachD) : 0<=prc m/\prc m<=999:=zcq _
theorem Mp.KeysW.prc {α : Type} {x:Mp α} {m:MachD} (h:x.KeysW m):prc (x.run m).2=prc m:=by
 induction x generalizing m with
 | ret a=>rfl
 | look k g ih=>exact ih _ h.2
 | lay k v n ih =>
  refine (ih h.2).trans ?_
  show zaM (zeG K.cProc (zck k v m.cells)) = _
  rw [zi0 (Ne.symm h.1.2)]
  rfl
 | under p g ih=>exact ih _ h.2
theorem ziV {n:Int} (h0 : 1<=n) (h1:n<=999):zaM (zT (Lib.itoa n))=n/\(zT (Lib.itoa n)).size ≠ 0/\(zT (Lib.itoa n)).size<=21:=by
 have hv:=(zc1 (m:=n) (by omega) (by omega)).1
 have e:(zT (Lib.itoa n)).data.toList=Lib.itoa n:=by simp [zT]
 have hl:=Lib.itoa_length_le n (by omega) (by omega)
 refine ⟨?_,?_,by rw [zU];omega⟩
 ·unfold zaM
  rw [e,hv,if_pos ⟨h0,h1,rfl⟩]
 ·intro hz
  rw [zU] at hz
  have:Lib.itoa n = []:=List.length_eq_zero_iff.1 hz
  rw [this] at hv
  have h3:zg2 []=0:=rfl
  omega
section
variable {α β : Type} {L:Nat} {m:MachD} {D:List ByteArray}
def AtB (L:Nat) (p:Mp α) (m:MachD) (D:List ByteArray) (c:Nat) (S : α->MachD->List ByteArray->Prop):Prop :=
 Inv L D m->p.KeysB m/\(p.news m D).length<=D.length+c/\S (p.run m).1 (p.run m).2 (p.news m D)
theorem At.b {p:Mp α} {c:Nat} {S : α->MachD->List ByteArray->Prop} (h:At L p m D c S):AtB L p m D c (fun a m' D'=>S a m' D'/\prc m'=prc m):=fun I=>by
 obtain ⟨h1,h2,h3⟩:=h I
 exact ⟨h1.b,h2,h3,h1.prc⟩
theorem AtB.bind {x:Mp α} {f : α->Mp β} {c d:Nat} {S : α->MachD->List ByteArray->Prop} {T : β->MachD->List ByteArray->Prop} (h:AtB L x m D c S)
  (k:∀ a m' D',S a m' D'->Inv L D' m'->(∀ y ∈ D,y ∈ D')->D'.length<=D.length+c->AtB L (f a) m' D' d T):AtB L (x >>= f) m D (c+d) T:=by
 intro I
 obtain ⟨h1,h2,h3⟩:=h I
 have I2:=zc5 x L m D I h1
 obtain ⟨k1,k2,k3⟩:=k _ _ _ h3 I2 (zdw x m D) h2 I2
 refine ⟨(Mp.keysB_bind x f m).2 ⟨h1,k1⟩,?_,?_⟩
 ·rw [zb0];omega
 ·rw [zb0,Mp.run_bind];exact k3
theorem AtB.le {x:Mp α} {c d:Nat} {S : α->MachD->List ByteArray->Prop} (h:AtB L x m D c S) (hc:c<=d):AtB L x m D d S:=fun I=>by
 obtain ⟨h1,h2,h3⟩:=h I
 exact ⟨h1,by omega,h3⟩
theorem AtB.ret {a : α} {S : α->MachD->List ByteArray->Prop} (h:S a m D):AtB L (pure a:Mp α) m D 0 S:=fun _=>⟨trivial,Nat.le_refl _,h⟩
theorem AtB.ite {p:Prop} [Decidable p] {x y:Mp α} {c:Nat} {S : α->MachD->List ByteArray->Prop} (h1:p->AtB L x m D c S) (h2:¬ p->AtB L y m D c S):AtB L (if p then x else y) m D c S:=by
 by_cases h:p
 ·rw [if_pos h];exact h1 h
 ·rw [if_neg h];exact h2 h
theorem ziG:AtB L (K.num K.cProc) m D 1 (fun a m' _=>a=prc m/\prc m'=prc m):=fun I=>⟨⟨⟨by decide,by decide⟩,trivial⟩,zcY D _,rfl,rfl⟩
theorem atB_set {n:Int} (h0 : 1<=n) (h1:n<=999):AtB L (K.setNum K.cProc n) m D 1 (fun _ m' _=>prc m'=n):=fun I=>by
 refine ⟨⟨⟨by decide,by decide⟩,trivial⟩,zcY D _,?_⟩
 show zaM (zeG K.cProc (zck K.cProc (K.numText n) m.cells))=n
 have ht:=ziV h0 h1
 unfold K.numText
 rw [if_pos ⟨h0,h1⟩,zjU (by decide) ht.2.1 (by omega)]
 exact ht.1
theorem zkc (parent:Int):AtB L (K.spawn parent) m D 5 (fun p m' _=>(p.2 ≠ 0/\prc m'=prc m) ∨ (p.2=0/\zca p.1/\prc m'=prc m+1/\prc m'<=12)):=by
 have hp0:=prc_in m
 unfold K.spawn
 refine AtB.bind (d:=4) ziG fun many m1 D1 h1 _ _ _=>AtB.ite (fun _=>(AtB.ret (.inl ⟨by decide,h1.2⟩)).le (by omega)) fun hm=>?_
 refine AtB.bind (c:=2) (d:=2) (S:=fun id m' _=>id=prc m+1/\prc m'=prc m+1) ?_ fun id m2 D2 h2 _ _ _=>?_
 ·unfold K.bump
  refine AtB.bind (d:=1) ziG fun n m2 D2 h2 _ _ _=>AtB.ite (fun h=>absurd h (by omega)) fun _=>?_
  exact AtB.bind (d:=0) (atB_set (by omega) (by omega)) fun _ m3 D3 h3 _ _ _=>AtB.ret ⟨by omega,by omega⟩
 ·have hid:zca id:=⟨by omega,by omega⟩
  refine AtB.bind (d:=1) (zah (za6 hid (by decide))).b fun _ m3 D3 h3 _ _ _=>?_
  exact AtB.bind (d:=0) (zah (za6 hid (by decide))).b fun _ m4 D4 h4 _ _ _=>AtB.ret (.inr ⟨rfl,hid,by omega,by omega⟩)
theorem zin {proc:Int} (hp:zca proc):AtB L (K.doSpawn proc) m D (D.length+L+11) (fun _ m' D'=>(prc m'=prc m/\D'.length<=D.length+5) ∨ (prc m'=prc m+1/\prc m'<=12)):=by
 have hd:D.length+L+11=5+(D.length+L+6):=by omega
 rw [hd]
 have hS:AtB L (K.spawn proc) m D 5 (fun p m' D'=>((p.2 ≠ 0/\prc m'=prc m) ∨ (p.2=0/\zca p.1/\prc m'=prc m+1/\prc m'<=12))/\D'.length<=D.length+5):=fun I=>by
  have h:=zkc (L:=L) (m:=m) (D:=D) proc I
  exact ⟨h.1,h.2.1,h.2.2,h.2.1⟩
 unfold K.doSpawn
 refine AtB.bind (d:=D.length+L+6) hS fun p m1 D1 h1 _ _ _=>?_
 refine AtB.ite (fun h0=>?_) fun hn=>?_
 ·rcases h1.1 with h|h
  ·exact absurd h0 h.1
  ·refine AtB.le (AtB.bind (d:=0) (zhI hp h.2.1).b fun _ m2 D2 h2 _ _ _=>AtB.ret (.inr ⟨by omega,by omega⟩)) ?_
   have:=h1.2
   omega
 ·rcases h1.1 with h|h
  ·exact (AtB.ret (.inl ⟨h.2,h1.2⟩)).le (by omega)
  ·exact absurd h.1 hn
theorem zhC {proc:Int} {c:CallD} (hp:zca proc) (ha:zca c.a) (hG:∀ k ∈ gk,k ∈ D) (I:Inv L D m) :
  (K.doCall proc c).KeysB m/\((prc ((K.doCall proc c).run m).2=prc m/\((K.doCall proc c).news m D).length<=D.length+12) ∨ (prc ((K.doCall proc c).run m).2=prc m+1/\prc ((K.doCall proc c).run m).2<=12/\((K.doCall proc c).news m D).length<=2*D.length+L+14)):=by
 by_cases hk:c.kind=12
 ·have h:AtB L (K.doCall proc c) m D (D.length+L+13) (fun _ m' D'=>(prc m'=prc m/\D'.length<=D.length+12) ∨ (prc m'=prc m+1/\prc m'<=12)):=by
   unfold K.doCall
   have hd:D.length+L+13=1+(D.length+L+12):=by omega
   rw [hd]
   refine AtB.bind (d:=D.length+L+12) (zd2 hp).b fun s m1 D1 h1 _ hs hl=>AtB.ite (fun _=>(AtB.ret (.inl ⟨h1.2,by omega⟩)).le (by omega)) fun _=>AtB.ite (fun _=>(AtB.ret (.inl ⟨h1.2,by omega⟩)).le (by omega)) fun _=>?_
   have e:K.doKind proc c=K.doSpawn proc:=by
    unfold K.doKind
    rw [hk]
    rfl
   rw [e]
   intro I1
   obtain ⟨k1,k2,k3⟩:=zin (L:=L) (m:=m1) (D:=D1) hp I1
   refine ⟨k1,by omega,?_⟩
   rcases k3 with k3|k3
   ·exact .inl ⟨by omega,by omega⟩
   ·exact .inr ⟨by omega,by omega⟩
  obtain ⟨h1,h2,h3⟩:=h I
  refine ⟨h1,?_⟩
  rcases h3 with h3|h3
  ·exact .inl h3
  ·exact .inr ⟨h3.1,h3.2,by omega⟩
 ·have h:At L (K.doCall proc c) m D 11 (fun _ _ _=>True):=by
   unfold K.doCall
   refine At.bind (c:=1) (d:=10) (zd2 hp) fun s m1 D1 h1 _ hs=>At.ite (fun _=>(At.ret trivial).le (by omega)) fun _=>At.ite (fun _=>(At.ret trivial).le (by omega)) fun _=>?_
   exact zj9 hp ha hk fun k h=>hs k (hG k h)
  obtain ⟨h1,h2,h3⟩:=h I
  exact ⟨h1.b,.inl ⟨h1.prc,by omega⟩⟩
theorem Inv.fresh (h:Inv L D m):Inv L D ⟨m.cells,[],[]⟩:=⟨h.nd,h.cn,(fun k hk=>by cases hk),(fun k hk=>by cases hk),(fun k hk=>by cases hk),(fun k hk=>by cases hk),List.Pairwise.nil,List.Pairwise.nil,h.cz,h.cl⟩
end
def zfM:List StepD->MachD->Prop
 | [],m=>Small m
 | s :: l,m=>(K.doCall s.proc s.call).fits m/\(K.doCall s.proc s.call).fits ⟨m.cells,[],[]⟩/\zfM l ((K.doCall s.proc s.call).run m).2
theorem zjY {L:Nat}:∀ (l:List StepD) (m:MachD) (D:List ByteArray),(∀ s ∈ l,zca s.proc/\zca s.call.a)->(∀ k ∈ gk,k ∈ D)->Inv L D m->2 ^ (12 - (prc m).toNat)*(D.length+L+14+12*l.length)<=549755813888->zfM l m
 | [],m,D,_,_,I,hb=>by
  have h2 : 0<2 ^ (12 - (prc m).toNat):=Nat.two_pow_pos _
  have h3:=Nat.le_mul_of_pos_left (D.length+L+14+12*0) h2
  rw [List.length_nil] at hb
  exact I.small (by omega)
 | s :: l,m,D,hs,hG,I,hb=>by
  have h2 : 0<2 ^ (12 - (prc m).toNat):=Nat.two_pow_pos _
  have hp:=prc_in m
  obtain ⟨hs1,hs2⟩:=hs s List.mem_cons_self
  have hc:=zhC hs1 hs2 hG I
  have hf:=zhC hs1 hs2 hG I.fresh
  rw [List.length_cons] at hb
  have key:∀ m0:MachD,prc m0=prc m->Inv L D m0->((K.doCall s.proc s.call).KeysB m0/\((prc ((K.doCall s.proc s.call).run m0).2=prc m0/\((K.doCall s.proc s.call).news m0 D).length<=D.length+12) ∨ (prc ((K.doCall s.proc s.call).run m0).2=prc m0+1/\prc ((K.doCall s.proc s.call).run m0).2<=12/\((K.doCall s.proc s.call).news m0 D).length<=2*D.length+L+14))) ->
    2 ^ (12 - (prc ((K.doCall s.proc s.call).run m0).2).toNat)*(((K.doCall s.proc s.call).news m0 D).length+L+14+12*l.length)<=549755813888:=by
   rintro m0 hm0 I0 ⟨_,h|h⟩
   ·rw [h.1,hm0]
    refine Nat.le_trans (Nat.mul_le_mul_left _ ?_) hb
    omega
   ·obtain ⟨h1,h3,h4⟩:=h
    have e : 12 - (prc m).toNat=(12 - (prc ((K.doCall s.proc s.call).run m0).2).toNat)+1:=by omega
    rw [e,Nat.pow_succ,Nat.mul_assoc] at hb
    refine Nat.le_trans (Nat.mul_le_mul_left _ ?_) hb
    omega
  have fit:∀ m0:MachD,Inv L D m0->(K.doCall s.proc s.call).KeysB m0->2 ^ (12 - (prc ((K.doCall s.proc s.call).run m0).2).toNat)*(((K.doCall s.proc s.call).news m0 D).length+L+14+12*l.length)<=549755813888->(K.doCall s.proc s.call).fits m0:=fun m0 I0 hk hh=>by
   refine Mp.inv_fits _ L m0 D I0 hk ?_
   have h5:=Nat.le_mul_of_pos_left (((K.doCall s.proc s.call).news m0 D).length+L+14+12*l.length) (Nat.two_pow_pos (12 - (prc ((K.doCall s.proc s.call).run m0).2).toNat))
   omega
  have k1:=key m rfl I hc
  have k2:=key ⟨m.cells,[],[]⟩ rfl I.fresh hf
  exact ⟨fit m I hc.1 k1,fit _ I.fresh hf.1 k2,zjY l _ _ (fun x hx=>hs x (List.mem_cons_of_mem _ hx)) (fun k hk=>zdw _ m D k (hG k hk)) (zc5 _ L m D I hc.1) k1⟩
noncomputable def zjG (cs:List CellD):List ByteArray:=(cs.map (·.key)++gk).foldr (fun k D=>zcl D k) []
theorem zhp:∀ l:List ByteArray,(l.foldr (fun k D=>zcl D k) []).length<=l.length
 | []=>Nat.le_refl _
 | k :: l=>by
  have:=zhp l
  have h2:=zcY (l.foldr (fun k D=>zcl D k) []) k
  rw [List.foldr_cons,List.length_cons]
  omega
theorem zfu:∀ (l:List ByteArray),∀ x ∈ l,x ∈ l.foldr (fun k D=>zcl D k) []
 | [],_,h=>by cases h
 | k :: l,x,h=>by
  rw [List.foldr_cons]
  rcases List.mem_cons.1 h with rfl|h
  ·exact zap.2 (.inr rfl)
  ·exact zap.2 (.inl (zfu l x h))
theorem ziy:∀ l:List ByteArray,(l.foldr (fun k D=>zcl D k) []).Nodup
 | []=>List.nodup_nil
 | k :: l=>zh5 (ziy l) k
theorem run_fits {cs:List CellD} {l:List StepD} (hz:cs.length+l.length<=2097152) (hc:∀ c ∈ cs,c.key.size<=1048576/\c.val.size<=1048576) (hl:∀ s ∈ l,zca s.proc/\zca s.call.a):zfM l ⟨cs,[],[]⟩:=by
 have hk:=zhp (cs.map (·.key)++gk)
 rw [List.length_append,List.length_map,gk_len] at hk
 refine zjY (L:=cs.length) l ⟨cs,[],[]⟩ (zjG cs) hl (fun k h=>zfu _ k (List.mem_append.2 (.inr h))) ⟨ziy _,fun c h _=>zfu _ _ (List.mem_append.2 (.inl (List.mem_map.2 ⟨c,h,rfl⟩))),(fun k h=>by cases h),(fun k h=>by cases h),(fun k h=>by cases h),(fun k h=>by cases h),List.Pairwise.nil,List.Pairwise.nil,hc,[],List.nodup_nil,(fun k h=>by cases h),List.length_filter_le _ _,(by rw [List.filter_eq_nil_iff.2 (fun c _ h=>by simp at h)];exact List.nodup_nil)⟩ ?_
 have h1 : 2 ^ (12 - (prc ⟨cs,[],[]⟩).toNat)<=2 ^ 12:=Nat.pow_le_pow_right (by decide) (by omega)
 have h2:(zjG cs).length+cs.length+14+12*l.length<=31634428:=by unfold zjG;omega
 have h3:=Nat.mul_le_mul h1 h2
 omega
open Mp
section
variable {α β : Type}
def Mp.Yields (p:Mp α) (S : α->Prop):Prop:=∀ m,p.fits m->S (p.run m).1
theorem Mp.Yields.any (p:Mp α):p.Yields (fun _=>True):=fun _ _=>trivial
theorem Mp.Yields.ret {a : α} {S : α->Prop} (h:S a):(pure a:Mp α).Yields S:=fun _ _=>h
theorem Mp.Yields.bind {x:Mp α} {f : α->Mp β} {S : α->Prop} {T : β->Prop} (h:x.Yields S) (k:∀ a,S a->(f a).Yields T):(x >>= f).Yields T:=fun m hf=>by
 obtain ⟨h1,h2⟩:=(fits_bind x f m).1 hf
 rw [run_bind]
 exact k _ (h m h1) _ h2
theorem Mp.Yields.ite {p:Prop} [Decidable p] {x y:Mp α} {S : α->Prop} (h1:p->x.Yields S) (h2:¬ p->y.Yields S):(if p then x else y).Yields S:=by
 by_cases h:p
 ·rw [if_pos h];exact h1 h
 ·rw [if_neg h];exact h2 h
theorem Mp.Yields.mono {x:Mp α} {S T : α->Prop} (h:x.Yields S) (k:∀ a,S a->T a):x.Yields T:=fun m hf=>k _ (h m hf)
theorem Mp.Yields.fold {f : β->α->Mp β} {sz : β->Nat} {c:Nat} (h:∀ b x,(f b x).Yields (fun b'=>sz b'<=sz b+c)):∀ (l:List α) (b : β),(Mp.fold f b l).Yields (fun b'=>sz b'<=sz b+c*l.length)
 | [],b=>.ret (by simp)
 | x :: l,b=>by
  show (f b x >>= fun b=>Mp.fold f b l).Yields _
  refine (h b x).bind fun b' hb=>(Mp.Yields.fold h l b').mono fun a ha=>?_
  rw [List.length_cons,Nat.mul_add]
  omega
end
theorem zjf (p:ByteArray):(K.under p).Yields (fun ks=>ks.length<=549755813888/\∀ k ∈ ks,k.size<=1048576):=fun m h=>by
 have hs:=fits_small h
 refine ⟨?_,?_⟩
 ·show (zS p m.cells).length<=_
  unfold zS
  rw [List.length_map]
  exact Nat.le_trans (List.length_filter_le _ _) hs.cl
 ·intro k hk
  obtain ⟨c,hc,rfl⟩:=List.mem_map.1 (show k ∈ zS p m.cells from hk)
  exact (hs.cz c (List.mem_filter.1 hc).1).1
theorem zg9 (v:ByteArray):(zbv v).size<=20000:=by
 unfold zbv
 split
 ·split
  ·rename_i h
   rw [zU]
   exact h.1
  ·exact Nat.zero_le _
 ·exact Nat.zero_le _
theorem zhm (v:ByteArray):(K.messageOf v).size<=20000:=by
 unfold K.messageOf
 split
 ·exact zg9 _
 ·exact Nat.zero_le _
theorem zg3 (k:ByteArray):(K.message k).Yields (fun t=>t.size<=20000):=(Mp.Yields.any _).bind fun a _=>.ret (zhm a)
theorem y_block (id place:Int):(K.block id place).Yields (fun t=>t.size<=20000):=(Mp.Yields.any _).bind fun a _=>.ret (zg9 a)
theorem zgp (s:ByteArray) (a b:Nat):(s.extract a b).size<=s.size:=by
 rw [ByteArray.size_extract]
 omega
theorem zhN (id:Int) (a b:Nat) (out:ByteArray) (place:Nat):(K.readBlock id a b out place).Yields (fun t=>t.size<=out.size+20000):=(y_block id place).bind fun s hs=>.ret (by
 split
 ·rw [ByteArray.size_append]
  have:=zgp s (a - place*8) (min (b - place*8) (min 8 s.size))
  omega
 ·omega)
theorem ziU (a b:Nat):(K.places a b).length<=(b+7) / 8:=by
 unfold K.places
 rw [List.length_range']
 omega
theorem y_num (k:ByteArray):(K.num k).Yields (fun n=>0<=n/\n<=999):=(Mp.Yields.any _).bind fun a _=>.ret (zcq a)
theorem ziN (id a n:Int):(K.readFile id a n).Yields (fun t=>t.size<=20000000):=by
 unfold K.readFile
 refine (y_num _).bind fun size hsz=>.ite (fun _=>.ret (Nat.zero_le _)) fun hc=>?_
 refine (Mp.Yields.fold (sz:=ByteArray.size) (c:=20000) (zhN id a.toNat (a+min n (size - a)).toNat) _ ⟨#[]⟩).mono fun t ht=>?_
 have h1:=ziU a.toNat (a+min n (size - a)).toNat
 have h2:(⟨#[]⟩ : ByteArray).size=0:=rfl
 have h3:(a+min n (size - a)).toNat<=999:=by omega
 have h4:((a+min n (size - a)).toNat+7) / 8<=125:=by omega
 have h5:=Nat.mul_le_mul_left 20000 (Nat.le_trans h1 h4)
 omega
theorem zf7 (c:Nat):∀ (l:List ByteArray),(∀ x ∈ l,x.size<=c)->∀ t:ByteArray,(l.foldl (fun t w=>t++(w++K.space)) t).size<=t.size+(c+1)*l.length
 | [],_,t=>by simp
 | x :: l,h,t=>by
  rw [List.foldl_cons]
  have h1:=zf7 c l (fun y hy=>h y (List.mem_cons_of_mem _ hy)) (t++(x++K.space))
  have h2:=h x List.mem_cons_self
  have h3:K.space.size=1:=rfl
  rw [ByteArray.size_append,ByteArray.size_append] at h1
  rw [List.length_cons,Nat.mul_add]
  omega
theorem ze6 {c:Nat} {l:List ByteArray} (hc:c<=1048576) (hl:l.length<=549755813888) (h:∀ x ∈ l,x.size<=c):(K.wordsOf l).size<=9223372036854775807:=by
 have h1:=zf7 c l h ⟨#[]⟩
 have h2:(⟨#[]⟩ : ByteArray).size=0:=rfl
 have h3:=Nat.mul_le_mul (show c+1<=1048577 by omega) hl
 unfold K.wordsOf
 omega
theorem zjg:K.doNames.Yields AnswerD.ok:=by
 unfold K.doNames K.names
 refine Mp.Yields.bind (S:=fun l=>l.length<=549755813888/\∀ k ∈ l,k.size<=1048576) ((zjf _).bind fun ks hk=>.ret ⟨by rw [List.length_map];exact hk.1,?_⟩) fun l hl=>.ret (ze6 (Nat.le_refl _) hl.1 hl.2)
 intro k hk2
 obtain ⟨x,hx,rfl⟩:=List.mem_map.1 hk2
 exact Nat.le_trans (zgp _ _ _) (hk.2 x hx)
theorem y_kid (parent:Int) (out:List Int) (key:ByteArray) (h:∀ n ∈ out,0<=n/\n<=999):(K.kid parent out key).Yields (fun l=>(∀ n ∈ l,0<=n/\n<=999)/\l.length<=out.length+1):=by
 unfold K.kid
 refine .ite (fun _=>(Mp.Yields.any _).bind fun up _=>.ret ?_) fun _=>.ret ⟨h,by omega⟩
 split
 ·refine ⟨fun n hn=>?_,by simp⟩
  rcases List.mem_append.1 hn with hn|hn
  ·exact h n hn
  ·rw [List.mem_singleton.1 hn]
   exact zcq _
 ·exact ⟨h,by omega⟩
theorem zg4 (parent:Int):∀ (l:List ByteArray) (out:List Int),(∀ n ∈ out,0<=n/\n<=999)->(Mp.fold (K.kid parent) out l).Yields (fun r=>(∀ n ∈ r,0<=n/\n<=999)/\r.length<=out.length+l.length)
 | [],out,h=>.ret ⟨h,by simp⟩
 | k :: l,out,h=>by
  show (K.kid parent out k >>= fun b=>Mp.fold (K.kid parent) b l).Yields _
  refine (y_kid parent out k h).bind fun b hb=>(zg4 parent l b hb.1).mono fun r hr=>⟨hr.1,?_⟩
  have h1:=hr.2
  have h2:=hb.2
  rw [List.length_cons]
  omega
theorem y_doKids (p:Int):(K.doKids p).Yields AnswerD.ok:=by
 unfold K.doKids K.kids
 refine Mp.Yields.bind (S:=fun l=>l.length<=549755813888/\∀ n ∈ l,(0:Int)<=n/\n<=999) ((zjf _).bind fun ks hk=>(zg4 p ks [] (fun _ h=>by cases h)).mono fun r hr=>⟨?_,hr.1⟩) fun l hl=>.ret (ze6 (c:=100) (by decide) (by rw [List.length_map];exact hl.1) fun x hx=>?_)
 ·have h1:=hr.2
  have h2:=hk.1
  rw [List.length_nil] at h1
  omega
 ·obtain ⟨n,hn,rfl⟩:=List.mem_map.1 hx
  have:=hl.2 n hn
  have h2:=Lib.itoa_length_le n (by omega) (by omega)
  rw [zU]
  omega
theorem zcK (a b:Int):AnswerD.ok ⟨a,b,⟨#[]⟩⟩:=Nat.zero_le _
theorem y_code (x:Mp Int):(K.code x).Yields AnswerD.ok:=(Mp.Yields.any _).bind fun _ _=>.ret (zcK _ _)
theorem y_codeN (x:Mp (Int × Int)):(K.codeN x).Yields AnswerD.ok:=(Mp.Yields.any _).bind fun _ _=>.ret (zcK _ _)
theorem zjh {x:Mp (ByteArray × Int)} (h:x.Yields fun p=>p.1.size<=20000):(K.codeT x).Yields AnswerD.ok:=h.bind fun p hp=>.ret (show p.1.size<=_ by omega)
theorem ziM (id:Int):(K.takePipe id).Yields fun p=>p.1.size<=20000:=by
 unfold K.takePipe
 exact (Mp.Yields.any _).bind fun _ _=>.ite (fun _=>.ret (Nat.zero_le _)) fun _=>(Mp.Yields.any _).bind fun _ _=>(Mp.Yields.any _).bind fun _ _=>.ite (fun _=>.ret (Nat.zero_le _)) fun _=>(zg3 _).bind fun t ht=>(Mp.Yields.any _).bind fun _ _=>(Mp.Yields.any _).bind fun _ _=>.ret ht
theorem ziO (id page:Int):(K.loadPage id page).Yields fun p=>p.1.size<=20000:=by
 unfold K.loadPage
 exact .ite (fun _=>(zg3 _).bind fun t ht=>.ret ht) fun _=>.ret (Nat.zero_le _)
theorem y_doFile (c:CallD):(K.doFile c).Yields AnswerD.ok:=by
 unfold K.doFile
 refine (Mp.Yields.any _).bind fun id _=>.ite (fun _=>.ret (zcK _ _)) fun _=>.ite (fun _=>(ziN _ _ _).bind fun t ht=>.ret (show t.size<=_ by omega)) fun _=>.ite (fun _=>(Mp.Yields.any _).bind fun _ _=>.ret (zcK _ _)) fun _=>(Mp.Yields.any _).bind fun _ _=>.ret (zcK _ _)
theorem y_doCall (p:Int) (c:CallD):(K.doCall p c).Yields AnswerD.ok:=by
 unfold K.doCall
 refine (Mp.Yields.any _).bind fun s _=>.ite (fun _=>.ret (zcK _ _)) fun _=>.ite (fun _=>.ret (zcK _ _)) fun _=>?_
 unfold K.doKind K.doSpawn K.doEnd
 repeat' (first|exact y_code _|exact y_codeN _|exact zjg|exact y_doKids _|exact y_doFile _|exact zjh (ziM _)|exact zjh (ziO _ _)|exact .ret (zcK _ _)|refine .ite (fun _=>?_) fun _=>?_|refine (Mp.Yields.any _).bind fun _ _=>?_)
theorem zjr:∀ (l:List StepD) (out:List AnswerD) (m:MachD),zfM l m->(∀ a ∈ out,a.ok)->(Mp.fold K.runSteps out l).fits m/\(∀ a ∈ ((Mp.fold K.runSteps out l).run m).1,a.ok)/\((Mp.fold K.runSteps out l).run m).1.length=out.length+l.length
 | [],out,m,h,ho=>⟨h,ho,by show out.length = _;simp⟩
 | s :: l,out,m,h,ho=>by
  obtain ⟨h1,_,h3⟩:=h
  have hy:=y_doCall s.proc s.call m h1
  have hout:∀ a ∈ out ++ [((K.doCall s.proc s.call).run m).1],a.ok:=fun a ha=>by
   rcases List.mem_append.1 ha with ha|ha
   ·exact ho a ha
   ·rw [List.mem_singleton.1 ha];exact hy
  obtain ⟨k1,k2,k3⟩:=zjr l (out ++ [((K.doCall s.proc s.call).run m).1]) _ h3 hout
  have e:(K.runSteps out s).run m=(out ++ [((K.doCall s.proc s.call).run m).1],((K.doCall s.proc s.call).run m).2):=by
   unfold K.runSteps
   rw [run_bind]
   rfl
  have f:(K.runSteps out s).fits m:=by
   unfold K.runSteps
   rw [fits_bind]
   exact ⟨h1,fits_small (fits_small k1 |> fun h=>(zjX () _).2 h)⟩
  show (K.runSteps out s >>= fun b=>Mp.fold K.runSteps b l).fits m/\(∀ a ∈ ((K.runSteps out s >>= fun b=>Mp.fold K.runSteps b l).run m).1,a.ok)/\((K.runSteps out s >>= fun b=>Mp.fold K.runSteps b l).run m).1.length = _
  rw [fits_bind,run_bind,e]
  refine ⟨⟨f,k1⟩,k2,?_⟩
  rw [k3]
  simp
  omega
theorem run_whole {cs:List CellD} {l:List StepD} (hz:cs.length+l.length<=1048576) (hc:∀ c ∈ cs,c.key.size<=1048576/\c.val.size<=1048576) (hl:∀ s ∈ l,zca s.proc/\zca s.call.a) :
  zfM l ⟨cs,[],[]⟩/\(K.runAll l).fits ⟨cs,[],[]⟩/\(∀ a ∈ ((K.runAll l).run ⟨cs,[],[]⟩).1,a.ok)/\((K.runAll l).run ⟨cs,[],[]⟩).1.length=l.length/\(∀ c ∈ ((K.runAll l).run ⟨cs,[],[]⟩).2.cells,c.ok)/\((K.runAll l).run ⟨cs,[],[]⟩).2.cells.length<=549755813888:=by
 have h:=run_fits (by omega) hc hl
 obtain ⟨h1,h2,h3⟩:=zjr l [] _ h (fun _ h=>by cases h)
 have hs:=fits_end h1
 exact ⟨h,h1,h2,h3.trans (Nat.zero_add _),fun c hc=>⟨by have:=(hs.cz c hc).1;omega,by have:=(hs.cz c hc).2;omega⟩,hs.cl⟩
end Go.Proofs.YtodokkpnafabpaaGreatDoor
