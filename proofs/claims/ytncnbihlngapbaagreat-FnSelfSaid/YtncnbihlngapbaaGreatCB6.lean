/- Texts of this claim, merged: the walks and what they stand on. Each condition stands in its theorem. -/
import Derived.Lib.ItoaLen
import Derived.Sort.KeysCollected
import Derived.Sort.Walk0
import Derived.Test.YtncnbihlngapbaaGreatCB3
set_option linter.unusedVariables false
set_option linter.unusedSimpArgs false
set_option maxRecDepth 100000
set_option maxHeartbeats 8000000
namespace Go.Proofs.YtncnbihlngapbaaGreat
open Go.ChangeShapes Go.WideShapes Go.ChangeAt Go.RowKit
def ltP (a b:ByteArray):Prop:=a.data.toList<b.data.toList
theorem zju (a b:ByteArray):ltS a b=true ↔ ltP a b:=by
 unfold ltS ltP
 rw [bytesLess_eq,ByteArray.toList_eq,ByteArray.toList_eq]
 exact decide_eq_true_iff
theorem zgx (a:ByteArray):¬ ltP a a:=List.lt_irrefl _
theorem zhe {a b c:ByteArray} (h:ltP a b) (h':ltP b c):ltP a c:=List.lt_trans h h'
theorem lt_or_eq (x y:List UInt8) (h:x<=y):x<y ∨ x=y:=by
 by_cases hl:x<y
 ·exact .inl hl
 ·exact .inr (List.le_antisymm h (List.not_lt.1 hl))
theorem ltP_tri {a b:ByteArray} (h:¬ ltP a b) (hne:a ≠ b):ltP b a:=by
 unfold ltP at *
 rcases lt_or_eq _ _ (List.not_lt.1 h) with h|h
 ·exact h
 ·exact absurd (ByteArray.ext (Array.toList_inj.1 h)).symm hne
theorem uniqS:∀ {xs ys:List ByteArray},xs.Pairwise ltP->ys.Pairwise ltP->(∀ x,x ∈ xs ↔ x ∈ ys)->xs=ys
 | [],[],_,_,_=>rfl
 | [],y :: ys,_,_,h=>absurd ((h y).2 (by simp)) (by simp)
 | x :: xs,[],_,_,h=>absurd ((h x).1 (by simp)) (by simp)
 | x :: xs,y :: ys,h1,h2,h=>by
  rw [List.pairwise_cons] at h1 h2
  have e:x=y:=by
   rcases List.mem_cons.1 ((h x).1 (by simp)) with e|hx
   ·exact e
   ·rcases List.mem_cons.1 ((h y).2 (by simp)) with e|hy
    ·exact e.symm
    ·exact absurd (zhe (h1.1 _ hy) (h2.1 _ hx)) (zgx _)
  subst e
  congr 1
  refine uniqS h1.2 h2.2 fun z=>?_
  constructor
  ·intro hz
   rcases List.mem_cons.1 ((h z).1 (by simp [hz])) with e|h'
   ·subst e;exact absurd (h1.1 _ hz) (zgx _)
   ·exact h'
  ·intro hz
   rcases List.mem_cons.1 ((h z).2 (by simp [hz])) with e|h'
   ·subst e;exact absurd (h2.1 _ hz) (zgx _)
   ·exact h'
theorem zdZ {α : Type} (p : α->Bool):∀ (l:List α),∀ t ∈ l.takeWhile p,p t=true
 | []=>by simp
 | a :: l=>by
  intro t ht
  rw [List.takeWhile_cons] at ht
  split at ht
  ·rename_i ha
   rcases List.mem_cons.1 ht with e|h
   ·rw [e];exact ha
   ·exact zdZ p l t h
  ·simp at ht
theorem zdy {α : Type} (p : α->Bool):∀ (l:List α) (d : α),(l.dropWhile p).head?=some d->p d=false
 | []=>by simp
 | a :: l=>by
  intro d hd
  rw [List.dropWhile_cons] at hd
  split at hd
  ·exact zdy p l d hd
  ·rename_i ha
   simp only [List.head?_cons,Option.some.injEq] at hd
   subst hd
   simpa using ha
theorem zg8 (xs:List ByteArray) (y:ByteArray):∃ A D,xs=A++D/\(∀ t ∈ A,ltS t y=true)/\(∀ d,D.head?=some d->ltS d y=false)/\zck xs y=if D.head?=some y then xs else A++y :: D:=by
 refine ⟨xs.takeWhile (ltS · y),xs.dropWhile (ltS · y),List.takeWhile_append_dropWhile.symm,zdZ _ xs,zdy _ xs,?_⟩
 have e:xs=xs.takeWhile (ltS · y)++xs.dropWhile (ltS · y):=List.takeWhile_append_dropWhile.symm
 have e1:xs.take (zaQ xs y)=xs.takeWhile (ltS · y):=by
  unfold zaQ
  conv=>lhs;rw [e]
  rw [List.take_left' (by rw [<- e])]
 have e2:xs.drop (zaQ xs y)=xs.dropWhile (ltS · y):=by
  unfold zaQ
  conv=>lhs;rw [e]
  rw [List.drop_left' (by rw [<- e])]
 have e3:xs[zaQ xs y]?=(xs.dropWhile (ltS · y)).head?:=by rw [<- e2,List.head?_drop]
 unfold zck
 rw [e1,e2,e3]
theorem zcP (xs:List ByteArray) (y x:ByteArray):x ∈ zck xs y ↔ x ∈ xs ∨ x=y:=by
 obtain ⟨A,D,e,_,_,hp⟩:=zg8 xs y
 rw [hp]
 split
 ·rename_i h
  constructor
  ·exact Or.inl
  ·rintro (h'|rfl)
   ·exact h'
   ·rw [e];exact List.mem_append_right _ (List.mem_of_head? h)
 ·rw [e]
  simp only [List.mem_append,List.mem_cons]
  constructor
  ·rintro (h|h|h)
   ·exact .inl (.inl h)
   ·exact .inr h
   ·exact .inl (.inr h)
  ·rintro ((h|h)|h)
   ·exact .inl h
   ·exact .inr (.inr h)
   ·exact .inr (.inl h)
theorem za2 (xs:List ByteArray) (y:ByteArray) (h:xs.Pairwise ltP):(zck xs y).Pairwise ltP:=by
 obtain ⟨A,D,e,hA,hD,hp⟩:=zg8 xs y
 rw [hp]
 split
 ·exact h
 ·rename_i hne
  rw [e,List.pairwise_append] at h
  obtain ⟨h1,h2,h3⟩:=h
  refine List.pairwise_append.2 ⟨h1,List.pairwise_cons.2 ⟨?_,h2⟩,?_⟩
  ·cases D with
   | nil=>simp
   | cons d D =>
    have hd:ltP y d:=ltP_tri (fun hh=>by have:=hD d rfl;rw [(zju d y).2 hh] at this;cases this) (fun e=>hne (by rw [e];rfl))
    intro z hz
    rcases List.mem_cons.1 hz with rfl|hz
    ·exact hd
    ·exact zhe hd ((List.pairwise_cons.1 h2).1 _ hz)
  ·intro t ht z hz
   rcases List.mem_cons.1 hz with rfl|hz
   ·exact (zju _ _).1 (hA t ht)
   ·exact h3 t ht z hz
open Mp
def zak (xs ys:List ByteArray):List ByteArray:=ys.foldl zck xs
theorem zgc (xs ys:List ByteArray) (x:ByteArray):zak xs (ys ++ [x])=zck (zak xs ys) x:=by
 unfold zak
 rw [List.foldl_append]
 rfl
theorem zfx:∀ (ys xs:List ByteArray) (x:ByteArray),x ∈ zak xs ys ↔ x ∈ xs ∨ x ∈ ys
 | [],xs,x=>by simp [zak]
 | y :: ys,xs,x=>by
  show x ∈ zak (zck xs y) ys ↔ _
  rw [zfx ys,zcP,List.mem_cons]
  constructor
  ·rintro ((h|h)|h)
   ·exact .inl h
   ·exact .inr (.inl h)
   ·exact .inr (.inr h)
  ·rintro (h|h|h)
   ·exact .inl (.inl h)
   ·exact .inl (.inr h)
   ·exact .inr h
theorem zey:∀ (ys xs:List ByteArray),xs.Pairwise ltP->(zak xs ys).Pairwise ltP
 | [],xs,h=>h
 | y :: ys,xs,h=>zey ys _ (za2 xs y h)
theorem zgu {xs ys:List ByteArray} (hx:xs.Pairwise ltP) (hy:ys.Pairwise ltP) (k:ByteArray):zck (zak xs ys) k=zak xs (zck ys k):=by
 refine uniqS (za2 _ _ (zey _ _ hx)) (zey _ _ hx) fun x=>?_
 rw [zcP,zfx,zfx,zcP]
 constructor
 ·rintro ((h|h)|h)
  ·exact .inl h
  ·exact .inr (.inl h)
  ·exact .inr (.inr h)
 ·rintro (h|h|h)
  ·exact .inl (.inl h)
  ·exact .inl (.inr h)
  ·exact .inr h
theorem Mp.run_join {α : Type} (p:Mp α):∀ (cs:List CellD) (r w r1 w1:List ByteArray),r.Pairwise ltP->w.Pairwise ltP->r1.Pairwise ltP->w1.Pairwise ltP ->
  p.run ⟨cs,zak r r1,zak w w1⟩=((p.run ⟨cs,r1,w1⟩).1,⟨(p.run ⟨cs,r1,w1⟩).2.cells,zak r (p.run ⟨cs,r1,w1⟩).2.rd,zak w (p.run ⟨cs,r1,w1⟩).2.wr⟩):=by
 induction p with
 | ret a=>intro cs r w r1 w1 _ _ _ _;rfl
 | look k f ih =>
  intro cs r w r1 w1 hr hw h1 h2
  have h:=ih (ze6 k cs) cs r w (zck r1 k) w1 hr hw (za2 _ _ h1) h2
  rw [<- zgu hr h1] at h
  exact h
 | lay k v n ih =>
  intro cs r w r1 w1 hr hw h1 h2
  have h:=ih (zd7 k v cs) r w r1 (zck w1 k) hr hw h1 (za2 _ _ h2)
  rw [<- zgu hw h2] at h
  exact h
 | under q f ih =>
  intro cs r w r1 w1 hr hw h1 h2
  have h:=ih (zag q cs) cs r w (zck r1 (q++star)) w1 hr hw (za2 _ _ h1) h2
  rw [<- zgu hr h1] at h
  exact h
theorem Mp.run_rise {α : Type} (p:Mp α):∀ (m:MachD),m.rd.Pairwise ltP->m.wr.Pairwise ltP->(p.run m).2.rd.Pairwise ltP/\(p.run m).2.wr.Pairwise ltP:=by
 induction p with
 | ret a=>exact fun m h1 h2=>⟨h1,h2⟩
 | look k f ih=>exact fun m h1 h2=>ih _ _ (za2 _ _ h1) h2
 | lay k v n ih=>exact fun m h1 h2=>ih _ h1 (za2 _ _ h2)
 | under q f ih=>exact fun m h1 h2=>ih _ _ (za2 _ _ h1) h2
theorem Mp.run_from {α : Type} (p:Mp α) (m:MachD) (h1:m.rd.Pairwise ltP) (h2:m.wr.Pairwise ltP) :
  p.run m=((p.run ⟨m.cells,[],[]⟩).1,⟨(p.run ⟨m.cells,[],[]⟩).2.cells,zak m.rd (p.run ⟨m.cells,[],[]⟩).2.rd,zak m.wr (p.run ⟨m.cells,[],[]⟩).2.wr⟩) :=
 Mp.run_join p m.cells m.rd m.wr [] [] h1 h2 List.Pairwise.nil List.Pairwise.nil
open Mp
open Classical
noncomputable def zb9 (D:List ByteArray) (k:ByteArray):List ByteArray:=if k ∈ D then D else k :: D
theorem zav {D:List ByteArray} {k x:ByteArray}:x ∈ zb9 D k ↔ x ∈ D ∨ x=k:=by
 unfold zb9
 split
 ·rename_i h
  constructor
  ·exact .inl
  ·rintro (h'|rfl)
   ·exact h'
   ·exact h
 ·rw [List.mem_cons]
  exact Or.comm
theorem ze3 {D:List ByteArray} {k:ByteArray} (h:k ∈ D):zb9 D k=D:=if_pos h
theorem zdi (D:List ByteArray) (k:ByteArray):(zb9 D k).length<=D.length+1:=by
 unfold zb9
 split
 ·omega
 ·rw [List.length_cons];omega
theorem zev (D:List ByteArray) (k:ByteArray):D.length<=(zb9 D k).length:=by
 unfold zb9
 split
 ·omega
 ·rw [List.length_cons];omega
theorem zhP {D:List ByteArray} (h:D.Nodup) (k:ByteArray):(zb9 D k).Nodup:=by
 unfold zb9
 split
 ·exact h
 ·rename_i hk
  exact List.nodup_cons.2 ⟨hk,h⟩
noncomputable def Mp.news {α : Type}:Mp α->MachD->List ByteArray->List ByteArray
 | ret _,_,D=>D
 | look k f,m,D=>Mp.news (f (ze6 k m.cells)) (m.look k) (zb9 D k)
 | lay k v n,m,D=>Mp.news n (m.lay k v) (zb9 D k)
 | under p f,m,D=>Mp.news (f (zag p m.cells)) (m.under p) (zb9 D (p++star))
theorem zcm {α β : Type} (x:Mp α) (f : α->Mp β) (m:MachD) (D:List ByteArray):(x >>= f).news m D=(f (x.run m).1).news (x.run m).2 (x.news m D):=by
 show (Mp.bind x f).news m D = _
 induction x generalizing m D with
 | ret a=>rfl
 | look k g ih=>exact ih _ _ _
 | lay k v n ih=>exact ih _ _
 | under p g ih=>exact ih _ _ _
theorem zeD {α : Type} (x:Mp α) (m:MachD) (D:List ByteArray):D.length<=(x.news m D).length:=by
 induction x generalizing m D with
 | ret a=>exact Nat.le_refl _
 | look k g ih=>exact Nat.le_trans (zev D k) (ih _ _ _)
 | lay k v n ih=>exact Nat.le_trans (zev D k) (ih _ _)
 | under p g ih=>exact Nat.le_trans (zev D _) (ih _ _ _)
theorem zb7 {α : Type} (x:Mp α) (m:MachD) (D:List ByteArray):∀ k ∈ D,k ∈ x.news m D:=by
 induction x generalizing m D with
 | ret a=>exact fun _ h=>h
 | look k g ih=>exact fun y h=>ih _ _ _ y (zav.2 (.inl h))
 | lay k v n ih=>exact fun y h=>ih _ _ y (zav.2 (.inl h))
 | under p g ih=>exact fun y h=>ih _ _ _ y (zav.2 (.inl h))
def zhv (k:ByteArray):Prop:=k.size ≠ 0/\k.size<=1048700
structure Inv (L:Nat) (D:List ByteArray) (m:MachD):Prop where
 nd:D.Nodup
 cn:∀ c ∈ m.cells,c.key.size ≠ 0->c.key ∈ D
 rn:∀ k ∈ m.rd,k ∈ D
 wn:∀ k ∈ m.wr,k ∈ D
 rk:∀ k ∈ m.rd,zhv k
 wk:∀ k ∈ m.wr,zhv k
 rs:m.rd.Pairwise ltP
 ws:m.wr.Pairwise ltP
 cz:∀ c ∈ m.cells,c.key.size<=1048576/\c.val.size<=1048576
 cl:∃ E:List ByteArray,E.Nodup/\(∀ k ∈ E,k ∈ D)/\(m.cells.filter fun c=>decide (c.key ∉ E)).length<=L/\((m.cells.filter fun c=>decide (c.key ∈ E)).map (·.key)).Nodup
theorem zdG:∀ {A D:List ByteArray},A.Nodup->(∀ k ∈ A,k ∈ D)->A.length<=D.length
 | [],_,_,_=>Nat.zero_le _
 | a :: A,D,ha,h=>by
  obtain ⟨s,t,rfl⟩:=List.append_of_mem (h a List.mem_cons_self)
  have hn:=List.nodup_cons.1 ha
  have ih:=zdG (D:=s++t) hn.2 fun k hk=>by
   have:=h k (List.mem_cons_of_mem _ hk)
   simp only [List.mem_append,List.mem_cons] at this ⊢
   rcases this with h1|h1|h1
   ·exact .inl h1
   ·subst h1;exact absurd hk hn.1
   ·exact .inr h1
  simp only [List.length_append,List.length_cons] at ih ⊢
  omega
theorem zdh {l:List ByteArray} (h:l.Pairwise ltP):l.Nodup:=h.imp fun {a b} hab e=>by subst e;exact zgx _ hab
theorem zjk {α : Type} (p : α->Bool) (l:List α):l.length=(l.filter fun x=>!p x).length+(l.filter p).length:=by
 induction l with
 | nil=>rfl
 | cons a l ih =>
  cases h:p a<;>simp [h] at ih ⊢<;>omega
theorem Inv.clen {L:Nat} {D:List ByteArray} {m:MachD} (h:Inv L D m):m.cells.length<=L+D.length:=by
 obtain ⟨E,hE,hED,h1,h2⟩:=h.cl
 have l2:((m.cells.filter fun c=>decide (c.key ∈ E)).map (·.key)).length<=E.length:=zdG h2 fun k hk=>by
  obtain ⟨c,hc,rfl⟩:=List.mem_map.1 hk
  have:=(List.mem_filter.1 hc).2
  simpa using this
 have l3:=zdG hE hED
 have l4:=zjk (fun c:CellD=>decide (c.key ∈ E)) m.cells
 have e:(m.cells.filter fun c=>!decide (c.key ∈ E))=m.cells.filter fun c=>decide (c.key ∉ E):=by
  congr 1
  funext c
  simp
 rw [e] at l4
 rw [List.length_map] at l2
 omega
theorem Inv.small {L:Nat} {D:List ByteArray} {m:MachD} (h:Inv L D m) (hb:L+D.length<=549755813888):Small m:=by
 have l0:=h.clen
 have r1:=zdG (zdh h.rs) h.rn
 have w1:=zdG (zdh h.ws) h.wn
 refine ⟨by omega,by omega,by omega,h.cz,fun k hk=>?_,fun k hk=>?_,fun k hk=>(h.rk k hk).1,fun k hk=>(h.wk k hk).1⟩
 ·have:=(h.rk k hk).2;omega
 ·have:=(h.wk k hk).2;omega
theorem Inv.more {L:Nat} {D:List ByteArray} {m:MachD} (h:Inv L D m) (k:ByteArray):Inv L (zb9 D k) m:=by
 obtain ⟨E,hE,hED,h1,h2⟩:=h.cl
 exact ⟨zhP h.nd k,fun c hc hn=>zav.2 (.inl (h.cn c hc hn)),fun x hx=>zav.2 (.inl (h.rn x hx)),fun x hx=>zav.2 (.inl (h.wn x hx)),h.rk,h.wk,h.rs,h.ws,h.cz,E,hE,fun x hx=>zav.2 (.inl (hED x hx)),h1,h2⟩
theorem Inv.read {L:Nat} {D:List ByteArray} {m:MachD} (h:Inv L D m) {k:ByteArray} (hk:zhv k):Inv L (zb9 D k) { m with rd:=zck m.rd k }:=by
 have h':=h.more k
 refine ⟨h'.nd,h'.cn,fun x hx=>?_,h'.wn,fun x hx=>?_,h'.wk,za2 _ _ h.rs,h.ws,h.cz,h'.cl⟩
 ·rcases (zcP _ _ _).1 hx with hx|rfl
  ·exact h'.rn x hx
  ·exact zav.2 (.inr rfl)
 ·rcases (zcP _ _ _).1 hx with hx|rfl
  ·exact h.rk x hx
  ·exact hk
theorem zcE (k:ByteArray) (c:CellD):zaH k c=true ↔ c.key=k:=by
 unfold zaH
 rw [ByteArray.toList_eq,ByteArray.toList_eq,beq_iff_eq]
 constructor
 ·intro h
  exact ByteArray.ext (Array.toList_inj.1 h)
 ·rintro h;rw [h]
theorem insC_has {k v:ByteArray} {s:List CellD} {c:CellD}:c ∈ zgL k v s ↔ c ∈ s ∨ c=⟨k,v⟩:=by
 unfold zgL
 have e:=List.takeWhile_append_dropWhile (p:=fun c=>!zaw k c) (l:=s)
 constructor
 ·intro h
  rcases List.mem_append.1 h with h|h
  ·exact .inl ((List.takeWhile_sublist _).mem h)
  ·rcases List.mem_cons.1 h with h|h
   ·exact .inr h
   ·exact .inl ((List.dropWhile_sublist _).mem h)
 ·rintro (h|rfl)
  ·rw [<- e] at h
   rcases List.mem_append.1 h with h|h
   ·exact List.mem_append.2 (.inl h)
   ·exact List.mem_append.2 (.inr (List.mem_cons_of_mem _ h))
  ·exact List.mem_append.2 (.inr List.mem_cons_self)
theorem zhk (k v:ByteArray) (s:List CellD):(zgL k v s).Perm (⟨k,v⟩ :: s):=by
 unfold zgL
 have e:=List.takeWhile_append_dropWhile (p:=fun c=>!zaw k c) (l:=s)
 conv=>rhs;rw [<- e]
 exact List.perm_middle
theorem Inv.write {L:Nat} {D:List ByteArray} {m:MachD} (h:Inv L D m) {k:ByteArray} (hk:zhv k) (v:ByteArray):Inv L (zb9 D k) (m.lay k v):=by
 have h':=h.more k
 have hw:∀ x ∈ zck m.wr k,x ∈ zb9 D k:=fun x hx=>by
  rcases (zcP _ _ _).1 hx with hx|rfl
  ·exact h'.wn x hx
  ·exact zav.2 (.inr rfl)
 have hwk:∀ x ∈ zck m.wr k,zhv x:=fun x hx=>by
  rcases (zcP _ _ _).1 hx with hx|rfl
  ·exact h.wk x hx
  ·exact hk
 by_cases hr:zex k=false ∨ 60<v.size
 ·have e:zd7 k v m.cells=m.cells:=if_pos hr
  exact ⟨h'.nd,by show ∀ c ∈ zd7 k v m.cells,_;rw [e];exact h'.cn,h'.rn,hw,h.rk,hwk,h.rs,za2 _ _ h.ws,by show ∀ c ∈ zd7 k v m.cells,_;rw [e];exact h.cz,by show ∃ E:List ByteArray,E.Nodup/\(∀ x ∈ E,x ∈ zb9 D k)/\((zd7 k v m.cells).filter fun c=>decide (c.key ∉ E)).length<=L/\(((zd7 k v m.cells).filter fun c=>decide (c.key ∈ E)).map (·.key)).Nodup;rw [e];exact h'.cl⟩
 have hsub:∀ c ∈ zd7 k v m.cells,c ∈ m.cells ∨ c=⟨k,v⟩:=fun c hc=>by
  unfold zd7 at hc
  rw [if_neg hr] at hc
  split at hc
  ·exact .inl (List.mem_filter.1 hc).1
  ·rcases insC_has.1 hc with hc|hc
   ·exact .inl (List.mem_filter.1 hc).1
   ·exact .inr hc
 have hkz:k.size<=40:=by
  rcases Classical.em (zex k=true) with ho|ho
  ·unfold zex inB at ho
   simp at ho
   omega
  ·exact absurd (by simpa using ho) (fun hh=>hr (.inl hh))
 refine ⟨h'.nd,fun c hc hn=>?_,h'.rn,hw,h.rk,hwk,h.rs,za2 _ _ h.ws,fun c hc=>?_,?_⟩
 ·rcases hsub c hc with hc|rfl
  ·exact h'.cn c hc hn
  ·exact zav.2 (.inr rfl)
 ·rcases hsub c hc with hc|rfl
  ·exact h.cz c hc
  ·exact ⟨by show k.size<=_;omega,by show v.size<=_;omega⟩
 ·obtain ⟨E,hE,hED,h1,h2⟩:=h.cl
  have hEk:∀ x ∈ zb9 E k,x ∈ zb9 D k:=fun x hx=>by
   rcases zav.1 hx with hx|rfl
   ·exact zav.2 (.inl (hED x hx))
   ·exact zav.2 (.inr rfl)
  have out_sub:(((zap k m.cells).filter fun c=>decide (c.key ∉ zb9 E k))).length<=L:=by
   refine Nat.le_trans ?_ h1
   rw [<- List.countP_eq_length_filter,<- List.countP_eq_length_filter]
   refine Nat.le_trans (List.Sublist.countP_le (List.filter_sublist (p:=fun c=>!zaH k c) (l:=m.cells))) ?_
   refine List.countP_mono_left fun c _ hc=>?_
   simp only [decide_eq_true_eq] at hc ⊢
   exact fun hh=>hc (zav.2 (.inl hh))
  have in_eq:(zap k m.cells).filter (fun c=>decide (c.key ∈ zb9 E k))=(zap k m.cells).filter (fun c=>decide (c.key ∈ E)):=by
   refine List.filter_congr fun c hc=>?_
   have hne:c.key ≠ k:=fun e=>by
    have:=(List.mem_filter.1 hc).2
    rw [(zcE k c).2 e] at this
    cases this
   rw [decide_eq_decide,zav]
   exact ⟨fun hh=>hh.resolve_right hne,.inl⟩
  have in_nd:(((zap k m.cells).filter (fun c=>decide (c.key ∈ zb9 E k))).map (·.key)).Nodup:=by
   rw [in_eq]
   refine List.Nodup.sublist (List.Sublist.map _ ?_) h2
   exact List.Sublist.filter _ List.filter_sublist
  refine ⟨zb9 E k,zhP hE k,hEk,?_,?_⟩
  ·show ((zd7 k v m.cells).filter fun c=>decide (c.key ∉ zb9 E k)).length<=L
   unfold zd7
   rw [if_neg hr]
   split
   ·exact out_sub
   ·have hp:=(zhk k v (zap k m.cells)).filter (fun c=>decide (c.key ∉ zb9 E k))
    rw [hp.length_eq,List.filter_cons,if_neg (by simp [zav])]
    exact out_sub
  ·show (((zd7 k v m.cells).filter fun c=>decide (c.key ∈ zb9 E k)).map (·.key)).Nodup
   unfold zd7
   rw [if_neg hr]
   split
   ·exact in_nd
   ·have hp:=((zhk k v (zap k m.cells)).filter (fun c=>decide (c.key ∈ zb9 E k))).map (·.key)
    rw [List.Perm.nodup_iff hp,List.filter_cons,if_pos (by simp [zav]),List.map_cons,List.nodup_cons]
    refine ⟨fun hh=>?_,in_nd⟩
    obtain ⟨c,hc,e⟩:=List.mem_map.1 hh
    have:=(List.mem_filter.1 (List.mem_filter.1 hc).1).2
    rw [(zcE k c).2 e] at this
    cases this
def Mp.KeysB {α : Type}:Mp α->MachD->Prop
 | ret _,_=>True
 | look k f,m=>zhv k/\Mp.KeysB (f (ze6 k m.cells)) (m.look k)
 | lay k v n,m=>zhv k/\Mp.KeysB n (m.lay k v)
 | under p f,m=>zhv (p++star)/\Mp.KeysB (f (zag p m.cells)) (m.under p)
theorem Mp.keysB_bind {α β : Type} (x:Mp α) (f : α->Mp β) (m:MachD):(x >>= f).KeysB m ↔ x.KeysB m/\(f (x.run m).1).KeysB (x.run m).2:=by
 show (Mp.bind x f).KeysB m ↔ _
 induction x generalizing m with
 | ret a=>exact ⟨fun h=>⟨trivial,h⟩,fun h=>h.2⟩
 | look k g ih=>exact ⟨fun h=>⟨⟨h.1,((ih _ _).1 h.2).1⟩,((ih _ _).1 h.2).2⟩,fun h=>⟨h.1.1,(ih _ _).2 ⟨h.1.2,h.2⟩⟩⟩
 | lay k v n ih=>exact ⟨fun h=>⟨⟨h.1,((ih _).1 h.2).1⟩,((ih _).1 h.2).2⟩,fun h=>⟨h.1.1,(ih _).2 ⟨h.1.2,h.2⟩⟩⟩
 | under p g ih=>exact ⟨fun h=>⟨⟨h.1,((ih _ _).1 h.2).1⟩,((ih _ _).1 h.2).2⟩,fun h=>⟨h.1.1,(ih _ _).2 ⟨h.1.2,h.2⟩⟩⟩
theorem zb2 {α : Type} (x:Mp α) (L:Nat) (m:MachD) (D:List ByteArray) (h:Inv L D m) (hk:x.KeysB m):Inv L (x.news m D) (x.run m).2:=by
 induction x generalizing m D with
 | ret a=>exact h
 | look k g ih=>exact ih _ _ _ (h.read hk.1) hk.2
 | lay k v n ih=>exact ih _ _ (h.write hk.1 v) hk.2
 | under p g ih=>exact ih _ _ _ (h.read hk.1) hk.2
theorem zfL {α : Type} (x:Mp α) (L:Nat) (m:MachD) (D:List ByteArray) (h:Inv L D m) (hk:x.KeysB m) (hb:L+(x.news m D).length<=549755813888):x.fits m:=by
 induction x generalizing m D with
 | ret a=>exact h.small hb
 | look k g ih =>
  have h1:=zeD (g (ze6 k m.cells)) (m.look k) (zb9 D k)
  have h2:=zev D k
  have h3:L+((g (ze6 k m.cells)).news (m.look k) (zb9 D k)).length<=549755813888:=hb
  exact ⟨h.small (by omega),by have:=hk.1.2;omega,ih _ _ _ (h.read hk.1) hk.2 hb⟩
 | lay k v n ih =>
  have h1:=zeD n (m.lay k v) (zb9 D k)
  have h2:=zev D k
  have h3:L+(n.news (m.lay k v) (zb9 D k)).length<=549755813888:=hb
  exact ⟨h.small (by omega),by have:=hk.1.2;omega,ih _ _ (h.write hk.1 v) hk.2 hb⟩
 | under p g ih =>
  have h1:=zeD (g (zag p m.cells)) (m.under p) (zb9 D (p++star))
  have h2:=zev D (p++star)
  have h3:L+((g (zag p m.cells)).news (m.under p) (zb9 D (p++star))).length<=549755813888:=hb
  exact ⟨h.small (by omega),by have:=hk.1.2;rw [ByteArray.size_append] at this;omega,ih _ _ _ (h.read hk.1) hk.2 hb⟩
open Mp
open Classical
def zgB (k:ByteArray):Option UInt8:=k.data.toList.head?
theorem ne_proc {k:ByteArray} {b:UInt8} (h:zgB k=some b) (hb:b ≠ 99):k ≠ K.cProc:=by
 rintro rfl
 exact hb (Option.some.inj h).symm
theorem zec {x y:ByteArray} {b:UInt8} (h:zgB x=some b):zgB (x++y)=some b:=by
 unfold zgB at *
 rw [ByteArray.data_append,Array.toList_append,List.head?_append,h]
 rfl
theorem zdm {k:ByteArray} {b:UInt8} (h:zgB k=some b):k.size ≠ 0:=by
 intro e
 have:k.data=#[]:=Array.eq_empty_of_size_eq_zero e
 unfold zgB at h
 rw [this] at h
 cases h
theorem zb0 {h t:ByteArray} {n:Int} {b:UInt8} (hb:zgB h=some b):zgB (zaf h n t)=some b:=zec (zec hb)
theorem zbq (h t:ByteArray) (n:Int) (hn : -9223372036854775808<=n/\n<=9223372036854775807):(zaf h n t).size<=h.size+21+t.size:=by
 unfold zaf
 rw [ByteArray.size_append,ByteArray.size_append,zaj]
 have:=Lib.itoa_length_le n hn.1 hn.2
 omega
theorem ziZ {p k:ByteArray} {b:UInt8} (hb:zgB p=some b) (h:zbd k p=true):zgB k=some b:=by
 unfold zbd at h
 rw [Bool.and_eq_true,decide_eq_true_eq,ByteArray.toList_eq,ByteArray.toList_eq,beq_iff_eq,ByteArray.data_extract,Array.toList_extract] at h
 unfold zgB at *
 rw [<- h.2] at hb
 change ((k.data.toList.drop 0).take (p.size - 0)).head?=some b at hb
 rw [List.drop_zero,List.head?_take] at hb
 split at hb
 ·cases hb
 ·exact hb
def KeyW (k:ByteArray):Prop:=zhv k/\k ≠ K.cProc
theorem KeyW.of {k:ByteArray} {b:UInt8} (h:zgB k=some b) (hb:b ≠ 99) (hz:k.size<=1048700):KeyW k:=⟨⟨zdm h,hz⟩,ne_proc h hb⟩
theorem zcQ {h t:ByteArray} {n:Int} {b:UInt8} (hb:zgB h=some b) (hc:b ≠ 99) (hn : -9223372036854775808<=n/\n<=9223372036854775807) (hz:h.size+t.size<=1000):KeyW (zaf h n t):=KeyW.of (zb0 hb) hc (by have:=zbq h t n hn;omega)
theorem zd9 {h t t2:ByteArray} {n k:Int} {b:UInt8} (hb:zgB h=some b) (hc:b ≠ 99) (hn : -9223372036854775808<=n/\n<=9223372036854775807) (hk : -9223372036854775808<=k/\k<=9223372036854775807) (hz:h.size+t.size+t2.size<=1000):KeyW (zaf (zaf h n t) k t2):=KeyW.of (zb0 (zb0 hb)) hc (by have:=zbq h t n hn;have:=zbq (zaf h n t) t2 k hk;omega)
def Mp.KeysW {α : Type}:Mp α->MachD->Prop
 | ret _,_=>True
 | look k f,m=>zhv k/\Mp.KeysW (f (ze6 k m.cells)) (m.look k)
 | lay k v n,m=>KeyW k/\Mp.KeysW n (m.lay k v)
 | under p f,m=>zhv (p++star)/\Mp.KeysW (f (zag p m.cells)) (m.under p)
theorem Mp.KeysW.b {α : Type} {x:Mp α} {m:MachD} (h:x.KeysW m):x.KeysB m:=by
 induction x generalizing m with
 | ret a=>trivial
 | look k g ih=>exact ⟨h.1,ih _ h.2⟩
 | lay k v n ih=>exact ⟨h.1.1,ih h.2⟩
 | under p g ih=>exact ⟨h.1,ih _ h.2⟩
theorem Mp.keysW_bind {α β : Type} (x:Mp α) (f : α->Mp β) (m:MachD):(x >>= f).KeysW m ↔ x.KeysW m/\(f (x.run m).1).KeysW (x.run m).2:=by
 show (Mp.bind x f).KeysW m ↔ _
 induction x generalizing m with
 | ret a=>exact ⟨fun h=>⟨trivial,h⟩,fun h=>h.2⟩
 | look k g ih=>exact ⟨fun h=>⟨⟨h.1,((ih _ _).1 h.2).1⟩,((ih _ _).1 h.2).2⟩,fun h=>⟨h.1.1,(ih _ _).2 ⟨h.1.2,h.2⟩⟩⟩
 | lay k v n ih=>exact ⟨fun h=>⟨⟨h.1,((ih _).1 h.2).1⟩,((ih _).1 h.2).2⟩,fun h=>⟨h.1.1,(ih _).2 ⟨h.1.2,h.2⟩⟩⟩
 | under p g ih=>exact ⟨fun h=>⟨⟨h.1,((ih _ _).1 h.2).1⟩,((ih _ _).1 h.2).2⟩,fun h=>⟨h.1.1,(ih _ _).2 ⟨h.1.2,h.2⟩⟩⟩
def At {α : Type} (L:Nat) (p:Mp α) (m:MachD) (D:List ByteArray) (c:Nat) (S : α->MachD->List ByteArray->Prop):Prop :=
 Inv L D m->p.KeysW m/\(p.news m D).length<=D.length+c/\S (p.run m).1 (p.run m).2 (p.news m D)
section
variable {α β : Type} {L:Nat} {m:MachD} {D:List ByteArray}
theorem At.bind {x:Mp α} {f : α->Mp β} {c d:Nat} {S : α->MachD->List ByteArray->Prop} {T : β->MachD->List ByteArray->Prop} (h:At L x m D c S)
  (k:∀ a m' D',S a m' D'->Inv L D' m'->(∀ y ∈ D,y ∈ D')->At L (f a) m' D' d T):At L (x >>= f) m D (c+d) T:=by
 intro I
 obtain ⟨h1,h2,h3⟩:=h I
 have I2:=zb2 x L m D I h1.b
 obtain ⟨k1,k2,k3⟩:=k _ _ _ h3 I2 (zb7 x m D) I2
 refine ⟨(Mp.keysW_bind x f m).2 ⟨h1,k1⟩,?_,?_⟩
 ·rw [zcm];omega
 ·rw [zcm,Mp.run_bind];exact k3
theorem At.le {x:Mp α} {c d:Nat} {S : α->MachD->List ByteArray->Prop} (h:At L x m D c S) (hc:c<=d):At L x m D d S:=fun I=>by
 obtain ⟨h1,h2,h3⟩:=h I
 exact ⟨h1,by omega,h3⟩
theorem At.mono {x:Mp α} {c:Nat} {S T : α->MachD->List ByteArray->Prop} (h:At L x m D c S) (hS:∀ a m' D',Inv L D' m'->S a m' D'->T a m' D'):At L x m D c T:=fun I=>by
 obtain ⟨h1,h2,h3⟩:=h I
 exact ⟨h1,h2,hS _ _ _ (zb2 x L m D I h1.b) h3⟩
theorem At.ret {a : α} {S : α->MachD->List ByteArray->Prop} (h:S a m D):At L (pure a:Mp α) m D 0 S:=fun _=>⟨trivial,Nat.le_refl _,h⟩
theorem At.ite {p:Prop} [Decidable p] {x y:Mp α} {c:Nat} {S : α->MachD->List ByteArray->Prop} (h1:p->At L x m D c S) (h2:¬ p->At L y m D c S):At L (if p then x else y) m D c S:=by
 by_cases h:p
 ·rw [if_pos h];exact h1 h
 ·rw [if_neg h];exact h2 h
theorem zjU {k:ByteArray} (hk:zhv k):At L (K.look k) m D 1 (fun _ _ _=>True):=fun I=>⟨⟨hk,trivial⟩,zdi D k,trivial⟩
theorem zgH {k:ByteArray} (hk:zhv k) (h:k ∈ D):At L (K.look k) m D 0 (fun _ m' D'=>D'=D/\m'.cells=m.cells):=fun I=>⟨⟨hk,trivial⟩,by show (zb9 D k).length<=_;rw [ze3 h];omega,ze3 h,rfl⟩
theorem zdA {k v:ByteArray} (hk:KeyW k):At L (K.lay k v) m D 1 (fun _ _ _=>True):=fun I=>⟨⟨hk,trivial⟩,zdi D k,trivial⟩
theorem zeC {k v:ByteArray} (hk:KeyW k) (h:k ∈ D):At L (K.lay k v) m D 0 (fun _ _ D'=>D'=D):=fun I=>⟨⟨hk,trivial⟩,by show (zb9 D k).length<=_;rw [ze3 h];omega,ze3 h⟩
theorem zeh {p:ByteArray} {b:UInt8} (hb:zgB p=some b) (hz:p.size<=1000):At L (K.under p) m D 1 (fun ks m' D'=>ks.length<=L+D.length/\∀ k ∈ ks,k ∈ D'/\k.size<=1048576/\zgB k=some b):=by
 intro I
 refine ⟨⟨⟨zdm (zec hb),by rw [ByteArray.size_append];have:star.size=1:=rfl;omega⟩,trivial⟩,zdi D _,?_,?_⟩
 ·show (zag p m.cells).length<=_
  unfold zag
  rw [List.length_map]
  exact Nat.le_trans (List.length_filter_le _ _) (I.clen)
 ·intro k hk
  obtain ⟨c,hc,rfl⟩:=List.mem_map.1 (show k ∈ zag p m.cells from hk)
  have h1:=List.mem_filter.1 hc
  have hf:zgB c.key=some b:=ziZ hb h1.2
  exact ⟨zav.2 (.inl (I.cn c h1.1 (zdm hf))),(I.cz c h1.1).1,hf⟩
theorem zfa {f : α->Mp Unit}:∀ (l:List α) (m:MachD),(∀ x ∈ l,∀ m,At L (f x) m D 0 (fun _ _ D'=>D'=D))->At L (Mp.each f l) m D 0 (fun _ _ D'=>D'=D)
 | [],m,_=>At.ret rfl
 | x :: xs,m,h=>by
  show At L (f x >>= fun _=>Mp.each f xs) m D 0 _
  refine At.bind (d:=0) (h x List.mem_cons_self m) fun a m' D' hD _ _=>?_
  rw [hD]
  exact zfa xs m' (fun y hy=>h y (List.mem_cons_of_mem _ hy))
theorem zij {f : α->Mp Unit} {P : α->List ByteArray->Prop} (hP:∀ x D D',P x D->(∀ y ∈ D,y ∈ D')->P x D') (hf:∀ x m D,P x D->At L (f x) m D 1 (fun _ _ _=>True)):∀ (l:List α) (m:MachD) (D:List ByteArray),(∀ x ∈ l,P x D)->At L (Mp.each f l) m D l.length (fun _ _ _=>True)
 | [],m,D,_=>At.ret trivial
 | x :: xs,m,D,h=>by
  show At L (f x >>= fun _=>Mp.each f xs) m D (xs.length+1) _
  rw [Nat.add_comm]
  exact At.bind (hf x m D (h x List.mem_cons_self)) fun a m' D' _ _ hs=>zij hP hf xs m' D' (fun y hy=>hP y D D' (h y (List.mem_cons_of_mem _ hy)) hs)
theorem ze9 {f : β->α->Mp β} {T : β->Prop}:∀ (l:List α) (b : β) (m:MachD),T b->(∀ x ∈ l,∀ b m,T b->At L (f b x) m D 0 (fun b _ D'=>D'=D/\T b))->At L (Mp.fold f b l) m D 0 (fun b _ D'=>D'=D/\T b)
 | [],b,m,hT,_=>At.ret ⟨rfl,hT⟩
 | x :: xs,b,m,hT,h=>by
  show At L (f b x >>= fun b=>Mp.fold f b xs) m D 0 _
  refine At.bind (d:=0) (h x List.mem_cons_self b m hT) fun a m' D' hD _ _=>?_
  rw [hD.1]
  exact ze9 xs a m' hD.2 (fun y hy=>h y (List.mem_cons_of_mem _ hy))
end
open Mp
open Classical
def zbE (n:Int):Prop:=-9223372036854775808<=n/\n<=9223372036854775807
def gkOf (a:Nat):List ByteArray:=[K.sizeKey a,K.procKey a K.tS,K.signalKey a K.tT,K.signalKey a K.tH]++((List.range 131).map (fun p:Nat=>K.blockKey a p)++(List.range 1001).map (fun q:Nat=>zaf (K.signalKey a K.tQ) q ⟨#[]⟩))
def gk:List ByteArray:=(List.range 1001).flatMap gkOf
theorem flat_len {α β : Type} (f : α->List β) (c:Nat) (h:∀ a,(f a).length=c):∀ l:List α,(l.flatMap f).length=l.length*c
 | []=>by simp
 | a :: l=>by rw [List.flatMap_cons,List.length_append,h,flat_len f c h l,List.length_cons,Nat.succ_mul];omega
theorem gk_len:gk.length=1001*1136:=by
 unfold gk
 rw [flat_len gkOf 1136 (fun a=>by simp [gkOf]),List.length_range]
theorem zga {a:Int} (h0 : 0<=a) (h1:a<=1000) {k:ByteArray} (h:k ∈ gkOf a.toNat):k ∈ gk:=List.mem_flatMap.2 ⟨a.toNat,List.mem_range.2 (by omega),h⟩
theorem zez {a:Int} (h0 : 0<=a) (h1:a<=999):K.sizeKey a ∈ gk:=zga h0 (by omega) (by
 have e:((a.toNat:Nat):Int)=a:=Int.toNat_of_nonneg h0
 unfold gkOf;rw [e];simp)
theorem gk_state {a:Int} (h0 : 0<=a) (h1:a<=999):K.procKey a K.tS ∈ gk:=zga h0 (by omega) (by
 have e:((a.toNat:Nat):Int)=a:=Int.toNat_of_nonneg h0
 unfold gkOf;rw [e];simp)
theorem zjE {a:Int} (h0 : 0<=a) (h1:a<=999):K.signalKey a K.tT ∈ gk:=zga h0 (by omega) (by
 have e:((a.toNat:Nat):Int)=a:=Int.toNat_of_nonneg h0
 unfold gkOf;rw [e];simp)
theorem gk_sigH {a:Int} (h0 : 0<=a) (h1:a<=999):K.signalKey a K.tH ∈ gk:=zga h0 (by omega) (by
 have e:((a.toNat:Nat):Int)=a:=Int.toNat_of_nonneg h0
 unfold gkOf;rw [e];simp)
theorem ze5 {a p:Int} (h0 : 0<=a) (h1:a<=999) (p0 : 0<=p) (p1:p<=130):K.blockKey a p ∈ gk:=zga h0 (by omega) (by
 have e:((a.toNat:Nat):Int)=a:=Int.toNat_of_nonneg h0
 have e2:((p.toNat:Nat):Int)=p:=Int.toNat_of_nonneg p0
 unfold gkOf
 rw [e]
 refine List.mem_append.2 (.inr (List.mem_append.2 (.inl (List.mem_map.2 ⟨p.toNat,List.mem_range.2 (by omega),by rw [e2]⟩))))
 )
theorem gk_sigQ {a p:Int} (h0 : 0<=a) (h1:a<=999) (p0 : 0<=p) (p1:p<=1000):zaf (K.signalKey a K.tQ) p ⟨#[]⟩ ∈ gk:=zga h0 (by omega) (by
 have e:((a.toNat:Nat):Int)=a:=Int.toNat_of_nonneg h0
 have e2:((p.toNat:Nat):Int)=p:=Int.toNat_of_nonneg p0
 unfold gkOf
 rw [e]
 refine List.mem_append.2 (.inr (List.mem_append.2 (.inr (List.mem_map.2 ⟨p.toNat,List.mem_range.2 (by omega),by rw [e2]⟩))))
 )
section
variable {L:Nat} {m:MachD} {D:List ByteArray}
theorem zcO (v:ByteArray) : 0<=zbu v/\zbu v<=999:=by
 unfold zbu
 split
 ·rename_i h;omega
 ·omega
theorem zbe {k:ByteArray} (hk:zhv k):At L (K.num k) m D 1 (fun a _ _=>0<=a/\a<=999) :=
 At.bind (d:=0) (zjU hk) fun a m' D' _ _ _=>At.ret (zcO a)
theorem zc8 {k:ByteArray} (hk:zhv k) (h:k ∈ D):At L (K.num k) m D 0 (fun a _ D'=>D'=D/\0<=a/\a<=999) :=
 At.bind (d:=0) (zgH hk h) fun a m' D' hD _ _=>At.ret ⟨hD.1,zcO a⟩
theorem zam {k:ByteArray} {n:Int} (hk:KeyW k):At L (K.setNum k n) m D 1 (fun _ _ _=>True):=zdA hk
theorem zcF {k:ByteArray} {n:Int} (hk:KeyW k) (h:k ∈ D):At L (K.setNum k n) m D 0 (fun _ _ D'=>D'=D):=zeC hk h
theorem zjX {k:ByteArray} (hk:KeyW k):At L (K.bump k) m D 2 (fun a _ _=>0<=a/\a<=999):=by
 unfold K.bump
 refine At.bind (d:=1) (zbe hk.1) fun n m' D' hn _ _=>At.ite (fun h=>?_) fun h=>?_
 ·exact (At.ret (by omega)).le (by omega)
 ·exact At.bind (d:=0) (zam hk) fun _ _ _ _ _ _=>At.ret (by omega)
theorem zbU {name:ByteArray} (h:K.nameOk name=true):KeyW (K.nN++name):=by
 have hz:name.size<=12:=by
  unfold K.nameOk inB at h
  simp at h
  omega
 refine KeyW.of (b:=110) (zec rfl) (by decide) ?_
 rw [ByteArray.size_append]
 have:K.nN.size=2:=rfl
 omega
theorem zhj:KeyW K.cFile:=⟨⟨by decide,by decide⟩,by decide⟩
theorem zhh:KeyW K.cPipe:=⟨⟨by decide,by decide⟩,by decide⟩
theorem zgb:KeyW K.cClock:=⟨⟨by decide,by decide⟩,by decide⟩
theorem zjx:KeyW K.dN:=⟨⟨by decide,by decide⟩,by decide⟩
theorem zcD {id:Int} (h:zbE id):KeyW (zaf K.nI id K.tL):=zcQ (b:=105) rfl (by decide) h (by decide)
theorem zcC {id:Int} (h:zbE id):KeyW (K.sizeKey id):=zcQ (b:=105) rfl (by decide) h (by decide)
theorem zdj {id p:Int} (h:zbE id) (hp:zbE p):KeyW (K.blockKey id p):=zd9 (b:=105) rfl (by decide) h hp (by decide)
theorem zbp {id:Int} {t:ByteArray} (h:zbE id) (ht:t.size<=10):KeyW (K.pipeKey id t):=zcQ (b:=112) rfl (by decide) h (by have:K.nP.size=2:=rfl;omega)
theorem zew {id p:Int} (h:zbE id) (hp:zbE p):KeyW (zaf (K.pipeKey id K.tQ) p ⟨#[]⟩):=zd9 (b:=112) rfl (by decide) h hp (by decide)
theorem zbo {id:Int} {t:ByteArray} (h:zbE id) (ht:t.size<=10):KeyW (K.procKey id t):=zcQ (b:=114) rfl (by decide) h (by have:K.nR.size=2:=rfl;omega)
theorem zbB {id:Int} {t:ByteArray} (h:zbE id) (ht:t.size<=10):KeyW (K.signalKey id t):=zcQ (b:=103) rfl (by decide) h (by have:K.nG.size=2:=rfl;omega)
theorem zd8 {id p:Int} (h:zbE id) (hp:zbE p):KeyW (zaf (K.signalKey id K.tQ) p ⟨#[]⟩):=zd9 (b:=103) rfl (by decide) h hp (by decide)
theorem zhi {id p:Int} (h:zbE id) (hp:zbE p):KeyW (zaf (K.pagesKey id) p ⟨#[]⟩):=zd9 (b:=109) rfl (by decide) h hp (by decide)
theorem zb6 (name:ByteArray):At L (K.fileOf name) m D 1 (fun a _ _=>0<=a/\a<=999):=by
 unfold K.fileOf
 refine At.ite (fun h=>zbe (zbU h).1) fun _=>(At.ret (by omega)).le (by omega)
theorem zhX {p:ByteArray} {b:UInt8} (hb:zgB p=some b) (hc:b ≠ 99) (hz:p.size<=1000):At L (K.wipe p) m D 1 (fun _ _ _=>True):=by
 unfold K.wipe
 refine At.bind (d:=0) (zeh hb hz) fun ks m' D' hk I hs=>?_
 refine (zfa ks m' fun k hk' m=>zeC (KeyW.of (hk.2 k hk').2.2 hc (by have:=(hk.2 k hk').2.1;omega)) (hk.2 k hk').1).mono fun _ _ _ _ _=>trivial
theorem zh2 (name:ByteArray):At L (K.makeName name) m D 6 (fun a _ _=>True):=by
 unfold K.makeName
 refine At.ite (fun hn=>?_) fun _=>(At.ret trivial).le (by omega)
 refine At.bind (d:=5) (zb6 name) fun id m' D' _ _ _=>At.ite (fun _=>(At.ret trivial).le (by omega)) fun _=>?_
 refine At.bind (d:=4) (zbe zhj.1) fun n m' D' _ _ _=>At.ite (fun _=>(At.ret trivial).le (by omega)) fun _=>?_
 refine At.bind (d:=2) (zjX zhj) fun id m' D' hid _ _=>?_
 refine At.bind (d:=1) (zam (zbU hn)) fun _ m' D' _ _ _=>?_
 exact At.bind (d:=0) (zam (zcD ⟨by omega,by omega⟩)) fun _ m' D' _ _ _=>At.ret trivial
theorem zh4 (a b:ByteArray):At L (K.linkName a b) m D 6 (fun _ _ _=>True):=by
 unfold K.linkName
 refine At.ite (fun hn=>?_) fun _=>(At.ret trivial).le (by omega)
 refine At.bind (d:=5) (zb6 a) fun id m' D' hid _ _=>At.ite (fun _=>(At.ret trivial).le (by omega)) fun _=>?_
 refine At.bind (d:=4) (zb6 b) fun o m' D' _ _ _=>At.ite (fun _=>(At.ret trivial).le (by omega)) fun _=>?_
 refine At.bind (d:=3) (zbe (zcD ⟨by omega,by omega⟩).1) fun n m' D' _ _ _=>At.ite (fun _=>(At.ret trivial).le (by omega)) fun _=>?_
 refine At.bind (d:=2) (zam (zbU hn.2)) fun _ m' D' _ _ _=>?_
 exact At.bind (d:=1) (zam (zcD ⟨by omega,by omega⟩)) fun _ m' D' _ _ _=>(At.ret trivial).le (by omega)
theorem zeg (name:ByteArray):At L (K.unlinkName name) m D 4 (fun _ _ _=>True):=by
 unfold K.unlinkName
 refine At.ite (fun hn=>?_) fun _=>(At.ret trivial).le (by omega)
 refine At.bind (d:=3) (zb6 name) fun id m' D' hid _ _=>At.ite (fun _=>(At.ret trivial).le (by omega)) fun _=>?_
 refine At.bind (d:=2) (zdA (zbU hn)) fun _ m' D' _ _ _=>?_
 refine At.bind (d:=1) (zbe (zcD ⟨by omega,by omega⟩).1) fun n m' D' _ _ _=>At.ite (fun _=>?_) fun _=>?_
 ·exact At.bind (d:=0) (zam (zcD ⟨by omega,by omega⟩)) fun _ m' D' _ _ _=>At.ret trivial
 ·refine At.bind (d:=0) (zhX (b:=105) (zb0 rfl) (by decide) ?_) fun _ m' D' _ _ _=>At.ret trivial
  have:=zbq K.nI ⟨#[47]⟩ id ⟨by omega,by omega⟩
  have h1:K.nI.size=2:=rfl
  have h2:(⟨#[47]⟩ : ByteArray).size=1:=rfl
  omega
theorem zgG (a b:ByteArray):At L (K.renameName a b) m D 9 (fun _ _ _=>True):=by
 unfold K.renameName
 refine At.ite (fun hn=>?_) fun _=>(At.ret trivial).le (by omega)
 refine At.bind (d:=8) (zb6 a) fun id m' D' hid _ _=>At.ite (fun _=>(At.ret trivial).le (by omega)) fun _=>?_
 refine At.bind (d:=7) (zb6 b) fun o m' D' _ _ _=>At.ite (fun _=>(At.ret trivial).le (by omega)) fun _=>At.ite (fun _=>?_) fun _=>?_
 ·refine At.bind (d:=3) (zeg b) fun _ m' D' _ _ _=>?_
  refine At.bind (d:=2) (zam (zbU hn.2)) fun _ m' D' _ _ _=>?_
  exact At.bind (d:=1) (zdA (zbU hn.1)) fun _ m' D' _ _ _=>(At.ret trivial).le (by omega)
 ·refine At.bind (d:=6) (zam (zbU hn.2)) fun _ m' D' _ _ _=>?_
  exact At.bind (d:=5) (zdA (zbU hn.1)) fun _ m' D' _ _ _=>(At.ret trivial).le (by omega)
theorem at_names:At L K.names m D 1 (fun _ _ _=>True):=by
 unfold K.names
 exact At.bind (d:=0) (zeh (b:=110) rfl (by decide)) fun _ m' D' _ _ _=>At.ret trivial
end
open Mp
open Classical
section
variable {L:Nat} {m:MachD} {D:List ByteArray}
theorem zfF {id p:Int} (h0 : 0<=id) (h1:id<=999) (p0 : 0<=p) (p1:p<=130) (hG:∀ k ∈ gk,k ∈ D):At L (K.block id p) m D 0 (fun _ _ D'=>D'=D):=by
 unfold K.block
 exact At.bind (d:=0) (zgH (zdj ⟨by omega,by omega⟩ ⟨by omega,by omega⟩).1 (hG _ (ze5 h0 h1 p0 p1))) fun _ m' D' hD _ _=>At.ret hD.1
theorem zg9 {a b p:Nat} (hb:b<=1040) (h:p ∈ K.places a b):p<=130:=by
 unfold K.places at h
 rw [List.mem_range'] at h
 obtain ⟨i,hi,rfl⟩:=h
 omega
theorem zh0 {id a n:Int} (h0 : 0<=id) (h1:id<=999) (hG:∀ k ∈ gk,k ∈ D):At L (K.readFile id a n) m D 0 (fun _ _ _=>True):=by
 unfold K.readFile
 refine At.bind (d:=0) (zc8 (zcC ⟨by omega,by omega⟩).1 (hG _ (zez h0 h1))) fun s m' D' hs _ _=>At.ite (fun _=>At.ret trivial) fun hn=>?_
 have hG':∀ k ∈ gk,k ∈ D':=by rw [hs.1];exact hG
 refine (ze9 (T:=fun _=>True) _ _ m' trivial fun p hp b m _=>?_).mono fun _ _ _ _ _=>trivial
 have hp2:=zg9 (by omega) hp
 unfold K.readBlock
 exact At.bind (d:=0) (zfF h0 h1 (by omega) (by omega) hG') fun _ _ _ hD _ _=>At.ret ⟨hD,trivial⟩
theorem zhq {id a:Int} {text:ByteArray} (h0 : 0<=id) (h1:id<=999) (hG:∀ k ∈ gk,k ∈ D):At L (K.writeFile id a text) m D 0 (fun _ _ _=>True):=by
 unfold K.writeFile
 refine At.bind (d:=0) (zc8 (zcC ⟨by omega,by omega⟩).1 (hG _ (zez h0 h1))) fun s m' D' hs _ _=>At.ite (fun _=>At.ret trivial) fun hn=>At.ite (fun _=>At.ret trivial) fun h64=>?_
 have hG':∀ k ∈ gk,k ∈ D':=by rw [hs.1];exact hG
 have hE:At L (Mp.each (K.writeBlock id text a.toNat (a.toNat+text.size)) (K.places a.toNat (a.toNat+text.size))) m' D' 0 (fun _ _ D''=>D''=D'):=zfa _ m' fun p hp m=>by
  have hp2:=zg9 (by omega) hp
  unfold K.writeBlock
  refine At.bind (d:=0) (zfF h0 h1 (by omega) (by omega) hG') fun _ m' D' hD _ _=>?_
  subst hD
  exact zeC (zdj ⟨by omega,by omega⟩ ⟨by omega,by omega⟩) (hG' _ (ze5 h0 h1 (by omega) (by omega)))
 refine At.bind (d:=0) hE fun _ m2 D2 hD _ _=>?_
 subst hD
 refine At.ite (fun _=>?_) fun _=>?_
 ·exact At.bind (d:=0) (zcF (zcC ⟨by omega,by omega⟩) (hG' _ (zez h0 h1))) fun _ _ _ _ _ _=>At.ret trivial
 ·exact At.ret trivial
theorem zi2 {id n:Int} (h0 : 0<=id) (h1:id<=999) (hG:∀ k ∈ gk,k ∈ D):At L (K.cutFile id n) m D 0 (fun _ _ _=>True):=by
 unfold K.cutFile
 refine At.bind (d:=0) (zc8 (zcC ⟨by omega,by omega⟩).1 (hG _ (zez h0 h1))) fun s m' D' hs _ _=>At.ite (fun _=>At.ret trivial) fun hn=>?_
 have hG':∀ k ∈ gk,k ∈ D':=by rw [hs.1];exact hG
 have hE:∀ (a b:Nat) (m:MachD),a+b<=130->At L (Mp.each (fun p:Nat=>K.lay (K.blockKey id (p:Int)) ⟨#[]⟩) (List.range' a b)) m D' 0 (fun _ _ D''=>D''=D'):=fun a b m hab=>zfa _ m fun p hp m=>by
  rw [List.mem_range'] at hp
  obtain ⟨i,hi,rfl⟩:=hp
  exact zeC (zdj ⟨by omega,by omega⟩ ⟨by omega,by omega⟩) (hG' _ (ze5 h0 h1 (by omega) (by omega)))
 refine At.ite (fun _=>?_) fun _=>?_
 ·refine At.bind (d:=0) (zfF h0 h1 (by omega) (by omega) hG') fun _ m2 D2 hD _ _=>?_
  subst hD
  refine At.bind (d:=0) (zeC (zdj ⟨by omega,by omega⟩ ⟨by omega,by omega⟩) (hG' _ (ze5 h0 h1 (by omega) (by omega)))) fun _ m3 D3 hD _ _=>?_
  subst hD
  refine At.bind (d:=0) (hE _ _ m3 (by omega)) fun _ m4 D4 hD _ _=>?_
  subst hD
  exact At.bind (d:=0) (zcF (zcC ⟨by omega,by omega⟩) (hG' _ (zez h0 h1))) fun _ _ _ _ _ _=>At.ret trivial
 ·refine At.bind (d:=0) (hE _ _ m' (by omega)) fun _ m4 D4 hD _ _=>?_
  subst hD
  exact At.bind (d:=0) (zcF (zcC ⟨by omega,by omega⟩) (hG' _ (zez h0 h1))) fun _ _ _ _ _ _=>At.ret trivial
theorem zh1:At L K.makePipe m D 4 (fun _ _ _=>True):=by
 unfold K.makePipe
 refine At.bind (d:=3) (zbe zhh.1) fun n m' D' _ _ _=>At.ite (fun _=>(At.ret trivial).le (by omega)) fun _=>?_
 refine At.bind (d:=1) (zjX zhh) fun id m' D' hid _ _=>?_
 exact At.bind (d:=0) (zam (zbp ⟨by omega,by omega⟩ (by decide))) fun _ _ _ _ _ _=>At.ret trivial
theorem zhs {id:Int} (h:zbE id):At L (K.isPipe id) m D 1 (fun _ _ _=>True):=by
 unfold K.isPipe
 exact At.bind (d:=0) (zbe (zbp h (by decide)).1) fun _ _ _ _ _ _=>At.ret trivial
theorem zi0 {id:Int} {text:ByteArray} (h:zbE id):At L (K.putPipe id text) m D 5 (fun _ _ _=>True):=by
 unfold K.putPipe
 refine At.bind (d:=4) (zhs h) fun is m' D' _ _ _=>At.ite (fun _=>(At.ret trivial).le (by omega)) fun _=>At.ite (fun _=>(At.ret trivial).le (by omega)) fun _=>?_
 refine At.bind (d:=3) (zbe (zbp h (by decide)).1) fun tl m' D' ht _ _=>?_
 refine At.bind (d:=2) (zbe (zbp h (by decide)).1) fun hd m' D' _ _ _=>At.ite (fun _=>(At.ret trivial).le (by omega)) fun _=>At.ite (fun _=>(At.ret trivial).le (by omega)) fun _=>?_
 refine At.bind (d:=1) (zam (zbp h (by decide))) fun _ m' D' _ _ _=>?_
 exact At.bind (d:=0) (zdA (zew h ⟨by omega,by omega⟩)) fun _ _ _ _ _ _=>At.ret trivial
theorem zgf {k:ByteArray} (hk:zhv k):At L (K.message k) m D 1 (fun _ _ _=>True):=by
 unfold K.message
 exact At.bind (d:=0) (zjU hk) fun _ _ _ _ _ _=>At.ret trivial
theorem zhY {id:Int} (h:zbE id):At L (K.takePipe id) m D 6 (fun _ _ _=>True):=by
 unfold K.takePipe
 refine At.bind (d:=5) (zhs h) fun is m' D' _ _ _=>At.ite (fun _=>(At.ret trivial).le (by omega)) fun _=>?_
 refine At.bind (d:=4) (zbe (zbp h (by decide)).1) fun hd m' D' ht _ _=>?_
 refine At.bind (d:=3) (zbe (zbp h (by decide)).1) fun tl m' D' _ _ _=>At.ite (fun _=>(At.ret trivial).le (by omega)) fun _=>?_
 refine At.bind (d:=2) (zgf (zew h ⟨by omega,by omega⟩).1) fun t m' D' _ _ _=>?_
 refine At.bind (d:=1) (zdA (zew h ⟨by omega,by omega⟩)) fun _ m' D' _ _ _=>?_
 exact At.bind (d:=0) (zam (zbp h (by decide))) fun _ _ _ _ _ _=>At.ret trivial
theorem zei {id:Int} (h:zbE id):At L (K.state id) m D 1 (fun a _ _=>0<=a/\a<=999):=zbe (zbo h (by decide)).1
theorem zi1 {id n:Int} (h:zbE id):At L (K.endProc id n) m D 3 (fun _ _ _=>True):=by
 unfold K.endProc
 refine At.bind (d:=2) (zei h) fun s m' D' _ _ _=>At.ite (fun _=>(At.ret trivial).le (by omega)) fun _=>At.ite (fun _=>(At.ret trivial).le (by omega)) fun _=>?_
 refine At.bind (d:=1) (zam (zbo h (by decide))) fun _ m' D' _ _ _=>?_
 exact At.bind (d:=0) (zam (zbo h (by decide))) fun _ _ _ _ _ _=>At.ret trivial
theorem zfv {hd t:ByteArray} {id:Int} (h:zbE id) (hz:hd.size+t.size<=100):(zaf hd id t).size<=1000:=by
 have:=zbq hd t id h
 omega
theorem at_reap {parent id:Int} (h:zbE id):At L (K.reap parent id) m D 4 (fun _ _ _=>True):=by
 unfold K.reap
 refine At.bind (d:=3) (zbe (zbo h (by decide)).1) fun own m' D' _ _ _=>At.ite (fun _=>(At.ret trivial).le (by omega)) fun _=>?_
 refine At.bind (d:=2) (zei h) fun s m' D' _ _ _=>At.ite (fun _=>(At.ret trivial).le (by omega)) fun _=>At.ite (fun _=>(At.ret trivial).le (by omega)) fun _=>?_
 refine At.bind (d:=1) (zbe (zbo h (by decide)).1) fun n m' D' _ _ _=>?_
 exact At.bind (d:=0) (zhX (b:=114) (zb0 rfl) (by decide) (zfv h (by decide))) fun _ _ _ _ _ _=>At.ret trivial
theorem at_kids (parent:Int):At L (K.kids parent) m D 1 (fun l _ _=>∀ x ∈ l,0<=x/\x<=999):=by
 unfold K.kids
 refine At.bind (d:=0) (zeh (b:=114) rfl (by decide)) fun ks m' D' hk I hs=>?_
 refine (ze9 (T:=fun l:List Int=>∀ x ∈ l,0<=x/\x<=999) ks [] m' (fun x hx=>by cases hx) fun k hk' l m hl=>?_).mono fun _ _ _ _ h=>h.2
 unfold K.kid
 refine At.ite (fun _=>?_) fun _=>At.ret ⟨rfl,hl⟩
 have h3:=hk.2 k hk'
 refine At.bind (d:=0) (zc8 ⟨zdm h3.2.2,by omega⟩ h3.1) fun up m' D' hD _ _=>At.ret ⟨hD.1,?_⟩
 split
 ·intro x hx
  rcases List.mem_append.1 hx with hx|hx
  ·exact hl x hx
  ·rw [List.mem_singleton] at hx
   subst hx
   exact zcO _
 ·exact hl
theorem at_send {to n:Int} (h:zbE to):At L (K.send to n) m D 5 (fun _ _ _=>True):=by
 unfold K.send
 refine At.bind (d:=4) (zei h) fun s m' D' _ _ _=>At.ite (fun _=>(At.ret trivial).le (by omega)) fun _=>At.ite (fun _=>(At.ret trivial).le (by omega)) fun _=>?_
 refine At.bind (d:=3) (zbe (zbB h (by decide)).1) fun tl m' D' ht _ _=>?_
 refine At.bind (d:=2) (zbe (zbB h (by decide)).1) fun hd m' D' _ _ _=>At.ite (fun _=>(At.ret trivial).le (by omega)) fun _=>At.ite (fun _=>(At.ret trivial).le (by omega)) fun _=>?_
 refine At.bind (d:=1) (zam (zbB h (by decide))) fun _ m' D' _ _ _=>?_
 exact At.bind (d:=0) (zam (zd8 h ⟨by omega,by omega⟩)) fun _ _ _ _ _ _=>At.ret trivial
theorem at_send0 {to n:Int} (h0 : 0<=to) (h1:to<=999) (hG:∀ k ∈ gk,k ∈ D):At L (K.send to n) m D 0 (fun _ _ D'=>D'=D):=by
 have h:zbE to:=⟨by omega,by omega⟩
 unfold K.send
 refine At.bind (d:=0) (zc8 (zbo h (by decide)).1 (hG _ (gk_state h0 h1))) fun s m' D' hs _ _=>?_
 obtain ⟨rfl,_⟩:=hs
 refine At.ite (fun _=>At.ret rfl) fun _=>At.ite (fun _=>At.ret rfl) fun _=>?_
 refine At.bind (d:=0) (zc8 (zbB h (by decide)).1 (hG _ (zjE h0 h1))) fun tl m' D' ht _ _=>?_
 obtain ⟨rfl,ht⟩:=ht
 refine At.bind (d:=0) (zc8 (zbB h (by decide)).1 (hG _ (gk_sigH h0 h1))) fun hd m' D' hh _ _=>?_
 obtain ⟨rfl,_⟩:=hh
 refine At.ite (fun _=>At.ret rfl) fun _=>At.ite (fun _=>At.ret rfl) fun _=>?_
 refine At.bind (d:=0) (zcF (zbB h (by decide)) (hG _ (zjE h0 h1))) fun _ m' D' hD _ _=>?_
 subst hD
 exact At.bind (d:=0) (zcF (zd8 h ⟨by omega,by omega⟩) (hG _ (gk_sigQ h0 h1 (by omega) (by omega)))) fun _ _ _ hD _ _=>At.ret hD
theorem zgF {id:Int} (h:zbE id):At L (K.takeSignal id) m D 5 (fun _ _ _=>True):=by
 unfold K.takeSignal
 refine At.bind (d:=4) (zbe (zbB h (by decide)).1) fun hd m' D' ht _ _=>?_
 refine At.bind (d:=3) (zbe (zbB h (by decide)).1) fun tl m' D' _ _ _=>At.ite (fun _=>(At.ret trivial).le (by omega)) fun _=>?_
 refine At.bind (d:=2) (zbe (zd8 h ⟨by omega,by omega⟩).1) fun n m' D' _ _ _=>?_
 refine At.bind (d:=1) (zdA (zd8 h ⟨by omega,by omega⟩)) fun _ m' D' _ _ _=>?_
 exact At.bind (d:=0) (zam (zbB h (by decide))) fun _ _ _ _ _ _=>At.ret trivial
theorem zhZ {id a:Int} (h:zbE id):At L (K.setTimer id a) m D 1 (fun _ _ _=>True):=by
 unfold K.setTimer
 refine At.ite (fun _=>?_) fun _=>(At.ret trivial).le (by omega)
 exact At.bind (d:=0) (zam (zcQ (b:=116) rfl (by decide) h (by decide))) fun _ _ _ _ _ _=>At.ret trivial
theorem at_tick {n:Int} (hG:∀ k ∈ gk,k ∈ D):At L (K.tick n) m D 3 (fun _ _ _=>True):=by
 unfold K.tick
 refine At.ite (fun _=>(At.ret trivial).le (by omega)) fun _=>?_
 refine At.bind (d:=2) (zbe zgb.1) fun c m' D' _ _ hs=>At.ite (fun _=>(At.ret trivial).le (by omega)) fun _=>?_
 refine At.bind (d:=1) (zam zgb) fun _ m2 D2 _ _ hs2=>?_
 refine At.bind (d:=0) (zeh (b:=116) rfl (by decide)) fun ks m3 D3 hk I3 hs3=>?_
 have hG3:∀ k ∈ gk,k ∈ D3:=fun k h=>hs3 k (hs2 k (hs k (hG k h)))
 refine At.bind (d:=0) (S:=fun _ _ _=>True) ((ze9 (T:=fun _:Int=>True) ks 0 m3 trivial fun k hk' cnt m _=>?_).mono fun _ _ _ _ _=>trivial) fun _ _ _ _ _ _=>At.ret trivial
 have h3:=hk.2 k hk'
 have hkb:zhv k:=⟨zdm h3.2.2,by omega⟩
 unfold K.tickOne
 refine At.bind (d:=0) (zc8 hkb h3.1) fun a m4 D4 hD _ _=>?_
 obtain ⟨rfl,_⟩:=hD
 refine At.ite (fun _=>At.ret ⟨rfl,trivial⟩) fun _=>?_
 refine At.bind (d:=0) (zeC (KeyW.of h3.2.2 (by decide) (by omega)) h3.1) fun _ m5 D5 hD _ _=>?_
 subst hD
 have hb:=zcO (k.extract 2 k.size)
 exact At.bind (d:=0) (at_send0 hb.1 hb.2 hG3) fun _ _ _ hD _ _=>At.ret ⟨hD,trivial⟩
theorem zhr {id page:Int} {text:ByteArray} (h:zbE id):At L (K.storePage id page text) m D 1 (fun _ _ _=>True):=by
 unfold K.storePage
 refine At.ite (fun hp=>?_) fun _=>(At.ret trivial).le (by omega)
 exact At.bind (d:=0) (zdA (zhi h ⟨by omega,by omega⟩)) fun _ _ _ _ _ _=>At.ret trivial
theorem zh3 {id page:Int} (h:zbE id):At L (K.loadPage id page) m D 1 (fun _ _ _=>True):=by
 unfold K.loadPage
 refine At.ite (fun hp=>?_) fun _=>(At.ret trivial).le (by omega)
 exact At.bind (d:=0) (zgf (zhi h ⟨by omega,by omega⟩).1) fun _ _ _ _ _ _=>At.ret trivial
theorem zfs (id:Int):zgB (K.pagesKey id)=some 109:=zb0 rfl
theorem zhu {id:Int} (h:zbE id):At L (K.dropPages id) m D 1 (fun _ _ _=>True):=zhX (zfs id) (by decide) (zfv h (by decide))
theorem zht {frm to:Int} (hf:zbE frm) (ht:zbE to):At L (K.forkPages frm to) m D (1+(L+D.length)) (fun _ _ _=>True):=by
 unfold K.forkPages
 refine At.bind (d:=L+D.length) (zeh (zfs frm) (zfv hf (by decide))) fun ks m' D' hk I hs=>?_
 have hzt:(K.pagesKey to).size<=50:=by
  have:=zbq K.nM K.slash to ht
  have h1:K.nM.size=2:=rfl
  have h2:K.slash.size=1:=rfl
  show (zaf K.nM to K.slash).size<=50
  omega
 refine At.le ?_ hk.1
 refine zij (P:=fun k D=>k ∈ D/\k.size<=1048576/\k.size ≠ 0) (fun x D D' h hs=>⟨hs x h.1,h.2⟩) (fun k m D h=>?_) ks m' D' fun k hk'=>⟨(hk.2 k hk').1,(hk.2 k hk').2.1,zdm (hk.2 k hk').2.2⟩
 unfold K.forkOne
 refine At.bind (c:=0) (d:=1) (zgH ⟨h.2.2,by omega⟩ h.1) fun v m2 D2 hD _ _=>?_
 refine zdA (KeyW.of (zec (zfs to)) (by decide) ?_)
 rw [ByteArray.size_append,ByteArray.size_extract]
 omega
theorem zjT (text:ByteArray):At L (K.putOut text) m D 3 (fun _ _ _=>True):=by
 unfold K.putOut
 refine At.ite (fun _=>?_) fun _=>(At.ret trivial).le (by omega)
 refine At.bind (d:=2) (zbe zjx.1) fun n m' D' hn _ _=>At.ite (fun _=>(At.ret trivial).le (by omega)) fun _=>?_
 refine At.bind (d:=1) (zam zjx) fun _ m' D' _ _ _=>?_
 exact At.bind (d:=0) (zdA (zcQ (b:=100) rfl (by decide) ⟨by omega,by omega⟩ (by decide))) fun _ _ _ _ _ _=>At.ret trivial
theorem zjW {c:CallD} (hG:∀ k ∈ gk,k ∈ D):At L (K.doFile c) m D 1 (fun _ _ _=>True):=by
 unfold K.doFile
 refine At.bind (d:=0) (zb6 c.name) fun id m' D' hid _ hs=>At.ite (fun _=>At.ret trivial) fun _=>At.ite (fun _=>?_) fun _=>At.ite (fun _=>?_) fun _=>?_
 all_goals have hG':∀ k ∈ gk,k ∈ D':=fun k h=>hs k (hG k h)
 ·exact At.bind (d:=0) (zh0 hid.1 hid.2 hG') fun _ _ _ _ _ _=>At.ret trivial
 ·exact At.bind (d:=0) (zhq hid.1 hid.2 hG') fun _ _ _ _ _ _=>At.ret trivial
 ·exact At.bind (d:=0) (zi2 hid.1 hid.2 hG') fun _ _ _ _ _ _=>At.ret trivial
theorem zc9 {x:Mp Int} {c:Nat} (h:At L x m D c (fun _ _ _=>True)):At L (K.code x) m D c (fun _ _ _=>True):=At.bind (d:=0) h fun _ _ _ _ _ _=>At.ret trivial
theorem zej {x:Mp (Int × Int)} {c:Nat} (h:At L x m D c (fun _ _ _=>True)):At L (K.codeN x) m D c (fun _ _ _=>True):=At.bind (d:=0) h fun _ _ _ _ _ _=>At.ret trivial
theorem zik {x:Mp (ByteArray × Int)} {c:Nat} (h:At L x m D c (fun _ _ _=>True)):At L (K.codeT x) m D c (fun _ _ _=>True):=At.bind (d:=0) h fun _ _ _ _ _ _=>At.ret trivial
theorem zjV {proc:Int} {c:CallD} (hp:zbE proc) (ha:zbE c.a) (hk:c.kind ≠ 12) (hG:∀ k ∈ gk,k ∈ D):At L (K.doKind proc c) m D 10 (fun _ _ _=>True):=by
 unfold K.doKind
 refine At.ite (fun _=>(zej (zh2 _)).le (by omega)) fun _=>At.ite (fun _=>(zc9 (zh4 _ _)).le (by omega)) fun _=>At.ite (fun _=>(zc9 (zeg _)).le (by omega)) fun _=>At.ite (fun _=>(zc9 (zgG _ _)).le (by omega)) fun _=>?_
 refine At.ite (fun _=>(At.bind (d:=0) at_names fun _ _ _ _ _ _=>At.ret trivial).le (by omega)) fun _=>At.ite (fun _=>(zjW hG).le (by omega)) fun _=>At.ite (fun _=>(zej zh1).le (by omega)) fun _=>At.ite (fun _=>(zc9 (zi0 ha)).le (by omega)) fun _=>At.ite (fun _=>(zik (zhY ha)).le (by omega)) fun _=>?_
 refine At.ite (fun h=>absurd h hk) fun _=>At.ite (fun _=>?_) fun _=>At.ite (fun _=>(zej (at_reap ha)).le (by omega)) fun _=>At.ite (fun _=>(At.bind (d:=0) (at_kids proc) fun _ _ _ _ _ _=>At.ret trivial).le (by omega)) fun _=>?_
 ·unfold K.doEnd
  refine (At.bind (d:=1) (zi1 hp) fun r m' D' _ _ _=>At.ite (fun _=>At.bind (d:=0) (zhu hp) fun _ _ _ _ _ _=>At.ret trivial) fun _=>(At.ret trivial).le (by omega)).le (by omega)
 ·exact At.ite (fun _=>(zc9 (at_send ha)).le (by omega)) fun _=>At.ite (fun _=>(zej (zgF hp)).le (by omega)) fun _=>At.ite (fun _=>(zc9 (zhZ hp)).le (by omega)) fun _=>At.ite (fun _=>(zej (at_tick hG)).le (by omega)) fun _=>At.ite (fun _=>(zc9 (zhr hp)).le (by omega)) fun _=>At.ite (fun _=>(zik (zh3 hp)).le (by omega)) fun _=>(zc9 (zjT _)).le (by omega)
end
end Go.Proofs.YtncnbihlngapbaaGreat
