/- Texts of this claim, merged: the walks and what they stand on. Each condition stands in its theorem. -/
import Derived.Lib.ItoaLen
import Derived.Sort.KeysCollected
import Derived.Sort.Walk0
import Derived.Test.YtpnoehpmgflibaaGreatDoorCA5
set_option linter.unusedVariables false
set_option linter.unusedSimpArgs false
set_option maxRecDepth 100000
set_option maxHeartbeats 8000000
namespace Go.Proofs.YtpnoehpmgflibaaGreatDoor
open Go.ChangeShapes Go.WideShapes Go.ChangeAt Go.RowKit
def ltP (a b:ByteArray):Prop:=a.data.toList<b.data.toList
theorem zjX (a b:ByteArray):ltS a b=true ↔ ltP a b:=by
 unfold ltS ltP
 rw [bytesLess_eq,ByteArray.toList_eq,ByteArray.toList_eq]
 exact decide_eq_true_iff
theorem zgM (a:ByteArray):¬ ltP a a:=List.lt_irrefl _
theorem zeQ {a b c:ByteArray} (h:ltP a b) (h':ltP b c):ltP a c:=List.lt_trans h h'
theorem lt_or_eq (x y:List UInt8) (h:x<=y):x<y ∨ x=y:=by
 by_cases hl:x<y
 ·exact .inl hl
 ·exact .inr (List.le_antisymm h (List.not_lt.1 hl))
theorem zl4 {a b:ByteArray} (h:¬ ltP a b) (hne:a ≠ b):ltP b a:=by
 unfold ltP at *
 rcases lt_or_eq _ _ (List.not_lt.1 h) with h|h
 ·exact h
 ·exact absurd (ByteArray.ext (Array.toList_inj.1 h)).symm hne
theorem uniqS:∀ {xs ys:List ByteArray},xs.Pairwise ltP->ys.Pairwise ltP->(∀ x,x ∈ xs ↔ x ∈ ys)->xs=ys
 | [],[],_,_,_=>rfl
 | [],y :: ys,_,_,h=>absurd ((h y).2 (by simp)) (by simp)
 | x :: xs,[],_,_,h=>absurd ((h x).1 (by simp)) (by simp)
 | x :: xs,y :: ys,h1,h2,h=>by
  rw [List.pairwise_cons] at h1 h2
  have e:x=y:=by
   rcases List.mem_cons.1 ((h x).1 (by simp)) with e|hx
   ·exact e
   ·rcases List.mem_cons.1 ((h y).2 (by simp)) with e|hy
    ·exact e.symm
    ·exact absurd (zeQ (h1.1 _ hy) (h2.1 _ hx)) (zgM _)
  subst e
  congr 1
  refine uniqS h1.2 h2.2 fun z=>?_
  constructor
  ·intro hz
   rcases List.mem_cons.1 ((h z).1 (by simp [hz])) with e|h'
   ·subst e;exact absurd (h1.1 _ hz) (zgM _)
   ·exact h'
  ·intro hz
   rcases List.mem_cons.1 ((h z).2 (by simp [hz])) with e|h'
   ·subst e;exact absurd (h2.1 _ hz) (zgM _)
   ·exact h'
theorem zc2 {α : Type} (p : α->Bool):∀ (l:List α),∀ t ∈ l.takeWhile p,p t=true
 | []=>by simp
 | a :: l=>by
  intro t ht
  rw [List.takeWhile_cons] at ht
  split at ht
  ·rename_i ha
   rcases List.mem_cons.1 ht with e|h
   ·rw [e];exact ha
   ·exact zc2 p l t h
  ·simp at ht
theorem zd5 {α : Type} (p : α->Bool):∀ (l:List α) (d : α),(l.dropWhile p).head?=some d->p d=false
 | []=>by simp
 | a :: l=>by
  intro d hd
  rw [List.dropWhile_cons] at hd
  split at hd
  ·exact zd5 p l d hd
  ·rename_i ha
   simp only [List.head?_cons,Option.some.injEq] at hd
   subst hd
   simpa using ha
theorem ziZ (xs:List ByteArray) (y:ByteArray):∃ A D,xs=A++D/\(∀ t ∈ A,ltS t y=true)/\(∀ d,D.head?=some d->ltS d y=false)/\zb3 xs y=if D.head?=some y then xs else A++y :: D:=by
 refine ⟨xs.takeWhile (ltS · y),xs.dropWhile (ltS · y),List.takeWhile_append_dropWhile.symm,zc2 _ xs,zd5 _ xs,?_⟩
 have e:xs=xs.takeWhile (ltS · y)++xs.dropWhile (ltS · y):=List.takeWhile_append_dropWhile.symm
 have e1:xs.take (zaH xs y)=xs.takeWhile (ltS · y):=by
  unfold zaH
  conv=>lhs;rw [e]
  rw [List.take_left' (by rw [<- e])]
 have e2:xs.drop (zaH xs y)=xs.dropWhile (ltS · y):=by
  unfold zaH
  conv=>lhs;rw [e]
  rw [List.drop_left' (by rw [<- e])]
 have e3:xs[zaH xs y]?=(xs.dropWhile (ltS · y)).head?:=by rw [<- e2,List.head?_drop]
 unfold zb3
 rw [e1,e2,e3]
theorem zbi (xs:List ByteArray) (y x:ByteArray):x ∈ zb3 xs y ↔ x ∈ xs ∨ x=y:=by
 obtain ⟨A,D,e,_,_,hp⟩:=ziZ xs y
 rw [hp]
 split
 ·rename_i h
  constructor
  ·exact Or.inl
  ·rintro (h'|rfl)
   ·exact h'
   ·rw [e];exact List.mem_append_right _ (List.mem_of_head? h)
 ·rw [e]
  simp only [List.mem_append,List.mem_cons]
  constructor
  ·rintro (h|h|h)
   ·exact .inl (.inl h)
   ·exact .inr h
   ·exact .inl (.inr h)
  ·rintro ((h|h)|h)
   ·exact .inl h
   ·exact .inr (.inr h)
   ·exact .inr (.inl h)
theorem zgF (xs:List ByteArray) (y:ByteArray) (h:xs.Pairwise ltP):(zb3 xs y).Pairwise ltP:=by
 obtain ⟨A,D,e,hA,hD,hp⟩:=ziZ xs y
 rw [hp]
 split
 ·exact h
 ·rename_i hne
  rw [e,List.pairwise_append] at h
  obtain ⟨h1,h2,h3⟩:=h
  refine List.pairwise_append.2 ⟨h1,List.pairwise_cons.2 ⟨?_,h2⟩,?_⟩
  ·cases D with
   | nil=>simp
   | cons d D =>
    have hd:ltP y d:=zl4 (fun hh=>by have:=hD d rfl;rw [(zjX d y).2 hh] at this;cases this) (fun e=>hne (by rw [e];rfl))
    intro z hz
    rcases List.mem_cons.1 hz with rfl|hz
    ·exact hd
    ·exact zeQ hd ((List.pairwise_cons.1 h2).1 _ hz)
  ·intro t ht z hz
   rcases List.mem_cons.1 hz with rfl|hz
   ·exact (zjX _ _).1 (hA t ht)
   ·exact h3 t ht z hz
open Mp
open Classical
noncomputable def zcg (D:List ByteArray) (k:ByteArray):List ByteArray:=if k ∈ D then D else k :: D
theorem zau {D:List ByteArray} {k x:ByteArray}:x ∈ zcg D k ↔ x ∈ D ∨ x=k:=by
 unfold zcg
 split
 ·rename_i h
  constructor
  ·exact .inl
  ·rintro (h'|rfl)
   ·exact h'
   ·exact h
 ·rw [List.mem_cons]
  exact Or.comm
theorem zf8 {D:List ByteArray} {k:ByteArray} (h:k ∈ D):zcg D k=D:=if_pos h
theorem zcv (D:List ByteArray) (k:ByteArray):(zcg D k).length<=D.length+1:=by
 unfold zcg
 split
 ·omega
 ·rw [List.length_cons];omega
theorem zfp (D:List ByteArray) (k:ByteArray):D.length<=(zcg D k).length:=by
 unfold zcg
 split
 ·omega
 ·rw [List.length_cons];omega
theorem zj0 {D:List ByteArray} (h:D.Nodup) (k:ByteArray):(zcg D k).Nodup:=by
 unfold zcg
 split
 ·exact h
 ·rename_i hk
  exact List.nodup_cons.2 ⟨hk,h⟩
noncomputable def Mp.news {α : Type}:Mp α->MachD->List ByteArray->List ByteArray
 | ret _,_,D=>D
 | look k f,m,D=>Mp.news (f (zbm k m.cells)) (m.look k) (zcg D k)
 | lay k v n,m,D=>Mp.news n (m.lay k v) (zcg D k)
 | under p f,m,D=>Mp.news (f (zK p m.cells)) (m.under p) (zcg D (p++star))
theorem zcA {α β : Type} (x:Mp α) (f : α->Mp β) (m:MachD) (D:List ByteArray):(x >>= f).news m D=(f (x.run m).1).news (x.run m).2 (x.news m D):=by
 show (Mp.bind x f).news m D = _
 induction x generalizing m D with
 | ret a=>rfl
 | look k g ih=>exact ih _ _ _
 | lay k v n ih=>exact ih _ _
 | under p g ih=>exact ih _ _ _
theorem zfB {α : Type} (x:Mp α) (m:MachD) (D:List ByteArray):D.length<=(x.news m D).length:=by
 induction x generalizing m D with
 | ret a=>exact Nat.le_refl _
 | look k g ih=>exact Nat.le_trans (zfp D k) (ih _ _ _)
 | lay k v n ih=>exact Nat.le_trans (zfp D k) (ih _ _)
 | under p g ih=>exact Nat.le_trans (zfp D _) (ih _ _ _)
theorem zcn {α : Type} (x:Mp α) (m:MachD) (D:List ByteArray):∀ k ∈ D,k ∈ x.news m D:=by
 induction x generalizing m D with
 | ret a=>exact fun _ h=>h
 | look k g ih=>exact fun y h=>ih _ _ _ y (zau.2 (.inl h))
 | lay k v n ih=>exact fun y h=>ih _ _ y (zau.2 (.inl h))
 | under p g ih=>exact fun y h=>ih _ _ _ y (zau.2 (.inl h))
def zhS (k:ByteArray):Prop:=k.size ≠ 0/\k.size<=1048700
structure Inv (L:Nat) (D:List ByteArray) (m:MachD):Prop where
 nd:D.Nodup
 cn:∀ c ∈ m.cells,c.key.size ≠ 0->c.key ∈ D
 rn:∀ k ∈ m.rd,k ∈ D
 wn:∀ k ∈ m.wr,k ∈ D
 rk:∀ k ∈ m.rd,zhS k
 wk:∀ k ∈ m.wr,zhS k
 rs:m.rd.Pairwise ltP
 ws:m.wr.Pairwise ltP
 cz:∀ c ∈ m.cells,c.key.size<=1048576/\c.val.size<=1048576
 cl:∃ E:List ByteArray,E.Nodup/\(∀ k ∈ E,k ∈ D)/\(m.cells.filter fun c=>decide (c.key ∉ E)).length<=L/\((m.cells.filter fun c=>decide (c.key ∈ E)).map (·.key)).Nodup
theorem zec:∀ {A D:List ByteArray},A.Nodup->(∀ k ∈ A,k ∈ D)->A.length<=D.length
 | [],_,_,_=>Nat.zero_le _
 | a :: A,D,ha,h=>by
  obtain ⟨s,t,rfl⟩:=List.append_of_mem (h a List.mem_cons_self)
  have hn:=List.nodup_cons.1 ha
  have ih:=zec (D:=s++t) hn.2 fun k hk=>by
   have:=h k (List.mem_cons_of_mem _ hk)
   simp only [List.mem_append,List.mem_cons] at this ⊢
   rcases this with h1|h1|h1
   ·exact .inl h1
   ·subst h1;exact absurd hk hn.1
   ·exact .inr h1
  simp only [List.length_append,List.length_cons] at ih ⊢
  omega
theorem zdE {l:List ByteArray} (h:l.Pairwise ltP):l.Nodup:=h.imp fun {a b} hab e=>by subst e;exact zgM _ hab
theorem zlH {α : Type} (p : α->Bool) (l:List α):l.length=(l.filter fun x=>!p x).length+(l.filter p).length:=by
 induction l with
 | nil=>rfl
 | cons a l ih =>
  cases h:p a<;>simp [h] at ih ⊢<;>omega
theorem Inv.clen {L:Nat} {D:List ByteArray} {m:MachD} (h:Inv L D m):m.cells.length<=L+D.length:=by
 obtain ⟨E,hE,hED,h1,h2⟩:=h.cl
 have l2:((m.cells.filter fun c=>decide (c.key ∈ E)).map (·.key)).length<=E.length:=zec h2 fun k hk=>by
  obtain ⟨c,hc,rfl⟩:=List.mem_map.1 hk
  have:=(List.mem_filter.1 hc).2
  simpa using this
 have l3:=zec hE hED
 have l4:=zlH (fun c:CellD=>decide (c.key ∈ E)) m.cells
 have e:(m.cells.filter fun c=>!decide (c.key ∈ E))=m.cells.filter fun c=>decide (c.key ∉ E):=by
  congr 1
  funext c
  simp
 rw [e] at l4
 rw [List.length_map] at l2
 omega
theorem Inv.small {L:Nat} {D:List ByteArray} {m:MachD} (h:Inv L D m) (hb:L+D.length<=549755813888):Small m:=by
 have l0:=h.clen
 have r1:=zec (zdE h.rs) h.rn
 have w1:=zec (zdE h.ws) h.wn
 refine ⟨by omega,by omega,by omega,h.cz,fun k hk=>?_,fun k hk=>?_,fun k hk=>(h.rk k hk).1,fun k hk=>(h.wk k hk).1⟩
 ·have:=(h.rk k hk).2;omega
 ·have:=(h.wk k hk).2;omega
theorem Inv.more {L:Nat} {D:List ByteArray} {m:MachD} (h:Inv L D m) (k:ByteArray):Inv L (zcg D k) m:=by
 obtain ⟨E,hE,hED,h1,h2⟩:=h.cl
 exact ⟨zj0 h.nd k,fun c hc hn=>zau.2 (.inl (h.cn c hc hn)),fun x hx=>zau.2 (.inl (h.rn x hx)),fun x hx=>zau.2 (.inl (h.wn x hx)),h.rk,h.wk,h.rs,h.ws,h.cz,E,hE,fun x hx=>zau.2 (.inl (hED x hx)),h1,h2⟩
theorem Inv.read {L:Nat} {D:List ByteArray} {m:MachD} (h:Inv L D m) {k:ByteArray} (hk:zhS k):Inv L (zcg D k) { m with rd:=zb3 m.rd k }:=by
 have h':=h.more k
 refine ⟨h'.nd,h'.cn,fun x hx=>?_,h'.wn,fun x hx=>?_,h'.wk,zgF _ _ h.rs,h.ws,h.cz,h'.cl⟩
 ·rcases (zbi _ _ _).1 hx with hx|rfl
  ·exact h'.rn x hx
  ·exact zau.2 (.inr rfl)
 ·rcases (zbi _ _ _).1 hx with hx|rfl
  ·exact h.rk x hx
  ·exact hk
theorem zcT (k:ByteArray) (c:CellD):z6 k c=true ↔ c.key=k:=by
 unfold z6
 rw [ByteArray.toList_eq,ByteArray.toList_eq,beq_iff_eq]
 constructor
 ·intro h
  exact ByteArray.ext (Array.toList_inj.1 h)
 ·rintro h;rw [h]
theorem insC_has {k v:ByteArray} {s:List CellD} {c:CellD}:c ∈ zfN k v s ↔ c ∈ s ∨ c=⟨k,v⟩:=by
 unfold zfN
 have e:=List.takeWhile_append_dropWhile (p:=fun c=>!zaa k c) (l:=s)
 constructor
 ·intro h
  rcases List.mem_append.1 h with h|h
  ·exact .inl ((List.takeWhile_sublist _).mem h)
  ·rcases List.mem_cons.1 h with h|h
   ·exact .inr h
   ·exact .inl ((List.dropWhile_sublist _).mem h)
 ·rintro (h|rfl)
  ·rw [<- e] at h
   rcases List.mem_append.1 h with h|h
   ·exact List.mem_append.2 (.inl h)
   ·exact List.mem_append.2 (.inr (List.mem_cons_of_mem _ h))
  ·exact List.mem_append.2 (.inr List.mem_cons_self)
theorem zjh (k v:ByteArray) (s:List CellD):(zfN k v s).Perm (⟨k,v⟩ :: s):=by
 unfold zfN
 have e:=List.takeWhile_append_dropWhile (p:=fun c=>!zaa k c) (l:=s)
 conv=>rhs;rw [<- e]
 exact List.perm_middle
theorem Inv.write {L:Nat} {D:List ByteArray} {m:MachD} (h:Inv L D m) {k:ByteArray} (hk:zhS k) (v:ByteArray):Inv L (zcg D k) (m.lay k v):=by
 have h':=h.more k
 have hw:∀ x ∈ zb3 m.wr k,x ∈ zcg D k:=fun x hx=>by
  rcases (zbi _ _ _).1 hx with hx|rfl
  ·exact h'.wn x hx
  ·exact zau.2 (.inr rfl)
 have hwk:∀ x ∈ zb3 m.wr k,zhS x:=fun x hx=>by
  rcases (zbi _ _ _).1 hx with hx|rfl
  ·exact h.wk x hx
  ·exact hk
 by_cases hr:zbc k=false ∨ 60<v.size
 ·have e:zbM k v m.cells=m.cells:=if_pos hr
  exact ⟨h'.nd,by show ∀ c ∈ zbM k v m.cells,_;rw [e];exact h'.cn,h'.rn,hw,h.rk,hwk,h.rs,zgF _ _ h.ws,by show ∀ c ∈ zbM k v m.cells,_;rw [e];exact h.cz,by show ∃ E:List ByteArray,E.Nodup/\(∀ x ∈ E,x ∈ zcg D k)/\((zbM k v m.cells).filter fun c=>decide (c.key ∉ E)).length<=L/\(((zbM k v m.cells).filter fun c=>decide (c.key ∈ E)).map (·.key)).Nodup;rw [e];exact h'.cl⟩
 have hsub:∀ c ∈ zbM k v m.cells,c ∈ m.cells ∨ c=⟨k,v⟩:=fun c hc=>by
  unfold zbM at hc
  rw [if_neg hr] at hc
  split at hc
  ·exact .inl (List.mem_filter.1 hc).1
  ·rcases insC_has.1 hc with hc|hc
   ·exact .inl (List.mem_filter.1 hc).1
   ·exact .inr hc
 have hkz:k.size<=40:=by
  rcases Classical.em (zbc k=true) with ho|ho
  ·unfold zbc inB at ho
   simp at ho
   omega
  ·exact absurd (by simpa using ho) (fun hh=>hr (.inl hh))
 refine ⟨h'.nd,fun c hc hn=>?_,h'.rn,hw,h.rk,hwk,h.rs,zgF _ _ h.ws,fun c hc=>?_,?_⟩
 ·rcases hsub c hc with hc|rfl
  ·exact h'.cn c hc hn
  ·exact zau.2 (.inr rfl)
 ·rcases hsub c hc with hc|rfl
  ·exact h.cz c hc
  ·exact ⟨by show k.size<=_;omega,by show v.size<=_;omega⟩
 ·obtain ⟨E,hE,hED,h1,h2⟩:=h.cl
  have hEk:∀ x ∈ zcg E k,x ∈ zcg D k:=fun x hx=>by
   rcases zau.1 hx with hx|rfl
   ·exact zau.2 (.inl (hED x hx))
   ·exact zau.2 (.inr rfl)
  have out_sub:(((zB k m.cells).filter fun c=>decide (c.key ∉ zcg E k))).length<=L:=by
   refine Nat.le_trans ?_ h1
   rw [<- List.countP_eq_length_filter,<- List.countP_eq_length_filter]
   refine Nat.le_trans (List.Sublist.countP_le (List.filter_sublist (p:=fun c=>!z6 k c) (l:=m.cells))) ?_
   refine List.countP_mono_left fun c _ hc=>?_
   simp only [decide_eq_true_eq] at hc ⊢
   exact fun hh=>hc (zau.2 (.inl hh))
  have in_eq:(zB k m.cells).filter (fun c=>decide (c.key ∈ zcg E k))=(zB k m.cells).filter (fun c=>decide (c.key ∈ E)):=by
   refine List.filter_congr fun c hc=>?_
   have hne:c.key ≠ k:=fun e=>by
    have:=(List.mem_filter.1 hc).2
    rw [(zcT k c).2 e] at this
    cases this
   rw [decide_eq_decide,zau]
   exact ⟨fun hh=>hh.resolve_right hne,.inl⟩
  have in_nd:(((zB k m.cells).filter (fun c=>decide (c.key ∈ zcg E k))).map (·.key)).Nodup:=by
   rw [in_eq]
   refine List.Nodup.sublist (List.Sublist.map _ ?_) h2
   exact List.Sublist.filter _ List.filter_sublist
  refine ⟨zcg E k,zj0 hE k,hEk,?_,?_⟩
  ·show ((zbM k v m.cells).filter fun c=>decide (c.key ∉ zcg E k)).length<=L
   unfold zbM
   rw [if_neg hr]
   split
   ·exact out_sub
   ·have hp:=(zjh k v (zB k m.cells)).filter (fun c=>decide (c.key ∉ zcg E k))
    rw [hp.length_eq,List.filter_cons,if_neg (by simp [zau])]
    exact out_sub
  ·show (((zbM k v m.cells).filter fun c=>decide (c.key ∈ zcg E k)).map (·.key)).Nodup
   unfold zbM
   rw [if_neg hr]
   split
   ·exact in_nd
   ·have hp:=((zjh k v (zB k m.cells)).filter (fun c=>decide (c.key ∈ zcg E k))).map (·.key)
    rw [List.Perm.nodup_iff hp,List.filter_cons,if_pos (by simp [zau]),List.map_cons,List.nodup_cons]
    refine ⟨fun hh=>?_,in_nd⟩
    obtain ⟨c,hc,e⟩:=List.mem_map.1 hh
    have:=(List.mem_filter.1 (List.mem_filter.1 hc).1).2
    rw [(zcT k c).2 e] at this
    cases this
def Mp.KeysB {α : Type}:Mp α->MachD->Prop
 | ret _,_=>True
 | look k f,m=>zhS k/\Mp.KeysB (f (zbm k m.cells)) (m.look k)
 | lay k v n,m=>zhS k/\Mp.KeysB n (m.lay k v)
 | under p f,m=>zhS (p++star)/\Mp.KeysB (f (zK p m.cells)) (m.under p)
theorem Mp.keysB_bind {α β : Type} (x:Mp α) (f : α->Mp β) (m:MachD):(x >>= f).KeysB m ↔ x.KeysB m/\(f (x.run m).1).KeysB (x.run m).2:=by
 show (Mp.bind x f).KeysB m ↔ _
 induction x generalizing m with
 | ret a=>exact ⟨fun h=>⟨trivial,h⟩,fun h=>h.2⟩
 | look k g ih=>exact ⟨fun h=>⟨⟨h.1,((ih _ _).1 h.2).1⟩,((ih _ _).1 h.2).2⟩,fun h=>⟨h.1.1,(ih _ _).2 ⟨h.1.2,h.2⟩⟩⟩
 | lay k v n ih=>exact ⟨fun h=>⟨⟨h.1,((ih _).1 h.2).1⟩,((ih _).1 h.2).2⟩,fun h=>⟨h.1.1,(ih _).2 ⟨h.1.2,h.2⟩⟩⟩
 | under p g ih=>exact ⟨fun h=>⟨⟨h.1,((ih _ _).1 h.2).1⟩,((ih _ _).1 h.2).2⟩,fun h=>⟨h.1.1,(ih _ _).2 ⟨h.1.2,h.2⟩⟩⟩
theorem zb9 {α : Type} (x:Mp α) (L:Nat) (m:MachD) (D:List ByteArray) (h:Inv L D m) (hk:x.KeysB m):Inv L (x.news m D) (x.run m).2:=by
 induction x generalizing m D with
 | ret a=>exact h
 | look k g ih=>exact ih _ _ _ (h.read hk.1) hk.2
 | lay k v n ih=>exact ih _ _ (h.write hk.1 v) hk.2
 | under p g ih=>exact ih _ _ _ (h.read hk.1) hk.2
theorem zg5 {α : Type} (x:Mp α) (L:Nat) (m:MachD) (D:List ByteArray) (h:Inv L D m) (hk:x.KeysB m) (hb:L+(x.news m D).length<=549755813888):x.fits m:=by
 induction x generalizing m D with
 | ret a=>exact h.small hb
 | look k g ih =>
  have h1:=zfB (g (zbm k m.cells)) (m.look k) (zcg D k)
  have h2:=zfp D k
  have h3:L+((g (zbm k m.cells)).news (m.look k) (zcg D k)).length<=549755813888:=hb
  exact ⟨h.small (by omega),by have:=hk.1.2;omega,ih _ _ _ (h.read hk.1) hk.2 hb⟩
 | lay k v n ih =>
  have h1:=zfB n (m.lay k v) (zcg D k)
  have h2:=zfp D k
  have h3:L+(n.news (m.lay k v) (zcg D k)).length<=549755813888:=hb
  exact ⟨h.small (by omega),by have:=hk.1.2;omega,ih _ _ (h.write hk.1 v) hk.2 hb⟩
 | under p g ih =>
  have h1:=zfB (g (zK p m.cells)) (m.under p) (zcg D (p++star))
  have h2:=zfp D (p++star)
  have h3:L+((g (zK p m.cells)).news (m.under p) (zcg D (p++star))).length<=549755813888:=hb
  exact ⟨h.small (by omega),by have:=hk.1.2;rw [ByteArray.size_append] at this;omega,ih _ _ _ (h.read hk.1) hk.2 hb⟩
open Mp
open Classical
def zil (k:ByteArray):Option UInt8:=k.data.toList.head?
theorem ne_proc {k:ByteArray} {b:UInt8} (h:zil k=some b) (hb:b ≠ 99):k ≠ K.cProc:=by
 rintro rfl
 exact hb (Option.some.inj h).symm
theorem zeY {x y:ByteArray} {b:UInt8} (h:zil x=some b):zil (x++y)=some b:=by
 unfold zil at *
 rw [ByteArray.data_append,Array.toList_append,List.head?_append,h]
 rfl
theorem zdN {k:ByteArray} {b:UInt8} (h:zil k=some b):k.size ≠ 0:=by
 intro e
 have:k.data=#[]:=Array.eq_empty_of_size_eq_zero e
 unfold zil at h
 rw [this] at h
 cases h
theorem zb8 {h t:ByteArray} {n:Int} {b:UInt8} (hb:zil h=some b):zil (zO h n t)=some b:=zeY (zeY hb)
theorem zbu (h t:ByteArray) (n:Int) (hn : -9223372036854775808<=n/\n<=9223372036854775807):(zO h n t).size<=h.size+21+t.size:=by
 unfold zO
 rw [ByteArray.size_append,ByteArray.size_append,zN]
 have:=Lib.itoa_length_le n hn.1 hn.2
 omega
theorem zlo {p k:ByteArray} {b:UInt8} (hb:zil p=some b) (h:zaj k p=true):zil k=some b:=by
 unfold zaj at h
 rw [Bool.and_eq_true,decide_eq_true_eq,ByteArray.toList_eq,ByteArray.toList_eq,beq_iff_eq,ByteArray.data_extract,Array.toList_extract] at h
 unfold zil at *
 rw [<- h.2] at hb
 change ((k.data.toList.drop 0).take (p.size - 0)).head?=some b at hb
 rw [List.drop_zero,List.head?_take] at hb
 split at hb
 ·cases hb
 ·exact hb
def KeyW (k:ByteArray):Prop:=zhS k/\k ≠ K.cProc
theorem KeyW.of {k:ByteArray} {b:UInt8} (h:zil k=some b) (hb:b ≠ 99) (hz:k.size<=1048700):KeyW k:=⟨⟨zdN h,hz⟩,ne_proc h hb⟩
theorem zc5 {h t:ByteArray} {n:Int} {b:UInt8} (hb:zil h=some b) (hc:b ≠ 99) (hn : -9223372036854775808<=n/\n<=9223372036854775807) (hz:h.size+t.size<=1000):KeyW (zO h n t):=KeyW.of (zb8 hb) hc (by have:=zbu h t n hn;omega)
theorem zeT {h t t2:ByteArray} {n k:Int} {b:UInt8} (hb:zil h=some b) (hc:b ≠ 99) (hn : -9223372036854775808<=n/\n<=9223372036854775807) (hk : -9223372036854775808<=k/\k<=9223372036854775807) (hz:h.size+t.size+t2.size<=1000):KeyW (zO (zO h n t) k t2):=KeyW.of (zb8 (zb8 hb)) hc (by have:=zbu h t n hn;have:=zbu (zO h n t) t2 k hk;omega)
def Mp.KeysW {α : Type}:Mp α->MachD->Prop
 | ret _,_=>True
 | look k f,m=>zhS k/\Mp.KeysW (f (zbm k m.cells)) (m.look k)
 | lay k v n,m=>KeyW k/\Mp.KeysW n (m.lay k v)
 | under p f,m=>zhS (p++star)/\Mp.KeysW (f (zK p m.cells)) (m.under p)
theorem Mp.KeysW.b {α : Type} {x:Mp α} {m:MachD} (h:x.KeysW m):x.KeysB m:=by
 induction x generalizing m with
 | ret a=>trivial
 | look k g ih=>exact ⟨h.1,ih _ h.2⟩
 | lay k v n ih=>exact ⟨h.1.1,ih h.2⟩
 | under p g ih=>exact ⟨h.1,ih _ h.2⟩
theorem Mp.keysW_bind {α β : Type} (x:Mp α) (f : α->Mp β) (m:MachD):(x >>= f).KeysW m ↔ x.KeysW m/\(f (x.run m).1).KeysW (x.run m).2:=by
 show (Mp.bind x f).KeysW m ↔ _
 induction x generalizing m with
 | ret a=>exact ⟨fun h=>⟨trivial,h⟩,fun h=>h.2⟩
 | look k g ih=>exact ⟨fun h=>⟨⟨h.1,((ih _ _).1 h.2).1⟩,((ih _ _).1 h.2).2⟩,fun h=>⟨h.1.1,(ih _ _).2 ⟨h.1.2,h.2⟩⟩⟩
 | lay k v n ih=>exact ⟨fun h=>⟨⟨h.1,((ih _).1 h.2).1⟩,((ih _).1 h.2).2⟩,fun h=>⟨h.1.1,(ih _).2 ⟨h.1.2,h.2⟩⟩⟩
 | under p g ih=>exact ⟨fun h=>⟨⟨h.1,((ih _ _).1 h.2).1⟩,((ih _ _).1 h.2).2⟩,fun h=>⟨h.1.1,(ih _ _).2 ⟨h.1.2,h.2⟩⟩⟩
def At {α : Type} (L:Nat) (p:Mp α) (m:MachD) (D:List ByteArray) (c:Nat) (S : α->MachD->List ByteArray->Prop):Prop :=
 Inv L D m->p.KeysW m/\(p.news m D).length<=D.length+c/\S (p.run m).1 (p.run m).2 (p.news m D)
section
variable {α β : Type} {L:Nat} {m:MachD} {D:List ByteArray}
theorem At.bind {x:Mp α} {f : α->Mp β} {c d:Nat} {S : α->MachD->List ByteArray->Prop} {T : β->MachD->List ByteArray->Prop} (h:At L x m D c S)
  (k:∀ a m' D',S a m' D'->Inv L D' m'->(∀ y ∈ D,y ∈ D')->At L (f a) m' D' d T):At L (x >>= f) m D (c+d) T:=by
 intro I
 obtain ⟨h1,h2,h3⟩:=h I
 have I2:=zb9 x L m D I h1.b
 obtain ⟨k1,k2,k3⟩:=k _ _ _ h3 I2 (zcn x m D) I2
 refine ⟨(Mp.keysW_bind x f m).2 ⟨h1,k1⟩,?_,?_⟩
 ·rw [zcA];omega
 ·rw [zcA,Mp.run_bind];exact k3
theorem At.le {x:Mp α} {c d:Nat} {S : α->MachD->List ByteArray->Prop} (h:At L x m D c S) (hc:c<=d):At L x m D d S:=fun I=>by
 obtain ⟨h1,h2,h3⟩:=h I
 exact ⟨h1,by omega,h3⟩
theorem At.mono {x:Mp α} {c:Nat} {S T : α->MachD->List ByteArray->Prop} (h:At L x m D c S) (hS:∀ a m' D',Inv L D' m'->S a m' D'->T a m' D'):At L x m D c T:=fun I=>by
 obtain ⟨h1,h2,h3⟩:=h I
 exact ⟨h1,h2,hS _ _ _ (zb9 x L m D I h1.b) h3⟩
theorem At.ret {a : α} {S : α->MachD->List ByteArray->Prop} (h:S a m D):At L (pure a:Mp α) m D 0 S:=fun _=>⟨trivial,Nat.le_refl _,h⟩
theorem At.ite {p:Prop} [Decidable p] {x y:Mp α} {c:Nat} {S : α->MachD->List ByteArray->Prop} (h1:p->At L x m D c S) (h2:¬ p->At L y m D c S):At L (if p then x else y) m D c S:=by
 by_cases h:p
 ·rw [if_pos h];exact h1 h
 ·rw [if_neg h];exact h2 h
theorem zmB {k:ByteArray} (hk:zhS k):At L (K.look k) m D 1 (fun _ _ _=>True):=fun I=>⟨⟨hk,trivial⟩,zcv D k,trivial⟩
theorem ziu {k:ByteArray} (hk:zhS k) (h:k ∈ D):At L (K.look k) m D 0 (fun _ m' D'=>D'=D/\m'.cells=m.cells):=fun I=>⟨⟨hk,trivial⟩,by show (zcg D k).length<=_;rw [zf8 h];omega,zf8 h,rfl⟩
theorem zd7 {k v:ByteArray} (hk:KeyW k):At L (K.lay k v) m D 1 (fun _ _ _=>True):=fun I=>⟨⟨hk,trivial⟩,zcv D k,trivial⟩
theorem zfA {k v:ByteArray} (hk:KeyW k) (h:k ∈ D):At L (K.lay k v) m D 0 (fun _ _ D'=>D'=D):=fun I=>⟨⟨hk,trivial⟩,by show (zcg D k).length<=_;rw [zf8 h];omega,zf8 h⟩
theorem ze3 {p:ByteArray} {b:UInt8} (hb:zil p=some b) (hz:p.size<=1000):At L (K.under p) m D 1 (fun ks m' D'=>ks.length<=L+D.length/\∀ k ∈ ks,k ∈ D'/\k.size<=1048576/\zil k=some b):=by
 intro I
 refine ⟨⟨⟨zdN (zeY hb),by rw [ByteArray.size_append];have:star.size=1:=rfl;omega⟩,trivial⟩,zcv D _,?_,?_⟩
 ·show (zK p m.cells).length<=_
  unfold zK
  rw [List.length_map]
  exact Nat.le_trans (List.length_filter_le _ _) (I.clen)
 ·intro k hk
  obtain ⟨c,hc,rfl⟩:=List.mem_map.1 (show k ∈ zK p m.cells from hk)
  have h1:=List.mem_filter.1 hc
  have hf:zil c.key=some b:=zlo hb h1.2
  exact ⟨zau.2 (.inl (I.cn c h1.1 (zdN hf))),(I.cz c h1.1).1,hf⟩
theorem zgg {f : α->Mp Unit}:∀ (l:List α) (m:MachD),(∀ x ∈ l,∀ m,At L (f x) m D 0 (fun _ _ D'=>D'=D))->At L (Mp.each f l) m D 0 (fun _ _ D'=>D'=D)
 | [],m,_=>At.ret rfl
 | x :: xs,m,h=>by
  show At L (f x >>= fun _=>Mp.each f xs) m D 0 _
  refine At.bind (d:=0) (h x List.mem_cons_self m) fun a m' D' hD _ _=>?_
  rw [hD]
  exact zgg xs m' (fun y hy=>h y (List.mem_cons_of_mem _ hy))
theorem zkM {f : α->Mp Unit} {P : α->List ByteArray->Prop} (hP:∀ x D D',P x D->(∀ y ∈ D,y ∈ D')->P x D') (hf:∀ x m D,P x D->At L (f x) m D 1 (fun _ _ _=>True)):∀ (l:List α) (m:MachD) (D:List ByteArray),(∀ x ∈ l,P x D)->At L (Mp.each f l) m D l.length (fun _ _ _=>True)
 | [],m,D,_=>At.ret trivial
 | x :: xs,m,D,h=>by
  show At L (f x >>= fun _=>Mp.each f xs) m D (xs.length+1) _
  rw [Nat.add_comm]
  exact At.bind (hf x m D (h x List.mem_cons_self)) fun a m' D' _ _ hs=>zkM hP hf xs m' D' (fun y hy=>hP y D D' (h y (List.mem_cons_of_mem _ hy)) hs)
theorem zgf {f : β->α->Mp β} {T : β->Prop}:∀ (l:List α) (b : β) (m:MachD),T b->(∀ x ∈ l,∀ b m,T b->At L (f b x) m D 0 (fun b _ D'=>D'=D/\T b))->At L (Mp.fold f b l) m D 0 (fun b _ D'=>D'=D/\T b)
 | [],b,m,hT,_=>At.ret ⟨rfl,hT⟩
 | x :: xs,b,m,hT,h=>by
  show At L (f b x >>= fun b=>Mp.fold f b xs) m D 0 _
  refine At.bind (d:=0) (h x List.mem_cons_self b m hT) fun a m' D' hD _ _=>?_
  rw [hD.1]
  exact zgf xs a m' hD.2 (fun y hy=>h y (List.mem_cons_of_mem _ hy))
end
open Mp
open Classical
def zby (n:Int):Prop:=-9223372036854775808<=n/\n<=9223372036854775807
def gkOf (a:Nat):List ByteArray:=[K.sizeKey a,K.procKey a K.tS,K.signalKey a K.tT,K.signalKey a K.tH]++((List.range 131).map (fun p:Nat=>K.blockKey a p)++(List.range 1001).map (fun q:Nat=>zO (K.signalKey a K.tQ) q ⟨#[]⟩))
def gk:List ByteArray:=(List.range 1001).flatMap gkOf
theorem flat_len {α β : Type} (f : α->List β) (c:Nat) (h:∀ a,(f a).length=c):∀ l:List α,(l.flatMap f).length=l.length*c
 | []=>by simp
 | a :: l=>by rw [List.flatMap_cons,List.length_append,h,flat_len f c h l,List.length_cons,Nat.succ_mul];omega
theorem gk_len:gk.length=1001*1136:=by
 unfold gk
 rw [flat_len gkOf 1136 (fun a=>by simp [gkOf]),List.length_range]
theorem zhH {a:Int} (h0 : 0<=a) (h1:a<=1000) {k:ByteArray} (h:k ∈ gkOf a.toNat):k ∈ gk:=List.mem_flatMap.2 ⟨a.toNat,List.mem_range.2 (by omega),h⟩
theorem zfv {a:Int} (h0 : 0<=a) (h1:a<=999):K.sizeKey a ∈ gk:=zhH h0 (by omega) (by
 have e:((a.toNat:Nat):Int)=a:=Int.toNat_of_nonneg h0
 unfold gkOf;rw [e];simp)
theorem gk_state {a:Int} (h0 : 0<=a) (h1:a<=999):K.procKey a K.tS ∈ gk:=zhH h0 (by omega) (by
 have e:((a.toNat:Nat):Int)=a:=Int.toNat_of_nonneg h0
 unfold gkOf;rw [e];simp)
theorem zmk {a:Int} (h0 : 0<=a) (h1:a<=999):K.signalKey a K.tT ∈ gk:=zhH h0 (by omega) (by
 have e:((a.toNat:Nat):Int)=a:=Int.toNat_of_nonneg h0
 unfold gkOf;rw [e];simp)
theorem gk_sigH {a:Int} (h0 : 0<=a) (h1:a<=999):K.signalKey a K.tH ∈ gk:=zhH h0 (by omega) (by
 have e:((a.toNat:Nat):Int)=a:=Int.toNat_of_nonneg h0
 unfold gkOf;rw [e];simp)
theorem zgc {a p:Int} (h0 : 0<=a) (h1:a<=999) (p0 : 0<=p) (p1:p<=130):K.blockKey a p ∈ gk:=zhH h0 (by omega) (by
 have e:((a.toNat:Nat):Int)=a:=Int.toNat_of_nonneg h0
 have e2:((p.toNat:Nat):Int)=p:=Int.toNat_of_nonneg p0
 unfold gkOf
 rw [e]
 refine List.mem_append.2 (.inr (List.mem_append.2 (.inl (List.mem_map.2 ⟨p.toNat,List.mem_range.2 (by omega),by rw [e2]⟩))))
 )
theorem gk_sigQ {a p:Int} (h0 : 0<=a) (h1:a<=999) (p0 : 0<=p) (p1:p<=1000):zO (K.signalKey a K.tQ) p ⟨#[]⟩ ∈ gk:=zhH h0 (by omega) (by
 have e:((a.toNat:Nat):Int)=a:=Int.toNat_of_nonneg h0
 have e2:((p.toNat:Nat):Int)=p:=Int.toNat_of_nonneg p0
 unfold gkOf
 rw [e]
 refine List.mem_append.2 (.inr (List.mem_append.2 (.inr (List.mem_map.2 ⟨p.toNat,List.mem_range.2 (by omega),by rw [e2]⟩))))
 )
section
variable {L:Nat} {m:MachD} {D:List ByteArray}
theorem zeN (v:ByteArray) : 0<=za0 v/\za0 v<=999:=by
 unfold za0
 split
 ·rename_i h;omega
 ·omega
theorem zbg {k:ByteArray} (hk:zhS k):At L (K.num k) m D 1 (fun a _ _=>0<=a/\a<=999) :=
 At.bind (d:=0) (zmB hk) fun a m' D' _ _ _=>At.ret (zeN a)
theorem zdx {k:ByteArray} (hk:zhS k) (h:k ∈ D):At L (K.num k) m D 0 (fun a _ D'=>D'=D/\0<=a/\a<=999) :=
 At.bind (d:=0) (ziu hk h) fun a m' D' hD _ _=>At.ret ⟨hD.1,zeN a⟩
theorem zak {k:ByteArray} {n:Int} (hk:KeyW k):At L (K.setNum k n) m D 1 (fun _ _ _=>True):=zd7 hk
theorem zcX {k:ByteArray} {n:Int} (hk:KeyW k) (h:k ∈ D):At L (K.setNum k n) m D 0 (fun _ _ D'=>D'=D):=zfA hk h
theorem zmE {k:ByteArray} (hk:KeyW k):At L (K.bump k) m D 2 (fun a _ _=>0<=a/\a<=999):=by
 unfold K.bump
 refine At.bind (d:=1) (zbg hk.1) fun n m' D' hn _ _=>At.ite (fun h=>?_) fun h=>?_
 ·exact (At.ret (by omega)).le (by omega)
 ·exact At.bind (d:=0) (zak hk) fun _ _ _ _ _ _=>At.ret (by omega)
theorem zbV {name:ByteArray} (h:K.nameOk name=true):KeyW (K.nN++name):=by
 have hz:name.size<=12:=by
  unfold K.nameOk inB at h
  simp at h
  omega
 refine KeyW.of (b:=110) (zeY rfl) (by decide) ?_
 rw [ByteArray.size_append]
 have:K.nN.size=2:=rfl
 omega
theorem zje:KeyW K.cFile:=⟨⟨by decide,by decide⟩,by decide⟩
theorem zjc:KeyW K.cPipe:=⟨⟨by decide,by decide⟩,by decide⟩
theorem zhK:KeyW K.cClock:=⟨⟨by decide,by decide⟩,by decide⟩
theorem zma:KeyW K.dN:=⟨⟨by decide,by decide⟩,by decide⟩
theorem zcS {id:Int} (h:zby id):KeyW (zO K.nI id K.tL):=zc5 (b:=105) rfl (by decide) h (by decide)
theorem zcR {id:Int} (h:zby id):KeyW (K.sizeKey id):=zc5 (b:=105) rfl (by decide) h (by decide)
theorem zdF {id p:Int} (h:zby id) (hp:zby p):KeyW (K.blockKey id p):=zeT (b:=105) rfl (by decide) h hp (by decide)
theorem zbt {id:Int} {t:ByteArray} (h:zby id) (ht:t.size<=10):KeyW (K.pipeKey id t):=zc5 (b:=112) rfl (by decide) h (by have:K.nP.size=2:=rfl;omega)
theorem zfr {id p:Int} (h:zby id) (hp:zby p):KeyW (zO (K.pipeKey id K.tQ) p ⟨#[]⟩):=zeT (b:=112) rfl (by decide) h hp (by decide)
theorem zbs {id:Int} {t:ByteArray} (h:zby id) (ht:t.size<=10):KeyW (K.procKey id t):=zc5 (b:=114) rfl (by decide) h (by have:K.nR.size=2:=rfl;omega)
theorem zbD {id:Int} {t:ByteArray} (h:zby id) (ht:t.size<=10):KeyW (K.signalKey id t):=zc5 (b:=103) rfl (by decide) h (by have:K.nG.size=2:=rfl;omega)
theorem zeS {id p:Int} (h:zby id) (hp:zby p):KeyW (zO (K.signalKey id K.tQ) p ⟨#[]⟩):=zeT (b:=103) rfl (by decide) h hp (by decide)
theorem zjd {id p:Int} (h:zby id) (hp:zby p):KeyW (zO (K.pagesKey id) p ⟨#[]⟩):=zeT (b:=109) rfl (by decide) h hp (by decide)
theorem zcl (name:ByteArray):At L (K.fileOf name) m D 1 (fun a _ _=>0<=a/\a<=999):=by
 unfold K.fileOf
 refine At.ite (fun h=>zbg (zbV h).1) fun _=>(At.ret (by omega)).le (by omega)
theorem zkf {p:ByteArray} {b:UInt8} (hb:zil p=some b) (hc:b ≠ 99) (hz:p.size<=1000):At L (K.wipe p) m D 1 (fun _ _ _=>True):=by
 unfold K.wipe
 refine At.bind (d:=0) (ze3 hb hz) fun ks m' D' hk I hs=>?_
 refine (zgg ks m' fun k hk' m=>zfA (KeyW.of (hk.2 k hk').2.2 hc (by have:=(hk.2 k hk').2.1;omega)) (hk.2 k hk').1).mono fun _ _ _ _ _=>trivial
theorem zkk (name:ByteArray):At L (K.makeName name) m D 6 (fun a _ _=>True):=by
 unfold K.makeName
 refine At.ite (fun hn=>?_) fun _=>(At.ret trivial).le (by omega)
 refine At.bind (d:=5) (zcl name) fun id m' D' _ _ _=>At.ite (fun _=>(At.ret trivial).le (by omega)) fun _=>?_
 refine At.bind (d:=4) (zbg zje.1) fun n m' D' _ _ _=>At.ite (fun _=>(At.ret trivial).le (by omega)) fun _=>?_
 refine At.bind (d:=2) (zmE zje) fun id m' D' hid _ _=>?_
 refine At.bind (d:=1) (zak (zbV hn)) fun _ m' D' _ _ _=>?_
 exact At.bind (d:=0) (zak (zcS ⟨by omega,by omega⟩)) fun _ m' D' _ _ _=>At.ret trivial
theorem zkm (a b:ByteArray):At L (K.linkName a b) m D 6 (fun _ _ _=>True):=by
 unfold K.linkName
 refine At.ite (fun hn=>?_) fun _=>(At.ret trivial).le (by omega)
 refine At.bind (d:=5) (zcl a) fun id m' D' hid _ _=>At.ite (fun _=>(At.ret trivial).le (by omega)) fun _=>?_
 refine At.bind (d:=4) (zcl b) fun o m' D' _ _ _=>At.ite (fun _=>(At.ret trivial).le (by omega)) fun _=>?_
 refine At.bind (d:=3) (zbg (zcS ⟨by omega,by omega⟩).1) fun n m' D' _ _ _=>At.ite (fun _=>(At.ret trivial).le (by omega)) fun _=>?_
 refine At.bind (d:=2) (zak (zbV hn.2)) fun _ m' D' _ _ _=>?_
 exact At.bind (d:=1) (zak (zcS ⟨by omega,by omega⟩)) fun _ m' D' _ _ _=>(At.ret trivial).le (by omega)
theorem ze2 (name:ByteArray):At L (K.unlinkName name) m D 4 (fun _ _ _=>True):=by
 unfold K.unlinkName
 refine At.ite (fun hn=>?_) fun _=>(At.ret trivial).le (by omega)
 refine At.bind (d:=3) (zcl name) fun id m' D' hid _ _=>At.ite (fun _=>(At.ret trivial).le (by omega)) fun _=>?_
 refine At.bind (d:=2) (zd7 (zbV hn)) fun _ m' D' _ _ _=>?_
 refine At.bind (d:=1) (zbg (zcS ⟨by omega,by omega⟩).1) fun n m' D' _ _ _=>At.ite (fun _=>?_) fun _=>?_
 ·exact At.bind (d:=0) (zak (zcS ⟨by omega,by omega⟩)) fun _ m' D' _ _ _=>At.ret trivial
 ·refine At.bind (d:=0) (zkf (b:=105) (zb8 rfl) (by decide) ?_) fun _ m' D' _ _ _=>At.ret trivial
  have:=zbu K.nI ⟨#[47]⟩ id ⟨by omega,by omega⟩
  have h1:K.nI.size=2:=rfl
  have h2:(⟨#[47]⟩ : ByteArray).size=1:=rfl
  omega
theorem zit (a b:ByteArray):At L (K.renameName a b) m D 9 (fun _ _ _=>True):=by
 unfold K.renameName
 refine At.ite (fun hn=>?_) fun _=>(At.ret trivial).le (by omega)
 refine At.bind (d:=8) (zcl a) fun id m' D' hid _ _=>At.ite (fun _=>(At.ret trivial).le (by omega)) fun _=>?_
 refine At.bind (d:=7) (zcl b) fun o m' D' _ _ _=>At.ite (fun _=>(At.ret trivial).le (by omega)) fun _=>At.ite (fun _=>?_) fun _=>?_
 ·refine At.bind (d:=3) (ze2 b) fun _ m' D' _ _ _=>?_
  refine At.bind (d:=2) (zak (zbV hn.2)) fun _ m' D' _ _ _=>?_
  exact At.bind (d:=1) (zd7 (zbV hn.1)) fun _ m' D' _ _ _=>(At.ret trivial).le (by omega)
 ·refine At.bind (d:=6) (zak (zbV hn.2)) fun _ m' D' _ _ _=>?_
  exact At.bind (d:=5) (zd7 (zbV hn.1)) fun _ m' D' _ _ _=>(At.ret trivial).le (by omega)
theorem at_names:At L K.names m D 1 (fun _ _ _=>True):=by
 unfold K.names
 exact At.bind (d:=0) (ze3 (b:=110) rfl (by decide)) fun _ m' D' _ _ _=>At.ret trivial
end
end Go.Proofs.YtpnoehpmgflibaaGreatDoor
