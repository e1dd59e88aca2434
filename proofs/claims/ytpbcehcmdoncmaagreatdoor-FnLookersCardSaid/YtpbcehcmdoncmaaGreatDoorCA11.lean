/- Texts of this claim, merged: the walks and what they stand on. Each condition stands in its theorem. -/
import Derived.Lib.ItoaLen
import Derived.Sort.KeysCollected
import Derived.Sort.Walk0
import Derived.Test.YtpbcehcmdoncmaaGreatDoorCA5
set_option linter.unusedVariables false
set_option linter.unusedSimpArgs false
set_option maxRecDepth 100000
set_option maxHeartbeats 8000000
namespace Go.Proofs.YtpbcehcmdoncmaaGreatDoor
open Go.ChangeShapes Go.WideShapes Go.ChangeAt Go.RowKit
def ltP (a b:ByteArray):Prop:=a.data.toList<b.data.toList
theorem ziE (a b:ByteArray):ltS a b=true ↔ ltP a b:=by
 unfold ltS ltP
 rw [bytesLess_eq,ByteArray.toList_eq,ByteArray.toList_eq]
 exact decide_eq_true_iff
theorem zky (a:ByteArray):¬ ltP a a:=List.lt_irrefl _
theorem zh2 {a b c:ByteArray} (h:ltP a b) (h':ltP b c):ltP a c:=List.lt_trans h h'
theorem lt_or_eq (x y:List UInt8) (h:x<=y):x<y ∨ x=y:=by
 by_cases hl:x<y
 ·exact .inl hl
 ·exact .inr (List.le_antisymm h (List.not_lt.1 hl))
theorem zkx {a b:ByteArray} (h:¬ ltP a b) (hne:a ≠ b):ltP b a:=by
 unfold ltP at *
 rcases lt_or_eq _ _ (List.not_lt.1 h) with h|h
 ·exact h
 ·exact absurd (ByteArray.ext (Array.toList_inj.1 h)).symm hne
theorem zcy {α : Type} (p : α->Bool):∀ (l:List α),∀ t ∈ l.takeWhile p,p t=true
 | []=>by simp
 | a :: l=>by
  intro t ht
  rw [List.takeWhile_cons] at ht
  split at ht
  ·rename_i ha
   rcases List.mem_cons.1 ht with e|h
   ·rw [e];exact ha
   ·exact zcy p l t h
  ·simp at ht
theorem zdt {α : Type} (p : α->Bool):∀ (l:List α) (d : α),(l.dropWhile p).head?=some d->p d=false
 | []=>by simp
 | a :: l=>by
  intro d hd
  rw [List.dropWhile_cons] at hd
  split at hd
  ·exact zdt p l d hd
  ·rename_i ha
   simp only [List.head?_cons,Option.some.injEq] at hd
   subst hd
   simpa using ha
theorem zhV (xs:List ByteArray) (y:ByteArray):∃ A D,xs=A++D/\(∀ t ∈ A,ltS t y=true)/\(∀ d,D.head?=some d->ltS d y=false)/\zbF xs y=if D.head?=some y then xs else A++y :: D:=by
 refine ⟨xs.takeWhile (ltS · y),xs.dropWhile (ltS · y),List.takeWhile_append_dropWhile.symm,zcy _ xs,zdt _ xs,?_⟩
 have e:xs=xs.takeWhile (ltS · y)++xs.dropWhile (ltS · y):=List.takeWhile_append_dropWhile.symm
 have e1:xs.take (zaw xs y)=xs.takeWhile (ltS · y):=by
  unfold zaw
  conv=>lhs;rw [e]
  rw [List.take_left' (by rw [<- e])]
 have e2:xs.drop (zaw xs y)=xs.dropWhile (ltS · y):=by
  unfold zaw
  conv=>lhs;rw [e]
  rw [List.drop_left' (by rw [<- e])]
 have e3:xs[zaw xs y]?=(xs.dropWhile (ltS · y)).head?:=by rw [<- e2,List.head?_drop]
 unfold zbF
 rw [e1,e2,e3]
theorem zfl (xs:List ByteArray) (y x:ByteArray):x ∈ zbF xs y ↔ x ∈ xs ∨ x=y:=by
 obtain ⟨A,D,e,_,_,hp⟩:=zhV xs y
 rw [hp]
 split
 ·rename_i h
  constructor
  ·exact Or.inl
  ·rintro (h'|rfl)
   ·exact h'
   ·rw [e];exact List.mem_append_right _ (List.mem_of_head? h)
 ·rw [e]
  simp only [List.mem_append,List.mem_cons]
  constructor
  ·rintro (h|h|h)
   ·exact .inl (.inl h)
   ·exact .inr h
   ·exact .inl (.inr h)
  ·rintro ((h|h)|h)
   ·exact .inl h
   ·exact .inr (.inr h)
   ·exact .inr (.inl h)
theorem zfR (xs:List ByteArray) (y:ByteArray) (h:xs.Pairwise ltP):(zbF xs y).Pairwise ltP:=by
 obtain ⟨A,D,e,hA,hD,hp⟩:=zhV xs y
 rw [hp]
 split
 ·exact h
 ·rename_i hne
  rw [e,List.pairwise_append] at h
  obtain ⟨h1,h2,h3⟩:=h
  refine List.pairwise_append.2 ⟨h1,List.pairwise_cons.2 ⟨?_,h2⟩,?_⟩
  ·cases D with
   | nil=>simp
   | cons d D =>
    have hd:ltP y d:=zkx (fun hh=>by have:=hD d rfl;rw [(ziE d y).2 hh] at this;cases this) (fun e=>hne (by rw [e];rfl))
    intro z hz
    rcases List.mem_cons.1 hz with rfl|hz
    ·exact hd
    ·exact zh2 hd ((List.pairwise_cons.1 h2).1 _ hz)
  ·intro t ht z hz
   rcases List.mem_cons.1 hz with rfl|hz
   ·exact (ziE _ _).1 (hA t ht)
   ·exact h3 t ht z hz
open Mp
open Classical
noncomputable def zbQ (D:List ByteArray) (k:ByteArray):List ByteArray:=if k ∈ D then D else k :: D
theorem zak {D:List ByteArray} {k x:ByteArray}:x ∈ zbQ D k ↔ x ∈ D ∨ x=k:=by
 unfold zbQ
 split
 ·rename_i h
  constructor
  ·exact .inl
  ·rintro (h'|rfl)
   ·exact h'
   ·exact h
 ·rw [List.mem_cons]
  exact Or.comm
theorem zfm {D:List ByteArray} {k:ByteArray} (h:k ∈ D):zbQ D k=D:=if_pos h
theorem zcB (D:List ByteArray) (k:ByteArray):(zbQ D k).length<=D.length+1:=by
 unfold zbQ
 split
 ·omega
 ·rw [List.length_cons];omega
theorem zeE (D:List ByteArray) (k:ByteArray):D.length<=(zbQ D k).length:=by
 unfold zbQ
 split
 ·omega
 ·rw [List.length_cons];omega
theorem ziH {D:List ByteArray} (h:D.Nodup) (k:ByteArray):(zbQ D k).Nodup:=by
 unfold zbQ
 split
 ·exact h
 ·rename_i hk
  exact List.nodup_cons.2 ⟨hk,h⟩
noncomputable def Mp.news {α : Type}:Mp α->MachD->List ByteArray->List ByteArray
 | ret _,_,D=>D
 | look k f,m,D=>Mp.news (f (zdG k m.cells)) (m.look k) (zbQ D k)
 | lay k v n,m,D=>Mp.news n (m.lay k v) (zbQ D k)
 | under p f,m,D=>Mp.news (f (zZ p m.cells)) (m.under p) (zbQ D (p++zi9))
theorem zcc {α β : Type} (x:Mp α) (f : α->Mp β) (m:MachD) (D:List ByteArray):(x >>= f).news m D=(f (x.run m).1).news (x.run m).2 (x.news m D):=by
 show (Mp.bind x f).news m D = _
 induction x generalizing m D with
 | ret a=>rfl
 | look k g ih=>exact ih _ _ _
 | lay k v n ih=>exact ih _ _
 | under p g ih=>exact ih _ _ _
theorem zeQ {α : Type} (x:Mp α) (m:MachD) (D:List ByteArray):D.length<=(x.news m D).length:=by
 induction x generalizing m D with
 | ret a=>exact Nat.le_refl _
 | look k g ih=>exact Nat.le_trans (zeE D k) (ih _ _ _)
 | lay k v n ih=>exact Nat.le_trans (zeE D k) (ih _ _)
 | under p g ih=>exact Nat.le_trans (zeE D _) (ih _ _ _)
theorem zbY {α : Type} (x:Mp α) (m:MachD) (D:List ByteArray):∀ k ∈ D,k ∈ x.news m D:=by
 induction x generalizing m D with
 | ret a=>exact fun _ h=>h
 | look k g ih=>exact fun y h=>ih _ _ _ y (zak.2 (.inl h))
 | lay k v n ih=>exact fun y h=>ih _ _ y (zak.2 (.inl h))
 | under p g ih=>exact fun y h=>ih _ _ _ y (zak.2 (.inl h))
def zhz (k:ByteArray):Prop:=k.size ≠ 0/\k.size<=1048700
structure Inv (L:Nat) (D:List ByteArray) (m:MachD):Prop where
 nd:D.Nodup
 cn:∀ c ∈ m.cells,c.key.size ≠ 0->c.key ∈ D
 rn:∀ k ∈ m.rd,k ∈ D
 wn:∀ k ∈ m.wr,k ∈ D
 rk:∀ k ∈ m.rd,zhz k
 wk:∀ k ∈ m.wr,zhz k
 rs:m.rd.Pairwise ltP
 ws:m.wr.Pairwise ltP
 cz:∀ c ∈ m.cells,c.key.size<=1048576/\c.val.size<=1048576
 cl:∃ E:List ByteArray,E.Nodup/\(∀ k ∈ E,k ∈ D)/\(m.cells.filter fun c=>decide (c.key ∉ E)).length<=L/\((m.cells.filter fun c=>decide (c.key ∈ E)).map (·.key)).Nodup
theorem zdA:∀ {A D:List ByteArray},A.Nodup->(∀ k ∈ A,k ∈ D)->A.length<=D.length
 | [],_,_,_=>Nat.zero_le _
 | a :: A,D,ha,h=>by
  obtain ⟨s,t,rfl⟩:=List.append_of_mem (h a List.mem_cons_self)
  have hn:=List.nodup_cons.1 ha
  have ih:=zdA (D:=s++t) hn.2 fun k hk=>by
   have:=h k (List.mem_cons_of_mem _ hk)
   simp only [List.mem_append,List.mem_cons] at this ⊢
   rcases this with h1|h1|h1
   ·exact .inl h1
   ·subst h1;exact absurd hk hn.1
   ·exact .inr h1
  simp only [List.length_append,List.length_cons] at ih ⊢
  omega
theorem zc8 {l:List ByteArray} (h:l.Pairwise ltP):l.Nodup:=h.imp fun {a b} hab e=>by subst e;exact zky _ hab
theorem zkf {α : Type} (p : α->Bool) (l:List α):l.length=(l.filter fun x=>!p x).length+(l.filter p).length:=by
 induction l with
 | nil=>rfl
 | cons a l ih =>
  cases h:p a<;>simp [h] at ih ⊢<;>omega
theorem Inv.clen {L:Nat} {D:List ByteArray} {m:MachD} (h:Inv L D m):m.cells.length<=L+D.length:=by
 obtain ⟨E,hE,hED,h1,h2⟩:=h.cl
 have l2:((m.cells.filter fun c=>decide (c.key ∈ E)).map (·.key)).length<=E.length:=zdA h2 fun k hk=>by
  obtain ⟨c,hc,rfl⟩:=List.mem_map.1 hk
  have:=(List.mem_filter.1 hc).2
  simpa using this
 have l3:=zdA hE hED
 have l4:=zkf (fun c:CellD=>decide (c.key ∈ E)) m.cells
 have e:(m.cells.filter fun c=>!decide (c.key ∈ E))=m.cells.filter fun c=>decide (c.key ∉ E):=by
  congr 1
  funext c
  simp
 rw [e] at l4
 rw [List.length_map] at l2
 omega
theorem Inv.small {L:Nat} {D:List ByteArray} {m:MachD} (h:Inv L D m) (hb:L+D.length<=549755813888):Small m:=by
 have l0:=h.clen
 have r1:=zdA (zc8 h.rs) h.rn
 have w1:=zdA (zc8 h.ws) h.wn
 refine ⟨by omega,by omega,by omega,h.cz,fun k hk=>?_,fun k hk=>?_,fun k hk=>(h.rk k hk).1,fun k hk=>(h.wk k hk).1⟩
 ·have:=(h.rk k hk).2;omega
 ·have:=(h.wk k hk).2;omega
theorem Inv.more {L:Nat} {D:List ByteArray} {m:MachD} (h:Inv L D m) (k:ByteArray):Inv L (zbQ D k) m:=by
 obtain ⟨E,hE,hED,h1,h2⟩:=h.cl
 exact ⟨ziH h.nd k,fun c hc hn=>zak.2 (.inl (h.cn c hc hn)),fun x hx=>zak.2 (.inl (h.rn x hx)),fun x hx=>zak.2 (.inl (h.wn x hx)),h.rk,h.wk,h.rs,h.ws,h.cz,E,hE,fun x hx=>zak.2 (.inl (hED x hx)),h1,h2⟩
theorem Inv.read {L:Nat} {D:List ByteArray} {m:MachD} (h:Inv L D m) {k:ByteArray} (hk:zhz k):Inv L (zbQ D k) { m with rd:=zbF m.rd k }:=by
 have h':=h.more k
 refine ⟨h'.nd,h'.cn,fun x hx=>?_,h'.wn,fun x hx=>?_,h'.wk,zfR _ _ h.rs,h.ws,h.cz,h'.cl⟩
 ·rcases (zfl _ _ _).1 hx with hx|rfl
  ·exact h'.rn x hx
  ·exact zak.2 (.inr rfl)
 ·rcases (zfl _ _ _).1 hx with hx|rfl
  ·exact h.rk x hx
  ·exact hk
theorem zcq (k:ByteArray) (c:CellD):zU k c=true ↔ c.key=k:=by
 unfold zU
 rw [ByteArray.toList_eq,ByteArray.toList_eq,beq_iff_eq]
 constructor
 ·intro h
  exact ByteArray.ext (Array.toList_inj.1 h)
 ·rintro h;rw [h]
theorem insC_has {k v:ByteArray} {s:List CellD} {c:CellD}:c ∈ zff k v s ↔ c ∈ s ∨ c=⟨k,v⟩:=by
 unfold zff
 have e:=List.takeWhile_append_dropWhile (p:=fun c=>!zW k c) (l:=s)
 constructor
 ·intro h
  rcases List.mem_append.1 h with h|h
  ·exact .inl ((List.takeWhile_sublist _).mem h)
  ·rcases List.mem_cons.1 h with h|h
   ·exact .inr h
   ·exact .inl ((List.dropWhile_sublist _).mem h)
 ·rintro (h|rfl)
  ·rw [<- e] at h
   rcases List.mem_append.1 h with h|h
   ·exact List.mem_append.2 (.inl h)
   ·exact List.mem_append.2 (.inr (List.mem_cons_of_mem _ h))
  ·exact List.mem_append.2 (.inr List.mem_cons_self)
theorem zic (k v:ByteArray) (s:List CellD):(zff k v s).Perm (⟨k,v⟩ :: s):=by
 unfold zff
 have e:=List.takeWhile_append_dropWhile (p:=fun c=>!zW k c) (l:=s)
 conv=>rhs;rw [<- e]
 exact List.perm_middle
theorem Inv.write {L:Nat} {D:List ByteArray} {m:MachD} (h:Inv L D m) {k:ByteArray} (hk:zhz k) (v:ByteArray):Inv L (zbQ D k) (m.lay k v):=by
 have h':=h.more k
 have hw:∀ x ∈ zbF m.wr k,x ∈ zbQ D k:=fun x hx=>by
  rcases (zfl _ _ _).1 hx with hx|rfl
  ·exact h'.wn x hx
  ·exact zak.2 (.inr rfl)
 have hwk:∀ x ∈ zbF m.wr k,zhz x:=fun x hx=>by
  rcases (zfl _ _ _).1 hx with hx|rfl
  ·exact h.wk x hx
  ·exact hk
 by_cases hr:zbH k=false ∨ 60<v.size
 ·have e:zbG k v m.cells=m.cells:=if_pos hr
  exact ⟨h'.nd,by show ∀ c ∈ zbG k v m.cells,_;rw [e];exact h'.cn,h'.rn,hw,h.rk,hwk,h.rs,zfR _ _ h.ws,by show ∀ c ∈ zbG k v m.cells,_;rw [e];exact h.cz,by show ∃ E:List ByteArray,E.Nodup/\(∀ x ∈ E,x ∈ zbQ D k)/\((zbG k v m.cells).filter fun c=>decide (c.key ∉ E)).length<=L/\(((zbG k v m.cells).filter fun c=>decide (c.key ∈ E)).map (·.key)).Nodup;rw [e];exact h'.cl⟩
 have hsub:∀ c ∈ zbG k v m.cells,c ∈ m.cells ∨ c=⟨k,v⟩:=fun c hc=>by
  unfold zbG at hc
  rw [if_neg hr] at hc
  split at hc
  ·exact .inl (List.mem_filter.1 hc).1
  ·rcases insC_has.1 hc with hc|hc
   ·exact .inl (List.mem_filter.1 hc).1
   ·exact .inr hc
 have hkz:k.size<=40:=by
  rcases Classical.em (zbH k=true) with ho|ho
  ·unfold zbH inB at ho
   simp at ho
   omega
  ·exact absurd (by simpa using ho) (fun hh=>hr (.inl hh))
 refine ⟨h'.nd,fun c hc hn=>?_,h'.rn,hw,h.rk,hwk,h.rs,zfR _ _ h.ws,fun c hc=>?_,?_⟩
 ·rcases hsub c hc with hc|rfl
  ·exact h'.cn c hc hn
  ·exact zak.2 (.inr rfl)
 ·rcases hsub c hc with hc|rfl
  ·exact h.cz c hc
  ·exact ⟨by show k.size<=_;omega,by show v.size<=_;omega⟩
 ·obtain ⟨E,hE,hED,h1,h2⟩:=h.cl
  have hEk:∀ x ∈ zbQ E k,x ∈ zbQ D k:=fun x hx=>by
   rcases zak.1 hx with hx|rfl
   ·exact zak.2 (.inl (hED x hx))
   ·exact zak.2 (.inr rfl)
  have out_sub:(((zA k m.cells).filter fun c=>decide (c.key ∉ zbQ E k))).length<=L:=by
   refine Nat.le_trans ?_ h1
   rw [<- List.countP_eq_length_filter,<- List.countP_eq_length_filter]
   refine Nat.le_trans (List.Sublist.countP_le (List.filter_sublist (p:=fun c=>!zU k c) (l:=m.cells))) ?_
   refine List.countP_mono_left fun c _ hc=>?_
   simp only [decide_eq_true_eq] at hc ⊢
   exact fun hh=>hc (zak.2 (.inl hh))
  have in_eq:(zA k m.cells).filter (fun c=>decide (c.key ∈ zbQ E k))=(zA k m.cells).filter (fun c=>decide (c.key ∈ E)):=by
   refine List.filter_congr fun c hc=>?_
   have hne:c.key ≠ k:=fun e=>by
    have:=(List.mem_filter.1 hc).2
    rw [(zcq k c).2 e] at this
    cases this
   rw [decide_eq_decide,zak]
   exact ⟨fun hh=>hh.resolve_right hne,.inl⟩
  have in_nd:(((zA k m.cells).filter (fun c=>decide (c.key ∈ zbQ E k))).map (·.key)).Nodup:=by
   rw [in_eq]
   refine List.Nodup.sublist (List.Sublist.map _ ?_) h2
   exact List.Sublist.filter _ List.filter_sublist
  refine ⟨zbQ E k,ziH hE k,hEk,?_,?_⟩
  ·show ((zbG k v m.cells).filter fun c=>decide (c.key ∉ zbQ E k)).length<=L
   unfold zbG
   rw [if_neg hr]
   split
   ·exact out_sub
   ·have hp:=(zic k v (zA k m.cells)).filter (fun c=>decide (c.key ∉ zbQ E k))
    rw [hp.length_eq,List.filter_cons,if_neg (by simp [zak])]
    exact out_sub
  ·show (((zbG k v m.cells).filter fun c=>decide (c.key ∈ zbQ E k)).map (·.key)).Nodup
   unfold zbG
   rw [if_neg hr]
   split
   ·exact in_nd
   ·have hp:=((zic k v (zA k m.cells)).filter (fun c=>decide (c.key ∈ zbQ E k))).map (·.key)
    rw [List.Perm.nodup_iff hp,List.filter_cons,if_pos (by simp [zak]),List.map_cons,List.nodup_cons]
    refine ⟨fun hh=>?_,in_nd⟩
    obtain ⟨c,hc,e⟩:=List.mem_map.1 hh
    have:=(List.mem_filter.1 (List.mem_filter.1 hc).1).2
    rw [(zcq k c).2 e] at this
    cases this
def Mp.KeysB {α : Type}:Mp α->MachD->Prop
 | ret _,_=>True
 | look k f,m=>zhz k/\Mp.KeysB (f (zdG k m.cells)) (m.look k)
 | lay k v n,m=>zhz k/\Mp.KeysB n (m.lay k v)
 | under p f,m=>zhz (p++zi9)/\Mp.KeysB (f (zZ p m.cells)) (m.under p)
theorem Mp.keysB_bind {α β : Type} (x:Mp α) (f : α->Mp β) (m:MachD):(x >>= f).KeysB m ↔ x.KeysB m/\(f (x.run m).1).KeysB (x.run m).2:=by
 show (Mp.bind x f).KeysB m ↔ _
 induction x generalizing m with
 | ret a=>exact ⟨fun h=>⟨trivial,h⟩,fun h=>h.2⟩
 | look k g ih=>exact ⟨fun h=>⟨⟨h.1,((ih _ _).1 h.2).1⟩,((ih _ _).1 h.2).2⟩,fun h=>⟨h.1.1,(ih _ _).2 ⟨h.1.2,h.2⟩⟩⟩
 | lay k v n ih=>exact ⟨fun h=>⟨⟨h.1,((ih _).1 h.2).1⟩,((ih _).1 h.2).2⟩,fun h=>⟨h.1.1,(ih _).2 ⟨h.1.2,h.2⟩⟩⟩
 | under p g ih=>exact ⟨fun h=>⟨⟨h.1,((ih _ _).1 h.2).1⟩,((ih _ _).1 h.2).2⟩,fun h=>⟨h.1.1,(ih _ _).2 ⟨h.1.2,h.2⟩⟩⟩
theorem zbL {α : Type} (x:Mp α) (L:Nat) (m:MachD) (D:List ByteArray) (h:Inv L D m) (hk:x.KeysB m):Inv L (x.news m D) (x.run m).2:=by
 induction x generalizing m D with
 | ret a=>exact h
 | look k g ih=>exact ih _ _ _ (h.read hk.1) hk.2
 | lay k v n ih=>exact ih _ _ (h.write hk.1 v) hk.2
 | under p g ih=>exact ih _ _ _ (h.read hk.1) hk.2
theorem zgi {α : Type} (x:Mp α) (L:Nat) (m:MachD) (D:List ByteArray) (h:Inv L D m) (hk:x.KeysB m) (hb:L+(x.news m D).length<=549755813888):x.fits m:=by
 induction x generalizing m D with
 | ret a=>exact h.small hb
 | look k g ih =>
  have h1:=zeQ (g (zdG k m.cells)) (m.look k) (zbQ D k)
  have h2:=zeE D k
  have h3:L+((g (zdG k m.cells)).news (m.look k) (zbQ D k)).length<=549755813888:=hb
  exact ⟨h.small (by omega),by have:=hk.1.2;omega,ih _ _ _ (h.read hk.1) hk.2 hb⟩
 | lay k v n ih =>
  have h1:=zeQ n (m.lay k v) (zbQ D k)
  have h2:=zeE D k
  have h3:L+(n.news (m.lay k v) (zbQ D k)).length<=549755813888:=hb
  exact ⟨h.small (by omega),by have:=hk.1.2;omega,ih _ _ (h.write hk.1 v) hk.2 hb⟩
 | under p g ih =>
  have h1:=zeQ (g (zZ p m.cells)) (m.under p) (zbQ D (p++zi9))
  have h2:=zeE D (p++zi9)
  have h3:L+((g (zZ p m.cells)).news (m.under p) (zbQ D (p++zi9))).length<=549755813888:=hb
  exact ⟨h.small (by omega),by have:=hk.1.2;rw [ByteArray.size_append] at this;omega,ih _ _ _ (h.read hk.1) hk.2 hb⟩
open Mp
open Classical
def zhp (k:ByteArray):Option UInt8:=k.data.toList.head?
theorem ne_proc {k:ByteArray} {b:UInt8} (h:zhp k=some b) (hb:b ≠ 99):k ≠ K.cProc:=by
 rintro rfl
 exact hb (Option.some.inj h).symm
theorem zee {x y:ByteArray} {b:UInt8} (h:zhp x=some b):zhp (x++y)=some b:=by
 unfold zhp at *
 rw [ByteArray.data_append,Array.toList_append,List.head?_append,h]
 rfl
theorem zde {k:ByteArray} {b:UInt8} (h:zhp k=some b):k.size ≠ 0:=by
 intro e
 have:k.data=#[]:=Array.eq_empty_of_size_eq_zero e
 unfold zhp at h
 rw [this] at h
 cases h
theorem zbI {h t:ByteArray} {n:Int} {b:UInt8} (hb:zhp h=some b):zhp (zN h n t)=some b:=zee (zee hb)
theorem zbd (h t:ByteArray) (n:Int) (hn : -9223372036854775808<=n/\n<=9223372036854775807):(zN h n t).size<=h.size+21+t.size:=by
 unfold zN
 rw [ByteArray.size_append,ByteArray.size_append,zS]
 have:=Lib.itoa_length_le n hn.1 hn.2
 omega
theorem zjZ {p k:ByteArray} {b:UInt8} (hb:zhp p=some b) (h:zau k p=true):zhp k=some b:=by
 unfold zau at h
 rw [Bool.and_eq_true,decide_eq_true_eq,ByteArray.toList_eq,ByteArray.toList_eq,beq_iff_eq,ByteArray.data_extract,Array.toList_extract] at h
 unfold zhp at *
 rw [<- h.2] at hb
 change ((k.data.toList.drop 0).take (p.size - 0)).head?=some b at hb
 rw [List.drop_zero,List.head?_take] at hb
 split at hb
 ·cases hb
 ·exact hb
def KeyW (k:ByteArray):Prop:=zhz k/\k ≠ K.cProc
theorem KeyW.of {k:ByteArray} {b:UInt8} (h:zhp k=some b) (hb:b ≠ 99) (hz:k.size<=1048700):KeyW k:=⟨⟨zde h,hz⟩,ne_proc h hb⟩
theorem zcC {h t:ByteArray} {n:Int} {b:UInt8} (hb:zhp h=some b) (hc:b ≠ 99) (hn : -9223372036854775808<=n/\n<=9223372036854775807) (hz:h.size+t.size<=1000):KeyW (zN h n t):=KeyW.of (zbI hb) hc (by have:=zbd h t n hn;omega)
theorem zd9 {h t t2:ByteArray} {n k:Int} {b:UInt8} (hb:zhp h=some b) (hc:b ≠ 99) (hn : -9223372036854775808<=n/\n<=9223372036854775807) (hk : -9223372036854775808<=k/\k<=9223372036854775807) (hz:h.size+t.size+t2.size<=1000):KeyW (zN (zN h n t) k t2):=KeyW.of (zbI (zbI hb)) hc (by have:=zbd h t n hn;have:=zbd (zN h n t) t2 k hk;omega)
def Mp.KeysW {α : Type}:Mp α->MachD->Prop
 | ret _,_=>True
 | look k f,m=>zhz k/\Mp.KeysW (f (zdG k m.cells)) (m.look k)
 | lay k v n,m=>KeyW k/\Mp.KeysW n (m.lay k v)
 | under p f,m=>zhz (p++zi9)/\Mp.KeysW (f (zZ p m.cells)) (m.under p)
theorem Mp.KeysW.b {α : Type} {x:Mp α} {m:MachD} (h:x.KeysW m):x.KeysB m:=by
 induction x generalizing m with
 | ret a=>trivial
 | look k g ih=>exact ⟨h.1,ih _ h.2⟩
 | lay k v n ih=>exact ⟨h.1.1,ih h.2⟩
 | under p g ih=>exact ⟨h.1,ih _ h.2⟩
theorem Mp.keysW_bind {α β : Type} (x:Mp α) (f : α->Mp β) (m:MachD):(x >>= f).KeysW m ↔ x.KeysW m/\(f (x.run m).1).KeysW (x.run m).2:=by
 show (Mp.bind x f).KeysW m ↔ _
 induction x generalizing m with
 | ret a=>exact ⟨fun h=>⟨trivial,h⟩,fun h=>h.2⟩
 | look k g ih=>exact ⟨fun h=>⟨⟨h.1,((ih _ _).1 h.2).1⟩,((ih _ _).1 h.2).2⟩,fun h=>⟨h.1.1,(ih _ _).2 ⟨h.1.2,h.2⟩⟩⟩
 | lay k v n ih=>exact ⟨fun h=>⟨⟨h.1,((ih _).1 h.2).1⟩,((ih _).1 h.2).2⟩,fun h=>⟨h.1.1,(ih _).2 ⟨h.1.2,h.2⟩⟩⟩
 | under p g ih=>exact ⟨fun h=>⟨⟨h.1,((ih _ _).1 h.2).1⟩,((ih _ _).1 h.2).2⟩,fun h=>⟨h.1.1,(ih _ _).2 ⟨h.1.2,h.2⟩⟩⟩
def At {α : Type} (L:Nat) (p:Mp α) (m:MachD) (D:List ByteArray) (c:Nat) (S : α->MachD->List ByteArray->Prop):Prop :=
 Inv L D m->p.KeysW m/\(p.news m D).length<=D.length+c/\S (p.run m).1 (p.run m).2 (p.news m D)
section
variable {α β : Type} {L:Nat} {m:MachD} {D:List ByteArray}
theorem At.bind {x:Mp α} {f : α->Mp β} {c d:Nat} {S : α->MachD->List ByteArray->Prop} {T : β->MachD->List ByteArray->Prop} (h:At L x m D c S)
  (k:∀ a m' D',S a m' D'->Inv L D' m'->(∀ y ∈ D,y ∈ D')->At L (f a) m' D' d T):At L (x >>= f) m D (c+d) T:=by
 intro I
 obtain ⟨h1,h2,h3⟩:=h I
 have I2:=zbL x L m D I h1.b
 obtain ⟨k1,k2,k3⟩:=k _ _ _ h3 I2 (zbY x m D) I2
 refine ⟨(Mp.keysW_bind x f m).2 ⟨h1,k1⟩,?_,?_⟩
 ·rw [zcc];omega
 ·rw [zcc,Mp.run_bind];exact k3
theorem At.le {x:Mp α} {c d:Nat} {S : α->MachD->List ByteArray->Prop} (h:At L x m D c S) (hc:c<=d):At L x m D d S:=fun I=>by
 obtain ⟨h1,h2,h3⟩:=h I
 exact ⟨h1,by omega,h3⟩
theorem At.mono {x:Mp α} {c:Nat} {S T : α->MachD->List ByteArray->Prop} (h:At L x m D c S) (hS:∀ a m' D',Inv L D' m'->S a m' D'->T a m' D'):At L x m D c T:=fun I=>by
 obtain ⟨h1,h2,h3⟩:=h I
 exact ⟨h1,h2,hS _ _ _ (zbL x L m D I h1.b) h3⟩
theorem At.ret {a : α} {S : α->MachD->List ByteArray->Prop} (h:S a m D):At L (pure a:Mp α) m D 0 S:=fun _=>⟨trivial,Nat.le_refl _,h⟩
theorem At.ite {p:Prop} [Decidable p] {x y:Mp α} {c:Nat} {S : α->MachD->List ByteArray->Prop} (h1:p->At L x m D c S) (h2:¬ p->At L y m D c S):At L (if p then x else y) m D c S:=by
 by_cases h:p
 ·rw [if_pos h];exact h1 h
 ·rw [if_neg h];exact h2 h
theorem zk7 {k:ByteArray} (hk:zhz k):At L (K.look k) m D 1 (fun _ _ _=>True):=fun I=>⟨⟨hk,trivial⟩,zcB D k,trivial⟩
theorem zhx {k:ByteArray} (hk:zhz k) (h:k ∈ D):At L (K.look k) m D 0 (fun _ m' D'=>D'=D/\m'.cells=m.cells):=fun I=>⟨⟨hk,trivial⟩,by show (zbQ D k).length<=_;rw [zfm h];omega,zfm h,rfl⟩
theorem zdv {k v:ByteArray} (hk:KeyW k):At L (K.lay k v) m D 1 (fun _ _ _=>True):=fun I=>⟨⟨hk,trivial⟩,zcB D k,trivial⟩
theorem zeO {k v:ByteArray} (hk:KeyW k) (h:k ∈ D):At L (K.lay k v) m D 0 (fun _ _ D'=>D'=D):=fun I=>⟨⟨hk,trivial⟩,by show (zbQ D k).length<=_;rw [zfm h];omega,zfm h⟩
theorem zej {p:ByteArray} {b:UInt8} (hb:zhp p=some b) (hz:p.size<=1000):At L (K.under p) m D 1 (fun ks m' D'=>ks.length<=L+D.length/\∀ k ∈ ks,k ∈ D'/\k.size<=1048576/\zhp k=some b):=by
 intro I
 refine ⟨⟨⟨zde (zee hb),by rw [ByteArray.size_append];have:zi9.size=1:=rfl;omega⟩,trivial⟩,zcB D _,?_,?_⟩
 ·show (zZ p m.cells).length<=_
  unfold zZ
  rw [List.length_map]
  exact Nat.le_trans (List.length_filter_le _ _) (I.clen)
 ·intro k hk
  obtain ⟨c,hc,rfl⟩:=List.mem_map.1 (show k ∈ zZ p m.cells from hk)
  have h1:=List.mem_filter.1 hc
  have hf:zhp c.key=some b:=zjZ hb h1.2
  exact ⟨zak.2 (.inl (I.cn c h1.1 (zde hf))),(I.cz c h1.1).1,hf⟩
theorem zfs {f : α->Mp Unit}:∀ (l:List α) (m:MachD),(∀ x ∈ l,∀ m,At L (f x) m D 0 (fun _ _ D'=>D'=D))->At L (Mp.each f l) m D 0 (fun _ _ D'=>D'=D)
 | [],m,_=>At.ret rfl
 | x :: xs,m,h=>by
  show At L (f x >>= fun _=>Mp.each f xs) m D 0 _
  refine At.bind (d:=0) (h x List.mem_cons_self m) fun a m' D' hD _ _=>?_
  rw [hD]
  exact zfs xs m' (fun y hy=>h y (List.mem_cons_of_mem _ hy))
theorem zjq {f : α->Mp Unit} {P : α->List ByteArray->Prop} (hP:∀ x D D',P x D->(∀ y ∈ D,y ∈ D')->P x D') (hf:∀ x m D,P x D->At L (f x) m D 1 (fun _ _ _=>True)):∀ (l:List α) (m:MachD) (D:List ByteArray),(∀ x ∈ l,P x D)->At L (Mp.each f l) m D l.length (fun _ _ _=>True)
 | [],m,D,_=>At.ret trivial
 | x :: xs,m,D,h=>by
  show At L (f x >>= fun _=>Mp.each f xs) m D (xs.length+1) _
  rw [Nat.add_comm]
  exact At.bind (hf x m D (h x List.mem_cons_self)) fun a m' D' _ _ hs=>zjq hP hf xs m' D' (fun y hy=>hP y D D' (h y (List.mem_cons_of_mem _ hy)) hs)
theorem zfr {f : β->α->Mp β} {T : β->Prop}:∀ (l:List α) (b : β) (m:MachD),T b->(∀ x ∈ l,∀ b m,T b->At L (f b x) m D 0 (fun b _ D'=>D'=D/\T b))->At L (Mp.fold f b l) m D 0 (fun b _ D'=>D'=D/\T b)
 | [],b,m,hT,_=>At.ret ⟨rfl,hT⟩
 | x :: xs,b,m,hT,h=>by
  show At L (f b x >>= fun b=>Mp.fold f b xs) m D 0 _
  refine At.bind (d:=0) (h x List.mem_cons_self b m hT) fun a m' D' hD _ _=>?_
  rw [hD.1]
  exact zfr xs a m' hD.2 (fun y hy=>h y (List.mem_cons_of_mem _ hy))
end
open Mp
open Classical
def zbo (n:Int):Prop:=-9223372036854775808<=n/\n<=9223372036854775807
def gkOf (a:Nat):List ByteArray:=[K.sizeKey a,K.procKey a K.tS,K.signalKey a K.tT,K.signalKey a K.tH]++((List.range 131).map (fun p:Nat=>K.blockKey a p)++(List.range 1001).map (fun q:Nat=>zN (K.signalKey a K.tQ) q ⟨#[]⟩))
def gk:List ByteArray:=(List.range 1001).flatMap gkOf
theorem flat_len {α β : Type} (f : α->List β) (c:Nat) (h:∀ a,(f a).length=c):∀ l:List α,(l.flatMap f).length=l.length*c
 | []=>by simp
 | a :: l=>by rw [List.flatMap_cons,List.length_append,h,flat_len f c h l,List.length_cons,Nat.succ_mul];omega
theorem gk_len:gk.length=1001*1136:=by
 unfold gk
 rw [flat_len gkOf 1136 (fun a=>by simp [gkOf]),List.length_range]
theorem zgP {a:Int} (h0 : 0<=a) (h1:a<=1000) {k:ByteArray} (h:k ∈ gkOf a.toNat):k ∈ gk:=List.mem_flatMap.2 ⟨a.toNat,List.mem_range.2 (by omega),h⟩
theorem zeK {a:Int} (h0 : 0<=a) (h1:a<=999):K.sizeKey a ∈ gk:=zgP h0 (by omega) (by
 have e:((a.toNat:Nat):Int)=a:=Int.toNat_of_nonneg h0
 unfold gkOf;rw [e];simp)
theorem gk_state {a:Int} (h0 : 0<=a) (h1:a<=999):K.procKey a K.tS ∈ gk:=zgP h0 (by omega) (by
 have e:((a.toNat:Nat):Int)=a:=Int.toNat_of_nonneg h0
 unfold gkOf;rw [e];simp)
theorem zkQ {a:Int} (h0 : 0<=a) (h1:a<=999):K.signalKey a K.tT ∈ gk:=zgP h0 (by omega) (by
 have e:((a.toNat:Nat):Int)=a:=Int.toNat_of_nonneg h0
 unfold gkOf;rw [e];simp)
theorem gk_sigH {a:Int} (h0 : 0<=a) (h1:a<=999):K.signalKey a K.tH ∈ gk:=zgP h0 (by omega) (by
 have e:((a.toNat:Nat):Int)=a:=Int.toNat_of_nonneg h0
 unfold gkOf;rw [e];simp)
theorem zfo {a p:Int} (h0 : 0<=a) (h1:a<=999) (p0 : 0<=p) (p1:p<=130):K.blockKey a p ∈ gk:=zgP h0 (by omega) (by
 have e:((a.toNat:Nat):Int)=a:=Int.toNat_of_nonneg h0
 have e2:((p.toNat:Nat):Int)=p:=Int.toNat_of_nonneg p0
 unfold gkOf
 rw [e]
 refine List.mem_append.2 (.inr (List.mem_append.2 (.inl (List.mem_map.2 ⟨p.toNat,List.mem_range.2 (by omega),by rw [e2]⟩))))
 )
theorem gk_sigQ {a p:Int} (h0 : 0<=a) (h1:a<=999) (p0 : 0<=p) (p1:p<=1000):zN (K.signalKey a K.tQ) p ⟨#[]⟩ ∈ gk:=zgP h0 (by omega) (by
 have e:((a.toNat:Nat):Int)=a:=Int.toNat_of_nonneg h0
 have e2:((p.toNat:Nat):Int)=p:=Int.toNat_of_nonneg p0
 unfold gkOf
 rw [e]
 refine List.mem_append.2 (.inr (List.mem_append.2 (.inr (List.mem_map.2 ⟨p.toNat,List.mem_range.2 (by omega),by rw [e2]⟩))))
 )
section
variable {L:Nat} {m:MachD} {D:List ByteArray}
theorem zd5 (v:ByteArray) : 0<=zaN v/\zaN v<=999:=by
 unfold zaN
 split
 ·rename_i h;omega
 ·omega
theorem za3 {k:ByteArray} (hk:zhz k):At L (K.num k) m D 1 (fun a _ _=>0<=a/\a<=999) :=
 At.bind (d:=0) (zk7 hk) fun a m' D' _ _ _=>At.ret (zd5 a)
theorem zc2 {k:ByteArray} (hk:zhz k) (h:k ∈ D):At L (K.num k) m D 0 (fun a _ D'=>D'=D/\0<=a/\a<=999) :=
 At.bind (d:=0) (zhx hk h) fun a m' D' hD _ _=>At.ret ⟨hD.1,zd5 a⟩
theorem zac {k:ByteArray} {n:Int} (hk:KeyW k):At L (K.setNum k n) m D 1 (fun _ _ _=>True):=zdv hk
theorem zcu {k:ByteArray} {n:Int} (hk:KeyW k) (h:k ∈ D):At L (K.setNum k n) m D 0 (fun _ _ D'=>D'=D):=zeO hk h
theorem zla {k:ByteArray} (hk:KeyW k):At L (K.bump k) m D 2 (fun a _ _=>0<=a/\a<=999):=by
 unfold K.bump
 refine At.bind (d:=1) (za3 hk.1) fun n m' D' hn _ _=>At.ite (fun h=>?_) fun h=>?_
 ·exact (At.ret (by omega)).le (by omega)
 ·exact At.bind (d:=0) (zac hk) fun _ _ _ _ _ _=>At.ret (by omega)
theorem zby {name:ByteArray} (h:K.nameOk name=true):KeyW (K.nN++name):=by
 have hz:name.size<=12:=by
  unfold K.nameOk inB at h
  simp at h
  omega
 refine KeyW.of (b:=110) (zee rfl) (by decide) ?_
 rw [ByteArray.size_append]
 have:K.nN.size=2:=rfl
 omega
theorem zh9:KeyW K.cFile:=⟨⟨by decide,by decide⟩,by decide⟩
theorem zh7:KeyW K.cPipe:=⟨⟨by decide,by decide⟩,by decide⟩
theorem zgT:KeyW K.cClock:=⟨⟨by decide,by decide⟩,by decide⟩
theorem zkE:KeyW K.dN:=⟨⟨by decide,by decide⟩,by decide⟩
theorem zcp {id:Int} (h:zbo id):KeyW (zN K.nI id K.tL):=zcC (b:=105) rfl (by decide) h (by decide)
theorem zco {id:Int} (h:zbo id):KeyW (K.sizeKey id):=zcC (b:=105) rfl (by decide) h (by decide)
theorem zc9 {id p:Int} (h:zbo id) (hp:zbo p):KeyW (K.blockKey id p):=zd9 (b:=105) rfl (by decide) h hp (by decide)
theorem zbc {id:Int} {t:ByteArray} (h:zbo id) (ht:t.size<=10):KeyW (K.pipeKey id t):=zcC (b:=112) rfl (by decide) h (by have:K.nP.size=2:=rfl;omega)
theorem zeF {id p:Int} (h:zbo id) (hp:zbo p):KeyW (zN (K.pipeKey id K.tQ) p ⟨#[]⟩):=zd9 (b:=112) rfl (by decide) h hp (by decide)
theorem zbb {id:Int} {t:ByteArray} (h:zbo id) (ht:t.size<=10):KeyW (K.procKey id t):=zcC (b:=114) rfl (by decide) h (by have:K.nR.size=2:=rfl;omega)
theorem zbk {id:Int} {t:ByteArray} (h:zbo id) (ht:t.size<=10):KeyW (K.signalKey id t):=zcC (b:=103) rfl (by decide) h (by have:K.nG.size=2:=rfl;omega)
theorem zd8 {id p:Int} (h:zbo id) (hp:zbo p):KeyW (zN (K.signalKey id K.tQ) p ⟨#[]⟩):=zd9 (b:=103) rfl (by decide) h hp (by decide)
theorem zh8 {id p:Int} (h:zbo id) (hp:zbo p):KeyW (zN (K.pagesKey id) p ⟨#[]⟩):=zd9 (b:=109) rfl (by decide) h hp (by decide)
theorem zbV (name:ByteArray):At L (K.fileOf name) m D 1 (fun a _ _=>0<=a/\a<=999):=by
 unfold K.fileOf
 refine At.ite (fun h=>za3 (zby h).1) fun _=>(At.ret (by omega)).le (by omega)
theorem ziV {p:ByteArray} {b:UInt8} (hb:zhp p=some b) (hc:b ≠ 99) (hz:p.size<=1000):At L (K.wipe p) m D 1 (fun _ _ _=>True):=by
 unfold K.wipe
 refine At.bind (d:=0) (zej hb hz) fun ks m' D' hk I hs=>?_
 refine (zfs ks m' fun k hk' m=>zeO (KeyW.of (hk.2 k hk').2.2 hc (by have:=(hk.2 k hk').2.1;omega)) (hk.2 k hk').1).mono fun _ _ _ _ _=>trivial
theorem zi0 (name:ByteArray):At L (K.makeName name) m D 6 (fun a _ _=>True):=by
 unfold K.makeName
 refine At.ite (fun hn=>?_) fun _=>(At.ret trivial).le (by omega)
 refine At.bind (d:=5) (zbV name) fun id m' D' _ _ _=>At.ite (fun _=>(At.ret trivial).le (by omega)) fun _=>?_
 refine At.bind (d:=4) (za3 zh9.1) fun n m' D' _ _ _=>At.ite (fun _=>(At.ret trivial).le (by omega)) fun _=>?_
 refine At.bind (d:=2) (zla zh9) fun id m' D' hid _ _=>?_
 refine At.bind (d:=1) (zac (zby hn)) fun _ m' D' _ _ _=>?_
 exact At.bind (d:=0) (zac (zcp ⟨by omega,by omega⟩)) fun _ m' D' _ _ _=>At.ret trivial
theorem zi2 (a b:ByteArray):At L (K.linkName a b) m D 6 (fun _ _ _=>True):=by
 unfold K.linkName
 refine At.ite (fun hn=>?_) fun _=>(At.ret trivial).le (by omega)
 refine At.bind (d:=5) (zbV a) fun id m' D' hid _ _=>At.ite (fun _=>(At.ret trivial).le (by omega)) fun _=>?_
 refine At.bind (d:=4) (zbV b) fun o m' D' _ _ _=>At.ite (fun _=>(At.ret trivial).le (by omega)) fun _=>?_
 refine At.bind (d:=3) (za3 (zcp ⟨by omega,by omega⟩).1) fun n m' D' _ _ _=>At.ite (fun _=>(At.ret trivial).le (by omega)) fun _=>?_
 refine At.bind (d:=2) (zac (zby hn.2)) fun _ m' D' _ _ _=>?_
 exact At.bind (d:=1) (zac (zcp ⟨by omega,by omega⟩)) fun _ m' D' _ _ _=>(At.ret trivial).le (by omega)
theorem zei (name:ByteArray):At L (K.unlinkName name) m D 4 (fun _ _ _=>True):=by
 unfold K.unlinkName
 refine At.ite (fun hn=>?_) fun _=>(At.ret trivial).le (by omega)
 refine At.bind (d:=3) (zbV name) fun id m' D' hid _ _=>At.ite (fun _=>(At.ret trivial).le (by omega)) fun _=>?_
 refine At.bind (d:=2) (zdv (zby hn)) fun _ m' D' _ _ _=>?_
 refine At.bind (d:=1) (za3 (zcp ⟨by omega,by omega⟩).1) fun n m' D' _ _ _=>At.ite (fun _=>?_) fun _=>?_
 ·exact At.bind (d:=0) (zac (zcp ⟨by omega,by omega⟩)) fun _ m' D' _ _ _=>At.ret trivial
 ·refine At.bind (d:=0) (ziV (b:=105) (zbI rfl) (by decide) ?_) fun _ m' D' _ _ _=>At.ret trivial
  have:=zbd K.nI ⟨#[47]⟩ id ⟨by omega,by omega⟩
  have h1:K.nI.size=2:=rfl
  have h2:(⟨#[47]⟩ : ByteArray).size=1:=rfl
  omega
theorem zhw (a b:ByteArray):At L (K.renameName a b) m D 9 (fun _ _ _=>True):=by
 unfold K.renameName
 refine At.ite (fun hn=>?_) fun _=>(At.ret trivial).le (by omega)
 refine At.bind (d:=8) (zbV a) fun id m' D' hid _ _=>At.ite (fun _=>(At.ret trivial).le (by omega)) fun _=>?_
 refine At.bind (d:=7) (zbV b) fun o m' D' _ _ _=>At.ite (fun _=>(At.ret trivial).le (by omega)) fun _=>At.ite (fun _=>?_) fun _=>?_
 ·refine At.bind (d:=3) (zei b) fun _ m' D' _ _ _=>?_
  refine At.bind (d:=2) (zac (zby hn.2)) fun _ m' D' _ _ _=>?_
  exact At.bind (d:=1) (zdv (zby hn.1)) fun _ m' D' _ _ _=>(At.ret trivial).le (by omega)
 ·refine At.bind (d:=6) (zac (zby hn.2)) fun _ m' D' _ _ _=>?_
  exact At.bind (d:=5) (zdv (zby hn.1)) fun _ m' D' _ _ _=>(At.ret trivial).le (by omega)
theorem at_names:At L K.names m D 1 (fun _ _ _=>True):=by
 unfold K.names
 exact At.bind (d:=0) (zej (b:=110) rfl (by decide)) fun _ m' D' _ _ _=>At.ret trivial
end
end Go.Proofs.YtpbcehcmdoncmaaGreatDoor
