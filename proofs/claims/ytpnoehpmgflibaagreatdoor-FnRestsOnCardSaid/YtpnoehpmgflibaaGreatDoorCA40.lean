/- Texts of this claim, merged: the walks and what they stand on. Each condition stands in its theorem. -/
import Derived.Test.YtpnoehpmgflibaaGreatDoorCA30
import Derived.Test.YtpnoehpmgflibaaGreatDoorCA39
set_option linter.unusedVariables false
set_option linter.unusedSimpArgs false
set_option maxRecDepth 100000
set_option maxHeartbeats 8000000
namespace Go.Proofs.YtpnoehpmgflibaaGreatDoor
open Go.ChangeShapes Go.WideShapes Go.ChangeAt Go.RowKit
open Mp
theorem Right.star {s:List CellD} (h:Right s) (p:ByteArray):∀ k ∈ zK p s,NoStar k:=by
 intro k hk
 unfold zK at hk
 obtain ⟨c,hc,rfl⟩:=List.mem_map.1 hk
 exact NoStar.ofOk (h.2 c (List.mem_filter.1 hc).1).1
/-! ### spans -/
theorem ziq {a b:ByteArray}:(a.toList==b.toList)=true ↔ a=b:=by
 rw [beq_iff_eq,ByteArray.toList_eq,ByteArray.toList_eq]
 exact ⟨fun h=>ByteArray.ext (Array.toList_inj.1 h),fun h=>by rw [h]⟩
theorem zln (a:ByteArray) (n:Nat) (hn:n<=a.size):zaj a (a.extract 0 n)=true:=by
 unfold zaj
 have e:(a.extract 0 n).size=n:=by rw [ByteArray.size_extract];omega
 rw [Bool.and_eq_true,decide_eq_true_eq,ziq,e]
 exact ⟨hn,rfl⟩
theorem zfI (k:ByteArray):zaZ k k=true:=by
 unfold zaZ
 split
 ·rename_i h
  unfold zY
  rw [if_pos h]
  exact zln k _ (by omega)
 ·exact ziq.2 rfl
theorem zgA {k x:ByteArray} (h:NoStar k):zaZ k x=true ↔ x=k:=by
 unfold zaZ
 rw [h.shut,if_neg (by decide),ziq]
 exact eq_comm
theorem ziR (p k:ByteArray):zaZ (p++star) k=zaj k p:=by
 have hs:(p++star).size=p.size+1:=by rw [ByteArray.size_append];rfl
 have hd:(p++star).data.toList=p.data.toList ++ [42]:=by rw [ByteArray.data_append,Array.toList_append];rfl
 have h1:zaG (p++star)=true:=by
  unfold zaG
  rw [Bool.and_eq_true,decide_eq_true_eq,beq_iff_eq,ByteArray.toList_eq,ByteArray.data_extract,Array.toList_extract,List.extract_eq_take_drop,hd,hs]
  refine ⟨by omega,?_⟩
  have hl:p.data.toList.length=p.size:=by simp
  rw [show p.size+1 - 1=p.data.toList.length by omega,List.drop_left,show p.size+1 - p.data.toList.length=1 by omega]
  rfl
 have h2:(p++star).extract 0 p.size=p:=by
  apply ByteArray.ext
  apply Array.toList_inj.1
  rw [ByteArray.data_extract,Array.toList_extract,List.extract_eq_take_drop,hd,List.drop_zero,Nat.sub_zero]
  have hl:p.data.toList.length=p.size:=by simp
  rw [<- hl,List.take_left]
 unfold zaZ zY
 rw [if_pos h1,if_pos h1,hs,show p.size+1 - 1=p.size by omega,h2]
theorem zgb {ss:List ByteArray} {s k:ByteArray} (h:s ∈ ss) (hk:zaZ s k=true):zbR ss k=true:=List.any_eq_true.2 ⟨s,h,hk⟩
theorem have_put {ss:List ByteArray} {s k:ByteArray} (h:NoStar s) (hk:zbR (zb3 ss s) k=true):zbR ss k=true ∨ k=s:=by
 obtain ⟨x,hx,hh⟩:=List.any_eq_true.1 hk
 rcases (zbi _ _ _).1 hx with hx|rfl
 ·exact .inl (zgb hx hh)
 ·exact .inr ((zgA h).1 hh)
/-! ### what a run reads and lays -/
theorem zkz {α : Type} (x:Mp α) (m:MachD):∀ k ∈ m.rd,k ∈ (x.run m).2.rd:=by
 induction x generalizing m with
 | ret a=>exact fun _ h=>h
 | look k g ih=>exact fun y h=>ih _ _ y ((zbi _ _ _).2 (.inl h))
 | lay k v n ih=>exact fun y h=>ih (m.lay k v) y h
 | under p g ih=>exact fun y h=>ih _ _ y ((zbi _ _ _).2 (.inl h))
theorem wr_grows {α : Type} (x:Mp α) (m:MachD):∀ k ∈ m.wr,k ∈ (x.run m).2.wr:=by
 induction x generalizing m with
 | ret a=>exact fun _ h=>h
 | look k g ih=>exact fun y h=>ih _ _ y h
 | lay k v n ih=>exact fun y h=>ih (m.lay k v) y ((zbi _ _ _).2 (.inl h))
 | under p g ih=>exact fun y h=>ih _ _ y h
theorem zeR {α : Type} (x:Mp α) (m:MachD) (k:ByteArray):k ∉ (x.run m).2.wr->zbm k (x.run m).2.cells=zbm k m.cells:=by
 induction x generalizing m with
 | ret a=>exact fun _=>rfl
 | look k' g ih=>exact fun h=>ih _ _ h
 | lay k' v n ih =>
  intro h
  have h1:=ih (m.lay k' v) h
  have hne:k ≠ k':=fun e=>h (wr_grows n (m.lay k' v) k ((zbi _ _ _).2 (.inr e)))
  exact h1.trans (zfw hne m.cells)
 | under p g ih=>exact fun h=>ih _ _ h
theorem zkT {a b:List CellD} (ha:Right a) (hb:Right b) (p:ByteArray) (h:∀ k,zaj k p=true->zbm k a=zbm k b):zK p a=zK p b:=by
 unfold zK
 have sa:zdA (a.filter fun c=>zaj c.key p):=⟨List.Pairwise.filter _ ha.1.1,fun c hc=>ha.1.2 c (List.mem_filter.1 hc).1⟩
 have sb:zdA (b.filter fun c=>zaj c.key p):=⟨List.Pairwise.filter _ hb.1.1,fun c hc=>hb.1.2 c (List.mem_filter.1 hc).1⟩
 have hg:∀ (s:List CellD),Right s->zdA (s.filter fun c=>zaj c.key p)->∀ k,zbm k (s.filter fun c=>zaj c.key p)=if zaj k p=true then zbm k s else ⟨#[]⟩:=by
  intro s hs hf k
  by_cases hk:zaj k p=true
  ·rw [if_pos hk]
   by_cases hex:∃ c ∈ s,c.key=k
   ·obtain ⟨c,hc,rfl⟩:=hex
    rw [zdL hf.1 c (List.mem_filter.2 ⟨hc,hk⟩),zdL hs.1.1 c hc]
   ·rw [zcL fun c hc e=>hex ⟨c,(List.mem_filter.1 hc).1,e⟩,zcL fun c hc e=>hex ⟨c,hc,e⟩]
  ·rw [if_neg hk,zcL fun c hc e=>hk (by rw [<- e];exact (List.mem_filter.1 hc).2)]
 rw [ziI sa sb fun k=>by
  rw [hg a ha sa,hg b hb sb]
  split
  ·rename_i hk;exact h k hk
  ·rfl]
theorem zkw {α : Type} {Q : α->Prop} (x:Mp α) (m m':MachD) (hx:x.Sm Q) (h:Right m.cells) (h':Right m'.cells) (er:m'.rd=m.rd) (ew:m'.wr=m.wr)
  (hag:∀ k,zbR (x.run m).2.rd k=true->zbm k m.cells=zbm k m'.cells) (hw:∀ k,zbR m.wr k=true->zbm k m.cells=zbm k m'.cells) :
  (x.run m').1=(x.run m).1/\(x.run m').2.rd=(x.run m).2.rd/\(x.run m').2.wr=(x.run m).2.wr/\∀ k,zbR (x.run m).2.wr k=true->zbm k (x.run m).2.cells=zbm k (x.run m').2.cells:=by
 induction x generalizing m m' with
 | ret a=>exact ⟨rfl,er,ew,hw⟩
 | look k g ih =>
  have hk:zbm k m'.cells=zbm k m.cells:=(hag k (zgb (zkz (g _) (m.look k) k ((zbi _ _ _).2 (.inr rfl))) (zfI k))).symm
  show ((g (zbm k m'.cells)).run (m'.look k)).1 = _/\((g (zbm k m'.cells)).run (m'.look k)).2.rd = _/\((g (zbm k m'.cells)).run (m'.look k)).2.wr = _/\∀ x,_->_=zbm x ((g (zbm k m'.cells)).run (m'.look k)).2.cells
  rw [hk]
  exact ih _ (m.look k) (m'.look k) (hx _ (h.val k)) h h' (by show zb3 m'.rd k=zb3 m.rd k;rw [er]) ew hag hw
 | lay k v n ih =>
  have hp:∀ y,y=k ∨ zbm y m.cells=zbm y m'.cells->zbm y (zbM k v m.cells)=zbm y (zbM k v m'.cells):=by
   intro y hy
   cases hk:zbc k with
   | true =>
    rw [zkI h.1 hk hx.2.1,zkI h'.1 hk hx.2.1]
    split
    ·rfl
    ·rename_i hne
     exact hy.resolve_left hne
   | false =>
    rw [zjT (.inl hk),zjT (.inl hk)]
    rcases hy with rfl|hy
    ·rw [zcL (s:=m.cells) (fun c hc e=>by (have:=(h.2 c hc).1);rw [e,hk] at this;cases this),zcL (s:=m'.cells) (fun c hc e=>by (have:=(h'.2 c hc).1);rw [e,hk] at this;cases this)]
    ·exact hy
  refine ih (m.lay k v) (m'.lay k v) hx.2.2 (h.put k v) (h'.put k v) er (by show zb3 m'.wr k=zb3 m.wr k;rw [ew]) (fun y hy=>hp y (.inr (hag y hy))) fun y hy=>hp y ?_
  rcases have_put hx.1 hy with hy|rfl
  ·exact .inr (hw y hy)
  ·exact .inl rfl
 | under p g ih =>
  have hk:zK p m'.cells=zK p m.cells:=(zkT h h' p fun y hy=>hag y (zgb (zkz (g _) (m.under p) (p++star) ((zbi _ _ _).2 (.inr rfl))) (by rw [ziR];exact hy))).symm
  show ((g (zK p m'.cells)).run (m'.under p)).1 = _/\((g (zK p m'.cells)).run (m'.under p)).2.rd = _/\((g (zK p m'.cells)).run (m'.under p)).2.wr = _/\∀ x,_->_=zbm x ((g (zK p m'.cells)).run (m'.under p)).2.cells
  rw [hk]
  exact ih _ (m.under p) (m'.under p) (hx _ (h.star p)) h h' (by show zb3 m'.rd (p++star)=zb3 m.rd (p++star);rw [er]) ew hag hw
open Mp
theorem zky {w:World} {v1 v2:Value} {r s:List ByteArray} (h1:RdL zx w v1 r) (h2:RdL zx w v2 s) (z1:∀ x ∈ r,x.size<=1048700) (z2:∀ x ∈ s,x.size<=1048700):zdf.rd w [v1,v2] ⟨r,s⟩ :=
 ⟨_,_,rfl,zgE (R:=zx) rfl rfl (by decide) h1 (fun x hx=>Nat.le_trans (z1 x hx) (by decide)),zgE (R:=zx) rfl rfl (by decide) h2 (fun x hx=>Nat.le_trans (z2 x hx) (by decide))⟩
theorem StoreN.touch {k:Nat} {cs:List CellD} (h:StoreN k cs) (hk:k+1<=60) {proc:Int} {c:CallD} (hp:zby proc) (ha:zby c.a):(∀ x ∈ ((K.doCall proc c).run ⟨cs,[],[]⟩).2.rd,x.size<=1048700)/\∀ x ∈ ((K.doCall proc c).run ⟨cs,[],[]⟩).2.wr,x.size<=1048700:=by
 have h1:Good (60 - (k+1)+1) ⟨cs,[],[]⟩:=by rw [show 60 - (k+1)+1=60 - k by omega];exact h.1
 have h2:=(h1.step hp ha).touch
 exact ⟨h2.1.2,h2.2.2⟩
theorem zas {w:World} (a b:Obj) {n:Nat} (h:n<w.heap.size):((w.alloc a).alloc b).heap[n]?=w.heap[n]? :=
 (Below.heap_alloc _ _ _ (by simp;omega)).trans (Below.heap_alloc _ _ _ h)
end Go.Proofs.YtpnoehpmgflibaaGreatDoor

