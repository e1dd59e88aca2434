/- Texts of this claim, merged: the walks and what they stand on. Each condition stands in its theorem. -/
import Derived.Deep.OwnRows
import Derived.Test.YtpnoehpmgflibaaGreatDoorCA11
import Derived.Test.YtpnoehpmgflibaaGreatDoorCA21
set_option linter.unusedVariables false
set_option linter.unusedSimpArgs false
set_option maxRecDepth 100000
set_option maxHeartbeats 8000000
namespace Go.Proofs.YtpnoehpmgflibaaGreatDoor
open Go.ChangeShapes Go.WideShapes Go.ChangeAt Go.RowKit
def ltK (a b:CellD):Prop:=ltP a.key b.key
def zdA (s:List CellD):Prop:=s.Pairwise ltK/\∀ c ∈ s,c.val ≠ ⟨#[]⟩
theorem zjg (k:ByteArray) (c:CellD):z6 k c=true ↔ c.key=k:=by
 unfold z6
 rw [ByteArray.toList_eq,ByteArray.toList_eq,beq_iff_eq]
 exact ⟨fun h=>ByteArray.ext (Array.toList_inj.1 h),fun h=>by rw [h]⟩
theorem zjq (v:ByteArray):v.size=0 ↔ v=⟨#[]⟩:=by
 constructor
 ·intro h
  apply ByteArray.ext
  exact Array.eq_empty_of_size_eq_zero h
 ·rintro rfl;rfl
theorem zcL {k:ByteArray} {s:List CellD} (h:∀ c ∈ s,c.key ≠ k):zbm k s=⟨#[]⟩:=by
 refine zgW k s ?_
 rw [List.any_eq_false]
 intro c hc hk
 exact h c hc ((zjg k c).1 hk)
theorem zdL {s:List CellD} (h:s.Pairwise ltK):∀ c ∈ s,zbm c.key s=c.val:=by
 induction s with
 | nil=>intro c hc;cases hc
 | cons d s ih =>
  intro c hc
  unfold zbm
  rcases List.mem_cons.1 hc with rfl|hc
  ·rw [List.find?_cons_of_pos ((zjg _ _).2 rfl)]
  ·have hd:=List.rel_of_pairwise_cons h hc
   rw [List.find?_cons_of_neg (by
    intro hk
    unfold ltK at hd
    rw [(zjg _ _).1 hk] at hd
    exact zgM _ hd)]
   exact ih (List.Pairwise.of_cons h) c hc
theorem zmm {s:List CellD} (h:zdA s) (k:ByteArray):zbm k s ≠ ⟨#[]⟩ ↔ k ∈ s.map (·.key):=by
 constructor
 ·intro hne
  refine Classical.byContradiction fun hk=>hne (zcL fun c hc e=>hk (List.mem_map.2 ⟨c,hc,e⟩))
 ·intro hk
  obtain ⟨c,hc,rfl⟩:=List.mem_map.1 hk
  rw [zdL h.1 c hc]
  exact h.2 c hc
theorem ziH {s:List CellD} (h:zdA s):s=(s.map (·.key)).map fun k=>⟨k,zbm k s⟩:=by
 rw [List.map_map]
 conv=>lhs;rw [<- List.map_id s]
 refine List.map_congr_left fun c hc=>?_
 show c=⟨c.key,zbm c.key s⟩
 rw [zdL h.1 c hc]
theorem ziI {s t:List CellD} (hs:zdA s) (ht:zdA t) (h:∀ k,zbm k s=zbm k t):s=t:=by
 have hk:s.map (·.key)=t.map (·.key):=by
  refine uniqS (List.pairwise_map.2 hs.1) (List.pairwise_map.2 ht.1) fun k=>?_
  rw [<- zmm hs,<- zmm ht,h k]
 rw [ziH hs,ziH ht,hk]
 exact List.map_congr_left fun k _=>by rw [h k]
theorem lessP (a b:ByteArray):Op.bytesLess a.toList b.toList=true ↔ ltP a b:=zjX a b
theorem zbk {k:ByteArray} {s:List CellD} {c:CellD}:c ∈ zB k s ↔ c ∈ s/\c.key ≠ k:=by
 unfold zB
 rw [List.mem_filter]
 constructor
 ·rintro ⟨h1,h2⟩
  exact ⟨h1,fun e=>by rw [(zjg k c).2 e] at h2;cases h2⟩
 ·rintro ⟨h1,h2⟩
  refine ⟨h1,?_⟩
  cases hk:z6 k c with
  | false=>rfl
  | true=>exact absurd ((zjg k c).1 hk) h2
theorem zeu {k:ByteArray} {s:List CellD} (h:zdA s):zdA (zB k s) :=
 ⟨List.Pairwise.filter _ h.1,fun c hc=>h.2 c (zbk.1 hc).1⟩
theorem zga {k v:ByteArray} {s:List CellD} {c:CellD}:c ∈ zfN k v s ↔ c ∈ s ∨ c=⟨k,v⟩:=by
 unfold zfN
 rw [List.mem_append,List.mem_cons]
 have e:=List.takeWhile_append_dropWhile (p:=fun c=>!zaa k c) (l:=s)
 constructor
 ·rintro (h|h|h)
  ·exact .inl (by rw [<- e];exact List.mem_append.2 (.inl h))
  ·exact .inr h
  ·exact .inl (by rw [<- e];exact List.mem_append.2 (.inr h))
 ·rintro (h|h)
  ·rw [<- e,List.mem_append] at h
   rcases h with h|h
   ·exact .inl h
   ·exact .inr (.inr h)
  ·exact .inr (.inl h)
theorem zmj (k:ByteArray) (c:CellD):zaa k c=true ↔ ltP k c.key:=lessP k c.key
theorem zmt {k:ByteArray}:∀ {s:List CellD},s.Pairwise ltK->∀ c ∈ s.dropWhile (fun c=>!zaa k c),ltP k c.key
 | [],_,c,hc=>by simp at hc
 | d :: s,h,c,hc=>by
  rw [List.dropWhile_cons] at hc
  split at hc
  ·exact zmt (List.Pairwise.of_cons h) c hc
  ·rename_i hd
   have hg:zaa k d=true:=by simpa using hd
   rcases List.mem_cons.1 hc with rfl|hc
   ·exact (zmj _ _).1 hg
   ·exact zeQ ((zmj _ _).1 hg) (List.rel_of_pairwise_cons h hc)
theorem zlb {k v:ByteArray} {s:List CellD} (h:zdA s) (hk:∀ c ∈ s,c.key ≠ k) (hv:v ≠ ⟨#[]⟩):zdA (zfN k v s):=by
 refine ⟨?_,fun c hc=>?_⟩
 ·have e:=List.takeWhile_append_dropWhile (p:=fun c=>!zaa k c) (l:=s)
  have hs:=h.1
  rw [<- e,List.pairwise_append] at hs
  unfold zfN
  have ht:∀ c ∈ s.takeWhile (fun c=>!zaa k c),ltP c.key k:=fun c hc=>by
   have h1:=zc2 (fun c=>!zaa k c) s c hc
   have hm:c ∈ s:=by rw [<- e];exact List.mem_append.2 (.inl hc)
   have hne:=hk c hm
   have:¬ ltP k c.key:=fun hh=>by rw [(zmj k c).2 hh] at h1;cases h1
   exact zl4 this (Ne.symm hne)
  rw [List.pairwise_append]
  refine ⟨hs.1,?_,?_⟩
  ·rw [List.pairwise_cons]
   exact ⟨fun c hc=>zmt h.1 c hc,hs.2.1⟩
  ·intro c hc d hd
   rcases List.mem_cons.1 hd with rfl|hd
   ·exact ht c hc
   ·exact hs.2.2 c hc d hd
 ·rcases zga.1 hc with hc|rfl
  ·exact h.2 c hc
  ·exact hv
theorem zhD {k v:ByteArray} {s:List CellD} (h:zdA s):zdA (zbM k v s):=by
 unfold zbM
 split
 ·exact h
 ·split
  ·exact zeu h
  ·rename_i h2
   exact zlb (zeu h) (fun c hc=>(zbk.1 hc).2) (fun e=>h2 ((zjq v).2 e))
theorem zj7 {s:List CellD} (h:zdA s) {c:CellD} (hc:c ∈ s) {k:ByteArray} (hk:c.key=k):zbm k s=c.val:=by subst hk;exact zdL h.1 c hc
theorem zkI {k v:ByteArray} {s:List CellD} (h:zdA s) (hk:zbc k=true) (hv:v.size<=60) (x:ByteArray):zbm x (zbM k v s)=if x=k then v else zbm x s:=by
 have hp:=zhD (k:=k) (v:=v) h
 have e:zbM k v s=if v.size=0 then zB k s else zfN k v (zB k s):=by
  unfold zbM
  rw [if_neg (by rintro (h1|h1);rw [hk] at h1;cases h1;omega)]
 by_cases hx:x=k
 ·rw [if_pos hx]
  subst hx
  by_cases h0:v.size=0
  ·rw [e,if_pos h0,zcL fun c hc=>(zbk.1 hc).2]
   exact ((zjq v).1 h0).symm
  ·exact zj7 hp (c:=⟨x,v⟩) (by rw [e,if_neg h0];exact zga.2 (.inr rfl)) rfl
 ·rw [if_neg hx]
  have hm:∀ c:CellD,c.key=x->(c ∈ zbM k v s ↔ c ∈ s):=fun c hcx=>by
   rw [e]
   split
   ·rw [zbk]
    exact ⟨fun h=>h.1,fun h=>⟨h,by rw [hcx];exact hx⟩⟩
   ·rw [zga,zbk]
    refine ⟨?_,fun h=>.inl ⟨h,by rw [hcx];exact hx⟩⟩
    rintro (h|rfl)
    ·exact h.1
    ·exact absurd hcx.symm hx
  by_cases hex:∃ c ∈ s,c.key=x
  ·obtain ⟨c,hc,hcx⟩:=hex
   rw [zj7 hp ((hm c hcx).2 hc) hcx,zj7 h hc hcx]
  ·rw [zcL (s:=s) fun c hc hcx=>hex ⟨c,hc,hcx⟩,zcL fun c hc hcx=>hex ⟨c,(hm c hcx).1 hc,hcx⟩]
open Mp
def Right (s:List CellD):Prop:=zdA s/\∀ c ∈ s,zbc c.key=true/\c.val.size<=60
theorem Right.nil:Right []:=⟨⟨List.Pairwise.nil,fun c h=>by cases h⟩,fun c h=>by cases h⟩
theorem zjT {k v:ByteArray} {s:List CellD} (h:zbc k=false ∨ 60<v.size):zbM k v s=s:=if_pos h
theorem Right.put {s:List CellD} (h:Right s) (k v:ByteArray):Right (zbM k v s):=by
 refine ⟨zhD h.1,fun c hc=>?_⟩
 by_cases hr:zbc k=false ∨ 60<v.size
 ·rw [zjT hr] at hc
  exact h.2 c hc
 ·unfold zbM at hc
  rw [if_neg hr] at hc
  split at hc
  ·exact h.2 c (zbk.1 hc).1
  ·rcases zga.1 hc with hc|rfl
   ·exact h.2 c (zbk.1 hc).1
   ·refine ⟨?_,?_⟩
    ·show zbc k=true
     cases hk:zbc k with
     | true=>rfl
     | false=>exact absurd (.inl hk) hr
    ·show v.size<=60
     exact Nat.le_of_not_lt fun hh=>hr (.inr hh)
theorem Right.run {α : Type} (x:Mp α) (m:MachD) (h:Right m.cells):Right (x.run m).2.cells:=by
 induction x generalizing m with
 | ret a=>exact h
 | look k g ih=>exact ih _ _ h
 | lay k v n ih=>exact ih (m.lay k v) (h.put k v)
 | under p g ih=>exact ih _ _ h
theorem Right.val {s:List CellD} (h:Right s) (k:ByteArray):(zbm k s).size<=60:=by
 by_cases hk:∃ c ∈ s,c.key=k
 ·obtain ⟨c,hc,rfl⟩:=hk
  rw [zdL h.1.1 c hc]
  exact (h.2 c hc).2
 ·rw [zcL fun c hc e=>hk ⟨c,hc,e⟩]
  decide
theorem Right.key {s:List CellD} (h:Right s):∀ c ∈ s,c.key.size ≠ 0:=by
 intro c hc
 have:=(h.2 c hc).1
 unfold zbc inB at this
 simp at this
 omega
def zad (vb:Value) (i h:Int):Obj:=.cells #[vb,.int .i64 i,.int .i64 h] 94 (0,0)
structure Cur (w:World) (p:Nat) (vb:Value) (bs:List UInt8) (i h:Int):Prop where
 blk:w.heap[p]?=some (zad vb i h)
 bytes:Sl w vb bs.length (zL bs)
 lo : 0<=i
 hi:i<=bs.length
 off:vb.ownBlock ≠ some p
 len:bs.length<=140737488351232
theorem Cur.ext {w:World} {p:Nat} {vb:Value} {bs:List UInt8} {i h:Int} (c:Cur w p vb bs i h) (X:Ext):Cur (w.ext X) p vb bs i h :=
 ⟨by rw [w.ext_get X (za c.blk)];exact c.blk,c.bytes.ext X,c.lo,c.hi,c.off,c.len⟩
theorem Cur.alloc {w:World} {p:Nat} {vb:Value} {bs:List UInt8} {i h:Int} (c:Cur w p vb bs i h) (o:Obj):Cur (w.alloc o) p vb bs i h :=
 ⟨by rw [Below.heap_alloc w o p (za c.blk)];exact c.blk,c.bytes.alloc o,c.lo,c.hi,c.off,c.len⟩
theorem Cur.drew {w:World} {p:Nat} {vb:Value} {bs:List UInt8} {i h:Int} (c:Cur w p vb bs i h):Cur w.drew p vb bs i h :=
 ⟨c.blk,c.bytes,c.lo,c.hi,c.off,c.len⟩
theorem Cur.set {w:World} {p:Nat} {vb:Value} {bs:List UInt8} {i h:Int} (c:Cur w p vb bs i h) {i' h':Int} (h0 : 0<=i') (h1:i'<=bs.length):Cur (w.setB p (zad vb i' h')) p vb bs i' h' :=
 ⟨w.setB_at p _ (za c.blk),c.bytes.setB c.off _,h0,h1,c.off,c.len⟩
theorem Cur.got {w w':World} {p:Nat} {vb:Value} {bs:List UInt8} {i h i' h':Int} (c:Cur w p vb bs i h) (g:Got p w (zad vb i' h') w') (h0 : 0<=i') (h1:i'<=bs.length):Cur w' p vb bs i' h':=by
 obtain ⟨X,rfl⟩:=g
 exact (c.set h0 h1).ext X
theorem Cur.below {w w':World} {p:Nat} {vb:Value} {bs:List UInt8} {i h:Int} (c:Cur w p vb bs i h) (g:Below w.heap.size w w'):Cur w' p vb bs i h:=by
 obtain ⟨X,rfl⟩:=g.ext
 exact c.ext X
theorem Cur.lt {w:World} {p:Nat} {vb:Value} {bs:List UInt8} {i h:Int} (c:Cur w p vb bs i h):p<w.heap.size:=za c.blk
theorem and255 (x:Int) : 0<=bits BinOp.and IntKind.i64 x 255/\bits BinOp.and IntKind.i64 x 255<=255:=by
 have h:∀ n:Nat,IntKind.i64.wrap ((n &&& 255:Nat):Int)=((n &&& 255:Nat):Int):=fun n=>by
  have:=Nat.and_le_right (n:=n) (m:=255)
  exact IntWalk.i64_in _ (by omega)
 unfold bits
 simp only [BitVec.toNat_and]
 have e:(BitVec.ofInt IntKind.i64.bits 255).toNat=255:=by decide
 rw [e,h]
 have:=Nat.and_le_right (n:=(BitVec.ofInt IntKind.i64.bits x).toNat) (m:=255)
 omega
theorem zbq (p:Nat) (vb:Value) (bs:List UInt8) (i h:Int) (w:World) (hc:Cur w p vb bs i h) :
  Calls Tryz.prog 135 #[.pointer (some ⟨p,0,none⟩)] w fun e w'=>∃ x i' h',e=.returned (.int .i64 x)/\0<=x/\x<=255/\Got p w (zad vb i' h') w'/\0<=i'/\i'<=bs.length:=by
 obtain ⟨hb,hs,h0,h1,ho,hl⟩:=hc
 have hp:=za hb
 refine zd8 hb ?_
 unfold zad
 clear hb
 have ha:=fun x=>and255 x
 have HA:=Hd ha
 clear ha
 rcases hs with ⟨rfl,hn,_⟩|⟨b,off,cap,rfl,hc1,hc2,hcell⟩
 ·have hlt:¬ i<0:=by omega
  go_enter Tryz.func135,Tryz.ntmps135
  go_wp2
  refine zaA [(0,true),(1,true),(2,true),(3,true),(4,true),(5,true),(6,true),(7,true),(8,true),(9,true),(10,true),(11,true),(12,false)] 12 (by kernel_rfl) (by kernel_rfl) ?_
  repeat (refine zk rfl (fun K hK=>?_);go_simp;(try simp (disch:=omega) only [IntWalk.i64_in]);refine hK _ ?_;clear hK K)
  repeat (refine zt rfl rfl (fun K hK=>?_);go_simp;refine hK _ _ ?_;clear hK K)
  refine zQ ?_
  generalize hx:bits BinOp.and IntKind.i64 _ 255=x
  have hx0 : 0<=x/\x<=255:=hx ▸ HA.out _
  clear hx
  go_wp2
  refine zaA [(0,true),(1,true),(2,true),(3,true),(4,true),(5,true),(6,true),(7,true),(8,true),(9,true)] 10 (by kernel_rfl) (by kernel_rfl) ?_
  repeat (refine zk rfl (fun K hK=>?_);go_simp;(try simp (disch:=omega) only [IntWalk.i64_in]);refine hK _ ?_;clear hK K)
  repeat (refine zt rfl rfl (fun K hK=>?_);go_simp;refine hK _ _ ?_;clear hK K)
  refine zQ ?_
  go_wp2
  go_ret
  exact ⟨x,i,_,rfl,hx0.1,hx0.2,(by repeat (first|with_reducible exact Got.mk _ _ _|with_reducible apply Got.drew)),h0,h1⟩
 ·have hbp:b ≠ p:=fun e=>ho (by simp [Value.ownBlock,e])
  by_cases hi:i<bs.length
  ·obtain ⟨k,rfl⟩:=Int.eq_ofNat_of_zero_le h0
   have hk:k<bs.length:=by omega
   have hcc:w.cell? ⟨b,off+k,none⟩=some (.int .u8 (bs[k].toNat)):=hcell k _ (by simp [zL,hk])
   have hbk:bs[k].toNat<256:=bs[k].toNat_lt
   generalize bs[k].toNat=q at hcc hbk
   have hbl:=World.block_lt_of_cell? w _ hcc
   clear hcell h0
   go_enter Tryz.func135,Tryz.ntmps135
   go_wp2
   refine zaA [(0,true),(1,true),(2,true),(3,true),(4,true),(5,true),(6,true),(7,true),(8,true),(9,true),(10,true),(11,true),(12,false)] 12 (by kernel_rfl) (by kernel_rfl) ?_
   repeat (refine zk rfl (fun K hK=>?_);go_simp;(try simp (disch:=omega) only [IntWalk.i64_in]);refine hK _ ?_;clear hK K)
   repeat (refine zt rfl rfl (fun K hK=>?_);go_simp;refine hK _ _ ?_;clear hK K)
   refine zQ ?_
   generalize hx:bits BinOp.and IntKind.i64 _ 255=x
   have hx0 : 0<=x/\x<=255:=hx ▸ HA.out _
   clear hx
   go_wp2
   refine zaA [(0,true),(1,true),(2,true),(3,true),(4,true),(5,true),(6,true),(7,true),(8,true),(9,true)] 10 (by kernel_rfl) (by kernel_rfl) ?_
   repeat (refine zk rfl (fun K hK=>?_);go_simp;(try simp (disch:=omega) only [IntWalk.i64_in]);refine hK _ ?_;clear hK K)
   repeat (refine zt rfl rfl (fun K hK=>?_);go_simp;refine hK _ _ ?_;clear hK K)
   refine zQ ?_
   go_wp2
   refine zaA [(0,true),(1,true),(2,true),(3,true),(4,true),(5,true),(6,true),(7,true),(8,true),(9,true),(10,true),(11,true),(12,true),(13,true),(14,false)] 14 (by kernel_rfl) (by kernel_rfl) ?_
   repeat (refine zk rfl (fun K hK=>?_);go_simp;(try simp (disch:=omega) only [IntWalk.i64_in]);refine hK _ ?_;clear hK K)
   repeat (refine zt rfl rfl (fun K hK=>?_);go_simp;refine hK _ _ ?_;clear hK K)
   refine zQ ?_
   generalize hx:bits BinOp.and IntKind.i64 _ 255=y
   have hy0 : 0<=y/\y<=255:=hx ▸ HA.out _
   clear hx
   go_wp2
   go_ret
   exact ⟨y,k+1,_,rfl,hy0.1,hy0.2,(by repeat (first|with_reducible exact Got.mk _ _ _|with_reducible apply Got.drew)),by omega,by omega⟩
  ·have hi':¬ i<(bs.length:Int):=hi
   clear hcell hi
   go_enter Tryz.func135,Tryz.ntmps135
   go_wp2
   refine zaA [(0,true),(1,true),(2,true),(3,true),(4,true),(5,true),(6,true),(7,true),(8,true),(9,true),(10,true),(11,true),(12,false)] 12 (by kernel_rfl) (by kernel_rfl) ?_
   repeat (refine zk rfl (fun K hK=>?_);go_simp;(try simp (disch:=omega) only [IntWalk.i64_in]);refine hK _ ?_;clear hK K)
   repeat (refine zt rfl rfl (fun K hK=>?_);go_simp;refine hK _ _ ?_;clear hK K)
   refine zQ ?_
   generalize hx:bits BinOp.and IntKind.i64 _ 255=x
   have hx0 : 0<=x/\x<=255:=hx ▸ HA.out _
   clear hx
   go_wp2
   refine zaA [(0,true),(1,true),(2,true),(3,true),(4,true),(5,true),(6,true),(7,true),(8,true),(9,true)] 10 (by kernel_rfl) (by kernel_rfl) ?_
   repeat (refine zk rfl (fun K hK=>?_);go_simp;(try simp (disch:=omega) only [IntWalk.i64_in]);refine hK _ ?_;clear hK K)
   repeat (refine zt rfl rfl (fun K hK=>?_);go_simp;refine hK _ _ ?_;clear hK K)
   refine zQ ?_
   go_wp2
   go_ret
   exact ⟨x,i,_,rfl,hx0.1,hx0.2,(by repeat (first|with_reducible exact Got.mk _ _ _|with_reducible apply Got.drew)),h0,h1⟩
theorem zdS {w:World} {p:Nat} {o:Obj} (h:w.heap[p]?=some o):Got p w o w:=⟨⟨#[],w.drawn⟩,by rw [ze h];unfold World.ext;simp⟩
def zko (p:Nat) (vb:Value) (bs:List UInt8) (w w':World):Prop:=∃ i' h',Got p w (zad vb i' h') w'/\0<=i'/\i'<=bs.length
theorem zao (p:Nat) (vb:Value) (bs:List UInt8) (i h n:Int) (w:World) (hc:Cur w p vb bs i h) (hn:n<=4294967296) :
  Calls Tryz.prog 63 #[.pointer (some ⟨p,0,none⟩),.int .i64 n] w fun e w'=>∃ x i' h',e=.returned (.int .i64 x)/\(0<=x/\(1<=n->x<n)/\(n<=0->x=0))/\Got p w (zad vb i' h') w'/\0<=i'/\i'<=bs.length:=by
 have hp:=za hc.blk
 have HC:=Hd hc
 clear hc
 by_cases hn0:n<=0
 ·go_enter Tryz.func63,Tryz.ntmps63
  go_wp2
  go_ret
  exact ⟨0,i,h,rfl,⟨by omega,fun _=>by omega,fun _=>rfl⟩,zdS HC.out.blk,HC.out.lo,HC.out.hi⟩
 ·by_cases hn1:n<=256
  ·go_enter Tryz.func63,Tryz.ntmps63
   go_wp2_with (go_at_call 135;refine (zbq p vb bs i h _ HC.out).mono ?_;rintro e w' ⟨x,i1,h1,rfl,hx0,hx1,⟨X,rfl⟩,hi0,hi1⟩)
   go_ret
   exact ⟨_,i1,h1,rfl,⟨by have:=Int.emod_nonneg x (show n ≠ 0 by omega);exact this,fun _=>Int.emod_lt_of_pos _ (by omega),fun _=>by omega⟩,(by repeat (first|with_reducible exact Got.mk _ _ _|with_reducible apply Got.ext)),hi0,hi1⟩
  ·go_enter Tryz.func63,Tryz.ntmps63
   go_wp2_with fail
   (go_at_call 135;refine (zbq p vb bs _ _ _ (by repeat (with_reducible exact HC.out))).mono ?_;rintro e w' ⟨x,i1,h1,rfl,hx0,hx1,⟨X,rfl⟩,hi0,hi1⟩)
   go_wp2_with fail
   (go_at_call 135;refine (zbq p vb bs _ _ _ (by repeat (first|with_reducible exact HC.out|with_reducible assumption|with_reducible apply Cur.ext|with_reducible apply Cur.set))).mono ?_;rintro e w' ⟨y,i2,h2,rfl,hy0,hy1,⟨X2,rfl⟩,hj0,hj1⟩)
   go_wp2_with fail
   (go_at_call 135;refine (zbq p vb bs _ _ _ (by repeat (first|with_reducible exact HC.out|with_reducible assumption|with_reducible apply Cur.ext|with_reducible apply Cur.set))).mono ?_;rintro e w' ⟨z,i3,h3,rfl,hz0,hz1,⟨X3,rfl⟩,hk0,hk1⟩)
   go_wp2_with fail
   (go_at_call 135;refine (zbq p vb bs _ _ _ (by repeat (first|with_reducible exact HC.out|with_reducible assumption|with_reducible apply Cur.ext|with_reducible apply Cur.set))).mono ?_;rintro e w' ⟨u,i4,h4,rfl,hu0,hu1,⟨X4,rfl⟩,hl0,hl1⟩)
   go_wp2
   go_ret
   refine ⟨_,i4,h4,rfl,⟨?_,fun _=>Int.emod_lt_of_pos _ (by omega),fun _=>by omega⟩,(by repeat (first|with_reducible exact Got.mk _ _ _|with_reducible apply Got.ext)),hl0,hl1⟩
   have:=Int.emod_nonneg (x*16777216+y*65536+z*256+u) (show n ≠ 0 by omega)
   exact this
theorem za4 (p:Nat) (vb:Value) (bs:List UInt8) (i h:Int) (v:Value) (xs:List Int) (w:World) (hc:Cur w p vb bs i h) (hs:RdL zep w v xs) (hne:xs ≠ []) (hl:xs.length<=4294967296) (ho:v.ownBlock ≠ some p) :
  Calls Tryz.prog 65 #[.pointer (some ⟨p,0,none⟩),v] w fun e w'=>∃ x i' h',e=.returned (.int .i64 x)/\x ∈ xs/\Got p w (zad vb i' h') w'/\0<=i'/\i'<=bs.length:=by
 have hp:=za hc.blk
 have HC:=Hd hc
 clear hc
 obtain ⟨ao,cap,rfl,hc1,hc2,hnil,hcell⟩:=hs.shapeI
 obtain ⟨b,off,rfl,hbl,hcell⟩:=hcell hne
 have hbp:b ≠ p:=fun e=>ho (by simp [Value.ownBlock,e])
 have hpos : 0<xs.length:=by cases xs;exact absurd rfl hne;simp
 have HX:=Hd hcell
 clear hcell hnil hs ho hne
 unfold maxLen at hc2
 go_enter Tryz.func65,Tryz.ntmps65
 go_wp2_with fail
 (go_at_call 63;refine (zao p vb bs _ _ _ _ (by repeat (with_reducible exact HC.out)) (by omega)).mono ?_;rintro e w' ⟨x,i1,h1,rfl,⟨hx0,hx1,_⟩,⟨X,rfl⟩,hi0,hi1⟩)
 have hx2:=hx1 (by omega)
 obtain ⟨k,rfl⟩:=Int.eq_ofNat_of_zero_le hx0
 have hk:k<xs.length:=by omega
 have hcc:=HX.out k hk
 clear hx1 hx2
 go_wp2
 go_ret
 exact ⟨_,i1,h1,rfl,List.getElem_mem hk,(by repeat (first|with_reducible exact Got.mk _ _ _|with_reducible apply Got.ext)),hi0,hi1⟩
theorem zbp (p:Nat) (vb:Value) (bs:List UInt8) (i h:Int) (v:Value) (xs:List ByteArray) (w:World) (hc:Cur w p vb bs i h) (hs:RdL zx w v xs) (hne:xs ≠ []) (hl:xs.length<=4294967296) (ho:v.ownBlock ≠ some p) :
  Calls Tryz.prog 53 #[.pointer (some ⟨p,0,none⟩),v] w fun e w'=>∃ x i' h',e=.returned (.string x)/\x ∈ xs/\Got p w (zad vb i' h') w'/\0<=i'/\i'<=bs.length:=by
 have hp:=za hc.blk
 have HC:=Hd hc
 clear hc
 obtain ⟨ao,cap,rfl,hc1,hc2,hnil,hcell⟩:=hs.shapeS
 obtain ⟨b,off,rfl,hbl,hcell⟩:=hcell hne
 have hbp:b ≠ p:=fun e=>ho (by simp [Value.ownBlock,e])
 have hpos : 0<xs.length:=by cases xs;exact absurd rfl hne;simp
 have HX:=Hd hcell
 clear hcell hnil hs ho hne
 unfold maxLen at hc2
 go_enter Tryz.func53,Tryz.ntmps53
 go_wp2_with fail
 (go_at_call 63;refine (zao p vb bs _ _ _ _ (by repeat (with_reducible exact HC.out)) (by omega)).mono ?_;rintro e w' ⟨x,i1,h1,rfl,⟨hx0,hx1,_⟩,⟨X,rfl⟩,hi0,hi1⟩)
 have hx2:=hx1 (by omega)
 obtain ⟨k,rfl⟩:=Int.eq_ofNat_of_zero_le hx0
 have hk:k<xs.length:=by omega
 have hcc:=HX.out k hk
 clear hx1 hx2
 go_wp2
 go_ret
 exact ⟨_,i1,h1,rfl,List.getElem_mem hk,(by repeat (first|with_reducible exact Got.mk _ _ _|with_reducible apply Got.ext)),hi0,hi1⟩
def zfq:List ByteArray:=[⟨#[97]⟩,⟨#[98]⟩,⟨#[110,47,120]⟩,⟨#[110,47,121]⟩,⟨#[110,47,121,121]⟩,⟨#[105,47,49,47,115]⟩,⟨#[105,47,49,47,98,47,48]⟩,⟨#[105,47,49,50,47,115]⟩,⟨#[99,47,112,105,112,101]⟩,⟨#[112,47,49,47,104]⟩]
theorem zjD (p:Nat) (vb:Value) (bs:List UInt8) (i h:Int) (w:World) (hc:Cur w p vb bs i h) :
  Calls Tryz.prog 56 #[.pointer (some ⟨p,0,none⟩)] w fun e w'=>∃ x i' h',e=.returned (.string x)/\x ∈ zfq/\Got p w (zad vb i' h') w'/\0<=i'/\i'<=bs.length:=by
 have hp:=za hc.blk
 have HC:=Hd hc
 clear hc
 go_enter Tryz.func56,Tryz.ntmps56
 go_wp2_with fail
 (go_at_call 53;refine (zbp p vb bs _ _ _ zfq _ (by repeat (first|with_reducible exact HC.out|with_reducible apply Cur.alloc)) (RdL.lit zx w zfq 10 rfl (by decide) _ rfl _) (by decide) (by decide) (by simp [Value.ownBlock];omega)).mono ?_;rintro e w' ⟨x,i1,h1,rfl,hx,⟨X,rfl⟩,hi0,hi1⟩)
 go_wp2
 go_ret
 exact ⟨x,i1,h1,rfl,hx,(by repeat (first|with_reducible exact Got.mk _ _ _|with_reducible apply Got.ext|with_reducible apply Got.alloc)),hi0,hi1⟩
theorem World.alloc_new (w:World) (o:Obj):(w.alloc o).heap[w.heap.size]?=some o:=by
 show (w.heap.push o)[w.heap.size]?=some o
 simp
theorem newCur {w:World} {X:Ext} {v:Value} {bs:List UInt8} {x:Int} (hsz:(w.ext X).heap.size=w.heap.size) (hs:Sl w v bs.length (zL bs)) (hb:∀ b,v.ownBlock=some b->b<w.heap.size) (hl:bs.length<=140737488351232) :
  Cur ((w.ext X).alloc (.cells #[v,.int .i64 0,.int .i64 x] 94)) w.heap.size v bs 0 x:=by
 refine ⟨?_,(hs.ext X).alloc _,Int.le_refl _,by omega,fun e=>absurd (hb _ e) (Nat.lt_irrefl _),hl⟩
 rw [<- hsz]
 exact World.alloc_new _ _
theorem zgu (v:Value) (bs:List UInt8) (w:World) (hs:Sl w v bs.length (zL bs)) (hl:bs.length<=140737488351232) (hb:∀ b,v.ownBlock=some b->b<w.heap.size) :
  Calls Tryz.prog 26 #[v] w fun e w'=>∃ p,e=.returned (.pointer (some ⟨p,0,none⟩))/\(∃ h,Cur w' p v bs 0 h)/\Below w.heap.size w w'/\w.heap.size<=p:=by
 have HS:=Hd hs
 have HB:=Hd hb
 obtain ⟨ao,cap,rfl,hc1,hc2,hnil,hcell⟩:=hs.shape
 have HX:=Hd hcell
 clear hcell hs hb hnil
 unfold maxLen at hc2
 go_enter Tryz.func26,Tryz.ntmps26
 go_wp2
 go_loopw [3,4] (fun hv iv wr=>∃ (x:Int) (n:Nat),hv=.int .i64 x/\iv=.int .i64 n/\n<=bs.length/\n<=4000/\Below w.heap.size w wr/\wr.heap.size=w.heap.size) (fun _ k _=>4000 - (intOf k).toNat)
 case atStart=>exact ⟨_,0,rfl,rfl,by omega,by omega,(by repeat (with_reducible exact Below.refl _ _)),rfl⟩
 case round =>
  obtain ⟨x,n,rfl,rfl,hn1,hn2,hbel,hsz⟩:=hrel
  obtain ⟨X,rfl⟩:=hbel.ext
  by_cases h1:(n:Int)<bs.length
  ·by_cases h2:(n:Int)<4000
   ·obtain ⟨b,off,rfl,hcell⟩:=HX.out (by omega)
    have hk:n<bs.length:=by omega
    have hcc:w.cell? ⟨b,off+n,none⟩=some (.int .u8 (bs[n].toNat)):=hcell n _ (by simp [zL,hk])
    have hbk:bs[n].toNat<256:=bs[n].toNat_lt
    generalize bs[n].toNat=q at hcc hbk
    have hbl:=World.block_lt_of_cell? w _ hcc
    clear hcell
    go_wp2
    go_roundw
    case rel=>exact ⟨_,n+1,rfl,by go_num,by omega,by omega,(by repeat (first|with_reducible exact Below.refl _ _|with_reducible apply Below.ofExt)),by simpa using hsz⟩
    case measure=>simp [intOf];omega
   ·go_wp2
    go_ret
    exact ⟨w.heap.size,rfl,⟨x,newCur (by simpa using hsz) HS.out HB.out hl⟩,(by repeat (first|with_reducible exact Below.refl _ _|with_reducible apply Below.ofExt|with_reducible apply Below.ofAlloc)),Nat.le_refl _⟩
  ·go_wp2
   go_ret
   exact ⟨w.heap.size,rfl,⟨x,newCur (by simpa using hsz) HS.out HB.out hl⟩,(by repeat (first|with_reducible exact Below.refl _ _|with_reducible apply Below.ofExt|with_reducible apply Below.ofAlloc)),Nat.le_refl _⟩
structure Raw where
 a:Option Addr
 n:Nat
 cap:Nat
def Raw.v (r:Raw):Value:=.slice r.a r.n r.cap
structure TxR where
 id:Int
 age:Int
 proc:Int
 began:Int
 calls:Raw
 answers:Raw
 tr:Raw
 tw:Raw
 marks:Raw
 state:Int
def TxR.cells (x:TxR):List Value:=[.int .i64 x.id,.int .i64 x.age,.int .i64 x.proc,.int .i64 x.began,x.calls.v,x.answers.v,x.tr.v,x.tw.v,x.marks.v,.int .i64 x.state]
def TxR.v (x:TxR):Value:=.agg #[.int .i64 x.id,.int .i64 x.age,.int .i64 x.proc,.int .i64 x.began,x.calls.v,x.answers.v,x.tr.v,x.tw.v,x.marks.v,.int .i64 x.state]
def older (x y:TxR):Bool:=decide (x.age<y.age) || (decide (x.age=y.age) && decide (x.id<y.id))
theorem zkD (v:Value) (n:Nat) (cs:List Value) (w:World) (hs:Sl w v n cs):Calls Tryz.prog 5 #[v] w fun e w'=>e=.returned (.bool (decide (1048576<n)))/\w=w':=by
 obtain ⟨ao,cap,rfl,hc1,hc2,hnil,hcell⟩:=hs.shape
 clear hs hnil hcell
 by_cases h:(1048576:Int)<n
 ·have h' : 1048576<n:=by omega
  go_enter Tryz.func5,Tryz.ntmps5
  go_wp2
  go_ret
  exact ⟨by simp [h'],rfl⟩
 ·have h':¬ 1048576<n:=by omega
  go_enter Tryz.func5,Tryz.ntmps5
  go_wp2
  go_ret
  exact ⟨by simp [h'],rfl⟩
theorem _root_.Go.OwnB.setB {e:TypeId} {w:World} {B:Nat} {v:Value} {l:List UInt8} (h:OwnB e w B v l) {p:Nat} (hp:v.ownBlock ≠ some p) (o:Obj):OwnB e (w.setB p o) B v l:=by
 rcases h with hn|⟨g,cap,cur,fz,rfl,h1,h2,rest⟩
 ·exact .inl hn
 ·exact .inr ⟨g,cap,cur,fz,rfl,h1,(World.setB_get w p o g (fun e=>hp (by simp [Value.ownBlock,e]))).trans h2,rest⟩
theorem _root_.Go.OwnB.got {e:TypeId} {w w':World} {B:Nat} {v:Value} {l:List UInt8} {p:Nat} {o:Obj} (h:OwnB e w B v l) (g:Got p w o w') (hp:v.ownBlock ≠ some p):OwnB e w' B v l:=by
 obtain ⟨X,rfl⟩:=g
 exact (h.setB hp o).ext X
theorem Got.appB {e:TypeId} {w w1 w2:World} {v:Value} {l:List UInt8} {p:Nat} {o:Obj} (h:Got p w o w1) (hg:w1.grownBy w2 v.ownBlock) (ho:OwnB e w1 w.heap.size v l):Got p w o w2:=by
 obtain ⟨X,rfl⟩:=h
 have ho':OwnB e ((w.setB p o).ext X) (w.setB p o).heap.size v l:=by rw [zd];exact ho
 exact (RowKit.Below.appB (a:=w.setB p o) ((Below.refl _ _).ofExt X) hg ho').ext
theorem u8_in (x:Int) (h0 : 0<=x) (h1:x<=255):IntKind.u8.wrap x=x:=by
 unfold IntKind.wrap
 simp [IntKind.bits,IntKind.signed]
 omega
theorem zfG (p:Nat) (vb:Value) (bs:List UInt8) (i h n:Int) (w:World) (hc:Cur w p vb bs i h) (hn:n<=4294967296) :
  Calls Tryz.prog 52 #[.pointer (some ⟨p,0,none⟩),.int .i64 n] w fun e w'=>∃ b,e=.returned (.bool b)/\zko p vb bs w w':=by
 have hp:=hc.lt
 have HC:=Hd hc
 clear hc
 go_enter Tryz.func52,Tryz.ntmps52
 go_wp2_with fail
 (go_at_call 63;refine (zao p vb bs _ _ _ _ HC.out hn).mono ?_;rintro e w' ⟨x,i1,h1,rfl,⟨hx0,_,_⟩,hg,hi0,hi1⟩)
 go_wp2
 go_ret
 exact ⟨_,rfl,⟨i1,h1,hg,hi0,hi1⟩⟩
def longT (n:Nat) (c:UInt8):ByteArray:=zX (List.replicate n c)
theorem zla (n:Nat) (c:UInt8):(longT n c).size=n:=by unfold longT;rw [zN,List.length_replicate]
theorem sl_row {w:World} {b n:Nat} {t:TypeId} {x:Int} {c:UInt8} (hx:x=(c.toNat:Int)) (hr:w.rowIs b t n (fun _=>.int .u8 x)) (hn:n<=maxLen):Sl w (.slice (some ⟨b,0,none⟩) n n) (List.replicate n c).length (zL (List.replicate n c)):=by
 subst hx
 refine .inr ⟨b,0,n,by rw [List.length_replicate],by simp,hn,fun j u hj=>?_⟩
 unfold zL at hj
 rw [List.map_replicate,List.getElem?_replicate] at hj
 split at hj
 ·rw [Nat.zero_add]
  cases hj
  exact hr.cell (by assumption)
 ·cases hj
theorem Tryz.info_u8:(Tryz.prog.info? 5).map (fun i=>(i.zero,i.size,i.bytes))=some (some (.int .u8 0),1,1):=by kernel_rfl
theorem ziN (n:Nat) (c:UInt8) (w:World) (hn:n<=100000) :
  Calls Tryz.prog 66 #[.int .i64 n,.int .u8 (c.toNat:Int)] w fun e w'=>e=.returned (.string (longT n c))/\Below w.heap.size w w':=by
 have hmk:=run_make_row' (P:=Tryz.prog) 22 5 (.int .u8 0) 1 Tryz.underlying22 Tryz.info_u8 rfl .i64 .i64 n (by omega) (by omega)
 have hmade:=World.rowIs_made w (.int .u8 0) n 5
 have HMD:=Hd hmade
 clear hmade
 go_enter Tryz.func66,Tryz.ntmps66
 go_wp2
 clear hmk
 go_loopw [6] (fun k wr=>∃ m:Nat,k=.int .i64 m/\m<=n/\wr.rowIs w.heap.size 5 n (fun j=>.int .u8 (if j<m then (c.toNat:Int) else 0))/\Below w.heap.size w wr) (fun k _=>n - (intOf k).toNat)
 case atStart=>exact ⟨0,rfl,by omega,HMD.out.congr (fun j _=>by simp),(by repeat (first|with_reducible exact Below.refl _ _|with_reducible apply Below.ofAlloc))⟩
 case round =>
  obtain ⟨m,rfl,hm,hr,hb⟩:=hrel
  by_cases hlt:(m:Int)<n
  ·have hk:m<n:=by omega
   have hcell:=hr.cell hk
   have hfro:=hr.frozen m
   have hset:=(hr.set m (.int .u8 (c.toNat:Int))).congr (g:=fun j=>.int .u8 (if j<m+1 then (c.toNat:Int) else 0)) (fun j _=>by
    by_cases e:j=m
    ·subst e;simp
    ·by_cases e2:j<m
     ·rw [if_neg e,if_pos e2,if_pos (by omega)]
     ·rw [if_neg e,if_neg e2,if_neg (by omega)])
   have hbs:=hb.setCell (p:=⟨w.heap.size,m,none⟩) (Nat.le_refl _) (.int .u8 (c.toNat:Int))
   have HS:=Hd hset
   have HB:=Hd hbs
   clear hset hbs hr hb
   go_wp2
   go_roundw
   case rel=>exact ⟨m+1,by go_num,by omega,HS.out,HB.out⟩
   case measure=>simp [intOf];omega
  ·have e:m=n:=by omega
   subst e
   have hs:=sl_row rfl (hr.congr (g:=fun _=>.int .u8 (c.toNat:Int)) (fun j hj=>by rw [if_pos hj])) (by unfold maxLen;omega)
   have hcv:=zaB (P:=Tryz.prog) wr zaX Tryz.underlying9 hs
   clear hs hr
   go_wp2
   go_ret
   exact ⟨rfl,hb⟩
theorem ziM (p:Nat) (vb:Value) (bs:List UInt8) (i h:Int) (n:Nat) (w:World) (hc:Cur w p vb bs i h) (hn:n<=5000) :
  Calls Tryz.prog 136 #[.pointer (some ⟨p,0,none⟩),.int .i64 n] w fun e w'=>∃ s,e=.returned (.string s)/\s.size=n/\zko p vb bs w w':=by
 have hp:=hc.lt
 have HC:=Hd hc
 clear hc
 go_enter Tryz.func136,Tryz.ntmps136
 go_wp2
 go_loopw [5,6] (fun v k wr=>∃ (m:Nat) (l:List UInt8) (i' h':Int),k=.int .i64 m/\m<=n/\l.length=m/\OwnB 5 wr w.heap.size v l/\Got p w (zad vb i' h') wr/\0<=i'/\i'<=bs.length) (fun _ k _=>n - (intOf k).toNat)
 case atStart=>exact ⟨0,[],i,h,rfl,by omega,rfl,OwnB.empty _ _,(zdS HC.out.blk).alloc _,HC.out.lo,HC.out.hi⟩
 case round =>
  obtain ⟨m,l,i1,h1,rfl,hm,rfl,ho,hg,hi0,hi1⟩:=hrel
  have hc1:=HC.out.got hg hi0 hi1
  have hvl:=ho.lt
  by_cases hlt:(l.length:Int)<n
  ·obtain ⟨oa,oc,rfl⟩:=ho.form
   have hne:(Value.slice oa l.length oc).ownBlock ≠ some p:=fun e=>by have:=(hvl p e).1;omega
   have HO:=Hd ho
   have HN:=Hd hne
   clear ho hne hvl
   go_wp2_with fail
   (go_at_call 135;refine (zbq p vb bs _ _ _ hc1).mono ?_;rintro e w2 ⟨x,i2,h2,rfl,hx0,hx1,hg2,hj0,hj1⟩)
   have ho2:=HO.out.got hg2 HN.out
   have hgg:=hg.then hg2 hp
   have hz:=hgg.size
   have hw8:=u8_in x hx0 hx1
   obtain ⟨k,rfl⟩:=Int.eq_ofNat_of_zero_le hx0
   have hkc:(k:Int)=((UInt8.ofNat k).toNat:Int):=by simp;omega
   have HO2:=Hd ho2
   have HKC:=Hd hkc
   clear ho2 hkc
   go_wp2_with (at_builtin;refine zA ?_)
   refine zcZ _ zaX rfl (.tmp 15) (.tmp 19) rfl (B:=w.heap.size) (l:=l) (m:=[UInt8.ofNat k]) (HO2.out.alloc _) rfl (zix _ (UInt8.ofNat k) k HKC.out _ _ rfl) rfl (by simp;omega) (by simp;omega) ?_
   intro v4 w4 hown4 hgr4
   have hg4:Got p w _ w4:=Got.appB (hgg.alloc _) hgr4 (HO2.out.alloc _)
   clear hgr4
   go_wp2
   go_roundw
   case rel=>exact ⟨l.length+1,_,i2,h2,by go_num,by omega,by simp,hown4,hg4,hj0,hj1⟩
   case measure=>simp [intOf];omega
  ·have e:l.length=n:=by omega
   subst e
   have hcv:=zaB (P:=Tryz.prog) wr zaX Tryz.underlying9 ho.sl
   obtain ⟨oa,oc,rfl⟩:=ho.form
   clear ho hvl
   go_wp2
   go_ret
   exact ⟨_,rfl,zN l,⟨i1,h1,hg,hi0,hi1⟩⟩
theorem zeD (m:Int) (n:Nat) (x:Int) (c:UInt8) (w:World) (hm:m=(n:Int)) (hx:x=(c.toNat:Int)) (hn:n<=100000) :
  Calls Tryz.prog 66 #[.int .i64 m,.int .u8 x] w fun e w'=>∃ s,e=.returned (.string s)/\s.size=n/\Below w.heap.size w w':=by
 subst hm hx
 refine (ziN n c w hn).mono ?_
 rintro e w' ⟨rfl,hb⟩
 exact ⟨_,rfl,zla n c,hb⟩
theorem zhX (p:Nat) (vb:Value) (bs:List UInt8) (i h m:Int) (w:World) (hc:Cur w p vb bs i h) (h0 : 0<=m) (h1:m<=5000) :
  Calls Tryz.prog 136 #[.pointer (some ⟨p,0,none⟩),.int .i64 m] w fun e w'=>∃ s,e=.returned (.string s)/\(s.size:Int)=m/\zko p vb bs w w':=by
 obtain ⟨n,rfl⟩:=Int.eq_ofNat_of_zero_le h0
 refine (ziM p vb bs i h n w hc (by omega)).mono ?_
 rintro e w' ⟨s,rfl,hs,hd⟩
 exact ⟨s,rfl,by omega,hd⟩
def SmallCall (c:CallD):Prop:=c.name.size<=100/\c.to.size<=100/\c.text.size<=100/\(0<=c.a/\c.a<=100)/\(0<=c.b/\c.b<=100)
theorem SmallCall.ok {c:CallD} (h:SmallCall c):c.ok:=⟨by have:=h.1;omega,by have:=h.2.1;omega,by have:=h.2.2.1;omega⟩
theorem ziO (c:CallD) (hk : 1<=c.kind/\c.kind<=22) (hc:SmallCall c) (w:World) :
  Calls Tryz.prog 137 #[zaM c] w fun e w'=>∃ d:CallD,e=.returned (zaM d)/\SmallCall d/\Below w.heap.size w w':=by
 obtain ⟨kd,nm,tn,ca,cb,tx⟩:=c
 obtain ⟨h1,h2,h3,h4,h5⟩:=hc
 dsimp only at hk h1 h2 h3 h4 h5
 unfold zaM
 dsimp only
 have H1:=Hd h1
 have H2:=Hd h2
 have H3:=Hd h3
 have H4:=Hd h4
 have H5:=Hd h5
 clear h1 h2 h3 h4 h5
 have hcs:kd=1 ∨ kd=2 ∨ kd=3 ∨ kd=4 ∨ kd=5 ∨ kd=6 ∨ kd=7 ∨ kd=8 ∨ kd=9 ∨ kd=10 ∨ kd=11 ∨ kd=12 ∨ kd=13 ∨ kd=14 ∨ kd=15 ∨ kd=16 ∨ kd=17 ∨ kd=18 ∨ kd=19 ∨ kd=20 ∨ kd=21 ∨ kd=22:=by omega
 clear hk
 rcases hcs with rfl|rfl|rfl|rfl|rfl|rfl|rfl|rfl|rfl|rfl|rfl|rfl|rfl|rfl|rfl|rfl|rfl|rfl|rfl|rfl|rfl|rfl
 all_goals go_enter Tryz.func137,Tryz.ntmps137
 all_goals go_wp2
 all_goals refine bodyPost_ret (by simp [results,Tryz.results137,go_sem];rfl) rfl ?_
 all_goals refine ⟨⟨_,_,_,_,_,_⟩,rfl,⟨?_,?_,?_,?_,?_⟩,(by repeat (first|with_reducible exact Below.refl _ _|with_reducible apply Below.ofAlloc))⟩
 all_goals first|exact H1.out|exact H2.out|exact H3.out|exact H4.out|exact H5.out|exact Nat.zero_le _|exact (by decide:(0:Int)<=0/\(0:Int)<=100)
end Go.Proofs.YtpnoehpmgflibaaGreatDoor
