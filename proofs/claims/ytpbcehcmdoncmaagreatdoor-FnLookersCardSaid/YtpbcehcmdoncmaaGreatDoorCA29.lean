/- Texts of this claim, merged: the walks and what they stand on. Each condition stands in its theorem. -/
import Derived.ChangeSlices
import Derived.Test.YtpbcehcmdoncmaaGreatDoorCA13
import Derived.Test.YtpbcehcmdoncmaaGreatDoorCA28
set_option linter.unusedVariables false
set_option linter.unusedSimpArgs false
set_option maxRecDepth 100000
set_option maxHeartbeats 8000000
namespace Go.Proofs.YtpbcehcmdoncmaaGreatDoor
open Go.ChangeShapes Go.WideShapes Go.ChangeAt Go.RowKit
def zfn:List Int:=[1,1,2,3,4,5,6,6,7,7,8,9,10,10,11,11,12,13,14,15,16,17,18,19,20,21,22,22]
theorem ziI:(#[.int .i64 1,.int .i64 1,.int .i64 2,.int .i64 3,.int .i64 4,.int .i64 5,.int .i64 6,.int .i64 6,.int .i64 7,.int .i64 7,.int .i64 8,.int .i64 9,.int .i64 10,.int .i64 10,.int .i64 11,.int .i64 11,.int .i64 12,.int .i64 13,.int .i64 14,.int .i64 15,.int .i64 16,.int .i64 17,.int .i64 18,.int .i64 19,.int .i64 20,.int .i64 21,.int .i64 22,.int .i64 22]:Array Value)=(zfn.flatMap zc7.row).toArray:=rfl
theorem zbn {α : Type} (R:RowOf α) (w:World) (xs:List α) (n:Nat) (hn:n=xs.length) (hm:n<=maxLen) (cs:Array Value) (hcs:cs=(xs.flatMap R.row).toArray) (e:TypeId) (g:Nat) (hg:g=w.heap.size):RdL R (w.alloc (.cells cs e)) (.slice (some ⟨g,0,none⟩) n n) xs:=by
 subst hg
 exact RdL.lit R w xs n hn hm cs hcs e
theorem zju {w:World} {o:Obj} {n:Nat} (h:n=w.heap.size):(w.alloc o).heap[n]?=some o:=by
 subst h
 exact World.alloc_new _ _
theorem kinds_in:∀ k ∈ zfn,1<=k/\k<=22:=by decide
def zhe:List ByteArray:=[⟨#[120]⟩,⟨#[121]⟩,⟨#[108,111,103]⟩]
def zkd:List ByteArray:=[⟨#[120]⟩,⟨#[121]⟩,⟨#[122]⟩]
theorem zfV:∀ s ∈ zhe,s.size<=100:=by decide
theorem zhH:∀ s ∈ zkd,s.size<=100:=by decide
theorem zeV (p:Nat) (vb:Value) (bs:List UInt8) (i h:Int) (w:World) (hc:Cur w p vb bs i h) :
  Calls Tryz.prog 25 #[.pointer (some ⟨p,0,none⟩)] w fun e w'=>∃ c:CallD,e=.returned (zaC c)/\SmallCall c/\zi5 p vb bs w w':=by
 have hp:=hc.lt
 have HC:=Hd hc
 clear hc
 have hbp:w.heap.size ≠ p:=by omega
 go_enter Tryz.func25,Tryz.ntmps25
 go_wp2_with fail
 (go_at_call 27;refine (zaQ p vb bs _ _ _ zfn _ ((HC.out.alloc _).alloc _) (zbn zc7 (w.alloc _) zfn 28 rfl (by decide) _ ziI _ _ (by simp [zc])) (by decide) (by decide) (by simp [Value.ownBlock,zc]<;>omega)).mono ?_;rintro e w1 ⟨kd,i1,h1,rfl,hkd,hg,hi0,hi1⟩)
 have G1:Hid (Got p w (zah vb i1 h1) w1):=(((zcI HC.out.blk).alloc _).alloc _).then hg hp
 have B1:=(hg.other (b:=w.heap.size) (by simp [zc]<;>omega) hbp).trans ((Below.heap_alloc _ _ _ (by simp [zc])).trans (World.alloc_new _ _))
 have l1:=za B1
 have hq:w.heap.size<=w1.heap.size:=Nat.le_of_lt l1
 have hqp:w1.heap.size ≠ p:=by omega
 have HK:=kinds_in kd hkd
 have A1:=Hd B1
 clear hg hkd B1
 go_wp2_with fail
 (go_at_call 15;refine (zbv p vb bs _ _ _ zhe _ (HC.out.got ((G1.out.alloc _).alloc _) hi0 hi1) (zbn zv (w1.alloc _) zhe 3 rfl (by decide) _ rfl _ _ (by simp [zc])) (by decide) (by decide) (by simp [Value.ownBlock,zc]<;>omega)).mono ?_;rintro e w2 ⟨s2,i2,h2,rfl,hs2,hg,hi0,hi1⟩)
 have G2:Hid (Got p w (zah vb i2 h2) w2):=((G1.out.alloc _).alloc _).then hg hp
 have B2:=(hg.other (b:=w1.heap.size) (by simp [zc]<;>omega) hqp).trans ((Below.heap_alloc _ _ _ (by simp)).trans (zju rfl))
 have l2:=za B2
 have A2:=Hd ((hg.other (b:=w.heap.size) (by simp [zc]<;>omega) hbp).trans ((Below.heap_alloc _ _ _ (by simp;omega)).trans ((Below.heap_alloc _ _ _ (by omega)).trans A1.out)))
 clear hg
 rw [<- ze B2]
 clear B2
 go_wp2_with fail
 (go_at_call 15;refine (zbv p vb bs _ _ _ zkd _ (HC.out.got ((G2.out.past hq _).alloc _) hi0 hi1) (zbn zv (w2.setB _ _) zkd 3 rfl (by decide) _ rfl _ _ (by simp [zc])) (by decide) (by decide) (by simp [Value.ownBlock,zc]<;>omega)).mono ?_;rintro e w3 ⟨s3,i3,h3,rfl,hs3,hg,hi0,hi1⟩)
 have G3:Hid (Got p w (zah vb i3 h3) w3):=((G2.out.past hq _).alloc _).then hg hp
 have B3:=(hg.other (b:=w1.heap.size) (by simp [zc]<;>omega) hqp).trans ((Below.heap_alloc _ _ _ (by simp [zc]<;>omega)).trans (World.setB_at _ _ _ l2))
 have l3:=za B3
 have A3:=Hd ((hg.other (b:=w.heap.size) (by simp [zc]<;>omega) hbp).trans ((Below.heap_alloc _ _ _ (by simp [zc]<;>omega)).trans ((World.setB_get _ _ _ _ (by omega)).trans A2.out)))
 clear hg
 rw [<- ze B3]
 clear B3
 go_wp2_with fail
 (go_at_call 18;refine (zae p vb bs _ _ _ _ (HC.out.got (G3.out.past hq _) hi0 hi1) (by omega)).mono ?_;rintro e w4 ⟨n4,i4,h4,rfl,⟨hn4,hm4,_⟩,hg,hi0,hi1⟩)
 have G4:Hid (Got p w (zah vb i4 h4) w4):=(G3.out.past hq _).then hg hp
 have B4:=(hg.other (b:=w1.heap.size) (by simp [zc]<;>omega) hqp).trans (World.setB_at _ _ _ l3)
 have l4:=za B4
 have A4:=Hd ((hg.other (b:=w.heap.size) (by simp [zc]<;>omega) hbp).trans ((World.setB_get _ _ _ _ (by omega)).trans A3.out))
 have hk4:=hm4 (by omega)
 clear hm4
 clear hg
 rw [<- ze B4]
 clear B4
 go_wp2_with fail
 (go_at_call 18;refine (zae p vb bs _ _ _ _ (HC.out.got (G4.out.past hq _) hi0 hi1) (by omega)).mono ?_;rintro e w5 ⟨n5,i5,h5,rfl,⟨hn5,hm5,_⟩,hg,hi0,hi1⟩)
 have G5:Hid (Got p w (zah vb i5 h5) w5):=(G4.out.past hq _).then hg hp
 have B5:=(hg.other (b:=w1.heap.size) (by simp [zc]<;>omega) hqp).trans (World.setB_at _ _ _ l4)
 have l5:=za B5
 have A5:=Hd ((hg.other (b:=w.heap.size) (by simp [zc]<;>omega) hbp).trans ((World.setB_get _ _ _ _ (by omega)).trans A4.out))
 have hk5:=hm5 (by omega)
 clear hm5
 clear hg
 rw [<- ze B5]
 clear B5
 go_wp2_with fail
 (go_at_call 18;refine (zae p vb bs _ _ _ _ (HC.out.got (G5.out.past hq _) hi0 hi1) (by omega)).mono ?_;rintro e w6 ⟨n6,i6,h6,rfl,⟨hn6,hm6,_⟩,hg,hi0,hi1⟩)
 have G6:Hid (Got p w (zah vb i6 h6) w6):=(G5.out.past hq _).then hg hp
 have B6:=(hg.other (b:=w1.heap.size) (by simp [zc]<;>omega) hqp).trans (World.setB_at _ _ _ l5)
 have l6:=za B6
 have A6:=Hd ((hg.other (b:=w.heap.size) (by simp [zc]<;>omega) hbp).trans ((World.setB_get _ _ _ _ (by omega)).trans A5.out))
 have hk6:=hm6 (by omega)
 clear hm6
 clear hg
 rw [<- ze B6]
 clear B6
 go_wp2_with fail
 (go_at_call 63;refine (zg8 p vb bs _ _ _ _ (HC.out.got (G6.out.past hq _) hi0 hi1) hn6 (by omega)).mono ?_;rintro e w7 ⟨tx,rfl,htx,i7,h7,hg,hi0,hi1⟩)
 have G7:Hid (Got p w (zah vb i7 h7) w7):=(G6.out.past hq _).then hg hp
 have B7:=(hg.other (b:=w1.heap.size) (by simp [zc]<;>omega) hqp).trans (World.setB_at _ _ _ l6)
 have l7:=za B7
 have A7:=Hd ((hg.other (b:=w.heap.size) (by simp [zc]<;>omega) hbp).trans ((World.setB_get _ _ _ _ (by omega)).trans A6.out))
 clear hg
 rw [<- ze B7]
 clear B7
 go_wp2_with fail
 ·(go_at_call 18;refine (zae p vb bs _ _ _ _ (HC.out.got (G7.out.past hq _) hi0 hi1) (by omega)).mono ?_;rintro e w8 ⟨n8,i8,h8,rfl,⟨hn8,hm8,_⟩,hg,hi0,hi1⟩)
  have G8:Hid (Got p w (zah vb i8 h8) w8):=(G7.out.past hq _).then hg hp
  have B8:=(hg.other (b:=w1.heap.size) (by simp [zc]<;>omega) hqp).trans (World.setB_at _ _ _ l7)
  have l8:=za B8
  have A8:=Hd ((hg.other (b:=w.heap.size) (by simp [zc]<;>omega) hbp).trans ((World.setB_get _ _ _ _ (by omega)).trans A7.out))
  have hk8:=hm8 (by omega)
  clear hm8
  clear hg
  rw [<- ze B8]
  clear B8
  go_wp2_with fail
  (go_at_call 64;refine (zhP ⟨kd,s2,s3,n8,1+n5,tx⟩ HK ⟨zfV _ hs2,zhH _ hs3,by show tx.size<=100;omega,⟨hn8,by show n8<=100;omega⟩,⟨by show 0<=1+n5;omega,by show 1+n5<=100;omega⟩⟩ _).mono ?_;rintro e w9 ⟨d,rfl,hd,hb⟩)
  have hG:=Hd ((G8.out.past hq _).ofBelow hb)
  have B9:=(hb.block _ (by simp [zc]<;>omega)).trans ((World.setB_get _ _ _ _ (by omega)).trans A8.out)
  have l9:=za B9
  rw [<- ze B9]
  clear B9 hb
  obtain ⟨dk,dn,dt,da,db,dx⟩:=d
  unfold zaC
  dsimp only
  go_wp2
  refine bodyPost_ret (by simp [results,Tryz.results25,go_sem,l9];rfl) rfl ?_
  exact ⟨⟨dk,dn,dt,da,db,dx⟩,rfl,hd,i8,h8,hG.out.past (Nat.le_refl _) _,hi0,hi1⟩
 ·(go_at_call 64;refine (zhP ⟨kd,s2,s3,n4,1+n5,tx⟩ HK ⟨zfV _ hs2,zhH _ hs3,by show tx.size<=100;omega,⟨hn4,by show n4<=100;omega⟩,⟨by show 0<=1+n5;omega,by show 1+n5<=100;omega⟩⟩ _).mono ?_;rintro e w9 ⟨d,rfl,hd,hb⟩)
  have hG:=Hd ((G7.out.past hq _).ofBelow hb)
  have B9:=(hb.block _ (by simp [zc]<;>omega)).trans ((World.setB_get _ _ _ _ (by omega)).trans A7.out)
  have l9:=za B9
  rw [<- ze B9]
  clear B9 hb
  obtain ⟨dk,dn,dt,da,db,dx⟩:=d
  unfold zaC
  dsimp only
  go_wp2
  refine bodyPost_ret (by simp [results,Tryz.results25,go_sem,l9];rfl) rfl ?_
  exact ⟨⟨dk,dn,dt,da,db,dx⟩,rfl,hd,i7,h7,hG.out.past (Nat.le_refl _) _,hi0,hi1⟩
theorem _root_.Go.Got.toBelowR {a w w':World} {p:Nat} {o:Obj} (h:Got p w o w') (hb:Below a.heap.size a w) (hp:a.heap.size<=p):Below a.heap.size a w':=by
 obtain ⟨X,rfl⟩:=h
 refine hb.trans ⟨rfl,rfl,rfl,by rw [zl,zc];omega,fun k hk=>?_⟩
 have:=hb.size
 rw [World.ext_get _ _ (by rw [zc];omega),World.setB_get _ _ _ _ (by omega)]
theorem Tryz.elemIntD:Elem Tryz.prog 29 3 1 8:=Elem.of (.int .i64 0) Tryz.underlying29 (by kernel_rfl) rfl (by decide)
def DrawnPl (w:World) (v:Value) (w':World):Prop:=∃ xs,OwnL zc7 3 w' w.heap.size v xs/\xs.length=12/\(∀ x ∈ xs,0<=x/\x<10000)/\Below w.heap.size w w'
theorem zfM (v:Value) (bs:List UInt8) (w:World) (hs:Sl w v bs.length (zG bs)) (hl:bs.length<=140737488351232) (hb:∀ b,v.ownBlock=some b->b<w.heap.size) :
  Calls Tryz.prog 6 #[v] w fun e w'=>∃ v',e=.returned v'/\DrawnPl w v' w':=by
 go_enter Tryz.func6,Tryz.ntmps6
 go_wp2_with fail
 (go_at_call 11;refine (zfH v bs _ hs hl hb).mono ?_;rintro e w1 ⟨p,rfl,⟨h,hc⟩,hb1,hp⟩)
 have hpl:=hc.lt
 have hz1:=hb1.size
 have HC:=Hd hc
 clear hc
 go_wp2
 go_loopw [4,5] (fun o k wr=>∃ (n:Nat) (xs:List Int) (i' h':Int),k=.int .i64 n/\n<=12/\xs.length=n/\(∀ x ∈ xs,0<=x/\x<10000)/\OwnL zc7 3 wr w1.heap.size o xs/\Got p w1 (zah v i' h') wr/\0<=i'/\i'<=bs.length) (fun _ k _=>12 - (intOf k).toNat)
 case atStart=>exact ⟨0,[],_,h,rfl,by omega,rfl,by simp,OwnL.empty zc7 _ _,(zcI HC.out.blk).alloc _,HC.out.lo,HC.out.hi⟩
 case round =>
  obtain ⟨n,xs,i1,h1,rfl,hn,rfl,hsm,ho,hg,hi0,hi1⟩:=hrel
  have hc1:=HC.out.got hg hi0 hi1
  have hvl:=ho.lt
  obtain ⟨ao,co,rfl⟩:=ho.rd.form
  have hne:(Value.slice ao xs.length co).ownBlock ≠ some p:=fun e=>by have:=(hvl p e).1;omega
  have HO:=Hd ho
  have HP:=Hd hne
  have HSM:=Hd hsm
  clear ho hne hvl hsm
  by_cases hlt:(xs.length:Int)<12
  ·go_wp2_with fail
   (go_at_call 18;refine (zae p v bs _ _ _ _ hc1 (by omega)).mono ?_;rintro e w2 ⟨x,i2,h2,rfl,⟨hx0,hx1,_⟩,hg2,hj0,hj1⟩)
   have hx2:=hx1 (by omega)
   clear hx1
   have ho2:=HO.out.got hg2 HP.out
   have hgg:=hg.then hg2 hpl
   have hz:=hgg.size
   go_wp2_with (at_builtin;refine zy ?_)
   refine zF rfl _ _ _ rfl Tryz.elemIntD (ho2.alloc _) rfl (zaz zc7 _ x _ rfl _ _ rfl) rfl (by simp only [List.length_singleton];omega) (by simp only [List.length_singleton];unfold maxLen;omega) (by simp;omega) ?_
   intro v6 w6 hown6 hgr6 _
   have hg6:Got p w1 _ w6:=Got.app (hgg.alloc _) hgr6 (ho2.alloc _)
   clear hgr6
   have HO6:=Hd hown6
   clear hown6
   go_wp2
   go_roundw
   case rel =>
    refine ⟨xs.length+1,_,i2,h2,by go_num,by omega,by simp,fun y hy=>?_,HO6.out,hg6,hj0,hj1⟩
    rcases List.mem_append.1 hy with hy|hy
    ·exact HSM.out y hy
    ·rw [List.mem_singleton.1 hy]
     exact ⟨hx0,hx2⟩
   case measure=>simp [intOf];omega
  ·have HB:=Hd (hg.toBelowR hb1 hp)
   go_wp2
   go_ret
   exact ⟨_,rfl,xs,HO.out.base (by omega),by omega,HSM.out,HB.out⟩
def Mp.RO {α : Type}:Mp α->Prop
 | ret _=>True
 | look _ f=>∀ v,(f v).RO
 | lay _ _ _=>False
 | under _ f=>∀ ks,(f ks).RO
theorem Mp.ro_run {α : Type} (x:Mp α) (m:MachD) (h:x.RO):(x.run m).2.wr=m.wr/\(x.run m).2.cells=m.cells:=by
 induction x generalizing m with
 | ret a=>exact ⟨rfl,rfl⟩
 | look k g ih=>exact ih _ _ (h _)
 | lay k v n ih=>exact h.elim
 | under p g ih=>exact ih _ _ (h _)
theorem zai {α β : Type} {x:Mp α} {f : α->Mp β} (hx:x.RO) (hf:∀ a,(f a).RO):(x >>= f).RO:=by
 show (Mp.bind x f).RO
 induction x with
 | ret a=>exact hf a
 | look k g ih=>exact fun v=>ih v (hx v)
 | lay k v n ih=>exact hx.elim
 | under p g ih=>exact fun v=>ih v (hx v)
theorem zbs {α : Type} (a : α):(pure a:Mp α).RO:=trivial
theorem zbX {α : Type} {p:Prop} [Decidable p] {x y:Mp α} (hx:x.RO) (hy:y.RO):(if p then x else y).RO:=by
 split<;>assumption
theorem zeP {α β : Type} {f : β->α->Mp β} (hf:∀ b a,(f b a).RO):∀ (l:List α) (b : β),(Mp.fold f b l).RO
 | [],b=>trivial
 | a :: l,b=>zai (hf b a) fun b'=>zeP hf l b'
theorem zix (k:ByteArray):(K.look k).RO:=fun _=>trivial
theorem zjc (k:ByteArray):(K.under k).RO:=fun _=>trivial
theorem zjd (k:ByteArray):(K.num k).RO:=zai (zix k) fun _=>trivial
theorem zkj (n:ByteArray):(K.fileOf n).RO:=zbX (zjd _) (zbs _)
theorem ro_block (id place:Int):(K.block id place).RO:=zai (zix _) fun _=>trivial
theorem zhT (id:Int) (a b:Nat) (out:ByteArray) (place:Nat):(K.readBlock id a b out place).RO:=zai (ro_block _ _) fun _=>trivial
theorem ziw (id a n:Int):(K.readFile id a n).RO:=zai (zjd _) fun _=>zbX (zbs _) (zeP (fun b p=>zhT _ _ _ _ _) _ _)
theorem zjC:K.doNames.RO:=zai (zai (zjc _) fun _=>trivial) fun _=>trivial
theorem ro_kid (p:Int) (out:List Int) (key:ByteArray):(K.kid p out key).RO:=zbX (zai (zjd _) fun _=>trivial) (zbs _)
theorem zkk (p:Int):(K.doKids p).RO:=zai (zai (zjc _) fun _=>zeP (ro_kid p) _ _) fun _=>trivial
theorem zjB (k:ByteArray):(K.message k).RO:=zai (zix k) fun _=>trivial
theorem ziy (id page:Int):(K.loadPage id page).RO:=zbX (zai (zjB _) fun _=>trivial) (zbs _)
theorem zd2 (proc:Int) (c:CallD) (h:(K.doKind proc c).RO):(K.doCall proc c).RO :=
 zai (zjd _) fun _=>zbX (zbs _) (zbX (zbs _) h)
theorem ro_names (proc:Int) (c:CallD) (h:c.kind=5):(K.doCall proc c).RO:=zd2 _ _ (by
 unfold K.doKind
 rw [h]
 exact zjC)
theorem ro_read (proc:Int) (c:CallD) (h:c.kind=6):(K.doCall proc c).RO:=zd2 _ _ (by
 unfold K.doKind
 rw [h]
 show (K.doFile c).RO
 unfold K.doFile
 refine zai (zkj _) fun id=>zbX (zbs _) ?_
 rw [if_pos h]
 exact zai (ziw _ _ _) fun _=>trivial)
theorem ro_kids (proc:Int) (c:CallD) (h:c.kind=15):(K.doCall proc c).RO:=zd2 _ _ (by
 unfold K.doKind
 rw [h]
 exact zkk proc)
theorem ro_load (proc:Int) (c:CallD) (h:c.kind=21):(K.doCall proc c).RO:=zd2 _ _ (by
 unfold K.doKind
 rw [h]
 exact zai (ziy _ _) fun _=>trivial)
theorem Mp.rd_len {α : Type} (x:Mp α) (m:MachD):m.rd.length<=(x.run m).2.rd.length:=by
 induction x generalizing m with
 | ret a=>exact Nat.le_refl _
 | look k g ih=>exact Nat.le_trans (by show m.rd.length<=(zbF m.rd k).length;unfold zbF;split<;>simp<;>omega) (ih _ _)
 | lay k v n ih=>exact ih (m.lay k v)
 | under p g ih=>exact Nat.le_trans (by show m.rd.length<=(zbF m.rd _).length;unfold zbF;split<;>simp<;>omega) (ih _ _)
theorem zjX (proc:Int) (c:CallD) (cs:List CellD) : 0<((K.doCall proc c).run ⟨cs,[],[]⟩).2.rd.length:=by
 obtain ⟨f,hf⟩ : ∃ f:ByteArray->Mp AnswerD,K.doCall proc c=Mp.look (K.procKey proc K.tS) f:=⟨_,rfl⟩
 rw [hf]
 show 0<((f _).run _).2.rd.length
 exact Nat.lt_of_lt_of_le (by show 0<(zbF [] (K.procKey proc K.tS)).length;unfold zbF;simp) (Mp.rd_len _ _)
structure TouchOk (d:TouchD):Prop where
 r:∀ s ∈ d.reads,s.size<=maxLen
 w:∀ s ∈ d.writes,s.size<=maxLen
theorem zi6 {v:Value} {xs:List ByteArray} {w:World} {e:TypeId} (h:(vSlice zkb e).rd w [v] xs):∀ s ∈ xs,s.size<=maxLen:=by
 obtain ⟨_,_,_,_,_,_,_,h⟩:=zer h
 exact h
theorem zhF {cs:List Value} {d:TouchD} {w:World} (h:zeT.rd w cs d):TouchOk d:=by
 obtain ⟨_,_,_,h0,h1⟩:=h
 exact ⟨zi6 h0,zi6 h1⟩
def zaO (xs ys:List ByteArray):Bool:=xs.any fun x=>ys.any fun y=>zao x y
theorem zed (b:Nat) (x y:ByteArray) (w:World) (hx:x.size<=maxLen) (hy:y.size<=maxLen) (hb:w.cell? ⟨b,0,none⟩=some (.string x)) :
  Calls Tryz.prog 89 #[.string y,.pointer (some ⟨b,0,none⟩)] w fun e w'=>e=.returned (.bool (zao x y))/\w=w':=by
 go_enter Tryz.func89,Tryz.ntmps89
 go_wp2_with fail
 (go_at_call 90;refine (zgz x y _ hx hy).mono ?_;rintro e w' ⟨rfl,rfl⟩)
 go_wp2
 go_ret
 exact ⟨rfl,rfl⟩
theorem zgm (v:Value) (ys:List ByteArray) (c:Nat) (x:ByteArray) (w:World) (hs:(vSlice zkb 9).rd w [v] ys) (hx:x.size<=maxLen) (hz:∀ s ∈ ys,s.size<=maxLen) (hcl:c<w.heap.size) (hc:w.cell? ⟨c,0,none⟩=some (.string x)) :
  Calls Tryz.prog 126 #[v,.func (Fn.func 89) #[] #[.pointer (some ⟨c,0,none⟩)]] w fun e w'=>∃ r:Int,e=.returned (.int .i64 r)/\(decide (0<=r)=ys.any fun y=>zao x y)/\Below w.heap.size w w':=by
 obtain ⟨ao,cap,rfl,hc1,hc2,hnil,hcell,_⟩:=zer hs
 have HX:=Hd hcell
 have HZ:=Hd hz
 clear hcell hs hnil hz
 unfold maxLen at hc2
 go_enter Tryz.func126,Tryz.ntmps126
 go_wp2
 go_loopw [8] (fun k wr=>∃ (n:Nat) (X:Ext),k=.int .i64 n/\n<=ys.length/\wr=w.ext X/\(ys.take n).any (fun y=>zao x y)=false) (fun k _=>ys.length - (intOf k).toNat)
 case atStart=>exact ⟨0,⟨#[],_⟩,rfl,by omega,(zeo _ _ rfl).symm,rfl⟩
 case round =>
  obtain ⟨n,X,rfl,hn,rfl,hany⟩:=hrel
  have HA:=Hd hany
  clear hany
  by_cases hlt:(n:Int)<ys.length
  ·have hk:n<ys.length:=by omega
   obtain ⟨b,off,rfl,hbl,hcell⟩:=HX.out (by intro e;simp [e] at hk)
   have hcc:=hcell n hk
   have hstep:=zay (fun y=>zao x y) ys n hk
   have hyz:=HZ.out _ (List.getElem_mem hk)
   generalize ys[n]=y at hcc hstep hyz
   have HT:=Hd hstep
   clear hcell hstep
   cases hm:zao x y with
   | true =>
    go_wp2_with fail
    (go_at_call 89;refine (zed c x y _ hx hyz (by simp [go_sem,hcl,hc])).mono ?_;rintro e w' ⟨rfl,rfl⟩)
    rw [hm]
    go_wp2
    go_ret
    refine ⟨n,rfl,?_,(by repeat (first|with_reducible exact Below.refl _ _|with_reducible apply Below.ofExt))⟩
    rw [zcE _ ys (n+1) (by rw [HT.out,hm,Bool.or_true])]
    simp
   | false =>
    go_wp2_with fail
    (go_at_call 89;refine (zed c x y _ hx hyz (by simp [go_sem,hcl,hc])).mono ?_;rintro e w' ⟨rfl,rfl⟩)
    rw [hm]
    go_wp2
    go_roundw
    case rel=>exact ⟨n+1,_,by go_num,by omega,rfl,by rw [HT.out,HA.out,hm];rfl⟩
    case measure=>simp [intOf];omega
  ·go_wp2
   go_ret
   have e:n=ys.length:=by omega
   subst e
   have ha:=HA.out
   rw [List.take_length] at ha
   refine ⟨-1,rfl,?_,(by repeat (first|with_reducible exact Below.refl _ _|with_reducible apply Below.ofExt))⟩
   rw [ha]
   rfl
theorem zck (v:Value) (ys:List ByteArray) (c:Nat) (x:ByteArray) (w:World) (hs:(vSlice zkb 9).rd w [v] ys) (hx:x.size<=maxLen) (hz:∀ s ∈ ys,s.size<=maxLen) (hcl:c<w.heap.size) (hc:w.cell? ⟨c,0,none⟩=some (.string x)) :
  Calls Tryz.prog 88 #[v,.func (Fn.func 89) #[] #[.pointer (some ⟨c,0,none⟩)]] w fun e w'=>e=.returned (.bool (ys.any fun y=>zao x y))/\Below w.heap.size w w':=by
 go_enter Tryz.func88,Tryz.ntmps88
 go_wp2_with fail
 (go_at_call 126;refine (zgm v ys c x _ hs hx hz hcl hc).mono ?_;rintro e w' ⟨r,rfl,hr,hb⟩;obtain ⟨X,rfl⟩:=hb.ext;clear hb)
 go_wp2
 go_ret
 exact ⟨by rw [<- hr];rfl,(by repeat (first|with_reducible exact Below.refl _ _|with_reducible apply Below.ofExt))⟩
theorem zbf (v v':Value) (xs ys:List ByteArray) (w:World) (hs:(vSlice zkb 9).rd w [v] xs) (hs':(vSlice zkb 9).rd w [v'] ys) (hz:∀ s ∈ xs,s.size<=maxLen) (hz':∀ s ∈ ys,s.size<=maxLen) :
  Calls Tryz.prog 59 #[v,v'] w fun e w'=>e=.returned (.bool (zaO xs ys))/\Below w.heap.size w w':=by
 obtain ⟨ao,cap,rfl,hc1,hc2,hnil,hcell,_⟩:=zer hs
 have HX:=Hd hcell
 have HZ:=Hd hz
 have HZ':=Hd hz'
 have HS':=Hd hs'
 clear hcell hs hnil hz hz' hs'
 unfold maxLen at hc2
 go_enter Tryz.func59,Tryz.ntmps59
 go_wp2
 go_loopw [9] (fun k wr=>∃ (n:Nat),k=.int .i64 n/\n<=xs.length/\Below w.heap.size w wr/\(xs.take n).any (fun x=>ys.any fun y=>zao x y)=false) (fun k _=>xs.length - (intOf k).toNat)
 case atStart=>exact ⟨0,rfl,by omega,(by repeat (with_reducible exact Below.refl _ _)),rfl⟩
 case round =>
  obtain ⟨n,rfl,hn,hbel,hany⟩:=hrel
  obtain ⟨X,rfl⟩:=hbel.ext
  have HA:=Hd hany
  clear hany
  by_cases hlt:(n:Int)<xs.length
  ·have hk:n<xs.length:=by omega
   obtain ⟨b,off,rfl,hbl,hcell⟩:=HX.out (by intro e;simp [e] at hk)
   have hcc:=hcell n hk
   have hstep:=zay (fun x=>ys.any fun y=>zao x y) xs n hk
   have hyz:=HZ.out _ (List.getElem_mem hk)
   generalize xs[n]=x at hcc hstep hyz
   have HT:=Hd hstep
   clear hcell hstep
   cases hm:ys.any fun y=>zao x y with
   | true =>
    go_wp2_with fail
    (go_at_call 88;refine (zck v' ys _ x _ (by (skip);(repeat (first|with_reducible exact HS'.out|with_reducible apply zaX|with_reducible apply zaa));all_goals exact (0:Nat)) hyz HZ'.out (by simp [go_sem]) (by simp [go_sem])).mono ?_;rintro e w' ⟨rfl,hb⟩;obtain ⟨X,rfl⟩:=hb.ext;clear hb)
    rw [hm]
    go_wp2
    go_ret
    exact ⟨by unfold zaO;rw [zcE _ xs (n+1) (by rw [HT.out,hm,Bool.or_true])];rfl,(by repeat (first|with_reducible exact Below.refl _ _|with_reducible apply Below.ofExt|with_reducible apply Below.ofAlloc|with_reducible apply Below.drew|with_reducible apply Below.ofDrewN|with_reducible assumption|(with_reducible refine Below.setCell ?_ (by first|exact Nat.le_refl _|(simp [go_sem];done)|(simp [go_sem];omega)) _)))⟩
   | false =>
    go_wp2_with fail
    (go_at_call 88;refine (zck v' ys _ x _ (by (skip);(repeat (first|with_reducible exact HS'.out|with_reducible apply zaX|with_reducible apply zaa));all_goals exact (0:Nat)) hyz HZ'.out (by simp [go_sem]) (by simp [go_sem])).mono ?_;rintro e w' ⟨rfl,hb⟩;obtain ⟨X,rfl⟩:=hb.ext;clear hb)
    rw [hm]
    go_wp2
    go_roundw
    case rel =>
     exact ⟨n+1,by go_num,by omega,(by repeat (first|with_reducible exact Below.refl _ _|with_reducible apply Below.ofExt|with_reducible apply Below.ofAlloc)),by rw [HT.out,HA.out,hm];rfl⟩
    case measure=>simp [intOf];omega
  ·go_wp2
   go_ret
   have e:n=xs.length:=by omega
   subst e
   have ha:=HA.out
   rw [List.take_length] at ha
   exact ⟨by unfold zaO;rw [ha];rfl,(by repeat (first|with_reducible exact Below.refl _ _|with_reducible apply Below.ofExt))⟩
def zht (d e:TouchD):Bool:=zaO d.writes e.reads || (zaO d.writes e.writes || zaO d.reads e.writes)
theorem zh1 (xs ys:List ByteArray):zaO xs ys=zaO ys xs:=by
 unfold zaO
 rw [Bool.eq_iff_iff]
 simp only [List.any_eq_true]
 constructor
 ·rintro ⟨x,hx,y,hy,h⟩
  exact ⟨y,hy,x,hx,by rw [zdn];exact h⟩
 ·rintro ⟨x,hx,y,hy,h⟩
  exact ⟨y,hy,x,hx,by rw [zdn];exact h⟩
theorem zjR (cs:List Value) (d:TouchD) (cs':List Value) (e:TouchD) (w:World) (hs:zeT.rd w cs d) (hs':zeT.rd w cs' e) :
  Calls Tryz.prog 22 #[.agg cs.toArray,.agg cs'.toArray] w fun x w'=>x=.returned (.bool (zht d e))/\Below w.heap.size w w':=by
 have hd:=zhF hs
 have he:=zhF hs'
 obtain ⟨u1,u2,rfl,hu1,hu2⟩:=hs
 obtain ⟨v1,v2,rfl,hv1,hv2⟩:=hs'
 have HU1:=Hd hu1
 have HU2:=Hd hu2
 have HV1:=Hd hv1
 have HV2:=Hd hv2
 clear hu1 hu2 hv1 hv2
 have h3c:zaO e.writes d.reads=zaO d.reads e.writes:=zh1 _ _
 cases h1:zaO d.writes e.reads with
 | true =>
  go_enter Tryz.func22,Tryz.ntmps22
  go_wp2_with fail
  (go_at_call 59;refine (zbf _ _ d.writes e.reads _ (by (skip);(repeat (first|with_reducible exact HU2.out|with_reducible apply zaa));all_goals exact (0:Nat)) (by (skip);(repeat (first|with_reducible exact HV1.out|with_reducible apply zaa));all_goals exact (0:Nat)) hd.w he.r).mono ?_;rintro e w' ⟨rfl,hb⟩;obtain ⟨X,rfl⟩:=hb.ext;clear hb)
  rw [h1]
  go_wp2
  go_ret
  exact ⟨by simp [zht,h1],(by repeat (first|with_reducible exact Below.refl _ _|with_reducible apply Below.ofExt|with_reducible apply Below.ofAlloc|with_reducible apply Below.drew|with_reducible apply Below.ofDrewN|with_reducible assumption|(with_reducible refine Below.setCell ?_ (by first|exact Nat.le_refl _|(simp [go_sem];done)|(simp [go_sem];omega)) _)))⟩
 | false =>
  cases h2:zaO d.writes e.writes with
  | true =>
   go_enter Tryz.func22,Tryz.ntmps22
   go_wp2_with fail
   (go_at_call 59;refine (zbf _ _ d.writes e.reads _ (by (skip);(repeat (first|with_reducible exact HU2.out|with_reducible apply zaa));all_goals exact (0:Nat)) (by (skip);(repeat (first|with_reducible exact HV1.out|with_reducible apply zaa));all_goals exact (0:Nat)) hd.w he.r).mono ?_;rintro e w' ⟨rfl,hb⟩;obtain ⟨X,rfl⟩:=hb.ext;clear hb)
   rw [h1]
   go_wp2_with fail
   (go_at_call 59;refine (zbf _ _ d.writes e.writes _ (by (skip);(repeat (first|with_reducible exact HU2.out|with_reducible apply zaX|with_reducible apply zaa));all_goals exact (0:Nat)) (by (skip);(repeat (first|with_reducible exact HV2.out|with_reducible apply zaX|with_reducible apply zaa));all_goals exact (0:Nat)) hd.w he.w).mono ?_;rintro e w' ⟨rfl,hb⟩;obtain ⟨X,rfl⟩:=hb.ext;clear hb)
   rw [h2]
   go_wp2
   go_ret
   exact ⟨by simp [zht,h1,h2],(by repeat (first|with_reducible exact Below.refl _ _|with_reducible apply Below.ofExt|with_reducible apply Below.ofAlloc|with_reducible apply Below.drew|with_reducible apply Below.ofDrewN|with_reducible assumption|(with_reducible refine Below.setCell ?_ (by first|exact Nat.le_refl _|(simp [go_sem];done)|(simp [go_sem];omega)) _)))⟩
  | false =>
   go_enter Tryz.func22,Tryz.ntmps22
   go_wp2_with fail
   (go_at_call 59;refine (zbf _ _ d.writes e.reads _ (by (skip);(repeat (first|with_reducible exact HU2.out|with_reducible apply zaa));all_goals exact (0:Nat)) (by (skip);(repeat (first|with_reducible exact HV1.out|with_reducible apply zaa));all_goals exact (0:Nat)) hd.w he.r).mono ?_;rintro e w' ⟨rfl,hb⟩;obtain ⟨X,rfl⟩:=hb.ext;clear hb)
   rw [h1]
   go_wp2_with fail
   (go_at_call 59;refine (zbf _ _ d.writes e.writes _ (by (skip);(repeat (first|with_reducible exact HU2.out|with_reducible apply zaX|with_reducible apply zaa));all_goals exact (0:Nat)) (by (skip);(repeat (first|with_reducible exact HV2.out|with_reducible apply zaX|with_reducible apply zaa));all_goals exact (0:Nat)) hd.w he.w).mono ?_;rintro e w' ⟨rfl,hb⟩;obtain ⟨X,rfl⟩:=hb.ext;clear hb)
   rw [h2]
   go_wp2_with fail
   (go_at_call 59;refine (zbf _ _ e.writes d.reads _ (by (skip);(repeat (first|with_reducible exact HV2.out|with_reducible apply ze2|with_reducible apply zaX|with_reducible apply zaa));all_goals exact (0:Nat)) (by (skip);(repeat (first|with_reducible exact HU1.out|with_reducible apply ze2|with_reducible apply zaX|with_reducible apply zaa));all_goals exact (0:Nat)) he.w hd.r).mono ?_;rintro e w' ⟨rfl,hb⟩;obtain ⟨X,rfl⟩:=hb.ext;clear hb)
   rw [h3c]
   go_wp2
   go_ret
   exact ⟨by simp [zht,h1,h2],(by repeat (first|with_reducible exact Below.refl _ _|with_reducible apply Below.ofExt|with_reducible apply Below.ofAlloc))⟩
theorem zfe {P:Program} {W:World} {base:Nat} {t e:TypeId} {a:Addr} {len cap:Nat} (ht:P.underlying t=some (.slice e)) (h:Value.okWide P W .any base t (.slice (some a) len cap)) :
  a.spot=none/\a.block<W.heap.size/\len<=cap/\cap<=maxLen:=by
 unfold Value.okWide at h
 rw [ht] at h
 unfold Cell.okWide at h
 rw [ht] at h
 unfold Cell.ok at h
 rw [ht] at h
 obtain ⟨h1,h2,_,h3,row,cells,h4,_⟩:=h
 refine ⟨h3,?_,h1,?_⟩
 ·unfold World.shape? at h4
  rcases Nat.lt_or_ge a.block W.heap.size with h|h
  ·exact h
  ·rw [Array.getElem?_eq_none h] at h4
   cases h4
 ·have:IntKind.i64.max=9223372036854775807:=by decide
  unfold maxLen
  omega
theorem open_bytes {H:Type} {enc:TypeId × Value->H} {P:Program} {W:World} {base:Nat} {t e:TypeId} {v:Value} {d:DataW H} {p:List MemPlace} (ht:P.underlying t=some (.slice e)) (he:P.underlying e=some (.int .u8)) (hc:P.cellsOf e=1)
  (hv:Value.okWide P W .any base t v) (h:DataW.Trod enc P W 0 (fun _=>true) true t v d p):∃ bs:List UInt8,Sl W v bs.length (zG bs)/\∀ b,v.ownBlock=some b->b<W.heap.size:=by
 obtain ⟨ao,len,cap,rfl⟩:=okWide_slice ht hv
 obtain ⟨fuel,hf⟩:=h
 rcases open_ints ht he hc hf with ⟨h1,_⟩|⟨a,len',cap',zs,h1,_,h2,h3,h4,_,h5,h6⟩
 ·simp only [Value.cells,List.cons.injEq,and_true,Value.slice.injEq] at h1
  obtain ⟨rfl,rfl,rfl⟩:=h1
  exact ⟨[],.inl ⟨rfl,rfl,rfl⟩,fun b hb=>by simp [Value.ownBlock] at hb⟩
 ·simp only [Value.cells,List.cons.injEq,and_true,Value.slice.injEq] at h1
  obtain ⟨rfl,rfl,rfl⟩:=h1
  obtain ⟨g1,g2,_,_⟩:=zfe ht hv
  obtain ⟨b,off,sp⟩:=a
  simp only at g1 g2
  subst g1
  simp only [if_true] at h4
  have hl:((zs.take len).map fun n=>UInt8.ofNat n.toNat).length=len:=by simp;omega
  refine ⟨(zs.take len).map fun n=>UInt8.ofNat n.toNat,.inr ⟨b,off,cap,by rw [hl],by omega,h3,fun j u hj=>?_⟩,fun k hk=>by simp [Value.ownBlock] at hk;omega⟩
  have hjl:j<len:=by
   have:=(List.getElem?_eq_some_iff.1 hj).1
   simp [zG] at this
   omega
  have hz:j<zs.length:=by omega
  have:=h5 j hz
  have ea:(Addr.add ⟨b,off,none⟩ j)=⟨b,off+j,none⟩:=by
   unfold Addr.add
   split
   ·next h=>subst h;rfl
   ·rfl
  rw [ea] at this
  rw [this]
  simp only [zG,List.map_map,List.getElem?_map,List.getElem?_take,hjl,if_true,List.getElem?_eq_getElem hz,Option.map_some,Option.some.injEq,Function.comp] at hj
  rw [<- hj,List.getD_eq_getElem?_getD,List.getElem?_eq_getElem hz]
  have hr:=bounds_u8 (h6 zs[j] (List.getElem_mem hz))
  simp only [Option.getD_some,Option.some.injEq,Value.int.injEq,true_and]
  have:(UInt8.ofNat zs[j].toNat).toNat=zs[j].toNat:=by simp [UInt8.toNat_ofNat'];omega
  rw [this]
  omega
end Go.Proofs.YtpbcehcmdoncmaaGreatDoor
