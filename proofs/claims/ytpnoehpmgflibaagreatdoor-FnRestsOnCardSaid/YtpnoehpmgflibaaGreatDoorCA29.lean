/- Texts of this claim, merged: the walks and what they stand on. Each condition stands in its theorem. -/
import Derived.Test.YtpnoehpmgflibaaGreatDoorCA13
import Derived.Test.YtpnoehpmgflibaaGreatDoorCA28
set_option linter.unusedVariables false
set_option linter.unusedSimpArgs false
set_option maxRecDepth 100000
set_option maxHeartbeats 8000000
namespace Go.Proofs.YtpnoehpmgflibaaGreatDoor
open Go.ChangeShapes Go.WideShapes Go.ChangeAt Go.RowKit
def zf9:List Int:=[1,1,2,3,4,5,6,6,7,7,8,9,10,10,11,11,12,13,14,15,16,17,18,19,20,21,22,22]
theorem zj1:(#[.int .i64 1,.int .i64 1,.int .i64 2,.int .i64 3,.int .i64 4,.int .i64 5,.int .i64 6,.int .i64 6,.int .i64 7,.int .i64 7,.int .i64 8,.int .i64 9,.int .i64 10,.int .i64 10,.int .i64 11,.int .i64 11,.int .i64 12,.int .i64 13,.int .i64 14,.int .i64 15,.int .i64 16,.int .i64 17,.int .i64 18,.int .i64 19,.int .i64 20,.int .i64 21,.int .i64 22,.int .i64 22]:Array Value)=(zf9.flatMap zep.row).toArray:=rfl
theorem zbH {α : Type} (R:RowOf α) (w:World) (xs:List α) (n:Nat) (hn:n=xs.length) (hm:n<=maxLen) (cs:Array Value) (hcs:cs=(xs.flatMap R.row).toArray) (e:TypeId) (g:Nat) (hg:g=w.heap.size):RdL R (w.alloc (.cells cs e)) (.slice (some ⟨g,0,none⟩) n n) xs:=by
 subst hg
 exact RdL.lit R w xs n hn hm cs hcs e
theorem ziv {w:World} {o:Obj} {n:Nat} (h:n=w.heap.size):(w.alloc o).heap[n]?=some o:=by
 subst h
 exact World.alloc_new _ _
theorem kinds_in:∀ k ∈ zf9,1<=k/\k<=22:=by decide
def zh9:List ByteArray:=[⟨#[120]⟩,⟨#[121]⟩,⟨#[108,111,103]⟩]
def zlF:List ByteArray:=[⟨#[120]⟩,⟨#[121]⟩,⟨#[122]⟩]
theorem zgL:∀ s ∈ zh9,s.size<=100:=by decide
theorem ziE:∀ s ∈ zlF,s.size<=100:=by decide
theorem zfF (p:Nat) (vb:Value) (bs:List UInt8) (i h:Int) (w:World) (hc:Cur w p vb bs i h) :
  Calls Tryz.prog 64 #[.pointer (some ⟨p,0,none⟩)] w fun e w'=>∃ c:CallD,e=.returned (zaM c)/\SmallCall c/\zko p vb bs w w':=by
 have hp:=hc.lt
 have HC:=Hd hc
 clear hc
 have hbp:w.heap.size ≠ p:=by omega
 go_enter Tryz.func64,Tryz.ntmps64
 go_wp2_with fail
 (go_at_call 65;refine (za4 p vb bs _ _ _ zf9 _ ((HC.out.alloc _).alloc _) (zbH zep (w.alloc _) zf9 28 rfl (by decide) _ zj1 _ _ (by simp [zd])) (by decide) (by decide) (by simp [Value.ownBlock,zd]<;>omega)).mono ?_;rintro e w1 ⟨kd,i1,h1,rfl,hkd,hg,hi0,hi1⟩)
 have G1:Hid (Got p w (zad vb i1 h1) w1):=(((zdS HC.out.blk).alloc _).alloc _).then hg hp
 have B1:=(hg.other (b:=w.heap.size) (by simp [zd]<;>omega) hbp).trans ((Below.heap_alloc _ _ _ (by simp [zd])).trans (World.alloc_new _ _))
 have l1:=za B1
 have hq:w.heap.size<=w1.heap.size:=Nat.le_of_lt l1
 have hqp:w1.heap.size ≠ p:=by omega
 have HK:=kinds_in kd hkd
 have A1:=Hd B1
 clear hg hkd B1
 go_wp2_with fail
 (go_at_call 53;refine (zbp p vb bs _ _ _ zh9 _ (HC.out.got ((G1.out.alloc _).alloc _) hi0 hi1) (zbH zx (w1.alloc _) zh9 3 rfl (by decide) _ rfl _ _ (by simp [zd])) (by decide) (by decide) (by simp [Value.ownBlock,zd]<;>omega)).mono ?_;rintro e w2 ⟨s2,i2,h2,rfl,hs2,hg,hi0,hi1⟩)
 have G2:Hid (Got p w (zad vb i2 h2) w2):=((G1.out.alloc _).alloc _).then hg hp
 have B2:=(hg.other (b:=w1.heap.size) (by simp [zd]<;>omega) hqp).trans ((Below.heap_alloc _ _ _ (by simp)).trans (ziv rfl))
 have l2:=za B2
 have A2:=Hd ((hg.other (b:=w.heap.size) (by simp [zd]<;>omega) hbp).trans ((Below.heap_alloc _ _ _ (by simp;omega)).trans ((Below.heap_alloc _ _ _ (by omega)).trans A1.out)))
 clear hg
 rw [<- ze B2]
 clear B2
 go_wp2_with fail
 (go_at_call 53;refine (zbp p vb bs _ _ _ zlF _ (HC.out.got ((G2.out.past hq _).alloc _) hi0 hi1) (zbH zx (w2.setB _ _) zlF 3 rfl (by decide) _ rfl _ _ (by simp [zd])) (by decide) (by decide) (by simp [Value.ownBlock,zd]<;>omega)).mono ?_;rintro e w3 ⟨s3,i3,h3,rfl,hs3,hg,hi0,hi1⟩)
 have G3:Hid (Got p w (zad vb i3 h3) w3):=((G2.out.past hq _).alloc _).then hg hp
 have B3:=(hg.other (b:=w1.heap.size) (by simp [zd]<;>omega) hqp).trans ((Below.heap_alloc _ _ _ (by simp [zd]<;>omega)).trans (World.setB_at _ _ _ l2))
 have l3:=za B3
 have A3:=Hd ((hg.other (b:=w.heap.size) (by simp [zd]<;>omega) hbp).trans ((Below.heap_alloc _ _ _ (by simp [zd]<;>omega)).trans ((World.setB_get _ _ _ _ (by omega)).trans A2.out)))
 clear hg
 rw [<- ze B3]
 clear B3
 go_wp2_with fail
 (go_at_call 63;refine (zao p vb bs _ _ _ _ (HC.out.got (G3.out.past hq _) hi0 hi1) (by omega)).mono ?_;rintro e w4 ⟨n4,i4,h4,rfl,⟨hn4,hm4,_⟩,hg,hi0,hi1⟩)
 have G4:Hid (Got p w (zad vb i4 h4) w4):=(G3.out.past hq _).then hg hp
 have B4:=(hg.other (b:=w1.heap.size) (by simp [zd]<;>omega) hqp).trans (World.setB_at _ _ _ l3)
 have l4:=za B4
 have A4:=Hd ((hg.other (b:=w.heap.size) (by simp [zd]<;>omega) hbp).trans ((World.setB_get _ _ _ _ (by omega)).trans A3.out))
 have hk4:=hm4 (by omega)
 clear hm4
 clear hg
 rw [<- ze B4]
 clear B4
 go_wp2_with fail
 (go_at_call 63;refine (zao p vb bs _ _ _ _ (HC.out.got (G4.out.past hq _) hi0 hi1) (by omega)).mono ?_;rintro e w5 ⟨n5,i5,h5,rfl,⟨hn5,hm5,_⟩,hg,hi0,hi1⟩)
 have G5:Hid (Got p w (zad vb i5 h5) w5):=(G4.out.past hq _).then hg hp
 have B5:=(hg.other (b:=w1.heap.size) (by simp [zd]<;>omega) hqp).trans (World.setB_at _ _ _ l4)
 have l5:=za B5
 have A5:=Hd ((hg.other (b:=w.heap.size) (by simp [zd]<;>omega) hbp).trans ((World.setB_get _ _ _ _ (by omega)).trans A4.out))
 have hk5:=hm5 (by omega)
 clear hm5
 clear hg
 rw [<- ze B5]
 clear B5
 go_wp2_with fail
 (go_at_call 63;refine (zao p vb bs _ _ _ _ (HC.out.got (G5.out.past hq _) hi0 hi1) (by omega)).mono ?_;rintro e w6 ⟨n6,i6,h6,rfl,⟨hn6,hm6,_⟩,hg,hi0,hi1⟩)
 have G6:Hid (Got p w (zad vb i6 h6) w6):=(G5.out.past hq _).then hg hp
 have B6:=(hg.other (b:=w1.heap.size) (by simp [zd]<;>omega) hqp).trans (World.setB_at _ _ _ l5)
 have l6:=za B6
 have A6:=Hd ((hg.other (b:=w.heap.size) (by simp [zd]<;>omega) hbp).trans ((World.setB_get _ _ _ _ (by omega)).trans A5.out))
 have hk6:=hm6 (by omega)
 clear hm6
 clear hg
 rw [<- ze B6]
 clear B6
 go_wp2_with fail
 (go_at_call 136;refine (zhX p vb bs _ _ _ _ (HC.out.got (G6.out.past hq _) hi0 hi1) hn6 (by omega)).mono ?_;rintro e w7 ⟨tx,rfl,htx,i7,h7,hg,hi0,hi1⟩)
 have G7:Hid (Got p w (zad vb i7 h7) w7):=(G6.out.past hq _).then hg hp
 have B7:=(hg.other (b:=w1.heap.size) (by simp [zd]<;>omega) hqp).trans (World.setB_at _ _ _ l6)
 have l7:=za B7
 have A7:=Hd ((hg.other (b:=w.heap.size) (by simp [zd]<;>omega) hbp).trans ((World.setB_get _ _ _ _ (by omega)).trans A6.out))
 clear hg
 rw [<- ze B7]
 clear B7
 go_wp2_with fail
 ·(go_at_call 63;refine (zao p vb bs _ _ _ _ (HC.out.got (G7.out.past hq _) hi0 hi1) (by omega)).mono ?_;rintro e w8 ⟨n8,i8,h8,rfl,⟨hn8,hm8,_⟩,hg,hi0,hi1⟩)
  have G8:Hid (Got p w (zad vb i8 h8) w8):=(G7.out.past hq _).then hg hp
  have B8:=(hg.other (b:=w1.heap.size) (by simp [zd]<;>omega) hqp).trans (World.setB_at _ _ _ l7)
  have l8:=za B8
  have A8:=Hd ((hg.other (b:=w.heap.size) (by simp [zd]<;>omega) hbp).trans ((World.setB_get _ _ _ _ (by omega)).trans A7.out))
  have hk8:=hm8 (by omega)
  clear hm8
  clear hg
  rw [<- ze B8]
  clear B8
  go_wp2_with fail
  (go_at_call 137;refine (ziO ⟨kd,s2,s3,n8,1+n5,tx⟩ HK ⟨zgL _ hs2,ziE _ hs3,by show tx.size<=100;omega,⟨hn8,by show n8<=100;omega⟩,⟨by show 0<=1+n5;omega,by show 1+n5<=100;omega⟩⟩ _).mono ?_;rintro e w9 ⟨d,rfl,hd,hb⟩)
  have hG:=Hd ((G8.out.past hq _).ofBelow hb)
  have B9:=(hb.block _ (by simp [zd]<;>omega)).trans ((World.setB_get _ _ _ _ (by omega)).trans A8.out)
  have l9:=za B9
  rw [<- ze B9]
  clear B9 hb
  obtain ⟨dk,dn,dt,da,db,dx⟩:=d
  unfold zaM
  dsimp only
  go_wp2
  refine bodyPost_ret (by simp [results,Tryz.results64,go_sem,l9];rfl) rfl ?_
  exact ⟨⟨dk,dn,dt,da,db,dx⟩,rfl,hd,i8,h8,hG.out.past (Nat.le_refl _) _,hi0,hi1⟩
 ·(go_at_call 137;refine (ziO ⟨kd,s2,s3,n4,1+n5,tx⟩ HK ⟨zgL _ hs2,ziE _ hs3,by show tx.size<=100;omega,⟨hn4,by show n4<=100;omega⟩,⟨by show 0<=1+n5;omega,by show 1+n5<=100;omega⟩⟩ _).mono ?_;rintro e w9 ⟨d,rfl,hd,hb⟩)
  have hG:=Hd ((G7.out.past hq _).ofBelow hb)
  have B9:=(hb.block _ (by simp [zd]<;>omega)).trans ((World.setB_get _ _ _ _ (by omega)).trans A7.out)
  have l9:=za B9
  rw [<- ze B9]
  clear B9 hb
  obtain ⟨dk,dn,dt,da,db,dx⟩:=d
  unfold zaM
  dsimp only
  go_wp2
  refine bodyPost_ret (by simp [results,Tryz.results64,go_sem,l9];rfl) rfl ?_
  exact ⟨⟨dk,dn,dt,da,db,dx⟩,rfl,hd,i7,h7,hG.out.past (Nat.le_refl _) _,hi0,hi1⟩
open Mp
def NoStar (k:ByteArray):Prop:=∀ b ∈ k.data.toList,b ≠ 42
theorem NoStar.app {a b:ByteArray} (ha:NoStar a) (hb:NoStar b):NoStar (a++b):=by
 intro x hx
 rw [ByteArray.data_append,Array.toList_append,List.mem_append] at hx
 exact hx.elim (ha x) (hb x)
theorem NoStar.sub {a:ByteArray} (ha:NoStar a) (i j:Nat):NoStar (a.extract i j):=by
 intro x hx
 rw [ByteArray.data_extract,Array.toList_extract,List.extract_eq_take_drop] at hx
 exact ha x (List.mem_of_mem_drop (List.mem_of_mem_take hx))
theorem NoStar.shut {a:ByteArray} (h:NoStar a):zaG a=false:=by
 cases he:zaG a with
 | false=>rfl
 | true =>
  unfold zaG at he
  rw [Bool.and_eq_true,beq_iff_eq,ByteArray.toList_eq] at he
  exact absurd rfl ((h.sub _ _) 42 (by rw [he.2];exact List.mem_cons_self))
theorem NoStar.ofOk {k:ByteArray} (h:zbc k=true):NoStar k:=by
 intro b hb e
 unfold zbc at h
 rw [Bool.and_eq_true,List.all_eq_true] at h
 have:=h.1 b hb
 subst e
 revert this
 decide
theorem dec_ne (u:Nat):∀ b ∈ Lib.decDigits u,b ≠ 42:=by
 induction u using Nat.strongRecOn with
 | ind u ih =>
  intro b hb
  have hd:∀ v:Nat,v<10->UInt8.ofNat (48+v) ≠ 42:=by
   intro v hv e
   have:v=0 ∨ v=1 ∨ v=2 ∨ v=3 ∨ v=4 ∨ v=5 ∨ v=6 ∨ v=7 ∨ v=8 ∨ v=9:=by omega
   rcases this with rfl|rfl|rfl|rfl|rfl|rfl|rfl|rfl|rfl|rfl<;>revert e<;>decide
  rw [Lib.decDigits] at hb
  split at hb
  ·rename_i h
   rw [List.mem_singleton.1 hb]
   exact hd u h
  ·rename_i h
   rcases List.mem_append.1 hb with hb|hb
   ·exact ih (u / 10) (by omega) b hb
   ·rw [List.mem_singleton.1 hb]
    exact hd (u % 10) (by omega)
theorem NoStar.num (n:Int):NoStar (zX (Lib.itoa n)):=by
 intro b hb
 have hb:b ∈ Lib.itoa n:=by unfold zX at hb;simpa using hb
 unfold Lib.itoa at hb
 split at hb
 ·rcases List.mem_cons.1 hb with rfl|hb
  ·decide
  ·exact dec_ne _ b hb
 ·exact dec_ne _ b hb
theorem NoStar.key {h t:ByteArray} (hh:NoStar h) (n:Int) (ht:NoStar t):NoStar (zO h n t):=(hh.app (NoStar.num n)).app ht
theorem NoStar.name {s:ByteArray} (h:K.nameOk s=true):NoStar s:=by
 intro b hb e
 unfold K.nameOk at h
 rw [Bool.and_eq_true,List.all_eq_true] at h
 have:=h.1 b hb
 subst e
 revert this
 decide
instance (k:ByteArray):Decidable (NoStar k):=inferInstanceAs (Decidable (∀ b ∈ k.data.toList,b ≠ 42))
def Mp.Sm {α : Type} (Q : α->Prop):Mp α->Prop
 | ret a=>Q a
 | look _ f=>∀ v:ByteArray,v.size<=60->(f v).Sm Q
 | lay k v n=>NoStar k/\v.size<=60/\n.Sm Q
 | under _ f=>∀ ks:List ByteArray,(∀ k ∈ ks,NoStar k)->(f ks).Sm Q
theorem zh {α β : Type} {P : α->Prop} {Q : β->Prop} {x:Mp α} {f : α->Mp β} (hx:x.Sm P) (hf:∀ a,P a->(f a).Sm Q):(x >>= f).Sm Q:=by
 show (Mp.bind x f).Sm Q
 induction x with
 | ret a=>exact hf a hx
 | look k g ih=>exact fun v hv=>ih v (hx v hv)
 | lay k v n ih=>exact ⟨hx.1,hx.2.1,ih hx.2.2⟩
 | under p g ih=>exact fun ks hk=>ih ks (hx ks hk)
def Any {α : Type} (_ : α):Prop:=True
theorem zv {α : Type} {Q : α->Prop} {p:Prop} [Decidable p] {x y:Mp α} (hx:p->x.Sm Q) (hy:¬ p->y.Sm Q):(if p then x else y).Sm Q:=by
 split
 ·rename_i h;exact hx h
 ·rename_i h;exact hy h
theorem zdP {α β : Type} {f : β->α->Mp β} {P : α->Prop} (hf:∀ b a,P a->(f b a).Sm Any):∀ (l:List α) (b : β),(∀ a ∈ l,P a)->(Mp.fold f b l).Sm Any
 | [],b,_=>trivial
 | a :: l,b,h=>zh (hf b a (h a List.mem_cons_self)) fun b' _=>zdP hf l b' fun x hx=>h x (List.mem_cons_of_mem _ hx)
theorem zcY {α : Type} {f : α->Mp Unit} {P : α->Prop} (hf:∀ a,P a->(f a).Sm Any):∀ (l:List α),(∀ a ∈ l,P a)->(Mp.each f l).Sm Any
 | [],_=>trivial
 | a :: l,h=>zh (hf a (h a List.mem_cons_self)) fun _ _=>zcY hf l fun x hx=>h x (List.mem_cons_of_mem _ hx)
theorem zh1 (k:ByteArray):(K.look k).Sm (fun v=>v.size<=60):=fun v hv=>hv
theorem zce {k v:ByteArray} (hk:NoStar k) (hv:v.size<=60):(K.lay k v).Sm Any:=⟨hk,hv,trivial⟩
theorem zeH (p:ByteArray):(K.under p).Sm (fun ks=>∀ k ∈ ks,NoStar k):=fun ks h=>h
theorem zjF (p:ByteArray):(K.wipe p).Sm Any:=zh (zeH p) fun ks h=>zcY (fun k hk=>zce hk (by decide)) ks h
theorem zaO (k:ByteArray):(K.num k).Sm Any:=zh (zh1 k) fun _ _=>trivial
theorem zjV (n:Int):(K.numText n).size<=60:=by
 unfold K.numText
 split
 ·rename_i h
  rw [zN]
  have:=Lib.itoa_length_le n (by omega) (by omega)
  omega
 ·decide
theorem za1 {k:ByteArray} (hk:NoStar k) (n:Int):(K.setNum k n).Sm Any:=zce hk (zjV n)
theorem zjO {k:ByteArray} (hk:NoStar k):(K.bump k).Sm Any:=zh (zaO k) fun n _=>zv (fun _=>trivial) fun _=>zh (za1 hk _) fun _ _=>trivial
theorem zj6 (l:List UInt8):(Lib.Hx.encode l).length=2*l.length:=Lib.Hx.encode_length l
theorem zkG {s:ByteArray} (h:s.size<=30):(zfb s).size<=60:=by
 unfold zfb
 split
 ·rw [zN,zj6]
  have:s.data.toList.length=s.size:=by simp
  omega
 ·decide
theorem zlD {v:ByteArray} (h:v.size<=60):(zb2 v).size<=30:=by
 unfold zb2
 split
 ·rename_i d hd
  split
  ·rename_i hh
   have e:=congrArg List.length hh.2
   rw [zj6] at e
   have:v.data.toList.length=v.size:=by simp
   rw [zN]
   omega
  ·decide
 ·decide
theorem zh2 (id place:Int):(K.block id place).Sm (fun s=>s.size<=30):=zh (zh1 _) fun v hv=>zlD hv
theorem ns_I (id:Int) {t:ByteArray} (ht:NoStar t):NoStar (zO K.nI id t):=NoStar.key (by decide) id ht
theorem zh8 (id place:Int):NoStar (K.blockKey id place):=NoStar.key (ns_I id (by decide)) place (by decide)
theorem ns_N {name:ByteArray} (h:K.nameOk name=true):NoStar (K.nN++name):=NoStar.app (by decide) (NoStar.name h)
theorem zcf (n:ByteArray):(K.fileOf n).Sm Any:=zv (fun _=>zaO _) fun _=>trivial
theorem zjL (name:ByteArray):(K.makeName name).Sm Any:=zv (fun h =>
 zh (zcf _) fun id _=>zv (fun _=>trivial) fun _=>zh (zaO _) fun many _=>zv (fun _=>trivial) fun _ =>
  zh (zjO (by decide)) fun id _=>zh (za1 (ns_N h) _) fun _ _=>zh (za1 (ns_I id (by decide)) _) fun _ _=>trivial) fun _=>trivial
theorem zjN (a b:ByteArray):(K.linkName a b).Sm Any:=zv (fun h =>
 zh (zcf _) fun id _=>zv (fun _=>trivial) fun _=>zh (zcf _) fun other _=>zv (fun _=>trivial) fun _ =>
  zh (zaO _) fun links _=>zv (fun _=>trivial) fun _=>zh (za1 (ns_N h.2) _) fun _ _=>zh (za1 (ns_I id (by decide)) _) fun _ _=>trivial) fun _=>trivial
theorem zeG (a:ByteArray):(K.unlinkName a).Sm Any:=zv (fun h =>
 zh (zcf _) fun id _=>zv (fun _=>trivial) fun _=>zh (zce (ns_N h) (by decide)) fun _ _=>zh (zaO _) fun links _ =>
  zv (fun _=>zh (za1 (ns_I id (by decide)) _) fun _ _=>trivial) fun _=>zh (zjF _) fun _ _=>trivial) fun _=>trivial
theorem zh0 (a b:ByteArray):(K.renameName a b).Sm Any:=zv (fun h =>
 zh (zcf _) fun id _=>zv (fun _=>trivial) fun _=>zh (zcf _) fun other _=>zv (fun _=>trivial) fun _ =>
  zv (fun _=>zh (zeG _) fun _ _=>zh (za1 (ns_N h.2) _) fun _ _=>zh (zce (ns_N h.1) (by decide)) fun _ _=>trivial)
   fun _=>zh (za1 (ns_N h.2) _) fun _ _=>zh (zce (ns_N h.1) (by decide)) fun _ _=>trivial) fun _=>trivial
theorem sm_names:K.names.Sm Any:=zh (zeH _) fun _ _=>trivial
theorem zjI (id a n:Int):(K.readFile id a n).Sm Any:=zh (zaO _) fun size _=>zv (fun _=>trivial) fun _ =>
 zdP (f:=K.readBlock id a.toNat (a+min n (size - a)).toNat) (P:=Any) (fun b p _=>zh (zh2 _ _) fun _ _=>by exact trivial) _ _ fun _ _=>trivial
theorem zlQ (b:List UInt8) (i:Nat) (c:UInt8):(K.setAt b i c).length=max b.length (i+1):=by
 unfold K.setAt
 rw [List.length_set,List.length_append,List.length_replicate]
 omega
theorem zhN (text:List UInt8) (a pl:Nat):∀ (l:List Nat) (old:List UInt8),old.length<=30->(∀ k ∈ l,k<pl*8+8)->(l.foldl (fun l k=>K.setAt l (k - pl*8) (text.getD (k - a) 0)) old).length<=30
 | [],old,h,_=>h
 | k :: l,old,h,hk=>by
  rw [List.foldl_cons]
  refine zhN text a pl l _ ?_ fun x hx=>hk x (List.mem_cons_of_mem _ hx)
  have:=hk k List.mem_cons_self
  rw [zlQ]
  omega
theorem zhY (id:Int) (text:ByteArray) (a b place:Nat):(K.writeBlock id text a b place).Sm Any:=zh (zh2 _ _) fun s hs=>zce (zh8 _ _) (zkG (by
 rw [zN]
 unfold K.wBlock
 refine zhN _ _ _ _ _ (by simpa using hs) fun k hk=>?_
 have:=List.mem_range'_1.1 hk
 omega))
theorem zfk (id:Int):NoStar (K.sizeKey id):=ns_I id (by decide)
theorem ziS (id a:Int) (text:ByteArray):(K.writeFile id a text).Sm Any:=zh (zaO _) fun size _=>zv (fun _=>trivial) fun _=>zv (fun _=>trivial) fun _ =>
 zh (zcY (P:=Any) (fun p _=>zhY _ _ _ _ _) _ fun _ _=>trivial) fun _ _=>zv (fun _=>zh (za1 (zfk id) _) fun _ _=>by exact trivial) fun _=>by exact trivial
theorem zlM (id:Int) (l:List Nat):(Mp.each (fun p:Nat=>K.lay (K.blockKey id (p:Int)) ⟨#[]⟩) l).Sm Any:=zcY (P:=Any) (fun p _=>zce (zh8 _ _) (by decide)) l fun _ _=>trivial
theorem zk0 (id n:Int):(K.cutFile id n).Sm Any:=zh (zaO _) fun size _=>zv (fun _=>trivial) fun _ =>
 zv (fun _=>zh (zh2 _ _) fun s hs=>zh (zce (zh8 _ _) (zkG (by rw [ByteArray.size_extract];omega))) fun _ _=>zh (zlM _ _) fun _ _=>zh (za1 (zfk id) _) fun _ _=>trivial)
  fun _=>zh (zlM _ _) fun _ _=>zh (za1 (zfk id) _) fun _ _=>trivial
theorem ns_P (id:Int) {t:ByteArray} (ht:NoStar t):NoStar (K.pipeKey id t):=NoStar.key (by decide) id ht
theorem ns_PQ (id n:Int):NoStar (zO (K.pipeKey id K.tQ) n ⟨#[]⟩):=NoStar.key (ns_P id (by decide)) n (by decide)
theorem zjK:K.makePipe.Sm Any:=zh (zaO _) fun many _=>zv (fun _=>trivial) fun _=>zh (zjO (by decide)) fun id _=>zh (za1 (ns_P id (by decide)) _) fun _ _=>trivial
theorem ziU (id:Int):(K.isPipe id).Sm Any:=zh (zaO _) fun _ _=>trivial
theorem zip {text:ByteArray} (h:text.size<=20):(K.dash++zfb text).size<=60:=by
 have h1:(zfb text).size<=40:=by
  unfold zfb
  split
  ·rw [zN,zj6]
   have:text.data.toList.length=text.size:=by simp
   omega
  ·decide
 rw [ByteArray.size_append,show K.dash.size=1 from rfl]
 omega
theorem zkX (id:Int) (text:ByteArray):(K.putPipe id text).Sm Any:=zh (ziU _) fun is _=>zv (fun _=>trivial) fun _=>zv (fun _=>trivial) fun hz =>
 zh (zaO _) fun tail _=>zh (zaO _) fun head _=>zv (fun _=>trivial) fun _=>zv (fun _=>trivial) fun _ =>
  zh (za1 (ns_P id (by decide)) _) fun _ _=>zh (zce (ns_PQ _ _) (zip (by omega))) fun _ _=>trivial
theorem zhz (k:ByteArray):(K.message k).Sm Any:=zh (zh1 _) fun _ _=>trivial
theorem zjG (id:Int):(K.takePipe id).Sm Any:=zh (ziU _) fun is _=>zv (fun _=>trivial) fun _ =>
 zh (zaO _) fun head _=>zh (zaO _) fun tail _=>zv (fun _=>trivial) fun _=>zh (zhz _) fun text _=>zh (zce (ns_PQ _ _) (by decide)) fun _ _=>zh (za1 (ns_P id (by decide)) _) fun _ _=>trivial
theorem ns_R (id:Int) {t:ByteArray} (ht:NoStar t):NoStar (K.procKey id t):=NoStar.key (by decide) id ht
theorem zf5 (id:Int):(K.state id).Sm Any:=zaO _
theorem sm_spawn (parent:Int):(K.spawn parent).Sm Any:=zh (zaO _) fun many _=>zv (fun _=>trivial) fun _=>zh (zjO (by decide)) fun id _ =>
 zh (za1 (ns_R id (by decide)) _) fun _ _=>zh (za1 (ns_R id (by decide)) _) fun _ _=>trivial
theorem zkY (id n:Int):(K.endProc id n).Sm Any:=zh (zf5 _) fun s _=>zv (fun _=>trivial) fun _=>zv (fun _=>trivial) fun _ =>
 zh (za1 (ns_R id (by decide)) _) fun _ _=>zh (za1 (ns_R id (by decide)) _) fun _ _=>trivial
theorem sm_reap (parent id:Int):(K.reap parent id).Sm Any:=zh (zaO _) fun own _=>zv (fun _=>trivial) fun _=>zh (zf5 _) fun s _=>zv (fun _=>trivial) fun _=>zv (fun _=>trivial) fun _ =>
 zh (zaO _) fun n _=>zh (zjF _) fun _ _=>trivial
theorem sm_kids (parent:Int):(K.kids parent).Sm Any:=zh (zeH _) fun keys _=>zdP (f:=K.kid parent) (P:=Any) (fun b k _=>zv (fun _=>zh (zaO _) fun _ _=>by exact trivial) fun _=>by exact trivial) _ _ fun _ _=>trivial
theorem ns_G (id:Int) {t:ByteArray} (ht:NoStar t):NoStar (K.signalKey id t):=NoStar.key (by decide) id ht
theorem ns_GQ (id n:Int):NoStar (zO (K.signalKey id K.tQ) n ⟨#[]⟩):=NoStar.key (ns_G id (by decide)) n (by decide)
theorem zlK (to n:Int):(K.send to n).Sm Any:=zh (zf5 _) fun s _=>zv (fun _=>trivial) fun _=>zv (fun _=>trivial) fun _ =>
 zh (zaO _) fun tail _=>zh (zaO _) fun head _=>zv (fun _=>trivial) fun _=>zv (fun _=>trivial) fun _ =>
  zh (za1 (ns_G to (by decide)) _) fun _ _=>zh (za1 (ns_GQ _ _) _) fun _ _=>trivial
theorem zhZ (id:Int):(K.takeSignal id).Sm Any:=zh (zaO _) fun head _=>zh (zaO _) fun tail _=>zv (fun _=>trivial) fun _ =>
 zh (zaO _) fun n _=>zh (zce (ns_GQ _ _) (by decide)) fun _ _=>zh (za1 (ns_G id (by decide)) _) fun _ _=>trivial
theorem zjH (id a:Int):(K.setTimer id a).Sm Any:=zv (fun _=>zh (za1 (NoStar.key (by decide) id (by decide)) _) fun _ _=>trivial) fun _=>trivial
theorem zkW (clock count:Int) (key:ByteArray) (h:NoStar key):(K.tickOne clock count key).Sm Any:=zh (zaO _) fun a _=>zv (fun _=>trivial) fun _ =>
 zh (zce h (by decide)) fun _ _=>zh (zlK _ _) fun _ _=>trivial
theorem sm_tick (n:Int):(K.tick n).Sm Any:=zv (fun _=>trivial) fun _=>zh (zaO _) fun clock _=>zv (fun _=>trivial) fun _ =>
 zh (za1 (by decide) _) fun _ _=>zh (zeH _) fun keys hk=>zh (zdP (f:=K.tickOne (clock+n)) (P:=NoStar) (fun b k h=>zkW _ _ _ h) _ _ hk) fun _ _=>by exact trivial
theorem ns_M (id:Int):NoStar (K.pagesKey id):=NoStar.key (by decide) id (by decide)
theorem ziT (id page:Int) (text:ByteArray):(K.storePage id page text).Sm Any:=zv (fun h=>zh (zce (NoStar.key (ns_M id) page (by decide)) (by
 split
 ·decide
 ·exact zip h.2)) fun _ _=>trivial) fun _=>trivial
theorem zjM (id page:Int):(K.loadPage id page).Sm Any:=zv (fun _=>zh (zhz _) fun _ _=>trivial) fun _=>trivial
theorem ziV (frm to:Int):(K.forkPages frm to).Sm Any:=zh (zeH _) fun keys hk=>zcY (fun k h=>zh (zh1 k) fun v hv=>zce (NoStar.app (ns_M to) (NoStar.sub h _ _)) hv) _ hk
theorem zlL (text:ByteArray):(K.putOut text).Sm Any:=zv (fun h=>zh (zaO _) fun n _=>zv (fun _=>trivial) fun _ =>
 zh (za1 (by decide) _) fun _ _=>zh (zce (NoStar.key (by decide) _ (by decide)) (zip h.2)) fun _ _=>trivial) fun _=>trivial
theorem zdm {x:Mp Int} (h:x.Sm Any):(K.code x).Sm Any:=zh h fun _ _=>trivial
theorem zeI {x:Mp (Int × Int)} (h:x.Sm Any):(K.codeN x).Sm Any:=zh h fun _ _=>trivial
theorem zku {x:Mp (ByteArray × Int)} (h:x.Sm Any):(K.codeT x).Sm Any:=zh h fun _ _=>trivial
theorem zlO (c:CallD):(K.doFile c).Sm Any:=zh (zcf _) fun id _=>zv (fun _=>trivial) fun _=>zv (fun _=>zh (zjI _ _ _) fun _ _=>trivial) fun _ =>
 zv (fun _=>zh (ziS _ _ _) fun _ _=>trivial) fun _=>zh (zk0 _ _) fun _ _=>trivial
theorem zkZ (proc:Int):(K.doSpawn proc).Sm Any:=zh (sm_spawn _) fun p _=>zv (fun _=>zh (ziV _ _) fun _ _=>trivial) fun _=>trivial
theorem sm_doEnd (proc n:Int):(K.doEnd proc n).Sm Any:=zh (zkY _ _) fun r _=>zv (fun _=>zh (zjF _) fun _ _=>trivial) fun _=>trivial
theorem zlN (proc:Int) (c:CallD):(K.doKind proc c).Sm Any:=by
 unfold K.doKind
 repeat' (refine zv (fun _=>?_) fun _=>?_)
 all_goals first
  | exact zeI (zjL _)|exact zdm (zjN _ _)|exact zdm (zeG _)|exact zdm (zh0 _ _)|exact zh sm_names fun _ _=>trivial
  | exact zlO _|exact zeI zjK|exact zdm (zkX _ _)|exact zku (zjG _)|exact zkZ _|exact sm_doEnd _ _|exact zeI (sm_reap _ _)
  | exact zh (sm_kids _) fun _ _=>trivial|exact zdm (zlK _ _)|exact zeI (zhZ _)|exact zdm (zjH _ _)|exact zeI (sm_tick _)|exact zdm (ziT _ _ _)|exact zku (zjM _ _)|exact zdm (zlL _)
theorem ziW (proc:Int) (c:CallD):(K.doCall proc c).Sm Any:=zh (zf5 _) fun s _=>zv (fun _=>trivial) fun _=>zv (fun _=>trivial) fun _=>zlN _ _
def RdS (w:World) (v:Value) (xs:List ByteArray):Prop:=∃ ao cap,v=.slice ao xs.length cap/\xs.length<=cap/\cap<=maxLen/\(ao=none->cap=0/\xs = []) /\
  (xs ≠ []->∃ b off,ao=some ⟨b,off,none⟩/\b<w.heap.size/\∀ (i:Nat) (hi:i<xs.length),w.cell? ⟨b,off+i,none⟩=some (Value.string xs[i]))/\∀ s ∈ xs,s.size<=9223372036854775807
theorem RdS.ext {w:World} {v:Value} {xs:List ByteArray} (h:RdS w v xs) (X:Ext):RdS (w.ext X) v xs:=by
 obtain ⟨ao,cap,rfl,h1,h2,h3,h4,h5⟩:=h
 refine ⟨ao,cap,rfl,h1,h2,h3,fun hne=>?_,h5⟩
 obtain ⟨b,off,e,hb,hc⟩:=h4 hne
 exact ⟨b,off,e,by rw [zm];omega,fun i hi=>by rw [zdz _ _ _ _ hb];exact hc i hi⟩
theorem RdS.alloc {w:World} {v:Value} {xs:List ByteArray} (h:RdS w v xs) (o:Obj):RdS (w.alloc o) v xs:=by
 obtain ⟨X,hX⟩:=(Below.alloc (Below.refl w.heap.size w) (Nat.le_refl _) o).ext
 rw [hX]
 exact h.ext X
theorem RdS.drew {w:World} {v:Value} {xs:List ByteArray} (h:RdS w v xs):RdS w.drew v xs:=h
def zbR (ss:List ByteArray) (k:ByteArray):Bool:=ss.any fun s=>zaZ s k
end Go.Proofs.YtpnoehpmgflibaaGreatDoor
