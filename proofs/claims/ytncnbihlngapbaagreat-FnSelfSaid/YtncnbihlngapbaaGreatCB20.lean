/- Texts of this claim, merged: the walks and what they stand on. Each condition stands in its theorem. -/
import Derived.Test.YtncnbihlngapbaaGreatCB19
set_option linter.unusedVariables false
set_option linter.unusedSimpArgs false
set_option maxRecDepth 100000
set_option maxHeartbeats 8000000
namespace Go.Proofs.YtncnbihlngapbaaGreat
open Go.ChangeShapes Go.WideShapes Go.ChangeAt Go.RowKit
def SmallCall (c:CallD):Prop:=c.name.size<=100/\c.to.size<=100/\c.text.size<=100/\(0<=c.a/\c.a<=100)/\(0<=c.b/\c.b<=100)
theorem SmallCall.ok {c:CallD} (h:SmallCall c):c.ok:=⟨by have:=h.1;omega,by have:=h.2.1;omega,by have:=h.2.2.1;omega⟩
theorem zg4 (c:CallD) (hk : 1<=c.kind/\c.kind<=22) (hc:SmallCall c) (w:World) :
  Calls Tryz.prog 44 #[zbk c] w fun e w'=>∃ d:CallD,e=.returned (zbk d)/\SmallCall d/\Below w.heap.size w w':=by
 obtain ⟨kd,nm,tn,ca,cb,tx⟩:=c
 obtain ⟨h1,h2,h3,h4,h5⟩:=hc
 dsimp only at hk h1 h2 h3 h4 h5
 unfold zbk
 dsimp only
 have H1:=Hd h1
 have H2:=Hd h2
 have H3:=Hd h3
 have H4:=Hd h4
 have H5:=Hd h5
 clear h1 h2 h3 h4 h5
 have hcs:kd=1 ∨ kd=2 ∨ kd=3 ∨ kd=4 ∨ kd=5 ∨ kd=6 ∨ kd=7 ∨ kd=8 ∨ kd=9 ∨ kd=10 ∨ kd=11 ∨ kd=12 ∨ kd=13 ∨ kd=14 ∨ kd=15 ∨ kd=16 ∨ kd=17 ∨ kd=18 ∨ kd=19 ∨ kd=20 ∨ kd=21 ∨ kd=22:=by omega
 clear hk
 rcases hcs with rfl|rfl|rfl|rfl|rfl|rfl|rfl|rfl|rfl|rfl|rfl|rfl|rfl|rfl|rfl|rfl|rfl|rfl|rfl|rfl|rfl|rfl
 all_goals go_enter Tryz.func44,Tryz.ntmps44
 all_goals go_wp2
 all_goals refine bodyPost_ret (by simp [results,Tryz.results44,go_sem];rfl) rfl ?_
 all_goals refine ⟨⟨_,_,_,_,_,_⟩,rfl,⟨?_,?_,?_,?_,?_⟩,(by repeat (first|with_reducible exact Below.refl _ _|with_reducible apply Below.ofExt|with_reducible apply Below.ofAlloc|with_reducible apply Below.drew|with_reducible apply Below.ofDrewN|with_reducible assumption|(with_reducible refine Below.setCell ?_ (by first|exact Nat.le_refl _|(simp [go_sem];done)|(simp [go_sem];omega)) _)))⟩
 all_goals first|exact H1.out|exact H2.out|exact H3.out|exact H4.out|exact H5.out|exact Nat.zero_le _|exact (by decide:(0:Int)<=0/\(0:Int)<=100)
def ze4:List Int:=[1,1,2,3,4,5,6,6,7,7,8,9,10,10,11,11,12,13,14,15,16,17,18,19,20,21,22,22]
theorem zhQ:(#[.int .i64 1,.int .i64 1,.int .i64 2,.int .i64 3,.int .i64 4,.int .i64 5,.int .i64 6,.int .i64 6,.int .i64 7,.int .i64 7,.int .i64 8,.int .i64 9,.int .i64 10,.int .i64 10,.int .i64 11,.int .i64 11,.int .i64 12,.int .i64 13,.int .i64 14,.int .i64 15,.int .i64 16,.int .i64 17,.int .i64 18,.int .i64 19,.int .i64 20,.int .i64 21,.int .i64 22,.int .i64 22]:Array Value)=(ze4.flatMap zbY.row).toArray:=rfl
theorem zfI {α : Type} (R:RowOf α) (w:World) (xs:List α) (n:Nat) (hn:n=xs.length) (hm:n<=maxLen) (cs:Array Value) (hcs:cs=(xs.flatMap R.row).toArray) (e:TypeId) (g:Nat) (hg:g=w.heap.size):RdL R (w.alloc (.cells cs e)) (.slice (some ⟨g,0,none⟩) n n) xs:=by
 subst hg
 exact RdL.lit R w xs n hn hm cs hcs e
theorem zcl {w:World} {o:Obj} {n:Nat} (h:n=w.heap.size):(w.alloc o).heap[n]?=some o:=by
 subst h
 exact World.alloc_new _ _
theorem kinds_in:∀ k ∈ ze4,1<=k/\k<=22:=by decide
def zgv:List ByteArray:=[⟨#[120]⟩,⟨#[121]⟩,⟨#[108,111,103]⟩]
def zjj:List ByteArray:=[⟨#[120]⟩,⟨#[121]⟩,⟨#[122]⟩]
theorem zfw:∀ s ∈ zgv,s.size<=100:=by decide
theorem zgU:∀ s ∈ zjj,s.size<=100:=by decide
theorem zeH (p:Nat) (vb:Value) (bs:List UInt8) (i h:Int) (w:World) (hc:Cur w p vb bs i h) :
  Calls Tryz.prog 29 #[.pointer (some ⟨p,0,none⟩)] w fun e w'=>∃ c:CallD,e=.returned (zbk c)/\SmallCall c/\zh7 p vb bs w w':=by
 have hp:=hc.lt
 have HC:=Hd hc
 clear hc
 have hbp:w.heap.size ≠ p:=by omega
 go_enter Tryz.func29,Tryz.ntmps29
 go_wp2_with fail
 (go_at_call 12;refine (zcY p vb bs _ _ _ ze4 _ ((HC.out.alloc _).alloc _) (zfI zbY (w.alloc _) ze4 28 rfl (by decide) _ zhQ _ _ (by simp [zd])) (by decide) (by decide) (by simp [Value.ownBlock,zd]<;>omega)).mono ?_;rintro e w1 ⟨kd,i1,h1,rfl,hkd,hg,hi0,hi1⟩)
 have G1:Hid (Got p w (zaE vb i1 h1) w1):=(((zcn HC.out.blk).alloc _).alloc _).then hg hp
 have B1:=(hg.other (b:=w.heap.size) (by simp [zd]<;>omega) hbp).trans ((Below.heap_alloc _ _ _ (by simp [zd])).trans (World.alloc_new _ _))
 have l1:=zb B1
 have hq:w.heap.size<=w1.heap.size:=Nat.le_of_lt l1
 have hqp:w1.heap.size ≠ p:=by omega
 have HK:=kinds_in kd hkd
 have A1:=Hd B1
 clear hg hkd B1
 go_wp2_with fail
 (go_at_call 32;refine (zcg p vb bs _ _ _ zgv _ (HC.out.got ((G1.out.alloc _).alloc _) hi0 hi1) (zfI zH (w1.alloc _) zgv 3 rfl (by decide) _ rfl _ _ (by simp [zd])) (by decide) (by decide) (by simp [Value.ownBlock,zd]<;>omega)).mono ?_;rintro e w2 ⟨s2,i2,h2,rfl,hs2,hg,hi0,hi1⟩)
 have G2:Hid (Got p w (zaE vb i2 h2) w2):=((G1.out.alloc _).alloc _).then hg hp
 have B2:=(hg.other (b:=w1.heap.size) (by simp [zd]<;>omega) hqp).trans ((Below.heap_alloc _ _ _ (by simp)).trans (zcl rfl))
 have l2:=zb B2
 have A2:=Hd ((hg.other (b:=w.heap.size) (by simp [zd]<;>omega) hbp).trans ((Below.heap_alloc _ _ _ (by simp;omega)).trans ((Below.heap_alloc _ _ _ (by omega)).trans A1.out)))
 clear hg
 rw [<- zi B2]
 clear B2
 go_wp2_with fail
 (go_at_call 32;refine (zcg p vb bs _ _ _ zjj _ (HC.out.got ((G2.out.past hq _).alloc _) hi0 hi1) (zfI zH (w2.setB _ _) zjj 3 rfl (by decide) _ rfl _ _ (by simp [zd])) (by decide) (by decide) (by simp [Value.ownBlock,zd]<;>omega)).mono ?_;rintro e w3 ⟨s3,i3,h3,rfl,hs3,hg,hi0,hi1⟩)
 have G3:Hid (Got p w (zaE vb i3 h3) w3):=((G2.out.past hq _).alloc _).then hg hp
 have B3:=(hg.other (b:=w1.heap.size) (by simp [zd]<;>omega) hqp).trans ((Below.heap_alloc _ _ _ (by simp [zd]<;>omega)).trans (World.setB_at _ _ _ l2))
 have l3:=zb B3
 have A3:=Hd ((hg.other (b:=w.heap.size) (by simp [zd]<;>omega) hbp).trans ((Below.heap_alloc _ _ _ (by simp [zd]<;>omega)).trans ((World.setB_get _ _ _ _ (by omega)).trans A2.out)))
 clear hg
 rw [<- zi B3]
 clear B3
 go_wp2_with fail
 (go_at_call 11;refine (zW p vb bs _ _ _ _ (HC.out.got (G3.out.past hq _) hi0 hi1) (by omega)).mono ?_;rintro e w4 ⟨n4,i4,h4,rfl,⟨hn4,hm4,_⟩,hg,hi0,hi1⟩)
 have G4:Hid (Got p w (zaE vb i4 h4) w4):=(G3.out.past hq _).then hg hp
 have B4:=(hg.other (b:=w1.heap.size) (by simp [zd]<;>omega) hqp).trans (World.setB_at _ _ _ l3)
 have l4:=zb B4
 have A4:=Hd ((hg.other (b:=w.heap.size) (by simp [zd]<;>omega) hbp).trans ((World.setB_get _ _ _ _ (by omega)).trans A3.out))
 have hk4:=hm4 (by omega)
 clear hm4
 clear hg
 rw [<- zi B4]
 clear B4
 go_wp2_with fail
 (go_at_call 11;refine (zW p vb bs _ _ _ _ (HC.out.got (G4.out.past hq _) hi0 hi1) (by omega)).mono ?_;rintro e w5 ⟨n5,i5,h5,rfl,⟨hn5,hm5,_⟩,hg,hi0,hi1⟩)
 have G5:Hid (Got p w (zaE vb i5 h5) w5):=(G4.out.past hq _).then hg hp
 have B5:=(hg.other (b:=w1.heap.size) (by simp [zd]<;>omega) hqp).trans (World.setB_at _ _ _ l4)
 have l5:=zb B5
 have A5:=Hd ((hg.other (b:=w.heap.size) (by simp [zd]<;>omega) hbp).trans ((World.setB_get _ _ _ _ (by omega)).trans A4.out))
 have hk5:=hm5 (by omega)
 clear hm5
 clear hg
 rw [<- zi B5]
 clear B5
 go_wp2_with fail
 (go_at_call 11;refine (zW p vb bs _ _ _ _ (HC.out.got (G5.out.past hq _) hi0 hi1) (by omega)).mono ?_;rintro e w6 ⟨n6,i6,h6,rfl,⟨hn6,hm6,_⟩,hg,hi0,hi1⟩)
 have G6:Hid (Got p w (zaE vb i6 h6) w6):=(G5.out.past hq _).then hg hp
 have B6:=(hg.other (b:=w1.heap.size) (by simp [zd]<;>omega) hqp).trans (World.setB_at _ _ _ l5)
 have l6:=zb B6
 have A6:=Hd ((hg.other (b:=w.heap.size) (by simp [zd]<;>omega) hbp).trans ((World.setB_get _ _ _ _ (by omega)).trans A5.out))
 have hk6:=hm6 (by omega)
 clear hm6
 clear hg
 rw [<- zi B6]
 clear B6
 go_wp2_with fail
 (go_at_call 43;refine (zgr p vb bs _ _ _ _ (HC.out.got (G6.out.past hq _) hi0 hi1) hn6 (by omega)).mono ?_;rintro e w7 ⟨tx,rfl,htx,i7,h7,hg,hi0,hi1⟩)
 have G7:Hid (Got p w (zaE vb i7 h7) w7):=(G6.out.past hq _).then hg hp
 have B7:=(hg.other (b:=w1.heap.size) (by simp [zd]<;>omega) hqp).trans (World.setB_at _ _ _ l6)
 have l7:=zb B7
 have A7:=Hd ((hg.other (b:=w.heap.size) (by simp [zd]<;>omega) hbp).trans ((World.setB_get _ _ _ _ (by omega)).trans A6.out))
 clear hg
 rw [<- zi B7]
 clear B7
 go_wp2_with fail
 ·(go_at_call 11;refine (zW p vb bs _ _ _ _ (HC.out.got (G7.out.past hq _) hi0 hi1) (by omega)).mono ?_;rintro e w8 ⟨n8,i8,h8,rfl,⟨hn8,hm8,_⟩,hg,hi0,hi1⟩)
  have G8:Hid (Got p w (zaE vb i8 h8) w8):=(G7.out.past hq _).then hg hp
  have B8:=(hg.other (b:=w1.heap.size) (by simp [zd]<;>omega) hqp).trans (World.setB_at _ _ _ l7)
  have l8:=zb B8
  have A8:=Hd ((hg.other (b:=w.heap.size) (by simp [zd]<;>omega) hbp).trans ((World.setB_get _ _ _ _ (by omega)).trans A7.out))
  have hk8:=hm8 (by omega)
  clear hm8
  clear hg
  rw [<- zi B8]
  clear B8
  go_wp2_with fail
  (go_at_call 44;refine (zg4 ⟨kd,s2,s3,n8,1+n5,tx⟩ HK ⟨zfw _ hs2,zgU _ hs3,by show tx.size<=100;omega,⟨hn8,by show n8<=100;omega⟩,⟨by show 0<=1+n5;omega,by show 1+n5<=100;omega⟩⟩ _).mono ?_;rintro e w9 ⟨d,rfl,hd,hb⟩)
  have hG:=Hd ((G8.out.past hq _).ofBelow hb)
  have B9:=(hb.block _ (by simp [zd]<;>omega)).trans ((World.setB_get _ _ _ _ (by omega)).trans A8.out)
  have l9:=zb B9
  rw [<- zi B9]
  clear B9 hb
  obtain ⟨dk,dn,dt,da,db,dx⟩:=d
  unfold zbk
  dsimp only
  go_wp2
  refine bodyPost_ret (by simp [results,Tryz.results29,go_sem,l9];rfl) rfl ?_
  exact ⟨⟨dk,dn,dt,da,db,dx⟩,rfl,hd,i8,h8,hG.out.past (Nat.le_refl _) _,hi0,hi1⟩
 ·(go_at_call 44;refine (zg4 ⟨kd,s2,s3,n4,1+n5,tx⟩ HK ⟨zfw _ hs2,zgU _ hs3,by show tx.size<=100;omega,⟨hn4,by show n4<=100;omega⟩,⟨by show 0<=1+n5;omega,by show 1+n5<=100;omega⟩⟩ _).mono ?_;rintro e w9 ⟨d,rfl,hd,hb⟩)
  have hG:=Hd ((G7.out.past hq _).ofBelow hb)
  have B9:=(hb.block _ (by simp [zd]<;>omega)).trans ((World.setB_get _ _ _ _ (by omega)).trans A7.out)
  have l9:=zb B9
  rw [<- zi B9]
  clear B9 hb
  obtain ⟨dk,dn,dt,da,db,dx⟩:=d
  unfold zbk
  dsimp only
  go_wp2
  refine bodyPost_ret (by simp [results,Tryz.results29,go_sem,l9];rfl) rfl ?_
  exact ⟨⟨dk,dn,dt,da,db,dx⟩,rfl,hd,i7,h7,hG.out.past (Nat.le_refl _) _,hi0,hi1⟩
end Go.Proofs.YtncnbihlngapbaaGreat
namespace Go
theorem zcT (w:World) (o:Obj):(w.alloc o).heap[w.heap.size]?=some o:=by
 show (w.heap.push o)[w.heap.size]?=some o
 simp
def Spare (w:World) (v:Value) (n:Nat):Prop:=∀ g,v.ownBlock=some g->∀ cur e,w.heap[g]?=some (.cells cur e (0,0))->∀ j u,n<=j->cur[j]?=some u->∀ s,u=.string s->s.size=0
def Stays (w w':World):Prop:=∀ b off s,w.cell? ⟨b,off,none⟩=some (.string s)->s.size ≠ 0->w'.cell? ⟨b,off,none⟩=some (.string s)
theorem Stays.same {w w':World} (h:∀ k,k<w.heap.size->w'.heap[k]?=w.heap[k]?):Stays w w':=fun b off s hc _=>by
 have hb:=World.block_lt_of_cell? w _ hc
 unfold World.cell? at hc ⊢
 dsimp only at hc hb ⊢
 rw [h b hb]
 exact hc
theorem zfN {z:Array Value} {n:Nat} {u:Value} (h:u ∈ Builtin.zeroCells z n):u ∈ z:=by
 unfold Builtin.zeroCells at h
 simp only [Array.mem_map,Array.mem_range] at h
 obtain ⟨i,hi,rfl⟩:=h
 have hz : 0<z.size:=by
  rcases Nat.eq_zero_or_pos z.size with e|e
  ·rw [e] at hi;omega
  ·exact e
 have hm:=Nat.mod_lt i hz
 rw [getElem!_pos z (i % z.size) hm]
 exact Array.getElem_mem hm
theorem zg6 {w:World} {a z:Array Value} {k n c N:Nat} {e:TypeId} (hz:∀ u ∈ z,∀ s,u=.string s->s.size=0) (ha:a.size<=N):Spare (w.drew.alloc (.cells (a++Builtin.zeroCells z k) e)) (.slice (some ⟨w.heap.size,0,none⟩) n c) N:=by
 intro g hg cur e' hh j u hj hu s hs
 have eg:w.heap.size=g:=by simpa [Value.ownBlock] using hg
 subst eg
 have h:(w.drew.alloc (.cells (a++Builtin.zeroCells z k) e)).heap[w.heap.size]?=some (.cells (a++Builtin.zeroCells z k) e):=zcT w.drew _
 rw [h] at hh
 injection hh with hh
 injection hh with hc _ _
 subst hc
 rw [Array.getElem?_append_right (by omega)] at hu
 exact hz u (zfN (Array.mem_of_getElem? hu)) s hs
section
variable {P:Program}
theorem run_appS {w:World} {t ty e:TypeId} {size bytes:Nat} (E:Elem P t e size bytes) (hze:∀ i z,P.info? e=some i->i.zero=some z->∀ u ∈ z.cells,∀ s,u=.string s->s.size=0) {base:Nat} {v:Value} {n:Nat} {xs:List Value} (hown:w.ownsRow base e size v n xs) (hsp:Spare w v (n*size))
  {x:Value} {m:Nat} {news:List Value} (hx:Sl w x m news) (hl:news.length=m*size) (h1:∀ u ∈ news,u.oneCell'=true) (hb:(n+m)*bytes<=140737488355328) (h63:n+m<=maxLen) (hbase:base<=w.heap.size) :
  ∃ v' w',(Builtin.append_ #[t,t] ty #[v,x]).run P w=.ok v' w'/\w'.ownsRow base e size v' (n+m) (xs++news)/\w.grownBy w' v.ownBlock/\(v'.ownBlock=v.ownBlock ∨ v'.ownBlock=some w.heap.size)/\Spare w' v' ((n+m)*size)/\Stays w w':=by
 obtain ⟨v',w',hr,h2,h3,h4,h5⟩:=zic (P:=P) (ty:=ty) E hown hx hl h1 hb h63 hbase
 refine ⟨v',w',hr,h2,h3,h5,?_⟩
 have same:∀ {u:Value} {w'':World},(Builtin.append_ #[t,t] ty #[v,x]).run P w=.ok u w''->v'=u/\w'=w'':=fun h=>by
  rw [hr] at h
  injection h with h1 h2
  exact ⟨h1,h2⟩
 obtain ⟨i,z,hi,hz,hs,hby,hzs⟩:=E.hi
 have hzz:=hze i z hi hz
 subst hs
 subst hby
 have hsm:n+m<=9223372036854775807:=by simp only [maxLen] at h63;omega
 rcases hx with ⟨rfl,rfl,rfl⟩|⟨b,off,cap,rfl,_,_,hc⟩
 ·obtain ⟨rfl,rfl⟩:=same (run_append_owned_none w base t ty e i i.size E.ht hi v n xs hown)
  exact ⟨by simpa using hsp,fun _ _ _ h _=>h⟩
 ·have hnews:∀ j u,news[j]?=some u->w.cell? ((⟨b,off,none⟩ : Addr).add j)=some u:=fun j u hj=>by rw [zbQ];exact hc j u hj
  rcases hown.2 with ⟨rfl,rfl⟩|⟨g,gcap,cur,rfl,hbg,hg,hnc,hcm,hcs,htake⟩
  ·by_cases hm:m=0
   ·rw [h4.2 ⟨rfl,hm⟩]
    exact ⟨fun g hg=>by simp [Value.ownBlock] at hg,Stays.same fun k hk=>h3.block k hk (by simp [Value.ownBlock])⟩
   ·obtain ⟨rfl,rfl⟩:=same (run_append_nil (P:=P) w t ty e i z E.ht hi hz ⟨b,off,none⟩ m cap news hl hnews (by omega) (by omega) (by have hb:=hb;simp only [Nat.zero_add] at hb;omega))
    refine ⟨zg6 hzz (by simp [hl]),Stays.same fun k hk=>h3.block k hk (by simp [Value.ownBlock])⟩
  ·by_cases hroom:n+m<=gcap
   ·have hfit:n*i.size+news.length<=cur.size:=by rw [hl,hcs,<- Nat.add_mul];exact Nat.mul_le_mul_right _ hroom
    obtain ⟨rfl,rfl⟩:=same (run_append_room (P:=P) w t ty e i E.ht hi g n gcap cur hg ⟨b,off,none⟩ m cap news hl hnews h1 hroom hfit)
    have hcl:(cur.toList.take (n*i.size)++news).length=(n+m)*i.size:=by
     rw [List.length_append,List.length_take,Array.length_toList,hl,Nat.add_mul]
     omega
    refine ⟨fun g' hg' cur' e' hh j u hj hu s hs=>?_,fun b' off' s hc hs=>?_⟩
    ·have eg:g=g':=by simpa [Value.ownBlock] using hg'
     subst eg
     rw [setRow_heap w g cur _ e (0,0) hg] at hh
     injection hh with hh
     injection hh with hc2 _ _
     subst hc2
     rw [List.getElem?_toArray,List.getElem?_append_right (by omega),List.getElem?_drop,hcl] at hu
     have ej:n*i.size+news.length+(j - (n+m)*i.size)=j:=by rw [hl,<- Nat.add_mul];omega
     rw [ej] at hu
     have hnj:n*i.size<=j:=by rw [Nat.add_mul] at hj;omega
     exact hsp g rfl cur e hg j u hnj (by simpa using hu) s hs
    ·by_cases hbg':b'=g
     ·subst hbg'
      unfold World.cell? at hc ⊢
      rw [setRow_heap w b' cur _ e (0,0) hg]
      rw [hg] at hc
      simp only [Option.isSome_none,Bool.false_eq_true,if_false] at hc ⊢
      by_cases ho:off'<n*i.size
      ·rw [List.getElem?_toArray,List.getElem?_append_left (by rw [hcl,Nat.add_mul];omega),List.getElem?_append_left (by rw [List.length_take,Array.length_toList];omega),List.getElem?_take,if_pos ho]
       simpa using hc
      ·exact absurd (hsp b' rfl cur e hg off' _ (by omega) hc s rfl) hs
     ·unfold World.cell? at hc ⊢
      rw [setRow_other w g b' _ hbg']
      exact hc
   ·have holds:∀ j u,xs[j]?=some u->w.cell? ((⟨g,0,none⟩ : Addr).add j)=some u:=hown.cells (g:=g) rfl
    obtain ⟨rfl,rfl⟩:=same (run_append_grow (P:=P) w t ty e i z E.ht hi hz ⟨g,0,none⟩ n gcap xs hown.1 holds ⟨b,off,none⟩ m cap news hl hnews (by omega) (by omega) (growslice_fits (by omega) hb))
    exact ⟨zg6 hzz (by simp [hl,hown.1,Nat.add_mul]),Stays.same fun k hk=>(RowKit.Below.ofAlloc (RowKit.Below.drew (RowKit.Below.refl _ _)) _:RowKit.Below w.heap.size w _).block k hk⟩
theorem zcG {α : Type} {R:RowOf α} {w:World} {ops:Array Oper} {rest:List Oper} {o:Oper} {a:Act} {Q:Exit->Act->World->Prop} (hgd:o.guard=none) (s x:Operand) (t:TypeId)
  (ho:o.op=.call { callee:=.builtin .append,args:=#[s,x],argTypes:=#[t,t] })
  {e:TypeId} {bytes:Nat} (E:Elem P t e R.k bytes) (hze:∀ i z,P.info? e=some i->i.zero=some z->∀ u ∈ z.cells,∀ s,u=.string s->s.size=0) {B:Nat} {v:Value} {xs:List α} (hown:OwnL R e w B v xs) (hsp:Spare w v (xs.length*R.k)) (hs:a.eval s=v)
  {vx:Value} {ys:List α} (hx:RdL R w vx ys) (hvx:a.eval x=vx) (hb:(xs.length+ys.length)*bytes<=140737488355328) (h63:xs.length+ys.length<=maxLen) (hbase:B<=w.heap.size)
  (h:∀ v' w',OwnL R e w' B v' (xs++ys)->w.grownBy w' v.ownBlock->(v'.ownBlock=v.ownBlock ∨ v'.ownBlock=some w.heap.size)->Spare w' v' ((xs++ys).length*R.k)->Stays w w'->wpList P ops Q rest (a.put o.dst v') w'):wpList P ops Q (o :: rest) a w:=by
 refine wpList_plain hgd fun K hK=>?_
 obtain ⟨v',w',hr,h2,h3,h5,h6,h7⟩:=run_appS (P:=P) (ty:=o.type) E hze hown hsp hx (R.flat_len ys) (R.flat_one ys) hb h63 hbase
 unfold Oper.wp execOp
 simp only [ho,resolve,invoke,builtin,Sem.run_bind,Sem.run_pure,Result.andThen_ok,List.map_toArray,List.map_cons,List.map_nil,hs,hvx,hr]
 refine hK _ _ (h v' w' ?_ h3 h5 (by rw [List.length_append];exact h6) h7)
 unfold OwnL
 rw [List.length_append,List.flatMap_append]
 exact h2
end
theorem RdL.stays {w w':World} {v:Value} {xs:List ByteArray} (h:RdL zH w v xs) (hn:∀ s ∈ xs,s.size ≠ 0) (hs:Stays w w'):RdL zH w' v xs:=by
 rcases h with h|⟨b,off,cap,rfl,h1,h2,h3⟩
 ·exact .inl h
 ·refine .inr ⟨b,off,cap,rfl,h1,h2,fun j u hj=>?_⟩
  have hm:=List.mem_of_getElem? hj
  rw [List.mem_flatMap] at hm
  obtain ⟨s,hsm,hu⟩:=hm
  have hu:u=.string s:=by simpa [zH] using hu
  subst hu
  exact hs b (off+j) s (h3 j _ hj) (hn s hsm)
theorem Spare.frame {w w':World} {v:Value} {n:Nat} (h:Spare w v n) (hf:∀ g,v.ownBlock=some g->w'.heap[g]?=w.heap[g]?):Spare w' v n:=fun g hg cur e hh=>h g hg cur e ((hf g hg).symm.trans hh)
theorem Spare.empty {w:World} {e:TypeId} {g n c N:Nat} (hg:g=w.heap.size):Spare (w.alloc (.cells #[] e)) (.slice (some ⟨g,0,none⟩) n c) N:=by
 subst hg
 intro g hg cur e' hh j u hj hu s hs
 have eg:w.heap.size=g:=by simpa [Value.ownBlock] using hg
 subst eg
 have h:(w.alloc (.cells #[] e)).heap[w.heap.size]?=some (.cells #[] e):=zcT w _
 rw [h] at hh
 injection hh with hh
 injection hh with hc _ _
 subst hc
 simp at hu
end Go
