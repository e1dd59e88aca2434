/- Texts of this claim, merged: the walks and what they stand on. Each condition stands in its theorem. -/
import Derived.BigQuiet
import Derived.Deep.QuietTactic
import Derived.Laws.IdiomStrings
import Derived.Lib.CountLaws
import Derived.Lib.SliceRun
import Derived.Lib.Split
import Derived.Lib.SplitLaws
import Derived.Test.YtncnbihlngapbaaGreatCB1
set_option linter.unusedVariables false
set_option linter.unusedSimpArgs false
set_option maxRecDepth 100000
set_option maxHeartbeats 8000000
namespace Go.Proofs.YtncnbihlngapbaaGreat
open Go.ChangeShapes Go.WideShapes Go.ChangeAt Go.RowKit
theorem zcn {w:World} {p:Nat} {o:Obj} (h:w.heap[p]?=some o):Got p w o w:=⟨⟨#[],w.drawn⟩,by rw [zi h];unfold World.ext;simp⟩
def zh7 (p:Nat) (vb:Value) (bs:List UInt8) (w w':World):Prop:=∃ i' h',Got p w (zaE vb i' h') w'/\0<=i'/\i'<=bs.length
theorem zW (p:Nat) (vb:Value) (bs:List UInt8) (i h n:Int) (w:World) (hc:Cur w p vb bs i h) (hn:n<=4294967296) :
  Calls Tryz.prog 11 #[.pointer (some ⟨p,0,none⟩),.int .i64 n] w fun e w'=>∃ x i' h',e=.returned (.int .i64 x)/\(0<=x/\(1<=n->x<n)/\(n<=0->x=0))/\Got p w (zaE vb i' h') w'/\0<=i'/\i'<=bs.length:=by
 have hp:=zb hc.blk
 have HC:=Hd hc
 clear hc
 by_cases hn0:n<=0
 ·go_enter Tryz.func11,Tryz.ntmps11
  go_wp2
  go_ret
  exact ⟨0,i,h,rfl,⟨by omega,fun _=>by omega,fun _=>rfl⟩,zcn HC.out.blk,HC.out.lo,HC.out.hi⟩
 ·by_cases hn1:n<=256
  ·go_enter Tryz.func11,Tryz.ntmps11
   go_wp2_with (go_at_call 20;refine (zbm p vb bs i h _ HC.out).mono ?_;rintro e w' ⟨x,i1,h1,rfl,hx0,hx1,⟨X,rfl⟩,hi0,hi1⟩)
   go_ret
   exact ⟨_,i1,h1,rfl,⟨by have:=Int.emod_nonneg x (show n ≠ 0 by omega);exact this,fun _=>Int.emod_lt_of_pos _ (by omega),fun _=>by omega⟩,(by repeat (first|with_reducible exact Got.mk _ _ _|with_reducible apply Got.ext|with_reducible apply Got.drew|with_reducible apply Got.alloc)),hi0,hi1⟩
  ·go_enter Tryz.func11,Tryz.ntmps11
   go_wp2_with fail
   (go_at_call 20;refine (zbm p vb bs _ _ _ (by repeat (first|with_reducible exact HC.out|with_reducible assumption|with_reducible apply Cur.ext|with_reducible apply Cur.alloc|with_reducible apply Cur.drew|with_reducible apply Cur.set))).mono ?_;rintro e w' ⟨x,i1,h1,rfl,hx0,hx1,⟨X,rfl⟩,hi0,hi1⟩)
   go_wp2_with fail
   (go_at_call 20;refine (zbm p vb bs _ _ _ (by repeat (first|with_reducible exact HC.out|with_reducible assumption|with_reducible apply Cur.ext|with_reducible apply Cur.alloc|with_reducible apply Cur.drew|with_reducible apply Cur.set))).mono ?_;rintro e w' ⟨y,i2,h2,rfl,hy0,hy1,⟨X2,rfl⟩,hj0,hj1⟩)
   go_wp2_with fail
   (go_at_call 20;refine (zbm p vb bs _ _ _ (by repeat (first|with_reducible exact HC.out|with_reducible assumption|with_reducible apply Cur.ext|with_reducible apply Cur.alloc|with_reducible apply Cur.drew|with_reducible apply Cur.set))).mono ?_;rintro e w' ⟨z,i3,h3,rfl,hz0,hz1,⟨X3,rfl⟩,hk0,hk1⟩)
   go_wp2_with fail
   (go_at_call 20;refine (zbm p vb bs _ _ _ (by repeat (first|with_reducible exact HC.out|with_reducible assumption|with_reducible apply Cur.ext|with_reducible apply Cur.alloc|with_reducible apply Cur.drew|with_reducible apply Cur.set))).mono ?_;rintro e w' ⟨u,i4,h4,rfl,hu0,hu1,⟨X4,rfl⟩,hl0,hl1⟩)
   go_wp2
   go_ret
   refine ⟨_,i4,h4,rfl,⟨?_,fun _=>Int.emod_lt_of_pos _ (by omega),fun _=>by omega⟩,(by repeat (first|with_reducible exact Got.mk _ _ _|with_reducible apply Got.ext|with_reducible apply Got.drew|with_reducible apply Got.alloc)),hl0,hl1⟩
   have:=Int.emod_nonneg (x*16777216+y*65536+z*256+u) (show n ≠ 0 by omega)
   exact this
theorem zcY (p:Nat) (vb:Value) (bs:List UInt8) (i h:Int) (v:Value) (xs:List Int) (w:World) (hc:Cur w p vb bs i h) (hs:RdL zbY w v xs) (hne:xs ≠ []) (hl:xs.length<=4294967296) (ho:v.ownBlock ≠ some p) :
  Calls Tryz.prog 12 #[.pointer (some ⟨p,0,none⟩),v] w fun e w'=>∃ x i' h',e=.returned (.int .i64 x)/\x ∈ xs/\Got p w (zaE vb i' h') w'/\0<=i'/\i'<=bs.length:=by
 have hp:=zb hc.blk
 have HC:=Hd hc
 clear hc
 obtain ⟨ao,cap,rfl,hc1,hc2,hnil,hcell⟩:=hs.shapeI
 obtain ⟨b,off,rfl,hbl,hcell⟩:=hcell hne
 have hbp:b ≠ p:=fun e=>ho (by simp [Value.ownBlock,e])
 have hpos : 0<xs.length:=by cases xs;exact absurd rfl hne;simp
 have HX:=Hd hcell
 clear hcell hnil hs ho hne
 unfold maxLen at hc2
 go_enter Tryz.func12,Tryz.ntmps12
 go_wp2_with fail
 (go_at_call 11;refine (zW p vb bs _ _ _ _ (by repeat (first|with_reducible exact HC.out|with_reducible assumption|with_reducible apply Cur.ext|with_reducible apply Cur.alloc|with_reducible apply Cur.drew|with_reducible apply Cur.set)) (by omega)).mono ?_;rintro e w' ⟨x,i1,h1,rfl,⟨hx0,hx1,_⟩,⟨X,rfl⟩,hi0,hi1⟩)
 have hx2:=hx1 (by omega)
 obtain ⟨k,rfl⟩:=Int.eq_ofNat_of_zero_le hx0
 have hk:k<xs.length:=by omega
 have hcc:=HX.out k hk
 clear hx1 hx2
 go_wp2
 go_ret
 exact ⟨_,i1,h1,rfl,List.getElem_mem hk,(by repeat (first|with_reducible exact Got.mk _ _ _|with_reducible apply Got.ext|with_reducible apply Got.drew|with_reducible apply Got.alloc)),hi0,hi1⟩
theorem zcg (p:Nat) (vb:Value) (bs:List UInt8) (i h:Int) (v:Value) (xs:List ByteArray) (w:World) (hc:Cur w p vb bs i h) (hs:RdL zH w v xs) (hne:xs ≠ []) (hl:xs.length<=4294967296) (ho:v.ownBlock ≠ some p) :
  Calls Tryz.prog 32 #[.pointer (some ⟨p,0,none⟩),v] w fun e w'=>∃ x i' h',e=.returned (.string x)/\x ∈ xs/\Got p w (zaE vb i' h') w'/\0<=i'/\i'<=bs.length:=by
 have hp:=zb hc.blk
 have HC:=Hd hc
 clear hc
 obtain ⟨ao,cap,rfl,hc1,hc2,hnil,hcell⟩:=hs.shapeS
 obtain ⟨b,off,rfl,hbl,hcell⟩:=hcell hne
 have hbp:b ≠ p:=fun e=>ho (by simp [Value.ownBlock,e])
 have hpos : 0<xs.length:=by cases xs;exact absurd rfl hne;simp
 have HX:=Hd hcell
 clear hcell hnil hs ho hne
 unfold maxLen at hc2
 go_enter Tryz.func32,Tryz.ntmps32
 go_wp2_with fail
 (go_at_call 11;refine (zW p vb bs _ _ _ _ (by repeat (first|with_reducible exact HC.out|with_reducible assumption|with_reducible apply Cur.ext|with_reducible apply Cur.alloc|with_reducible apply Cur.drew|with_reducible apply Cur.set)) (by omega)).mono ?_;rintro e w' ⟨x,i1,h1,rfl,⟨hx0,hx1,_⟩,⟨X,rfl⟩,hi0,hi1⟩)
 have hx2:=hx1 (by omega)
 obtain ⟨k,rfl⟩:=Int.eq_ofNat_of_zero_le hx0
 have hk:k<xs.length:=by omega
 have hcc:=HX.out k hk
 clear hx1 hx2
 go_wp2
 go_ret
 exact ⟨_,i1,h1,rfl,List.getElem_mem hk,(by repeat (first|with_reducible exact Got.mk _ _ _|with_reducible apply Got.ext|with_reducible apply Got.drew|with_reducible apply Got.alloc)),hi0,hi1⟩
theorem zcN (xs:List ByteArray) (x:ByteArray):(zck xs x).length<=xs.length+1:=by
 unfold zck
 split
 ·omega
 ·simp [List.length_take];omega
theorem zaS (v:Value) (xs:List ByteArray) (x:ByteArray) (w:World) (hs:RdL zH w v xs) (hl:xs.length<=1099511627775) :
  Calls Tryz.prog 22 #[v,.string x] w fun e w'=>∃ v',e=.returned v'/\OwnL zH 9 w' w.heap.size v' (zck xs x)/\Below w.heap.size w w':=by
 have HL:Hid ((zck xs x).length<=1099511627776):=Nat.le_trans (zcN xs x) (by omega)
 have HS:=Hd hs
 clear hs
 go_enter Tryz.func22,Tryz.ntmps22
 go_wp2_with fail
 (go_at_call 31;refine (zhA v xs x _ (HS.out.alloc _) (by omega)).mono ?_;rintro e w1 ⟨v1,rfl,h1,hb⟩;obtain ⟨X,rfl⟩:=hb.ext;clear hb)
 go_wp2_with (at_builtin;refine zP ?_)
 have hl2:=HL.out
 refine zR rfl _ _ _ rfl zah ((OwnL.empty zH _ w).ext X) rfl (h1) rfl (by (try simp only [List.nil_append,List.length_append,List.length_singleton,List.length_nil]);(try unfold maxLen);omega) (by (try simp only [List.nil_append,List.length_append,List.length_singleton,List.length_nil]);(try unfold maxLen);omega) (Below.size ((by repeat (first|with_reducible exact Below.refl _ _|with_reducible apply Below.ofExt|with_reducible apply Below.ofAlloc|with_reducible apply Below.drew|with_reducible apply Below.ofDrewN|with_reducible assumption|(with_reducible refine Below.setCell ?_ (by first|exact Nat.le_refl _|(simp [go_sem];done)|(simp [go_sem];omega)) _))))) ?_
 intro v2 w2 hown2 hg2 hz2
 have hb2:Below w.heap.size w w2:=Below.appL ((by repeat (first|with_reducible exact Below.refl _ _|with_reducible apply Below.ofExt|with_reducible apply Below.ofAlloc|with_reducible apply Below.drew|with_reducible apply Below.ofDrewN|with_reducible assumption|(with_reducible refine Below.setCell ?_ (by first|exact Nat.le_refl _|(simp [go_sem];done)|(simp [go_sem];omega)) _)))) hg2 ((OwnL.empty zH _ w).ext X)
 clear hg2
 have hs2:=hb2.size
 go_wp2
 go_ret
 exact ⟨v2,rfl,by simpa using hown2,hb2⟩
def zgy:List ByteArray:=[⟨#[97]⟩,⟨#[98]⟩,⟨#[110,47,120]⟩,⟨#[110,47,121]⟩,⟨#[110,47,121,121]⟩,⟨#[105,47,49,47,115]⟩,⟨#[105,47,49,47,98,47,48]⟩,⟨#[105,47,49,50,47,115]⟩,⟨#[99,47,112,105,112,101]⟩,⟨#[112,47,49,47,104]⟩]
theorem zhB (p:Nat) (vb:Value) (bs:List UInt8) (i h:Int) (w:World) (hc:Cur w p vb bs i h) :
  Calls Tryz.prog 23 #[.pointer (some ⟨p,0,none⟩)] w fun e w'=>∃ x i' h',e=.returned (.string x)/\x ∈ zgy/\Got p w (zaE vb i' h') w'/\0<=i'/\i'<=bs.length:=by
 have hp:=zb hc.blk
 have HC:=Hd hc
 clear hc
 go_enter Tryz.func23,Tryz.ntmps23
 go_wp2_with fail
 (go_at_call 32;refine (zcg p vb bs _ _ _ zgy _ (by repeat (first|with_reducible exact HC.out|with_reducible assumption|with_reducible apply Cur.ext|with_reducible apply Cur.alloc|with_reducible apply Cur.drew|with_reducible apply Cur.set)) (RdL.lit zH w zgy 10 rfl (by decide) _ rfl _) (by decide) (by decide) (by simp [Value.ownBlock];omega)).mono ?_;rintro e w' ⟨x,i1,h1,rfl,hx,⟨X,rfl⟩,hi0,hi1⟩)
 go_wp2
 go_ret
 exact ⟨x,i1,h1,rfl,hx,(by repeat (first|with_reducible exact Got.mk _ _ _|with_reducible apply Got.ext|with_reducible apply Got.drew|with_reducible apply Got.alloc)),hi0,hi1⟩
def ze1:List ByteArray:=[⟨#[97]⟩,⟨#[98]⟩,⟨#[110,47,120]⟩,⟨#[110,47,121]⟩,⟨#[110,47,121,121]⟩,⟨#[110,47,42]⟩,⟨#[110,47,121,42]⟩,⟨#[105,47,49,47,42]⟩,⟨#[105,47,49,47,115]⟩,⟨#[105,47,42]⟩,⟨#[42]⟩,⟨#[105,47,49,50,47,115]⟩]
theorem zg0 (p:Nat) (vb:Value) (bs:List UInt8) (i h:Int) (w:World) (hc:Cur w p vb bs i h) :
  Calls Tryz.prog 30 #[.pointer (some ⟨p,0,none⟩)] w fun e w'=>∃ x i' h',e=.returned (.string x)/\x ∈ ze1/\Got p w (zaE vb i' h') w'/\0<=i'/\i'<=bs.length:=by
 have hp:=zb hc.blk
 have HC:=Hd hc
 clear hc
 go_enter Tryz.func30,Tryz.ntmps30
 go_wp2_with fail
 (go_at_call 32;refine (zcg p vb bs _ _ _ ze1 _ (by repeat (first|with_reducible exact HC.out|with_reducible assumption|with_reducible apply Cur.ext|with_reducible apply Cur.alloc|with_reducible apply Cur.drew|with_reducible apply Cur.set)) (RdL.lit zH w ze1 12 rfl (by decide) _ rfl _) (by decide) (by decide) (by simp [Value.ownBlock];omega)).mono ?_;rintro e w' ⟨x,i1,h1,rfl,hx,⟨X,rfl⟩,hi0,hi1⟩)
 go_wp2
 go_ret
 exact ⟨x,i1,h1,rfl,hx,(by repeat (first|with_reducible exact Got.mk _ _ _|with_reducible apply Got.ext|with_reducible apply Got.drew|with_reducible apply Got.alloc)),hi0,hi1⟩
def ziG:Value:=.slice none 0 0
def zbw (vr vw:Value):Obj:=.cells #[vr,vw] 27 (0,0)
theorem World.alloc_new (w:World) (o:Obj):(w.alloc o).heap[w.heap.size]?=some o:=by
 show (w.heap.push o)[w.heap.size]?=some o
 simp
theorem newCur {w:World} {X:Ext} {v:Value} {bs:List UInt8} {x:Int} (hsz:(w.ext X).heap.size=w.heap.size) (hs:Sl w v bs.length (zU bs)) (hb:∀ b,v.ownBlock=some b->b<w.heap.size) (hl:bs.length<=140737488351232) :
  Cur ((w.ext X).alloc (.cells #[v,.int .i64 0,.int .i64 x] 50)) w.heap.size v bs 0 x:=by
 refine ⟨?_,(hs.ext X).alloc _,Int.le_refl _,by omega,fun e=>absurd (hb _ e) (Nat.lt_irrefl _),hl⟩
 rw [<- hsz]
 exact World.alloc_new _ _
theorem zfo (v:Value) (bs:List UInt8) (w:World) (hs:Sl w v bs.length (zU bs)) (hl:bs.length<=140737488351232) (hb:∀ b,v.ownBlock=some b->b<w.heap.size) :
  Calls Tryz.prog 9 #[v] w fun e w'=>∃ p,e=.returned (.pointer (some ⟨p,0,none⟩))/\(∃ h,Cur w' p v bs 0 h)/\Below w.heap.size w w'/\w.heap.size<=p:=by
 have HS:=Hd hs
 have HB:=Hd hb
 obtain ⟨ao,cap,rfl,hc1,hc2,hnil,hcell⟩:=hs.shape
 have HX:=Hd hcell
 clear hcell hs hb hnil
 unfold maxLen at hc2
 go_enter Tryz.func9,Tryz.ntmps9
 go_wp2
 go_loopw [3,4] (fun hv iv wr=>∃ (x:Int) (n:Nat),hv=.int .i64 x/\iv=.int .i64 n/\n<=bs.length/\n<=4000/\Below w.heap.size w wr/\wr.heap.size=w.heap.size) (fun _ k _=>4000 - (intOf k).toNat)
 case atStart=>exact ⟨_,0,rfl,rfl,by omega,by omega,(by repeat (first|with_reducible exact Below.refl _ _|with_reducible apply Below.ofExt|with_reducible apply Below.ofAlloc|with_reducible apply Below.drew|with_reducible apply Below.ofDrewN|with_reducible assumption|(with_reducible refine Below.setCell ?_ (by first|exact Nat.le_refl _|(simp [go_sem];done)|(simp [go_sem];omega)) _))),rfl⟩
 case round =>
  obtain ⟨x,n,rfl,rfl,hn1,hn2,hbel,hsz⟩:=hrel
  obtain ⟨X,rfl⟩:=hbel.ext
  by_cases h1:(n:Int)<bs.length
  ·by_cases h2:(n:Int)<4000
   ·obtain ⟨b,off,rfl,hcell⟩:=HX.out (by omega)
    have hk:n<bs.length:=by omega
    have hcc:w.cell? ⟨b,off+n,none⟩=some (.int .u8 (bs[n].toNat)):=hcell n _ (by simp [zU,hk])
    have hbk:bs[n].toNat<256:=bs[n].toNat_lt
    generalize bs[n].toNat=q at hcc hbk
    have hbl:=World.block_lt_of_cell? w _ hcc
    clear hcell
    go_wp2
    go_roundw
    case rel=>exact ⟨_,n+1,rfl,by go_num,by omega,by omega,(by repeat (first|with_reducible exact Below.refl _ _|with_reducible apply Below.ofExt|with_reducible apply Below.ofAlloc|with_reducible apply Below.drew|with_reducible apply Below.ofDrewN|with_reducible assumption|(with_reducible refine Below.setCell ?_ (by first|exact Nat.le_refl _|(simp [go_sem];done)|(simp [go_sem];omega)) _))),by simpa using hsz⟩
    case measure=>simp [intOf];omega
   ·go_wp2
    go_ret
    exact ⟨w.heap.size,rfl,⟨x,newCur (by simpa using hsz) HS.out HB.out hl⟩,(by repeat (first|with_reducible exact Below.refl _ _|with_reducible apply Below.ofExt|with_reducible apply Below.ofAlloc|with_reducible apply Below.drew|with_reducible apply Below.ofDrewN|with_reducible assumption|(with_reducible refine Below.setCell ?_ (by first|exact Nat.le_refl _|(simp [go_sem];done)|(simp [go_sem];omega)) _))),Nat.le_refl _⟩
  ·go_wp2
   go_ret
   exact ⟨w.heap.size,rfl,⟨x,newCur (by simpa using hsz) HS.out HB.out hl⟩,(by repeat (first|with_reducible exact Below.refl _ _|with_reducible apply Below.ofExt|with_reducible apply Below.ofAlloc|with_reducible apply Below.drew|with_reducible apply Below.ofDrewN|with_reducible assumption|(with_reducible refine Below.setCell ?_ (by first|exact Nat.le_refl _|(simp [go_sem];done)|(simp [go_sem];omega)) _))),Nat.le_refl _⟩
structure Raw where
 a:Option Addr
 n:Nat
 cap:Nat
def Raw.v (r:Raw):Value:=.slice r.a r.n r.cap
structure TxR where
 id:Int
 age:Int
 proc:Int
 began:Int
 calls:Raw
 answers:Raw
 tr:Raw
 tw:Raw
 marks:Raw
 state:Int
def TxR.cells (x:TxR):List Value:=[.int .i64 x.id,.int .i64 x.age,.int .i64 x.proc,.int .i64 x.began,x.calls.v,x.answers.v,x.tr.v,x.tw.v,x.marks.v,.int .i64 x.state]
def TxR.v (x:TxR):Value:=.agg #[.int .i64 x.id,.int .i64 x.age,.int .i64 x.proc,.int .i64 x.began,x.calls.v,x.answers.v,x.tr.v,x.tw.v,x.marks.v,.int .i64 x.state]
def rTx:RowOf TxR:=⟨TxR.cells,10,fun _=>rfl,by intro x;simp [TxR.cells,Value.oneCell',Raw.v]⟩
theorem zeP:Elem Tryz.prog 24 35 10 160:=Elem.of (.agg (TxR.cells ⟨0,0,0,0,⟨none,0,0⟩,⟨none,0,0⟩,⟨none,0,0⟩,⟨none,0,0⟩,⟨none,0,0⟩,0⟩).toArray) Tryz.underlying24 (by kernel_rfl) rfl (by decide)
end Go.Proofs.YtncnbihlngapbaaGreat
namespace Go
open Go.RowKit
@[go_sem] theorem World.drewN_ext (w:World) (X:Ext) (n:Nat):(w.ext X).drewN n=w.ext ⟨X.bs,X.dr+n⟩:=rfl
theorem RowKit.Below.ofDrewN {a w:World} (h:Below a.heap.size a w) (n:Nat):Below a.heap.size a (w.drewN n):=⟨h.os,h.tape,h.output,h.size,h.block⟩
def Grew (w w':World):Prop:=∀ b,b<w.heap.size->w'.heap[b]?=w.heap[b]?
theorem Grew.refl (w:World):Grew w w:=fun _ _=>rfl
theorem Grew.ext (w:World) (X:Ext):Grew w (w.ext X):=fun _ h=>w.ext_get X h
theorem Grew.alloc (w:World) (o:Obj):Grew w (w.alloc o):=fun _ h=>by
 show (w.heap.push o)[_]?=w.heap[_]?
 rw [Array.getElem?_push,if_neg (Nat.ne_of_lt h)]
theorem Grew.drew (w:World):Grew w w.drew:=fun _ _=>rfl
theorem Grew.below {w w':World} (h:Below w.heap.size w w'):Grew w w':=fun b hb=>h.block b hb
theorem Grew.cell {w w':World} (g:Grew w w') {a:Addr} {v:Value} (h:w.cell? a=some v):w'.cell? a=some v :=
 (World.cell?_of_block (g a.block (World.block_lt_of_cell? w a h))).trans h
structure View (α : Type) where
 k:Nat
 rd:World->List Value->α->Prop
 own:World->List Nat->List Value->α->Prop
 len:∀ {w cs d},rd w cs d->cs.length=k
 one:∀ {w cs d},rd w cs d->∀ u ∈ cs,u.oneCell'=true
 grow:∀ {w w' cs d},rd w cs d->Grew w w'->rd w' cs d
 toRd:∀ {w fp cs d},own w fp cs d->rd w cs d
 frame:∀ {w w' fp cs d},own w fp cs d->(∀ b ∈ fp,w'.heap[b]?=w.heap[b]?)->own w' fp cs d
 lt:∀ {w fp cs d},own w fp cs d->∀ b ∈ fp,b<w.heap.size
section
variable {α β : Type} {V:View α} {w w':World} {cs:List Value} {fp:List Nat} {d : α}
theorem zI (h:V.rd w cs d) (X:Ext):V.rd (w.ext X) cs d:=V.grow h (Grew.ext w X)
theorem zD (h:V.rd w cs d) (o:Obj):V.rd (w.alloc o) cs d:=V.grow h (Grew.alloc w o)
theorem zG (h:V.rd w cs d):V.rd w.drew cs d:=V.grow h (Grew.drew w)
theorem zC (h:V.rd w cs d) (n:Nat):V.rd (w.drewN n) cs d:=V.grow h (fun _ _=>rfl)
theorem zB {xs bs:Array Obj} {d0 dr:Nat} (h:V.rd (w.ext ⟨xs,d0⟩) cs d):V.rd (w.ext ⟨xs++bs,dr⟩) cs d:=by
 have:=zI h ⟨bs,dr⟩
 rwa [zm] at this
end
theorem zhR {k:Nat} {css:List (List Value)} (h:∀ i (hc:i<css.length),(css[i]).length=k) (i:Nat) (hi:i<css.length) (j:Nat) (u:Value) (hu:css[i][j]?=some u):css.flatten[i*k+j]?=some u:=by
 induction css generalizing i with
 | nil=>simp at hi
 | cons c r ih =>
  have h0:c.length=k:=h 0 (by simp)
  cases i with
  | zero =>
   have hj:j<c.length:=by
    have:=(List.getElem?_eq_some_iff.1 hu).1
    simpa using this
   rw [List.flatten_cons,List.getElem?_append_left (by omega)]
   simpa using hu
  | succ i =>
   rw [List.flatten_cons,List.getElem?_append_right (by rw [h0,Nat.add_mul];omega),h0,show (i+1)*k+j - k=i*k+j by rw [Nat.add_mul];omega]
   exact ih (fun i hc=>by have:=h (i+1) (by simpa using hc);rwa [List.getElem_cons_succ] at this) i (by simpa using hi) (by simpa using hu)
def vSlice {α : Type} (V:View α) (e:TypeId):View (List α) where
 k:=1
 rd w cs ds:=∃ (ao:Option Addr) (cap:Nat) (css:List (List Value)),cs = [.slice ao ds.length cap]/\ds.length<=cap/\cap<=maxLen/\(ao=none->cap=0)/\css.length=ds.length /\
  (∀ i (hi:i<ds.length) (hc:i<css.length),V.rd w css[i] ds[i]) /\
  (ds ≠ []->∃ b off,ao=some ⟨b,off,none⟩/\b<w.heap.size/\∀ j u,css.flatten[j]?=some u->w.cell? ⟨b,off+j,none⟩=some u)
 own w fp cs ds:=(cs = [.slice none 0 0]/\ds = []/\fp = []) ∨ ∃ (b cap:Nat) (blk:Array Value) (css:List (List Value)) (fps:List (List Nat)),cs = [.slice (some ⟨b,0,none⟩) ds.length cap]/\w.heap[b]?=some (.cells blk e (0,0)) /\
  ds.length<=cap/\cap<=maxLen/\blk.size=cap*V.k/\blk.toList.take (ds.length*V.k)=css.flatten/\fp=b :: fps.flatten/\css.length=ds.length/\fps.length=ds.length /\
  ∀ i (hi:i<ds.length) (hc:i<css.length) (hf:i<fps.length),V.own w fps[i] css[i] ds[i]
 len:=by rintro w cs ds ⟨ao,cap,css,rfl,_⟩;rfl
 one:=by rintro w cs ds ⟨ao,cap,css,rfl,_⟩ u hu;simp at hu;subst hu;rfl
 grow:=by
  rintro w w' cs ds ⟨ao,cap,css,rfl,h1,h2,h3,h4,h5,h6⟩ g
  refine ⟨ao,cap,css,rfl,h1,h2,h3,h4,fun i hi hc=>V.grow (h5 i hi hc) g,fun hne=>?_⟩
  obtain ⟨b,off,e,hb,hcell⟩:=h6 hne
  refine ⟨b,off,e,?_,fun j u hj=>g.cell (hcell j u hj)⟩
  have:=g b hb
  rw [Array.getElem?_eq_getElem hb] at this
  exact (Array.getElem?_eq_some_iff.1 this).1
 toRd:=by
  rintro w fp cs ds (⟨rfl,rfl,rfl⟩|⟨b,cap,blk,css,fps,rfl,hb,h1,h2,h3,h4,rfl,h5,h6,h7⟩)
  ·exact ⟨none,0,[],rfl,Nat.le_refl _,Nat.zero_le _,fun _=>rfl,rfl,fun i hi=>absurd hi (by simp),fun h=>absurd rfl h⟩
  ·refine ⟨_,cap,css,rfl,h1,h2,(fun h=>by cases h),h5,fun i hi hc=>V.toRd (h7 i hi hc (by omega)),fun _=>⟨b,0,rfl,zb hb,fun j u hj=>?_⟩⟩
   rw [zg hb,<- h4] at *
   rw [List.getElem?_take] at hj
   split at hj
   ·rw [Nat.zero_add]
    simpa using hj
   ·cases hj
 frame:=by
  rintro w w' fp cs ds (⟨rfl,rfl,rfl⟩|⟨b,cap,blk,css,fps,rfl,hb,h1,h2,h3,h4,rfl,h5,h6,h7⟩) g
  ·exact .inl ⟨rfl,rfl,rfl⟩
  ·refine .inr ⟨b,cap,blk,css,fps,rfl,(g b (by simp)).trans hb,h1,h2,h3,h4,rfl,h5,h6,fun i hi hc hf=>V.frame (h7 i hi hc hf) fun c hcb=>g c ?_⟩
   exact List.mem_cons_of_mem _ (List.mem_flatten.2 ⟨_,List.getElem_mem hf,hcb⟩)
 lt:=by
  rintro w fp cs ds (⟨rfl,rfl,rfl⟩|⟨b,cap,blk,css,fps,rfl,hb,h1,h2,h3,h4,rfl,h5,h6,h7⟩) c hc
  ·cases hc
  ·rcases List.mem_cons.1 hc with rfl|hc
   ·exact zb hb
   ·obtain ⟨l,hl,hcl⟩:=List.mem_flatten.1 hc
    obtain ⟨i,hi,rfl⟩:=List.getElem_of_mem hl
    exact V.lt (h7 i (by omega) (by omega) hi) c hcl
section
variable {α : Type} {V:View α} {e:TypeId} {w:World} {v:Value} {ds:List α}
theorem vSlice.shape (h:(vSlice V e).rd w [v] ds):∃ ao cap,v=.slice ao ds.length cap/\ds.length<=cap/\cap<=maxLen/\(ao=none->cap=0) /\
  (∀ i (hi:i<ds.length),∃ b off cs,ao=some ⟨b,off,none⟩/\b<w.heap.size/\V.rd w cs ds[i]/\∀ j u,cs[j]?=some u->w.cell? ⟨b,off+i*V.k+j,none⟩=some u):=by
 obtain ⟨ao,cap,css,hv,h1,h2,h3,h4,h5,h6⟩:=h
 simp only [List.cons.injEq,and_true] at hv
 refine ⟨ao,cap,hv,h1,h2,h3,fun i hi=>?_⟩
 obtain ⟨b,off,ea,hb,hcell⟩:=h6 (by intro hz;subst hz;simp at hi)
 refine ⟨b,off,css[i],ea,hb,h5 i hi (by omega),fun j u hj=>?_⟩
 rw [Nat.add_assoc]
 exact hcell _ u (zhR (fun i hc=>V.len (h5 i (by omega) hc)) i (by omega) j u hj)
end
end Go
namespace Go
open Go.RowKit
def vRow {α : Type} (row : α->List Value) (k:Nat) (ok : α->Prop) (hk:∀ d,(row d).length=k) (h1:∀ d,∀ u ∈ row d,u.oneCell'=true):View α where
 k:=k
 rd _ cs d:=cs=row d/\ok d
 own _ fp cs d:=fp = []/\cs=row d/\ok d
 len h:=by rw [h.1];exact hk _
 one h:=by rw [h.1];exact h1 _
 grow h _:=h
 toRd h:=h.2
 frame h _:=h
 lt h:=by rw [h.1];simp
def vInt:View Int:=vRow (fun n=>[.int .i64 n]) 1 (fun _=>True) (fun _=>rfl) (by simp [Value.oneCell'])
def zgl:View ByteArray:=vRow (fun n=>[.string n]) 1 (fun s=>s.size<=9223372036854775807) (fun _=>rfl) (by simp [Value.oneCell'])
end Go
namespace Go.Proofs.YtncnbihlngapbaaGreat
open Go.RowKit
end Go.Proofs.YtncnbihlngapbaaGreat
namespace Go
open Go.RowKit
structure Fresh {α : Type} (V:View α) (w w':World) (fp:List Nat) (cs:List Value) (d : α):Prop where
 own:V.own w' fp cs d
 nodup:fp.Nodup
 lo:∀ b ∈ fp,w.heap.size<=b
theorem zdX {α : Type} {row : α->List Value} {k:Nat} {ok : α->Prop} {hk:∀ d,(row d).length=k} {h1:∀ d,∀ u ∈ row d,u.oneCell'=true} {e:TypeId} {w:World} {b cap n:Nat} {blk:Array Value} {ds:List α}
  (h:w.heap[b]?=some (.cells blk e (0,0))) (hl:n=ds.length) (hn:n<=cap) (hm:cap<=maxLen) (hs:blk.size=cap*k) (ht:blk.toList.take (n*k)=ds.flatMap row) (hok:∀ d ∈ ds,ok d) :
  (vSlice (vRow row k ok hk h1) e).own w [b] [.slice (some ⟨b,0,none⟩) n cap] ds:=by
 subst hl
 refine .inr ⟨b,cap,blk,ds.map row,ds.map fun _=>[],rfl,h,hn,hm,hs,?_,?_,by simp,by simp,?_⟩
 ·rw [<- List.flatMap_def];exact ht
 ·have:(ds.map fun _=>([]:List Nat)).flatten = []:=by
   rw [List.flatten_eq_nil_iff]
   intro l hl
   obtain ⟨_,_,rfl⟩:=List.mem_map.1 hl
   rfl
  rw [this]
 ·intro i hi hc hf
  refine ⟨by simp,by simp,hok _ (List.getElem_mem hi)⟩
end Go
namespace Go
open Go.RowKit
def Made {α : Type} (V:View α) (w:World) (d : α):Ending->World->Prop:=fun e w'=>∃ v' fp,e=.returned v'/\Fresh V w w' fp [v'] d/\Below w.heap.size w w'
end Go
namespace Go
open Go.RowKit
theorem vSlice.form {α : Type} {V:View α} {e:TypeId} {w:World} {v:Value} {ds:List α} (h:(vSlice V e).rd w [v] ds):∃ ao cap,v=.slice ao ds.length cap:=by
 obtain ⟨ao,cap,rfl,_⟩:=vSlice.shape h
 exact ⟨ao,cap,rfl⟩
structure Sp (lo hi:Nat) (fp:List Nat):Prop where
 nodup:fp.Nodup
 lo:∀ b ∈ fp,lo<=b
 hi:∀ b ∈ fp,b<hi
theorem Sp.nil (lo hi:Nat):Sp lo hi []:=⟨List.nodup_nil,by simp,by simp⟩
def Pre (A B:Array Obj):Prop:=∃ R,B=A++R
theorem Pre.refl (A:Array Obj):Pre A A:=⟨#[],by simp⟩
structure RowsOwn {α : Type} (V:View α) (w:World) (css:List (List Value)) (fps:List (List Nat)) (ds:List α):Prop where
 cl:css.length=ds.length
 fl:fps.length=ds.length
 el:∀ i (hi:i<ds.length) (hc:i<css.length) (hf:i<fps.length),V.own w fps[i] css[i] ds[i]
theorem RowsOwn.nil {α : Type} (V:View α) (w:World):RowsOwn V w [] [] []:=⟨rfl,rfl,fun i hi=>absurd hi (by simp)⟩
theorem RowsOwn.lt {α : Type} {V:View α} {w:World} {css:List (List Value)} {fps:List (List Nat)} {ds:List α} (h:RowsOwn V w css fps ds):∀ b ∈ fps.flatten,b<w.heap.size:=by
 intro b hb
 obtain ⟨l,hl,hbl⟩:=List.mem_flatten.1 hb
 obtain ⟨i,hi,rfl⟩:=List.getElem_of_mem hl
 exact V.lt (h.el i (by have:=h.fl;omega) (by have:=h.fl;have:=h.cl;omega) hi) b hbl
end Go
namespace Go
open Go.RowKit
structure Upon (fp:List Nat) (w w':World):Prop where
 os:w'.os=w.os
 tape:w'.tape=w.tape
 output:w'.output=w.output
 size:w.heap.size<=w'.heap.size
 block:∀ b,b<w.heap.size->b ∉ fp->w'.heap[b]?=w.heap[b]?
theorem Upon.refl (fp:List Nat) (w:World):Upon fp w w:=⟨rfl,rfl,rfl,Nat.le_refl _,fun _ _ _=>rfl⟩
theorem Upon.trans {fp:List Nat} {a b c:World} (h:Upon fp a b) (h':Upon fp b c):Upon fp a c :=
 ⟨h'.os.trans h.os,h'.tape.trans h.tape,h'.output.trans h.output,Nat.le_trans h.size h'.size,fun k hk hn=>(h'.block k (Nat.lt_of_lt_of_le hk h.size) hn).trans (h.block k hk hn)⟩
theorem Upon.below {fp:List Nat} {a b:World} (h:Below a.heap.size a b):Upon fp a b:=⟨h.os,h.tape,h.output,h.size,fun k hk _=>h.block k hk⟩
theorem Upon.setB {fp:List Nat} (w:World) {b:Nat} (o:Obj) (hb:b ∈ fp):Upon fp w (w.setB b o) :=
 ⟨rfl,rfl,rfl,by rw [zd];exact Nat.le_refl _,fun k _ hn=>World.setB_get w b o k (fun e=>hn (e ▸ hb))⟩
end Go
namespace Go.Proofs.YtncnbihlngapbaaGreat
open Go.ChangeShapes Go.WideShapes Go.ChangeAt Go.RowKit
def marks {α : Type} (mk:Int->α) (c:Nat) (k:Int) (n:Nat):List α:=(List.range n).map fun i=>mk (k+(c*i:Nat))
structure CallD where
 kind:Int
 name:ByteArray
 to:ByteArray
 a:Int
 b:Int
 text:ByteArray
def CallD.row (d:CallD):List Value:=[.int .i64 d.kind,.string d.name,.string d.to,.int .i64 d.a,.int .i64 d.b,.string d.text]
def CallD.ok (d:CallD):Prop:=d.name.size<=9223372036854775807/\d.to.size<=9223372036854775807/\d.text.size<=9223372036854775807
def vCall:View CallD:=vRow CallD.row 6 CallD.ok (fun _=>rfl) (fun d u hu=>by simp [CallD.row] at hu;rcases hu with rfl|rfl|rfl|rfl|rfl|rfl<;>rfl)
structure AnswerD where
 code:Int
 n:Int
 text:ByteArray
def AnswerD.row (d:AnswerD):List Value:=[.int .i64 d.code,.int .i64 d.n,.string d.text]
def AnswerD.ok (d:AnswerD):Prop:=d.text.size<=9223372036854775807
def zjh:View AnswerD:=vRow AnswerD.row 3 AnswerD.ok (fun _=>rfl) (fun d u hu=>by simp [AnswerD.row] at hu;rcases hu with rfl|rfl|rfl<;>rfl)
theorem zcw {v:Value} {xs:List ByteArray} {w:World} {e:TypeId} (h:(vSlice zgl e).rd w [v] xs):∃ ao cap,v=.slice ao xs.length cap/\xs.length<=cap/\cap<=maxLen/\(ao=none->cap=0/\xs = []) /\
  (xs ≠ []->∃ b off,ao=some ⟨b,off,none⟩/\b<w.heap.size/\∀ (i:Nat) (hi:i<xs.length),w.cell? ⟨b,off+i,none⟩=some (Value.string xs[i]))/\∀ s ∈ xs,s.size<=9223372036854775807:=by
 obtain ⟨ao,cap,rfl,h1,h2,h3,h4⟩:=vSlice.shape h
 refine ⟨ao,cap,rfl,h1,h2,fun e=>⟨h3 e,List.eq_nil_of_length_eq_zero (by have:=h3 e;omega)⟩,fun hne=>?_,fun s hs=>?_⟩
 ·have hl : 0<xs.length:=List.length_pos_iff.2 hne
  obtain ⟨b,off,cs,rfl,hb,_,_⟩:=h4 0 hl
  refine ⟨b,off,rfl,hb,fun i hi=>?_⟩
  obtain ⟨b',off',cs',e,_,hr,hc⟩:=h4 i hi
  simp only [Option.some.injEq,Addr.mk.injEq,and_true] at e
  obtain ⟨rfl,rfl⟩:=e
  obtain ⟨rfl,_⟩:=hr
  have:=hc 0 _ rfl
  simpa [zgl,vRow] using this
 ·obtain ⟨i,hi,rfl⟩:=List.getElem_of_mem hs
  obtain ⟨_,_,_,_,_,hr,_⟩:=h4 i hi
  exact hr.2
structure TouchD where
 reads:List ByteArray
 writes:List ByteArray
def zbv:View TouchD where
 k:=2
 rd w cs d:=∃ (s0 s1:Value),cs = [s0,s1]/\(vSlice zgl 9).rd w [s0] d.reads/\(vSlice zgl 9).rd w [s1] d.writes
 own w fp cs d:=∃ (s0 s1:Value) (f0 f1:List Nat),cs = [s0,s1]/\fp=f0++f1/\(vSlice zgl 9).own w f0 [s0] d.reads/\(vSlice zgl 9).own w f1 [s1] d.writes
 len:=by rintro w cs d ⟨s0,s1,rfl,_⟩;rfl
 one:=by
  rintro w cs d ⟨s0,s1,rfl,h0,h1⟩ u hu
  simp only [List.mem_cons,List.not_mem_nil,or_false] at hu
  rcases hu with rfl|rfl
  ·exact View.one _ h0 _ (by simp)
  ·exact View.one _ h1 _ (by simp)
 grow:=by rintro w w' cs d ⟨s0,s1,rfl,h0,h1⟩ g;exact ⟨s0,s1,rfl,View.grow _ h0 g,View.grow _ h1 g⟩
 toRd:=by rintro w fp cs d ⟨s0,s1,f0,f1,rfl,rfl,h0,h1⟩;exact ⟨s0,s1,rfl,View.toRd _ h0,View.toRd _ h1⟩
 frame:=by
  rintro w w' fp cs d ⟨s0,s1,f0,f1,rfl,rfl,h0,h1⟩ g
  exact ⟨s0,s1,f0,f1,rfl,rfl,View.frame _ h0 fun b hb=>g b (by simp [hb]),View.frame _ h1 fun b hb=>g b (by simp [hb])⟩
 lt:=by
  rintro w fp cs d ⟨s0,s1,f0,f1,rfl,rfl,h0,h1⟩ b hb
  simp only [List.mem_append] at hb
  rcases hb with hb|hb
  ·exact View.lt _ h0 b hb
  ·exact View.lt _ h1 b hb
theorem zen:Elem Tryz.prog 30 3 1 8:=Elem.of (.int .i64 0) Tryz.underlying30 (by kernel_rfl) rfl (by decide)
structure TxD where
 id:Int
 age:Int
 proc:Int
 began:Int
 calls:List CallD
 answers:List AnswerD
 touch:TouchD
 marks:List Int
 state:Int
def vTx:View TxD where
 k:=10
 rd w cs d:=∃ (s0 s1 s2 s3 s4:Value),cs = [.int .i64 d.id,.int .i64 d.age,.int .i64 d.proc,.int .i64 d.began,s0,s1,s2,s3,s4,.int .i64 d.state]/\(vSlice vCall 63).rd w [s0] d.calls/\(vSlice zjh 59).rd w [s1] d.answers/\(vSlice zgl 9).rd w [s2] d.touch.reads/\(vSlice zgl 9).rd w [s3] d.touch.writes/\(vSlice vInt 3).rd w [s4] d.marks
 own w fp cs d:=∃ (s0 s1 s2 s3 s4:Value) (f0 f1 f2 f3 f4:List Nat),cs = [.int .i64 d.id,.int .i64 d.age,.int .i64 d.proc,.int .i64 d.began,s0,s1,s2,s3,s4,.int .i64 d.state]/\fp=f0++f1++f2++f3++f4/\(vSlice vCall 63).own w f0 [s0] d.calls/\(vSlice zjh 59).own w f1 [s1] d.answers/\(vSlice zgl 9).own w f2 [s2] d.touch.reads/\(vSlice zgl 9).own w f3 [s3] d.touch.writes/\(vSlice vInt 3).own w f4 [s4] d.marks
 len:=by rintro w cs d ⟨s0,s1,s2,s3,s4,rfl,_⟩;rfl
 one:=by
  rintro w cs d ⟨s0,s1,s2,s3,s4,rfl,h0,h1,h2,h3,h4⟩ u hu
  simp only [List.mem_cons,List.not_mem_nil,or_false] at hu
  rcases hu with rfl|rfl|rfl|rfl|rfl|rfl|rfl|rfl|rfl|rfl
  ·rfl
  ·rfl
  ·rfl
  ·rfl
  ·exact View.one _ h0 _ (by simp)
  ·exact View.one _ h1 _ (by simp)
  ·exact View.one _ h2 _ (by simp)
  ·exact View.one _ h3 _ (by simp)
  ·exact View.one _ h4 _ (by simp)
  ·rfl
 grow:=by rintro w w' cs d ⟨s0,s1,s2,s3,s4,rfl,h0,h1,h2,h3,h4⟩ g;exact ⟨s0,s1,s2,s3,s4,rfl,View.grow _ h0 g,View.grow _ h1 g,View.grow _ h2 g,View.grow _ h3 g,View.grow _ h4 g⟩
 toRd:=by rintro w fp cs d ⟨s0,s1,s2,s3,s4,f0,f1,f2,f3,f4,rfl,rfl,h0,h1,h2,h3,h4⟩;exact ⟨s0,s1,s2,s3,s4,rfl,View.toRd _ h0,View.toRd _ h1,View.toRd _ h2,View.toRd _ h3,View.toRd _ h4⟩
 frame:=by
  rintro w w' fp cs d ⟨s0,s1,s2,s3,s4,f0,f1,f2,f3,f4,rfl,rfl,h0,h1,h2,h3,h4⟩ g
  exact ⟨s0,s1,s2,s3,s4,f0,f1,f2,f3,f4,rfl,rfl,View.frame _ h0 fun b hb=>g b (by simp [hb]),View.frame _ h1 fun b hb=>g b (by simp [hb]),View.frame _ h2 fun b hb=>g b (by simp [hb]),View.frame _ h3 fun b hb=>g b (by simp [hb]),View.frame _ h4 fun b hb=>g b (by simp [hb])⟩
 lt:=by
  rintro w fp cs d ⟨s0,s1,s2,s3,s4,f0,f1,f2,f3,f4,rfl,rfl,h0,h1,h2,h3,h4⟩ b hb
  simp only [List.mem_append,List.append_assoc] at hb
  rcases hb with hb|hb|hb|hb|hb
  ·exact View.lt _ h0 b hb
  ·exact View.lt _ h1 b hb
  ·exact View.lt _ h2 b hb
  ·exact View.lt _ h3 b hb
  ·exact View.lt _ h4 b hb
theorem zjf {w:World} {cs:List Value} {d:TxD} (h:vTx.rd w cs d):∃ a0 c0 a1 c1 a2 c2 a3 c3 a4 c4,cs = [.int .i64 d.id,.int .i64 d.age,.int .i64 d.proc,.int .i64 d.began,.slice a0 d.calls.length c0,.slice a1 d.answers.length c1,.slice a2 d.touch.reads.length c2,.slice a3 d.touch.writes.length c3,.slice a4 d.marks.length c4,.int .i64 d.state]:=by
 obtain ⟨s0,s1,s2,s3,s4,rfl,h0,h1,h2,h3,h4⟩:=h
 obtain ⟨a0,c0,rfl⟩:=vSlice.form h0;obtain ⟨a1,c1,rfl⟩:=vSlice.form h1;obtain ⟨a2,c2,rfl⟩:=vSlice.form h2;obtain ⟨a3,c3,rfl⟩:=vSlice.form h3;obtain ⟨a4,c4,rfl⟩:=vSlice.form h4
 exact ⟨a0,c0,a1,c1,a2,c2,a3,c3,a4,c4,rfl⟩
theorem zhG:∀ s ∈ ze1,s.size<=100:=by decide
theorem ziM:∀ s ∈ zgy,s.size<=100:=by decide
theorem zf9 {xs:List ByteArray} {y:ByteArray} (h:∀ s ∈ xs,s.size<=100) (hy:y.size<=100):∀ s ∈ zck xs y,s.size<=100:=by
 intro s hs
 unfold zck at hs
 split at hs
 ·exact h s hs
 ·rcases List.mem_append.1 hs with hs|hs
  ·exact h s (List.mem_of_mem_take hs)
  ·rcases List.mem_cons.1 hs with rfl|hs
   ·exact hy
   ·exact h s (List.mem_of_mem_drop hs)
theorem ziE {α : Type} {R:RowOf α} {e:TypeId} {w w':World} {B:Nat} {v:Value} {xs:List α} (h:OwnL R e w B v xs) (hb:Below w.heap.size w w'):OwnL R e w' B v xs:=by
 obtain ⟨X,rfl⟩:=hb.ext
 exact h.ext X
def IdsUp (ds:List TxD):Prop:=∀ i (h:i<ds.length),ds[i].id=i+1
theorem IdsUp.nil:IdsUp []:=fun i h=>absurd h (by simp)
theorem zgq (p:Nat) (vb:Value) (bs:List UInt8) (i h:Int) (w:World) (hc:Cur w p vb bs i h) :
  Calls Tryz.prog 21 #[.pointer (some ⟨p,0,none⟩)] w fun e w'=>∃ v xs i' h',e=.returned v/\OwnL zH 9 w' w.heap.size v xs/\xs.length<=4/\(∀ s ∈ xs,s.size<=100)/\Got p w (zaE vb i' h') w'/\0<=i'/\i'<=bs.length:=by
 have hp:=zb hc.blk
 have HC:=Hd hc
 clear hc
 go_enter Tryz.func21,Tryz.ntmps21
 go_wp2
 go_loopw [3,4] (fun v k wr=>∃ (n:Nat) (xs:List ByteArray) (i' h':Int),k=.int .i64 n/\n<=4/\xs.length<=n/\(∀ s ∈ xs,s.size<=100)/\OwnL zH 9 wr w.heap.size v xs/\Got p w (zaE vb i' h') wr/\0<=i'/\i'<=bs.length) (fun _ k _=>4 - (intOf k).toNat)
 case atStart =>
  exact ⟨0,[],i,h,rfl,by omega,by simp,by simp,OwnL.empty zH _ _,(zcn HC.out.blk).alloc _,HC.out.lo,HC.out.hi⟩
 case round =>
  obtain ⟨n,xs,i1,h1,rfl,hn,hx,hsz,hr,hg,hi0,hi1⟩:=hrel
  have hvb:=hr.lt
  have hc1:=HC.out.got hg hi0 hi1
  have hvp:u3.ownBlock ≠ some p:=fun e=>by have:=(hvb p e).1;omega
  have HV:=Hd hvb
  have HP:=Hd hvp
  have HSZ:=Hd hsz
  clear hvb hvp hsz
  go_wp2_with fail
  (go_at_call 11;refine (zW p vb bs _ _ _ _ hc1 (by omega)).mono ?_;rintro e w2 ⟨x,i2,h2,rfl,⟨hx0,hx1,_⟩,hg2,hj0,hj1⟩)
  have hc2:=hc1.got hg2 hj0 hj1
  have hr2:=hr.got hg2 HP.out
  have hx2:=hx1 (by omega)
  clear hx1
  by_cases hlt:(n:Int)<x
  ·go_wp2_with fail
   (go_at_call 30;refine (zg0 p vb bs _ _ _ hc2).mono ?_;rintro e w3 ⟨y,i3,h3,rfl,hy,hg3,hk0,hk1⟩)
   have hr3:=hr2.got hg3 HP.out
   go_wp2_with fail
   (go_at_call 22;refine (zaS _ xs _ _ hr3.rd (by omega)).mono ?_;rintro e w4 ⟨v',rfl,hv',hb⟩)
   have hlen:=zcN xs y
   go_wp2
   go_roundw
   case rel=>exact ⟨n+1,zck xs y,i3,h3,by go_num,by omega,by omega,zf9 HSZ.out (zhG y hy),hv'.base (by have:=hg.size;have:=hg2.size;have:=hg3.size;omega),((hg.then hg2 hp).then hg3 hp).ofBelow hb,hk0,hk1⟩
   case measure=>simp [intOf];omega
  ·go_wp2
   go_ret
   exact ⟨_,xs,i2,h2,rfl,hr2,by omega,HSZ.out,hg.then hg2 hp,hj0,hj1⟩
theorem zdt (p:Nat) (vb:Value) (bs:List UInt8) (i h:Int) (w:World) (hc:Cur w p vb bs i h) :
  Calls Tryz.prog 13 #[.pointer (some ⟨p,0,none⟩)] w fun e w'=>∃ vr vw rs ws i' h',e=.returned (.agg #[vr,vw])/\OwnL zH 9 w' w.heap.size vr rs/\OwnL zH 9 w' w.heap.size vw ws/\(∀ s ∈ rs,s.size<=100)/\(∀ s ∈ ws,s.size<=100)/\Got p w (zaE vb i' h') w'/\0<=i'/\i'<=bs.length:=by
 have hp:=hc.lt
 have HC:=Hd hc
 clear hc
 go_enter Tryz.func13,Tryz.ntmps13
 go_wp2_with fail
 (go_at_call 21;refine (zgq p vb bs _ _ _ (HC.out.alloc _)).mono ?_;rintro e w1 ⟨vr,rs,i1,h1,rfl,hr,hl,hsr,hg,hi0,hi1⟩;have hv:=hr.lt;have HSR:=Hd hsr;clear hsr)
 obtain ⟨ar,cr,rfl⟩:=hr.rd.form
 have hg1:=hg.ofAlloc hp
 have hz1:=hg.size
 have h2:w1.heap[w.heap.size]?=some (zbw ziG ziG):=by
  rw [hg.other (by simp) (by omega)]
  show (w.heap.push _)[w.heap.size]? = _
  simp [zbw,ziG]
 have HG:=Hd hg1
 have HV:=Hd hv
 have H2:=Hd h2
 have HR:=Hd hr
 clear hg hg1 hv h2 hr
 go_wp2
 go_loopw [4] (fun k wr=>∃ (n:Nat) (vw:Value) (ws:List ByteArray) (i' h':Int),k=.int .i64 n/\n<=3/\ws.length<=n/\OwnL zH 9 wr w.heap.size vw ws/\(∀ s ∈ ws,s.size<=100)/\(∀ b,vw.ownBlock=some b->w.heap.size<=b/\b<wr.heap.size/\b ≠ w1.heap.size/\b ≠ w.heap.size) /\
  wr.heap[w1.heap.size]?=some (zbw (.slice ar rs.length cr) vw)/\wr.heap[w.heap.size]?=some (zbw ziG ziG)/\OwnL zH 9 wr w.heap.size (.slice ar rs.length cr) rs/\Got p w (zaE vb i' h') wr/\0<=i'/\i'<=bs.length) (fun k _=>3 - (intOf k).toNat)
 case atStart =>
  refine ⟨0,ziG,[],i1,h1,rfl,by omega,by simp,OwnL.nil _ _ _ _,by simp,fun b hb=>by simp [Value.ownBlock,ziG] at hb,?_,?_,(HR.out.base (by simp)).alloc _,HG.out.alloc _,hi0,hi1⟩
  ·show (w1.heap.push _)[w1.heap.size]? = _
   simp [zbw,ziG]
  ·rw [Below.heap_alloc _ _ _ (by simp at hz1;omega)]
   exact H2.out
 case round =>
  obtain ⟨n,vw,ws,i2,h2,rfl,hn,hl2,hr2,hsw,hv2,hb3,hb2,hr1,hg2,hj0,hj1⟩:=hrel
  have HSW:=Hd hsw
  clear hsw
  have hc2:=HC.out.got hg2 hj0 hj1
  obtain ⟨aw,cw,rfl⟩:=hr2.rd.form
  go_wp2_with fail
  (go_at_call 11;refine (zW p vb bs _ _ _ _ hc2 (by omega)).mono ?_;rintro e w3 ⟨x,i3,h3,rfl,⟨hx0,hx1,_⟩,hg3,hk0,hk1⟩)
  have hc3:=hc2.got hg3 hk0 hk1
  have hx2:=hx1 (by omega)
  clear hx1
  have hzr:=zb hb3
  have hz3:=hg3.size
  have hne3:w1.heap.size ≠ p:=by simp at hz1;omega
  have hb3':=(hg3.other hzr hne3).trans hb3
  have hb2':=(hg3.other (zb hb2) (by omega)).trans hb2
  have hr1':=hr1.got hg3 (fun e=>by have:=(HV.out p e).1;simp at this;omega)
  have hr2':=hr2.got hg3 (fun e=>by have:=(hv2 p e).1;omega)
  have hg3':=hg2.then hg3 hp
  have HB3:=Hd hb3'
  have HB2:=Hd hb2'
  have HR1:=Hd hr1'
  have HR2:=Hd hr2'
  have HV2:=Hd hv2
  have HZ1:=Hd hz1
  clear hb3 hb2 hr1 hr2 hb3' hb2' hr1' hr2' hv2 hz1
  by_cases hlt:(n:Int)<x
  ·go_wp2
   have hzz:w1.heap.size<w3.heap.size:=by omega
   have hcl:w3.cell? ⟨w1.heap.size,1,none⟩=some (.slice aw ws.length cw):=zg HB3.out
   have hb1:w1.heap.size ≠ p:=hne3
   refine zdp (SpF w3 p) [(0,true),(1,true),(2,true),(3,false),(4,false),(5,false),(6,false)] 5 (by kernel_rfl) (by kernel_rfl) (zdn hc3.blk) ?_
   repeat (refine zq rfl (fun K hK=>?_);go_simp;(try simp (disch:=omega) only [IntWalk.i64_in]);refine hK _ ?_;clear hK K)
   refine zo rfl (fun K hK=>?_);go_simp;go_at_call 23;refine (zhB p vb bs _ _ _ hc3.drew).mono ?_;rintro e w4 ⟨y,i4,h4,rfl,hy,hg4,hm0,hm1⟩;try go_simp;refine hK _ _ (Sp.got (zdn hc3.blk) hg4 hc3.lt) ?_;clear hK K
   have hc4:=hc3.drew.got hg4 hm0 hm1
   have hz4:=hg4.size
   have hr4:=OwnL.got (HR2.out:OwnL zH 9 w3.drew w.heap.size _ ws) hg4 (fun e=>by have:=(HV2.out p e).1;omega)
   have hr14:=OwnL.got (HR1.out:OwnL zH 9 w3.drew w.heap.size _ rs) hg4 (fun e=>by have:=(HV.out p e).1;simp at this;omega)
   have h34:w4.heap[w1.heap.size]?=some (zbw (.slice ar rs.length cr) (.slice aw ws.length cw)):=(hg4.other (by simpa using hzz) hne3).trans HB3.out
   have h24:w4.heap[w.heap.size]?=some (zbw ziG ziG):=(hg4.other (zb HB2.out) (by omega)).trans HB2.out
   have hg4':=hg3'.then (show Got p w3 _ w4 from hg4) hp
   have HR4:=Hd hr4
   have HR14:=Hd hr14
   have H34:=Hd h34
   have H24:=Hd h24
   clear hr4 hr14 h34 h24
   refine zo rfl (fun K hK=>?_);go_simp;go_at_call 22;refine (zaS _ ws _ _ HR4.out.rd (by omega)).mono ?_;rintro e w5 ⟨v5,rfl,ho5,hb5⟩;try go_simp;refine hK _ _ (Sp.below (Sp.got (zdn hc3.blk) hg4 hc3.lt) hb5) ?_;clear hK K
   have hz5:=hb5.size
   have hr15:=ziE HR14.out hb5
   have h35:w5.heap[w1.heap.size]? = _:=(hb5.block _ (zb H34.out)).trans H34.out
   have h25:w5.heap[w.heap.size]? = _:=(hb5.block _ (zb H24.out)).trans H24.out
   have hzl:w1.heap.size<w5.heap.size:=zb h35
   obtain ⟨a5,c5,rfl⟩:=ho5.rd.form
   have hlen:=zcN ws y
   refine zdq h35 ?_
   unfold zbw
   repeat (refine zy rfl rfl (fun K hK=>?_);go_simp;refine hK _ _ ?_;clear hK K)
   refine zX ?_
   go_wp2
   go_roundw
   case rel =>
    refine ⟨n+1,_,zck ws y,i4,h4,by go_num,by omega,by omega,?_,zf9 HSW.out (ziM y hy),fun b hb=>by have:=ho5.lt b hb;have:=hg4'.size;have:=HG.out.size;have:=zb H34.out;have:=zb H24.out;simp only [zd];omega,World.setB_at _ _ _ hzl,?_,?_,?_,hm0,hm1⟩
    ·exact (ho5.base (by have:=zb H24.out;omega)).setB (fun e=>by have:=(ho5.lt _ e).1;have:=zb H34.out;omega) _
    ·rw [World.setB_get _ _ _ _ (by have:=HZ1.out;simp at this;omega)]
     exact h25
    ·exact hr15.setB (fun e=>by have:=(HV.out _ e).2;omega) _
    ·exact (hg4'.ofBelow hb5).past (by have:=HG.out.size;omega) _
   case measure=>simp [intOf];omega
  ·have hw1:w1.heap.size<w3.heap.size:=zb HB3.out
   have hw0:w.heap.size<w3.heap.size:=zb HB2.out
   have hw01:w.heap.size<w1.heap.size:=by have:=HZ1.out;simp at this;omega
   have hb2s:(w3.setB w1.heap.size (zbw (.slice ar rs.length cr) (.slice aw ws.length cw))).heap[w.heap.size]?=some (zbw ziG ziG):=by
    rw [World.setB_get _ _ _ _ (by omega)]
    exact HB2.out
   have hn01:w1.heap.size ≠ w.heap.size:=by omega
   have hnp:w.heap.size ≠ p:=by omega
   rw [<- zi HB3.out,<- zi hb2s]
   unfold zbw ziG
   clear hb2s
   go_wp2
   refine bodyPost_ret (by simp [results,Tryz.results13,go_sem,hw0];rfl) rfl ?_
   refine ⟨_,_,rs,ws,i3,h3,rfl,?_,?_,HSR.out,HSW.out,(hg3'.past (by omega) _).past (by omega) _,hk0,hk1⟩
   ·exact (HR1.out.setB (fun e=>by have:=(HV.out _ e).2;omega) _).setB (fun e=>by have:=(HV.out _ e).1;simp at this;omega) _
   ·exact (HR2.out.setB (fun e=>(HV2.out _ e).2.2.1 rfl) _).setB (fun e=>(HV2.out _ e).2.2.2 rfl) _
def inB (n lo hi:Int):Bool:=decide (lo<=n) && decide (n<=hi)
theorem zT (n lo hi:Int) (w:World) :
  Calls Tryz.prog 86 #[.int .i64 n,.int .i64 lo,.int .i64 hi] w fun e w'=>e=.returned (.bool (inB n lo hi))/\w'=w:=by
 by_cases h1:lo<=n
 ·by_cases h2:n<=hi
  ·have hq:inB n lo hi=true:=by unfold inB;rw [decide_eq_true h1,decide_eq_true h2];rfl
   rw [hq]
   clear hq
   go_enter Tryz.func86,Tryz.ntmps86
   go_wp2
   go_ret
   exact ⟨rfl,rfl⟩
  ·have hq:inB n lo hi=false:=by unfold inB;rw [decide_eq_true h1,decide_eq_false h2];rfl
   rw [hq]
   clear hq
   go_enter Tryz.func86,Tryz.ntmps86
   go_wp2
   go_ret
   exact ⟨rfl,rfl⟩
 ·have hq:inB n lo hi=false:=by unfold inB;rw [decide_eq_false h1];rfl
  rw [hq]
  clear hq
  go_enter Tryz.func86,Tryz.ntmps86
  go_wp2
  go_ret
  exact ⟨rfl,rfl⟩
def zcB (c:UInt8):Bool:=inB (c.toNat:Int) 33 126 && !((c.toNat:Int)==42)
def zex (s:ByteArray):Bool:=s.data.toList.all zcB && inB (s.size:Int) 1 40
theorem zgz (s:ByteArray) (n:Nat) (h:(s.data.toList.take n).all zcB=false):zex s=false:=by
 unfold zex
 have:s.data.toList.all zcB=false:=by
  cases hp:s.data.toList.all zcB with
  | false=>rfl
  | true =>
   rw [List.all_eq_true] at hp
   have:(s.data.toList.take n).all zcB=true:=by
    rw [List.all_eq_true]
    exact fun x hx=>hp x (List.mem_of_mem_take hx)
   rw [this] at h
   cases h
 rw [this]
 rfl
theorem zdf (s:ByteArray) (w:World) (hs:s.size<=9223372036854775807) :
  Calls Tryz.prog 121 #[.string s] w fun e w'=>e=.returned (.bool (zex s))/\w'=w:=by
 go_enter Tryz.func121,Tryz.ntmps121
 go_wp2
 go_loopw [3] (fun k wr=>∃ (n:Nat),k=.int .i64 n/\n<=s.size/\wr=w/\(s.data.toList.take n).all zcB=true) (fun k _=>s.size - (intOf k).toNat)
 case atStart=>exact ⟨0,rfl,by omega,rfl,rfl⟩
 case round =>
  obtain ⟨n,rfl,hn,rfl,hall⟩:=hrel
  have HA:=Hd hall
  clear hall
  by_cases hlt:(n:Int)<s.size
  case pos =>
   have hk:n<s.size:=by omega
   have hst:=zff s n hk
   have HS:=Hd hst
   clear hst
   have hc0 : 0<=(s[n].toNat:Int):=by omega
   have hc1:(s[n].toNat:Int)<=255:=by have:=s[n].toNat_lt;omega
   have hob:zcB s[n]=zcB s[n]:=rfl
   conv at hob=>rhs;unfold zcB
   by_cases f1:(s[n].toNat:Int)<33
   case pos =>
    have HB:Hid (zcB s[n]=false):=by show _=false;rw [hob];unfold inB;simp;omega
    clear hob
    have HI:Hid (inB (s[n].toNat:Int) 33 126=false):=by show _ = _;unfold inB;simp;omega
    go_wp2_with fail
    (go_at_call 86;refine (zT _ _ _ _).mono ?_;rintro e w' ⟨rfl,rfl⟩)
    first|rw [HI.out]|rw [show inB 42 33 126=true from rfl]
    go_wp2
    go_ret
    exact ⟨by rw [zgz s (n+1) (by rw [HS.out,List.all_append];simp [HB.out])];rfl,rfl⟩
   by_cases f2 : 126<(s[n].toNat:Int)
   case pos =>
    have HB:Hid (zcB s[n]=false):=by show _=false;rw [hob];unfold inB;simp;omega
    clear hob
    have HI:Hid (inB (s[n].toNat:Int) 33 126=false):=by show _ = _;unfold inB;simp;omega
    go_wp2_with fail
    (go_at_call 86;refine (zT _ _ _ _).mono ?_;rintro e w' ⟨rfl,rfl⟩)
    first|rw [HI.out]|rw [show inB 42 33 126=true from rfl]
    go_wp2
    go_ret
    exact ⟨by rw [zgz s (n+1) (by rw [HS.out,List.all_append];simp [HB.out])];rfl,rfl⟩
   by_cases f3:(s[n].toNat:Int)=42
   case pos =>
    have HB:Hid (zcB s[n]=false):=by show _=false;rw [hob];unfold inB;simp;omega
    clear hob
    have f4:((s[n].toNat:Int)==42)=true:=by simp [f3]
    have HI:Hid (inB (s[n].toNat:Int) 33 126=true):=by show _ = _;unfold inB;simp;omega
    go_wp2_with fail
    (go_at_call 86;refine (zT _ _ _ _).mono ?_;rintro e w' ⟨rfl,rfl⟩)
    first|rw [HI.out]|rw [show inB 42 33 126=true from rfl]
    go_wp2
    go_ret
    exact ⟨by rw [zgz s (n+1) (by rw [HS.out,List.all_append];simp [HB.out])];rfl,rfl⟩
   have HB:Hid (zcB s[n]=true):=by show _=true;rw [hob];unfold inB;simp;omega
   clear hob
   have f4:((s[n].toNat:Int)==42)=false:=by simp [f3]
   have HI:Hid (inB (s[n].toNat:Int) 33 126=true):=by show _ = _;unfold inB;simp;omega
   go_wp2_with fail
   (go_at_call 86;refine (zT _ _ _ _).mono ?_;rintro e w' ⟨rfl,rfl⟩)
   first|rw [HI.out]|rw [show inB 42 33 126=true from rfl]
   go_wp2
   go_roundw
   case rel=>exact ⟨n+1,by go_num,by omega,trivial,by rw [HS.out,List.all_append,HA.out];simp [HB.out]⟩
   case measure=>simp [intOf];omega
  case neg =>
   have e:n=s.size:=by omega
   subst e
   have ha:=HA.out
   rw [List.take_of_length_le (by simp)] at ha
   have HF:Hid (zex s=inB s.size 1 40):=by show zex s = _;unfold zex;rw [ha];rfl
   go_wp2_with fail
   (go_at_call 86;refine (zT _ _ _ _).mono ?_;rintro e w' ⟨rfl,rfl⟩)
   go_wp2
   go_ret
   exact ⟨by rw [HF.out];rfl,rfl⟩
structure CellD where
 key:ByteArray
 val:ByteArray
def CellD.row (d:CellD):List Value:=[.string d.key,.string d.val]
def CellD.ok (d:CellD):Prop:=d.key.size<=9223372036854775807/\d.val.size<=9223372036854775807
theorem zan:Elem Tryz.prog 47 145 2 32:=Elem.of (.agg #[.string ⟨#[]⟩,.string ⟨#[]⟩]) Tryz.underlying47 (by kernel_rfl) rfl (by decide)
theorem zbX:∀ l:List UInt8,Op.bytesLess l l=false
 | []=>rfl
 | x :: l=>by
  simp only [Op.bytesLess,zbX l,Bool.and_false,Bool.or_false]
  exact decide_eq_false (UInt8.lt_irrefl x)
theorem zb5:∀ (a b:List UInt8),(Op.bytesLess a b || a==b) = !Op.bytesLess b a
 | [],[]=>rfl
 | [],_ :: _=>rfl
 | _ :: _,[]=>rfl
 | x :: a,y :: b=>by
  have ih:=zb5 a b
  simp only [Op.bytesLess]
  by_cases h:x=y
  ·subst h
   have hn:¬ x<x:=UInt8.lt_irrefl x
   have e:(x :: a==x :: b)=(a==b):=by simp [List.cons_beq_cons]
   rw [e,decide_eq_false hn]
   simpa using ih
  ·have e:(x :: a==y :: b)=false:=by simp [h]
   have e2:(x==y)=false:=by simp [h]
   have e3:(y==x)=false:=by simp [Ne.symm h]
   rw [e,e2,e3]
   have:¬ x.toNat=y.toNat:=fun q=>h (UInt8.toNat_inj.1 q)
   by_cases hl:x<y
   ·have hn:¬ y<x:=by rw [UInt8.lt_iff_toNat_lt] at hl ⊢;omega
    simp [hl,hn]
   ·have hn:y<x:=by rw [UInt8.lt_iff_toNat_lt] at hl ⊢;omega
    simp [hl,hn]
def zaH (key:ByteArray) (c:CellD):Bool:=c.key.toList==key.toList
def zaw (key:ByteArray) (c:CellD):Bool:=Op.bytesLess key.toList c.key.toList
theorem zeb {key:ByteArray} {c:CellD} (h:zaw key c=true):zaH key c=false:=by
 cases hk:zaH key c with
 | false=>rfl
 | true =>
  unfold zaH at hk
  unfold zaw at h
  rw [eq_of_beq hk,zbX] at h
  cases h
theorem less_gt {key:ByteArray} {c:CellD} (h:zaw key c=true):Op.bytesLess c.key.toList key.toList=false:=by
 have:=zb5 c.key.toList key.toList
 unfold zaw at h
 rw [h,Bool.not_true,Bool.or_eq_false_iff] at this
 exact this.1
theorem zjw {key:ByteArray} {c:CellD} (h:zaH key c=true):Op.bytesLess c.key.toList key.toList=false:=by
 unfold zaH at h
 rw [eq_of_beq h]
 exact zbX _
theorem ziL {key:ByteArray} {c:CellD} (h:zaw key c=false) (hk:zaH key c=false):Op.bytesLess c.key.toList key.toList=true:=by
 have:=zb5 c.key.toList key.toList
 unfold zaw at h
 unfold zaH at hk
 rwa [h,hk,Bool.or_false,Bool.not_false] at this
def zap (key:ByteArray) (xs:List CellD):List CellD:=xs.filter fun c=>!zaH key c
def zgL (key val:ByteArray) (ys:List CellD):List CellD:=(ys.takeWhile fun c=>!zaw key c)++⟨key,val⟩ :: (ys.dropWhile fun c=>!zaw key c)
def zd7 (key val:ByteArray) (xs:List CellD):List CellD :=
 if zex key=false ∨ 60<val.size then xs else if val.size=0 then zap key xs else zgL key val (zap key xs)
def zcu (key val:ByteArray) (zs:List CellD):List CellD:=if zs.any (zaw key) then zgL key val (zap key zs) else zap key zs
theorem zbR (key:ByteArray) (zs:List CellD) (c:CellD):zap key (zs ++ [c])=zap key zs++(if zaH key c then [] else [c]):=by
 unfold zap
 rw [List.filter_append]
 congr 1
 cases hk:zaH key c<;>simp [hk]
theorem zdE (key:ByteArray) (zs:List CellD):(zap key zs).any (zaw key)=zs.any (zaw key):=by
 unfold zap
 rw [List.any_filter]
 induction zs with
 | nil=>rfl
 | cons c zs ih =>
  rw [List.any_cons,List.any_cons,ih]
  congr 1
  cases hg:zaw key c with
  | false=>exact Bool.and_false _
  | true=>rw [zeb hg];rfl
theorem zcq {α : Type} (p : α->Bool):∀ l:List α,l.any p=false->(l.takeWhile fun c=>!p c)=l/\(l.dropWhile fun c=>!p c) = []
 | [],_=>⟨rfl,rfl⟩
 | x :: l,h=>by
  rw [List.any_cons,Bool.or_eq_false_iff] at h
  obtain ⟨h1,h2⟩:=zcq p l h.2
  simp [List.takeWhile_cons,List.dropWhile_cons,h.1,h1,h2]
theorem zdr {α : Type} (p : α->Bool) (c : α):∀ l:List α,l.any p=true->((l ++ [c]).takeWhile fun c=>!p c)=(l.takeWhile fun c=>!p c)/\((l ++ [c]).dropWhile fun c=>!p c)=(l.dropWhile fun c=>!p c) ++ [c]
 | [],h=>by cases h
 | x :: l,h=>by
  cases hp:p x with
  | true =>
   simp [List.takeWhile_cons,List.dropWhile_cons,hp]
  | false =>
   rw [List.any_cons,hp,Bool.false_or] at h
   obtain ⟨h1,h2⟩:=zdr p c l h
   simp [List.takeWhile_cons,List.dropWhile_cons,hp,h1,h2]
theorem zjC {key val:ByteArray} {ys:List CellD} (h:ys.any (zaw key)=false):zgL key val ys=ys ++ [⟨key,val⟩]:=by
 unfold zgL
 obtain ⟨h1,h2⟩:=zcq (zaw key) ys h
 rw [h1,h2]
theorem zjB {key val:ByteArray} {ys:List CellD} (c:CellD) (h:ys.any (zaw key)=true):zgL key val (ys ++ [c])=zgL key val ys ++ [c]:=by
 unfold zgL
 obtain ⟨h1,h2⟩:=zdr (zaw key) c ys h
 rw [h1,h2,List.append_assoc,List.cons_append]
theorem zhL {key val:ByteArray} {zs:List CellD} {c:CellD} (h:zs.any (zaw key)=false) (hg:zaw key c=true):zcu key val (zs ++ [c])=(zcu key val zs ++ [⟨key,val⟩]) ++ [c]:=by
 unfold zcu
 rw [List.any_append,h,if_pos (by simp [hg]),if_neg (by simp),zbR,zeb hg,if_neg (by simp)]
 have h':(zap key zs).any (zaw key)=false:=by rw [zdE];exact h
 unfold zgL
 obtain ⟨h1,h2⟩:=zcq (zaw key) _ h'
 rw [List.takeWhile_append_of_pos,List.dropWhile_append_of_pos]
 ·simp [List.takeWhile_cons,List.dropWhile_cons,hg]
 ·intro x hx
  rw [List.any_eq_false] at h'
  simpa using h' x hx
 ·intro x hx
  rw [List.any_eq_false] at h'
  simpa using h' x hx
theorem zf8 {key val:ByteArray} {zs:List CellD} {c:CellD} (hk:zaH key c=true):zcu key val (zs ++ [c])=zcu key val zs:=by
 have hg:zaw key c=false:=by
  cases hg:zaw key c with
  | false=>rfl
  | true=>rw [zeb hg] at hk;cases hk
 unfold zcu
 rw [List.any_append,zbR,hk,if_pos rfl,List.append_nil]
 simp [hg]
theorem zdM {key val:ByteArray} {zs:List CellD} {c:CellD} (hk:zaH key c=false) (h:zs.any (zaw key)=true ∨ zaw key c=false):zcu key val (zs ++ [c])=zcu key val zs ++ [c]:=by
 have e:zap key (zs ++ [c])=zap key zs ++ [c]:=by rw [zbR,hk];rfl
 have ea:(zs ++ [c]).any (zaw key)=(zs.any (zaw key) || zaw key c):=by simp [List.any_append]
 unfold zcu
 rw [e,ea]
 cases hz:zs.any (zaw key) with
 | true =>
  rw [if_pos (by simp),if_pos rfl]
  exact zjB c (by rw [zdE];exact hz)
 | false =>
  rcases h with h|h
  ·rw [hz] at h;cases h
  ·rw [h]
   rfl
theorem zjp {key val:ByteArray} {zs:List CellD}:(if zs.any (zaw key) then zcu key val zs else zcu key val zs ++ [⟨key,val⟩])=zgL key val (zap key zs):=by
 unfold zcu
 cases hz:zs.any (zaw key) with
 | true=>simp
 | false =>
  simp only [Bool.false_eq_true,if_false]
  exact (zjC (by rw [zdE];exact hz)).symm
theorem zfd (key:ByteArray) (xs:List CellD):(zap key xs).length<=xs.length:=List.length_filter_le _ _
theorem insC_len (key val:ByteArray) (ys:List CellD):(zgL key val ys).length=ys.length+1:=by
 unfold zgL
 have:=congrArg List.length (List.takeWhile_append_dropWhile (p:=fun c=>!zaw key c) (l:=ys))
 rw [List.length_append] at this ⊢
 rw [List.length_cons]
 omega
theorem zjo (key val:ByteArray) (zs:List CellD):(zcu key val zs).length<=zs.length+1:=by
 unfold zcu
 have:=zfd key zs
 split
 ·rw [insC_len];omega
 ·omega
theorem zjg:∀ d:CellD,∀ u ∈ CellD.row d,u.oneCell'=true:=fun d u hu=>by simp [CellD.row] at hu;rcases hu with rfl|rfl<;>rfl
def zE:RowOf CellD:=⟨CellD.row,2,fun _=>rfl,zjg⟩
theorem zf7 {α : Type} {row : α->List Value} {k:Nat} {ok : α->Prop} {hk:∀ d,(row d).length=k} {h1:∀ d,∀ u ∈ row d,u.oneCell'=true} {R:RowOf α} (hr:R.row=row) {e:TypeId} {w:World} {fp:List Nat} {v:Value} {ds:List α}
  (h:(vSlice (vRow row k ok hk h1) e).own w fp [v] ds):RdL R w v ds:=by
 subst hr
 rcases h with ⟨hv,rfl,_⟩|⟨b,cap,blk,css,fps,hv,hb,h2,h3,h4,h5,h6,h7,h8,h9⟩
 ·cases hv
  exact RdL.nil _ _
 ·cases hv
  refine .inr ⟨b,0,cap,rfl,h2,h3,fun j u hj=>?_⟩
  have e:css=ds.map R.row:=List.ext_getElem (by simp [h7]) (fun i a c=>by
   have:=(h9 i (by omega) a (by omega)).2.1
   simpa using this)
  rw [e,<- List.flatMap_def] at h5
  rw [<- h5,List.getElem?_take] at hj
  split at hj
  ·rw [zg hb,Nat.zero_add]
   simpa using hj
  ·cases hj
theorem zbC {α : Type} (p : α->Bool) (xs:List α) (n:Nat) (h:n<xs.length):(xs.take (n+1)).any p=((xs.take n).any p || p xs[n]):=by
 simp only [List.take_succ_eq_append_getElem h,List.any_append,List.any_cons,List.any_nil,Bool.or_false]
theorem zbZ {α : Type} (p : α->Bool) (xs:List α) (n:Nat) (h:(xs.take n).any p=true):xs.any p=true:=by
 rw [List.any_eq_true] at h ⊢
 obtain ⟨x,hx,hp⟩:=h
 exact ⟨x,List.mem_of_mem_take hx,hp⟩
def ze6 (key:ByteArray) (xs:List CellD):ByteArray:=match xs.find? (zaH key) with
 | some c=>c.val
 | none=>⟨#[]⟩
theorem zjG (key:ByteArray) (xs:List CellD) (h:xs.any (zaH key)=false):ze6 key xs=⟨#[]⟩:=by
 unfold ze6
 rw [List.find?_eq_none.2 (fun x hx=>by rw [List.any_eq_false] at h;exact h x hx)]
theorem getC_at (key:ByteArray) (xs:List CellD) (n:Nat) (hn:n<xs.length) (h:(xs.take n).any (zaH key)=false) (h2:zaH key xs[n]=true):ze6 key xs=xs[n].val:=by
 unfold ze6
 have e:xs=xs.take n++xs[n] :: xs.drop (n+1):=by rw [<- List.drop_eq_getElem_cons hn,List.take_append_drop]
 have hf:xs.find? (zaH key)=some xs[n]:=by
  conv=>lhs;rw [e]
  rw [List.find?_append,List.find?_eq_none.2 (fun x hx=>by rw [List.any_eq_false] at h;exact h x hx),List.find?_cons_of_pos h2]
  rfl
 rw [hf]
theorem zfq (v:Value) (ds:List CellD) (key:ByteArray) (w:World) (hs:RdL zE w v ds) :
  Calls Tryz.prog 110 #[v,.string key] w fun e w'=>e=.returned (.string (ze6 key ds))/\Below w.heap.size w w':=by
 obtain ⟨ao,cap,rfl,hc1,hc2,hnil,hne⟩:=hs.shape
 have HX:=Hd hne
 unfold maxLen at hc2
 clear hs hne hnil
 go_enter Tryz.func110,Tryz.ntmps110
 go_wp2
 go_loopw [5] (fun k wr=>∃ (n:Nat),k=.int .i64 n/\n<=ds.length/\Below w.heap.size w wr/\(ds.take n).any (zaH key)=false) (fun k _=>ds.length - (intOf k).toNat)
 case atStart=>exact ⟨0,rfl,by omega,(by repeat (first|with_reducible exact Below.refl _ _|with_reducible apply Below.ofExt|with_reducible apply Below.ofAlloc|with_reducible apply Below.drew|with_reducible apply Below.ofDrewN|with_reducible assumption|(with_reducible refine Below.setCell ?_ (by first|exact Nat.le_refl _|(simp [go_sem];done)|(simp [go_sem];omega)) _))),rfl⟩
 case round =>
  obtain ⟨n,rfl,hn,hbel,hany⟩:=hrel
  obtain ⟨X,rfl⟩:=hbel.ext
  by_cases hlt:(n:Int)<ds.length
  case pos =>
   have hk:n<ds.length:=by omega
   have hst:=zbC (zaH key) ds n hk
   have hgt:=fun h=>getC_at key ds n hk hany h
   obtain ⟨b,off,rfl,hbl,hcell⟩:=HX.out (by intro e;simp [e] at hk)
   have hc:=hcell n hk
   clear hcell
   generalize ds[n]=d at hc hst hgt
   have HA:=Hd hany
   have HT:=Hd hst
   have HG:=Hd hgt
   have y0:w.cell? ⟨b,off+n*2,none⟩=some (.string d.key):=hc 0 _ rfl
   have y1:w.cell? ⟨b,off+n*2+1,none⟩=some (.string d.val):=hc 1 _ rfl
   have hbl:=hbl (by decide)
   clear hst hgt hany hc
   cases hik:zaH key d with
   | true =>
    have hke:(d.key.toList==key.toList)=true:=hik
    go_wp2
    go_ret
    exact ⟨by rw [HG.out hik];rfl,(by repeat (first|with_reducible exact Below.refl _ _|with_reducible apply Below.ofExt|with_reducible apply Below.ofAlloc|with_reducible apply Below.drew|with_reducible apply Below.ofDrewN|with_reducible assumption|(with_reducible refine Below.setCell ?_ (by first|exact Nat.le_refl _|(simp [go_sem];done)|(simp [go_sem];omega)) _)))⟩
   | false =>
    have hke:(d.key.toList==key.toList)=false:=hik
    go_wp2
    go_roundw
    case rel=>exact ⟨n+1,by go_num,by omega,(by repeat (first|with_reducible exact Below.refl _ _|with_reducible apply Below.ofExt|with_reducible apply Below.ofAlloc|with_reducible apply Below.drew|with_reducible apply Below.ofDrewN|with_reducible assumption|(with_reducible refine Below.setCell ?_ (by first|exact Nat.le_refl _|(simp [go_sem];done)|(simp [go_sem];omega)) _))),by rw [HT.out,HA.out,hik];rfl⟩
    case measure=>simp [intOf];omega
  case neg =>
   have e:n=ds.length:=by omega
   rw [e,List.take_length] at hany
   have HG:Hid (ze6 key ds=⟨#[]⟩):=zjG key ds hany
   clear hany
   go_wp2
   go_ret
   exact ⟨by rw [HG.out];rfl,(by repeat (first|with_reducible exact Below.refl _ _|with_reducible apply Below.ofExt|with_reducible apply Below.ofAlloc|with_reducible apply Below.drew|with_reducible apply Below.ofDrewN|with_reducible assumption|(with_reducible refine Below.setCell ?_ (by first|exact Nat.le_refl _|(simp [go_sem];done)|(simp [go_sem];omega)) _)))⟩
def zbd (a b:ByteArray):Bool:=decide (b.size<=a.size) && ((a.extract 0 b.size).toList==b.toList)
def zaU (a:ByteArray):Bool:=decide (1<=a.size) && ((a.extract (a.size - 1) a.size).toList == [42])
def zac (a:ByteArray):ByteArray:=if zaU a then a.extract 0 (a.size - 1) else a
def zcs (s k:ByteArray):Bool:=if zaU s then zbd k (zac s) else (s.toList==k.toList)
def zad (a b:ByteArray):Bool:=if zaU a then (if zaU b then zbd (zac a) (zac b) || zbd (zac b) (zac a) else zbd b (zac a)) else zcs b a
theorem zdw (a b:ByteArray):zad a b=zad b a:=by
 unfold zad zcs
 cases zaU a<;>cases zaU b<;>simp [Bool.or_comm,Bool.beq_comm]
theorem zai (a:ByteArray):(zac a).size<=a.size:=by
 unfold zac
 split
 ·rw [ByteArray.size_extract];omega
 ·exact Nat.le_refl _
theorem last_is0 (a:ByteArray) (h : 0<a.size):(a.extract (a.size - 1) a.size)=⟨#[a[a.size - 1]]⟩:=by
 apply ByteArray.ext
 apply Array.ext_getElem?
 intro i
 rw [ByteArray.data_extract,Array.getElem?_extract]
 cases i with
 | zero =>
  have:a.size - 1<a.data.size:=by show a.size - 1<a.size;omega
  rw [Nat.add_zero]
  simp
  exact ⟨by omega,Array.getElem?_eq_getElem this⟩
 | succ n =>
  simp
  have e:a.data.size=a.size:=rfl
  omega
theorem last_is1 (c:UInt8):((⟨#[c]⟩ : ByteArray).toList == [42])=((c.toNat:Int)==42):=by
 have:(⟨#[c]⟩ : ByteArray).toList = [c]:=by rw [ByteArray.toList_eq]
 rw [this]
 by_cases h:c=42
 ·subst h;rfl
 ·have:c.toNat ≠ 42:=fun e=>h (by rw [<- UInt8.toNat_inj];exact e)
  have h2:((c.toNat:Int)==42)=false:=by simp;omega
  rw [h2]
  simp [h]
theorem last_is (a:ByteArray) (h : 0<a.size):((a[a.size - 1].toNat:Int)==42)=zaU a:=by
 unfold zaU
 have h1 : 1<=a.size:=h
 rw [last_is0 a h,last_is1]
 simp [h1]
theorem zaV (a b:ByteArray) (w:World) (ha:a.size<=9223372036854775807) (hb:b.size<=9223372036854775807):Calls Tryz.prog 50 #[.string a,.string b] w fun e w'=>e=.returned (.bool (zbd a b))/\w=w':=by
 by_cases h:b.size<=a.size
 ·have h':(b.size:Int)<=a.size:=by omega
  go_enter Tryz.func50,Tryz.ntmps50
  go_wp2
  go_ret
  exact ⟨by simp [zbd,h],rfl⟩
 ·have h':¬ (b.size:Int)<=a.size:=by omega
  go_enter Tryz.func50,Tryz.ntmps50
  go_wp2
  go_ret
  exact ⟨by simp [zbd,h],rfl⟩
theorem zfY (a b:ByteArray) (w:World) (ha:a.size<=9223372036854775807) (hb:b.size<=9223372036854775807):Calls Tryz.prog 79 #[.string a,.string b] w fun e w'=>e=.returned (.bool (zbd a b))/\w=w':=by
 by_cases h:b.size<=a.size
 ·have h':(b.size:Int)<=a.size:=by omega
  go_enter Tryz.func79,Tryz.ntmps79
  go_wp2
  go_ret
  exact ⟨by simp [zbd,h],rfl⟩
 ·have h':¬ (b.size:Int)<=a.size:=by omega
  go_enter Tryz.func79,Tryz.ntmps79
  go_wp2
  go_ret
  exact ⟨by simp [zbd,h],rfl⟩
theorem za7 (a b:ByteArray) (w:World) (ha:a.size<=9223372036854775807) (hb:b.size<=9223372036854775807):Calls Tryz.prog 47 #[.string a,.string b] w fun e w'=>e=.returned (.bool (zbd a b))/\w=w':=by
 go_enter Tryz.func47,Tryz.ntmps47
 go_wp2_with fail
 (go_at_call 79;refine (zfY a b _ ha hb).mono ?_;rintro e w' ⟨rfl,rfl⟩)
 go_wp2
 go_ret
 exact ⟨rfl,rfl⟩
theorem zdx (a:ByteArray) (w:World) (ha:a.size<=9223372036854775807):Calls Tryz.prog 109 #[.string a,.string ⟨#[42]⟩] w fun e w'=>e=.returned (.bool (zaU a))/\w=w':=by
 by_cases h : 1<=a.size
 ·have h':(1:Int)<=a.size:=by omega
  go_enter Tryz.func109,Tryz.ntmps109
  go_wp2
  go_ret
  exact ⟨by simp [zaU,h],rfl⟩
 ·have h':¬ (1:Int)<=a.size:=by omega
  go_enter Tryz.func109,Tryz.ntmps109
  go_wp2
  go_ret
  exact ⟨by simp [zaU,h],rfl⟩
theorem zfZ (a:ByteArray) (w:World) (ha:a.size<=9223372036854775807):Calls Tryz.prog 78 #[.string a,.string ⟨#[42]⟩] w fun e w'=>e=.returned (.tuple #[.string (zac a),.bool (zaU a)])/\w=w':=by
 cases ho:zaU a with
 | true =>
  have h1 : 1<=a.size:=by
   unfold zaU at ho
   simp at ho
   exact ho.1
  have h2:(1:Int)<=a.size:=by omega
  go_enter Tryz.func78,Tryz.ntmps78
  go_wp2_with fail
  (go_at_call 109;refine (zdx a _ ha).mono ?_;rintro e w' ⟨rfl,rfl⟩)
  rw [ho]
  go_wp2
  refine bodyPost_ret (by simp [results,Tryz.results78,go_sem];rfl) rfl ?_
  exact ⟨by simp [zac,ho],rfl⟩
 | false =>
  go_enter Tryz.func78,Tryz.ntmps78
  go_wp2_with fail
  (go_at_call 109;refine (zdx a _ ha).mono ?_;rintro e w' ⟨rfl,rfl⟩)
  rw [ho]
  go_wp2
  refine bodyPost_ret (by simp [results,Tryz.results78,go_sem];rfl) rfl ?_
  exact ⟨by simp [zac,ho],rfl⟩
theorem z7 (a:ByteArray) (w:World) (ha:a.size<=9223372036854775807):Calls Tryz.prog 46 #[.string a,.string ⟨#[42]⟩] w fun e w'=>e=.returned (.tuple #[.string (zac a),.bool (zaU a)])/\w=w':=by
 go_enter Tryz.func46,Tryz.ntmps46
 go_wp2_with fail
 (go_at_call 78;refine (zfZ a _ ha).mono ?_;rintro e w' ⟨rfl,rfl⟩)
 go_wp2
 refine bodyPost_ret (by simp [results,Tryz.results46,go_sem];rfl) rfl ?_
 exact ⟨rfl,rfl⟩
theorem zar (a:ByteArray) (w:World) (ha:a.size<=9223372036854775807):Calls Tryz.prog 49 #[.string a] w fun e w'=>e=.returned (.tuple #[.string (zac a),.bool (zaU a)])/\w=w':=by
 by_cases h : 0<a.size
 ·have h':(0:Int)<a.size:=by omega
  have hl:=last_is a h
  cases ho:zaU a with
  | true =>
   rw [ho] at hl
   go_enter Tryz.func49,Tryz.ntmps49
   go_wp2
   refine bodyPost_ret (by simp [results,Tryz.results49,go_sem];rfl) rfl ?_
   exact ⟨by simp [zac,ho],rfl⟩
  | false =>
   rw [ho] at hl
   go_enter Tryz.func49,Tryz.ntmps49
   go_wp2
   refine bodyPost_ret (by simp [results,Tryz.results49,go_sem];rfl) rfl ?_
   exact ⟨by simp [zac,ho],rfl⟩
 ·have h':¬ (0:Int)<a.size:=by omega
  have ho:zaU a=false:=by unfold zaU;simp;omega
  go_enter Tryz.func49,Tryz.ntmps49
  go_wp2
  refine bodyPost_ret (by simp [results,Tryz.results49,go_sem];rfl) rfl ?_
  exact ⟨by simp [zac,ho],rfl⟩
theorem zeI (s k:ByteArray) (w:World) (hs:s.size<=9223372036854775807) (hk:k.size<=9223372036854775807):Calls Tryz.prog 51 #[.string s,.string k] w fun e w'=>e=.returned (.bool (zcs s k))/\w=w':=by
 cases ho:zaU s with
 | true =>
  go_enter Tryz.func51,Tryz.ntmps51
  go_wp2_with fail
  (go_at_call 49;refine (zar s _ hs).mono ?_;rintro e w' ⟨rfl,rfl⟩)
  rw [ho]
  go_wp2_with fail
  (go_at_call 50;refine (zaV k (zac s) _ hk (Nat.le_trans (zai s) hs)).mono ?_;rintro e w' ⟨rfl,rfl⟩)
  go_wp2
  go_ret
  exact ⟨by simp [zcs,ho],rfl⟩
 | false =>
  have hp:zac s=s:=by unfold zac;rw [ho];rfl
  go_enter Tryz.func51,Tryz.ntmps51
  go_wp2_with fail
  (go_at_call 49;refine (zar s _ hs).mono ?_;rintro e w' ⟨rfl,rfl⟩)
  rw [ho]
  go_wp2
  go_ret
  exact ⟨by simp [zcs,ho],rfl⟩
theorem zc5 (s k:ByteArray) (w:World) (hs:s.size<=9223372036854775807) (hk:k.size<=9223372036854775807):Calls Tryz.prog 48 #[.string s,.string k] w fun e w'=>e=.returned (.bool (zcs s k))/\w=w':=by
 cases ho:zaU s with
 | true =>
  go_enter Tryz.func48,Tryz.ntmps48
  go_wp2_with fail
  (go_at_call 46;refine (z7 s _ hs).mono ?_;rintro e w' ⟨rfl,rfl⟩)
  rw [ho]
  go_wp2_with fail
  (go_at_call 47;refine (za7 k (zac s) _ hk (Nat.le_trans (zai s) hs)).mono ?_;rintro e w' ⟨rfl,rfl⟩)
  go_wp2
  go_ret
  exact ⟨by simp [zcs,ho],rfl⟩
 | false =>
  have hp:zac s=s:=by unfold zac;rw [ho];rfl
  go_enter Tryz.func48,Tryz.ntmps48
  go_wp2_with fail
  (go_at_call 46;refine (z7 s _ hs).mono ?_;rintro e w' ⟨rfl,rfl⟩)
  rw [ho]
  go_wp2
  go_ret
  exact ⟨by simp [zcs,ho],rfl⟩
theorem zdv (a b:ByteArray) (w:World) (ha:a.size<=9223372036854775807) (hb:b.size<=9223372036854775807):Calls Tryz.prog 36 #[.string a,.string b] w fun e w'=>e=.returned (.bool (zad a b))/\w=w':=by
 have hm:zad a b=zad a b:=rfl
 conv at hm=>rhs;unfold zad
 rcases hoa:zaU a with _|_<;>rcases hob:zaU b with _|_<;>simp only [hoa,hob,if_true,if_false,Bool.false_eq_true] at hm
 ·go_enter Tryz.func36,Tryz.ntmps36
  go_wp2_with fail
  (go_at_call 49;refine (zar a _ ha).mono ?_;rintro e w' ⟨rfl,rfl⟩)
  rw [hoa]
  go_wp2_with fail
  (go_at_call 49;refine (zar b _ hb).mono ?_;rintro e w' ⟨rfl,rfl⟩)
  rw [hob]
  go_wp2_with fail
  (go_at_call 51;refine (zeI b a _ hb ha).mono ?_;rintro e w' ⟨rfl,rfl⟩)
  go_wp2
  go_ret
  exact ⟨by rw [hm];rfl,rfl⟩
 ·go_enter Tryz.func36,Tryz.ntmps36
  go_wp2_with fail
  (go_at_call 49;refine (zar a _ ha).mono ?_;rintro e w' ⟨rfl,rfl⟩)
  rw [hoa]
  go_wp2_with fail
  (go_at_call 49;refine (zar b _ hb).mono ?_;rintro e w' ⟨rfl,rfl⟩)
  rw [hob]
  go_wp2_with fail
  (go_at_call 51;refine (zeI b a _ hb ha).mono ?_;rintro e w' ⟨rfl,rfl⟩)
  go_wp2
  go_ret
  exact ⟨by rw [hm];rfl,rfl⟩
 ·go_enter Tryz.func36,Tryz.ntmps36
  go_wp2_with fail
  (go_at_call 49;refine (zar a _ ha).mono ?_;rintro e w' ⟨rfl,rfl⟩)
  rw [hoa]
  go_wp2_with fail
  (go_at_call 49;refine (zar b _ hb).mono ?_;rintro e w' ⟨rfl,rfl⟩)
  rw [hob]
  go_wp2_with fail
  (go_at_call 50;refine (zaV b (zac a) _ hb (Nat.le_trans (zai a) ha)).mono ?_;rintro e w' ⟨rfl,rfl⟩)
  go_wp2
  go_ret
  exact ⟨by rw [hm];rfl,rfl⟩
 ·cases hbg:zbd (zac a) (zac b) with
  | true =>
   go_enter Tryz.func36,Tryz.ntmps36
   go_wp2_with fail
   (go_at_call 49;refine (zar a _ ha).mono ?_;rintro e w' ⟨rfl,rfl⟩)
   rw [hoa]
   go_wp2_with fail
   (go_at_call 49;refine (zar b _ hb).mono ?_;rintro e w' ⟨rfl,rfl⟩)
   rw [hob]
   go_wp2_with fail
   (go_at_call 50;refine (zaV (zac a) (zac b) _ (Nat.le_trans (zai a) ha) (Nat.le_trans (zai b) hb)).mono ?_;rintro e w' ⟨rfl,rfl⟩)
   rw [hbg]
   go_wp2
   go_ret
   exact ⟨by rw [hm,hbg];rfl,rfl⟩
  | false =>
   go_enter Tryz.func36,Tryz.ntmps36
   go_wp2_with fail
   (go_at_call 49;refine (zar a _ ha).mono ?_;rintro e w' ⟨rfl,rfl⟩)
   rw [hoa]
   go_wp2_with fail
   (go_at_call 49;refine (zar b _ hb).mono ?_;rintro e w' ⟨rfl,rfl⟩)
   rw [hob]
   go_wp2_with fail
   (go_at_call 50;refine (zaV (zac a) (zac b) _ (Nat.le_trans (zai a) ha) (Nat.le_trans (zai b) hb)).mono ?_;rintro e w' ⟨rfl,rfl⟩)
   rw [hbg]
   go_wp2_with fail
   (go_at_call 50;refine (zaV (zac b) (zac a) _ (Nat.le_trans (zai b) hb) (Nat.le_trans (zai a) ha)).mono ?_;rintro e w' ⟨rfl,rfl⟩)
   go_wp2
   go_ret
   exact ⟨by rw [hm,hbg,Bool.false_or];rfl,rfl⟩
theorem zf1 (a b:ByteArray) (w:World) (ha:a.size<=9223372036854775807) (hb:b.size<=9223372036854775807):Calls Tryz.prog 35 #[.string a,.string b] w fun e w'=>e=.returned (.bool (zad a b))/\w=w':=by
 have hm:zad a b=zad a b:=rfl
 conv at hm=>rhs;unfold zad
 rcases hoa:zaU a with _|_<;>rcases hob:zaU b with _|_<;>simp only [hoa,hob,if_true,if_false,Bool.false_eq_true] at hm
 ·go_enter Tryz.func35,Tryz.ntmps35
  go_wp2_with fail
  (go_at_call 46;refine (z7 a _ ha).mono ?_;rintro e w' ⟨rfl,rfl⟩)
  rw [hoa]
  go_wp2_with fail
  (go_at_call 46;refine (z7 b _ hb).mono ?_;rintro e w' ⟨rfl,rfl⟩)
  rw [hob]
  go_wp2_with fail
  (go_at_call 48;refine (zc5 b a _ hb ha).mono ?_;rintro e w' ⟨rfl,rfl⟩)
  go_wp2
  go_ret
  exact ⟨by rw [hm];rfl,rfl⟩
 ·go_enter Tryz.func35,Tryz.ntmps35
  go_wp2_with fail
  (go_at_call 46;refine (z7 a _ ha).mono ?_;rintro e w' ⟨rfl,rfl⟩)
  rw [hoa]
  go_wp2_with fail
  (go_at_call 46;refine (z7 b _ hb).mono ?_;rintro e w' ⟨rfl,rfl⟩)
  rw [hob]
  go_wp2_with fail
  (go_at_call 48;refine (zc5 b a _ hb ha).mono ?_;rintro e w' ⟨rfl,rfl⟩)
  go_wp2
  go_ret
  exact ⟨by rw [hm];rfl,rfl⟩
 ·go_enter Tryz.func35,Tryz.ntmps35
  go_wp2_with fail
  (go_at_call 46;refine (z7 a _ ha).mono ?_;rintro e w' ⟨rfl,rfl⟩)
  rw [hoa]
  go_wp2_with fail
  (go_at_call 46;refine (z7 b _ hb).mono ?_;rintro e w' ⟨rfl,rfl⟩)
  rw [hob]
  go_wp2_with fail
  have hsh:zcs a b=zbd b (zac a):=by unfold zcs;rw [hoa];rfl
  (go_at_call 48;refine (zc5 a b _ ha hb).mono ?_;rintro e w' ⟨rfl,rfl⟩)
  rw [hsh]
  go_wp2
  go_ret
  exact ⟨by rw [hm];rfl,rfl⟩
 ·cases hbg:zbd (zac a) (zac b) with
  | true =>
   go_enter Tryz.func35,Tryz.ntmps35
   go_wp2_with fail
   (go_at_call 46;refine (z7 a _ ha).mono ?_;rintro e w' ⟨rfl,rfl⟩)
   rw [hoa]
   go_wp2_with fail
   (go_at_call 46;refine (z7 b _ hb).mono ?_;rintro e w' ⟨rfl,rfl⟩)
   rw [hob]
   go_wp2_with fail
   (go_at_call 47;refine (za7 (zac a) (zac b) _ (Nat.le_trans (zai a) ha) (Nat.le_trans (zai b) hb)).mono ?_;rintro e w' ⟨rfl,rfl⟩)
   rw [hbg]
   go_wp2
   go_ret
   exact ⟨by rw [hm,hbg];rfl,rfl⟩
  | false =>
   go_enter Tryz.func35,Tryz.ntmps35
   go_wp2_with fail
   (go_at_call 46;refine (z7 a _ ha).mono ?_;rintro e w' ⟨rfl,rfl⟩)
   rw [hoa]
   go_wp2_with fail
   (go_at_call 46;refine (z7 b _ hb).mono ?_;rintro e w' ⟨rfl,rfl⟩)
   rw [hob]
   go_wp2_with fail
   (go_at_call 47;refine (za7 (zac a) (zac b) _ (Nat.le_trans (zai a) ha) (Nat.le_trans (zai b) hb)).mono ?_;rintro e w' ⟨rfl,rfl⟩)
   rw [hbg]
   go_wp2_with fail
   (go_at_call 47;refine (za7 (zac b) (zac a) _ (Nat.le_trans (zai b) hb) (Nat.le_trans (zai a) ha)).mono ?_;rintro e w' ⟨rfl,rfl⟩)
   go_wp2
   go_ret
   exact ⟨by rw [hm,hbg,Bool.false_or];rfl,rfl⟩
end Go.Proofs.YtncnbihlngapbaaGreat
namespace Go.Proofs.YtncnbihlngapbaaGreat
open Go.Lib
def zbS (c:UInt8):List UInt8->List (List UInt8)
 | []=>[[]]
 | b :: l=>if b=c then [] :: zbS c l else match zbS c l with
  | []=>[[b]]
  | x :: xs=>(b :: x) :: xs
theorem zf5 (c:UInt8):∀ (a l:List UInt8),c ∉ a->zbS c (a++c :: l)=a :: zbS c l
 | [],l,_=>by
  show zbS c (c :: l) = _
  conv=>lhs;unfold zbS
  rw [if_pos rfl]
 | b :: a,l,h=>by
  have hb:b ≠ c:=fun e=>h (by rw [e];simp)
  have ha:c ∉ a:=fun e=>h (List.mem_cons_of_mem _ e)
  show zbS c (b :: (a++c :: l)) = _
  conv=>lhs;unfold zbS
  rw [if_neg hb,zf5 c a l ha]
end Go.Proofs.YtncnbihlngapbaaGreat
