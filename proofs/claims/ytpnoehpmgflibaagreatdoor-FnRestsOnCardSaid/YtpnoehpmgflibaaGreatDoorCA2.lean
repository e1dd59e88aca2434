/- Texts of this claim, merged: the walks and what they stand on. Each condition stands in its theorem. -/
import Derived.BigQuiet
import Derived.Deep.QuietTactic
import Derived.Laws.IdiomStrings
import Derived.Lib.Hide
import Derived.Lib.SliceRun
import Derived.Test.YtpnoehpmgflibaaGreatDoorCA1
set_option linter.unusedVariables false
set_option linter.unusedSimpArgs false
set_option maxRecDepth 100000
set_option maxHeartbeats 8000000
namespace Go
open Go.RowKit
structure RowOf (α : Type) where
 row : α->List Value
 k:Nat
 len:∀ x,(row x).length=k
 one:∀ x,∀ u ∈ row x,u.oneCell'=true
variable {α : Type}
theorem RowOf.flat_len (R:RowOf α) (xs:List α):(xs.flatMap R.row).length=xs.length*R.k:=by
 induction xs with
 | nil=>simp
 | cons x xs ih=>simp only [List.flatMap_cons,List.length_append,R.len,ih,List.length_cons,Nat.add_mul];omega
theorem RowOf.flat_one (R:RowOf α) (xs:List α):∀ u ∈ xs.flatMap R.row,u.oneCell'=true:=by
 intro u hu
 obtain ⟨x,_,hx⟩:=List.mem_flatMap.1 hu
 exact R.one x u hx
theorem RowOf.flat_get (R:RowOf α):∀ (xs:List α) (i j:Nat) (u:Value) (hi:i<xs.length),(R.row xs[i])[j]?=some u->(xs.flatMap R.row)[i*R.k+j]?=some u
 | [],i,_,_,hi,_=>absurd hi (by simp)
 | x :: xs,0,j,u,_,h=>by
  have hj:j<(R.row x).length:=(List.getElem?_eq_some_iff.1 h).1
  rw [List.flatMap_cons,List.getElem?_append_left (by omega)]
  simpa using h
 | x :: xs,i+1,j,u,hi,h=>by
  rw [List.flatMap_cons,List.getElem?_append_right (by rw [R.len,Nat.add_mul];omega),R.len]
  rw [show (i+1)*R.k+j - R.k=i*R.k+j by rw [Nat.add_mul];omega]
  exact R.flat_get xs i j u (by simpa using hi) (by simpa using h)
theorem RowOf.flat_drop (R:RowOf α) (xs:List α) (i:Nat):(xs.flatMap R.row).drop (i*R.k)=(xs.drop i).flatMap R.row:=by
 induction xs generalizing i with
 | nil=>simp
 | cons x xs ih =>
  cases i with
  | zero=>simp
  | succ i =>
   rw [List.flatMap_cons,List.drop_succ_cons,<- ih i,Nat.add_mul,Nat.one_mul,Nat.add_comm,<- List.drop_drop]
   congr 1
   rw [<- R.len x]
   exact List.drop_left
theorem RowOf.flat_take (R:RowOf α) (xs:List α) (i:Nat):(xs.flatMap R.row).take (i*R.k)=(xs.take i).flatMap R.row:=by
 induction xs generalizing i with
 | nil=>simp
 | cons x xs ih =>
  cases i with
  | zero=>simp
  | succ i =>
   rw [List.flatMap_cons,List.take_succ_cons,List.flatMap_cons,<- ih i,Nat.add_mul,Nat.one_mul,List.take_append,R.len]
   rw [List.take_of_length_le (by rw [R.len];omega),show i*R.k+R.k - R.k=i*R.k by omega]
def RdL (R:RowOf α) (w:World) (v:Value) (xs:List α):Prop:=Sl w v xs.length (xs.flatMap R.row)
def OwnL (R:RowOf α) (e:TypeId) (w:World) (B:Nat) (v:Value) (xs:List α):Prop:=w.ownsRow B e R.k v xs.length (xs.flatMap R.row)
section
variable {R:RowOf α} {w:World} {v:Value} {xs:List α} {e:TypeId} {B:Nat}
theorem RdL.ext (h:RdL R w v xs) (X:Ext):RdL R (w.ext X) v xs:=Sl.ext h X
theorem RdL.alloc (h:RdL R w v xs) (o:Obj):RdL R (w.alloc o) v xs:=Sl.alloc h o
theorem RdL.drew (h:RdL R w v xs):RdL R w.drew v xs:=h
theorem RdL.below {w':World} (h:RdL R w v xs) (hb:Below w.heap.size w w'):RdL R w' v xs:=Sl.below h hb
theorem RdL.setB (h:RdL R w v xs) {p:Nat} (hp:v.ownBlock ≠ some p) (o:Obj):RdL R (w.setB p o) v xs:=Sl.setB h hp o
theorem RdL.nil (R:RowOf α) (w:World):RdL R w (.slice none 0 0) []:=.inl ⟨rfl,rfl,rfl⟩
theorem OwnL.rd (h:OwnL R e w B v xs):RdL R w v xs:=World.ownsRow.sl h
theorem OwnL.ext (h:OwnL R e w B v xs) (X:Ext):OwnL R e (w.ext X) B v xs:=World.ownsRow.ext h X
theorem OwnL.alloc (h:OwnL R e w B v xs) (o:Obj):OwnL R e (w.alloc o) B v xs:=World.ownsRow.alloc h o
theorem OwnL.drew (h:OwnL R e w B v xs):OwnL R e w.drew B v xs:=h
theorem OwnL.setB (h:OwnL R e w B v xs) {p:Nat} (hp:v.ownBlock ≠ some p) (o:Obj):OwnL R e (w.setB p o) B v xs:=World.ownsRow.setB h hp o
theorem OwnL.nil (R:RowOf α) (e:TypeId) (w:World) (B:Nat):OwnL R e w B (.slice none 0 0) []:=by
 have:=World.ownsRow_nil w B e R.k
 unfold OwnL
 simpa using this
theorem OwnL.empty (R:RowOf α) (e:TypeId) (w:World):OwnL R e (w.alloc (.cells #[] e)) w.heap.size (.slice (some ⟨w.heap.size,0,none⟩) 0 0) [] :=
 World.ownsRow_lit w #[] 0 (Nat.le_refl _) (by decide) (by simp)
theorem OwnL.lt (h:OwnL R e w B v xs):∀ k,v.ownBlock=some k->B<=k/\k<w.heap.size:=World.ownsRow.lt h
theorem OwnL.base {B':Nat} (h:OwnL R e w B v xs) (hb:B'<=B):OwnL R e w B' v xs:=World.ownsRow.base h hb
theorem OwnL.kept {w':World} {row:Option Nat} (h:OwnL R e w B v xs) (hg:w.grownBy w' row) (hne:v.ownBlock=none ∨ v.ownBlock ≠ row):OwnL R e w' B v xs:=World.ownsRow.kept h hg hne
theorem RdL.kept {w':World} {row:Option Nat} (h:RdL R w v xs) (hg:w.grownBy w' row) (hne:v.ownBlock=none ∨ v.ownBlock ≠ row):RdL R w' v xs:=by
 rcases h with h|⟨b,off,cap,rfl,h1,h2,h3⟩
 ·exact .inl h
 ·refine .inr ⟨b,off,cap,rfl,h1,h2,fun j u hj=>?_⟩
  have hc:=h3 j u hj
  rw [World.cell?_of_block (w:=w) (hg.block b (World.block_lt_of_cell? w ⟨b,off+j,none⟩ hc) (by simpa [Value.ownBlock] using hne))]
  exact hc
theorem RdL.one (R:RowOf α) (w:World) (x : α) (cs:Array Value) (hcs:cs=(R.row x).toArray) (e:TypeId):RdL R (w.alloc (.cells cs e)) (.slice (some ⟨w.heap.size,0,none⟩) 1 1) [x]:=by
 subst hcs
 unfold RdL
 have:=zmF w (R.row x) e 1 (by decide)
 simpa using this
theorem RdL.lit (R:RowOf α) (w:World) (xs:List α) (n:Nat) (hn:n=xs.length) (hm:n<=maxLen) (cs:Array Value) (hcs:cs=(xs.flatMap R.row).toArray) (e:TypeId):RdL R (w.alloc (.cells cs e)) (.slice (some ⟨w.heap.size,0,none⟩) n n) xs:=by
 subst hcs hn
 exact zmF w _ e _ hm
theorem OwnL.lit (R:RowOf α) (w:World) (xs:List α) (n:Nat) (hn:n=xs.length) (hm:n<=maxLen) (cs:Array Value) (hcs:cs=(xs.flatMap R.row).toArray) (e:TypeId):OwnL R e (w.alloc (.cells cs e)) w.heap.size (.slice (some ⟨w.heap.size,0,none⟩) n n) xs:=by
 subst hcs hn
 have:=World.ownsRow_lit (e:=e) (size:=R.k) w (xs.flatMap R.row).toArray xs.length (base:=w.heap.size) (Nat.le_refl _) hm (by simp [R.flat_len])
 simpa [OwnL] using this
theorem RdL.shape (h:RdL R w v xs):∃ ao cap,v=.slice ao xs.length cap/\xs.length<=cap/\cap<=maxLen/\(ao=none->cap=0/\xs = []) /\
  (xs ≠ []->∃ b off,ao=some ⟨b,off,none⟩/\(0<R.k->b<w.heap.size)/\∀ (i:Nat) (hi:i<xs.length) (j:Nat) (u:Value),(R.row xs[i])[j]?=some u->w.cell? ⟨b,off+i*R.k+j,none⟩=some u):=by
 obtain ⟨ao,cap,rfl,h1,h2,h3,h4⟩:=Sl.shape h
 refine ⟨ao,cap,rfl,h1,h2,fun h=>⟨(h3 h).1,List.eq_nil_of_length_eq_zero (h3 h).2⟩,fun hne=>?_⟩
 obtain ⟨b,off,rfl,hc⟩:=h4 (by cases xs;exact absurd rfl hne;simp)
 refine ⟨b,off,rfl,fun hk=>?_,fun i hi j u hj=>?_⟩
 ·have h0 : 0<(xs.flatMap R.row).length:=by
   rw [R.flat_len]
   exact Nat.mul_pos (by cases xs;exact absurd rfl hne;simp) hk
  exact World.block_lt_of_cell? w ⟨b,off+0,none⟩ (hc 0 _ (List.getElem?_eq_getElem h0))
 ·rw [Nat.add_assoc]
  exact hc _ _ (R.flat_get xs i j u hi hj)
theorem RdL.cut {b off n cap:Nat} (h:RdL R w (.slice (some ⟨b,off,none⟩) n cap) xs) (lo hi c:Nat) (h1:hi<=xs.length) (h2:hi - lo<=c) (hc:c<=maxLen) :
  RdL R w (.slice (some ⟨b,off+lo*R.k,none⟩) (hi - lo) c) ((xs.drop lo).take (hi - lo)):=by
 have hcell:∀ j u,(xs.flatMap R.row)[j]?=some u->w.cell? ⟨b,off+j,none⟩=some u:=by
  rcases h with ⟨h,_⟩|⟨b',off',cap',h,_,_,h3⟩
  ·cases h
  ·cases h;exact h3
 have hl:((xs.drop lo).take (hi - lo)).length=hi - lo:=by simp;omega
 have h3:=Sl.cut R.k hcell lo hi c h2 hc
 unfold RdL
 rw [hl,<- R.flat_take,<- R.flat_drop]
 exact h3
end
section
variable {P:Program}
theorem wp_appL {R:RowOf α} {w:World} {o:Oper} {a:Act} {K:Act->World->Prop} {Q:Exit->Act->World->Prop} (s x:Operand) (t:TypeId)
  (ho:o.op=.call { callee:=.builtin .append,args:=#[s,x],argTypes:=#[t,t] })
  {e:TypeId} {bytes:Nat} (E:Elem P t e R.k bytes) {B:Nat} {v:Value} {xs:List α} (hown:OwnL R e w B v xs) (hs:a.eval s=v)
  {vx:Value} {ys:List α} (hx:RdL R w vx ys) (hvx:a.eval x=vx) (hb:(xs.length+ys.length)*bytes<=140737488355328) (h63:xs.length+ys.length<=maxLen) (hbase:B<=w.heap.size)
  (h:∀ v' w',OwnL R e w' B v' (xs++ys)->w.grownBy w' v.ownBlock->(v'=.slice none 0 0 ↔ v=.slice none 0 0/\ys = [])->K (a.put o.dst v') w'):o.wp P a w K Q:=by
 refine wp_app s x t ho E hs hown hvx hx (R.flat_len ys) (R.flat_one ys) hb h63 hbase fun v' w' h1 h2 h3=>h v' w' ?_ h2 ?_
 ·unfold OwnL
  rw [List.length_append,List.flatMap_append]
  exact h1
 ·rw [h3]
  simp
theorem zI {R:RowOf α} {w:World} {ops:Array Oper} {rest:List Oper} {o:Oper} {a:Act} {Q:Exit->Act->World->Prop} (hgd:o.guard=none) (s x:Operand) (t:TypeId)
  (ho:o.op=.call { callee:=.builtin .append,args:=#[s,x],argTypes:=#[t,t] })
  {e:TypeId} {bytes:Nat} (E:Elem P t e R.k bytes) {B:Nat} {v:Value} {xs:List α} (hown:OwnL R e w B v xs) (hs:a.eval s=v)
  {vx:Value} {ys:List α} (hx:RdL R w vx ys) (hvx:a.eval x=vx) (hb:(xs.length+ys.length)*bytes<=140737488355328) (h63:xs.length+ys.length<=maxLen) (hbase:B<=w.heap.size)
  (h:∀ v' w',OwnL R e w' B v' (xs++ys)->w.grownBy w' v.ownBlock->(v'=.slice none 0 0 ↔ v=.slice none 0 0/\ys = [])->wpList P ops Q rest (a.put o.dst v') w'):wpList P ops Q (o :: rest) a w :=
 wpList_plain hgd fun _ hK=>wp_appL s x t ho E hown hs hx hvx hb h63 hbase (fun v' w' a1 a2 a3=>hK _ _ (h v' w' a1 a2 a3))
end
theorem RowKit.Below.appL {R:RowOf α} {a w w':World} {v:Value} {e:TypeId} {xs:List α} (h:Below a.heap.size a w) (hg:w.grownBy w' v.ownBlock) (ho:OwnL R e w a.heap.size v xs):Below a.heap.size a w' :=
 Below.app h hg ho
/-! ### the Go types -/
def zx:RowOf ByteArray:=⟨fun s=>[.string s],1,fun _=>rfl,by simp [Value.oneCell']⟩
def zep:RowOf Int:=⟨fun n=>[.int .i64 n],1,fun _=>rfl,by simp [Value.oneCell']⟩
def zde:RowOf UInt8:=⟨fun c=>[.int .u8 c.toNat],1,fun _=>rfl,by simp [Value.oneCell']⟩
theorem RdL.shapeS {w:World} {v:Value} {xs:List ByteArray} (h:RdL zx w v xs):∃ ao cap,v=.slice ao xs.length cap/\xs.length<=cap/\cap<=maxLen/\(ao=none->cap=0/\xs = []) /\
  (xs ≠ []->∃ b off,ao=some ⟨b,off,none⟩/\b<w.heap.size/\∀ (i:Nat) (hi:i<xs.length),w.cell? ⟨b,off+i,none⟩=some (.string xs[i])):=by
 obtain ⟨ao,cap,h0,h1,h2,h3,h4⟩:=h.shape
 refine ⟨ao,cap,h0,h1,h2,h3,fun hne=>?_⟩
 obtain ⟨b,off,e,hb,hc⟩:=h4 hne
 exact ⟨b,off,e,hb (by decide),fun i hi=>by simpa [zx] using hc i hi 0 _ rfl⟩
theorem RdL.shapeI {w:World} {v:Value} {xs:List Int} (h:RdL zep w v xs):∃ ao cap,v=.slice ao xs.length cap/\xs.length<=cap/\cap<=maxLen/\(ao=none->cap=0/\xs = []) /\
  (xs ≠ []->∃ b off,ao=some ⟨b,off,none⟩/\b<w.heap.size/\∀ (i:Nat) (hi:i<xs.length),w.cell? ⟨b,off+i,none⟩=some (.int .i64 xs[i])):=by
 obtain ⟨ao,cap,h0,h1,h2,h3,h4⟩:=h.shape
 refine ⟨ao,cap,h0,h1,h2,h3,fun hne=>?_⟩
 obtain ⟨b,off,e,hb,hc⟩:=h4 hne
 exact ⟨b,off,e,hb (by decide),fun i hi=>by simpa [zep] using hc i hi 0 _ rfl⟩
theorem RdL.cut1 {α : Type} {R:RowOf α} {w:World} {xs:List α} (hk:R.k=1) {b off n cap:Nat} (h:RdL R w (.slice (some ⟨b,off,none⟩) n cap) xs) (lo hi c:Nat) (h1:hi<=xs.length) (h2:hi - lo<=c) (hc:c<=maxLen) :
  RdL R w (.slice (some ⟨b,off+lo,none⟩) (hi - lo) c) ((xs.drop lo).take (hi - lo)):=by
 have:=RdL.cut h lo hi c h1 h2 hc
 simpa [hk] using this
theorem zkQ {α : Type} {R:RowOf α} {w:World} {xs:List α} {b off n cap:Nat} (h:RdL R w (.slice (some ⟨b,off,none⟩) n cap) xs) (hi c:Nat) (h1:hi<=xs.length) (h2:hi<=c) (hc:c<=maxLen) :
  RdL R w (.slice (some ⟨b,off,none⟩) hi c) (xs.take hi):=by
 have:=RdL.cut h 0 hi c h1 (by omega) hc
 simpa using this
theorem RdL.cases {α : Type} {R:RowOf α} {w:World} {ao:Option Addr} {n cap:Nat} {xs:List α} (h:RdL R w (.slice ao n cap) xs) :
  (ao=none/\cap=0/\n=0/\xs = []) ∨ ∃ b off,ao=some ⟨b,off,none⟩/\n=xs.length/\n<=cap/\cap<=maxLen:=by
 rcases h with ⟨e,h0,_⟩|⟨b,off,c,e,h1,h2,_⟩
 ·simp only [Value.slice.injEq] at e
  exact .inl ⟨e.1,e.2.2,e.2.1,List.eq_nil_of_length_eq_zero h0⟩
 ·simp only [Value.slice.injEq] at e
  exact .inr ⟨b,off,e.1,e.2.1,by omega,by omega⟩
theorem RdL.zero {α : Type} (R:RowOf α) (w:World) (b off c:Nat) (h:c<=maxLen):RdL R w (.slice (some ⟨b,off,none⟩) 0 c) []:=.inr ⟨b,off,c,rfl,Nat.zero_le _,h,fun j u hj=>by simp at hj⟩
structure SameBut (p:Nat) (a b:World):Prop where
 size:a.heap.size=b.heap.size
 block:∀ k,k ≠ p->a.heap[k]?=b.heap[k]?
theorem SameBut.setB (p:Nat) (w:World) (o o':Obj):SameBut p (w.setB p o) (w.setB p o') :=
 ⟨by rw [zd,zd],fun k hk=>by rw [World.setB_get w p o k hk,World.setB_get w p o' k hk]⟩
theorem SameBut.ext {p:Nat} {a b:World} (h:SameBut p a b) (X:Ext):SameBut p (a.ext X) (b.ext X):=by
 refine ⟨by rw [zm,zm,h.size],fun k hk=>?_⟩
 show (a.heap++X.bs)[k]?=(b.heap++X.bs)[k]?
 rw [Array.getElem?_append,Array.getElem?_append,h.size,h.block k hk]
theorem SameBut.alloc {p:Nat} {a b:World} (h:SameBut p a b) (o:Obj):SameBut p (a.alloc o) (b.alloc o):=by
 refine ⟨by rw [World.size_alloc,World.size_alloc,h.size],fun k hk=>?_⟩
 show (a.heap.push o)[k]?=(b.heap.push o)[k]?
 rw [Array.getElem?_push,Array.getElem?_push,h.size,h.block k hk]
theorem Got.then {p:Nat} {w w1 w2:World} {o o1:Obj} (h1:Got p w o1 w1) (h2:Got p w1 o w2) (hp:p<w.heap.size):Got p w o w2:=by
 obtain ⟨X,rfl⟩:=h1
 obtain ⟨Y,rfl⟩:=h2
 refine ⟨⟨X.bs++Y.bs,Y.dr⟩,?_⟩
 rw [zay _ _ _ _ (by rw [zd];exact hp),za7,zp]
theorem Got.ofAlloc {p:Nat} {w w2:World} {o b:Obj} (h:Got p (w.alloc b) o w2) (hp:p<w.heap.size):Got p w o w2:=by
 obtain ⟨Y,rfl⟩:=h
 rw [World.setB_alloc_past _ _ _ _ hp]
 exact ((Got.mk p w o).alloc b).ext Y
theorem Got.ofBelow {p:Nat} {w w1 w2:World} {o:Obj} (h1:Got p w o w1) (h2:Below w1.heap.size w1 w2):Got p w o w2:=by
 obtain ⟨X,rfl⟩:=h2.ext
 exact h1.ext X
theorem Got.size {p:Nat} {w w1:World} {o:Obj} (h:Got p w o w1):w.heap.size<=w1.heap.size:=by
 obtain ⟨X,rfl⟩:=h
 rw [zm,zd]
 omega
theorem Got.other {p:Nat} {w w1:World} {o:Obj} (h:Got p w o w1) {b:Nat} (hb:b<w.heap.size) (hne:b ≠ p):w1.heap[b]?=w.heap[b]?:=by
 obtain ⟨X,rfl⟩:=h
 rw [World.ext_get _ _ (by rw [zd];exact hb),World.setB_get _ _ _ _ hne]
theorem World.ext_setB_past (w:World) (X:Ext) (b:Nat) (o:Obj) (h:w.heap.size<=b):(w.ext X).setB b o=w.ext ⟨X.bs.setIfInBounds (b - w.heap.size) o,X.dr⟩:=by
 unfold World.ext World.setB
 simp only [World.mk.injEq,true_and,and_true]
 apply Array.ext_getElem?
 intro i
 simp only [Array.getElem?_setIfInBounds,Array.getElem?_append,Array.size_append]
 by_cases e:b=i
 ·subst e
  have h1:¬ b<w.heap.size:=by omega
  by_cases hl:b<w.heap.size+X.bs.size
  ·have h2:b - w.heap.size<X.bs.size:=by omega
   simp [h1,hl,h2]
  ·have h2:¬ b - w.heap.size<X.bs.size:=by omega
   simp [h1,hl,h2]
 ·rw [if_neg e]
  by_cases hi:i<w.heap.size
  ·rw [if_pos hi,if_pos hi]
  ·rw [if_neg hi,if_neg hi,if_neg (by omega)]
theorem Got.past {p:Nat} {w w1:World} {o:Obj} (h:Got p w o w1) {b:Nat} (hb:w.heap.size<=b) (o':Obj):Got p w o (w1.setB b o'):=by
 obtain ⟨X,rfl⟩:=h
 exact ⟨_,World.ext_setB_past _ X b o' (by rw [zd];exact hb)⟩
theorem RdL.past {α : Type} {R:RowOf α} {w:World} {v:Value} {xs:List α} {b:Nat} (h:RdL R w v xs) (hb:∀ k,v.ownBlock=some k->k<b) (o:Obj):RdL R (w.setB b o) v xs :=
 h.setB (fun e=>absurd (hb b e) (Nat.lt_irrefl b)) o
theorem RdL.oneAt {α : Type} (R:RowOf α) (w:World) (x : α) (cs:Array Value) (hcs:cs=(R.row x).toArray) (e:TypeId) (b:Nat) (hb:b=w.heap.size):RdL R (w.alloc (.cells cs e)) (.slice (some ⟨b,0,none⟩) 1 1) [x]:=by
 subst hb
 exact RdL.one R w x cs hcs e
theorem OwnL.oneAt {α : Type} (R:RowOf α) (w:World) (x : α) (cs:Array Value) (hcs:cs=(R.row x).toArray) (e:TypeId) (b:Nat) (hb:b=w.heap.size):OwnL R e (w.alloc (.cells cs e)) w.heap.size (.slice (some ⟨b,0,none⟩) 1 1) [x]:=by
 subst hb
 exact OwnL.lit R w [x] 1 rfl (by decide) cs (by simpa using hcs) e
theorem zlG {cs:Array Value} {n:Nat} {L:List Value} {v:Value} (h:cs.toList.take n=L) (hn:n<cs.size):(cs.setIfInBounds n v).toList.take (n+1)=L ++ [v]:=by
 have hl:n<(cs.setIfInBounds n v).toList.length:=by simpa using hn
 rw [List.take_succ_eq_append_getElem hl,<- h]
 congr 1
 ·simp only [Array.toList_setIfInBounds]
  rw [List.take_set_of_le (Nat.le_refl n)]
 ·simp
structure Agr (B:Nat) (a b:World):Prop where
 size:a.heap.size=b.heap.size
 block:∀ k,B<=k->a.heap[k]?=b.heap[k]?
theorem Agr.ext {B:Nat} {a b:World} (h:Agr B a b) (X:Ext):Agr B (a.ext X) (b.ext X):=by
 refine ⟨by rw [zm,zm,h.size],fun k hk=>?_⟩
 show (a.heap++X.bs)[k]?=(b.heap++X.bs)[k]?
 rw [Array.getElem?_append,Array.getElem?_append,h.size,h.block k hk]
theorem Agr.alloc {B:Nat} {a b:World} (h:Agr B a b) (o:Obj):Agr B (a.alloc o) (b.alloc o):=by
 refine ⟨by rw [World.size_alloc,World.size_alloc,h.size],fun k hk=>?_⟩
 show (a.heap.push o)[k]?=(b.heap.push o)[k]?
 rw [Array.getElem?_push,Array.getElem?_push,h.size,h.block k hk]
def RdW {α : Type} (R:RowOf α) (w:World) (v:Value) (xs:List α):Prop:=RdL R w v xs ∨ (xs = []/\∃ a,v=.slice (some a) 0 0)
theorem RdW.ext {α : Type} {R:RowOf α} {w:World} {v:Value} {xs:List α} (h:RdW R w v xs) (X:Ext):RdW R (w.ext X) v xs:=h.imp (·.ext X) id
theorem RdW.alloc {α : Type} {R:RowOf α} {w:World} {v:Value} {xs:List α} (h:RdW R w v xs) (o:Obj):RdW R (w.alloc o) v xs:=h.imp (·.alloc o) id
theorem RdW.shape {α : Type} {R:RowOf α} {w:World} {v:Value} {xs:List α} (h:RdW R w v xs):∃ ao cap,v=.slice ao xs.length cap/\xs.length<=cap/\cap<=maxLen/\(ao=none->cap=0/\xs = []) /\
  (xs ≠ []->∃ b off,ao=some ⟨b,off,none⟩/\(0<R.k->b<w.heap.size)/\∀ (i:Nat) (hi:i<xs.length) (j:Nat) (u:Value),(R.row xs[i])[j]?=some u->w.cell? ⟨b,off+i*R.k+j,none⟩=some u):=by
 rcases h with h|⟨rfl,a,rfl⟩
 ·exact h.shape
 ·exact ⟨some a,0,rfl,Nat.le_refl _,Nat.zero_le _,(fun e=>by cases e),fun e=>absurd rfl e⟩
theorem zb {w:World} {p i:Nat} {cs:Array Value} {t:TypeId} {f:Nat × Nat} (h:w.heap[p]?=some (.cells cs t f)):w.cell? ⟨p,i,none⟩=cs[i]?:=by
 simp [World.cell?,h]
def SpF (w:World) (p:Nat):Obj × Ext->World:=fun x=>(w.setB p x.1).ext x.2
attribute [go_sem] SpF
theorem Sp.below {w w1 w2:World} {p:Nat} (h:Sf (SpF w p) w1) (g:Below w1.heap.size w1 w2):Sf (SpF w p) w2:=by
 obtain ⟨⟨o1,X⟩,rfl⟩:=h
 obtain ⟨Y,rfl⟩:=g.ext
 exact ⟨(o1,⟨X.bs++Y.bs,Y.dr⟩),by unfold SpF;rw [zp]⟩
theorem RdL.form {α : Type} {R:RowOf α} {w:World} {v:Value} {xs:List α} (h:RdL R w v xs):∃ ao cap,v=.slice ao xs.length cap:=by
 rcases h with ⟨rfl,h,_⟩|⟨b,off,cap,rfl,_⟩
 ·exact ⟨none,0,by rw [h]⟩
 ·exact ⟨_,_,rfl⟩
end Go
namespace Go
open Go.RowKit
@[go_sem] theorem World.drewN_ext (w:World) (X:Ext) (n:Nat):(w.ext X).drewN n=w.ext ⟨X.bs,X.dr+n⟩:=rfl
theorem RowKit.Below.ofDrewN {a w:World} (h:Below a.heap.size a w) (n:Nat):Below a.heap.size a (w.drewN n):=⟨h.os,h.tape,h.output,h.size,h.block⟩
def Grew (w w':World):Prop:=∀ b,b<w.heap.size->w'.heap[b]?=w.heap[b]?
theorem Grew.refl (w:World):Grew w w:=fun _ _=>rfl
theorem Grew.ext (w:World) (X:Ext):Grew w (w.ext X):=fun _ h=>w.ext_get X h
theorem Grew.alloc (w:World) (o:Obj):Grew w (w.alloc o):=fun _ h=>by
 show (w.heap.push o)[_]?=w.heap[_]?
 rw [Array.getElem?_push,if_neg (Nat.ne_of_lt h)]
theorem Grew.drew (w:World):Grew w w.drew:=fun _ _=>rfl
theorem Grew.below {w w':World} (h:Below w.heap.size w w'):Grew w w':=fun b hb=>h.block b hb
theorem Grew.cell {w w':World} (g:Grew w w') {a:Addr} {v:Value} (h:w.cell? a=some v):w'.cell? a=some v :=
 (World.cell?_of_block (g a.block (World.block_lt_of_cell? w a h))).trans h
structure View (α : Type) where
 k:Nat
 rd:World->List Value->α->Prop
 own:World->List Nat->List Value->α->Prop
 len:∀ {w cs d},rd w cs d->cs.length=k
 one:∀ {w cs d},rd w cs d->∀ u ∈ cs,u.oneCell'=true
 grow:∀ {w w' cs d},rd w cs d->Grew w w'->rd w' cs d
 toRd:∀ {w fp cs d},own w fp cs d->rd w cs d
 frame:∀ {w w' fp cs d},own w fp cs d->(∀ b ∈ fp,w'.heap[b]?=w.heap[b]?)->own w' fp cs d
 lt:∀ {w fp cs d},own w fp cs d->∀ b ∈ fp,b<w.heap.size
section
variable {α β : Type} {V:View α} {w w':World} {cs:List Value} {fp:List Nat} {d : α}
theorem zat (h:V.rd w cs d) (X:Ext):V.rd (w.ext X) cs d:=V.grow h (Grew.ext w X)
theorem zD (h:V.rd w cs d) (o:Obj):V.rd (w.alloc o) cs d:=V.grow h (Grew.alloc w o)
theorem zcz {xs bs:Array Obj} {d0 dr:Nat} (h:V.rd (w.ext ⟨xs,d0⟩) cs d):V.rd (w.ext ⟨xs++bs,dr⟩) cs d:=by
 have:=zat h ⟨bs,dr⟩
 rwa [zp] at this
end
theorem zj8 {k:Nat} {css:List (List Value)} (h:∀ i (hc:i<css.length),(css[i]).length=k) (i:Nat) (hi:i<css.length) (j:Nat) (u:Value) (hu:css[i][j]?=some u):css.flatten[i*k+j]?=some u:=by
 induction css generalizing i with
 | nil=>simp at hi
 | cons c r ih =>
  have h0:c.length=k:=h 0 (by simp)
  cases i with
  | zero =>
   have hj:j<c.length:=by
    have:=(List.getElem?_eq_some_iff.1 hu).1
    simpa using this
   rw [List.flatten_cons,List.getElem?_append_left (by omega)]
   simpa using hu
  | succ i =>
   rw [List.flatten_cons,List.getElem?_append_right (by rw [h0,Nat.add_mul];omega),h0,show (i+1)*k+j - k=i*k+j by rw [Nat.add_mul];omega]
   exact ih (fun i hc=>by have:=h (i+1) (by simpa using hc);rwa [List.getElem_cons_succ] at this) i (by simpa using hi) (by simpa using hu)
def vSlice {α : Type} (V:View α) (e:TypeId):View (List α) where
 k:=1
 rd w cs ds:=∃ (ao:Option Addr) (cap:Nat) (css:List (List Value)),cs = [.slice ao ds.length cap]/\ds.length<=cap/\cap<=maxLen/\(ao=none->cap=0)/\css.length=ds.length /\
  (∀ i (hi:i<ds.length) (hc:i<css.length),V.rd w css[i] ds[i]) /\
  (ds ≠ []->∃ b off,ao=some ⟨b,off,none⟩/\b<w.heap.size/\∀ j u,css.flatten[j]?=some u->w.cell? ⟨b,off+j,none⟩=some u)
 own w fp cs ds:=(cs = [.slice none 0 0]/\ds = []/\fp = []) ∨ ∃ (b cap:Nat) (blk:Array Value) (css:List (List Value)) (fps:List (List Nat)),cs = [.slice (some ⟨b,0,none⟩) ds.length cap]/\w.heap[b]?=some (.cells blk e (0,0)) /\
  ds.length<=cap/\cap<=maxLen/\blk.size=cap*V.k/\blk.toList.take (ds.length*V.k)=css.flatten/\fp=b :: fps.flatten/\css.length=ds.length/\fps.length=ds.length /\
  ∀ i (hi:i<ds.length) (hc:i<css.length) (hf:i<fps.length),V.own w fps[i] css[i] ds[i]
 len:=by rintro w cs ds ⟨ao,cap,css,rfl,_⟩;rfl
 one:=by rintro w cs ds ⟨ao,cap,css,rfl,_⟩ u hu;simp at hu;subst hu;rfl
 grow:=by
  rintro w w' cs ds ⟨ao,cap,css,rfl,h1,h2,h3,h4,h5,h6⟩ g
  refine ⟨ao,cap,css,rfl,h1,h2,h3,h4,fun i hi hc=>V.grow (h5 i hi hc) g,fun hne=>?_⟩
  obtain ⟨b,off,e,hb,hcell⟩:=h6 hne
  refine ⟨b,off,e,?_,fun j u hj=>g.cell (hcell j u hj)⟩
  have:=g b hb
  rw [Array.getElem?_eq_getElem hb] at this
  exact (Array.getElem?_eq_some_iff.1 this).1
 toRd:=by
  rintro w fp cs ds (⟨rfl,rfl,rfl⟩|⟨b,cap,blk,css,fps,rfl,hb,h1,h2,h3,h4,rfl,h5,h6,h7⟩)
  ·exact ⟨none,0,[],rfl,Nat.le_refl _,Nat.zero_le _,fun _=>rfl,rfl,fun i hi=>absurd hi (by simp),fun h=>absurd rfl h⟩
  ·refine ⟨_,cap,css,rfl,h1,h2,(fun h=>by cases h),h5,fun i hi hc=>V.toRd (h7 i hi hc (by omega)),fun _=>⟨b,0,rfl,za hb,fun j u hj=>?_⟩⟩
   rw [zb hb,<- h4] at *
   rw [List.getElem?_take] at hj
   split at hj
   ·rw [Nat.zero_add]
    simpa using hj
   ·cases hj
 frame:=by
  rintro w w' fp cs ds (⟨rfl,rfl,rfl⟩|⟨b,cap,blk,css,fps,rfl,hb,h1,h2,h3,h4,rfl,h5,h6,h7⟩) g
  ·exact .inl ⟨rfl,rfl,rfl⟩
  ·refine .inr ⟨b,cap,blk,css,fps,rfl,(g b (by simp)).trans hb,h1,h2,h3,h4,rfl,h5,h6,fun i hi hc hf=>V.frame (h7 i hi hc hf) fun c hcb=>g c ?_⟩
   exact List.mem_cons_of_mem _ (List.mem_flatten.2 ⟨_,List.getElem_mem hf,hcb⟩)
 lt:=by
  rintro w fp cs ds (⟨rfl,rfl,rfl⟩|⟨b,cap,blk,css,fps,rfl,hb,h1,h2,h3,h4,rfl,h5,h6,h7⟩) c hc
  ·cases hc
  ·rcases List.mem_cons.1 hc with rfl|hc
   ·exact za hb
   ·obtain ⟨l,hl,hcl⟩:=List.mem_flatten.1 hc
    obtain ⟨i,hi,rfl⟩:=List.getElem_of_mem hl
    exact V.lt (h7 i (by omega) (by omega) hi) c hcl
section
variable {α : Type} {V:View α} {e:TypeId} {w:World} {v:Value} {ds:List α}
theorem vSlice.shape (h:(vSlice V e).rd w [v] ds):∃ ao cap,v=.slice ao ds.length cap/\ds.length<=cap/\cap<=maxLen/\(ao=none->cap=0) /\
  (∀ i (hi:i<ds.length),∃ b off cs,ao=some ⟨b,off,none⟩/\b<w.heap.size/\V.rd w cs ds[i]/\∀ j u,cs[j]?=some u->w.cell? ⟨b,off+i*V.k+j,none⟩=some u):=by
 obtain ⟨ao,cap,css,hv,h1,h2,h3,h4,h5,h6⟩:=h
 simp only [List.cons.injEq,and_true] at hv
 refine ⟨ao,cap,hv,h1,h2,h3,fun i hi=>?_⟩
 obtain ⟨b,off,ea,hb,hcell⟩:=h6 (by intro hz;subst hz;simp at hi)
 refine ⟨b,off,css[i],ea,hb,h5 i hi (by omega),fun j u hj=>?_⟩
 rw [Nat.add_assoc]
 exact hcell _ u (zj8 (fun i hc=>V.len (h5 i (by omega) hc)) i (by omega) j u hj)
end
end Go
namespace Go
open Go.RowKit
def vRow {α : Type} (row : α->List Value) (k:Nat) (ok : α->Prop) (hk:∀ d,(row d).length=k) (h1:∀ d,∀ u ∈ row d,u.oneCell'=true):View α where
 k:=k
 rd _ cs d:=cs=row d/\ok d
 own _ fp cs d:=fp = []/\cs=row d/\ok d
 len h:=by rw [h.1];exact hk _
 one h:=by rw [h.1];exact h1 _
 grow h _:=h
 toRd h:=h.2
 frame h _:=h
 lt h:=by rw [h.1];simp
def zkq:View ByteArray:=vRow (fun n=>[.string n]) 1 (fun s=>s.size<=9223372036854775807) (fun _=>rfl) (by simp [Value.oneCell'])
end Go
namespace Go.Proofs.YtpnoehpmgflibaaGreatDoor
open Go.RowKit
end Go.Proofs.YtpnoehpmgflibaaGreatDoor
namespace Go
open Go.RowKit
end Go
namespace Go
open Go.RowKit
theorem zhs {cs:Array Value} {n m p:Nat} {L:List Value} {v:Value} (h:cs.toList.take n=L) (hm:m=n) (hp:p=n+1) (hn:n<cs.size):(cs.setIfInBounds m v).toList.take p=L ++ [v]:=by
 subst hm hp
 exact zlG h hn
end Go
namespace Go
open Go.RowKit
theorem vSlice.form {α : Type} {V:View α} {e:TypeId} {w:World} {v:Value} {ds:List α} (h:(vSlice V e).rd w [v] ds):∃ ao cap,v=.slice ao ds.length cap:=by
 obtain ⟨ao,cap,rfl,_⟩:=vSlice.shape h
 exact ⟨ao,cap,rfl⟩
structure Sp (lo hi:Nat) (fp:List Nat):Prop where
 nodup:fp.Nodup
 lo:∀ b ∈ fp,lo<=b
 hi:∀ b ∈ fp,b<hi
theorem Sp.nil (lo hi:Nat):Sp lo hi []:=⟨List.nodup_nil,by simp,by simp⟩
theorem Sp.mono {lo hi lo' hi':Nat} {f:List Nat} (h:Sp lo hi f) (h0:lo'<=lo) (h1:hi<=hi'):Sp lo' hi' f :=
 ⟨h.nodup,fun b hb=>Nat.le_trans h0 (h.lo b hb),fun b hb=>Nat.lt_of_lt_of_le (h.hi b hb) h1⟩
def Pre (A B:Array Obj):Prop:=∃ R,B=A++R
theorem Pre.refl (A:Array Obj):Pre A A:=⟨#[],by simp⟩
theorem zdd (w:World) (X:Ext) {k:Nat} (h:w.heap.size<=k):(w.ext X).heap[k]?=X.bs[k - w.heap.size]?:=by
 show (w.heap++X.bs)[k]? = _
 rw [Array.getElem?_append_right h]
theorem zkU {a b:World} {A B:Array Obj} {d d':Nat} (hs:a.heap.size=b.heap.size) (hp:Pre A B) {k:Nat} (h1:a.heap.size<=k) (h2:k<(a.ext ⟨A,d⟩).heap.size):(b.ext ⟨B,d'⟩).heap[k]?=(a.ext ⟨A,d⟩).heap[k]?:=by
 obtain ⟨R,rfl⟩:=hp
 rw [zdd _ _ h1,zdd _ _ (by omega)]
 rw [zm] at h2
 simp only at h2 ⊢
 rw [Array.getElem?_append_left (by omega),hs]
structure RowsOwn {α : Type} (V:View α) (w:World) (css:List (List Value)) (fps:List (List Nat)) (ds:List α):Prop where
 cl:css.length=ds.length
 fl:fps.length=ds.length
 el:∀ i (hi:i<ds.length) (hc:i<css.length) (hf:i<fps.length),V.own w fps[i] css[i] ds[i]
theorem RowsOwn.nil {α : Type} (V:View α) (w:World):RowsOwn V w [] [] []:=⟨rfl,rfl,fun i hi=>absurd hi (by simp)⟩
theorem RowsOwn.frame {α : Type} {V:View α} {w w':World} {css:List (List Value)} {fps:List (List Nat)} {ds:List α} (h:RowsOwn V w css fps ds) (g:∀ b ∈ fps.flatten,w'.heap[b]?=w.heap[b]?):RowsOwn V w' css fps ds :=
 ⟨h.cl,h.fl,fun i hi hc hf=>V.frame (h.el i hi hc hf) fun b hb=>g b (List.mem_flatten.2 ⟨_,List.getElem_mem hf,hb⟩)⟩
theorem RowsOwn.lt {α : Type} {V:View α} {w:World} {css:List (List Value)} {fps:List (List Nat)} {ds:List α} (h:RowsOwn V w css fps ds):∀ b ∈ fps.flatten,b<w.heap.size:=by
 intro b hb
 obtain ⟨l,hl,hbl⟩:=List.mem_flatten.1 hb
 obtain ⟨i,hi,rfl⟩:=List.getElem_of_mem hl
 exact V.lt (h.el i (by have:=h.fl;omega) (by have:=h.fl;have:=h.cl;omega) hi) b hbl
theorem RowsOwn.tail {α : Type} {V:View α} {a b:World} {A B:Array Obj} {d d':Nat} {css:List (List Value)} {fps:List (List Nat)} {ds:List α} (h:RowsOwn V (a.ext ⟨A,d⟩) css fps ds) (lo:∀ k ∈ fps.flatten,a.heap.size<=k) (hs:a.heap.size=b.heap.size) (hp:Pre A B) :
  RowsOwn V (b.ext ⟨B,d'⟩) css fps ds:=h.frame fun k hk=>zkU hs hp (lo k hk) (h.lt k hk)
end Go
namespace Go.Proofs.YtpnoehpmgflibaaGreatDoor
open Go.ChangeShapes Go.WideShapes Go.ChangeAt Go.RowKit
theorem zeK {P:Program} {f:FuncId} {args:Array Value} {w:World} {X:Ext} {n:Nat} {v:Value} (h:Calls P f args (w.ext ⟨X.bs,X.dr+n⟩) fun e w'=>e=.returned v/\w'=w.ext ⟨X.bs,X.dr+n⟩) :
  Calls P f args (w.ext ⟨X.bs,X.dr+n⟩) fun e w''=>e=.returned v/\∃ m,w''=(w.ext X).drewN m:=h.mono fun _ _ ⟨a,b⟩=>⟨a,n,b⟩
def inB (n lo hi:Int):Bool:=decide (lo<=n) && decide (n<=hi)
theorem zM (n lo hi:Int) (w:World) :
  Calls Tryz.prog 59 #[.int .i64 n,.int .i64 lo,.int .i64 hi] w fun e w'=>e=.returned (.bool (inB n lo hi))/\w'=w:=by
 by_cases h1:lo<=n
 ·by_cases h2:n<=hi
  ·have hq:inB n lo hi=true:=by unfold inB;rw [decide_eq_true h1,decide_eq_true h2];rfl
   rw [hq]
   clear hq
   go_enter Tryz.func59,Tryz.ntmps59
   go_wp2
   go_ret
   exact ⟨rfl,rfl⟩
  ·have hq:inB n lo hi=false:=by unfold inB;rw [decide_eq_true h1,decide_eq_false h2];rfl
   rw [hq]
   clear hq
   go_enter Tryz.func59,Tryz.ntmps59
   go_wp2
   go_ret
   exact ⟨rfl,rfl⟩
 ·have hq:inB n lo hi=false:=by unfold inB;rw [decide_eq_false h1];rfl
  rw [hq]
  clear hq
  go_enter Tryz.func59,Tryz.ntmps59
  go_wp2
  go_ret
  exact ⟨rfl,rfl⟩
theorem zag (n lo hi:Int) (w:World) :
  Calls Tryz.prog 140 #[.int .i64 n,.int .i64 lo,.int .i64 hi] w fun e w'=>e=.returned (.bool (inB n lo hi))/\w'=w:=by
 by_cases h1:lo<=n
 ·by_cases h2:n<=hi
  ·have hq:inB n lo hi=true:=by unfold inB;rw [decide_eq_true h1,decide_eq_true h2];rfl
   rw [hq]
   clear hq
   go_enter Tryz.func140,Tryz.ntmps140
   go_wp2
   go_ret
   exact ⟨rfl,rfl⟩
  ·have hq:inB n lo hi=false:=by unfold inB;rw [decide_eq_true h1,decide_eq_false h2];rfl
   rw [hq]
   clear hq
   go_enter Tryz.func140,Tryz.ntmps140
   go_wp2
   go_ret
   exact ⟨rfl,rfl⟩
 ·have hq:inB n lo hi=false:=by unfold inB;rw [decide_eq_false h1];rfl
  rw [hq]
  clear hq
  go_enter Tryz.func140,Tryz.ntmps140
  go_wp2
  go_ret
  exact ⟨rfl,rfl⟩
def zbe (c:UInt8):Bool:=inB (c.toNat:Int) 33 126 && !((c.toNat:Int)==42)
def zbc (s:ByteArray):Bool:=s.data.toList.all zbe && inB (s.size:Int) 1 40
theorem zdG (s:ByteArray) (n:Nat) (h:(s.data.toList.take n).all zbe=false):zbc s=false:=by
 unfold zbc
 have:s.data.toList.all zbe=false:=by
  cases hp:s.data.toList.all zbe with
  | false=>rfl
  | true =>
   rw [List.all_eq_true] at hp
   have:(s.data.toList.take n).all zbe=true:=by
    rw [List.all_eq_true]
    exact fun x hx=>hp x (List.mem_of_mem_take hx)
   rw [this] at h
   cases h
 rw [this]
 rfl
theorem zb7 (s:ByteArray) (w:World) (hs:s.size<=9223372036854775807) :
  Calls Tryz.prog 58 #[.string s] w fun e w'=>e=.returned (.bool (zbc s))/\w'=w:=by
 go_enter Tryz.func58,Tryz.ntmps58
 go_wp2
 go_loopw [3] (fun k wr=>∃ (n:Nat),k=.int .i64 n/\n<=s.size/\wr=w/\(s.data.toList.take n).all zbe=true) (fun k _=>s.size - (intOf k).toNat)
 case atStart=>exact ⟨0,rfl,by omega,rfl,rfl⟩
 case round =>
  obtain ⟨n,rfl,hn,rfl,hall⟩:=hrel
  have HA:=Hd hall
  clear hall
  by_cases hlt:(n:Int)<s.size
  case pos =>
   have hk:n<s.size:=by omega
   have hst:=zdh s n hk
   have HS:=Hd hst
   clear hst
   have hc0 : 0<=(s[n].toNat:Int):=by omega
   have hc1:(s[n].toNat:Int)<=255:=by have:=s[n].toNat_lt;omega
   have hob:zbe s[n]=zbe s[n]:=rfl
   conv at hob=>rhs;unfold zbe
   by_cases f1:(s[n].toNat:Int)<33
   case pos =>
    have HB:Hid (zbe s[n]=false):=by show _=false;rw [hob];unfold inB;simp;omega
    clear hob
    have HI:Hid (inB (s[n].toNat:Int) 33 126=false):=by show _ = _;unfold inB;simp;omega
    go_wp2_with fail
    (go_at_call 59;refine (zM _ _ _ _).mono ?_;rintro e w' ⟨rfl,rfl⟩)
    rw [HI.out]
    go_wp2
    go_ret
    exact ⟨by rw [zdG s (n+1) (by rw [HS.out,List.all_append];simp [HB.out])];rfl,rfl⟩
   by_cases f2 : 126<(s[n].toNat:Int)
   case pos =>
    have HB:Hid (zbe s[n]=false):=by show _=false;rw [hob];unfold inB;simp;omega
    clear hob
    have HI:Hid (inB (s[n].toNat:Int) 33 126=false):=by show _ = _;unfold inB;simp;omega
    go_wp2_with fail
    (go_at_call 59;refine (zM _ _ _ _).mono ?_;rintro e w' ⟨rfl,rfl⟩)
    rw [HI.out]
    go_wp2
    go_ret
    exact ⟨by rw [zdG s (n+1) (by rw [HS.out,List.all_append];simp [HB.out])];rfl,rfl⟩
   by_cases f3:(s[n].toNat:Int)=42
   case pos =>
    have HB:Hid (zbe s[n]=false):=by show _=false;rw [hob];unfold inB;simp;omega
    clear hob
    have f4:((s[n].toNat:Int)==42)=true:=by simp [f3]
    have HI:Hid (inB (s[n].toNat:Int) 33 126=true):=by show _ = _;unfold inB;simp;omega
    go_wp2_with fail
    (go_at_call 59;refine (zM _ _ _ _).mono ?_;rintro e w' ⟨rfl,rfl⟩)
    rw [show inB 42 33 126=true from rfl]
    go_wp2
    go_ret
    exact ⟨by rw [zdG s (n+1) (by rw [HS.out,List.all_append];simp [HB.out])];rfl,rfl⟩
   have HB:Hid (zbe s[n]=true):=by show _=true;rw [hob];unfold inB;simp;omega
   clear hob
   have f4:((s[n].toNat:Int)==42)=false:=by simp [f3]
   have HI:Hid (inB (s[n].toNat:Int) 33 126=true):=by show _ = _;unfold inB;simp;omega
   go_wp2_with fail
   (go_at_call 59;refine (zM _ _ _ _).mono ?_;rintro e w' ⟨rfl,rfl⟩)
   rw [HI.out]
   go_wp2
   go_roundw
   case rel=>exact ⟨n+1,by go_num,by omega,trivial,by rw [HS.out,List.all_append,HA.out];simp [HB.out]⟩
   case measure=>simp [intOf];omega
  case neg =>
   have e:n=s.size:=by omega
   subst e
   have ha:=HA.out
   rw [List.take_of_length_le (by simp)] at ha
   have HF:Hid (zbc s=inB s.size 1 40):=by show zbc s = _;unfold zbc;rw [ha];rfl
   go_wp2_with fail
   (go_at_call 59;refine (zM _ _ _ _).mono ?_;rintro e w' ⟨rfl,rfl⟩)
   go_wp2
   go_ret
   exact ⟨by rw [HF.out];rfl,rfl⟩
theorem zcV (s:ByteArray) (w:World) (hs:s.size<=9223372036854775807) :
  Calls Tryz.prog 106 #[.string s] w fun e w'=>e=.returned (.bool (zbc s))/\w'=w:=by
 go_enter Tryz.func106,Tryz.ntmps106
 go_wp2
 go_loopw [6] (fun k wr=>∃ (n:Nat),k=.int .i64 n/\n<=s.size/\wr=w/\(s.data.toList.take n).all zbe=true) (fun k _=>s.size - (intOf k).toNat)
 case atStart=>exact ⟨0,rfl,by omega,rfl,rfl⟩
 case round =>
  obtain ⟨n,rfl,hn,rfl,hall⟩:=hrel
  have HA:=Hd hall
  clear hall
  by_cases hlt:(n:Int)<s.size
  case pos =>
   have hk:n<s.size:=by omega
   have hst:=zdh s n hk
   have HS:=Hd hst
   clear hst
   have hc0 : 0<=(s[n].toNat:Int):=by omega
   have hc1:(s[n].toNat:Int)<=255:=by have:=s[n].toNat_lt;omega
   have hob:zbe s[n]=zbe s[n]:=rfl
   conv at hob=>rhs;unfold zbe
   by_cases f1:(s[n].toNat:Int)<33
   case pos =>
    have HB:Hid (zbe s[n]=false):=by show _=false;rw [hob];unfold inB;simp;omega
    clear hob
    have HI:Hid (inB (s[n].toNat:Int) 33 126=false):=by show _ = _;unfold inB;simp;omega
    go_wp2
    go_ret
    exact ⟨by rw [zdG s (n+1) (by rw [HS.out,List.all_append];simp [HB.out])];rfl,rfl⟩
   by_cases f2 : 126<(s[n].toNat:Int)
   case pos =>
    have HB:Hid (zbe s[n]=false):=by show _=false;rw [hob];unfold inB;simp;omega
    clear hob
    have HI:Hid (inB (s[n].toNat:Int) 33 126=false):=by show _ = _;unfold inB;simp;omega
    go_wp2
    go_ret
    exact ⟨by rw [zdG s (n+1) (by rw [HS.out,List.all_append];simp [HB.out])];rfl,rfl⟩
   by_cases f3:(s[n].toNat:Int)=42
   case pos =>
    have HB:Hid (zbe s[n]=false):=by show _=false;rw [hob];unfold inB;simp;omega
    clear hob
    have f4:((s[n].toNat:Int)==42)=true:=by simp [f3]
    have HI:Hid (inB (s[n].toNat:Int) 33 126=true):=by show _ = _;unfold inB;simp;omega
    go_wp2
    go_ret
    exact ⟨by rw [zdG s (n+1) (by rw [HS.out,List.all_append];simp [HB.out])];rfl,rfl⟩
   have HB:Hid (zbe s[n]=true):=by show _=true;rw [hob];unfold inB;simp;omega
   clear hob
   have f4:((s[n].toNat:Int)==42)=false:=by simp [f3]
   have HI:Hid (inB (s[n].toNat:Int) 33 126=true):=by show _ = _;unfold inB;simp;omega
   go_wp2
   go_roundw
   case rel=>exact ⟨n+1,by go_num,by omega,trivial,by rw [HS.out,List.all_append,HA.out];simp [HB.out]⟩
   case measure=>simp [intOf];omega
  case neg =>
   have e:n=s.size:=by omega
   subst e
   have ha:=HA.out
   rw [List.take_of_length_le (by simp)] at ha
   have HF:Hid (zbc s=inB s.size 1 40):=by show zbc s = _;unfold zbc;rw [ha];rfl
   go_wp2_with fail
   (go_at_call 140;refine (zag _ _ _ _).mono ?_;rintro e w' ⟨rfl,rfl⟩)
   go_wp2
   go_ret
   exact ⟨by rw [HF.out];rfl,rfl⟩
end Go.Proofs.YtpnoehpmgflibaaGreatDoor
namespace Go
open Go.RowKit
structure Upon (fp:List Nat) (w w':World):Prop where
 os:w'.os=w.os
 tape:w'.tape=w.tape
 output:w'.output=w.output
 size:w.heap.size<=w'.heap.size
 block:∀ b,b<w.heap.size->b ∉ fp->w'.heap[b]?=w.heap[b]?
theorem Upon.refl (fp:List Nat) (w:World):Upon fp w w:=⟨rfl,rfl,rfl,Nat.le_refl _,fun _ _ _=>rfl⟩
theorem Upon.trans {fp:List Nat} {a b c:World} (h:Upon fp a b) (h':Upon fp b c):Upon fp a c :=
 ⟨h'.os.trans h.os,h'.tape.trans h.tape,h'.output.trans h.output,Nat.le_trans h.size h'.size,fun k hk hn=>(h'.block k (Nat.lt_of_lt_of_le hk h.size) hn).trans (h.block k hk hn)⟩
theorem Upon.mono {fp fp':List Nat} {a b:World} (h:Upon fp a b) (hs:∀ x ∈ fp,x ∈ fp'):Upon fp' a b :=
 ⟨h.os,h.tape,h.output,h.size,fun k hk hn=>h.block k hk (fun hx=>hn (hs k hx))⟩
theorem Upon.below {fp:List Nat} {a b:World} (h:Below a.heap.size a b):Upon fp a b:=⟨h.os,h.tape,h.output,h.size,fun k hk _=>h.block k hk⟩
theorem Upon.setB {fp:List Nat} (w:World) {b:Nat} (o:Obj) (hb:b ∈ fp):Upon fp w (w.setB b o) :=
 ⟨rfl,rfl,rfl,by rw [zd];exact Nat.le_refl _,fun k _ hn=>World.setB_get w b o k (fun e=>hn (e ▸ hb))⟩
theorem Upon.setBExt {fp:List Nat} (w:World) {b:Nat} (o:Obj) (X:Ext) (hb:b ∈ fp):Upon fp w ((w.setB b o).ext X) :=
 (Upon.setB w o hb).trans (Upon.below (((Below.refl _ _)).ofExt X))
end Go
namespace Go.Proofs.YtpnoehpmgflibaaGreatDoor
open Go.ChangeShapes Go.WideShapes Go.ChangeAt Go.RowKit
def marks {α : Type} (mk:Int->α) (c:Nat) (k:Int) (n:Nat):List α:=(List.range n).map fun i=>mk (k+(c*i:Nat))
structure CellD where
 key:ByteArray
 val:ByteArray
def CellD.row (d:CellD):List Value:=[.string d.key,.string d.val]
def CellD.ok (d:CellD):Prop:=d.key.size<=9223372036854775807/\d.val.size<=9223372036854775807
def vCell:View CellD:=vRow CellD.row 2 CellD.ok (fun _=>rfl) (fun d u hu=>by simp [CellD.row] at hu;rcases hu with rfl|rfl<;>rfl)
theorem zE:Elem Tryz.prog 24 47 2 32:=Elem.of (.agg #[.string ⟨#[]⟩,.string ⟨#[]⟩]) Tryz.underlying24 (by kernel_rfl) rfl (by decide)
theorem zb1:∀ l:List UInt8,Op.bytesLess l l=false
 | []=>rfl
 | x :: l=>by
  simp only [Op.bytesLess,zb1 l,Bool.and_false,Bool.or_false]
  exact decide_eq_false (UInt8.lt_irrefl x)
theorem zck:∀ (a b:List UInt8),(Op.bytesLess a b || a==b) = !Op.bytesLess b a
 | [],[]=>rfl
 | [],_ :: _=>rfl
 | _ :: _,[]=>rfl
 | x :: a,y :: b=>by
  have ih:=zck a b
  simp only [Op.bytesLess]
  by_cases h:x=y
  ·subst h
   have hn:¬ x<x:=UInt8.lt_irrefl x
   have e:(x :: a==x :: b)=(a==b):=by simp [List.cons_beq_cons]
   rw [e,decide_eq_false hn]
   simpa using ih
  ·have e:(x :: a==y :: b)=false:=by simp [h]
   have e2:(x==y)=false:=by simp [h]
   have e3:(y==x)=false:=by simp [Ne.symm h]
   rw [e,e2,e3]
   have:¬ x.toNat=y.toNat:=fun q=>h (UInt8.toNat_inj.1 q)
   by_cases hl:x<y
   ·have hn:¬ y<x:=by rw [UInt8.lt_iff_toNat_lt] at hl ⊢;omega
    simp [hl,hn]
   ·have hn:y<x:=by rw [UInt8.lt_iff_toNat_lt] at hl ⊢;omega
    simp [hl,hn]
def z6 (key:ByteArray) (c:CellD):Bool:=c.key.toList==key.toList
def zaa (key:ByteArray) (c:CellD):Bool:=Op.bytesLess key.toList c.key.toList
theorem zdu {key:ByteArray} {c:CellD} (h:zaa key c=true):z6 key c=false:=by
 cases hk:z6 key c with
 | false=>rfl
 | true =>
  unfold z6 at hk
  unfold zaa at h
  rw [eq_of_beq hk,zb1] at h
  cases h
theorem zl7 {key:ByteArray} {c:CellD} (h:zaa key c=true):Op.bytesLess c.key.toList key.toList=false:=by
 have:=zck c.key.toList key.toList
 unfold zaa at h
 rw [h,Bool.not_true,Bool.or_eq_false_iff] at this
 exact this.1
theorem zi9 {key:ByteArray} {c:CellD} (h:z6 key c=true):Op.bytesLess c.key.toList key.toList=false:=by
 unfold z6 at h
 rw [eq_of_beq h]
 exact zb1 _
theorem zhI {key:ByteArray} {c:CellD} (h:zaa key c=false) (hk:z6 key c=false):Op.bytesLess c.key.toList key.toList=true:=by
 have:=zck c.key.toList key.toList
 unfold zaa at h
 unfold z6 at hk
 rwa [h,hk,Bool.or_false,Bool.not_false] at this
def zB (key:ByteArray) (xs:List CellD):List CellD:=xs.filter fun c=>!z6 key c
def zfN (key val:ByteArray) (ys:List CellD):List CellD:=(ys.takeWhile fun c=>!zaa key c)++⟨key,val⟩ :: (ys.dropWhile fun c=>!zaa key c)
def zbM (key val:ByteArray) (xs:List CellD):List CellD :=
 if zbc key=false ∨ 60<val.size then xs else if val.size=0 then zB key xs else zfN key val (zB key xs)
def zcI (key val:ByteArray) (zs:List CellD):List CellD:=if zs.any (zaa key) then zfN key val (zB key zs) else zB key zs
theorem zaR (key:ByteArray) (zs:List CellD) (c:CellD):zB key (zs ++ [c])=zB key zs++(if z6 key c then [] else [c]):=by
 unfold zB
 rw [List.filter_append]
 congr 1
 cases hk:z6 key c<;>simp [hk]
theorem zeb (key:ByteArray) (zs:List CellD):(zB key zs).any (zaa key)=zs.any (zaa key):=by
 unfold zB
 rw [List.any_filter]
 induction zs with
 | nil=>rfl
 | cons c zs ih =>
  rw [List.any_cons,List.any_cons,ih]
  congr 1
  cases hg:zaa key c with
  | false=>exact Bool.and_false _
  | true=>rw [zdu hg];rfl
theorem zcD {α : Type} (p : α->Bool):∀ l:List α,l.any p=false->(l.takeWhile fun c=>!p c)=l/\(l.dropWhile fun c=>!p c) = []
 | [],_=>⟨rfl,rfl⟩
 | x :: l,h=>by
  rw [List.any_cons,Bool.or_eq_false_iff] at h
  obtain ⟨h1,h2⟩:=zcD p l h.2
  simp [List.takeWhile_cons,List.dropWhile_cons,h.1,h1,h2]
theorem zdV {α : Type} (p : α->Bool) (c : α):∀ l:List α,l.any p=true->((l ++ [c]).takeWhile fun c=>!p c)=(l.takeWhile fun c=>!p c)/\((l ++ [c]).dropWhile fun c=>!p c)=(l.dropWhile fun c=>!p c) ++ [c]
 | [],h=>by cases h
 | x :: l,h=>by
  cases hp:p x with
  | true =>
   simp [List.takeWhile_cons,List.dropWhile_cons,hp]
  | false =>
   rw [List.any_cons,hp,Bool.false_or] at h
   obtain ⟨h1,h2⟩:=zdV p c l h
   simp [List.takeWhile_cons,List.dropWhile_cons,hp,h1,h2]
theorem zji {key val:ByteArray} {ys:List CellD} (h:ys.any (zaa key)=false):zfN key val ys=ys ++ [⟨key,val⟩]:=by
 unfold zfN
 obtain ⟨h1,h2⟩:=zcD (zaa key) ys h
 rw [h1,h2]
theorem zmd {key val:ByteArray} {ys:List CellD} (c:CellD) (h:ys.any (zaa key)=true):zfN key val (ys ++ [c])=zfN key val ys ++ [c]:=by
 unfold zfN
 obtain ⟨h1,h2⟩:=zdV (zaa key) c ys h
 rw [h1,h2,List.append_assoc,List.cons_append]
theorem zjR {key val:ByteArray} {zs:List CellD} {c:CellD} (h:zs.any (zaa key)=false) (hg:zaa key c=true):zcI key val (zs ++ [c])=(zcI key val zs ++ [⟨key,val⟩]) ++ [c]:=by
 unfold zcI
 rw [List.any_append,h,if_pos (by simp [hg]),if_neg (by simp),zaR,zdu hg,if_neg (by simp)]
 have h':(zB key zs).any (zaa key)=false:=by rw [zeb];exact h
 unfold zfN
 obtain ⟨h1,h2⟩:=zcD (zaa key) _ h'
 rw [List.takeWhile_append_of_pos,List.dropWhile_append_of_pos]
 ·simp [List.takeWhile_cons,List.dropWhile_cons,hg]
 ·intro x hx
  rw [List.any_eq_false] at h'
  simpa using h' x hx
 ·intro x hx
  rw [List.any_eq_false] at h'
  simpa using h' x hx
theorem zhC {key val:ByteArray} {zs:List CellD} {c:CellD} (hk:z6 key c=true):zcI key val (zs ++ [c])=zcI key val zs:=by
 have hg:zaa key c=false:=by
  cases hg:zaa key c with
  | false=>rfl
  | true=>rw [zdu hg] at hk;cases hk
 unfold zcI
 rw [List.any_append,zaR,hk,if_pos rfl,List.append_nil]
 simp [hg]
theorem zeh {key val:ByteArray} {zs:List CellD} {c:CellD} (hk:z6 key c=false) (h:zs.any (zaa key)=true ∨ zaa key c=false):zcI key val (zs ++ [c])=zcI key val zs ++ [c]:=by
 have e:zB key (zs ++ [c])=zB key zs ++ [c]:=by rw [zaR,hk];rfl
 have ea:(zs ++ [c]).any (zaa key)=(zs.any (zaa key) || zaa key c):=by simp [List.any_append]
 unfold zcI
 rw [e,ea]
 cases hz:zs.any (zaa key) with
 | true =>
  rw [if_pos (by simp),if_pos rfl]
  exact zmd c (by rw [zeb];exact hz)
 | false =>
  rcases h with h|h
  ·rw [hz] at h;cases h
  ·rw [h]
   rfl
theorem zlV {key val:ByteArray} {zs:List CellD}:(if zs.any (zaa key) then zcI key val zs else zcI key val zs ++ [⟨key,val⟩])=zfN key val (zB key zs):=by
 unfold zcI
 cases hz:zs.any (zaa key) with
 | true=>simp
 | false =>
  simp only [Bool.false_eq_true,if_false]
  exact (zji (by rw [zeb];exact hz)).symm
theorem zea (key:ByteArray) (xs:List CellD):(zB key xs).length<=xs.length:=List.length_filter_le _ _
theorem insC_len (key val:ByteArray) (ys:List CellD):(zfN key val ys).length=ys.length+1:=by
 unfold zfN
 have:=congrArg List.length (List.takeWhile_append_dropWhile (p:=fun c=>!zaa key c) (l:=ys))
 rw [List.length_append] at this ⊢
 rw [List.length_cons]
 omega
theorem zlU (key val:ByteArray) (zs:List CellD):(zcI key val zs).length<=zs.length+1:=by
 unfold zcI
 have:=zea key zs
 split
 ·rw [insC_len];omega
 ·omega
theorem zew:∀ d:CellD,∀ u ∈ CellD.row d,u.oneCell'=true:=fun d u hu=>by simp [CellD.row] at hu;rcases hu with rfl|rfl<;>rfl
def zu:RowOf CellD:=⟨CellD.row,2,fun _=>rfl,zew⟩
theorem zgV (v:Value) (xs:List CellD) (w:World) (hs:RdL zu w v xs) (hl:xs.length<=1099511627776) :
  Calls Tryz.prog 47 #[v] w fun e w'=>∃ v',e=.returned v'/\OwnL zu 47 w' w.heap.size v' xs/\Below w.heap.size w w':=by
 obtain ⟨ao,cap,rfl,hc1,hc2,hnil,hne⟩:=hs.shape
 have HS:=Hd hs
 clear hs hne
 have qT:∀ (w:World) (a:Option Addr) (n c n' c':Nat),(binOp .eql 24 (.slice a n c) (.slice none n' c')).run Tryz.prog w=.ok (.bool a.isNone) w:=fun w a n c n' c'=>Lib.run_eql_slice_nil w _ _ a n c n' c' Tryz.underlying24
 cases ao with
 | none =>
  obtain ⟨rfl,rfl⟩:=hnil rfl
  go_enter Tryz.func47,Tryz.ntmps47
  go_wp2
  go_ret
  exact ⟨_,rfl,OwnL.nil zu _ _ _,(by repeat (first|with_reducible exact Below.refl _ _|with_reducible apply Below.ofExt|with_reducible apply Below.ofAlloc|with_reducible apply Below.drew|with_reducible apply Below.ofDrewN|with_reducible assumption|(with_reducible refine Below.setCell ?_ (by first|exact Nat.le_refl _|(simp [go_sem];done)|(simp [go_sem];omega)) _)))⟩
 | some a =>
  clear hnil
  go_enter Tryz.func47,Tryz.ntmps47
  go_wp2_with (at_builtin;refine zA ?_)
  refine zI rfl _ _ _ rfl (R:=zu) (e:=47) zE (B:=w.heap.size) (OwnL.empty zu _ w) rfl (HS.out.alloc _) rfl (by simp only [List.length_nil];omega) (by simp only [List.length_nil];unfold maxLen;omega) (by simp) ?_
  intro v4 w4 hown4 hgr4 _
  have hb4:Below w.heap.size w w4:=Below.appL (a:=w) (R:=zu) (e:=47) (by repeat (first|with_reducible exact Below.refl _ _|with_reducible apply Below.ofAlloc)) hgr4 (OwnL.empty zu _ w)
  go_wp2
  go_ret
  exact ⟨_,rfl,hown4,hb4⟩
theorem zax {α : Type} (p : α->Bool) (xs:List α) (n:Nat) (h:n<xs.length):(xs.take (n+1)).any p=((xs.take n).any p || p xs[n]):=by
 simp only [List.take_succ_eq_append_getElem h,List.any_append,List.any_cons,List.any_nil,Bool.or_false]
theorem zbG {α : Type} (p : α->Bool) (xs:List α) (n:Nat) (h:(xs.take n).any p=true):xs.any p=true:=by
 rw [List.any_eq_true] at h ⊢
 obtain ⟨x,hx,hp⟩:=h
 exact ⟨x,List.mem_of_mem_take hx,hp⟩
def zaw {α : Type} (p : α->Bool) (ds:List α):Int:=if ds.any p then ds.findIdx p else -1
theorem zaI {α : Type} (p : α->Bool) (ds:List α) (h:ds.any p=false):zaw p ds = -1:=by unfold zaw;rw [h];rfl
theorem zaE {α : Type} (p : α->Bool) (ds:List α) (n:Nat) (hn:n<ds.length) (h:(ds.take n).any p=false) (h2:p ds[n]=true):zaw p ds=n:=by
 have ha:ds.any p=true:=zbG p ds (n+1) (by rw [zax p ds n hn,h2,Bool.or_true])
 unfold zaw
 rw [if_pos ha]
 congr 1
 rw [List.findIdx_eq hn]
 refine ⟨h2,fun j hj=>?_⟩
 cases hp:p ds[j] with
 | false=>rfl
 | true =>
  rw [List.any_eq_false] at h
  exact absurd hp (h _ (by rw [List.mem_take_iff_getElem];exact ⟨j,by omega,rfl⟩))
end Go.Proofs.YtpnoehpmgflibaaGreatDoor
