/- Texts of this claim, merged: the walks and what they stand on. Each condition stands in its theorem. -/
import Derived.Maps.Own
import Derived.Maps.OwnSet
import Derived.Maps.RangeWalk
import Derived.Maps.StringElems
import Derived.Shelf.SlGeneric
import Derived.Shelf.SlIter.Nil
import Derived.Shelf.SortM.Plain
import Derived.Shelf.SortM.SortNone
import Derived.Test.YtgcmnkkakngifaaGreatDoorProg
import Derived.Test.YtgcmnkkakngifaaGreatDoorSR1
set_option linter.unusedVariables false
set_option linter.unusedSimpArgs false
set_option maxRecDepth 100000
set_option maxHeartbeats 8000000
namespace Go.Proofs.YtgcmnkkakngifaaGreatDoor
open Go.ChangeShapes Go.WideShapes Go.ChangeAt Go.RowKit
theorem bl (s:ByteArray):s.toList=s.data.toList:=ByteArray.toList_eq s
def kS (s:ByteArray):Lit:=.string s.data.toList
theorem kS_lit (s:ByteArray):WideAt.IsKeyLit (kS s):=by simp [kS,WideAt.IsKeyLit]
theorem isKey_iff {key:ByteArray} {c:CellD}:zY key c=true ↔ c.key=key:=by
 unfold zY
 rw [beq_iff_eq,bl,bl]
 constructor
 ·intro h
  exact ByteArray.ext (Array.toList_inj.1 h)
 ·intro h
  rw [h]
theorem kS_inj {a b:ByteArray} (h:kS a=kS b):a=b:=by
 unfold kS at h
 injection h with h
 exact ByteArray.ext (Array.toList_inj.1 h)
theorem getC_snoc (key:ByteArray) (zs:List CellD) (c:CellD):zeF key (zs ++ [c])=if zs.any (zY key) then zeF key zs else if zY key c then c.val else ⟨#[]⟩:=by
 unfold zeF
 rw [List.find?_append]
 cases ha:zs.any (zY key) with
 | true =>
  rw [List.any_eq_true] at ha
  obtain ⟨x,hx,hp⟩:=ha
  have:(zs.find? (zY key)).isSome=true:=by rw [List.find?_isSome];exact ⟨x,hx,hp⟩
  obtain ⟨y,hy⟩:=Option.isSome_iff_exists.1 this
  rw [hy]
  rfl
 | false =>
  have:zs.find? (zY key)=none:=List.find?_eq_none.2 (fun x hx=>by rw [List.any_eq_false] at ha;exact ha x hx)
  rw [this]
  cases hk:zY key c with
  | true=>simp [List.find?_cons,hk]
  | false=>simp [List.find?_cons,hk]
structure VOf (D:DataW Unit) (zs:List CellD):Prop where
 at_:∀ key:ByteArray,D.atKey (kS key) (.lit (.string [])) = .lit (.string (zeF key zs).data.toList)
 has_:∀ key:ByteArray,Maps.has D (kS key)=zs.any (zY key)
theorem VOf.start:VOf (.map []) []:=⟨fun _=>rfl,fun _=>rfl⟩
theorem VOf.skip {D:DataW Unit} {zs:List CellD} {c:CellD} (h:VOf D zs) (hc:zs.any (zY c.key)=true):VOf D (zs ++ [c]):=by
 have e:∀ key,zY key c=true->zs.any (zY key)=true:=fun key hk=>by
  rw [<- isKey_iff.1 hk];exact hc
 refine ⟨fun key=>?_,fun key=>?_⟩
 ·rw [h.at_,getC_snoc]
  cases ha:zs.any (zY key) with
  | true=>rfl
  | false =>
   cases hk:zY key c with
   | true=>rw [e key hk] at ha;cases ha
   | false=>rw [zhz key zs ha];rfl
 ·rw [h.has_,List.any_append]
  cases hk:zY key c with
  | true=>rw [e key hk];rfl
  | false=>simp [hk]
theorem VOf.put {D:DataW Unit} {zs:List CellD} {c:CellD} (h:VOf D zs) (hm:Maps.IsMap D) (hc:zs.any (zY c.key)=false):VOf (D.put (kS c.key) (.lit (.string c.val.data.toList))) (zs ++ [c]):=by
 refine ⟨fun key=>?_,fun key=>?_⟩
 ·rw [getC_snoc]
  cases hk:zY key c with
  | true =>
   have e:=isKey_iff.1 hk
   subst e
   rw [Maps.atKey_put_same hm (kS_lit _),hc]
   rfl
  | false =>
   have hne:kS key ≠ kS c.key:=fun e=>by
    have:=isKey_iff.2 (kS_inj e).symm
    rw [this] at hk;cases hk
   rw [Maps.atKey_put_other hne,h.at_]
   cases ha:zs.any (zY key) with
   | true=>rfl
   | false=>rw [zhz key zs ha];rfl
 ·rw [List.any_append]
  cases hk:zY key c with
  | true =>
   have e:=isKey_iff.1 hk
   subst e
   rw [Maps.has_put_same hm (kS_lit _)]
   simp [hk]
  | false =>
   have hne:kS key ≠ kS c.key:=fun e=>by
    have:=isKey_iff.2 (kS_inj e).symm
    rw [this] at hk;cases hk
   rw [Maps.has_put_other hne,h.has_]
   simp [hk]
theorem zeroS (w:World):(zeroValue 9).run Tryz.prog w = .ok (.string ⟨#[]⟩) w:=Tryz.zeroValue9 w
theorem below_grown {w w':World} {b B:Nat} (h:w.grownBy w' (some b)) (hb:B<=b) (hB:B<=w.heap.size):Below B w w':=⟨h.os,h.tape,h.output,h.size,fun k hk=>h.block k (by omega) (fun e=>by simp only [Option.some.injEq] at e;omega)⟩
theorem impl_valuesOf (v:Value) (ds:List CellD) (w:World) (hs:RdL zu w v ds) (hok:∀ c ∈ ds,c.ok) (hl:ds.length<=549755813888) :
  Calls Tryz.prog 163 #[v] w fun e w'=>∃ (b:Nat),e = .returned (.map (some b))/\w.heap.size<=b/\∃ (D:DataW Unit),w'.ownsMap Tryz.prog 9 (plainElem (H:=Unit) Tryz.prog 9) b ds.length D/\VOf D ds/\Below w.heap.size w w':=by
 obtain ⟨ao,cap,rfl,hc1,hc2,hnil,hne⟩:=hs.shape
 have HX:=Lib.hid hne
 have HOK:=Lib.hid hok
 clear hs hne hnil hok
 unfold maxLen at hc2
 have hmm:=@run_makeMap Tryz.prog
 go_enter Tryz.func163,Tryz.ntmps163
 go_wp2
 clear hmm
 go_loopw [11] (fun k wr=>∃ (n:Nat) (D:DataW Unit),k = .int .i64 n/\n<=ds.length/\wr.ownsMap Tryz.prog 9 (plainElem (H:=Unit) Tryz.prog 9) w.heap.size n D/\VOf D (ds.take n)/\Below w.heap.size w wr) (fun k _=>ds.length - (intOf k).toNat)
 case atStart=>exact ⟨0,_,rfl,by omega,World.ownsMap_made _ _ _ _,VOf.start,(by repeat (first|with_reducible exact Below.refl _ _|with_reducible apply Below.ofAlloc))⟩
 case round =>
  obtain ⟨n,D,rfl,hn,hown,hD,hbel⟩:=hrel
  obtain ⟨X,rfl⟩:=hbel.ext
  have HOWN:=Lib.hid hown
  have HD:=Lib.hid hD
  clear hown hD hbel
  by_cases hlt:(n:Int) < ds.length
  case pos =>
   have hk:n < ds.length:=by omega
   obtain ⟨b,off,rfl,hbl,hcell⟩:=HX.out (by intro e;simp [e] at hk)
   have hc:=hcell n hk
   have hst:ds.take (n + 1)=ds.take n ++ [ds[n]]:=List.take_succ_eq_append_getElem hk
   have hck:=HOK.out _ (List.getElem_mem hk)
   generalize ds[n]=d at hc hst hck
   have y0:w.cell? ⟨b,off + n * 2,none⟩ = some (.string d.key):=hc 0 _ rfl
   have y1:w.cell? ⟨b,off + n * 2 + 1,none⟩ = some (.string d.val):=hc 1 _ rfl
   have hbl:=hbl (by decide)
   have hbl2:b < w.heap.size + X.bs.size:=by omega
   clear hc hcell
   have hkm:keyOf Tryz.prog 9 (.string d.key)=some (kS d.key):=WideMaps.keyOf_string_mk Tryz.underlying9 hck.1
   have hvm:(plainElem (H:=Unit) Tryz.prog 9) (.string d.val)=some (.lit (.string d.val.data.toList),[]):=plainElem_string Tryz.underlying9 hck.2
   obtain ⟨v0,ps0,hrun,hR⟩:=(HOWN.out.alloc (.cells #[.string d.key,.string d.val] 78)).look_ok (Maps.string_keyed Tryz.underlying9) Tryz.underlying174 (zeroS _) (plainElem_string Tryz.underlying9 (by decide)) hkm
   rw [HD.out.has_] at hrun
   have HHK:=Lib.hid hkm
   have HVM:=Lib.hid hvm
   have HST:=Lib.hid hst
   clear hR hkm hvm hst
   cases hh:(ds.take n).any (zY d.key) with
   | true =>
    rw [hh] at hrun
    go_wp2
    go_roundw
    case rel=>exact ⟨n + 1,D,by go_num,by omega,(HOWN.out.alloc _).mono (by omega),by rw [HST.out];exact HD.out.skip hh,(by repeat (first|with_reducible exact Below.refl _ _|with_reducible apply Below.ofExt|with_reducible apply Below.ofAlloc))⟩
    case measure=>simp [intOf];omega
   | false =>
    rw [hh] at hrun
    go_wp2_with (first|(at_mapUpdate;refine wpList_mapUpdate_own _ rfl _ _ _ 174 rfl 9 9 (Maps.string_keyed Tryz.underlying9) Tryz.underlying174 (plainElem (H:=Unit) Tryz.prog 9) w.heap.size n D rfl (HOWN.out.alloc _) (by unfold maxLen;omega) _ _ (kS d.key) rfl rfl HHK.out _ [] HVM.out ?_;intro w1 hown1 hgr1))
    have hb1:=Below.trans (show Below w.heap.size w _ from (by repeat (first|with_reducible exact Below.refl _ _|with_reducible apply Below.ofExt|with_reducible apply Below.ofAlloc))) (below_grown hgr1 (Nat.le_refl _) (by simp [zm];try omega))
    go_roundw
    case rel=>exact ⟨n + 1,_,by go_num,by omega,hown1,by rw [HST.out];exact HD.out.put HOWN.out.isMap hh,hb1⟩
    case measure=>simp [intOf];omega
  case neg =>
   have e:n=ds.length:=by omega
   go_wp2
   go_ret
   exact ⟨w.heap.size,rfl,Nat.le_refl _,D,e ▸ HOWN.out,by have:=HD.out;rw [e,List.take_length] at this;exact this,(by repeat (first|with_reducible exact Below.refl _ _|with_reducible apply Below.ofExt))⟩
def diffStep (a b:List CellD) (acc:List ByteArray) (c:CellD):List ByteArray:=if zeF c.key a=zeF c.key b then acc else zbo acc c.key
def diffC (a b:List CellD):List ByteArray:=(a ++ b).foldl (diffStep a b) []
theorem foldl_snoc {α β : Type} (f : β->α->β) (acc : β) (xs:List α) (x : α):(xs ++ [x]).foldl f acc=f (xs.foldl f acc) x:=by rw [List.foldl_append];rfl
theorem diffStep_rise (a b:List CellD) (acc:List ByteArray) (c:CellD) (h:acc.Pairwise ltP):(diffStep a b acc c).Pairwise ltP:=by
 unfold diffStep
 split
 ·exact h
 ·exact zaK _ _ h
theorem diffF_rise (a b:List CellD):∀ (zs:List CellD) (acc:List ByteArray),acc.Pairwise ltP->(zs.foldl (diffStep a b) acc).Pairwise ltP
 | [],_,h=>h
 | c :: zs,acc,h=>diffF_rise a b zs _ (diffStep_rise a b acc c h)
theorem diffF_mem (a b:List CellD) (x:ByteArray):∀ (zs:List CellD) (acc:List ByteArray),x ∈ zs.foldl (diffStep a b) acc ↔ x ∈ acc ∨ ((∃ c ∈ zs,c.key=x)/\zeF x a ≠ zeF x b)
 | [],acc=>by simp
 | c :: zs,acc=>by
  rw [List.foldl_cons,diffF_mem a b x zs]
  unfold diffStep
  by_cases hc:zeF c.key a=zeF c.key b
  ·rw [if_pos hc]
   constructor
   ·rintro (h|⟨⟨d,hd,hk⟩,hne⟩)
    ·exact .inl h
    ·exact .inr ⟨⟨d,List.mem_cons_of_mem _ hd,hk⟩,hne⟩
   ·rintro (h|⟨⟨d,hd,hk⟩,hne⟩)
    ·exact .inl h
    ·rcases List.mem_cons.1 hd with rfl|hd
     ·rw [hk] at hc;exact absurd hc hne
     ·exact .inr ⟨⟨d,hd,hk⟩,hne⟩
  ·rw [if_neg hc,zcp]
   constructor
   ·rintro ((h|rfl)|⟨⟨d,hd,hk⟩,hne⟩)
    ·exact .inl h
    ·exact .inr ⟨⟨c,List.mem_cons_self,rfl⟩,hc⟩
    ·exact .inr ⟨⟨d,List.mem_cons_of_mem _ hd,hk⟩,hne⟩
   ·rintro (h|⟨⟨d,hd,hk⟩,hne⟩)
    ·exact .inl (.inl h)
    ·rcases List.mem_cons.1 hd with rfl|hd
     ·exact .inl (.inr hk.symm)
     ·exact .inr ⟨⟨d,hd,hk⟩,hne⟩
theorem diffF_len (a b:List CellD):∀ (zs:List CellD) (acc:List ByteArray),(zs.foldl (diffStep a b) acc).length<=acc.length + zs.length
 | [],_=>Nat.le_refl _
 | c :: zs,acc=>by
  have h:=diffF_len a b zs (diffStep a b acc c)
  have h2:(diffStep a b acc c).length<=acc.length + 1:=by
   unfold diffStep
   split
   ·omega
   ·exact putS_len _ _
  rw [List.foldl_cons,List.length_cons]
  omega
theorem getC_ne_key {a b:List CellD} {x:ByteArray} (h:zeF x a ≠ zeF x b):∃ c ∈ a ++ b,c.key=x:=by
 apply Classical.byContradiction
 intro hn
 have ha:∀ zs:List CellD,(∀ c ∈ zs,c ∈ a ++ b)->zs.any (zY x)=false:=by
  intro zs hz
  rw [List.any_eq_false]
  intro c hc hk
  exact hn ⟨c,hz c hc,isKey_iff.1 hk⟩
 exact h (by rw [zhz x a (ha a (fun c hc=>List.mem_append_left _ hc)),zhz x b (ha b (fun c hc=>List.mem_append_right _ hc))])
theorem diffC_rise (a b:List CellD):(diffC a b).Pairwise ltP:=diffF_rise a b _ [] List.Pairwise.nil
theorem diffC_mem (a b:List CellD) (x:ByteArray):x ∈ diffC a b ↔ zeF x a ≠ zeF x b:=by
 unfold diffC
 rw [diffF_mem]
 constructor
 ·rintro (h|h)
  ·simp at h
  ·exact h.2
 ·exact fun h=>.inr ⟨getC_ne_key h,h⟩
theorem diffC_len (a b:List CellD):(diffC a b).length<=a.length + b.length:=by
 have:=diffF_len a b (a ++ b) []
 rw [List.length_append] at this
 simpa [diffC] using this
theorem diffC_ok (a b:List CellD) (ha:∀ c ∈ a,c.ok) (hb:∀ c ∈ b,c.ok):∀ x ∈ diffC a b,x.size<=maxLen:=by
 intro x hx
 obtain ⟨c,hc,rfl⟩:=getC_ne_key ((diffC_mem a b x).1 hx)
 rcases List.mem_append.1 hc with h|h
 ·exact (ha c h).1
 ·exact (hb c h).1
theorem sorted_diff (a b:List CellD) (ss:List (List UInt8)) (hnd:ss.Nodup) (hm:∀ x:ByteArray,x.data.toList ∈ ss ↔ zeF x a ≠ zeF x b) :
  (ss.mergeSort (fun x y=>decide (x<=y))).map encStr=(diffC a b).flatMap zx.row/\ss.length=(diffC a b).length:=by
 have tr:∀ a b c:List UInt8,decide (a<=b)=true->decide (b<=c)=true->decide (a<=c)=true:=fun a b c h1 h2=>by simp only [decide_eq_true_eq] at *;exact List.le_trans h1 h2
 have to:∀ a b:List UInt8,(decide (a<=b) || decide (b<=a))=true:=fun a b=>by simp only [Bool.or_eq_true,decide_eq_true_eq];exact List.le_total a b
 have hp:=List.mergeSort_perm ss (fun x y=>decide (x<=y))
 have hs:=List.pairwise_mergeSort tr to ss
 have hnd2:=hp.symm.nodup hnd
 generalize hM:ss.mergeSort (fun x y=>decide (x<=y))=M at hp hs hnd2
 have e:M.map (fun x=>(⟨x.toArray⟩ : ByteArray))=diffC a b:=by
  refine uniqS ?_ (diffC_rise a b) ?_
  ·rw [List.pairwise_map]
   refine (List.Pairwise.and hs hnd2).imp ?_
   rintro x y ⟨h1,h2⟩
   simp only [decide_eq_true_eq] at h1
   show x < y
   rcases lt_or_eq _ _ h1 with h|h
   ·exact h
   ·exact absurd h h2
  ·intro x
   rw [diffC_mem,<- hm x,<- hp.mem_iff,List.mem_map]
   constructor
   ·rintro ⟨y,hy,rfl⟩
    exact hy
   ·exact fun h=>⟨_,h,rfl⟩
 refine ⟨?_,?_⟩
 ·rw [<- e,List.flatMap_map]
  clear hM hp hs hnd2 e
  induction M with
  | nil=>rfl
  | cons x M ih=>rw [List.map_cons,List.flatMap_cons,ih];rfl
 ·rw [<- e,List.length_map,hp.length_eq]
theorem own_cast {α : Type} {R:RowOf α} {e:TypeId} {w:World} {B:Nat} {v:Value} {xs ys:List α} (h:OwnL R e w B v xs) (e':ys=xs):OwnL R e w B v ys:=by rw [e'];exact h
theorem spec_l02PutO (v:Value) (xs:List ByteArray) (x:ByteArray) (w:World) (B:Nat) (ho:OwnL zx 9 w B v xs) (hB:B<=w.heap.size) (hl:xs.length<=1099511627776) :
  Calls Tryz.prog 161 #[v,.string x] w fun e w'=>∃ v',e = .returned v'/\OwnL zx 9 w' B v' (zbo xs x)/\Below w.heap.size w w':=by
 have hs:=ho.rd
 have HO:=Lib.hid ho
 clear ho
 obtain ⟨ao,cap,rfl,hc1,hc2,hnil,hcell⟩:=hs.shapeS
 have HN:=Lib.hid hnil
 have HC:=Lib.hid hcell
 have HS:=Lib.hid hs
 clear hnil hcell hs
 have HM:Hid (cap<=maxLen):=hc2
 unfold maxLen at hc2
 have hp:zau xs x<=xs.length:=zg9 (ltS · x) xs
 have hp0:xs = []->zau xs x=0:=fun e=>by have h:=hp;rw [e] at h;simpa [e] using h
 have HP0:=Lib.hid hp0
 clear hp0
 go_enter Tryz.func161,Tryz.ntmps161
 go_wp2
 go_loop [5] (fun i=>∃ k:Nat,k<=zau xs x/\i = .int .i64 k) (fun i=>xs.length - (intOf i).toNat)
 case atStart=>exact ⟨0,Nat.zero_le _,rfl⟩
 case round =>
  obtain ⟨k,hk,rfl⟩:=hrel
  by_cases hlt:k < zau xs x
  ·obtain ⟨b,off,rfl,hbl,hcell⟩:=HC.out (fun e=>by have h1:=HP0.out e;omega)
   have hkl:k < xs.length:=by omega
   have hcc:=hcell k hkl
   have hless:Op.bytesLess xs[k].toList x.toList=true:=putAt_lt hlt hkl
   clear hcell
   go_wp2
   go_round
   case rel=>exact ⟨k + 1,by omega,by go_num⟩
   case measure=>simp [intOf];omega
  ·obtain rfl:k=zau xs x:=by omega
   by_cases hin:zau xs x < xs.length
   ·obtain ⟨b,off,rfl,hbl,hcell⟩:=HC.out (by intro e;simp [e] at hin)
    have hcc:=hcell _ hin
    have hless:Op.bytesLess xs[zau xs x].toList x.toList=false:=putAt_ge hin
    by_cases heq:xs[zau xs x]=x
    ·have heq':(xs[zau xs x].toList == x.toList)=true:=by rw [heq];simp
     have H:Hid (zbo xs x=xs):=by show zbo xs x=xs;simp [zbo,heq,hin]
     clear heq hcell
     go_wp2
     go_ret
     exact ⟨_,rfl,own_cast HO.out H.out,Below.refl _ _⟩
    ·have heq':(xs[zau xs x].toList == x.toList)=false:=by rw [beq_str];simpa using heq
     have H:Hid (zbo xs x=xs.take (zau xs x) ++ x :: xs.drop (zau xs x)):=by show zbo xs x = _;simp [zbo,heq,hin]
     clear heq hcell
     have S1:=ziG HS.out (zau xs x) cap hp (by omega) HM.out
     have S3:=RdL.cut1 rfl HS.out (zau xs x) xs.length (cap - zau xs x) (Nat.le_refl _) (by omega) (by have:=HM.out;omega)
     have hlk:(xs.take (zau xs x)).length=zau xs x:=by simp;omega
     have hld:((xs.drop (zau xs x)).take (xs.length - zau xs x)).length=xs.length - zau xs x:=by simp
     have HP:=Lib.hid hlk
     have HQ:=Lib.hid hld
     clear hlk hld
     generalize zau xs x=k at *
     go_wp2_with (at_builtin;refine zA ?_)
     refine zI rfl _ _ _ rfl zz (OwnL.empty zx _ w) rfl (S1.alloc _) rfl (by rw [HP.out];simp;omega) (by rw [HP.out];unfold maxLen;simp;omega) (by simp) ?_
     intro v1 w1 hown1 hg1 _
     have hb1:Below w.heap.size w w1:=Below.appL (by repeat (first|with_reducible exact Below.refl _ _|with_reducible apply Below.ofAlloc)) hg1 (OwnL.empty zx _ w)
     go_wp2_with (at_builtin;refine zA ?_)
     refine zI rfl _ _ _ rfl zz (hown1.alloc _) rfl (RdL.one zx w1 x _ rfl _) rfl (by simp only [List.nil_append,HP.out,List.length_singleton];omega) (by simp only [List.nil_append,HP.out,List.length_singleton];unfold maxLen;omega) (by have:=hb1.size;simp;omega) ?_
     intro v2 w2 hown2 hg2 _
     have hb2:Below w.heap.size w w2:=Below.appL (Below.ofAlloc hb1 _) hg2 (hown1.alloc _)
     clear hg1 hg2
     by_cases hcap:cap=k
     ·omega
     go_wp2_with (at_builtin;refine zA ?_)
     refine zI rfl _ _ _ rfl zz hown2 rfl (S3.below hb2) rfl (by simp only [List.nil_append,List.length_append,HP.out,HQ.out,List.length_singleton];omega) (by simp only [List.nil_append,List.length_append,HP.out,HQ.out,List.length_singleton];unfold maxLen;omega) hb2.size ?_
     intro v3 w3 hown3 hg3 _
     have hb3:Below w.heap.size w w3:=Below.appL hb2 hg3 hown2
     go_wp2
     go_ret
     refine ⟨v3,rfl,own_cast (hown3.base hB) ?_,hb3⟩
     rw [H.out]
     simp [List.take_of_length_le]
   ·have he:zau xs x=xs.length:=by omega
    have H:Hid (zbo xs x=xs ++ [x]):=by show zbo xs x = _;simp [zbo,he]
    have hge:xs.length<=zau xs x:=by omega
    clear hin hk hlt
    have HE:=Lib.hid he
    clear he
    rcases HS.out.cases with ⟨rfl,rfl,hl0,hx0⟩|⟨b,off,rfl,_,_,_⟩
    ·subst hx0
     have hk0:zau [] x=0:=rfl
     generalize zau [] x=k at *
     subst hk0
     go_wp2_with (at_builtin;refine zA ?_)
     refine zI rfl _ _ _ rfl zz (OwnL.empty zx _ w) rfl (RdL.nil zx _) rfl (by simp) (by simp) (by simp) ?_
     intro v1 w1 hown1 hg1 _
     have hb1:Below w.heap.size w w1:=Below.appL (by repeat (first|with_reducible exact Below.refl _ _|with_reducible apply Below.ofAlloc)) hg1 (OwnL.empty zx _ w)
     go_wp2_with (at_builtin;refine zA ?_)
     refine zI rfl _ _ _ rfl zz (hown1.alloc _) rfl (RdL.one zx w1 x _ rfl _) rfl (by simp) (by simp;decide) (by have:=hb1.size;simp;omega) ?_
     intro v2 w2 hown2 hg2 _
     have hb2:Below w.heap.size w w2:=Below.appL (Below.ofAlloc hb1 _) hg2 (hown1.alloc _)
     clear hg1 hg2
     go_wp2_with (at_builtin;refine zA ?_)
     refine zI rfl _ _ _ rfl zz hown2 rfl (RdL.nil zx _) rfl (by simp) (by simp;decide) hb2.size ?_
     intro v3 w3 hown3 hg3 _
     have hb3:Below w.heap.size w w3:=Below.appL hb2 hg3 hown2
     go_wp2
     go_ret
     refine ⟨v3,rfl,own_cast (hown3.base hB) ?_,hb3⟩
     rw [H.out]
     simp
    ·have S1:=ziG HS.out (zau xs x) cap hp (by omega) HM.out
     have hlk:(xs.take (zau xs x)).length=zau xs x:=by simp;omega
     have HP:=Lib.hid hlk
     clear hlk
     generalize zau xs x=k at *
     have hkc:k<=cap:=by have:=HE.out;omega
     go_wp2_with (at_builtin;refine zA ?_)
     refine zI rfl _ _ _ rfl zz (OwnL.empty zx _ w) rfl (S1.alloc _) rfl (by rw [HP.out];simp;omega) (by rw [HP.out];unfold maxLen;simp;omega) (by simp) ?_
     intro v1 w1 hown1 hg1 _
     have hb1:Below w.heap.size w w1:=Below.appL (by repeat (first|with_reducible exact Below.refl _ _|with_reducible apply Below.ofAlloc)) hg1 (OwnL.empty zx _ w)
     go_wp2_with (at_builtin;refine zA ?_)
     refine zI rfl _ _ _ rfl zz (hown1.alloc _) rfl (RdL.one zx w1 x _ rfl _) rfl (by simp only [List.nil_append,HP.out,List.length_singleton];omega) (by simp only [List.nil_append,HP.out,List.length_singleton];unfold maxLen;omega) (by have:=hb1.size;simp;omega) ?_
     intro v2 w2 hown2 hg2 _
     have hb2:Below w.heap.size w w2:=Below.appL (Below.ofAlloc hb1 _) hg2 (hown1.alloc _)
     clear hg1 hg2
     go_wp2_with (at_builtin;refine zA ?_)
     all_goals
      refine zI rfl _ _ _ rfl zz hown2 rfl (RdL.zero zx w2 _ _ _ (by have:=HM.out;omega)) rfl (by simp only [List.nil_append,List.length_append,HP.out,List.length_singleton,List.length_nil];omega) (by simp only [List.nil_append,List.length_append,HP.out,List.length_singleton,List.length_nil];unfold maxLen;omega) hb2.size ?_
      intro v3 w3 hown3 hg3 _
      have hb3:Below w.heap.size w w3:=Below.appL hb2 hg3 hown2
      go_wp2
      go_ret
      refine ⟨v3,rfl,own_cast (hown3.base hB) ?_,hb3⟩
      rw [H.out,HE.out]
      simp
theorem OwnL.heapEq' {α : Type} {R:RowOf α} {e:TypeId} {w w':World} {B:Nat} {v:Value} {xs:List α} (h:OwnL R e w B v xs) (he:w'.heap=w.heap):OwnL R e w' B v xs:=by
 cases w
 cases w'
 cases he
 exact h
theorem OwnL.mergeC' {α : Type} {R:RowOf α} {e:TypeId} {w:World} {B:Nat} {v:Value} {xs:List α} {bs cs:Array Obj} {d0 dr:Nat} (h:OwnL R e (w.ext ⟨bs,d0⟩) B v xs):OwnL R e (w.ext ⟨bs ++ cs,dr⟩) B v xs:=by
 have:=h.ext ⟨cs,dr⟩
 rwa [zo] at this
theorem foldl_take_snoc {α β : Type} (f : β->α->β) (acc : β) (zs:List α) (n:Nat) (h:n < zs.length):(zs.take (n + 1)).foldl f acc=f ((zs.take n).foldl f acc) zs[n]:=by
 rw [List.take_succ_eq_append_getElem h,foldl_snoc]
theorem spec_DiffKeys (va vb:Value) (a b:List CellD) (w:World) (ha:RdL zu w va a) (hb:RdL zu w vb b) (hl:a.length<=549755813888) (hl2:b.length<=549755813888) :
  Calls Tryz.prog 99 #[va,vb] w fun e w'=>∃ v',e = .returned v'/\OwnL zx 9 w' w.heap.size v' (diffC a b)/\Below w.heap.size w w':=by
 have HA:=Lib.hid ha
 have HB:=Lib.hid hb
 obtain ⟨aa,ca,rfl,ha1,ha2,_,hane⟩:=ha.shape
 obtain ⟨ab,cb,rfl,hb1,hb2,_,hbne⟩:=hb.shape
 have HXA:=Lib.hid hane
 have HXB:=Lib.hid hbne
 clear ha hb hane hbne
 unfold maxLen at ha2 hb2
 go_enter Tryz.func99,Tryz.ntmps99
 go_wp2
 go_loopw [5,6] (fun s k wr=>∃ (n:Nat),k = .int .i64 n/\n<=a.length + b.length/\OwnL zx 9 wr w.heap.size s (((a ++ b).take n).foldl (diffStep a b) [])/\Below w.heap.size w wr) (fun _ k _=>a.length + b.length - (intOf k).toNat)
 case atStart=>exact ⟨0,rfl,by omega,OwnL.empty zx 9 w,(by repeat (first|with_reducible exact Below.refl _ _|with_reducible apply Below.ofAlloc))⟩
 case round =>
  obtain ⟨n,rfl,hn,hrd,hbel⟩:=hrel
  obtain ⟨X,rfl⟩:=hbel.ext
  have hlen:=diffF_len a b ((a ++ b).take n) []
  rw [List.length_nil,List.length_take,List.length_append] at hlen
  have hlen:(((a ++ b).take n).foldl (diffStep a b) []).length<=1099511627776:=by omega
  have HR:=Lib.hid hrd
  clear hrd hbel
  by_cases hlt:(n:Int) < a.length + b.length
  case pos =>
   have hk:n < (a ++ b).length:=by rw [List.length_append];omega
   have hst:=foldl_take_snoc (diffStep a b) [] (a ++ b) n hk
   have hget:∃ c,c=(a ++ b)[n]/\((h:n < a.length)->c=a[n])/\((h:¬ n < a.length)->c=b[n - a.length]'(by rw [List.length_append] at hk;omega)):=⟨_,rfl,fun h=>List.getElem_append_left h,fun h=>List.getElem_append_right (by omega)⟩
   obtain ⟨c,hc,hca,hcb⟩:=hget
   rw [<- hc] at hst
   clear hc
   generalize ((a ++ b).take n).foldl (diffStep a b) []=acc at *
   have HST:=Lib.hid hst
   have HCB:=Lib.hid hcb
   have HCA:=Lib.hid hca
   clear hst hca hcb hk
   by_cases hin:(n:Int) < a.length
   case pos =>
    have hin':n < a.length:=by omega
    obtain ⟨ba,off,rfl,hbl,hcell⟩:=HXA.out (by intro e;simp [e] at hin')
    have y0:w.cell? ⟨ba,off + n * 2,none⟩ = some (.string c.key):=by rw [HCA.out hin'];exact hcell n hin' 0 _ rfl
    have hbl:=hbl (by decide)
    have hbl2:ba < w.heap.size + X.bs.size:=by omega
    clear hcell
    go_wp2_with fail
    (go_at_call 94;refine (zfj _ a c.key _ (HA.out.ext _)).mono ?_;rintro e w' ⟨rfl,hb⟩;obtain ⟨X,rfl⟩:=hb.ext;clear hb)
    go_wp2_with fail
    (go_at_call 94;refine (zfj _ b c.key _ (HB.out.ext _)).mono ?_;rintro e w' ⟨rfl,hb⟩;obtain ⟨X,rfl⟩:=hb.ext;clear hb)
    by_cases heq:zeF c.key a=zeF c.key b
    ·have heq':((zeF c.key a).toList == (zeF c.key b).toList)=true:=by rw [beq_iff_eq,heq]
     have HE:Hid (diffStep a b acc c=acc):=by show _ = _;unfold diffStep;rw [if_pos heq]
     clear heq
     go_wp2
     go_roundw
     case rel=>exact ⟨n + 1,by go_num,by omega,by rw [HST.out,HE.out];exact (by (try simp only [<- Array.append_assoc]);(repeat (first|with_reducible exact HR.out|with_reducible apply OwnL.mergeC'));all_goals exact (0:Nat)),(by repeat (first|with_reducible exact Below.refl _ _|with_reducible apply Below.ofExt))⟩
     case measure=>simp [intOf];omega
    ·have heq':((zeF c.key a).toList == (zeF c.key b).toList)=false:=by rw [beq_eq_false_iff_ne,bl,bl];exact fun e=>heq (ByteArray.ext (Array.toList_inj.1 e))
     have HE:Hid (diffStep a b acc c=zbo acc c.key):=by show _ = _;unfold diffStep;rw [if_neg heq]
     clear heq
     go_wp2_with fail
     (go_at_call 161;refine (spec_l02PutO _ acc c.key _ w.heap.size (by (try simp only [<- Array.append_assoc]);(repeat (first|with_reducible exact HR.out|with_reducible apply OwnL.mergeC'));all_goals exact (0:Nat)) (by simp [zm]) (by omega)).mono ?_;rintro e w' ⟨v',rfl,hr',hb'⟩;obtain ⟨Y,rfl⟩:=hb'.ext;have HP:=Lib.hid hr';clear hr' hb')
     go_wp2
     go_roundw
     case rel=>exact ⟨n + 1,by go_num,by omega,by rw [HST.out,HE.out];exact OwnL.heapEq' HP.out (by simp [World.ext,World.drew,Array.append_assoc]),(by repeat (first|with_reducible exact Below.refl _ _|with_reducible apply Below.ofExt))⟩
     case measure=>simp [intOf];omega
   case neg =>
    have hin':¬ n < a.length:=by omega
    have hin2:n - a.length < b.length:=by omega
    obtain ⟨ba,off,rfl,hbl,hcell⟩:=HXB.out (by intro e;simp [e] at hin2)
    have y0:w.cell? ⟨ba,off + (n - a.length) * 2,none⟩ = some (.string c.key):=by rw [HCB.out hin'];exact hcell (n - a.length) hin2 0 _ rfl
    have hbl:=hbl (by decide)
    have hbl2:ba < w.heap.size + X.bs.size:=by omega
    clear hcell
    obtain ⟨m,hm⟩ : ∃ m,n=a.length + m:=⟨n - a.length,by omega⟩
    subst hm
    rw [Nat.add_sub_cancel_left] at y0 hin2
    go_wp2_with fail
    (go_at_call 94;refine (zfj _ a c.key _ (HA.out.ext _)).mono ?_;rintro e w' ⟨rfl,hb⟩;obtain ⟨X,rfl⟩:=hb.ext;clear hb)
    go_wp2_with fail
    (go_at_call 94;refine (zfj _ b c.key _ (HB.out.ext _)).mono ?_;rintro e w' ⟨rfl,hb⟩;obtain ⟨X,rfl⟩:=hb.ext;clear hb)
    by_cases heq:zeF c.key a=zeF c.key b
    ·have heq':((zeF c.key a).toList == (zeF c.key b).toList)=true:=by rw [beq_iff_eq,heq]
     have HE:Hid (diffStep a b acc c=acc):=by show _ = _;unfold diffStep;rw [if_pos heq]
     clear heq
     go_wp2
     go_roundw
     case rel=>exact ⟨a.length + m + 1,by go_num,by omega,by rw [HST.out,HE.out];exact (by (try simp only [<- Array.append_assoc]);(repeat (first|with_reducible exact HR.out|with_reducible apply OwnL.mergeC'));all_goals exact (0:Nat)),(by repeat (first|with_reducible exact Below.refl _ _|with_reducible apply Below.ofExt))⟩
     case measure=>simp [intOf];omega
    ·have heq':((zeF c.key a).toList == (zeF c.key b).toList)=false:=by rw [beq_eq_false_iff_ne,bl,bl];exact fun e=>heq (ByteArray.ext (Array.toList_inj.1 e))
     have HE:Hid (diffStep a b acc c=zbo acc c.key):=by show _ = _;unfold diffStep;rw [if_neg heq]
     clear heq
     go_wp2_with fail
     (go_at_call 161;refine (spec_l02PutO _ acc c.key _ w.heap.size (by (try simp only [<- Array.append_assoc]);(repeat (first|with_reducible exact HR.out|with_reducible apply OwnL.mergeC'));all_goals exact (0:Nat)) (by simp [zm]) (by omega)).mono ?_;rintro e w' ⟨v',rfl,hr',hb'⟩;obtain ⟨Y,rfl⟩:=hb'.ext;have HP:=Lib.hid hr';clear hr' hb')
     go_wp2
     go_roundw
     case rel=>exact ⟨a.length + m + 1,by go_num,by omega,by rw [HST.out,HE.out];exact OwnL.heapEq' HP.out (by simp [World.ext,World.drew,Array.append_assoc]),(by repeat (first|with_reducible exact Below.refl _ _|with_reducible apply Below.ofExt))⟩
     case measure=>simp [intOf];omega
  case neg =>
   have e:n=a.length + b.length:=by omega
   have HF:Hid (((a ++ b).take n).foldl (diffStep a b) []=diffC a b):=by show _ = _;rw [e,<- List.length_append,List.take_length];rfl
   go_wp2
   go_ret
   exact ⟨_,rfl,by rw [<- HF.out];exact HR.out,(by repeat (first|with_reducible exact Below.refl _ _|with_reducible apply Below.ofExt))⟩
end Go.Proofs.YtgcmnkkakngifaaGreatDoor
namespace Go.Proofs.YtgcmnkkakngifaaGreatDoor
open Go.Proofs Go.RowKit Go.Maps Go.Sort Go.Shelf
def Tryz.keys165_ren:Go.Shelf.Ren:=⟨fun|7=>165|10=>233|n=>n,fun|23=>176|26=>9|3=>4|28=>179|0=>0|27=>178|33=>120|4=>4|n=>n,fun|n=>n⟩
theorem Tryz.keys165:Go.Proofs.SlLaysZ.n7 Tryz.prog Tryz.keys165_ren:={
 mixed:=by kernel_rfl
 f7:=⟨Tryz.f165.name,by decide,Tryz.func165.trans (congrArg some (by kernel_rfl))⟩
 f10:=⟨Tryz.f233.name,by decide,Tryz.func233.trans (congrArg some (by kernel_rfl))⟩
 t0:=Tryz.underlying0
 a0:=Tryz.isAgg0
 z0:=Tryz.sizeOf0
 v0:=Tryz.zeroValue0
 t4:=Tryz.underlying4
 a4:=Tryz.isAgg4
 z4:=Tryz.sizeOf4
 v4:=Tryz.zeroValue4
 t23:=Tryz.underlying176
 a23:=Tryz.isAgg176
 z23:=Tryz.sizeOf176
 v23:=Tryz.zeroValue176
 t26:=Tryz.underlying9
 a26:=Tryz.isAgg9
 z26:=Tryz.sizeOf9
 v26:=Tryz.zeroValue9
 t27:=Tryz.underlying178
 a27:=Tryz.isAgg178
 z27:=Tryz.sizeOf178
 v27:=Tryz.zeroValue178
 t28:=Tryz.underlying179
 a28:=Tryz.isAgg179
 z28:=Tryz.sizeOf179
 v28:=Tryz.zeroValue179
 t33:=Tryz.underlying120
 a33:=Tryz.isAgg120
 z33:=Tryz.sizeOf120
 v33:=Tryz.zeroValue120 }
def Tryz.sorted164_ren:Go.Shelf.Ren:=⟨fun|6=>164|8=>231|9=>232|11=>255|13=>257|12=>256|23=>277|24=>278|14=>268|15=>269|16=>270|17=>271|18=>272|19=>273|20=>274|21=>275|22=>276|25=>291|26=>292|27=>293|28=>294|29=>295|30=>296|31=>309|n=>n,fun|26=>9|28=>179|24=>25|0=>0|3=>3|37=>224|48=>241|50=>243|4=>4|40=>235|39=>234|45=>214|5=>5|9=>9|51=>253|55=>257|57=>269|58=>132|33=>120|n=>n,fun|n=>n⟩
theorem Tryz.sorted164:Go.Proofs.SlLaysZ.n6 Tryz.prog Tryz.sorted164_ren:={
 mixed:=by kernel_rfl
 f6:=⟨Tryz.f164.name,by decide,Tryz.func164.trans (congrArg some (by kernel_rfl))⟩
 f8:=⟨Tryz.f231.name,by decide,Tryz.func231.trans (congrArg some (by kernel_rfl))⟩
 f11:=⟨Tryz.f255.name,by decide,Tryz.func255.trans (congrArg some (by kernel_rfl))⟩
 t0:=Tryz.underlying0
 a0:=Tryz.isAgg0
 z0:=Tryz.sizeOf0
 v0:=Tryz.zeroValue0
 t24:=Tryz.underlying25
 a24:=Tryz.isAgg25
 z24:=Tryz.sizeOf25
 v24:=Tryz.zeroValue25
 t26:=Tryz.underlying9
 a26:=Tryz.isAgg9
 z26:=Tryz.sizeOf9
 v26:=Tryz.zeroValue9
 t28:=Tryz.underlying179
 a28:=Tryz.isAgg179
 z28:=Tryz.sizeOf179
 v28:=Tryz.zeroValue179
 i26:=by kernel_rfl }
def Tryz.sort232_ren:Go.Shelf.Ren:=⟨fun|6=>232|8=>257|9=>256|19=>277|20=>278|21=>268|22=>269|23=>270|24=>271|25=>272|26=>273|27=>274|28=>275|29=>276|36=>291|31=>292|32=>293|37=>294|38=>295|39=>296|41=>309|n=>n,fun|27=>25|29=>9|3=>3|32=>224|26=>25|0=>0|44=>241|46=>243|4=>4|36=>235|35=>234|41=>214|5=>5|9=>9|53=>253|57=>257|63=>269|64=>132|n=>n,fun|n=>n⟩
theorem Tryz.sort232:Go.Proofs.SlLaysM.n6 Tryz.prog Tryz.sort232_ren:={
 mixed:=by kernel_rfl
 f6:=⟨Tryz.f232.name,by decide,Tryz.func232.trans (congrArg some (by kernel_rfl))⟩
 f8:=Tryz.func257.trans (congrArg some (by kernel_rfl))
 f9:=⟨Tryz.f256.name,by decide,Tryz.func256.trans (congrArg some (by kernel_rfl))⟩
 f19:=Tryz.func277.trans (congrArg some (by kernel_rfl))
 f20:=Tryz.func278.trans (congrArg some (by kernel_rfl))
 f21:=⟨Tryz.f268.name,by decide,Tryz.func268.trans (congrArg some (by kernel_rfl))⟩
 f22:=⟨Tryz.f269.name,by decide,Tryz.func269.trans (congrArg some (by kernel_rfl))⟩
 f23:=⟨Tryz.f270.name,by decide,Tryz.func270.trans (congrArg some (by kernel_rfl))⟩
 f24:=⟨Tryz.f271.name,by decide,Tryz.func271.trans (congrArg some (by kernel_rfl))⟩
 f25:=⟨Tryz.f272.name,by decide,Tryz.func272.trans (congrArg some (by kernel_rfl))⟩
 f26:=⟨Tryz.f273.name,by decide,Tryz.func273.trans (congrArg some (by kernel_rfl))⟩
 f27:=⟨Tryz.f274.name,by decide,Tryz.func274.trans (congrArg some (by kernel_rfl))⟩
 f28:=⟨Tryz.f275.name,by decide,Tryz.func275.trans (congrArg some (by kernel_rfl))⟩
 f29:=⟨Tryz.f276.name,by decide,Tryz.func276.trans (congrArg some (by kernel_rfl))⟩
 f31:=Tryz.func292.trans (congrArg some (by kernel_rfl))
 f32:=Tryz.func293.trans (congrArg some (by kernel_rfl))
 f36:=⟨Tryz.f291.name,by decide,Tryz.func291.trans (congrArg some (by kernel_rfl))⟩
 f37:=⟨Tryz.f294.name,by decide,Tryz.func294.trans (congrArg some (by kernel_rfl))⟩
 f38:=⟨Tryz.f295.name,by decide,Tryz.func295.trans (congrArg some (by kernel_rfl))⟩
 f39:=⟨Tryz.f296.name,by decide,Tryz.func296.trans (congrArg some (by kernel_rfl))⟩
 f41:=⟨Tryz.f309.name,by decide,Tryz.func309.trans (congrArg some (by kernel_rfl))⟩
 t0:=Tryz.underlying0
 a0:=Tryz.isAgg0
 z0:=Tryz.sizeOf0
 v0:=Tryz.zeroValue0
 t3:=Tryz.underlying3
 a3:=Tryz.isAgg3
 z3:=Tryz.sizeOf3
 v3:=Tryz.zeroValue3
 t4:=Tryz.underlying4
 a4:=Tryz.isAgg4
 z4:=Tryz.sizeOf4
 v4:=Tryz.zeroValue4
 t5:=Tryz.underlying5
 a5:=Tryz.isAgg5
 z5:=Tryz.sizeOf5
 v5:=Tryz.zeroValue5
 t9:=Tryz.underlying9
 a9:=Tryz.isAgg9
 z9:=Tryz.sizeOf9
 v9:=Tryz.zeroValue9
 t26:=Tryz.underlying25
 a26:=Tryz.isAgg25
 z26:=Tryz.sizeOf25
 v26:=Tryz.zeroValue25
 t27:=Tryz.underlying25
 a27:=Tryz.isAgg25
 z27:=Tryz.sizeOf25
 v27:=Tryz.zeroValue25
 t29:=Tryz.underlying9
 a29:=Tryz.isAgg9
 z29:=Tryz.sizeOf9
 v29:=Tryz.zeroValue9
 t32:=Tryz.underlying224
 a32:=Tryz.isAgg224
 z32:=Tryz.sizeOf224
 v32:=Tryz.zeroValue224
 t35:=Tryz.underlying234
 a35:=Tryz.isAgg234
 z35:=Tryz.sizeOf234
 v35:=Tryz.zeroValue234
 t36:=Tryz.underlying235
 a36:=Tryz.isAgg235
 z36:=Tryz.sizeOf235
 v36:=Tryz.zeroValue235
 t41:=Tryz.underlying214
 a41:=Tryz.isAgg214
 z41:=Tryz.sizeOf214
 v41:=Tryz.zeroValue214
 t44:=Tryz.underlying241
 a44:=Tryz.isAgg241
 z44:=Tryz.sizeOf241
 v44:=Tryz.zeroValue241
 t46:=Tryz.underlying243
 a46:=Tryz.isAgg243
 z46:=Tryz.sizeOf243
 v46:=Tryz.zeroValue243
 t53:=Tryz.underlying253
 a53:=Tryz.isAgg253
 z53:=Tryz.sizeOf253
 v53:=Tryz.zeroValue253
 t57:=Tryz.underlying257
 a57:=Tryz.isAgg257
 z57:=Tryz.sizeOf257
 v57:=Tryz.zeroValue257
 t63:=Tryz.underlying269
 a63:=Tryz.isAgg269
 z63:=Tryz.sizeOf269
 v63:=Tryz.zeroValue269
 t64:=Tryz.underlying132
 a64:=Tryz.isAgg132
 z64:=Tryz.sizeOf132
 v64:=Tryz.zeroValue132 }
theorem Tryz.sorts164 (m:Nat):AnyZ.SortsIn Tryz.prog Tryz.sorted164_ren Fence.wide m :=
  ⟨fun blk off cap ss W hH hblk hsz=>callsIn_wide.2 (AnyM.slices_Sort_string Tryz.sort232 blk off cap ss W hH hblk hsz),
   fun p cap W=>callsIn_wide.2 (AnyM.slices_Sort_string_none Tryz.sort232 p cap W)⟩
theorem Tryz.maps_Keys_165 (mb:Option Nat) (W:World):CallsIn Fence.wide 5 Tryz.prog 165 #[.map mb] W fun e w'=>e = .returned (.func (.func 233) #[] #[.pointer (some ⟨W.heap.size,0,none⟩)])/\w'=W.alloc (.cells #[.map mb] 176) :=
 AnyZ.keys_in Tryz.keys165 Fence.wide 5 trivial rfl mb W
theorem Tryz.slices_Sorted_keys_164_165 {H:Type} (b nn:Nat) (D0:DataW H) (R:Value->Option (DataW H × List MemPlace)) (w:World) (hown:w.ownsMap Tryz.prog 9 R b nn D0) (hmax:Maps.size D0<=maxLen) (hbytes:Maps.size D0 * 16<=140737488355328) :
  CallsIn Fence.wide 5 Tryz.prog 164 #[.func (.func 233) #[] #[.pointer (some ⟨w.heap.size,0,none⟩)]] (w.alloc (.cells #[.map (some b)] 176)) fun e w'=>∃ (v:Value) (ss:List (List UInt8)),e = .returned v/\ss.Perm (strKeys D0) /\
   w'.ownsRow (w.alloc (.cells #[.map (some b)] 176)).heap.size 9 1 v ss.length ((ss.mergeSort (fun x y=>decide (x<=y))).map encStr)/\(v = .slice none 0 0 ↔ ss = [])/\Below (w.alloc (.cells #[.map (some b)] 176)).heap.size (w.alloc (.cells #[.map (some b)] 176)) w':=by
 have hbl:=hown.lt
 have hseq:SeqGives Fence.wide 2 Tryz.prog 233 #[.pointer (some ⟨w.heap.size,0,none⟩)] encStr (fun ss=>ss.Perm (strKeys D0)) (Maps.size D0) (w.alloc (.cells #[.map (some b)] 176)) :=
  AnyZ.keys_gives (ρ:=Tryz.keys165_ren) { Tryz.keys165 with } Fence.wide _ trivial rfl (by omega) w.heap.size b nn D0 _ (by simp) (by simp) (by
   obtain ⟨es,clock,hb,Ft,hs,hD⟩:=hown
   exact ⟨es,clock,(Below.heap_alloc _ _ b hbl).trans hb,Ft,hs,hD⟩)
 exact AnyZ.sorted_in Tryz.sorted164 Fence.wide 5 trivial trivial trivial trivial rfl (by omega) (Tryz.sorts164 _) (enters_of Tryz.func232 (by kernel_rfl) rfl) 233 #[.pointer (some ⟨w.heap.size,0,none⟩)] trivial (enters_of Tryz.func233 (by kernel_rfl) rfl) _ _ hmax hbytes _ hseq
end Go.Proofs.YtgcmnkkakngifaaGreatDoor
