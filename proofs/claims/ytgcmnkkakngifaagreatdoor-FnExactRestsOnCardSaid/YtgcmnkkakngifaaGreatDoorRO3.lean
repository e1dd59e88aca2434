/- Texts of this claim, merged: the walks and what they stand on. Each condition stands in its theorem. -/
import Derived.Shelf.SlGeneric
import Derived.Shelf.SlIter.Nil
import Derived.Shelf.SortM.Plain
import Derived.Shelf.SortM.SortNone
import Derived.Test.YtgcmnkkakngifaaGreatDoorCA5
import Derived.Test.YtgcmnkkakngifaaGreatDoorCA7
import Derived.Test.YtgcmnkkakngifaaGreatDoorProg
import Derived.Test.YtgcmnkkakngifaaGreatDoorRO2
set_option linter.unusedVariables false
set_option linter.unusedSimpArgs false
set_option maxRecDepth 100000
set_option maxHeartbeats 8000000
namespace Go.Proofs.YtgcmnkkakngifaaGreatDoor
open Go.ChangeShapes Go.WideShapes Go.ChangeAt Go.RowKit
theorem OwnL.heapEq' {α : Type} {R:RowOf α} {e:TypeId} {w w':World} {B:Nat} {v:Value} {xs:List α} (h:OwnL R e w B v xs) (he:w'.heap=w.heap):OwnL R e w' B v xs:=by
 cases w
 cases w'
 cases he
 exact h
theorem OwnL.mergeC' {α : Type} {R:RowOf α} {e:TypeId} {w:World} {B:Nat} {v:Value} {xs:List α} {bs cs:Array Obj} {d0 dr:Nat} (h:OwnL R e (w.ext ⟨bs,d0⟩) B v xs):OwnL R e (w.ext ⟨bs ++ cs,dr⟩) B v xs:=by
 have:=h.ext ⟨cs,dr⟩
 rwa [zo] at this
theorem foldl_take_snoc {α β : Type} (f : β->α->β) (acc : β) (zs:List α) (n:Nat) (h:n < zs.length):(zs.take (n + 1)).foldl f acc=f ((zs.take n).foldl f acc) zs[n]:=by
 rw [List.take_succ_eq_append_getElem h,foldl_snoc]
theorem spec_DiffKeys (va vb:Value) (a b:List CellD) (w:World) (ha:RdL zu w va a) (hb:RdL zu w vb b) (hl:a.length<=549755813888) (hl2:b.length<=549755813888) :
  Calls Tryz.prog 99 #[va,vb] w fun e w'=>∃ v',e = .returned v'/\OwnL zx 9 w' w.heap.size v' (diffC a b)/\Below w.heap.size w w':=by
 have HA:=Lib.hid ha
 have HB:=Lib.hid hb
 obtain ⟨aa,ca,rfl,ha1,ha2,_,hane⟩:=ha.shape
 obtain ⟨ab,cb,rfl,hb1,hb2,_,hbne⟩:=hb.shape
 have HXA:=Lib.hid hane
 have HXB:=Lib.hid hbne
 clear ha hb hane hbne
 unfold maxLen at ha2 hb2
 go_enter Tryz.func99,Tryz.ntmps99
 go_wp2
 go_loopw [5,6] (fun s k wr=>∃ (n:Nat),k = .int .i64 n/\n<=a.length + b.length/\OwnL zx 9 wr w.heap.size s (((a ++ b).take n).foldl (diffStep a b) [])/\Below w.heap.size w wr) (fun _ k _=>a.length + b.length - (intOf k).toNat)
 case atStart=>exact ⟨0,rfl,by omega,OwnL.empty zx 9 w,(by repeat (first|with_reducible exact Below.refl _ _|with_reducible apply Below.ofAlloc))⟩
 case round =>
  obtain ⟨n,rfl,hn,hrd,hbel⟩:=hrel
  obtain ⟨X,rfl⟩:=hbel.ext
  have hlen:=diffF_len a b ((a ++ b).take n) []
  rw [List.length_nil,List.length_take,List.length_append] at hlen
  have hlen:(((a ++ b).take n).foldl (diffStep a b) []).length<=1099511627776:=by omega
  have HR:=Lib.hid hrd
  clear hrd hbel
  by_cases hlt:(n:Int) < a.length + b.length
  case pos =>
   have hk:n < (a ++ b).length:=by rw [List.length_append];omega
   have hst:=foldl_take_snoc (diffStep a b) [] (a ++ b) n hk
   have hget:∃ c,c=(a ++ b)[n]/\((h:n < a.length)->c=a[n])/\((h:¬ n < a.length)->c=b[n - a.length]'(by rw [List.length_append] at hk;omega)):=⟨_,rfl,fun h=>List.getElem_append_left h,fun h=>List.getElem_append_right (by omega)⟩
   obtain ⟨c,hc,hca,hcb⟩:=hget
   rw [<- hc] at hst
   clear hc
   generalize ((a ++ b).take n).foldl (diffStep a b) []=acc at *
   have HST:=Lib.hid hst
   have HCB:=Lib.hid hcb
   have HCA:=Lib.hid hca
   clear hst hca hcb hk
   by_cases hin:(n:Int) < a.length
   case pos =>
    have hin':n < a.length:=by omega
    obtain ⟨ba,off,rfl,hbl,hcell⟩:=HXA.out (by intro e;simp [e] at hin')
    have y0:w.cell? ⟨ba,off + n * 2,none⟩ = some (.string c.key):=by rw [HCA.out hin'];exact hcell n hin' 0 _ rfl
    have hbl:=hbl (by decide)
    have hbl2:ba < w.heap.size + X.bs.size:=by omega
    clear hcell
    go_wp2_with fail
    (go_at_call 94;refine (zfj _ a c.key _ (HA.out.ext _)).mono ?_;rintro e w' ⟨rfl,hb⟩;obtain ⟨X,rfl⟩:=hb.ext;clear hb)
    go_wp2_with fail
    (go_at_call 94;refine (zfj _ b c.key _ (HB.out.ext _)).mono ?_;rintro e w' ⟨rfl,hb⟩;obtain ⟨X,rfl⟩:=hb.ext;clear hb)
    by_cases heq:zeF c.key a=zeF c.key b
    ·have heq':((zeF c.key a).toList == (zeF c.key b).toList)=true:=by rw [beq_iff_eq,heq]
     have HE:Hid (diffStep a b acc c=acc):=by show _ = _;unfold diffStep;rw [if_pos heq]
     clear heq
     go_wp2
     go_roundw
     case rel=>exact ⟨n + 1,by go_num,by omega,by rw [HST.out,HE.out];exact (by (try simp only [<- Array.append_assoc]);(repeat (first|with_reducible exact HR.out|with_reducible apply OwnL.mergeC'));all_goals exact (0:Nat)),(by repeat (first|with_reducible exact Below.refl _ _|with_reducible apply Below.ofExt))⟩
     case measure=>simp [intOf];omega
    ·have heq':((zeF c.key a).toList == (zeF c.key b).toList)=false:=by rw [beq_eq_false_iff_ne,bl,bl];exact fun e=>heq (ByteArray.ext (Array.toList_inj.1 e))
     have HE:Hid (diffStep a b acc c=zbo acc c.key):=by show _ = _;unfold diffStep;rw [if_neg heq]
     clear heq
     go_wp2_with fail
     (go_at_call 161;refine (spec_l02PutO _ acc c.key _ w.heap.size (by (try simp only [<- Array.append_assoc]);(repeat (first|with_reducible exact HR.out|with_reducible apply OwnL.mergeC'));all_goals exact (0:Nat)) (by simp [zm]) (by omega)).mono ?_;rintro e w' ⟨v',rfl,hr',hb'⟩;obtain ⟨Y,rfl⟩:=hb'.ext;have HP:=Lib.hid hr';clear hr' hb')
     go_wp2
     go_roundw
     case rel=>exact ⟨n + 1,by go_num,by omega,by rw [HST.out,HE.out];exact OwnL.heapEq' HP.out (by simp [World.ext,World.drew,Array.append_assoc]),(by repeat (first|with_reducible exact Below.refl _ _|with_reducible apply Below.ofExt))⟩
     case measure=>simp [intOf];omega
   case neg =>
    have hin':¬ n < a.length:=by omega
    have hin2:n - a.length < b.length:=by omega
    obtain ⟨ba,off,rfl,hbl,hcell⟩:=HXB.out (by intro e;simp [e] at hin2)
    have y0:w.cell? ⟨ba,off + (n - a.length) * 2,none⟩ = some (.string c.key):=by rw [HCB.out hin'];exact hcell (n - a.length) hin2 0 _ rfl
    have hbl:=hbl (by decide)
    have hbl2:ba < w.heap.size + X.bs.size:=by omega
    clear hcell
    obtain ⟨m,hm⟩ : ∃ m,n=a.length + m:=⟨n - a.length,by omega⟩
    subst hm
    rw [Nat.add_sub_cancel_left] at y0 hin2
    go_wp2_with fail
    (go_at_call 94;refine (zfj _ a c.key _ (HA.out.ext _)).mono ?_;rintro e w' ⟨rfl,hb⟩;obtain ⟨X,rfl⟩:=hb.ext;clear hb)
    go_wp2_with fail
    (go_at_call 94;refine (zfj _ b c.key _ (HB.out.ext _)).mono ?_;rintro e w' ⟨rfl,hb⟩;obtain ⟨X,rfl⟩:=hb.ext;clear hb)
    by_cases heq:zeF c.key a=zeF c.key b
    ·have heq':((zeF c.key a).toList == (zeF c.key b).toList)=true:=by rw [beq_iff_eq,heq]
     have HE:Hid (diffStep a b acc c=acc):=by show _ = _;unfold diffStep;rw [if_pos heq]
     clear heq
     go_wp2
     go_roundw
     case rel=>exact ⟨a.length + m + 1,by go_num,by omega,by rw [HST.out,HE.out];exact (by (try simp only [<- Array.append_assoc]);(repeat (first|with_reducible exact HR.out|with_reducible apply OwnL.mergeC'));all_goals exact (0:Nat)),(by repeat (first|with_reducible exact Below.refl _ _|with_reducible apply Below.ofExt))⟩
     case measure=>simp [intOf];omega
    ·have heq':((zeF c.key a).toList == (zeF c.key b).toList)=false:=by rw [beq_eq_false_iff_ne,bl,bl];exact fun e=>heq (ByteArray.ext (Array.toList_inj.1 e))
     have HE:Hid (diffStep a b acc c=zbo acc c.key):=by show _ = _;unfold diffStep;rw [if_neg heq]
     clear heq
     go_wp2_with fail
     (go_at_call 161;refine (spec_l02PutO _ acc c.key _ w.heap.size (by (try simp only [<- Array.append_assoc]);(repeat (first|with_reducible exact HR.out|with_reducible apply OwnL.mergeC'));all_goals exact (0:Nat)) (by simp [zm]) (by omega)).mono ?_;rintro e w' ⟨v',rfl,hr',hb'⟩;obtain ⟨Y,rfl⟩:=hb'.ext;have HP:=Lib.hid hr';clear hr' hb')
     go_wp2
     go_roundw
     case rel=>exact ⟨a.length + m + 1,by go_num,by omega,by rw [HST.out,HE.out];exact OwnL.heapEq' HP.out (by simp [World.ext,World.drew,Array.append_assoc]),(by repeat (first|with_reducible exact Below.refl _ _|with_reducible apply Below.ofExt))⟩
     case measure=>simp [intOf];omega
  case neg =>
   have e:n=a.length + b.length:=by omega
   have HF:Hid (((a ++ b).take n).foldl (diffStep a b) []=diffC a b):=by show _ = _;rw [e,<- List.length_append,List.take_length];rfl
   go_wp2
   go_ret
   exact ⟨_,rfl,by rw [<- HF.out];exact HR.out,(by repeat (first|with_reducible exact Below.refl _ _|with_reducible apply Below.ofExt))⟩
end Go.Proofs.YtgcmnkkakngifaaGreatDoor
namespace Go.Proofs.YtgcmnkkakngifaaGreatDoor
open Go.Proofs Go.RowKit Go.Maps Go.Sort Go.Shelf
def Tryz.keys165_ren:Go.Shelf.Ren:=⟨fun|7=>165|10=>233|n=>n,fun|23=>176|26=>9|3=>4|28=>179|0=>0|27=>178|33=>120|4=>4|n=>n,fun|n=>n⟩
theorem Tryz.keys165:Go.Proofs.SlLaysZ.n7 Tryz.prog Tryz.keys165_ren:={
 mixed:=by kernel_rfl
 f7:=⟨Tryz.f165.name,by decide,Tryz.func165.trans (congrArg some (by kernel_rfl))⟩
 f10:=⟨Tryz.f233.name,by decide,Tryz.func233.trans (congrArg some (by kernel_rfl))⟩
 t0:=Tryz.underlying0
 a0:=Tryz.isAgg0
 z0:=Tryz.sizeOf0
 v0:=Tryz.zeroValue0
 t4:=Tryz.underlying4
 a4:=Tryz.isAgg4
 z4:=Tryz.sizeOf4
 v4:=Tryz.zeroValue4
 t23:=Tryz.underlying176
 a23:=Tryz.isAgg176
 z23:=Tryz.sizeOf176
 v23:=Tryz.zeroValue176
 t26:=Tryz.underlying9
 a26:=Tryz.isAgg9
 z26:=Tryz.sizeOf9
 v26:=Tryz.zeroValue9
 t27:=Tryz.underlying178
 a27:=Tryz.isAgg178
 z27:=Tryz.sizeOf178
 v27:=Tryz.zeroValue178
 t28:=Tryz.underlying179
 a28:=Tryz.isAgg179
 z28:=Tryz.sizeOf179
 v28:=Tryz.zeroValue179
 t33:=Tryz.underlying120
 a33:=Tryz.isAgg120
 z33:=Tryz.sizeOf120
 v33:=Tryz.zeroValue120 }
def Tryz.sorted164_ren:Go.Shelf.Ren:=⟨fun|6=>164|8=>231|9=>232|11=>255|13=>257|12=>256|23=>277|24=>278|14=>268|15=>269|16=>270|17=>271|18=>272|19=>273|20=>274|21=>275|22=>276|25=>291|26=>292|27=>293|28=>294|29=>295|30=>296|31=>309|n=>n,fun|26=>9|28=>179|24=>25|0=>0|3=>3|37=>224|48=>241|50=>243|4=>4|40=>235|39=>234|45=>214|5=>5|9=>9|51=>253|55=>257|57=>269|58=>132|33=>120|n=>n,fun|n=>n⟩
theorem Tryz.sorted164:Go.Proofs.SlLaysZ.n6 Tryz.prog Tryz.sorted164_ren:={
 mixed:=by kernel_rfl
 f6:=⟨Tryz.f164.name,by decide,Tryz.func164.trans (congrArg some (by kernel_rfl))⟩
 f8:=⟨Tryz.f231.name,by decide,Tryz.func231.trans (congrArg some (by kernel_rfl))⟩
 f11:=⟨Tryz.f255.name,by decide,Tryz.func255.trans (congrArg some (by kernel_rfl))⟩
 t0:=Tryz.underlying0
 a0:=Tryz.isAgg0
 z0:=Tryz.sizeOf0
 v0:=Tryz.zeroValue0
 t24:=Tryz.underlying25
 a24:=Tryz.isAgg25
 z24:=Tryz.sizeOf25
 v24:=Tryz.zeroValue25
 t26:=Tryz.underlying9
 a26:=Tryz.isAgg9
 z26:=Tryz.sizeOf9
 v26:=Tryz.zeroValue9
 t28:=Tryz.underlying179
 a28:=Tryz.isAgg179
 z28:=Tryz.sizeOf179
 v28:=Tryz.zeroValue179
 i26:=by kernel_rfl }
def Tryz.sort232_ren:Go.Shelf.Ren:=⟨fun|6=>232|8=>257|9=>256|19=>277|20=>278|21=>268|22=>269|23=>270|24=>271|25=>272|26=>273|27=>274|28=>275|29=>276|36=>291|31=>292|32=>293|37=>294|38=>295|39=>296|41=>309|n=>n,fun|27=>25|29=>9|3=>3|32=>224|26=>25|0=>0|44=>241|46=>243|4=>4|36=>235|35=>234|41=>214|5=>5|9=>9|53=>253|57=>257|63=>269|64=>132|n=>n,fun|n=>n⟩
theorem Tryz.sort232:Go.Proofs.SlLaysM.n6 Tryz.prog Tryz.sort232_ren:={
 mixed:=by kernel_rfl
 f6:=⟨Tryz.f232.name,by decide,Tryz.func232.trans (congrArg some (by kernel_rfl))⟩
 f8:=Tryz.func257.trans (congrArg some (by kernel_rfl))
 f9:=⟨Tryz.f256.name,by decide,Tryz.func256.trans (congrArg some (by kernel_rfl))⟩
 f19:=Tryz.func277.trans (congrArg some (by kernel_rfl))
 f20:=Tryz.func278.trans (congrArg some (by kernel_rfl))
 f21:=⟨Tryz.f268.name,by decide,Tryz.func268.trans (congrArg some (by kernel_rfl))⟩
 f22:=⟨Tryz.f269.name,by decide,Tryz.func269.trans (congrArg some (by kernel_rfl))⟩
 f23:=⟨Tryz.f270.name,by decide,Tryz.func270.trans (congrArg some (by kernel_rfl))⟩
 f24:=⟨Tryz.f271.name,by decide,Tryz.func271.trans (congrArg some (by kernel_rfl))⟩
 f25:=⟨Tryz.f272.name,by decide,Tryz.func272.trans (congrArg some (by kernel_rfl))⟩
 f26:=⟨Tryz.f273.name,by decide,Tryz.func273.trans (congrArg some (by kernel_rfl))⟩
 f27:=⟨Tryz.f274.name,by decide,Tryz.func274.trans (congrArg some (by kernel_rfl))⟩
 f28:=⟨Tryz.f275.name,by decide,Tryz.func275.trans (congrArg some (by kernel_rfl))⟩
 f29:=⟨Tryz.f276.name,by decide,Tryz.func276.trans (congrArg some (by kernel_rfl))⟩
 f31:=Tryz.func292.trans (congrArg some (by kernel_rfl))
 f32:=Tryz.func293.trans (congrArg some (by kernel_rfl))
 f36:=⟨Tryz.f291.name,by decide,Tryz.func291.trans (congrArg some (by kernel_rfl))⟩
 f37:=⟨Tryz.f294.name,by decide,Tryz.func294.trans (congrArg some (by kernel_rfl))⟩
 f38:=⟨Tryz.f295.name,by decide,Tryz.func295.trans (congrArg some (by kernel_rfl))⟩
 f39:=⟨Tryz.f296.name,by decide,Tryz.func296.trans (congrArg some (by kernel_rfl))⟩
 f41:=⟨Tryz.f309.name,by decide,Tryz.func309.trans (congrArg some (by kernel_rfl))⟩
 t0:=Tryz.underlying0
 a0:=Tryz.isAgg0
 z0:=Tryz.sizeOf0
 v0:=Tryz.zeroValue0
 t3:=Tryz.underlying3
 a3:=Tryz.isAgg3
 z3:=Tryz.sizeOf3
 v3:=Tryz.zeroValue3
 t4:=Tryz.underlying4
 a4:=Tryz.isAgg4
 z4:=Tryz.sizeOf4
 v4:=Tryz.zeroValue4
 t5:=Tryz.underlying5
 a5:=Tryz.isAgg5
 z5:=Tryz.sizeOf5
 v5:=Tryz.zeroValue5
 t9:=Tryz.underlying9
 a9:=Tryz.isAgg9
 z9:=Tryz.sizeOf9
 v9:=Tryz.zeroValue9
 t26:=Tryz.underlying25
 a26:=Tryz.isAgg25
 z26:=Tryz.sizeOf25
 v26:=Tryz.zeroValue25
 t27:=Tryz.underlying25
 a27:=Tryz.isAgg25
 z27:=Tryz.sizeOf25
 v27:=Tryz.zeroValue25
 t29:=Tryz.underlying9
 a29:=Tryz.isAgg9
 z29:=Tryz.sizeOf9
 v29:=Tryz.zeroValue9
 t32:=Tryz.underlying224
 a32:=Tryz.isAgg224
 z32:=Tryz.sizeOf224
 v32:=Tryz.zeroValue224
 t35:=Tryz.underlying234
 a35:=Tryz.isAgg234
 z35:=Tryz.sizeOf234
 v35:=Tryz.zeroValue234
 t36:=Tryz.underlying235
 a36:=Tryz.isAgg235
 z36:=Tryz.sizeOf235
 v36:=Tryz.zeroValue235
 t41:=Tryz.underlying214
 a41:=Tryz.isAgg214
 z41:=Tryz.sizeOf214
 v41:=Tryz.zeroValue214
 t44:=Tryz.underlying241
 a44:=Tryz.isAgg241
 z44:=Tryz.sizeOf241
 v44:=Tryz.zeroValue241
 t46:=Tryz.underlying243
 a46:=Tryz.isAgg243
 z46:=Tryz.sizeOf243
 v46:=Tryz.zeroValue243
 t53:=Tryz.underlying253
 a53:=Tryz.isAgg253
 z53:=Tryz.sizeOf253
 v53:=Tryz.zeroValue253
 t57:=Tryz.underlying257
 a57:=Tryz.isAgg257
 z57:=Tryz.sizeOf257
 v57:=Tryz.zeroValue257
 t63:=Tryz.underlying269
 a63:=Tryz.isAgg269
 z63:=Tryz.sizeOf269
 v63:=Tryz.zeroValue269
 t64:=Tryz.underlying132
 a64:=Tryz.isAgg132
 z64:=Tryz.sizeOf132
 v64:=Tryz.zeroValue132 }
theorem Tryz.sorts164 (m:Nat):AnyZ.SortsIn Tryz.prog Tryz.sorted164_ren Fence.wide m :=
  ⟨fun blk off cap ss W hH hblk hsz=>callsIn_wide.2 (AnyM.slices_Sort_string Tryz.sort232 blk off cap ss W hH hblk hsz),
   fun p cap W=>callsIn_wide.2 (AnyM.slices_Sort_string_none Tryz.sort232 p cap W)⟩
theorem Tryz.maps_Keys_165 (mb:Option Nat) (W:World):CallsIn Fence.wide 5 Tryz.prog 165 #[.map mb] W fun e w'=>e = .returned (.func (.func 233) #[] #[.pointer (some ⟨W.heap.size,0,none⟩)])/\w'=W.alloc (.cells #[.map mb] 176) :=
 AnyZ.keys_in Tryz.keys165 Fence.wide 5 trivial rfl mb W
theorem Tryz.slices_Sorted_keys_164_165 {H:Type} (b nn:Nat) (D0:DataW H) (R:Value->Option (DataW H × List MemPlace)) (w:World) (hown:w.ownsMap Tryz.prog 9 R b nn D0) (hmax:Maps.size D0<=maxLen) (hbytes:Maps.size D0 * 16<=140737488355328) :
  CallsIn Fence.wide 5 Tryz.prog 164 #[.func (.func 233) #[] #[.pointer (some ⟨w.heap.size,0,none⟩)]] (w.alloc (.cells #[.map (some b)] 176)) fun e w'=>∃ (v:Value) (ss:List (List UInt8)),e = .returned v/\ss.Perm (strKeys D0) /\
   w'.ownsRow (w.alloc (.cells #[.map (some b)] 176)).heap.size 9 1 v ss.length ((ss.mergeSort (fun x y=>decide (x<=y))).map encStr)/\(v = .slice none 0 0 ↔ ss = [])/\Below (w.alloc (.cells #[.map (some b)] 176)).heap.size (w.alloc (.cells #[.map (some b)] 176)) w':=by
 have hbl:=hown.lt
 have hseq:SeqGives Fence.wide 2 Tryz.prog 233 #[.pointer (some ⟨w.heap.size,0,none⟩)] encStr (fun ss=>ss.Perm (strKeys D0)) (Maps.size D0) (w.alloc (.cells #[.map (some b)] 176)) :=
  AnyZ.keys_gives (ρ:=Tryz.keys165_ren) { Tryz.keys165 with } Fence.wide _ trivial rfl (by omega) w.heap.size b nn D0 _ (by simp) (by simp) (by
   obtain ⟨es,clock,hb,Ft,hs,hD⟩:=hown
   exact ⟨es,clock,(Below.heap_alloc _ _ b hbl).trans hb,Ft,hs,hD⟩)
 exact AnyZ.sorted_in Tryz.sorted164 Fence.wide 5 trivial trivial trivial trivial rfl (by omega) (Tryz.sorts164 _) (enters_of Tryz.func232 (by kernel_rfl) rfl) 233 #[.pointer (some ⟨w.heap.size,0,none⟩)] trivial (enters_of Tryz.func233 (by kernel_rfl) rfl) _ _ hmax hbytes _ hseq
theorem next_ss {H:Type} {P:Program} (w:World) {ops:Array Oper} {rest:List Oper} {o:Oper} {a:Act} {Q:Exit->Act->World->Prop}
  (hg:o.guard=none) (it:Operand) (hop:o.op=Op.next it false) (k e:TypeId) (K:Maps.Keyed P k) (hk:P.underlying k=some .string) (he:P.underlying e=some .string)
  (b r n:Nat) (D:DataW H) (left:Lit->Bool) (cnt:Nat) (hit:a.eval it = .pointer (some ⟨r,0,none⟩)) (h:w.ranges P k (plainElem P e) b r n D left cnt)
  (hDone:cnt=0->(∀ kl,left kl=false)->wpList P ops Q rest (a.put o.dst (.tuple #[.bool false])) w)
  (hMore : ∀ (x c : ByteArray) (w' : World) (cnt' : Nat), x.size <= maxLen -> c.size <= maxLen -> left (kS x) = true -> (∀ zd, D.atKey (kS x) zd = .lit (.string c.data.toList)) -> w'.ranges P k (plainElem P e) b r n D (fun z => left z && !z.sameKey (kS x)) cnt' -> cnt' < cnt ->
   w.grownBy w' (some r)->w'.heap.size=w.heap.size->(Instr.entry (.pointer (some ⟨r,0,none⟩))).run P w' = .ok (.tuple #[.string x,.string c]) w'->wpList P ops Q rest (a.put o.dst (.tuple #[.bool true,.string x,.string c])) w') :
  wpList P ops Q (o :: rest) a w :=
 wpList_next_ranges w hg it hop k K (plainElem P e) Value.string Value.string (fun key kl hkey=>by obtain ⟨x,rfl,_⟩:=Maps.keyOf_str hk hkey;exact ⟨_,rfl⟩) (fun v y hv=>by obtain ⟨c,rfl,_⟩:=plainElem_string_inv he hv;exact ⟨c,rfl⟩)
  b r n D left cnt hit h hDone (fun x c kl y w' cnt' hkey hlk hv hat hrg hlt hgr hsz hen=>by
   obtain ⟨x',ex,rfl,hwx⟩:=Maps.keyOf_str hk hkey
   injection ex with ex
   subst ex
   obtain ⟨c',ec,rfl,hwc⟩:=plainElem_string_inv he hv
   cases ec
   exact hMore _ c w' cnt' (by simpa [ByteArray.size] using hwx) hwc hlk hat hrg hlt hgr hsz hen)
theorem own_below {P:Program} {k:TypeId} {R:Value->Option (DataW Unit × List MemPlace)} {w w':World} {b n:Nat} {D:DataW Unit} (h:w.ownsMap P k R b n D) (hb:Below w.heap.size w w'):w'.ownsMap P k R b n D :=
 h.kept (row:=none) ⟨hb.os,hb.tape,hb.output,hb.size,fun k hk _=>hb.block k hk⟩ (by simp)
theorem look_s {w:World} {b n:Nat} {D:DataW Unit} {zs:List CellD} (h:w.ownsMap Tryz.prog 9 (plainElem (H:=Unit) Tryz.prog 9) b n D) (hv:VOf D zs) (x:ByteArray) (hx:x.size<=maxLen) :
  (Instr.lookup 174 (.map (some b)) (.string x) false).run Tryz.prog w = .ok (.string (zeF x zs)) w:=by
 obtain ⟨v,ps,hrun,hR⟩:=h.lookup (Maps.string_keyed Tryz.underlying9) Tryz.underlying174 (zeroS w) (plainElem_string Tryz.underlying9 (by decide)) (WideMaps.keyOf_string_mk (s:=x) Tryz.underlying9 hx)
 obtain ⟨s,rfl,he,_⟩:=plainElem_string_inv Tryz.underlying9 hR
 have h1:D.atKey (kS x) (.lit (.string [])) = .lit (.string s.data.toList):=(Prod.mk.inj he).1
 rw [hv.at_] at h1
 have h3:(zeF x zs).data.toList=s.data.toList:=Lit.string.inj (DataW.lit.inj h1)
 rw [hrun,ByteArray.ext (Array.toList_inj.1 h3)]
theorem same_kS (x y:ByteArray):(kS x).sameKey (kS y)=true ↔ x=y:=by
 unfold kS Lit.sameKey
 rw [beq_iff_eq]
 exact ⟨fun h=>ByteArray.ext (Array.toList_inj.1 h),fun h=>by rw [h]⟩
theorem strKeys_of {P:Program} {k:TypeId} {R:Value->Option (DataW Unit × List MemPlace)} {w:World} {b n:Nat} {D:DataW Unit} (hown:w.ownsMap P k R b n D) (K:Maps.Keyed P k) (hk:P.underlying k=some .string):(strKeys D).Nodup/\∀ x:ByteArray,x.data.toList ∈ strKeys D ↔ Maps.has D (kS x)=true:=by
 obtain ⟨es,hD,hpw,_⟩:=hown.entries K
 obtain ⟨es',hD',hko⟩:=hown.keysOf
 obtain rfl:es=es':=by rw [hD] at hD';simpa using hD'
 subst hD
 have hks:∀ p ∈ es,∃ x,p.1 = .string x:=fun p hp=>by obtain ⟨v,hv⟩:=hko p hp;obtain ⟨x,_,hx,_⟩:=Maps.keyOf_str hk hv;exact ⟨x,hx⟩
 refine ⟨?_,fun x=>?_⟩
 ·show (es.map fun p=>strOf p.1).Nodup
  refine List.pairwise_map.2 (hpw.imp_of_mem fun {p q} hp' hq' hne e=>hne ?_)
  obtain ⟨a,ha⟩:=hks p hp'
  obtain ⟨b,hb⟩:=hks q hq'
  rw [ha,hb] at e ⊢
  exact congrArg _ e
 ·show x.data.toList ∈ es.map (fun p=>strOf p.1) ↔ es.any (fun p=>p.1.sameKey (kS x))=true
  rw [List.mem_map,List.any_eq_true]
  constructor
  ·rintro ⟨p,hp,he⟩
   obtain ⟨a,ha⟩:=hks p hp
   refine ⟨p,hp,?_⟩
   rw [ha] at he ⊢
   simpa [Lit.sameKey,kS,strOf] using he
  ·rintro ⟨p,hp,he⟩
   obtain ⟨a,ha⟩:=hks p hp
   refine ⟨p,hp,?_⟩
   rw [ha] at he ⊢
   simpa [Lit.sameKey,kS,strOf] using he
structure Part (a b:List CellD) (D:DataW Unit) (S:ByteArray->Prop):Prop where
 sound:∀ key,Maps.has D (kS key)=true->zeF key a ≠ zeF key b
 full:∀ key,S key->zeF key a ≠ zeF key b->Maps.has D (kS key)=true
theorem Part.start {a b:List CellD} {S:ByteArray->Prop} (h:∀ key,¬ S key):Part a b (.map []) S:=⟨fun key h=>(by cases h),fun key hs=>absurd hs (h key)⟩
theorem Part.skip {a b:List CellD} {D:DataW Unit} {S S':ByteArray->Prop} (h:Part a b D S) (hs:∀ key,S' key->S key ∨ zeF key a=zeF key b):Part a b D S' :=
 ⟨h.sound,fun key hk hne=>(hs key hk).elim (fun h'=>h.full key h' hne) (fun e=>absurd e hne)⟩
theorem Part.put {a b:List CellD} {D:DataW Unit} {S S':ByteArray->Prop} (h:Part a b D S) (hm:Maps.IsMap D) (x:ByteArray) (d:DataW Unit) (hx:zeF x a ≠ zeF x b) (hs:∀ key,S' key->S key ∨ key=x):Part a b (D.put (kS x) d) S':=by
 refine ⟨fun key hk=>?_,fun key hk hne=>?_⟩
 ·by_cases e:key=x
  ·rw [e];exact hx
  ·rw [Maps.has_put_other (fun e'=>e (kS_inj e'))] at hk
   exact h.sound key hk
 ·by_cases e:key=x
  ·rw [e];exact Maps.has_put_same hm (kS_lit _) _
  ·rw [Maps.has_put_other (fun e'=>e (kS_inj e'))]
   exact h.full key ((hs key hk).resolve_right e) hne
theorem left_step {left:Lit->Bool} {x key:ByteArray} (h:(left (kS key) && !(kS key).sameKey (kS x))=false):left (kS key)=false ∨ key=x:=by
 cases hl:left (kS key) with
 | false=>exact .inl rfl
 | true =>
  rw [hl] at h
  right
  rw [<- same_kS]
  cases hk:(kS key).sameKey (kS x) with
  | true=>rfl
  | false=>rw [hk] at h;cases h
theorem got_of {D:DataW Unit} {zs:List CellD} {x c:ByteArray} (hv:VOf D zs) (hat:∀ zd,D.atKey (kS x) zd = .lit (.string c.data.toList)):c=zeF x zs:=by
 have h1:=hat (.lit (.string []))
 rw [hv.at_] at h1
 have h3:(zeF x zs).data.toList=c.data.toList:=Lit.string.inj (DataW.lit.inj h1)
 exact (ByteArray.ext (Array.toList_inj.1 h3)).symm
theorem row_rd {w:World} {B:Nat} {v:Value} {a b:List CellD} {ss:List (List UInt8)} (h:w.ownsRow B 9 1 v ss.length ((ss.mergeSort (fun x y=>decide (x<=y))).map encStr)) (hnd:ss.Nodup) (hm:∀ x:ByteArray,x.data.toList ∈ ss ↔ zeF x a ≠ zeF x b):OwnL zx 9 w B v (diffC a b):=by
 obtain ⟨h1,h2⟩:=sorted_diff a b ss hnd hm
 rw [h1,h2] at h
 exact h
theorem impl_DiffKeys (va vb:Value) (a b:List CellD) (w:World) (ha:RdL zu w va a) (hb:RdL zu w vb b) (hka:∀ c ∈ a,c.ok) (hkb:∀ c ∈ b,c.ok) (hl:a.length<=549755813888) (hl2:b.length<=549755813888) :
  Calls Tryz.prog 102 #[va,vb] w fun e w'=>∃ v',e = .returned v'/\OwnL zx 9 w' w.heap.size v' (diffC a b)/\Below w.heap.size w w':=by
 have HA:=Lib.hid ha
 have HB:=Lib.hid hb
 have HKA:=Lib.hid hka
 have HKB:=Lib.hid hkb
 clear hka hkb ha hb
 have hmm:=@run_makeMap Tryz.prog
 go_enter Tryz.func102,Tryz.ntmps102
 go_wp2_with fail
 (go_at_call 163;refine (impl_valuesOf _ a w HA.out HKA.out (by omega)).mono ?_;rintro e w' ⟨b1,rfl,hb1,D1,hown1,hD1,hbel1⟩;have HD1:=Lib.hid hD1;clear hD1;obtain ⟨X1,rfl⟩:=hbel1.ext;clear hbel1)
 have hl1:=hown1.lt
 have HO1:=Lib.hid hown1
 clear hown1
 go_wp2_with fail
 (go_at_call 163;refine (impl_valuesOf _ b (w.ext X1) (HB.out.ext _) HKB.out (by omega)).mono ?_;rintro e w' ⟨b2,rfl,hb2,D2,hown2,hD2,hbel2⟩;have HD2:=Lib.hid hD2;clear hD2;have hown1:=own_below HO1.out hbel2;have hbb:=Below.trans (show Below w.heap.size w (w.ext X1) from (by repeat (first|with_reducible exact Below.refl _ _|with_reducible apply Below.ofExt))) (hbel2.mono (by simp [zm]));obtain ⟨X,rfl⟩:=hbb.ext;clear hbb hbel2)
 have hb12:b1 < b2:=Nat.lt_of_lt_of_le hl1 hb2
 have hl2':=hown2.lt
 rw [zm] at hl2'
 clear HO1 hl1 hb2
 have HO1:=Lib.hid hown1
 have HO2:=Lib.hid hown2
 clear hown1 hown2
 go_wp2_with ((at_range;refine wpList_range_own _ rfl _ 174 rfl 9 9 (Maps.string_keyed Tryz.underlying9) Tryz.underlying174 (plainElem (H:=Unit) Tryz.prog 9) b1 a.length D1 rfl (HO1.out.alloc _) ?_;intro w0 hrg0 hg0 hs0))
 have hr1:((w.ext X).alloc (.map #[] 0)).heap.size=w.heap.size + X.bs.size + 1:=by simp [zm]
 rw [hr1] at hrg0 hs0
 rw [hr1]
 clear hr1
 go_frame
 have hown20:=(HO2.out.alloc (.map #[] 0)).kept hg0 (by simp)
 have hown30:=(World.ownsMap_made (w.ext X) Tryz.prog 9 (plainElem (H:=Unit) Tryz.prog 4)).kept hg0 (by simp)
 have hbel0:Below w.heap.size w w0:=Below.trans (show Below w.heap.size w ((w.ext X).alloc (.map #[] 0)) from (by repeat (first|with_reducible exact Below.refl _ _|with_reducible apply Below.ofExt|with_reducible apply Below.ofAlloc))) ⟨hg0.os,hg0.tape,hg0.output,hg0.size,fun k hk=>hg0.block k (by simp [zm];omega) (by simp)⟩
 have hcnt0:=(HO1.out.alloc (.map #[] 0)).size_le
 go_loopw [8] (fun _ wr=>∃ left cnt D3 n3,wr.ranges Tryz.prog 9 (plainElem (H:=Unit) Tryz.prog 9) b1 (w.heap.size + X.bs.size + 1) a.length D1 left cnt/\wr.ownsMap Tryz.prog 9 (plainElem (H:=Unit) Tryz.prog 9) b2 b.length D2/\wr.ownsMap Tryz.prog 9 (plainElem (H:=Unit) Tryz.prog 4) (w.heap.size + X.bs.size) n3 D3/\Hid (Part a b D3 (fun key=>a.any (zY key)=true/\left (kS key)=false))/\n3 + cnt<=a.length/\Below w.heap.size w wr) (fun _ wr=>wr.rangeLeft b1 (w.heap.size + X.bs.size + 1))
 case atStart=>exact ⟨_,_,_,0,hrg0,hown20,by simpa [zm] using hown30,Part.start (fun key h=>by have h1:=HD1.out.has_ key;rw [h.1,h.2] at h1;cases h1),by omega,hbel0⟩
 case round =>
  clear hrg0 hg0 hs0 hown20 hown30 hbel0 hcnt0
  obtain ⟨left,cnt,D3,n3,hrg,hown2,hown3,HP,hlen,hbel⟩:=hrel
  obtain ⟨X0,rfl⟩:=hbel.ext
  clear hbel
  have hlt3:=hown3.lt
  rw [zm] at hlt3
  go_wp2_with ((at_next;refine next_ss _ rfl _ rfl 9 9 (Maps.string_keyed Tryz.underlying9) Tryz.underlying9 Tryz.underlying9 b1 (w.heap.size + X.bs.size + 1) a.length _ _ _ rfl hrg ?_ ?_))
  ·intro hc0 hl0
   have HO1:=Lib.hid hrg.owns
   have HP:Hid (Part a b D3 (fun key=>a.any (zY key)=true)):=HP.out.skip (fun key h=>.inl ⟨h,hl0 _⟩)
   clear hrg hl0
   have HO2:=Lib.hid hown2
   have HO3:=Lib.hid hown3
   clear hown2 hown3
   go_wp2_with ((at_range;refine wpList_range_own _ rfl _ 174 rfl 9 9 (Maps.string_keyed Tryz.underlying9) Tryz.underlying174 (plainElem (H:=Unit) Tryz.prog 9) b2 b.length D2 rfl HO2.out ?_;intro w6 hrg6 hg6 hs6))
   have hr2:(w.ext X0).heap.size=w.heap.size + X0.bs.size:=by simp [zm]
   rw [hr2] at hrg6 hs6
   rw [hr2]
   clear hr2
   go_frame
   have hown16:=HO1.out.kept hg6 (by simp)
   have hown36:=HO3.out.kept hg6 (by simp)
   have hbel6:Below w.heap.size w w6:=Below.trans (show Below w.heap.size w (w.ext X0) from (by repeat (first|with_reducible exact Below.refl _ _|with_reducible apply Below.ofExt))) ⟨hg6.os,hg6.tape,hg6.output,hg6.size,fun k hk=>hg6.block k (by simp [zm];omega) (by simp)⟩
   have hcnt6:=HO2.out.size_le
   go_loopw [10] (fun _ wr=>∃ left cnt D3 n3,wr.ranges Tryz.prog 9 (plainElem (H:=Unit) Tryz.prog 9) b2 (w.heap.size + X0.bs.size) b.length D2 left cnt/\wr.ownsMap Tryz.prog 9 (plainElem (H:=Unit) Tryz.prog 9) b1 a.length D1/\wr.ownsMap Tryz.prog 9 (plainElem (H:=Unit) Tryz.prog 4) (w.heap.size + X.bs.size) n3 D3/\Hid (Part a b D3 (fun key=>a.any (zY key)=true ∨ (b.any (zY key)=true/\left (kS key)=false)))/\n3 + cnt<=a.length + b.length/\Below w.heap.size w wr) (fun _ wr=>wr.rangeLeft b2 (w.heap.size + X0.bs.size))
   case atStart=>exact ⟨_,_,_,n3,hrg6,hown16,hown36,HP.out.skip (fun key h=>.inl (h.resolve_right (fun h=>by have h1:=HD2.out.has_ key;rw [h.1,h.2] at h1;cases h1))),by omega,hbel6⟩
   case round =>
    clear hrg6 hg6 hs6 hown16 hown36 hbel6 hcnt6 HP HO1 HO2 HO3 hlen
    obtain ⟨left,cnt,D3,n3,hrg,hown1,hown3,HP,hlen,hbel⟩:=hrel
    obtain ⟨X7,rfl⟩:=hbel.ext
    clear hbel
    have hlt7:=hrg.lt
    rw [zm] at hlt7
    go_wp2_with ((at_next;refine next_ss _ rfl _ rfl 9 9 (Maps.string_keyed Tryz.underlying9) Tryz.underlying9 Tryz.underlying9 b2 (w.heap.size + X0.bs.size) b.length _ _ _ rfl hrg ?_ ?_))
    ·intro hc0 hl0
     have HP:Hid (∀ key:ByteArray,key.data.toList ∈ strKeys D3 ↔ zeF key a ≠ zeF key b):=by
      show ∀ key:ByteArray,_
      intro key
      rw [(strKeys_of hown3 (Maps.string_keyed Tryz.underlying9) Tryz.underlying9).2 key]
      refine ⟨HP.out.sound key,fun hne=>HP.out.full key ?_ hne⟩
      obtain ⟨c,hc,hk⟩:=getC_ne_key hne
      rcases List.mem_append.1 hc with h|h
      ·exact .inl (List.any_eq_true.2 ⟨c,h,isKey_iff.2 hk⟩)
      ·exact .inr ⟨List.any_eq_true.2 ⟨c,h,isKey_iff.2 hk⟩,hl0 _⟩
     have HND:=Lib.hid (strKeys_of hown3 (Maps.string_keyed Tryz.underlying9) Tryz.underlying9).1
     have HO3:=Lib.hid hown3
     have hsz:=hown3.size_le
     clear hrg hl0 hown1 hown3
     go_wp2_with fail
     (go_at_call 165;refine (callsIn_wide.1 (Tryz.maps_Keys_165 (some (w.heap.size + X.bs.size)) _)).mono ?_;rintro e w' ⟨rfl,rfl⟩)
     go_wp2_with fail
     have hst:=callsIn_wide.1 (Tryz.slices_Sorted_keys_164_165 (H:=Unit) (w.heap.size + X.bs.size) n3 D3 (plainElem (H:=Unit) Tryz.prog 4) (w.ext X7) HO3.out (by unfold maxLen;omega) (by omega))
     rw [zm] at hst
     (go_at_call 164;refine (hst).mono ?_;rintro e w' ⟨v,ss,rfl,hperm,hrow,_,hbel⟩)
     clear hst
     have hbw:=Below.then (show Below w.heap.size w ((w.ext X7).alloc (.cells #[.map (some (w.heap.size + X.bs.size))] 176)) from (by repeat (first|with_reducible exact Below.refl _ _|with_reducible apply Below.ofExt|with_reducible apply Below.ofAlloc))) hbel
     have HF:Hid (OwnL zx 9 w' w.heap.size v (diffC a b)):=OwnL.base (B':=w.heap.size) (row_rd hrow (hperm.symm.nodup HND.out) (fun x=>by rw [hperm.mem_iff];exact HP.out x)) (by simp [zm];try omega)
     clear hrow hbel hperm
     go_wp2
     go_ret
     exact ⟨_,rfl,HF.out,hbw⟩
    ·intro x c w1 cnt1 hwx hwc hlx hat hrg1 hlt1 hg1 hs1 hen
     have hown1n:=hown1.kept hg1 (by simp;omega)
     have hown3n:=hown3.kept hg1 (by simp;omega)
     obtain rfl:=got_of HD2.out hat
     have hb1n:=Below.trans (show Below w.heap.size w (w.ext X7) from (by repeat (first|with_reducible exact Below.refl _ _|with_reducible apply Below.ofExt))) (below_grown hg1 (show w.heap.size<=w.heap.size + X0.bs.size by omega) (by simp [zm]))
     have HM:Hid (w1.rangeLeft b2 (w.heap.size + X0.bs.size) < (w.ext X7).rangeLeft b2 (w.heap.size + X0.bs.size)):=by show _ < _;rw [hrg1.left_eq,hrg.left_eq];exact hlt1
     obtain ⟨X2,rfl⟩:=hb1n.ext
     have hlook:=look_s hown1n HD1.out x hwx
     have HR1:=Lib.hid hrg1
     have H1:=Lib.hid hown1n
     have H3:=Lib.hid hown3n
     clear hg1 hs1 hrg1 hown1n hown3n hown1 hown3 hrg hat hb1n hlx
     by_cases heq:zeF x a=zeF x b
     ·have heq':((zeF x a).toList == (zeF x b).toList)=true:=by rw [beq_iff_eq,heq]
      have HS:Hid (Part a b D3 (fun key=>a.any (zY key)=true ∨ (b.any (zY key)=true/\(left (kS key) && !(kS key).sameKey (kS x))=false))):=HP.out.skip (fun key hk=>hk.elim (fun h=>.inl (.inl h)) (fun hk=>(left_step hk.2).elim (fun h=>.inl (.inr ⟨hk.1,h⟩)) (fun h=>.inr (by rw [h,heq]))))
      clear heq
      go_wp2
      go_roundw
      case rel=>exact ⟨_,_,_,_,HR1.out,H1.out,H3.out,HS,by omega,(by repeat (first|with_reducible exact Below.refl _ _|with_reducible apply Below.ofExt))⟩
      case measure=>exact HM.out
     ·have heq':((zeF x a).toList == (zeF x b).toList)=false:=by rw [beq_eq_false_iff_ne,bl,bl];exact fun e=>heq (ByteArray.ext (Array.toList_inj.1 e))
      have HS:Hid (Part a b (D3.put (kS x) (.lit (.bool true))) (fun key=>a.any (zY key)=true ∨ (b.any (zY key)=true/\(left (kS key) && !(kS key).sameKey (kS x))=false))):=HP.out.put H3.out.isMap x _ heq (fun key hk=>hk.elim (fun h=>.inl (.inl h)) (fun hk=>(left_step hk.2).elim (fun h=>.inl (.inr ⟨hk.1,h⟩)) .inr))
      have hkm:keyOf Tryz.prog 9 (.string x)=some (kS x):=WideMaps.keyOf_string_mk Tryz.underlying9 hwx
      have HKM:=Lib.hid hkm
      clear heq hkm
      go_wp2_with (first|(at_mapUpdate;refine wpList_mapUpdate_own _ rfl _ _ _ 176 rfl 9 4 (Maps.string_keyed Tryz.underlying9) Tryz.underlying176 (plainElem (H:=Unit) Tryz.prog 4) (w.heap.size + X.bs.size) n3 D3 rfl H3.out (by unfold maxLen;omega) _ _ (kS x) rfl rfl HKM.out (.lit (.bool true)) [] (plainElem_bool Tryz.underlying4 true) ?_;intro w5 hown5 hg5))
      have hr5:=HR1.out.kept hg5 (by simp;omega) (by simp;omega)
      have ho5:=H1.out.kept hg5 (by simp;omega)
      have hb5:=Below.trans (show Below w.heap.size w _ from (by repeat (first|with_reducible exact Below.refl _ _|with_reducible apply Below.ofExt))) (below_grown hg5 (show w.heap.size<=w.heap.size + X.bs.size by omega) (by simp [zm]))
      have HM5:Hid (w5.rangeLeft b2 (w.heap.size + X0.bs.size) < (w.ext X7).rangeLeft b2 (w.heap.size + X0.bs.size)):=by show _ < _;rw [hr5.left_eq,<- HR1.out.left_eq];exact HM.out
      clear hg5
      go_frame
      go_roundw
      case rel=>exact ⟨_,_,_,_,hr5,ho5,hown5,HS,by omega,hb5⟩
      case measure=>exact HM5.out
  ·intro x c w1 cnt1 hwx hwc hlx hat hrg1 hlt1 hg1 hs1 hen
   have hown2n:=hown2.kept hg1 (by simp;omega)
   have hown3n:=hown3.kept hg1 (by simp)
   obtain rfl:=got_of HD1.out hat
   have hb1n:=Below.trans (show Below w.heap.size w (w.ext X0) from (by repeat (first|with_reducible exact Below.refl _ _|with_reducible apply Below.ofExt))) (below_grown hg1 (show w.heap.size<=w.heap.size + X.bs.size + 1 by omega) (by simp [zm]))
   have HM:Hid (w1.rangeLeft b1 (w.heap.size + X.bs.size + 1) < (w.ext X0).rangeLeft b1 (w.heap.size + X.bs.size + 1)):=by show _ < _;rw [hrg1.left_eq,hrg.left_eq];exact hlt1
   obtain ⟨X2,rfl⟩:=hb1n.ext
   have hlook:=look_s hown2n HD2.out x hwx
   have HR1:=Lib.hid hrg1
   have H2:=Lib.hid hown2n
   have H3:=Lib.hid hown3n
   have HLX:=Lib.hid hlx
   clear hg1 hs1 hrg1 hown2n hown3n hown2 hown3 hrg hat hb1n hlx
   by_cases heq:zeF x b=zeF x a
   ·have heq':((zeF x b).toList == (zeF x a).toList)=true:=by rw [beq_iff_eq,heq]
    have HS:Hid (Part a b D3 (fun key=>a.any (zY key)=true/\(left (kS key) && !(kS key).sameKey (kS x))=false)):=HP.out.skip (fun key hk=>(left_step hk.2).elim (fun h=>.inl ⟨hk.1,h⟩) (fun h=>.inr (by rw [h,heq])))
    clear heq
    go_wp2
    go_roundw
    case rel=>exact ⟨_,_,_,_,HR1.out,H2.out,H3.out,HS,by omega,(by repeat (first|with_reducible exact Below.refl _ _|with_reducible apply Below.ofExt))⟩
    case measure=>exact HM.out
   ·have heq':((zeF x b).toList == (zeF x a).toList)=false:=by rw [beq_eq_false_iff_ne,bl,bl];exact fun e=>heq (ByteArray.ext (Array.toList_inj.1 e))
    have HS:Hid (Part a b (D3.put (kS x) (.lit (.bool true))) (fun key=>a.any (zY key)=true/\(left (kS key) && !(kS key).sameKey (kS x))=false)):=HP.out.put H3.out.isMap x _ (fun e=>heq e.symm) (fun key hk=>(left_step hk.2).elim (fun h=>.inl ⟨hk.1,h⟩) .inr)
    have hkm:keyOf Tryz.prog 9 (.string x)=some (kS x):=WideMaps.keyOf_string_mk Tryz.underlying9 hwx
    have HKM:=Lib.hid hkm
    clear heq hkm
    go_wp2_with (first|(at_mapUpdate;refine wpList_mapUpdate_own _ rfl _ _ _ 176 rfl 9 4 (Maps.string_keyed Tryz.underlying9) Tryz.underlying176 (plainElem (H:=Unit) Tryz.prog 4) (w.heap.size + X.bs.size) n3 D3 rfl H3.out (by unfold maxLen;omega) _ _ (kS x) rfl rfl HKM.out (.lit (.bool true)) [] (plainElem_bool Tryz.underlying4 true) ?_;intro w5 hown5 hg5))
    have hr5:=HR1.out.kept hg5 (by simp;omega) (by simp)
    have ho5:=H2.out.kept hg5 (by simp;omega)
    have hb5:=Below.trans (show Below w.heap.size w _ from (by repeat (first|with_reducible exact Below.refl _ _|with_reducible apply Below.ofExt))) (below_grown hg5 (show w.heap.size<=w.heap.size + X.bs.size by omega) (by simp [zm]))
    have HM5:Hid (w5.rangeLeft b1 (w.heap.size + X.bs.size + 1) < (w.ext X0).rangeLeft b1 (w.heap.size + X.bs.size + 1)):=by show _ < _;rw [hr5.left_eq,<- HR1.out.left_eq];exact HM.out
    clear hg5
    go_frame
    go_roundw
    case rel=>exact ⟨_,_,_,_,hr5,ho5,hown5,HS,by omega,hb5⟩
    case measure=>exact HM5.out
theorem _root_.Go.OwnL.apart {α β : Type} {R:RowOf α} {R':RowOf β} {e e':TypeId} {w:World} {B B':Nat} {v v':Value} {xs:List α} {ys:List β} (h:OwnL R e w B v xs) (h':OwnL R' e' w B' v' ys) (he:e ≠ e'):v.ownBlock=none ∨ v.ownBlock ≠ v'.ownBlock:=by
 rcases h.2 with ⟨rfl,h0⟩|⟨g,cap,cur,rfl,hg,hh,_⟩
 ·exact .inl rfl
 ·right
  rcases h'.2 with ⟨rfl,_⟩|⟨g',cap',cur',rfl,hg',hh',_⟩
  ·simp [Value.ownBlock]
  ·intro hb
   have hb:g=g':=by simpa [Value.ownBlock] using hb
   subst hb
   rw [hh] at hh'
   injection hh' with hh'
   injection hh' with _ hh'
   exact he hh'
end Go.Proofs.YtgcmnkkakngifaaGreatDoor
