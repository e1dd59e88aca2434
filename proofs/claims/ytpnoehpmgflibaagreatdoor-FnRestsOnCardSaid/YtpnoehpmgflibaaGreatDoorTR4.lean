/- Texts of this claim, merged: the walks and what they stand on. Each condition stands in its theorem. -/
import Derived.Shelf.SlGeneric
import Derived.Shelf.SlIter.Nil
import Derived.Shelf.SortM.Plain
import Derived.Shelf.SortM.SortNone
import Derived.Test.YtpnoehpmgflibaaGreatDoorCA4
import Derived.Test.YtpnoehpmgflibaaGreatDoorProg
import Derived.Test.YtpnoehpmgflibaaGreatDoorTR3
set_option linter.unusedVariables false
set_option linter.unusedSimpArgs false
set_option maxRecDepth 100000
set_option maxHeartbeats 8000000
namespace Go.Proofs.YtpnoehpmgflibaaGreatDoor
open Go.ChangeShapes Go.WideShapes Go.ChangeAt Go.RowKit
theorem OwnL.heapEq' {α : Type} {R:RowOf α} {e:TypeId} {w w':World} {B:Nat} {v:Value} {xs:List α} (h:OwnL R e w B v xs) (he:w'.heap=w.heap):OwnL R e w' B v xs:=by
 cases w
 cases w'
 cases he
 exact h
theorem OwnL.mergeC' {α : Type} {R:RowOf α} {e:TypeId} {w:World} {B:Nat} {v:Value} {xs:List α} {bs cs:Array Obj} {d0 dr:Nat} (h:OwnL R e (w.ext ⟨bs,d0⟩) B v xs):OwnL R e (w.ext ⟨bs++cs,dr⟩) B v xs:=by
 have:=h.ext ⟨cs,dr⟩
 rwa [zp] at this
theorem foldl_take_snoc {α β : Type} (f : β->α->β) (acc : β) (zs:List α) (n:Nat) (h:n<zs.length):(zs.take (n+1)).foldl f acc=f ((zs.take n).foldl f acc) zs[n]:=by
 rw [List.take_succ_eq_append_getElem h,foldl_snoc]
theorem spec_DiffKeys (va vb:Value) (a b:List CellD) (w:World) (ha:RdL zu w va a) (hb:RdL zu w vb b) (hl:a.length<=549755813888) (hl2:b.length<=549755813888) :
  Calls Tryz.prog 45 #[va,vb] w fun e w'=>∃ v',e=.returned v'/\OwnL zx 9 w' w.heap.size v' (diffC a b)/\Below w.heap.size w w':=by
 have HA:=Hd ha
 have HB:=Hd hb
 obtain ⟨aa,ca,rfl,ha1,ha2,_,hane⟩:=ha.shape
 obtain ⟨ab,cb,rfl,hb1,hb2,_,hbne⟩:=hb.shape
 have HXA:=Hd hane
 have HXB:=Hd hbne
 clear ha hb hane hbne
 unfold maxLen at ha2 hb2
 go_enter Tryz.func45,Tryz.ntmps45
 go_wp2
 go_loopw [5,6] (fun s k wr=>∃ (n:Nat),k=.int .i64 n/\n<=a.length+b.length/\OwnL zx 9 wr w.heap.size s (((a++b).take n).foldl (diffStep a b) [])/\Below w.heap.size w wr) (fun _ k _=>a.length+b.length - (intOf k).toNat)
 case atStart=>exact ⟨0,rfl,by omega,OwnL.empty zx 9 w,(by repeat (first|with_reducible exact Below.refl _ _|with_reducible apply Below.ofAlloc))⟩
 case round =>
  obtain ⟨n,rfl,hn,hrd,hbel⟩:=hrel
  obtain ⟨X,rfl⟩:=hbel.ext
  have hlen:=diffF_len a b ((a++b).take n) []
  rw [List.length_nil,List.length_take,List.length_append] at hlen
  have hlen:(((a++b).take n).foldl (diffStep a b) []).length<=1099511627776:=by omega
  have HR:=Hd hrd
  clear hrd hbel
  by_cases hlt:(n:Int)<a.length+b.length
  case pos =>
   have hk:n<(a++b).length:=by rw [List.length_append];omega
   have hst:=foldl_take_snoc (diffStep a b) [] (a++b) n hk
   have hget:∃ c,c=(a++b)[n]/\((h:n<a.length)->c=a[n])/\((h:¬ n<a.length)->c=b[n - a.length]'(by rw [List.length_append] at hk;omega)):=⟨_,rfl,fun h=>List.getElem_append_left h,fun h=>List.getElem_append_right (by omega)⟩
   obtain ⟨c,hc,hca,hcb⟩:=hget
   rw [<- hc] at hst
   clear hc
   generalize ((a++b).take n).foldl (diffStep a b) []=acc at *
   have HST:=Hd hst
   have HCB:=Hd hcb
   have HCA:=Hd hca
   clear hst hca hcb hk
   by_cases hin:(n:Int)<a.length
   case pos =>
    have hin':n<a.length:=by omega
    obtain ⟨ba,off,rfl,hbl,hcell⟩:=HXA.out (by intro e;simp [e] at hin')
    have y0:w.cell? ⟨ba,off+n*2,none⟩=some (.string c.key):=by rw [HCA.out hin'];exact hcell n hin' 0 _ rfl
    have hbl:=hbl (by decide)
    have hbl2:ba<w.heap.size+X.bs.size:=by omega
    clear hcell
    go_wp2_with fail
    (go_at_call 51;refine (zgw _ a c.key _ (HA.out.ext _)).mono ?_;rintro e w' ⟨rfl,hb⟩;obtain ⟨X,rfl⟩:=hb.ext;clear hb)
    go_wp2_with fail
    (go_at_call 51;refine (zgw _ b c.key _ (HB.out.ext _)).mono ?_;rintro e w' ⟨rfl,hb⟩;obtain ⟨X,rfl⟩:=hb.ext;clear hb)
    by_cases heq:zbm c.key a=zbm c.key b
    ·have heq':((zbm c.key a).toList==(zbm c.key b).toList)=true:=by rw [beq_iff_eq,heq]
     have HE:Hid (diffStep a b acc c=acc):=by show _ = _;unfold diffStep;rw [if_pos heq]
     clear heq
     go_wp2
     go_roundw
     case rel=>exact ⟨n+1,by go_num,by omega,by rw [HST.out,HE.out];exact (by (try simp only [<- Array.append_assoc]);(repeat (first|with_reducible exact HR.out|with_reducible apply OwnL.mergeC'));all_goals exact (0:Nat)),(by repeat (first|with_reducible exact Below.refl _ _|with_reducible apply Below.ofExt))⟩
     case measure=>simp [intOf];omega
    ·have heq':((zbm c.key a).toList==(zbm c.key b).toList)=false:=by rw [beq_eq_false_iff_ne,bl,bl];exact fun e=>heq (ByteArray.ext (Array.toList_inj.1 e))
     have HE:Hid (diffStep a b acc c=zb3 acc c.key):=by show _ = _;unfold diffStep;rw [if_neg heq]
     clear heq
     go_wp2_with fail
     (go_at_call 104;refine (spec_l02PutO _ acc c.key _ w.heap.size (by (try simp only [<- Array.append_assoc]);(repeat (first|with_reducible exact HR.out|with_reducible apply OwnL.mergeC'));all_goals exact (0:Nat)) (by simp [zm]) (by omega)).mono ?_;rintro e w' ⟨v',rfl,hr',hb'⟩;obtain ⟨Y,rfl⟩:=hb'.ext;have HP:=Hd hr';clear hr' hb')
     go_wp2
     go_roundw
     case rel=>exact ⟨n+1,by go_num,by omega,by rw [HST.out,HE.out];exact OwnL.heapEq' HP.out (by simp [World.ext,World.drew,Array.append_assoc]),(by repeat (first|with_reducible exact Below.refl _ _|with_reducible apply Below.ofExt))⟩
     case measure=>simp [intOf];omega
   case neg =>
    have hin':¬ n<a.length:=by omega
    have hin2:n - a.length<b.length:=by omega
    obtain ⟨ba,off,rfl,hbl,hcell⟩:=HXB.out (by intro e;simp [e] at hin2)
    have y0:w.cell? ⟨ba,off+(n - a.length)*2,none⟩=some (.string c.key):=by rw [HCB.out hin'];exact hcell (n - a.length) hin2 0 _ rfl
    have hbl:=hbl (by decide)
    have hbl2:ba<w.heap.size+X.bs.size:=by omega
    clear hcell
    obtain ⟨m,hm⟩ : ∃ m,n=a.length+m:=⟨n - a.length,by omega⟩
    subst hm
    rw [Nat.add_sub_cancel_left] at y0 hin2
    go_wp2_with fail
    (go_at_call 51;refine (zgw _ a c.key _ (HA.out.ext _)).mono ?_;rintro e w' ⟨rfl,hb⟩;obtain ⟨X,rfl⟩:=hb.ext;clear hb)
    go_wp2_with fail
    (go_at_call 51;refine (zgw _ b c.key _ (HB.out.ext _)).mono ?_;rintro e w' ⟨rfl,hb⟩;obtain ⟨X,rfl⟩:=hb.ext;clear hb)
    by_cases heq:zbm c.key a=zbm c.key b
    ·have heq':((zbm c.key a).toList==(zbm c.key b).toList)=true:=by rw [beq_iff_eq,heq]
     have HE:Hid (diffStep a b acc c=acc):=by show _ = _;unfold diffStep;rw [if_pos heq]
     clear heq
     go_wp2
     go_roundw
     case rel=>exact ⟨a.length+m+1,by go_num,by omega,by rw [HST.out,HE.out];exact (by (try simp only [<- Array.append_assoc]);(repeat (first|with_reducible exact HR.out|with_reducible apply OwnL.mergeC'));all_goals exact (0:Nat)),(by repeat (first|with_reducible exact Below.refl _ _|with_reducible apply Below.ofExt))⟩
     case measure=>simp [intOf];omega
    ·have heq':((zbm c.key a).toList==(zbm c.key b).toList)=false:=by rw [beq_eq_false_iff_ne,bl,bl];exact fun e=>heq (ByteArray.ext (Array.toList_inj.1 e))
     have HE:Hid (diffStep a b acc c=zb3 acc c.key):=by show _ = _;unfold diffStep;rw [if_neg heq]
     clear heq
     go_wp2_with fail
     (go_at_call 104;refine (spec_l02PutO _ acc c.key _ w.heap.size (by (try simp only [<- Array.append_assoc]);(repeat (first|with_reducible exact HR.out|with_reducible apply OwnL.mergeC'));all_goals exact (0:Nat)) (by simp [zm]) (by omega)).mono ?_;rintro e w' ⟨v',rfl,hr',hb'⟩;obtain ⟨Y,rfl⟩:=hb'.ext;have HP:=Hd hr';clear hr' hb')
     go_wp2
     go_roundw
     case rel=>exact ⟨a.length+m+1,by go_num,by omega,by rw [HST.out,HE.out];exact OwnL.heapEq' HP.out (by simp [World.ext,World.drew,Array.append_assoc]),(by repeat (first|with_reducible exact Below.refl _ _|with_reducible apply Below.ofExt))⟩
     case measure=>simp [intOf];omega
  case neg =>
   have e:n=a.length+b.length:=by omega
   have HF:Hid (((a++b).take n).foldl (diffStep a b) []=diffC a b):=by show _ = _;rw [e,<- List.length_append,List.take_length];rfl
   go_wp2
   go_ret
   exact ⟨_,rfl,by rw [<- HF.out];exact HR.out,(by repeat (first|with_reducible exact Below.refl _ _|with_reducible apply Below.ofExt))⟩
end Go.Proofs.YtpnoehpmgflibaaGreatDoor
namespace Go.Proofs.YtpnoehpmgflibaaGreatDoor
open Go.Proofs Go.RowKit Go.Maps Go.Sort Go.Shelf
def Tryz.keys94_ren:Go.Shelf.Ren:=⟨fun|7=>94|10=>166|n=>n,fun|23=>124|26=>9|3=>4|28=>127|0=>0|27=>126|33=>81|4=>4|n=>n,fun|n=>n⟩
theorem Tryz.keys94:Go.Proofs.SlLaysZ.n7 Tryz.prog Tryz.keys94_ren:={
 mixed:=by kernel_rfl
 f7:=⟨Tryz.f94.name,by decide,Tryz.func94.trans (congrArg some (by kernel_rfl))⟩
 f10:=⟨Tryz.f166.name,by decide,Tryz.func166.trans (congrArg some (by kernel_rfl))⟩
 t0:=Tryz.underlying0
 a0:=Tryz.isAgg0
 z0:=Tryz.sizeOf0
 v0:=Tryz.zeroValue0
 t4:=Tryz.underlying4
 a4:=Tryz.isAgg4
 z4:=Tryz.sizeOf4
 v4:=Tryz.zeroValue4
 t23:=Tryz.underlying124
 a23:=Tryz.isAgg124
 z23:=Tryz.sizeOf124
 v23:=Tryz.zeroValue124
 t26:=Tryz.underlying9
 a26:=Tryz.isAgg9
 z26:=Tryz.sizeOf9
 v26:=Tryz.zeroValue9
 t27:=Tryz.underlying126
 a27:=Tryz.isAgg126
 z27:=Tryz.sizeOf126
 v27:=Tryz.zeroValue126
 t28:=Tryz.underlying127
 a28:=Tryz.isAgg127
 z28:=Tryz.sizeOf127
 v28:=Tryz.zeroValue127
 t33:=Tryz.underlying81
 a33:=Tryz.isAgg81
 z33:=Tryz.sizeOf81
 v33:=Tryz.zeroValue81 }
def Tryz.sorted93_ren:Go.Shelf.Ren:=⟨fun|6=>93|8=>164|9=>165|11=>216|13=>218|12=>217|23=>247|24=>248|14=>238|15=>239|16=>240|17=>241|18=>242|19=>243|20=>244|21=>245|22=>246|25=>262|26=>263|27=>264|28=>265|29=>266|30=>267|31=>280|n=>n,fun|26=>9|28=>127|24=>31|0=>0|3=>3|37=>185|48=>212|50=>214|4=>4|40=>206|39=>205|45=>187|5=>5|9=>9|51=>225|55=>229|57=>241|58=>103|33=>81|n=>n,fun|n=>n⟩
theorem Tryz.sorted93:Go.Proofs.SlLaysZ.n6 Tryz.prog Tryz.sorted93_ren:={
 mixed:=by kernel_rfl
 f6:=⟨Tryz.f93.name,by decide,Tryz.func93.trans (congrArg some (by kernel_rfl))⟩
 f8:=⟨Tryz.f164.name,by decide,Tryz.func164.trans (congrArg some (by kernel_rfl))⟩
 f11:=⟨Tryz.f216.name,by decide,Tryz.func216.trans (congrArg some (by kernel_rfl))⟩
 t0:=Tryz.underlying0
 a0:=Tryz.isAgg0
 z0:=Tryz.sizeOf0
 v0:=Tryz.zeroValue0
 t24:=Tryz.underlying31
 a24:=Tryz.isAgg31
 z24:=Tryz.sizeOf31
 v24:=Tryz.zeroValue31
 t26:=Tryz.underlying9
 a26:=Tryz.isAgg9
 z26:=Tryz.sizeOf9
 v26:=Tryz.zeroValue9
 t28:=Tryz.underlying127
 a28:=Tryz.isAgg127
 z28:=Tryz.sizeOf127
 v28:=Tryz.zeroValue127
 i26:=by kernel_rfl }
def Tryz.sort165_ren:Go.Shelf.Ren:=⟨fun|6=>165|8=>218|9=>217|19=>247|20=>248|21=>238|22=>239|23=>240|24=>241|25=>242|26=>243|27=>244|28=>245|29=>246|36=>262|31=>263|32=>264|37=>265|38=>266|39=>267|41=>280|n=>n,fun|27=>31|29=>9|3=>3|32=>185|26=>31|0=>0|44=>212|46=>214|4=>4|36=>206|35=>205|41=>187|5=>5|9=>9|53=>225|57=>229|63=>241|64=>103|n=>n,fun|n=>n⟩
theorem Tryz.sort165:Go.Proofs.SlLaysM.n6 Tryz.prog Tryz.sort165_ren:={
 mixed:=by kernel_rfl
 f6:=⟨Tryz.f165.name,by decide,Tryz.func165.trans (congrArg some (by kernel_rfl))⟩
 f8:=Tryz.func218.trans (congrArg some (by kernel_rfl))
 f9:=⟨Tryz.f217.name,by decide,Tryz.func217.trans (congrArg some (by kernel_rfl))⟩
 f19:=Tryz.func247.trans (congrArg some (by kernel_rfl))
 f20:=Tryz.func248.trans (congrArg some (by kernel_rfl))
 f21:=⟨Tryz.f238.name,by decide,Tryz.func238.trans (congrArg some (by kernel_rfl))⟩
 f22:=⟨Tryz.f239.name,by decide,Tryz.func239.trans (congrArg some (by kernel_rfl))⟩
 f23:=⟨Tryz.f240.name,by decide,Tryz.func240.trans (congrArg some (by kernel_rfl))⟩
 f24:=⟨Tryz.f241.name,by decide,Tryz.func241.trans (congrArg some (by kernel_rfl))⟩
 f25:=⟨Tryz.f242.name,by decide,Tryz.func242.trans (congrArg some (by kernel_rfl))⟩
 f26:=⟨Tryz.f243.name,by decide,Tryz.func243.trans (congrArg some (by kernel_rfl))⟩
 f27:=⟨Tryz.f244.name,by decide,Tryz.func244.trans (congrArg some (by kernel_rfl))⟩
 f28:=⟨Tryz.f245.name,by decide,Tryz.func245.trans (congrArg some (by kernel_rfl))⟩
 f29:=⟨Tryz.f246.name,by decide,Tryz.func246.trans (congrArg some (by kernel_rfl))⟩
 f31:=Tryz.func263.trans (congrArg some (by kernel_rfl))
 f32:=Tryz.func264.trans (congrArg some (by kernel_rfl))
 f36:=⟨Tryz.f262.name,by decide,Tryz.func262.trans (congrArg some (by kernel_rfl))⟩
 f37:=⟨Tryz.f265.name,by decide,Tryz.func265.trans (congrArg some (by kernel_rfl))⟩
 f38:=⟨Tryz.f266.name,by decide,Tryz.func266.trans (congrArg some (by kernel_rfl))⟩
 f39:=⟨Tryz.f267.name,by decide,Tryz.func267.trans (congrArg some (by kernel_rfl))⟩
 f41:=⟨Tryz.f280.name,by decide,Tryz.func280.trans (congrArg some (by kernel_rfl))⟩
 t0:=Tryz.underlying0
 a0:=Tryz.isAgg0
 z0:=Tryz.sizeOf0
 v0:=Tryz.zeroValue0
 t3:=Tryz.underlying3
 a3:=Tryz.isAgg3
 z3:=Tryz.sizeOf3
 v3:=Tryz.zeroValue3
 t4:=Tryz.underlying4
 a4:=Tryz.isAgg4
 z4:=Tryz.sizeOf4
 v4:=Tryz.zeroValue4
 t5:=Tryz.underlying5
 a5:=Tryz.isAgg5
 z5:=Tryz.sizeOf5
 v5:=Tryz.zeroValue5
 t9:=Tryz.underlying9
 a9:=Tryz.isAgg9
 z9:=Tryz.sizeOf9
 v9:=Tryz.zeroValue9
 t26:=Tryz.underlying31
 a26:=Tryz.isAgg31
 z26:=Tryz.sizeOf31
 v26:=Tryz.zeroValue31
 t27:=Tryz.underlying31
 a27:=Tryz.isAgg31
 z27:=Tryz.sizeOf31
 v27:=Tryz.zeroValue31
 t29:=Tryz.underlying9
 a29:=Tryz.isAgg9
 z29:=Tryz.sizeOf9
 v29:=Tryz.zeroValue9
 t32:=Tryz.underlying185
 a32:=Tryz.isAgg185
 z32:=Tryz.sizeOf185
 v32:=Tryz.zeroValue185
 t35:=Tryz.underlying205
 a35:=Tryz.isAgg205
 z35:=Tryz.sizeOf205
 v35:=Tryz.zeroValue205
 t36:=Tryz.underlying206
 a36:=Tryz.isAgg206
 z36:=Tryz.sizeOf206
 v36:=Tryz.zeroValue206
 t41:=Tryz.underlying187
 a41:=Tryz.isAgg187
 z41:=Tryz.sizeOf187
 v41:=Tryz.zeroValue187
 t44:=Tryz.underlying212
 a44:=Tryz.isAgg212
 z44:=Tryz.sizeOf212
 v44:=Tryz.zeroValue212
 t46:=Tryz.underlying214
 a46:=Tryz.isAgg214
 z46:=Tryz.sizeOf214
 v46:=Tryz.zeroValue214
 t53:=Tryz.underlying225
 a53:=Tryz.isAgg225
 z53:=Tryz.sizeOf225
 v53:=Tryz.zeroValue225
 t57:=Tryz.underlying229
 a57:=Tryz.isAgg229
 z57:=Tryz.sizeOf229
 v57:=Tryz.zeroValue229
 t63:=Tryz.underlying241
 a63:=Tryz.isAgg241
 z63:=Tryz.sizeOf241
 v63:=Tryz.zeroValue241
 t64:=Tryz.underlying103
 a64:=Tryz.isAgg103
 z64:=Tryz.sizeOf103
 v64:=Tryz.zeroValue103 }
theorem Tryz.sorts93 (m:Nat):AnyZ.SortsIn Tryz.prog Tryz.sorted93_ren Fence.wide m :=
  ⟨fun blk off cap ss W hH hblk hsz=>callsIn_wide.2 (AnyM.slices_Sort_string Tryz.sort165 blk off cap ss W hH hblk hsz),
   fun p cap W=>callsIn_wide.2 (AnyM.slices_Sort_string_none Tryz.sort165 p cap W)⟩
theorem Tryz.maps_Keys_94 (mb:Option Nat) (W:World):CallsIn Fence.wide 5 Tryz.prog 94 #[.map mb] W fun e w'=>e=.returned (.func (.func 166) #[] #[.pointer (some ⟨W.heap.size,0,none⟩)])/\w'=W.alloc (.cells #[.map mb] 124) :=
 AnyZ.keys_in Tryz.keys94 Fence.wide 5 trivial rfl mb W
theorem Tryz.slices_Sorted_keys_93_94 {H:Type} (b nn:Nat) (D0:DataW H) (R:Value->Option (DataW H × List MemPlace)) (w:World) (hown:w.ownsMap Tryz.prog 9 R b nn D0) (hmax:Maps.size D0<=maxLen) (hbytes:Maps.size D0*16<=140737488355328) :
  CallsIn Fence.wide 5 Tryz.prog 93 #[.func (.func 166) #[] #[.pointer (some ⟨w.heap.size,0,none⟩)]] (w.alloc (.cells #[.map (some b)] 124)) fun e w'=>∃ (v:Value) (ss:List (List UInt8)),e=.returned v/\ss.Perm (strKeys D0) /\
   w'.ownsRow (w.alloc (.cells #[.map (some b)] 124)).heap.size 9 1 v ss.length ((ss.mergeSort (fun x y=>decide (x<=y))).map encStr)/\(v=.slice none 0 0 ↔ ss = [])/\Below (w.alloc (.cells #[.map (some b)] 124)).heap.size (w.alloc (.cells #[.map (some b)] 124)) w':=by
 have hbl:=hown.lt
 have hseq:SeqGives Fence.wide 2 Tryz.prog 166 #[.pointer (some ⟨w.heap.size,0,none⟩)] encStr (fun ss=>ss.Perm (strKeys D0)) (Maps.size D0) (w.alloc (.cells #[.map (some b)] 124)) :=
  AnyZ.keys_gives (ρ:=Tryz.keys94_ren) { Tryz.keys94 with } Fence.wide _ trivial rfl (by omega) w.heap.size b nn D0 _ (by simp) (by simp) (by
   obtain ⟨es,clock,hb,Ft,hs,hD⟩:=hown
   exact ⟨es,clock,(Below.heap_alloc _ _ b hbl).trans hb,Ft,hs,hD⟩)
 exact AnyZ.sorted_in Tryz.sorted93 Fence.wide 5 trivial trivial trivial trivial rfl (by omega) (Tryz.sorts93 _) (enters_of Tryz.func165 (by kernel_rfl) rfl) 166 #[.pointer (some ⟨w.heap.size,0,none⟩)] trivial (enters_of Tryz.func166 (by kernel_rfl) rfl) _ _ hmax hbytes _ hseq
theorem next_ss {H:Type} {P:Program} (w:World) {ops:Array Oper} {rest:List Oper} {o:Oper} {a:Act} {Q:Exit->Act->World->Prop}
  (hg:o.guard=none) (it:Operand) (hop:o.op=Op.next it false) (k e:TypeId) (K:Maps.Keyed P k) (hk:P.underlying k=some .string) (he:P.underlying e=some .string)
  (b r n:Nat) (D:DataW H) (left:Lit->Bool) (cnt:Nat) (hit:a.eval it=.pointer (some ⟨r,0,none⟩)) (h:w.ranges P k (plainElem P e) b r n D left cnt)
  (hDone:cnt=0->(∀ kl,left kl=false)->wpList P ops Q rest (a.put o.dst (.tuple #[.bool false])) w)
  (hMore : ∀ (x c : ByteArray) (w' : World) (cnt' : Nat), x.size <= maxLen -> c.size <= maxLen -> left (kS x) = true -> (∀ zd, D.atKey (kS x) zd = .lit (.string c.data.toList)) -> w'.ranges P k (plainElem P e) b r n D (fun z => left z && !z.sameKey (kS x)) cnt' -> cnt' < cnt ->
   w.grownBy w' (some r)->w'.heap.size=w.heap.size->(Instr.entry (.pointer (some ⟨r,0,none⟩))).run P w'=.ok (.tuple #[.string x,.string c]) w'->wpList P ops Q rest (a.put o.dst (.tuple #[.bool true,.string x,.string c])) w') :
  wpList P ops Q (o :: rest) a w :=
 wpList_next_ranges w hg it hop k K (plainElem P e) Value.string Value.string (fun key kl hkey=>by obtain ⟨x,rfl,_⟩:=Maps.keyOf_str hk hkey;exact ⟨_,rfl⟩) (fun v y hv=>by obtain ⟨c,rfl,_⟩:=plainElem_string_inv he hv;exact ⟨c,rfl⟩)
  b r n D left cnt hit h hDone (fun x c kl y w' cnt' hkey hlk hv hat hrg hlt hgr hsz hen=>by
   obtain ⟨x',ex,rfl,hwx⟩:=Maps.keyOf_str hk hkey
   injection ex with ex
   subst ex
   obtain ⟨c',ec,rfl,hwc⟩:=plainElem_string_inv he hv
   cases ec
   exact hMore _ c w' cnt' (by simpa [ByteArray.size] using hwx) hwc hlk hat hrg hlt hgr hsz hen)
theorem own_below {P:Program} {k:TypeId} {R:Value->Option (DataW Unit × List MemPlace)} {w w':World} {b n:Nat} {D:DataW Unit} (h:w.ownsMap P k R b n D) (hb:Below w.heap.size w w'):w'.ownsMap P k R b n D :=
 h.kept (row:=none) ⟨hb.os,hb.tape,hb.output,hb.size,fun k hk _=>hb.block k hk⟩ (by simp)
theorem look_s {w:World} {b n:Nat} {D:DataW Unit} {zs:List CellD} (h:w.ownsMap Tryz.prog 9 (plainElem (H:=Unit) Tryz.prog 9) b n D) (hv:VOf D zs) (x:ByteArray) (hx:x.size<=maxLen) :
  (Instr.lookup 122 (.map (some b)) (.string x) false).run Tryz.prog w=.ok (.string (zbm x zs)) w:=by
 obtain ⟨v,ps,hrun,hR⟩:=h.lookup (Maps.string_keyed Tryz.underlying9) Tryz.underlying122 (zeroS w) (plainElem_string Tryz.underlying9 (by decide)) (WideMaps.keyOf_string_mk (s:=x) Tryz.underlying9 hx)
 obtain ⟨s,rfl,he,_⟩:=plainElem_string_inv Tryz.underlying9 hR
 have h1:D.atKey (kS x) (.lit (.string []))=.lit (.string s.data.toList):=(Prod.mk.inj he).1
 rw [hv.at_] at h1
 have h3:(zbm x zs).data.toList=s.data.toList:=Lit.string.inj (DataW.lit.inj h1)
 rw [hrun,ByteArray.ext (Array.toList_inj.1 h3)]
theorem same_kS (x y:ByteArray):(kS x).sameKey (kS y)=true ↔ x=y:=by
 unfold kS Lit.sameKey
 rw [beq_iff_eq]
 exact ⟨fun h=>ByteArray.ext (Array.toList_inj.1 h),fun h=>by rw [h]⟩
theorem strKeys_of {P:Program} {k:TypeId} {R:Value->Option (DataW Unit × List MemPlace)} {w:World} {b n:Nat} {D:DataW Unit} (hown:w.ownsMap P k R b n D) (K:Maps.Keyed P k) (hk:P.underlying k=some .string):(strKeys D).Nodup/\∀ x:ByteArray,x.data.toList ∈ strKeys D ↔ Maps.has D (kS x)=true:=by
 obtain ⟨es,hD,hpw,_⟩:=hown.entries K
 obtain ⟨es',hD',hko⟩:=hown.keysOf
 obtain rfl:es=es':=by rw [hD] at hD';simpa using hD'
 subst hD
 have hks:∀ p ∈ es,∃ x,p.1=.string x:=fun p hp=>by obtain ⟨v,hv⟩:=hko p hp;obtain ⟨x,_,hx,_⟩:=Maps.keyOf_str hk hv;exact ⟨x,hx⟩
 refine ⟨?_,fun x=>?_⟩
 ·show (es.map fun p=>strOf p.1).Nodup
  refine List.pairwise_map.2 (hpw.imp_of_mem fun {p q} hp' hq' hne e=>hne ?_)
  obtain ⟨a,ha⟩:=hks p hp'
  obtain ⟨b,hb⟩:=hks q hq'
  rw [ha,hb] at e ⊢
  exact congrArg _ e
 ·show x.data.toList ∈ es.map (fun p=>strOf p.1) ↔ es.any (fun p=>p.1.sameKey (kS x))=true
  rw [List.mem_map,List.any_eq_true]
  constructor
  ·rintro ⟨p,hp,he⟩
   obtain ⟨a,ha⟩:=hks p hp
   refine ⟨p,hp,?_⟩
   rw [ha] at he ⊢
   simpa [Lit.sameKey,kS,strOf] using he
  ·rintro ⟨p,hp,he⟩
   obtain ⟨a,ha⟩:=hks p hp
   refine ⟨p,hp,?_⟩
   rw [ha] at he ⊢
   simpa [Lit.sameKey,kS,strOf] using he
structure Part (a b:List CellD) (D:DataW Unit) (S:ByteArray->Prop):Prop where
 sound:∀ key,Maps.has D (kS key)=true->zbm key a ≠ zbm key b
 full:∀ key,S key->zbm key a ≠ zbm key b->Maps.has D (kS key)=true
theorem Part.start {a b:List CellD} {S:ByteArray->Prop} (h:∀ key,¬ S key):Part a b (.map []) S:=⟨fun key h=>(by cases h),fun key hs=>absurd hs (h key)⟩
theorem Part.skip {a b:List CellD} {D:DataW Unit} {S S':ByteArray->Prop} (h:Part a b D S) (hs:∀ key,S' key->S key ∨ zbm key a=zbm key b):Part a b D S' :=
 ⟨h.sound,fun key hk hne=>(hs key hk).elim (fun h'=>h.full key h' hne) (fun e=>absurd e hne)⟩
theorem Part.put {a b:List CellD} {D:DataW Unit} {S S':ByteArray->Prop} (h:Part a b D S) (hm:Maps.IsMap D) (x:ByteArray) (d:DataW Unit) (hx:zbm x a ≠ zbm x b) (hs:∀ key,S' key->S key ∨ key=x):Part a b (D.put (kS x) d) S':=by
 refine ⟨fun key hk=>?_,fun key hk hne=>?_⟩
 ·by_cases e:key=x
  ·rw [e];exact hx
  ·rw [Maps.has_put_other (fun e'=>e (kS_inj e'))] at hk
   exact h.sound key hk
 ·by_cases e:key=x
  ·rw [e];exact Maps.has_put_same hm (kS_lit _) _
  ·rw [Maps.has_put_other (fun e'=>e (kS_inj e'))]
   exact h.full key ((hs key hk).resolve_right e) hne
theorem left_step {left:Lit->Bool} {x key:ByteArray} (h:(left (kS key) && !(kS key).sameKey (kS x))=false):left (kS key)=false ∨ key=x:=by
 cases hl:left (kS key) with
 | false=>exact .inl rfl
 | true =>
  rw [hl] at h
  right
  rw [<- same_kS]
  cases hk:(kS key).sameKey (kS x) with
  | true=>rfl
  | false=>rw [hk] at h;cases h
theorem got_of {D:DataW Unit} {zs:List CellD} {x c:ByteArray} (hv:VOf D zs) (hat:∀ zd,D.atKey (kS x) zd=.lit (.string c.data.toList)):c=zbm x zs:=by
 have h1:=hat (.lit (.string []))
 rw [hv.at_] at h1
 have h3:(zbm x zs).data.toList=c.data.toList:=Lit.string.inj (DataW.lit.inj h1)
 exact (ByteArray.ext (Array.toList_inj.1 h3)).symm
theorem row_rd {w:World} {B:Nat} {v:Value} {a b:List CellD} {ss:List (List UInt8)} (h:w.ownsRow B 9 1 v ss.length ((ss.mergeSort (fun x y=>decide (x<=y))).map encStr)) (hnd:ss.Nodup) (hm:∀ x:ByteArray,x.data.toList ∈ ss ↔ zbm x a ≠ zbm x b):OwnL zx 9 w B v (diffC a b):=by
 obtain ⟨h1,h2⟩:=sorted_diff a b ss hnd hm
 rw [h1,h2] at h
 exact h
theorem impl_DiffKeys (va vb:Value) (a b:List CellD) (w:World) (ha:RdL zu w va a) (hb:RdL zu w vb b) (hka:∀ c ∈ a,c.ok) (hkb:∀ c ∈ b,c.ok) (hl:a.length<=549755813888) (hl2:b.length<=549755813888) :
  Calls Tryz.prog 35 #[va,vb] w fun e w'=>∃ v',e=.returned v'/\OwnL zx 9 w' w.heap.size v' (diffC a b)/\Below w.heap.size w w':=by
 have HA:=Hd ha
 have HB:=Hd hb
 have HKA:=Hd hka
 have HKB:=Hd hkb
 clear hka hkb ha hb
 have hmm:=@run_makeMap Tryz.prog
 go_enter Tryz.func35,Tryz.ntmps35
 go_wp2_with fail
 (go_at_call 92;refine (impl_valuesOf _ a w HA.out HKA.out (by omega)).mono ?_;rintro e w' ⟨b1,rfl,hb1,D1,hown1,hD1,hbel1⟩;have HD1:=Hd hD1;clear hD1;obtain ⟨X1,rfl⟩:=hbel1.ext;clear hbel1)
 have hl1:=hown1.lt
 have HO1:=Hd hown1
 clear hown1
 go_wp2_with fail
 (go_at_call 92;refine (impl_valuesOf _ b (w.ext X1) (HB.out.ext _) HKB.out (by omega)).mono ?_;rintro e w' ⟨b2,rfl,hb2,D2,hown2,hD2,hbel2⟩;have HD2:=Hd hD2;clear hD2;have hown1:=own_below HO1.out hbel2;have hbb:=Below.trans (show Below w.heap.size w (w.ext X1) from (by repeat (first|with_reducible exact Below.refl _ _|with_reducible apply Below.ofExt))) (hbel2.mono (by simp [zm]));obtain ⟨X,rfl⟩:=hbb.ext;clear hbb hbel2)
 have hb12:b1<b2:=Nat.lt_of_lt_of_le hl1 hb2
 have hl2':=hown2.lt
 rw [zm] at hl2'
 clear HO1 hl1 hb2
 have HO1:=Hd hown1
 have HO2:=Hd hown2
 clear hown1 hown2
 go_wp2_with ((at_range;refine wpList_range_own _ rfl _ 122 rfl 9 9 (Maps.string_keyed Tryz.underlying9) Tryz.underlying122 (plainElem (H:=Unit) Tryz.prog 9) b1 a.length D1 rfl (HO1.out.alloc _) ?_;intro w0 hrg0 hg0 hs0))
 have hr1:((w.ext X).alloc (.map #[] 0)).heap.size=w.heap.size+X.bs.size+1:=by simp [zm]
 rw [hr1] at hrg0 hs0
 rw [hr1]
 clear hr1
 go_frame
 have hown20:=(HO2.out.alloc (.map #[] 0)).kept hg0 (by simp)
 have hown30:=(World.ownsMap_made (w.ext X) Tryz.prog 9 (plainElem (H:=Unit) Tryz.prog 4)).kept hg0 (by simp)
 have hbel0:Below w.heap.size w w0:=Below.trans (show Below w.heap.size w ((w.ext X).alloc (.map #[] 0)) from (by repeat (first|with_reducible exact Below.refl _ _|with_reducible apply Below.ofExt|with_reducible apply Below.ofAlloc))) ⟨hg0.os,hg0.tape,hg0.output,hg0.size,fun k hk=>hg0.block k (by simp [zm];omega) (by simp)⟩
 have hcnt0:=(HO1.out.alloc (.map #[] 0)).size_le
 go_loopw [8] (fun _ wr=>∃ left cnt D3 n3,wr.ranges Tryz.prog 9 (plainElem (H:=Unit) Tryz.prog 9) b1 (w.heap.size+X.bs.size+1) a.length D1 left cnt/\wr.ownsMap Tryz.prog 9 (plainElem (H:=Unit) Tryz.prog 9) b2 b.length D2/\wr.ownsMap Tryz.prog 9 (plainElem (H:=Unit) Tryz.prog 4) (w.heap.size+X.bs.size) n3 D3/\Hid (Part a b D3 (fun key=>a.any (z6 key)=true/\left (kS key)=false))/\n3+cnt<=a.length/\Below w.heap.size w wr) (fun _ wr=>wr.rangeLeft b1 (w.heap.size+X.bs.size+1))
 case atStart=>exact ⟨_,_,_,0,hrg0,hown20,by simpa [zm] using hown30,Part.start (fun key h=>by have h1:=HD1.out.has_ key;rw [h.1,h.2] at h1;cases h1),by omega,hbel0⟩
 case round =>
  clear hrg0 hg0 hs0 hown20 hown30 hbel0 hcnt0
  obtain ⟨left,cnt,D3,n3,hrg,hown2,hown3,HP,hlen,hbel⟩:=hrel
  obtain ⟨X0,rfl⟩:=hbel.ext
  clear hbel
  have hlt3:=hown3.lt
  rw [zm] at hlt3
  go_wp2_with ((at_next;refine next_ss _ rfl _ rfl 9 9 (Maps.string_keyed Tryz.underlying9) Tryz.underlying9 Tryz.underlying9 b1 (w.heap.size+X.bs.size+1) a.length _ _ _ rfl hrg ?_ ?_))
  ·intro hc0 hl0
   have HO1:=Hd hrg.owns
   have HP:Hid (Part a b D3 (fun key=>a.any (z6 key)=true)):=HP.out.skip (fun key h=>.inl ⟨h,hl0 _⟩)
   clear hrg hl0
   have HO2:=Hd hown2
   have HO3:=Hd hown3
   clear hown2 hown3
   go_wp2_with ((at_range;refine wpList_range_own _ rfl _ 122 rfl 9 9 (Maps.string_keyed Tryz.underlying9) Tryz.underlying122 (plainElem (H:=Unit) Tryz.prog 9) b2 b.length D2 rfl HO2.out ?_;intro w6 hrg6 hg6 hs6))
   have hr2:(w.ext X0).heap.size=w.heap.size+X0.bs.size:=by simp [zm]
   rw [hr2] at hrg6 hs6
   rw [hr2]
   clear hr2
   go_frame
   have hown16:=HO1.out.kept hg6 (by simp)
   have hown36:=HO3.out.kept hg6 (by simp)
   have hbel6:Below w.heap.size w w6:=Below.trans (show Below w.heap.size w (w.ext X0) from (by repeat (first|with_reducible exact Below.refl _ _|with_reducible apply Below.ofExt))) ⟨hg6.os,hg6.tape,hg6.output,hg6.size,fun k hk=>hg6.block k (by simp [zm];omega) (by simp)⟩
   have hcnt6:=HO2.out.size_le
   go_loopw [10] (fun _ wr=>∃ left cnt D3 n3,wr.ranges Tryz.prog 9 (plainElem (H:=Unit) Tryz.prog 9) b2 (w.heap.size+X0.bs.size) b.length D2 left cnt/\wr.ownsMap Tryz.prog 9 (plainElem (H:=Unit) Tryz.prog 9) b1 a.length D1/\wr.ownsMap Tryz.prog 9 (plainElem (H:=Unit) Tryz.prog 4) (w.heap.size+X.bs.size) n3 D3/\Hid (Part a b D3 (fun key=>a.any (z6 key)=true ∨ (b.any (z6 key)=true/\left (kS key)=false)))/\n3+cnt<=a.length+b.length/\Below w.heap.size w wr) (fun _ wr=>wr.rangeLeft b2 (w.heap.size+X0.bs.size))
   case atStart=>exact ⟨_,_,_,n3,hrg6,hown16,hown36,HP.out.skip (fun key h=>.inl (h.resolve_right (fun h=>by have h1:=HD2.out.has_ key;rw [h.1,h.2] at h1;cases h1))),by omega,hbel6⟩
   case round =>
    clear hrg6 hg6 hs6 hown16 hown36 hbel6 hcnt6 HP HO1 HO2 HO3 hlen
    obtain ⟨left,cnt,D3,n3,hrg,hown1,hown3,HP,hlen,hbel⟩:=hrel
    obtain ⟨X7,rfl⟩:=hbel.ext
    clear hbel
    have hlt7:=hrg.lt
    rw [zm] at hlt7
    go_wp2_with ((at_next;refine next_ss _ rfl _ rfl 9 9 (Maps.string_keyed Tryz.underlying9) Tryz.underlying9 Tryz.underlying9 b2 (w.heap.size+X0.bs.size) b.length _ _ _ rfl hrg ?_ ?_))
    ·intro hc0 hl0
     have HP:Hid (∀ key:ByteArray,key.data.toList ∈ strKeys D3 ↔ zbm key a ≠ zbm key b):=by
      show ∀ key:ByteArray,_
      intro key
      rw [(strKeys_of hown3 (Maps.string_keyed Tryz.underlying9) Tryz.underlying9).2 key]
      refine ⟨HP.out.sound key,fun hne=>HP.out.full key ?_ hne⟩
      obtain ⟨c,hc,hk⟩:=getC_ne_key hne
      rcases List.mem_append.1 hc with h|h
      ·exact .inl (List.any_eq_true.2 ⟨c,h,isKey_iff.2 hk⟩)
      ·exact .inr ⟨List.any_eq_true.2 ⟨c,h,isKey_iff.2 hk⟩,hl0 _⟩
     have HND:=Hd (strKeys_of hown3 (Maps.string_keyed Tryz.underlying9) Tryz.underlying9).1
     have HO3:=Hd hown3
     have hsz:=hown3.size_le
     clear hrg hl0 hown1 hown3
     go_wp2_with fail
     (go_at_call 94;refine (callsIn_wide.1 (Tryz.maps_Keys_94 (some (w.heap.size+X.bs.size)) _)).mono ?_;rintro e w' ⟨rfl,rfl⟩)
     go_wp2_with fail
     have hst:=callsIn_wide.1 (Tryz.slices_Sorted_keys_93_94 (H:=Unit) (w.heap.size+X.bs.size) n3 D3 (plainElem (H:=Unit) Tryz.prog 4) (w.ext X7) HO3.out (by unfold maxLen;omega) (by omega))
     rw [zm] at hst
     (go_at_call 93;refine (hst).mono ?_;rintro e w' ⟨v,ss,rfl,hperm,hrow,_,hbel⟩)
     clear hst
     have hbw:=Below.then (show Below w.heap.size w ((w.ext X7).alloc (.cells #[.map (some (w.heap.size+X.bs.size))] 124)) from (by repeat (first|with_reducible exact Below.refl _ _|with_reducible apply Below.ofExt|with_reducible apply Below.ofAlloc))) hbel
     have HF:Hid (OwnL zx 9 w' w.heap.size v (diffC a b)):=OwnL.base (B':=w.heap.size) (row_rd hrow (hperm.symm.nodup HND.out) (fun x=>by rw [hperm.mem_iff];exact HP.out x)) (by simp [zm];try omega)
     clear hrow hbel hperm
     go_wp2
     go_ret
     exact ⟨_,rfl,HF.out,hbw⟩
    ·intro x c w1 cnt1 hwx hwc hlx hat hrg1 hlt1 hg1 hs1 hen
     have hown1n:=hown1.kept hg1 (by simp;omega)
     have hown3n:=hown3.kept hg1 (by simp;omega)
     obtain rfl:=got_of HD2.out hat
     have hb1n:=Below.trans (show Below w.heap.size w (w.ext X7) from (by repeat (first|with_reducible exact Below.refl _ _|with_reducible apply Below.ofExt))) (below_grown hg1 (show w.heap.size<=w.heap.size+X0.bs.size by omega) (by simp [zm]))
     have HM:Hid (w1.rangeLeft b2 (w.heap.size+X0.bs.size)<(w.ext X7).rangeLeft b2 (w.heap.size+X0.bs.size)):=by show _ < _;rw [hrg1.left_eq,hrg.left_eq];exact hlt1
     obtain ⟨X2,rfl⟩:=hb1n.ext
     have hlook:=look_s hown1n HD1.out x hwx
     have HR1:=Hd hrg1
     have H1:=Hd hown1n
     have H3:=Hd hown3n
     clear hg1 hs1 hrg1 hown1n hown3n hown1 hown3 hrg hat hb1n hlx
     by_cases heq:zbm x a=zbm x b
     ·have heq':((zbm x a).toList==(zbm x b).toList)=true:=by rw [beq_iff_eq,heq]
      have HS:Hid (Part a b D3 (fun key=>a.any (z6 key)=true ∨ (b.any (z6 key)=true/\(left (kS key) && !(kS key).sameKey (kS x))=false))):=HP.out.skip (fun key hk=>hk.elim (fun h=>.inl (.inl h)) (fun hk=>(left_step hk.2).elim (fun h=>.inl (.inr ⟨hk.1,h⟩)) (fun h=>.inr (by rw [h,heq]))))
      clear heq
      go_wp2
      go_roundw
      case rel=>exact ⟨_,_,_,_,HR1.out,H1.out,H3.out,HS,by omega,(by repeat (first|with_reducible exact Below.refl _ _|with_reducible apply Below.ofExt))⟩
      case measure=>exact HM.out
     ·have heq':((zbm x a).toList==(zbm x b).toList)=false:=by rw [beq_eq_false_iff_ne,bl,bl];exact fun e=>heq (ByteArray.ext (Array.toList_inj.1 e))
      have HS:Hid (Part a b (D3.put (kS x) (.lit (.bool true))) (fun key=>a.any (z6 key)=true ∨ (b.any (z6 key)=true/\(left (kS key) && !(kS key).sameKey (kS x))=false))):=HP.out.put H3.out.isMap x _ heq (fun key hk=>hk.elim (fun h=>.inl (.inl h)) (fun hk=>(left_step hk.2).elim (fun h=>.inl (.inr ⟨hk.1,h⟩)) .inr))
      have hkm:keyOf Tryz.prog 9 (.string x)=some (kS x):=WideMaps.keyOf_string_mk Tryz.underlying9 hwx
      have HKM:=Hd hkm
      clear heq hkm
      go_wp2_with (first|(at_mapUpdate;refine wpList_mapUpdate_own _ rfl _ _ _ 124 rfl 9 4 (Maps.string_keyed Tryz.underlying9) Tryz.underlying124 (plainElem (H:=Unit) Tryz.prog 4) (w.heap.size+X.bs.size) n3 D3 rfl H3.out (by unfold maxLen;omega) _ _ (kS x) rfl rfl HKM.out (.lit (.bool true)) [] (plainElem_bool Tryz.underlying4 true) ?_;intro w5 hown5 hg5))
      have hr5:=HR1.out.kept hg5 (by simp;omega) (by simp;omega)
      have ho5:=H1.out.kept hg5 (by simp;omega)
      have hb5:=Below.trans (show Below w.heap.size w _ from (by repeat (first|with_reducible exact Below.refl _ _|with_reducible apply Below.ofExt))) (below_grown hg5 (show w.heap.size<=w.heap.size+X.bs.size by omega) (by simp [zm]))
      have HM5:Hid (w5.rangeLeft b2 (w.heap.size+X0.bs.size)<(w.ext X7).rangeLeft b2 (w.heap.size+X0.bs.size)):=by show _ < _;rw [hr5.left_eq,<- HR1.out.left_eq];exact HM.out
      clear hg5
      go_frame
      go_roundw
      case rel=>exact ⟨_,_,_,_,hr5,ho5,hown5,HS,by omega,hb5⟩
      case measure=>exact HM5.out
  ·intro x c w1 cnt1 hwx hwc hlx hat hrg1 hlt1 hg1 hs1 hen
   have hown2n:=hown2.kept hg1 (by simp;omega)
   have hown3n:=hown3.kept hg1 (by simp)
   obtain rfl:=got_of HD1.out hat
   have hb1n:=Below.trans (show Below w.heap.size w (w.ext X0) from (by repeat (first|with_reducible exact Below.refl _ _|with_reducible apply Below.ofExt))) (below_grown hg1 (show w.heap.size<=w.heap.size+X.bs.size+1 by omega) (by simp [zm]))
   have HM:Hid (w1.rangeLeft b1 (w.heap.size+X.bs.size+1)<(w.ext X0).rangeLeft b1 (w.heap.size+X.bs.size+1)):=by show _ < _;rw [hrg1.left_eq,hrg.left_eq];exact hlt1
   obtain ⟨X2,rfl⟩:=hb1n.ext
   have hlook:=look_s hown2n HD2.out x hwx
   have HR1:=Hd hrg1
   have H2:=Hd hown2n
   have H3:=Hd hown3n
   have HLX:=Hd hlx
   clear hg1 hs1 hrg1 hown2n hown3n hown2 hown3 hrg hat hb1n hlx
   by_cases heq:zbm x b=zbm x a
   ·have heq':((zbm x b).toList==(zbm x a).toList)=true:=by rw [beq_iff_eq,heq]
    have HS:Hid (Part a b D3 (fun key=>a.any (z6 key)=true/\(left (kS key) && !(kS key).sameKey (kS x))=false)):=HP.out.skip (fun key hk=>(left_step hk.2).elim (fun h=>.inl ⟨hk.1,h⟩) (fun h=>.inr (by rw [h,heq])))
    clear heq
    go_wp2
    go_roundw
    case rel=>exact ⟨_,_,_,_,HR1.out,H2.out,H3.out,HS,by omega,(by repeat (first|with_reducible exact Below.refl _ _|with_reducible apply Below.ofExt))⟩
    case measure=>exact HM.out
   ·have heq':((zbm x b).toList==(zbm x a).toList)=false:=by rw [beq_eq_false_iff_ne,bl,bl];exact fun e=>heq (ByteArray.ext (Array.toList_inj.1 e))
    have HS:Hid (Part a b (D3.put (kS x) (.lit (.bool true))) (fun key=>a.any (z6 key)=true/\(left (kS key) && !(kS key).sameKey (kS x))=false)):=HP.out.put H3.out.isMap x _ (fun e=>heq e.symm) (fun key hk=>(left_step hk.2).elim (fun h=>.inl ⟨hk.1,h⟩) .inr)
    have hkm:keyOf Tryz.prog 9 (.string x)=some (kS x):=WideMaps.keyOf_string_mk Tryz.underlying9 hwx
    have HKM:=Hd hkm
    clear heq hkm
    go_wp2_with (first|(at_mapUpdate;refine wpList_mapUpdate_own _ rfl _ _ _ 124 rfl 9 4 (Maps.string_keyed Tryz.underlying9) Tryz.underlying124 (plainElem (H:=Unit) Tryz.prog 4) (w.heap.size+X.bs.size) n3 D3 rfl H3.out (by unfold maxLen;omega) _ _ (kS x) rfl rfl HKM.out (.lit (.bool true)) [] (plainElem_bool Tryz.underlying4 true) ?_;intro w5 hown5 hg5))
    have hr5:=HR1.out.kept hg5 (by simp;omega) (by simp)
    have ho5:=H2.out.kept hg5 (by simp;omega)
    have hb5:=Below.trans (show Below w.heap.size w _ from (by repeat (first|with_reducible exact Below.refl _ _|with_reducible apply Below.ofExt))) (below_grown hg5 (show w.heap.size<=w.heap.size+X.bs.size by omega) (by simp [zm]))
    have HM5:Hid (w5.rangeLeft b1 (w.heap.size+X.bs.size+1)<(w.ext X0).rangeLeft b1 (w.heap.size+X.bs.size+1)):=by show _ < _;rw [hr5.left_eq,<- HR1.out.left_eq];exact HM.out
    clear hg5
    go_frame
    go_roundw
    case rel=>exact ⟨_,_,_,_,hr5,ho5,hown5,HS,by omega,hb5⟩
    case measure=>exact HM5.out
theorem _root_.Go.OwnL.heapEq {α : Type} {R:RowOf α} {e:TypeId} {w w':World} {B:Nat} {v:Value} {xs:List α} (h:OwnL R e w B v xs) (he:w'.heap=w.heap):OwnL R e w' B v xs:=by
 unfold OwnL World.ownsRow at *
 rwa [he]
theorem _root_.Go.OwnL.apart {α β : Type} {R:RowOf α} {R':RowOf β} {e e':TypeId} {w:World} {B B':Nat} {v v':Value} {xs:List α} {ys:List β} (h:OwnL R e w B v xs) (h':OwnL R' e' w B' v' ys) (he:e ≠ e'):v.ownBlock=none ∨ v.ownBlock ≠ v'.ownBlock:=by
 rcases h.2 with ⟨rfl,h0⟩|⟨g,cap,cur,rfl,hg,hh,_⟩
 ·exact .inl rfl
 ·right
  rcases h'.2 with ⟨rfl,_⟩|⟨g',cap',cur',rfl,hg',hh',_⟩
  ·simp [Value.ownBlock]
  ·intro hb
   have hb:g=g':=by simpa [Value.ownBlock] using hb
   subst hb
   rw [hh] at hh'
   injection hh' with hh'
   injection hh' with _ hh'
   exact he hh'
end Go.Proofs.YtpnoehpmgflibaaGreatDoor
