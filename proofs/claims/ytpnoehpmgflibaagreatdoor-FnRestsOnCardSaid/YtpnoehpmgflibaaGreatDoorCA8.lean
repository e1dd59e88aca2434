/- Texts of this claim, merged: the walks and what they stand on. Each condition stands in its theorem. -/
import Derived.Test.YtpnoehpmgflibaaGreatDoorCA7
set_option linter.unusedVariables false
set_option linter.unusedSimpArgs false
set_option maxRecDepth 100000
set_option maxHeartbeats 8000000
namespace Go.Proofs.YtpnoehpmgflibaaGreatDoor
open Go.ChangeShapes Go.WideShapes Go.ChangeAt Go.RowKit
theorem zjt (s:ByteArray):s.toList=s.data.toList:=ByteArray.toList_eq s
theorem zgv (v:Value) (ds:List CellD) (key val:ByteArray) (w:World) (hs:RdL zu w v ds) (hl:ds.length<=1099511627776) (hks:key.size<=9223372036854775807) :
  Calls Tryz.prog 50 #[v,.string key,.string val] w fun e w'=>∃ v',e=.returned v'/\OwnL zu 47 w' w.heap.size v' (zbM key val ds)/\Below w.heap.size w w':=by
 obtain ⟨ao,cap,rfl,hc1,hc2,hnil,hne⟩:=hs.shape
 have HR:=Hd hs
 have HX:=Hd hne
 clear hs hne hnil
 unfold maxLen at hc2
 cases hk0:zbc key with
 | false =>
  have HK0:=Hd hk0
  have HF:Hid (zbM key val ds=ds):=by show _ = _;unfold zbM;rw [if_pos (.inl hk0)]
  clear hk0
  go_enter Tryz.func50,Tryz.ntmps50
  go_wp2_with fail
  (go_at_call 58;refine (zb7 key _ hks).mono ?_;rintro e w' ⟨rfl,rfl⟩)
  rw [HK0.out]
  go_wp2_with (at_builtin;refine zA ?_)
  refine zI rfl _ _ _ rfl zE (B:=w.heap.size) (v:=.slice (some ⟨w.heap.size,0,none⟩) 0 0) (xs:=[]) (R:=zu) (OwnL.empty zu _ w) rfl (ys:=ds) (HR.out.alloc _) rfl (by simp only [List.length_nil];(try simp only [List.length_append,List.length_nil]);omega) (by simp only [List.length_nil];(try simp only [List.length_append,List.length_nil]);unfold maxLen;omega) (by simp [zm];try omega) ?_
  intro v4 w4 hown4 hgr4 _
  have hb4:Below w.heap.size w w4:=Below.appL (R:=zu) (e:=47) (v:=.slice (some ⟨w.heap.size,0,none⟩) 0 0) (xs:=[]) (by repeat (first|with_reducible exact Below.refl _ _|with_reducible apply Below.ofAlloc)) hgr4 (OwnL.empty zu _ w)
  clear hgr4
  go_wp2
  go_ret
  exact ⟨_,rfl,by rw [HF.out];exact hown4,hb4⟩
 | true =>
  have HK0:=Hd hk0
  clear hk0
  by_cases hv60:(60:Int)<val.size
  case pos =>
   have HF:Hid (zbM key val ds=ds):=by show _ = _;unfold zbM;rw [if_pos (.inr (by omega))]
   go_enter Tryz.func50,Tryz.ntmps50
   go_wp2_with fail
   (go_at_call 58;refine (zb7 key _ hks).mono ?_;rintro e w' ⟨rfl,rfl⟩)
   rw [HK0.out]
   go_wp2_with (at_builtin;refine zA ?_)
   refine zI rfl _ _ _ rfl zE (B:=w.heap.size) (v:=.slice (some ⟨w.heap.size,0,none⟩) 0 0) (xs:=[]) (R:=zu) (OwnL.empty zu _ w) rfl (ys:=ds) (HR.out.alloc _) rfl (by simp only [List.length_nil];(try simp only [List.length_append,List.length_nil]);omega) (by simp only [List.length_nil];(try simp only [List.length_append,List.length_nil]);unfold maxLen;omega) (by simp [zm];try omega) ?_
   intro v4 w4 hown4 hgr4 _
   have hb4:Below w.heap.size w w4:=Below.appL (R:=zu) (e:=47) (v:=.slice (some ⟨w.heap.size,0,none⟩) 0 0) (xs:=[]) (by repeat (first|with_reducible exact Below.refl _ _|with_reducible apply Below.ofAlloc)) hgr4 (OwnL.empty zu _ w)
   clear hgr4
   go_wp2
   go_ret
   exact ⟨_,rfl,by rw [HF.out];exact hown4,hb4⟩
  case neg =>
   by_cases hv:val.size=0
   case pos =>
    obtain rfl:val=⟨#[]⟩:=by
     obtain ⟨⟨l⟩⟩:=val
     have:l = []:=List.eq_nil_of_length_eq_zero hv
     subst this
     rfl
    go_enter Tryz.func50,Tryz.ntmps50
    go_wp2_with fail
    (go_at_call 58;refine (zb7 key _ hks).mono ?_;rintro e w' ⟨rfl,rfl⟩)
    rw [HK0.out]
    go_wp2
    go_loopw [7,8,9] (fun o dv k wr=>∃ (n:Nat) (xs:List CellD) (dn:Bool),k=.int .i64 n/\n<=ds.length/\dv=.bool dn/\Below w.heap.size w wr/\OwnL zu 47 wr w.heap.size o xs/\xs=zB key (ds.take n)/\dn=true) (fun _ _ k _=>ds.length - (intOf k).toNat)
    case atStart=>exact ⟨0,[],true,rfl,by omega,rfl,(by repeat (first|with_reducible exact Below.refl _ _|with_reducible apply Below.ofAlloc)),OwnL.empty zu _ w,rfl,rfl⟩
    case round =>
     obtain ⟨n,xs,dn,rfl,hn,rfl,hbel,ho,hxs,hdn⟩:=hrel
     have hxl:xs.length<=n+1:=by rw [hxs];have:=zea key (ds.take n);rw [List.length_take] at this;omega
     obtain ⟨X,rfl⟩:=hbel.ext
     obtain ⟨oa,oc,rfl⟩:=ho.rd.form
     have HO:=Hd ho
     clear ho
     by_cases hlt:(n:Int)<ds.length
     case pos =>
      have hk:n<ds.length:=by omega
      obtain ⟨b,off,rfl,hbl,hcell⟩:=HX.out (by intro e;simp [e] at hk)
      have hc:=hcell n hk
      have hst:ds.take (n+1)=ds.take n ++ [ds[n]]:=List.take_succ_eq_append_getElem hk
      have hsd:(ds.take (n+1)).any (zaa key)=((ds.take n).any (zaa key) || zaa key ds[n]):=by rw [hst,List.any_append];simp
      generalize ds[n]=d at hc hst hsd
      have y0:w.cell? ⟨b,off+n*2,none⟩=some (.string d.key):=hc 0 _ rfl
      have y1:w.cell? ⟨b,off+n*2+1,none⟩=some (.string d.val):=hc 1 _ rfl
      clear hc hcell
      have hbl:=hbl (by decide)
      have hbl2:b<w.heap.size+X.bs.size:=by omega
      have hbl3:b<w.heap.size+X.bs.size+1:=by omega
      have hbl4:¬ b=w.heap.size+X.bs.size:=by omega
      subst hdn
      have hdn:true=true:=rfl
      cases hik:z6 key d with
      | true =>
       have hke:(d.key.toList==key.toList)=true:=hik
       have HS:Hid (zB key (ds.take (n+1))=xs):=by show _ = _;rw [hst,hxs];rw [zaR,hik,if_pos rfl,List.append_nil]
       have HD2:Hid (true=true):=by show _ = _;rfl
       clear hst hsd hxs hdn
       go_wp2
       go_roundw
       case rel=>exact ⟨n+1,xs,_,by go_num,by omega,rfl,(by repeat (first|with_reducible exact Below.refl _ _|with_reducible apply Below.ofExt)),(by (skip);(repeat (with_reducible exact HO.out));all_goals exact (0:Nat)),by rw [HS.out],rfl⟩
       case measure=>simp [intOf];omega
      | false =>
       have hke:(d.key.toList==key.toList)=false:=hik
       have HS:Hid (zB key (ds.take (n+1))=xs ++ [d]):=by show _ = _;rw [hst,hxs];rw [zaR,hik];rfl
       have HD2:Hid (true=true):=by show _ = _;rfl
       clear hst hsd hxs hdn
       go_wp2_with (at_builtin;refine zA ?_)
       refine zI rfl _ _ _ rfl zE (B:=w.heap.size) (v:=.slice oa xs.length oc) (xs:=xs) (R:=zu) (by (skip);(repeat (first|with_reducible exact HO.out|with_reducible apply OwnL.alloc));all_goals exact (0:Nat)) rfl (ys:=[d]) (RdL.oneAt zu _ (d) _ rfl _ _ (by simp [zm])) rfl (by simp only [List.length_singleton];omega) (by simp only [List.length_singleton];unfold maxLen;omega) (by simp [zm];try omega) ?_
       intro v4 w4 hown4 hgr4 _
       have hb4:Below w.heap.size w w4:=Below.appL (R:=zu) (e:=47) (v:=.slice oa xs.length oc) (xs:=xs) (by repeat (first|with_reducible exact Below.refl _ _|with_reducible apply Below.ofExt|with_reducible apply Below.ofAlloc)) hgr4 (by (skip);(repeat (first|with_reducible exact HO.out|with_reducible apply OwnL.alloc));all_goals exact (0:Nat))
       clear hgr4
       go_wp2
       go_roundw
       case rel=>exact ⟨n+1,xs ++ [d],_,by go_num,by omega,rfl,hb4,hown4,by rw [HS.out],rfl⟩
       case measure=>simp [intOf];omega
     case neg =>
      have e:n=ds.length:=by omega
      have HF:Hid (zbM key ⟨#[]⟩ ds=xs):=by show _ = _;unfold zbM;rw [if_neg (fun h=>h.elim (fun h=>by rw [HK0.out] at h;cases h) (fun h=>absurd h (by decide))),if_pos hv,hxs,e,List.take_length]
      subst hdn
      clear hxs
      go_wp2
      go_ret
      exact ⟨_,rfl,by rw [HF.out];exact HO.out,(by repeat (first|with_reducible exact Below.refl _ _|with_reducible apply Below.ofExt))⟩
   case neg =>
    have hve:(val.toList == [])=false:=by
     obtain ⟨⟨l⟩⟩:=val
     cases l with
     | nil=>exact absurd rfl hv
     | cons a l=>exact beq_false_of_ne (by rw [zjt];exact List.cons_ne_nil _ _)
    go_enter Tryz.func50,Tryz.ntmps50
    go_wp2_with fail
    (go_at_call 58;refine (zb7 key _ hks).mono ?_;rintro e w' ⟨rfl,rfl⟩)
    rw [HK0.out]
    go_wp2
    go_loopw [7,8,9] (fun o dv k wr=>∃ (n:Nat) (xs:List CellD) (dn:Bool),k=.int .i64 n/\n<=ds.length/\dv=.bool dn/\Below w.heap.size w wr/\OwnL zu 47 wr w.heap.size o xs/\xs=zcI key val (ds.take n)/\dn=(ds.take n).any (zaa key)) (fun _ _ k _=>ds.length - (intOf k).toNat)
    case atStart=>exact ⟨0,[],false,rfl,by omega,rfl,(by repeat (first|with_reducible exact Below.refl _ _|with_reducible apply Below.ofAlloc)),OwnL.empty zu _ w,rfl,rfl⟩
    case round =>
     obtain ⟨n,xs,dn,rfl,hn,rfl,hbel,ho,hxs,hdn⟩:=hrel
     have hxl:xs.length<=n+1:=by rw [hxs];have:=zlU key val (ds.take n);rw [List.length_take] at this;omega
     obtain ⟨X,rfl⟩:=hbel.ext
     obtain ⟨oa,oc,rfl⟩:=ho.rd.form
     have HO:=Hd ho
     clear ho
     by_cases hlt:(n:Int)<ds.length
     case pos =>
      have hk:n<ds.length:=by omega
      obtain ⟨b,off,rfl,hbl,hcell⟩:=HX.out (by intro e;simp [e] at hk)
      have hc:=hcell n hk
      have hst:ds.take (n+1)=ds.take n ++ [ds[n]]:=List.take_succ_eq_append_getElem hk
      have hsd:(ds.take (n+1)).any (zaa key)=((ds.take n).any (zaa key) || zaa key ds[n]):=by rw [hst,List.any_append];simp
      generalize ds[n]=d at hc hst hsd
      have y0:w.cell? ⟨b,off+n*2,none⟩=some (.string d.key):=hc 0 _ rfl
      have y1:w.cell? ⟨b,off+n*2+1,none⟩=some (.string d.val):=hc 1 _ rfl
      clear hc hcell
      have hbl:=hbl (by decide)
      have hbl2:b<w.heap.size+X.bs.size:=by omega
      have hbl3:b<w.heap.size+X.bs.size+1:=by omega
      have hbl4:¬ b=w.heap.size+X.bs.size:=by omega
      skip
      skip
      cases hgt:zaa key d with
      | true =>
       have hik:=zdu hgt
       have hle:=zl7 hgt
       have hge:Op.bytesLess key.toList d.key.toList=true:=hgt
       have hke:(d.key.toList==key.toList)=false:=hik
       cases dn with
       | true =>
        have HS:Hid (zcI key val (ds.take (n+1))=xs ++ [d]):=by show _ = _;rw [hst,hxs];exact zeh hik (.inl hdn.symm)
        have HD2:Hid ((ds.take (n+1)).any (zaa key)=true):=by show _ = _;rw [hsd,<- hdn];rfl
        clear hst hsd hxs hdn
        go_wp2_with (at_builtin;refine zA ?_)
        refine zI rfl _ _ _ rfl zE (B:=w.heap.size) (v:=.slice oa xs.length oc) (xs:=xs) (R:=zu) (by (skip);(repeat (first|with_reducible exact HO.out|with_reducible apply OwnL.alloc));all_goals exact (0:Nat)) rfl (ys:=[d]) (RdL.oneAt zu _ (d) _ rfl _ _ (by simp [zm])) rfl (by simp only [List.length_singleton];omega) (by simp only [List.length_singleton];unfold maxLen;omega) (by simp [zm];try omega) ?_
        intro v4 w4 hown4 hgr4 _
        have hb4:Below w.heap.size w w4:=Below.appL (R:=zu) (e:=47) (v:=.slice oa xs.length oc) (xs:=xs) (by repeat (first|with_reducible exact Below.refl _ _|with_reducible apply Below.ofExt|with_reducible apply Below.ofAlloc)) hgr4 (by (skip);(repeat (first|with_reducible exact HO.out|with_reducible apply OwnL.alloc));all_goals exact (0:Nat))
        clear hgr4
        go_wp2
        go_roundw
        case rel=>exact ⟨n+1,xs ++ [d],_,by go_num,by omega,rfl,hb4,hown4,by rw [HS.out],by rw [HD2.out]⟩
        case measure=>simp [intOf];omega
       | false =>
        have HS:Hid (zcI key val (ds.take (n+1))=(xs ++ [CellD.mk key val]) ++ [d]):=by show _ = _;rw [hst,hxs];exact zjR hdn.symm hgt
        have HD2:Hid ((ds.take (n+1)).any (zaa key)=true):=by show _ = _;rw [hsd,hgt,Bool.or_true]
        clear hst hsd hxs hdn
        go_wp2_with (at_builtin;refine zA ?_)
        refine zI rfl _ _ _ rfl zE (B:=w.heap.size) (v:=.slice oa xs.length oc) (xs:=xs) (R:=zu) (by (skip);(repeat (first|with_reducible exact HO.out|with_reducible apply OwnL.alloc));all_goals exact (0:Nat)) rfl (ys:=[CellD.mk key val]) (RdL.oneAt zu _ (CellD.mk key val) _ rfl _ _ (by simp [zm])) rfl (by simp only [List.length_singleton];omega) (by simp only [List.length_singleton];unfold maxLen;omega) (by simp [zm];try omega) ?_
        intro v4 w4 hown4 hgr4 _
        have hb4:Below w.heap.size w w4:=Below.appL (R:=zu) (e:=47) (v:=.slice oa xs.length oc) (xs:=xs) (by repeat (first|with_reducible exact Below.refl _ _|with_reducible apply Below.ofExt|with_reducible apply Below.ofAlloc)) hgr4 (by (skip);(repeat (first|with_reducible exact HO.out|with_reducible apply OwnL.alloc));all_goals exact (0:Nat))
        clear hgr4
        obtain ⟨X4,rfl⟩:=hb4.ext
        obtain ⟨pa,pc,ev⟩:=hown4.rd.form
        subst ev
        have HO4:Hid (OwnL zu 47 (w.ext X4) w.heap.size (.slice pa (xs.length+1) pc) (xs ++ [CellD.mk key val])):=by
         rw [List.length_append,List.length_singleton] at hown4
         exact hown4
        clear hown4 hb4
        go_wp2_with (at_builtin;refine zA ?_)
        refine zI rfl _ _ _ rfl zE (B:=w.heap.size) (v:=.slice pa (xs.length+1) pc) (xs:=xs ++ [CellD.mk key val]) (R:=zu) (by (skip);(repeat (first|with_reducible exact HO4.out|with_reducible apply OwnL.alloc));all_goals exact (0:Nat)) rfl (ys:=[d]) (RdL.oneAt zu _ (d) _ rfl _ _ (by simp [zm])) rfl (by simp only [List.length_singleton];(try simp only [List.length_append,List.length_singleton]);omega) (by simp only [List.length_singleton];(try simp only [List.length_append,List.length_singleton]);unfold maxLen;omega) (by simp [zm];try omega) ?_
        intro v5 w5 hown5 hgr5 _
        have hb5:Below w.heap.size w w5:=Below.appL (R:=zu) (e:=47) (v:=.slice pa (xs.length+1) pc) (xs:=xs ++ [CellD.mk key val]) (by repeat (first|with_reducible exact Below.refl _ _|with_reducible apply Below.ofExt|with_reducible apply Below.ofAlloc)) hgr5 (by (skip);(repeat (first|with_reducible exact HO4.out|with_reducible apply OwnL.alloc));all_goals exact (0:Nat))
        clear hgr5
        go_wp2
        go_roundw
        case rel=>exact ⟨n+1,(xs ++ [CellD.mk key val]) ++ [d],_,by go_num,by omega,rfl,hb5,hown5,by rw [HS.out],by rw [HD2.out]⟩
        case measure=>simp [intOf];omega
      | false =>
       have hge:Op.bytesLess key.toList d.key.toList=false:=hgt
       cases hik:z6 key d with
       | true =>
        have hle:=zi9 hik
        have hke:(d.key.toList==key.toList)=true:=hik
        cases dn with
        | true =>
         have HS:Hid (zcI key val (ds.take (n+1))=xs):=by show _ = _;rw [hst,hxs];exact zhC hik
         have HD2:Hid ((ds.take (n+1)).any (zaa key)=true):=by show _ = _;rw [hsd,<- hdn,hgt];rfl
         clear hst hsd hxs hdn
         go_wp2
         go_roundw
         case rel=>exact ⟨n+1,xs,_,by go_num,by omega,rfl,(by repeat (first|with_reducible exact Below.refl _ _|with_reducible apply Below.ofExt)),(by (skip);(repeat (with_reducible exact HO.out));all_goals exact (0:Nat)),by rw [HS.out],by rw [HD2.out]⟩
         case measure=>simp [intOf];omega
        | false =>
         have HS:Hid (zcI key val (ds.take (n+1))=xs):=by show _ = _;rw [hst,hxs];exact zhC hik
         have HD2:Hid ((ds.take (n+1)).any (zaa key)=false):=by show _ = _;rw [hsd,<- hdn,hgt];rfl
         clear hst hsd hxs hdn
         go_wp2
         go_roundw
         case rel=>exact ⟨n+1,xs,_,by go_num,by omega,rfl,(by repeat (first|with_reducible exact Below.refl _ _|with_reducible apply Below.ofExt)),(by (skip);(repeat (with_reducible exact HO.out));all_goals exact (0:Nat)),by rw [HS.out],by rw [HD2.out]⟩
         case measure=>simp [intOf];omega
       | false =>
        have hle:=zhI hgt hik
        have hke:(d.key.toList==key.toList)=false:=hik
        cases dn with
        | true =>
         have HS:Hid (zcI key val (ds.take (n+1))=xs ++ [d]):=by show _ = _;rw [hst,hxs];exact zeh hik (.inr hgt)
         have HD2:Hid ((ds.take (n+1)).any (zaa key)=true):=by show _ = _;rw [hsd,<- hdn];rw [hgt];rfl
         clear hst hsd hxs hdn
         go_wp2_with (at_builtin;refine zA ?_)
         refine zI rfl _ _ _ rfl zE (B:=w.heap.size) (v:=.slice oa xs.length oc) (xs:=xs) (R:=zu) (by (skip);(repeat (first|with_reducible exact HO.out|with_reducible apply OwnL.alloc));all_goals exact (0:Nat)) rfl (ys:=[d]) (RdL.oneAt zu _ (d) _ rfl _ _ (by simp [zm])) rfl (by simp only [List.length_singleton];omega) (by simp only [List.length_singleton];unfold maxLen;omega) (by simp [zm];try omega) ?_
         intro v4 w4 hown4 hgr4 _
         have hb4:Below w.heap.size w w4:=Below.appL (R:=zu) (e:=47) (v:=.slice oa xs.length oc) (xs:=xs) (by repeat (first|with_reducible exact Below.refl _ _|with_reducible apply Below.ofExt|with_reducible apply Below.ofAlloc)) hgr4 (by (skip);(repeat (first|with_reducible exact HO.out|with_reducible apply OwnL.alloc));all_goals exact (0:Nat))
         clear hgr4
         go_wp2
         go_roundw
         case rel=>exact ⟨n+1,xs ++ [d],_,by go_num,by omega,rfl,hb4,hown4,by rw [HS.out],by rw [HD2.out]⟩
         case measure=>simp [intOf];omega
        | false =>
         have HS:Hid (zcI key val (ds.take (n+1))=xs ++ [d]):=by show _ = _;rw [hst,hxs];exact zeh hik (.inr hgt)
         have HD2:Hid ((ds.take (n+1)).any (zaa key)=false):=by show _ = _;rw [hsd,<- hdn];rw [hgt];rfl
         clear hst hsd hxs hdn
         go_wp2_with (at_builtin;refine zA ?_)
         refine zI rfl _ _ _ rfl zE (B:=w.heap.size) (v:=.slice oa xs.length oc) (xs:=xs) (R:=zu) (by (skip);(repeat (first|with_reducible exact HO.out|with_reducible apply OwnL.alloc));all_goals exact (0:Nat)) rfl (ys:=[d]) (RdL.oneAt zu _ (d) _ rfl _ _ (by simp [zm])) rfl (by simp only [List.length_singleton];omega) (by simp only [List.length_singleton];unfold maxLen;omega) (by simp [zm];try omega) ?_
         intro v4 w4 hown4 hgr4 _
         have hb4:Below w.heap.size w w4:=Below.appL (R:=zu) (e:=47) (v:=.slice oa xs.length oc) (xs:=xs) (by repeat (first|with_reducible exact Below.refl _ _|with_reducible apply Below.ofExt|with_reducible apply Below.ofAlloc)) hgr4 (by (skip);(repeat (first|with_reducible exact HO.out|with_reducible apply OwnL.alloc));all_goals exact (0:Nat))
         clear hgr4
         go_wp2
         go_roundw
         case rel=>exact ⟨n+1,xs ++ [d],_,by go_num,by omega,rfl,hb4,hown4,by rw [HS.out],by rw [HD2.out]⟩
         case measure=>simp [intOf];omega
     case neg =>
      have e:n=ds.length:=by omega
      have hf:zbM key val ds=if dn then xs else xs ++ [CellD.mk key val]:=by
       unfold zbM
       rw [if_neg (fun h=>h.elim (fun h=>by rw [HK0.out] at h;cases h) (fun h=>absurd h (by omega))),if_neg hv,<- zlV (val:=val),hxs,hdn,e,List.take_length]
      have HF:=Hd hf
      clear hxs hf
      cases dn with
      | true =>
       clear hdn
       go_wp2
       go_ret
       exact ⟨_,rfl,by rw [HF.out];exact HO.out,(by repeat (first|with_reducible exact Below.refl _ _|with_reducible apply Below.ofExt|with_reducible apply Below.ofAlloc|with_reducible apply Below.drew|with_reducible apply Below.ofDrewN|with_reducible assumption|(with_reducible refine Below.setCell ?_ (by first|exact Nat.le_refl _|(simp [go_sem];done)|(simp [go_sem];omega)) _)))⟩
      | false =>
       clear hdn
       go_wp2_with (at_builtin;refine zA ?_)
       refine zI rfl _ _ _ rfl zE (B:=w.heap.size) (v:=.slice oa xs.length oc) (xs:=xs) (R:=zu) (by (skip);(repeat (first|with_reducible exact HO.out|with_reducible apply OwnL.alloc));all_goals exact (0:Nat)) rfl (ys:=[CellD.mk key val]) (RdL.oneAt zu _ (CellD.mk key val) _ rfl _ _ (by simp [zm])) rfl (by simp only [List.length_singleton];omega) (by simp only [List.length_singleton];unfold maxLen;omega) (by simp [zm];try omega) ?_
       intro v4 w4 hown4 hgr4 _
       have hb4:Below w.heap.size w w4:=Below.appL (R:=zu) (e:=47) (v:=.slice oa xs.length oc) (xs:=xs) (by repeat (first|with_reducible exact Below.refl _ _|with_reducible apply Below.ofExt|with_reducible apply Below.ofAlloc)) hgr4 (by (skip);(repeat (first|with_reducible exact HO.out|with_reducible apply OwnL.alloc));all_goals exact (0:Nat))
       clear hgr4
       go_wp2
       go_ret
       exact ⟨_,rfl,by rw [HF.out];exact hown4,hb4⟩
theorem zjS (xs:List ByteArray) (x:ByteArray):(zb3 xs x).length<=xs.length+1:=by
 unfold zb3
 split
 ·omega
 ·simp [List.length_take];omega
theorem zct (v:Value) (xs:List ByteArray) (x:ByteArray) (w:World) (hs:RdL zx w v xs) (hl:xs.length<=1099511627775) :
  Calls Tryz.prog 99 #[v,.string x] w fun e w'=>∃ v',e=.returned v'/\OwnL zx 9 w' w.heap.size v' (zb3 xs x)/\Below w.heap.size w w':=by
 have HL:Hid ((zb3 xs x).length<=1099511627776):=Nat.le_trans (zjS xs x) (by omega)
 have HS:=Hd hs
 clear hs
 go_enter Tryz.func99,Tryz.ntmps99
 go_wp2_with fail
 (go_at_call 104;refine (zjC v xs x _ (HS.out.alloc _) (by omega)).mono ?_;rintro e w1 ⟨v1,rfl,h1,hb⟩;obtain ⟨X,rfl⟩:=hb.ext;clear hb)
 go_wp2_with (at_builtin;refine zA ?_)
 have hl2:=HL.out
 refine zI rfl _ _ _ rfl zC ((OwnL.empty zx _ w).ext X) rfl (h1) rfl (by (try simp only [List.nil_append,List.length_append,List.length_singleton,List.length_nil]);omega) (by (try simp only [List.nil_append,List.length_append,List.length_singleton,List.length_nil]);(try unfold maxLen);omega) (Below.size ((by repeat (first|with_reducible exact Below.refl _ _|with_reducible apply Below.ofExt|with_reducible apply Below.ofAlloc)))) ?_
 intro v2 w2 hown2 hg2 hz2
 have hb2:Below w.heap.size w w2:=Below.appL ((by repeat (first|with_reducible exact Below.refl _ _|with_reducible apply Below.ofExt|with_reducible apply Below.ofAlloc))) hg2 ((OwnL.empty zx _ w).ext X)
 clear hg2
 have hs2:=hb2.size
 go_wp2
 go_ret
 exact ⟨v2,rfl,by simpa using hown2,hb2⟩
end Go.Proofs.YtpnoehpmgflibaaGreatDoor
namespace Go
section
variable {P:Program} {ops:Array Oper} {Q:Exit->Act->World->Prop} {S:World->Prop} {n:Nat}
def zgB (o:Oper):Bool:=match o.op with
 | .extract _ _=>true
 | .move _=>true
 | _=>false
theorem zkv {o:Oper} (h:zgB o=true) {a:Act} {v:Value} {w:World} (hr:RetQ P w v ((execOp a.eval o).run P w)) (w':World):RetQ P w' v ((execOp a.eval o).run P w'):=by
 unfold zgB at h
 split at h
 ·rename_i t k e
  unfold execOp at hr ⊢
  rw [e] at hr ⊢
  dsimp only at hr ⊢
  unfold Instr.extract at hr ⊢
  generalize a.eval t=u at hr ⊢
  cases u<;>first|exact hr.elim|skip
  simp only [Sem.run_bind] at hr ⊢
  split at hr<;>rename_i e2<;>first|exact hr.elim|exact ⟨hr.1,rfl⟩
 ·rename_i t e
  unfold execOp at hr ⊢
  rw [e] at hr ⊢
  exact ⟨hr.1,rfl⟩
 ·cases h
theorem zb5 {i:Nat} {oi:Oper} {v:Value} (hi:ops[i]?=some oi) (hs:Region.noSelect ops=true)
  (hQ:∀ c a w,Q (.panic c) (a.put oi.dst v) w->Q (.panic c) a w) (hn:n<=i) :
  ∀ (fuel:Nat) (listed:Array Bool) (a:Act) (w:World),
   (∀ j oj,ops[j]?=some oj->j ≠ i->listed.getD j true=false->(∀ e ∈ oj.after,Region.binds .any e=true->e.on ≠ i)->oi.apart ops oj=true) ->
   i ∈ Region.ready .any ops listed->YieldsQ P ops (fun _=>True) oi v a ->
   zbO P ops Q S n fuel (listed.setIfInBounds i true) (a.put oi.dst v) w->zbO P ops Q S n (fuel+1) listed a w:=by
 have hsel:=Region.noSelect_spec hs
 intro fuel
 induction fuel with
 | zero =>
  intro listed a w _ hr hy H
  refine ⟨fun h=>(by rw [h] at hr;cases hr),fun j hj=>?_⟩
  by_cases hji:j=i
  ·subst hji;exact hy.wpOp hi trivial ⟨fun h=>absurd h (by omega),H⟩
  ·have:=ready_mono hj hji
   rw [H.1] at this
   cases this
 | succ fuel ih =>
  intro listed a w hfree hr hy H
  refine ⟨fun h=>(by rw [h] at hr;cases hr),fun j hj=>?_⟩
  by_cases hji:j=i
  ·subst hji;exact hy.wpOp hi trivial ⟨fun h=>absurd h (by omega),H⟩
  ·have h1:=H.2 j (ready_mono hj hji)
   obtain ⟨hjun,oj,hoj,hall⟩:=mem_ready.1 hj
   have hnot:∀ e ∈ oj.after,Region.binds .any e=true->e.on ≠ i:=fun e he hb heq =>
    zaS (mem_ready.1 hr).1 (heq ▸ hall e he hb)
   have h2:=zer hoj (hfree j oj hoj hji hjun hnot) (fun cs b=>hsel i oi cs b hi) (fun cs b=>hsel j oj cs b hoj) hQ hy h1
   have hfree':∀ k ok,ops[k]?=some ok->k ≠ i->(listed.setIfInBounds j true).getD k true=false ->
     (∀ e ∈ ok.after,Region.binds .any e=true->e.on ≠ i)->oi.apart ops ok=true:=fun k ok hk hki hun hno=>by
    refine hfree k ok hk hki ?_ hno
    by_cases hjk:j=k
    ·subst hjk;exact hjun
    ·rw [getD_set_ne true hjk] at hun;exact hun
   refine wpOp_mono (fun a' w' h3=>⟨fun h=>h3.2.1 h,ih (listed.setIfInBounds j true) a' w' hfree' (ready_mono hr (Ne.symm hji)) h3.1 ?_⟩) h2
   rw [Array.setIfInBounds_comm _ _ hji]
   exact h3.2.2
def zhA (ops:Array Oper) (i:Nat):Bool:=match ops[i]? with
 | some o=>zgB o
 | none=>false
end
end Go
namespace Go.Proofs.YtpnoehpmgflibaaGreatDoor
open Go.ChangeShapes Go.WideShapes Go.ChangeAt Go.RowKit
def MRd (w:World) (v:Value) (m:MachD):Prop:=∃ v0 v1 v2,v=.agg #[v0,v1,v2]/\RdL zu w v0 m.cells/\RdL zx w v1 m.rd/\RdL zx w v2 m.wr
theorem MRd.below {w w':World} {v:Value} {m:MachD} (h:MRd w v m) (hb:Below w.heap.size w w'):MRd w' v m:=by
 obtain ⟨v0,v1,v2,rfl,h0,h1,h2⟩:=h
 exact ⟨v0,v1,v2,rfl,h0.below hb,h1.below hb,h2.below hb⟩
theorem MRd.form {w:World} {v:Value} {m:MachD} (h:MRd w v m):∃ a0 c0 a1 c1 a2 c2,v=.agg #[.slice a0 m.cells.length c0,.slice a1 m.rd.length c1,.slice a2 m.wr.length c2]/\RdL zu w (.slice a0 m.cells.length c0) m.cells/\RdL zx w (.slice a1 m.rd.length c1) m.rd/\RdL zx w (.slice a2 m.wr.length c2) m.wr:=by
 obtain ⟨v0,v1,v2,rfl,h0,h1,h2⟩:=h
 obtain ⟨a0,c0,rfl⟩:=h0.form
 obtain ⟨a1,c1,rfl⟩:=h1.form
 obtain ⟨a2,c2,rfl⟩:=h2.form
 exact ⟨a0,c0,a1,c1,a2,c2,rfl,h0,h1,h2⟩
def SS (ws w:World) (v:Value) (m:MachD):Prop:=MRd w v m/\Below ws.heap.size ws w
theorem SS.below {ws w w':World} {v:Value} {m:MachD} (h:SS ws w v m) (hb:Below w.heap.size w w'):SS ws w' v m:=⟨h.1.below hb,Below.then h.2 hb⟩
theorem SS.refl {w:World} {v:Value} {m:MachD} (h:MRd w v m):SS w w v m:=⟨h,Below.refl _ _⟩
def SC {α : Type} (f:FuncId) (args:Value->Array Value) (p:Mp α) (ret:Value->α->Value):Prop :=
 ∀ (w:World) (v:Value) (m:MachD),MRd w v m->p.fits m->Calls Tryz.prog f (args v) w fun e w'=>∃ v',e=.returned (ret v' (p.run m).1)/\SS w w' v' (p.run m).2
theorem zcQ (s:ByteArray) (w:World) (hs:s.size<=1048576):Calls Tryz.prog 196 #[.string s] w fun e w'=>e=.returned (.int .i64 (za0 s))/\Below w.heap.size w w':=by
 have D:=Hd (zfZ s w hs)
 go_enter Tryz.func196,Tryz.ntmps196
 (skip);repeat (first|go_skip|go_guarded|go_step|go_upon|go_back)
 (go_at_call 229;refine D.out.mono ?_;rintro e w1 ⟨n,b,rfl,hn,hb,he⟩)
 have e:=zkB hn he
 have E:=Hd e
 have hn0:=hn.1
 clear e hn he D
 cases b with
 | false =>
  have E2:Hid (za0 s=0):=by show _ = _;rw [E.out];rfl
  clear E
  go_wp2
  go_ret
  exact ⟨by rw [E2.out];rfl,hb⟩
 | true =>
  by_cases h9:n<=999
  ·have E2:Hid (za0 s=n):=by show _ = _;rw [E.out,if_pos ⟨rfl,h9⟩]
   clear E
   go_wp2
   go_ret
   exact ⟨by rw [E2.out];rfl,hb⟩
  ·have E2:Hid (za0 s=0):=by show _ = _;rw [E.out,if_neg (fun h=>h9 h.2)]
   clear E
   go_wp2
   go_ret
   exact ⟨by rw [E2.out];rfl,hb⟩
theorem SCmk {α : Type} {f:FuncId} {args:Value->Array Value} {p:Mp α} {ret:Value->α->Value}
  (h : ∀ (w : World) (m : MachD) (a0 : Option Addr) (c0 : Nat) (a1 : Option Addr) (c1 : Nat) (a2 : Option Addr) (c2 : Nat), Hid (RdL zu w (.slice a0 m.cells.length c0) m.cells) -> Hid (RdL zx w (.slice a1 m.rd.length c1) m.rd) -> Hid (RdL zx w (.slice a2 m.wr.length c2) m.wr) -> p.fits m ->
   Calls Tryz.prog f (args (.agg #[.slice a0 m.cells.length c0,.slice a1 m.rd.length c1,.slice a2 m.wr.length c2])) w fun e w'=>∃ v',e=.returned (ret v' (p.run m).1)/\SS w w' v' (p.run m).2):SC f args p ret:=by
 intro w v m hm hf
 obtain ⟨a0,c0,a1,c1,a2,c2,rfl,h0,h1,h2⟩:=hm.form
 exact h w m a0 c0 a1 c1 a2 c2 h0 h1 h2 hf
theorem zo {n:Nat} {w w1:World} (h:Below n w w1) {p:Nat} (hp:n<=p) (o:Obj):Below n w (w1.setB p o) :=
 ⟨h.os,h.tape,h.output,by rw [zd];exact h.size,fun k hk=>by rw [World.setB_get _ _ _ _ (by omega)];exact h.block k hk⟩
theorem zaq (W:World) (a b:Obj) (n:Nat) (hn:n=W.heap.size):((W.alloc a).alloc b).heap[n]?=some a/\((W.alloc a).alloc b).heap[n+1]?=some b:=by
 subst hn
 show ((W.heap.push a).push b)[W.heap.size]?=some a/\((W.heap.push a).push b)[W.heap.size+1]?=some b
 refine ⟨?_,?_⟩<;>(simp only [Array.getElem?_push,Array.size_push];repeat (first|rfl|rw [if_pos trivial]|rw [if_neg (by omega)]))
theorem zj {w:World} {p:Nat} {o r:Obj} (h:w.heap[p]?=some o) (h2:w.heap[p+1]?=some r):(w.setB (p+1) r).setB p o=w:=by
 rw [ze h2,ze h]
theorem zS {w:World} {p:Nat} (h:p+1<w.heap.size) (o r:Obj):((w.setB (p+1) r).setB p o).heap[p]?=some o/\((w.setB (p+1) r).setB p o).heap[p+1]?=some r:=by
 refine ⟨World.setB_at _ _ _ (by rw [zd];omega),?_⟩
 rw [World.setB_get _ _ _ _ (by omega)]
 exact World.setB_at _ _ _ h
theorem za2 {α : Type} {R:RowOf α} {e:TypeId} {w:World} {B:Nat} {v:Value} {xs:List α} (h:OwnL R e w B v xs) {p:Nat} (hp:p+1<B) (o r:Obj):OwnL R e ((w.setB (p+1) r).setB p o) B v xs :=
 (h.setB (fun hk=>by have:=(h.lt _ hk).1;omega) r).setB (fun hk=>by have:=(h.lt _ hk).1;omega) o
theorem zeM {α : Type} {R:RowOf α} {e:TypeId} {w w':World} {B:Nat} {v:Value} {xs:List α} (h:OwnL R e w B v xs) (hb:Below w.heap.size w w'):OwnL R e w' B v xs:=by
 obtain ⟨X,rfl⟩:=hb.ext
 exact h.ext X
def zlw:Obj:=.cells #[.slice none 0 0,.slice none 0 0,.slice none 0 0] 54
def obM (x y z:Value):Obj:=.cells #[x,y,z] 54
theorem zan (k v:ByteArray):SC 182 (fun x=>#[x,.string k,.string v]) (K.lay k v) (fun v' _=>v'):=by
 refine SCmk (fun w m a0 c0 a1 c1 a2 c2 H0 H1 H2 hf=>?_)
 obtain ⟨hs,hk,_⟩:=hf
 have hl0:=hs.cl
 have hl2:=hs.wl
 have D1:=Hd (fun w' (hb:Below w.heap.size w w')=>zct _ m.wr k w' (H2.out.below hb) (by omega))
 have D2:=Hd (fun w' (hb:Below w.heap.size w w')=>zgv _ m.cells k v w' (H0.out.below hb) (by omega) (by omega))
 go_enter Tryz.func182,Tryz.ntmps182
 (skip);repeat (first|go_skip|go_guarded|go_step|go_upon|go_back)
 (go_at_call 99;refine (D1.out _ (by repeat (first|with_reducible exact Below.refl _ _|with_reducible apply Below.ofAlloc))).mono ?_;rintro e w1 ⟨v1,rfl,ho1,hb1⟩)
 obtain ⟨b1,d1,rfl⟩:=ho1.rd.form
 have h2:=zaq w (obM (.slice a0 m.cells.length c0) (.slice a1 m.rd.length c1) (.slice a2 m.wr.length c2)) zlw w.heap.size rfl
 have B1:Below w.heap.size w w1:=Below.then (show Below w.heap.size w ((w.alloc (obM (.slice a0 m.cells.length c0) (.slice a1 m.rd.length c1) (.slice a2 m.wr.length c2))).alloc zlw) from (by repeat (first|with_reducible exact Below.refl _ _|with_reducible apply Below.ofAlloc))) hb1
 have P1:=(Grew.below hb1 w.heap.size (by first|(simp;done)|(simp;omega))).trans h2.1
 have R1:=(Grew.below hb1 (w.heap.size+1) (by first|(simp;done)|(simp;omega))).trans h2.2
 have T1:=Hd ho1
 have Z1:=hb1.size
 rw [show ((w.alloc (Obj.cells #[.slice a0 m.cells.length c0,.slice a1 m.rd.length c1,.slice a2 m.wr.length c2] 54)).alloc (Obj.cells #[.slice none 0 0,.slice none 0 0,.slice none 0 0] 54)).heap.size=w.heap.size+1+1 by simp] at Z1
 have Zp:w.heap.size<w1.heap.size:=by omega
 have Zq:w.heap.size+1<w1.heap.size:=by omega
 unfold obM at P1
 unfold zlw at R1
 have e1:=zj P1 R1
 rw [<- e1]
 clear e1
 have S1:=fun o r=>zo (zo B1 (p:=w.heap.size+1) (by omega) r) (p:=w.heap.size) (Nat.le_refl _) o
 (try simp only []);repeat (first|go_skip|go_guarded|go_step|go_upon|go_back)
 (go_at_call 50;refine (D2.out _ (S1 _ _)).mono ?_;rintro e w2 ⟨v2,rfl,ho2,hb2⟩)
 obtain ⟨b2,d2,rfl⟩:=ho2.rd.form
 have A2:=zS Zq (.cells #[.slice a0 m.cells.length c0,.slice a1 m.rd.length c1,.slice b1 (zb3 m.wr k).length d1] 54) (.cells #[.slice none 0 0,.slice none 0 0,.slice none 0 0] 54)
 have P2:=(Grew.below hb2 _ (za A2.1)).trans A2.1
 have R2:=(Grew.below hb2 _ (za A2.2)).trans A2.2
 have X2:=Hd (zeM (za2 T1.out (p:=w.heap.size) (by simp) (.cells #[.slice a0 m.cells.length c0,.slice a1 m.rd.length c1,.slice b1 (zb3 m.wr k).length d1] 54) (.cells #[.slice none 0 0,.slice none 0 0,.slice none 0 0] 54)) hb2)
 have B2:Below w.heap.size w w2:=Below.then (S1 _ _) hb2
 have T2:=Hd ho2
 have Y2:=za R2
 have Y2':=za P2
 have e2:=zj P2 R2
 rw [<- e2]
 clear e2
 (try simp only []);repeat (first|go_skip|go_guarded|go_step|go_upon|go_back)
 refine bodyPost_ret (by simp [results,Tryz.results182,go_sem,Y2];rfl) rfl ?_
 have BF:=fun o r=>zo (zo B2 (p:=w.heap.size+1) (by omega) r) (p:=w.heap.size) (Nat.le_refl _) o
 exact ⟨_,rfl,⟨_,_,_,rfl,(za2 T2.out (p:=w.heap.size) (by simp only [zd];omega) _ _).rd,H1.out.below (BF _ _),(za2 X2.out (p:=w.heap.size) (by simp) _ _).rd⟩,BF _ _⟩
theorem za3 (k:ByteArray):SC 55 (fun x=>#[x,.string k]) (K.look k) (fun v' t=>.tuple #[v',.string t]):=by
 refine SCmk (fun w m a0 c0 a1 c1 a2 c2 H0 H1 H2 hf=>?_)
 obtain ⟨hs,hk,_⟩:=hf
 have hl0:=hs.cl
 have hl2:=hs.rl
 have D1:=Hd (fun w' (hb:Below w.heap.size w w')=>zct _ m.rd k w' (H1.out.below hb) (by omega))
 have D2:=Hd (fun w' (hb:Below w.heap.size w w')=>zgw _ m.cells k w' (H0.out.below hb))
 go_enter Tryz.func55,Tryz.ntmps55
 (skip);repeat (first|go_skip|go_guarded|go_step|go_upon|go_back)
 (go_at_call 99;refine (D1.out _ (by repeat (first|with_reducible exact Below.refl _ _|with_reducible apply Below.ofAlloc))).mono ?_;rintro e w1 ⟨v1,rfl,ho1,hb1⟩)
 obtain ⟨b1,d1,rfl⟩:=ho1.rd.form
 have h2:=zaq w (obM (.slice a0 m.cells.length c0) (.slice a1 m.rd.length c1) (.slice a2 m.wr.length c2)) zlw w.heap.size rfl
 have B1:Below w.heap.size w w1:=Below.then (show Below w.heap.size w ((w.alloc (obM (.slice a0 m.cells.length c0) (.slice a1 m.rd.length c1) (.slice a2 m.wr.length c2))).alloc zlw) from (by repeat (first|with_reducible exact Below.refl _ _|with_reducible apply Below.ofAlloc))) hb1
 have P1:=(Grew.below hb1 w.heap.size (by first|(simp;done)|(simp;omega))).trans h2.1
 have R1:=(Grew.below hb1 (w.heap.size+1) (by first|(simp;done)|(simp;omega))).trans h2.2
 have T1:=Hd ho1
 have Z1:=hb1.size
 rw [show ((w.alloc (Obj.cells #[.slice a0 m.cells.length c0,.slice a1 m.rd.length c1,.slice a2 m.wr.length c2] 54)).alloc (Obj.cells #[.slice none 0 0,.slice none 0 0,.slice none 0 0] 54)).heap.size=w.heap.size+1+1 by simp] at Z1
 have Zp:w.heap.size<w1.heap.size:=by omega
 have Zq:w.heap.size+1<w1.heap.size:=by omega
 unfold obM at P1
 unfold zlw at R1
 have e1:=zj P1 R1
 rw [<- e1]
 clear e1
 have S1:=fun o r=>zo (zo B1 (p:=w.heap.size+1) (by omega) r) (p:=w.heap.size) (Nat.le_refl _) o
 (try simp only []);repeat (first|go_skip|go_guarded|go_step|go_upon|go_back)
 refine zai [(0,true),(1,true),(2,true),(3,true),(4,false),(5,false),(6,false)] 5 (by kernel_rfl) (by kernel_rfl) ?_
 repeat (refine zk rfl (fun K hK=>?_);go_simp;(try simp (disch:=omega) only [IntWalk.i64_in]);refine hK _ ?_;clear hK K)
 refine zr rfl (fun K hK=>?_);go_simp;go_at_call 51;refine (D2.out _ (by (with_reducible apply Below.drew;with_reducible exact S1 _ _))).mono ?_;rintro e w' ⟨rfl,hb⟩;obtain ⟨X,rfl⟩:=hb.ext;clear hb;try go_simp;refine hK _ _ (by show Sx _ _;repeat (first|with_reducible apply Sx.ext|with_reducible exact Sx.refl _)) ?_;clear hK K
 repeat (refine zk rfl (fun K hK=>?_);go_simp;(try simp (disch:=omega) only [IntWalk.i64_in]);refine hK _ ?_;clear hK K)
 repeat (refine zt rfl rfl (fun K hK=>?_);go_simp;refine hK _ _ ?_;clear hK K)
 refine zQ ?_
 (skip);repeat (first|go_skip|go_guarded|go_step|go_upon|go_back)
 have Y1:w.heap.size+1<w1.heap.size:=Zq
 refine bodyPost_ret (by simp [results,Tryz.results55,go_sem,Y1];rfl) rfl ?_
 have BF:=fun o r=>zo (zo B1 (p:=w.heap.size+1) (by omega) r) (p:=w.heap.size) (Nat.le_refl _) o
 exact ⟨_,rfl,⟨_,_,_,rfl,H0.out.below ((BF _ _).ofExt X),((za2 T1.out (p:=w.heap.size) (by simp) _ _).rd).ext X,H2.out.below ((BF _ _).ofExt X)⟩,(BF _ _).ofExt X⟩
theorem ze1 {w w1:World} {o r:Obj} (h:Below ((w.alloc o).alloc r).heap.size ((w.alloc o).alloc r) w1):Below w.heap.size w w1/\w1.heap[w.heap.size]?=some o/\w1.heap[w.heap.size+1]?=some r/\w.heap.size+1<w1.heap.size/\w.heap.size<w1.heap.size:=by
 have h2:=zaq w o r w.heap.size rfl
 have hz:=h.size
 rw [show ((w.alloc o).alloc r).heap.size=w.heap.size+1+1 by simp] at hz
 exact ⟨Below.then (show Below w.heap.size w ((w.alloc o).alloc r) from (by repeat (first|with_reducible exact Below.refl _ _|with_reducible apply Below.ofAlloc))) h,(Grew.below h _ (za h2.1)).trans h2.1,(Grew.below h _ (za h2.2)).trans h2.2,by omega,by omega⟩
theorem zG {w w1 w2:World} {o r:Obj} (hb:Below w.heap.size w w1) (hz:w.heap.size+1<w1.heap.size) (h:Below ((w1.setB (w.heap.size+1) r).setB w.heap.size o).heap.size ((w1.setB (w.heap.size+1) r).setB w.heap.size o) w2):Below w.heap.size w w2/\w2.heap[w.heap.size]?=some o/\w2.heap[w.heap.size+1]?=some r/\w.heap.size+1<w2.heap.size/\w.heap.size<w2.heap.size:=by
 have h2:=zS hz o r
 have hs:=h.size
 rw [zd,zd] at hs
 exact ⟨Below.then (zo (zo hb (by omega) r) (Nat.le_refl _) o) h,(Grew.below h _ (za h2.1)).trans h2.1,(Grew.below h _ (za h2.2)).trans h2.2,by omega,by omega⟩
theorem za9 {α : Type} {R:RowOf α} {w:World} {v:Value} {xs:List α} (hstr:∀ u ∈ xs.flatMap R.row,∃ s,u=.string s) (h:RdL R w v xs) {p:Nat} {a0 a1 a2:Option Addr} {n0 n1 n2 c0 c1 c2:Nat} {t:TypeId} (hp:w.heap[p]?=some (.cells #[.slice a0 n0 c0,.slice a1 n1 c1,.slice a2 n2 c2] t (0,0))) (o:Obj):RdL R (w.setB p o) v xs:=by
 by_cases hq:v.ownBlock=some p
 ·rcases h with h|⟨b,off,cap,hv,h1,h2,h3⟩
  ·exact .inl h
  ·refine .inr ⟨b,off,cap,hv,h1,h2,fun j u hj=>?_⟩
   exfalso
   subst hv
   have e:b=p:=by simpa [Value.ownBlock] using hq
   subst e
   have hc:=h3 j u hj
   rw [zb hp] at hc
   obtain ⟨s,rfl⟩:=hstr u (List.mem_of_getElem? hj)
   have hm:=Array.mem_of_getElem? hc
   simp at hm
 ·exact h.setB hq o
theorem zf (xs:List CellD):∀ u ∈ xs.flatMap zu.row,∃ s,u=.string s:=by
 intro u hu
 obtain ⟨c,_,hc⟩:=List.mem_flatMap.1 hu
 simp [zu,CellD.row] at hc
 rcases hc with rfl|rfl<;>exact ⟨_,rfl⟩
theorem zc (xs:List ByteArray):∀ u ∈ xs.flatMap zx.row,∃ s,u=.string s:=by
 intro u hu
 obtain ⟨c,_,hc⟩:=List.mem_flatMap.1 hu
 simp [zx] at hc
 exact ⟨_,hc⟩
theorem zg {α : Type} {R:RowOf α} {w:World} {v:Value} {xs:List α} (hstr:∀ u ∈ xs.flatMap R.row,∃ s,u=.string s) (h:RdL R w v xs) {p:Nat} {a0 a1 a2 a3 a4 a5:Option Addr} {n0 n1 n2 c0 c1 c2 n3 n4 n5 c3 c4 c5:Nat} {t t':TypeId} (hp:w.heap[p]?=some (.cells #[.slice a0 n0 c0,.slice a1 n1 c1,.slice a2 n2 c2] t (0,0))) (hr:w.heap[p+1]?=some (.cells #[.slice a3 n3 c3,.slice a4 n4 c4,.slice a5 n5 c5] t' (0,0))) (o r:Obj):RdL R ((w.setB (p+1) r).setB p o) v xs :=
 za9 hstr (za9 hstr h hr r) (by rw [World.setB_get _ _ _ _ (by omega)];exact hp) o
theorem nx2 {w:World} {v0 v1 v2:Value} {cs:List CellD} {rd wr:List ByteArray} {p:Nat} {a0 a1 a2 a3 a4 a5:Option Addr} {n0 n1 n2 c0 c1 c2 n3 n4 n5 c3 c4 c5:Nat} {t t':TypeId} (hp:w.heap[p]?=some (.cells #[.slice a0 n0 c0,.slice a1 n1 c1,.slice a2 n2 c2] t (0,0))) (hr:w.heap[p+1]?=some (.cells #[.slice a3 n3 c3,.slice a4 n4 c4,.slice a5 n5 c5] t' (0,0))) (q0:RdL zu w v0 cs) (q1:RdL zx w v1 rd) (q2:RdL zx w v2 wr) :
  (w.setB (p+1) (.cells #[.slice a3 n3 c3,.slice a4 n4 c4,.slice a5 n5 c5] t' (0,0))).setB p (.cells #[.slice a0 n0 c0,.slice a1 n1 c1,.slice a2 n2 c2] t (0,0))=w ∧ Hid (∀ o r,RdL zu ((w.setB (p+1) r).setB p o) v0 cs) ∧ Hid (∀ o r,RdL zx ((w.setB (p+1) r).setB p o) v1 rd) ∧ Hid (∀ o r,RdL zx ((w.setB (p+1) r).setB p o) v2 wr) :=
 ⟨zj hp hr,fun o r=>zg (zf _) q0 hp hr o r,fun o r=>zg (zc _) q1 hp hr o r,fun o r=>zg (zc _) q2 hp hr o r⟩
theorem zaV {m:MachD} (h:Mp.Small m) (k:ByteArray):(zbm k m.cells).size<=1048576:=by
 unfold zbm
 cases hf:m.cells.find? (z6 k) with
 | none=>decide
 | some c=>exact (h.cz c (List.mem_of_find?_eq_some hf)).2
theorem zU (k:ByteArray):SC 175 (fun x=>#[x,.string k]) (K.num k) (fun v' n=>.tuple #[v',.int .i64 n]):=by
 refine SCmk (fun w m a0 c0 a1 c1 a2 c2 H0 H1 H2 hf=>?_)
 have hf1:=(Mp.fits_bind (K.look k) _ m).1 hf
 have D1:=fun w' (hb:Below w.heap.size w w')=>za3 k w' (.agg #[.slice a0 m.cells.length c0,.slice a1 m.rd.length c1,.slice a2 m.wr.length c2]) m ⟨_,_,_,rfl,H0.out.below hb,H1.out.below hb,H2.out.below hb⟩ hf1.1
 have hz:((K.look k).run m).1.size<=1048576:=zaV hf1.1.1 k
 have hr:(K.num k).run m=(za0 ((K.look k).run m).1,((K.look k).run m).2):=rfl
 rw [hr]
 clear hr hf hf1
 generalize (K.look k).run m=R at D1 hz ⊢
 obtain ⟨t,m1⟩:=R
 dsimp only at D1 hz ⊢
 have D1:=Hd D1
 go_enter Tryz.func175,Tryz.ntmps175
 (skip);repeat (first|go_skip|go_guarded|go_step|go_upon|go_back)
 (go_at_call 55;refine (D1.out _ (by repeat (first|with_reducible exact Below.refl _ _|with_reducible apply Below.ofAlloc))).mono ?_;rintro e w1 ⟨v1,rfl,hm1,hb1⟩)
 obtain ⟨b0,d0,b1,d1,b2,d2,rfl,q0,q1,q2⟩:=hm1.form
 obtain ⟨B1,P1,R1,Zq,Zp⟩:=ze1 hb1
 have Q0:=Hd q0;have Q1:=Hd q1;have Q2:=Hd q2
 have D2:=Hd (fun w'=>zcQ t w' hz)
 have e1:=zj P1 R1
 rw [<- e1]
 have W0:=fun o r=>zg (zf _) q0 P1 R1 o r
 have W1:=fun o r=>zg (zc _) q1 P1 R1 o r
 have W2:=fun o r=>zg (zc _) q2 P1 R1 o r
 have HW0:=Hd W0;have HW1:=Hd W1;have HW2:=Hd W2
 clear e1 P1 R1 hm1 q0 q1 q2 hb1 D1 W0 W1 W2
 (try simp only []);repeat (first|go_skip|go_guarded|go_step|go_upon|go_back)
 refine zai [(0,true),(1,true),(2,false),(3,false),(4,false)] 3 (by kernel_rfl) (by kernel_rfl) ?_
 repeat (refine zk rfl (fun K hK=>?_);go_simp;(try simp (disch:=omega) only [IntWalk.i64_in]);refine hK _ ?_;clear hK K)
 refine zr rfl (fun K hK=>?_);go_simp;go_at_call 196;refine (D2.out _).mono ?_;rintro e w' ⟨rfl,hb⟩;obtain ⟨X,rfl⟩:=hb.ext;clear hb;try go_simp;refine hK _ _ (by show Sx _ _;repeat (first|with_reducible apply Sx.ext|with_reducible exact Sx.refl _)) ?_;clear hK K
 repeat (refine zk rfl (fun K hK=>?_);go_simp;(try simp (disch:=omega) only [IntWalk.i64_in]);refine hK _ ?_;clear hK K)
 repeat (refine zt rfl rfl (fun K hK=>?_);go_simp;refine hK _ _ ?_;clear hK K)
 refine zQ ?_
 (skip);repeat (first|go_skip|go_guarded|go_step|go_upon|go_back)
 refine bodyPost_ret (by simp [results,Tryz.results175,go_sem,Zq];rfl) rfl ?_
 have BF:=fun o r=>zo (zo B1 (p:=w.heap.size+1) (by omega) r) (p:=w.heap.size) (Nat.le_refl _) o
 exact ⟨_,rfl,⟨_,_,_,rfl,(HW0.out _ _).ext X,(HW1.out _ _).ext X,(HW2.out _ _).ext X⟩,(BF _ _).ofExt X⟩
theorem zcK {P:Program} {c:Code} {Q:Exit->Act->World->Prop} {a:Act} {W:World} (S:World->Prop) (h:S W) (H:∀ W0,S W0->c.wp P Q a W0):c.wp P Q a W:=H W h
theorem opqM2 {P:Program} {c:Code} {Q:Exit → Act → World → Prop} {a:Act} {W:World} (w:World) (o1 o2:Obj) (h:Below w.heap.size w W ∧ W.heap[w.heap.size]?=some o1 ∧ W.heap[w.heap.size+1]?=some o2) (H:∀ W0,(Below w.heap.size w W0 ∧ W0.heap[w.heap.size]?=some o1 ∧ W0.heap[w.heap.size+1]?=some o2) → c.wp P Q a W0):c.wp P Q a W:=H W h
theorem zh3 (w:World) {p q:Nat} (h:p ≠ q) (o r r':Obj):((w.setB q r).setB p o).setB q r'=(w.setB q r').setB p o:=by
 have e:((w.heap.setIfInBounds q r).setIfInBounds p o).setIfInBounds q r'=(w.heap.setIfInBounds q r').setIfInBounds p o:=by
  apply Array.ext_getElem?
  intro k
  simp only [Array.getElem?_setIfInBounds,Array.size_setIfInBounds]
  by_cases h1:q=k
  ·subst h1
   rw [if_pos rfl,if_neg h,if_pos rfl]
  ·rw [if_neg h1,if_neg h1,if_neg h1]
 unfold World.setB
 simp only [e]
theorem za5 {α : Type} {R:RowOf α} {w:World} {v:Value} {xs:List α} (hstr:∀ u ∈ xs.flatMap R.row,∃ s,u=.string s) {p:Nat} {a3 a4 a5:Option Addr} {n3 n4 n5 c3 c4 c5:Nat} {t':TypeId} {o:Obj} {Y:Ext} (hz:p+1<w.heap.size)
  (h:RdL R (((w.setB (p+1) (.cells #[.slice a3 n3 c3,.slice a4 n4 c4,.slice a5 n5 c5] t' (0,0))).setB p o).ext Y) v xs) (r':Obj):RdL R (((w.setB (p+1) r').setB p o).ext Y) v xs:=by
 have h2:=zS hz o (.cells #[.slice a3 n3 c3,.slice a4 n4 c4,.slice a5 n5 c5] t' (0,0))
 have h3:=(World.ext_get _ Y (za h2.2)).trans h2.2
 have h4:=za9 hstr h h3 r'
 rwa [zay _ _ _ _ (za h2.2),zh3 _ (by omega)] at h4
theorem zjf (n:Int) (h0 : -9223372036854775808<=n) (h1:n<=9223372036854775807):(zX (Lib.itoa n)).size<=4611686018427387920:=by
 rw [zN]
 exact itoa_len n h0 h1
theorem zZ (h t:ByteArray) (n:Int) (w:World) (hh:h.size<=1073741824) (ht:t.size<=1073741824) (h0 : -9223372036854775808<=n) (h1:n<=9223372036854775807) :
  Calls Tryz.prog 181 #[.string h,.int .i64 n,.string t] w fun e w'=>e=.returned (.string (zO h n t))/\Below w.heap.size w w':=by
 have hd:=zjf n h0 h1
 have D:=zbQ n w h0 h1
 unfold zO
 generalize zX (Lib.itoa n)=d at hd D ⊢
 have D1:=Hd D
 clear D
 have c1:¬ (9223372036854775807<(h.size:Int)+d.size):=by omega
 have c2:¬ (9223372036854775807<(h.size:Int)+d.size+t.size):=by omega
 have c3:(h.size:Int)+d.size<=9223372036854775807:=by omega
 have c4:(h.size:Int)+d.size+t.size<=9223372036854775807:=by omega
 go_enter Tryz.func181,Tryz.ntmps181
 (skip);repeat (first|go_skip|go_guarded|go_step|go_upon|go_back)
 (go_at_call 203;refine D1.out.mono ?_;rintro e w1 ⟨rfl,hb1⟩)
 go_wp2
 go_ret
 exact ⟨rfl,hb1⟩
theorem zH (k:ByteArray) (n:Int) (h0 : -9223372036854775808<=n) (h1:n<=9223372036854775807):SC 180 (fun x=>#[x,.string k,.int .i64 n]) (K.setNum k n) (fun v' _=>v'):=by
 refine SCmk (fun w m a0 c0 a1 c1 a2 c2 H0 H1 H2 hf=>?_)
 have D1:=fun w' (hb:Below w.heap.size w w')=>zan k (K.numText n) w' (.agg #[.slice a0 m.cells.length c0,.slice a1 m.rd.length c1,.slice a2 m.wr.length c2]) m ⟨_,_,_,rfl,H0.out.below hb,H1.out.below hb,H2.out.below hb⟩ hf
 have hr:(K.setNum k n).run m=(K.lay k (K.numText n)).run m:=rfl
 rw [hr]
 clear hr hf
 generalize (K.lay k (K.numText n)).run m=R at D1 ⊢
 obtain ⟨u,m1⟩:=R
 dsimp only at D1 ⊢
 by_cases hi : 1<=n/\n<=999
 case neg =>
  have hin:inB n 1 999=false:=by unfold inB;simp;omega
  have hnt:K.numText n=⟨#[]⟩:=if_neg hi
  rw [hnt] at D1
  have D1:=Hd D1
  have HIN:=Hd hin
  clear hin hnt hi
  go_enter Tryz.func180,Tryz.ntmps180
  (skip);repeat (first|go_skip|go_guarded|go_step|go_upon|go_back)
  (go_at_call 59;refine (zM _ _ _ _).mono ?_;rintro e w' ⟨rfl,rfl⟩)
  rw [HIN.out]
  (try simp only []);repeat (first|go_skip|go_guarded|go_step|go_upon|go_back)
  (go_at_call 182;refine (D1.out _ (by repeat (first|with_reducible exact Below.refl _ _|with_reducible apply Below.ofAlloc))).mono ?_;rintro e w1 ⟨v1,rfl,hm1,hb1⟩)
  obtain ⟨b0,d0,b1,d1,b2,d2,rfl,q0,q1,q2⟩:=hm1.form
  obtain ⟨B1,P1,R1,Zq,Zp⟩:=ze1 hb1
  have e1:=zj P1 R1
  rw [<- e1]
  have W0:=fun o r=>zg (zf _) q0 P1 R1 o r
  have W1:=fun o r=>zg (zc _) q1 P1 R1 o r
  have W2:=fun o r=>zg (zc _) q2 P1 R1 o r
  have HW0:=Hd W0;have HW1:=Hd W1;have HW2:=Hd W2
  clear e1 P1 R1 hm1 q0 q1 q2 hb1 D1 W0 W1 W2
  (try simp only []);repeat (first|go_skip|go_guarded|go_step|go_upon|go_back)
  refine bodyPost_ret (by simp [results,Tryz.results180,go_sem,Zq];rfl) rfl ?_
  have BF:=fun o r=>zo (zo B1 (p:=w.heap.size+1) (by omega) r) (p:=w.heap.size) (Nat.le_refl _) o
  exact ⟨_,rfl,⟨_,_,_,rfl,HW0.out _ _,HW1.out _ _,HW2.out _ _⟩,BF _ _⟩
 case pos =>
  have hin:inB n 1 999=true:=by unfold inB;simp;omega
  have hnt:K.numText n=zX (Lib.itoa n):=if_pos hi
  rw [hnt] at D1
  have D1:=Hd D1
  have D2:=Hd (fun w'=>zbQ n w' h0 h1)
  have HIN:=Hd hin
  clear hin hnt hi
  go_enter Tryz.func180,Tryz.ntmps180
  (skip);repeat (first|go_skip|go_guarded|go_step|go_upon|go_back)
  (go_at_call 59;refine (zM _ _ _ _).mono ?_;rintro e w' ⟨rfl,rfl⟩)
  rw [HIN.out]
  (try simp only []);repeat (first|go_skip|go_guarded|go_step|go_upon|go_back)
  refine zcK (fun W0=>Below w.heap.size w W0/\W0.heap[w.heap.size]?=some (.cells #[.slice a0 m.cells.length c0,.slice a1 m.rd.length c1,.slice a2 m.wr.length c2] 54)/\W0.heap[w.heap.size+1]?=some (.cells #[.slice none 0 0,.slice none 0 0,.slice none 0 0] 54)) (by have h2:=zaq w (.cells #[.slice a0 m.cells.length c0,.slice a1 m.rd.length c1,.slice a2 m.wr.length c2] 54) (.cells #[.slice none 0 0,.slice none 0 0,.slice none 0 0] 54) w.heap.size rfl;exact ⟨(by repeat (first|with_reducible exact Below.refl _ _|with_reducible apply Below.ofAlloc)),h2.1,h2.2⟩) ?_
  rintro w1 ⟨B1,P1,R1⟩
  have Zp:=za P1
  have Zq:=za R1
  have e1:=zj P1 R1
  rw [<- e1]
  have S1:=fun o r=>zo (zo B1 (p:=w.heap.size+1) (by omega) r) (p:=w.heap.size) (Nat.le_refl _) o
  clear e1 P1 R1
  refine zai [(0,true),(1,true),(2,true),(3,false),(4,false),(5,false)] 5 (by kernel_rfl) (by kernel_rfl) ?_
  repeat (refine zk rfl (fun K hK=>?_);go_simp;(try simp (disch:=omega) only [IntWalk.i64_in]);refine hK _ ?_;clear hK K)
  refine zr rfl (fun K hK=>?_);go_simp;go_at_call 203;refine (D2.out _).mono ?_;rintro e w' ⟨rfl,hb⟩;obtain ⟨X,rfl⟩:=hb.ext;clear hb;try go_simp;refine hK _ _ (by show Sx _ _;repeat (first|with_reducible apply Sx.ext|with_reducible exact Sx.refl _)) ?_;clear hK K
  repeat (refine zk rfl (fun K hK=>?_);go_simp;(try simp (disch:=omega) only [IntWalk.i64_in]);refine hK _ ?_;clear hK K)
  refine zr rfl (fun K hK=>?_);go_simp;go_at_call 182;refine (D1.out _ (by with_reducible exact (S1 _ _).ofExt _)).mono ?_;rintro e w' ⟨v1,rfl,hm1,hb1⟩;obtain ⟨b0,d0,b1,d1,b2,d2,rfl,q0,q1,q2⟩:=hm1.form;obtain ⟨X2,rfl⟩:=hb1.ext;have Q0:=Hd q0;have Q1:=Hd q1;have Q2:=Hd q2;clear hm1 q0 q1 q2 hb1;try go_simp;refine hK _ _ (by show Sx _ _;repeat (first|with_reducible apply Sx.more|with_reducible apply Sx.ext|with_reducible exact Sx.refl _)) ?_;clear hK K
  repeat (refine zk rfl (fun K hK=>?_);go_simp;(try simp (disch:=omega) only [IntWalk.i64_in]);refine hK _ ?_;clear hK K)
  repeat (refine zt rfl rfl (fun K hK=>?_);go_simp;refine hK _ _ ?_;clear hK K)
  refine zQ ?_
  (skip);repeat (first|go_skip|go_guarded|go_step|go_upon|go_back)
  refine bodyPost_ret (by simp [results,Tryz.results180,go_sem,Zq];rfl) rfl ?_
  have Q0':=Q0.out;have Q1':=Q1.out;have Q2':=Q2.out
  rw [zp] at Q0' Q1' Q2'
  exact ⟨_,rfl,⟨_,_,_,rfl,za5 (zf _) Zq Q0' _,za5 (zc _) Zq Q1' _,za5 (zc _) Zq Q2' _⟩,(S1 _ _).ofExt _⟩
theorem zcc (id:Int) (t:ByteArray) (w:World) (ht:t.size<=1073741824) (h0 : -9223372036854775808<=id) (h1:id<=9223372036854775807) :
  Calls Tryz.prog 188 #[.int .i64 id,.string t] w fun e w'=>e=.returned (.string (K.pipeKey id t))/\Below w.heap.size w w':=by
 have D:=Hd (zZ K.nP t id w (by decide) ht h0 h1)
 go_enter Tryz.func188,Tryz.ntmps188
 (skip);repeat (first|go_skip|go_guarded|go_step|go_upon|go_back)
 (go_at_call 181;refine D.out.mono ?_;rintro e w1 ⟨rfl,hb1⟩)
 go_wp2
 go_ret
 exact ⟨rfl,hb1⟩
theorem zcb (id:Int) (t:ByteArray) (w:World) (ht:t.size<=1073741824) (h0 : -9223372036854775808<=id) (h1:id<=9223372036854775807) :
  Calls Tryz.prog 176 #[.int .i64 id,.string t] w fun e w'=>e=.returned (.string (K.procKey id t))/\Below w.heap.size w w':=by
 have D:=Hd (zZ K.nR t id w (by decide) ht h0 h1)
 go_enter Tryz.func176,Tryz.ntmps176
 (skip);repeat (first|go_skip|go_guarded|go_step|go_upon|go_back)
 (go_at_call 181;refine D.out.mono ?_;rintro e w1 ⟨rfl,hb1⟩)
 go_wp2
 go_ret
 exact ⟨rfl,hb1⟩
theorem zee (id:Int) (t:ByteArray) (w:World) (ht:t.size<=1073741824) (h0 : -9223372036854775808<=id) (h1:id<=9223372036854775807) :
  Calls Tryz.prog 193 #[.int .i64 id,.string t] w fun e w'=>e=.returned (.string (K.signalKey id t))/\Below w.heap.size w w':=by
 have D:=Hd (zZ K.nG t id w (by decide) ht h0 h1)
 go_enter Tryz.func193,Tryz.ntmps193
 (skip);repeat (first|go_skip|go_guarded|go_step|go_upon|go_back)
 (go_at_call 181;refine D.out.mono ?_;rintro e w1 ⟨rfl,hb1⟩)
 go_wp2
 go_ret
 exact ⟨rfl,hb1⟩
theorem zbP (id:Int) (w:World) (h0 : -9223372036854775808<=id) (h1:id<=9223372036854775807) :
  Calls Tryz.prog 197 #[.int .i64 id] w fun e w'=>e=.returned (.string (K.pagesKey id))/\Below w.heap.size w w':=by
 have D:=Hd (zZ K.nM K.slash id w (by decide) (by decide) h0 h1)
 go_enter Tryz.func197,Tryz.ntmps197
 (skip);repeat (first|go_skip|go_guarded|go_step|go_upon|go_back)
 (go_at_call 181;refine D.out.mono ?_;rintro e w1 ⟨rfl,hb1⟩)
 go_wp2
 go_ret
 exact ⟨rfl,hb1⟩
end Go.Proofs.YtpnoehpmgflibaaGreatDoor
