/- Texts of this claim, merged: the walks and what they stand on. Each condition stands in its theorem. -/
import Derived.Deep.RegionWith
import Derived.Test.YtncnbihlngapbaaGreatCB3
set_option linter.unusedVariables false
set_option linter.unusedSimpArgs false
set_option maxRecDepth 100000
set_option maxHeartbeats 8000000
namespace Go.Proofs.YtncnbihlngapbaaGreat
open Go.ChangeShapes Go.WideShapes Go.ChangeAt Go.RowKit
theorem zhp (s:ByteArray):s.toList=s.data.toList:=ByteArray.toList_eq s
theorem OwnL.merge2 {α : Type} {R:RowOf α} {e:TypeId} {w:World} {B:Nat} {v:Value} {xs:List α} {bs cs:Array Obj} {d0 dr:Nat} (h:OwnL R e (w.ext ⟨bs,d0⟩) B v xs):OwnL R e (w.ext ⟨bs++cs,dr⟩) B v xs:=by
 have:=h.ext ⟨cs,dr⟩
 rwa [zm] at this
theorem zaL {α : Type} {R:RowOf α} {e:TypeId} {w:World} {B:Nat} {v:Value} {xs:List α} {X:Ext} {d:Nat} (h:OwnL R e (w.ext X) B v xs):OwnL R e (w.ext ⟨X.bs,d⟩) B v xs:=by
 have:=h.ext ⟨#[],d⟩
 rwa [zm,Array.append_empty] at this
theorem zhE (v:Value) (ds:List CellD) (key val:ByteArray) (w:World) (hs:RdL zE w v ds) (hl:ds.length<=1099511627776) (hks:key.size<=9223372036854775807) :
  Calls Tryz.prog 112 #[v,.string key,.string val] w fun e w'=>∃ v',e=.returned v'/\OwnL zE 145 w' w.heap.size v' (zd7 key val ds)/\Below w.heap.size w w':=by
 obtain ⟨ao,cap,rfl,hc1,hc2,hnil,hne⟩:=hs.shape
 have HR:=Hd hs
 have HX:=Hd hne
 clear hs hne hnil
 unfold maxLen at hc2
 cases hk0:zex key with
 | false =>
  have HK0:=Hd hk0
  have HF:Hid (zd7 key val ds=ds):=by show _ = _;unfold zd7;rw [if_pos (.inl hk0)]
  clear hk0
  go_enter Tryz.func112,Tryz.ntmps112
  go_wp2_with fail
  (go_at_call 121;refine (zdf key _ hks).mono ?_;rintro e w' ⟨rfl,rfl⟩)
  rw [HK0.out]
  go_wp2_with (at_builtin;refine zP ?_)
  refine zR rfl _ _ _ rfl zan (B:=w.heap.size) (v:=.slice (some ⟨w.heap.size,0,none⟩) 0 0) (xs:=[]) (R:=zE) (OwnL.empty zE _ w) rfl (ys:=ds) (HR.out.alloc _) rfl (by simp only [List.length_nil];(try simp only [List.length_append,List.length_nil]);omega) (by simp only [List.length_nil];(try simp only [List.length_append,List.length_nil]);unfold maxLen;omega) (by simp [zw];try omega) ?_
  intro v4 w4 hown4 hgr4 _
  have hb4:Below w.heap.size w w4:=Below.appL (R:=zE) (e:=145) (v:=.slice (some ⟨w.heap.size,0,none⟩) 0 0) (xs:=[]) (by repeat (first|with_reducible exact Below.refl _ _|with_reducible apply Below.ofExt|with_reducible apply Below.ofAlloc|with_reducible apply Below.drew|with_reducible apply Below.ofDrewN|with_reducible assumption|(with_reducible refine Below.setCell ?_ (by first|exact Nat.le_refl _|(simp [go_sem];done)|(simp [go_sem];omega)) _))) hgr4 (OwnL.empty zE _ w)
  clear hgr4
  go_wp2
  go_ret
  exact ⟨_,rfl,by rw [HF.out];exact hown4,hb4⟩
 | true =>
  have HK0:=Hd hk0
  clear hk0
  by_cases hv60:(60:Int)<val.size
  case pos =>
   have HF:Hid (zd7 key val ds=ds):=by show _ = _;unfold zd7;rw [if_pos (.inr (by omega))]
   go_enter Tryz.func112,Tryz.ntmps112
   go_wp2_with fail
   (go_at_call 121;refine (zdf key _ hks).mono ?_;rintro e w' ⟨rfl,rfl⟩)
   rw [HK0.out]
   go_wp2_with (at_builtin;refine zP ?_)
   refine zR rfl _ _ _ rfl zan (B:=w.heap.size) (v:=.slice (some ⟨w.heap.size,0,none⟩) 0 0) (xs:=[]) (R:=zE) (OwnL.empty zE _ w) rfl (ys:=ds) (HR.out.alloc _) rfl (by simp only [List.length_nil];(try simp only [List.length_append,List.length_nil]);omega) (by simp only [List.length_nil];(try simp only [List.length_append,List.length_nil]);unfold maxLen;omega) (by simp [zw];try omega) ?_
   intro v4 w4 hown4 hgr4 _
   have hb4:Below w.heap.size w w4:=Below.appL (R:=zE) (e:=145) (v:=.slice (some ⟨w.heap.size,0,none⟩) 0 0) (xs:=[]) (by repeat (first|with_reducible exact Below.refl _ _|with_reducible apply Below.ofExt|with_reducible apply Below.ofAlloc|with_reducible apply Below.drew|with_reducible apply Below.ofDrewN|with_reducible assumption|(with_reducible refine Below.setCell ?_ (by first|exact Nat.le_refl _|(simp [go_sem];done)|(simp [go_sem];omega)) _))) hgr4 (OwnL.empty zE _ w)
   clear hgr4
   go_wp2
   go_ret
   exact ⟨_,rfl,by rw [HF.out];exact hown4,hb4⟩
  case neg =>
   by_cases hv:val.size=0
   case pos =>
    obtain rfl:val=⟨#[]⟩:=by
     obtain ⟨⟨l⟩⟩:=val
     have:l = []:=List.eq_nil_of_length_eq_zero hv
     subst this
     rfl
    go_enter Tryz.func112,Tryz.ntmps112
    go_wp2_with fail
    (go_at_call 121;refine (zdf key _ hks).mono ?_;rintro e w' ⟨rfl,rfl⟩)
    rw [HK0.out]
    go_wp2
    go_loopw [7,8,9] (fun o dv k wr=>∃ (n:Nat) (xs:List CellD) (dn:Bool),k=.int .i64 n/\n<=ds.length/\dv=.bool dn/\Below w.heap.size w wr/\OwnL zE 145 wr w.heap.size o xs/\xs=zap key (ds.take n)/\dn=true) (fun _ _ k _=>ds.length - (intOf k).toNat)
    case atStart=>exact ⟨0,[],true,rfl,by omega,rfl,(by repeat (first|with_reducible exact Below.refl _ _|with_reducible apply Below.ofExt|with_reducible apply Below.ofAlloc|with_reducible apply Below.drew|with_reducible apply Below.ofDrewN|with_reducible assumption|(with_reducible refine Below.setCell ?_ (by first|exact Nat.le_refl _|(simp [go_sem];done)|(simp [go_sem];omega)) _))),OwnL.empty zE _ w,rfl,rfl⟩
    case round =>
     obtain ⟨n,xs,dn,rfl,hn,rfl,hbel,ho,hxs,hdn⟩:=hrel
     have hxl:xs.length<=n+1:=by rw [hxs];have:=zfd key (ds.take n);rw [List.length_take] at this;omega
     obtain ⟨X,rfl⟩:=hbel.ext
     obtain ⟨oa,oc,rfl⟩:=ho.rd.form
     have HO:=Hd ho
     clear ho
     by_cases hlt:(n:Int)<ds.length
     case pos =>
      have hk:n<ds.length:=by omega
      obtain ⟨b,off,rfl,hbl,hcell⟩:=HX.out (by intro e;simp [e] at hk)
      have hc:=hcell n hk
      have hst:ds.take (n+1)=ds.take n ++ [ds[n]]:=List.take_succ_eq_append_getElem hk
      have hsd:(ds.take (n+1)).any (zaw key)=((ds.take n).any (zaw key) || zaw key ds[n]):=by rw [hst,List.any_append];simp
      generalize ds[n]=d at hc hst hsd
      have y0:w.cell? ⟨b,off+n*2,none⟩=some (.string d.key):=hc 0 _ rfl
      have y1:w.cell? ⟨b,off+n*2+1,none⟩=some (.string d.val):=hc 1 _ rfl
      clear hc hcell
      have hbl:=hbl (by decide)
      have hbl2:b<w.heap.size+X.bs.size:=by omega
      have hbl3:b<w.heap.size+X.bs.size+1:=by omega
      have hbl4:¬ b=w.heap.size+X.bs.size:=by omega
      subst hdn
      have hdn:true=true:=rfl
      cases hik:zaH key d with
      | true =>
       have hke:(d.key.toList==key.toList)=true:=hik
       have HS:Hid (zap key (ds.take (n+1))=xs):=by show _ = _;rw [hst,hxs];rw [zbR,hik,if_pos rfl,List.append_nil]
       have HD2:Hid (true=true):=by show _ = _;rfl
       clear hst hsd hxs hdn
       go_wp2
       go_roundw
       case rel=>exact ⟨n+1,xs,_,by go_num,by omega,rfl,(by repeat (first|with_reducible exact Below.refl _ _|with_reducible apply Below.ofExt|with_reducible apply Below.ofAlloc|with_reducible apply Below.drew|with_reducible apply Below.ofDrewN|with_reducible assumption|(with_reducible refine Below.setCell ?_ (by first|exact Nat.le_refl _|(simp [go_sem];done)|(simp [go_sem];omega)) _))),(by (try simp only [<- Array.append_assoc]);(repeat (first|with_reducible exact HO.out|with_reducible exact hown|with_reducible exact zaL HO.out|with_reducible apply OwnL.merge2|with_reducible apply OwnL.ext|with_reducible apply OwnL.alloc));all_goals exact (0:Nat)),by rw [HS.out],rfl⟩
       case measure=>simp [intOf];omega
      | false =>
       have hke:(d.key.toList==key.toList)=false:=hik
       have HS:Hid (zap key (ds.take (n+1))=xs ++ [d]):=by show _ = _;rw [hst,hxs];rw [zbR,hik];rfl
       have HD2:Hid (true=true):=by show _ = _;rfl
       clear hst hsd hxs hdn
       go_wp2_with (at_builtin;refine zP ?_)
       refine zR rfl _ _ _ rfl zan (B:=w.heap.size) (v:=.slice oa xs.length oc) (xs:=xs) (R:=zE) (by (try simp only [<- Array.append_assoc]);(repeat (first|with_reducible exact HO.out|with_reducible exact hown|with_reducible exact zaL HO.out|with_reducible apply OwnL.merge2|with_reducible apply OwnL.ext|with_reducible apply OwnL.alloc));all_goals exact (0:Nat)) rfl (ys:=[d]) (zat zE _ (d) _ rfl _ _ (by simp [zw])) rfl (by simp only [List.length_singleton];(try simp only [List.length_append,List.length_singleton]);omega) (by simp only [List.length_singleton];(try simp only [List.length_append,List.length_singleton]);unfold maxLen;omega) (by simp [zw];try omega) ?_
       intro v4 w4 hown4 hgr4 _
       have hb4:Below w.heap.size w w4:=Below.appL (R:=zE) (e:=145) (v:=.slice oa xs.length oc) (xs:=xs) (by repeat (first|with_reducible exact Below.refl _ _|with_reducible apply Below.ofExt|with_reducible apply Below.ofAlloc|with_reducible apply Below.drew|with_reducible apply Below.ofDrewN|with_reducible assumption|(with_reducible refine Below.setCell ?_ (by first|exact Nat.le_refl _|(simp [go_sem];done)|(simp [go_sem];omega)) _))) hgr4 (by (try simp only [<- Array.append_assoc]);(repeat (first|with_reducible exact HO.out|with_reducible exact hown|with_reducible exact zaL HO.out|with_reducible apply OwnL.merge2|with_reducible apply OwnL.ext|with_reducible apply OwnL.alloc));all_goals exact (0:Nat))
       clear hgr4
       go_wp2
       go_roundw
       case rel=>exact ⟨n+1,xs ++ [d],_,by go_num,by omega,rfl,hb4,hown4,by rw [HS.out],rfl⟩
       case measure=>simp [intOf];omega
     case neg =>
      have e:n=ds.length:=by omega
      have HF:Hid (zd7 key ⟨#[]⟩ ds=xs):=by show _ = _;unfold zd7;rw [if_neg (fun h=>h.elim (fun h=>by rw [HK0.out] at h;cases h) (fun h=>absurd h (by decide))),if_pos hv,hxs,e,List.take_length]
      subst hdn
      clear hxs
      go_wp2
      go_ret
      exact ⟨_,rfl,by rw [HF.out];exact HO.out,(by repeat (first|with_reducible exact Below.refl _ _|with_reducible apply Below.ofExt|with_reducible apply Below.ofAlloc|with_reducible apply Below.drew|with_reducible apply Below.ofDrewN|with_reducible assumption|(with_reducible refine Below.setCell ?_ (by first|exact Nat.le_refl _|(simp [go_sem];done)|(simp [go_sem];omega)) _)))⟩
   case neg =>
    have hve:(val.toList == [])=false:=by
     obtain ⟨⟨l⟩⟩:=val
     cases l with
     | nil=>exact absurd rfl hv
     | cons a l=>exact beq_false_of_ne (by rw [zhp];exact List.cons_ne_nil _ _)
    go_enter Tryz.func112,Tryz.ntmps112
    go_wp2_with fail
    (go_at_call 121;refine (zdf key _ hks).mono ?_;rintro e w' ⟨rfl,rfl⟩)
    rw [HK0.out]
    go_wp2
    go_loopw [7,8,9] (fun o dv k wr=>∃ (n:Nat) (xs:List CellD) (dn:Bool),k=.int .i64 n/\n<=ds.length/\dv=.bool dn/\Below w.heap.size w wr/\OwnL zE 145 wr w.heap.size o xs/\xs=zcu key val (ds.take n)/\dn=(ds.take n).any (zaw key)) (fun _ _ k _=>ds.length - (intOf k).toNat)
    case atStart=>exact ⟨0,[],false,rfl,by omega,rfl,(by repeat (first|with_reducible exact Below.refl _ _|with_reducible apply Below.ofExt|with_reducible apply Below.ofAlloc|with_reducible apply Below.drew|with_reducible apply Below.ofDrewN|with_reducible assumption|(with_reducible refine Below.setCell ?_ (by first|exact Nat.le_refl _|(simp [go_sem];done)|(simp [go_sem];omega)) _))),OwnL.empty zE _ w,rfl,rfl⟩
    case round =>
     obtain ⟨n,xs,dn,rfl,hn,rfl,hbel,ho,hxs,hdn⟩:=hrel
     have hxl:xs.length<=n+1:=by rw [hxs];have:=zjo key val (ds.take n);rw [List.length_take] at this;omega
     obtain ⟨X,rfl⟩:=hbel.ext
     obtain ⟨oa,oc,rfl⟩:=ho.rd.form
     have HO:=Hd ho
     clear ho
     by_cases hlt:(n:Int)<ds.length
     case pos =>
      have hk:n<ds.length:=by omega
      obtain ⟨b,off,rfl,hbl,hcell⟩:=HX.out (by intro e;simp [e] at hk)
      have hc:=hcell n hk
      have hst:ds.take (n+1)=ds.take n ++ [ds[n]]:=List.take_succ_eq_append_getElem hk
      have hsd:(ds.take (n+1)).any (zaw key)=((ds.take n).any (zaw key) || zaw key ds[n]):=by rw [hst,List.any_append];simp
      generalize ds[n]=d at hc hst hsd
      have y0:w.cell? ⟨b,off+n*2,none⟩=some (.string d.key):=hc 0 _ rfl
      have y1:w.cell? ⟨b,off+n*2+1,none⟩=some (.string d.val):=hc 1 _ rfl
      clear hc hcell
      have hbl:=hbl (by decide)
      have hbl2:b<w.heap.size+X.bs.size:=by omega
      have hbl3:b<w.heap.size+X.bs.size+1:=by omega
      have hbl4:¬ b=w.heap.size+X.bs.size:=by omega
      skip
      skip
      cases hgt:zaw key d with
      | true =>
       have hik:=zeb hgt
       have hle:=less_gt hgt
       have hge:Op.bytesLess key.toList d.key.toList=true:=hgt
       have hke:(d.key.toList==key.toList)=false:=hik
       cases dn with
       | true =>
        have HS:Hid (zcu key val (ds.take (n+1))=xs ++ [d]):=by show _ = _;rw [hst,hxs];exact zdM hik (.inl hdn.symm)
        have HD2:Hid ((ds.take (n+1)).any (zaw key)=true):=by show _ = _;rw [hsd,<- hdn];rfl
        clear hst hsd hxs hdn
        go_wp2_with (at_builtin;refine zP ?_)
        refine zR rfl _ _ _ rfl zan (B:=w.heap.size) (v:=.slice oa xs.length oc) (xs:=xs) (R:=zE) (by (try simp only [<- Array.append_assoc]);(repeat (first|with_reducible exact HO.out|with_reducible exact hown|with_reducible exact zaL HO.out|with_reducible apply OwnL.merge2|with_reducible apply OwnL.ext|with_reducible apply OwnL.alloc));all_goals exact (0:Nat)) rfl (ys:=[d]) (zat zE _ (d) _ rfl _ _ (by simp [zw])) rfl (by simp only [List.length_singleton];(try simp only [List.length_append,List.length_singleton]);omega) (by simp only [List.length_singleton];(try simp only [List.length_append,List.length_singleton]);unfold maxLen;omega) (by simp [zw];try omega) ?_
        intro v4 w4 hown4 hgr4 _
        have hb4:Below w.heap.size w w4:=Below.appL (R:=zE) (e:=145) (v:=.slice oa xs.length oc) (xs:=xs) (by repeat (first|with_reducible exact Below.refl _ _|with_reducible apply Below.ofExt|with_reducible apply Below.ofAlloc|with_reducible apply Below.drew|with_reducible apply Below.ofDrewN|with_reducible assumption|(with_reducible refine Below.setCell ?_ (by first|exact Nat.le_refl _|(simp [go_sem];done)|(simp [go_sem];omega)) _))) hgr4 (by (try simp only [<- Array.append_assoc]);(repeat (first|with_reducible exact HO.out|with_reducible exact hown|with_reducible exact zaL HO.out|with_reducible apply OwnL.merge2|with_reducible apply OwnL.ext|with_reducible apply OwnL.alloc));all_goals exact (0:Nat))
        clear hgr4
        go_wp2
        go_roundw
        case rel=>exact ⟨n+1,xs ++ [d],_,by go_num,by omega,rfl,hb4,hown4,by rw [HS.out],by rw [HD2.out]⟩
        case measure=>simp [intOf];omega
       | false =>
        have HS:Hid (zcu key val (ds.take (n+1))=(xs ++ [CellD.mk key val]) ++ [d]):=by show _ = _;rw [hst,hxs];exact zhL hdn.symm hgt
        have HD2:Hid ((ds.take (n+1)).any (zaw key)=true):=by show _ = _;rw [hsd,hgt,Bool.or_true]
        clear hst hsd hxs hdn
        go_wp2_with (at_builtin;refine zP ?_)
        refine zR rfl _ _ _ rfl zan (B:=w.heap.size) (v:=.slice oa xs.length oc) (xs:=xs) (R:=zE) (by (try simp only [<- Array.append_assoc]);(repeat (first|with_reducible exact HO.out|with_reducible exact hown|with_reducible exact zaL HO.out|with_reducible apply OwnL.merge2|with_reducible apply OwnL.ext|with_reducible apply OwnL.alloc));all_goals exact (0:Nat)) rfl (ys:=[CellD.mk key val]) (zat zE _ (CellD.mk key val) _ rfl _ _ (by simp [zw])) rfl (by simp only [List.length_singleton];(try simp only [List.length_append,List.length_singleton]);omega) (by simp only [List.length_singleton];(try simp only [List.length_append,List.length_singleton]);unfold maxLen;omega) (by simp [zw];try omega) ?_
        intro v4 w4 hown4 hgr4 _
        have hb4:Below w.heap.size w w4:=Below.appL (R:=zE) (e:=145) (v:=.slice oa xs.length oc) (xs:=xs) (by repeat (first|with_reducible exact Below.refl _ _|with_reducible apply Below.ofExt|with_reducible apply Below.ofAlloc|with_reducible apply Below.drew|with_reducible apply Below.ofDrewN|with_reducible assumption|(with_reducible refine Below.setCell ?_ (by first|exact Nat.le_refl _|(simp [go_sem];done)|(simp [go_sem];omega)) _))) hgr4 (by (try simp only [<- Array.append_assoc]);(repeat (first|with_reducible exact HO.out|with_reducible exact hown|with_reducible exact zaL HO.out|with_reducible apply OwnL.merge2|with_reducible apply OwnL.ext|with_reducible apply OwnL.alloc));all_goals exact (0:Nat))
        clear hgr4
        obtain ⟨X4,rfl⟩:=hb4.ext
        obtain ⟨pa,pc,ev⟩:=hown4.rd.form
        subst ev
        have HO4:Hid (OwnL zE 145 (w.ext X4) w.heap.size (.slice pa (xs.length+1) pc) (xs ++ [CellD.mk key val])):=by
         rw [List.length_append,List.length_singleton] at hown4
         exact hown4
        clear hown4 hb4
        go_wp2_with (at_builtin;refine zP ?_)
        refine zR rfl _ _ _ rfl zan (B:=w.heap.size) (v:=.slice pa (xs.length+1) pc) (xs:=xs ++ [CellD.mk key val]) (R:=zE) (by (try simp only [<- Array.append_assoc]);(repeat (first|with_reducible exact HO4.out|with_reducible exact hown|with_reducible exact zaL HO4.out|with_reducible apply OwnL.merge2|with_reducible apply OwnL.ext|with_reducible apply OwnL.alloc));all_goals exact (0:Nat)) rfl (ys:=[d]) (zat zE _ (d) _ rfl _ _ (by simp [zw])) rfl (by simp only [List.length_singleton];(try simp only [List.length_append,List.length_singleton]);omega) (by simp only [List.length_singleton];(try simp only [List.length_append,List.length_singleton]);unfold maxLen;omega) (by simp [zw];try omega) ?_
        intro v5 w5 hown5 hgr5 _
        have hb5:Below w.heap.size w w5:=Below.appL (R:=zE) (e:=145) (v:=.slice pa (xs.length+1) pc) (xs:=xs ++ [CellD.mk key val]) (by repeat (first|with_reducible exact Below.refl _ _|with_reducible apply Below.ofExt|with_reducible apply Below.ofAlloc|with_reducible apply Below.drew|with_reducible apply Below.ofDrewN|with_reducible assumption|(with_reducible refine Below.setCell ?_ (by first|exact Nat.le_refl _|(simp [go_sem];done)|(simp [go_sem];omega)) _))) hgr5 (by (try simp only [<- Array.append_assoc]);(repeat (first|with_reducible exact HO4.out|with_reducible exact hown|with_reducible exact zaL HO4.out|with_reducible apply OwnL.merge2|with_reducible apply OwnL.ext|with_reducible apply OwnL.alloc));all_goals exact (0:Nat))
        clear hgr5
        go_wp2
        go_roundw
        case rel=>exact ⟨n+1,(xs ++ [CellD.mk key val]) ++ [d],_,by go_num,by omega,rfl,hb5,hown5,by rw [HS.out],by rw [HD2.out]⟩
        case measure=>simp [intOf];omega
      | false =>
       have hge:Op.bytesLess key.toList d.key.toList=false:=hgt
       cases hik:zaH key d with
       | true =>
        have hle:=zjw hik
        have hke:(d.key.toList==key.toList)=true:=hik
        cases dn with
        | true =>
         have HS:Hid (zcu key val (ds.take (n+1))=xs):=by show _ = _;rw [hst,hxs];exact zf8 hik
         have HD2:Hid ((ds.take (n+1)).any (zaw key)=true):=by show _ = _;rw [hsd,<- hdn,hgt];rfl
         clear hst hsd hxs hdn
         go_wp2
         go_roundw
         case rel=>exact ⟨n+1,xs,_,by go_num,by omega,rfl,(by repeat (first|with_reducible exact Below.refl _ _|with_reducible apply Below.ofExt|with_reducible apply Below.ofAlloc|with_reducible apply Below.drew|with_reducible apply Below.ofDrewN|with_reducible assumption|(with_reducible refine Below.setCell ?_ (by first|exact Nat.le_refl _|(simp [go_sem];done)|(simp [go_sem];omega)) _))),(by (try simp only [<- Array.append_assoc]);(repeat (first|with_reducible exact HO.out|with_reducible exact hown|with_reducible exact zaL HO.out|with_reducible apply OwnL.merge2|with_reducible apply OwnL.ext|with_reducible apply OwnL.alloc));all_goals exact (0:Nat)),by rw [HS.out],by rw [HD2.out]⟩
         case measure=>simp [intOf];omega
        | false =>
         have HS:Hid (zcu key val (ds.take (n+1))=xs):=by show _ = _;rw [hst,hxs];exact zf8 hik
         have HD2:Hid ((ds.take (n+1)).any (zaw key)=false):=by show _ = _;rw [hsd,<- hdn,hgt];rfl
         clear hst hsd hxs hdn
         go_wp2
         go_roundw
         case rel=>exact ⟨n+1,xs,_,by go_num,by omega,rfl,(by repeat (first|with_reducible exact Below.refl _ _|with_reducible apply Below.ofExt|with_reducible apply Below.ofAlloc|with_reducible apply Below.drew|with_reducible apply Below.ofDrewN|with_reducible assumption|(with_reducible refine Below.setCell ?_ (by first|exact Nat.le_refl _|(simp [go_sem];done)|(simp [go_sem];omega)) _))),(by (try simp only [<- Array.append_assoc]);(repeat (first|with_reducible exact HO.out|with_reducible exact hown|with_reducible exact zaL HO.out|with_reducible apply OwnL.merge2|with_reducible apply OwnL.ext|with_reducible apply OwnL.alloc));all_goals exact (0:Nat)),by rw [HS.out],by rw [HD2.out]⟩
         case measure=>simp [intOf];omega
       | false =>
        have hle:=ziL hgt hik
        have hke:(d.key.toList==key.toList)=false:=hik
        cases dn with
        | true =>
         have HS:Hid (zcu key val (ds.take (n+1))=xs ++ [d]):=by show _ = _;rw [hst,hxs];exact zdM hik (.inr hgt)
         have HD2:Hid ((ds.take (n+1)).any (zaw key)=true):=by show _ = _;rw [hsd,<- hdn];rw [hgt];rfl
         clear hst hsd hxs hdn
         go_wp2_with (at_builtin;refine zP ?_)
         refine zR rfl _ _ _ rfl zan (B:=w.heap.size) (v:=.slice oa xs.length oc) (xs:=xs) (R:=zE) (by (try simp only [<- Array.append_assoc]);(repeat (first|with_reducible exact HO.out|with_reducible exact hown|with_reducible exact zaL HO.out|with_reducible apply OwnL.merge2|with_reducible apply OwnL.ext|with_reducible apply OwnL.alloc));all_goals exact (0:Nat)) rfl (ys:=[d]) (zat zE _ (d) _ rfl _ _ (by simp [zw])) rfl (by simp only [List.length_singleton];(try simp only [List.length_append,List.length_singleton]);omega) (by simp only [List.length_singleton];(try simp only [List.length_append,List.length_singleton]);unfold maxLen;omega) (by simp [zw];try omega) ?_
         intro v4 w4 hown4 hgr4 _
         have hb4:Below w.heap.size w w4:=Below.appL (R:=zE) (e:=145) (v:=.slice oa xs.length oc) (xs:=xs) (by repeat (first|with_reducible exact Below.refl _ _|with_reducible apply Below.ofExt|with_reducible apply Below.ofAlloc|with_reducible apply Below.drew|with_reducible apply Below.ofDrewN|with_reducible assumption|(with_reducible refine Below.setCell ?_ (by first|exact Nat.le_refl _|(simp [go_sem];done)|(simp [go_sem];omega)) _))) hgr4 (by (try simp only [<- Array.append_assoc]);(repeat (first|with_reducible exact HO.out|with_reducible exact hown|with_reducible exact zaL HO.out|with_reducible apply OwnL.merge2|with_reducible apply OwnL.ext|with_reducible apply OwnL.alloc));all_goals exact (0:Nat))
         clear hgr4
         go_wp2
         go_roundw
         case rel=>exact ⟨n+1,xs ++ [d],_,by go_num,by omega,rfl,hb4,hown4,by rw [HS.out],by rw [HD2.out]⟩
         case measure=>simp [intOf];omega
        | false =>
         have HS:Hid (zcu key val (ds.take (n+1))=xs ++ [d]):=by show _ = _;rw [hst,hxs];exact zdM hik (.inr hgt)
         have HD2:Hid ((ds.take (n+1)).any (zaw key)=false):=by show _ = _;rw [hsd,<- hdn];rw [hgt];rfl
         clear hst hsd hxs hdn
         go_wp2_with (at_builtin;refine zP ?_)
         refine zR rfl _ _ _ rfl zan (B:=w.heap.size) (v:=.slice oa xs.length oc) (xs:=xs) (R:=zE) (by (try simp only [<- Array.append_assoc]);(repeat (first|with_reducible exact HO.out|with_reducible exact hown|with_reducible exact zaL HO.out|with_reducible apply OwnL.merge2|with_reducible apply OwnL.ext|with_reducible apply OwnL.alloc));all_goals exact (0:Nat)) rfl (ys:=[d]) (zat zE _ (d) _ rfl _ _ (by simp [zw])) rfl (by simp only [List.length_singleton];(try simp only [List.length_append,List.length_singleton]);omega) (by simp only [List.length_singleton];(try simp only [List.length_append,List.length_singleton]);unfold maxLen;omega) (by simp [zw];try omega) ?_
         intro v4 w4 hown4 hgr4 _
         have hb4:Below w.heap.size w w4:=Below.appL (R:=zE) (e:=145) (v:=.slice oa xs.length oc) (xs:=xs) (by repeat (first|with_reducible exact Below.refl _ _|with_reducible apply Below.ofExt|with_reducible apply Below.ofAlloc|with_reducible apply Below.drew|with_reducible apply Below.ofDrewN|with_reducible assumption|(with_reducible refine Below.setCell ?_ (by first|exact Nat.le_refl _|(simp [go_sem];done)|(simp [go_sem];omega)) _))) hgr4 (by (try simp only [<- Array.append_assoc]);(repeat (first|with_reducible exact HO.out|with_reducible exact hown|with_reducible exact zaL HO.out|with_reducible apply OwnL.merge2|with_reducible apply OwnL.ext|with_reducible apply OwnL.alloc));all_goals exact (0:Nat))
         clear hgr4
         go_wp2
         go_roundw
         case rel=>exact ⟨n+1,xs ++ [d],_,by go_num,by omega,rfl,hb4,hown4,by rw [HS.out],by rw [HD2.out]⟩
         case measure=>simp [intOf];omega
     case neg =>
      have e:n=ds.length:=by omega
      have hf:zd7 key val ds=if dn then xs else xs ++ [CellD.mk key val]:=by
       unfold zd7
       rw [if_neg (fun h=>h.elim (fun h=>by rw [HK0.out] at h;cases h) (fun h=>absurd h (by omega))),if_neg hv,<- zjp (val:=val),hxs,hdn,e,List.take_length]
      have HF:=Hd hf
      clear hxs hf
      cases dn with
      | true =>
       clear hdn
       go_wp2
       go_ret
       exact ⟨_,rfl,by rw [HF.out];exact HO.out,(by repeat (first|with_reducible exact Below.refl _ _|with_reducible apply Below.ofExt|with_reducible apply Below.ofAlloc|with_reducible apply Below.drew|with_reducible apply Below.ofDrewN|with_reducible assumption|(with_reducible refine Below.setCell ?_ (by first|exact Nat.le_refl _|(simp [go_sem];done)|(simp [go_sem];omega)) _)))⟩
      | false =>
       clear hdn
       go_wp2_with (at_builtin;refine zP ?_)
       refine zR rfl _ _ _ rfl zan (B:=w.heap.size) (v:=.slice oa xs.length oc) (xs:=xs) (R:=zE) (by (try simp only [<- Array.append_assoc]);(repeat (first|with_reducible exact HO.out|with_reducible exact hown|with_reducible exact zaL HO.out|with_reducible apply OwnL.merge2|with_reducible apply OwnL.ext|with_reducible apply OwnL.alloc));all_goals exact (0:Nat)) rfl (ys:=[CellD.mk key val]) (zat zE _ (CellD.mk key val) _ rfl _ _ (by simp [zw])) rfl (by simp only [List.length_singleton];(try simp only [List.length_append,List.length_singleton]);omega) (by simp only [List.length_singleton];(try simp only [List.length_append,List.length_singleton]);unfold maxLen;omega) (by simp [zw];try omega) ?_
       intro v4 w4 hown4 hgr4 _
       have hb4:Below w.heap.size w w4:=Below.appL (R:=zE) (e:=145) (v:=.slice oa xs.length oc) (xs:=xs) (by repeat (first|with_reducible exact Below.refl _ _|with_reducible apply Below.ofExt|with_reducible apply Below.ofAlloc|with_reducible apply Below.drew|with_reducible apply Below.ofDrewN|with_reducible assumption|(with_reducible refine Below.setCell ?_ (by first|exact Nat.le_refl _|(simp [go_sem];done)|(simp [go_sem];omega)) _))) hgr4 (by (try simp only [<- Array.append_assoc]);(repeat (first|with_reducible exact HO.out|with_reducible exact hown|with_reducible exact zaL HO.out|with_reducible apply OwnL.merge2|with_reducible apply OwnL.ext|with_reducible apply OwnL.alloc));all_goals exact (0:Nat))
       clear hgr4
       go_wp2
       go_ret
       exact ⟨_,rfl,by rw [HF.out];exact hown4,hb4⟩
theorem bl1 (s:ByteArray):s.toList=s.data.toList:=ByteArray.toList_eq s
theorem cut_list (s:ByteArray) (j i:Nat):(s.extract j i).data.toList=(s.data.toList.drop j).take (i - j):=by
 rw [ByteArray.data_extract,Array.toList_extract]
theorem pow10_le {n:Nat} (h:n<=10):(10:Int) ^ n<=10 ^ 10:=by
 have hall:∀ x:Fin 11,(10:Int) ^ x.val<=10 ^ 10:=by decide
 exact hall ⟨n,by omega⟩
theorem zd2 (c:UInt8) (w:World) :
  Calls Tryz.prog 119 #[.int .u8 (c.toNat:Int)] w fun e w'=>e=.returned (.int .i64 (zdQ c))/\w=w':=by
 have hc:(c.toNat:Int)<=255:=by have:=c.toNat_lt;omega
 have hc0 : 0<=(c.toNat:Int):=by omega
 obtain ⟨x,hx⟩ : ∃ x,x=zdQ c:=⟨_,rfl⟩
 rw [<- hx]
 unfold zdQ at hx
 go_enter Tryz.func119,Tryz.ntmps119
 by_cases h1 : 48<=(c.toNat:Int)
 ·by_cases h2:(c.toNat:Int)<=57
  ·rw [if_pos ⟨h1,h2⟩] at hx
   subst hx
   go_wp2
   go_ret
   exact ⟨rfl,rfl⟩
  ·rw [if_neg (by omega)] at hx
   by_cases h3 : 97<=(c.toNat:Int)
   ·by_cases h4:(c.toNat:Int)<=102
    ·rw [if_pos ⟨h3,h4⟩] at hx
     subst hx
     go_wp2
     go_ret
     exact ⟨rfl,rfl⟩
    ·rw [if_neg (by omega)] at hx
     subst hx
     go_wp2
     go_ret
     exact ⟨rfl,rfl⟩
   ·rw [if_neg (by omega)] at hx
    subst hx
    go_wp2
    go_ret
    exact ⟨rfl,rfl⟩
 ·rw [if_neg (by omega),if_neg (by omega)] at hx
  subst hx
  go_wp2
  go_ret
  exact ⟨rfl,rfl⟩
theorem ziz (s:ByteArray) (w:World) (hs:s.size<=1048576) :
  Calls Tryz.prog 99 #[.string s] w (UnhP s w):=by
 have hsl:s.data.toList.length=s.size:=by simp
 go_enter Tryz.func99,Tryz.ntmps99
 by_cases hb:(40000:Int)<s.size
 ·have hu:=fun q=>Unh.long (L:=s.data.toList) (.inl (by omega)) q
  have HU:=Hd hu
  clear hsl hu
  go_wp2
  refine bodyPost_ret (by simp [results,Tryz.results99,go_sem];rfl) rfl ?_
  exact UnhP.no HU.out (by repeat (first|with_reducible exact Below.refl _ _|with_reducible apply Below.ofExt|with_reducible apply Below.ofAlloc|with_reducible apply Below.drew|with_reducible apply Below.ofDrewN|with_reducible assumption|(with_reducible refine Below.setCell ?_ (by first|exact Nat.le_refl _|(simp [go_sem];done)|(simp [go_sem];omega)) _)))
 by_cases hodd:(s.size:Int) % 2=0
 case neg =>
  have hu:=fun q=>Unh.long (L:=s.data.toList) (.inr (by omega)) q
  have HU:=Hd hu
  clear hsl hu
  go_wp2
  refine bodyPost_ret (by simp [results,Tryz.results99,go_sem];rfl) rfl ?_
  exact UnhP.no HU.out (by repeat (first|with_reducible exact Below.refl _ _|with_reducible apply Below.ofExt|with_reducible apply Below.ofAlloc|with_reducible apply Below.drew|with_reducible apply Below.ofDrewN|with_reducible assumption|(with_reducible refine Below.setCell ?_ (by first|exact Nat.le_refl _|(simp [go_sem];done)|(simp [go_sem];omega)) _)))
 go_wp2
 go_loopw [4,5,6,7] (fun o k _ _ wr=>∃ (m:Nat) (l:List UInt8),k=.int .i64 (2*m:Nat)/\2*m<=s.size/\Below w.heap.size w wr/\OwnB 5 wr w.heap.size o l/\l.length=m/\UnhTo s.data.toList l m) (fun _ k _ _ _=>s.size - (intOf k).toNat)
 case atStart=>exact ⟨0,[],rfl,by omega,(by repeat (first|with_reducible exact Below.refl _ _|with_reducible apply Below.ofExt|with_reducible apply Below.ofAlloc|with_reducible apply Below.drew|with_reducible apply Below.ofDrewN|with_reducible assumption|(with_reducible refine Below.setCell ?_ (by first|exact Nat.le_refl _|(simp [go_sem];done)|(simp [go_sem];omega)) _))),OwnB.empty _ _,rfl,UnhTo.nil _⟩
 case round =>
  obtain ⟨m,l,rfl,hn,hbel,ho,hll,hu⟩:=hrel
  obtain ⟨X,rfl⟩:=hbel.ext
  subst hll
  have HU:=Hd hu
  have HSL:=Hd hsl
  clear hu hsl
  by_cases hlt:((2*l.length:Nat):Int)<s.size
  case pos =>
   have hk : 2*l.length+1<s.data.toList.length:=by rw [HSL.out];omega
   have hk1 : 2*l.length<s.size:=by omega
   have hk2 : 2*l.length+1<s.size:=by omega
   have hv1:=zgk s[2*l.length]
   have hv2:=zgk s[2*l.length+1]
   have e1:s.data.toList[2*l.length]'(by omega)=s[2*l.length]:=rfl
   have e2:s.data.toList[2*l.length+1]'hk=s[2*l.length+1]:=rfl
   obtain ⟨oa,oc,rfl⟩:=ho.form
   have HO:=Hd ho
   clear ho
   have hc1:(s[2*l.length].toNat:Int)<=255:=by have:=s[2*l.length].toNat_lt;omega
   have hc2:(s[2*l.length+1].toNat:Int)<=255:=by have:=s[2*l.length+1].toNat_lt;omega
   have HB:=Hd (fun h r=>UnhTo.bad (L:=s.data.toList) hk h r)
   have HST:=Hd (fun c hc h1 h2=>UnhTo.step HU.out hk (c:=c) hc h1 h2)
   rw [e1,e2] at HB HST
   go_wp2_with fail
   (go_at_call 119;refine (zd2 _ _).mono ?_;rintro e w' ⟨rfl,rfl⟩)
   go_wp2_with fail
   (go_at_call 119;refine (zd2 _ _).mono ?_;rintro e w' ⟨rfl,rfl⟩)
   obtain ⟨cc,hcc⟩ : ∃ cc:UInt8,0<=zdQ s[2*l.length]->0<=zdQ s[2*l.length+1]->(cc.toNat:Int)=16*zdQ s[2*l.length]+zdQ s[2*l.length+1]:=by
    refine ⟨UInt8.ofNat (16*zdQ s[2*l.length]+zdQ s[2*l.length+1]).toNat,fun h1 h2=>?_⟩
    rw [UInt8.toNat_ofNat']
    omega
   generalize hxe:zdQ s[2*l.length]=x at *
   generalize hye:zdQ s[2*l.length+1]=y at *
   have HXE:=Hd hxe
   have HYE:=Hd hye
   clear hxe hye
   have HCC:=Hd hcc
   clear hcc
   by_cases hx:x<0
   ·go_wp2
    refine bodyPost_ret (by simp [results,Tryz.results99,go_sem];rfl) rfl ?_
    exact UnhP.no (HB.out (.inl hx)) (by repeat (first|with_reducible exact Below.refl _ _|with_reducible apply Below.ofExt|with_reducible apply Below.ofAlloc|with_reducible apply Below.drew|with_reducible apply Below.ofDrewN|with_reducible assumption|(with_reducible refine Below.setCell ?_ (by first|exact Nat.le_refl _|(simp [go_sem];done)|(simp [go_sem];omega)) _)))
   by_cases hy:y<0
   ·go_wp2
    refine bodyPost_ret (by simp [results,Tryz.results99,go_sem];rfl) rfl ?_
    exact UnhP.no (HB.out (.inr hy)) (by repeat (first|with_reducible exact Below.refl _ _|with_reducible apply Below.ofExt|with_reducible apply Below.ofAlloc|with_reducible apply Below.drew|with_reducible apply Below.ofDrewN|with_reducible assumption|(with_reducible refine Below.setCell ?_ (by first|exact Nat.le_refl _|(simp [go_sem];done)|(simp [go_sem];omega)) _)))
   have hcc:=HCC.out (by omega) (by omega)
   go_wp2_with (at_builtin;refine zP ?_)
   refine zdD _ zbK rfl (.tmp 39) (.tmp 45) rfl (B:=w.heap.size) (l:=l) (m:=[cc]) (HO.out.alloc _) rfl (zh6 _ cc (16*x+y) hcc.symm _ _ (by simp [zw])) rfl (by simp;omega) (by simp [zw];omega) ?_
   intro v4 w4 ho4 hg4
   have hb4:Below w.heap.size w w4:=Below.appB (by repeat (first|with_reducible exact Below.refl _ _|with_reducible apply Below.ofExt|with_reducible apply Below.ofAlloc|with_reducible apply Below.drew|with_reducible apply Below.ofDrewN|with_reducible assumption|(with_reducible refine Below.setCell ?_ (by first|exact Nat.le_refl _|(simp [go_sem];done)|(simp [go_sem];omega)) _))) hg4 (HO.out.alloc _)
   obtain ⟨Y,rfl⟩:=hb4.ext
   have HO4:=Hd ho4
   clear ho4 hg4 hb4
   have hstep:=HST.out cc hcc (by first|omega|(rw [e1,HXE.out];omega)) (by first|omega|(rw [e2,HYE.out];omega))
   have HSTEP:=Hd hstep
   clear hstep
   go_wp2
   go_roundw
   case rel=>exact ⟨l.length+1,_,by go_num,by omega,(by repeat (first|with_reducible exact Below.refl _ _|with_reducible apply Below.ofExt|with_reducible apply Below.ofAlloc|with_reducible apply Below.drew|with_reducible apply Below.ofDrewN|with_reducible assumption|(with_reducible refine Below.setCell ?_ (by first|exact Nat.le_refl _|(simp [go_sem];done)|(simp [go_sem];omega)) _))),HO4.out,by simp,HSTEP.out⟩
   case measure=>simp [intOf];omega
  case neg =>
   have e:s.size<=2*l.length:=by omega
   have hua:=UnhTo.all HU.out (by rw [HSL.out];exact e)
   have HUA:=Hd hua
   have hub:=UnhTo.back HU.out (by rw [HSL.out];exact e)
   have HUB:=Hd hub
   clear hub
   have hr:=zbz (P:=Tryz.prog) (w.ext X) zbK Tryz.underlying9 ho.sl
   have hsz:(zas l).size<=20000:=by rw [zaj];omega
   have HSZ:=Hd hsz
   obtain ⟨oa,oc,rfl⟩:=ho.form
   clear ho hua hsz
   go_wp2
   refine bodyPost_ret (by simp [results,Tryz.results99,go_sem];rfl) rfl ?_
   exact UnhP.mk HSZ.out HUA.out (by repeat (first|with_reducible exact Below.refl _ _|with_reducible apply Below.ofExt|with_reducible apply Below.ofAlloc|with_reducible apply Below.drew|with_reducible apply Below.ofDrewN|with_reducible assumption|(with_reducible refine Below.setCell ?_ (by first|exact Nat.le_refl _|(simp [go_sem];done)|(simp [go_sem];omega)) _))) HUB.out
theorem zeY (s:ByteArray) (w:World) (hs:s.size<=1048576) :
  Calls Tryz.prog 111 #[.string s] w (NumP s w):=by
 have hsl:s.data.toList.length=s.size:=by simp
 go_enter Tryz.func111,Tryz.ntmps111
 by_cases hb:(10:Int)<s.size
 ·have hu:=Num.long (l:=s.data.toList) (by omega)
  clear hsl
  go_wp2
  refine bodyPost_ret (by simp [results,Tryz.results111,go_sem];rfl) rfl ?_
  exact NumP.no hu (by repeat (first|with_reducible exact Below.refl _ _|with_reducible apply Below.ofExt|with_reducible apply Below.ofAlloc|with_reducible apply Below.drew|with_reducible apply Below.ofDrewN|with_reducible assumption|(with_reducible refine Below.setCell ?_ (by first|exact Nat.le_refl _|(simp [go_sem];done)|(simp [go_sem];omega)) _)))
 go_wp2
 go_loopw [4,5] (fun o k wr=>∃ (m:Nat) (n:Int),k=.int .i64 m/\m<=s.size/\Below w.heap.size w wr/\o=.int .i64 n/\n=zgK (s.data.toList.take m)/\∀ c ∈ s.data.toList.take m,ziT c) (fun _ k _=>s.size - (intOf k).toNat)
 case atStart=>exact ⟨0,0,rfl,by omega,(by repeat (first|with_reducible exact Below.refl _ _|with_reducible apply Below.ofExt|with_reducible apply Below.ofAlloc|with_reducible apply Below.drew|with_reducible apply Below.ofDrewN|with_reducible assumption|(with_reducible refine Below.setCell ?_ (by first|exact Nat.le_refl _|(simp [go_sem];done)|(simp [go_sem];omega)) _))),rfl,by simp [zgK],by simp⟩
 case round =>
  obtain ⟨m,n,rfl,hn,hbel,rfl,hv,hd⟩:=hrel
  obtain ⟨X,rfl⟩:=hbel.ext
  have hbd:=valD_bd _ hd
  rw [<- hv] at hbd
  have hp:(10:Int) ^ (s.data.toList.take m).length<=10 ^ 10:=pow10_le (by rw [List.length_take];omega)
  have hn0:=hbd.1
  have hn1:n<10000000000:=Int.lt_of_lt_of_le hbd.2 hp
  have HV:=Hd hv
  have HD:=Hd hd
  have HSL:=Hd hsl
  clear hv hd hbd hp hsl
  by_cases hlt:(m:Int)<s.size
  case pos =>
   have hk:m<s.data.toList.length:=by rw [HSL.out];omega
   have hk1:m<s.size:=by omega
   have e1:s.data.toList[m]'hk=s[m]:=rfl
   have hst:=zgR (s.data.toList.take m) (s.data.toList[m]'hk)
   rw [<- List.take_succ_eq_append_getElem hk,<- HV.out,e1] at hst
   have hmem:s[m] ∈ s.data.toList:=by rw [<- e1];exact List.getElem_mem hk
   have HST:=Hd hst
   have HM:=Hd hmem
   clear hst hmem
   have hc1:(s[m].toNat:Int)<=255:=by have:=s[m].toNat_lt;omega
   have hc0 : 0<=(s[m].toNat:Int):=by omega
   by_cases h1:(s[m].toNat:Int)<48
   ·have hu:=Num.bad HM.out (by unfold ziT;omega)
    have HUN:=Hd hu
    clear hu
    go_wp2
    refine bodyPost_ret (by simp [results,Tryz.results111,go_sem];rfl) rfl ?_
    exact NumP.no HUN.out (by repeat (first|with_reducible exact Below.refl _ _|with_reducible apply Below.ofExt|with_reducible apply Below.ofAlloc|with_reducible apply Below.drew|with_reducible apply Below.ofDrewN|with_reducible assumption|(with_reducible refine Below.setCell ?_ (by first|exact Nat.le_refl _|(simp [go_sem];done)|(simp [go_sem];omega)) _)))
   by_cases h2:(57:Int)<s[m].toNat
   ·have hu:=Num.bad HM.out (by unfold ziT;omega)
    have HUN:=Hd hu
    clear hu
    go_wp2
    refine bodyPost_ret (by simp [results,Tryz.results111,go_sem];rfl) rfl ?_
    exact NumP.no HUN.out (by repeat (first|with_reducible exact Below.refl _ _|with_reducible apply Below.ofExt|with_reducible apply Below.ofAlloc|with_reducible apply Below.drew|with_reducible apply Below.ofDrewN|with_reducible assumption|(with_reducible refine Below.setCell ?_ (by first|exact Nat.le_refl _|(simp [go_sem];done)|(simp [go_sem];omega)) _)))
   have hd2:∀ c ∈ s.data.toList.take (m+1),ziT c:=by
    rw [List.take_succ_eq_append_getElem hk,e1]
    intro c hc
    rcases List.mem_append.1 hc with hc|hc
    ·exact HD.out c hc
    ·rw [List.mem_singleton.1 hc]
     unfold ziT
     omega
   have HD2:=Hd hd2
   clear hd2 e1
   go_wp2
   go_roundw
   case rel=>exact ⟨m+1,_,by go_num,by omega,(by repeat (first|with_reducible exact Below.refl _ _|with_reducible apply Below.ofExt|with_reducible apply Below.ofAlloc|with_reducible apply Below.drew|with_reducible apply Below.ofDrewN|with_reducible assumption|(with_reducible refine Below.setCell ?_ (by first|exact Nat.le_refl _|(simp [go_sem];done)|(simp [go_sem];omega)) _))),rfl,by rw [HST.out];omega,HD2.out⟩
   case measure=>simp [intOf];omega
  case neg =>
   have e:m=s.size:=by omega
   have hv2:n=zgK s.data.toList:=by have:=HV.out;rw [List.take_of_length_le (by rw [HSL.out];omega)] at this;exact this
   have HV2:=Hd hv2
   clear hv2
   by_cases h1 : 1000000000<n
   ·have hu:=Num.other HV2.out (.inl h1)
    have HUN:=Hd hu
    clear hu
    go_wp2
    refine bodyPost_ret (by simp [results,Tryz.results111,go_sem];rfl) rfl ?_
    exact NumP.no HUN.out (by repeat (first|with_reducible exact Below.refl _ _|with_reducible apply Below.ofExt|with_reducible apply Below.ofAlloc|with_reducible apply Below.drew|with_reducible apply Below.ofDrewN|with_reducible assumption|(with_reducible refine Below.setCell ?_ (by first|exact Nat.le_refl _|(simp [go_sem];done)|(simp [go_sem];omega)) _)))
   go_wp2_with fail
   (go_at_call 85;refine (zbT n _ (by omega) (by omega)).mono ?_;rintro e w' ⟨rfl,hb⟩;obtain ⟨X,rfl⟩:=hb.ext;clear hb)
   by_cases he:Lib.itoa n=s.data.toList
   ·have hu:=Num.good hn0 (by omega) HV2.out
    have HUN:=Hd hu
    have HE:=Hd he
    have heq:zas (Lib.itoa n)=s:=by rw [he,zcy]
    clear hu he
    rw [heq]
    go_wp2
    refine bodyPost_ret (by simp [results,Tryz.results111,go_sem];rfl) rfl ?_
    exact NumP.mk HUN.out (by repeat (first|with_reducible exact Below.refl _ _|with_reducible apply Below.ofExt|with_reducible apply Below.ofAlloc|with_reducible apply Below.drew|with_reducible apply Below.ofDrewN|with_reducible assumption|(with_reducible refine Below.setCell ?_ (by first|exact Nat.le_refl _|(simp [go_sem];done)|(simp [go_sem];omega)) _))) HE.out
   ·have hu:=Num.other HV2.out (.inr he)
    have HUN:=Hd hu
    have heq:(((zas (Lib.itoa n)).toList==s.toList))=false:=by
     rw [beq_eq_false_iff_ne,bl1,bl1]
     exact fun e=>he (by rw [<- e,zix])
    clear hu he
    go_wp2
    refine bodyPost_ret (by simp [results,Tryz.results111,go_sem];rfl) rfl ?_
    exact NumP.no HUN.out (by repeat (first|with_reducible exact Below.refl _ _|with_reducible apply Below.ofExt|with_reducible apply Below.ofAlloc|with_reducible apply Below.drew|with_reducible apply Below.ofDrewN|with_reducible assumption|(with_reducible refine Below.setCell ?_ (by first|exact Nat.le_refl _|(simp [go_sem];done)|(simp [go_sem];omega)) _)))
end Go.Proofs.YtncnbihlngapbaaGreat
namespace Go
section
variable {P:Program} {ops:Array Oper} {Q:Exit->Act->World->Prop} {S:World->Prop} {n:Nat}
def zfr (o:Oper):Bool:=match o.op with
 | .extract _ _=>true
 | .move _=>true
 | _=>false
theorem slot_run {o:Oper} (h:zfr o=true) {a:Act} {v:Value} {w:World} (hr:RetQ P w v ((execOp a.eval o).run P w)) (w':World):RetQ P w' v ((execOp a.eval o).run P w'):=by
 unfold zfr at h
 split at h
 ·rename_i t k e
  unfold execOp at hr ⊢
  rw [e] at hr ⊢
  dsimp only at hr ⊢
  unfold Instr.extract at hr ⊢
  generalize a.eval t=u at hr ⊢
  cases u<;>first|exact hr.elim|skip
  simp only [Sem.run_bind] at hr ⊢
  split at hr<;>rename_i e2<;>first|exact hr.elim|exact ⟨hr.1,rfl⟩
 ·rename_i t e
  unfold execOp at hr ⊢
  rw [e] at hr ⊢
  exact ⟨hr.1,rfl⟩
 ·cases h
theorem zdV {i:Nat} {oi:Oper} {v:Value} (hi:ops[i]?=some oi) (hs:Region.noSelect ops=true)
  (hQ:∀ c a w,Q (.panic c) (a.put oi.dst v) w->Q (.panic c) a w) (hn:n<=i) :
  ∀ (fuel:Nat) (listed:Array Bool) (a:Act) (w:World),
   (∀ j oj,ops[j]?=some oj->j ≠ i->listed.getD j true=false->(∀ e ∈ oj.after,Region.binds .any e=true->e.on ≠ i)->oi.apart ops oj=true) ->
   i ∈ Region.ready .any ops listed->YieldsQ P ops (fun _=>True) oi v a ->
   zcb P ops Q S n fuel (listed.setIfInBounds i true) (a.put oi.dst v) w->zcb P ops Q S n (fuel+1) listed a w:=by
 have hsel:=Region.noSelect_spec hs
 intro fuel
 induction fuel with
 | zero =>
  intro listed a w _ hr hy H
  refine ⟨fun h=>(by rw [h] at hr;cases hr),fun j hj=>?_⟩
  by_cases hji:j=i
  ·subst hji;exact hy.wpOp hi trivial ⟨fun h=>absurd h (by omega),H⟩
  ·have:=ready_mono hj hji
   rw [H.1] at this
   cases this
 | succ fuel ih =>
  intro listed a w hfree hr hy H
  refine ⟨fun h=>(by rw [h] at hr;cases hr),fun j hj=>?_⟩
  by_cases hji:j=i
  ·subst hji;exact hy.wpOp hi trivial ⟨fun h=>absurd h (by omega),H⟩
  ·have h1:=H.2 j (ready_mono hj hji)
   obtain ⟨hjun,oj,hoj,hall⟩:=mem_ready.1 hj
   have hnot:∀ e ∈ oj.after,Region.binds .any e=true->e.on ≠ i:=fun e he hb heq =>
    zbl (mem_ready.1 hr).1 (heq ▸ hall e he hb)
   have h2:=zdS hoj (hfree j oj hoj hji hjun hnot) (fun cs b=>hsel i oi cs b hi) (fun cs b=>hsel j oj cs b hoj) hQ hy h1
   have hfree':∀ k ok,ops[k]?=some ok->k ≠ i->(listed.setIfInBounds j true).getD k true=false ->
     (∀ e ∈ ok.after,Region.binds .any e=true->e.on ≠ i)->oi.apart ops ok=true:=fun k ok hk hki hun hno=>by
    refine hfree k ok hk hki ?_ hno
    by_cases hjk:j=k
    ·subst hjk;exact hjun
    ·rw [getD_set_ne true hjk] at hun;exact hun
   refine wpOp_mono (fun a' w' h3=>⟨fun h=>h3.2.1 h,ih (listed.setIfInBounds j true) a' w' hfree' (ready_mono hr (Ne.symm hji)) h3.1 ?_⟩) h2
   rw [Array.setIfInBounds_comm _ _ hji]
   exact h3.2.2
def zib (ops:Array Oper) (i:Nat):Bool:=match ops[i]? with
 | some o=>zfr o
 | none=>false
end
end Go
namespace Go.Proofs.YtncnbihlngapbaaGreat
open Go.ChangeShapes Go.WideShapes Go.ChangeAt Go.RowKit
def MRd (w:World) (v:Value) (m:MachD):Prop:=∃ v0 v1 v2,v=.agg #[v0,v1,v2]/\RdL zE w v0 m.cells/\RdL zH w v1 m.rd/\RdL zH w v2 m.wr
theorem MRd.below {w w':World} {v:Value} {m:MachD} (h:MRd w v m) (hb:Below w.heap.size w w'):MRd w' v m:=by
 obtain ⟨v0,v1,v2,rfl,h0,h1,h2⟩:=h
 exact ⟨v0,v1,v2,rfl,h0.below hb,h1.below hb,h2.below hb⟩
theorem MRd.form {w:World} {v:Value} {m:MachD} (h:MRd w v m):∃ a0 c0 a1 c1 a2 c2,v=.agg #[.slice a0 m.cells.length c0,.slice a1 m.rd.length c1,.slice a2 m.wr.length c2]/\RdL zE w (.slice a0 m.cells.length c0) m.cells/\RdL zH w (.slice a1 m.rd.length c1) m.rd/\RdL zH w (.slice a2 m.wr.length c2) m.wr:=by
 obtain ⟨v0,v1,v2,rfl,h0,h1,h2⟩:=h
 obtain ⟨a0,c0,rfl⟩:=h0.form
 obtain ⟨a1,c1,rfl⟩:=h1.form
 obtain ⟨a2,c2,rfl⟩:=h2.form
 exact ⟨a0,c0,a1,c1,a2,c2,rfl,h0,h1,h2⟩
def SS (ws w:World) (v:Value) (m:MachD):Prop:=MRd w v m/\Below ws.heap.size ws w
theorem SS.below {ws w w':World} {v:Value} {m:MachD} (h:SS ws w v m) (hb:Below w.heap.size w w'):SS ws w' v m:=⟨h.1.below hb,Below.then h.2 hb⟩
theorem SS.refl {w:World} {v:Value} {m:MachD} (h:MRd w v m):SS w w v m:=⟨h,Below.refl _ _⟩
def SC {α : Type} (f:FuncId) (args:Value->Array Value) (p:Mp α) (ret:Value->α->Value):Prop :=
 ∀ (w:World) (v:Value) (m:MachD),MRd w v m->p.fits m->Calls Tryz.prog f (args v) w fun e w'=>∃ v',e=.returned (ret v' (p.run m).1)/\SS w w' v' (p.run m).2
theorem zcA (s:ByteArray) (w:World) (hs:s.size<=1048576):Calls Tryz.prog 83 #[.string s] w fun e w'=>e=.returned (.int .i64 (zbu s))/\Below w.heap.size w w':=by
 have D:=Hd (zeY s w hs)
 go_enter Tryz.func83,Tryz.ntmps83
 (try simp only []);repeat (first|go_skip|go_guarded|go_step|go_upon|go_back)
 (go_at_call 111;refine D.out.mono ?_;rintro e w1 ⟨n,b,rfl,hn,hb,he⟩)
 have e:=numOf_of hn he
 have E:=Hd e
 have hn0:=hn.1
 clear e hn he D
 cases b with
 | false =>
  have E2:Hid (zbu s=0):=by show _ = _;rw [E.out];rfl
  clear E
  go_wp2
  go_ret
  exact ⟨by rw [E2.out];rfl,hb⟩
 | true =>
  by_cases h9:n<=999
  ·have E2:Hid (zbu s=n):=by show _ = _;rw [E.out,if_pos ⟨rfl,h9⟩]
   clear E
   go_wp2
   go_ret
   exact ⟨by rw [E2.out];rfl,hb⟩
  ·have E2:Hid (zbu s=0):=by show _ = _;rw [E.out,if_neg (fun h=>h9 h.2)]
   clear E
   go_wp2
   go_ret
   exact ⟨by rw [E2.out];rfl,hb⟩
theorem SCmk {α : Type} {f:FuncId} {args:Value->Array Value} {p:Mp α} {ret:Value->α->Value}
  (h : ∀ (w : World) (m : MachD) (a0 : Option Addr) (c0 : Nat) (a1 : Option Addr) (c1 : Nat) (a2 : Option Addr) (c2 : Nat), Hid (RdL zE w (.slice a0 m.cells.length c0) m.cells) -> Hid (RdL zH w (.slice a1 m.rd.length c1) m.rd) -> Hid (RdL zH w (.slice a2 m.wr.length c2) m.wr) -> p.fits m ->
   Calls Tryz.prog f (args (.agg #[.slice a0 m.cells.length c0,.slice a1 m.rd.length c1,.slice a2 m.wr.length c2])) w fun e w'=>∃ v',e=.returned (ret v' (p.run m).1)/\SS w w' v' (p.run m).2):SC f args p ret:=by
 intro w v m hm hf
 obtain ⟨a0,c0,a1,c1,a2,c2,rfl,h0,h1,h2⟩:=hm.form
 exact h w m a0 c0 a1 c1 a2 c2 h0 h1 h2 hf
theorem zp {n:Nat} {w w1:World} (h:Below n w w1) {p:Nat} (hp:n<=p) (o:Obj):Below n w (w1.setB p o) :=
 ⟨h.os,h.tape,h.output,by rw [zd];exact h.size,fun k hk=>by rw [World.setB_get _ _ _ _ (by omega)];exact h.block k hk⟩
theorem zcS (W:World) (a b:Obj) (n:Nat) (hn:n=W.heap.size):((W.alloc a).alloc b).heap[n]?=some a/\((W.alloc a).alloc b).heap[n+1]?=some b:=by
 subst hn
 show ((W.heap.push a).push b)[W.heap.size]?=some a/\((W.heap.push a).push b)[W.heap.size+1]?=some b
 refine ⟨?_,?_⟩<;>(simp only [Array.getElem?_push,Array.size_push];repeat (first|rfl|rw [if_pos trivial]|rw [if_pos (by omega)]|rw [if_neg (by omega)]))
theorem zl {w:World} {p:Nat} {o r:Obj} (h:w.heap[p]?=some o) (h2:w.heap[p+1]?=some r):(w.setB (p+1) r).setB p o=w:=by
 rw [zi h2,zi h]
theorem zZ {w:World} {p:Nat} (h:p+1<w.heap.size) (o r:Obj):((w.setB (p+1) r).setB p o).heap[p]?=some o/\((w.setB (p+1) r).setB p o).heap[p+1]?=some r:=by
 refine ⟨World.setB_at _ _ _ (by rw [zd];omega),?_⟩
 rw [World.setB_get _ _ _ _ (by omega)]
 exact World.setB_at _ _ _ h
theorem zaX {α : Type} {R:RowOf α} {e:TypeId} {w:World} {B:Nat} {v:Value} {xs:List α} (h:OwnL R e w B v xs) {p:Nat} (hp:p+1<B) (o r:Obj):OwnL R e ((w.setB (p+1) r).setB p o) B v xs :=
 (h.setB (fun hk=>by have:=(h.lt _ hk).1;omega) r).setB (fun hk=>by have:=(h.lt _ hk).1;omega) o
theorem zau {α : Type} {R:RowOf α} {e:TypeId} {w w':World} {B:Nat} {v:Value} {xs:List α} (h:OwnL R e w B v xs) (hb:Below w.heap.size w w'):OwnL R e w' B v xs:=by
 obtain ⟨X,rfl⟩:=hb.ext
 exact h.ext X
def zi5:Obj:=.cells #[.slice none 0 0,.slice none 0 0,.slice none 0 0] 76
def obM (x y z:Value):Obj:=.cells #[x,y,z] 76
theorem zY (k v:ByteArray):SC 84 (fun x=>#[x,.string k,.string v]) (K.lay k v) (fun v' _=>v'):=by
 refine SCmk (fun w m a0 c0 a1 c1 a2 c2 H0 H1 H2 hf=>?_)
 obtain ⟨hs,hk,_⟩:=hf
 have hl0:=hs.cl
 have hl2:=hs.wl
 have D1:=Hd (fun w' (hb:Below w.heap.size w w')=>zaS _ m.wr k w' (H2.out.below hb) (by omega))
 have D2:=Hd (fun w' (hb:Below w.heap.size w w')=>zhE _ m.cells k v w' (H0.out.below hb) (by omega) (by omega))
 go_enter Tryz.func84,Tryz.ntmps84
 (try simp only []);repeat (first|go_skip|go_guarded|go_step|go_upon|go_back)
 (go_at_call 22;refine (D1.out _ (by repeat (first|with_reducible exact Below.refl _ _|with_reducible apply Below.ofExt|with_reducible apply Below.ofAlloc|with_reducible apply Below.drew|with_reducible apply Below.ofDrewN|with_reducible assumption|(with_reducible refine Below.setCell ?_ (by first|exact Nat.le_refl _|(simp [go_sem];done)|(simp [go_sem];omega)) _)))).mono ?_;rintro e w1 ⟨v1,rfl,ho1,hb1⟩)
 obtain ⟨b1,d1,rfl⟩:=ho1.rd.form
 have h2:=zcS w (obM (.slice a0 m.cells.length c0) (.slice a1 m.rd.length c1) (.slice a2 m.wr.length c2)) zi5 w.heap.size rfl
 have B1:Below w.heap.size w w1:=Below.then (show Below w.heap.size w ((w.alloc (obM (.slice a0 m.cells.length c0) (.slice a1 m.rd.length c1) (.slice a2 m.wr.length c2))).alloc zi5) from (by repeat (first|with_reducible exact Below.refl _ _|with_reducible apply Below.ofExt|with_reducible apply Below.ofAlloc|with_reducible apply Below.drew|with_reducible apply Below.ofDrewN|with_reducible assumption|(with_reducible refine Below.setCell ?_ (by first|exact Nat.le_refl _|(simp [go_sem];done)|(simp [go_sem];omega)) _)))) hb1
 have P1:=(Grew.below hb1 w.heap.size (by first|(simp;done)|(simp;omega))).trans h2.1
 have R1:=(Grew.below hb1 (w.heap.size+1) (by first|(simp;done)|(simp;omega))).trans h2.2
 have T1:=Hd ho1
 have Z1:=hb1.size
 rw [show ((w.alloc (Obj.cells #[.slice a0 m.cells.length c0,.slice a1 m.rd.length c1,.slice a2 m.wr.length c2] 76)).alloc (Obj.cells #[.slice none 0 0,.slice none 0 0,.slice none 0 0] 76)).heap.size=w.heap.size+1+1 by simp] at Z1
 have Zp:w.heap.size<w1.heap.size:=by omega
 have Zq:w.heap.size+1<w1.heap.size:=by omega
 unfold obM at P1
 unfold zi5 at R1
 have e1:=zl P1 R1
 rw [<- e1]
 clear e1
 have S1:=fun o r=>zp (zp B1 (p:=w.heap.size+1) (by omega) r) (p:=w.heap.size) (Nat.le_refl _) o
 (try simp only []);repeat (first|go_skip|go_guarded|go_step|go_upon|go_back)
 (go_at_call 112;refine (D2.out _ (S1 _ _)).mono ?_;rintro e w2 ⟨v2,rfl,ho2,hb2⟩)
 obtain ⟨b2,d2,rfl⟩:=ho2.rd.form
 have A2:=zZ Zq (.cells #[.slice a0 m.cells.length c0,.slice a1 m.rd.length c1,.slice b1 (zck m.wr k).length d1] 76) (.cells #[.slice none 0 0,.slice none 0 0,.slice none 0 0] 76)
 have P2:=(Grew.below hb2 _ (zb A2.1)).trans A2.1
 have R2:=(Grew.below hb2 _ (zb A2.2)).trans A2.2
 have X2:=Hd (zau (zaX T1.out (p:=w.heap.size) (by simp) (.cells #[.slice a0 m.cells.length c0,.slice a1 m.rd.length c1,.slice b1 (zck m.wr k).length d1] 76) (.cells #[.slice none 0 0,.slice none 0 0,.slice none 0 0] 76)) hb2)
 have B2:Below w.heap.size w w2:=Below.then (S1 _ _) hb2
 have T2:=Hd ho2
 have Y2:=zb R2
 have Y2':=zb P2
 have e2:=zl P2 R2
 rw [<- e2]
 clear e2
 (try simp only []);repeat (first|go_skip|go_guarded|go_step|go_upon|go_back)
 refine bodyPost_ret (by simp [results,Tryz.results84,go_sem,Y2];rfl) rfl ?_
 have BF:=fun o r=>zp (zp B2 (p:=w.heap.size+1) (by omega) r) (p:=w.heap.size) (Nat.le_refl _) o
 exact ⟨_,rfl,⟨_,_,_,rfl,(zaX T2.out (p:=w.heap.size) (by simp only [zd];omega) _ _).rd,H1.out.below (BF _ _),(zaX X2.out (p:=w.heap.size) (by simp) _ _).rd⟩,BF _ _⟩
theorem zaq (k:ByteArray):SC 82 (fun x=>#[x,.string k]) (K.look k) (fun v' t=>.tuple #[v',.string t]):=by
 refine SCmk (fun w m a0 c0 a1 c1 a2 c2 H0 H1 H2 hf=>?_)
 obtain ⟨hs,hk,_⟩:=hf
 have hl0:=hs.cl
 have hl2:=hs.rl
 have D1:=Hd (fun w' (hb:Below w.heap.size w w')=>zaS _ m.rd k w' (H1.out.below hb) (by omega))
 have D2:=Hd (fun w' (hb:Below w.heap.size w w')=>zfq _ m.cells k w' (H0.out.below hb))
 go_enter Tryz.func82,Tryz.ntmps82
 (try simp only []);repeat (first|go_skip|go_guarded|go_step|go_upon|go_back)
 (go_at_call 22;refine (D1.out _ (by repeat (first|with_reducible exact Below.refl _ _|with_reducible apply Below.ofExt|with_reducible apply Below.ofAlloc|with_reducible apply Below.drew|with_reducible apply Below.ofDrewN|with_reducible assumption|(with_reducible refine Below.setCell ?_ (by first|exact Nat.le_refl _|(simp [go_sem];done)|(simp [go_sem];omega)) _)))).mono ?_;rintro e w1 ⟨v1,rfl,ho1,hb1⟩)
 obtain ⟨b1,d1,rfl⟩:=ho1.rd.form
 have h2:=zcS w (obM (.slice a0 m.cells.length c0) (.slice a1 m.rd.length c1) (.slice a2 m.wr.length c2)) zi5 w.heap.size rfl
 have B1:Below w.heap.size w w1:=Below.then (show Below w.heap.size w ((w.alloc (obM (.slice a0 m.cells.length c0) (.slice a1 m.rd.length c1) (.slice a2 m.wr.length c2))).alloc zi5) from (by repeat (first|with_reducible exact Below.refl _ _|with_reducible apply Below.ofExt|with_reducible apply Below.ofAlloc|with_reducible apply Below.drew|with_reducible apply Below.ofDrewN|with_reducible assumption|(with_reducible refine Below.setCell ?_ (by first|exact Nat.le_refl _|(simp [go_sem];done)|(simp [go_sem];omega)) _)))) hb1
 have P1:=(Grew.below hb1 w.heap.size (by first|(simp;done)|(simp;omega))).trans h2.1
 have R1:=(Grew.below hb1 (w.heap.size+1) (by first|(simp;done)|(simp;omega))).trans h2.2
 have T1:=Hd ho1
 have Z1:=hb1.size
 rw [show ((w.alloc (Obj.cells #[.slice a0 m.cells.length c0,.slice a1 m.rd.length c1,.slice a2 m.wr.length c2] 76)).alloc (Obj.cells #[.slice none 0 0,.slice none 0 0,.slice none 0 0] 76)).heap.size=w.heap.size+1+1 by simp] at Z1
 have Zp:w.heap.size<w1.heap.size:=by omega
 have Zq:w.heap.size+1<w1.heap.size:=by omega
 unfold obM at P1
 unfold zi5 at R1
 have e1:=zl P1 R1
 rw [<- e1]
 clear e1
 have S1:=fun o r=>zp (zp B1 (p:=w.heap.size+1) (by omega) r) (p:=w.heap.size) (Nat.le_refl _) o
 (try simp only []);repeat (first|go_skip|go_guarded|go_step|go_upon|go_back)
 refine zaB [(0,true),(1,true),(2,true),(3,true),(4,false),(5,false),(6,false)] 5 (by kernel_rfl) (by kernel_rfl) ?_
 repeat (refine zq rfl (fun K hK=>?_);go_simp;(try simp (disch:=omega) only [IntWalk.i64_in]);refine hK _ ?_;clear hK K)
 refine zo rfl (fun K hK=>?_);go_simp;go_at_call 110;refine (D2.out _ (by first|with_reducible exact S1 _ _|(with_reducible apply Below.drew;with_reducible exact S1 _ _))).mono ?_;rintro e w' ⟨rfl,hb⟩;obtain ⟨X,rfl⟩:=hb.ext;clear hb;try go_simp;refine hK _ _ (by show Sx _ _;(try simp only [<- Array.append_assoc]);repeat (first|with_reducible exact Sx.drew _|with_reducible exact Sx.same _ _ _ _|with_reducible exact ⟨_,rfl⟩|with_reducible apply Sx.more|with_reducible apply Sx.ext|with_reducible apply Sx.alloc|with_reducible apply zL|with_reducible exact Sx.refl _)) ?_;clear hK K
 repeat (refine zq rfl (fun K hK=>?_);go_simp;(try simp (disch:=omega) only [IntWalk.i64_in]);refine hK _ ?_;clear hK K)
 repeat (refine zy rfl rfl (fun K hK=>?_);go_simp;refine hK _ _ ?_;clear hK K)
 refine zX ?_
 (try simp only []);repeat (first|go_skip|go_guarded|go_step|go_upon|go_back)
 have Y1:w.heap.size+1<w1.heap.size:=Zq
 refine bodyPost_ret (by simp [results,Tryz.results82,go_sem,Y1];rfl) rfl ?_
 have BF:=fun o r=>zp (zp B1 (p:=w.heap.size+1) (by omega) r) (p:=w.heap.size) (Nat.le_refl _) o
 exact ⟨_,rfl,⟨_,_,_,rfl,H0.out.below ((BF _ _).ofExt X),((zaX T1.out (p:=w.heap.size) (by simp) _ _).rd).ext X,H2.out.below ((BF _ _).ofExt X)⟩,(BF _ _).ofExt X⟩
theorem zef {w w1:World} {o r:Obj} (h:Below ((w.alloc o).alloc r).heap.size ((w.alloc o).alloc r) w1):Below w.heap.size w w1/\w1.heap[w.heap.size]?=some o/\w1.heap[w.heap.size+1]?=some r/\w.heap.size+1<w1.heap.size/\w.heap.size<w1.heap.size:=by
 have h2:=zcS w o r w.heap.size rfl
 have hz:=h.size
 rw [show ((w.alloc o).alloc r).heap.size=w.heap.size+1+1 by simp] at hz
 exact ⟨Below.then (show Below w.heap.size w ((w.alloc o).alloc r) from (by repeat (first|with_reducible exact Below.refl _ _|with_reducible apply Below.ofExt|with_reducible apply Below.ofAlloc|with_reducible apply Below.drew|with_reducible apply Below.ofDrewN|with_reducible assumption|(with_reducible refine Below.setCell ?_ (by first|exact Nat.le_refl _|(simp [go_sem];done)|(simp [go_sem];omega)) _)))) h,(Grew.below h _ (zb h2.1)).trans h2.1,(Grew.below h _ (zb h2.2)).trans h2.2,by omega,by omega⟩
theorem zF {w w1 w2:World} {o r:Obj} (hb:Below w.heap.size w w1) (hz:w.heap.size+1<w1.heap.size) (h:Below ((w1.setB (w.heap.size+1) r).setB w.heap.size o).heap.size ((w1.setB (w.heap.size+1) r).setB w.heap.size o) w2):Below w.heap.size w w2/\w2.heap[w.heap.size]?=some o/\w2.heap[w.heap.size+1]?=some r/\w.heap.size+1<w2.heap.size/\w.heap.size<w2.heap.size:=by
 have h2:=zZ hz o r
 have hs:=h.size
 rw [zd,zd] at hs
 exact ⟨Below.then (zp (zp hb (by omega) r) (Nat.le_refl _) o) h,(Grew.below h _ (zb h2.1)).trans h2.1,(Grew.below h _ (zb h2.2)).trans h2.2,by omega,by omega⟩
theorem zba {α : Type} {R:RowOf α} {w:World} {v:Value} {xs:List α} (hstr:∀ u ∈ xs.flatMap R.row,∃ s,u=.string s) (h:RdL R w v xs) {p:Nat} {a0 a1 a2:Option Addr} {n0 n1 n2 c0 c1 c2:Nat} {t:TypeId} (hp:w.heap[p]?=some (.cells #[.slice a0 n0 c0,.slice a1 n1 c1,.slice a2 n2 c2] t (0,0))) (o:Obj):RdL R (w.setB p o) v xs:=by
 by_cases hq:v.ownBlock=some p
 ·rcases h with h|⟨b,off,cap,hv,h1,h2,h3⟩
  ·exact .inl h
  ·refine .inr ⟨b,off,cap,hv,h1,h2,fun j u hj=>?_⟩
   exfalso
   subst hv
   have e:b=p:=by simpa [Value.ownBlock] using hq
   subst e
   have hc:=h3 j u hj
   rw [zg hp] at hc
   obtain ⟨s,rfl⟩:=hstr u (List.mem_of_getElem? hj)
   have hm:=Array.mem_of_getElem? hc
   simp at hm
 ·exact h.setB hq o
theorem zh (xs:List CellD):∀ u ∈ xs.flatMap zE.row,∃ s,u=.string s:=by
 intro u hu
 obtain ⟨c,_,hc⟩:=List.mem_flatMap.1 hu
 simp [zE,CellD.row] at hc
 rcases hc with rfl|rfl<;>exact ⟨_,rfl⟩
theorem ze (xs:List ByteArray):∀ u ∈ xs.flatMap zH.row,∃ s,u=.string s:=by
 intro u hu
 obtain ⟨c,_,hc⟩:=List.mem_flatMap.1 hu
 simp [zH] at hc
 exact ⟨_,hc⟩
theorem zf {α : Type} {R:RowOf α} {w:World} {v:Value} {xs:List α} (hstr:∀ u ∈ xs.flatMap R.row,∃ s,u=.string s) (h:RdL R w v xs) {p:Nat} {a0 a1 a2 a3 a4 a5:Option Addr} {n0 n1 n2 c0 c1 c2 n3 n4 n5 c3 c4 c5:Nat} {t t':TypeId} (hp:w.heap[p]?=some (.cells #[.slice a0 n0 c0,.slice a1 n1 c1,.slice a2 n2 c2] t (0,0))) (hr:w.heap[p+1]?=some (.cells #[.slice a3 n3 c3,.slice a4 n4 c4,.slice a5 n5 c5] t' (0,0))) (o r:Obj):RdL R ((w.setB (p+1) r).setB p o) v xs :=
 zba hstr (zba hstr h hr r) (by rw [World.setB_get _ _ _ _ (by omega)];exact hp) o
theorem nx2 {w:World} {v0 v1 v2:Value} {cs:List CellD} {rd wr:List ByteArray} {p:Nat} {a0 a1 a2 a3 a4 a5:Option Addr} {n0 n1 n2 c0 c1 c2 n3 n4 n5 c3 c4 c5:Nat} {t t':TypeId} (hp:w.heap[p]?=some (.cells #[.slice a0 n0 c0,.slice a1 n1 c1,.slice a2 n2 c2] t (0,0))) (hr:w.heap[p+1]?=some (.cells #[.slice a3 n3 c3,.slice a4 n4 c4,.slice a5 n5 c5] t' (0,0))) (q0:RdL zE w v0 cs) (q1:RdL zH w v1 rd) (q2:RdL zH w v2 wr) :
  (w.setB (p+1) (.cells #[.slice a3 n3 c3,.slice a4 n4 c4,.slice a5 n5 c5] t' (0,0))).setB p (.cells #[.slice a0 n0 c0,.slice a1 n1 c1,.slice a2 n2 c2] t (0,0))=w ∧ Hid (∀ o r,RdL zE ((w.setB (p+1) r).setB p o) v0 cs) ∧ Hid (∀ o r,RdL zH ((w.setB (p+1) r).setB p o) v1 rd) ∧ Hid (∀ o r,RdL zH ((w.setB (p+1) r).setB p o) v2 wr) :=
 ⟨zl hp hr,fun o r=>zf (zh _) q0 hp hr o r,fun o r=>zf (ze _) q1 hp hr o r,fun o r=>zf (ze _) q2 hp hr o r⟩
theorem zaI {m:MachD} (h:Mp.Small m) (k:ByteArray):(ze6 k m.cells).size<=1048576:=by
 unfold ze6
 cases hf:m.cells.find? (zaH k) with
 | none=>decide
 | some c=>exact (h.cz c (List.mem_of_find?_eq_some hf)).2
theorem zO (k:ByteArray):SC 55 (fun x=>#[x,.string k]) (K.num k) (fun v' n=>.tuple #[v',.int .i64 n]):=by
 refine SCmk (fun w m a0 c0 a1 c1 a2 c2 H0 H1 H2 hf=>?_)
 have hf1:=(Mp.fits_bind (K.look k) _ m).1 hf
 have D1:=fun w' (hb:Below w.heap.size w w')=>zaq k w' (.agg #[.slice a0 m.cells.length c0,.slice a1 m.rd.length c1,.slice a2 m.wr.length c2]) m ⟨_,_,_,rfl,H0.out.below hb,H1.out.below hb,H2.out.below hb⟩ hf1.1
 have hz:((K.look k).run m).1.size<=1048576:=zaI hf1.1.1 k
 have hr:(K.num k).run m=(zbu ((K.look k).run m).1,((K.look k).run m).2):=rfl
 rw [hr]
 clear hr hf hf1
 generalize (K.look k).run m=R at D1 hz ⊢
 obtain ⟨t,m1⟩:=R
 dsimp only at D1 hz ⊢
 have D1:=Hd D1
 go_enter Tryz.func55,Tryz.ntmps55
 (try simp only []);repeat (first|go_skip|go_guarded|go_step|go_upon|go_back)
 (go_at_call 82;refine (D1.out _ (by repeat (first|with_reducible exact Below.refl _ _|with_reducible apply Below.ofExt|with_reducible apply Below.ofAlloc|with_reducible apply Below.drew|with_reducible apply Below.ofDrewN|with_reducible assumption|(with_reducible refine Below.setCell ?_ (by first|exact Nat.le_refl _|(simp [go_sem];done)|(simp [go_sem];omega)) _)))).mono ?_;rintro e w1 ⟨v1,rfl,hm1,hb1⟩)
 obtain ⟨b0,d0,b1,d1,b2,d2,rfl,q0,q1,q2⟩:=hm1.form
 obtain ⟨B1,P1,R1,Zq,Zp⟩:=zef hb1
 have Q0:=Hd q0;have Q1:=Hd q1;have Q2:=Hd q2
 have D2:=Hd (fun w'=>zcA t w' hz)
 have e1:=zl P1 R1
 rw [<- e1]
 have W0:=fun o r=>zf (zh _) q0 P1 R1 o r
 have W1:=fun o r=>zf (ze _) q1 P1 R1 o r
 have W2:=fun o r=>zf (ze _) q2 P1 R1 o r
 have HW0:=Hd W0;have HW1:=Hd W1;have HW2:=Hd W2
 clear e1 P1 R1 hm1 q0 q1 q2 hb1 D1 W0 W1 W2
 (try simp only []);repeat (first|go_skip|go_guarded|go_step|go_upon|go_back)
 refine zaB [(0,true),(1,true),(2,false),(3,false),(4,false)] 3 (by kernel_rfl) (by kernel_rfl) ?_
 repeat (refine zq rfl (fun K hK=>?_);go_simp;(try simp (disch:=omega) only [IntWalk.i64_in]);refine hK _ ?_;clear hK K)
 refine zo rfl (fun K hK=>?_);go_simp;go_at_call 83;refine (D2.out _).mono ?_;rintro e w' ⟨rfl,hb⟩;obtain ⟨X,rfl⟩:=hb.ext;clear hb;try go_simp;refine hK _ _ (by show Sx _ _;(try simp only [<- Array.append_assoc]);repeat (first|with_reducible exact Sx.drew _|with_reducible exact Sx.same _ _ _ _|with_reducible exact ⟨_,rfl⟩|with_reducible apply Sx.more|with_reducible apply Sx.ext|with_reducible apply Sx.alloc|with_reducible apply zL|with_reducible exact Sx.refl _)) ?_;clear hK K
 repeat (refine zq rfl (fun K hK=>?_);go_simp;(try simp (disch:=omega) only [IntWalk.i64_in]);refine hK _ ?_;clear hK K)
 repeat (refine zy rfl rfl (fun K hK=>?_);go_simp;refine hK _ _ ?_;clear hK K)
 refine zX ?_
 (try simp only []);repeat (first|go_skip|go_guarded|go_step|go_upon|go_back)
 refine bodyPost_ret (by simp [results,Tryz.results55,go_sem,Zq];rfl) rfl ?_
 have BF:=fun o r=>zp (zp B1 (p:=w.heap.size+1) (by omega) r) (p:=w.heap.size) (Nat.le_refl _) o
 exact ⟨_,rfl,⟨_,_,_,rfl,(HW0.out _ _).ext X,(HW1.out _ _).ext X,(HW2.out _ _).ext X⟩,(BF _ _).ofExt X⟩
theorem zb8 {P:Program} {c:Code} {Q:Exit->Act->World->Prop} {a:Act} {W:World} (S:World->Prop) (h:S W) (H:∀ W0,S W0->c.wp P Q a W0):c.wp P Q a W:=H W h
theorem opqM2 {P:Program} {c:Code} {Q:Exit → Act → World → Prop} {a:Act} {W:World} (w:World) (o1 o2:Obj) (h:Below w.heap.size w W ∧ W.heap[w.heap.size]?=some o1 ∧ W.heap[w.heap.size+1]?=some o2) (H:∀ W0,(Below w.heap.size w W0 ∧ W0.heap[w.heap.size]?=some o1 ∧ W0.heap[w.heap.size+1]?=some o2) → c.wp P Q a W0):c.wp P Q a W:=H W h
theorem zgs (w:World) {p q:Nat} (h:p ≠ q) (o r r':Obj):((w.setB q r).setB p o).setB q r'=(w.setB q r').setB p o:=by
 have e:((w.heap.setIfInBounds q r).setIfInBounds p o).setIfInBounds q r'=(w.heap.setIfInBounds q r').setIfInBounds p o:=by
  apply Array.ext_getElem?
  intro k
  simp only [Array.getElem?_setIfInBounds,Array.size_setIfInBounds]
  by_cases h1:q=k
  ·subst h1
   rw [if_pos rfl,if_neg h,if_pos rfl]
  ·rw [if_neg h1,if_neg h1,if_neg h1]
 unfold World.setB
 simp only [e]
theorem za0 {α : Type} {R:RowOf α} {w:World} {v:Value} {xs:List α} (hstr:∀ u ∈ xs.flatMap R.row,∃ s,u=.string s) {p:Nat} {a3 a4 a5:Option Addr} {n3 n4 n5 c3 c4 c5:Nat} {t':TypeId} {o:Obj} {Y:Ext} (hz:p+1<w.heap.size)
  (h:RdL R (((w.setB (p+1) (.cells #[.slice a3 n3 c3,.slice a4 n4 c4,.slice a5 n5 c5] t' (0,0))).setB p o).ext Y) v xs) (r':Obj):RdL R (((w.setB (p+1) r').setB p o).ext Y) v xs:=by
 have h2:=zZ hz o (.cells #[.slice a3 n3 c3,.slice a4 n4 c4,.slice a5 n5 c5] t' (0,0))
 have h3:=(World.ext_get _ Y (zb h2.2)).trans h2.2
 have h4:=zba hstr h h3 r'
 rwa [zaC _ _ _ _ (zb h2.2),zgs _ (by omega)] at h4
theorem zjz (n:Int) (h0 : -9223372036854775808<=n) (h1:n<=9223372036854775807):(zas (Lib.itoa n)).size<=4611686018427387920:=by
 rw [zaj]
 exact itoa_len n h0 h1
theorem zS (h t:ByteArray) (n:Int) (w:World) (hh:h.size<=1073741824) (ht:t.size<=1073741824) (h0 : -9223372036854775808<=n) (h1:n<=9223372036854775807) :
  Calls Tryz.prog 87 #[.string h,.int .i64 n,.string t] w fun e w'=>e=.returned (.string (zaf h n t))/\Below w.heap.size w w':=by
 have hd:=zjz n h0 h1
 have D:=zbT n w h0 h1
 unfold zaf
 generalize zas (Lib.itoa n)=d at hd D ⊢
 have D1:=Hd D
 clear D
 have c1:¬ (9223372036854775807<(h.size:Int)+d.size):=by omega
 have c2:¬ (9223372036854775807<(h.size:Int)+d.size+t.size):=by omega
 have c3:(h.size:Int)+d.size<=9223372036854775807:=by omega
 have c4:(h.size:Int)+d.size+t.size<=9223372036854775807:=by omega
 go_enter Tryz.func87,Tryz.ntmps87
 (try simp only []);repeat (first|go_skip|go_guarded|go_step|go_upon|go_back)
 (go_at_call 85;refine D1.out.mono ?_;rintro e w1 ⟨rfl,hb1⟩)
 go_wp2
 go_ret
 exact ⟨rfl,hb1⟩
theorem zK (k:ByteArray) (n:Int) (h0 : -9223372036854775808<=n) (h1:n<=9223372036854775807):SC 57 (fun x=>#[x,.string k,.int .i64 n]) (K.setNum k n) (fun v' _=>v'):=by
 refine SCmk (fun w m a0 c0 a1 c1 a2 c2 H0 H1 H2 hf=>?_)
 have D1:=fun w' (hb:Below w.heap.size w w')=>zY k (K.numText n) w' (.agg #[.slice a0 m.cells.length c0,.slice a1 m.rd.length c1,.slice a2 m.wr.length c2]) m ⟨_,_,_,rfl,H0.out.below hb,H1.out.below hb,H2.out.below hb⟩ hf
 have hr:(K.setNum k n).run m=(K.lay k (K.numText n)).run m:=rfl
 rw [hr]
 clear hr hf
 generalize (K.lay k (K.numText n)).run m=R at D1 ⊢
 obtain ⟨u,m1⟩:=R
 dsimp only at D1 ⊢
 by_cases hi : 1<=n/\n<=999
 case neg =>
  have hin:inB n 1 999=false:=by unfold inB;simp;omega
  have hnt:K.numText n=⟨#[]⟩:=if_neg hi
  rw [hnt] at D1
  have D1:=Hd D1
  have HIN:=Hd hin
  clear hin hnt hi
  go_enter Tryz.func57,Tryz.ntmps57
  (try simp only []);repeat (first|go_skip|go_guarded|go_step|go_upon|go_back)
  (go_at_call 86;refine (zT _ _ _ _).mono ?_;rintro e w' ⟨rfl,rfl⟩)
  rw [HIN.out]
  (try simp only []);repeat (first|go_skip|go_guarded|go_step|go_upon|go_back)
  (go_at_call 84;refine (D1.out _ (by repeat (first|with_reducible exact Below.refl _ _|with_reducible apply Below.ofExt|with_reducible apply Below.ofAlloc|with_reducible apply Below.drew|with_reducible apply Below.ofDrewN|with_reducible assumption|(with_reducible refine Below.setCell ?_ (by first|exact Nat.le_refl _|(simp [go_sem];done)|(simp [go_sem];omega)) _)))).mono ?_;rintro e w1 ⟨v1,rfl,hm1,hb1⟩)
  obtain ⟨b0,d0,b1,d1,b2,d2,rfl,q0,q1,q2⟩:=hm1.form
  obtain ⟨B1,P1,R1,Zq,Zp⟩:=zef hb1
  have e1:=zl P1 R1
  rw [<- e1]
  have W0:=fun o r=>zf (zh _) q0 P1 R1 o r
  have W1:=fun o r=>zf (ze _) q1 P1 R1 o r
  have W2:=fun o r=>zf (ze _) q2 P1 R1 o r
  have HW0:=Hd W0;have HW1:=Hd W1;have HW2:=Hd W2
  clear e1 P1 R1 hm1 q0 q1 q2 hb1 D1 W0 W1 W2
  (try simp only []);repeat (first|go_skip|go_guarded|go_step|go_upon|go_back)
  refine bodyPost_ret (by simp [results,Tryz.results57,go_sem,Zq];rfl) rfl ?_
  have BF:=fun o r=>zp (zp B1 (p:=w.heap.size+1) (by omega) r) (p:=w.heap.size) (Nat.le_refl _) o
  exact ⟨_,rfl,⟨_,_,_,rfl,HW0.out _ _,HW1.out _ _,HW2.out _ _⟩,BF _ _⟩
 case pos =>
  have hin:inB n 1 999=true:=by unfold inB;simp;omega
  have hnt:K.numText n=zas (Lib.itoa n):=if_pos hi
  rw [hnt] at D1
  have D1:=Hd D1
  have D2:=Hd (fun w'=>zbT n w' h0 h1)
  have HIN:=Hd hin
  clear hin hnt hi
  go_enter Tryz.func57,Tryz.ntmps57
  (try simp only []);repeat (first|go_skip|go_guarded|go_step|go_upon|go_back)
  (go_at_call 86;refine (zT _ _ _ _).mono ?_;rintro e w' ⟨rfl,rfl⟩)
  rw [HIN.out]
  (try simp only []);repeat (first|go_skip|go_guarded|go_step|go_upon|go_back)
  refine zb8 (fun W0=>Below w.heap.size w W0/\W0.heap[w.heap.size]?=some (.cells #[.slice a0 m.cells.length c0,.slice a1 m.rd.length c1,.slice a2 m.wr.length c2] 76)/\W0.heap[w.heap.size+1]?=some (.cells #[.slice none 0 0,.slice none 0 0,.slice none 0 0] 76)) (by have h2:=zcS w (.cells #[.slice a0 m.cells.length c0,.slice a1 m.rd.length c1,.slice a2 m.wr.length c2] 76) (.cells #[.slice none 0 0,.slice none 0 0,.slice none 0 0] 76) w.heap.size rfl;exact ⟨(by repeat (first|with_reducible exact Below.refl _ _|with_reducible apply Below.ofExt|with_reducible apply Below.ofAlloc|with_reducible apply Below.drew|with_reducible apply Below.ofDrewN|with_reducible assumption|(with_reducible refine Below.setCell ?_ (by first|exact Nat.le_refl _|(simp [go_sem];done)|(simp [go_sem];omega)) _))),h2.1,h2.2⟩) ?_
  rintro w1 ⟨B1,P1,R1⟩
  have Zp:=zb P1
  have Zq:=zb R1
  have e1:=zl P1 R1
  rw [<- e1]
  have S1:=fun o r=>zp (zp B1 (p:=w.heap.size+1) (by omega) r) (p:=w.heap.size) (Nat.le_refl _) o
  clear e1 P1 R1
  refine zaB [(0,true),(1,true),(2,true),(3,false),(4,false),(5,false)] 5 (by kernel_rfl) (by kernel_rfl) ?_
  repeat (refine zq rfl (fun K hK=>?_);go_simp;(try simp (disch:=omega) only [IntWalk.i64_in]);refine hK _ ?_;clear hK K)
  refine zo rfl (fun K hK=>?_);go_simp;go_at_call 85;refine (D2.out _).mono ?_;rintro e w' ⟨rfl,hb⟩;obtain ⟨X,rfl⟩:=hb.ext;clear hb;try go_simp;refine hK _ _ (by show Sx _ _;(try simp only [<- Array.append_assoc]);repeat (first|with_reducible exact Sx.drew _|with_reducible exact Sx.same _ _ _ _|with_reducible exact ⟨_,rfl⟩|with_reducible apply Sx.more|with_reducible apply Sx.ext|with_reducible apply Sx.alloc|with_reducible apply zL|with_reducible exact Sx.refl _)) ?_;clear hK K
  repeat (refine zq rfl (fun K hK=>?_);go_simp;(try simp (disch:=omega) only [IntWalk.i64_in]);refine hK _ ?_;clear hK K)
  refine zo rfl (fun K hK=>?_);go_simp;go_at_call 84;refine (D1.out _ (by first|with_reducible exact (S1 _ _).ofExt _|(with_reducible apply Below.ofExt;with_reducible apply Below.drew;with_reducible exact S1 _ _))).mono ?_;rintro e w' ⟨v1,rfl,hm1,hb1⟩;obtain ⟨b0,d0,b1,d1,b2,d2,rfl,q0,q1,q2⟩:=hm1.form;obtain ⟨X2,rfl⟩:=hb1.ext;have Q0:=Hd q0;have Q1:=Hd q1;have Q2:=Hd q2;clear hm1 q0 q1 q2 hb1;try go_simp;refine hK _ _ (by show Sx _ _;(try simp only [<- Array.append_assoc]);repeat (first|with_reducible exact Sx.drew _|with_reducible exact Sx.same _ _ _ _|with_reducible exact ⟨_,rfl⟩|with_reducible apply Sx.more|with_reducible apply Sx.ext|with_reducible apply Sx.alloc|with_reducible apply zL|with_reducible exact Sx.refl _)) ?_;clear hK K
  repeat (refine zq rfl (fun K hK=>?_);go_simp;(try simp (disch:=omega) only [IntWalk.i64_in]);refine hK _ ?_;clear hK K)
  repeat (refine zy rfl rfl (fun K hK=>?_);go_simp;refine hK _ _ ?_;clear hK K)
  refine zX ?_
  (try simp only []);repeat (first|go_skip|go_guarded|go_step|go_upon|go_back)
  refine bodyPost_ret (by simp [results,Tryz.results57,go_sem,Zq];rfl) rfl ?_
  have Q0':=Q0.out;have Q1':=Q1.out;have Q2':=Q2.out
  rw [zm] at Q0' Q1' Q2'
  exact ⟨_,rfl,⟨_,_,_,rfl,za0 (zh _) Zq Q0' _,za0 (ze _) Zq Q1' _,za0 (ze _) Zq Q2' _⟩,(S1 _ _).ofExt _⟩
theorem zbF (id:Int) (t:ByteArray) (w:World) (ht:t.size<=1073741824) (h0 : -9223372036854775808<=id) (h1:id<=9223372036854775807) :
  Calls Tryz.prog 95 #[.int .i64 id,.string t] w fun e w'=>e=.returned (.string (K.pipeKey id t))/\Below w.heap.size w w':=by
 have D:=Hd (zS K.nP t id w (by decide) ht h0 h1)
 go_enter Tryz.func95,Tryz.ntmps95
 (try simp only []);repeat (first|go_skip|go_guarded|go_step|go_upon|go_back)
 (go_at_call 87;refine D.out.mono ?_;rintro e w1 ⟨rfl,hb1⟩)
 go_wp2
 go_ret
 exact ⟨rfl,hb1⟩
theorem zaY (id:Int) (t:ByteArray) (w:World) (ht:t.size<=1073741824) (h0 : -9223372036854775808<=id) (h1:id<=9223372036854775807) :
  Calls Tryz.prog 58 #[.int .i64 id,.string t] w fun e w'=>e=.returned (.string (K.procKey id t))/\Below w.heap.size w w':=by
 have D:=Hd (zS K.nR t id w (by decide) ht h0 h1)
 go_enter Tryz.func58,Tryz.ntmps58
 (try simp only []);repeat (first|go_skip|go_guarded|go_step|go_upon|go_back)
 (go_at_call 87;refine D.out.mono ?_;rintro e w1 ⟨rfl,hb1⟩)
 go_wp2
 go_ret
 exact ⟨rfl,hb1⟩
theorem zdH (id:Int) (t:ByteArray) (w:World) (ht:t.size<=1073741824) (h0 : -9223372036854775808<=id) (h1:id<=9223372036854775807) :
  Calls Tryz.prog 100 #[.int .i64 id,.string t] w fun e w'=>e=.returned (.string (K.signalKey id t))/\Below w.heap.size w w':=by
 have D:=Hd (zS K.nG t id w (by decide) ht h0 h1)
 go_enter Tryz.func100,Tryz.ntmps100
 (try simp only []);repeat (first|go_skip|go_guarded|go_step|go_upon|go_back)
 (go_at_call 87;refine D.out.mono ?_;rintro e w1 ⟨rfl,hb1⟩)
 go_wp2
 go_ret
 exact ⟨rfl,hb1⟩
theorem zaG (id:Int) (w:World) (h0 : -9223372036854775808<=id) (h1:id<=9223372036854775807) :
  Calls Tryz.prog 103 #[.int .i64 id] w fun e w'=>e=.returned (.string (K.pagesKey id))/\Below w.heap.size w w':=by
 have D:=Hd (zS K.nM K.slash id w (by decide) (by decide) h0 h1)
 go_enter Tryz.func103,Tryz.ntmps103
 (try simp only []);repeat (first|go_skip|go_guarded|go_step|go_upon|go_back)
 (go_at_call 87;refine D.out.mono ?_;rintro e w1 ⟨rfl,hb1⟩)
 go_wp2
 go_ret
 exact ⟨rfl,hb1⟩
theorem ze2 (s:ByteArray) : 0<=zbu s/\zbu s<=999:=by
 unfold zbu
 split
 ·rename_i h;omega
 ·omega
theorem zbc (k:ByteArray):SC 56 (fun x=>#[x,.string k]) (K.bump k) (fun v' n=>.tuple #[v',.int .i64 n]):=by
 refine SCmk (fun w m a0 c0 a1 c1 a2 c2 H0 H1 H2 hf=>?_)
 have hf1:(K.look k).fits m:=(Mp.fits_bind (K.look k) _ m).1 ((Mp.fits_bind (K.num k) _ m).1 hf).1 |>.1
 have hf2:(if 999<zbu ((K.look k).run m).1+1 then (pure 0:Mp Int) else (do K.setNum k (zbu ((K.look k).run m).1+1);pure (zbu ((K.look k).run m).1+1))).fits ((K.look k).run m).2:=((Mp.fits_bind (K.num k) _ m).1 hf).2
 have D1:=fun w' (hb:Below w.heap.size w w')=>zaq k w' (.agg #[.slice a0 m.cells.length c0,.slice a1 m.rd.length c1,.slice a2 m.wr.length c2]) m ⟨_,_,_,rfl,H0.out.below hb,H1.out.below hb,H2.out.below hb⟩ hf1
 have hz:((K.look k).run m).1.size<=1048576:=zaI hf1.1 k
 have hr:(K.bump k).run m=(if 999<zbu ((K.look k).run m).1+1 then (pure 0:Mp Int) else (do K.setNum k (zbu ((K.look k).run m).1+1);pure (zbu ((K.look k).run m).1+1))).run ((K.look k).run m).2:=rfl
 rw [hr]
 clear hr hf hf1
 generalize (K.look k).run m=R at D1 hz hf2 ⊢
 obtain ⟨t,m1⟩:=R
 dsimp only at D1 hz hf2 ⊢
 have hnb:=ze2 t
 have D2:=fun w'=>zcA t w' hz
 generalize zbu t=n at D2 hnb hf2 ⊢
 obtain ⟨res,mres,hres⟩ : ∃ res mres,(if 999<n+1 then (pure 0:Mp Int) else (do K.setNum k (n+1);pure (n+1))).run m1=(res,mres):=⟨_,_,rfl⟩
 rw [hres]
 dsimp only
 have RES:=Hd hres
 clear hres
 have D1:=Hd D1
 have D2:=Hd D2
 have HF2:=Hd hf2
 clear hf2
 obtain ⟨hn0,hn1⟩:=hnb
 go_enter Tryz.func56,Tryz.ntmps56
 (try simp only []);repeat (first|go_skip|go_guarded|go_step|go_upon|go_back)
 (go_at_call 82;refine (D1.out _ (by repeat (first|with_reducible exact Below.refl _ _|with_reducible apply Below.ofExt|with_reducible apply Below.ofAlloc|with_reducible apply Below.drew|with_reducible apply Below.ofDrewN|with_reducible assumption|(with_reducible refine Below.setCell ?_ (by first|exact Nat.le_refl _|(simp [go_sem];done)|(simp [go_sem];omega)) _)))).mono ?_;rintro e w1 ⟨v1,rfl,hm1,hb1⟩)
 obtain ⟨b0,d0,b1,d1,b2,d2,rfl,q0,q1,q2⟩:=hm1.form
 obtain ⟨B1,P1,R1,Zq,Zp⟩:=zef hb1
 have e1:=zl P1 R1
 rw [<- e1]
 have W0:=fun o r=>zf (zh _) q0 P1 R1 o r
 have W1:=fun o r=>zf (ze _) q1 P1 R1 o r
 have W2:=fun o r=>zf (ze _) q2 P1 R1 o r
 have HW0:=Hd W0;have HW1:=Hd W1;have HW2:=Hd W2
 clear e1 P1 R1 hm1 q0 q1 q2 hb1 D1 W0 W1 W2
 (try simp only []);repeat (first|go_skip|go_guarded|go_step|go_upon|go_back)
 (go_at_call 83;refine (D2.out _).mono ?_;rintro e w2 ⟨rfl,hb2⟩)
 obtain ⟨B2,P2,R2,Zq2,Zp2⟩:=zF B1 Zq hb2
 have q0:=(HW0.out _ _).below hb2
 have q1:=(HW1.out _ _).below hb2
 have q2:=(HW2.out _ _).below hb2
 have e2:=zl P2 R2
 rw [<- e2]
 have W0:=fun o r=>zf (zh _) q0 P2 R2 o r
 have W1:=fun o r=>zf (ze _) q1 P2 R2 o r
 have W2:=fun o r=>zf (ze _) q2 P2 R2 o r
 have HW0:=Hd W0;have HW1:=Hd W1;have HW2:=Hd W2
 have S2:=fun o r=>zp (zp B2 (p:=w.heap.size+1) (by omega) r) (p:=w.heap.size) (Nat.le_refl _) o
 clear e2 P2 R2 q0 q1 q2 hb2 D2 W0 W1 W2 B1 Zq Zp
 by_cases hg : 999<n+1
 case pos =>
  have hres:=RES.out
  rw [if_pos hg] at hres
  obtain ⟨rfl,rfl⟩:=Prod.mk.inj (show ((0:Int),m1)=(res,mres) from hres)
  clear hres RES HF2
  (try simp only []);repeat (first|go_skip|go_guarded|go_step|go_upon|go_back)
  refine bodyPost_ret (by simp [results,Tryz.results56,go_sem,Zq2];rfl) rfl ?_
  exact ⟨_,rfl,⟨_,_,_,rfl,HW0.out _ _,HW1.out _ _,HW2.out _ _⟩,S2 _ _⟩
 case neg =>
  have hres:=RES.out
  rw [if_neg hg] at hres
  have hf3:=HF2.out
  rw [if_neg hg] at hf3
  have hf4:(K.lay k (zas (Lib.itoa (n+1)))).fits m1:=by
   have:=((Mp.fits_bind _ _ _).1 hf3).1
   unfold K.setNum K.numText at this
   rwa [if_pos (by omega)] at this
  have D3:=fun w' (a0 a1 a2:Option Addr) (c0 c1 c2:Nat) h0 h1 h2=>zY k (zas (Lib.itoa (n+1))) w' (.agg #[.slice a0 m1.cells.length c0,.slice a1 m1.rd.length c1,.slice a2 m1.wr.length c2]) m1 ⟨_,_,_,rfl,h0,h1,h2⟩ hf4
  have hr:(do K.setNum k (n+1);pure (n+1):Mp Int).run m1=(n+1,((K.lay k (zas (Lib.itoa (n+1)))).run m1).2):=by
   rw [Mp.run_bind]
   unfold K.setNum K.numText
   rw [if_pos (by omega)]
   rfl
  rw [hr] at hres
  clear hr hf3 hf4 RES HF2
  generalize (K.lay k (zas (Lib.itoa (n+1)))).run m1=R at D3 hres
  obtain ⟨u,m2⟩:=R
  dsimp only at D3 hres
  obtain ⟨rfl,rfl⟩:=Prod.mk.inj hres
  clear hres
  have D3:=Hd D3
  have D4:=Hd (fun w'=>zbT (n+1) w' (by omega) (by omega))
  (try simp only []);repeat (first|go_skip|go_guarded|go_step|go_upon|go_back)
  go_region_with (first
   | (go_at_call 85;refine (D4.out _).mono ?_;rintro e w' ⟨rfl,hb⟩;obtain ⟨X,rfl⟩:=hb.ext;clear hb;try go_simp)
   | (go_at_call 84;refine (D3.out _ _ _ _ _ _ _ (by first|with_reducible exact (HW0.out _ _).ext _|with_reducible exact HW0.out _ _|with_reducible exact RdL.drew ((HW0.out _ _).ext _)) (by first|with_reducible exact (HW1.out _ _).ext _|with_reducible exact HW1.out _ _|with_reducible exact RdL.drew ((HW1.out _ _).ext _)) (by first|with_reducible exact (HW2.out _ _).ext _|with_reducible exact HW2.out _ _|with_reducible exact RdL.drew ((HW2.out _ _).ext _))).mono ?_;rintro e w' ⟨v1,rfl,hm1,hb1⟩;obtain ⟨f0,g0,f1,g1,f2,g2,rfl,q0,q1,q2⟩:=hm1.form;obtain ⟨X2,rfl⟩:=hb1.ext;have Q0:=Hd q0;have Q1:=Hd q1;have Q2:=Hd q2;clear hm1 q0 q1 q2 hb1;try go_simp))
  all_goals ((try simp only []);repeat (first|go_skip|go_guarded|go_step|go_upon|go_back))
  all_goals (refine bodyPost_ret (by simp [results,Tryz.results56,go_sem,Zq2];rfl) rfl ?_)
  all_goals (have Q0':=Q0.out;have Q1':=Q1.out;have Q2':=Q2.out)
  all_goals (try rw [zm] at Q0' Q1' Q2')
  all_goals exact ⟨_,rfl,⟨_,_,_,rfl,za0 (zh _) Zq2 Q0' _,za0 (ze _) Zq2 Q1' _,za0 (ze _) Zq2 Q2' _⟩,(S2 _ _).ofExt _⟩
end Go.Proofs.YtncnbihlngapbaaGreat
