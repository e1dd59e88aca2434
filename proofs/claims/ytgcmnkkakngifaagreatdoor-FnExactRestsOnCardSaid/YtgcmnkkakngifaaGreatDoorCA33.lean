/- Texts of this claim, merged: the walks and what they stand on. Each condition stands in its theorem. -/
import Derived.Test.YtgcmnkkakngifaaGreatDoorCA20
import Derived.Test.YtgcmnkkakngifaaGreatDoorCA32
set_option linter.unusedVariables false
set_option linter.unusedSimpArgs false
set_option maxRecDepth 100000
set_option maxHeartbeats 8000000
namespace Go.Proofs.YtgcmnkkakngifaaGreatDoor
open Go.ChangeShapes Go.WideShapes Go.ChangeAt Go.RowKit
structure BW (wr:World) where
 w:World
 b:Below wr.heap.size wr w
instance (wr:World):Nonempty (BW wr):=⟨⟨wr,Below.refl _ _⟩⟩
theorem wG_low (text:List UInt8) (a b place:Nat) (old:List UInt8) (i:Nat) (h:place * 8 + i<=max a (place * 8)):wG text a b place old i=old:=by
 unfold wG
 rw [show min b (place * 8 + i) - max a (place * 8)=0 by omega]
 rfl
theorem wG_top (text:List UInt8) (a b place:Nat) (old:List UInt8) (i:Nat) (h:min b (place * 8 + i)=min b (place * 8 + 8)):wG text a b place old i=K.wBlock text a b place old:=by
 rw [<- wG_end]
 unfold wG
 rw [h]
theorem zfZ (id:Int) (id0 : -9223372036854775808<=id) (id1:id<=9223372036854775807) (a:Int) (aa0 : -9223372036854775808<=a) (aa1:a<=9223372036854775807) (text:ByteArray) (textz:text.size<=1048576):IC 182 (fun x=>#[x,.int .i64 id,.int .i64 a,.string text]) (K.writeFile id a text) (fun r=>.int .i64 r):=by
 refine zc7 (fun w0 w fp mb m res mres HM HT HL=>?_)
 unfold K.writeFile at HL
 simp only [zcu,zaj] at HL
 by_cases he:text.size=0
 case' pos=>(have hs:=zd7 he;obtain ⟨rfl,ht⟩:=hs;have hz0:(⟨#[]⟩ : ByteArray).size=0:=rfl)
 case' neg=>(have hs:=zd8 he;obtain ⟨hp,ht⟩:=hs)
 all_goals (go_enter Tryz.func182,Tryz.ntmps182;(try simp only []))
 all_goals (repeat (first|go_skip|go_guarded|go_step|go_upon|go_back))
 all_goals (((((go_at_call 237;refine (za8 _ (by omega) (by omega) _ HM.out.globs).mono ?_));rintro e w2 ⟨rfl,hb⟩;(replace HM:=Lib.hid (HM.out.below hb);replace HT:=Lib.hid (HT.out.trans (IT.below hb));clear hb;(try simp only [])))))
 all_goals (repeat (first|go_skip|go_guarded|go_step|go_upon|go_back))
 all_goals (((((go_at_call 168;refine (IC.use (zak _) (fun a=>0<=a/\a<=999) (fun m _=>z7 _ m) (by first|exact HL.out|exact HL.out.last) HM.out).mono ?_));(rintro e w2 ⟨x,m2,fp2,rfl,hx,hm,ht,HL2⟩);(replace HM:=Lib.hid hm;replace HT:=Lib.hid (HT.out.trans ht);clear hm ht;clear HL;have HL:=Lib.hid HL2;clear HL2;(try simp only []);(all_goals ((repeat' ((rcases HL.out.ite with ⟨hg,HL2⟩|⟨hg,HL2⟩<;>(clear HL;have HL:=Lib.hid HL2;clear HL2;try first|(exfalso;omega)|(have hgz : _ ∨ _:=hg;clear hg;rcases hgz with hg|hg<;>(skip))|(have hgz:=not_or.1 hg;clear hg;obtain ⟨hg,hgo⟩:=hgz;try replace hgo:=Decidable.not_not.1 hgo)))))))))))
 all_goals by_cases hr : 0<=a/\a<=x
 all_goals (try (exfalso;omega))
 all_goals (repeat' (first|go_skip|go_guarded|go_step|go_upon|go_back|((((go_at_call 170;refine (zab _ _ _ _).mono ?_);rintro e w2 ⟨rfl,rfl⟩;(try simp only []);(try rw [HN.out]);(try rw [HP.out]);(try simp (disch:=omega) only [zaw,zaS]))))|(exfalso;(simp only [bne_eq_false_iff_eq,beq_eq_false_iff_ne,beq_iff_eq,bne_iff_ne] at *);omega)))
 all_goals first
  | (obtain ⟨rfl,rfl⟩:=HL.out.end;refine bodyPost_ret (by simp [results,Tryz.results182,go_sem];rfl) rfl ?_;exact ⟨rfl,_,HM.out,HT.out⟩)
  | skip
 rename Int=>sz
 obtain ⟨na,rfl⟩:=Int.eq_ofNat_of_zero_le hr.1
 rw [Int.toNat_natCast] at HL
 obtain ⟨e,hend⟩ : ∃ e:Nat,e=na + text.size:=⟨_,rfl⟩
 rw [<- hend] at HL
 have hE:(na:Int) + (text.size:Int)=(e:Int):=by omega
 have he2:e<=64/\na < e:=by omega
 have hl0:=HL.out
 rw [hE] at hl0 ⊢
 clear HL
 unfold K.places at hl0
 generalize hcd:(e + 7) / 8 - na / 8=cnt at hl0
 have HL:=Lib.hid hl0
 clear hl0
 have hlen:(List.range' (na / 8) cnt).length=cnt:=List.length_range'
 have HE:=Lib.hid hend
 clear hend hE
 go_loopw [11,12,13,14] (fun k _ _ _ wr=>∃ (i:Nat) (m1:MachD) (fp1:List Nat),k = .int .i64 ((na / 8 + i:Nat):Int)/\i<=cnt/\IM w0 wr mb fp1 m1/\IT w fp wr fp1/\Lft (Mp.each (K.writeBlock id text na e) ((List.range' (na / 8) cnt).drop i) >>= fun _=>if sz < (e:Int) then K.setNum (K.sizeKey id) (e:Int) >>= fun _=>pure (0:Int) else pure 0) m1 (res,mres)) (fun k _ _ _ _=>cnt - ((intOf k).toNat - na / 8))
 case atStart=>exact ⟨0,_,_,rfl,Nat.zero_le _,HM.out,HT.out,HL.out⟩
 case round =>
  clear HL HM HT
  obtain ⟨i,m1,fp1,rfl,hi,hm,ht,hl⟩:=hrel
  have HM:=Lib.hid hm
  have HT:=Lib.hid ht
  clear hm ht
  by_cases hlt:i < cnt
  case neg =>
   have HL:=Lib.hid (hl.eachB_end (by rw [hlen];omega))
   clear hl
   have hpl:¬ ((na / 8 + i:Nat):Int) * 8 < e:=by omega
   have hpb:((na / 8 + i:Nat):Int)<=400:=by omega
   generalize hpp:na / 8 + i=pl at HL hpl hpb ⊢
   ((repeat' ((rcases HL.out.ite with ⟨hg,HL2⟩|⟨hg,HL2⟩<;>(clear HL;have HL:=Lib.hid HL2;clear HL2)))))
   all_goals (repeat (first|go_skip|go_guarded|go_step|go_upon|go_back))
   all_goals (try ((((((go_at_call 237;refine (za8 _ (by omega) (by omega) _ HM.out.globs).mono ?_));rintro e w2 ⟨rfl,hb⟩;(replace HM:=Lib.hid (HM.out.below hb);replace HT:=Lib.hid (HT.out.trans (IT.below hb));clear hb;(try simp only [])))));(repeat (first|go_skip|go_guarded|go_step|go_upon|go_back));(((((go_at_call 174;refine (IC.use (zZ _ _ (by omega) (by omega)) (fun _=>True) (fun _ _=>trivial) (by first|exact HL.out|exact HL.out.last) HM.out).mono ?_));(rintro e w2 ⟨x,m2,fp2,rfl,hx,hm,ht,HL2⟩);(replace HM:=Lib.hid hm;replace HT:=Lib.hid (HT.out.trans ht);clear hm ht;clear HL;have HL:=Lib.hid HL2;clear HL2;(try simp only [])))));(repeat (first|go_skip|go_guarded|go_step|go_upon|go_back))))
   all_goals (obtain ⟨rfl,rfl⟩:=HL.out.end;((refine bodyPost_ret (by simp [results,Tryz.results182,go_sem];rfl) rfl ?_));exact ⟨rfl,_,HM.out,HT.out⟩)
  case pos =>
   have hl2:=hl.eachB_at (by rw [hlen];exact hlt)
   rw [List.getElem_range',Nat.one_mul] at hl2
   unfold K.writeBlock at hl2
   rw [zaa] at hl2
   have HL:=Lib.hid hl2
   clear hl hl2
   have hpl:((na / 8 + i:Nat):Int) * 8 < e:=by omega
   have hpb:((na / 8 + i:Nat):Int)<=400:=by omega
   generalize hpp:na / 8 + i=pl at HL hpl hpb ⊢
   (repeat (first|go_skip|go_guarded|go_step|go_upon|go_back))
   (((((go_at_call 238;refine (IC.use (zeo _ (by omega) (by omega) _ (by omega) (by omega)) (fun a=>a.size<=20000) (fun m _=>zbg _) (by first|exact HL.out|exact HL.out.last) HM.out).mono ?_));(rintro e w2 ⟨x,m2,fp2,rfl,hx,hm,ht,HL2⟩);(replace HM:=Lib.hid hm;replace HT:=Lib.hid (HT.out.trans ht);clear hm ht;clear HL;have HL:=Lib.hid HL2;clear HL2;(try simp only [])))))
   obtain ⟨bv,w6,hcv,hob,hbw⟩:=zet w2 x (by omega)
   have hxl:x.data.toList.length<=20000:=by simpa using hx
   have hzt:text.data.toList.length=text.size:=by simp
   obtain ⟨s0,hs0⟩ : ∃ s0:Nat,s0=max na (pl * 8):=⟨_,rfl⟩
   obtain ⟨te,hte⟩ : ∃ te:Nat,te=min e (pl * 8 + 8):=⟨_,rfl⟩
   have f1:max (na:Int) ((pl:Int) * 8)=(s0:Int):=by omega
   have f2:min (e:Int) ((pl:Int) * 8 + 8)=(te:Int):=by omega
   have f3:s0<=te/\pl * 8<=s0/\na<=s0/\te<=e/\te<=pl * 8 + 8:=by omega
   have f4:wG text.data.toList na e pl x.data.toList (s0 - pl * 8)=x.data.toList:=wG_low _ _ _ _ _ _ (by omega)
   have f5:wG text.data.toList na e pl x.data.toList (te - pl * 8)=K.wBlock text.data.toList na e pl x.data.toList:=wG_top _ _ _ _ _ _ (by omega)
   have F4:=Lib.hid f4
   have F5:=Lib.hid f5
   clear f4 f5 hs0 hte
   (repeat (first|go_skip|go_guarded|go_step|go_upon|go_back))
   clear hcv
   go_loopw [12,14] (fun o k wr=>∃ (t:Nat),k = .int .i64 t/\s0<=t/\t<=te/\OwnB 5 wr w2.heap.size o (wG text.data.toList na e pl x.data.toList (t - pl * 8))/\Below w2.heap.size w2 wr) (fun _ k _=>te - (intOf k).toNat)
   case atStart=>exact ⟨s0,rfl,Nat.le_refl _,f3.1,by rw [F4.out];exact hob,hbw⟩
   case round =>
    clear hob hbw
    obtain ⟨t,rfl,ht0,ht1,hob,hbw⟩:=hrel
    have hwl:=ze6 (text:=text.data.toList) (a:=na) (b:=e) (place:=pl) (old:=x.data.toList) (n:=20000) hxl (by decide) (t - pl * 8) (by omega)
    by_cases hj8:(t:Int) < te
    case neg =>
     have HBW:=Lib.hid hbw
     obtain rfl:t=te:=by omega
     have hl3:=HL.out
     rw [<- F5.out] at hl3
     clear HL
     have hwz:(zT (wG text.data.toList na e pl x.data.toList (t - pl * 8))).size<=1048576:=by rw [zU];omega
     generalize wG text.data.toList na e pl x.data.toList (t - pl * 8)=bl at hl3 hob hwz hwl
     have HL:=Lib.hid hl3
     clear hl3
     have hc:∀ W:BW wr,Sem.run Tryz.prog (convert 123 9 _) W.w = .ok (.string (zT bl)) W.w:=fun W=>zaA (P:=Tryz.prog) W.w zbK Tryz.underlying9 (hob.sl.below W.b)
     clear hob hbw
     have HM':=Lib.hid (HM.out.below HBW.out)
     have HT':=Lib.hid (HT.out.trans (IT.below HBW.out))
     clear HM HT HBW
     have HM:=HM'
     have HT:=HT'
     clear HM' HT'
     (repeat (first|go_skip|go_guarded|go_step|go_upon|go_back))
     refine za9 (BW.w:BW wr->World) (id:=18) [(0,true),(1,true),(2,true),(4,true),(5,true),(3,false),(6,false),(7,false)] 7 (by kernel_rfl) (by kernel_rfl) ⟨⟨_,Below.drew (Below.refl _ _)⟩,rfl⟩ ?_
     have HM':=Lib.hid (HM.out.below (Below.drew (Below.refl _ _)))
     have HT':=Lib.hid (HT.out.trans (IT.below (Below.drew (Below.refl _ _))))
     clear HM HT
     have HM:=HM'
     have HT:=HT'
     clear HM' HT'
     have hbd:Below wr.heap.size wr wr.drew:=Below.drew (Below.refl _ _)
     (refine zl rfl (fun K hK=>?_);go_simp;(try simp (disch:=omega) only [IntWalk.i64_in,Int.tmod_eq_emod_of_nonneg,Int.tdiv_eq_ediv_of_nonneg]);refine hK _ ?_;clear hK K)
     (refine zl rfl (fun K hK=>?_);go_simp;(try simp (disch:=omega) only [IntWalk.i64_in,Int.tmod_eq_emod_of_nonneg,Int.tdiv_eq_ediv_of_nonneg]);refine hK _ ?_;clear hK K)
     (refine zl rfl (fun K hK=>?_);go_simp;(try simp (disch:=omega) only [IntWalk.i64_in,Int.tmod_eq_emod_of_nonneg,Int.tdiv_eq_ediv_of_nonneg]);refine hK _ ?_;clear hK K)
     (refine zl rfl (fun K hK=>?_);go_simp;(try simp (disch:=omega) only [IntWalk.i64_in,Int.tmod_eq_emod_of_nonneg,Int.tdiv_eq_ediv_of_nonneg]);refine hK _ ?_;clear hK K)
     (refine zl rfl (fun K hK=>?_);go_simp;(try simp (disch:=omega) only [IntWalk.i64_in,Int.tmod_eq_emod_of_nonneg,Int.tdiv_eq_ediv_of_nonneg]);refine hK _ ?_;clear hK K)
     refine zt rfl (fun K hK=>?_);go_simp
     (go_at_call 239;refine (zbf _ _ (by omega) (by omega) (by omega) (by omega) _ HM.out.globs).mono ?_;rintro e1 w7 ⟨rfl,hb⟩)
     have hbd7:=Below.then hbd hb
     (have HM':=Lib.hid (HM.out.below hb);have HT':=Lib.hid (HT.out.trans (IT.below hb));(try (have HK':=Lib.hid (HK.out.below hb);clear HK;have HK:=HK';clear HK'));(try (have HO':=Lib.hid (HO.out.below hb);clear HO;have HO:=HO';clear HO'));(try (have HC':=Lib.hid (HC.out.below hb);clear HC;have HC:=HC';clear HC'));(try (have HR':=Lib.hid (HR.out.below hb);clear HR;have HR:=HR';clear HR'));(try (have HA':=Lib.hid (HA.out.below hb);clear HA;have HA:=HA';clear HA'));clear HM HT hb;have HM:=HM';have HT:=HT';clear HM' HT';(try simp only []))
     (try go_simp)
     refine hK _ _ ⟨⟨_,hbd7⟩,rfl⟩ ?_;clear hK K
     refine zt rfl (fun K hK=>?_);go_simp
     (go_at_call 186;refine (zcc _ _ (by omega)).mono ?_;rintro e1 w8 ⟨rfl,hb⟩)
     have hbd8:=Below.then hbd7 hb
     (have HM':=Lib.hid (HM.out.below hb);have HT':=Lib.hid (HT.out.trans (IT.below hb));(try (have HK':=Lib.hid (HK.out.below hb);clear HK;have HK:=HK';clear HK'));(try (have HO':=Lib.hid (HO.out.below hb);clear HO;have HO:=HO';clear HO'));(try (have HC':=Lib.hid (HC.out.below hb);clear HC;have HC:=HC';clear HC'));(try (have HR':=Lib.hid (HR.out.below hb);clear HR;have HR:=HR';clear HR'));(try (have HA':=Lib.hid (HA.out.below hb);clear HA;have HA:=HA';clear HA'));clear HM HT hb;have HM:=HM';have HT:=HT';clear HM' HT';(try simp only []))
     (try go_simp)
     refine hK _ _ ⟨⟨_,hbd8⟩,rfl⟩ ?_;clear hK K
     refine zw rfl rfl (fun K hK=>?_);go_simp
     (go_at_call 177;refine (IC.use (zaB _ _) (fun _=>True) (fun _ _=>trivial) HL.out HM.out).mono ?_;rintro e1 w9 ⟨x9,m2,fp2,rfl,hx,hm,ht,HL2⟩)
     (have HM':=Lib.hid hm;have HT':=Lib.hid (HT.out.trans ht);(try (have HK':=Lib.hid (HK.out.step ht);clear HK;have HK:=HK';clear HK'));(try (have HO':=Lib.hid (HO.out.step ht);clear HO;have HO:=HO';clear HO'));(try (have HC':=Lib.hid (HC.out.step ht);clear HC;have HC:=HC';clear HC'));(try (have HR':=Lib.hid (HR.out.step ht);clear HR;have HR:=HR';clear HR'));(try (have HA':=Lib.hid (HA.out.step ht);clear HA;have HA:=HA';clear HA'));clear HM HT hm ht;have HM:=HM';have HT:=HT';clear HM' HT';(try dsimp only at HL2);clear HL;have HL:=Lib.hid HL2;clear HL2;(try simp only []))
     (try go_simp)
     refine hK _ _ ?_;clear hK K
     refine zae ?_
     (repeat (first|go_skip|go_guarded|go_step|go_upon|go_back))
     go_roundw
     case rel=>exact ⟨i + 1,_,_,by (have:na / 8 + (i + 1)=pl + 1:=by omega);rw [this];go_num,by omega,HM.out,HT.out,HL.out⟩
     case measure=>simp [intOf];omega
    case pos =>
     obtain ⟨j,hj⟩ : ∃ j:Nat,j=t - pl * 8:=⟨_,rfl⟩
     have hji:(t:Int) - (pl:Int) * 8=(j:Int):=by omega
     have hj1:t + 1 - pl * 8=j + 1:=by omega
     have hj7:j<=8:=by omega
     rw [<- hj] at hob hwl
     have HG:=Lib.hid (zjj (text:=text.data.toList) (a:=na) (b:=e) (place:=pl) (old:=x.data.toList) (i:=j) (by omega) (by omega))
     generalize wG text.data.toList na e pl x.data.toList j=l at hob hwl HG
     obtain ⟨ti,hti⟩ : ∃ ti:Nat,(ti:Int)=(t:Int) - na:=⟨t - na,by omega⟩
     have hti2:pl * 8 + j - na=ti:=by omega
     have htl:ti < text.size:=by have:=HE.out;omega
     have hw:(t:Int) - na=ti:=hti.symm
     have hgd:(text.data.toList.getD ti 0)=text[ti]:=by
      rw [List.getD_eq_getElem?_getD,List.getElem?_eq_getElem (by simpa using htl)]
      rfl
     rw [hti2] at HG
     have HGD:=Lib.hid hgd
     have HOB:=Lib.hid hob
     have HBW:=Lib.hid hbw
     have HJ:=Lib.hid hj
     clear hob hbw hti hti2 hgd hj
     (repeat (first|go_skip|go_guarded|go_step|go_upon|go_back))
     go_loopw [12] (fun o wr=>∃ z:Nat,OwnB 5 wr w2.heap.size o (l ++ List.replicate z 0)/\Below w2.heap.size w2 wr/\∀ k,k < z->l.length + k<=j) (fun o _=>j + 1 - lenV o)
     case atStart=>exact ⟨0,by rw [List.replicate_zero,List.append_nil];exact HOB.out,HBW.out,fun k hk=>absurd hk (Nat.not_lt_zero _)⟩
     case round =>
      obtain ⟨z,hob,hbw,hz⟩:=hrel
      obtain ⟨oa,oc,rfl⟩:=hob.form
      have hzl:l.length + z<=20009:=by
       rcases Nat.eq_zero_or_pos z with h0|h0
       ·omega
       ·have:=hz (z - 1) (by omega)
        omega
      have hll:(l ++ List.replicate z (0:UInt8)).length=l.length + z:=by simp
      have HZ:=Lib.hid hz
      clear hz
      have HOB:=Lib.hid hob
      have HBW:=Lib.hid hbw
      clear hob hbw
      have HS:=Lib.hid (zf5 l z)
      by_cases hle:((l.length + z:Nat):Int)<=j
      case pos =>
       have hle2:(((l ++ List.replicate z (0:UInt8)).length:Nat):Int)<=j:=by rw [hll];exact hle
       have hyl:(l ++ List.replicate z (0:UInt8)).length<=20009:=by rw [hll];exact hzl
       have HLL:=Lib.hid hll
       clear hll
       generalize hys:l ++ List.replicate z (0:UInt8)=ys at HOB HS HLL hyl hle2 ⊢
       clear hys
       go_wp2_with (at_builtin;refine zA ?_)
       refine zdk _ zbK rfl (.tmp 65) (.tmp 66) rfl (B:=w2.heap.size) (l:=ys) (m:=[0]) (HOB.out.alloc _) rfl (zin _ 0 0 rfl _ _ rfl) rfl (by simp;omega) (by have:=HBW.out.size;simp;omega) ?_
       intro v7 w7 hown hg
       have HB7:=Lib.hid (Below.appB (HBW.out.ofAlloc _) hg (HOB.out.alloc _))
       have HO7:=Lib.hid hown
       have hl7:lenV v7=ys.length + 1:=by
        obtain ⟨_,_,rfl⟩:=hown.form
        simp [lenV]
       clear hown hg
       ((try simp only []);repeat (first|go_skip|go_guarded|go_step|go_upon|go_back))
       go_roundw
       case rel=>exact ⟨z + 1,by rw [HS.out];exact HO7.out,HB7.out,fun k hk=>by have h1:=HZ.out k;omega⟩
       case measure=>rw [hl7];simp [lenV];omega
      case neg =>
       have HSA:=Lib.hid (zfm (l:=l) (i:=j) (j:=z) (text.data.toList.getD ti 0) (by omega) (fun k hk=>HZ.out k hk))
       have hjl:j < (l ++ List.replicate z (0:UInt8)).length:=by rw [hll];omega
       have hyl:(l ++ List.replicate z (0:UInt8)).length<=20009:=by rw [hll];exact hzl
       clear HZ HS hll hle
       generalize l ++ List.replicate z (0:UInt8)=ys at HOB HSA hjl hyl ⊢
       obtain ⟨g,cap,hv⟩ : ∃ g cap,Value.slice oa ys.length oc=Value.slice (some ⟨g,0,none⟩) ys.length cap:=by
        rcases HOB.out with ⟨_,he⟩|⟨g,cap,cur,fz,hv,_⟩
        ·rw [he] at hjl;cases hjl
        ·exact ⟨g,cap,hv⟩
       cases hv
       have hgp:=(HOB.out.lt g rfl).1
       obtain ⟨⟨u,hu⟩,hfr,hset⟩:=zhi (k:=j) (c:=text.data.toList.getD ti 0) HOB.out hjl
       rw [HGD.out] at hset HSA HG
       have HSET:=Lib.hid hset
       clear hset
       have hjy:(j:Int) < ys.length:=by omega
       (repeat (first|go_skip|go_guarded|go_step|go_upon|go_back))
       go_roundw
       case rel=>exact ⟨t + 1,by go_num,by omega,by omega,by rw [hj1,HG.out,<- HSA.out];exact HSET.out,HBW.out.setCell (p:=⟨g,j,none⟩) hgp _⟩
       case measure=>simp [intOf];omega
theorem IM.set1 {w0 W:World} {fp:List Nat} {b:Nat} {m:MachD} (h:IM w0 W b fp m) {q:Nat} (hq:q ∉ fp) (hB:w0.heap.size<=q) (o:Obj):IM w0 (W.setB q o) b fp m :=
 h.upon (Upon.setB (fp:=[q]) W o (by simp)) (fun j hj=>by rw [List.mem_singleton.1 hj];exact hq) (fun j hj=>by rw [List.mem_singleton.1 hj];exact hB)
theorem IT.set1 {w W:World} {fp fp1:List Nat} (h:IT w fp W fp1) {q:Nat} (hB:w.heap.size<=q) (o:Obj):IT w fp (W.setB q o) fp1 :=
 h.upon (Upon.setB (fp:=[q]) W o (by simp)) (fun j hj=>by rw [List.mem_singleton.1 hj];exact hB)
theorem BX.set1 {W:World} {fp:List Nat} {p q:Nat} {o':Obj} (h:BX W fp p o') (hne:p ≠ q) (o:Obj):BX (W.setB q o) fp p o':=⟨(World.setB_get _ _ _ _ hne).trans h.1,h.2⟩
theorem BX.at1 {W:World} {fp:List Nat} {q:Nat} {o':Obj} (h:BX W fp q o') (o:Obj):BX (W.setB q o) fp q o:=⟨zy _ _ _ (za h.1),h.2⟩
theorem zdr (c:CallD) (hn:c.name.size<=1048576) (htx:c.text.size<=1048576) (ha0 : -9223372036854775808<=c.a) (ha1:c.a<=9223372036854775807) (hb0 : -9223372036854775808<=c.b) (hb1:c.b<=9223372036854775807):IC 114 (fun x=>#[x,zbL c]) (K.doFile c) (fun an=>zcj an):=by
 obtain ⟨kd,nm,tn,ca,cb,tx⟩:=c
 dsimp only at hn htx ha0 ha1 hb0 hb1
 refine zc7 (fun w0 w fp mb m res mres HM HT HL=>?_)
 have HB0:=Lib.hid HM.out.bel.size
 unfold K.doFile at HL
 unfold zbL
 dsimp only at HL ⊢
 go_enter Tryz.func114,Tryz.ntmps114
 (repeat (first|go_skip|go_guarded|go_step|go_upon|go_back))
 refine zjx (fun W=>IM w0 W mb fp m/\IT w fp W fp/\BX W fp w.heap.size (.cells #[.int .i64 kd,.string nm,.string tn,.int .i64 ca,.int .i64 cb,.string tx] 52 (0,0))/\BX W fp (w.heap.size + 1) (.cells #[.int .i64 0,.int .i64 0,.string ⟨#[]⟩] 98 (0,0))) ?_ ?_
 ·have h2:=zcf w (.cells #[.int .i64 kd,.string nm,.string tn,.int .i64 ca,.int .i64 cb,.string tx] 52) (.cells #[.int .i64 0,.int .i64 0,.string ⟨#[]⟩] 98) w.heap.size rfl
  exact ⟨HM.out.below (by repeat (first|with_reducible exact Below.refl _ _|with_reducible apply Below.ofAlloc)),HT.out.trans (IT.below (by repeat (first|with_reducible exact Below.refl _ _|with_reducible apply Below.ofAlloc))),⟨h2.1,fun hx=>absurd (HM.out.hi _ hx) (by omega)⟩,⟨h2.2,fun hx=>absurd (HM.out.hi _ hx) (by omega)⟩⟩
 clear HM HT
 rintro W ⟨hm,ht,hc,hr⟩
 have HM:=Lib.hid hm
 have HT:=Lib.hid ht
 have HC:=Lib.hid hc
 have HR:=Lib.hid hr
 clear hm ht hc hr
 ((((go_at_call 172;refine (IC.use (zbF _ (by omega)) (fun a=>0<=a/\a<=999) (fun m _=>zaX _ m) (by first|exact HL.out|exact HL.out.last) HM.out).mono ?_));(rintro e w2 ⟨x,m2,fp2,rfl,hx,hm,ht,HL2⟩);(have HM':=Lib.hid hm;have HT':=Lib.hid (HT.out.trans ht);(try (have HC':=Lib.hid (HC.out.step ht);clear HC;have HC:=HC';clear HC'));(try (have HR':=Lib.hid (HR.out.step ht);clear HR;have HR:=HR';clear HR'));clear HM HT hm ht;have HM:=HM';have HT:=HT';clear HM' HT';clear HL;have HL:=Lib.hid HL2;clear HL2;(try simp only []);(all_goals ((repeat' ((rcases HL.out.ite with ⟨hg,HL2⟩|⟨hg,HL2⟩<;>(clear HL;have HL:=Lib.hid HL2;clear HL2)))))))))
 ·(have y1:=za HR.out.1;have y0:=za HC.out.1;have p0:∀ o,(w2.setB (w.heap.size + 1) o).cell? ⟨w.heap.size,0,none⟩ = some _:=fun o=>(zd (i:=0) (HC.out.set1 (by omega) o).1).trans rfl;have p3:∀ o,(w2.setB (w.heap.size + 1) o).cell? ⟨w.heap.size,3,none⟩ = some _:=fun o=>(zd (i:=3) (HC.out.set1 (by omega) o).1).trans rfl;have p4:∀ o,(w2.setB (w.heap.size + 1) o).cell? ⟨w.heap.size,4,none⟩ = some _:=fun o=>(zd (i:=4) (HC.out.set1 (by omega) o).1).trans rfl;have p5:∀ o,(w2.setB (w.heap.size + 1) o).cell? ⟨w.heap.size,5,none⟩ = some _:=fun o=>(zd (i:=5) (HC.out.set1 (by omega) o).1).trans rfl;have e1:=zf HR.out.1;rw [<- e1];clear e1)
  ((repeat (first|go_skip|go_guarded|go_step|go_upon|go_back));obtain ⟨rfl,rfl⟩:=HL.out.end;refine bodyPost_ret (by simp [results,Tryz.results114,go_sem,y1];rfl) rfl ?_;exact ⟨rfl,_,HM.out.set1 HR.out.2 (by have:=HB0.out;omega) _,HT.out.set1 (by omega) _⟩)
 ·(have y1:=za HR.out.1;have y0:=za HC.out.1;have p0:∀ o,(w2.setB (w.heap.size + 1) o).cell? ⟨w.heap.size,0,none⟩ = some _:=fun o=>(zd (i:=0) (HC.out.set1 (by omega) o).1).trans rfl;have p3:∀ o,(w2.setB (w.heap.size + 1) o).cell? ⟨w.heap.size,3,none⟩ = some _:=fun o=>(zd (i:=3) (HC.out.set1 (by omega) o).1).trans rfl;have p4:∀ o,(w2.setB (w.heap.size + 1) o).cell? ⟨w.heap.size,4,none⟩ = some _:=fun o=>(zd (i:=4) (HC.out.set1 (by omega) o).1).trans rfl;have p5:∀ o,(w2.setB (w.heap.size + 1) o).cell? ⟨w.heap.size,5,none⟩ = some _:=fun o=>(zd (i:=5) (HC.out.set1 (by omega) o).1).trans rfl;have e1:=zf HR.out.1;rw [<- e1];clear e1)
  (repeat (first|go_skip|go_guarded|go_step|go_upon|go_back))
  rw [zf HR.out.1]
  clear p0 p3 p4 p5 y0 y1
  ((((go_at_call 181;refine (IC.use (zgM _ (by omega) (by omega) _ (by omega) (by omega) _ (by omega) (by omega)) (fun _=>True) (fun _ _=>trivial) (by first|exact HL.out|exact HL.out.last) HM.out).mono ?_));(rintro e w2 ⟨x,m2,fp2,rfl,hx,hm,ht,HL2⟩);(have HM':=Lib.hid hm;have HT':=Lib.hid (HT.out.trans ht);(try (have HC':=Lib.hid (HC.out.step ht);clear HC;have HC:=HC';clear HC'));(try (have HR':=Lib.hid (HR.out.step ht);clear HR;have HR:=HR';clear HR'));clear HM HT hm ht;have HM:=HM';have HT:=HT';clear HM' HT';clear HL;have HL:=Lib.hid HL2;clear HL2;(try simp only []))))
  (have y1:=za HR.out.1;have y0:=za HC.out.1;have p0:∀ o,(w2.setB (w.heap.size + 1) o).cell? ⟨w.heap.size,0,none⟩ = some _:=fun o=>(zd (i:=0) (HC.out.set1 (by omega) o).1).trans rfl;have p3:∀ o,(w2.setB (w.heap.size + 1) o).cell? ⟨w.heap.size,3,none⟩ = some _:=fun o=>(zd (i:=3) (HC.out.set1 (by omega) o).1).trans rfl;have p4:∀ o,(w2.setB (w.heap.size + 1) o).cell? ⟨w.heap.size,4,none⟩ = some _:=fun o=>(zd (i:=4) (HC.out.set1 (by omega) o).1).trans rfl;have p5:∀ o,(w2.setB (w.heap.size + 1) o).cell? ⟨w.heap.size,5,none⟩ = some _:=fun o=>(zd (i:=5) (HC.out.set1 (by omega) o).1).trans rfl;have e1:=zf HR.out.1;rw [<- e1];clear e1)
  ((repeat (first|go_skip|go_guarded|go_step|go_upon|go_back));obtain ⟨rfl,rfl⟩:=HL.out.end;refine bodyPost_ret (by simp [results,Tryz.results114,go_sem,y1];rfl) rfl ?_;exact ⟨rfl,_,HM.out.set1 HR.out.2 (by have:=HB0.out;omega) _,HT.out.set1 (by omega) _⟩)
 ·(have y1:=za HR.out.1;have y0:=za HC.out.1;have p0:∀ o,(w2.setB (w.heap.size + 1) o).cell? ⟨w.heap.size,0,none⟩ = some _:=fun o=>(zd (i:=0) (HC.out.set1 (by omega) o).1).trans rfl;have p3:∀ o,(w2.setB (w.heap.size + 1) o).cell? ⟨w.heap.size,3,none⟩ = some _:=fun o=>(zd (i:=3) (HC.out.set1 (by omega) o).1).trans rfl;have p4:∀ o,(w2.setB (w.heap.size + 1) o).cell? ⟨w.heap.size,4,none⟩ = some _:=fun o=>(zd (i:=4) (HC.out.set1 (by omega) o).1).trans rfl;have p5:∀ o,(w2.setB (w.heap.size + 1) o).cell? ⟨w.heap.size,5,none⟩ = some _:=fun o=>(zd (i:=5) (HC.out.set1 (by omega) o).1).trans rfl;have e1:=zf HR.out.1;rw [<- e1];clear e1)
  (repeat (first|go_skip|go_guarded|go_step|go_upon|go_back))
  rw [zf HR.out.1]
  clear p0 p3 p4 p5 y0 y1
  ((((go_at_call 182;refine (IC.use (zfZ _ (by omega) (by omega) _ (by omega) (by omega) _ (by omega)) (fun _=>True) (fun _ _=>trivial) (by first|exact HL.out|exact HL.out.last) HM.out).mono ?_));(rintro e w2 ⟨x,m2,fp2,rfl,hx,hm,ht,HL2⟩);(have HM':=Lib.hid hm;have HT':=Lib.hid (HT.out.trans ht);(try (have HC':=Lib.hid (HC.out.step ht);clear HC;have HC:=HC';clear HC'));(try (have HR':=Lib.hid (HR.out.step ht);clear HR;have HR:=HR';clear HR'));clear HM HT hm ht;have HM:=HM';have HT:=HT';clear HM' HT';clear HL;have HL:=Lib.hid HL2;clear HL2;(try simp only []))))
  (have y1:=za HR.out.1;have y0:=za HC.out.1;have p0:∀ o,(w2.setB (w.heap.size + 1) o).cell? ⟨w.heap.size,0,none⟩ = some _:=fun o=>(zd (i:=0) (HC.out.set1 (by omega) o).1).trans rfl;have p3:∀ o,(w2.setB (w.heap.size + 1) o).cell? ⟨w.heap.size,3,none⟩ = some _:=fun o=>(zd (i:=3) (HC.out.set1 (by omega) o).1).trans rfl;have p4:∀ o,(w2.setB (w.heap.size + 1) o).cell? ⟨w.heap.size,4,none⟩ = some _:=fun o=>(zd (i:=4) (HC.out.set1 (by omega) o).1).trans rfl;have p5:∀ o,(w2.setB (w.heap.size + 1) o).cell? ⟨w.heap.size,5,none⟩ = some _:=fun o=>(zd (i:=5) (HC.out.set1 (by omega) o).1).trans rfl;have e1:=zf HR.out.1;rw [<- e1];clear e1)
  ((repeat (first|go_skip|go_guarded|go_step|go_upon|go_back));obtain ⟨rfl,rfl⟩:=HL.out.end;refine bodyPost_ret (by simp [results,Tryz.results114,go_sem,y1];rfl) rfl ?_;exact ⟨rfl,_,HM.out.set1 HR.out.2 (by have:=HB0.out;omega) _,HT.out.set1 (by omega) _⟩)
 ·(have y1:=za HR.out.1;have y0:=za HC.out.1;have p0:∀ o,(w2.setB (w.heap.size + 1) o).cell? ⟨w.heap.size,0,none⟩ = some _:=fun o=>(zd (i:=0) (HC.out.set1 (by omega) o).1).trans rfl;have p3:∀ o,(w2.setB (w.heap.size + 1) o).cell? ⟨w.heap.size,3,none⟩ = some _:=fun o=>(zd (i:=3) (HC.out.set1 (by omega) o).1).trans rfl;have p4:∀ o,(w2.setB (w.heap.size + 1) o).cell? ⟨w.heap.size,4,none⟩ = some _:=fun o=>(zd (i:=4) (HC.out.set1 (by omega) o).1).trans rfl;have p5:∀ o,(w2.setB (w.heap.size + 1) o).cell? ⟨w.heap.size,5,none⟩ = some _:=fun o=>(zd (i:=5) (HC.out.set1 (by omega) o).1).trans rfl;have e1:=zf HR.out.1;rw [<- e1];clear e1)
  (repeat (first|go_skip|go_guarded|go_step|go_upon|go_back))
  rw [zf HR.out.1]
  clear p0 p3 p4 p5 y0 y1
  ((((go_at_call 183;refine (IC.use (zhy _ (by omega) (by omega) _ (by omega) (by omega)) (fun _=>True) (fun _ _=>trivial) (by first|exact HL.out|exact HL.out.last) HM.out).mono ?_));(rintro e w2 ⟨x,m2,fp2,rfl,hx,hm,ht,HL2⟩);(have HM':=Lib.hid hm;have HT':=Lib.hid (HT.out.trans ht);(try (have HC':=Lib.hid (HC.out.step ht);clear HC;have HC:=HC';clear HC'));(try (have HR':=Lib.hid (HR.out.step ht);clear HR;have HR:=HR';clear HR'));clear HM HT hm ht;have HM:=HM';have HT:=HT';clear HM' HT';clear HL;have HL:=Lib.hid HL2;clear HL2;(try simp only []))))
  (have y1:=za HR.out.1;have y0:=za HC.out.1;have p0:∀ o,(w2.setB (w.heap.size + 1) o).cell? ⟨w.heap.size,0,none⟩ = some _:=fun o=>(zd (i:=0) (HC.out.set1 (by omega) o).1).trans rfl;have p3:∀ o,(w2.setB (w.heap.size + 1) o).cell? ⟨w.heap.size,3,none⟩ = some _:=fun o=>(zd (i:=3) (HC.out.set1 (by omega) o).1).trans rfl;have p4:∀ o,(w2.setB (w.heap.size + 1) o).cell? ⟨w.heap.size,4,none⟩ = some _:=fun o=>(zd (i:=4) (HC.out.set1 (by omega) o).1).trans rfl;have p5:∀ o,(w2.setB (w.heap.size + 1) o).cell? ⟨w.heap.size,5,none⟩ = some _:=fun o=>(zd (i:=5) (HC.out.set1 (by omega) o).1).trans rfl;have e1:=zf HR.out.1;rw [<- e1];clear e1)
  ((repeat (first|go_skip|go_guarded|go_step|go_upon|go_back));obtain ⟨rfl,rfl⟩:=HL.out.end;refine bodyPost_ret (by simp [results,Tryz.results114,go_sem,y1];rfl) rfl ?_;exact ⟨rfl,_,HM.out.set1 HR.out.2 (by have:=HB0.out;omega) _,HT.out.set1 (by omega) _⟩)
theorem zgO (name:ByteArray) (namez:name.size<=1048576):IC 109 (fun x=>#[x,.string name]) (K.makeName name) (fun p=>.tuple #[.int .i64 p.1,.int .i64 p.2]):=by
 refine zc7 (fun w0 w fp b m res mres HM HT HL=>?_)
 unfold K.makeName at HL
 have hc:¬ 9223372036854775807 < 2 + name.size:=by omega
 rcases zan name with ⟨hn,hz⟩|hn
 all_goals (
  rw [hn] at HL
  have HN:=Lib.hid hn;clear hn)
 all_goals ((repeat' ((rcases HL.out.ite with ⟨hg,HL2⟩|⟨hg,HL2⟩<;>(clear HL;have HL:=Lib.hid HL2;clear HL2;try exact absurd hg (by decide))))))
 all_goals (go_enter Tryz.func109,Tryz.ntmps109;all_goals ((repeat' (first|go_skip|go_guarded|go_step|go_upon|go_back|((first|((first|(go_at_call 172;refine (IC.use (zbF _ (by omega)) (fun a=>0<=a/\a<=999) (fun m _=>zaX _ m) (by first|exact HL.out|exact HL.out.last) HM.out).mono ?_)|(go_at_call 173;refine (IC.use (zfA _) (fun a=>0<=a/\a<=999) (fun m _=>zdt _ m) (by first|exact HL.out|exact HL.out.last) HM.out).mono ?_)|(go_at_call 174;refine (IC.use (zZ _ _ (by omega) (by omega)) (fun _=>True) (fun _ _=>trivial) (by first|exact HL.out|exact HL.out.last) HM.out).mono ?_)|(go_at_call 168;refine (IC.use (zak _) (fun a=>0<=a/\a<=999) (fun m _=>z7 _ m) (by first|exact HL.out|exact HL.out.last) HM.out).mono ?_));(rintro e w2 ⟨x,m2,fp2,rfl,hx,hm,ht,HL2⟩);(replace HM:=Lib.hid hm;replace HT:=Lib.hid (HT.out.trans ht);clear hm ht;clear HL;have HL:=Lib.hid HL2;clear HL2;(try simp only []);(all_goals ((repeat' ((rcases HL.out.ite with ⟨hg,HL2⟩|⟨hg,HL2⟩<;>(clear HL;have HL:=Lib.hid HL2;clear HL2))))))))|((first|(go_at_call 171;refine (zbG _ _ (by omega)).mono ?_)|(go_at_call 175;refine (zbq _ (by omega) _).mono ?_));rintro e w2 ⟨rfl,rfl⟩;(try simp only []);(try rw [HN.out]);(try rw [HP.out]))|((go_at_call 176;refine (zcr _ (by omega) (by omega) _ HM.out.globs).mono ?_);rintro e w2 ⟨rfl,hb⟩;(replace HM:=Lib.hid (HM.out.below hb);replace HT:=Lib.hid (HT.out.trans (IT.below hb));clear hb;(try simp only [])))))|(exfalso;(simp only [bne_eq_false_iff_eq,beq_eq_false_iff_ne,beq_iff_eq,bne_iff_ne] at *);omega)))))
 all_goals (obtain ⟨rfl,rfl⟩:=HL.out.end;((refine bodyPost_ret (by simp [results,Tryz.results109,go_sem];rfl) rfl ?_));exact ⟨rfl,_,HM.out,HT.out⟩)
theorem zgQ (na:ByteArray) (naz:na.size<=1048576) (nb:ByteArray) (nbz:nb.size<=1048576):IC 110 (fun x=>#[x,.string na,.string nb]) (K.linkName na nb) (fun n=>.int .i64 n):=by
 refine zc7 (fun w0 w fp b m res mres HM HT HL=>?_)
 unfold K.linkName at HL
 have hc:¬ 9223372036854775807 < 2 + na.size:=by omega
 have hd:¬ 9223372036854775807 < 2 + nb.size:=by omega
 rcases zan na with ⟨hn,hz⟩|hn
 all_goals (
  rw [hn] at HL
  have HN:=Lib.hid hn;clear hn)
 all_goals rcases zan nb with ⟨hn,hy⟩|hn
 all_goals (
  rw [hn] at HL
  have HP:=Lib.hid hn;clear hn)
 all_goals ((repeat' ((rcases HL.out.ite with ⟨hg,HL2⟩|⟨hg,HL2⟩<;>(clear HL;have HL:=Lib.hid HL2;clear HL2;try exact absurd hg (by decide))))))
 all_goals (go_enter Tryz.func110,Tryz.ntmps110;all_goals ((repeat' (first|go_skip|go_guarded|go_step|go_upon|go_back|((first|((first|(go_at_call 172;refine (IC.use (zbF _ (by omega)) (fun a=>0<=a/\a<=999) (fun m _=>zaX _ m) (by first|exact HL.out|exact HL.out.last) HM.out).mono ?_)|(go_at_call 174;refine (IC.use (zZ _ _ (by omega) (by omega)) (fun _=>True) (fun _ _=>trivial) (by first|exact HL.out|exact HL.out.last) HM.out).mono ?_)|(go_at_call 168;refine (IC.use (zak _) (fun a=>0<=a/\a<=999) (fun m _=>z7 _ m) (by first|exact HL.out|exact HL.out.last) HM.out).mono ?_));(rintro e w2 ⟨x,m2,fp2,rfl,hx,hm,ht,HL2⟩);(replace HM:=Lib.hid hm;replace HT:=Lib.hid (HT.out.trans ht);clear hm ht;clear HL;have HL:=Lib.hid HL2;clear HL2;(try simp only []);(all_goals ((repeat' ((rcases HL.out.ite with ⟨hg,HL2⟩|⟨hg,HL2⟩<;>(clear HL;have HL:=Lib.hid HL2;clear HL2))))))))|((first|(go_at_call 171;refine (zbG _ _ (by omega)).mono ?_)|(go_at_call 175;refine (zbq _ (by omega) _).mono ?_));rintro e w2 ⟨rfl,rfl⟩;(try simp only []);(try rw [HN.out]);(try rw [HP.out]))|((go_at_call 176;refine (zcr _ (by omega) (by omega) _ HM.out.globs).mono ?_);rintro e w2 ⟨rfl,hb⟩;(replace HM:=Lib.hid (HM.out.below hb);replace HT:=Lib.hid (HT.out.trans (IT.below hb));clear hb;(try simp only [])))))|(exfalso;(simp only [bne_eq_false_iff_eq,beq_eq_false_iff_ne,beq_iff_eq,bne_iff_ne] at *);omega)))))
 all_goals (obtain ⟨rfl,rfl⟩:=HL.out.end;((refine bodyPost_ret (by simp [results,Tryz.results110,go_sem];rfl) rfl ?_));exact ⟨rfl,_,HM.out,HT.out⟩)
theorem zcL (name:ByteArray) (namez:name.size<=1048576):IC 111 (fun x=>#[x,.string name]) (K.unlinkName name) (fun n=>.int .i64 n):=by
 refine zc7 (fun w0 w fp b m res mres HM HT HL=>?_)
 unfold K.unlinkName at HL
 have hc:¬ 9223372036854775807 < 2 + name.size:=by omega
 rcases zan name with ⟨hn,hz⟩|hn
 all_goals (
  rw [hn] at HL
  have HN:=Lib.hid hn;clear hn)
 all_goals ((repeat' ((rcases HL.out.ite with ⟨hg,HL2⟩|⟨hg,HL2⟩<;>(clear HL;have HL:=Lib.hid HL2;clear HL2;try exact absurd hg (by decide))))))
 all_goals (go_enter Tryz.func111,Tryz.ntmps111;all_goals ((repeat' (first|go_skip|go_guarded|go_step|go_upon|go_back|((first|((first|(go_at_call 178;refine (IC.use (zfv _) (fun _=>True) (fun _ _=>trivial) (by first|exact HL.out|exact HL.out.last) HM.out).mono ?_)|(go_at_call 177;refine (IC.use (zaB _ _) (fun _=>True) (fun _ _=>trivial) (by first|exact HL.out|exact HL.out.last) HM.out).mono ?_)|(go_at_call 172;refine (IC.use (zbF _ (by omega)) (fun a=>0<=a/\a<=999) (fun m _=>zaX _ m) (by first|exact HL.out|exact HL.out.last) HM.out).mono ?_)|(go_at_call 174;refine (IC.use (zZ _ _ (by omega) (by omega)) (fun _=>True) (fun _ _=>trivial) (by first|exact HL.out|exact HL.out.last) HM.out).mono ?_)|(go_at_call 168;refine (IC.use (zak _) (fun a=>0<=a/\a<=999) (fun m _=>z7 _ m) (by first|exact HL.out|exact HL.out.last) HM.out).mono ?_));(rintro e w2 ⟨x,m2,fp2,rfl,hx,hm,ht,HL2⟩);(replace HM:=Lib.hid hm;replace HT:=Lib.hid (HT.out.trans ht);clear hm ht;clear HL;have HL:=Lib.hid HL2;clear HL2;(try simp only []);(all_goals ((repeat' ((rcases HL.out.ite with ⟨hg,HL2⟩|⟨hg,HL2⟩<;>(clear HL;have HL:=Lib.hid HL2;clear HL2))))))))|((first|(go_at_call 171;refine (zbG _ _ (by omega)).mono ?_)|(go_at_call 175;refine (zbq _ (by omega) _).mono ?_));rintro e w2 ⟨rfl,rfl⟩;(try simp only []);(try rw [HN.out]);(try rw [HP.out]))|((first|(go_at_call 179;refine (zac _ _ _ _ HM.out.globs (by first|omega|decide) (by first|omega|decide) (by omega) (by omega)).mono ?_)|(go_at_call 176;refine (zcr _ (by omega) (by omega) _ HM.out.globs).mono ?_));rintro e w2 ⟨rfl,hb⟩;(replace HM:=Lib.hid (HM.out.below hb);replace HT:=Lib.hid (HT.out.trans (IT.below hb));clear hb;(try simp only [])))))|(exfalso;(simp only [bne_eq_false_iff_eq,beq_eq_false_iff_ne,beq_iff_eq,bne_iff_ne] at *);omega)))))
 all_goals (obtain ⟨rfl,rfl⟩:=HL.out.end;((refine bodyPost_ret (by simp [results,Tryz.results111,go_sem];rfl) rfl ?_));exact ⟨rfl,_,HM.out,HT.out⟩)
theorem zfx (na:ByteArray) (naz:na.size<=1048576) (nb:ByteArray) (nbz:nb.size<=1048576):IC 112 (fun x=>#[x,.string na,.string nb]) (K.renameName na nb) (fun n=>.int .i64 n):=by
 refine zc7 (fun w0 w fp b m res mres HM HT HL=>?_)
 unfold K.renameName at HL
 have hc:¬ 9223372036854775807 < 2 + na.size:=by omega
 have hd:¬ 9223372036854775807 < 2 + nb.size:=by omega
 rcases zan na with ⟨hn,hz⟩|hn
 all_goals (
  rw [hn] at HL
  have HN:=Lib.hid hn;clear hn)
 all_goals rcases zan nb with ⟨hn,hy⟩|hn
 all_goals (
  rw [hn] at HL
  have HP:=Lib.hid hn;clear hn)
 all_goals ((repeat' ((rcases HL.out.ite with ⟨hg,HL2⟩|⟨hg,HL2⟩<;>(clear HL;have HL:=Lib.hid HL2;clear HL2;try exact absurd hg (by decide))))))
 all_goals (go_enter Tryz.func112,Tryz.ntmps112;all_goals ((repeat' (first|go_skip|go_guarded|go_step|go_upon|go_back|((first|((first|(go_at_call 111;refine (IC.use (zcL _ (by omega)) (fun _=>True) (fun _ _=>trivial) (by first|exact HL.out|exact HL.out.last) HM.out).mono ?_)|(go_at_call 177;refine (IC.use (zaB _ _) (fun _=>True) (fun _ _=>trivial) (by first|exact HL.out|exact HL.out.last) HM.out).mono ?_)|(go_at_call 172;refine (IC.use (zbF _ (by omega)) (fun a=>0<=a/\a<=999) (fun m _=>zaX _ m) (by first|exact HL.out|exact HL.out.last) HM.out).mono ?_)|(go_at_call 174;refine (IC.use (zZ _ _ (by omega) (by omega)) (fun _=>True) (fun _ _=>trivial) (by first|exact HL.out|exact HL.out.last) HM.out).mono ?_));(rintro e w2 ⟨x,m2,fp2,rfl,hx,hm,ht,HL2⟩);(replace HM:=Lib.hid hm;replace HT:=Lib.hid (HT.out.trans ht);clear hm ht;clear HL;have HL:=Lib.hid HL2;clear HL2;(try simp only []);(all_goals ((repeat' ((rcases HL.out.ite with ⟨hg,HL2⟩|⟨hg,HL2⟩<;>(clear HL;have HL:=Lib.hid HL2;clear HL2))))))))|((first|(go_at_call 171;refine (zbG _ _ (by omega)).mono ?_)|(go_at_call 175;refine (zbq _ (by omega) _).mono ?_));rintro e w2 ⟨rfl,rfl⟩;(try simp only []);(try rw [HN.out]);(try rw [HP.out]))))|(exfalso;(simp only [bne_eq_false_iff_eq,beq_eq_false_iff_ne,beq_iff_eq,bne_iff_ne] at *);omega)))))
 all_goals (obtain ⟨rfl,rfl⟩:=HL.out.end;((refine bodyPost_ret (by simp [results,Tryz.results112,go_sem];rfl) rfl ?_));exact ⟨rfl,_,HM.out,HT.out⟩)
end Go.Proofs.YtgcmnkkakngifaaGreatDoor
