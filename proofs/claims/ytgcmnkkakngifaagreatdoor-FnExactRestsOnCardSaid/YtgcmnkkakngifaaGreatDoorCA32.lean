/- Texts of this claim, merged: the walks and what they stand on. Each condition stands in its theorem. -/
import Derived.Test.YtgcmnkkakngifaaGreatDoorCA18
import Derived.Test.YtgcmnkkakngifaaGreatDoorCA31
set_option linter.unusedVariables false
set_option linter.unusedSimpArgs false
set_option maxRecDepth 100000
set_option maxHeartbeats 8000000
namespace Go.Proofs.YtgcmnkkakngifaaGreatDoor
open Go.ChangeShapes Go.WideShapes Go.ChangeAt Go.RowKit
theorem zf2 (frm:Int) (frm0 : -9223372036854775808<=frm) (frm1:frm<=9223372036854775807) (to:Int) (to0 : -9223372036854775808<=to) (to1:to<=9223372036854775807):IC 119 (fun x=>#[x,.int .i64 frm,.int .i64 to]) (K.forkPages frm to) (fun _=>.tuple #[]):=by
 refine zc7 (fun w0 w fp b m res mres HM HT HL=>?_)
 have hk1:=zap frm frm0 frm1
 have hk2:=zap to to0 to1
 unfold K.forkPages at HL
 go_enter Tryz.func119,Tryz.ntmps119
 (repeat (first|go_skip|go_guarded|go_step|go_upon|go_back))
 ((((go_at_call 188;refine (zbe _ (by omega) (by omega) _ HM.out.globs).mono ?_);rintro e w2 ⟨rfl,hb⟩;(replace HM:=Lib.hid (HM.out.below hb);replace HT:=Lib.hid (HT.out.trans (IT.below hb));clear hb;(try simp only [])))))
 (repeat (first|go_skip|go_guarded|go_step|go_upon|go_back))
 (go_at_call 180;refine (zcz (by first|exact HL.out|exact HL.out.last) HM.out).mono ?_;rintro e w2 ⟨al,nl,ks,m2,fp2,rfl,hks,hm,ht,hkl,HL2⟩;have HK:=Lib.hid (zc5 hkl HT.out.up.size);have HM':=Lib.hid hm;have HT':=Lib.hid (HT.out.trans ht);clear HM HT hm ht hkl;have HM:=HM';have HT:=HT';clear HM' HT';clear HL;have HL:=Lib.hid HL2;clear HL2;(try simp only []))
 (repeat (first|go_skip|go_guarded|go_step|go_upon|go_back))
 go_loopw [7,13] (fun _ k wr=>∃ (n:Nat) (m1:MachD) (fp1:List Nat),k = .int .i64 n/\n<=ks.length/\IM w0 wr b fp1 m1/\IT w fp wr fp1/\KL zx 9 wr w.heap.size fp1 (.slice al ks.length nl) ks/\Lft (Mp.each (K.forkOne frm to) (ks.drop n)) m1 (res,mres)) (fun _ k _=>ks.length - (intOf k).toNat)
 case atStart=>exact ⟨0,_,_,rfl,Nat.zero_le _,HM.out,HT.out,HK.out,HL.out⟩
 case round =>
  clear HL HM HT HK
  obtain ⟨n,m1,fp1,rfl,hn,hm,ht,hkk,hl⟩:=hrel
  have HM:=Lib.hid hm
  have HT:=Lib.hid ht
  have HK:=Lib.hid hkk
  clear hm ht hkk
  have hkl:=hks.1
  by_cases hlt:(n:Int) < ks.length
  case pos =>
   have hk:n < ks.length:=by omega
   have hl2:=hl.each_at hk
   clear hl
   obtain ⟨b',off,rfl,hbl,y0⟩:=HK.out.at_ hk
   have hkz:=hks.2.1 _ (List.getElem_mem hk)
   have hky:=hks.2.2 _ (List.getElem_mem hk)
   generalize ks[n]=key at y0 hkz hky hl2
   have hl2:Lft (K.look key >>= fun v=>K.lay (K.pagesKey to ++ key.extract (K.pagesKey frm).size key.size) v >>= fun _=>Mp.each (K.forkOne frm to) (ks.drop (n + 1))) m1 (res,mres):=by
    rw [<- zaa]
    exact hl2
   have HL:=Lib.hid hl2
   clear hl2
   have hze:(key.extract (K.pagesKey frm).size key.size).size<=1048576:=by rw [ByteArray.size_extract];omega
   have hcc:¬ 9223372036854775807 < (K.pagesKey to).size + (key.extract (K.pagesKey frm).size key.size).size:=by omega
   have hcc2:¬ 9223372036854775807 < (K.pagesKey to).size + (key.size - (K.pagesKey frm).size):=by omega
   have hky2:((K.pagesKey frm).size:Int)<=key.size:=by omega
   (repeat (first|go_skip|go_guarded|go_step|go_upon|go_back))
   clear y0
   (refine za9 (fun W:World=>W) (id:=3) [(0,true),(1,true),(3,true),(4,true),(9,true),(10,true),(2,false),(5,false),(6,true),(7,true),(8,true),(11,false),(12,false)] 13 (by kernel_rfl) (by kernel_rfl) ⟨_,rfl⟩ ?_;have HM':=Lib.hid (HM.out.below (Below.drew (Below.refl _ _)));have HT':=Lib.hid (HT.out.trans (IT.below (Below.drew (Below.refl _ _))));(try (have HK':=Lib.hid (HK.out.below (Below.drew (Below.refl _ _)));clear HK;have HK:=HK';clear HK'));clear HM HT;have HM:=HM';have HT:=HT';clear HM' HT';(repeat (first|(refine zl rfl (fun K hK=>?_);go_simp;refine hK _ ?_;clear hK K)|(refine zt rfl (fun K hK=>?_);go_simp;(first|((go_at_call 188;refine (zbe _ (by omega) (by omega) _ HM.out.globs).mono ?_);rintro e w2 ⟨rfl,hb⟩;(have HM':=Lib.hid (HM.out.below hb);have HT':=Lib.hid (HT.out.trans (IT.below hb));(try (have HK':=Lib.hid (HK.out.below hb);clear HK;have HK:=HK';clear HK'));clear HM HT hb;have HM:=HM';have HT:=HT';clear HM' HT';(try simp only [])))|((first|(go_at_call 177;refine (IC.use (zaB _ _) (fun _=>True) (fun _ _=>trivial) (by first|exact HL.out|exact HL.out.last) HM.out).mono ?_)|(go_at_call 189;refine (IC.use (zdS _) (fun a=>a.size<=1048576) (fun m h=>zaD h.1 _) (by first|exact HL.out|exact HL.out.last) HM.out).mono ?_));rintro e w2 ⟨x,m2,fp2,rfl,hx,hm,ht,HL2⟩;(have HM':=Lib.hid hm;have HT':=Lib.hid (HT.out.trans ht);(try (have HK':=Lib.hid (HK.out.step ht);clear HK;have HK:=HK';clear HK'));clear HM HT hm ht;have HM:=HM';have HT:=HT';clear HM' HT';clear HL;have HL:=Lib.hid HL2;clear HL2;(try simp only []))));(try go_simp);refine hK _ _ ⟨_,rfl⟩ ?_;clear hK K)));refine zae ?_)
   (repeat (first|go_skip|go_guarded|go_step|go_upon|go_back))
   go_roundw
   case rel=>exact ⟨n + 1,_,_,by go_num,by omega,HM.out,HT.out,HK.out,HL.out⟩
   case measure=>simp [intOf];omega
  case neg =>
   have HL:=Lib.hid (hl.each_end (by omega))
   (repeat (first|go_skip|go_guarded|go_step|go_upon|go_back))
   all_goals (obtain ⟨rfl,rfl⟩:=HL.out.end;((refine bodyPost_end (by simp [results,Tryz.results119,go_sem];rfl) rfl ?_));exact ⟨rfl,_,HM.out,HT.out⟩)
theorem zhy (id:Int) (id0 : -9223372036854775808<=id) (id1:id<=9223372036854775807) (n:Int) (n0 : -9223372036854775808<=n) (n1:n<=9223372036854775807):IC 183 (fun x=>#[x,.int .i64 id,.int .i64 n]) (K.cutFile id n) (fun r=>.int .i64 r):=by
 refine zc7 (fun w0 w fp b m res mres HM HT HL=>?_)
 unfold K.cutFile at HL
 go_enter Tryz.func183,Tryz.ntmps183
 (try simp only [])
 ((repeat' (first|go_skip|go_guarded|go_step|go_upon|go_back|((first|((first|(go_at_call 238;refine (IC.use (zeo _ (by omega) (by omega) _ (by omega) (by omega)) (fun a=>a.size<=20000) (fun m _=>zbg _) (by first|exact HL.out|exact HL.out.last) HM.out).mono ?_)|(go_at_call 168;refine (IC.use (zak _) (fun a=>0<=a/\a<=999) (fun m _=>z7 _ m) (by first|exact HL.out|exact HL.out.last) HM.out).mono ?_));(rintro e w2 ⟨x,m2,fp2,rfl,hx,hm,ht,HL2⟩);(replace HM:=Lib.hid hm;replace HT:=Lib.hid (HT.out.trans ht);clear hm ht;clear HL;have HL:=Lib.hid HL2;clear HL2;(try simp only []);(all_goals ((repeat' ((rcases HL.out.ite with ⟨hg,HL2⟩|⟨hg,HL2⟩<;>(clear HL;have HL:=Lib.hid HL2;clear HL2))))))))|((go_at_call 170;refine (zab _ _ _ _).mono ?_);rintro e w2 ⟨rfl,rfl⟩;(try simp only []);(try rw [HN.out]);(try rw [HP.out]);(try simp (disch:=omega) only [zaw,zaS]))|(((go_at_call 237;refine (za8 _ (by omega) (by omega) _ HM.out.globs).mono ?_));rintro e w2 ⟨rfl,hb⟩;(replace HM:=Lib.hid (HM.out.below hb);replace HT:=Lib.hid (HT.out.trans (IT.below hb));clear hb;(try simp only [])))))|(exfalso;(simp only [bne_eq_false_iff_eq,beq_eq_false_iff_ne,beq_iff_eq,bne_iff_ne] at *);omega))))
 all_goals first
  | (obtain ⟨rfl,rfl⟩:=HL.out.end;refine bodyPost_ret (by simp [results,Tryz.results183,go_sem];rfl) rfl ?_;exact ⟨rfl,_,HM.out,HT.out⟩)
  | skip
 ·obtain ⟨q,hq⟩ : ∃ q:Nat,q=min (n % 8).toNat x.size:=⟨_,rfl⟩
  have hl1:=HL.out
  rw [<- hq] at hl1
  clear HL
  have HL:=Lib.hid hl1
  clear hl1
  have hmin:min (n % 8) (x.size:Int)=(q:Int):=by omega
  have hq1:(q:Int)<=x.size:=by omega
  have hq3:(x.extract 0 q).size<=1048576:=by rw [ByteArray.size_extract];omega
  clear hq
  (refine za9 (fun W:World=>W) (id:=7) [(0,true),(1,true),(2,true),(4,true),(5,true),(6,true),(7,true),(8,true),(9,true),(10,true),(3,false),(11,false),(12,false)] 13 (by kernel_rfl) (by kernel_rfl) ⟨_,rfl⟩ ?_;have HM':=Lib.hid (HM.out.below (Below.drew (Below.refl _ _)));have HT':=Lib.hid (HT.out.trans (IT.below (Below.drew (Below.refl _ _))));clear HM HT;have HM:=HM';have HT:=HT';clear HM' HT';(repeat (first|(refine zl rfl (fun K hK=>?_);go_simp;(try simp (disch:=omega) only [IntWalk.i64_in,Int.tmod_eq_emod_of_nonneg,Int.tdiv_eq_ediv_of_nonneg]);refine hK _ ?_;clear hK K)|(refine zt rfl (fun K hK=>?_);go_simp;(first|((first|(go_at_call 186;refine (zcc _ _ (by omega)).mono ?_)|(go_at_call 239;refine (zbf _ _ (by omega) (by omega) (by omega) (by omega) _ HM.out.globs).mono ?_));rintro e w2 ⟨rfl,hb⟩;(replace HM:=Lib.hid (HM.out.below hb);replace HT:=Lib.hid (HT.out.trans (IT.below hb));clear hb;(try simp only [])))|(((go_at_call 177;refine (IC.use (zaB _ _) (fun _=>True) (fun _ _=>trivial) (by first|exact HL.out|exact HL.out.last) HM.out).mono ?_));rintro e w2 ⟨x,m2,fp2,rfl,hx,hm,ht,HL2⟩;(replace HM:=Lib.hid hm;replace HT:=Lib.hid (HT.out.trans ht);clear hm ht;clear HL;have HL:=Lib.hid HL2;clear HL2;(try simp only []))));(try go_simp);refine hK _ _ ⟨_,rfl⟩ ?_;clear hK K)));refine zae ?_)
  (repeat (first|go_skip|go_guarded|go_step|go_upon|go_back))
  rename Int=>sz
  have hs0:n / 8 + 1=((((n / 8).toNat + 1:Nat)):Int):=by omega
  rw [hs0]
  clear hs0
  have hsb:(n / 8).toNat + 1<=200:=by omega
  generalize (n / 8).toNat + 1=s at HL hsb ⊢
  generalize hcd:(sz.toNat + 7) / 8 - s=cnt at HL
  have hlen:(List.range' s cnt).length=cnt:=List.length_range'
  go_loopw [8] (fun k wr=>∃ (i:Nat) (m1:MachD) (fp1:List Nat),k = .int .i64 ((s + i:Nat):Int)/\i<=cnt/\IM w0 wr b fp1 m1/\IT w fp wr fp1/\Lft (Mp.each (fun p:Nat=>K.lay (K.blockKey id (p:Int)) ⟨#[]⟩) ((List.range' s cnt).drop i) >>= fun _=>K.setNum (K.sizeKey id) n >>= fun _=>pure (0:Int)) m1 (res,mres)) (fun k _=>cnt - ((intOf k).toNat - s))
  case atStart=>exact ⟨0,_,_,rfl,Nat.zero_le _,HM.out,HT.out,HL.out⟩
  case round =>
   clear HL HM HT
   obtain ⟨i,m1,fp1,rfl,hi,hm,ht,hl⟩:=hrel
   have HM:=Lib.hid hm
   have HT:=Lib.hid ht
   clear hm ht
   by_cases hlt:i < cnt
   case pos =>
    have hl2:=hl.eachB_at (by rw [hlen];exact hlt)
    rw [List.getElem_range',Nat.one_mul] at hl2
    have HL:=Lib.hid hl2
    clear hl hl2
    have hpl:((s + i:Nat):Int) * 8 < sz:=by omega
    have hpb:((s + i:Nat):Int)<=400:=by omega
    generalize hpp:s + i=pl at HL hpl hpb ⊢
    (repeat (first|go_skip|go_guarded|go_step|go_upon|go_back))
    (((((go_at_call 239;refine (zbf _ _ (by omega) (by omega) (by omega) (by omega) _ HM.out.globs).mono ?_));rintro e w2 ⟨rfl,hb⟩;(replace HM:=Lib.hid (HM.out.below hb);replace HT:=Lib.hid (HT.out.trans (IT.below hb));clear hb;(try simp only [])))))
    (repeat (first|go_skip|go_guarded|go_step|go_upon|go_back))
    (((((go_at_call 177;refine (IC.use (zaB _ _) (fun _=>True) (fun _ _=>trivial) (by first|exact HL.out|exact HL.out.last) HM.out).mono ?_));(rintro e w2 ⟨x,m2,fp2,rfl,hx,hm,ht,HL2⟩);(replace HM:=Lib.hid hm;replace HT:=Lib.hid (HT.out.trans ht);clear hm ht;clear HL;have HL:=Lib.hid HL2;clear HL2;(try simp only [])))))
    (repeat (first|go_skip|go_guarded|go_step|go_upon|go_back))
    go_roundw
    case rel=>exact ⟨i + 1,_,_,by (have:s + (i + 1)=pl + 1:=by omega);rw [this];go_num,by omega,HM.out,HT.out,HL.out⟩
    case measure=>simp [intOf];omega
   case neg =>
    have HL:=Lib.hid (hl.eachB_end (by rw [hlen];omega))
    clear hl
    have hpl:¬ ((s + i:Nat):Int) * 8 < sz:=by omega
    have hpb:((s + i:Nat):Int)<=400:=by omega
    generalize hpp:s + i=pl at HL hpl hpb ⊢
    (repeat (first|go_skip|go_guarded|go_step|go_upon|go_back))
    (((((go_at_call 237;refine (za8 _ (by omega) (by omega) _ HM.out.globs).mono ?_));rintro e w2 ⟨rfl,hb⟩;(replace HM:=Lib.hid (HM.out.below hb);replace HT:=Lib.hid (HT.out.trans (IT.below hb));clear hb;(try simp only [])))))
    (repeat (first|go_skip|go_guarded|go_step|go_upon|go_back))
    (((((go_at_call 174;refine (IC.use (zZ _ _ (by omega) (by omega)) (fun _=>True) (fun _ _=>trivial) (by first|exact HL.out|exact HL.out.last) HM.out).mono ?_));(rintro e w2 ⟨x,m2,fp2,rfl,hx,hm,ht,HL2⟩);(replace HM:=Lib.hid hm;replace HT:=Lib.hid (HT.out.trans ht);clear hm ht;clear HL;have HL:=Lib.hid HL2;clear HL2;(try simp only [])))))
    (repeat (first|go_skip|go_guarded|go_step|go_upon|go_back))
    all_goals (obtain ⟨rfl,rfl⟩:=HL.out.end;((refine bodyPost_ret (by simp [results,Tryz.results183,go_sem];rfl) rfl ?_));exact ⟨rfl,_,HM.out,HT.out⟩)
 ·skip
  rename Int=>sz
  have hs0:n / 8=((((n / 8).toNat:Nat)):Int):=by omega
  rw [hs0]
  clear hs0
  have hsb:(n / 8).toNat<=200:=by omega
  generalize (n / 8).toNat=s at HL hsb ⊢
  generalize hcd:(sz.toNat + 7) / 8 - s=cnt at HL
  have hlen:(List.range' s cnt).length=cnt:=List.length_range'
  go_loopw [8] (fun k wr=>∃ (i:Nat) (m1:MachD) (fp1:List Nat),k = .int .i64 ((s + i:Nat):Int)/\i<=cnt/\IM w0 wr b fp1 m1/\IT w fp wr fp1/\Lft (Mp.each (fun p:Nat=>K.lay (K.blockKey id (p:Int)) ⟨#[]⟩) ((List.range' s cnt).drop i) >>= fun _=>K.setNum (K.sizeKey id) n >>= fun _=>pure (0:Int)) m1 (res,mres)) (fun k _=>cnt - ((intOf k).toNat - s))
  case atStart=>exact ⟨0,_,_,rfl,Nat.zero_le _,HM.out,HT.out,HL.out⟩
  case round =>
   clear HL HM HT
   obtain ⟨i,m1,fp1,rfl,hi,hm,ht,hl⟩:=hrel
   have HM:=Lib.hid hm
   have HT:=Lib.hid ht
   clear hm ht
   by_cases hlt:i < cnt
   case pos =>
    have hl2:=hl.eachB_at (by rw [hlen];exact hlt)
    rw [List.getElem_range',Nat.one_mul] at hl2
    have HL:=Lib.hid hl2
    clear hl hl2
    have hpl:((s + i:Nat):Int) * 8 < sz:=by omega
    have hpb:((s + i:Nat):Int)<=400:=by omega
    generalize hpp:s + i=pl at HL hpl hpb ⊢
    (repeat (first|go_skip|go_guarded|go_step|go_upon|go_back))
    (((((go_at_call 239;refine (zbf _ _ (by omega) (by omega) (by omega) (by omega) _ HM.out.globs).mono ?_));rintro e w2 ⟨rfl,hb⟩;(replace HM:=Lib.hid (HM.out.below hb);replace HT:=Lib.hid (HT.out.trans (IT.below hb));clear hb;(try simp only [])))))
    (repeat (first|go_skip|go_guarded|go_step|go_upon|go_back))
    (((((go_at_call 177;refine (IC.use (zaB _ _) (fun _=>True) (fun _ _=>trivial) (by first|exact HL.out|exact HL.out.last) HM.out).mono ?_));(rintro e w2 ⟨x,m2,fp2,rfl,hx,hm,ht,HL2⟩);(replace HM:=Lib.hid hm;replace HT:=Lib.hid (HT.out.trans ht);clear hm ht;clear HL;have HL:=Lib.hid HL2;clear HL2;(try simp only [])))))
    (repeat (first|go_skip|go_guarded|go_step|go_upon|go_back))
    go_roundw
    case rel=>exact ⟨i + 1,_,_,by (have:s + (i + 1)=pl + 1:=by omega);rw [this];go_num,by omega,HM.out,HT.out,HL.out⟩
    case measure=>simp [intOf];omega
   case neg =>
    have HL:=Lib.hid (hl.eachB_end (by rw [hlen];omega))
    clear hl
    have hpl:¬ ((s + i:Nat):Int) * 8 < sz:=by omega
    have hpb:((s + i:Nat):Int)<=400:=by omega
    generalize hpp:s + i=pl at HL hpl hpb ⊢
    (repeat (first|go_skip|go_guarded|go_step|go_upon|go_back))
    (((((go_at_call 237;refine (za8 _ (by omega) (by omega) _ HM.out.globs).mono ?_));rintro e w2 ⟨rfl,hb⟩;(replace HM:=Lib.hid (HM.out.below hb);replace HT:=Lib.hid (HT.out.trans (IT.below hb));clear hb;(try simp only [])))))
    (repeat (first|go_skip|go_guarded|go_step|go_upon|go_back))
    (((((go_at_call 174;refine (IC.use (zZ _ _ (by omega) (by omega)) (fun _=>True) (fun _ _=>trivial) (by first|exact HL.out|exact HL.out.last) HM.out).mono ?_));(rintro e w2 ⟨x,m2,fp2,rfl,hx,hm,ht,HL2⟩);(replace HM:=Lib.hid hm;replace HT:=Lib.hid (HT.out.trans ht);clear hm ht;clear HL;have HL:=Lib.hid HL2;clear HL2;(try simp only [])))))
    (repeat (first|go_skip|go_guarded|go_step|go_upon|go_back))
    all_goals (obtain ⟨rfl,rfl⟩:=HL.out.end;((refine bodyPost_ret (by simp [results,Tryz.results183,go_sem];rfl) rfl ?_));exact ⟨rfl,_,HM.out,HT.out⟩)
theorem zgM (id:Int) (id0 : -9223372036854775808<=id) (id1:id<=9223372036854775807) (a:Int) (aa0 : -9223372036854775808<=a) (aa1:a<=9223372036854775807) (n:Int) (n0 : -9223372036854775808<=n) (n1:n<=9223372036854775807):IC 181 (fun x=>#[x,.int .i64 id,.int .i64 a,.int .i64 n]) (K.readFile id a n) (fun t=>.string t):=by
 refine zc7 (fun w0 w fp mb m res mres HM HT HL=>?_)
 unfold K.readFile at HL
 go_enter Tryz.func181,Tryz.ntmps181
 (try simp only [])
 (repeat (first|go_skip|go_guarded|go_step|go_upon|go_back))
 ((((go_at_call 237;refine (za8 _ (by omega) (by omega) _ HM.out.globs).mono ?_);rintro e w2 ⟨rfl,hb⟩;(replace HM:=Lib.hid (HM.out.below hb);replace HT:=Lib.hid (HT.out.trans (IT.below hb));clear hb;(try simp only [])))))
 (repeat (first|go_skip|go_guarded|go_step|go_upon|go_back))
 (((((go_at_call 168;refine (IC.use (zak _) (fun a=>0<=a/\a<=999) (fun m _=>z7 _ m) (by first|exact HL.out|exact HL.out.last) HM.out).mono ?_));(rintro e w2 ⟨x,m2,fp2,rfl,hx,hm,ht,HL2⟩);(replace HM:=Lib.hid hm;replace HT:=Lib.hid (HT.out.trans ht);clear hm ht;clear HL;have HL:=Lib.hid HL2;clear HL2;(try simp only []);(all_goals ((repeat' ((rcases HL.out.ite with ⟨hg,HL2⟩|⟨hg,HL2⟩<;>(clear HL;have HL:=Lib.hid HL2;clear HL2;try first|(have hgz : _ ∨ _:=hg;clear hg;rcases hgz with hg|hg<;>(skip))|(have hgz:=not_or.1 hg;clear hg;obtain ⟨hg,hgo⟩:=hgz;try replace hgo:=Decidable.not_not.1 hgo)))))))))))
 all_goals (repeat' (first|go_skip|go_guarded|go_step|go_upon|go_back))
 all_goals first
  | (obtain ⟨rfl,rfl⟩:=HL.out.end;refine bodyPost_ret (by simp [results,Tryz.results181,go_sem];rfl) rfl ?_;exact ⟨rfl,_,HM.out,HT.out⟩)
  | skip
 obtain ⟨hgn,hgs⟩:=not_or.1 hgo
 clear hgo
 rename Int=>sz
 have ha : 0<=a:=by omega
 obtain ⟨na,rfl⟩:=Int.eq_ofNat_of_zero_le ha
 rw [Int.toNat_natCast] at HL
 have hbz:(((na:Int) + min n (sz - na)).toNat:Int)=na + min n (sz - na):=by omega
 generalize (((na:Int) + min n (sz - na)).toNat)=b at HL hbz
 rw [<- hbz]
 have hbs:(b:Int)<=999/\(na:Int) < b:=by omega
 generalize min n (sz - (na:Int))=mn
 clear hbz
 unfold K.places at HL
 generalize hcd:(b + 7) / 8 - na / 8=cnt at HL
 have hlen:(List.range' (na / 8) cnt).length=cnt:=List.length_range'
 generalize decide (n < 1)=bb1
 generalize decide (sz<=(na:Int))=bb2
 generalize (bb1 || bb2)=bb4
 go_loopw [11,12,13,14,15] (fun o k _ _ _ wr=>∃ (i:Nat) (out:ByteArray) (m1:MachD) (fp1:List Nat),k = .int .i64 ((na / 8 + i:Nat):Int)/\i<=cnt/\out.size<=8 * i/\o = .string out/\IM w0 wr mb fp1 m1/\IT w fp wr fp1/\Lft (Mp.fold (K.readBlock id na b) out ((List.range' (na / 8) cnt).drop i) >>= pure) m1 (res,mres)) (fun _ k _ _ _ _=>cnt - ((intOf k).toNat - na / 8))
 case atStart=>exact ⟨0,⟨#[]⟩,_,_,rfl,Nat.zero_le _,Nat.le_refl _,rfl,HM.out,HT.out,HL.out.last⟩
 case round =>
  clear HL HM HT
  obtain ⟨i,out,m1,fp1,rfl,hi,hos,rfl,hm,ht,hl⟩:=hrel
  have HM:=Lib.hid hm
  have HT:=Lib.hid ht
  clear hm ht
  by_cases hlt:i < cnt
  case neg =>
   have HL:=Lib.hid (Lft.fold_end (κ:=pure) (by rw [hlen];omega) hl)
   clear hl
   have hpl:¬ ((na / 8 + i:Nat):Int) * 8 < (b:Int):=by omega
   have hpb:((na / 8 + i:Nat):Int)<=400:=by omega
   generalize hpp:na / 8 + i=pl at hpl hpb ⊢
   (repeat (first|go_skip|go_guarded|go_step|go_upon|go_back))
   all_goals (obtain ⟨rfl,rfl⟩:=HL.out.end;((refine bodyPost_ret (by simp [results,Tryz.results181,go_sem];rfl) rfl ?_));exact ⟨rfl,_,HM.out,HT.out⟩)
  case pos =>
   have hl2:=Lft.fold_at (κ:=pure) (by rw [hlen];exact hlt) hl
   rw [List.getElem_range',Nat.one_mul] at hl2
   unfold K.readBlock at hl2
   rw [zaa] at hl2
   have HL:=Lib.hid hl2
   clear hl hl2
   have hpl:((na / 8 + i:Nat):Int) * 8 < (b:Int):=by omega
   have hpb:((na / 8 + i:Nat):Int)<=400:=by omega
   have hpm:cnt - (((na / 8 + i:Nat) + 1) - na / 8) < cnt - ((na / 8 + i:Nat) - na / 8):=by omega
   have hpn:na / 8 + (i + 1)=na / 8 + i + 1:=by omega
   generalize hpp:na / 8 + i=pl at HL hpl hpb hpm hpn ⊢
   (repeat (first|go_skip|go_guarded|go_step|go_upon|go_back))
   (((((go_at_call 238;refine (IC.use (zeo _ (by omega) (by omega) _ (by omega) (by omega)) (fun a=>a.size<=20000) (fun m _=>zbg _) (by first|exact HL.out|exact HL.out.last) HM.out).mono ?_));(rintro e w2 ⟨x,m2,fp2,rfl,hx,hm,ht,HL2⟩);(have HM':=Lib.hid hm;have HT':=Lib.hid (HT.out.trans ht);clear HM HT hm ht;have HM:=HM';have HT:=HT';clear HM' HT';(try dsimp only at HL2);clear HL;have HL:=Lib.hid HL2;clear HL2;(try simp only [])))))
   have hoR:=HL.out
   obtain ⟨lo,hlo⟩ : ∃ lo:Nat,lo=na - pl * 8:=⟨_,rfl⟩
   obtain ⟨hh,hhi⟩ : ∃ hh:Nat,hh=min (b - pl * 8) (min 8 x.size):=⟨_,rfl⟩
   rw [<- hlo,<- hhi] at hoR
   clear HL
   have HL:=Lib.hid hoR
   clear hoR
   have f1:max ((na:Int) - (pl:Int) * 8) 0=(lo:Int):=by omega
   have f2:min (min ((b:Int) - (pl:Int) * 8) 8) (x.size:Int)=(hh:Int):=by omega
   have f3:min ((b:Int) - (pl:Int) * 8) (min 8 (x.size:Int))=(hh:Int):=by omega
   have f6:(if (x.size:Int) < (if (8:Int) < (b:Int) - (pl:Int) * 8 then 8 else (b:Int) - (pl:Int) * 8) then (x.size:Int) else (if (8:Int) < (b:Int) - (pl:Int) * 8 then 8 else (b:Int) - (pl:Int) * 8))=(hh:Int):=by
    repeat' split
    all_goals omega
   have f4:hh<=x.size:=by omega
   have f5:(hh:Int)<=x.size:=by omega
   have hos2:=zjp (s:=x) (lo:=lo) (n:=8 * i) hos (show hh<=8 by omega)
   clear hlo hhi
   by_cases hlh:lo < hh
   case pos =>
    have g1:(lo:Int) < hh:=by omega
    have g2:(lo:Int)<=hh:=by omega
    have g3:(x.extract lo hh).size=hh - lo:=by rw [ByteArray.size_extract];omega
    have g4:¬ 9223372036854775807 < (out.size:Int) + (x.extract lo hh).size:=by omega
    have g5:¬ 9223372036854775807 < out.size + (hh - lo):=by omega
    have hoR:=HL.out
    rw [if_pos hlh] at hoR
    rw [if_pos hlh] at hos2
    clear HL
    have HL:=Lib.hid hoR
    clear hoR
    (repeat (first|go_skip|go_guarded|go_step|go_upon|go_back))
    go_roundw
    case rel=>exact ⟨i + 1,_,_,_,by rw [hpn];go_num,by omega,by omega,rfl,HM.out,HT.out,HL.out⟩
    case measure=>simp [intOf];omega
   case neg =>
    have g1:¬ (lo:Int) < hh:=by omega
    have hoR:=HL.out
    rw [if_neg hlh] at hoR
    rw [if_neg hlh] at hos2
    clear HL
    have HL:=Lib.hid hoR
    clear hoR
    (repeat (first|go_skip|go_guarded|go_step|go_upon|go_back))
    go_roundw
    case rel=>exact ⟨i + 1,_,_,_,by rw [hpn];go_num,by omega,by omega,rfl,HM.out,HT.out,HL.out⟩
    case measure=>simp [intOf];omega
end Go.Proofs.YtgcmnkkakngifaaGreatDoor
