/- Texts of this claim, merged: the walks and what they stand on. Each condition stands in its theorem. -/
import Derived.Test.YtpnoehpmgflibaaGreatDoorCA20
import Derived.Test.YtpnoehpmgflibaaGreatDoorCA34
set_option linter.unusedVariables false
set_option linter.unusedSimpArgs false
set_option maxRecDepth 100000
set_option maxHeartbeats 8000000
namespace Go.Proofs.YtpnoehpmgflibaaGreatDoor
open Go.ChangeShapes Go.WideShapes Go.ChangeAt Go.RowKit
theorem zjm (id:Int) (id0 : -9223372036854775808<=id) (id1:id<=9223372036854775807) (n:Int) (n0 : -9223372036854775808<=n) (n1:n<=9223372036854775807):IC 153 (fun x=>#[x,.int .i64 id,.int .i64 n]) (K.cutFile id n) (fun r=>.int .i64 r):=by
 refine zdT (fun w0 w fp b m res mres HM HT HL=>?_)
 unfold K.cutFile at HL
 go_enter Tryz.func153,Tryz.ntmps153
 (try simp only [])
 ((repeat' (first|go_skip|go_guarded|go_step|go_upon|go_back|((first|((first|(go_at_call 209;refine (IC.use (zfs _ (by omega) (by omega) _ (by omega) (by omega)) (fun a=>a.size<=20000) (fun m _=>zbL _) (by first|exact HL.out|exact HL.out.last) HM.out).mono ?_)|(go_at_call 138;refine (IC.use (zav _) (fun a=>0<=a/\a<=999) (fun m _=>zac _ m) (by first|exact HL.out|exact HL.out.last) HM.out).mono ?_));(rintro e w2 ⟨x,m2,fp2,rfl,hx,hm,ht,HL2⟩);(replace HM:=Hd hm;replace HT:=Hd (HT.out.trans ht);clear hm ht;clear HL;have HL:=Hd HL2;clear HL2;(try simp only []);(all_goals ((repeat' ((rcases HL.out.ite with ⟨hg,HL2⟩|⟨hg,HL2⟩<;>(clear HL;have HL:=Hd HL2;clear HL2))))))))|((go_at_call 140;refine (zag _ _ _ _).mono ?_);rintro e w2 ⟨rfl,rfl⟩;(try simp only []);(try rw [HN.out]);(try rw [HP.out]);(try simp (disch:=omega) only [zaP,zbb]))|(((go_at_call 208;refine (zbv _ (by omega) (by omega) _ HM.out.globs).mono ?_));rintro e w2 ⟨rfl,hb⟩;(replace HM:=Hd (HM.out.below hb);replace HT:=Hd (HT.out.trans (IT.below hb));clear hb;(try simp only [])))))|(exfalso;(simp only [bne_eq_false_iff_eq,beq_eq_false_iff_ne,beq_iff_eq,bne_iff_ne] at *);omega))))
 all_goals first
  | (obtain ⟨rfl,rfl⟩:=HL.out.end;refine bodyPost_ret (by simp [results,Tryz.results153,go_sem];rfl) rfl ?_;exact ⟨rfl,_,HM.out,HT.out⟩)
  | skip
 ·obtain ⟨q,hq⟩ : ∃ q:Nat,q=min (n % 8).toNat x.size:=⟨_,rfl⟩
  have hl1:=HL.out
  rw [<- hq] at hl1
  clear HL
  have HL:=Hd hl1
  clear hl1
  have hmin:min (n % 8) (x.size:Int)=(q:Int):=by omega
  have hq1:(q:Int)<=x.size:=by omega
  have hq3:(x.extract 0 q).size<=1048576:=by rw [ByteArray.size_extract];omega
  clear hq
  (refine zbz (fun W:World=>W) (id:=7) [(0,true),(1,true),(2,true),(4,true),(5,true),(6,true),(7,true),(8,true),(9,true),(10,true),(3,false),(11,false),(12,false)] 13 (by kernel_rfl) (by kernel_rfl) ⟨_,rfl⟩ ?_;have HM':=Hd (HM.out.below (Below.drew (Below.refl _ _)));have HT':=Hd (HT.out.trans (IT.below (Below.drew (Below.refl _ _))));clear HM HT;have HM:=HM';have HT:=HT';clear HM' HT';(repeat (first|(refine zk rfl (fun K hK=>?_);go_simp;(try simp (disch:=omega) only [IntWalk.i64_in,Int.tmod_eq_emod_of_nonneg,Int.tdiv_eq_ediv_of_nonneg]);refine hK _ ?_;clear hK K)|(refine zr rfl (fun K hK=>?_);go_simp;(first|((first|(go_at_call 156;refine (zcU _ _ (by omega)).mono ?_)|(go_at_call 210;refine (zbF _ _ (by omega) (by omega) (by omega) (by omega) _ HM.out.globs).mono ?_));rintro e w2 ⟨rfl,hb⟩;(replace HM:=Hd (HM.out.below hb);replace HT:=Hd (HT.out.trans (IT.below hb));clear hb;(try simp only [])))|(((go_at_call 147;refine (IC.use (zaT _ _) (fun _=>True) (fun _ _=>trivial) (by first|exact HL.out|exact HL.out.last) HM.out).mono ?_));rintro e w2 ⟨x,m2,fp2,rfl,hx,hm,ht,HL2⟩;(replace HM:=Hd hm;replace HT:=Hd (HT.out.trans ht);clear hm ht;clear HL;have HL:=Hd HL2;clear HL2;(try simp only []))));(try go_simp);refine hK _ _ ⟨_,rfl⟩ ?_;clear hK K)));refine zQ ?_)
  (repeat (first|go_skip|go_guarded|go_step|go_upon|go_back))
  rename Int=>sz
  have hs0:n / 8+1=((((n / 8).toNat+1:Nat)):Int):=by omega
  rw [hs0]
  clear hs0
  have hsb:(n / 8).toNat+1<=200:=by omega
  generalize (n / 8).toNat+1=s at HL hsb ⊢
  generalize hcd:(sz.toNat+7) / 8 - s=cnt at HL
  have hlen:(List.range' s cnt).length=cnt:=List.length_range'
  go_loopw [8] (fun k wr=>∃ (i:Nat) (m1:MachD) (fp1:List Nat),k=.int .i64 ((s+i:Nat):Int)/\i<=cnt/\IM w0 wr b fp1 m1/\IT w fp wr fp1/\Lft (Mp.each (fun p:Nat=>K.lay (K.blockKey id (p:Int)) ⟨#[]⟩) ((List.range' s cnt).drop i) >>= fun _=>K.setNum (K.sizeKey id) n >>= fun _=>pure (0:Int)) m1 (res,mres)) (fun k _=>cnt - ((intOf k).toNat - s))
  case atStart=>exact ⟨0,_,_,rfl,Nat.zero_le _,HM.out,HT.out,HL.out⟩
  case round =>
   clear HL HM HT
   obtain ⟨i,m1,fp1,rfl,hi,hm,ht,hl⟩:=hrel
   have HM:=Hd hm
   have HT:=Hd ht
   clear hm ht
   by_cases hlt:i<cnt
   case pos =>
    have hl2:=hl.eachB_at (by rw [hlen];exact hlt)
    rw [List.getElem_range',Nat.one_mul] at hl2
    have HL:=Hd hl2
    clear hl hl2
    have hpl:((s+i:Nat):Int)*8<sz:=by omega
    have hpb:((s+i:Nat):Int)<=400:=by omega
    generalize hpp:s+i=pl at HL hpl hpb ⊢
    (repeat (first|go_skip|go_guarded|go_step|go_upon|go_back))
    (((((go_at_call 210;refine (zbF _ _ (by omega) (by omega) (by omega) (by omega) _ HM.out.globs).mono ?_));rintro e w2 ⟨rfl,hb⟩;(replace HM:=Hd (HM.out.below hb);replace HT:=Hd (HT.out.trans (IT.below hb));clear hb;(try simp only [])))))
    (repeat (first|go_skip|go_guarded|go_step|go_upon|go_back))
    (((((go_at_call 147;refine (IC.use (zaT _ _) (fun _=>True) (fun _ _=>trivial) (by first|exact HL.out|exact HL.out.last) HM.out).mono ?_));(rintro e w2 ⟨x,m2,fp2,rfl,hx,hm,ht,HL2⟩);(replace HM:=Hd hm;replace HT:=Hd (HT.out.trans ht);clear hm ht;clear HL;have HL:=Hd HL2;clear HL2;(try simp only [])))))
    (repeat (first|go_skip|go_guarded|go_step|go_upon|go_back))
    go_roundw
    case rel=>exact ⟨i+1,_,_,by (have:s+(i+1)=pl+1:=by omega);rw [this];go_num,by omega,HM.out,HT.out,HL.out⟩
    case measure=>simp [intOf];omega
   case neg =>
    have HL:=Hd (hl.eachB_end (by rw [hlen];omega))
    clear hl
    have hpl:¬ ((s+i:Nat):Int)*8<sz:=by omega
    have hpb:((s+i:Nat):Int)<=400:=by omega
    generalize hpp:s+i=pl at HL hpl hpb ⊢
    (repeat (first|go_skip|go_guarded|go_step|go_upon|go_back))
    (((((go_at_call 208;refine (zbv _ (by omega) (by omega) _ HM.out.globs).mono ?_));rintro e w2 ⟨rfl,hb⟩;(replace HM:=Hd (HM.out.below hb);replace HT:=Hd (HT.out.trans (IT.below hb));clear hb;(try simp only [])))))
    (repeat (first|go_skip|go_guarded|go_step|go_upon|go_back))
    (((((go_at_call 144;refine (IC.use (zab _ _ (by omega) (by omega)) (fun _=>True) (fun _ _=>trivial) (by first|exact HL.out|exact HL.out.last) HM.out).mono ?_));(rintro e w2 ⟨x,m2,fp2,rfl,hx,hm,ht,HL2⟩);(replace HM:=Hd hm;replace HT:=Hd (HT.out.trans ht);clear hm ht;clear HL;have HL:=Hd HL2;clear HL2;(try simp only [])))))
    (repeat (first|go_skip|go_guarded|go_step|go_upon|go_back))
    all_goals (obtain ⟨rfl,rfl⟩:=HL.out.end;((refine bodyPost_ret (by simp [results,Tryz.results153,go_sem];rfl) rfl ?_));exact ⟨rfl,_,HM.out,HT.out⟩)
 ·skip
  rename Int=>sz
  have hs0:n / 8=((((n / 8).toNat:Nat)):Int):=by omega
  rw [hs0]
  clear hs0
  have hsb:(n / 8).toNat<=200:=by omega
  generalize (n / 8).toNat=s at HL hsb ⊢
  generalize hcd:(sz.toNat+7) / 8 - s=cnt at HL
  have hlen:(List.range' s cnt).length=cnt:=List.length_range'
  go_loopw [8] (fun k wr=>∃ (i:Nat) (m1:MachD) (fp1:List Nat),k=.int .i64 ((s+i:Nat):Int)/\i<=cnt/\IM w0 wr b fp1 m1/\IT w fp wr fp1/\Lft (Mp.each (fun p:Nat=>K.lay (K.blockKey id (p:Int)) ⟨#[]⟩) ((List.range' s cnt).drop i) >>= fun _=>K.setNum (K.sizeKey id) n >>= fun _=>pure (0:Int)) m1 (res,mres)) (fun k _=>cnt - ((intOf k).toNat - s))
  case atStart=>exact ⟨0,_,_,rfl,Nat.zero_le _,HM.out,HT.out,HL.out⟩
  case round =>
   clear HL HM HT
   obtain ⟨i,m1,fp1,rfl,hi,hm,ht,hl⟩:=hrel
   have HM:=Hd hm
   have HT:=Hd ht
   clear hm ht
   by_cases hlt:i<cnt
   case pos =>
    have hl2:=hl.eachB_at (by rw [hlen];exact hlt)
    rw [List.getElem_range',Nat.one_mul] at hl2
    have HL:=Hd hl2
    clear hl hl2
    have hpl:((s+i:Nat):Int)*8<sz:=by omega
    have hpb:((s+i:Nat):Int)<=400:=by omega
    generalize hpp:s+i=pl at HL hpl hpb ⊢
    (repeat (first|go_skip|go_guarded|go_step|go_upon|go_back))
    (((((go_at_call 210;refine (zbF _ _ (by omega) (by omega) (by omega) (by omega) _ HM.out.globs).mono ?_));rintro e w2 ⟨rfl,hb⟩;(replace HM:=Hd (HM.out.below hb);replace HT:=Hd (HT.out.trans (IT.below hb));clear hb;(try simp only [])))))
    (repeat (first|go_skip|go_guarded|go_step|go_upon|go_back))
    (((((go_at_call 147;refine (IC.use (zaT _ _) (fun _=>True) (fun _ _=>trivial) (by first|exact HL.out|exact HL.out.last) HM.out).mono ?_));(rintro e w2 ⟨x,m2,fp2,rfl,hx,hm,ht,HL2⟩);(replace HM:=Hd hm;replace HT:=Hd (HT.out.trans ht);clear hm ht;clear HL;have HL:=Hd HL2;clear HL2;(try simp only [])))))
    (repeat (first|go_skip|go_guarded|go_step|go_upon|go_back))
    go_roundw
    case rel=>exact ⟨i+1,_,_,by (have:s+(i+1)=pl+1:=by omega);rw [this];go_num,by omega,HM.out,HT.out,HL.out⟩
    case measure=>simp [intOf];omega
   case neg =>
    have HL:=Hd (hl.eachB_end (by rw [hlen];omega))
    clear hl
    have hpl:¬ ((s+i:Nat):Int)*8<sz:=by omega
    have hpb:((s+i:Nat):Int)<=400:=by omega
    generalize hpp:s+i=pl at HL hpl hpb ⊢
    (repeat (first|go_skip|go_guarded|go_step|go_upon|go_back))
    (((((go_at_call 208;refine (zbv _ (by omega) (by omega) _ HM.out.globs).mono ?_));rintro e w2 ⟨rfl,hb⟩;(replace HM:=Hd (HM.out.below hb);replace HT:=Hd (HT.out.trans (IT.below hb));clear hb;(try simp only [])))))
    (repeat (first|go_skip|go_guarded|go_step|go_upon|go_back))
    (((((go_at_call 144;refine (IC.use (zab _ _ (by omega) (by omega)) (fun _=>True) (fun _ _=>trivial) (by first|exact HL.out|exact HL.out.last) HM.out).mono ?_));(rintro e w2 ⟨x,m2,fp2,rfl,hx,hm,ht,HL2⟩);(replace HM:=Hd hm;replace HT:=Hd (HT.out.trans ht);clear hm ht;clear HL;have HL:=Hd HL2;clear HL2;(try simp only [])))))
    (repeat (first|go_skip|go_guarded|go_step|go_upon|go_back))
    all_goals (obtain ⟨rfl,rfl⟩:=HL.out.end;((refine bodyPost_ret (by simp [results,Tryz.results153,go_sem];rfl) rfl ?_));exact ⟨rfl,_,HM.out,HT.out⟩)
theorem zif (id:Int) (id0 : -9223372036854775808<=id) (id1:id<=9223372036854775807) (a:Int) (aa0 : -9223372036854775808<=a) (aa1:a<=9223372036854775807) (n:Int) (n0 : -9223372036854775808<=n) (n1:n<=9223372036854775807):IC 151 (fun x=>#[x,.int .i64 id,.int .i64 a,.int .i64 n]) (K.readFile id a n) (fun t=>.string t):=by
 refine zdT (fun w0 w fp mb m res mres HM HT HL=>?_)
 unfold K.readFile at HL
 go_enter Tryz.func151,Tryz.ntmps151
 (try simp only [])
 (repeat (first|go_skip|go_guarded|go_step|go_upon|go_back))
 ((((go_at_call 208;refine (zbv _ (by omega) (by omega) _ HM.out.globs).mono ?_);rintro e w2 ⟨rfl,hb⟩;(replace HM:=Hd (HM.out.below hb);replace HT:=Hd (HT.out.trans (IT.below hb));clear hb;(try simp only [])))))
 (repeat (first|go_skip|go_guarded|go_step|go_upon|go_back))
 (((((go_at_call 138;refine (IC.use (zav _) (fun a=>0<=a/\a<=999) (fun m _=>zac _ m) (by first|exact HL.out|exact HL.out.last) HM.out).mono ?_));(rintro e w2 ⟨x,m2,fp2,rfl,hx,hm,ht,HL2⟩);(replace HM:=Hd hm;replace HT:=Hd (HT.out.trans ht);clear hm ht;clear HL;have HL:=Hd HL2;clear HL2;(try simp only []);(all_goals ((repeat' ((rcases HL.out.ite with ⟨hg,HL2⟩|⟨hg,HL2⟩<;>(clear HL;have HL:=Hd HL2;clear HL2;try first|(have hgz : _ ∨ _:=hg;clear hg;rcases hgz with hg|hg<;>(skip))|(have hgz:=not_or.1 hg;clear hg;obtain ⟨hg,hgo⟩:=hgz;try replace hgo:=Decidable.not_not.1 hgo)))))))))))
 all_goals (repeat' (first|go_skip|go_guarded|go_step|go_upon|go_back))
 all_goals first
  | (obtain ⟨rfl,rfl⟩:=HL.out.end;refine bodyPost_ret (by simp [results,Tryz.results151,go_sem];rfl) rfl ?_;exact ⟨rfl,_,HM.out,HT.out⟩)
  | skip
 obtain ⟨hgn,hgs⟩:=not_or.1 hgo
 clear hgo
 rename Int=>sz
 have ha : 0<=a:=by omega
 obtain ⟨na,rfl⟩:=Int.eq_ofNat_of_zero_le ha
 rw [Int.toNat_natCast] at HL
 have hbz:(((na:Int)+min n (sz - na)).toNat:Int)=na+min n (sz - na):=by omega
 generalize (((na:Int)+min n (sz - na)).toNat)=b at HL hbz
 rw [<- hbz]
 have hbs:(b:Int)<=999/\(na:Int)<b:=by omega
 generalize min n (sz - (na:Int))=mn
 clear hbz
 unfold K.places at HL
 generalize hcd:(b+7) / 8 - na / 8=cnt at HL
 have hlen:(List.range' (na / 8) cnt).length=cnt:=List.length_range'
 generalize decide (n<1)=bb1
 generalize decide (sz<=(na:Int))=bb2
 generalize (bb1 || bb2)=bb4
 go_loopw [11,12,13,14,15] (fun o k _ _ _ wr=>∃ (i:Nat) (out:ByteArray) (m1:MachD) (fp1:List Nat),k=.int .i64 ((na / 8+i:Nat):Int)/\i<=cnt/\out.size<=8*i/\o=.string out/\IM w0 wr mb fp1 m1/\IT w fp wr fp1/\Lft (Mp.fold (K.readBlock id na b) out ((List.range' (na / 8) cnt).drop i) >>= pure) m1 (res,mres)) (fun _ k _ _ _ _=>cnt - ((intOf k).toNat - na / 8))
 case atStart=>exact ⟨0,⟨#[]⟩,_,_,rfl,Nat.zero_le _,Nat.le_refl _,rfl,HM.out,HT.out,HL.out.last⟩
 case round =>
  clear HL HM HT
  obtain ⟨i,out,m1,fp1,rfl,hi,hos,rfl,hm,ht,hl⟩:=hrel
  have HM:=Hd hm
  have HT:=Hd ht
  clear hm ht
  by_cases hlt:i<cnt
  case neg =>
   have HL:=Hd (Lft.fold_end (κ:=pure) (by rw [hlen];omega) hl)
   clear hl
   have hpl:¬ ((na / 8+i:Nat):Int)*8<(b:Int):=by omega
   have hpb:((na / 8+i:Nat):Int)<=400:=by omega
   generalize hpp:na / 8+i=pl at hpl hpb ⊢
   (repeat (first|go_skip|go_guarded|go_step|go_upon|go_back))
   all_goals (obtain ⟨rfl,rfl⟩:=HL.out.end;((refine bodyPost_ret (by simp [results,Tryz.results151,go_sem];rfl) rfl ?_));exact ⟨rfl,_,HM.out,HT.out⟩)
  case pos =>
   have hl2:=Lft.fold_at (κ:=pure) (by rw [hlen];exact hlt) hl
   rw [List.getElem_range',Nat.one_mul] at hl2
   unfold K.readBlock at hl2
   rw [zam] at hl2
   have HL:=Hd hl2
   clear hl hl2
   have hpl:((na / 8+i:Nat):Int)*8<(b:Int):=by omega
   have hpb:((na / 8+i:Nat):Int)<=400:=by omega
   have hpm:cnt - (((na / 8+i:Nat)+1) - na / 8)<cnt - ((na / 8+i:Nat) - na / 8):=by omega
   have hpn:na / 8+(i+1)=na / 8+i+1:=by omega
   generalize hpp:na / 8+i=pl at HL hpl hpb hpm hpn ⊢
   (repeat (first|go_skip|go_guarded|go_step|go_upon|go_back))
   (((((go_at_call 209;refine (IC.use (zfs _ (by omega) (by omega) _ (by omega) (by omega)) (fun a=>a.size<=20000) (fun m _=>zbL _) (by first|exact HL.out|exact HL.out.last) HM.out).mono ?_));(rintro e w2 ⟨x,m2,fp2,rfl,hx,hm,ht,HL2⟩);(have HM':=Hd hm;have HT':=Hd (HT.out.trans ht);clear HM HT hm ht;have HM:=HM';have HT:=HT';clear HM' HT';(try dsimp only at HL2);clear HL;have HL:=Hd HL2;clear HL2;(try simp only [])))))
   have hoR:=HL.out
   obtain ⟨lo,hlo⟩ : ∃ lo:Nat,lo=na - pl*8:=⟨_,rfl⟩
   obtain ⟨hh,hhi⟩ : ∃ hh:Nat,hh=min (b - pl*8) (min 8 x.size):=⟨_,rfl⟩
   rw [<- hlo,<- hhi] at hoR
   clear HL
   have HL:=Hd hoR
   clear hoR
   have f1:max ((na:Int) - (pl:Int)*8) 0=(lo:Int):=by omega
   have f2:min (min ((b:Int) - (pl:Int)*8) 8) (x.size:Int)=(hh:Int):=by omega
   have f3:min ((b:Int) - (pl:Int)*8) (min 8 (x.size:Int))=(hh:Int):=by omega
   have f6:(if (x.size:Int)<(if (8:Int)<(b:Int) - (pl:Int)*8 then 8 else (b:Int) - (pl:Int)*8) then (x.size:Int) else (if (8:Int)<(b:Int) - (pl:Int)*8 then 8 else (b:Int) - (pl:Int)*8))=(hh:Int):=by
    repeat' split
    all_goals omega
   have f4:hh<=x.size:=by omega
   have f5:(hh:Int)<=x.size:=by omega
   have hos2:=zlT (s:=x) (lo:=lo) (n:=8*i) hos (show hh<=8 by omega)
   clear hlo hhi
   by_cases hlh:lo<hh
   case pos =>
    have g1:(lo:Int)<hh:=by omega
    have g2:(lo:Int)<=hh:=by omega
    have g3:(x.extract lo hh).size=hh - lo:=by rw [ByteArray.size_extract];omega
    have g4:¬ 9223372036854775807<(out.size:Int)+(x.extract lo hh).size:=by omega
    have g5:¬ 9223372036854775807<out.size+(hh - lo):=by omega
    have hoR:=HL.out
    rw [if_pos hlh] at hoR
    rw [if_pos hlh] at hos2
    clear HL
    have HL:=Hd hoR
    clear hoR
    (repeat (first|go_skip|go_guarded|go_step|go_upon|go_back))
    go_roundw
    case rel=>exact ⟨i+1,_,_,_,by rw [hpn];go_num,by omega,by omega,rfl,HM.out,HT.out,HL.out⟩
    case measure=>simp [intOf];omega
   case neg =>
    have g1:¬ (lo:Int)<hh:=by omega
    have hoR:=HL.out
    rw [if_neg hlh] at hoR
    rw [if_neg hlh] at hos2
    clear HL
    have HL:=Hd hoR
    clear hoR
    (repeat (first|go_skip|go_guarded|go_step|go_upon|go_back))
    go_roundw
    case rel=>exact ⟨i+1,_,_,_,by rw [hpn];go_num,by omega,by omega,rfl,HM.out,HT.out,HL.out⟩
    case measure=>simp [intOf];omega
structure BW (wr:World) where
 w:World
 b:Below wr.heap.size wr w
instance (wr:World):Nonempty (BW wr):=⟨⟨wr,Below.refl _ _⟩⟩
theorem wG_low (text:List UInt8) (a b place:Nat) (old:List UInt8) (i:Nat) (h:place*8+i<=max a (place*8)):wG text a b place old i=old:=by
 unfold wG
 rw [show min b (place*8+i) - max a (place*8)=0 by omega]
 rfl
theorem wG_top (text:List UInt8) (a b place:Nat) (old:List UInt8) (i:Nat) (h:min b (place*8+i)=min b (place*8+8)):wG text a b place old i=K.wBlock text a b place old:=by
 rw [<- wG_end]
 unfold wG
 rw [h]
theorem zhh (id:Int) (id0 : -9223372036854775808<=id) (id1:id<=9223372036854775807) (a:Int) (aa0 : -9223372036854775808<=a) (aa1:a<=9223372036854775807) (text:ByteArray) (textz:text.size<=1048576):IC 152 (fun x=>#[x,.int .i64 id,.int .i64 a,.string text]) (K.writeFile id a text) (fun r=>.int .i64 r):=by
 refine zdT (fun w0 w fp mb m res mres HM HT HL=>?_)
 unfold K.writeFile at HL
 simp only [zc9,zar] at HL
 by_cases he:text.size=0
 case' pos=>(have hs:=zfc he;obtain ⟨rfl,ht⟩:=hs;have hz0:(⟨#[]⟩ : ByteArray).size=0:=rfl)
 case' neg=>(have hs:=zfd he;obtain ⟨hp,ht⟩:=hs)
 all_goals (go_enter Tryz.func152,Tryz.ntmps152;(try simp only []))
 all_goals (repeat (first|go_skip|go_guarded|go_step|go_upon|go_back))
 all_goals (((((go_at_call 208;refine (zbv _ (by omega) (by omega) _ HM.out.globs).mono ?_));rintro e w2 ⟨rfl,hb⟩;(replace HM:=Hd (HM.out.below hb);replace HT:=Hd (HT.out.trans (IT.below hb));clear hb;(try simp only [])))))
 all_goals (repeat (first|go_skip|go_guarded|go_step|go_upon|go_back))
 all_goals (((((go_at_call 138;refine (IC.use (zav _) (fun a=>0<=a/\a<=999) (fun m _=>zac _ m) (by first|exact HL.out|exact HL.out.last) HM.out).mono ?_));(rintro e w2 ⟨x,m2,fp2,rfl,hx,hm,ht,HL2⟩);(replace HM:=Hd hm;replace HT:=Hd (HT.out.trans ht);clear hm ht;clear HL;have HL:=Hd HL2;clear HL2;(try simp only []);(all_goals ((repeat' ((rcases HL.out.ite with ⟨hg,HL2⟩|⟨hg,HL2⟩<;>(clear HL;have HL:=Hd HL2;clear HL2;try first|(exfalso;omega)|(have hgz : _ ∨ _:=hg;clear hg;rcases hgz with hg|hg<;>(skip))|(have hgz:=not_or.1 hg;clear hg;obtain ⟨hg,hgo⟩:=hgz;try replace hgo:=Decidable.not_not.1 hgo)))))))))))
 all_goals by_cases hr : 0<=a/\a<=x
 all_goals (try (exfalso;omega))
 all_goals (repeat' (first|go_skip|go_guarded|go_step|go_upon|go_back|((((go_at_call 140;refine (zag _ _ _ _).mono ?_);rintro e w2 ⟨rfl,rfl⟩;(try simp only []);(try rw [HN.out]);(try rw [HP.out]);(try simp (disch:=omega) only [zaP,zbb]))))|(exfalso;(simp only [bne_eq_false_iff_eq,beq_eq_false_iff_ne,beq_iff_eq,bne_iff_ne] at *);omega)))
 all_goals first
  | (obtain ⟨rfl,rfl⟩:=HL.out.end;refine bodyPost_ret (by simp [results,Tryz.results152,go_sem];rfl) rfl ?_;exact ⟨rfl,_,HM.out,HT.out⟩)
  | skip
 rename Int=>sz
 obtain ⟨na,rfl⟩:=Int.eq_ofNat_of_zero_le hr.1
 rw [Int.toNat_natCast] at HL
 obtain ⟨e,hend⟩ : ∃ e:Nat,e=na+text.size:=⟨_,rfl⟩
 rw [<- hend] at HL
 have hE:(na:Int)+(text.size:Int)=(e:Int):=by omega
 have he2:e<=64/\na<e:=by omega
 have hl0:=HL.out
 rw [hE] at hl0 ⊢
 clear HL
 unfold K.places at hl0
 generalize hcd:(e+7) / 8 - na / 8=cnt at hl0
 have HL:=Hd hl0
 clear hl0
 have hlen:(List.range' (na / 8) cnt).length=cnt:=List.length_range'
 have HE:=Hd hend
 clear hend hE
 go_loopw [11,12,13,14] (fun k _ _ _ wr=>∃ (i:Nat) (m1:MachD) (fp1:List Nat),k=.int .i64 ((na / 8+i:Nat):Int)/\i<=cnt/\IM w0 wr mb fp1 m1/\IT w fp wr fp1/\Lft (Mp.each (K.writeBlock id text na e) ((List.range' (na / 8) cnt).drop i) >>= fun _=>if sz<(e:Int) then K.setNum (K.sizeKey id) (e:Int) >>= fun _=>pure (0:Int) else pure 0) m1 (res,mres)) (fun k _ _ _ _=>cnt - ((intOf k).toNat - na / 8))
 case atStart=>exact ⟨0,_,_,rfl,Nat.zero_le _,HM.out,HT.out,HL.out⟩
 case round =>
  clear HL HM HT
  obtain ⟨i,m1,fp1,rfl,hi,hm,ht,hl⟩:=hrel
  have HM:=Hd hm
  have HT:=Hd ht
  clear hm ht
  by_cases hlt:i<cnt
  case neg =>
   have HL:=Hd (hl.eachB_end (by rw [hlen];omega))
   clear hl
   have hpl:¬ ((na / 8+i:Nat):Int)*8<e:=by omega
   have hpb:((na / 8+i:Nat):Int)<=400:=by omega
   generalize hpp:na / 8+i=pl at HL hpl hpb ⊢
   ((repeat' ((rcases HL.out.ite with ⟨hg,HL2⟩|⟨hg,HL2⟩<;>(clear HL;have HL:=Hd HL2;clear HL2)))))
   all_goals (repeat (first|go_skip|go_guarded|go_step|go_upon|go_back))
   all_goals (try ((((((go_at_call 208;refine (zbv _ (by omega) (by omega) _ HM.out.globs).mono ?_));rintro e w2 ⟨rfl,hb⟩;(replace HM:=Hd (HM.out.below hb);replace HT:=Hd (HT.out.trans (IT.below hb));clear hb;(try simp only [])))));(repeat (first|go_skip|go_guarded|go_step|go_upon|go_back));(((((go_at_call 144;refine (IC.use (zab _ _ (by omega) (by omega)) (fun _=>True) (fun _ _=>trivial) (by first|exact HL.out|exact HL.out.last) HM.out).mono ?_));(rintro e w2 ⟨x,m2,fp2,rfl,hx,hm,ht,HL2⟩);(replace HM:=Hd hm;replace HT:=Hd (HT.out.trans ht);clear hm ht;clear HL;have HL:=Hd HL2;clear HL2;(try simp only [])))));(repeat (first|go_skip|go_guarded|go_step|go_upon|go_back))))
   all_goals (obtain ⟨rfl,rfl⟩:=HL.out.end;((refine bodyPost_ret (by simp [results,Tryz.results152,go_sem];rfl) rfl ?_));exact ⟨rfl,_,HM.out,HT.out⟩)
  case pos =>
   have hl2:=hl.eachB_at (by rw [hlen];exact hlt)
   rw [List.getElem_range',Nat.one_mul] at hl2
   unfold K.writeBlock at hl2
   rw [zam] at hl2
   have HL:=Hd hl2
   clear hl hl2
   have hpl:((na / 8+i:Nat):Int)*8<e:=by omega
   have hpb:((na / 8+i:Nat):Int)<=400:=by omega
   generalize hpp:na / 8+i=pl at HL hpl hpb ⊢
   (repeat (first|go_skip|go_guarded|go_step|go_upon|go_back))
   (((((go_at_call 209;refine (IC.use (zfs _ (by omega) (by omega) _ (by omega) (by omega)) (fun a=>a.size<=20000) (fun m _=>zbL _) (by first|exact HL.out|exact HL.out.last) HM.out).mono ?_));(rintro e w2 ⟨x,m2,fp2,rfl,hx,hm,ht,HL2⟩);(replace HM:=Hd hm;replace HT:=Hd (HT.out.trans ht);clear hm ht;clear HL;have HL:=Hd HL2;clear HL2;(try simp only [])))))
   obtain ⟨bv,w6,hcv,hob,hbw⟩:=zfy w2 x (by omega)
   have hxl:x.data.toList.length<=20000:=by simpa using hx
   have hzt:text.data.toList.length=text.size:=by simp
   obtain ⟨s0,hs0⟩ : ∃ s0:Nat,s0=max na (pl*8):=⟨_,rfl⟩
   obtain ⟨te,hte⟩ : ∃ te:Nat,te=min e (pl*8+8):=⟨_,rfl⟩
   have f1:max (na:Int) ((pl:Int)*8)=(s0:Int):=by omega
   have f2:min (e:Int) ((pl:Int)*8+8)=(te:Int):=by omega
   have f3:s0<=te/\pl*8<=s0/\na<=s0/\te<=e/\te<=pl*8+8:=by omega
   have f4:wG text.data.toList na e pl x.data.toList (s0 - pl*8)=x.data.toList:=wG_low _ _ _ _ _ _ (by omega)
   have f5:wG text.data.toList na e pl x.data.toList (te - pl*8)=K.wBlock text.data.toList na e pl x.data.toList:=wG_top _ _ _ _ _ _ (by omega)
   have F4:=Hd f4
   have F5:=Hd f5
   clear f4 f5 hs0 hte
   (repeat (first|go_skip|go_guarded|go_step|go_upon|go_back))
   clear hcv
   go_loopw [12,14] (fun o k wr=>∃ (t:Nat),k=.int .i64 t/\s0<=t/\t<=te/\OwnB 5 wr w2.heap.size o (wG text.data.toList na e pl x.data.toList (t - pl*8))/\Below w2.heap.size w2 wr) (fun _ k _=>te - (intOf k).toNat)
   case atStart=>exact ⟨s0,rfl,Nat.le_refl _,f3.1,by rw [F4.out];exact hob,hbw⟩
   case round =>
    clear hob hbw
    obtain ⟨t,rfl,ht0,ht1,hob,hbw⟩:=hrel
    have hwl:=zgj (text:=text.data.toList) (a:=na) (b:=e) (place:=pl) (old:=x.data.toList) (n:=20000) hxl (by decide) (t - pl*8) (by omega)
    by_cases hj8:(t:Int)<te
    case neg =>
     have HBW:=Hd hbw
     obtain rfl:t=te:=by omega
     have hl3:=HL.out
     rw [<- F5.out] at hl3
     clear HL
     have hwz:(zX (wG text.data.toList na e pl x.data.toList (t - pl*8))).size<=1048576:=by rw [zN];omega
     generalize wG text.data.toList na e pl x.data.toList (t - pl*8)=bl at hl3 hob hwz hwl
     have HL:=Hd hl3
     clear hl3
     have hc:∀ W:BW wr,Sem.run Tryz.prog (convert 22 9 _) W.w=.ok (.string (zX bl)) W.w:=fun W=>zaB (P:=Tryz.prog) W.w zcm Tryz.underlying9 (hob.sl.below W.b)
     clear hob hbw
     have HM':=Hd (HM.out.below HBW.out)
     have HT':=Hd (HT.out.trans (IT.below HBW.out))
     clear HM HT HBW
     have HM:=HM'
     have HT:=HT'
     clear HM' HT'
     (repeat (first|go_skip|go_guarded|go_step|go_upon|go_back))
     refine zbz (BW.w:BW wr->World) (id:=18) [(0,true),(1,true),(2,true),(4,true),(5,true),(3,false),(6,false),(7,false)] 7 (by kernel_rfl) (by kernel_rfl) ⟨⟨_,Below.drew (Below.refl _ _)⟩,rfl⟩ ?_
     have HM':=Hd (HM.out.below (Below.drew (Below.refl _ _)))
     have HT':=Hd (HT.out.trans (IT.below (Below.drew (Below.refl _ _))))
     clear HM HT
     have HM:=HM'
     have HT:=HT'
     clear HM' HT'
     have hbd:Below wr.heap.size wr wr.drew:=Below.drew (Below.refl _ _)
     (refine zk rfl (fun K hK=>?_);go_simp;(try simp (disch:=omega) only [IntWalk.i64_in,Int.tmod_eq_emod_of_nonneg,Int.tdiv_eq_ediv_of_nonneg]);refine hK _ ?_;clear hK K)
     (refine zk rfl (fun K hK=>?_);go_simp;(try simp (disch:=omega) only [IntWalk.i64_in,Int.tmod_eq_emod_of_nonneg,Int.tdiv_eq_ediv_of_nonneg]);refine hK _ ?_;clear hK K)
     (refine zk rfl (fun K hK=>?_);go_simp;(try simp (disch:=omega) only [IntWalk.i64_in,Int.tmod_eq_emod_of_nonneg,Int.tdiv_eq_ediv_of_nonneg]);refine hK _ ?_;clear hK K)
     (refine zk rfl (fun K hK=>?_);go_simp;(try simp (disch:=omega) only [IntWalk.i64_in,Int.tmod_eq_emod_of_nonneg,Int.tdiv_eq_ediv_of_nonneg]);refine hK _ ?_;clear hK K)
     (refine zk rfl (fun K hK=>?_);go_simp;(try simp (disch:=omega) only [IntWalk.i64_in,Int.tmod_eq_emod_of_nonneg,Int.tdiv_eq_ediv_of_nonneg]);refine hK _ ?_;clear hK K)
     refine zr rfl (fun K hK=>?_);go_simp
     (go_at_call 210;refine (zbF _ _ (by omega) (by omega) (by omega) (by omega) _ HM.out.globs).mono ?_;rintro e1 w7 ⟨rfl,hb⟩)
     have hbd7:=Below.then hbd hb
     (have HM':=Hd (HM.out.below hb);have HT':=Hd (HT.out.trans (IT.below hb));(try (have HK':=Hd (HK.out.below hb);clear HK;have HK:=HK';clear HK'));(try (have HO':=Hd (HO.out.below hb);clear HO;have HO:=HO';clear HO'));(try (have HC':=Hd (HC.out.below hb);clear HC;have HC:=HC';clear HC'));(try (have HR':=Hd (HR.out.below hb);clear HR;have HR:=HR';clear HR'));(try (have HA':=Hd (HA.out.below hb);clear HA;have HA:=HA';clear HA'));clear HM HT hb;have HM:=HM';have HT:=HT';clear HM' HT';(try simp only []))
     (try go_simp)
     refine hK _ _ ⟨⟨_,hbd7⟩,rfl⟩ ?_;clear hK K
     refine zr rfl (fun K hK=>?_);go_simp
     (go_at_call 156;refine (zcU _ _ (by omega)).mono ?_;rintro e1 w8 ⟨rfl,hb⟩)
     have hbd8:=Below.then hbd7 hb
     (have HM':=Hd (HM.out.below hb);have HT':=Hd (HT.out.trans (IT.below hb));(try (have HK':=Hd (HK.out.below hb);clear HK;have HK:=HK';clear HK'));(try (have HO':=Hd (HO.out.below hb);clear HO;have HO:=HO';clear HO'));(try (have HC':=Hd (HC.out.below hb);clear HC;have HC:=HC';clear HC'));(try (have HR':=Hd (HR.out.below hb);clear HR;have HR:=HR';clear HR'));(try (have HA':=Hd (HA.out.below hb);clear HA;have HA:=HA';clear HA'));clear HM HT hb;have HM:=HM';have HT:=HT';clear HM' HT';(try simp only []))
     (try go_simp)
     refine hK _ _ ⟨⟨_,hbd8⟩,rfl⟩ ?_;clear hK K
     refine zt rfl rfl (fun K hK=>?_);go_simp
     (go_at_call 147;refine (IC.use (zaT _ _) (fun _=>True) (fun _ _=>trivial) HL.out HM.out).mono ?_;rintro e1 w9 ⟨x9,m2,fp2,rfl,hx,hm,ht,HL2⟩)
     (have HM':=Hd hm;have HT':=Hd (HT.out.trans ht);(try (have HK':=Hd (HK.out.step ht);clear HK;have HK:=HK';clear HK'));(try (have HO':=Hd (HO.out.step ht);clear HO;have HO:=HO';clear HO'));(try (have HC':=Hd (HC.out.step ht);clear HC;have HC:=HC';clear HC'));(try (have HR':=Hd (HR.out.step ht);clear HR;have HR:=HR';clear HR'));(try (have HA':=Hd (HA.out.step ht);clear HA;have HA:=HA';clear HA'));clear HM HT hm ht;have HM:=HM';have HT:=HT';clear HM' HT';(try dsimp only at HL2);clear HL;have HL:=Hd HL2;clear HL2;(try simp only []))
     (try go_simp)
     refine hK _ _ ?_;clear hK K
     refine zQ ?_
     (repeat (first|go_skip|go_guarded|go_step|go_upon|go_back))
     go_roundw
     case rel=>exact ⟨i+1,_,_,by (have:na / 8+(i+1)=pl+1:=by omega);rw [this];go_num,by omega,HM.out,HT.out,HL.out⟩
     case measure=>simp [intOf];omega
    case pos =>
     obtain ⟨j,hj⟩ : ∃ j:Nat,j=t - pl*8:=⟨_,rfl⟩
     have hji:(t:Int) - (pl:Int)*8=(j:Int):=by omega
     have hj1:t+1 - pl*8=j+1:=by omega
     have hj7:j<=8:=by omega
     rw [<- hj] at hob hwl
     have HG:=Hd (zlB (text:=text.data.toList) (a:=na) (b:=e) (place:=pl) (old:=x.data.toList) (i:=j) (by omega) (by omega))
     generalize wG text.data.toList na e pl x.data.toList j=l at hob hwl HG
     obtain ⟨ti,hti⟩ : ∃ ti:Nat,(ti:Int)=(t:Int) - na:=⟨t - na,by omega⟩
     have hti2:pl*8+j - na=ti:=by omega
     have htl:ti<text.size:=by have:=HE.out;omega
     have hw:(t:Int) - na=ti:=hti.symm
     have hgd:(text.data.toList.getD ti 0)=text[ti]:=by
      rw [List.getD_eq_getElem?_getD,List.getElem?_eq_getElem (by simpa using htl)]
      rfl
     rw [hti2] at HG
     have HGD:=Hd hgd
     have HOB:=Hd hob
     have HBW:=Hd hbw
     have HJ:=Hd hj
     clear hob hbw hti hti2 hgd hj
     (repeat (first|go_skip|go_guarded|go_step|go_upon|go_back))
     go_loopw [12] (fun o wr=>∃ z:Nat,OwnB 5 wr w2.heap.size o (l++List.replicate z 0)/\Below w2.heap.size w2 wr/\∀ k,k<z->l.length+k<=j) (fun o _=>j+1 - lenV o)
     case atStart=>exact ⟨0,by rw [List.replicate_zero,List.append_nil];exact HOB.out,HBW.out,fun k hk=>absurd hk (Nat.not_lt_zero _)⟩
     case round =>
      obtain ⟨z,hob,hbw,hz⟩:=hrel
      obtain ⟨oa,oc,rfl⟩:=hob.form
      have hzl:l.length+z<=20009:=by
       rcases Nat.eq_zero_or_pos z with h0|h0
       ·omega
       ·have:=hz (z - 1) (by omega)
        omega
      have hll:(l++List.replicate z (0:UInt8)).length=l.length+z:=by simp
      have HZ:=Hd hz
      clear hz
      have HOB:=Hd hob
      have HBW:=Hd hbw
      clear hob hbw
      have HS:=Hd (zho l z)
      by_cases hle:((l.length+z:Nat):Int)<=j
      case pos =>
       have hle2:(((l++List.replicate z (0:UInt8)).length:Nat):Int)<=j:=by rw [hll];exact hle
       have hyl:(l++List.replicate z (0:UInt8)).length<=20009:=by rw [hll];exact hzl
       have HLL:=Hd hll
       clear hll
       generalize hys:l++List.replicate z (0:UInt8)=ys at HOB HS HLL hyl hle2 ⊢
       clear hys
       go_wp2_with (at_builtin;refine zA ?_)
       refine zcZ _ zcm rfl (.tmp 65) (.tmp 66) rfl (B:=w2.heap.size) (l:=ys) (m:=[0]) (HOB.out.alloc _) rfl (zix _ 0 0 rfl _ _ rfl) rfl (by simp;omega) (by have:=HBW.out.size;simp;omega) ?_
       intro v7 w7 hown hg
       have HB7:=Hd (Below.appB (HBW.out.ofAlloc _) hg (HOB.out.alloc _))
       have HO7:=Hd hown
       have hl7:lenV v7=ys.length+1:=by
        obtain ⟨_,_,rfl⟩:=hown.form
        simp [lenV]
       clear hown hg
       ((try simp only []);repeat (first|go_skip|go_guarded|go_step|go_upon|go_back))
       go_roundw
       case rel=>exact ⟨z+1,by rw [HS.out];exact HO7.out,HB7.out,fun k hk=>by have h1:=HZ.out k;omega⟩
       case measure=>rw [hl7];simp [lenV];omega
      case neg =>
       have HSA:=Hd (zgD (l:=l) (i:=j) (j:=z) (text.data.toList.getD ti 0) (by omega) (fun k hk=>HZ.out k hk))
       have hjl:j<(l++List.replicate z (0:UInt8)).length:=by rw [hll];omega
       have hyl:(l++List.replicate z (0:UInt8)).length<=20009:=by rw [hll];exact hzl
       clear HZ HS hll hle
       generalize l++List.replicate z (0:UInt8)=ys at HOB HSA hjl hyl ⊢
       obtain ⟨g,cap,hv⟩ : ∃ g cap,Value.slice oa ys.length oc=Value.slice (some ⟨g,0,none⟩) ys.length cap:=by
        rcases HOB.out with ⟨_,he⟩|⟨g,cap,cur,fz,hv,_⟩
        ·rw [he] at hjl;cases hjl
        ·exact ⟨g,cap,hv⟩
       cases hv
       have hgp:=(HOB.out.lt g rfl).1
       obtain ⟨⟨u,hu⟩,hfr,hset⟩:=zi2 (k:=j) (c:=text.data.toList.getD ti 0) HOB.out hjl
       rw [HGD.out] at hset HSA HG
       have HSET:=Hd hset
       clear hset
       have hjy:(j:Int)<ys.length:=by omega
       (repeat (first|go_skip|go_guarded|go_step|go_upon|go_back))
       go_roundw
       case rel=>exact ⟨t+1,by go_num,by omega,by omega,by rw [hj1,HG.out,<- HSA.out];exact HSET.out,HBW.out.setCell (p:=⟨g,j,none⟩) hgp _⟩
       case measure=>simp [intOf];omega
end Go.Proofs.YtpnoehpmgflibaaGreatDoor
