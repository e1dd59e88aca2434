/- Texts of this claim, merged: the walks and what they stand on. Each condition stands in its theorem. -/
import Derived.Test.YtpnoehpmgflibaaGreatDoorCA18
import Derived.Test.YtpnoehpmgflibaaGreatDoorCA33
set_option linter.unusedVariables false
set_option linter.unusedSimpArgs false
set_option maxRecDepth 100000
set_option maxHeartbeats 8000000
namespace Go.Proofs.YtpnoehpmgflibaaGreatDoor
open Go.ChangeShapes Go.WideShapes Go.ChangeAt Go.RowKit
theorem zjj (to:Int) (to0 : -9223372036854775808<=to) (to1:to<=9223372036854775807) (n:Int) (n0 : -9223372036854775808<=n) (n1:n<=9223372036854775807):IC 85 (fun x=>#[x,.int .i64 to,.int .i64 n]) (K.send to n) (fun n=>.int .i64 n):=by
 refine zdT (fun w0 w fp b m res mres HM HT HL=>?_)
 unfold K.send at HL
 have hk:=zdn to ⟨#[47,113,47]⟩ (by decide) to0 to1
 (skip)
 all_goals (go_enter Tryz.func85,Tryz.ntmps85;all_goals ((repeat' (first|go_skip|go_guarded|go_step|go_upon|go_back|((first|((first|(go_at_call 67;refine (IC.use (zdI _ (by omega) (by omega)) (fun a=>0<=a/\a<=999) (fun m _=>zac _ m) (by first|exact HL.out|exact HL.out.last) HM.out).mono ?_)|(go_at_call 144;refine (IC.use (zab _ _ (by omega) (by omega)) (fun _=>True) (fun _ _=>trivial) (by first|exact HL.out|exact HL.out.last) HM.out).mono ?_)|(go_at_call 138;refine (IC.use (zav _) (fun a=>0<=a/\a<=999) (fun m _=>zac _ m) (by first|exact HL.out|exact HL.out.last) HM.out).mono ?_));(rintro e w2 ⟨x,m2,fp2,rfl,hx,hm,ht,HL2⟩);(replace HM:=Hd hm;replace HT:=Hd (HT.out.trans ht);clear hm ht;clear HL;have HL:=Hd HL2;clear HL2;(try simp only []);(all_goals ((repeat' ((rcases HL.out.ite with ⟨hg,HL2⟩|⟨hg,HL2⟩<;>(clear HL;have HL:=Hd HL2;clear HL2))))))))|((go_at_call 140;refine (zag _ _ _ _).mono ?_);rintro e w2 ⟨rfl,rfl⟩;(try simp only []);(try rw [HN.out]);(try rw [HP.out]);(try simp (disch:=omega) only [zaP,zbb]))|((first|(go_at_call 149;refine (zah _ _ _ _ HM.out.globs (by first|omega|decide) (by first|omega|decide) (by omega) (by omega)).mono ?_)|(go_at_call 163;refine (zd4 _ (by omega) (by omega) _ (by decide) _ HM.out.globs).mono ?_));rintro e w2 ⟨rfl,hb⟩;(replace HM:=Hd (HM.out.below hb);replace HT:=Hd (HT.out.trans (IT.below hb));clear hb;(try simp only [])))))|(exfalso;(simp only [bne_eq_false_iff_eq,beq_eq_false_iff_ne,beq_iff_eq,bne_iff_ne] at *);omega)))))
 all_goals (obtain ⟨rfl,rfl⟩:=HL.out.end;((refine bodyPost_ret (by simp [results,Tryz.results85,go_sem];rfl) rfl ?_));exact ⟨rfl,_,HM.out,HT.out⟩)
theorem zgP (id:Int) (id0 : -9223372036854775808<=id) (id1:id<=9223372036854775807):IC 86 (fun x=>#[x,.int .i64 id]) (K.takeSignal id) (fun p=>.tuple #[.int .i64 p.1,.int .i64 p.2]):=by
 refine zdT (fun w0 w fp b m res mres HM HT HL=>?_)
 unfold K.takeSignal at HL
 have hk:=zdn id ⟨#[47,113,47]⟩ (by decide) id0 id1
 (skip)
 all_goals (go_enter Tryz.func86,Tryz.ntmps86;all_goals ((repeat' (first|go_skip|go_guarded|go_step|go_upon|go_back|((first|((first|(go_at_call 147;refine (IC.use (zaT _ _) (fun _=>True) (fun _ _=>trivial) (by first|exact HL.out|exact HL.out.last) HM.out).mono ?_)|(go_at_call 144;refine (IC.use (zab _ _ (by omega) (by omega)) (fun _=>True) (fun _ _=>trivial) (by first|exact HL.out|exact HL.out.last) HM.out).mono ?_)|(go_at_call 138;refine (IC.use (zav _) (fun a=>0<=a/\a<=999) (fun m _=>zac _ m) (by first|exact HL.out|exact HL.out.last) HM.out).mono ?_));(rintro e w2 ⟨x,m2,fp2,rfl,hx,hm,ht,HL2⟩);(replace HM:=Hd hm;replace HT:=Hd (HT.out.trans ht);clear hm ht;clear HL;have HL:=Hd HL2;clear HL2;(try simp only []);(all_goals ((repeat' ((rcases HL.out.ite with ⟨hg,HL2⟩|⟨hg,HL2⟩<;>(clear HL;have HL:=Hd HL2;clear HL2))))))))|((first|(go_at_call 149;refine (zah _ _ _ _ HM.out.globs (by first|omega|decide) (by first|omega|decide) (by omega) (by omega)).mono ?_)|(go_at_call 163;refine (zd4 _ (by omega) (by omega) _ (by decide) _ HM.out.globs).mono ?_));rintro e w2 ⟨rfl,hb⟩;(replace HM:=Hd (HM.out.below hb);replace HT:=Hd (HT.out.trans (IT.below hb));clear hb;(try simp only [])))))|(exfalso;(simp only [bne_eq_false_iff_eq,beq_eq_false_iff_ne,beq_iff_eq,bne_iff_ne] at *);omega)))))
 all_goals (obtain ⟨rfl,rfl⟩:=HL.out.end;((refine bodyPost_ret (by simp [results,Tryz.results86,go_sem];rfl) rfl ?_));exact ⟨rfl,_,HM.out,HT.out⟩)
theorem zie (id:Int) (id0 : -9223372036854775808<=id) (id1:id<=9223372036854775807) (a:Int) (a0 : -9223372036854775808<=a) (a1:a<=9223372036854775807):IC 87 (fun x=>#[x,.int .i64 id,.int .i64 a]) (K.setTimer id a) (fun n=>.int .i64 n):=by
 refine zdT (fun w0 w fp b m res mres HM HT HL=>?_)
 unfold K.setTimer at HL
 ((repeat' ((rcases HL.out.ite with ⟨hg,HL2⟩|⟨hg,HL2⟩<;>(clear HL;have HL:=Hd HL2;clear HL2)))))
 all_goals (go_enter Tryz.func87,Tryz.ntmps87;all_goals ((repeat' (first|go_skip|go_guarded|go_step|go_upon|go_back|((first|((go_at_call 144;refine (IC.use (zab _ _ (by omega) (by omega)) (fun _=>True) (fun _ _=>trivial) (by first|exact HL.out|exact HL.out.last) HM.out).mono ?_);(rintro e w2 ⟨x,m2,fp2,rfl,hx,hm,ht,HL2⟩);(replace HM:=Hd hm;replace HT:=Hd (HT.out.trans ht);clear hm ht;clear HL;have HL:=Hd HL2;clear HL2;(try simp only [])))|((go_at_call 140;refine (zag _ _ _ _).mono ?_);rintro e w2 ⟨rfl,rfl⟩;(try simp only []);(try rw [HN.out]);(try rw [HP.out]);(try simp (disch:=omega) only [zaP,zbb]))|((go_at_call 149;refine (zah _ _ _ _ HM.out.globs (by first|omega|decide) (by first|omega|decide) (by omega) (by omega)).mono ?_);rintro e w2 ⟨rfl,hb⟩;(replace HM:=Hd (HM.out.below hb);replace HT:=Hd (HT.out.trans (IT.below hb));clear hb;(try simp only [])))))|(exfalso;(simp only [bne_eq_false_iff_eq,beq_eq_false_iff_ne,beq_iff_eq,bne_iff_ne] at *);omega)))))
 all_goals (obtain ⟨rfl,rfl⟩:=HL.out.end;((refine bodyPost_ret (by simp [results,Tryz.results87,go_sem];rfl) rfl ?_));exact ⟨rfl,_,HM.out,HT.out⟩)
theorem zhi (id:Int) (id0 : -9223372036854775808<=id) (id1:id<=9223372036854775807) (page:Int) (page0 : -9223372036854775808<=page) (page1:page<=9223372036854775807) (text:ByteArray) (textz:text.size<=1048576):IC 89 (fun x=>#[x,.int .i64 id,.int .i64 page,.string text]) (K.storePage id page text) (fun n=>.int .i64 n):=by
 refine zdT (fun w0 w fp b m res mres HM HT HL=>?_)
 unfold K.storePage at HL
 have hk:=zaD id id0 id1
 have hh:=zcW text
 have hc:¬ 9223372036854775807<1+(zfb text).size:=by omega
 by_cases he:text.size=0
 case' pos=>(have hs:=zfc he;obtain ⟨e0,ht⟩:=hs;simp only [if_pos he] at HL;subst e0;clear hc;have hz0:(⟨#[]⟩ : ByteArray).size=0:=rfl;have hz0:(⟨#[]⟩ : ByteArray).size=0:=rfl)
 case' neg=>(have hs:=zfd he;obtain ⟨hp,ht⟩:=hs;simp only [if_neg he] at HL)
 all_goals by_cases hp3 : 0<=page/\page<=3
 all_goals ((repeat' ((rcases HL.out.ite with ⟨hg,HL2⟩|⟨hg,HL2⟩<;>(clear HL;have HL:=Hd HL2;clear HL2;try (exfalso;omega))))))
 all_goals (go_enter Tryz.func89,Tryz.ntmps89;all_goals ((repeat' (first|go_skip|go_guarded|go_step|go_upon|go_back|((first|((go_at_call 147;refine (IC.use (zaT _ _) (fun _=>True) (fun _ _=>trivial) (by first|exact HL.out|exact HL.out.last) HM.out).mono ?_);(rintro e w2 ⟨x,m2,fp2,rfl,hx,hm,ht,HL2⟩);(replace HM:=Hd hm;replace HT:=Hd (HT.out.trans ht);clear hm ht;clear HL;have HL:=Hd HL2;clear HL2;(try simp only [])))|((go_at_call 140;refine (zag _ _ _ _).mono ?_);rintro e w2 ⟨rfl,rfl⟩;(try simp only []);(try rw [HN.out]);(try rw [HP.out]);(try simp (disch:=omega) only [zaP,zbb]))|((first|(go_at_call 156;refine (zcU _ _ (by omega)).mono ?_)|(go_at_call 149;refine (zah _ _ _ _ HM.out.globs (by first|omega|decide) (by first|omega|decide) (by omega) (by omega)).mono ?_)|(go_at_call 158;refine (zbE _ (by omega) (by omega) _ HM.out.globs).mono ?_));rintro e w2 ⟨rfl,hb⟩;(replace HM:=Hd (HM.out.below hb);replace HT:=Hd (HT.out.trans (IT.below hb));clear hb;(try simp only [])))))|(exfalso;(simp only [bne_eq_false_iff_eq,beq_eq_false_iff_ne,beq_iff_eq,bne_iff_ne] at *);omega)))))
 all_goals (obtain ⟨rfl,rfl⟩:=HL.out.end;((refine bodyPost_ret (by simp [results,Tryz.results89,go_sem];rfl) rfl ?_));exact ⟨rfl,_,HM.out,HT.out⟩)
theorem zii (id:Int) (id0 : -9223372036854775808<=id) (id1:id<=9223372036854775807) (page:Int) (page0 : -9223372036854775808<=page) (page1:page<=9223372036854775807):IC 90 (fun x=>#[x,.int .i64 id,.int .i64 page]) (K.loadPage id page) (fun p=>.tuple #[.string p.1,.int .i64 p.2]):=by
 refine zdT (fun w0 w fp b m res mres HM HT HL=>?_)
 unfold K.loadPage at HL
 have hk:=zaD id id0 id1
 ((repeat' ((rcases HL.out.ite with ⟨hg,HL2⟩|⟨hg,HL2⟩<;>(clear HL;have HL:=Hd HL2;clear HL2)))))
 all_goals (go_enter Tryz.func90,Tryz.ntmps90;all_goals ((repeat' (first|go_skip|go_guarded|go_step|go_upon|go_back|((first|((go_at_call 157;refine (IC.use (zfO _) (fun _=>True) (fun _ _=>trivial) (by first|exact HL.out|exact HL.out.last) HM.out).mono ?_);(rintro e w2 ⟨x,m2,fp2,rfl,hx,hm,ht,HL2⟩);(replace HM:=Hd hm;replace HT:=Hd (HT.out.trans ht);clear hm ht;clear HL;have HL:=Hd HL2;clear HL2;(try simp only [])))|((go_at_call 140;refine (zag _ _ _ _).mono ?_);rintro e w2 ⟨rfl,rfl⟩;(try simp only []);(try rw [HN.out]);(try rw [HP.out]);(try simp (disch:=omega) only [zaP,zbb]))|((first|(go_at_call 149;refine (zah _ _ _ _ HM.out.globs (by first|omega|decide) (by first|omega|decide) (by omega) (by omega)).mono ?_)|(go_at_call 158;refine (zbE _ (by omega) (by omega) _ HM.out.globs).mono ?_));rintro e w2 ⟨rfl,hb⟩;(replace HM:=Hd (HM.out.below hb);replace HT:=Hd (HT.out.trans (IT.below hb));clear hb;(try simp only [])))))|(exfalso;(simp only [bne_eq_false_iff_eq,beq_eq_false_iff_ne,beq_iff_eq,bne_iff_ne] at *);omega)))))
 all_goals (obtain ⟨rfl,rfl⟩:=HL.out.end;((refine bodyPost_ret (by simp [results,Tryz.results90,go_sem];rfl) rfl ?_));exact ⟨rfl,_,HM.out,HT.out⟩)
theorem zhl (id:Int) (id0 : -9223372036854775808<=id) (id1:id<=9223372036854775807):IC 81 (fun x=>#[x,.int .i64 id]) (K.dropPages id) (fun _=>.tuple #[]):=by
 refine zdT (fun w0 w fp b m res mres HM HT HL=>?_)
 unfold K.dropPages at HL
 (skip)
 all_goals (go_enter Tryz.func81,Tryz.ntmps81;all_goals ((repeat' (first|go_skip|go_guarded|go_step|go_upon|go_back|((first|((go_at_call 148;refine (IC.use (zgO _) (fun _=>True) (fun _ _=>trivial) (by first|exact HL.out|exact HL.out.last) HM.out).mono ?_);(rintro e w2 ⟨x,m2,fp2,rfl,hx,hm,ht,HL2⟩);(replace HM:=Hd hm;replace HT:=Hd (HT.out.trans ht);clear hm ht;clear HL;have HL:=Hd HL2;clear HL2;(try simp only [])))|((go_at_call 158;refine (zbE _ (by omega) (by omega) _ HM.out.globs).mono ?_);rintro e w2 ⟨rfl,hb⟩;(replace HM:=Hd (HM.out.below hb);replace HT:=Hd (HT.out.trans (IT.below hb));clear hb;(try simp only [])))))|(exfalso;(simp only [bne_eq_false_iff_eq,beq_eq_false_iff_ne,beq_iff_eq,bne_iff_ne] at *);omega)))))
 all_goals (obtain ⟨rfl,rfl⟩:=HL.out.end;((refine bodyPost_end (by simp [results,Tryz.results81,go_sem];rfl) rfl ?_));exact ⟨rfl,_,HM.out,HT.out⟩)
theorem zj2 (text:ByteArray) (textz:text.size<=1048576):IC 91 (fun x=>#[x,.string text]) (K.putOut text) (fun n=>.int .i64 n):=by
 refine zdT (fun w0 w fp b m res mres HM HT HL=>?_)
 unfold K.putOut at HL
 have hh:=zcW text
 have hc:¬ 9223372036854775807<1+(zfb text).size:=by omega
 ((repeat' ((rcases HL.out.ite with ⟨hg,HL2⟩|⟨hg,HL2⟩<;>(clear HL;have HL:=Hd HL2;clear HL2)))))
 all_goals (go_enter Tryz.func91,Tryz.ntmps91;all_goals ((repeat' (first|go_skip|go_guarded|go_step|go_upon|go_back|((first|((first|(go_at_call 147;refine (IC.use (zaT _ _) (fun _=>True) (fun _ _=>trivial) (by first|exact HL.out|exact HL.out.last) HM.out).mono ?_)|(go_at_call 144;refine (IC.use (zab _ _ (by omega) (by omega)) (fun _=>True) (fun _ _=>trivial) (by first|exact HL.out|exact HL.out.last) HM.out).mono ?_)|(go_at_call 138;refine (IC.use (zav _) (fun a=>0<=a/\a<=999) (fun m _=>zac _ m) (by first|exact HL.out|exact HL.out.last) HM.out).mono ?_));(rintro e w2 ⟨x,m2,fp2,rfl,hx,hm,ht,HL2⟩);(replace HM:=Hd hm;replace HT:=Hd (HT.out.trans ht);clear hm ht;clear HL;have HL:=Hd HL2;clear HL2;(try simp only []);(all_goals ((repeat' ((rcases HL.out.ite with ⟨hg,HL2⟩|⟨hg,HL2⟩<;>(clear HL;have HL:=Hd HL2;clear HL2))))))))|((go_at_call 140;refine (zag _ _ _ _).mono ?_);rintro e w2 ⟨rfl,rfl⟩;(try simp only []);(try rw [HN.out]);(try rw [HP.out]);(try simp (disch:=omega) only [zaP,zbb]))|((first|(go_at_call 156;refine (zcU _ _ (by omega)).mono ?_)|(go_at_call 149;refine (zah _ _ _ _ HM.out.globs (by first|omega|decide) (by first|omega|decide) (by omega) (by omega)).mono ?_));rintro e w2 ⟨rfl,hb⟩;(replace HM:=Hd (HM.out.below hb);replace HT:=Hd (HT.out.trans (IT.below hb));clear hb;(try simp only [])))))|(exfalso;(simp only [bne_eq_false_iff_eq,beq_eq_false_iff_ne,beq_iff_eq,bne_iff_ne] at *);omega)))))
 all_goals (obtain ⟨rfl,rfl⟩:=HL.out.end;((refine bodyPost_ret (by simp [results,Tryz.results91,go_sem];rfl) rfl ?_));exact ⟨rfl,_,HM.out,HT.out⟩)
theorem zld:ICL zx 9 73 (fun x=>#[x]) K.names:=by
 refine ICLgo (fun w0 w fp b m res mres HM HT HL=>?_)
 unfold K.names at HL
 go_enter Tryz.func73,Tryz.ntmps73
 (repeat (first|go_skip|go_guarded|go_step|go_upon|go_back))
 (go_at_call 150;refine (zdg (by first|exact HL.out|exact HL.out.last) HM.out).mono ?_;rintro e w2 ⟨al,nl,ks,m2,fp2,rfl,hks,hm,ht,hkl,HL2⟩;have HK:=Hd (zdQ hkl HT.out.up.size);have HM':=Hd hm;have HT':=Hd (HT.out.trans ht);clear HM HT hm ht hkl;have HM:=HM';have HT:=HT';clear HM' HT';clear HL;have HL:=Hd HL2;clear HL2;(try simp only []))
 (repeat (first|go_skip|go_guarded|go_step|go_upon|go_back))
 obtain ⟨rfl,rfl⟩:=HL.out.end
 clear HL
 have hks3:∀ k ∈ ks,2<=k.size:=hks.2.2
 have hsz:=HT.out.up.size
 go_loopw [5,3,9] (fun _ o k wr=>∃ (n:Nat) (xs:List ByteArray),k=.int .i64 n/\n<=ks.length/\Below w2.heap.size w2 wr/\OwnL zx 9 wr w2.heap.size o xs/\xs=(ks.take n).map (fun k=>k.extract 2 k.size)/\xs.length<=n) (fun _ _ k _=>ks.length - (intOf k).toNat)
 case atStart=>exact ⟨0,[],rfl,by omega,(by repeat (with_reducible exact Below.refl _ _)),OwnL.nil zx _ w2 _,rfl,by simp⟩
 case round =>
  obtain ⟨n,xs,rfl,hn,hbel,ho,hxs,hxl⟩:=hrel
  obtain ⟨X,rfl⟩:=hbel.ext
  obtain ⟨oa,oc,rfl⟩:=ho.rd.form
  have HO:=Hd ho
  clear ho
  have hkl:=hks.1
  by_cases hlt:(n:Int)<ks.length
  case pos =>
   have hk:n<ks.length:=by omega
   obtain ⟨b',off,rfl,hbl,y0⟩:=HK.out.at_ hk
   have hst:=zks (fun k:ByteArray=>k.extract 2 k.size) ks n hk
   rw [<- hxs] at hst
   have h2:=hks3 _ (List.getElem_mem hk)
   have HST:=Hd hst
   clear hst hxs
   generalize ks[n]=key at HST y0 h2
   have h2i:(2:Int)<=key.size:=by omega
   have hbl2:b'<w2.heap.size+X.bs.size:=by omega
   go_wp2_with (at_builtin;refine zA ?_)
   refine zI rfl _ _ _ rfl zC (B:=w2.heap.size) (v:=.slice oa xs.length oc) (xs:=xs) (R:=zx) (by repeat (first|with_reducible exact HO.out|with_reducible apply OwnL.alloc)) rfl (ys:=[key.extract 2 key.size]) (RdL.oneAt zx _ (key.extract 2 key.size) _ rfl _ _ (by simp [zm])) rfl (by simp only [List.length_singleton];omega) (by simp only [List.length_singleton];unfold maxLen;omega) (Below.size (by repeat (first|with_reducible exact Below.refl _ _|with_reducible apply Below.ofExt|with_reducible apply Below.ofAlloc))) ?_
   intro v3 w3 hown3 hg3 hz3
   have hb3:Below w2.heap.size w2 w3:=Below.appL (by repeat (first|with_reducible exact Below.refl _ _|with_reducible apply Below.ofExt|with_reducible apply Below.ofAlloc)) hg3 (by repeat (first|with_reducible exact HO.out|with_reducible apply OwnL.alloc))
   clear hg3 hz3
   obtain ⟨Y,rfl⟩:=hb3.ext
   have HO3:=Hd hown3
   clear hown3 hb3
   go_wp2
   go_roundw
   case rel=>exact ⟨n+1,_,by go_num,by omega,(by repeat (first|with_reducible exact Below.refl _ _|with_reducible apply Below.ofExt)),HO3.out,HST.out.symm,by simp;omega⟩
   case measure=>simp [intOf];omega
  case neg =>
   have e:n=ks.length:=by omega
   have HF:Hid (ks.map (fun k=>k.extract 2 k.size)=xs):=by show _ = _;rw [hxs,e,List.take_length]
   clear hxs
   go_wp2
   go_ret
   exact ⟨_,rfl,_,HM.out.below (by repeat (first|with_reducible exact Below.refl _ _|with_reducible apply Below.ofExt)),HT.out.trans (IT.below (by repeat (first|with_reducible exact Below.refl _ _|with_reducible apply Below.ofExt))),by rw [HF.out];exact ⟨HO.out.base hsz,fun j hj hx=>by have h1:=(HO.out.lt j hj).1;have h2:=HM.out.hi j hx;omega⟩⟩
theorem zme (n:Int) (n0 : -9223372036854775808<=n) (n1:n<=9223372036854775807):IC 88 (fun x=>#[x,.int .i64 n]) (K.tick n) (fun p=>.tuple #[.int .i64 p.1,.int .i64 p.2]):=by
 refine zdT (fun w0 w fp b m res mres HM HT HL=>?_)
 unfold K.tick at HL
 ((repeat' ((rcases HL.out.ite with ⟨hg,HL2⟩|⟨hg,HL2⟩<;>(clear HL;have HL:=Hd HL2;clear HL2)))))
 all_goals (go_enter Tryz.func88,Tryz.ntmps88;all_goals ((repeat' (first|go_skip|go_guarded|go_step|go_upon|go_back|((((first|(go_at_call 144;refine (IC.use (zab _ _ (by omega) (by omega)) (fun _=>True) (fun _ _=>trivial) (by first|exact HL.out|exact HL.out.last) HM.out).mono ?_)|(go_at_call 138;refine (IC.use (zav _) (fun a=>0<=a/\a<=999) (fun m _=>zac _ m) (by first|exact HL.out|exact HL.out.last) HM.out).mono ?_));(rintro e w2 ⟨x,m2,fp2,rfl,hx,hm,ht,HL2⟩);(replace HM:=Hd hm;replace HT:=Hd (HT.out.trans ht);clear hm ht;clear HL;have HL:=Hd HL2;clear HL2;(try simp only []);(all_goals ((repeat' ((rcases HL.out.ite with ⟨hg,HL2⟩|⟨hg,HL2⟩<;>(clear HL;have HL:=Hd HL2;clear HL2))))))))))|(exfalso;(simp only [bne_eq_false_iff_eq,beq_eq_false_iff_ne,beq_iff_eq,bne_iff_ne] at *);omega)))))
 all_goals first
  | (obtain ⟨rfl,rfl⟩:=HL.out.end;refine bodyPost_ret (by simp [results,Tryz.results88,go_sem];rfl) rfl ?_;exact ⟨rfl,_,HM.out,HT.out⟩)
  | skip
 rename Int=>clk
 (go_at_call 150;refine (zdg (by first|exact HL.out|exact HL.out.last) HM.out).mono ?_;rintro e w2 ⟨al,nl,ks,m2,fp2,rfl,hks,hm,ht,hkl,HL2⟩;have HK:=Hd (zdQ hkl HT.out.up.size);have HM':=Hd hm;have HT':=Hd (HT.out.trans ht);clear HM HT hm ht hkl;have HM:=HM';have HT:=HT';clear HM' HT';clear HL;have HL:=Hd HL2;clear HL2;(try simp only []))
 (repeat (first|go_skip|go_guarded|go_step|go_upon|go_back))
 go_loopw [7,9,27] (fun kc _ k wr=>∃ (n1:Nat) (c1:Int) (m1:MachD) (fp1:List Nat),k=.int .i64 n1/\n1<=ks.length/\kc=.int .i64 c1/\(0<=c1/\c1<=n1)/\IM w0 wr b fp1 m1/\IT w fp wr fp1/\KL zx 9 wr w.heap.size fp1 (.slice al ks.length nl) ks/\Lft (Mp.fold (K.tickOne (clk+n)) c1 (ks.drop n1) >>= fun k=>pure (k,(0:Int))) m1 (res,mres)) (fun _ _ k _=>ks.length - (intOf k).toNat)
 case atStart=>exact ⟨0,0,_,_,rfl,Nat.zero_le _,rfl,⟨Int.le_refl _,Int.le_refl _⟩,HM.out,HT.out,HK.out,HL.out⟩
 case round =>
  clear HL HM HT HK
  obtain ⟨i,cn,m1,fp1,rfl,hn,rfl,hcn,hm,ht,hkk,hl⟩:=hrel
  have HM:=Hd hm
  have HT:=Hd ht
  have HK:=Hd hkk
  clear hm ht hkk
  have hkl:=hks.1
  by_cases hlt:(i:Int)<ks.length
  case pos =>
   have hk:i<ks.length:=by omega
   have hl2:=hl.fold_at hk
   clear hl
   simp only [K.tickOne,zam,zc9,zar] at hl2
   have HL:=Hd hl2
   clear hl2
   obtain ⟨b',off,rfl,hbl,y0⟩:=HK.out.at_ hk
   have hkz:=hks.2.1 _ (List.getElem_mem hk)
   have hky:=hks.2.2 _ (List.getElem_mem hk)
   have hky2 : 2<=ks[i].size:=hky
   clear hky
   have hky3:(2:Int)<=(ks[i].size:Int):=by omega
   generalize hkey:ks[i]=key at HL y0 hkz hky2 hky3
   have hze:(key.extract 2 key.size).size<=1048576:=by rw [ByteArray.size_extract];omega
   have hnb:=zeO (key.extract 2 key.size)
   have HKE:=Hd hkey
   clear hkey
   (repeat (first|go_skip|go_guarded|go_step|go_upon|go_back))
   clear y0
   (((((go_at_call 138;refine (IC.use (zav _) (fun a=>0<=a/\a<=999) (fun m _=>zac _ m) (by first|exact HL.out|exact HL.out.last) HM.out).mono ?_));(rintro e w2 ⟨x,m2,fp2,rfl,hx,hm,ht,HL2⟩);(have HM':=Hd hm;have HT':=Hd (HT.out.trans ht);(try (have HK':=Hd (HK.out.step ht);clear HK;have HK:=HK';clear HK'));clear HM HT hm ht;have HM:=HM';have HT:=HT';clear HM' HT';clear HL;have HL:=Hd HL2;clear HL2;(try simp only []);(all_goals ((repeat' ((rcases HL.out.ite with ⟨hg,HL2⟩|⟨hg,HL2⟩<;>(clear HL;have HL:=Hd HL2;clear HL2))))))))))
   ·(repeat (first|go_skip|go_guarded|go_step|go_upon|go_back))
    go_roundw
    case rel=>exact ⟨i+1,cn,_,_,by go_num,by omega,rfl,by omega,HM.out,HT.out,HK.out,HL.out⟩
    case measure=>simp [intOf];omega
   ·(repeat (first|go_skip|go_guarded|go_step|go_upon|go_back))
    (((((go_at_call 147;refine (IC.use (zaT _ _) (fun _=>True) (fun _ _=>trivial) (by first|exact HL.out|exact HL.out.last) HM.out).mono ?_));(rintro e w2 ⟨x,m2,fp2,rfl,hx,hm,ht,HL2⟩);(have HM':=Hd hm;have HT':=Hd (HT.out.trans ht);(try (have HK':=Hd (HK.out.step ht);clear HK;have HK:=HK';clear HK'));clear HM HT hm ht;have HM:=HM';have HT:=HT';clear HM' HT';clear HL;have HL:=Hd HL2;clear HL2;(try simp only [])))))
    (repeat (first|go_skip|go_guarded|go_step|go_upon|go_back))
    ((((go_at_call 161;refine (zfu _ _ HM.out.globs (by omega)).mono ?_);rintro e w2 ⟨rfl,hb⟩;(have HM':=Hd (HM.out.below hb);have HT':=Hd (HT.out.trans (IT.below hb));(try (have HK':=Hd (HK.out.below hb);clear HK;have HK:=HK';clear HK'));clear HM HT hb;have HM:=HM';have HT:=HT';clear HM' HT';(try simp only [])))))
    (repeat (first|go_skip|go_guarded|go_step|go_upon|go_back))
    (((((go_at_call 85;refine (IC.use (zjj _ (by omega) (by omega) _ (by omega) (by omega)) (fun _=>True) (fun _ _=>trivial) (by first|exact HL.out|exact HL.out.last) HM.out).mono ?_));(rintro e w2 ⟨x,m2,fp2,rfl,hx,hm,ht,HL2⟩);(have HM':=Hd hm;have HT':=Hd (HT.out.trans ht);(try (have HK':=Hd (HK.out.step ht);clear HK;have HK:=HK';clear HK'));clear HM HT hm ht;have HM:=HM';have HT:=HT';clear HM' HT';clear HL;have HL:=Hd HL2;clear HL2;(try simp only [])))))
    (repeat (first|go_skip|go_guarded|go_step|go_upon|go_back))
    go_roundw
    case rel=>exact ⟨i+1,cn+1,_,_,by go_num,by omega,rfl,by omega,HM.out,HT.out,HK.out,HL.out⟩
    case measure=>simp [intOf];omega
  case neg =>
   have HL:=Hd (hl.fold_end (by omega))
   (repeat (first|go_skip|go_guarded|go_step|go_upon|go_back))
   all_goals (obtain ⟨rfl,rfl⟩:=HL.out.end;((refine bodyPost_ret (by simp [results,Tryz.results88,go_sem];rfl) rfl ?_));exact ⟨rfl,_,HM.out,HT.out⟩)
def zch (a:ByteArray):Bool:=decide (2<=a.size) && ((a.extract (a.size - 2) a.size).toList == [47,112])
theorem zgN (a:ByteArray) (w:World) (ha:a.size<=1048576):Calls Tryz.prog 235 #[.string a,.string ⟨#[47,112]⟩] w fun e w'=>e=.returned (.bool (zch a))/\w=w':=by
 by_cases h : 2<=a.size
 ·have h':(2:Int)<=a.size:=by omega
  go_enter Tryz.func235,Tryz.ntmps235
  go_wp2
  go_ret
  exact ⟨by simp [zch,h],rfl⟩
 ·have h':¬ (2:Int)<=a.size:=by omega
  go_enter Tryz.func235,Tryz.ntmps235
  go_wp2
  go_ret
  exact ⟨by simp [zch,h],rfl⟩
theorem zey (a:ByteArray) (w:World) (ha:a.size<=1048576):Calls Tryz.prog 160 #[.string a,.string ⟨#[47,112]⟩] w fun e w'=>e=.returned (.tuple #[.string (if zch a then a.extract 0 (a.size - 2) else a),.bool (zch a)])/\w=w':=by
 have H:Calls Tryz.prog 213 #[.string a,.string ⟨#[47,112]⟩] w fun e w'=>e=.returned (.tuple #[.string (if zch a then a.extract 0 (a.size - 2) else a),.bool (zch a)])/\w=w':=by
  have PH:=Hd (zgN a w ha)
  cases ho:zch a with
  | true =>
   have h1 : 2<=a.size:=by
    unfold zch at ho
    simp at ho
    exact ho.1
   have h2:(2:Int)<=a.size:=by omega
   have HO:=Hd ho
   clear ho
   go_enter Tryz.func213,Tryz.ntmps213
   go_wp2_with fail
   (go_at_call 235;refine PH.out.mono ?_;rintro e w' ⟨rfl,rfl⟩)
   rw [HO.out]
   go_wp2
   refine bodyPost_ret (by simp [results,Tryz.results213,go_sem];rfl) rfl ?_
   exact ⟨by simp,rfl⟩
  | false =>
   have HO:=Hd ho
   clear ho
   go_enter Tryz.func213,Tryz.ntmps213
   go_wp2_with fail
   (go_at_call 235;refine PH.out.mono ?_;rintro e w' ⟨rfl,rfl⟩)
   rw [HO.out]
   go_wp2
   refine bodyPost_ret (by simp [results,Tryz.results213,go_sem];rfl) rfl ?_
   exact ⟨by simp,rfl⟩
 generalize (if zch a then a.extract 0 (a.size - 2) else a)=r at H ⊢
 generalize zch a=bb at H ⊢
 have HH:=Hd H
 clear H
 go_enter Tryz.func160,Tryz.ntmps160
 go_wp2_with fail
 (go_at_call 213;refine HH.out.mono ?_;rintro e w' ⟨rfl,rfl⟩)
 go_wp2
 refine bodyPost_ret (by simp [results,Tryz.results160,go_sem];rfl) rfl ?_
 exact ⟨rfl,rfl⟩
theorem kid_text {a:ByteArray} (h : 2<=a.size):(a.extract 0 (a.size - 2)).extract 2 (a.extract 0 (a.size - 2)).size=a.extract 2 (a.size - 2):=by
 apply ByteArray.ext
 apply Array.toList_inj.1
 simp only [ByteArray.data_extract,Array.toList_extract,ByteArray.size_extract,List.extract_eq_take_drop,List.drop_zero]
 rw [List.drop_take,List.take_take]
 congr 1
 omega
theorem zmh (parent:Int) (p0 : -9223372036854775808<=parent) (p1:parent<=9223372036854775807):ICL zep 3 83 (fun x=>#[x,.int .i64 parent]) (K.kids parent):=by
 refine ICLgo (fun w0 w fp b m res mres HM HT HL=>?_)
 have HB0:=Hd HM.out.bel.size
 unfold K.kids at HL
 go_enter Tryz.func83,Tryz.ntmps83
 (repeat (first|go_skip|go_guarded|go_step|go_upon|go_back))
 (go_at_call 150;refine (zdg (by first|exact HL.out|exact HL.out.last) HM.out).mono ?_;rintro e w2 ⟨al,nl,ks,m2,fp2,rfl,hks,hm,ht,hkl,HL2⟩;have HK:=Hd (zdQ hkl HT.out.up.size);have HM':=Hd hm;have HT':=Hd (HT.out.trans ht);clear HM HT hm ht hkl;have HM:=HM';have HT:=HT';clear HM' HT';clear HL;have HL:=Hd HL2;clear HL2;(try simp only []))
 (repeat (first|go_skip|go_guarded|go_step|go_upon|go_back))
 have hkl:=hks.1
 go_loopw [5,7,8,9,13] (fun o _ _ _ k wr=>∃ (n:Nat) (xs:List Int) (m1:MachD) (fp1:List Nat),k=.int .i64 n/\n<=ks.length/\xs.length<=n/\IM w0 wr b fp1 m1/\IT w fp wr fp1/\KL zx 9 wr w.heap.size fp1 (.slice al ks.length nl) ks/\KL zep 3 wr w.heap.size fp1 o xs/\Lft (Mp.fold (K.kid parent) xs (ks.drop n) >>= pure) m1 (res,mres)) (fun _ _ _ _ k _=>ks.length - (intOf k).toNat)
 case atStart=>exact ⟨0,[],_,_,rfl,Nat.zero_le _,Nat.le_refl _,HM.out,HT.out,HK.out,⟨OwnL.nil zep _ w2 _,fun j hj=>by cases hj⟩,HL.out.last⟩
 case round =>
  clear HL HM HT HK
  obtain ⟨n,xs,m1,fp1,rfl,hn,hxl,hm,ht,hkk,ho,hl⟩:=hrel
  obtain ⟨oa,oc,rfl⟩:=ho.1.rd.form
  have HM:=Hd hm
  have HT:=Hd ht
  have HK:=Hd hkk
  have HO:=Hd ho
  clear hm ht hkk ho
  by_cases hlt:(n:Int)<ks.length
  case neg =>
   have HL:=Hd (Lft.fold_end (κ:=pure) (by omega) hl)
   (repeat (first|go_skip|go_guarded|go_step|go_upon|go_back))
   obtain ⟨rfl,rfl⟩:=HL.out.end
   refine bodyPost_ret (by simp [results,Tryz.results83,go_sem];rfl) rfl ?_
   exact ⟨_,rfl,_,HM.out,HT.out,HO.out⟩
  case pos =>
   have hk:n<ks.length:=by omega
   have hl2:=Lft.fold_at (κ:=pure) hk hl
   clear hl
   obtain ⟨b',off,rfl,hbl,y0⟩:=HK.out.at_ hk
   have hkz:=hks.2.1 _ (List.getElem_mem hk)
   generalize ks[n]=key at hl2 y0 hkz
   have PC:=Hd (fun w=>zey key w hkz)
   unfold K.kid at hl2
   cases hke:zch key with
   | false =>
    have hik:K.isKidKey key=false:=by
     by_cases h5:key.size<5
     ·exact zib h5
     ·rw [zic (by omega)]
      unfold zch at hke
      simpa [show 2<=key.size by omega] using hke
    rw [hik,if_neg (by decide),zar] at hl2
    have HL:=Hd hl2
    have HE:=Hd hke
    clear hl2 hik hke
    (repeat (first|go_skip|go_guarded|go_step|go_upon|go_back))
    (go_at_call 160;refine (PC.out _).mono ?_;rintro e w' ⟨rfl,rfl⟩)
    rw [HE.out,if_neg (by decide)]
    by_cases h5:(5:Int)<=key.size
    all_goals (
     ((try simp only []);repeat (first|go_skip|go_guarded|go_step|go_upon|go_back))
     go_roundw
     case rel=>exact ⟨n+1,xs,m1,fp1,by go_num,by omega,by omega,HM.out,HT.out,HK.out,HO.out,HL.out⟩
     case measure=>simp [intOf];omega)
   | true =>
    have h2 : 2<=key.size:=by
     unfold zch at hke
     simp at hke
     exact hke.1
    have HE:=Hd hke
    by_cases h5:(5:Int)<=key.size
    case neg =>
     rw [zib (by omega),if_neg (by decide),zar] at hl2
     have HL:=Hd hl2
     clear hl2 hke
     (repeat (first|go_skip|go_guarded|go_step|go_upon|go_back))
     (go_at_call 160;refine (PC.out _).mono ?_;rintro e w' ⟨rfl,rfl⟩)
     rw [HE.out,if_pos rfl]
     ((try simp only []);repeat (first|go_skip|go_guarded|go_step|go_upon|go_back))
     go_roundw
     case rel=>exact ⟨n+1,xs,m1,fp1,by go_num,by omega,by omega,HM.out,HT.out,HK.out,HO.out,HL.out⟩
     case measure=>simp [intOf];omega
    case pos =>
     have hik:K.isKidKey key=true:=by
      rw [zic (by omega)]
      unfold zch at hke
      simpa [h2] using hke
     rw [hik,if_pos rfl,zam] at hl2
     have HL:=Hd hl2
     have hKT:=kid_text h2
     have hq:(key.extract 0 (key.size - 2)).size=key.size - 2:=by rw [ByteArray.size_extract];omega
     have hq2:(2:Int)<=((key.extract 0 (key.size - 2)).size:Int):=by omega
     have hze:(key.extract 2 (key.size - 2)).size<=1048576:=by rw [ByteArray.size_extract];omega
     have HKT:=Hd hKT
     clear hl2 hke hik hKT hq
     (repeat (first|go_skip|go_guarded|go_step|go_upon|go_back))
     (go_at_call 160;refine (PC.out _).mono ?_;rintro e w' ⟨rfl,rfl⟩)
     rw [HE.out,if_pos rfl]
     generalize key.extract 0 (key.size - 2)=idt at hq2 HKT ⊢
     ((try simp only []);repeat (first|go_skip|go_guarded|go_step|go_upon|go_back))
     clear y0
     ((((go_at_call 138;refine (IC.use (zav _) (fun a=>0<=a/\a<=999) (fun m _=>zac _ m) (by first|exact HL.out|exact HL.out.last) HM.out).mono ?_);(rintro e w2 ⟨x,m2,fp2,rfl,hx,hm,ht,HL2⟩);(have HM':=Hd hm;have HT':=Hd (HT.out.trans ht);(try (have HK':=Hd (HK.out.step ht);clear HK;have HK:=HK';clear HK'));(try (have HO':=Hd (HO.out.step ht);clear HO;have HO:=HO';clear HO'));clear HM HT hm ht;have HM:=HM';have HT:=HT';clear HM' HT';clear HL;have HL:=Hd HL2;clear HL2;(try simp only [])))))
     by_cases hpu:x=parent
     case neg =>
      have hl3:=HL.out
      rw [if_neg hpu,zar] at hl3
      clear HL
      have HL:=Hd hl3
      clear hl3
      (repeat (first|go_skip|go_guarded|go_step|go_upon|go_back))
      go_roundw
      case rel=>exact ⟨n+1,xs,_,_,by go_num,by omega,by omega,HM.out,HT.out,HK.out,HO.out,HL.out⟩
      case measure=>simp [intOf];omega
     case pos =>
      have hl3:=HL.out
      rw [if_pos hpu,zar] at hl3
      clear HL
      have HL:=Hd hl3
      clear hl3
      (repeat (first|go_skip|go_guarded|go_step|go_upon|go_back))
      rw [HKT.out]
      ((((go_at_call 161;refine (zfu _ _ HM.out.globs (by omega)).mono ?_);rintro e w2 ⟨rfl,hb⟩;(have HM':=Hd (HM.out.below hb);have HT':=Hd (HT.out.trans (IT.below hb));(try (have HK':=Hd (HK.out.below hb);clear HK;have HK:=HK';clear HK'));(try (have HO':=Hd (HO.out.below hb);clear HO;have HO:=HO';clear HO'));clear HM HT hb;have HM:=HM';have HT:=HT';clear HM' HT';(try simp only [])))))
      generalize za0 (key.extract 2 (key.size - 2))=val at HL ⊢
      go_wp2_with (at_builtin;refine zA ?_)
      refine zaK rfl _ _ _ rfl ze9 (B:=w.heap.size) (v:=.slice oa xs.length oc) (R:=zep) (xs:=xs) (HO.out.1.alloc _) rfl (RdL.oneAt zep _ val _ rfl _ _ rfl) rfl (by simp only [List.length_singleton];omega) (by simp only [List.length_singleton];unfold maxLen;omega) (by have:=HT.out.up.size;simp;omega) ?_
      intro v7 w7 hown hg hfr
      have hBo:=fun j hj=>(HO.out.1.lt j hj).1
      have hu:=zbo hg
      have hba:=Below.ofAlloc (Below.refl w2.heap.size w2) (.cells #[.int .i64 val] 3)
      have hm1:=HM.out.below hba
      have hm7:=hm1.upon hu (fun j hj=>HO.out.2 j (by simpa using hj)) (fun j hj=>Nat.le_trans HB0.out (hBo j (by simpa using hj)))
      have ht7:=(HT.out.trans (IT.below hba)).upon hu (fun j hj=>hBo j (by simpa using hj))
      have hk7:=(HK.out.below hba).upon hu (fun j hj=>by simpa using fun h=>zfn HK.out.1 HO.out.1 (by decide) j hj h)
      have ho7:KL zep 3 w7 w.heap.size _ v7 (xs ++ [val]):=⟨hown,fun j hj hx=>by
       rcases hfr with h|h
       ·exact HO.out.2 j (by rw [<- hj,h]) hx
       ·rw [hj] at h
        have h1:=Option.some.inj h
        have h2:=hm1.hi j hx
        omega⟩
      obtain ⟨oa7,oc7,rfl⟩:=hown.rd.form
      clear hown hg hfr hu hba hm1
      simp only [List.length_append,List.length_singleton] at ho7
      have HM7:=Hd hm7
      have HT7:=Hd ht7
      have HK7:=Hd hk7
      have HO7:=Hd ho7
      clear hm7 ht7 hk7 ho7 hBo
      ((try simp only []);repeat (first|go_skip|go_guarded|go_step|go_upon|go_back))
      go_roundw
      case rel=>exact ⟨n+1,xs ++ [val],_,_,by go_num,by omega,by simp;omega,HM7.out,HT7.out,HK7.out,HO7.out,HL.out⟩
      case measure=>simp [intOf];omega
theorem zhk (frm:Int) (frm0 : -9223372036854775808<=frm) (frm1:frm<=9223372036854775807) (to:Int) (to0 : -9223372036854775808<=to) (to1:to<=9223372036854775807):IC 79 (fun x=>#[x,.int .i64 frm,.int .i64 to]) (K.forkPages frm to) (fun _=>.tuple #[]):=by
 refine zdT (fun w0 w fp b m res mres HM HT HL=>?_)
 have hk1:=zaD frm frm0 frm1
 have hk2:=zaD to to0 to1
 unfold K.forkPages at HL
 go_enter Tryz.func79,Tryz.ntmps79
 (repeat (first|go_skip|go_guarded|go_step|go_upon|go_back))
 ((((go_at_call 158;refine (zbE _ (by omega) (by omega) _ HM.out.globs).mono ?_);rintro e w2 ⟨rfl,hb⟩;(replace HM:=Hd (HM.out.below hb);replace HT:=Hd (HT.out.trans (IT.below hb));clear hb;(try simp only [])))))
 (repeat (first|go_skip|go_guarded|go_step|go_upon|go_back))
 (go_at_call 150;refine (zdg (by first|exact HL.out|exact HL.out.last) HM.out).mono ?_;rintro e w2 ⟨al,nl,ks,m2,fp2,rfl,hks,hm,ht,hkl,HL2⟩;have HK:=Hd (zdQ hkl HT.out.up.size);have HM':=Hd hm;have HT':=Hd (HT.out.trans ht);clear HM HT hm ht hkl;have HM:=HM';have HT:=HT';clear HM' HT';clear HL;have HL:=Hd HL2;clear HL2;(try simp only []))
 (repeat (first|go_skip|go_guarded|go_step|go_upon|go_back))
 go_loopw [7,13] (fun _ k wr=>∃ (n:Nat) (m1:MachD) (fp1:List Nat),k=.int .i64 n/\n<=ks.length/\IM w0 wr b fp1 m1/\IT w fp wr fp1/\KL zx 9 wr w.heap.size fp1 (.slice al ks.length nl) ks/\Lft (Mp.each (K.forkOne frm to) (ks.drop n)) m1 (res,mres)) (fun _ k _=>ks.length - (intOf k).toNat)
 case atStart=>exact ⟨0,_,_,rfl,Nat.zero_le _,HM.out,HT.out,HK.out,HL.out⟩
 case round =>
  clear HL HM HT HK
  obtain ⟨n,m1,fp1,rfl,hn,hm,ht,hkk,hl⟩:=hrel
  have HM:=Hd hm
  have HT:=Hd ht
  have HK:=Hd hkk
  clear hm ht hkk
  have hkl:=hks.1
  by_cases hlt:(n:Int)<ks.length
  case pos =>
   have hk:n<ks.length:=by omega
   have hl2:=hl.each_at hk
   clear hl
   obtain ⟨b',off,rfl,hbl,y0⟩:=HK.out.at_ hk
   have hkz:=hks.2.1 _ (List.getElem_mem hk)
   have hky:=hks.2.2 _ (List.getElem_mem hk)
   generalize ks[n]=key at y0 hkz hky hl2
   have hl2:Lft (K.look key >>= fun v=>K.lay (K.pagesKey to++key.extract (K.pagesKey frm).size key.size) v >>= fun _=>Mp.each (K.forkOne frm to) (ks.drop (n+1))) m1 (res,mres):=by
    rw [<- zam]
    exact hl2
   have HL:=Hd hl2
   clear hl2
   have hze:(key.extract (K.pagesKey frm).size key.size).size<=1048576:=by rw [ByteArray.size_extract];omega
   have hcc:¬ 9223372036854775807<(K.pagesKey to).size+(key.extract (K.pagesKey frm).size key.size).size:=by omega
   have hcc2:¬ 9223372036854775807<(K.pagesKey to).size+(key.size - (K.pagesKey frm).size):=by omega
   have hky2:((K.pagesKey frm).size:Int)<=key.size:=by omega
   (repeat (first|go_skip|go_guarded|go_step|go_upon|go_back))
   clear y0
   (refine zbz (fun W:World=>W) (id:=3) [(0,true),(1,true),(3,true),(4,true),(9,true),(10,true),(2,false),(5,false),(6,true),(7,true),(8,true),(11,false),(12,false)] 13 (by kernel_rfl) (by kernel_rfl) ⟨_,rfl⟩ ?_;have HM':=Hd (HM.out.below (Below.drew (Below.refl _ _)));have HT':=Hd (HT.out.trans (IT.below (Below.drew (Below.refl _ _))));(try (have HK':=Hd (HK.out.below (Below.drew (Below.refl _ _)));clear HK;have HK:=HK';clear HK'));clear HM HT;have HM:=HM';have HT:=HT';clear HM' HT';(repeat (first|(refine zk rfl (fun K hK=>?_);go_simp;refine hK _ ?_;clear hK K)|(refine zr rfl (fun K hK=>?_);go_simp;(first|((go_at_call 158;refine (zbE _ (by omega) (by omega) _ HM.out.globs).mono ?_);rintro e w2 ⟨rfl,hb⟩;(have HM':=Hd (HM.out.below hb);have HT':=Hd (HT.out.trans (IT.below hb));(try (have HK':=Hd (HK.out.below hb);clear HK;have HK:=HK';clear HK'));clear HM HT hb;have HM:=HM';have HT:=HT';clear HM' HT';(try simp only [])))|((first|(go_at_call 147;refine (IC.use (zaT _ _) (fun _=>True) (fun _ _=>trivial) (by first|exact HL.out|exact HL.out.last) HM.out).mono ?_)|(go_at_call 159;refine (IC.use (zeV _) (fun a=>a.size<=1048576) (fun m h=>zaV h.1 _) (by first|exact HL.out|exact HL.out.last) HM.out).mono ?_));rintro e w2 ⟨x,m2,fp2,rfl,hx,hm,ht,HL2⟩;(have HM':=Hd hm;have HT':=Hd (HT.out.trans ht);(try (have HK':=Hd (HK.out.step ht);clear HK;have HK:=HK';clear HK'));clear HM HT hm ht;have HM:=HM';have HT:=HT';clear HM' HT';clear HL;have HL:=Hd HL2;clear HL2;(try simp only []))));(try go_simp);refine hK _ _ ⟨_,rfl⟩ ?_;clear hK K)));refine zQ ?_)
   (repeat (first|go_skip|go_guarded|go_step|go_upon|go_back))
   go_roundw
   case rel=>exact ⟨n+1,_,_,by go_num,by omega,HM.out,HT.out,HK.out,HL.out⟩
   case measure=>simp [intOf];omega
  case neg =>
   have HL:=Hd (hl.each_end (by omega))
   (repeat (first|go_skip|go_guarded|go_step|go_upon|go_back))
   all_goals (obtain ⟨rfl,rfl⟩:=HL.out.end;((refine bodyPost_end (by simp [results,Tryz.results79,go_sem];rfl) rfl ?_));exact ⟨rfl,_,HM.out,HT.out⟩)
end Go.Proofs.YtpnoehpmgflibaaGreatDoor
