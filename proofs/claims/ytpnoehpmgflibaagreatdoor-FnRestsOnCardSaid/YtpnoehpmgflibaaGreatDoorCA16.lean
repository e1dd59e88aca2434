/- Texts of this claim, merged: the walks and what they stand on. Each condition stands in its theorem. -/
import Derived.Test.YtpnoehpmgflibaaGreatDoorCA15
set_option linter.unusedVariables false
set_option linter.unusedSimpArgs false
set_option maxRecDepth 100000
set_option maxHeartbeats 8000000
namespace Go.Proofs.YtpnoehpmgflibaaGreatDoor
open Go.ChangeShapes Go.WideShapes Go.ChangeAt Go.RowKit
theorem zbL (v:ByteArray):(zb2 v).size<=20000:=by
 unfold zb2
 split
 ·split
  ·rename_i h;rw [zN];exact h.1
  ·decide
 ·decide
theorem zeE (x:Int) (k:Nat) (w:World) (h : 0<=x):Calls Tryz.prog 224 #[.int .i64 x,.int .i64 0,.int .i64 k] w fun e w'=>e=.returned (.int .i64 ((min x.toNat k:Nat):Int))/\Below w.heap.size w w':=by
 refine (ziQ x 0 k w).mono ?_
 rintro e w' ⟨rfl,rfl⟩
 have e:zaF x 0 k=((min x.toNat k:Nat):Int):=by unfold zaF;(repeat' split)<;>omega
 exact ⟨by rw [e],Below.refl _ _⟩
theorem Lft.eachB_at {α γ : Type} {f : α->Mp Unit} {xs:List α} {n:Nat} (hn:n<xs.length) {κ : Unit->Mp γ} {m:MachD} {r : γ × MachD} (h:Lft (Mp.each f (xs.drop n) >>= κ) m r):Lft (f xs[n] >>= fun _=>Mp.each f (xs.drop (n+1)) >>= κ) m r:=by
 rw [List.drop_eq_getElem_cons hn] at h
 have e:(Mp.each f (xs[n] :: xs.drop (n+1)) >>= κ)=(f xs[n] >>= fun _=>Mp.each f (xs.drop (n+1)) >>= κ):=zam (f xs[n]) (fun _=>Mp.each f (xs.drop (n+1))) κ
 rw [<- e]
 exact h
theorem Lft.eachB_end {α γ : Type} {f : α->Mp Unit} {xs:List α} {n:Nat} (hn:xs.length<=n) {κ : Unit->Mp γ} {m:MachD} {r : γ × MachD} (h:Lft (Mp.each f (xs.drop n) >>= κ) m r):Lft (κ ()) m r:=by
 rw [List.drop_eq_nil_of_le hn] at h
 exact h
theorem zgs (id:Int) (id0 : -9223372036854775808<=id) (id1:id<=9223372036854775807) (n:Int) (n0 : -9223372036854775808<=n) (n1:n<=9223372036854775807):SC 187 (fun x=>#[x,.int .i64 id,.int .i64 n]) (K.cutFile id n) (fun v' r=>.tuple #[v',.int .i64 r]):=by
 refine zeq (fun w m a0 c0 a1 c1 a2 c2 res mres H0 H1 H2 HL=>?_)
 unfold K.cutFile at HL
 go_enter Tryz.func187,Tryz.ntmps187
 (try simp only [])
 ((repeat (first|((with_reducible refine zcK (fun W0=>Below w.heap.size w W0/\W0.heap[w.heap.size]?=some (.cells #[.slice a0 m.cells.length c0,.slice a1 m.rd.length c1,.slice a2 m.wr.length c2] 54)/\W0.heap[w.heap.size+1]?=some (.cells #[.slice none 0 0,.slice none 0 0,.slice none 0 0] 54)) ?_ ?_);(· with_reducible exact zV w (.cells #[.slice a0 m.cells.length c0,.slice a1 m.rd.length c1,.slice a2 m.wr.length c2] 54) (.cells #[.slice none 0 0,.slice none 0 0,.slice none 0 0] 54) (by repeat (first|with_reducible exact Below.refl _ _|with_reducible apply Below.ofAlloc))))|go_skip|go_guarded|go_step|go_upon|go_back));(rintro w1 ⟨B,P,R⟩;have Z:=za R;have e1:=zj P R;rw [<- e1];have HW0:=Hd (fun o r=>H0.out.below (zP B o r));have HW1:=Hd (fun o r=>H1.out.below (zP B o r));have HW2:=Hd (fun o r=>H2.out.below (zP B o r));have Zp:=Nat.lt_of_succ_lt Z;clear e1 P R H0 H1 H2))
 ((repeat' (first|go_skip|go_guarded|go_step|go_upon|go_back|((first|((first|(go_at_call 222;refine (SC.use (zdk _ (by omega) (by omega) _ (by omega) (by omega)) (fun a=>a.size<=20000) (fun m _=>zbL _) (by first|exact HL.out|exact HL.out.last) (⟨_,_,_,rfl,HW0.out _ _,HW1.out _ _,HW2.out _ _⟩ : MRd _ _ _)).mono ?_)|(go_at_call 221;refine (SC.use (zbZ _ (by omega) (by omega)) (fun a=>0<=a/\a<=999) (fun m _=>zac _ m) (by first|exact HL.out|exact HL.out.last) (⟨_,_,_,rfl,HW0.out _ _,HW1.out _ _,HW2.out _ _⟩ : MRd _ _ _)).mono ?_));(rintro e w2 ⟨v2,x,m2,rfl,hx,hm,hb,HL2⟩);(obtain ⟨b0,d0,b1,d1,b2,d2,rfl,q0,q1,q2⟩:=hm.form;obtain ⟨B',P,R,Z',Zx⟩:=zG B Z hb;clear Zx;clear hm hb;(clear HW0 HW1 HW2 B Z;have e1:=zj P R;rw [<- e1];clear e1;have HW0:=Hd (fun o r=>zg (zf _) q0 P R o r);have HW1:=Hd (fun o r=>zg (zc _) q1 P R o r);have HW2:=Hd (fun o r=>zg (zc _) q2 P R o r);have B:=B';have Z:=Z';(try clear Zp);have Zp:=Nat.lt_of_succ_lt Z;clear B' Z' P R q0 q1 q2;(try simp only []));clear HL;have HL:=Hd HL2;clear HL2;(all_goals ((repeat' ((rcases HL.out.ite with ⟨hg,HL2⟩|⟨hg,HL2⟩<;>(clear HL;have HL:=Hd HL2;clear HL2))))))))|((go_at_call 59;refine (zM _ _ _ _).mono ?_);rintro e w2 ⟨rfl,rfl⟩;(try simp only []);(try rw [HN.out]);(try rw [HM.out]);(try simp (disch:=omega) only [zaP,zbb]))))|((refine zi (id:=8) [(0,true),(1,true),(2,true),(3,true),(4,true),(5,true),(6,true),(7,false),(8,false),(9,true),(10,false),(11,false)] 11 (by kernel_rfl) (by kernel_rfl) ?_);(repeat (first|(refine zk rfl (fun K hK=>?_);go_simp;(try simp (disch:=omega) only [IntWalk.i64_in,Int.tmod_eq_emod_of_nonneg,Int.tdiv_eq_ediv_of_nonneg]);refine hK _ ?_;clear hK K)|(refine zr rfl (fun K hK=>?_);go_simp;((((go_at_call 224;refine (zeE _ _ _ (by omega)).mono ?_));rintro e w' ⟨rfl,hb⟩;obtain ⟨X,rfl⟩:=hb.ext;clear hb));(try go_simp);refine hK _ _ (by show Sx _ _;repeat (first|with_reducible apply Sx.ext|with_reducible exact Sx.refl _)) ?_;clear hK K)|(refine zr rfl (fun K hK=>?_);go_simp;refine hK _ _ (by show Sx _ _;repeat (with_reducible exact Sx.drew _)) ?_;clear hK K)));have Q0':=Q0.out;have Q1':=Q1.out;have Q2':=Q2.out;clear Q0 Q1 Q2;refine zy (fun W0=>Below w.heap.size w W0/\W0.heap[w.heap.size]?=some _/\W0.heap[w.heap.size+1]?=some _/\RdL zu W0 (.slice f0 m2.cells.length g0) m2.cells/\RdL zx W0 (.slice f1 m2.rd.length g1) m2.rd/\RdL zx W0 (.slice f2 m2.wr.length g2) m2.wr/\w.heap.size+1<W0.heap.size) ⟨(zP B _ _).ofExt _,(zq Z _ _ _).1,(zq Z _ _ _).2,zl (zf _) Z Q0' _ _,zl (zc _) Z Q1' _ _,zl (zc _) Z Q2' _ _,za (zq Z _ _ _).2⟩ ?_;clear Q0' Q1' Q2';rintro w3 ⟨B',P,R,q0,q1,q2,Z'⟩;(clear HW0 HW1 HW2 B Z;have e1:=zj P R;rw [<- e1];clear e1;have HW0:=Hd (fun o r=>zg (zf _) q0 P R o r);have HW1:=Hd (fun o r=>zg (zc _) q1 P R o r);have HW2:=Hd (fun o r=>zg (zc _) q2 P R o r);have B:=B';have Z:=Z';(try clear Zp);have Zp:=Nat.lt_of_succ_lt Z;clear B' Z' P R q0 q1 q2))|(exfalso;(simp only [bne_eq_false_iff_eq,beq_eq_false_iff_ne,beq_iff_eq,bne_iff_ne] at *);omega))))
 all_goals first
  | (obtain ⟨rfl,rfl⟩:=HL.out.end;refine bodyPost_ret (by simp [results,Tryz.results187,go_sem,Z];rfl) rfl ?_;exact ⟨_,rfl,⟨_,_,_,rfl,HW0.out _ _,HW1.out _ _,HW2.out _ _⟩,zP B _ _⟩)
  | skip
 ·have hq0:min (n % 8).toNat x.size<=x.size:=Nat.min_le_right _ _
  have hq1:((min (n % 8).toNat x.size:Nat):Int)<=x.size:=by omega
  have hq3:(x.extract 0 (min (n % 8).toNat x.size)).size<=1048576:=by rw [ByteArray.size_extract];omega
  ((refine zi (id:=8) [(0,true),(1,true),(2,true),(3,true),(4,true),(5,true),(6,true),(7,false),(8,false),(9,true),(10,false),(11,false)] 11 (by kernel_rfl) (by kernel_rfl) ?_);(repeat (first|(refine zk rfl (fun K hK=>?_);go_simp;(try simp (disch:=omega) only [IntWalk.i64_in,Int.tmod_eq_emod_of_nonneg,Int.tdiv_eq_ediv_of_nonneg]);refine hK _ ?_;clear hK K)|(refine zr rfl (fun K hK=>?_);go_simp;(first|(((go_at_call 224;refine (zeE _ _ _ (by omega)).mono ?_));rintro e w' ⟨rfl,hb⟩;obtain ⟨X,rfl⟩:=hb.ext;clear hb)|(((go_at_call 223;refine (SC.use (zgr _ (by omega) (by omega) _ (by omega) (by omega) _ (by omega)) (fun _=>True) (fun _ _=>trivial) (by first|exact HL.out|exact HL.out.last) (⟨_,_,_,rfl,by (refine ⟨?_,?_,?_⟩<;>((repeat (first|with_reducible exact HW0.out _ _|with_reducible exact HW1.out _ _|with_reducible exact HW2.out _ _|with_reducible refine RdL.ext ?_ _))))⟩ : MRd _ _ _)).mono ?_));(rintro e w' ⟨v2,x,m2,rfl,hx,hm,hb,HL2⟩);clear HL;have HL:=Hd HL2;clear HL2;obtain ⟨f0,g0,f1,g1,f2,g2,rfl,q0,q1,q2⟩:=hm.form;obtain ⟨X,rfl⟩:=hb.ext;have Q0:=Hd q0;have Q1:=Hd q1;have Q2:=Hd q2;clear hm q0 q1 q2 hb));(try go_simp);refine hK _ _ (by show Sx _ _;repeat (first|with_reducible apply Sx.more|with_reducible apply Sx.ext|with_reducible exact Sx.refl _)) ?_;clear hK K)|(refine zt rfl rfl (fun K hK=>?_);go_simp;refine hK _ _ ?_;clear hK K)|(refine zr rfl (fun K hK=>?_);go_simp;refine hK _ _ (by show Sx _ _;repeat (with_reducible exact Sx.drew _)) ?_;clear hK K)));have Q0':=Q0.out;have Q1':=Q1.out;have Q2':=Q2.out;clear Q0 Q1 Q2;(try simp only [zp,zw,Array.append_assoc] at Q0' Q1' Q2');refine zy (fun W0=>Below w.heap.size w W0/\W0.heap[w.heap.size]?=some _/\W0.heap[w.heap.size+1]?=some _/\RdL zu W0 (.slice f0 m2.cells.length g0) m2.cells/\RdL zx W0 (.slice f1 m2.rd.length g1) m2.rd/\RdL zx W0 (.slice f2 m2.wr.length g2) m2.wr/\w.heap.size+1<W0.heap.size) ⟨(zP B _ _).ofExt _,(zq Z _ _ _).1,(zq Z _ _ _).2,zl (zf _) Z Q0' _ _,zl (zc _) Z Q1' _ _,zl (zc _) Z Q2' _ _,za (zq Z _ _ _).2⟩ ?_;clear Q0' Q1' Q2';rintro w3 ⟨B',P,R,q0,q1,q2,Z'⟩;(clear HW0 HW1 HW2 B Z;have e1:=zj P R;rw [<- e1];clear e1;have HW0:=Hd (fun o r=>zg (zf _) q0 P R o r);have HW1:=Hd (fun o r=>zg (zc _) q1 P R o r);have HW2:=Hd (fun o r=>zg (zc _) q2 P R o r);have B:=B';have Z:=Z';(try clear Zp);have Zp:=Nat.lt_of_succ_lt Z;clear B' Z' P R q0 q1 q2))
  (repeat (first|go_skip|go_guarded|go_step|go_upon|go_back))
  rename Int=>sz
  have hs0:n / 8+1=(((n / 8).toNat+1:Nat):Int):=by omega
  rw [hs0]
  have hcnt:(sz.toNat+7) / 8 - ((n / 8).toNat+1)=(sz.toNat+7) / 8 - ((n / 8).toNat+1):=rfl
  clear hs0
  have hsb:(n / 8).toNat+1<=200:=by omega
  generalize (n / 8).toNat+1=s at HL hcnt hsb ⊢
  generalize hcd:(sz.toNat+7) / 8 - s=cnt at HL
  clear hcnt
  have hlen:(List.range' s cnt).length=cnt:=List.length_range'
  go_loopw [9] (fun k wr=>∃ (i:Nat) (m1:MachD),k=.int .i64 ((s+i:Nat):Int)/\i<=cnt/\MBx w wr m1/\Lft (Mp.each (fun p:Nat=>K.lay (K.blockKey id (p:Int)) ⟨#[]⟩) ((List.range' s cnt).drop i) >>= fun _=>K.setNum (K.sizeKey id) n >>= fun _=>pure (0:Int)) m1 (res,mres)) (fun k _=>cnt - ((intOf k).toNat - s))
  case atStart=>exact ⟨0,_,rfl,Nat.zero_le _,(⟨_,_,_,_,_,_,zP B _ _,(zS Z _ _).1,(zS Z _ _).2,HW0.out _ _,HW1.out _ _,HW2.out _ _⟩ : MBx _ _ _),HL.out⟩
  case round =>
   clear HL
   obtain ⟨i,m1,rfl,hi,hbx,hl⟩:=hrel
   obtain ⟨b0,d0,b1,d1,b2,d2,B',P,R,q0,q1,q2⟩:=hbx
   have Z':=za R
   (clear HW0 HW1 HW2 B Z;have e1:=zj P R;rw [<- e1];clear e1;have HW0:=Hd (fun o r=>zg (zf _) q0 P R o r);have HW1:=Hd (fun o r=>zg (zc _) q1 P R o r);have HW2:=Hd (fun o r=>zg (zc _) q2 P R o r);have B:=B';have Z:=Z';(try clear Zp);have Zp:=Nat.lt_of_succ_lt Z;clear B' Z' P R q0 q1 q2;(try simp only []))
   by_cases hlt:i<cnt
   case pos =>
    have hl2:=hl.eachB_at (by rw [hlen];exact hlt)
    rw [List.getElem_range',Nat.one_mul] at hl2
    have HL:=Hd hl2
    clear hl hl2
    have hpl:((s+i:Nat):Int)*8<sz:=by omega
    have hpb:((s+i:Nat):Int)<=400:=by omega
    generalize hpp:s+i=pl at HL hpl hpb ⊢
    (repeat (first|go_skip|go_guarded|go_step|go_upon|go_back))
    ((refine zi (id:=11) [(0,true),(1,true),(2,true),(3,false),(4,false),(5,false)] 5 (by kernel_rfl) (by kernel_rfl) ?_);(repeat (first|(refine zk rfl (fun K hK=>?_);go_simp;refine hK _ ?_;clear hK K)|(refine zr rfl (fun K hK=>?_);go_simp;(first|(((go_at_call 225;refine (zbB _ _ _ (by omega) (by omega) (by omega) (by omega)).mono ?_));rintro e w' ⟨rfl,hb⟩;obtain ⟨X,rfl⟩:=hb.ext;clear hb)|(((go_at_call 182;refine (SC.use (zan _ _) (fun _=>True) (fun _ _=>trivial) (by first|exact HL.out|exact HL.out.last) (⟨_,_,_,rfl,by (refine ⟨?_,?_,?_⟩<;>((repeat (first|with_reducible exact HW0.out _ _|with_reducible exact HW1.out _ _|with_reducible exact HW2.out _ _|with_reducible refine RdL.ext ?_ _))))⟩ : MRd _ _ _)).mono ?_));(rintro e w' ⟨v2,x,m2,rfl,hx,hm,hb,HL2⟩);clear HL;have HL:=Hd HL2;clear HL2;obtain ⟨f0,g0,f1,g1,f2,g2,rfl,q0,q1,q2⟩:=hm.form;obtain ⟨X,rfl⟩:=hb.ext;have Q0:=Hd q0;have Q1:=Hd q1;have Q2:=Hd q2;clear hm q0 q1 q2 hb));(try go_simp);refine hK _ _ (by show Sx _ _;repeat (first|with_reducible apply Sx.more|with_reducible apply Sx.ext|with_reducible exact Sx.refl _)) ?_;clear hK K)|(refine zt rfl rfl (fun K hK=>?_);go_simp;refine hK _ _ ?_;clear hK K)));have Q0':=Q0.out;have Q1':=Q1.out;have Q2':=Q2.out;clear Q0 Q1 Q2;(try simp only [zp,zw,Array.append_assoc] at Q0' Q1' Q2');refine zy (fun W0=>Below w.heap.size w W0/\W0.heap[w.heap.size]?=some _/\W0.heap[w.heap.size+1]?=some _/\RdL zu W0 (.slice f0 m2.cells.length g0) m2.cells/\RdL zx W0 (.slice f1 m2.rd.length g1) m2.rd/\RdL zx W0 (.slice f2 m2.wr.length g2) m2.wr/\w.heap.size+1<W0.heap.size) ⟨(zP B _ _).ofExt _,(zq Z _ _ _).1,(zq Z _ _ _).2,zl (zf _) Z Q0' _ _,zl (zc _) Z Q1' _ _,zl (zc _) Z Q2' _ _,za (zq Z _ _ _).2⟩ ?_;clear Q0' Q1' Q2';rintro w3 ⟨B',P,R,q0,q1,q2,Z'⟩;(clear HW0 HW1 HW2 B Z;have e1:=zj P R;rw [<- e1];clear e1;have HW0:=Hd (fun o r=>zg (zf _) q0 P R o r);have HW1:=Hd (fun o r=>zg (zc _) q1 P R o r);have HW2:=Hd (fun o r=>zg (zc _) q2 P R o r);have B:=B';have Z:=Z';(try clear Zp);have Zp:=Nat.lt_of_succ_lt Z;clear B' Z' P R q0 q1 q2))
    (repeat (first|go_skip|go_guarded|go_step|go_upon|go_back))
    go_roundw
    case rel=>exact ⟨i+1,m2,by (have:s+(i+1)=pl+1:=by omega);rw [this];go_num,by omega,(⟨_,_,_,_,_,_,zP B _ _,(zS Z _ _).1,(zS Z _ _).2,HW0.out _ _,HW1.out _ _,HW2.out _ _⟩ : MBx _ _ _),HL.out⟩
    case measure=>simp [intOf];omega
   case neg =>
    have HL:=Hd (hl.eachB_end (by rw [hlen];omega))
    clear hl
    have hpl:¬ ((s+i:Nat):Int)*8<sz:=by omega
    have hpb:((s+i:Nat):Int)<=400:=by omega
    generalize hpp:s+i=pl at HL hpl hpb ⊢
    (repeat (first|go_skip|go_guarded|go_step|go_upon|go_back))
    ((refine zi (id:=13) [(0,true),(1,true),(3,true),(2,false),(4,false),(5,false),(6,false)] 5 (by kernel_rfl) (by kernel_rfl) ?_);(repeat (first|(refine zk rfl (fun K hK=>?_);go_simp;refine hK _ ?_;clear hK K)|(refine zr rfl (fun K hK=>?_);go_simp;(first|(((go_at_call 181;refine (zZ _ _ _ _ (by first|omega|decide) (by first|omega|decide) (by omega) (by omega)).mono ?_));rintro e w' ⟨rfl,hb⟩;obtain ⟨X,rfl⟩:=hb.ext;clear hb)|(((go_at_call 180;refine (SC.use (zH _ _ (by omega) (by omega)) (fun _=>True) (fun _ _=>trivial) (by first|exact HL.out|exact HL.out.last) (⟨_,_,_,rfl,by (refine ⟨?_,?_,?_⟩<;>((repeat (first|with_reducible exact HW0.out _ _|with_reducible exact HW1.out _ _|with_reducible exact HW2.out _ _|with_reducible refine RdL.ext ?_ _))))⟩ : MRd _ _ _)).mono ?_));(rintro e w' ⟨v2,x,m2,rfl,hx,hm,hb,HL2⟩);clear HL;have HL:=Hd HL2;clear HL2;obtain ⟨f0,g0,f1,g1,f2,g2,rfl,q0,q1,q2⟩:=hm.form;obtain ⟨X,rfl⟩:=hb.ext;have Q0:=Hd q0;have Q1:=Hd q1;have Q2:=Hd q2;clear hm q0 q1 q2 hb));(try go_simp);refine hK _ _ (by show Sx _ _;repeat (first|with_reducible apply Sx.more|with_reducible apply Sx.ext|with_reducible exact Sx.refl _)) ?_;clear hK K)|(refine zt rfl rfl (fun K hK=>?_);go_simp;refine hK _ _ ?_;clear hK K)));have Q0':=Q0.out;have Q1':=Q1.out;have Q2':=Q2.out;clear Q0 Q1 Q2;(try simp only [zp,zw,Array.append_assoc] at Q0' Q1' Q2');refine zy (fun W0=>Below w.heap.size w W0/\W0.heap[w.heap.size]?=some _/\W0.heap[w.heap.size+1]?=some _/\RdL zu W0 (.slice f0 m2.cells.length g0) m2.cells/\RdL zx W0 (.slice f1 m2.rd.length g1) m2.rd/\RdL zx W0 (.slice f2 m2.wr.length g2) m2.wr/\w.heap.size+1<W0.heap.size) ⟨(zP B _ _).ofExt _,(zq Z _ _ _).1,(zq Z _ _ _).2,zl (zf _) Z Q0' _ _,zl (zc _) Z Q1' _ _,zl (zc _) Z Q2' _ _,za (zq Z _ _ _).2⟩ ?_;clear Q0' Q1' Q2';rintro w3 ⟨B',P,R,q0,q1,q2,Z'⟩;(clear HW0 HW1 HW2 B Z;have e1:=zj P R;rw [<- e1];clear e1;have HW0:=Hd (fun o r=>zg (zf _) q0 P R o r);have HW1:=Hd (fun o r=>zg (zc _) q1 P R o r);have HW2:=Hd (fun o r=>zg (zc _) q2 P R o r);have B:=B';have Z:=Z';(try clear Zp);have Zp:=Nat.lt_of_succ_lt Z;clear B' Z' P R q0 q1 q2))
    (repeat (first|go_skip|go_guarded|go_step|go_upon|go_back))
    all_goals (obtain ⟨rfl,rfl⟩:=HL.out.end;refine bodyPost_ret (by simp [results,Tryz.results187,go_sem,Z];rfl) rfl ?_;exact ⟨_,rfl,⟨_,_,_,rfl,HW0.out _ _,HW1.out _ _,HW2.out _ _⟩,zP B _ _⟩)
 ·skip
  rename Int=>sz
  have hs0:n / 8=(((n / 8).toNat:Nat):Int):=by omega
  rw [hs0]
  have hcnt:(sz.toNat+7) / 8 - ((n / 8).toNat)=(sz.toNat+7) / 8 - ((n / 8).toNat):=rfl
  clear hs0
  have hsb:(n / 8).toNat<=200:=by omega
  generalize (n / 8).toNat=s at HL hcnt hsb ⊢
  generalize hcd:(sz.toNat+7) / 8 - s=cnt at HL
  clear hcnt
  have hlen:(List.range' s cnt).length=cnt:=List.length_range'
  go_loopw [9] (fun k wr=>∃ (i:Nat) (m1:MachD),k=.int .i64 ((s+i:Nat):Int)/\i<=cnt/\MBx w wr m1/\Lft (Mp.each (fun p:Nat=>K.lay (K.blockKey id (p:Int)) ⟨#[]⟩) ((List.range' s cnt).drop i) >>= fun _=>K.setNum (K.sizeKey id) n >>= fun _=>pure (0:Int)) m1 (res,mres)) (fun k _=>cnt - ((intOf k).toNat - s))
  case atStart=>exact ⟨0,_,rfl,Nat.zero_le _,(⟨_,_,_,_,_,_,zP B _ _,(zS Z _ _).1,(zS Z _ _).2,HW0.out _ _,HW1.out _ _,HW2.out _ _⟩ : MBx _ _ _),HL.out⟩
  case round =>
   clear HL
   obtain ⟨i,m1,rfl,hi,hbx,hl⟩:=hrel
   obtain ⟨b0,d0,b1,d1,b2,d2,B',P,R,q0,q1,q2⟩:=hbx
   have Z':=za R
   (clear HW0 HW1 HW2 B Z;have e1:=zj P R;rw [<- e1];clear e1;have HW0:=Hd (fun o r=>zg (zf _) q0 P R o r);have HW1:=Hd (fun o r=>zg (zc _) q1 P R o r);have HW2:=Hd (fun o r=>zg (zc _) q2 P R o r);have B:=B';have Z:=Z';(try clear Zp);have Zp:=Nat.lt_of_succ_lt Z;clear B' Z' P R q0 q1 q2;(try simp only []))
   by_cases hlt:i<cnt
   case pos =>
    have hl2:=hl.eachB_at (by rw [hlen];exact hlt)
    rw [List.getElem_range',Nat.one_mul] at hl2
    have HL:=Hd hl2
    clear hl hl2
    have hpl:((s+i:Nat):Int)*8<sz:=by omega
    have hpb:((s+i:Nat):Int)<=400:=by omega
    generalize hpp:s+i=pl at HL hpl hpb ⊢
    (repeat (first|go_skip|go_guarded|go_step|go_upon|go_back))
    ((refine zi (id:=11) [(0,true),(1,true),(2,true),(3,false),(4,false),(5,false)] 5 (by kernel_rfl) (by kernel_rfl) ?_);(repeat (first|(refine zk rfl (fun K hK=>?_);go_simp;refine hK _ ?_;clear hK K)|(refine zr rfl (fun K hK=>?_);go_simp;(first|(((go_at_call 225;refine (zbB _ _ _ (by omega) (by omega) (by omega) (by omega)).mono ?_));rintro e w' ⟨rfl,hb⟩;obtain ⟨X,rfl⟩:=hb.ext;clear hb)|(((go_at_call 182;refine (SC.use (zan _ _) (fun _=>True) (fun _ _=>trivial) (by first|exact HL.out|exact HL.out.last) (⟨_,_,_,rfl,by (refine ⟨?_,?_,?_⟩<;>((repeat (first|with_reducible exact HW0.out _ _|with_reducible exact HW1.out _ _|with_reducible exact HW2.out _ _|with_reducible refine RdL.ext ?_ _))))⟩ : MRd _ _ _)).mono ?_));(rintro e w' ⟨v2,x,m2,rfl,hx,hm,hb,HL2⟩);clear HL;have HL:=Hd HL2;clear HL2;obtain ⟨f0,g0,f1,g1,f2,g2,rfl,q0,q1,q2⟩:=hm.form;obtain ⟨X,rfl⟩:=hb.ext;have Q0:=Hd q0;have Q1:=Hd q1;have Q2:=Hd q2;clear hm q0 q1 q2 hb));(try go_simp);refine hK _ _ (by show Sx _ _;repeat (first|with_reducible apply Sx.more|with_reducible apply Sx.ext|with_reducible exact Sx.refl _)) ?_;clear hK K)|(refine zt rfl rfl (fun K hK=>?_);go_simp;refine hK _ _ ?_;clear hK K)));have Q0':=Q0.out;have Q1':=Q1.out;have Q2':=Q2.out;clear Q0 Q1 Q2;(try simp only [zp,zw,Array.append_assoc] at Q0' Q1' Q2');refine zy (fun W0=>Below w.heap.size w W0/\W0.heap[w.heap.size]?=some _/\W0.heap[w.heap.size+1]?=some _/\RdL zu W0 (.slice f0 m2.cells.length g0) m2.cells/\RdL zx W0 (.slice f1 m2.rd.length g1) m2.rd/\RdL zx W0 (.slice f2 m2.wr.length g2) m2.wr/\w.heap.size+1<W0.heap.size) ⟨(zP B _ _).ofExt _,(zq Z _ _ _).1,(zq Z _ _ _).2,zl (zf _) Z Q0' _ _,zl (zc _) Z Q1' _ _,zl (zc _) Z Q2' _ _,za (zq Z _ _ _).2⟩ ?_;clear Q0' Q1' Q2';rintro w3 ⟨B',P,R,q0,q1,q2,Z'⟩;(clear HW0 HW1 HW2 B Z;have e1:=zj P R;rw [<- e1];clear e1;have HW0:=Hd (fun o r=>zg (zf _) q0 P R o r);have HW1:=Hd (fun o r=>zg (zc _) q1 P R o r);have HW2:=Hd (fun o r=>zg (zc _) q2 P R o r);have B:=B';have Z:=Z';(try clear Zp);have Zp:=Nat.lt_of_succ_lt Z;clear B' Z' P R q0 q1 q2))
    (repeat (first|go_skip|go_guarded|go_step|go_upon|go_back))
    go_roundw
    case rel=>exact ⟨i+1,m2,by (have:s+(i+1)=pl+1:=by omega);rw [this];go_num,by omega,(⟨_,_,_,_,_,_,zP B _ _,(zS Z _ _).1,(zS Z _ _).2,HW0.out _ _,HW1.out _ _,HW2.out _ _⟩ : MBx _ _ _),HL.out⟩
    case measure=>simp [intOf];omega
   case neg =>
    have HL:=Hd (hl.eachB_end (by rw [hlen];omega))
    clear hl
    have hpl:¬ ((s+i:Nat):Int)*8<sz:=by omega
    have hpb:((s+i:Nat):Int)<=400:=by omega
    generalize hpp:s+i=pl at HL hpl hpb ⊢
    (repeat (first|go_skip|go_guarded|go_step|go_upon|go_back))
    ((refine zi (id:=13) [(0,true),(1,true),(3,true),(2,false),(4,false),(5,false),(6,false)] 5 (by kernel_rfl) (by kernel_rfl) ?_);(repeat (first|(refine zk rfl (fun K hK=>?_);go_simp;refine hK _ ?_;clear hK K)|(refine zr rfl (fun K hK=>?_);go_simp;(first|(((go_at_call 181;refine (zZ _ _ _ _ (by first|omega|decide) (by first|omega|decide) (by omega) (by omega)).mono ?_));rintro e w' ⟨rfl,hb⟩;obtain ⟨X,rfl⟩:=hb.ext;clear hb)|(((go_at_call 180;refine (SC.use (zH _ _ (by omega) (by omega)) (fun _=>True) (fun _ _=>trivial) (by first|exact HL.out|exact HL.out.last) (⟨_,_,_,rfl,by (refine ⟨?_,?_,?_⟩<;>((repeat (first|with_reducible exact HW0.out _ _|with_reducible exact HW1.out _ _|with_reducible exact HW2.out _ _|with_reducible refine RdL.ext ?_ _))))⟩ : MRd _ _ _)).mono ?_));(rintro e w' ⟨v2,x,m2,rfl,hx,hm,hb,HL2⟩);clear HL;have HL:=Hd HL2;clear HL2;obtain ⟨f0,g0,f1,g1,f2,g2,rfl,q0,q1,q2⟩:=hm.form;obtain ⟨X,rfl⟩:=hb.ext;have Q0:=Hd q0;have Q1:=Hd q1;have Q2:=Hd q2;clear hm q0 q1 q2 hb));(try go_simp);refine hK _ _ (by show Sx _ _;repeat (first|with_reducible apply Sx.more|with_reducible apply Sx.ext|with_reducible exact Sx.refl _)) ?_;clear hK K)|(refine zt rfl rfl (fun K hK=>?_);go_simp;refine hK _ _ ?_;clear hK K)));have Q0':=Q0.out;have Q1':=Q1.out;have Q2':=Q2.out;clear Q0 Q1 Q2;(try simp only [zp,zw,Array.append_assoc] at Q0' Q1' Q2');refine zy (fun W0=>Below w.heap.size w W0/\W0.heap[w.heap.size]?=some _/\W0.heap[w.heap.size+1]?=some _/\RdL zu W0 (.slice f0 m2.cells.length g0) m2.cells/\RdL zx W0 (.slice f1 m2.rd.length g1) m2.rd/\RdL zx W0 (.slice f2 m2.wr.length g2) m2.wr/\w.heap.size+1<W0.heap.size) ⟨(zP B _ _).ofExt _,(zq Z _ _ _).1,(zq Z _ _ _).2,zl (zf _) Z Q0' _ _,zl (zc _) Z Q1' _ _,zl (zc _) Z Q2' _ _,za (zq Z _ _ _).2⟩ ?_;clear Q0' Q1' Q2';rintro w3 ⟨B',P,R,q0,q1,q2,Z'⟩;(clear HW0 HW1 HW2 B Z;have e1:=zj P R;rw [<- e1];clear e1;have HW0:=Hd (fun o r=>zg (zf _) q0 P R o r);have HW1:=Hd (fun o r=>zg (zc _) q1 P R o r);have HW2:=Hd (fun o r=>zg (zc _) q2 P R o r);have B:=B';have Z:=Z';(try clear Zp);have Zp:=Nat.lt_of_succ_lt Z;clear B' Z' P R q0 q1 q2))
    (repeat (first|go_skip|go_guarded|go_step|go_upon|go_back))
    all_goals (obtain ⟨rfl,rfl⟩:=HL.out.end;refine bodyPost_ret (by simp [results,Tryz.results187,go_sem,Z];rfl) rfl ?_;exact ⟨_,rfl,⟨_,_,_,rfl,HW0.out _ _,HW1.out _ _,HW2.out _ _⟩,zP B _ _⟩)
def SCA {α : Type} (f:FuncId) (args:Value->Array Value) (p:Mp α) (ret:Value->α->Value):Prop :=
 ∀ (w:World) (v0 v1 v2:Value) (m:MachD),RdL zu w v0 m.cells->RdL zx w v1 m.rd->RdL zx w v2 m.wr->p.fits m->Calls Tryz.prog f (args (.agg #[v0,v1,v2])) w fun e w'=>∃ v1',e=.returned (ret (.agg #[v0,v1',v2]) (p.run m).1)/\OwnL zx 9 w' w.heap.size v1' (p.run m).2.rd/\Below w.heap.size w w'
theorem SCAmk {α : Type} {f:FuncId} {args:Value->Array Value} {p:Mp α} {ret:Value->α->Value}
  (h : ∀ (w : World) (m : MachD) (a0 : Option Addr) (c0 : Nat) (a1 : Option Addr) (c1 : Nat) (a2 : Option Addr) (c2 : Nat), Hid (RdL zu w (.slice a0 m.cells.length c0) m.cells) -> Hid (RdL zx w (.slice a1 m.rd.length c1) m.rd) -> Hid (RdL zx w (.slice a2 m.wr.length c2) m.wr) -> p.fits m ->
   Calls Tryz.prog f (args (.agg #[.slice a0 m.cells.length c0,.slice a1 m.rd.length c1,.slice a2 m.wr.length c2])) w fun e w'=>∃ v1',e=.returned (ret (.agg #[.slice a0 m.cells.length c0,v1',.slice a2 m.wr.length c2]) (p.run m).1)/\OwnL zx 9 w' w.heap.size v1' (p.run m).2.rd/\Below w.heap.size w w'):SCA f args p ret:=by
 intro w v0 v1 v2 m h0 h1 h2 hf
 obtain ⟨a0,c0,rfl⟩:=h0.form
 obtain ⟨a1,c1,rfl⟩:=h1.form
 obtain ⟨a2,c2,rfl⟩:=h2.form
 exact h w m a0 c0 a1 c1 a2 c2 h0 h1 h2 hf
def Looks {α : Type} (p:Mp α):Prop:=∀ m,(p.run m).2.cells=m.cells/\(p.run m).2.wr=m.wr
theorem zk8 (k:ByteArray):Looks (K.look k):=fun _=>⟨rfl,rfl⟩
theorem zl5 (k:ByteArray):Looks (K.num k):=fun _=>⟨rfl,rfl⟩
theorem zjZ (id p:Int):Looks (K.block id p):=fun _=>⟨rfl,rfl⟩
theorem SCA.use {α β : Type} {f:FuncId} {args:Value->Array Value} {p:Mp α} {ret:Value->α->Value} (h:SCA f args p ret) (hl:Looks p) (S : α->Prop) (hS:∀ m,p.fits m->S (p.run m).1) {k : α->Mp β} {w:World} {v0 v1 v2:Value} {m:MachD} {r : β × MachD} (L:Lft (p >>= k) m r) (h0:RdL zu w v0 m.cells) (h1:RdL zx w v1 m.rd) (h2:RdL zx w v2 m.wr) :
  Calls Tryz.prog f (args (.agg #[v0,v1,v2])) w fun e w'=>∃ a1 n1 a m1,e=.returned (ret (.agg #[v0,.slice a1 m1.rd.length n1,v2]) a)/\S a/\OwnL zx 9 w' w.heap.size (.slice a1 m1.rd.length n1) m1.rd/\Below w.heap.size w w'/\(m1.cells=m.cells/\m1.wr=m.wr)/\Lft (k a) m1 r:=by
 refine (h w v0 v1 v2 m h0 h1 h2 L.step.1).mono ?_
 rintro e w' ⟨v',rfl,ho,hb⟩
 obtain ⟨a1,n1,rfl⟩:=ho.rd.form
 exact ⟨_,_,_,_,rfl,hS m L.step.1,ho,hb,hl m,L.step.2⟩
theorem zeF (k:ByteArray):SCA 55 (fun x=>#[x,.string k]) (K.look k) (fun v' t=>.tuple #[v',.string t]):=by
 refine SCAmk (fun w m a0 c0 a1 c1 a2 c2 H0 H1 H2 hf=>?_)
 obtain ⟨hs,hk,_⟩:=hf
 have hl0:=hs.cl
 have hl2:=hs.rl
 have D1:=Hd (fun w' (hb:Below w.heap.size w w')=>zct _ m.rd k w' (H1.out.below hb) (by omega))
 have D2:=Hd (fun w' (hb:Below w.heap.size w w')=>zgw _ m.cells k w' (H0.out.below hb))
 go_enter Tryz.func55,Tryz.ntmps55
 (skip);repeat (first|go_skip|go_guarded|go_step|go_upon|go_back)
 (go_at_call 99;refine (D1.out _ (by repeat (first|with_reducible exact Below.refl _ _|with_reducible apply Below.ofAlloc))).mono ?_;rintro e w1 ⟨v1,rfl,ho1,hb1⟩)
 obtain ⟨b1,d1,rfl⟩:=ho1.rd.form
 have h2:=zaq w (obM (.slice a0 m.cells.length c0) (.slice a1 m.rd.length c1) (.slice a2 m.wr.length c2)) zlw w.heap.size rfl
 have B1:Below w.heap.size w w1:=Below.then (show Below w.heap.size w ((w.alloc (obM (.slice a0 m.cells.length c0) (.slice a1 m.rd.length c1) (.slice a2 m.wr.length c2))).alloc zlw) from (by repeat (first|with_reducible exact Below.refl _ _|with_reducible apply Below.ofAlloc))) hb1
 have P1:=(Grew.below hb1 w.heap.size (by first|(simp;done)|(simp;omega))).trans h2.1
 have R1:=(Grew.below hb1 (w.heap.size+1) (by first|(simp;done)|(simp;omega))).trans h2.2
 have T1:=Hd ho1
 have Z1:=hb1.size
 rw [show ((w.alloc (Obj.cells #[.slice a0 m.cells.length c0,.slice a1 m.rd.length c1,.slice a2 m.wr.length c2] 54)).alloc (Obj.cells #[.slice none 0 0,.slice none 0 0,.slice none 0 0] 54)).heap.size=w.heap.size+1+1 by simp] at Z1
 have Zp:w.heap.size<w1.heap.size:=by omega
 have Zq:w.heap.size+1<w1.heap.size:=by omega
 unfold obM at P1
 unfold zlw at R1
 have e1:=zj P1 R1
 rw [<- e1]
 clear e1
 have S1:=fun o r=>zo (zo B1 (p:=w.heap.size+1) (by omega) r) (p:=w.heap.size) (Nat.le_refl _) o
 (try simp only []);repeat (first|go_skip|go_guarded|go_step|go_upon|go_back)
 refine zai [(0,true),(1,true),(2,true),(3,true),(4,false),(5,false),(6,false)] 5 (by kernel_rfl) (by kernel_rfl) ?_
 repeat (refine zk rfl (fun K hK=>?_);go_simp;(try simp (disch:=omega) only [IntWalk.i64_in]);refine hK _ ?_;clear hK K)
 refine zr rfl (fun K hK=>?_);go_simp;go_at_call 51;refine (D2.out _ (by (with_reducible apply Below.drew;with_reducible exact S1 _ _))).mono ?_;rintro e w' ⟨rfl,hb⟩;obtain ⟨X,rfl⟩:=hb.ext;clear hb;try go_simp;refine hK _ _ (by show Sx _ _;repeat (first|with_reducible apply Sx.ext|with_reducible exact Sx.refl _)) ?_;clear hK K
 repeat (refine zk rfl (fun K hK=>?_);go_simp;(try simp (disch:=omega) only [IntWalk.i64_in]);refine hK _ ?_;clear hK K)
 repeat (refine zt rfl rfl (fun K hK=>?_);go_simp;refine hK _ _ ?_;clear hK K)
 refine zQ ?_
 (skip);repeat (first|go_skip|go_guarded|go_step|go_upon|go_back)
 have Y1:w.heap.size+1<w1.heap.size:=Zq
 refine bodyPost_ret (by simp [results,Tryz.results55,go_sem,Y1];rfl) rfl ?_
 have BF:=fun o r=>zo (zo B1 (p:=w.heap.size+1) (by omega) r) (p:=w.heap.size) (Nat.le_refl _) o
 exact ⟨_,rfl,OwnL.base ((za2 T1.out (p:=w.heap.size) (by simp) _ _).ext X) (by simp;omega),(BF _ _).ofExt X⟩
theorem zhe (k:ByteArray):SCA 175 (fun x=>#[x,.string k]) (K.num k) (fun v' n=>.tuple #[v',.int .i64 n]):=by
 refine SCAmk (fun w m a0 c0 a1 c1 a2 c2 H0 H1 H2 hf=>?_)
 have hf1:=(Mp.fits_bind (K.look k) _ m).1 hf
 have D1:=fun w' (hb:Below w.heap.size w w')=>zeF k w' _ _ _ m (H0.out.below hb) (H1.out.below hb) (H2.out.below hb) hf1.1
 have hz:((K.look k).run m).1.size<=1048576:=zaV hf1.1.1 k
 have hr:(K.num k).run m=(za0 ((K.look k).run m).1,((K.look k).run m).2):=rfl
 rw [hr]
 clear hr hf hf1
 generalize (K.look k).run m=R at D1 hz ⊢
 obtain ⟨t,m1⟩:=R
 dsimp only at D1 hz ⊢
 have D1:=Hd D1
 go_enter Tryz.func175,Tryz.ntmps175
 (skip);repeat (first|go_skip|go_guarded|go_step|go_upon|go_back)
 (go_at_call 55;refine (D1.out _ (by repeat (first|with_reducible exact Below.refl _ _|with_reducible apply Below.ofAlloc))).mono ?_;rintro e w1 ⟨v1,rfl,ho1,hb1⟩)
 obtain ⟨b1,d1,rfl⟩:=ho1.rd.form
 obtain ⟨B1,P1,R1,Zq,Zp⟩:=ze1 hb1
 have ho2:=OwnL.base (B':=w.heap.size+2) ho1 (by simp)
 have D2:=Hd (fun w'=>zcQ t w' hz)
 have e1:=zj P1 R1
 rw [<- e1]
 have HW1:=Hd (fun o r=>za2 ho2 (p:=w.heap.size) (by omega) o r)
 clear e1 P1 R1 ho1 ho2 hb1 D1
 (try simp only []);repeat (first|go_skip|go_guarded|go_step|go_upon|go_back)
 refine zai [(0,true),(1,true),(2,false),(3,false),(4,false)] 3 (by kernel_rfl) (by kernel_rfl) ?_
 repeat (refine zk rfl (fun K hK=>?_);go_simp;(try simp (disch:=omega) only [IntWalk.i64_in]);refine hK _ ?_;clear hK K)
 refine zr rfl (fun K hK=>?_);go_simp;go_at_call 196;refine (D2.out _).mono ?_;rintro e w' ⟨rfl,hb⟩;obtain ⟨X,rfl⟩:=hb.ext;clear hb;try go_simp;refine hK _ _ (by show Sx _ _;repeat (first|with_reducible apply Sx.ext|with_reducible exact Sx.refl _)) ?_;clear hK K
 repeat (refine zk rfl (fun K hK=>?_);go_simp;(try simp (disch:=omega) only [IntWalk.i64_in]);refine hK _ ?_;clear hK K)
 repeat (refine zt rfl rfl (fun K hK=>?_);go_simp;refine hK _ _ ?_;clear hK K)
 refine zQ ?_
 (skip);repeat (first|go_skip|go_guarded|go_step|go_upon|go_back)
 refine bodyPost_ret (by simp [results,Tryz.results175,go_sem,Zq];rfl) rfl ?_
 have BF:=fun o r=>zo (zo B1 (p:=w.heap.size+1) (by omega) r) (p:=w.heap.size) (Nat.le_refl _) o
 exact ⟨_,rfl,OwnL.base ((HW1.out _ _).ext X) (by omega),(BF _ _).ofExt X⟩
theorem zlZ {α : Type} {R:RowOf α} {e:TypeId} {w:World} {B:Nat} {v:Value} {xs:List α} {p:Nat} {o r:Obj} {X:Ext} (hz:p+1<w.heap.size) (hp:p+1<B) (h:OwnL R e (((w.setB (p+1) r).setB p o).ext X) B v xs) (o' r':Obj):OwnL R e (((w.setB (p+1) r').setB p o').ext X) B v xs:=by
 have h1:=za2 h hp o' r'
 rw [zay _ _ _ _ (by rw [zd,zd];exact hz),zay _ _ _ _ (by rw [zd,zd,zd];omega),zh3 _ (by omega),zh3 _ (by omega)] at h1
 exact h1
theorem zf0 (id:Int) (id0 : -9223372036854775808<=id) (id1:id<=9223372036854775807) (place:Int) (place0 : -9223372036854775808<=place) (place1:place<=9223372036854775807):SCA 222 (fun x=>#[x,.int .i64 id,.int .i64 place]) (K.block id place) (fun v' t=>.tuple #[v',.string t]):=by
 refine SCAmk (fun w m a0 c0 a1 c1 a2 c2 H0 H1 H2 hf=>?_)
 obtain ⟨res,mres,hr⟩ : ∃ res mres,(K.block id place).run m=(res,mres):=⟨_,_,rfl⟩
 have HL:Hid (Lft (K.block id place) m (res,mres)):=⟨hf,hr⟩
 rw [hr]
 clear hr hf
 unfold K.block at HL
 go_enter Tryz.func222,Tryz.ntmps222
 (try simp only [])
 ((repeat (first|((with_reducible refine zcK (fun W0=>Below w.heap.size w W0/\W0.heap[w.heap.size]?=some (.cells #[.slice a0 m.cells.length c0,.slice a1 m.rd.length c1,.slice a2 m.wr.length c2] 54)/\W0.heap[w.heap.size+1]?=some (.cells #[.slice none 0 0,.slice none 0 0,.slice none 0 0] 54)) ?_ ?_);(· with_reducible exact zV w (.cells #[.slice a0 m.cells.length c0,.slice a1 m.rd.length c1,.slice a2 m.wr.length c2] 54) (.cells #[.slice none 0 0,.slice none 0 0,.slice none 0 0] 54) (by repeat (first|with_reducible exact Below.refl _ _|with_reducible apply Below.ofAlloc))))|go_skip|go_guarded|go_step|go_upon|go_back));(rintro w1 ⟨B,P,R⟩;have Z:=za R;have e1:=zj P R;rw [<- e1];have HW0:=Hd (fun o r=>H0.out.below (zP B o r));have HW1:=Hd (fun o r=>H1.out.below (zP B o r));have HW2:=Hd (fun o r=>H2.out.below (zP B o r));have Zp:=Nat.lt_of_succ_lt Z;clear e1 P R H0 H1 H2))
 (repeat (first|go_skip|go_guarded|go_step|go_upon|go_back))
 refine zi (id:=1) [(0,true),(1,true),(2,true),(3,false),(4,false),(5,true),(6,true),(7,true),(8,false),(9,false)] 5 (by kernel_rfl) (by kernel_rfl) ?_
 repeat (first|(refine zk rfl (fun K hK=>?_);go_simp;refine hK _ ?_;clear hK K)|(refine zr rfl (fun K hK=>?_);go_simp;(go_at_call 55;refine (SCA.use (zeF _) (zk8 _) (fun a=>a.size<=1048576) (fun m h=>zaV h.1 _) (by first|exact HL.out|exact HL.out.last) (by ((repeat (first|with_reducible exact HW0.out _ _|with_reducible refine RdL.ext ?_ _)))) (by ((repeat (first|with_reducible exact HW1.out _ _|with_reducible refine RdL.ext ?_ _)))) (by ((repeat (first|with_reducible exact HW2.out _ _|with_reducible refine RdL.ext ?_ _))))).mono ?_);rintro e w' ⟨al,nl,x,m2,rfl,hx,ho,hb,hcw,HL2⟩;clear HL;have HL:=Hd HL2;clear HL2;obtain ⟨X,rfl⟩:=hb.ext;have HO:=Hd (OwnL.base (B':=w.heap.size+2) ho (by have:=Z;simp only [zm,zd];omega));clear ho hb;(try go_simp);refine hK _ _ (by show Sx _ _;repeat (first|with_reducible apply Sx.more|with_reducible apply Sx.ext|with_reducible exact Sx.refl _)) ?_;clear hK K)|(refine zr rfl (fun K hK=>?_);go_simp;(((go_at_call 225;refine (zbB _ _ _ (by omega) (by omega) (by omega) (by omega)).mono ?_);rintro e w' ⟨rfl,hb⟩;obtain ⟨X,rfl⟩:=hb.ext;clear hb));(try go_simp);refine hK _ _ (by show Sx _ _;repeat (first|with_reducible apply Sx.ext|with_reducible exact Sx.refl _)) ?_;clear hK K)|(refine zt rfl rfl (fun K hK=>?_);go_simp;refine hK _ _ ?_;clear hK K))
 have HO':=HO.out
 clear HO
 (try simp only [zp,zw,Array.append_assoc] at HO')
 (try simp only [zp,Array.append_assoc])
 refine zy (fun W0=>Below w.heap.size w W0/\W0.heap[w.heap.size]?=some _/\W0.heap[w.heap.size+1]?=some _/\OwnL zx 9 W0 (w.heap.size+2) (.slice al m2.rd.length nl) m2.rd/\w.heap.size+1<W0.heap.size) ⟨(zP B _ _).ofExt _,(zq Z _ _ _).1,(zq Z _ _ _).2,zlZ Z (by omega) HO' _ _,za (zq Z _ _ _).2⟩ ?_
 clear HO' HW0 HW1 HW2 B Z Zp
 rintro w3 ⟨B,P,R,ho,Z⟩
 have e1:=zj P R
 rw [<- e1]
 have HWA:=Hd (fun o r=>za2 ho (p:=w.heap.size) (by omega) o r)
 have Zp:=Nat.lt_of_succ_lt Z
 clear e1 P R ho
 (repeat (first|go_skip|go_guarded|go_step|go_upon|go_back))
 (go_at_call 192;refine (zc4 _ _ (by omega)).mono ?_)
 rintro e w2 ⟨b,hun,rfl,hb⟩
 obtain ⟨B',P,R,Z',Zx⟩:=zG B Z hb
 have e1:=zj P R
 rw [<- e1]
 have HWB:=Hd (fun o r=>za2 (zeM (HWA.out _ _) hb) (p:=w.heap.size) (by omega) o r)
 clear e1 P R hb HWA B Z Zp Zx
 have Zp:=Nat.lt_of_succ_lt Z'
 try simp only []
 obtain ⟨rfl,rfl⟩:=HL.out.end
 rcases hun with rfl|hun
 all_goals first|(rw [hun];cases b)|skip
 all_goals (
  (repeat (first|go_skip|go_guarded|go_step|go_upon|go_back))
  refine bodyPost_ret (by simp [results,Tryz.results222,go_sem,Z'];rfl) rfl ?_
  first
   | exact ⟨_,rfl,OwnL.base (HWB.out _ _) (by omega),zP B' _ _⟩
   | (rw [hun];exact ⟨_,rfl,OwnL.base (HWB.out _ _) (by omega),zP B' _ _⟩))
end Go.Proofs.YtpnoehpmgflibaaGreatDoor
