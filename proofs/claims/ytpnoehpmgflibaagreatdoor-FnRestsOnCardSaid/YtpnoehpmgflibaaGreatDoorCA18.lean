/- Texts of this claim, merged: the walks and what they stand on. Each condition stands in its theorem. -/
import Derived.Test.YtpnoehpmgflibaaGreatDoorCA16
import Derived.Test.YtpnoehpmgflibaaGreatDoorCA17
set_option linter.unusedVariables false
set_option linter.unusedSimpArgs false
set_option maxRecDepth 100000
set_option maxHeartbeats 8000000
namespace Go.Proofs.YtpnoehpmgflibaaGreatDoor
open Go.ChangeShapes Go.WideShapes Go.ChangeAt Go.RowKit
theorem Lft.fold_at {α β γ : Type} {f : β->α->Mp β} {xs:List α} {n:Nat} (hn:n<xs.length) {b : β} {κ : β->Mp γ} {m:MachD} {r : γ × MachD} (h:Lft (Mp.fold f b (xs.drop n) >>= κ) m r):Lft (f b xs[n] >>= fun b=>Mp.fold f b (xs.drop (n+1)) >>= κ) m r:=by
 rw [List.drop_eq_getElem_cons hn] at h
 rw [<- zam]
 exact h
theorem Lft.fold_end {α β γ : Type} {f : β->α->Mp β} {xs:List α} {n:Nat} (hn:xs.length<=n) {b : β} {κ : β->Mp γ} {m:MachD} {r : γ × MachD} (h:Lft (Mp.fold f b (xs.drop n) >>= κ) m r):Lft (κ b) m r:=by
 rw [List.drop_eq_nil_of_le hn] at h
 exact h
theorem ziL (n:Int) (n0 : -9223372036854775808<=n) (n1:n<=9223372036854775807):SC 127 (fun x=>#[x,.int .i64 n]) (K.tick n) (fun v' p=>.tuple #[v',.int .i64 p.1,.int .i64 p.2]):=by
 refine zeq (fun w m a0 c0 a1 c1 a2 c2 res mres H0 H1 H2 HL=>?_)
 unfold K.tick at HL
 ((repeat' ((rcases HL.out.ite with ⟨hg,HL2⟩|⟨hg,HL2⟩<;>(clear HL;have HL:=Hd HL2;clear HL2)))))
 all_goals (go_enter Tryz.func127,Tryz.ntmps127;((repeat (first|((with_reducible refine zcK (fun W0=>Below w.heap.size w W0/\W0.heap[w.heap.size]?=some (.cells #[.slice a0 m.cells.length c0,.slice a1 m.rd.length c1,.slice a2 m.wr.length c2] 54)/\W0.heap[w.heap.size+1]?=some (.cells #[.slice none 0 0,.slice none 0 0,.slice none 0 0] 54)) ?_ ?_);(· with_reducible exact zV w (.cells #[.slice a0 m.cells.length c0,.slice a1 m.rd.length c1,.slice a2 m.wr.length c2] 54) (.cells #[.slice none 0 0,.slice none 0 0,.slice none 0 0] 54) (by repeat (first|with_reducible exact Below.refl _ _|with_reducible apply Below.ofAlloc))))|go_skip|go_guarded|go_step|go_upon|go_back));(rintro w1 ⟨B,P,R⟩;have Z:=za R;have e1:=zj P R;rw [<- e1];have HW0:=Hd (fun o r=>H0.out.below (zP B o r));have HW1:=Hd (fun o r=>H1.out.below (zP B o r));have HW2:=Hd (fun o r=>H2.out.below (zP B o r));have Zp:=Nat.lt_of_succ_lt Z;clear e1 P R H0 H1 H2));all_goals ((repeat' (first|go_skip|go_guarded|go_step|go_upon|go_back|((((first|(go_at_call 180;refine (SC.use (zH _ _ (by omega) (by omega)) (fun _=>True) (fun _ _=>trivial) (by first|exact HL.out|exact HL.out.last) (⟨_,_,_,rfl,HW0.out _ _,HW1.out _ _,HW2.out _ _⟩ : MRd _ _ _)).mono ?_)|(go_at_call 175;refine (SC.use (zU _) (fun a=>0<=a/\a<=999) (fun m _=>zac _ m) (by first|exact HL.out|exact HL.out.last) (⟨_,_,_,rfl,HW0.out _ _,HW1.out _ _,HW2.out _ _⟩ : MRd _ _ _)).mono ?_));(rintro e w2 ⟨v2,x,m2,rfl,hx,hm,hb,HL2⟩);(obtain ⟨b0,d0,b1,d1,b2,d2,rfl,q0,q1,q2⟩:=hm.form;obtain ⟨B',P,R,Z',Zx⟩:=zG B Z hb;clear Zx;clear hm hb;(clear HW0 HW1 HW2 B Z;have e1:=zj P R;rw [<- e1];clear e1;have HW0:=Hd (fun o r=>zg (zf _) q0 P R o r);have HW1:=Hd (fun o r=>zg (zc _) q1 P R o r);have HW2:=Hd (fun o r=>zg (zc _) q2 P R o r);have B:=B';have Z:=Z';(try clear Zp);have Zp:=Nat.lt_of_succ_lt Z;clear B' Z' P R q0 q1 q2;(try simp only []));clear HL;have HL:=Hd HL2;clear HL2;(all_goals ((repeat' ((rcases HL.out.ite with ⟨hg,HL2⟩|⟨hg,HL2⟩<;>(clear HL;have HL:=Hd HL2;clear HL2))))))))))|((fail);(repeat (fail));have Q0':=Q0.out;have Q1':=Q1.out;have Q2':=Q2.out;clear Q0 Q1 Q2;refine zy (fun W0=>Below w.heap.size w W0/\W0.heap[w.heap.size]?=some _/\W0.heap[w.heap.size+1]?=some _/\RdL zu W0 (.slice f0 m2.cells.length g0) m2.cells/\RdL zx W0 (.slice f1 m2.rd.length g1) m2.rd/\RdL zx W0 (.slice f2 m2.wr.length g2) m2.wr/\w.heap.size+1<W0.heap.size) ⟨(zP B _ _).ofExt _,(zq Z _ _ _).1,(zq Z _ _ _).2,zl (zf _) Z Q0' _ _,zl (zc _) Z Q1' _ _,zl (zc _) Z Q2' _ _,za (zq Z _ _ _).2⟩ ?_;clear Q0' Q1' Q2';rintro w3 ⟨B',P,R,q0,q1,q2,Z'⟩;(clear HW0 HW1 HW2 B Z;have e1:=zj P R;rw [<- e1];clear e1;have HW0:=Hd (fun o r=>zg (zf _) q0 P R o r);have HW1:=Hd (fun o r=>zg (zc _) q1 P R o r);have HW2:=Hd (fun o r=>zg (zc _) q2 P R o r);have B:=B';have Z:=Z';(try clear Zp);have Zp:=Nat.lt_of_succ_lt Z;clear B' Z' P R q0 q1 q2))|(exfalso;(simp only [bne_eq_false_iff_eq,beq_eq_false_iff_ne,beq_iff_eq,bne_iff_ne] at *);omega)))))
 all_goals first
  | (obtain ⟨rfl,rfl⟩:=HL.out.end;refine bodyPost_ret (by simp [results,Tryz.results127,go_sem,Z];rfl) rfl ?_;exact ⟨_,rfl,⟨_,_,_,rfl,HW0.out _ _,HW1.out _ _,HW2.out _ _⟩,zP B _ _⟩)
  | skip
 rename Int=>clk
 (go_at_call 195;refine (SCL.use (zbC _) (KS _) (fun m h=>zcp _ m h) (by first|exact HL.out|exact HL.out.last) (⟨_,_,_,rfl,HW0.out _ _,HW1.out _ _,HW2.out _ _⟩ : MRd _ _ _)).mono ?_;rintro e w2 ⟨v2,al,nl,ks,m2,rfl,⟨hks,hrl⟩,hm,hb,HL2⟩;have hrl0:=hrl;obtain ⟨b0,d0,b1,d1,b2,d2,rfl,q0,q1,q2⟩:=hm.form;obtain ⟨B',P,R,Z',Zx⟩:=zG B Z hb;clear Zx;have HRL:=Hd (fun o r=>zg (zc _) hrl P R o r);clear hm hb hrl hrl0;(clear HW0 HW1 HW2 B Z;have e1:=zj P R;rw [<- e1];clear e1;have HW0:=Hd (fun o r=>zg (zf _) q0 P R o r);have HW1:=Hd (fun o r=>zg (zc _) q1 P R o r);have HW2:=Hd (fun o r=>zg (zc _) q2 P R o r);have B:=B';have Z:=Z';(try clear Zp);have Zp:=Nat.lt_of_succ_lt Z;clear B' Z' P R q0 q1 q2;(try simp only []));clear HL;have HL:=Hd HL2;clear HL2)
 (repeat (first|go_skip|go_guarded|go_step|go_upon|go_back))
 go_loopw [9,10,11] (fun kc k u11 wr=>∃ (n1:Nat) (c1:Int) (m1:MachD),k=.int .i64 n1/\n1<=ks.length/\kc=.int .i64 c1/\(0<=c1/\c1<=n1)/\MBx w wr m1/\RdL zx wr (.slice al ks.length nl) ks/\Lft (Mp.fold (K.tickOne (clk+n)) c1 (ks.drop n1) >>= fun k=>pure (k,(0:Int))) m1 (res,mres)) (fun _ k _ _=>ks.length - (intOf k).toNat)
 case atStart=>exact ⟨0,0,m2,rfl,Nat.zero_le _,rfl,⟨Int.le_refl _,Int.le_refl _⟩,(⟨_,_,_,_,_,_,zP B _ _,(zS Z _ _).1,(zS Z _ _).2,HW0.out _ _,HW1.out _ _,HW2.out _ _⟩ : MBx _ _ _),HRL.out _ _,HL.out⟩
 case round =>
  clear HL
  obtain ⟨i,cn,m1,rfl,hn,rfl,hcn,hbx,hrl,hl⟩:=hrel
  (obtain ⟨b0,d0,b1,d1,b2,d2,B',P,R,q0,q1,q2⟩:=hbx;have Z':=za R;clear HRL;have HRL:=Hd (fun o r=>zg (zc _) hrl P R o r);clear hrl;(clear HW0 HW1 HW2 B Z;have e1:=zj P R;rw [<- e1];clear e1;have HW0:=Hd (fun o r=>zg (zf _) q0 P R o r);have HW1:=Hd (fun o r=>zg (zc _) q1 P R o r);have HW2:=Hd (fun o r=>zg (zc _) q2 P R o r);have B:=B';have Z:=Z';(try clear Zp);have Zp:=Nat.lt_of_succ_lt Z;clear B' Z' P R q0 q1 q2;(try simp only [])))
  have hkl:=hks.1
  by_cases hlt:(i:Int)<ks.length
  case pos =>
   have hk:i<ks.length:=by omega
   have hl2:=hl.fold_at hk
   clear hl
   simp only [K.tickOne,zam,zc9,zar] at hl2
   have HL:=Hd hl2
   clear hl2
   obtain ⟨b,off,rfl,hbl,hce⟩:=zdq HRL.out hk (.cells #[] 0) (.cells #[] 0)
   rw [zd,zd] at hbl
   have hkz:=hks.2.1 _ (List.getElem_mem hk)
   have hky:=hks.2.2 _ (List.getElem_mem hk)
   have hky2 : 2<=ks[i].size:=hky
   clear hky
   have hky3:(2:Int)<=(ks[i].size:Int):=by omega
   generalize hkey:ks[i]=key at HL hce hkz hky2 hky3
   have hze:(key.extract 2 key.size).size<=1048576:=by rw [ByteArray.size_extract];omega
   have hnb:=zeO (key.extract 2 key.size)
   have HKE:=Hd hkey
   clear hkey
   (repeat (first|go_skip|go_guarded|go_step|go_upon|go_back))
   ((refine zi (id:=13) [(0,true),(1,true),(2,true),(3,true),(4,true),(5,false),(6,true),(7,true),(8,true),(9,false),(10,false)] 6 (by kernel_rfl) (by kernel_rfl) ?_);(repeat (first|(refine zk rfl (fun K hK=>?_);go_simp;refine hK _ ?_;clear hK K)|(refine zr rfl (fun K hK=>?_);go_simp;((((go_at_call 175;refine (SC.use (zU _) (fun a=>0<=a/\a<=999) (fun m _=>zac _ m) (by first|exact HL.out|exact HL.out.last) (⟨_,_,_,rfl,by (refine ⟨?_,?_,?_⟩<;>((repeat (first|with_reducible exact HW0.out _ _|with_reducible exact HW1.out _ _|with_reducible exact HW2.out _ _|with_reducible apply RdL.drew))))⟩ : MRd _ _ _)).mono ?_));(rintro e w' ⟨v2,x,m2,rfl,hx,hm,hb,HL2⟩);clear HL;have HL:=Hd HL2;clear HL2;obtain ⟨f0,g0,f1,g1,f2,g2,rfl,q0,q1,q2⟩:=hm.form;obtain ⟨X,rfl⟩:=hb.ext;have Q0:=Hd q0;have Q1:=Hd q1;have Q2:=Hd q2;clear hm q0 q1 q2 hb));(try go_simp);refine hK _ _ (by show Sx _ _;repeat (first|with_reducible apply Sx.ext|with_reducible exact Sx.refl _)) ?_;clear hK K)|(refine zt rfl rfl (fun K hK=>?_);go_simp;refine hK _ _ ?_;clear hK K)));have Q0':=Q0.out;have Q1':=Q1.out;have Q2':=Q2.out;clear Q0 Q1 Q2;refine zy (fun W0=>Below w.heap.size w W0/\W0.heap[w.heap.size]?=some _/\W0.heap[w.heap.size+1]?=some _/\RdL zu W0 (.slice f0 m2.cells.length g0) m2.cells/\RdL zx W0 (.slice f1 m2.rd.length g1) m2.rd/\RdL zx W0 (.slice f2 m2.wr.length g2) m2.wr/\w.heap.size+1<W0.heap.size/\RdL zx W0 _ ks) ⟨(zP B _ _).ofExt _,(zq Z _ _ _).1,(zq Z _ _ _).2,zl (zf _) Z Q0' _ _,zl (zc _) Z Q1' _ _,zl (zc _) Z Q2' _ _,za (zq Z _ _ _).2,(HRL.out _ _).ext _⟩ ?_;clear Q0' Q1' Q2';rintro w3 ⟨B',P,R,q0,q1,q2,Z',hrl⟩;clear HRL;have HRL:=Hd (fun o r=>zg (zc _) hrl P R o r);clear hrl;(clear HW0 HW1 HW2 B Z;have e1:=zj P R;rw [<- e1];clear e1;have HW0:=Hd (fun o r=>zg (zf _) q0 P R o r);have HW1:=Hd (fun o r=>zg (zc _) q1 P R o r);have HW2:=Hd (fun o r=>zg (zc _) q2 P R o r);have B:=B';have Z:=Z';(try clear Zp);have Zp:=Nat.lt_of_succ_lt Z;clear B' Z' P R q0 q1 q2);((repeat' ((rcases HL.out.ite with ⟨hg,HL2⟩|⟨hg,HL2⟩<;>(clear HL;have HL:=Hd HL2;clear HL2))))))
   ·(repeat (first|go_skip|go_guarded|go_step|go_upon|go_back))
    go_roundw
    case rel=>exact ⟨i+1,cn,m2,by go_num,by omega,rfl,by omega,(⟨_,_,_,_,_,_,zP B _ _,(zS Z _ _).1,(zS Z _ _).2,HW0.out _ _,HW1.out _ _,HW2.out _ _⟩ : MBx _ _ _),HRL.out _ _,HL.out⟩
    case measure=>simp [intOf];omega
   ·(obtain ⟨b',off',eq,hbl,hce⟩:=zdq HRL.out hk (.cells #[] 0) (.cells #[] 0);cases eq;rw [zd,zd] at hbl;rw [HKE.out] at hce)
    (repeat (first|go_skip|go_guarded|go_step|go_upon|go_back))
    ((refine zi (id:=15) [(0,true),(1,true),(2,true),(3,true),(4,true),(5,false),(6,false)] 6 (by kernel_rfl) (by kernel_rfl) ?_);(repeat (first|(refine zk rfl (fun K hK=>?_);go_simp;refine hK _ ?_;clear hK K)|(refine zr rfl (fun K hK=>?_);go_simp;((((go_at_call 182;refine (SC.use (zan _ _) (fun _=>True) (fun _ _=>trivial) (by first|exact HL.out|exact HL.out.last) (⟨_,_,_,rfl,by (refine ⟨?_,?_,?_⟩<;>((repeat (first|with_reducible exact HW0.out _ _|with_reducible exact HW1.out _ _|with_reducible exact HW2.out _ _|with_reducible apply RdL.drew))))⟩ : MRd _ _ _)).mono ?_));(rintro e w' ⟨v2,x,m2,rfl,hx,hm,hb,HL2⟩);clear HL;have HL:=Hd HL2;clear HL2;obtain ⟨f0,g0,f1,g1,f2,g2,rfl,q0,q1,q2⟩:=hm.form;obtain ⟨X,rfl⟩:=hb.ext;have Q0:=Hd q0;have Q1:=Hd q1;have Q2:=Hd q2;clear hm q0 q1 q2 hb));(try go_simp);refine hK _ _ (by show Sx _ _;repeat (first|with_reducible apply Sx.ext|with_reducible exact Sx.refl _)) ?_;clear hK K)|(refine zt rfl rfl (fun K hK=>?_);go_simp;refine hK _ _ ?_;clear hK K)));have Q0':=Q0.out;have Q1':=Q1.out;have Q2':=Q2.out;clear Q0 Q1 Q2;refine zy (fun W0=>Below w.heap.size w W0/\W0.heap[w.heap.size]?=some _/\W0.heap[w.heap.size+1]?=some _/\RdL zu W0 (.slice f0 m2.cells.length g0) m2.cells/\RdL zx W0 (.slice f1 m2.rd.length g1) m2.rd/\RdL zx W0 (.slice f2 m2.wr.length g2) m2.wr/\w.heap.size+1<W0.heap.size/\RdL zx W0 _ ks) ⟨(zP B _ _).ofExt _,(zq Z _ _ _).1,(zq Z _ _ _).2,zl (zf _) Z Q0' _ _,zl (zc _) Z Q1' _ _,zl (zc _) Z Q2' _ _,za (zq Z _ _ _).2,(HRL.out _ _).ext _⟩ ?_;clear Q0' Q1' Q2';rintro w3 ⟨B',P,R,q0,q1,q2,Z',hrl⟩;clear HRL;have HRL:=Hd (fun o r=>zg (zc _) hrl P R o r);clear hrl;(clear HW0 HW1 HW2 B Z;have e1:=zj P R;rw [<- e1];clear e1;have HW0:=Hd (fun o r=>zg (zf _) q0 P R o r);have HW1:=Hd (fun o r=>zg (zc _) q1 P R o r);have HW2:=Hd (fun o r=>zg (zc _) q2 P R o r);have B:=B';have Z:=Z';(try clear Zp);have Zp:=Nat.lt_of_succ_lt Z;clear B' Z' P R q0 q1 q2))
    (obtain ⟨b',off',eq,hbl,hce⟩:=zdq HRL.out hk (.cells #[] 0) (.cells #[] 0);cases eq;rw [zd,zd] at hbl;rw [HKE.out] at hce)
    (repeat (first|go_skip|go_guarded|go_step|go_upon|go_back))
    ((refine zi (id:=16) [(0,true),(1,true),(2,true),(3,true),(4,true),(5,true),(6,false),(7,false),(8,true),(9,true),(10,true),(11,false)] 8 (by kernel_rfl) (by kernel_rfl) ?_);(repeat (first|(refine zk rfl (fun K hK=>?_);go_simp;refine hK _ ?_;clear hK K)|(refine zr rfl (fun K hK=>?_);go_simp;(first|((go_at_call 196;refine (zcQ _ _ (by omega)).mono ?_);rintro e w' ⟨rfl,hb⟩;obtain ⟨X,rfl⟩:=hb.ext;clear hb)|(((go_at_call 124;refine (SC.use (zcr _ (by omega) (by omega) _ (by omega) (by omega)) (fun _=>True) (fun _ _=>trivial) (by first|exact HL.out|exact HL.out.last) (⟨_,_,_,rfl,by (refine ⟨?_,?_,?_⟩<;>((repeat (first|with_reducible exact HW0.out _ _|with_reducible exact HW1.out _ _|with_reducible exact HW2.out _ _|with_reducible refine RdL.ext ?_ _))))⟩ : MRd _ _ _)).mono ?_));(rintro e w' ⟨v2,x,m2,rfl,hx,hm,hb,HL2⟩);clear HL;have HL:=Hd HL2;clear HL2;obtain ⟨f0,g0,f1,g1,f2,g2,rfl,q0,q1,q2⟩:=hm.form;obtain ⟨X,rfl⟩:=hb.ext;have Q0:=Hd q0;have Q1:=Hd q1;have Q2:=Hd q2;clear hm q0 q1 q2 hb));(try go_simp);refine hK _ _ (by show Sx _ _;repeat (first|with_reducible apply Sx.more|with_reducible apply Sx.ext|with_reducible exact Sx.refl _)) ?_;clear hK K)|(refine zt rfl rfl (fun K hK=>?_);go_simp;refine hK _ _ ?_;clear hK K)));have Q0':=Q0.out;have Q1':=Q1.out;have Q2':=Q2.out;clear Q0 Q1 Q2;(try simp only [zp,zw,Array.append_assoc] at Q0' Q1' Q2');refine zy (fun W0=>Below w.heap.size w W0/\W0.heap[w.heap.size]?=some _/\W0.heap[w.heap.size+1]?=some _/\RdL zu W0 (.slice f0 m2.cells.length g0) m2.cells/\RdL zx W0 (.slice f1 m2.rd.length g1) m2.rd/\RdL zx W0 (.slice f2 m2.wr.length g2) m2.wr/\w.heap.size+1<W0.heap.size/\RdL zx W0 _ ks) ⟨(zP B _ _).ofExt _,(zq Z _ _ _).1,(zq Z _ _ _).2,zl (zf _) Z Q0' _ _,zl (zc _) Z Q1' _ _,zl (zc _) Z Q2' _ _,za (zq Z _ _ _).2,(HRL.out _ _).ext _⟩ ?_;clear Q0' Q1' Q2';rintro w3 ⟨B',P,R,q0,q1,q2,Z',hrl⟩;clear HRL;have HRL:=Hd (fun o r=>zg (zc _) hrl P R o r);clear hrl;(clear HW0 HW1 HW2 B Z;have e1:=zj P R;rw [<- e1];clear e1;have HW0:=Hd (fun o r=>zg (zf _) q0 P R o r);have HW1:=Hd (fun o r=>zg (zc _) q1 P R o r);have HW2:=Hd (fun o r=>zg (zc _) q2 P R o r);have B:=B';have Z:=Z';(try clear Zp);have Zp:=Nat.lt_of_succ_lt Z;clear B' Z' P R q0 q1 q2))
    (repeat (first|go_skip|go_guarded|go_step|go_upon|go_back))
    go_roundw
    case rel=>exact ⟨i+1,cn+1,m2,by go_num,by omega,rfl,by omega,(⟨_,_,_,_,_,_,zP B _ _,(zS Z _ _).1,(zS Z _ _).2,HW0.out _ _,HW1.out _ _,HW2.out _ _⟩ : MBx _ _ _),HRL.out _ _,HL.out⟩
    case measure=>simp [intOf];omega
  case neg =>
   have HL:=Hd (hl.fold_end (by omega))
   (repeat (first|go_skip|go_guarded|go_step|go_upon|go_back))
   all_goals (obtain ⟨rfl,rfl⟩:=HL.out.end;refine bodyPost_ret (by simp [results,Tryz.results127,go_sem,Z];rfl) rfl ?_;exact ⟨_,rfl,⟨_,_,_,rfl,HW0.out _ _,HW1.out _ _,HW2.out _ _⟩,zP B _ _⟩)
def SCI (f:FuncId) (args:Value->Array Value) (p:Mp (List Int)):Prop :=
 ∀ (w:World) (v:Value) (m:MachD),MRd w v m->p.fits m->Calls Tryz.prog f (args v) w fun e w'=>∃ v' vs,e=.returned (.tuple #[v',vs])/\OwnL zep 3 w' w.heap.size vs (p.run m).1/\SS w w' v' (p.run m).2
structure KSt (w:World) (m2:MachD) (s0 s2 kv:Value) (ks:List ByteArray) (wr:World) (m1:MachD) (a1:Option Addr) (n1:Nat) (o:Value) (xs:List Int) (t:TypeId):Prop where
 bel:Below w.heap.size w wr
 at0:wr.heap[w.heap.size]?=some (.cells #[s0,.slice a1 m1.rd.length n1,s2] 54)
 at1:wr.heap[w.heap.size+1]?=some (.cells #[.slice none 0 0,.slice none 0 0,.slice none 0 0] 54)
 r0:RdL zu wr s0 m2.cells
 r1:RdL zx wr (.slice a1 m1.rd.length n1) m1.rd
 r2:RdL zx wr s2 m2.wr
 rk:RdL zx wr kv ks
 own:OwnL zep t wr (w.heap.size+2) o xs
 o0:Off m2.cells s0 o
 o1:Off m1.rd (.slice a1 m1.rd.length n1) o
 o2:Off m2.wr s2 o
 ok:Off ks kv o
 cl:m1.cells=m2.cells
 wl:m1.wr=m2.wr
theorem ze9:Elem Tryz.prog 98 3 1 8:=Elem.of (.int .i64 0) Tryz.underlying98 (by kernel_rfl) rfl (by decide)
theorem zib {k:ByteArray} (h:k.size<5):K.isKidKey k=false:=by
 unfold K.isKidKey
 rw [decide_eq_false (by omega)]
 rfl
theorem zic {k:ByteArray} (h : 5<=k.size):K.isKidKey k=((k.extract (k.size - 2) k.size).toList == [47,112]):=by
 unfold K.isKidKey
 rw [decide_eq_true h,ByteArray.toList_eq]
 rfl
theorem zhc (parent:Int) (p0 : -9223372036854775808<=parent) (p1:parent<=9223372036854775807):SCI 202 (fun x=>#[x,.int .i64 parent]) (K.kids parent):=by
 intro w v m hm hf
 obtain ⟨a0,c0,a1,c1,a2,c2,rfl,H0,H1,H2⟩:=hm.form
 have H0:Hid _:=H0
 have H1:Hid _:=H1
 have H2:Hid _:=H2
 obtain ⟨res,mres,hr⟩ : ∃ res mres,(K.kids parent).run m=(res,mres):=⟨_,_,rfl⟩
 have HL:Hid (Lft (K.kids parent) m (res,mres)):=⟨hf,hr⟩
 rw [hr]
 clear hr hf hm
 unfold K.kids at HL
 go_enter Tryz.func202,Tryz.ntmps202
 (try simp only [])
 ((repeat (first|((with_reducible refine zcK (fun W0=>Below w.heap.size w W0/\W0.heap[w.heap.size]?=some (.cells #[.slice a0 m.cells.length c0,.slice a1 m.rd.length c1,.slice a2 m.wr.length c2] 54)/\W0.heap[w.heap.size+1]?=some (.cells #[.slice none 0 0,.slice none 0 0,.slice none 0 0] 54)) ?_ ?_);(· with_reducible exact zV w (.cells #[.slice a0 m.cells.length c0,.slice a1 m.rd.length c1,.slice a2 m.wr.length c2] 54) (.cells #[.slice none 0 0,.slice none 0 0,.slice none 0 0] 54) (by repeat (first|with_reducible exact Below.refl _ _|with_reducible apply Below.ofAlloc))))|go_skip|go_guarded|go_step|go_upon|go_back));(rintro w1 ⟨B,P,R⟩;have Z:=za R;have e1:=zj P R;rw [<- e1];have HW0:=Hd (fun o r=>H0.out.below (zP B o r));have HW1:=Hd (fun o r=>H1.out.below (zP B o r));have HW2:=Hd (fun o r=>H2.out.below (zP B o r));have Zp:=Nat.lt_of_succ_lt Z;clear e1 P R H0 H1 H2))
 (repeat (first|go_skip|go_guarded|go_step|go_upon|go_back))
 (go_at_call 195;refine (SCL.use (zbC _) (KS _) (fun m h=>zcp _ m h) (by first|exact HL.out|exact HL.out.last) (⟨_,_,_,rfl,HW0.out _ _,HW1.out _ _,HW2.out _ _⟩ : MRd _ _ _)).mono ?_;rintro e w2 ⟨v2,al,nl,ks,m2,rfl,⟨hks,hrl⟩,hm,hb,HL2⟩;have hrl0:=hrl;obtain ⟨b0,d0,b1,d1,b2,d2,rfl,q0,q1,q2⟩:=hm.form;obtain ⟨B',P,R,Z',Zx⟩:=zG B Z hb;clear Zx;have HRL:=Hd (fun o r=>zg (zc _) hrl P R o r);clear hm hb hrl hrl0;(clear HW0 HW1 HW2 B Z;have e1:=zj P R;rw [<- e1];clear e1;have HW0:=Hd (fun o r=>zg (zf _) q0 P R o r);have HW1:=Hd (fun o r=>zg (zc _) q1 P R o r);have HW2:=Hd (fun o r=>zg (zc _) q2 P R o r);have B:=B';have Z:=Z';(try clear Zp);have Zp:=Nat.lt_of_succ_lt Z;clear B' Z' P R q0 q1 q2;(try simp only []));clear HL;have HL:=Hd HL2;clear HL2)
 (repeat (first|go_skip|go_guarded|go_step|go_upon|go_back))
 have hkl:=hks.1
 go_loopw [7,8,9,10] (fun o k u9 u10 wr=>∃ (n:Nat) (xs:List Int) (m1:MachD) (a1:Option Addr) (n1:Nat),k=.int .i64 n/\n<=ks.length/\xs.length<=n/\KSt w m2 (.slice b0 m2.cells.length d0) (.slice b2 m2.wr.length d2) (.slice al ks.length nl) ks wr m1 a1 n1 o xs 3/\Lft (Mp.fold (K.kid parent) xs (ks.drop n) >>= pure) m1 (res,mres)) (fun _ k _ _ _=>ks.length - (intOf k).toNat)
 case atStart =>
  have hz:w.heap.size+2<=w2.heap.size:=Z
  refine ⟨0,[],m2,b1,d1,rfl,Nat.zero_le _,Nat.le_refl _,⟨(zP B _ _).ofAlloc _,?_,?_,(HW0.out _ _).alloc _,(HW1.out _ _).alloc _,(HW2.out _ _).alloc _,(HRL.out _ _).alloc _,?_,?_,?_,?_,?_,rfl,rfl⟩,HL.out.last⟩
  ·have h:=(zS Z (.cells #[.slice b0 m2.cells.length d0,.slice b1 m2.rd.length d1,.slice b2 m2.wr.length d2] 54) (.cells #[.slice none 0 0,.slice none 0 0,.slice none 0 0] 54)).1
   exact (heap_alloc_old _ _ (za h)).trans h
  ·have h:=(zS Z (.cells #[.slice b0 m2.cells.length d0,.slice b1 m2.rd.length d1,.slice b2 m2.wr.length d2] 54) (.cells #[.slice none 0 0,.slice none 0 0,.slice none 0 0] 54)).2
   exact (heap_alloc_old _ _ (za h)).trans h
  ·have h:=OwnL.empty zep 3 ((w2.setB (w.heap.size+1) (.cells #[.slice none 0 0,.slice none 0 0,.slice none 0 0] 54)).setB w.heap.size (.cells #[.slice b0 m2.cells.length d0,.slice b1 m2.rd.length d1,.slice b2 m2.wr.length d2] 54))
   rw [zd,zd] at h
   exact OwnL.base h hz
  ·exact Off.fresh (by decide) (HW0.out (.cells #[] 0) (.cells #[] 0)) (fun k hk=>by cases hk;rw [zd,zd];exact Nat.le_refl _)
  ·exact Off.fresh (by decide) (HW1.out (.cells #[] 0) (.cells #[] 0)) (fun k hk=>by cases hk;rw [zd,zd];exact Nat.le_refl _)
  ·exact Off.fresh (by decide) (HW2.out (.cells #[] 0) (.cells #[] 0)) (fun k hk=>by cases hk;rw [zd,zd];exact Nat.le_refl _)
  ·exact Off.fresh (by decide) (HRL.out (.cells #[] 0) (.cells #[] 0)) (fun k hk=>by cases hk;rw [zd,zd];exact Nat.le_refl _)
 case round =>
  clear HL
  obtain ⟨n,xs,m1,a1,n1,rfl,hn,hxl,hst,hl⟩:=hrel
  obtain ⟨B',P,R,q0,q1,q2,qk,ho,f0,f1,f2,fk,hcl,hwl⟩:=hst
  have Z':=za R
  obtain ⟨oa,oc,rfl⟩:=ho.rd.form
  clear HRL HW0 HW1 HW2 B Z Zp
  have e1:=zj P R
  rw [<- e1]
  clear e1
  have HW0:=Hd (fun o r=>zg (zf _) q0 P R o r)
  have HW1:=Hd (fun o r=>zg (zc _) q1 P R o r)
  have HW2:=Hd (fun o r=>zg (zc _) q2 P R o r)
  have HRL:=Hd (fun o r=>zg (zc _) qk P R o r)
  have HO:=Hd (fun o r=>za2 ho (p:=w.heap.size) (by omega) o r)
  have HF:=Hd (And.intro f0 (And.intro f1 (And.intro f2 (And.intro fk (And.intro hcl hwl)))))
  have B:=B'
  have Z:=Z'
  have Zp:=Nat.lt_of_succ_lt Z
  clear B' Z' P R q0 q1 q2 qk ho f0 f1 f2 fk hcl hwl
  by_cases hlt:(n:Int)<ks.length
  case neg =>
   have HL:=Hd (Lft.fold_end (κ:=pure) (by omega) hl)
   (repeat (first|go_skip|go_guarded|go_step|go_upon|go_back))
   refine bodyPost_ret (by simp [results,Tryz.results202,go_sem,Z];rfl) rfl ?_
   obtain ⟨rfl,rfl⟩:=HL.out.end
   have hcl:=HF.out.2.2.2.2.1
   have hwl:=HF.out.2.2.2.2.2
   exact ⟨_,_,rfl,OwnL.base (HO.out _ _) (by omega),⟨_,_,_,rfl,by rw [hcl];exact HW0.out _ _,HW1.out _ _,by rw [hwl];exact HW2.out _ _⟩,zP B _ _⟩
  case pos =>
   have hk:n<ks.length:=by omega
   have hl2:=Lft.fold_at (κ:=pure) hk hl
   clear hl
   obtain ⟨b,off,rfl,hbl,hce⟩:=zdq HRL.out hk (.cells #[] 0) (.cells #[] 0)
   rw [zd,zd] at hbl
   have hkz:=hks.2.1 _ (List.getElem_mem hk)
   generalize ks[n]=key at hl2 hce hkz
   unfold K.kid at hl2
   by_cases h5:key.size<5
   case pos =>
    rw [zib h5,if_neg (by decide),zar] at hl2
    have HL:=Hd hl2
    clear hl2
    (repeat (first|go_skip|go_guarded|go_step|go_upon|go_back))
    go_roundw
    case rel=>exact ⟨n+1,xs,m1,a1,n1,by go_num,by omega,by omega,(⟨zP B _ _,(zS Z _ _).1,(zS Z _ _).2,HW0.out _ _,HW1.out _ _,HW2.out _ _,HRL.out _ _,HO.out _ _,HF.out.1,HF.out.2.1,HF.out.2.2.1,HF.out.2.2.2.1,HF.out.2.2.2.2.1,HF.out.2.2.2.2.2⟩ : KSt _ _ _ _ _ _ _ _ _ _ _ _ _),HL.out⟩
    case measure=>simp [intOf];omega
   case neg =>
    have h5' : 5<=key.size:=by omega
    have hs2:wrap64 ((key.size:Int) - 2)=(key.size:Int) - 2:=IntWalk.wrap64_in _ (by omega)
    rw [zic h5'] at hl2
    by_cases hsf:((key.extract (key.size - 2) key.size).toList == [47,112])=true
    case neg =>
     have hsn:((key.extract (key.size - 2) key.size).toList == [47,112])=false:=by simpa using hsf
     rw [hsn,if_neg (by decide),zar] at hl2
     have HL:=Hd hl2
     clear hl2
     (repeat (first|go_skip|go_guarded|go_step|go_upon|go_back))
     exact ⟨⟨n+1,xs,m1,a1,n1,by go_num,by omega,by omega,(⟨zP B _ _,(zS Z _ _).1,(zS Z _ _).2,HW0.out _ _,HW1.out _ _,HW2.out _ _,HRL.out _ _,HO.out _ _,HF.out.1,HF.out.2.1,HF.out.2.2.1,HF.out.2.2.2.1,HF.out.2.2.2.2.1,HF.out.2.2.2.2.2⟩ : KSt _ _ _ _ _ _ _ _ _ _ _ _ _),HL.out⟩,by simp [intOf];omega⟩
    case pos =>
     rw [hsf,if_pos rfl,zam] at hl2
     have HL:=Hd hl2
     clear hl2
     (repeat (first|go_skip|go_guarded|go_step|go_upon|go_back))
     have hcl:=HF.out.2.2.2.2.1
     have hwl:=HF.out.2.2.2.2.2
     (go_at_call 175;refine (SCA.use (zhe _) (zl5 _) (fun a=>0<=a/\a<=999) (fun m _=>zac _ m) HL.out (by rw [hcl];exact HW0.out _ _) (HW1.out _ _) (by rw [hwl];exact HW2.out _ _)).mono ?_)
     rintro e w5 ⟨a3,n3,up,m3,rfl,hup,ho3,hb,hcw,HL2⟩
     have hoff:=Off.later (xs:=m3.rd) ho3 (fun k hk=>((HO.out _ _).lt k hk).2)
     have q0:=(HW0.out _ _).below hb
     have q1:=ho3.rd
     have q2:=(HW2.out _ _).below hb
     have qk:=(HRL.out _ _).below hb
     have qo:=zeM (HO.out _ _) hb
     have HF:=Hd (And.intro HF.out.1 (And.intro hoff (And.intro HF.out.2.2.1 (And.intro HF.out.2.2.2.1 (And.intro (hcw.1.trans hcl) (hcw.2.trans hwl))))))
     obtain ⟨B',P,R,Z',Zx⟩:=zG B Z hb
     clear Zx hb ho3 hcl hwl hcw hoff
     (try dsimp only at HL2);clear HL;have HL:=Hd HL2;clear HL2
     (clear HW0 HW1 HW2 HRL HO B Z Zp;have e1:=zj P R;rw [<- e1];clear e1;have HW0:=Hd (fun o r=>zg (zf _) q0 P R o r);have HW1:=Hd (fun o r=>zg (zc _) q1 P R o r);have HW2:=Hd (fun o r=>zg (zc _) q2 P R o r);have HRL:=Hd (fun o r=>zg (zc _) qk P R o r);have HO:=Hd (fun o r=>za2 qo (p:=w.heap.size) (by omega) o r);have B:=B';have Z:=Z';have Zp:=Nat.lt_of_succ_lt Z;clear B' Z' P R q0 q1 q2 qk qo;(try simp only []))
     by_cases hpu:up=parent
     case neg =>
      have hl3:=HL.out
      rw [if_neg hpu,zar] at hl3
      clear HL
      have HL:=Hd hl3
      clear hl3
      (repeat (first|go_skip|go_guarded|go_step|go_upon|go_back))
      go_roundw
      case rel=>exact ⟨n+1,xs,m3,a3,n3,by go_num,by omega,by omega,(⟨zP B _ _,(zS Z _ _).1,(zS Z _ _).2,HW0.out _ _,HW1.out _ _,HW2.out _ _,HRL.out _ _,HO.out _ _,HF.out.1,HF.out.2.1,HF.out.2.2.1,HF.out.2.2.2.1,HF.out.2.2.2.2.1,HF.out.2.2.2.2.2⟩ : KSt _ _ _ _ _ _ _ _ _ _ _ _ _),HL.out⟩
      case measure=>simp [intOf];omega
     case pos =>
      have hl3:=HL.out
      rw [if_pos hpu,zar] at hl3
      clear HL
      have HL:=Hd hl3
      clear hl3
      have hze:(key.extract 2 (key.size - 2)).size<=1048576:=by rw [ByteArray.size_extract];omega
      have hq2:(2:Int)<=(key.size:Int) - 2:=by omega
      (repeat (first|go_skip|go_guarded|go_step|go_upon|go_back))
      (go_at_call 196;refine (zcQ _ _ (by omega)).mono ?_)
      rintro e w6 ⟨rfl,hb⟩
      have q0:=(HW0.out _ _).below hb
      have q1:=(HW1.out _ _).below hb
      have q2:=(HW2.out _ _).below hb
      have qk:=(HRL.out _ _).below hb
      have qo:=zeM (HO.out _ _) hb
      obtain ⟨B',P,R,Z',Zx⟩:=zG B Z hb
      clear Zx hb
      (clear HW0 HW1 HW2 HRL HO B Z Zp;have e1:=zj P R;rw [<- e1];clear e1;have HW0:=Hd (fun o r=>zg (zf _) q0 P R o r);have HW1:=Hd (fun o r=>zg (zc _) q1 P R o r);have HW2:=Hd (fun o r=>zg (zc _) q2 P R o r);have HRL:=Hd (fun o r=>zg (zc _) qk P R o r);have HO:=Hd (fun o r=>za2 qo (p:=w.heap.size) (by omega) o r);have B:=B';have Z:=Z';have Zp:=Nat.lt_of_succ_lt Z;clear B' Z' P R q0 q1 q2 qk qo;(try simp only []))
      generalize za0 (key.extract 2 (key.size - 2))=val at HL ⊢
      go_wp2_with (at_builtin;refine zA ?_)
      refine zaK rfl _ _ _ rfl ze9 ((HO.out _ _).alloc _) rfl (RdL.oneAt zep _ val _ rfl _ _ (by rw [zd,zd])) rfl (by simp only [List.length_singleton];omega) (by simp only [List.length_singleton];unfold maxLen;omega) (by simp [zd];omega) ?_
      intro v7 w7 hown hg hfr
      have hlt:=fun k hk=>((HO.out (.cells #[.slice b0 m2.cells.length d0,.slice a3 m3.rd.length n3,.slice b2 m2.wr.length d2] 54) (.cells #[.slice none 0 0,.slice none 0 0,.slice none 0 0] 54)).lt k hk)
      have hP:=zS Z (.cells #[.slice b0 m2.cells.length d0,.slice a3 m3.rd.length n3,.slice b2 m2.wr.length d2] 54) (.cells #[.slice none 0 0,.slice none 0 0,.slice none 0 0] 54)
      have k0:=(HW0.out (.cells #[.slice b0 m2.cells.length d0,.slice a3 m3.rd.length n3,.slice b2 m2.wr.length d2] 54) (.cells #[.slice none 0 0,.slice none 0 0,.slice none 0 0] 54)).alloc (.cells #[.int .i64 val] 3)
      have k1:=(HW1.out (.cells #[.slice b0 m2.cells.length d0,.slice a3 m3.rd.length n3,.slice b2 m2.wr.length d2] 54) (.cells #[.slice none 0 0,.slice none 0 0,.slice none 0 0] 54)).alloc (.cells #[.int .i64 val] 3)
      have k2:=(HW2.out (.cells #[.slice b0 m2.cells.length d0,.slice a3 m3.rd.length n3,.slice b2 m2.wr.length d2] 54) (.cells #[.slice none 0 0,.slice none 0 0,.slice none 0 0] 54)).alloc (.cells #[.int .i64 val] 3)
      have kk:=(HRL.out (.cells #[.slice b0 m2.cells.length d0,.slice a3 m3.rd.length n3,.slice b2 m2.wr.length d2] 54) (.cells #[.slice none 0 0,.slice none 0 0,.slice none 0 0] 54)).alloc (.cells #[.int .i64 val] 3)
      have hfx:=HF.out
      have HK:Hid (KSt w m2 (.slice b0 m2.cells.length d0) (.slice b2 m2.wr.length d2) (.slice (some ⟨b,off,none⟩) ks.length nl) ks w7 m3 a3 n3 v7 (xs ++ [val]) 3):=by
       refine ⟨Below.appL ((zP B _ _).ofAlloc _) hg (OwnL.base ((HO.out _ _).alloc _) (by omega)),?_,?_,k0.keptO hfx.1 hg,k1.keptO hfx.2.1 hg,k2.keptO hfx.2.2.1 hg,kk.keptO hfx.2.2.2.1 hg,hown,hfx.1.next (by decide) k0 hfr,hfx.2.1.next (by decide) k1 hfr,hfx.2.2.1.next (by decide) k2 hfr,hfx.2.2.2.1.next (by decide) kk hfr,hfx.2.2.2.2.1,hfx.2.2.2.2.2⟩
       ·exact (hg.block _ (by simp [zd];omega) (fun e=>by have:=(hlt _ e.symm).1;omega)).trans ((heap_alloc_old _ _ (za hP.1)).trans hP.1)
       ·exact (hg.block _ (by simp [zd];omega) (fun e=>by have:=(hlt _ e.symm).1;omega)).trans ((heap_alloc_old _ _ (za hP.2)).trans hP.2)
      clear hown hg hfr hlt hP k0 k1 k2 kk hfx
      ((try simp only []);repeat (first|go_skip|go_guarded|go_step|go_upon|go_back))
      go_roundw
      case rel=>exact ⟨n+1,xs ++ [val],m3,a3,n3,by go_num,by omega,by simp;omega,HK.out,HL.out⟩
      case measure=>simp [intOf];omega
theorem zks {α β : Type} (f : α->β) (xs:List α) (n:Nat) (hn:n<xs.length):(xs.take (n+1)).map f=(xs.take n).map f ++ [f xs[n]]:=by
 rw [List.take_succ_eq_append_getElem hn,List.map_append]
 rfl
theorem zjU {α : Type} {R:RowOf α} {e:TypeId} {w:World} {B:Nat} {v:Value} {xs:List α} {p:Nat} {o r:Obj} {X:Ext} (hz:p+1<w.heap.size) (h:OwnL R e (((w.ext X).setB (p+1) r).setB p o) B v xs):OwnL R e (((w.setB (p+1) r).setB p o).ext X) B v xs:=by
 rwa [zay _ _ _ _ hz,zay _ _ _ _ (by rw [zd];omega)] at h
theorem zgt:SCL 184 (fun x=>#[x]) K.names:=by
 intro w v m hm hf
 obtain ⟨a0,c0,a1,c1,a2,c2,rfl,H0,H1,H2⟩:=hm.form
 have H0:Hid _:=H0
 have H1:Hid _:=H1
 have H2:Hid _:=H2
 obtain ⟨res,mres,hr⟩ : ∃ res mres,K.names.run m=(res,mres):=⟨_,_,rfl⟩
 have HL:Hid (Lft K.names m (res,mres)):=⟨hf,hr⟩
 rw [hr]
 clear hr hf hm
 unfold K.names at HL
 go_enter Tryz.func184,Tryz.ntmps184
 (try simp only [])
 ((repeat (first|((with_reducible refine zcK (fun W0=>Below w.heap.size w W0/\W0.heap[w.heap.size]?=some (.cells #[.slice a0 m.cells.length c0,.slice a1 m.rd.length c1,.slice a2 m.wr.length c2] 54)/\W0.heap[w.heap.size+1]?=some (.cells #[.slice none 0 0,.slice none 0 0,.slice none 0 0] 54)) ?_ ?_);(· with_reducible exact zV w (.cells #[.slice a0 m.cells.length c0,.slice a1 m.rd.length c1,.slice a2 m.wr.length c2] 54) (.cells #[.slice none 0 0,.slice none 0 0,.slice none 0 0] 54) (by repeat (first|with_reducible exact Below.refl _ _|with_reducible apply Below.ofAlloc))))|go_skip|go_guarded|go_step|go_upon|go_back));(rintro w1 ⟨B,P,R⟩;have Z:=za R;have e1:=zj P R;rw [<- e1];have HW0:=Hd (fun o r=>H0.out.below (zP B o r));have HW1:=Hd (fun o r=>H1.out.below (zP B o r));have HW2:=Hd (fun o r=>H2.out.below (zP B o r));have Zp:=Nat.lt_of_succ_lt Z;clear e1 P R H0 H1 H2))
 (repeat (first|go_skip|go_guarded|go_step|go_upon|go_back))
 (go_at_call 195;refine (SCL.use (zbC _) (KS _) (fun m h=>zcp _ m h) (by first|exact HL.out|exact HL.out.last) (⟨_,_,_,rfl,HW0.out _ _,HW1.out _ _,HW2.out _ _⟩ : MRd _ _ _)).mono ?_;rintro e w2 ⟨v2,al,nl,ks,m2,rfl,⟨hks,hrl⟩,hm,hb,HL2⟩;have hrl0:=hrl;obtain ⟨b0,d0,b1,d1,b2,d2,rfl,q0,q1,q2⟩:=hm.form;obtain ⟨B',P,R,Z',Zx⟩:=zG B Z hb;clear Zx;have HRL:=Hd (fun o r=>zg (zc _) hrl P R o r);clear hm hb hrl hrl0;(clear HW0 HW1 HW2 B Z;have e1:=zj P R;rw [<- e1];clear e1;have HW0:=Hd (fun o r=>zg (zf _) q0 P R o r);have HW1:=Hd (fun o r=>zg (zc _) q1 P R o r);have HW2:=Hd (fun o r=>zg (zc _) q2 P R o r);have B:=B';have Z:=Z';(try clear Zp);have Zp:=Nat.lt_of_succ_lt Z;clear B' Z' P R q0 q1 q2;(try simp only []));clear HL;have HL:=Hd HL2;clear HL2)
 (repeat (first|go_skip|go_guarded|go_step|go_upon|go_back))
 have hks3:∀ k ∈ ks,2<=k.size:=hks.2.2
 refine zcK (fun W0=>∃ wb,W0=wb.alloc (.cells #[] 9)/\MBx w wb m2/\RdL zx wb (.slice al ks.length nl) ks/\wb.heap.size=w2.heap.size/\wb.heap[w.heap.size]?=some (.cells #[.slice b0 m2.cells.length d0,.slice b1 m2.rd.length d1,.slice b2 m2.wr.length d2] 54)/\wb.heap[w.heap.size+1]?=some (.cells #[.slice none 0 0,.slice none 0 0,.slice none 0 0] 54)/\Below w.heap.size w wb/\RdL zu wb (.slice b0 m2.cells.length d0) m2.cells/\RdL zx wb (.slice b1 m2.rd.length d1) m2.rd/\RdL zx wb (.slice b2 m2.wr.length d2) m2.wr) ⟨_,rfl,(⟨_,_,_,_,_,_,zP B _ _,(zS Z _ _).1,(zS Z _ _).2,HW0.out _ _,HW1.out _ _,HW2.out _ _⟩ : MBx _ _ _),HRL.out _ _,by rw [zd,zd],(zS Z _ _).1,(zS Z _ _).2,zP B _ _,HW0.out _ _,HW1.out _ _,HW2.out _ _⟩ ?_
 rintro w3 ⟨w,rfl,hbx,hrl,hsz,P,R,B',q0,q1,q2⟩
 have hres:=HL.out.end
 rw [<- hsz]
 clear hsz HL HW0 HW1 HW2 HRL Z Zp B hbx
 have Z:=za R
 have Zp:=za P
 have Q0:=Hd q0;have Q1:=Hd q1;have Q2:=Hd q2;have QB:=Hd B';have QP:=Hd P;have QR:=Hd R
 obtain ⟨ao,cap,e0,hc1,hc2,hnil,hne⟩:=hrl.shapeS
 cases e0
 have HX:=Hd hne
 clear q0 q1 q2 B' P R hne hnil hrl
 go_loopw [5,6] (fun o k wr=>∃ (n:Nat) (xs:List ByteArray),k=.int .i64 n/\n<=ks.length/\Below w.heap.size w wr/\OwnL zx 9 wr w.heap.size o xs/\xs=(ks.take n).map (fun k=>k.extract 2 k.size)/\xs.length<=n) (fun _ k _=>ks.length - (intOf k).toNat)
 case atStart=>exact ⟨0,[],rfl,Nat.zero_le _,(by repeat (first|with_reducible exact Below.refl _ _|with_reducible apply Below.ofAlloc)),OwnL.empty zx _ w,rfl,Nat.le_refl _⟩
 case round =>
  obtain ⟨n,xs,rfl,hn,hbel,ho,hxs,hxl⟩:=hrel
  obtain ⟨X,rfl⟩:=hbel.ext
  obtain ⟨oa,oc,rfl⟩:=ho.rd.form
  have HO:=Hd ho
  clear ho
  have hkl:=hks.1
  by_cases hlt:(n:Int)<ks.length
  case pos =>
   have hk:n<ks.length:=by omega
   obtain ⟨b,off,rfl,hbl,hcell⟩:=HX.out (by intro e;simp [e] at hk)
   have hc:=hcell n hk
   have hst:=zks (fun k:ByteArray=>k.extract 2 k.size) ks n hk
   have hck:=hks3 _ (List.getElem_mem hk)
   rw [<- hxs] at hst
   have HST:=Hd hst
   clear hst hxs hcell
   generalize ks[n]=key at hc hck HST
   have hbl2:b<w.heap.size+X.bs.size:=by omega
   go_wp2_with (at_builtin;refine zA ?_)
   have hsrc:=RdL.lit zx (w.ext X) [key.extract 2 key.size] 1 rfl (by decide) #[.string (key.extract 2 key.size)] rfl 9
   rw [zm] at hsrc
   refine zI rfl _ _ _ rfl zC (HO.out.alloc _) rfl (hsrc) rfl (by (try simp only [List.nil_append,List.length_append,List.length_singleton,List.length_nil]);omega) (by (try simp only [List.nil_append,List.length_append,List.length_singleton,List.length_nil]);(try unfold maxLen);omega) (Below.size ((by repeat (first|with_reducible exact Below.refl _ _|with_reducible apply Below.ofExt|with_reducible apply Below.ofAlloc)))) ?_
   intro v2 w2 hown2 hg2 hz2
   have hb2:Below w.heap.size w w2:=Below.appL ((by repeat (first|with_reducible exact Below.refl _ _|with_reducible apply Below.ofExt|with_reducible apply Below.ofAlloc))) hg2 (HO.out.alloc _)
   clear hg2
   have hs2:=hb2.size
   obtain ⟨Y,rfl⟩:=hb2.ext
   have HO2:=Hd hown2
   clear hown2 hb2
   go_wp2
   go_roundw
   case rel=>exact ⟨n+1,_,by go_num,by omega,(by repeat (first|with_reducible exact Below.refl _ _|with_reducible apply Below.ofExt)),HO2.out,HST.out.symm,by simp;omega⟩
   case measure=>simp [intOf];omega
  case neg =>
   have e:n=ks.length:=by omega
   have HF:Hid (ks.map (fun k=>k.extract 2 k.size)=xs):=by show _ = _;rw [hxs,e,List.take_length]
   clear hxs
   have hw:∀ (p:Nat),p<w.heap.size->p<(w.ext X).heap.size:=fun p hp=>by rw [zm];omega
   have P':=(World.ext_get _ X Zp).trans QP.out
   have R':=(World.ext_get _ X Z).trans QR.out
   have e1:=zj P' R'
   rw [<- e1]
   (repeat (first|go_skip|go_guarded|go_step|go_upon|go_back))
   refine bodyPost_ret (by simp [results,Tryz.results184,go_sem,Z];rfl) rfl ?_
   obtain ⟨rfl,rfl⟩:=hres
   have hown:=fun o r=>za2 HO.out Z o r
   have hown2:=fun o r=>zjU Z (hown o r)
   rw [HF.out]
   exact ⟨_,_,rfl,(hown2 _ _).rd,⟨_,_,_,rfl,(zg (zf _) Q0.out QP.out QR.out _ _).ext _,(zg (zc _) Q1.out QP.out QR.out _ _).ext _,(zg (zc _) Q2.out QP.out QR.out _ _).ext _⟩,(zP QB.out _ _).ofExt _⟩
end Go.Proofs.YtpnoehpmgflibaaGreatDoor
