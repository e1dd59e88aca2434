/- Texts of this claim, merged: the walks and what they stand on. Each condition stands in its theorem. -/
import Derived.Test.YtpnoehpmgflibaaGreatDoorCA19
set_option linter.unusedVariables false
set_option linter.unusedSimpArgs false
set_option maxRecDepth 100000
set_option maxHeartbeats 8000000
namespace Go.Proofs.YtpnoehpmgflibaaGreatDoor
open Go.ChangeShapes Go.WideShapes Go.ChangeAt Go.RowKit
def lenV:Value->Nat
 | .slice _ n _=>n
 | _=>0
theorem zk4 {e:TypeId} {w:World} {B:Nat} {v:Value} {l:List UInt8} (h:OwnB e w B v l) {p:Nat} (hp:p+1<B) (o r:Obj):Sl ((w.setB (p+1) r).setB p o) v l.length (zL l):=by
 have h1:=Sl.setB h.sl (fun hk=>by have:=(h.lt _ hk).1;omega) r (p:=p+1)
 exact Sl.setB h1 (fun hk=>by have:=(h.lt _ hk).1;omega) o
theorem MBx.past {w wb wr:World} {m:MachD} (h:MBx w wb m) (hb:Below wb.heap.size wb wr):MBx w wr m:=by
 obtain ⟨b0,d0,b1,d1,b2,d2,B,P,R,q0,q1,q2⟩:=h
 exact ⟨b0,d0,b1,d1,b2,d2,Below.then B hb,(Grew.below hb _ (za P)).trans P,(Grew.below hb _ (za R)).trans R,q0.below hb,q1.below hb,q2.below hb⟩
theorem zfj (id:Int) (id0 : -9223372036854775808<=id) (id1:id<=9223372036854775807) (a:Int) (aa0 : -9223372036854775808<=a) (aa1:a<=9223372036854775807) (text:ByteArray) (textz:text.size<=1048576):SC 186 (fun x=>#[x,.int .i64 id,.int .i64 a,.string text]) (K.writeFile id a text) (fun v' r=>.tuple #[v',.int .i64 r]):=by
 refine zeq (fun w m a0 c0 a1 c1 a2 c2 res mres H0 H1 H2 HL=>?_)
 unfold K.writeFile at HL
 simp only [zc9,zar] at HL
 by_cases he:text.size=0
 case' pos=>(have hs:=zfc he;obtain ⟨rfl,ht⟩:=hs;have hz0:(⟨#[]⟩ : ByteArray).size=0:=rfl)
 case' neg=>(have hs:=zfd he;obtain ⟨hp,ht⟩:=hs)
 all_goals (go_enter Tryz.func186,Tryz.ntmps186;((repeat (first|((with_reducible refine zcK (fun W0=>Below w.heap.size w W0/\W0.heap[w.heap.size]?=some (.cells #[.slice a0 m.cells.length c0,.slice a1 m.rd.length c1,.slice a2 m.wr.length c2] 54)/\W0.heap[w.heap.size+1]?=some (.cells #[.slice none 0 0,.slice none 0 0,.slice none 0 0] 54)) ?_ ?_);(· with_reducible exact zV w (.cells #[.slice a0 m.cells.length c0,.slice a1 m.rd.length c1,.slice a2 m.wr.length c2] 54) (.cells #[.slice none 0 0,.slice none 0 0,.slice none 0 0] 54) (by repeat (first|with_reducible exact Below.refl _ _|with_reducible apply Below.ofAlloc))))|go_skip|go_guarded|go_step|go_upon|go_back));(rintro w1 ⟨B,P,R⟩;have Z:=za R;have e1:=zj P R;rw [<- e1];have HW0:=Hd (fun o r=>H0.out.below (zP B o r));have HW1:=Hd (fun o r=>H1.out.below (zP B o r));have HW2:=Hd (fun o r=>H2.out.below (zP B o r));have Zp:=Nat.lt_of_succ_lt Z;clear e1 P R H0 H1 H2)))
 all_goals (repeat (first|go_skip|go_guarded|go_step|go_upon|go_back))
 all_goals (((((go_at_call 221;refine (SC.use (zbZ _ (by omega) (by omega)) (fun a=>0<=a/\a<=999) (fun m _=>zac _ m) (by first|exact HL.out|exact HL.out.last) (⟨_,_,_,rfl,HW0.out _ _,HW1.out _ _,HW2.out _ _⟩ : MRd _ _ _)).mono ?_));(rintro e w2 ⟨v2,x,m2,rfl,hx,hm,hb,HL2⟩);(obtain ⟨b0,d0,b1,d1,b2,d2,rfl,q0,q1,q2⟩:=hm.form;obtain ⟨B',P,R,Z',Zx⟩:=zG B Z hb;clear Zx;clear hm hb;(clear HW0 HW1 HW2 B Z;have e1:=zj P R;rw [<- e1];clear e1;have HW0:=Hd (fun o r=>zg (zf _) q0 P R o r);have HW1:=Hd (fun o r=>zg (zc _) q1 P R o r);have HW2:=Hd (fun o r=>zg (zc _) q2 P R o r);have B:=B';have Z:=Z';(try clear Zp);have Zp:=Nat.lt_of_succ_lt Z;clear B' Z' P R q0 q1 q2;(try simp only []));clear HL;have HL:=Hd HL2;clear HL2;(all_goals ((repeat' ((rcases HL.out.ite with ⟨hg,HL2⟩|⟨hg,HL2⟩<;>(clear HL;have HL:=Hd HL2;clear HL2;try first|(exfalso;omega)|(have hgz : _ ∨ _:=hg;clear hg;rcases hgz with hg|hg<;>(skip))|(have hgz:=not_or.1 hg;clear hg;obtain ⟨hg,hgo⟩:=hgz;try replace hgo:=Decidable.not_not.1 hgo)))))))))))
 all_goals by_cases hr : 0<=a/\a<=x
 all_goals (try (exfalso;omega))
 all_goals (repeat' (first|go_skip|go_guarded|go_step|go_upon|go_back|((((go_at_call 59;refine (zM _ _ _ _).mono ?_);rintro e w2 ⟨rfl,rfl⟩;(try simp only []);(try rw [HN.out]);(try rw [HM.out]);(try simp (disch:=omega) only [zaP,zbb]))))|(refine zi (id:=23) [(0,true),(1,true),(3,true),(2,false),(4,false),(5,false)] 5 (by kernel_rfl) (by kernel_rfl) ?_;(repeat (fail));have Q0':=Q0.out;have Q1':=Q1.out;have Q2':=Q2.out;clear Q0 Q1 Q2;refine zy (fun W0=>Below w.heap.size w W0/\W0.heap[w.heap.size]?=some _/\W0.heap[w.heap.size+1]?=some _/\RdL zu W0 (.slice f0 m2.cells.length g0) m2.cells/\RdL zx W0 (.slice f1 m2.rd.length g1) m2.rd/\RdL zx W0 (.slice f2 m2.wr.length g2) m2.wr/\w.heap.size+1<W0.heap.size) ⟨(zP B _ _).ofExt _,(zq Z _ _ _).1,(zq Z _ _ _).2,zl (zf _) Z Q0' _ _,zl (zc _) Z Q1' _ _,zl (zc _) Z Q2' _ _,za (zq Z _ _ _).2⟩ ?_;clear Q0' Q1' Q2';rintro w3 ⟨B',P,R,q0,q1,q2,Z'⟩;(clear HW0 HW1 HW2 B Z;have e1:=zj P R;rw [<- e1];clear e1;have HW0:=Hd (fun o r=>zg (zf _) q0 P R o r);have HW1:=Hd (fun o r=>zg (zc _) q1 P R o r);have HW2:=Hd (fun o r=>zg (zc _) q2 P R o r);have B:=B';have Z:=Z';(try clear Zp);have Zp:=Nat.lt_of_succ_lt Z;clear B' Z' P R q0 q1 q2))|(exfalso;(simp only [bne_eq_false_iff_eq,beq_eq_false_iff_ne,beq_iff_eq,bne_iff_ne] at *);omega)))
 all_goals first
  | (obtain ⟨rfl,rfl⟩:=HL.out.end;refine bodyPost_ret (by simp [results,Tryz.results186,go_sem,Z];rfl) rfl ?_;exact ⟨_,rfl,⟨_,_,_,rfl,HW0.out _ _,HW1.out _ _,HW2.out _ _⟩,zP B _ _⟩)
  | skip
 rename Int=>sz
 obtain ⟨na,rfl⟩:=Int.eq_ofNat_of_zero_le hr.1
 rw [Int.toNat_natCast] at HL
 obtain ⟨e,hend⟩ : ∃ e:Nat,e=na+text.size:=⟨_,rfl⟩
 rw [<- hend] at HL
 have he1:(na:Int)+(text.size:Int)<=e/\(e:Int)<=na+text.size:=by omega
 have he2:e<=64/\na<e:=by omega
 unfold K.places at HL
 generalize hcd:(e+7) / 8 - na / 8=cnt at HL
 have hlen:(List.range' (na / 8) cnt).length=cnt:=List.length_range'
 have HE:=Hd hend
 clear hend
 go_loopw [12,13,14,15,16] (fun k u13 u14 u15 u16 wr=>∃ (i:Nat) (m1:MachD),k=.int .i64 ((na / 8+i:Nat):Int)/\i<=cnt/\MBx w wr m1/\Lft (Mp.each (K.writeBlock id text na e) ((List.range' (na / 8) cnt).drop i) >>= fun _=>if sz<(na:Int)+text.size then K.setNum (K.sizeKey id) ((na:Int)+text.size) >>= fun _=>pure (0:Int) else pure 0) m1 (res,mres)) (fun k _ _ _ _ _=>cnt - ((intOf k).toNat - na / 8))
 case atStart=>exact ⟨0,_,rfl,Nat.zero_le _,(⟨_,_,_,_,_,_,zP B _ _,(zS Z _ _).1,(zS Z _ _).2,HW0.out _ _,HW1.out _ _,HW2.out _ _⟩ : MBx _ _ _),HL.out⟩
 case round =>
  clear HL
  obtain ⟨i,m1,rfl,hi,hbx,hl⟩:=hrel
  obtain ⟨b0,d0,b1,d1,b2,d2,B',P,R,q0,q1,q2⟩:=hbx
  have Z':=za R
  (clear HW0 HW1 HW2 B Z;have e1:=zj P R;rw [<- e1];clear e1;have HW0:=Hd (fun o r=>zg (zf _) q0 P R o r);have HW1:=Hd (fun o r=>zg (zc _) q1 P R o r);have HW2:=Hd (fun o r=>zg (zc _) q2 P R o r);have B:=B';have Z:=Z';(try clear Zp);have Zp:=Nat.lt_of_succ_lt Z;clear B' Z' P R q0 q1 q2;(try simp only []))
  by_cases hlt:i<cnt
  case neg =>
   have HL:=Hd (hl.eachB_end (by rw [hlen];omega))
   clear hl
   have hpl:¬ ((na / 8+i:Nat):Int)*8<e:=by omega
   have hpb:((na / 8+i:Nat):Int)<=400:=by omega
   generalize hpp:na / 8+i=pl at HL hpl hpb ⊢
   ((repeat' ((rcases HL.out.ite with ⟨hg,HL2⟩|⟨hg,HL2⟩<;>(clear HL;have HL:=Hd HL2;clear HL2)))))
   all_goals (repeat (first|go_skip|go_guarded|go_step|go_upon|go_back))
   all_goals (try (refine zi (id:=23) [(0,true),(1,true),(3,true),(2,false),(4,false),(5,false)] 5 (by kernel_rfl) (by kernel_rfl) ?_;(repeat (first|(refine zk rfl (fun K hK=>?_);go_simp;refine hK _ ?_;clear hK K)|(refine zr rfl (fun K hK=>?_);go_simp;(first|((go_at_call 181;refine (zZ _ _ _ _ (by first|omega|decide) (by first|omega|decide) (by omega) (by omega)).mono ?_);rintro e w' ⟨rfl,hb⟩;obtain ⟨X,rfl⟩:=hb.ext;clear hb)|(((go_at_call 180;refine (SC.use (zH _ _ (by omega) (by omega)) (fun _=>True) (fun _ _=>trivial) (by first|exact HL.out|exact HL.out.last) (⟨_,_,_,rfl,by (refine ⟨?_,?_,?_⟩<;>((repeat (first|with_reducible exact HW0.out _ _|with_reducible exact HW1.out _ _|with_reducible exact HW2.out _ _|with_reducible refine RdL.ext ?_ _))))⟩ : MRd _ _ _)).mono ?_));(rintro e w' ⟨v2,x,m2,rfl,hx,hm,hb,HL2⟩);clear HL;have HL:=Hd HL2;clear HL2;obtain ⟨f0,g0,f1,g1,f2,g2,rfl,q0,q1,q2⟩:=hm.form;obtain ⟨X,rfl⟩:=hb.ext;have Q0:=Hd q0;have Q1:=Hd q1;have Q2:=Hd q2;clear hm q0 q1 q2 hb));(try go_simp);refine hK _ _ (by show Sx _ _;repeat (first|with_reducible apply Sx.more|with_reducible apply Sx.ext|with_reducible exact Sx.refl _)) ?_;clear hK K)|(refine zt rfl rfl (fun K hK=>?_);go_simp;refine hK _ _ ?_;clear hK K)));have Q0':=Q0.out;have Q1':=Q1.out;have Q2':=Q2.out;clear Q0 Q1 Q2;(try simp only [zp,zw,Array.append_assoc] at Q0' Q1' Q2');refine zy (fun W0=>Below w.heap.size w W0/\W0.heap[w.heap.size]?=some _/\W0.heap[w.heap.size+1]?=some _/\RdL zu W0 (.slice f0 m2.cells.length g0) m2.cells/\RdL zx W0 (.slice f1 m2.rd.length g1) m2.rd/\RdL zx W0 (.slice f2 m2.wr.length g2) m2.wr/\w.heap.size+1<W0.heap.size) ⟨(zP B _ _).ofExt _,(zq Z _ _ _).1,(zq Z _ _ _).2,zl (zf _) Z Q0' _ _,zl (zc _) Z Q1' _ _,zl (zc _) Z Q2' _ _,za (zq Z _ _ _).2⟩ ?_;clear Q0' Q1' Q2';rintro w3 ⟨B',P,R,q0,q1,q2,Z'⟩;(clear HW0 HW1 HW2 B Z;have e1:=zj P R;rw [<- e1];clear e1;have HW0:=Hd (fun o r=>zg (zf _) q0 P R o r);have HW1:=Hd (fun o r=>zg (zc _) q1 P R o r);have HW2:=Hd (fun o r=>zg (zc _) q2 P R o r);have B:=B';have Z:=Z';(try clear Zp);have Zp:=Nat.lt_of_succ_lt Z;clear B' Z' P R q0 q1 q2)))
   all_goals (repeat (first|go_skip|go_guarded|go_step|go_upon|go_back))
   all_goals (obtain ⟨rfl,rfl⟩:=HL.out.end;refine bodyPost_ret (by simp [results,Tryz.results186,go_sem,Z];rfl) rfl ?_;exact ⟨_,rfl,⟨_,_,_,rfl,HW0.out _ _,HW1.out _ _,HW2.out _ _⟩,zP B _ _⟩)
  case pos =>
   have hl2:=hl.eachB_at (by rw [hlen];exact hlt)
   rw [List.getElem_range',Nat.one_mul] at hl2
   unfold K.writeBlock at hl2
   rw [zam] at hl2
   have HL:=Hd hl2
   clear hl hl2
   have hpl:((na / 8+i:Nat):Int)*8<e:=by omega
   have hpb:((na / 8+i:Nat):Int)<=400:=by omega
   generalize hpp:na / 8+i=pl at HL hpl hpb ⊢
   (repeat (first|go_skip|go_guarded|go_step|go_upon|go_back))
   (((((go_at_call 222;refine (SC.use (zdk _ (by omega) (by omega) _ (by omega) (by omega)) (fun a=>a.size<=20000) (fun m _=>zbL _) (by first|exact HL.out|exact HL.out.last) (⟨_,_,_,rfl,HW0.out _ _,HW1.out _ _,HW2.out _ _⟩ : MRd _ _ _)).mono ?_));(rintro e w2 ⟨v2,x,m2,rfl,hx,hm,hb,HL2⟩);(obtain ⟨b0,d0,b1,d1,b2,d2,rfl,q0,q1,q2⟩:=hm.form;obtain ⟨B',P,R,Z',Zx⟩:=zG B Z hb;clear Zx;clear hm hb;(clear HW0 HW1 HW2 B Z;have e1:=zj P R;rw [<- e1];clear e1;have HW0:=Hd (fun o r=>zg (zf _) q0 P R o r);have HW1:=Hd (fun o r=>zg (zc _) q1 P R o r);have HW2:=Hd (fun o r=>zg (zc _) q2 P R o r);have B:=B';have Z:=Z';(try clear Zp);have Zp:=Nat.lt_of_succ_lt Z;clear B' Z' P R q0 q1 q2;(try simp only []));clear HL;have HL:=Hd HL2;clear HL2))))
   obtain ⟨wb,hwb⟩ : ∃ wb:World,wb=((w2.setB (w.heap.size+1) (.cells #[.slice none 0 0,.slice none 0 0,.slice none 0 0] 54)).setB w.heap.size (.cells #[.slice b0 m2.cells.length d0,.slice b1 m2.rd.length d1,.slice b2 m2.wr.length d2] 54)):=⟨_,rfl⟩
   obtain ⟨bv,w6,hcv,hob,hbw⟩:=zfy wb x (by omega)
   have HMB:Hid (MBx w wb m2):=by rw [hwb];exact (⟨_,_,_,_,_,_,zP B _ _,(zS Z _ _).1,(zS Z _ _).2,HW0.out _ _,HW1.out _ _,HW2.out _ _⟩ : MBx _ _ _)
   rw [hwb] at hcv
   (repeat (first|go_skip|go_guarded|go_step|go_upon|go_back))
   clear hcv
   have hxl:x.data.toList.length<=20000:=by simpa using hx
   have hzt:text.data.toList.length=text.size:=by simp
   go_loopw [14,15,16] (fun o k u16 wr=>∃ (j:Nat),k=.int .i64 j/\j<=8/\OwnB 5 wr wb.heap.size o (wG text.data.toList na e pl x.data.toList j)/\Below wb.heap.size wb wr) (fun _ k _ _=>8 - (intOf k).toNat)
   case atStart=>exact ⟨0,rfl,Nat.zero_le _,by rw [zlA];exact hob,hbw⟩
   case round =>
    clear hob hbw
    obtain ⟨j,rfl,hj,hob,hbw⟩:=hrel
    have hwl:=zgj (text:=text.data.toList) (a:=na) (b:=e) (place:=pl) (old:=x.data.toList) (n:=20000) hxl (by decide) j hj
    by_cases hj8:(j:Int)<8
    case neg =>
     have HOB:=Hd hob
     have HBW:=Hd hbw
     clear hob hbw
     obtain rfl:j=8:=by omega
     have hbx:=MBx.past HMB.out HBW.out
     obtain ⟨b0,d0,b1,d1,b2,d2,B',P,R,q0,q1,q2⟩:=hbx
     have Z':=za R
     have hc:∀ o r,Sem.run Tryz.prog (convert 22 9 _) ((_:World).setB (w.heap.size+1) r |>.setB w.heap.size o)=.ok (.string (zX (wG text.data.toList na e pl x.data.toList 8))) _:=fun o r=>zaB (P:=Tryz.prog) _ zcm Tryz.underlying9 (zk4 HOB.out (show w.heap.size+1<wb.heap.size from by obtain ⟨_,_,_,_,_,_,_,_,hR,_⟩:=HMB.out;exact za hR) o r)
     have hwz:(zX (wG text.data.toList na e pl x.data.toList 8)).size<=1048576:=by rw [zN];omega
     have hwe:=wG_end text.data.toList na e pl x.data.toList
     rw [<- hwe] at HL
     clear hwe
     (clear HW0 HW1 HW2 B Z;have e1:=zj P R;rw [<- e1];clear e1;have HW0:=Hd (fun o r=>zg (zf _) q0 P R o r);have HW1:=Hd (fun o r=>zg (zc _) q1 P R o r);have HW2:=Hd (fun o r=>zg (zc _) q2 P R o r);have B:=B';have Z:=Z';(try clear Zp);have Zp:=Nat.lt_of_succ_lt Z;clear B' Z' P R q0 q1 q2;(try simp only []))
     generalize wG text.data.toList na e pl x.data.toList 8=bl at HL HOB hc hwz hwl
     (repeat (first|go_skip|go_guarded|go_step|go_upon|go_back))
     (((((go_at_call 223;refine (SC.use (zgr _ (by omega) (by omega) _ (by omega) (by omega) _ (by omega)) (fun _=>True) (fun _ _=>trivial) (by first|exact HL.out|exact HL.out.last) (⟨_,_,_,rfl,HW0.out _ _,HW1.out _ _,HW2.out _ _⟩ : MRd _ _ _)).mono ?_));(rintro e w2 ⟨v2,x,m2,rfl,hx,hm,hb,HL2⟩);(obtain ⟨b0,d0,b1,d1,b2,d2,rfl,q0,q1,q2⟩:=hm.form;obtain ⟨B',P,R,Z',Zx⟩:=zG B Z hb;clear Zx;clear hm hb;(clear HW0 HW1 HW2 B Z;have e1:=zj P R;rw [<- e1];clear e1;have HW0:=Hd (fun o r=>zg (zf _) q0 P R o r);have HW1:=Hd (fun o r=>zg (zc _) q1 P R o r);have HW2:=Hd (fun o r=>zg (zc _) q2 P R o r);have B:=B';have Z:=Z';(try clear Zp);have Zp:=Nat.lt_of_succ_lt Z;clear B' Z' P R q0 q1 q2;(try simp only []));clear HL;have HL:=Hd HL2;clear HL2))))
     (repeat (first|go_skip|go_guarded|go_step|go_upon|go_back))
     exact ⟨⟨i+1,m2,by (have:na / 8+(i+1)=pl+1:=by omega);rw [this];go_num,by omega,(⟨_,_,_,_,_,_,zP B _ _,(zS Z _ _).1,(zS Z _ _).2,HW0.out _ _,HW1.out _ _,HW2.out _ _⟩ : MBx _ _ _),HL.out⟩,by simp [intOf];omega⟩
    case pos =>
     by_cases k1:(pl:Int)*8+j<na
     case pos =>
      have HG:=Hd (wG_no (text:=text.data.toList) (a:=na) (b:=e) (place:=pl) (old:=x.data.toList) (i:=j) (.inl (by omega)))
      have HOB:=Hd hob
      have HBW:=Hd hbw
      clear hob hbw
      (repeat (first|go_skip|go_guarded|go_step|go_upon|go_back))
      go_roundw
      case rel=>exact ⟨j+1,by go_num,by omega,by rw [HG.out];exact HOB.out,HBW.out⟩
      case measure=>simp [intOf];omega
     case neg =>
      by_cases k2:(e:Int)<=(pl:Int)*8+j
      case pos =>
       have HG:=Hd (wG_no (text:=text.data.toList) (a:=na) (b:=e) (place:=pl) (old:=x.data.toList) (i:=j) (.inr (by omega)))
       have HOB:=Hd hob
       have HBW:=Hd hbw
       clear hob hbw
       (repeat (first|go_skip|go_guarded|go_step|go_upon|go_back))
       go_roundw
       case rel=>exact ⟨j+1,by go_num,by omega,by rw [HG.out];exact HOB.out,HBW.out⟩
       case measure=>simp [intOf];omega
      case neg =>
       have HG:=Hd (zlB (text:=text.data.toList) (a:=na) (b:=e) (place:=pl) (old:=x.data.toList) (i:=j) (by omega) (by omega))
       generalize wG text.data.toList na e pl x.data.toList j=l at hob hwl HG
       have HOB:=Hd hob
       have HBW:=Hd hbw
       clear hob hbw
       (repeat (first|go_skip|go_guarded|go_step|go_upon|go_back))
       generalize hbq:decide ((pl:Int)*8<(na:Int)+(text.size:Int))=bq
       have HBQ:=Hd hbq
       clear hbq
       go_loopw [14] (fun o wr=>∃ z:Nat,OwnB 5 wr wb.heap.size o (l++List.replicate z 0)/\Below wb.heap.size wb wr/\∀ k,k<z->l.length+k<=j) (fun o _=>j+1 - lenV o)
       case atStart=>exact ⟨0,by rw [List.replicate_zero,List.append_nil];exact HOB.out,HBW.out,fun k hk=>absurd hk (Nat.not_lt_zero _)⟩
       case round =>
        obtain ⟨z,hob,hbw,hz⟩:=hrel
        obtain ⟨oa,oc,rfl⟩:=hob.form
        have hzl:l.length+z<=20009:=by
         rcases Nat.eq_zero_or_pos z with h0|h0
         ·omega
         ·have:=hz (z - 1) (by omega)
          omega
        have hll:(l++List.replicate z (0:UInt8)).length=l.length+z:=by simp
        have HZ:=Hd hz
        clear hz
        have HOB:=Hd hob
        have HBW:=Hd hbw
        clear hob hbw
        have HS:=Hd (zho l z)
        by_cases hle:((l.length+z:Nat):Int)<=j
        case pos =>
         have hle2:(((l++List.replicate z (0:UInt8)).length:Nat):Int)<=j:=by rw [hll];exact hle
         have hyl:(l++List.replicate z (0:UInt8)).length<=20009:=by rw [hll];exact hzl
         have HLL:=Hd hll
         clear hll
         generalize hys:l++List.replicate z (0:UInt8)=ys at HOB HS HLL hyl hle2 ⊢
         clear hys
         go_wp2_with (at_builtin;refine zA ?_)
         refine zcZ _ zcm rfl (.tmp 76) (.tmp 77) rfl (B:=wb.heap.size) (l:=ys) (m:=[0]) (HOB.out.alloc _) rfl (zix _ 0 0 rfl _ _ rfl) rfl (by simp;omega) (by have:=HBW.out.size;simp;omega) ?_
         intro v7 w7 hown hg
         have HB7:=Hd (Below.appB (HBW.out.ofAlloc _) hg (HOB.out.alloc _))
         have HO7:=Hd hown
         have hl7:lenV v7=ys.length+1:=by
          obtain ⟨_,_,rfl⟩:=hown.form
          simp [lenV]
         clear hown hg
         ((try simp only []);repeat (first|go_skip|go_guarded|go_step|go_upon|go_back))
         go_roundw
         case rel=>exact ⟨z+1,by rw [HS.out];exact HO7.out,HB7.out,fun k hk=>by have h1:=HZ.out k;omega⟩
         case measure=>rw [hl7];simp [lenV];omega
        case neg =>
         have HSA:=Hd (zgD (l:=l) (i:=j) (j:=z) (text.data.toList.getD (pl*8+j - na) 0) (by omega) (fun k hk=>HZ.out k hk))
         have hjl:j<(l++List.replicate z (0:UInt8)).length:=by rw [hll];omega
         have hyl:(l++List.replicate z (0:UInt8)).length<=20009:=by rw [hll];exact hzl
         clear HZ HS hll hle
         generalize l++List.replicate z (0:UInt8)=ys at HOB HSA hjl hyl ⊢
         obtain ⟨g,cap,hv⟩ : ∃ g cap,Value.slice oa ys.length oc=Value.slice (some ⟨g,0,none⟩) ys.length cap:=by
          rcases HOB.out with ⟨_,he⟩|⟨g,cap,cur,fz,hv,_⟩
          ·rw [he] at hjl;cases hjl
          ·exact ⟨g,cap,hv⟩
         cases hv
         have hgp:=(HOB.out.lt g rfl).1
         obtain ⟨⟨u,hu⟩,hfr,hset⟩:=zi2 (k:=j) (c:=text.data.toList.getD (pl*8+j - na) 0) HOB.out hjl
         have HSET:=Hd hset
         clear hset
         have htx:((pl:Int)*8+j) - na<text.size:=by omega
         have htx0:(0:Int)<=((pl:Int)*8+j) - na:=by omega
         have hjy:(j:Int)<ys.length:=by omega
         obtain ⟨ti,hti⟩ : ∃ ti:Nat,(ti:Int)=((pl:Int)*8+j) - na:=⟨pl*8+j - na,by omega⟩
         have hti2:pl*8+j - na=ti:=by omega
         have htl:ti<text.size:=by omega
         have hgd:(text.data.toList.getD ti 0)=text[ti]:=by
          rw [List.getD_eq_getElem?_getD,List.getElem?_eq_getElem (by simpa using htl)]
          rfl
         rw [hti2,hgd] at HSET HSA HG
         have hw:((pl:Int)*8+j) - na=ti:=hti.symm
         clear hti hti2 hgd htx htx0
         (repeat (first|go_skip|go_guarded|go_step|go_upon|go_back))
         obtain rfl:=HBQ.out
         go_roundw
         case rel=>exact ⟨j+1,by go_num,by omega,by rw [HG.out,<- HSA.out];exact HSET.out,HBW.out.setCell (p:=⟨g,j,none⟩) hgp _⟩
         case measure=>simp [intOf];omega
def zdc (a:AnswerD):Value:=.agg #[.int .i64 a.code,.int .i64 a.n,.string a.text]
def NS (ks:List ByteArray):Prop:=ks.length<=549755813888/\∀ k ∈ ks,k.size<=1048576
theorem zkC (m:MachD) (h:K.names.fits m):NS (K.names.run m).1:=by
 have h1:=zcp K.nN m ((Mp.fits_bind (K.under K.nN) _ m).1 h).1
 show NS (((K.under K.nN).run m).1.map fun k=>k.extract 2 k.size)
 refine ⟨by rw [List.length_map];exact h1.1,fun k hk=>?_⟩
 obtain ⟨x,hx,rfl⟩:=List.mem_map.1 hk
 have:=h1.2.1 x hx
 rw [ByteArray.size_extract]
 omega
theorem list_lt {w:World} {v:Value} {ks:List ByteArray} (h:RdL zx w v ks) {k:Nat} (hk:v.ownBlock=some k) (hne:ks ≠ []):k<w.heap.size:=by
 obtain ⟨ao,cap,rfl,_,_,_,h4⟩:=h.shapeS
 obtain ⟨b,off,rfl,hb,_⟩:=h4 hne
 have e:b=k:=by simpa [Value.ownBlock] using hk
 omega
theorem zf7 {w:World} {v:Value} {xs:List ByteArray} (hn:∀ s ∈ xs,s.size ≠ 0) (h:RdL zx w v xs) {p:Nat} {x y:Int} {t:TypeId} (hp:w.heap[p]?=some (.cells #[.int .i64 x,.int .i64 y,.string ⟨#[]⟩] t (0,0))) (o:Obj):RdL zx (w.setB p o) v xs:=by
 by_cases hq:v.ownBlock=some p
 ·rcases h with h|⟨b,off,cap,hv,h1,h2,h3⟩
  ·exact .inl h
  ·refine .inr ⟨b,off,cap,hv,h1,h2,fun j u hj=>?_⟩
   exfalso
   subst hv
   have e:b=p:=by simpa [Value.ownBlock] using hq
   subst e
   have hc:=h3 j u hj
   rw [zb hp] at hc
   obtain ⟨s,hs,hu⟩:=List.mem_flatMap.1 (List.mem_of_getElem? hj)
   simp [zx] at hu
   subst hu
   have hm:=Array.mem_of_getElem? hc
   simp at hm
   exact hn s hs (by rw [hm];rfl)
 ·exact h.setB hq o
theorem zh4 {w:World} {v:Value} {xs:List CellD} (h:RdL zu w v xs) {p:Nat} {x y:Int} {s:ByteArray} {t:TypeId} (hp:w.heap[p]?=some (.cells #[.int .i64 x,.int .i64 y,.string s] t (0,0))) (o:Obj):RdL zu (w.setB p o) v xs:=by
 by_cases hq:v.ownBlock=some p
 ·obtain ⟨ao,cap,e0,e1,e2,e3,h4⟩:=h.shape
  by_cases hx:xs = []
  ·subst hx
   rcases h with h|⟨b,off,cap,hv,h1,h2,h3⟩
   ·exact .inl h
   ·exact .inr ⟨b,off,cap,hv,h1,h2,fun j u hj=>by simp at hj⟩
  ·exfalso
   obtain ⟨b,off,rfl,hb,hc⟩:=h4 hx
   subst e0
   have e:b=p:=by simpa [Value.ownBlock] using hq
   subst e
   have hl : 0<xs.length:=by
    rcases xs with _|⟨a,l⟩
    ·exact absurd rfl hx
    ·exact Nat.succ_pos _
   have k0:=hc 0 hl 0 (.string xs[0].key) rfl
   have k1:=hc 0 hl 1 (.string xs[0].val) rfl
   rw [zb hp] at k0 k1
   have hr:off+0*zu.k+0=off:=by omega
   have hr1:off+0*zu.k+1=off+1:=by omega
   simp only [hr] at k0
   simp only [hr1] at k1
   have h3:off<3:=(Array.getElem?_eq_some_iff.1 k0).1
   have h4:off+1<3:=(Array.getElem?_eq_some_iff.1 k1).1
   have:off=0 ∨ off=1:=by omega
   rcases this with rfl|rfl<;>simp at k0
 ·exact h.setB hq o
theorem zkx {α : Type} {R:RowOf α} (hk : 0<R.k) {w W:World} {v:Value} {xs:List α} (h0:RdL R w v xs) (h:RdL R W v xs) (o:Obj):RdL R (W.setB w.heap.size o) v xs:=by
 by_cases hx:xs = []
 ·subst hx
  rcases h with h|⟨b,off,cap,hv,h1,h2,h3⟩
  ·exact .inl h
  ·exact .inr ⟨b,off,cap,hv,h1,h2,fun j u hj=>by simp at hj⟩
 ·refine h.setB (fun e=>?_) o
  obtain ⟨ao,cap,rfl,_,_,_,h4⟩:=h0.shape
  obtain ⟨b,off,rfl,hb,_⟩:=h4 hx
  have e2:b=w.heap.size:=by simpa [Value.ownBlock] using e
  have:=hb hk
  omega
theorem four_S {wb wr:World} {p:Nat} {v:Value} {xs:List ByteArray} {a0 a1 a2 a3 a4 a5:Option Addr} {n0 n1 n2 c0 c1 c2 n3 n4 n5 c3 c4 c5:Nat} {t t' t2:TypeId} {x y:Int} (hn:∀ s ∈ xs,s.size ≠ 0) (h0:RdL zx wb v xs) (h:RdL zx wr v xs)
  (P:wr.heap[p]?=some (.cells #[.slice a0 n0 c0,.slice a1 n1 c1,.slice a2 n2 c2] t (0,0))) (R:wr.heap[p+1]?=some (.cells #[.slice a3 n3 c3,.slice a4 n4 c4,.slice a5 n5 c5] t' (0,0))) (A:wr.heap[p+2]?=some (.cells #[.int .i64 x,.int .i64 y,.string ⟨#[]⟩] t2 (0,0))) (o r a q:Obj) :
  RdL zx ((((wr.setB p o).setB (p+1) r).setB (p+1+1) a).setB wb.heap.size q) v xs:=by
 have h1:=za9 (zc _) h P o
 have h2:=za9 (zc _) h1 ((World.setB_get _ _ _ _ (by omega)).trans R) r
 have h3:=zf7 hn h2 ((World.setB_get _ _ _ _ (by omega)).trans ((World.setB_get _ _ _ _ (by omega)).trans A)) a
 exact zkx (by decide) h0 h3 q
theorem four_C {wb wr:World} {p:Nat} {v:Value} {xs:List CellD} {a0 a1 a2 a3 a4 a5:Option Addr} {n0 n1 n2 c0 c1 c2 n3 n4 n5 c3 c4 c5:Nat} {t t' t2:TypeId} {x y:Int} {s:ByteArray} (h0:RdL zu wb v xs) (h:RdL zu wr v xs)
  (P:wr.heap[p]?=some (.cells #[.slice a0 n0 c0,.slice a1 n1 c1,.slice a2 n2 c2] t (0,0))) (R:wr.heap[p+1]?=some (.cells #[.slice a3 n3 c3,.slice a4 n4 c4,.slice a5 n5 c5] t' (0,0))) (A:wr.heap[p+2]?=some (.cells #[.int .i64 x,.int .i64 y,.string s] t2 (0,0))) (o r a q:Obj) :
  RdL zu ((((wr.setB p o).setB (p+1) r).setB (p+1+1) a).setB wb.heap.size q) v xs:=by
 have h1:=za9 (zf _) h P o
 have h2:=za9 (zf _) h1 ((World.setB_get _ _ _ _ (by omega)).trans R) r
 have h3:=zh4 h2 ((World.setB_get _ _ _ _ (by omega)).trans ((World.setB_get _ _ _ _ (by omega)).trans A)) a
 exact zkx (by decide) h0 h3 q
theorem four_B {w wb wr:World} (B:Below w.heap.size w wr) (h:w.heap.size<=wb.heap.size) (o r a q:Obj):Below w.heap.size w ((((wr.setB w.heap.size o).setB (w.heap.size+1) r).setB (w.heap.size+1+1) a).setB wb.heap.size q) :=
 zo (zo (zo (zo B (Nat.le_refl _) o) (by omega) r) (by omega) a) h q
theorem zco (l:List ByteArray) (x:ByteArray):K.wordsOf (l ++ [x])=K.wordsOf l++x++K.space:=by
 unfold K.wordsOf
 rw [List.foldl_append]
 simp only [List.foldl_cons,List.foldl_nil,ByteArray.append_assoc]
theorem zkH (W:World) (a b c:Obj) (n:Nat) (hn:n=W.heap.size):(((W.alloc a).alloc b).alloc c).heap[n]?=some a/\(((W.alloc a).alloc b).alloc c).heap[n+1]?=some b/\(((W.alloc a).alloc b).alloc c).heap[n+2]?=some c:=by
 subst hn
 show (((W.heap.push a).push b).push c)[W.heap.size]?=some a/\(((W.heap.push a).push b).push c)[W.heap.size+1]?=some b/\(((W.heap.push a).push b).push c)[W.heap.size+2]?=some c
 refine ⟨?_,?_,?_⟩<;>(simp only [Array.getElem?_push,Array.size_push];repeat (first|rfl|rw [if_pos trivial]|rw [if_neg (by omega)]))
theorem zmz (w:World) (a b c:Obj) (h:Below w.heap.size w (((w.alloc a).alloc b).alloc c)):Below w.heap.size w (((w.alloc a).alloc b).alloc c)/\(((w.alloc a).alloc b).alloc c).heap[w.heap.size]?=some a/\(((w.alloc a).alloc b).alloc c).heap[w.heap.size+1]?=some b/\(((w.alloc a).alloc b).alloc c).heap[w.heap.size+2]?=some c:=⟨h,zkH w a b c w.heap.size rfl⟩
theorem zkr {W:World} {p:Nat} {x:Obj} (h:W.heap[p+2]?=some x) (o r:Obj):((W.setB (p+1) r).setB p o).heap[p+2]?=some x:=by
 rw [World.setB_get _ _ _ _ (by omega),World.setB_get _ _ _ _ (by omega)]
 exact h
theorem zhW:SC 119 (fun x=>#[x]) K.doNames (fun v' a=>.tuple #[v',zdc a]):=by
 refine zeq (fun w m a0 c0 a1 c1 a2 c2 res mres H0 H1 H2 HL=>?_)
 unfold K.doNames at HL
 go_enter Tryz.func119,Tryz.ntmps119
 (try simp only [])
 ((repeat (first|((with_reducible refine zcK (fun W0=>Below w.heap.size w W0/\W0.heap[w.heap.size]?=some (.cells #[.slice a0 m.cells.length c0,.slice a1 m.rd.length c1,.slice a2 m.wr.length c2] 54)/\W0.heap[w.heap.size+1]?=some (.cells #[.slice none 0 0,.slice none 0 0,.slice none 0 0] 54)/\W0.heap[w.heap.size+2]?=some (.cells #[.int .i64 0,.int .i64 0,.string ⟨#[]⟩] 30)) ?_ ?_);(· with_reducible exact zmz w (.cells #[.slice a0 m.cells.length c0,.slice a1 m.rd.length c1,.slice a2 m.wr.length c2] 54) (.cells #[.slice none 0 0,.slice none 0 0,.slice none 0 0] 54) (.cells #[.int .i64 0,.int .i64 0,.string ⟨#[]⟩] 30) (by repeat (first|with_reducible exact Below.refl _ _|with_reducible apply Below.ofAlloc))))|go_skip|go_guarded|go_step|go_upon|go_back));(rintro w1 ⟨B,P,R,A⟩;have Z3:=za A;have Z:=za R;have e1:=zj P R;rw [<- e1];have HW0:=Hd (fun o r=>H0.out.below (zP B o r));have HW1:=Hd (fun o r=>H1.out.below (zP B o r));have HW2:=Hd (fun o r=>H2.out.below (zP B o r));have HA:=Hd (fun o r=>zkr A o r);have Zp:=Nat.lt_of_succ_lt Z;clear e1 P R A H0 H1 H2))
 (repeat (first|go_skip|go_guarded|go_step|go_upon|go_back))
 (go_at_call 184;refine (SCL.use zgt NS (fun m h=>zkC m h) HL.out (⟨_,_,_,rfl,HW0.out _ _,HW1.out _ _,HW2.out _ _⟩ : MRd _ _ _)).mono ?_)
 rintro e w2 ⟨v2,al,nl,ks,m2,rfl,⟨hks,hrl⟩,hm,hb,HL2⟩
 obtain ⟨b0,d0,b1,d1,b2,d2,rfl,q0,q1,q2⟩:=hm.form
 obtain ⟨B',P,R,Z',Zx⟩:=zG B Z hb
 have A:=(Grew.below hb _ (za (HA.out _ _))).trans (HA.out _ _)
 have HRL:=Hd (fun o r=>zg (zc _) hrl P R o r)
 clear Zx hm hb hrl HA Z3
 have HA:=Hd (fun o r=>zkr A o r)
 have Z3:=za A
 clear A
 (clear HW0 HW1 HW2 B Z;have e1:=zj P R;rw [<- e1];clear e1;have HW0:=Hd (fun o r=>zg (zf _) q0 P R o r);have HW1:=Hd (fun o r=>zg (zc _) q1 P R o r);have HW2:=Hd (fun o r=>zg (zc _) q2 P R o r);have B:=B';have Z:=Z';(try clear Zp);have Zp:=Nat.lt_of_succ_lt Z;clear B' Z' P R q0 q1 q2;(try simp only []))
 (try dsimp only at HL2);clear HL;have HL:=Hd HL2;clear HL2
 (repeat (first|go_skip|go_guarded|go_step|go_upon|go_back))
 have hkl:=hks.1
 refine zcK (fun W0=>∃ wb,Below wb.heap.size wb W0/\W0.heap[w2.heap.size]?=some (.cells #[.int .i64 0,.int .i64 0,.string ⟨#[]⟩] 30)/\wb.heap.size=w2.heap.size/\wb.heap[w.heap.size]?=some (.cells #[.slice b0 m2.cells.length d0,.slice b1 m2.rd.length d1,.slice b2 m2.wr.length d2] 54)/\wb.heap[w.heap.size+1]?=some (.cells #[.slice none 0 0,.slice none 0 0,.slice none 0 0] 54)/\wb.heap[w.heap.size+2]?=some (.cells #[.int .i64 0,.int .i64 0,.string ⟨#[]⟩] 30)/\Below w.heap.size w wb/\RdL zu wb (.slice b0 m2.cells.length d0) m2.cells/\RdL zx wb (.slice b1 m2.rd.length d1) m2.rd/\RdL zx wb (.slice b2 m2.wr.length d2) m2.wr/\RdL zx wb (.slice al ks.length nl) ks) ⟨_,(Below.refl _ _).ofAlloc _,?_,by rw [zd,zd],(zS Z _ _).1,(zS Z _ _).2,HA.out _ _,zP B _ _,HW0.out _ _,HW1.out _ _,HW2.out _ _,HRL.out _ _⟩ ?_
 ·have h:=heap_alloc_new ((w2.setB (w.heap.size+1) (.cells #[.slice none 0 0,.slice none 0 0,.slice none 0 0] 54)).setB w.heap.size (.cells #[.slice b0 m2.cells.length d0,.slice b1 m2.rd.length d1,.slice b2 m2.wr.length d2] 54)) (.cells #[.int .i64 0,.int .i64 0,.string ⟨#[]⟩] 30)
  rw [zd,zd] at h
  exact h
 rintro w3 ⟨wb,hb,ha,hsz,P,R,A,B',q0,q1,q2,qk⟩
 have hsm:Mp.Small m2:=HL.out.1
 have HSR:=Hd hsm.rn
 have HSW:=Hd hsm.wn
 clear hsm
 have hres:=HL.out.end
 clear HL HW0 HW1 HW2 HRL HA Z Zp Z3 B
 rw [<- hsz] at ha ⊢
 clear hsz
 have QQ:=Hd (And.intro P (And.intro R (And.intro A (And.intro B' (And.intro q0 (And.intro q1 q2))))))
 have HQK:=Hd qk
 have Z3:=za A
 clear P R A B' q0 q1 q2 qk
 go_loopw [6] (fun k wr=>∃ (n:Nat) (t:ByteArray),k=.int .i64 n/\n<=ks.length/\Below wb.heap.size wb wr/\wr.heap[wb.heap.size]?=some (.cells #[.int .i64 0,.int .i64 0,.string t] 30)/\t=K.wordsOf (ks.take n)/\t.size<=n*1048577) (fun k _=>ks.length - (intOf k).toNat)
 case atStart=>exact ⟨0,⟨#[]⟩,rfl,Nat.zero_le _,hb,ha,rfl,Nat.zero_le _⟩
 case round =>
  clear hb ha
  obtain ⟨n,t,rfl,hn,hb,ha,ht,htz⟩:=hrel
  have HT:=Hd ht
  have hzq:=za ha
  have HB:=Hd hb
  have e1:=ze ha
  rw [<- e1]
  clear ht hb ha e1
  by_cases hlt:(n:Int)<ks.length
  case pos =>
   have hk2:n<ks.length:=by omega
   obtain ⟨b,off,rfl,hbl,hce⟩:=zdq (W:=fun o r=>wr.setB wb.heap.size o) (fun o r=>(HQK.out.below HB.out).past (fun k hk=>list_lt HQK.out hk (by intro e;subst e;exact absurd hk2 (Nat.not_lt_zero _))) o) hk2 (.cells #[] 0) (.cells #[] 0)
   rw [zd] at hbl
   have hce:=fun o=>hce o (.cells #[] 0)
   have hkz:=hks.2 _ (List.getElem_mem hk2)
   have hsn:=zco (ks.take n) ks[n]
   rw [<- List.take_succ_eq_append_getElem hk2,<- HT.out] at hsn
   have HSN:=Hd hsn
   clear hsn
   generalize ks[n]=key at hce hkz HSN
   have hn1:n*1048577<=549755813888*1048577:=Nat.mul_le_mul_right _ (by omega)
   have hc1:¬ 9223372036854775807<t.size+key.size:=by omega
   have hc2:¬ 9223372036854775807<t.size+key.size+1:=by omega
   have hz2:(t++key++K.space).size<=(n+1)*1048577:=by
    rw [ByteArray.size_append,ByteArray.size_append]
    have:K.space.size=1:=rfl
    omega
   (repeat (first|go_skip|go_guarded|go_step|go_upon|go_back))
   (refine zi (id:=6) [(0,true),(1,true),(2,true),(3,true),(4,true),(5,true),(6,true),(7,true),(8,true),(9,false)] 9 (by kernel_rfl) (by kernel_rfl) ?_)
   repeat (first|(refine zk rfl (fun K hK=>?_);go_simp;refine hK _ ?_;clear hK K)|(refine zt rfl rfl (fun K hK=>?_);go_simp;refine hK _ _ ?_;clear hK K))
   refine zQ ?_
   (repeat (first|go_skip|go_guarded|go_step|go_upon|go_back))
   go_roundw
   case rel=>exact ⟨n+1,t++key++K.space,by go_num,by omega,by exact Below.drew (zo HB.out (Nat.le_refl _) _),World.setB_at _ _ _ hzq,HSN.out.symm,hz2⟩
   case measure=>simp [intOf];omega
  case neg =>
   have e:n=ks.length:=by omega
   have HF:Hid (K.wordsOf ks=t):=by show _ = _;rw [HT.out,e,List.take_length]
   clear e
   obtain ⟨P,R,A,B',q0,q1,q2⟩:=QQ.out
   have P1:=(Grew.below HB.out _ (za P)).trans P
   have R1:=(Grew.below HB.out _ (za R)).trans R
   have A1:=(Grew.below HB.out _ (za A)).trans A
   have hsz:=HB.out.size
   have y0:w.heap.size<wr.heap.size:=by omega
   have y1:w.heap.size+1<wr.heap.size:=by omega
   have y2:w.heap.size+1+1<wr.heap.size:=by omega
   have x0:w.heap.size<wb.heap.size:=by omega
   have x1:w.heap.size+1<wb.heap.size:=by omega
   have x2:w.heap.size+1+1<wb.heap.size:=by omega
   have ea:wr.setB (w.heap.size+1+1) (.cells #[.int .i64 0,.int .i64 0,.string ⟨#[]⟩] 30)=wr:=ze A1
   have er:wr.setB (w.heap.size+1) (.cells #[.slice none 0 0,.slice none 0 0,.slice none 0 0] 54)=wr:=ze R1
   have ep:wr.setB w.heap.size (.cells #[.slice b0 m2.cells.length d0,.slice b1 m2.rd.length d1,.slice b2 m2.wr.length d2] 54)=wr:=ze P1
   have e4:((wr.setB w.heap.size (.cells #[.slice b0 m2.cells.length d0,.slice b1 m2.rd.length d1,.slice b2 m2.wr.length d2] 54)).setB (w.heap.size+1) (.cells #[.slice none 0 0,.slice none 0 0,.slice none 0 0] 54)).setB (w.heap.size+1+1) (.cells #[.int .i64 0,.int .i64 0,.string ⟨#[]⟩] 30)=wr:=by rw [ep,er,ea]
   rw [<- e4]
   have n0:¬ w.heap.size=wb.heap.size:=by omega
   have n0':¬ wb.heap.size=w.heap.size:=by omega
   have n1:¬ w.heap.size+1=wb.heap.size:=by omega
   have n1':¬ wb.heap.size=w.heap.size+1:=by omega
   have n2:¬ w.heap.size+1+1=wb.heap.size:=by omega
   have n2':¬ wb.heap.size=w.heap.size+1+1:=by omega
   have k0:=Hd (fun o r a q=>four_C q0 (q0.below HB.out) P1 R1 A1 o r a q)
   have k1:=Hd (fun o r a q=>four_S HSR.out q1 (q1.below HB.out) P1 R1 A1 o r a q)
   have k2:=Hd (fun o r a q=>four_S HSW.out q2 (q2.below HB.out) P1 R1 A1 o r a q)
   have kb:=Hd (fun o r a q=>four_B (Below.then B' HB.out) (Nat.le_of_lt x0) o r a q)
   clear P R A P1 R1 A1 ea er ep e4 hsz B' q0 q1 q2
   (repeat (first|go_skip|go_guarded|go_step|go_upon|go_back))
   go_region
   all_goals (repeat (first|go_skip|go_guarded|go_step|go_upon|go_back))
   all_goals (
    refine bodyPost_ret (by simp [results,Tryz.results119,go_sem,y0,y1,y2,n0,n0',n1,n1',n2,n2'];rfl) rfl ?_
    obtain ⟨rfl,rfl⟩:=hres
    exact ⟨_,by unfold zdc;rw [HF.out],⟨_,_,_,rfl,k0.out _ _ _ _,k1.out _ _ _ _,k2.out _ _ _ _⟩,Below.drew (kb.out _ _ _ _)⟩)
end Go.Proofs.YtpnoehpmgflibaaGreatDoor
