/- Texts of this claim, merged: the walks and what they stand on. Each condition stands in its theorem. -/
import Derived.Test.YtpnoehpmgflibaaGreatDoorCA18
set_option linter.unusedVariables false
set_option linter.unusedSimpArgs false
set_option maxRecDepth 100000
set_option maxHeartbeats 8000000
namespace Go.Proofs.YtpnoehpmgflibaaGreatDoor
open Go.ChangeShapes Go.WideShapes Go.ChangeAt Go.RowKit
structure GSt {α : Type} (R:RowOf α) (w:World) (m2:MachD) (s0 s2:Value) (wr:World) (m1:MachD) (a1:Option Addr) (n1:Nat) (o:Value) (xs:List α) (t:TypeId):Prop where
 bel:Below w.heap.size w wr
 at0:wr.heap[w.heap.size]?=some (.cells #[s0,.slice a1 m1.rd.length n1,s2] 54)
 at1:wr.heap[w.heap.size+1]?=some (.cells #[.slice none 0 0,.slice none 0 0,.slice none 0 0] 54)
 r0:RdL zu wr s0 m2.cells
 r1:RdL zx wr (.slice a1 m1.rd.length n1) m1.rd
 r2:RdL zx wr s2 m2.wr
 own:OwnL R t wr (w.heap.size+2) o xs
 o0:Off m2.cells s0 o
 o1:Off m1.rd (.slice a1 m1.rd.length n1) o
 o2:Off m2.wr s2 o
 cl:m1.cells=m2.cells
 wl:m1.wr=m2.wr
theorem GSt.app {α : Type} {R:RowOf α} {w:World} {m2:MachD} {s0 s2:Value} {wr:World} {m1:MachD} {a1:Option Addr} {n1:Nat} {o:Value} {xs xs':List α} {t:TypeId} (h:GSt R w m2 s0 s2 wr m1 a1 n1 o xs t) {c:Obj} {v7:Value} {w7:World} (hown:OwnL R t w7 (w.heap.size+2) v7 xs') (hg:(wr.alloc c).grownBy w7 o.ownBlock) (hfr:v7.ownBlock=o.ownBlock ∨ v7.ownBlock=some (wr.alloc c).heap.size):GSt R w m2 s0 s2 w7 m1 a1 n1 v7 xs' t:=by
 have hlt:=fun k hk=>h.own.lt k hk
 have k0:=h.r0.alloc c
 have k1:=h.r1.alloc c
 have k2:=h.r2.alloc c
 refine ⟨Below.appL (h.bel.ofAlloc _) hg (OwnL.base (h.own.alloc _) (by omega)),?_,?_,k0.keptO h.o0 hg,k1.keptO h.o1 hg,k2.keptO h.o2 hg,hown,h.o0.next (by decide) k0 hfr,h.o1.next (by decide) k1 hfr,h.o2.next (by decide) k2 hfr,h.cl,h.wl⟩
 ·have hz:=za h.at0
  exact (hg.block _ (by simp;omega) (fun e=>by have:=(hlt _ e.symm).1;omega)).trans ((heap_alloc_old _ _ hz).trans h.at0)
 ·have hz:=za h.at1
  exact (hg.block _ (by simp;omega) (fun e=>by have:=(hlt _ e.symm).1;omega)).trans ((heap_alloc_old _ _ hz).trans h.at1)
theorem Tryz.elemByteQ:Elem Tryz.prog 22 5 1 1:=Elem.of (.int .u8 0) Tryz.underlying22 (by kernel_rfl) rfl (by decide)
theorem zcm:ByteT Tryz.prog 22 5:=zaX
theorem sl_bytes {w:World} {v:Value} {l:List UInt8} (h:RdL zde w v l):Sl w v l.length (zL l):=by
 have h1:Sl w v l.length (l.flatMap zde.row):=h
 rwa [zmp] at h1
theorem zlm {W:World} {B:Nat} {oa:Option Addr} {oc:Nat} {out:ByteArray} (h:OwnL zde 5 W B (.slice oa out.data.toList.length oc) out.data.toList):Sem.run Tryz.prog (convert 22 9 (.slice oa out.size oc)) W.drew=.ok (.string out) W.drew:=by
 have h1:=zaB (P:=Tryz.prog) W.drew zcm Tryz.underlying9 (sl_bytes (RdL.drew h.rd))
 rw [show out.data.toList.length=out.size by simp,show (⟨out.data.toList.toArray⟩ : ByteArray)=out from za8 out] at h1
 exact h1
def zll (l:List UInt8) (lo hi i:Nat):List UInt8:=(l.take (min i hi)).drop lo
theorem cutG_yes {l:List UInt8} {lo hi i:Nat} (hl:i<l.length) (h1:lo<=i) (h2:i<hi):zll l lo hi (i+1)=zll l lo hi i ++ [l[i]]:=by
 unfold zll
 rw [Nat.min_eq_left (by omega),Nat.min_eq_left (by omega),List.take_succ_eq_append_getElem hl,List.drop_append_of_le_length (by rw [List.length_take];omega)]
theorem zmx {l:List UInt8} {lo hi i:Nat} (h:¬ (lo<=i/\i<hi)):zll l lo hi (i+1)=zll l lo hi i:=by
 unfold zll
 by_cases h2:i<hi
 ·rw [Nat.min_eq_left (by omega),Nat.min_eq_left (by omega),List.drop_eq_nil_of_le (by rw [List.length_take];omega),List.drop_eq_nil_of_le (by rw [List.length_take];omega)]
 ·rw [Nat.min_eq_right (by omega),Nat.min_eq_right (by omega)]
theorem zmw (l:List UInt8) (lo hi:Nat):zll l lo hi 0 = []:=by
 unfold zll
 rw [Nat.zero_min]
 simp
theorem cutG_end (s:ByteArray) (lo hi i:Nat) (h:hi<=i):zX (zll s.data.toList lo hi i)=s.extract lo hi:=by
 unfold zll
 rw [Nat.min_eq_right h]
 have e:=cut_list s lo hi
 have e2:(s.data.toList.take hi).drop lo=(s.data.toList.drop lo).take (hi - lo):=List.drop_take
 rw [e2,<- e,za8]
theorem rb_out (out s:ByteArray) (lo hi i:Nat) (h:hi<=i):(if lo<hi then out++s.extract lo hi else out).data.toList=out.data.toList++zll s.data.toList lo hi i:=by
 split
 ·rw [<- cutG_end s lo hi i h]
  simp [zX]
 ·rename_i hn
  unfold zll
  rw [List.drop_eq_nil_of_le (by rw [List.length_take];omega)]
  simp
theorem zlT {out s:ByteArray} {lo hi:Nat} {n:Nat} (h:out.size<=n) (hh:hi<=8):(if lo<hi then out++s.extract lo hi else out).size<=n+8:=by
 split
 ·rw [ByteArray.size_append,ByteArray.size_extract];omega
 ·omega
theorem zfW (id:Int) (id0 : -9223372036854775808<=id) (id1:id<=9223372036854775807) (a:Int) (aa0 : -9223372036854775808<=a) (aa1:a<=9223372036854775807) (n:Int) (n0 : -9223372036854775808<=n) (n1:n<=9223372036854775807):SC 185 (fun x=>#[x,.int .i64 id,.int .i64 a,.int .i64 n]) (K.readFile id a n) (fun v' t=>.tuple #[v',.string t]):=by
 refine zeq (fun w m a0 c0 a1 c1 a2 c2 res mres H0 H1 H2 HL=>?_)
 unfold K.readFile at HL
 go_enter Tryz.func185,Tryz.ntmps185
 (try simp only [])
 ((repeat (first|((with_reducible refine zcK (fun W0=>Below w.heap.size w W0/\W0.heap[w.heap.size]?=some (.cells #[.slice a0 m.cells.length c0,.slice a1 m.rd.length c1,.slice a2 m.wr.length c2] 54)/\W0.heap[w.heap.size+1]?=some (.cells #[.slice none 0 0,.slice none 0 0,.slice none 0 0] 54)) ?_ ?_);(· with_reducible exact zV w (.cells #[.slice a0 m.cells.length c0,.slice a1 m.rd.length c1,.slice a2 m.wr.length c2] 54) (.cells #[.slice none 0 0,.slice none 0 0,.slice none 0 0] 54) (by repeat (first|with_reducible exact Below.refl _ _|with_reducible apply Below.ofAlloc))))|go_skip|go_guarded|go_step|go_upon|go_back));(rintro w1 ⟨B,P,R⟩;have Z:=za R;have e1:=zj P R;rw [<- e1];have HW0:=Hd (fun o r=>H0.out.below (zP B o r));have HW1:=Hd (fun o r=>H1.out.below (zP B o r));have HW2:=Hd (fun o r=>H2.out.below (zP B o r));have Zp:=Nat.lt_of_succ_lt Z;clear e1 P R H0 H1 H2))
 ((repeat' (first|go_skip|go_guarded|go_step|go_upon|go_back|((((go_at_call 221;refine (SC.use (zbZ _ (by omega) (by omega)) (fun a=>0<=a/\a<=999) (fun m _=>zac _ m) (by first|exact HL.out|exact HL.out.last) (⟨_,_,_,rfl,HW0.out _ _,HW1.out _ _,HW2.out _ _⟩ : MRd _ _ _)).mono ?_));(rintro e w2 ⟨v2,x,m2,rfl,hx,hm,hb,HL2⟩);(obtain ⟨b0,d0,b1,d1,b2,d2,rfl,q0,q1,q2⟩:=hm.form;obtain ⟨B',P,R,Z',Zx⟩:=zG B Z hb;clear Zx;clear hm hb;(clear HW0 HW1 HW2 B Z;have e1:=zj P R;rw [<- e1];clear e1;have HW0:=Hd (fun o r=>zg (zf _) q0 P R o r);have HW1:=Hd (fun o r=>zg (zc _) q1 P R o r);have HW2:=Hd (fun o r=>zg (zc _) q2 P R o r);have B:=B';have Z:=Z';(try clear Zp);have Zp:=Nat.lt_of_succ_lt Z;clear B' Z' P R q0 q1 q2;(try simp only []));clear HL;have HL:=Hd HL2;clear HL2;(all_goals ((repeat' ((rcases HL.out.ite with ⟨hg,HL2⟩|⟨hg,HL2⟩<;>(clear HL;have HL:=Hd HL2;clear HL2;try first|(have hgz : _ ∨ _:=hg;clear hg;rcases hgz with hg|hg<;>(skip))|(have hgz:=not_or.1 hg;clear hg;obtain ⟨hg,hgo⟩:=hgz;try replace hgo:=Decidable.not_not.1 hgo))))))))))|(refine zi (id:=19) [(0,true)] 3 (by kernel_rfl) (by kernel_rfl) ?_;(repeat (fail));have Q0':=Q0.out;have Q1':=Q1.out;have Q2':=Q2.out;clear Q0 Q1 Q2;refine zy (fun W0=>Below w.heap.size w W0/\W0.heap[w.heap.size]?=some _/\W0.heap[w.heap.size+1]?=some _/\RdL zu W0 (.slice f0 m2.cells.length g0) m2.cells/\RdL zx W0 (.slice f1 m2.rd.length g1) m2.rd/\RdL zx W0 (.slice f2 m2.wr.length g2) m2.wr/\w.heap.size+1<W0.heap.size) ⟨(zP B _ _).ofExt _,(zq Z _ _ _).1,(zq Z _ _ _).2,zl (zf _) Z Q0' _ _,zl (zc _) Z Q1' _ _,zl (zc _) Z Q2' _ _,za (zq Z _ _ _).2⟩ ?_;clear Q0' Q1' Q2';rintro w3 ⟨B',P,R,q0,q1,q2,Z'⟩;(clear HW0 HW1 HW2 B Z;have e1:=zj P R;rw [<- e1];clear e1;have HW0:=Hd (fun o r=>zg (zf _) q0 P R o r);have HW1:=Hd (fun o r=>zg (zc _) q1 P R o r);have HW2:=Hd (fun o r=>zg (zc _) q2 P R o r);have B:=B';have Z:=Z';(try clear Zp);have Zp:=Nat.lt_of_succ_lt Z;clear B' Z' P R q0 q1 q2))|(exfalso;(simp only [bne_eq_false_iff_eq,beq_eq_false_iff_ne,beq_iff_eq,bne_iff_ne] at *);omega))))
 all_goals first
  | (obtain ⟨rfl,rfl⟩:=HL.out.end;refine bodyPost_ret (by simp [results,Tryz.results185,go_sem,Z];rfl) rfl ?_;exact ⟨_,rfl,⟨_,_,_,rfl,HW0.out _ _,HW1.out _ _,HW2.out _ _⟩,zP B _ _⟩)
  | skip
 all_goals (
  rename Int=>sz
  have ha : 0<=a:=by omega
  obtain ⟨na,rfl⟩:=Int.eq_ofNat_of_zero_le ha
  rw [Int.toNat_natCast] at HL
  have hbz:(((na:Int)+min n (sz - na)).toNat:Int)=na+min n (sz - na):=by omega
  generalize (((na:Int)+min n (sz - na)).toNat)=b at HL hbz
  first
   | have hend:(na:Int)+n<=b/\(b:Int)<=na+n:=by omega
   | have hend:sz<=(b:Int)/\(b:Int)<=sz:=by omega
  have hbs:(b:Int)<=999/\(na:Int)<b:=by omega
  clear hbz
  unfold K.places at HL
  generalize hcd:(b+7) / 8 - na / 8=cnt at HL
  have hlen:(List.range' (na / 8) cnt).length=cnt:=List.length_range'
  have hz:w.heap.size+2<=w2.heap.size:=Z
  (try generalize decide (n<1)=bb1)
  (try generalize decide (sz<=(na:Int))=bb2)
  (try generalize (bb1 || bb2)=bb4)
  (try generalize decide (n<sz - (na:Int))=bb3)
  go_loopw [12,13,14,15,16] (fun o k u14 u15 u16 wr=>∃ (i:Nat) (out:ByteArray) (m1:MachD) (a1:Option Addr) (n1:Nat),k=.int .i64 ((na / 8+i:Nat):Int)/\i<=cnt/\out.size<=8*i/\GSt zde w m2 (.slice b0 m2.cells.length d0) (.slice b2 m2.wr.length d2) wr m1 a1 n1 o out.data.toList 5/\Lft (Mp.fold (K.readBlock id na b) out ((List.range' (na / 8) cnt).drop i) >>= pure) m1 (res,mres)) (fun _ k _ _ _ _=>cnt - ((intOf k).toNat - na / 8))
  case atStart =>
   refine ⟨0,⟨#[]⟩,m2,b1,d1,rfl,Nat.zero_le _,Nat.le_refl _,⟨(zP B _ _).ofAlloc _,?_,?_,(HW0.out _ _).alloc _,(HW1.out _ _).alloc _,(HW2.out _ _).alloc _,?_,?_,?_,?_,rfl,rfl⟩,HL.out.last⟩
   ·have h:=(zS Z (.cells #[.slice b0 m2.cells.length d0,.slice b1 m2.rd.length d1,.slice b2 m2.wr.length d2] 54) (.cells #[.slice none 0 0,.slice none 0 0,.slice none 0 0] 54)).1
    exact (heap_alloc_old _ _ (za h)).trans h
   ·have h:=(zS Z (.cells #[.slice b0 m2.cells.length d0,.slice b1 m2.rd.length d1,.slice b2 m2.wr.length d2] 54) (.cells #[.slice none 0 0,.slice none 0 0,.slice none 0 0] 54)).2
    exact (heap_alloc_old _ _ (za h)).trans h
   ·have h:=OwnL.empty zde 5 ((w2.setB (w.heap.size+1) (.cells #[.slice none 0 0,.slice none 0 0,.slice none 0 0] 54)).setB w.heap.size (.cells #[.slice b0 m2.cells.length d0,.slice b1 m2.rd.length d1,.slice b2 m2.wr.length d2] 54))
    rw [zd,zd] at h
    exact OwnL.base h hz
   ·exact Off.fresh (by decide) (HW0.out (.cells #[] 0) (.cells #[] 0)) (fun k hk=>by cases hk;rw [zd,zd];exact Nat.le_refl _)
   ·exact Off.fresh (by decide) (HW1.out (.cells #[] 0) (.cells #[] 0)) (fun k hk=>by cases hk;rw [zd,zd];exact Nat.le_refl _)
   ·exact Off.fresh (by decide) (HW2.out (.cells #[] 0) (.cells #[] 0)) (fun k hk=>by cases hk;rw [zd,zd];exact Nat.le_refl _)
  case round =>
   clear HL
   obtain ⟨i,out,m1,a1,n1,rfl,hi,hos,hst,hl⟩:=hrel
   (obtain ⟨B',P,R,q0,q1,q2,qo,f0,f1,f2,hcl,hwl⟩:=hst;have Z':=za R;obtain ⟨oa,oc,rfl⟩:=qo.rd.form;have HF:=Hd (And.intro f0 (And.intro f1 (And.intro f2 (And.intro hcl hwl))));clear f0 f1 f2 hcl hwl;(try clear HW0) ;(try clear HW1);(try clear HW2);(try clear HO);(try clear B);(try clear Z);(try clear Zp);have e1:=zj P R;rw [<- e1];clear e1;have HW0:=Hd (fun o r=>zg (zf _) q0 P R o r);have HW1:=Hd (fun o r=>zg (zc _) q1 P R o r);have HW2:=Hd (fun o r=>zg (zc _) q2 P R o r);have HO:=Hd (fun o r=>za2 qo (p:=w.heap.size) (by omega) o r);have B:=B';have Z:=Z';have Zp:=Nat.lt_of_succ_lt Z;clear B' Z' P R q0 q1 q2 qo)
   by_cases hlt:i<cnt
   case neg =>
    have HL:=Hd (Lft.fold_end (κ:=pure) (by rw [hlen];omega) hl)
    clear hl
    have hpl:¬ ((na / 8+i:Nat):Int)*8<(b:Int):=by omega
    have hpb:((na / 8+i:Nat):Int)<=400:=by omega
    generalize hpp:na / 8+i=pl at hpl hpb ⊢
    have HC:=Hd (fun o r=>zlm (HO.out o r))
    (repeat (first|go_skip|go_guarded|go_step|go_upon|go_back))
    obtain ⟨rfl,rfl⟩:=HL.out.end
    have hc:=HC.out
    go_region
    all_goals (repeat (first|go_skip|go_guarded|go_step|go_upon|go_back))
    all_goals (
     refine bodyPost_ret (by simp [results,Tryz.results185,go_sem,Z];rfl) rfl ?_
     have hcl:=HF.out.2.2.2.1
     have hwl:=HF.out.2.2.2.2
     exact ⟨_,rfl,⟨_,_,_,rfl,by rw [hcl];exact HW0.out _ _,HW1.out _ _,by rw [hwl];exact HW2.out _ _⟩,by first|exact zP B _ _|exact Below.drew (zP B _ _)⟩)
   case pos =>
    have hl2:=Lft.fold_at (κ:=pure) (by rw [hlen];exact hlt) hl
    rw [List.getElem_range',Nat.one_mul] at hl2
    unfold K.readBlock at hl2
    rw [zam] at hl2
    have HL:=Hd hl2
    clear hl hl2
    have hpl:((na / 8+i:Nat):Int)*8<(b:Int):=by omega
    have hpb:((na / 8+i:Nat):Int)<=400:=by omega
    have hpm:cnt - (((na / 8+i:Nat)+1) - na / 8)<cnt - ((na / 8+i:Nat) - na / 8):=by omega
    have hpn:na / 8+(i+1)=na / 8+i+1:=by omega
    generalize hpp:na / 8+i=pl at HL hpl hpb hpm hpn ⊢
    have hcl:=HF.out.2.2.2.1
    have hwl:=HF.out.2.2.2.2
    (repeat (first|go_skip|go_guarded|go_step|go_upon|go_back))
    (go_at_call 222;refine (SCA.use (zf0 _ (by omega) (by omega) _ (by omega) (by omega)) (zjZ _ _) (fun a=>a.size<=20000) (fun m _=>zbL _) HL.out (by rw [hcl];exact HW0.out _ _) (HW1.out _ _) (by rw [hwl];exact HW2.out _ _)).mono ?_)
    rintro e w5 ⟨a3,n3,s,m3,rfl,hsz,ho3,hb,hcw,HL2⟩
    have hoff:=Off.later (xs:=m3.rd) ho3 (fun k hk=>((HO.out _ _).lt k hk).2)
    have q0:=(HW0.out _ _).below hb
    have q1:=ho3.rd
    have q2:=(HW2.out _ _).below hb
    have qo:=zeM (HO.out _ _) hb
    have HF:=Hd (And.intro HF.out.1 (And.intro hoff (And.intro HF.out.2.2.1 (And.intro (hcw.1.trans hcl) (hcw.2.trans hwl)))))
    obtain ⟨B',P,R,Z',Zx⟩:=zG B Z hb
    clear Zx hb ho3 hcl hwl hcw hoff
    (try dsimp only at HL2);clear HL;have HL:=Hd HL2;clear HL2
    (clear HW0 HW1 HW2 HO B Z Zp;have e1:=zj P R;rw [<- e1];clear e1;have HW0:=Hd (fun o r=>zg (zf _) q0 P R o r);have HW1:=Hd (fun o r=>zg (zc _) q1 P R o r);have HW2:=Hd (fun o r=>zg (zc _) q2 P R o r);have HO:=Hd (fun o r=>za2 qo (p:=w.heap.size) (by omega) o r);have B:=B';have Z:=Z';have Zp:=Nat.lt_of_succ_lt Z;clear B' Z' P R q0 q1 q2 qo;(try simp only []))
    (repeat (first|go_skip|go_guarded|go_step|go_upon|go_back))
    have hsl:s.data.toList.length=s.size:=by simp
    obtain ⟨xs,hxs⟩ : ∃ xs,xs=out.data.toList:=⟨_,rfl⟩
    rw [<- hxs] at HO HF ⊢
    have hxl:xs.length<=8*cnt:=by rw [hxs];simp;omega
    have HX:=Hd hxs
    clear hxs
    generalize hlo:na - pl*8=lo
    generalize hhi:min (b - pl*8) (min 8 s.size)=hi
    have hoR:=HL.out
    rw [hlo,hhi] at hoR
    clear HL
    have HL:=Hd hoR
    clear hoR
    have hm:min 8 s.size<=8:=Nat.min_le_left _ _
    generalize hmm:min 8 s.size=mm at hm hhi
    have hmz:(mm:Int)<=s.size:=by omega
    (try generalize decide ((pl:Int)*8<(na:Int)+n)=bb5)
    (try generalize decide ((pl:Int)*8<sz)=bb5)
    go_loopw [12,15,16] (fun o k u16 wr=>∃ (j:Nat) (ys:List UInt8),k=.int .i64 j/\j<=mm/\ys=xs++zll s.data.toList lo hi j/\ys.length<=xs.length+j/\GSt zde w m2 (.slice b0 m2.cells.length d0) (.slice b2 m2.wr.length d2) wr m3 a3 n3 o ys 5) (fun _ k _ _=>mm - (intOf k).toNat)
    case atStart=>exact ⟨0,xs,rfl,Nat.zero_le _,by rw [zmw,List.append_nil],Nat.le_refl _,(⟨zP B _ _,(zS Z _ _).1,(zS Z _ _).2,HW0.out _ _,HW1.out _ _,HW2.out _ _,HO.out _ _,HF.out.1,HF.out.2.1,HF.out.2.2.1,HF.out.2.2.2.1,HF.out.2.2.2.2⟩ : GSt _ _ _ _ _ _ _ _ _ _ _ _)⟩
    case round =>
     obtain ⟨j,ys,rfl,hj,hys,hyl,hst⟩:=hrel
     (obtain ⟨B',P,R,q0,q1,q2,qo,f0,f1,f2,hcl,hwl⟩:=hst;have Z':=za R;obtain ⟨oa,oc,rfl⟩:=qo.rd.form;have HF:=Hd (And.intro f0 (And.intro f1 (And.intro f2 (And.intro hcl hwl))));clear f0 f1 f2 hcl hwl;(try clear HW0) ;(try clear HW1);(try clear HW2);(try clear HO);(try clear B);(try clear Z);(try clear Zp);have e1:=zj P R;rw [<- e1];clear e1;have HW0:=Hd (fun o r=>zg (zf _) q0 P R o r);have HW1:=Hd (fun o r=>zg (zc _) q1 P R o r);have HW2:=Hd (fun o r=>zg (zc _) q2 P R o r);have HO:=Hd (fun o r=>za2 qo (p:=w.heap.size) (by omega) o r);have B:=B';have Z:=Z';have Zp:=Nat.lt_of_succ_lt Z;clear B' Z' P R q0 q1 q2 qo)
     have HYS:=Hd hys
     clear hys
     by_cases hjl:j<mm
     case neg =>
      have hj2:(s.size:Int)<=j ∨ ((j:Int)<s.size/\(8:Int)<=j):=by omega
      have hjm:j=mm:=by omega
      have ho:=rb_out out s lo hi j (by omega)
      rw [HX.out.symm,<- HYS.out] at ho
      have hos2:=zlT (s:=s) (lo:=lo) (n:=8*i) hos (show hi<=8 by omega)
      have HOUT:=Hd ho
      clear ho hjm
      generalize hout:(if lo<hi then out++s.extract lo hi else out)=out2 at HL HOUT hos2
      clear hout
      rcases hj2 with hj2|⟨hj2,hj3⟩
      all_goals (
       (repeat (first|go_skip|go_guarded|go_step|go_upon|go_back))
       go_roundw
       case rel=>exact ⟨i+1,out2,m3,a3,n3,by rw [hpn];go_num,by omega,by omega,by rw [HOUT.out];exact (⟨zP B _ _,(zS Z _ _).1,(zS Z _ _).2,HW0.out _ _,HW1.out _ _,HW2.out _ _,HO.out _ _,HF.out.1,HF.out.2.1,HF.out.2.2.1,HF.out.2.2.2.1,HF.out.2.2.2.2⟩ : GSt _ _ _ _ _ _ _ _ _ _ _ _),HL.out⟩
       case measure=>simp [intOf];omega)
     case pos =>
      have hjs:j<s.size:=by omega
      have hjs2:(j:Int)<s.size:=by omega
      have hj8:(j:Int)<8:=by omega
      by_cases hk2:(na:Int)<=(pl:Int)*8+j
      case neg =>
       have HCG:=Hd (zmx (l:=s.data.toList) (lo:=lo) (hi:=hi) (i:=j) (by omega))
       (repeat (first|go_skip|go_guarded|go_step|go_upon|go_back))
       go_roundw
       case rel=>exact ⟨j+1,ys,by go_num,by omega,by rw [HCG.out];exact HYS.out,by omega,(⟨zP B _ _,(zS Z _ _).1,(zS Z _ _).2,HW0.out _ _,HW1.out _ _,HW2.out _ _,HO.out _ _,HF.out.1,HF.out.2.1,HF.out.2.2.1,HF.out.2.2.2.1,HF.out.2.2.2.2⟩ : GSt _ _ _ _ _ _ _ _ _ _ _ _)⟩
       case measure=>simp [intOf];omega
      case pos =>
       by_cases hk3:(pl:Int)*8+j<b
       case neg =>
        have HCG:=Hd (zmx (l:=s.data.toList) (lo:=lo) (hi:=hi) (i:=j) (by omega))
        (repeat (first|go_skip|go_guarded|go_step|go_upon|go_back))
        go_roundw
        case rel=>exact ⟨j+1,ys,by go_num,by omega,by rw [HCG.out];exact HYS.out,by omega,(⟨zP B _ _,(zS Z _ _).1,(zS Z _ _).2,HW0.out _ _,HW1.out _ _,HW2.out _ _,HO.out _ _,HF.out.1,HF.out.2.1,HF.out.2.2.1,HF.out.2.2.2.1,HF.out.2.2.2.2⟩ : GSt _ _ _ _ _ _ _ _ _ _ _ _)⟩
        case measure=>simp [intOf];omega
       case pos =>
        have HCG:=Hd (cutG_yes (l:=s.data.toList) (lo:=lo) (hi:=hi) (i:=j) (by rw [hsl];exact hjs) (by omega) (by omega))
        have hgc:s.data.toList[j]'(by rw [hsl];exact hjs)=s[j]:=rfl
        have HGC:=Hd hgc
        clear hgc
        go_wp2_with (at_builtin;refine zA ?_)
        refine zaK rfl _ _ _ rfl Tryz.elemByteQ ((HO.out _ _).alloc _) rfl (RdL.oneAt zde _ s[j] _ rfl _ _ (by rw [zd,zd])) rfl (by simp only [List.length_singleton];omega) (by simp only [List.length_singleton];unfold maxLen;omega) (by simp [zd];omega) ?_
        intro v7 w7 hown hg hfr
        have HG:=Hd (GSt.app ((⟨zP B _ _,(zS Z _ _).1,(zS Z _ _).2,HW0.out _ _,HW1.out _ _,HW2.out _ _,HO.out _ _,HF.out.1,HF.out.2.1,HF.out.2.2.1,HF.out.2.2.2.1,HF.out.2.2.2.2⟩ : GSt _ _ _ _ _ _ _ _ _ _ _ _):GSt zde w m2 _ _ _ m3 a3 n3 _ ys 5) hown hg hfr)
        clear hown hg hfr
        ((try simp only []);repeat (first|go_skip|go_guarded|go_step|go_upon|go_back))
        go_roundw
        case rel=>exact ⟨j+1,ys ++ [s[j]],by go_num,by omega,by rw [HCG.out,HGC.out,HYS.out,List.append_assoc],by simp;omega,HG.out⟩
        case measure=>simp [intOf];omega)
end Go.Proofs.YtpnoehpmgflibaaGreatDoor
namespace Go.Proofs.YtpnoehpmgflibaaGreatDoor
def wG (text:List UInt8) (a b place:Nat) (old:List UInt8) (i:Nat):List UInt8 :=
 (List.range' (max a (place*8)) (min b (place*8+i) - max a (place*8))).foldl (fun l k=>K.setAt l (k - place*8) (text.getD (k - a) 0)) old
theorem zlA (text:List UInt8) (a b place:Nat) (old:List UInt8):wG text a b place old 0=old:=by
 unfold wG
 rw [show min b (place*8+0) - max a (place*8)=0 by omega]
 rfl
theorem wG_end (text:List UInt8) (a b place:Nat) (old:List UInt8):wG text a b place old 8=K.wBlock text a b place old:=rfl
theorem wG_no {text:List UInt8} {a b place:Nat} {old:List UInt8} {i:Nat} (h:place*8+i<a ∨ b<=place*8+i):wG text a b place old (i+1)=wG text a b place old i:=by
 unfold wG
 rw [show min b (place*8+(i+1)) - max a (place*8)=min b (place*8+i) - max a (place*8) by omega]
theorem zlB {text:List UInt8} {a b place:Nat} {old:List UInt8} {i:Nat} (h1:a<=place*8+i) (h2:place*8+i<b):wG text a b place old (i+1)=K.setAt (wG text a b place old i) i (text.getD (place*8+i - a) 0):=by
 unfold wG
 rw [show min b (place*8+(i+1)) - max a (place*8)=(min b (place*8+i) - max a (place*8))+1 by omega,List.range'_concat,List.foldl_append]
 simp only [List.foldl_cons,List.foldl_nil]
 rw [show max a (place*8)+1*(min b (place*8+i) - max a (place*8))=place*8+i by omega,show place*8+i - place*8=i by omega]
theorem zho (l:List UInt8) (j:Nat):l++List.replicate (j+1) 0=(l++List.replicate j 0) ++ [0]:=by
 rw [List.replicate_succ',List.append_assoc]
theorem zgD {l:List UInt8} {i j:Nat} (c:UInt8) (h1:i<l.length+j) (h2:∀ k,k<j->l.length+k<=i):(l++List.replicate j 0).set i c=K.setAt l i c:=by
 unfold K.setAt
 by_cases hj:j=0
 ·subst hj
  rw [show i+1 - l.length=0 by omega]
 ·have:=h2 (j - 1) (by omega)
  rw [show i+1 - l.length=j by omega]
theorem ziX (l:List UInt8) (i:Nat) (c:UInt8):(K.setAt l i c).length=max l.length (i+1):=by
 unfold K.setAt
 rw [List.length_set,List.length_append,List.length_replicate]
 omega
theorem zgj {text:List UInt8} {a b place:Nat} {old:List UInt8} {n:Nat} (h:old.length<=n) (hn : 8<=n):∀ i,i<=8->(wG text a b place old i).length<=n
 | 0,_=>by rw [zlA];exact h
 | i+1,hi=>by
  have ih:=zgj (text:=text) (a:=a) (b:=b) (place:=place) h hn i (by omega)
  by_cases h1:a<=place*8+i/\place*8+i<b
  ·rw [zlB h1.1 h1.2,ziX]
   omega
  ·rw [wG_no (by omega)]
   exact ih
end Go.Proofs.YtpnoehpmgflibaaGreatDoor
namespace Go
open Go.ChangeShapes Go.WideShapes Go.ChangeAt Go.RowKit
theorem zi2 {e:TypeId} {w:World} {B g n cap k:Nat} {l:List UInt8} {c:UInt8} (h:OwnB e w B (.slice (some ⟨g,0,none⟩) n cap) l) (hk:k<l.length) :
  (∃ u,w.cell? ⟨g,k,none⟩=some u)/\w.frozen? ⟨g,k,none⟩=false/\OwnB e (w.setCell ⟨g,k,none⟩ (.int .u8 (c.toNat:Int))) B (.slice (some ⟨g,0,none⟩) n cap) (l.set k c):=by
 rcases h with ⟨hv,_⟩|⟨g',cap',cur,fz,hv,h1,h2,h3,h4,h5,h6,h7⟩
 ·cases hv
 ·cases hv
  have hkc:k<cur.size:=by omega
  refine ⟨⟨cur[k],by simp [World.cell?,h2,hkc]⟩,?_,.inr ⟨g,cap,cur.setIfInBounds k (.int .u8 (c.toNat:Int)),fz,by rw [List.length_set],h1,?_,by simpa using h3,by rw [List.length_set];exact h4,h5,by simpa using h6,?_⟩⟩
  ·rcases h3 with rfl|h3
   ·simp [World.frozen?,h2]
   ·obtain ⟨lo,hi⟩:=fz
    simp only [World.frozen?,h2,Bool.and_eq_false_iff,decide_eq_false_iff_not]
    left
    simp only at h3
    omega
  ·rw [setCell_eq_setRow w g k cur e fz _ h2]
   exact setRow_heap w g cur _ e _ h2
  ·rw [List.length_set,Array.toList_setIfInBounds,List.take_set,h7]
   unfold zL
   rw [List.map_set]
end Go
