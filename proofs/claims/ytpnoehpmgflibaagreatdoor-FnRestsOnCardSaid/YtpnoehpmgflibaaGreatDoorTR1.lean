/- Texts of this claim, merged: the walks and what they stand on. Each condition stands in its theorem. -/
import Derived.Laws.IdiomStrings
import Derived.Lib.Hide
import Derived.OrdersHeld
import Derived.Sort.KeysCollected
import Derived.Sort.Walk0
import Derived.Test.YtpnoehpmgflibaaGreatDoorCA1
import Derived.Test.YtpnoehpmgflibaaGreatDoorCA11
import Derived.Test.YtpnoehpmgflibaaGreatDoorCA13
import Derived.Test.YtpnoehpmgflibaaGreatDoorCA2
import Derived.Test.YtpnoehpmgflibaaGreatDoorCA27
import Derived.Test.YtpnoehpmgflibaaGreatDoorCA28
import Derived.Test.YtpnoehpmgflibaaGreatDoorCA3
import Derived.Test.YtpnoehpmgflibaaGreatDoorCA37
import Derived.Test.YtpnoehpmgflibaaGreatDoorCA39
import Derived.Test.YtpnoehpmgflibaaGreatDoorCA5
import Derived.Test.YtpnoehpmgflibaaGreatDoorCA6
import Derived.Test.YtpnoehpmgflibaaGreatDoorCA8
set_option linter.unusedVariables false
set_option linter.unusedSimpArgs false
set_option maxRecDepth 100000
set_option maxHeartbeats 8000000
namespace Go
section
variable {P:Program} {ops:Array Oper} {Q:Exit->Act->World->Prop} {S:World->Prop} {n:Nat}
attribute [go_sem] zlu zlt
attribute [go_sem] Oper.quietV
attribute [go_sem] Oper.quietX
section
variable {ι : Type} {F : ι->World} {r:List (Nat × Bool)} {a:Act} {w:World} {o:Oper} {i:Nat}
theorem wpOrd_at_block {ι : Type} {P:Program} {ops:Array Oper} {Q:Exit->Act->World->Prop} {F : ι->World} {n:Nat} {r:List (Nat × Bool)} {a:Act} {w:World} {p:Nat} {o:Obj} (h:w.heap[p]?=some o) (H:zaY P ops Q F n r a (w.setB p o)):zaY P ops Q F n r a w:=by
 rw [ze h] at H
 exact H
end
end
end Go
namespace Go
open Go.RowKit
variable {α : Type}
section
variable {R:RowOf α} {w:World} {v:Value} {xs:List α} {e:TypeId} {B:Nat}
end
section
variable {P:Program}
end
/-! ### the Go types -/
theorem OwnL.got {α : Type} {R:RowOf α} {e:TypeId} {B:Nat} {w w':World} {v:Value} {xs:List α} {p:Nat} {o:Obj} (h:OwnL R e w B v xs) (g:Got p w o w') (hp:v.ownBlock ≠ some p):OwnL R e w' B v xs:=by
 obtain ⟨X,rfl⟩:=g
 exact (h.setB hp o).ext X
theorem Got.app {α : Type} {R:RowOf α} {e:TypeId} {w w1 w2:World} {v:Value} {xs:List α} {p:Nat} {o:Obj} (h:Got p w o w1) (hg:w1.grownBy w2 v.ownBlock) (ho:OwnL R e w1 w.heap.size v xs):Got p w o w2:=by
 obtain ⟨X,rfl⟩:=h
 have ho':OwnL R e ((w.setB p o).ext X) (w.setB p o).heap.size v xs:=by rw [zd];exact ho
 exact (Below.appL (a:=w.setB p o) ((Below.refl _ _).ofExt X) hg ho').ext
attribute [go_sem] SpF
theorem Sp.start {w:World} {p:Nat} {o:Obj} (h:w.heap[p]?=some o):Sf (SpF w p) w.drew:=⟨(o,⟨#[],w.drawn+1⟩),by unfold SpF;rw [ze h];unfold World.ext World.drew;simp⟩
theorem Sp.got {w w1 w2:World} {p:Nat} {o:Obj} (h:Sf (SpF w p) w1) (g:Got p w1 o w2) (hp:p<w.heap.size):Sf (SpF w p) w2:=by
 obtain ⟨⟨o1,X⟩,rfl⟩:=h
 obtain ⟨Y,rfl⟩:=Got.then ⟨X,rfl⟩ g hp
 exact ⟨(o,Y),rfl⟩
end Go
namespace Go
open Go.RowKit
theorem Upon.toBelow {fp:List Nat} {B:Nat} {a b:World} (h:Upon fp a b) (hB:B<=a.heap.size) (hf:∀ x ∈ fp,B<=x):Below B a b :=
 ⟨h.os,h.tape,h.output,h.size,fun k hk=>h.block k (Nat.lt_of_lt_of_le hk hB) (fun hx=>absurd (hf k hx) (by omega))⟩
end Go
namespace Go.Proofs.YtpnoehpmgflibaaGreatDoor
open Go.ChangeShapes Go.WideShapes Go.ChangeAt Go.RowKit
theorem putC_len (key val:ByteArray) (xs:List CellD):(zbM key val xs).length<=xs.length+1:=by
 unfold zbM
 have:=zea key xs
 split
 ·omega
 ·split
  ·omega
  ·rw [insC_len];omega
def vAnswer:View AnswerD:=vRow AnswerD.row 3 AnswerD.ok (fun _=>rfl) (fun d u hu=>by simp [AnswerD.row] at hu;rcases hu with rfl|rfl|rfl<;>rfl)
end Go.Proofs.YtpnoehpmgflibaaGreatDoor
namespace Go.Proofs.YtpnoehpmgflibaaGreatDoor
open Go.ChangeShapes Go.WideShapes Go.ChangeAt Go.RowKit
namespace MachD
end MachD
namespace Mp
variable {α β γ : Type}
theorem fits_pure (a : α) (m:MachD):(pure a:Mp α).fits m ↔ Small m:=Iff.rfl
end Mp
open Mp
namespace K
/-! ### files -/
/-! ### pipes -/
/-! ### processes -/
/-! ### signals -/
/-! ### pages, output -/
/-! ### calls -/
end K
end Go.Proofs.YtpnoehpmgflibaaGreatDoor
namespace Go.Proofs.YtpnoehpmgflibaaGreatDoor
open Go.ChangeShapes Go.WideShapes Go.ChangeAt Go.RowKit
theorem impl_put (v:Value) (ds:List CellD) (key val:ByteArray) (B:Nat) (w:World) (ho:OwnL zu 47 w B v ds) (hks:key.size<=9223372036854775807) (hl:ds.length<=549755813888) (hB:B<=w.heap.size) :
  Calls Tryz.prog 48 #[v,.string key,.string val] w fun e w'=>∃ v',e=.returned v'/\OwnL zu 47 w' B v' (zbM key val ds)/\Upon v.ownBlock.toList w w' :=
 (zmg v ds key val B w ho hks hl hB).mono fun e w' h => by
  obtain ⟨v',h1,h2,h3,_⟩:=h
  exact ⟨v',h1,h2,h3⟩
theorem OwnL.merge2 {α : Type} {R:RowOf α} {e:TypeId} {w:World} {B:Nat} {v:Value} {xs:List α} {bs cs:Array Obj} {d0 dr:Nat} (h:OwnL R e (w.ext ⟨bs,d0⟩) B v xs):OwnL R e (w.ext ⟨bs++cs,dr⟩) B v xs:=by
 have:=h.ext ⟨cs,dr⟩
 rwa [zp] at this
open Mp
namespace K
def runSteps (out:List AnswerD) (s:StepD):Mp (List AnswerD):=do return out ++ [<- doCall s.proc s.call]
def runAll (l:List StepD):Mp (List AnswerD):=fold runSteps [] l
end K
theorem putS_len (xs:List ByteArray) (y:ByteArray):(zb3 xs y).length<=xs.length+1:=by
 obtain ⟨A,D,e,_,_,hp⟩:=ziZ xs y
 rw [hp]
 split
 ·omega
 ·rw [e];simp;omega
theorem Tryz.elemAnsQ:Elem Tryz.prog 72 30 3 32:=Elem.of (.agg #[.int .i64 0,.int .i64 0,.string ⟨#[]⟩]) Tryz.underlying72 (by kernel_rfl) rfl (by decide)
def rStepM:RowOf StepD:=⟨StepD.row,7,fun _=>rfl,fun d u hu=>by simp [StepD.row] at hu;rcases hu with rfl|rfl|rfl|rfl|rfl|rfl|rfl<;>rfl⟩
def StepD.fine (s:StepD):Prop:=s.call.ok/\(-9223372036854775808<=s.proc/\s.proc<=9223372036854775807)/\(-9223372036854775808<=s.call.a/\s.call.a<=9223372036854775807)/\(-9223372036854775808<=s.call.b/\s.call.b<=9223372036854775807)
theorem impl_runG (vs:Value) (l:List StepD) (hf:∀ s ∈ l,s.fine) (hl:l.length<=1048576) (w0 w:World) (fp:List Nat) (mb:Nat) (m:MachD) (H:IM w0 w mb fp m) (hs:RdL rStepM w vs l) (hd:l ≠ []->∀ b off n c,vs=.slice (some ⟨b,off,none⟩) n c->b ∉ fp) (hfit:(K.runAll l).fits m) :
  Calls Tryz.prog 36 #[.pointer (some ⟨mb,0,none⟩),vs] w fun e w'=>∃ vo,e=.returned vo/\∃ fp',IM w0 w' mb fp' ((K.runAll l).run m).2/\IT w fp w' fp'/\KL rAns 30 w' w.heap.size fp' vo ((K.runAll l).run m).1:=by
 obtain ⟨res,mres,hr⟩ : ∃ res mres,(K.runAll l).run m=(res,mres):=⟨_,_,rfl⟩
 have HL:Hid (Lft (K.runAll l) m (res,mres)):=⟨hfit,hr⟩
 rw [hr]
 clear hr hfit
 unfold K.runAll at HL
 have HM:=Hd H
 have HT:=Hd (IT.refl w fp)
 have HB0:=Hd H.bel.size
 have HF:=Hd hf
 have HD:=Hd hd
 obtain ⟨ao,cap,rfl,hc1,hc2,hnil,hne⟩:=hs.shape
 have HX:=Hd hne
 have hb0:=H.bel.size
 clear H hs hne hnil hf hd
 unfold maxLen at hc2
 go_enter Tryz.func36,Tryz.ntmps36
 (repeat (first|go_skip|go_guarded|go_step|go_upon|go_back))
 go_loopw [5,7,10] (fun o _ k wr=>∃ (n:Nat) (xs:List AnswerD) (m1:MachD) (fp1:List Nat),k=.int .i64 n/\n<=l.length/\xs.length<=n/\IM w0 wr mb fp1 m1/\IT w fp wr fp1/\KL rAns 30 wr w.heap.size fp1 o xs/\Lft (Mp.fold K.runSteps xs (l.drop n) >>= pure) m1 (res,mres)) (fun _ _ k _=>l.length - (intOf k).toNat)
 case atStart=>exact ⟨0,[],_,_,rfl,Nat.zero_le _,Nat.le_refl _,HM.out,HT.out,⟨OwnL.nil rAns _ w _,fun j hj=>by cases hj⟩,HL.out.last⟩
 case round =>
  clear HL HM HT
  obtain ⟨n,xs,m1,fp1,rfl,hn,hxl,hm,ht,ho,hl'⟩:=hrel
  obtain ⟨oa,oc,rfl⟩:=ho.1.rd.form
  have HM:=Hd hm
  have HT:=Hd ht
  have HO:=Hd ho
  clear hm ht ho
  by_cases hlt:(n:Int)<l.length
  case neg =>
   have HL:=Hd (Lft.fold_end (κ:=pure) (by omega) hl')
   (repeat (first|go_skip|go_guarded|go_step|go_upon|go_back))
   obtain ⟨rfl,rfl⟩:=HL.out.end
   refine bodyPost_ret (by simp [results,Tryz.results36,go_sem];rfl) rfl ?_
   exact ⟨_,rfl,_,HM.out,HT.out,HO.out⟩
  case pos =>
   have hk:n<l.length:=by omega
   have hl2:=Lft.fold_at (κ:=pure) hk hl'
   clear hl'
   obtain ⟨b,off,rfl,hbl,hcell⟩:=HX.out (by intro e;simp [e] at hk)
   have hc:=hcell n hk
   have hfine:=HF.out _ (List.getElem_mem hk)
   generalize l[n]=s at hc hfine hl2
   obtain ⟨pr,kd,nm,tn,ca,cb,tx⟩:=s
   obtain ⟨f0,f1,f2,f3⟩:=hfine
   dsimp only at f1 f2 f3
   have hbl:=hbl (by decide)
   have hbk:=HT.out.up.block b hbl (HD.out (by intro e;simp [e] at hk) b off _ _ rfl)
   have hg0:∀ {o:Nat} {u:Value},w.cell? ⟨b,o,none⟩=some u->wr.cell? ⟨b,o,none⟩=some u:=fun h=>(World.cell?_of_block (a:=⟨b,_,none⟩) hbk).trans h
   have y0:wr.cell? ⟨b,off+n*7,none⟩=some (.int .i64 pr):=hg0 (hc 0 _ rfl)
   have y1:wr.cell? ⟨b,off+n*7+1,none⟩=some (.int .i64 kd):=hg0 (hc 1 _ rfl)
   have y2:wr.cell? ⟨b,off+n*7+2,none⟩=some (.string nm):=hg0 (hc 2 _ rfl)
   have y3:wr.cell? ⟨b,off+n*7+3,none⟩=some (.string tn):=hg0 (hc 3 _ rfl)
   have y4:wr.cell? ⟨b,off+n*7+4,none⟩=some (.int .i64 ca):=hg0 (hc 4 _ rfl)
   have y5:wr.cell? ⟨b,off+n*7+5,none⟩=some (.int .i64 cb):=hg0 (hc 5 _ rfl)
   have y6:wr.cell? ⟨b,off+n*7+6,none⟩=some (.string tx):=hg0 (hc 6 _ rfl)
   have hbw:b<wr.heap.size:=Nat.lt_of_lt_of_le hbl HT.out.up.size
   have hl3:Lft (K.doCall pr ⟨kd,nm,tn,ca,cb,tx⟩ >>= fun a=>Mp.fold K.runSteps (xs ++ [a]) (l.drop (n+1)) >>= pure) m1 (res,mres):=by
    unfold K.runSteps at hl2
    rw [zam] at hl2
    exact hl2
   have HL:=Hd hl3
   clear hl2 hl3 hc hcell hg0 hbk
   (repeat (first|go_skip|go_guarded|go_step|go_upon|go_back))
   clear y0 y1 y2 y3 y4 y5 y6
   (go_at_call 32;refine (IC.use (impl_do pr f1.1 f1.2 ⟨kd,nm,tn,ca,cb,tx⟩ f0 f2.1 f2.2 f3.1 f3.2) (fun _=>True) (fun _ _=>trivial) HL.out (HM.out.below (Below.ofAlloc (Below.refl _ _) _))).mono ?_;rintro e w2 ⟨x,m2,fp2,rfl,hx,hm,ht,HL2⟩)
   have HT':=Hd (HT.out.trans ((IT.below (Below.ofAlloc (Below.refl _ _) _)).trans ht))
   have HO':=Hd ((HO.out.below (Below.ofAlloc (Below.refl _ _) _)).step ht)
   have HM':=Hd hm
   clear HM HT HO hm ht
   have HM:=HM'
   have HT:=HT'
   have HO:=HO'
   clear HM' HT' HO' HL
   have HL:=Hd HL2
   clear HL2
   obtain ⟨xc,xn,xt⟩:=x
   unfold zdc
   go_wp2_with (at_builtin;refine zA ?_)
   refine zaK rfl _ _ _ rfl Tryz.elemAnsQ (B:=w.heap.size) (v:=.slice oa xs.length oc) (R:=rAns) (xs:=xs) (HO.out.1.alloc _) rfl (RdL.oneAt rAns _ ⟨xc,xn,xt⟩ _ rfl _ _ rfl) rfl (by simp only [List.length_singleton];omega) (by simp only [List.length_singleton];unfold maxLen;omega) (by have:=HT.out.up.size;simp;omega) ?_
   intro v7 w7 hown hg hfr
   have hBo:=fun j hj=>(HO.out.1.lt j hj).1
   have hu:=zbo hg
   have hba:=Below.ofAlloc (Below.refl w2.heap.size w2) (.cells #[.int .i64 xc,.int .i64 xn,.string xt] 30)
   have hm1:=HM.out.below hba
   have hm7:=hm1.upon hu (fun j hj=>HO.out.2 j (by simpa using hj)) (fun j hj=>Nat.le_trans HB0.out (hBo j (by simpa using hj)))
   have ht7:=(HT.out.trans (IT.below hba)).upon hu (fun j hj=>hBo j (by simpa using hj))
   have ho7:KL rAns 30 w7 w.heap.size _ v7 (xs ++ [⟨xc,xn,xt⟩]):=⟨hown,fun j hj hx=>by
    rcases hfr with h|h
    ·exact HO.out.2 j (by rw [<- hj,h]) hx
    ·rw [hj] at h
     have h1:=Option.some.inj h
     have h2:=hm1.hi j hx
     omega⟩
   obtain ⟨oa7,oc7,rfl⟩:=hown.rd.form
   simp only [List.length_append,List.length_singleton] at ho7
   clear hown hg hfr hu hba hm1
   have HM7:=Hd hm7
   have HT7:=Hd ht7
   have HO7:=Hd ho7
   clear hm7 ht7 ho7 hBo
   ((try simp only []);repeat (first|go_skip|go_guarded|go_step|go_upon|go_back))
   go_roundw
   case rel=>exact ⟨n+1,xs ++ [⟨xc,xn,xt⟩],_,_,by go_num,by omega,by simp;omega,HM7.out,HT7.out,HO7.out,HL.out⟩
   case measure=>simp [intOf];omega
theorem impl_run (vs:Value) (l:List StepD) (hf:∀ s ∈ l,s.fine) (hl:l.length<=1048576) (w0 w:World) (fp:List Nat) (mb:Nat) (m:MachD) (H:IM w0 w mb fp m) (hs:RdL rStepM w0 vs l) (hfit:(K.runAll l).fits m) :
  Calls Tryz.prog 36 #[.pointer (some ⟨mb,0,none⟩),vs] w fun e w'=>∃ vo,e=.returned vo/\∃ fp',IM w0 w' mb fp' ((K.runAll l).run m).2/\IT w fp w' fp'/\KL rAns 30 w' w.heap.size fp' vo ((K.runAll l).run m).1 :=
 impl_runG vs l hf hl w0 w fp mb m H (hs.below H.bel) (fun hne b off n c e hx=>by
  subst e
  obtain ⟨ao,cap,e,_,_,_,h⟩:=hs.shape
  obtain ⟨b',off',e',hlt,_⟩:=h hne
  cases e
  cases e'
  have:=H.lo b hx
  have:=hlt (by decide)
  omega) hfit
def spansLit:List ByteArray:=[⟨#[97]⟩,⟨#[98]⟩,⟨#[110,47,120]⟩,⟨#[110,47,121]⟩,⟨#[110,47,121,121]⟩,⟨#[110,47,42]⟩,⟨#[110,47,121,42]⟩,⟨#[105,47,49,47,42]⟩,⟨#[105,47,49,47,115]⟩,⟨#[105,47,42]⟩,⟨#[42]⟩,⟨#[105,47,49,50,47,115]⟩]
theorem spec_l03Span (p:Nat) (vb:Value) (bs:List UInt8) (i h:Int) (w:World) (hc:Cur w p vb bs i h) :
  Calls Tryz.prog 100 #[.pointer (some ⟨p,0,none⟩)] w fun e w'=>∃ x i' h',e=.returned (.string x)/\x ∈ spansLit/\Got p w (zad vb i' h') w'/\0<=i'/\i'<=bs.length:=by
 have hp:=za hc.blk
 have HC:=Hd hc
 clear hc
 go_enter Tryz.func100,Tryz.ntmps100
 go_wp2_with fail
 (go_at_call 53;refine (zbp p vb bs _ _ _ spansLit _ (by repeat (first|with_reducible exact HC.out|with_reducible apply Cur.alloc)) (RdL.lit zx w spansLit 12 rfl (by decide) _ rfl _) (by decide) (by decide) (by simp [Value.ownBlock];omega)).mono ?_;rintro e w' ⟨x,i1,h1,rfl,hx,⟨X,rfl⟩,hi0,hi1⟩)
 go_wp2
 go_ret
 exact ⟨x,i1,h1,rfl,hx,(by repeat (first|with_reducible exact Got.mk _ _ _|with_reducible apply Got.ext|with_reducible apply Got.alloc)),hi0,hi1⟩
def nilS:Value:=.slice none 0 0
def touchObj (vr vw:Value):Obj:=.cells #[vr,vw] 33 (0,0)
theorem Tryz.elemCellD:Elem Tryz.prog 24 47 2 32:=Elem.of (.agg #[.string ⟨#[]⟩,.string ⟨#[]⟩]) Tryz.underlying24 (by kernel_rfl) rfl (by decide)
theorem keys2_small {t1 t2 x:ByteArray} (h1:t1.size=40) (h2:t2.size=41) (hx:x ∈ ([⟨#[]⟩,⟨#[97,32,98]⟩,⟨#[110,47,42]⟩,⟨#[127]⟩,t1,t2]:List ByteArray)):x.size<=100:=by
 simp only [List.mem_cons,List.not_mem_nil,or_false] at hx
 rcases hx with rfl|rfl|rfl|rfl|rfl|rfl
 ·decide
 ·decide
 ·decide
 ·decide
 ·omega
 ·omega
theorem keys1_small:∀ s ∈ zfq,s.size<=100:=by decide
theorem spec_l02AnyKey (p:Nat) (vb:Value) (bs:List UInt8) (i h:Int) (w:World) (hc:Cur w p vb bs i h) :
  Calls Tryz.prog 168 #[.pointer (some ⟨p,0,none⟩)] w fun e w'=>∃ s,e=.returned (.string s)/\s.size<=100/\zko p vb bs w w':=by
 have hp:=hc.lt
 have HC:=Hd hc
 clear hc
 go_enter Tryz.func168,Tryz.ntmps168
 go_wp2_with fail
 (go_at_call 52;refine (zfG p vb bs _ _ 12 _ HC.out (by omega)).mono ?_;rintro e w1 ⟨b,rfl,i1,h1,hg1,ha1,hb1⟩)
 have hc1:=HC.out.got hg1 ha1 hb1
 cases b with
 | true =>
  go_wp2_with fail
  (go_at_call 66;refine (zeD 40 40 97 97 _ (by decide) (by decide) (by omega)).mono ?_;rintro e w2 ⟨t1,rfl,ht1,hb2⟩)
  go_wp2_with fail
  (go_at_call 66;refine (zeD 41 41 97 97 _ (by decide) (by decide) (by omega)).mono ?_;rintro e w3 ⟨t2,rfl,ht2,hb3⟩)
  go_wp2_with fail
  have hc3:=(hc1.below hb2).below hb3
  have hlt:=hc3.lt
  (go_at_call 53;refine (zbp p vb bs _ _ _ [⟨#[]⟩,⟨#[97,32,98]⟩,⟨#[110,47,42]⟩,⟨#[127]⟩,t1,t2] _ (hc3.alloc _) (RdL.lit zx w3 [⟨#[]⟩,⟨#[97,32,98]⟩,⟨#[110,47,42]⟩,⟨#[127]⟩,t1,t2] 6 rfl (by decide) _ rfl _) (by simp) (by simp) (by simp [Value.ownBlock,zm];omega)).mono ?_;rintro e w' ⟨x,i2,h2,rfl,hx,hg2,hj0,hj1⟩)
  go_wp2
  go_ret
  exact ⟨_,rfl,keys2_small ht1 ht2 hx,⟨i2,h2,(((hg1.ofBelow hb2).ofBelow hb3).alloc _).then hg2 hp,hj0,hj1⟩⟩
 | false =>
  go_wp2_with fail
  (go_at_call 56;refine (zjD p vb bs _ _ _ hc1).mono ?_;rintro e w' ⟨x,i2,h2,rfl,hx,hg2,hj0,hj1⟩)
  go_wp2
  go_ret
  exact ⟨_,rfl,keys1_small x hx,⟨i2,h2,hg1.then hg2 hp,hj0,hj1⟩⟩
theorem spec_l02Val (p:Nat) (vb:Value) (bs:List UInt8) (i h:Int) (w:World) (hc:Cur w p vb bs i h) :
  Calls Tryz.prog 98 #[.pointer (some ⟨p,0,none⟩)] w fun e w'=>∃ s,e=.returned (.string s)/\s.size<=100/\zko p vb bs w w':=by
 have hp:=hc.lt
 have HC:=Hd hc
 clear hc
 go_enter Tryz.func98,Tryz.ntmps98
 go_wp2_with fail
 (go_at_call 52;refine (zfG p vb bs _ _ 16 _ HC.out (by omega)).mono ?_;rintro e w1 ⟨b,rfl,i1,h1,hg1,ha1,hb1⟩)
 have hc1:=HC.out.got hg1 ha1 hb1
 cases b with
 | true =>
  go_wp2_with fail
  (go_at_call 63;refine (zao p vb bs _ _ _ _ hc1 (by omega)).mono ?_;rintro e w2 ⟨x,i2,h2,rfl,⟨hx0,hx1,_⟩,hg2,hj0,hj1⟩)
  have hx2:=hx1 (by omega)
  clear hx1
  obtain ⟨k,rfl⟩:=Int.eq_ofNat_of_zero_le hx0
  go_wp2_with fail
  (go_at_call 66;refine (zeD (60+(k:Int)) (60+k) 5 5 _ (by omega) (by decide) (by omega)).mono ?_;rintro e w' ⟨t1,rfl,ht1,hb⟩;obtain ⟨X,rfl⟩:=hb.ext;clear hb)
  go_wp2
  go_ret
  exact ⟨_,rfl,by omega,⟨i2,h2,(hg1.then hg2 hp).ext _,hj0,hj1⟩⟩
 | false =>
  go_wp2_with fail
  (go_at_call 63;refine (zao p vb bs _ _ _ _ hc1 (by omega)).mono ?_;rintro e w2 ⟨x,i2,h2,rfl,⟨hx0,hx1,_⟩,hg2,hj0,hj1⟩)
  have hx2:=hx1 (by omega)
  clear hx1
  have hc2:=hc1.got hg2 hj0 hj1
  go_wp2_with fail
  (go_at_call 136;refine (zhX p vb bs _ _ _ _ hc2 hx0 (by omega)).mono ?_;rintro e w3 ⟨t,rfl,ht,i3,h3,hg3,hk0,hk1⟩)
  go_wp2
  go_ret
  exact ⟨t,rfl,by omega,⟨i3,h3,(hg1.then hg2 hp).then hg3 hp,hk0,hk1⟩⟩
def SmallC (c:CellD):Prop:=c.key.size<=100/\c.val.size<=100
theorem small_snoc {xs:List CellD} {c:CellD} (h:∀ x ∈ xs,SmallC x) (hc:SmallC c):∀ x ∈ xs ++ [c],SmallC x:=by
 intro x hx
 rcases List.mem_append.1 hx with hx|hx
 ·exact h x hx
 ·rw [List.mem_singleton.1 hx];exact hc
open Mp
theorem wide_all {L:Nat}:∀ (l:List StepD) (m:MachD) (D:List ByteArray),(∀ s ∈ l,zby s.proc/\zby s.call.a)->(∀ k ∈ gk,k ∈ D)->Inv L D m->2 ^ l.length*(D.length+L+14)<=549755813888->zmG l m
 | [],m,D,_,_,I,hb=>by
  rw [List.length_nil,Nat.pow_zero,Nat.one_mul] at hb
  exact I.small (by omega)
 | s :: l,m,D,hs,hG,I,hb=>by
  obtain ⟨hs1,hs2⟩:=hs s List.mem_cons_self
  have hc:=zg0 hs1 hs2 hG I
  have hf:=zg0 hs1 hs2 hG I.fresh
  rw [List.length_cons,Nat.pow_succ,Nat.mul_assoc] at hb
  have h5:=Nat.le_mul_of_pos_left (2*(D.length+L+14)) (Nat.two_pow_pos l.length)
  have g1:((K.doCall s.proc s.call).news m D).length+L+14<=2*(D.length+L+14):=by
   rcases hc.2 with h|h
   ·have:=h.2;omega
   ·have:=h.2.2;omega
  have g2:((K.doCall s.proc s.call).news ⟨m.cells,[],[]⟩ D).length+L+14<=2*(D.length+L+14):=by
   rcases hf.2 with h|h
   ·have:=h.2;omega
   ·have:=h.2.2;omega
  exact ⟨zg5 _ L m D I hc.1 (by omega),zg5 _ L _ D I.fresh hf.1 (by omega),
   wide_all l _ _ (fun x hx=>hs x (List.mem_cons_of_mem _ hx)) (fun k hk=>zcn _ m D k (hG k hk)) (zb9 _ L m D I hc.1) (Nat.le_trans (Nat.mul_le_mul_left _ g1) hb)⟩
def WideN (j:Nat) (cs:List CellD):Prop:=(∃ (L:Nat) (D:List ByteArray),(∀ x ∈ gk,x ∈ D)/\Inv L D ⟨cs,[],[]⟩/\D.length+L+14+j<=17179869184)/\Right cs
theorem StoreN.wide {k:Nat} {cs:List CellD} (h:StoreN k cs):WideN 100 cs:=by
 obtain ⟨⟨L,D,h1,h2,h3⟩,hr⟩:=h
 have h5:=Nat.le_mul_of_pos_left (D.length+L+14+12*(60 - k)) (Nat.two_pow_pos (12 - (prc ⟨cs,[],[]⟩).toNat))
 exact ⟨⟨L,D,h1,h2,by omega⟩,hr⟩
theorem WideN.put {j:Nat} {cs:List CellD} (h:WideN (j+1) cs) {key:ByteArray} (hk:zhS key) (v:ByteArray):WideN j (zbM key v cs):=by
 obtain ⟨⟨L,D,h1,I,h3⟩,hr⟩:=h
 refine ⟨⟨L,zcg D key,fun x hx=>zau.2 (.inl (h1 x hx)),(I.write hk v).fresh,?_⟩,hr.put key v⟩
 have:=zcv D key
 omega
theorem WideN.fits {j:Nat} {cs:List CellD} (h:WideN j cs) {l:List StepD} (hl:l.length<=5) (hs:∀ s ∈ l,zby s.proc/\zby s.call.a):zmG l ⟨cs,[],[]⟩:=by
 obtain ⟨⟨L,D,h1,I,h3⟩,hr⟩:=h
 refine wide_all l _ D hs h1 I ?_
 have e : 2 ^ l.length<=2 ^ 5:=Nat.pow_le_pow_right (by decide) hl
 exact Nat.le_trans (Nat.mul_le_mul e (show D.length+L+14<=17179869184 by omega)) (by decide)
theorem WideN.len {j:Nat} {cs:List CellD} (h:WideN j cs):cs.length<=17179869184:=by
 obtain ⟨⟨L,D,h1,I,h3⟩,hr⟩:=h
 have:=I.clen
 show cs.length<=_
 have e:(⟨cs,[],[]⟩ : MachD).cells.length=cs.length:=rfl
 omega
theorem Tryz.elemStepN:Elem Tryz.prog 36 71 7 80:=Elem.of (.agg #[.int .i64 0,.int .i64 0,.string ⟨#[]⟩,.string ⟨#[]⟩,.int .i64 0,.int .i64 0,.string ⟨#[]⟩]) Tryz.underlying36 (by kernel_rfl) rfl (by decide)
theorem spec_l15Steps (p:Nat) (vb:Value) (bs:List UInt8) (i h:Int) (most:Nat) (hm:most<=30) (w:World) (hc:Cur w p vb bs i h) :
  Calls Tryz.prog 33 #[.pointer (some ⟨p,0,none⟩),.int .i64 most] w fun e w'=>∃ v l,e=.returned v/\OwnL rStepM 71 w' w.heap.size v l/\l.length<=most/\(∀ s ∈ l,(-1<=s.proc/\s.proc<=3)/\AnyCall s.call)/\zko p vb bs w w':=by
 have hpl:=hc.lt
 have HC:=Hd hc
 clear hc
 go_enter Tryz.func33,Tryz.ntmps33
 go_wp2
 go_loopw [5,6] (fun o k wr=>∃ (n:Nat) (xs:List StepD) (i' h':Int),k=.int .i64 n/\n<=most/\xs.length=n/\(∀ s ∈ xs,(-1<=s.proc/\s.proc<=3)/\AnyCall s.call)/\OwnL rStepM 71 wr w.heap.size o xs/\Got p w (zad vb i' h') wr/\0<=i'/\i'<=bs.length) (fun _ k _=>most - (intOf k).toNat)
 case atStart=>exact ⟨0,[],i,h,rfl,by omega,rfl,by simp,OwnL.empty rStepM _ _,(zdS HC.out.blk).alloc _,HC.out.lo,HC.out.hi⟩
 case round =>
  obtain ⟨n,xs,i1,h1,rfl,hn,rfl,hsm,ho,hg,hi0,hi1⟩:=hrel
  have hc1:=HC.out.got hg hi0 hi1
  have hvl:=ho.lt
  obtain ⟨ao,co,rfl⟩:=ho.rd.form
  have hne:(Value.slice ao xs.length co).ownBlock ≠ some p:=fun e=>by have:=(hvl p e).1;omega
  have HO:=Hd ho
  have HP:=Hd hne
  have HSM:=Hd hsm
  clear ho hne hvl hsm
  go_wp2_with fail
  (go_at_call 63;refine (zao p vb bs _ _ _ _ hc1 (by omega)).mono ?_;rintro e w2 ⟨x,i2,h2,rfl,⟨hx0,hx1,_⟩,hg2,hj0,hj1⟩)
  have hx2:=hx1 (by omega)
  clear hx1
  have HO2:=Hd (HO.out.got hg2 HP.out)
  have hc2:=hc1.got hg2 hj0 hj1
  have hgg2:=hg.then hg2 hpl
  by_cases hlt:(xs.length:Int)<x
  ·go_wp2_with fail
   (go_at_call 29;refine (zb6 p vb bs _ _ _ hc2).mono ?_;rintro e w3 ⟨n3,rfl,hn3,i3,h3,hg3,hk0,hk1⟩)
   have HO3:=Hd (HO2.out.got hg3 HP.out)
   have hc3:=hc2.got hg3 hk0 hk1
   have hgg3:=hgg2.then hg3 hpl
   go_wp2_with fail
   (go_at_call 30;refine (zc3 p vb bs _ _ _ hc3).mono ?_;rintro e w4 ⟨⟨kd,nm,tn,ca,cb,tx⟩,rfl,hcc,i4,h4,hg4,hl0,hl1⟩)
   have ho4:=HO3.out.got hg4 HP.out
   have hgg:=hgg3.then hg4 hpl
   have hz:=hgg.size
   unfold zaM
   dsimp only
   go_wp2_with (at_builtin;refine zA ?_)
   refine zI rfl _ _ _ rfl Tryz.elemStepN (ho4.alloc _) rfl (RdL.oneAt rStepM _ ⟨n3,⟨kd,nm,tn,ca,cb,tx⟩⟩ _ rfl _ _ rfl) rfl (by simp only [List.length_singleton];omega) (by simp only [List.length_singleton];unfold maxLen;omega) (by simp;omega) ?_
   intro v6 w6 hown6 hgr6 _
   have hg6:Got p w _ w6:=Got.app (hgg.alloc _) hgr6 (ho4.alloc _)
   clear hgr6
   have HO6:=Hd hown6
   clear hown6
   go_wp2
   go_roundw
   case rel =>
    refine ⟨xs.length+1,_,i4,h4,by go_num,by omega,by simp,fun y hy=>?_,HO6.out,hg6,hl0,hl1⟩
    rcases List.mem_append.1 hy with hy|hy
    ·exact HSM.out y hy
    ·rw [List.mem_singleton.1 hy]
     exact ⟨hn3,hcc⟩
   case measure=>simp [intOf];omega
  ·go_wp2
   go_ret
   exact ⟨_,xs,rfl,HO2.out,hn,HSM.out,i2,h2,hgg2,hj0,hj1⟩
theorem spec_l01BelowW (p:Nat) (vb:Value) (bs:List UInt8) (i h n:Int) (w:World) (hc:Cur w p vb bs i h) (hn:n<=4611686018427387904) :
  Calls Tryz.prog 63 #[.pointer (some ⟨p,0,none⟩),.int .i64 n] w fun e w'=>∃ x i' h',e=.returned (.int .i64 x)/\(0<=x/\(1<=n->x<n)/\(n<=0->x=0))/\Got p w (zad vb i' h') w'/\0<=i'/\i'<=bs.length:=by
 have hp:=za hc.blk
 have HC:=Hd hc
 clear hc
 by_cases hn0:n<=0
 ·go_enter Tryz.func63,Tryz.ntmps63
  go_wp2
  go_ret
  exact ⟨0,i,h,rfl,⟨by omega,fun _=>by omega,fun _=>rfl⟩,zdS HC.out.blk,HC.out.lo,HC.out.hi⟩
 ·by_cases hn1:n<=256
  ·go_enter Tryz.func63,Tryz.ntmps63
   go_wp2_with (go_at_call 135;refine (zbq p vb bs i h _ HC.out).mono ?_;rintro e w' ⟨x,i1,h1,rfl,hx0,hx1,⟨X,rfl⟩,hi0,hi1⟩)
   go_ret
   exact ⟨_,i1,h1,rfl,⟨by have:=Int.emod_nonneg x (show n ≠ 0 by omega);exact this,fun _=>Int.emod_lt_of_pos _ (by omega),fun _=>by omega⟩,(by repeat (first|with_reducible exact Got.mk _ _ _|with_reducible apply Got.ext)),hi0,hi1⟩
  ·go_enter Tryz.func63,Tryz.ntmps63
   go_wp2_with fail
   (go_at_call 135;refine (zbq p vb bs _ _ _ (by repeat (with_reducible exact HC.out))).mono ?_;rintro e w' ⟨x,i1,h1,rfl,hx0,hx1,⟨X,rfl⟩,hi0,hi1⟩)
   go_wp2_with fail
   (go_at_call 135;refine (zbq p vb bs _ _ _ (by repeat (first|with_reducible exact HC.out|with_reducible assumption|with_reducible apply Cur.ext|with_reducible apply Cur.set))).mono ?_;rintro e w' ⟨y,i2,h2,rfl,hy0,hy1,⟨X2,rfl⟩,hj0,hj1⟩)
   go_wp2_with fail
   (go_at_call 135;refine (zbq p vb bs _ _ _ (by repeat (first|with_reducible exact HC.out|with_reducible assumption|with_reducible apply Cur.ext|with_reducible apply Cur.set))).mono ?_;rintro e w' ⟨z,i3,h3,rfl,hz0,hz1,⟨X3,rfl⟩,hk0,hk1⟩)
   go_wp2_with fail
   (go_at_call 135;refine (zbq p vb bs _ _ _ (by repeat (first|with_reducible exact HC.out|with_reducible assumption|with_reducible apply Cur.ext|with_reducible apply Cur.set))).mono ?_;rintro e w' ⟨u,i4,h4,rfl,hu0,hu1,⟨X4,rfl⟩,hl0,hl1⟩)
   go_wp2
   go_ret
   refine ⟨_,i4,h4,rfl,⟨?_,fun _=>Int.emod_lt_of_pos _ (by omega),fun _=>by omega⟩,(by repeat (first|with_reducible exact Got.mk _ _ _|with_reducible apply Got.ext)),hl0,hl1⟩
   have:=Int.emod_nonneg (x*16777216+y*65536+z*256+u) (show n ≠ 0 by omega)
   exact this
def nearA:List ByteArray:=[⟨#[]⟩,⟨#[49]⟩,⟨#[50]⟩,⟨#[51]⟩,⟨#[45,54,49]⟩]
def nearK:List ByteArray:=[⟨#[110,47,120]⟩,⟨#[110,47,113]⟩,⟨#[105,47,49,47,115]⟩,⟨#[105,47,50,47,98,47,48]⟩,⟨#[112,47,49,47,116]⟩,⟨#[114,47,50,47,115]⟩,⟨#[103,47,49,47,116]⟩,⟨#[116,47,49]⟩,⟨#[109,47,49,47,48]⟩,⟨#[100,47,110]⟩,⟨#[99,47,99,108,111,99,107]⟩,⟨#[99,47,102,105,108,101]⟩]
def nearB:List ByteArray:=[⟨#[49]⟩,⟨#[50]⟩,⟨#[53]⟩,⟨#[45,54,50]⟩]
theorem nearK_ok:∀ s ∈ nearK,s.size ≠ 0/\s.size<=100:=by decide
theorem Right.keyB {s:List CellD} (h:Right s):∀ c ∈ s,zhS c.key/\c.key.size<=100:=by
 intro c hc
 have h1:=h.key c hc
 have h2:=(h.2 c hc).1
 unfold zbc inB at h2
 simp at h2
 exact ⟨⟨h1,by omega⟩,by omega⟩
theorem near_cell {w:World} {b off n k:Nat} {cs:List CellD} (h:RdL zu w (.slice (some ⟨b,off,none⟩) n k) cs) {j:Nat} (hj:j<cs.length):w.cell? ⟨b,off+j*2,none⟩=some (.string cs[j].key):=by
 obtain ⟨ao',cap',es,_,_,_,hsh⟩:=h.shape
 obtain ⟨b',off',eo,_,hc⟩:=hsh (fun e=>by rw [e] at hj;exact absurd hj (by simp))
 injection es with e1 _ _
 rw [eo] at e1
 injection e1 with e1
 injection e1 with e1 e2 _
 subst e1
 subst e2
 exact hc j hj 0 _ rfl
theorem near_lt {w:World} {b off n k:Nat} {cs:List CellD} (h:RdL zu w (.slice (some ⟨b,off,none⟩) n k) cs) {j:Nat} (hj:j<cs.length):b<w.heap.size:=by
 obtain ⟨ao',cap',es,_,_,_,hsh⟩:=h.shape
 obtain ⟨b',off',eo,hb,_⟩:=hsh (fun e=>by rw [e] at hj;exact absurd hj (by simp))
 injection es with e1 _ _
 rw [eo] at e1
 injection e1 with e1
 injection e1 with e1 e2 _
 subst e1
 exact hb (by decide)
theorem WideN.le {j k:Nat} {cs:List CellD} (h:WideN j cs) (hk:k<=j):WideN k cs:=by
 obtain ⟨⟨L,D,h1,I,h3⟩,hr⟩:=h
 exact ⟨⟨L,D,h1,I,by omega⟩,hr⟩
theorem spec_l16Near (p:Nat) (vb:Value) (bs:List UInt8) (i h:Int) (v:Value) (cs:List CellD) (w:World) (hc:Cur w p vb bs i h) (hv:RdL zu w v cs) (hst:WideN 100 cs) :
  Calls Tryz.prog 28 #[.pointer (some ⟨p,0,none⟩),v] w fun e w'=>∃ v' ds,e=.returned v'/\RdL zu w' v' ds/\WideN 90 ds/\zko p vb bs w w':=by
 have hpl:=hc.lt
 have HC:=Hd hc
 have HV:=Hd hv
 have HW:=Hd hst
 obtain ⟨a,k,rfl⟩:=hv.form
 have hlen:=hst.len
 have HKB:=Hd hst.2.keyB
 clear hc hv hst
 go_enter Tryz.func28,Tryz.ntmps28
 go_wp2_with (at_builtin;refine zA ?_)
 refine zI rfl _ _ _ rfl zE (OwnL.empty zu _ _) rfl (HV.out.alloc _) rfl (by simp;omega) (by simp;unfold maxLen;omega) (by simp) ?_
 intro v1 w1 hown1 hg1 _
 have g1:Got p w (zad vb i h) w1:=Got.app ((zdS HC.out.blk).alloc _) hg1 (OwnL.empty zu _ _)
 have hb1:Below w.heap.size w w1:=Below.appL (R:=zu) (e:=47) (v:=.slice (some ⟨w.heap.size,0,none⟩) 0 0) (xs:=[]) ((Below.refl _ _).ofAlloc _) hg1 (OwnL.empty zu _ w)
 have hv1:RdL zu w1 (.slice a cs.length k) cs:=HV.out.below hb1
 simp only [List.nil_append] at hown1
 have HO1:=Hd hown1.rd
 obtain ⟨a1,k1,e1⟩:=hown1.rd.form
 subst e1
 have HV1:=Hd hv1
 have HG1:=Hd g1
 clear hg1 g1 hv1 hown1 hb1 HV
 go_wp2
 go_loopw [5,6] (fun o kk wr=>∃ (n:Nat) (ds:List CellD) (i' h':Int),kk=.int .i64 n/\n<=3/\WideN (100 - n) ds/\RdL zu wr o ds/\RdL zu wr (.slice a cs.length k) cs/\Got p w (zad vb i' h') wr/\0<=i'/\i'<=bs.length) (fun _ kk _=>3 - (intOf kk).toNat)
 case atStart=>exact ⟨0,cs,i,h,rfl,by omega,HW.out,HO1.out,HV1.out,HG1.out,HC.out.lo,HC.out.hi⟩
 case round =>
  obtain ⟨n,ds,i1,h1,rfl,hn,hwd,hr,hv,hg,hi0,hi1⟩:=hrel
  obtain ⟨ao,co,rfl⟩:=hr.form
  have C1:=Hd (HC.out.got hg hi0 hi1)
  have HWD:=Hd hwd
  have HR:=Hd hr
  have HV:=Hd hv
  have G1:=Hd hg
  clear hwd hr hv hg HG1 HV1 HO1
  go_wp2_with fail
  (go_at_call 63;refine (zao p vb bs _ _ _ _ C1.out (by omega)).mono ?_;rintro e w2 ⟨x,i2,h2,rfl,⟨hx0,hx1,_⟩,hg2,hj0,hj1⟩)
  have hx2:=hx1 (by omega)
  clear hx1
  have G2:=Hd (G1.out.then hg2 hpl)
  have HR2:=Hd (zbh (zf _) HR.out C1.out hg2)
  have HV2:=Hd (zbh (zf _) HV.out C1.out hg2)
  have C2:=Hd (HC.out.got G2.out hj0 hj1)
  clear hg2 HR HV C1 G1
  by_cases hlt:(n:Int)<1+x
  ·by_cases hcs:cs.length=0
   ·have hzz:¬ (0:Int)<cs.length:=by omega
    clear hcs
    have zxx:=G2.out.size
    go_wp2_with fail
    (go_at_call 53;refine (zbp p vb bs _ _ _ nearK _ (C2.out.alloc _) (zbH zx _ nearK 12 rfl (by decide) _ rfl _ _ rfl) (by decide) (by decide) (by simp [Value.ownBlock]<;>omega)).mono ?_;rintro e wa ⟨s4,i4,h4,rfl,hs4,hga,p0,p1⟩)
    have Ga:=Hd ((G2.out.alloc _).then hga hpl)
    have HRa:=Hd (zbh (zf _) (HR2.out.alloc _) (C2.out.alloc _) hga)
    have HVa:=Hd (zbh (zf _) (HV2.out.alloc _) (C2.out.alloc _) hga)
    have Ca:=Hd (HC.out.got Ga.out p0 p1)
    clear hga
    have zaa:=Ga.out.size
    go_wp2_with fail
    (go_at_call 53;refine (zbp p vb bs _ _ _ nearB _ (Ca.out.alloc _) (zbH zx _ nearB 4 rfl (by decide) _ rfl _ _ rfl) (by decide) (by decide) (by simp [Value.ownBlock]<;>omega)).mono ?_;rintro e wb ⟨s5,i5,h5,rfl,hs5,hgb,r0,r1⟩)
    have Gb:=Hd ((Ga.out.alloc _).then hgb hpl)
    have HRb:=Hd (zbh (zf _) (HRa.out.alloc _) (Ca.out.alloc _) hgb)
    have HVb:=Hd (zbh (zf _) (HVa.out.alloc _) (Ca.out.alloc _) hgb)
    clear hgb
    have hk4:=nearK_ok s4 hs4
    go_wp2_with fail
    (go_at_call 50;refine (zgv _ ds s4 s5 _ HRb.out (Nat.le_trans HWD.out.len (by decide)) (by omega)).mono ?_;rintro e wc ⟨v6,rfl,ho,hbc⟩)
    obtain ⟨a6,c6,rfl⟩:=ho.rd.form
    have HO:=Hd ho.rd
    have HVc:=Hd (HVb.out.below hbc)
    have Gc:=Hd (Gb.out.ofBelow hbc)
    clear ho hbc
    have hw':WideN (100 - (n+1)+1) ds:=by rw [show 100 - (n+1)+1=100 - n by omega];exact HWD.out
    have HW2:=Hd (hw'.put (key:=s4) ⟨hk4.1,by omega⟩ s5)
    clear hw'
    go_wp2
    go_roundw
    case rel=>exact ⟨n+1,zbM s4 s5 ds,i5,h5,by go_num,by omega,HW2.out,HO.out,HVc.out,Gc.out,r0,r1⟩
    case measure=>simp [intOf];omega
   ·have hzz:(0:Int)<cs.length:=by omega
    go_wp2_with fail
    (go_at_call 52;refine (zfG p vb bs _ _ _ _ C2.out (by decide)).mono ?_;rintro e w3 ⟨b3,rfl,i3,h3,hg3,hk0,hk1⟩)
    have G3:=Hd (G2.out.then hg3 hpl)
    have HR3:=Hd (zbh (zf _) HR2.out C2.out hg3)
    have HV3:=Hd (zbh (zf _) HV2.out C2.out hg3)
    have C3:=Hd (HC.out.got G3.out hk0 hk1)
    clear hg3 HR2 HV2 C2 G2
    cases b3 with
    | false =>
     have zxx:=G3.out.size
     go_wp2_with fail
     (go_at_call 53;refine (zbp p vb bs _ _ _ nearK _ (C3.out.alloc _) (zbH zx _ nearK 12 rfl (by decide) _ rfl _ _ rfl) (by decide) (by decide) (by simp [Value.ownBlock]<;>omega)).mono ?_;rintro e wa ⟨s4,i4,h4,rfl,hs4,hga,p0,p1⟩)
     have Ga:=Hd ((G3.out.alloc _).then hga hpl)
     have HRa:=Hd (zbh (zf _) (HR3.out.alloc _) (C3.out.alloc _) hga)
     have HVa:=Hd (zbh (zf _) (HV3.out.alloc _) (C3.out.alloc _) hga)
     have Ca:=Hd (HC.out.got Ga.out p0 p1)
     clear hga
     have zaa:=Ga.out.size
     go_wp2_with fail
     (go_at_call 53;refine (zbp p vb bs _ _ _ nearB _ (Ca.out.alloc _) (zbH zx _ nearB 4 rfl (by decide) _ rfl _ _ rfl) (by decide) (by decide) (by simp [Value.ownBlock]<;>omega)).mono ?_;rintro e wb ⟨s5,i5,h5,rfl,hs5,hgb,r0,r1⟩)
     have Gb:=Hd ((Ga.out.alloc _).then hgb hpl)
     have HRb:=Hd (zbh (zf _) (HRa.out.alloc _) (Ca.out.alloc _) hgb)
     have HVb:=Hd (zbh (zf _) (HVa.out.alloc _) (Ca.out.alloc _) hgb)
     clear hgb
     have hk4:=nearK_ok s4 hs4
     go_wp2_with fail
     (go_at_call 50;refine (zgv _ ds s4 s5 _ HRb.out (Nat.le_trans HWD.out.len (by decide)) (by omega)).mono ?_;rintro e wc ⟨v6,rfl,ho,hbc⟩)
     obtain ⟨a6,c6,rfl⟩:=ho.rd.form
     have HO:=Hd ho.rd
     have HVc:=Hd (HVb.out.below hbc)
     have Gc:=Hd (Gb.out.ofBelow hbc)
     clear ho hbc
     have hw':WideN (100 - (n+1)+1) ds:=by rw [show 100 - (n+1)+1=100 - n by omega];exact HWD.out
     have HW2:=Hd (hw'.put (key:=s4) ⟨hk4.1,by omega⟩ s5)
     clear hw'
     go_wp2
     go_roundw
     case rel=>exact ⟨n+1,zbM s4 s5 ds,i5,h5,by go_num,by omega,HW2.out,HO.out,HVc.out,Gc.out,r0,r1⟩
     case measure=>simp [intOf];omega
    | true =>
     obtain ⟨ao',cap',es,_,_,_,hsh⟩:=HV3.out.shape
     obtain ⟨b,off,eo,_,_⟩:=hsh (fun e=>by rw [e] at hcs;exact hcs rfl)
     injection es with e1 e2 e3
     subst e1
     subst e3
     clear e2
     subst eo
     have z3:=G3.out.size
     have G4:Hid (Got p w (zad vb i3 h3) w3.drew):=G3.out.ofBelow (Below.drew (Below.refl _ _))
     have C4:=Hd (HC.out.got G4.out hk0 hk1)
     go_wp2
     go_region_with (first
      | ((go_at_call 63);(refine (spec_l01BelowW p vb bs _ _ _ _ C4.out (by omega)).mono ?_);(rintro e wa ⟨x',i4,h4,rfl,⟨q0,q1,_⟩,hga,p0,p1⟩);(have q2:=q1 (by omega));(clear q1);(obtain ⟨j,rfl⟩:=Int.eq_ofNat_of_zero_le q0);(have hj:j<cs.length:=by omega);(have Ga:=Hd (Got.then G4.out hga hpl));(have HRa:=Hd (zbh (zf _) (RdL.drew HR3.out) C4.out hga));(have HVa:=Hd (zbh (zf _) (RdL.drew HV3.out) C4.out hga));(have Ca:=Hd (HC.out.got Ga.out p0 p1));(have y0:=near_cell HVa.out hj);(have la:=near_lt HVa.out hj);(have kb:=HKB.out _ (List.getElem_mem hj));(obtain ⟨cj,hcj⟩ : ∃ c,cs[j]=c:=⟨_,rfl⟩);(rw [hcj] at y0 kb);(have HJ:=Hd hcj);(have KB:=Hd kb);(clear hcj kb);(have zaa:=Ga.out.size);(clear hga);(try go_simp))
      | ((go_at_call 63);(refine (spec_l01BelowW p vb bs _ _ _ _ (C4.out.alloc _) (by omega)).mono ?_);(rintro e wa ⟨x',i4,h4,rfl,⟨q0,q1,_⟩,hga,p0,p1⟩);(have q2:=q1 (by omega));(clear q1);(obtain ⟨j,rfl⟩:=Int.eq_ofNat_of_zero_le q0);(have hj:j<cs.length:=by omega);(have Ga:=Hd (Got.then (G4.out.alloc _) hga hpl));(have HRa:=Hd (zbh (zf _) ((RdL.drew HR3.out).alloc _) (C4.out.alloc _) hga));(have HVa:=Hd (zbh (zf _) ((RdL.drew HV3.out).alloc _) (C4.out.alloc _) hga));(have HLt:=Hd (zbh (zc _) (zbH zx w3.drew nearA 5 rfl (by decide) _ rfl 9 _ rfl) (C4.out.alloc _) hga));(have Ca:=Hd (HC.out.got Ga.out p0 p1));(have y0:=near_cell HVa.out hj);(have la:=near_lt HVa.out hj);(have kb:=HKB.out _ (List.getElem_mem hj));(obtain ⟨cj,hcj⟩ : ∃ c,cs[j]=c:=⟨_,rfl⟩);(rw [hcj] at y0 kb);(have HJ:=Hd hcj);(have KB:=Hd kb);(clear hcj kb);(have zaa:=Ga.out.size);(clear hga);(try go_simp))
      | ((go_at_call 53);(refine (zbp p vb bs _ _ _ nearA _ Ca.out HLt.out (by decide) (by decide) (by simp [Value.ownBlock]<;>omega)).mono ?_);(rintro e wb ⟨s5,i5,h5,rfl,hs5,hgb,r0,r1⟩);(have Gb:=Hd (Got.then Ga.out hgb hpl));(have HRb:=Hd (zbh (zf _) HRa.out Ca.out hgb));(have HVb:=Hd (zbh (zf _) HVa.out Ca.out hgb));(have y1:=near_cell HVb.out hj);(rw [HJ.out] at y1);(have lb:=near_lt HVb.out hj);(clear hgb);(try go_simp))
      | ((go_at_call 53);(refine (zbp p vb bs _ _ _ nearA _ (Ca.out.alloc _) (zbH zx wa nearA 5 rfl (by decide) _ rfl _ _ rfl) (by decide) (by decide) (by simp [Value.ownBlock]<;>omega)).mono ?_);(rintro e wb ⟨s5,i5,h5,rfl,hs5,hgb,r0,r1⟩);(have Gb:=Hd (Got.then (Ga.out.alloc _) hgb hpl));(have HRb:=Hd (zbh (zf _) (HRa.out.alloc _) (Ca.out.alloc _) hgb));(have HVb:=Hd (zbh (zf _) (HVa.out.alloc _) (Ca.out.alloc _) hgb));(have y1:=near_cell HVb.out hj);(rw [HJ.out] at y1);(have lb:=near_lt HVb.out hj);(clear hgb);(try go_simp))
      | ((go_at_call 50);(refine (zgv _ ds cj.key s5 _ HRb.out (Nat.le_trans HWD.out.len (by decide)) (by have:=KB.out.2;omega)).mono ?_);(rintro e wc ⟨v6,rfl,ho,hbc⟩);(obtain ⟨a6,c6,rfl⟩:=ho.rd.form);(have HO:=Hd ho.rd);(have HVc:=Hd (HVb.out.below hbc));(have Gc:=Hd (Gb.out.ofBelow hbc));(clear ho hbc);(try go_simp)))
     all_goals (repeat (first|go_skip|go_guarded|go_step|go_upon|go_back))
     all_goals (
      have hw':WideN (100 - (n+1)+1) ds:=by rw [show 100 - (n+1)+1=100 - n by omega];exact HWD.out
      have HW2:=Hd (hw'.put KB.out.1 s5)
      clear hw'
      go_roundw
      (case rel=>exact ⟨n+1,zbM cj.key s5 ds,i5,h5,by go_num,by omega,HW2.out,HO.out,HVc.out,Gc.out,r0,r1⟩)
      (case measure=>simp [intOf];omega))
  ·go_wp2
   go_ret
   exact ⟨_,ds,rfl,HR2.out,WideN.le HWD.out (by omega),i2,h2,G2.out,hj0,hj1⟩
end Go.Proofs.YtpnoehpmgflibaaGreatDoor
