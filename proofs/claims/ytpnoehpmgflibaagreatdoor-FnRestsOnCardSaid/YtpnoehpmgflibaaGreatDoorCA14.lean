/- Texts of this claim, merged: the walks and what they stand on. Each condition stands in its theorem. -/
import Derived.Test.YtpnoehpmgflibaaGreatDoorCA10
set_option linter.unusedVariables false
set_option linter.unusedSimpArgs false
set_option maxRecDepth 100000
set_option maxHeartbeats 8000000
namespace Go.Proofs.YtpnoehpmgflibaaGreatDoor
open Go.ChangeShapes Go.WideShapes Go.ChangeAt Go.RowKit
theorem IC.use {α β : Type} {f:FuncId} {args:Value->Array Value} {p:Mp α} {ret : α->Value} (h:IC f args p ret) (S : α->Prop) (hS:∀ m,p.fits m->S (p.run m).1) {k : α->Mp β} {w0 w:World} {fp:List Nat} {b:Nat} {m:MachD} {r : β × MachD} (L:Lft (p >>= k) m r) (hm:IM w0 w b fp m) :
  Calls Tryz.prog f (args (.pointer (some ⟨b,0,none⟩))) w fun e w'=>∃ a m1 fp1,e=.returned (ret a)/\S a/\IM w0 w' b fp1 m1/\IT w fp w' fp1/\Lft (k a) m1 r:=by
 refine (h w0 w fp b m hm L.step.1).mono ?_
 rintro e w' ⟨rfl,fp1,hm',ht⟩
 exact ⟨_,_,fp1,rfl,hS m L.step.1,hm',ht,L.step.2⟩
theorem IC.use2 {α γ β : Type} {f:FuncId} {args:Value->Array Value} {p:Mp (α × γ)} {ret : α × γ->Value} (h:IC f args p ret) (S : α × γ->Prop) (hS:∀ m,p.fits m->S (p.run m).1) {k : α × γ->Mp β} {w0 w:World} {fp:List Nat} {b:Nat} {m:MachD} {r : β × MachD} (L:Lft (p >>= k) m r) (hm:IM w0 w b fp m) :
  Calls Tryz.prog f (args (.pointer (some ⟨b,0,none⟩))) w fun e w'=>∃ x y m1 fp1,e=.returned (ret (x,y))/\S (x,y)/\IM w0 w' b fp1 m1/\IT w fp w' fp1/\Lft (k (x,y)) m1 r:=by
 refine (h w0 w fp b m hm L.step.1).mono ?_
 rintro e w' ⟨rfl,fp1,hm',ht⟩
 exact ⟨_,_,_,fp1,rfl,hS m L.step.1,hm',ht,L.step.2⟩
theorem zdT {α : Type} {f:FuncId} {args:Value->Array Value} {p:Mp α} {ret : α->Value}
  (h : ∀ (w0 w : World) (fp : List Nat) (b : Nat) (m : MachD) (res : α) (mres : MachD), Hid (IM w0 w b fp m) -> Hid (IT w fp w fp) -> Hid (Lft p m (res, mres)) ->
   Calls Tryz.prog f (args (.pointer (some ⟨b,0,none⟩))) w fun e w'=>e=.returned (ret res)/\∃ fp',IM w0 w' b fp' mres/\IT w fp w' fp'):IC f args p ret :=
 fun w0 w fp b m H hf=>h w0 w fp b m _ _ H (IT.refl w fp) ⟨hf,rfl⟩
def KL {α : Type} (R:RowOf α) (e:TypeId) (w:World) (B:Nat) (fp:List Nat) (v:Value) (ks:List α):Prop:=OwnL R e w B v ks/\∀ j,v.ownBlock=some j->j ∉ fp
theorem KL.step {α : Type} {R:RowOf α} {e:TypeId} {w w':World} {B:Nat} {fp fp':List Nat} {v:Value} {ks:List α} (h:KL R e w B fp v ks) (t:IT w fp w' fp'):KL R e w' B fp' v ks:=t.own h.1 h.2
theorem KL.below {α : Type} {R:RowOf α} {e:TypeId} {w w':World} {B:Nat} {fp:List Nat} {v:Value} {ks:List α} (h:KL R e w B fp v ks) (hb:Below w.heap.size w w'):KL R e w' B fp v ks:=⟨zh7 h.1 hb,h.2⟩
theorem KL.at_ {w:World} {B:Nat} {fp:List Nat} {ao:Option Addr} {cap:Nat} {ks:List ByteArray} (h:KL zx 9 w B fp (.slice ao ks.length cap) ks) {n:Nat} (hn:n<ks.length):∃ b off,ao=some ⟨b,off,none⟩/\b<w.heap.size/\w.cell? ⟨b,off+n,none⟩=some (.string ks[n]):=by
 have hne:ks ≠ []:=by intro e;rw [e] at hn;cases hn
 obtain ⟨ao',cap',e0,_,_,_,h4⟩:=h.1.rd.shapeS
 obtain ⟨b,off,e,hb,hc⟩:=h4 hne
 cases e0
 exact ⟨b,off,e,hb,hc n hn⟩
def BX (w:World) (fp:List Nat) (q:Nat) (o:Obj):Prop:=w.heap[q]?=some o/\q ∉ fp
theorem BX.step {w w':World} {fp fp':List Nat} {q:Nat} {o:Obj} (h:BX w fp q o) (t:IT w fp w' fp'):BX w' fp' q o:=by
 refine ⟨(t.up.block q (za h.1) h.2).trans h.1,fun hx=>?_⟩
 rcases t.sub q hx with h1|h1
 ·exact h.2 h1
 ·have:=za h.1
  omega
theorem BX.below {w w':World} {fp:List Nat} {q:Nat} {o:Obj} (h:BX w fp q o) (hb:Below w.heap.size w w'):BX w' fp q o:=⟨(Grew.below hb q (za h.1)).trans h.1,h.2⟩
theorem zdQ {α : Type} {R:RowOf α} {e:TypeId} {w:World} {B B':Nat} {fp:List Nat} {v:Value} {ks:List α} (h:KL R e w B fp v ks) (hB:B'<=B):KL R e w B' fp v ks:=⟨h.1.base hB,h.2⟩
theorem zdg {β : Type} {p:ByteArray} {k:List ByteArray->Mp β} {w0 w:World} {fp:List Nat} {b:Nat} {m:MachD} {r : β × MachD} (L:Lft (K.under p >>= k) m r) (hm:IM w0 w b fp m) :
  Calls Tryz.prog 150 #[.pointer (some ⟨b,0,none⟩),.string p] w fun e w'=>∃ ao cap ks m1 fp1,e=.returned (.slice ao ks.length cap)/\KS p ks/\IM w0 w' b fp1 m1/\IT w fp w' fp1/\KL zx 9 w' w.heap.size fp1 (.slice ao ks.length cap) ks/\Lft (k ks) m1 r:=by
 refine (impl_under p w0 w fp b m hm L.step.1).mono ?_
 rintro e w' ⟨vs,rfl,ho,fp',hm',ht,hn⟩
 obtain ⟨ao,cap,rfl⟩:=ho.rd.form
 exact ⟨ao,cap,_,_,fp',rfl,zcp p m L.step.1,hm',ht,⟨ho,hn⟩,L.step.2⟩
theorem zfe (a:ByteArray) (w:World) (ha:a.size<=1048576):Calls Tryz.prog 234 #[.string a,.string ⟨#[45]⟩] w fun e w'=>e=.returned (.tuple #[.string (if zaj a ⟨#[45]⟩ then a.extract 1 a.size else a),.bool (zaj a ⟨#[45]⟩)])/\w=w':=by
 have H:Calls Tryz.prog 255 #[.string a,.string ⟨#[45]⟩] w fun e w'=>e=.returned (.tuple #[.string (if zaj a ⟨#[45]⟩ then a.extract 1 a.size else a),.bool (zaj a ⟨#[45]⟩)])/\w=w':=by
  have PH:=Hd (zd2 a ⟨#[45]⟩ w (by omega) (by decide))
  cases ho:zaj a ⟨#[45]⟩ with
  | true =>
   have h1 : 1<=a.size:=by
    unfold zaj at ho
    simp at ho
    exact ho.1
   have h2:(1:Int)<=a.size:=by omega
   have HO:=Hd ho
   clear ho
   go_enter Tryz.func255,Tryz.ntmps255
   go_wp2_with fail
   (go_at_call 219;refine PH.out.mono ?_;rintro e w' ⟨rfl,rfl⟩)
   rw [HO.out]
   go_wp2
   refine bodyPost_ret (by simp [results,Tryz.results255,go_sem];rfl) rfl ?_
   exact ⟨by simp,rfl⟩
  | false =>
   have HO:=Hd ho
   clear ho
   go_enter Tryz.func255,Tryz.ntmps255
   go_wp2_with fail
   (go_at_call 219;refine PH.out.mono ?_;rintro e w' ⟨rfl,rfl⟩)
   rw [HO.out]
   go_wp2
   refine bodyPost_ret (by simp [results,Tryz.results255,go_sem];rfl) rfl ?_
   exact ⟨by simp,rfl⟩
 generalize (if zaj a ⟨#[45]⟩ then a.extract 1 a.size else a)=r at H ⊢
 generalize zaj a ⟨#[45]⟩=bb at H ⊢
 have HH:=Hd H
 clear H
 go_enter Tryz.func234,Tryz.ntmps234
 go_wp2_with fail
 (go_at_call 255;refine HH.out.mono ?_;rintro e w' ⟨rfl,rfl⟩)
 go_wp2
 refine bodyPost_ret (by simp [results,Tryz.results234,go_sem];rfl) rfl ?_
 exact ⟨rfl,rfl⟩
theorem zke (x:ByteArray):zaj x ⟨#[45]⟩=decide (x.data.toList.head?=some 45):=by
 obtain ⟨⟨l⟩⟩:=x
 cases l with
 | nil=>rfl
 | cons c l =>
  unfold zaj
  rw [show (ByteArray.mk #[45]).size=1 from rfl,ByteArray.toList_eq,ByteArray.toList_eq,ByteArray.data_extract,Array.toList_extract]
  have:decide (1<=(ByteArray.mk ⟨c :: l⟩).size)=true:=decide_eq_true (by show 1<=(c :: l).length;simp)
  rw [this]
  by_cases hc:c=45
  ·subst hc;simp
  ·simp [hc]
theorem zhj (x:ByteArray) (w:World) (hg:Glob w) (hs:x.size<=1048576):Calls Tryz.prog 212 #[.string x] w fun e w'=>e=.returned (.string (K.messageOf x))/\Below w.heap.size w w':=by
 have C:=Hd (zfe x w hs)
 have hb:=zke x
 cases h:zaj x ⟨#[45]⟩ with
 | true =>
  rw [h] at hb
  have hd:x.data.toList.head?=some 45:=of_decide_eq_true hb.symm
  have HE:=Hd (zeP hd)
  have HO:=Hd h
  have hz:(x.extract 1 x.size).size<=1048576:=by rw [ByteArray.size_extract];omega
  have U:=Hd (zgU (x.extract 1 x.size) w hg hz)
  clear hd hb h hg
  go_enter Tryz.func212,Tryz.ntmps212
  (skip);repeat (first|go_skip|go_guarded|go_step|go_upon|go_back)
  (go_at_call 234;refine C.out.mono ?_;rintro e w' ⟨rfl,rfl⟩)
  rw [HO.out,if_pos rfl]
  (try simp only []);repeat (first|go_skip|go_guarded|go_step|go_upon|go_back)
  (go_at_call 232;refine U.out.mono ?_;rintro e w2 ⟨b,_,rfl,hb⟩)
  go_wp2
  go_ret
  exact ⟨by rw [HE.out];rfl,hb⟩
 | false =>
  rw [h] at hb
  have hd:¬ x.data.toList.head?=some 45:=of_decide_eq_false hb.symm
  have HE:=Hd (zdp hd)
  have HO:=Hd h
  clear hd hb h hg
  go_enter Tryz.func212,Tryz.ntmps212
  (skip);repeat (first|go_skip|go_guarded|go_step|go_upon|go_back)
  (go_at_call 234;refine C.out.mono ?_;rintro e w' ⟨rfl,rfl⟩)
  rw [HO.out]
  go_wp2
  go_ret
  exact ⟨by rw [HE.out];rfl,Below.refl _ _⟩
theorem zav (k:ByteArray):IC 138 (fun x=>#[x,.string k]) (K.num k) (fun n=>.int .i64 n):=by
 refine zdT (fun w0 w fp b m res mres HM HT HL=>?_)
 unfold K.num at HL
 (skip)
 all_goals (go_enter Tryz.func138,Tryz.ntmps138;all_goals ((repeat' (first|go_skip|go_guarded|go_step|go_upon|go_back|((first|((go_at_call 159;refine (IC.use (zeV _) (fun a=>a.size<=1048576) (fun m h=>zaV h.1 _) (by first|exact HL.out|exact HL.out.last) HM.out).mono ?_);(rintro e w2 ⟨x,m2,fp2,rfl,hx,hm,ht,HL2⟩);(replace HM:=Hd hm;replace HT:=Hd (HT.out.trans ht);clear hm ht;clear HL;have HL:=Hd HL2;clear HL2;(try simp only [])))|((go_at_call 161;refine (zfu _ _ HM.out.globs (by omega)).mono ?_);rintro e w2 ⟨rfl,hb⟩;(replace HM:=Hd (HM.out.below hb);replace HT:=Hd (HT.out.trans (IT.below hb));clear hb;(try simp only [])))))|(exfalso;(simp only [bne_eq_false_iff_eq,beq_eq_false_iff_ne,beq_iff_eq,bne_iff_ne] at *);omega)))))
 all_goals (obtain ⟨rfl,rfl⟩:=HL.out.end;((refine bodyPost_ret (by simp [results,Tryz.results138,go_sem];rfl) rfl ?_));exact ⟨rfl,_,HM.out,HT.out⟩)
end Go.Proofs.YtpnoehpmgflibaaGreatDoor
