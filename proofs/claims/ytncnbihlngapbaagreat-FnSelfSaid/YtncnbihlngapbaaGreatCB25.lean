/- Texts of this claim, merged: the walks and what they stand on. Each condition stands in its theorem. -/
import Derived.Test.YtncnbihlngapbaaGreatCB21
import Derived.Test.YtncnbihlngapbaaGreatCB7
set_option linter.unusedVariables false
set_option linter.unusedSimpArgs false
set_option maxRecDepth 100000
set_option maxHeartbeats 8000000
namespace Go.Proofs.YtncnbihlngapbaaGreat
open Go.ChangeShapes Go.WideShapes Go.ChangeAt Go.RowKit
theorem zgS:∀ d:StepD,∀ u ∈ StepD.row d,u.oneCell'=true:=fun d u hu=>by simp [StepD.row] at hu;rcases hu with rfl|rfl|rfl|rfl|rfl|rfl|rfl<;>rfl
def ziC:RowOf StepD:=⟨StepD.row,7,fun _=>rfl,zgS⟩
def zbb (d:TxD):List StepD:=d.calls.map (StepD.mk d.proc)
theorem Tryz.elemStepA:Elem Tryz.prog 110 133 7 80:=Elem.of (.agg #[.int .i64 0,.int .i64 0,.string ⟨#[]⟩,.string ⟨#[]⟩,.int .i64 0,.int .i64 0,.string ⟨#[]⟩]) Tryz.underlying110 (by kernel_rfl) rfl (by decide)
theorem OwnR.merge2 {α : Type} {R:RowOf α} {e:TypeId} {w:World} {B:Nat} {v:Value} {xs:List α} {bs cs:Array Obj} {d0 dr:Nat} (h:OwnL R e (w.ext ⟨bs,d0⟩) B v xs):OwnL R e (w.ext ⟨bs++cs,dr⟩) B v xs:=by
 have:=h.ext ⟨cs,dr⟩
 rwa [zm] at this
theorem OwnR.same {α : Type} {R:RowOf α} {e:TypeId} {w:World} {B:Nat} {v:Value} {xs:List α} {bs:Array Obj} {d0 dr:Nat} (h:OwnL R e (w.ext ⟨bs,d0⟩) B v xs):OwnL R e (w.ext ⟨bs,dr⟩) B v xs:=by
 have:=h.ext ⟨#[],dr⟩
 rwa [zm,Array.append_empty] at this
theorem zha {α : Type} {row : α->List Value} {k:Nat} {ok : α->Prop} {hk:∀ d,(row d).length=k} {h1:∀ d,∀ u ∈ row d,u.oneCell'=true} {R:RowOf α} (hr:R.row=row) (hkk:R.k=k) {e:TypeId} {w:World} {B:Nat} {v:Value} {xs:List α} (h:OwnL R e w B v xs) (hok:∀ d ∈ xs,ok d) :
  ∃ fp:List Nat,(vSlice (vRow row k ok hk h1) e).own w fp [v] xs/\fp.Nodup/\∀ b ∈ fp,B<=b:=by
 subst hr hkk
 rcases h.2 with ⟨rfl,h0⟩|⟨g,cap,cur,rfl,hg,hh,hn,hm,hsz,ht⟩
 ·have:xs = []:=List.eq_nil_of_length_eq_zero h0
  subst this
  exact ⟨[],.inl ⟨rfl,rfl,rfl⟩,List.nodup_nil,by simp⟩
 ·exact ⟨[g],zdX hh rfl hn hm hsz ht hok,by simp,by simpa using hg⟩
theorem zg3 (cs:List Value) (d:TxD) (w:World) (hs:vTx.rd w cs d) (hlen:d.calls.length<=1048576) :
  Calls Tryz.prog 81 #[.agg cs.toArray] w (Made (vSlice vStep 133) w (zbb d)):=by
 obtain ⟨s0,s1,s2,s3,s4,rfl,h0,h1,h2,h3,h4⟩:=hs
 obtain ⟨a0,cap,rfl,hc1,hc2,hnil,hcell⟩:=vSlice.shape h0
 obtain ⟨a1,c1,rfl⟩:=vSlice.form h1
 obtain ⟨a2,c2,rfl⟩:=vSlice.form h2
 obtain ⟨a3,c3,rfl⟩:=vSlice.form h3
 obtain ⟨a4,c4,rfl⟩:=vSlice.form h4
 have HX:=Hd hcell
 have HOK:Hid (∀ c ∈ d.calls,c.ok):=fun c hc=>by
  obtain ⟨i,hi,rfl⟩:=List.getElem_of_mem hc
  obtain ⟨_,_,_,_,_,h,_⟩:=hcell i hi
  exact h.2
 clear hcell hnil h0 h1 h2 h3 h4
 unfold maxLen at hc2
 go_enter Tryz.func81,Tryz.ntmps81
 go_wp2
 go_loopw [3,4] (fun o k wr=>∃ (n:Nat) (xs:List StepD),k=.int .i64 n/\n<=d.calls.length/\Below (w.alloc (.cells #[.int .i64 d.id,.int .i64 d.age,.int .i64 d.proc,.int .i64 d.began,.slice a0 d.calls.length cap,.slice a1 d.answers.length c1,.slice a2 d.touch.reads.length c2,.slice a3 d.touch.writes.length c3,.slice a4 d.marks.length c4,.int .i64 d.state] 35)).heap.size (w.alloc (.cells #[.int .i64 d.id,.int .i64 d.age,.int .i64 d.proc,.int .i64 d.began,.slice a0 d.calls.length cap,.slice a1 d.answers.length c1,.slice a2 d.touch.reads.length c2,.slice a3 d.touch.writes.length c3,.slice a4 d.marks.length c4,.int .i64 d.state] 35)) wr/\OwnL ziC 133 wr (w.alloc (.cells #[.int .i64 d.id,.int .i64 d.age,.int .i64 d.proc,.int .i64 d.began,.slice a0 d.calls.length cap,.slice a1 d.answers.length c1,.slice a2 d.touch.reads.length c2,.slice a3 d.touch.writes.length c3,.slice a4 d.marks.length c4,.int .i64 d.state] 35)).heap.size o xs/\xs=(d.calls.take n).map (StepD.mk d.proc)/\xs.length=n) (fun _ k _=>d.calls.length - (intOf k).toNat)
 case atStart=>exact ⟨0,[],rfl,by omega,(by repeat (first|with_reducible exact Below.refl _ _|with_reducible apply Below.ofExt|with_reducible apply Below.ofAlloc|with_reducible apply Below.drew|with_reducible apply Below.ofDrewN|with_reducible assumption|(with_reducible refine Below.setCell ?_ (by first|exact Nat.le_refl _|(simp [go_sem];done)|(simp [go_sem];omega)) _))),(by have:=OwnL.empty ziC 133 (w.alloc (.cells #[.int .i64 d.id,.int .i64 d.age,.int .i64 d.proc,.int .i64 d.began,.slice a0 d.calls.length cap,.slice a1 d.answers.length c1,.slice a2 d.touch.reads.length c2,.slice a3 d.touch.writes.length c3,.slice a4 d.marks.length c4,.int .i64 d.state] 35));simpa using this),rfl,by simp⟩
 case round =>
  obtain ⟨n,xs,rfl,hn,hbel,ho,hxs,hxl⟩:=hrel
  obtain ⟨X,rfl⟩:=hbel.ext
  obtain ⟨oa,oc,rfl⟩:=ho.rd.form
  have HO:=Hd ho
  have HXS:=Hd hxs
  have hxl2:xs.length<=n:=by omega
  have HXL:=Hd hxl
  clear ho hxs hxl
  by_cases hlt:(n:Int)<d.calls.length
  case pos =>
   have hk:n<d.calls.length:=by omega
   obtain ⟨b,off,csx,rfl,hblx,hrdx,hcellx⟩:=HX.out n hk
   have hst:(d.calls.take (n+1)).map (StepD.mk d.proc)=(d.calls.take n).map (StepD.mk d.proc) ++ [StepD.mk d.proc d.calls[n]]:=by
    rw [List.take_succ_eq_append_getElem hk,List.map_append]
    rfl
   generalize d.calls[n]=c at hrdx hst
   rw [<- HXS.out] at hst
   have HST:=Hd hst
   clear hst
   obtain ⟨rfl,_⟩:=hrdx
   obtain ⟨x0,x1,x2,x3,x4,x5⟩:=c
   have y0:=hcellx 0 _ rfl
   have y1:=hcellx 1 _ rfl
   have y2:=hcellx 2 _ rfl
   have y3:=hcellx 3 _ rfl
   have y4:=hcellx 4 _ rfl
   have y5:=hcellx 5 _ rfl
   clear hcellx
   simp only [show vCall.k=6 from rfl,Nat.add_zero] at y0 y1 y2 y3 y4 y5
   have q1:b<w.heap.size+1:=by omega
   go_wp2
   refine zaB [(0,true),(1,true),(2,true),(3,true),(4,true),(5,true),(6,true),(7,true),(8,true),(9,false),(10,false),(11,false)] 10 (by kernel_rfl) (by kernel_rfl) ?_
   repeat (refine zq rfl (fun K hK=>?_);go_simp;(try simp (disch:=omega) only [IntWalk.i64_in]);refine hK _ ?_;clear hK K)
   refine zo rfl (fun K hK=>?_);go_simp;refine hK _ _ (by show Sx _ _;(try simp only [<- Array.append_assoc]);repeat (first|with_reducible exact Sx.drew _|with_reducible exact Sx.same _ _ _ _|with_reducible exact ⟨_,rfl⟩|with_reducible apply Sx.more|with_reducible apply Sx.ext|with_reducible apply Sx.alloc|with_reducible apply zL|with_reducible exact Sx.refl _)) ?_;clear hK K
   refine zy rfl rfl (fun K hK=>?_)
   rw [if_pos (by rfl)]
   refine zjb (.tmp 13) (.tmp 22) 110 rfl (R:=ziC) (e:=133) Tryz.elemStepA (B:=(w.alloc (.cells #[.int .i64 d.id,.int .i64 d.age,.int .i64 d.proc,.int .i64 d.began,.slice (some ⟨b,off,none⟩) d.calls.length cap,.slice a1 d.answers.length c1,.slice a2 d.touch.reads.length c2,.slice a3 d.touch.writes.length c3,.slice a4 d.marks.length c4,.int .i64 d.state] 35)).heap.size) (v:=.slice oa xs.length oc) (xs:=xs) (by (try simp only [<- Array.append_assoc]);(repeat (first|with_reducible exact HO.out|with_reducible exact OwnR.same HO.out|with_reducible apply OwnR.merge2|with_reducible apply OwnL.ext|with_reducible apply OwnL.alloc));all_goals exact (0:Nat)) rfl (ys:=[⟨d.proc,⟨x0,x1,x2,x3,x4,x5⟩⟩]) (zat ziC _ ⟨d.proc,⟨x0,x1,x2,x3,x4,x5⟩⟩ _ rfl _ _ (by simp [zw])) rfl (by simp only [List.length_singleton];omega) (by simp only [List.length_singleton];unfold maxLen;omega) (by simp [zw];try omega) ?_
   intro v4 w4 hown4 hgr4 _
   refine hK _ _ ?_
   clear hK K
   have hb4:Below (w.alloc (.cells #[.int .i64 d.id,.int .i64 d.age,.int .i64 d.proc,.int .i64 d.began,.slice (some ⟨b,off,none⟩) d.calls.length cap,.slice a1 d.answers.length c1,.slice a2 d.touch.reads.length c2,.slice a3 d.touch.writes.length c3,.slice a4 d.marks.length c4,.int .i64 d.state] 35)).heap.size (w.alloc (.cells #[.int .i64 d.id,.int .i64 d.age,.int .i64 d.proc,.int .i64 d.began,.slice (some ⟨b,off,none⟩) d.calls.length cap,.slice a1 d.answers.length c1,.slice a2 d.touch.reads.length c2,.slice a3 d.touch.writes.length c3,.slice a4 d.marks.length c4,.int .i64 d.state] 35)) w4:=Below.appL (a:=w.alloc (.cells #[.int .i64 d.id,.int .i64 d.age,.int .i64 d.proc,.int .i64 d.began,.slice (some ⟨b,off,none⟩) d.calls.length cap,.slice a1 d.answers.length c1,.slice a2 d.touch.reads.length c2,.slice a3 d.touch.writes.length c3,.slice a4 d.marks.length c4,.int .i64 d.state] 35)) (R:=ziC) (e:=133) (v:=.slice oa xs.length oc) (xs:=xs) (by repeat (first|with_reducible exact Below.refl _ _|with_reducible apply Below.ofExt|with_reducible apply Below.ofAlloc|with_reducible apply Below.drew|with_reducible apply Below.ofDrewN|with_reducible assumption|(with_reducible refine Below.setCell ?_ (by first|exact Nat.le_refl _|(simp [go_sem];done)|(simp [go_sem];omega)) _))) hgr4 (by (try simp only [<- Array.append_assoc]);(repeat (first|with_reducible exact HO.out|with_reducible exact OwnR.same HO.out|with_reducible apply OwnR.merge2|with_reducible apply OwnL.ext|with_reducible apply OwnL.alloc));all_goals exact (0:Nat))
   repeat (refine zy rfl rfl (fun K hK=>?_);go_simp;refine hK _ _ ?_;clear hK K)
   refine zX ?_
   go_wp2
   go_roundw
   case rel=>exact ⟨n+1,_,by go_num,by omega,hb4,hown4,HST.out.symm,by have:=HXL.out;simp;omega⟩
   case measure=>simp [intOf];omega
  case neg =>
   have e:n=d.calls.length:=by omega
   have hx:=HXS.out
   rw [e,List.take_length] at hx
   have HF:Hid (xs=zbb d):=hx
   clear hx
   go_wp2
   go_ret
   obtain ⟨fp,h1,h2,h3⟩:=zha (R:=ziC) (row:=StepD.row) (k:=7) rfl rfl (ok:=StepD.ok) (hk:=fun _=>rfl) (h1:=zgS) (HO.out.base (B':=w.heap.size) (by simp)) (fun x hx=>by
    rw [HF.out] at hx
    obtain ⟨c,hc,rfl⟩:=List.mem_map.1 hx
    exact HOK.out c hc)
   rw [HF.out] at h1
   exact ⟨_,fp,by rw [<- HF.out];rfl,⟨h1,h2,h3⟩,(by repeat (first|with_reducible exact Below.refl _ _|with_reducible apply Below.ofExt|with_reducible apply Below.ofAlloc|with_reducible apply Below.drew|with_reducible apply Below.ofDrewN|with_reducible assumption|(with_reducible refine Below.setCell ?_ (by first|exact Nat.le_refl _|(simp [go_sem];done)|(simp [go_sem];omega)) _)))⟩
end Go.Proofs.YtncnbihlngapbaaGreat
