/- Texts of this claim, merged: the walks and what they stand on. Each condition stands in its theorem. -/
import Derived.Test.YtgcmnkkakngifaaGreatDoorCA35
import Derived.Test.YtgcmnkkakngifaaGreatDoorCA37
import Derived.Test.YtgcmnkkakngifaaGreatDoorTR2
set_option linter.unusedVariables false
set_option linter.unusedSimpArgs false
set_option maxRecDepth 100000
set_option maxHeartbeats 8000000
namespace Go.Proofs.YtgcmnkkakngifaaGreatDoor
open Go.ChangeShapes Go.WideShapes Go.ChangeAt Go.RowKit
theorem vStep_one:∀ d:StepD,∀ u ∈ StepD.row d,u.oneCell'=true:=fun d u hu=>by simp [StepD.row] at hu;rcases hu with rfl|rfl|rfl|rfl|rfl|rfl|rfl<;>rfl
def rStep:RowOf StepD:=⟨StepD.row,7,fun _=>rfl,vStep_one⟩
def stepsOf (d:TxD):List StepD:=d.calls.map (StepD.mk d.proc)
theorem Tryz.elemStepA:Elem Tryz.prog 62 103 7 80:=Elem.of (.agg #[.int .i64 0,.int .i64 0,.string ⟨#[]⟩,.string ⟨#[]⟩,.int .i64 0,.int .i64 0,.string ⟨#[]⟩]) Tryz.underlying62 (by kernel_rfl) rfl (by decide)
theorem own_of_OwnRS {α : Type} {row : α->List Value} {k:Nat} {ok : α->Prop} {hk:∀ d,(row d).length=k} {h1:∀ d,∀ u ∈ row d,u.oneCell'=true} {R:RowOf α} (hr:R.row=row) (hkk:R.k=k) {e:TypeId} {w:World} {B:Nat} {v:Value} {xs:List α} (h:OwnL R e w B v xs) (hok:∀ d ∈ xs,ok d) :
  ∃ fp:List Nat,(vSlice (vRow row k ok hk h1) e).own w fp [v] xs/\fp.Nodup/\∀ b ∈ fp,B<=b:=by
 subst hr hkk
 rcases h.2 with ⟨rfl,h0⟩|⟨g,cap,cur,rfl,hg,hh,hn,hm,hsz,ht⟩
 ·have:xs = []:=List.eq_nil_of_length_eq_zero h0
  subst this
  exact ⟨[],.inl ⟨rfl,rfl,rfl⟩,List.nodup_nil,by simp⟩
 ·exact ⟨[g],zdD hh rfl hn hm hsz ht hok,by simp,by simpa using hg⟩
theorem spec_TxSteps (cs:List Value) (d:TxD) (w:World) (hs:vTx.rd w cs d) (hlen:d.calls.length<=1048576) :
  Calls Tryz.prog 44 #[.agg cs.toArray] w (Made (vSlice vStep 103) w (stepsOf d)):=by
 obtain ⟨s0,s1,s2,s3,s4,rfl,h0,h1,h2,h3,h4⟩:=hs
 obtain ⟨a0,cap,rfl,hc1,hc2,hnil,hcell⟩:=vSlice.shape h0
 obtain ⟨a1,c1,rfl⟩:=vSlice.form h1
 obtain ⟨a2,c2,rfl⟩:=vSlice.form h2
 obtain ⟨a3,c3,rfl⟩:=vSlice.form h3
 obtain ⟨a4,c4,rfl⟩:=vSlice.form h4
 have HX:=Lib.hid hcell
 have HOK:Hid (∀ c ∈ d.calls,c.ok):=fun c hc=>by
  obtain ⟨i,hi,rfl⟩:=List.getElem_of_mem hc
  obtain ⟨_,_,_,_,_,h,_⟩:=hcell i hi
  exact h.2
 clear hcell hnil h0 h1 h2 h3 h4
 unfold maxLen at hc2
 go_enter Tryz.func44,Tryz.ntmps44
 go_wp2
 go_loopw [3,4] (fun o k wr=>∃ (n:Nat) (xs:List StepD),k = .int .i64 n/\n<=d.calls.length/\Below (w.alloc (.cells #[.int .i64 d.id,.int .i64 d.age,.int .i64 d.proc,.int .i64 d.began,.slice a0 d.calls.length cap,.slice a1 d.answers.length c1,.slice a2 d.touch.reads.length c2,.slice a3 d.touch.writes.length c3,.slice a4 d.marks.length c4,.int .i64 d.state] 40)).heap.size (w.alloc (.cells #[.int .i64 d.id,.int .i64 d.age,.int .i64 d.proc,.int .i64 d.began,.slice a0 d.calls.length cap,.slice a1 d.answers.length c1,.slice a2 d.touch.reads.length c2,.slice a3 d.touch.writes.length c3,.slice a4 d.marks.length c4,.int .i64 d.state] 40)) wr/\OwnL rStep 103 wr (w.alloc (.cells #[.int .i64 d.id,.int .i64 d.age,.int .i64 d.proc,.int .i64 d.began,.slice a0 d.calls.length cap,.slice a1 d.answers.length c1,.slice a2 d.touch.reads.length c2,.slice a3 d.touch.writes.length c3,.slice a4 d.marks.length c4,.int .i64 d.state] 40)).heap.size o xs/\xs=(d.calls.take n).map (StepD.mk d.proc)/\xs.length=n) (fun _ k _=>d.calls.length - (intOf k).toNat)
 case atStart=>exact ⟨0,[],rfl,by omega,(by repeat (first|with_reducible exact Below.refl _ _|with_reducible apply Below.ofAlloc)),(by have:=OwnL.empty rStep 103 (w.alloc (.cells #[.int .i64 d.id,.int .i64 d.age,.int .i64 d.proc,.int .i64 d.began,.slice a0 d.calls.length cap,.slice a1 d.answers.length c1,.slice a2 d.touch.reads.length c2,.slice a3 d.touch.writes.length c3,.slice a4 d.marks.length c4,.int .i64 d.state] 40));simpa using this),rfl,by simp⟩
 case round =>
  obtain ⟨n,xs,rfl,hn,hbel,ho,hxs,hxl⟩:=hrel
  obtain ⟨X,rfl⟩:=hbel.ext
  obtain ⟨oa,oc,rfl⟩:=ho.rd.form
  have HO:=Lib.hid ho
  have HXS:=Lib.hid hxs
  have hxl2:xs.length<=n:=by omega
  have HXL:=Lib.hid hxl
  clear ho hxs hxl
  by_cases hlt:(n:Int) < d.calls.length
  case pos =>
   have hk:n < d.calls.length:=by omega
   obtain ⟨b,off,csx,rfl,hblx,hrdx,hcellx⟩:=HX.out n hk
   have hst:(d.calls.take (n + 1)).map (StepD.mk d.proc)=(d.calls.take n).map (StepD.mk d.proc) ++ [StepD.mk d.proc d.calls[n]]:=by
    rw [List.take_succ_eq_append_getElem hk,List.map_append]
    rfl
   generalize d.calls[n]=c at hrdx hst
   rw [<- HXS.out] at hst
   have HST:=Lib.hid hst
   clear hst
   obtain ⟨rfl,_⟩:=hrdx
   obtain ⟨x0,x1,x2,x3,x4,x5⟩:=c
   have y0:=hcellx 0 _ rfl
   have y1:=hcellx 1 _ rfl
   have y2:=hcellx 2 _ rfl
   have y3:=hcellx 3 _ rfl
   have y4:=hcellx 4 _ rfl
   have y5:=hcellx 5 _ rfl
   clear hcellx
   simp only [show vCall.k=6 from rfl,Nat.add_zero] at y0 y1 y2 y3 y4 y5
   have q1:b < w.heap.size + 1:=by omega
   go_wp2
   refine zaf [(0,true),(1,true),(2,true),(3,true),(4,true),(5,true),(6,true),(7,true),(8,true),(9,false),(10,false),(11,false)] 10 (by kernel_rfl) (by kernel_rfl) ?_
   repeat (refine zl rfl (fun K hK=>?_);go_simp;(try simp (disch:=omega) only [IntWalk.i64_in]);refine hK _ ?_;clear hK K)
   refine zt rfl (fun K hK=>?_);go_simp;refine hK _ _ (by show Sx _ _;repeat (first|with_reducible exact Sx.same _ _ _ _|with_reducible apply Sx.alloc)) ?_;clear hK K
   refine zw rfl rfl (fun K hK=>?_)
   rw [if_pos (by rfl)]
   refine wp_appL (.tmp 13) (.tmp 22) 62 rfl (R:=rStep) (e:=103) Tryz.elemStepA (B:=(w.alloc (.cells #[.int .i64 d.id,.int .i64 d.age,.int .i64 d.proc,.int .i64 d.began,.slice (some ⟨b,off,none⟩) d.calls.length cap,.slice a1 d.answers.length c1,.slice a2 d.touch.reads.length c2,.slice a3 d.touch.writes.length c3,.slice a4 d.marks.length c4,.int .i64 d.state] 40)).heap.size) (v:=.slice oa xs.length oc) (xs:=xs) (by (skip);(repeat (first|with_reducible exact OwnR.same HO.out|with_reducible apply OwnL.alloc));all_goals exact (0:Nat)) rfl (ys:=[⟨d.proc,⟨x0,x1,x2,x3,x4,x5⟩⟩]) (zat rStep _ ⟨d.proc,⟨x0,x1,x2,x3,x4,x5⟩⟩ _ rfl _ _ (by simp [zm])) rfl (by simp only [List.length_singleton];omega) (by simp only [List.length_singleton];unfold maxLen;omega) (by simp [zm];try omega) ?_
   intro v4 w4 hown4 hgr4 _
   refine hK _ _ ?_
   clear hK K
   have hb4:Below (w.alloc (.cells #[.int .i64 d.id,.int .i64 d.age,.int .i64 d.proc,.int .i64 d.began,.slice (some ⟨b,off,none⟩) d.calls.length cap,.slice a1 d.answers.length c1,.slice a2 d.touch.reads.length c2,.slice a3 d.touch.writes.length c3,.slice a4 d.marks.length c4,.int .i64 d.state] 40)).heap.size (w.alloc (.cells #[.int .i64 d.id,.int .i64 d.age,.int .i64 d.proc,.int .i64 d.began,.slice (some ⟨b,off,none⟩) d.calls.length cap,.slice a1 d.answers.length c1,.slice a2 d.touch.reads.length c2,.slice a3 d.touch.writes.length c3,.slice a4 d.marks.length c4,.int .i64 d.state] 40)) w4:=Below.appL (a:=w.alloc (.cells #[.int .i64 d.id,.int .i64 d.age,.int .i64 d.proc,.int .i64 d.began,.slice (some ⟨b,off,none⟩) d.calls.length cap,.slice a1 d.answers.length c1,.slice a2 d.touch.reads.length c2,.slice a3 d.touch.writes.length c3,.slice a4 d.marks.length c4,.int .i64 d.state] 40)) (R:=rStep) (e:=103) (v:=.slice oa xs.length oc) (xs:=xs) (by repeat (first|with_reducible exact Below.refl _ _|with_reducible apply Below.ofExt|with_reducible apply Below.ofAlloc)) hgr4 (by (skip);(repeat (first|with_reducible exact OwnR.same HO.out|with_reducible apply OwnL.alloc));all_goals exact (0:Nat))
   repeat (refine zw rfl rfl (fun K hK=>?_);go_simp;refine hK _ _ ?_;clear hK K)
   refine zae ?_
   go_wp2
   go_roundw
   case rel=>exact ⟨n + 1,_,by go_num,by omega,hb4,hown4,HST.out.symm,by have:=HXL.out;simp;omega⟩
   case measure=>simp [intOf];omega
  case neg =>
   have e:n=d.calls.length:=by omega
   have hx:=HXS.out
   rw [e,List.take_length] at hx
   have HF:Hid (xs=stepsOf d):=hx
   clear hx
   go_wp2
   go_ret
   obtain ⟨fp,h1,h2,h3⟩:=own_of_OwnRS (R:=rStep) (row:=StepD.row) (k:=7) rfl rfl (ok:=StepD.ok) (hk:=fun _=>rfl) (h1:=vStep_one) (HO.out.base (B':=w.heap.size) (by simp)) (fun x hx=>by
    rw [HF.out] at hx
    obtain ⟨c,hc,rfl⟩:=List.mem_map.1 hx
    exact HOK.out c hc)
   rw [HF.out] at h1
   exact ⟨_,fp,by rw [<- HF.out];rfl,⟨h1,h2,h3⟩,(by repeat (first|with_reducible exact Below.refl _ _|with_reducible apply Below.ofExt|with_reducible apply Below.ofAlloc))⟩
theorem impl_TxSteps (cs:List Value) (d:TxD) (w:World) (hs:vTx.rd w cs d) (hlen:d.calls.length<=1048576) :
  Calls Tryz.prog 54 #[.agg cs.toArray] w (Made (vSlice vStep 103) w (stepsOf d)):=by
 obtain ⟨s0,s1,s2,s3,s4,rfl,h0,h1,h2,h3,h4⟩:=hs
 obtain ⟨a0,cap,rfl,hc1,hc2,hnil,hcell⟩:=vSlice.shape h0
 obtain ⟨a1,c1,rfl⟩:=vSlice.form h1
 obtain ⟨a2,c2,rfl⟩:=vSlice.form h2
 obtain ⟨a3,c3,rfl⟩:=vSlice.form h3
 obtain ⟨a4,c4,rfl⟩:=vSlice.form h4
 have HX:=Lib.hid hcell
 have HOK:Hid (∀ c ∈ d.calls,c.ok):=fun c hc=>by
  obtain ⟨i,hi,rfl⟩:=List.getElem_of_mem hc
  obtain ⟨_,_,_,_,_,h,_⟩:=hcell i hi
  exact h.2
 clear hcell hnil h0 h1 h2 h3 h4
 unfold maxLen at hc2
 go_enter Tryz.func54,Tryz.ntmps54
 go_wp2
 go_loopw [3,9] (fun o k wr=>∃ (n:Nat) (xs:List StepD),k = .int .i64 n/\n<=d.calls.length/\Below (w.alloc (.cells #[.int .i64 d.id,.int .i64 d.age,.int .i64 d.proc,.int .i64 d.began,.slice a0 d.calls.length cap,.slice a1 d.answers.length c1,.slice a2 d.touch.reads.length c2,.slice a3 d.touch.writes.length c3,.slice a4 d.marks.length c4,.int .i64 d.state] 40)).heap.size (w.alloc (.cells #[.int .i64 d.id,.int .i64 d.age,.int .i64 d.proc,.int .i64 d.began,.slice a0 d.calls.length cap,.slice a1 d.answers.length c1,.slice a2 d.touch.reads.length c2,.slice a3 d.touch.writes.length c3,.slice a4 d.marks.length c4,.int .i64 d.state] 40)) wr/\OwnL rStep 103 wr (w.alloc (.cells #[.int .i64 d.id,.int .i64 d.age,.int .i64 d.proc,.int .i64 d.began,.slice a0 d.calls.length cap,.slice a1 d.answers.length c1,.slice a2 d.touch.reads.length c2,.slice a3 d.touch.writes.length c3,.slice a4 d.marks.length c4,.int .i64 d.state] 40)).heap.size o xs/\xs=(d.calls.take n).map (StepD.mk d.proc)/\xs.length=n) (fun _ k _=>d.calls.length - (intOf k).toNat)
 case atStart=>exact ⟨0,[],rfl,by omega,(by repeat (with_reducible exact Below.refl _ _)),OwnL.nil rStep _ _ _,rfl,by simp⟩
 case round =>
  obtain ⟨n,xs,rfl,hn,hbel,ho,hxs,hxl⟩:=hrel
  obtain ⟨X,rfl⟩:=hbel.ext
  obtain ⟨oa,oc,rfl⟩:=ho.rd.form
  have HO:=Lib.hid ho
  have HXS:=Lib.hid hxs
  have hxl2:xs.length<=n:=by omega
  have HXL:=Lib.hid hxl
  clear ho hxs hxl
  by_cases hlt:(n:Int) < d.calls.length
  case pos =>
   have hk:n < d.calls.length:=by omega
   obtain ⟨b,off,csx,rfl,hblx,hrdx,hcellx⟩:=HX.out n hk
   have hst:(d.calls.take (n + 1)).map (StepD.mk d.proc)=(d.calls.take n).map (StepD.mk d.proc) ++ [StepD.mk d.proc d.calls[n]]:=by
    rw [List.take_succ_eq_append_getElem hk,List.map_append]
    rfl
   generalize d.calls[n]=c at hrdx hst
   rw [<- HXS.out] at hst
   have HST:=Lib.hid hst
   clear hst
   obtain ⟨rfl,_⟩:=hrdx
   obtain ⟨x0,x1,x2,x3,x4,x5⟩:=c
   have y0:=hcellx 0 _ rfl
   have y1:=hcellx 1 _ rfl
   have y2:=hcellx 2 _ rfl
   have y3:=hcellx 3 _ rfl
   have y4:=hcellx 4 _ rfl
   have y5:=hcellx 5 _ rfl
   clear hcellx
   simp only [show vCall.k=6 from rfl,Nat.add_zero] at y0 y1 y2 y3 y4 y5
   have q1:b < w.heap.size + 1:=by omega
   go_wp2_with (at_builtin;refine zA ?_)
   refine zI rfl _ _ _ rfl (R:=rStep) (e:=103) Tryz.elemStepA (B:=(w.alloc (.cells #[.int .i64 d.id,.int .i64 d.age,.int .i64 d.proc,.int .i64 d.began,.slice (some ⟨b,off,none⟩) d.calls.length cap,.slice a1 d.answers.length c1,.slice a2 d.touch.reads.length c2,.slice a3 d.touch.writes.length c3,.slice a4 d.marks.length c4,.int .i64 d.state] 40)).heap.size) (v:=.slice oa xs.length oc) (xs:=xs) (by (skip);(repeat (first|with_reducible exact HO.out|with_reducible apply OwnL.alloc));all_goals exact (0:Nat)) rfl (ys:=[⟨d.proc,⟨x0,x1,x2,x3,x4,x5⟩⟩]) (zat rStep _ ⟨d.proc,⟨x0,x1,x2,x3,x4,x5⟩⟩ _ rfl _ _ (by simp [zm])) rfl (by simp only [List.length_singleton];omega) (by simp only [List.length_singleton];unfold maxLen;omega) (by simp [zm];try omega) ?_
   intro v4 w4 hown4 hgr4 _
   have hb4:Below (w.alloc (.cells #[.int .i64 d.id,.int .i64 d.age,.int .i64 d.proc,.int .i64 d.began,.slice (some ⟨b,off,none⟩) d.calls.length cap,.slice a1 d.answers.length c1,.slice a2 d.touch.reads.length c2,.slice a3 d.touch.writes.length c3,.slice a4 d.marks.length c4,.int .i64 d.state] 40)).heap.size (w.alloc (.cells #[.int .i64 d.id,.int .i64 d.age,.int .i64 d.proc,.int .i64 d.began,.slice (some ⟨b,off,none⟩) d.calls.length cap,.slice a1 d.answers.length c1,.slice a2 d.touch.reads.length c2,.slice a3 d.touch.writes.length c3,.slice a4 d.marks.length c4,.int .i64 d.state] 40)) w4:=Below.appL (a:=w.alloc (.cells #[.int .i64 d.id,.int .i64 d.age,.int .i64 d.proc,.int .i64 d.began,.slice (some ⟨b,off,none⟩) d.calls.length cap,.slice a1 d.answers.length c1,.slice a2 d.touch.reads.length c2,.slice a3 d.touch.writes.length c3,.slice a4 d.marks.length c4,.int .i64 d.state] 40)) (R:=rStep) (e:=103) (v:=.slice oa xs.length oc) (xs:=xs) (by repeat (first|with_reducible exact Below.refl _ _|with_reducible apply Below.ofExt|with_reducible apply Below.ofAlloc)) hgr4 (by (skip);(repeat (first|with_reducible exact HO.out|with_reducible apply OwnL.alloc));all_goals exact (0:Nat))
   go_wp2
   go_roundw
   case rel=>exact ⟨n + 1,_,by go_num,by omega,hb4,hown4,HST.out.symm,by have:=HXL.out;simp;omega⟩
   case measure=>simp [intOf];omega
  case neg =>
   have e:n=d.calls.length:=by omega
   have hx:=HXS.out
   rw [e,List.take_length] at hx
   have HF:Hid (xs=stepsOf d):=hx
   clear hx
   go_wp2
   go_ret
   obtain ⟨fp,h1,h2,h3⟩:=own_of_OwnRS (R:=rStep) (row:=StepD.row) (k:=7) rfl rfl (ok:=StepD.ok) (hk:=fun _=>rfl) (h1:=vStep_one) (HO.out.base (B':=w.heap.size) (by simp)) (fun x hx=>by
    rw [HF.out] at hx
    obtain ⟨c,hc,rfl⟩:=List.mem_map.1 hx
    exact HOK.out c hc)
   rw [HF.out] at h1
   exact ⟨_,fp,by rw [<- HF.out];rfl,⟨h1,h2,h3⟩,(by repeat (first|with_reducible exact Below.refl _ _|with_reducible apply Below.ofExt|with_reducible apply Below.ofAlloc))⟩
end Go.Proofs.YtgcmnkkakngifaaGreatDoor
namespace Go
open Go.RowKit
end Go
namespace Go.Proofs.YtgcmnkkakngifaaGreatDoor
open Go.ChangeShapes Go.WideShapes Go.ChangeAt Go.RowKit
theorem own_block {α : Type} {V:View α} {e:TypeId} {w:World} {fp:List Nat} {b off n c:Nat} {ds:List α} (h:(vSlice V e).own w fp [.slice (some ⟨b,off,none⟩) n c] ds):b ∈ fp:=by
 rcases h with ⟨hv,_,_⟩|⟨b',cap,blk,css,fps,hv,hb,hn,hm,hsz,ht,rfl,hcl,hfl,hel⟩
 ·cases hv
 ·cases hv
  exact List.mem_cons_self
def viewOf (zs:List CellD) (d:TxD):List CellD:=((K.runAll (stepsOf d)).run ⟨zs,[],[]⟩).2.cells
theorem stepsOf_len (d:TxD):(stepsOf d).length=d.calls.length:=by unfold stepsOf;rw [List.length_map]
end Go.Proofs.YtgcmnkkakngifaaGreatDoor
namespace Go.Proofs.YtgcmnkkakngifaaGreatDoor
open Go.RowKit
def sameL {α : Type} (p : α->α->Bool) (xs ys:List α):Bool:=decide (xs.length=ys.length) && (xs.zip ys).all fun z=>p z.1 z.2
theorem all_take_step {α : Type} (p : α->Bool) (xs:List α) (n:Nat) (h:n < xs.length):(xs.take (n + 1)).all p=((xs.take n).all p && p xs[n]):=by
 simp only [List.take_succ_eq_append_getElem h,List.all_append,List.all_cons,List.all_nil,Bool.and_true]
theorem all_take_false {α : Type} (p : α->Bool) (xs:List α) (n:Nat) (h:(xs.take n).all p=false):xs.all p=false:=by
 cases hp:xs.all p with
 | false=>rfl
 | true =>
  rw [List.all_eq_true] at hp
  have:(xs.take n).all p=true:=by
   rw [List.all_eq_true]
   exact fun x hx=>hp x (List.mem_of_mem_take hx)
  rw [this] at h
  cases h
theorem sameL_len {α : Type} {p : α->α->Bool} {xs ys:List α} (h:xs.length ≠ ys.length):sameL p xs ys=false:=by
 unfold sameL
 simp [h]
theorem sameL_all {α : Type} {p : α->α->Bool} {xs ys:List α} (h:xs.length=ys.length):sameL p xs ys=(xs.zip ys).all fun z=>p z.1 z.2:=by
 unfold sameL
 simp [h]
theorem zip_step {α : Type} (p : α->α->Bool) (xs ys:List α) (n:Nat) (h:n < xs.length) (h':n < ys.length):((xs.zip ys).take (n + 1)).all (fun z=>p z.1 z.2)=(((xs.zip ys).take n).all (fun z=>p z.1 z.2) && p xs[n] ys[n]):=by
 rw [all_take_step _ _ n (by rw [List.length_zip];omega)]
 simp
def eqAnswer (a b:AnswerD):Bool:=(a.code == b.code) && (a.n == b.n) && (a.text.toList == b.text.toList)
theorem spec_SameAnswers (v:Value) (xs:List AnswerD) (v':Value) (ys:List AnswerD) (w:World) {e e':TypeId} (hs:(vSlice vAnswer e).rd w [v] xs) (hs':(vSlice vAnswer e').rd w [v'] ys) :
  Calls Tryz.prog 45 #[v,v'] w fun e w'=>e = .returned (.bool (sameL eqAnswer xs ys))/\Below w.heap.size w w':=by
 obtain ⟨ao,cap,rfl,hc1,hc2,hnil,hcell⟩:=vSlice.shape hs
 obtain ⟨ao',cap',rfl,hc1',hc2',hnil',hcell'⟩:=vSlice.shape hs'
 have HX:=Lib.hid hcell
 have HX':=Lib.hid hcell'
 clear hcell hs hnil hcell' hs' hnil'
 unfold maxLen at hc2 hc2'
 by_cases hlen:xs.length=ys.length
 case neg =>
  rw [sameL_len hlen]
  have hne:¬ (xs.length:Int)=ys.length:=by omega
  have hnb:((xs.length:Int) == ys.length)=false:=by simp;omega
  go_enter Tryz.func45,Tryz.ntmps45
  go_wp2
  go_ret
  exact ⟨rfl,(by repeat (with_reducible exact Below.refl _ _))⟩
 have HL:=Lib.hid hlen
 have hle:ys.length<=xs.length:=by omega
 have hlb:((xs.length:Int) == ys.length)=true:=by simp;omega
 have hlc:((xs.length:Int) != ys.length)=false:=by simp;omega
 clear hlen
 go_enter Tryz.func45,Tryz.ntmps45
 go_wp2
 go_loopw [5] (fun k wr=>∃ (n:Nat),k = .int .i64 n/\n<=xs.length/\Below w.heap.size w wr/\((xs.zip ys).take n).all (fun z=>eqAnswer z.1 z.2)=true) (fun k _=>xs.length - (intOf k).toNat)
 case atStart=>exact ⟨0,rfl,by omega,(by repeat (with_reducible exact Below.refl _ _)),rfl⟩
 case round =>
  obtain ⟨n,rfl,hn,hbel,hall⟩:=hrel
  obtain ⟨X,rfl⟩:=hbel.ext
  have HA:=Lib.hid hall
  clear hall
  by_cases hlt:(n:Int) < xs.length
  case pos =>
   have hk:n < xs.length:=by omega
   have hk':n < ys.length:=by rw [<- HL.out];exact hk
   obtain ⟨b,off,csc,rfl,hblc,hrdc,hcellc⟩:=HX.out n hk
   obtain ⟨b',off',cse,rfl,hble,hrde,hcelle⟩:=HX'.out n hk'
   have hst:=zip_step eqAnswer xs ys n hk hk'
   generalize xs[n]=x at hrdc hst
   generalize ys[n]=y at hrde hst
   obtain ⟨rfl,_⟩:=hrdc
   obtain ⟨rfl,_⟩:=hrde
   have hq:eqAnswer x y=eqAnswer x y:=rfl
   conv at hq=>rhs;unfold eqAnswer
   obtain ⟨x0,x1,x2⟩:=x
   obtain ⟨y0,y1,y2⟩:=y
   simp only at hq
   have c0:=hcellc 0 _ rfl
   have c1:=hcellc 1 _ rfl
   have c2:=hcellc 2 _ rfl
   have e0:=hcelle 0 _ rfl
   have e1:=hcelle 1 _ rfl
   have e2:=hcelle 2 _ rfl
   clear hcellc hcelle
   simp only [show vAnswer.k=3 from rfl,Nat.add_zero] at c0 e0 c1 e1 c2 e2
   have HST:=Lib.hid hst
   clear hst
   by_cases f0:x0=y0
   case neg =>
    have HQ:Hid (eqAnswer ⟨x0,x1,x2⟩ ⟨y0,y1,y2⟩ = false):=by show _=false;rw [hq];simp [f0]
    clear hq
    have g0:(x0 == y0)=false:=by simp [f0]
    go_wp2
    go_quiet (fail)
    go_wp2
    go_ret
    exact ⟨by rw [sameL_all HL.out,all_take_false _ (xs.zip ys) (n + 1) (by rw [HST.out,HQ.out,Bool.and_false])];rfl,(by repeat (first|with_reducible exact Below.refl _ _|with_reducible apply Below.ofExt|with_reducible apply Below.ofDrewN))⟩
   have g0:(x0 == y0)=true:=by simp [f0]
   by_cases f1:x1=y1
   case neg =>
    have HQ:Hid (eqAnswer ⟨x0,x1,x2⟩ ⟨y0,y1,y2⟩ = false):=by show _=false;rw [hq];simp [f0,f1]
    clear hq
    have g1:(x1 == y1)=false:=by simp [f1]
    go_wp2
    go_quiet (fail)
    go_wp2
    go_ret
    exact ⟨by rw [sameL_all HL.out,all_take_false _ (xs.zip ys) (n + 1) (by rw [HST.out,HQ.out,Bool.and_false])];rfl,(by repeat (first|with_reducible exact Below.refl _ _|with_reducible apply Below.ofExt|with_reducible apply Below.ofDrewN))⟩
   have g1:(x1 == y1)=true:=by simp [f1]
   by_cases f2:x2.toList=y2.toList
   case neg =>
    have HQ:Hid (eqAnswer ⟨x0,x1,x2⟩ ⟨y0,y1,y2⟩ = false):=by show _=false;rw [hq];simp [f0,f1,f2]
    clear hq
    have g2:(x2.toList == y2.toList)=false:=by simp [f2]
    go_wp2
    go_quiet (fail)
    go_wp2
    go_ret
    exact ⟨by rw [sameL_all HL.out,all_take_false _ (xs.zip ys) (n + 1) (by rw [HST.out,HQ.out,Bool.and_false])];rfl,(by repeat (first|with_reducible exact Below.refl _ _|with_reducible apply Below.ofExt|with_reducible apply Below.ofDrewN))⟩
   have g2:(x2.toList == y2.toList)=true:=by simp [f2]
   have HQ:Hid (eqAnswer ⟨x0,x1,x2⟩ ⟨y0,y1,y2⟩ = true):=by show _=true;rw [hq];simp [f0,f1,f2]
   clear hq
   go_wp2
   go_quiet (fail)
   go_wp2
   go_roundw
   case rel=>exact ⟨n + 1,by go_num,by omega,(by repeat (first|with_reducible exact Below.refl _ _|with_reducible apply Below.ofExt)),by rw [HST.out,HA.out,HQ.out];rfl⟩
   case measure=>simp [intOf];omega
  case neg =>
   go_wp2
   go_ret
   have e:n=xs.length:=by omega
   subst e
   have ha:=HA.out
   rw [List.take_of_length_le (by rw [List.length_zip];omega)] at ha
   exact ⟨by rw [sameL_all HL.out,ha];rfl,(by repeat (first|with_reducible exact Below.refl _ _|with_reducible apply Below.ofExt))⟩
theorem answers_Equal (v:Value) (xs:List AnswerD) (v':Value) (ys:List AnswerD) (w:World) {e e':TypeId} (hs:(vSlice vAnswer e).rd w [v] xs) (hs':(vSlice vAnswer e').rd w [v'] ys) :
  Calls Tryz.prog 87 #[v,v'] w fun e w'=>e = .returned (.bool (sameL eqAnswer xs ys))/\Below w.heap.size w w':=by
 obtain ⟨ao,cap,rfl,hc1,hc2,hnil,hcell⟩:=vSlice.shape hs
 obtain ⟨ao',cap',rfl,hc1',hc2',hnil',hcell'⟩:=vSlice.shape hs'
 have HX:=Lib.hid hcell
 have HX':=Lib.hid hcell'
 clear hcell hs hnil hcell' hs' hnil'
 unfold maxLen at hc2 hc2'
 by_cases hlen:xs.length=ys.length
 case neg =>
  rw [sameL_len hlen]
  have hne:¬ (xs.length:Int)=ys.length:=by omega
  have hnb:((xs.length:Int) == ys.length)=false:=by simp;omega
  go_enter Tryz.func87,Tryz.ntmps87
  go_wp2
  go_ret
  exact ⟨rfl,(by repeat (with_reducible exact Below.refl _ _))⟩
 have HL:=Lib.hid hlen
 have hle:ys.length<=xs.length:=by omega
 have hlb:((xs.length:Int) == ys.length)=true:=by simp;omega
 have hlc:((xs.length:Int) != ys.length)=false:=by simp;omega
 clear hlen
 go_enter Tryz.func87,Tryz.ntmps87
 go_wp2
 go_loopw [13] (fun k wr=>∃ (n:Nat),k = .int .i64 n/\n<=xs.length/\Below w.heap.size w wr/\((xs.zip ys).take n).all (fun z=>eqAnswer z.1 z.2)=true) (fun k _=>xs.length - (intOf k).toNat)
 case atStart=>exact ⟨0,rfl,by omega,(by repeat (with_reducible exact Below.refl _ _)),rfl⟩
 case round =>
  obtain ⟨n,rfl,hn,hbel,hall⟩:=hrel
  obtain ⟨X,rfl⟩:=hbel.ext
  have HA:=Lib.hid hall
  clear hall
  by_cases hlt:(n:Int) < xs.length
  case pos =>
   have hk:n < xs.length:=by omega
   have hk':n < ys.length:=by rw [<- HL.out];exact hk
   obtain ⟨b,off,csc,rfl,hblc,hrdc,hcellc⟩:=HX.out n hk
   obtain ⟨b',off',cse,rfl,hble,hrde,hcelle⟩:=HX'.out n hk'
   have hst:=zip_step eqAnswer xs ys n hk hk'
   generalize xs[n]=x at hrdc hst
   generalize ys[n]=y at hrde hst
   obtain ⟨rfl,_⟩:=hrdc
   obtain ⟨rfl,_⟩:=hrde
   have hq:eqAnswer x y=eqAnswer x y:=rfl
   conv at hq=>rhs;unfold eqAnswer
   obtain ⟨x0,x1,x2⟩:=x
   obtain ⟨y0,y1,y2⟩:=y
   simp only at hq
   have c0:=hcellc 0 _ rfl
   have c1:=hcellc 1 _ rfl
   have c2:=hcellc 2 _ rfl
   have e0:=hcelle 0 _ rfl
   have e1:=hcelle 1 _ rfl
   have e2:=hcelle 2 _ rfl
   clear hcellc hcelle
   simp only [show vAnswer.k=3 from rfl,Nat.add_zero] at c0 e0 c1 e1 c2 e2
   have HST:=Lib.hid hst
   clear hst
   by_cases f0:x0=y0
   case neg =>
    have HQ:Hid (eqAnswer ⟨x0,x1,x2⟩ ⟨y0,y1,y2⟩ = false):=by show _=false;rw [hq];simp [f0]
    clear hq
    have g0:(x0 == y0)=false:=by simp [f0]
    go_wp2
    go_quiet (fail)
    go_wp2
    go_ret
    exact ⟨by rw [sameL_all HL.out,all_take_false _ (xs.zip ys) (n + 1) (by rw [HST.out,HQ.out,Bool.and_false])];rfl,(by repeat (first|with_reducible exact Below.refl _ _|with_reducible apply Below.ofExt|with_reducible apply Below.ofDrewN))⟩
   have g0:(x0 == y0)=true:=by simp [f0]
   by_cases f1:x1=y1
   case neg =>
    have HQ:Hid (eqAnswer ⟨x0,x1,x2⟩ ⟨y0,y1,y2⟩ = false):=by show _=false;rw [hq];simp [f0,f1]
    clear hq
    have g1:(x1 == y1)=false:=by simp [f1]
    go_wp2
    go_quiet (fail)
    go_wp2
    go_ret
    exact ⟨by rw [sameL_all HL.out,all_take_false _ (xs.zip ys) (n + 1) (by rw [HST.out,HQ.out,Bool.and_false])];rfl,(by repeat (first|with_reducible exact Below.refl _ _|with_reducible apply Below.ofExt|with_reducible apply Below.ofDrewN))⟩
   have g1:(x1 == y1)=true:=by simp [f1]
   by_cases f2:x2.toList=y2.toList
   case neg =>
    have HQ:Hid (eqAnswer ⟨x0,x1,x2⟩ ⟨y0,y1,y2⟩ = false):=by show _=false;rw [hq];simp [f0,f1,f2]
    clear hq
    have g2:(x2.toList == y2.toList)=false:=by simp [f2]
    go_wp2
    go_quiet (fail)
    go_wp2
    go_ret
    exact ⟨by rw [sameL_all HL.out,all_take_false _ (xs.zip ys) (n + 1) (by rw [HST.out,HQ.out,Bool.and_false])];rfl,(by repeat (first|with_reducible exact Below.refl _ _|with_reducible apply Below.ofExt|with_reducible apply Below.ofDrewN))⟩
   have g2:(x2.toList == y2.toList)=true:=by simp [f2]
   have HQ:Hid (eqAnswer ⟨x0,x1,x2⟩ ⟨y0,y1,y2⟩ = true):=by show _=true;rw [hq];simp [f0,f1,f2]
   clear hq
   go_wp2
   go_quiet (fail)
   go_wp2
   go_roundw
   case rel=>exact ⟨n + 1,by go_num,by omega,(by repeat (first|with_reducible exact Below.refl _ _|with_reducible apply Below.ofExt)),by rw [HST.out,HA.out,HQ.out];rfl⟩
   case measure=>simp [intOf];omega
  case neg =>
   go_wp2
   go_ret
   have e:n=xs.length:=by omega
   subst e
   have ha:=HA.out
   rw [List.take_of_length_le (by rw [List.length_zip];omega)] at ha
   exact ⟨by rw [sameL_all HL.out,ha];rfl,(by repeat (first|with_reducible exact Below.refl _ _|with_reducible apply Below.ofExt))⟩
theorem impl_SameAnswers (v:Value) (xs:List AnswerD) (v':Value) (ys:List AnswerD) (w:World) {e e':TypeId} (hs:(vSlice vAnswer e).rd w [v] xs) (hs':(vSlice vAnswer e').rd w [v'] ys) :
  Calls Tryz.prog 55 #[v,v'] w fun e w'=>e = .returned (.bool (sameL eqAnswer xs ys))/\Below w.heap.size w w':=by
 obtain ⟨a0,c0,rfl⟩:=vSlice.form hs
 obtain ⟨a1,c1,rfl⟩:=vSlice.form hs'
 go_enter Tryz.func55,Tryz.ntmps55
 go_wp2_with fail
 (go_at_call 87;refine (answers_Equal _ xs _ ys _ hs hs').mono ?_;rintro e w' ⟨rfl,hb⟩;obtain ⟨X,rfl⟩:=hb.ext;clear hb)
 go_wp2
 go_ret
 exact ⟨rfl,(by repeat (first|with_reducible exact Below.refl _ _|with_reducible apply Below.ofExt))⟩
def RdS (w:World) (v:Value) (xs:List ByteArray):Prop:=∃ ao cap,v = .slice ao xs.length cap/\xs.length<=cap/\cap<=maxLen/\(ao=none->cap=0/\xs = []) /\
  (xs ≠ []->∃ b off,ao=some ⟨b,off,none⟩/\b < w.heap.size/\∀ (i:Nat) (hi:i < xs.length),w.cell? ⟨b,off + i,none⟩ = some (Value.string xs[i]))/\∀ s ∈ xs,s.size<=9223372036854775807
theorem RdS.ext {w:World} {v:Value} {xs:List ByteArray} (h:RdS w v xs) (X:Ext):RdS (w.ext X) v xs:=by
 obtain ⟨ao,cap,rfl,h1,h2,h3,h4,h5⟩:=h
 refine ⟨ao,cap,rfl,h1,h2,h3,fun hne=>?_,h5⟩
 obtain ⟨b,off,e,hb,hc⟩:=h4 hne
 exact ⟨b,off,e,by rw [zm];omega,fun i hi=>by rw [World.cell?_ext _ _ _ _ hb];exact hc i hi⟩
theorem RdS.alloc {w:World} {v:Value} {xs:List ByteArray} (h:RdS w v xs) (o:Obj):RdS (w.alloc o) v xs:=by
 obtain ⟨X,hX⟩:=(Below.alloc (Below.refl w.heap.size w) (Nat.le_refl _) o).ext
 rw [hX]
 exact h.ext X
theorem RdS.drew {w:World} {v:Value} {xs:List ByteArray} (h:RdS w v xs):RdS w.drew v xs:=h
theorem RdS.ofRd {w:World} {v:Value} {xs:List ByteArray} {e:TypeId} (h:(vSlice vStr e).rd w [v] xs):RdS w v xs:=vStr_shape h
theorem RdS.ofL {w:World} {v:Value} {xs:List ByteArray} (h:RdL zx w v xs) (hok:∀ s ∈ xs,s.size<=9223372036854775807):RdS w v xs:=by
 obtain ⟨ao,cap,rfl,h1,h2,h3,h4⟩:=h.shapeS
 exact ⟨ao,cap,rfl,h1,h2,h3,h4,hok⟩
theorem cov_step {α : Type} (p : α->Bool) (xs:List α) (n:Nat) (h:n < xs.length):(xs.take (n + 1)).all p=((xs.take n).all p && p xs[n]):=by
 simp only [List.take_succ_eq_append_getElem h,List.all_append,List.all_cons,List.all_nil,Bool.and_true]
theorem cov_false {α : Type} (p : α->Bool) (xs:List α) (n:Nat) (h:(xs.take n).all p=false):xs.all p=false:=by
 rw [List.all_eq_false] at h ⊢
 obtain ⟨x,hx,hp⟩:=h
 exact ⟨x,List.mem_of_mem_take hx,hp⟩
def isStr (y x:ByteArray):Bool:=y.toList == x.toList
theorem strs_Index (v:Value) (xs:List ByteArray) (y:ByteArray) (w:World) {e:TypeId} (hs:(vSlice vStr e).rd w [v] xs) :
  Calls Tryz.prog 133 #[v,.string y] w fun e w'=>e = .returned (.int .i64 (zal (isStr y) xs))/\Below w.heap.size w w':=by
 obtain ⟨ao,cap,rfl,hc1,hc2,hnil,hcell,_⟩:=vStr_shape hs
 have HX:=Lib.hid hcell
 clear hcell hnil
 unfold maxLen at hc2
 clear hs
 go_enter Tryz.func133,Tryz.ntmps133
 go_wp2
 go_loopw [8] (fun k wr=>∃ (n:Nat),k = .int .i64 n/\n<=xs.length/\Below w.heap.size w wr/\(xs.take n).any (isStr y)=false) (fun k _=>xs.length - (intOf k).toNat)
 case atStart=>exact ⟨0,rfl,by omega,(by repeat (with_reducible exact Below.refl _ _)),rfl⟩
 case round =>
  obtain ⟨n,rfl,hn,hbel,hany⟩:=hrel
  obtain ⟨X,rfl⟩:=hbel.ext
  have HA:=Lib.hid hany
  clear hany
  by_cases hlt:(n:Int) < xs.length
  ·have hk:n < xs.length:=by omega
   obtain ⟨b,off,rfl,hbl,hcell⟩:=HX.out (by intro e;simp [e] at hk)
   have hcc:=hcell n hk
   have hst:=zaR (isStr y) xs n hk
   have hff:(xs.take n).any (isStr y)=false->isStr y xs[n]=true->zal (isStr y) xs=n:=fun h h2=>zaq (isStr y) xs n hk h h2
   generalize xs[n]=x at hcc hst hff
   clear hcell
   have HT:=Lib.hid hst
   have HF:=Lib.hid hff
   clear hst hff
   by_cases hid:y.toList=x.toList
   ·have HM:Hid (isStr y x=true):=by show isStr y x=true;simp [isStr,hid]
    have g0:(y.toList == x.toList)=true:=by simp [hid]
    go_wp2
    go_ret
    exact ⟨by rw [HF.out HA.out HM.out];rfl,(by repeat (first|with_reducible exact Below.refl _ _|with_reducible apply Below.ofExt))⟩
   ·have HM:Hid (isStr y x=false):=by show isStr y x=false;simp [isStr,hid]
    have g0:(y.toList == x.toList)=false:=by simp [hid]
    go_wp2
    go_roundw
    case rel=>exact ⟨n + 1,by go_num,by omega,(by repeat (first|with_reducible exact Below.refl _ _|with_reducible apply Below.ofExt)),by rw [HT.out,HA.out,HM.out];rfl⟩
    case measure=>simp [intOf];omega
  ·go_wp2
   go_ret
   have e:n=xs.length:=by omega
   subst e
   have ha:=HA.out
   rw [List.take_length] at ha
   exact ⟨by rw [zav (isStr y) xs ha];rfl,(by repeat (first|with_reducible exact Below.refl _ _|with_reducible apply Below.ofExt))⟩
theorem strs_Contains (v:Value) (xs:List ByteArray) (y:ByteArray) (w:World) {e:TypeId} (hs:(vSlice vStr e).rd w [v] xs) :
  Calls Tryz.prog 90 #[v,.string y] w fun e w'=>e = .returned (.bool (xs.any (isStr y)))/\Below w.heap.size w w':=by
 have hg:=firstIdx_ge (isStr y) xs
 have HG:=Lib.hid hg
 clear hg
 obtain ⟨a0,c0,rfl⟩:=vSlice.form hs
 go_enter Tryz.func90,Tryz.ntmps90
 go_wp2_with fail
 (go_at_call 133;refine (strs_Index _ xs y _ hs).mono ?_;rintro e w' ⟨rfl,hb⟩;obtain ⟨X,rfl⟩:=hb.ext;clear hb)
 go_wp2
 go_ret
 exact ⟨by rw [<- HG.out];rfl,(by repeat (first|with_reducible exact Below.refl _ _|with_reducible apply Below.ofExt))⟩
def allInS (xs ys:List ByteArray):Bool:=xs.all fun x=>ys.any (isStr x)
theorem not_any_not {α : Type} (p : α->Bool) (xs:List α):(!(xs.any fun x=>!(p x)))=xs.all p:=by
 induction xs with
 | nil=>rfl
 | cons x xs ih=>simp only [List.any_cons,List.all_cons,Bool.not_or,Bool.not_not,ih]
theorem impl_allIn1 (b:Nat) (av:Option Addr) (cv:Nat) (ss:List ByteArray) (y:ByteArray) (w:World) (hv:(vSlice vStr 9).rd w [.slice av ss.length cv] ss) (hb:w.cell? ⟨b,0,none⟩ = some (.slice av ss.length cv)) :
  Calls Tryz.prog 89 #[.string y,.pointer (some ⟨b,0,none⟩)] w fun e w'=>e = .returned (.bool !(ss.any (isStr y)))/\Below w.heap.size w w':=by
 have HV:=Lib.hid hv
 clear hv
 go_enter Tryz.func89,Tryz.ntmps89
 go_wp2_with fail
 (go_at_call 90;refine (strs_Contains _ ss y _ HV.out).mono ?_;rintro e w' ⟨rfl,hb⟩;obtain ⟨X,rfl⟩:=hb.ext;clear hb)
 go_wp2
 go_ret
 exact ⟨rfl,(by repeat (first|with_reducible exact Below.refl _ _|with_reducible apply Below.ofExt))⟩
theorem IndexFunc_W (v:Value) (ys:List ByteArray) (c:Nat) (av:Option Addr) (cv:Nat) (ss:List ByteArray) (w:World) (hs:RdS w v ys) (hv:(vSlice vStr 9).rd w [.slice av ss.length cv] ss) (hcl:c < w.heap.size) (hc:w.cell? ⟨c,0,none⟩ = some (.slice av ss.length cv)) :
  Calls Tryz.prog 132 #[v,.func (Fn.func 89) #[] #[.pointer (some ⟨c,0,none⟩)]] w fun e w'=>∃ r:Int,e = .returned (.int .i64 r)/\(decide (0<=r)=ys.any (fun x=>!(ss.any (isStr x))))/\Below w.heap.size w w':=by
 have HV:=Lib.hid hv
 clear hv
 obtain ⟨ao,cap,rfl,hc1,hc2,hnil,hcell,hz⟩:=hs
 have HX:=Lib.hid hcell
 have HZ:=Lib.hid hz
 clear hcell hnil hz
 unfold maxLen at hc2
 go_enter Tryz.func132,Tryz.ntmps132
 go_wp2
 go_loopw [8] (fun k wr=>∃ (n:Nat),k = .int .i64 n/\n<=ys.length/\Below w.heap.size w wr/\(ys.take n).any (fun x=>!(ss.any (isStr x)))=false) (fun k _=>ys.length - (intOf k).toNat)
 case atStart=>exact ⟨0,rfl,by omega,(by repeat (with_reducible exact Below.refl _ _)),rfl⟩
 case round =>
  obtain ⟨n,rfl,hn,hbel,hany⟩:=hrel
  obtain ⟨X,rfl⟩:=hbel.ext
  have HA:=Lib.hid hany
  clear hany hbel
  by_cases hlt:(n:Int) < ys.length
  ·have hk:n < ys.length:=by omega
   obtain ⟨b,off,rfl,hbl,hcell⟩:=HX.out (by intro e;simp [e] at hk)
   have hcc:=hcell n hk
   have hstep:=zaR (fun x=>!(ss.any (isStr x))) ys n hk
   have hyz:=HZ.out _ (List.getElem_mem hk)
   generalize ys[n]=y at hcc hstep hyz
   have HT:=Lib.hid hstep
   clear hcell hstep
   cases hm:(fun x=>!(ss.any (isStr x))) y with
   | true =>
    go_wp2_with fail
    (go_at_call 89;refine (impl_allIn1 c av cv ss y _ (by (skip);(repeat (first|with_reducible exact HV.out|with_reducible apply View.rdExt));all_goals exact (0:Nat)) (by simp [go_sem,hcl,hc])).mono ?_;rintro e w' ⟨rfl,hb⟩;obtain ⟨X,rfl⟩:=hb.ext;clear hb)
    rw [show _=true from hm]
    go_wp2
    go_ret
    refine ⟨n,rfl,?_,(by repeat (first|with_reducible exact Below.refl _ _|with_reducible apply Below.ofExt))⟩
    rw [zgZ _ ys (n + 1) (by rw [HT.out,hm,Bool.or_true])]
    simp
   | false =>
    go_wp2_with fail
    (go_at_call 89;refine (impl_allIn1 c av cv ss y _ (by (skip);(repeat (first|with_reducible exact HV.out|with_reducible apply View.rdExt));all_goals exact (0:Nat)) (by simp [go_sem,hcl,hc])).mono ?_;rintro e w' ⟨rfl,hb⟩;obtain ⟨X,rfl⟩:=hb.ext;clear hb)
    rw [show _=false from hm]
    go_wp2
    go_roundw
    case rel=>exact ⟨n + 1,by go_num,by omega,(by repeat (first|with_reducible exact Below.refl _ _|with_reducible apply Below.ofExt)),by rw [HT.out,HA.out,hm];rfl⟩
    case measure=>simp [intOf];omega
  ·go_wp2
   go_ret
   have e:n=ys.length:=by omega
   subst e
   have ha:=HA.out
   rw [List.take_length] at ha
   refine ⟨-1,rfl,?_,(by repeat (first|with_reducible exact Below.refl _ _|with_reducible apply Below.ofExt))⟩
   rw [ha]
   rfl
theorem ContainsFunc_W (v:Value) (ys:List ByteArray) (c:Nat) (av:Option Addr) (cv:Nat) (ss:List ByteArray) (w:World) (hs:RdS w v ys) (hv:(vSlice vStr 9).rd w [.slice av ss.length cv] ss) (hcl:c < w.heap.size) (hc:w.cell? ⟨c,0,none⟩ = some (.slice av ss.length cv)) :
  Calls Tryz.prog 88 #[v,.func (Fn.func 89) #[] #[.pointer (some ⟨c,0,none⟩)]] w fun e w'=>e = .returned (.bool (ys.any (fun x=>!(ss.any (isStr x)))))/\Below w.heap.size w w':=by
 go_enter Tryz.func88,Tryz.ntmps88
 go_wp2_with fail
 (go_at_call 132;refine (IndexFunc_W v ys c av cv ss _ hs hv hcl hc).mono ?_;rintro e w' ⟨r,rfl,hr,hb⟩;obtain ⟨X,rfl⟩:=hb.ext;clear hb)
 go_wp2
 go_ret
 exact ⟨by rw [<- hr];rfl,(by repeat (first|with_reducible exact Below.refl _ _|with_reducible apply Below.ofExt))⟩
theorem impl_allIn (v v':Value) (ys ss:List ByteArray) (w:World) (hs:RdS w v ys) (hv:(vSlice vStr 9).rd w [v'] ss) :
  Calls Tryz.prog 56 #[v,v'] w fun e w'=>e = .returned (.bool (allInS ys ss))/\Below w.heap.size w w':=by
 have HS:=Lib.hid hs
 have HV:=Lib.hid hv
 obtain ⟨sa,sc,rfl⟩:=vSlice.form hv
 clear hs hv
 go_enter Tryz.func56,Tryz.ntmps56
 go_wp2_with fail
 (go_at_call 88;refine (ContainsFunc_W _ ys _ sa sc ss _ (by (skip);(repeat (first|with_reducible exact HS.out|with_reducible apply RdS.alloc));all_goals exact (0:Nat)) (by (skip);(repeat (first|with_reducible exact HV.out|with_reducible apply View.rdAlloc));all_goals exact (0:Nat)) (by simp [go_sem,zm];try omega) (by simp [go_sem])).mono ?_;rintro e w' ⟨rfl,hb⟩;obtain ⟨X,rfl⟩:=hb.ext;clear hb)
 go_wp2
 go_ret
 exact ⟨by unfold allInS;rw [<- not_any_not (fun x=>ss.any (isStr x)) ys];rfl,(by repeat (first|with_reducible exact Below.refl _ _|with_reducible apply Below.ofExt|with_reducible apply Below.ofAlloc))⟩
theorem spec_Within (v' v:Value) (ks ss:List ByteArray) (w:World) (hk:RdS w v' ks) (hs:RdS w v ss) :
  Calls Tryz.prog 46 #[v',v] w fun e w'=>e = .returned (.bool (allInS ks ss))/\Below w.heap.size w w':=by
 obtain ⟨ao',cap',rfl,hc1',hc2',hnil',hcell',hz'⟩:=hs
 obtain ⟨ao,cap,rfl,hc1,hc2,hnil,hcell,hz⟩:=hk
 have HX:=Lib.hid hcell
 have HZ:=Lib.hid hz
 have HX':=Lib.hid hcell'
 have HZ':=Lib.hid hz'
 clear hcell hnil hz hcell' hnil' hz'
 unfold maxLen at hc2 hc2'
 go_enter Tryz.func46,Tryz.ntmps46
 go_wp2
 go_loopw [5] (fun k wr=>∃ (n:Nat),k = .int .i64 n/\n<=ks.length/\Below w.heap.size w wr/\(ks.take n).all (fun x=>ss.any (isStr x))=true) (fun k _=>ks.length - (intOf k).toNat)
 case atStart=>exact ⟨0,rfl,by omega,(by repeat (with_reducible exact Below.refl _ _)),rfl⟩
 case round =>
  obtain ⟨n,rfl,hn,hbel,hall⟩:=hrel
  obtain ⟨X,rfl⟩:=hbel.ext
  have HA:=Lib.hid hall
  clear hall hbel
  by_cases hlt:(n:Int) < ks.length
  ·have hk:n < ks.length:=by omega
   obtain ⟨b,off,rfl,hbl,hcell⟩:=HX.out (by intro e;simp [e] at hk)
   have hcc:=hcell n hk
   have hstep:=cov_step (fun x=>ss.any (isStr x)) ks n hk
   have hyz:=HZ.out _ (List.getElem_mem hk)
   generalize ks[n]=x at hcc hstep hyz
   have HT:=Lib.hid hstep
   have HXZ:=Lib.hid hyz
   clear hcell hstep hyz
   go_wp2
   go_loopw [6,7] (fun h k wr=>∃ (m:Nat) (bb:Bool),h = .bool bb/\k = .int .i64 m/\m<=ss.length/\Below w.heap.size w wr/\(ss.take m).any (isStr x)=bb) (fun _ k _=>ss.length - (intOf k).toNat)
   case atStart=>exact ⟨0,false,rfl,rfl,by omega,(by repeat (first|with_reducible exact Below.refl _ _|with_reducible apply Below.ofExt)),rfl⟩
   case round =>
    obtain ⟨m,bb,rfl,rfl,hm,hbel2,hany2⟩:=hrel
    obtain ⟨Y,rfl⟩:=hbel2.ext
    have HA2:=Lib.hid hany2
    clear hany2 hbel2
    by_cases hlt2:(m:Int) < ss.length
    ·have hk2:m < ss.length:=by omega
     obtain ⟨b',off',rfl,hbl',hcell'⟩:=HX'.out (by intro e;simp [e] at hk2)
     have hcc':=hcell' m hk2
     have hstep2:=zaR (isStr x) ss m hk2
     have hyz:=HZ'.out _ (List.getElem_mem hk2)
     generalize ss[m]=y at hcc' hstep2 hyz
     have HT2:=Lib.hid hstep2
     clear hcell' hstep2 hyz
     cases bb with
     | true =>
      go_wp2
      go_quiet (fail)
      go_wp2
      go_roundw
      case rel=>exact ⟨m + 1,true,rfl,by go_num,by omega,(by repeat (first|with_reducible exact Below.refl _ _|with_reducible apply Below.ofExt)),by rw [HT2.out,HA2.out];rfl⟩
      case measure=>simp [intOf];omega
     | false =>
      go_wp2
      go_quiet (fail)
      go_wp2
      go_roundw
      case rel=>exact ⟨m + 1,_,rfl,by go_num,by omega,(by repeat (first|with_reducible exact Below.refl _ _|with_reducible apply Below.ofExt)),by rw [HT2.out,HA2.out];rfl⟩
      case measure=>simp [intOf];omega
    ·have e:m=ss.length:=by omega
     subst e
     have ha2:=HA2.out
     rw [List.take_length] at ha2
     have HB:Hid (ss.any (isStr x)=bb):=ha2
     clear ha2
     cases bb with
     | true =>
      go_wp2
      go_roundw
      case rel=>exact ⟨n + 1,by go_num,by omega,(by repeat (first|with_reducible exact Below.refl _ _|with_reducible apply Below.ofExt)),by rw [HT.out,HA.out,HB.out];rfl⟩
      case measure=>simp [intOf];omega
     | false =>
      go_wp2
      go_ret
      exact ⟨by unfold allInS;rw [cov_false _ ks (n + 1) (by rw [HT.out,HB.out,Bool.and_false])];rfl,(by repeat (first|with_reducible exact Below.refl _ _|with_reducible apply Below.ofExt))⟩
  ·go_wp2
   go_ret
   have e:n=ks.length:=by omega
   subst e
   have ha:=HA.out
   rw [List.take_length] at ha
   exact ⟨by unfold allInS;rw [ha];rfl,(by repeat (first|with_reducible exact Below.refl _ _|with_reducible apply Below.ofExt))⟩
end Go.Proofs.YtgcmnkkakngifaaGreatDoor
