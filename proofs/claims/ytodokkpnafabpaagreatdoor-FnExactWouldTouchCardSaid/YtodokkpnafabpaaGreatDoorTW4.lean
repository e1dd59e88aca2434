/- Walks. Each condition stands in its theorem. -/
import Derived.Test.YtodokkpnafabpaaGreatDoorCA26
import Derived.Test.YtodokkpnafabpaaGreatDoorCA36
import Derived.Test.YtodokkpnafabpaaGreatDoorCA37
import Derived.Test.YtodokkpnafabpaaGreatDoorCA8
import Derived.Test.YtodokkpnafabpaaGreatDoorTW3
set_option linter.unusedVariables false
set_option linter.unusedSimpArgs false
set_option maxRecDepth 100000
set_option maxHeartbeats 8000000
namespace Go.Proofs.YtodokkpnafabpaaGreatDoor
open Go.ChangeShapes Go.WideShapes Go.ChangeAt Go.RowKit
theorem zqP:∀ d:StepD,∀ u ∈ StepD.row d,u.oneCell'=true:=fun d u hu=>by simp [StepD.row] at hu;rcases hu with rfl|rfl|rfl|rfl|rfl|rfl|rfl<;>rfl
def zqaI:RowOf StepD:=⟨StepD.row,7,fun _=>rfl,zqP⟩
def zqa (d:TxD):List StepD:=d.calls.map (StepD.mk d.proc)
theorem Tryz.elemStepA:Elem Tryz.prog 90 118 7 80:=Elem.of (.agg #[.int .i64 0,.int .i64 0,.string ⟨#[]⟩,.string ⟨#[]⟩,.int .i64 0,.int .i64 0,.string ⟨#[]⟩]) Tryz.underlying90 (by kernel_rfl) rfl (by decide)
theorem zqG {α : Type} {row : α->List Value} {k:Nat} {ok : α->Prop} {hk:∀ d,(row d).length=k} {h1:∀ d,∀ u ∈ row d,u.oneCell'=true} {R:RowOf α} (hr:R.row=row) (hkk:R.k=k) {e:TypeId} {w:World} {B:Nat} {v:Value} {xs:List α} (h:OwnL R e w B v xs) (hok:∀ d ∈ xs,ok d) :
  ∃ fp:List Nat,(vSlice (vRow row k ok hk h1) e).own w fp [v] xs/\fp.Nodup/\∀ b ∈ fp,B<=b:=by
 subst hr hkk
 rcases h.2 with ⟨rfl,h0⟩|⟨g,cap,cur,rfl,hg,hh,hn,hm,hsz,ht⟩
 ·have:xs = []:=List.eq_nil_of_length_eq_zero h0
  subst this
  exact ⟨[],.inl ⟨rfl,rfl,rfl⟩,List.nodup_nil,by simp⟩
 ·exact ⟨[g],zdE hh rfl hn hm hsz ht hok,by simp,by simpa using hg⟩
theorem zqaj (cs:List Value) (d:TxD) (w:World) (hs:vTx.rd w cs d) (hlen:d.calls.length<=1048576) :
  Calls Tryz.prog 49 #[.agg cs.toArray] w (Made (vSlice vStep 118) w (zqa d)):=by
 obtain ⟨s0,s1,s2,s3,s4,rfl,h0,h1,h2,h3,h4⟩:=hs
 obtain ⟨a0,cap,rfl,hc1,hc2,hnil,hcell⟩:=vSlice.shape h0
 obtain ⟨a1,c1,rfl⟩:=vSlice.form h1
 obtain ⟨a2,c2,rfl⟩:=vSlice.form h2
 obtain ⟨a3,c3,rfl⟩:=vSlice.form h3
 obtain ⟨a4,c4,rfl⟩:=vSlice.form h4
 have HX:=Hd hcell
 have HOK:Hid (∀ c ∈ d.calls,c.ok):=fun c hc=>by
  obtain ⟨i,hi,rfl⟩:=List.getElem_of_mem hc
  obtain ⟨_,_,_,_,_,h,_⟩:=hcell i hi
  exact h.2
 clear hcell hnil h0 h1 h2 h3 h4
 unfold maxLen at hc2
 go_enter Tryz.func49,Tryz.ntmps49
 go_wp2
 go_loopw [3,4] (fun o k wr=>∃ (n:Nat) (xs:List StepD),k=.int .i64 n/\n<=d.calls.length/\Below (w.alloc (.cells #[.int .i64 d.id,.int .i64 d.age,.int .i64 d.proc,.int .i64 d.began,.slice a0 d.calls.length cap,.slice a1 d.answers.length c1,.slice a2 d.touch.reads.length c2,.slice a3 d.touch.writes.length c3,.slice a4 d.marks.length c4,.int .i64 d.state] 43)).heap.size (w.alloc (.cells #[.int .i64 d.id,.int .i64 d.age,.int .i64 d.proc,.int .i64 d.began,.slice a0 d.calls.length cap,.slice a1 d.answers.length c1,.slice a2 d.touch.reads.length c2,.slice a3 d.touch.writes.length c3,.slice a4 d.marks.length c4,.int .i64 d.state] 43)) wr/\OwnL zqaI 118 wr (w.alloc (.cells #[.int .i64 d.id,.int .i64 d.age,.int .i64 d.proc,.int .i64 d.began,.slice a0 d.calls.length cap,.slice a1 d.answers.length c1,.slice a2 d.touch.reads.length c2,.slice a3 d.touch.writes.length c3,.slice a4 d.marks.length c4,.int .i64 d.state] 43)).heap.size o xs/\xs=(d.calls.take n).map (StepD.mk d.proc)/\xs.length=n) (fun _ k _=>d.calls.length - (intOf k).toNat)
 case atStart=>exact ⟨0,[],rfl,by omega,(by repeat (first|with_reducible exact Below.refl _ _|with_reducible apply Below.ofAlloc)),(by have:=OwnL.empty zqaI 118 (w.alloc (.cells #[.int .i64 d.id,.int .i64 d.age,.int .i64 d.proc,.int .i64 d.began,.slice a0 d.calls.length cap,.slice a1 d.answers.length c1,.slice a2 d.touch.reads.length c2,.slice a3 d.touch.writes.length c3,.slice a4 d.marks.length c4,.int .i64 d.state] 43));simpa using this),rfl,by simp⟩
 case round =>
  obtain ⟨n,xs,rfl,hn,hbel,ho,hxs,hxl⟩:=hrel
  obtain ⟨X,rfl⟩:=hbel.ext
  obtain ⟨oa,oc,rfl⟩:=ho.rd.form
  have HO:=Hd ho
  have HXS:=Hd hxs
  have hxl2:xs.length<=n:=by omega
  have HXL:=Hd hxl
  clear ho hxs hxl
  by_cases hlt:(n:Int)<d.calls.length
  case pos =>
   have hk:n<d.calls.length:=by omega
   obtain ⟨b,off,csx,rfl,hblx,hrdx,hcellx⟩:=HX.out n hk
   have hst:(d.calls.take (n+1)).map (StepD.mk d.proc)=(d.calls.take n).map (StepD.mk d.proc) ++ [StepD.mk d.proc d.calls[n]]:=by
    rw [List.take_succ_eq_append_getElem hk,List.map_append]
    rfl
   generalize d.calls[n]=c at hrdx hst
   rw [<- HXS.out] at hst
   have HST:=Hd hst
   clear hst
   obtain ⟨rfl,_⟩:=hrdx
   obtain ⟨x0,x1,x2,x3,x4,x5⟩:=c
   have y0:=hcellx 0 _ rfl
   have y1:=hcellx 1 _ rfl
   have y2:=hcellx 2 _ rfl
   have y3:=hcellx 3 _ rfl
   have y4:=hcellx 4 _ rfl
   have y5:=hcellx 5 _ rfl
   clear hcellx
   simp only [show vCall.k=6 from rfl,Nat.add_zero] at y0 y1 y2 y3 y4 y5
   have q1:b<w.heap.size+1:=by omega
   go_wp2
   refine zag [(0,true),(1,true),(2,true),(3,true),(4,true),(5,true),(6,true),(7,true),(8,true),(9,false),(10,false),(11,false)] 10 (by kernel_rfl) (by kernel_rfl) ?_
   repeat (refine zm rfl (fun K hK=>?_);go_simp;(try simp (disch:=omega) only [IntWalk.i64_in]);refine hK _ ?_;clear hK K)
   refine zt rfl (fun K hK=>?_);go_simp;refine hK _ _ (by show Sx _ _;repeat (first|with_reducible exact Sx.same _ _ _ _|with_reducible apply Sx.alloc)) ?_;clear hK K
   refine zw rfl rfl (fun K hK=>?_)
   rw [if_pos (by rfl)]
   refine wp_appL (.tmp 13) (.tmp 22) 90 rfl (R:=zqaI) (e:=118) Tryz.elemStepA (B:=(w.alloc (.cells #[.int .i64 d.id,.int .i64 d.age,.int .i64 d.proc,.int .i64 d.began,.slice (some ⟨b,off,none⟩) d.calls.length cap,.slice a1 d.answers.length c1,.slice a2 d.touch.reads.length c2,.slice a3 d.touch.writes.length c3,.slice a4 d.marks.length c4,.int .i64 d.state] 43)).heap.size) (v:=.slice oa xs.length oc) (xs:=xs) (by (skip);(repeat (first|with_reducible exact OwnR.same HO.out|with_reducible apply OwnL.alloc));all_goals exact (0:Nat)) rfl (ys:=[⟨d.proc,⟨x0,x1,x2,x3,x4,x5⟩⟩]) (zau zqaI _ ⟨d.proc,⟨x0,x1,x2,x3,x4,x5⟩⟩ _ rfl _ _ (by simp [zn])) rfl (by simp only [List.length_singleton];omega) (by simp only [List.length_singleton];unfold maxLen;omega) (by simp [zn];try omega) ?_
   intro v4 w4 hown4 hgr4 _
   refine hK _ _ ?_
   clear hK K
   have hb4:Below (w.alloc (.cells #[.int .i64 d.id,.int .i64 d.age,.int .i64 d.proc,.int .i64 d.began,.slice (some ⟨b,off,none⟩) d.calls.length cap,.slice a1 d.answers.length c1,.slice a2 d.touch.reads.length c2,.slice a3 d.touch.writes.length c3,.slice a4 d.marks.length c4,.int .i64 d.state] 43)).heap.size (w.alloc (.cells #[.int .i64 d.id,.int .i64 d.age,.int .i64 d.proc,.int .i64 d.began,.slice (some ⟨b,off,none⟩) d.calls.length cap,.slice a1 d.answers.length c1,.slice a2 d.touch.reads.length c2,.slice a3 d.touch.writes.length c3,.slice a4 d.marks.length c4,.int .i64 d.state] 43)) w4:=Below.appL (a:=w.alloc (.cells #[.int .i64 d.id,.int .i64 d.age,.int .i64 d.proc,.int .i64 d.began,.slice (some ⟨b,off,none⟩) d.calls.length cap,.slice a1 d.answers.length c1,.slice a2 d.touch.reads.length c2,.slice a3 d.touch.writes.length c3,.slice a4 d.marks.length c4,.int .i64 d.state] 43)) (R:=zqaI) (e:=118) (v:=.slice oa xs.length oc) (xs:=xs) (by repeat (first|with_reducible exact Below.refl _ _|with_reducible apply Below.ofExt|with_reducible apply Below.ofAlloc)) hgr4 (by (skip);(repeat (first|with_reducible exact OwnR.same HO.out|with_reducible apply OwnL.alloc));all_goals exact (0:Nat))
   repeat (refine zw rfl rfl (fun K hK=>?_);go_simp;refine hK _ _ ?_;clear hK K)
   refine zaf ?_
   go_wp2
   go_roundw
   case rel=>exact ⟨n+1,_,by go_num,by omega,hb4,hown4,HST.out.symm,by have:=HXL.out;simp;omega⟩
   case measure=>simp [intOf];omega
  case neg =>
   have e:n=d.calls.length:=by omega
   have hx:=HXS.out
   rw [e,List.take_length] at hx
   have HF:Hid (xs=zqa d):=hx
   clear hx
   go_wp2
   go_ret
   obtain ⟨fp,h1,h2,h3⟩:=zqG (R:=zqaI) (row:=StepD.row) (k:=7) rfl rfl (ok:=StepD.ok) (hk:=fun _=>rfl) (h1:=zqP) (HO.out.base (B':=w.heap.size) (by simp)) (fun x hx=>by
    rw [HF.out] at hx
    obtain ⟨c,hc,rfl⟩:=List.mem_map.1 hx
    exact HOK.out c hc)
   rw [HF.out] at h1
   exact ⟨_,fp,by rw [<- HF.out];rfl,⟨h1,h2,h3⟩,(by repeat (first|with_reducible exact Below.refl _ _|with_reducible apply Below.ofExt|with_reducible apply Below.ofAlloc))⟩
theorem zqat (cs:List Value) (d:TxD) (w:World) (hs:vTx.rd w cs d) (hlen:d.calls.length<=1048576) :
  Calls Tryz.prog 55 #[.agg cs.toArray] w (Made (vSlice vStep 118) w (zqa d)):=by
 obtain ⟨s0,s1,s2,s3,s4,rfl,h0,h1,h2,h3,h4⟩:=hs
 obtain ⟨a0,cap,rfl,hc1,hc2,hnil,hcell⟩:=vSlice.shape h0
 obtain ⟨a1,c1,rfl⟩:=vSlice.form h1
 obtain ⟨a2,c2,rfl⟩:=vSlice.form h2
 obtain ⟨a3,c3,rfl⟩:=vSlice.form h3
 obtain ⟨a4,c4,rfl⟩:=vSlice.form h4
 have HX:=Hd hcell
 have HOK:Hid (∀ c ∈ d.calls,c.ok):=fun c hc=>by
  obtain ⟨i,hi,rfl⟩:=List.getElem_of_mem hc
  obtain ⟨_,_,_,_,_,h,_⟩:=hcell i hi
  exact h.2
 clear hcell hnil h0 h1 h2 h3 h4
 unfold maxLen at hc2
 go_enter Tryz.func55,Tryz.ntmps55
 go_wp2
 go_loopw [3,9] (fun o k wr=>∃ (n:Nat) (xs:List StepD),k=.int .i64 n/\n<=d.calls.length/\Below (w.alloc (.cells #[.int .i64 d.id,.int .i64 d.age,.int .i64 d.proc,.int .i64 d.began,.slice a0 d.calls.length cap,.slice a1 d.answers.length c1,.slice a2 d.touch.reads.length c2,.slice a3 d.touch.writes.length c3,.slice a4 d.marks.length c4,.int .i64 d.state] 43)).heap.size (w.alloc (.cells #[.int .i64 d.id,.int .i64 d.age,.int .i64 d.proc,.int .i64 d.began,.slice a0 d.calls.length cap,.slice a1 d.answers.length c1,.slice a2 d.touch.reads.length c2,.slice a3 d.touch.writes.length c3,.slice a4 d.marks.length c4,.int .i64 d.state] 43)) wr/\OwnL zqaI 118 wr (w.alloc (.cells #[.int .i64 d.id,.int .i64 d.age,.int .i64 d.proc,.int .i64 d.began,.slice a0 d.calls.length cap,.slice a1 d.answers.length c1,.slice a2 d.touch.reads.length c2,.slice a3 d.touch.writes.length c3,.slice a4 d.marks.length c4,.int .i64 d.state] 43)).heap.size o xs/\xs=(d.calls.take n).map (StepD.mk d.proc)/\xs.length=n) (fun _ k _=>d.calls.length - (intOf k).toNat)
 case atStart=>exact ⟨0,[],rfl,by omega,(by repeat (with_reducible exact Below.refl _ _)),OwnL.nil zqaI _ _ _,rfl,by simp⟩
 case round =>
  obtain ⟨n,xs,rfl,hn,hbel,ho,hxs,hxl⟩:=hrel
  obtain ⟨X,rfl⟩:=hbel.ext
  obtain ⟨oa,oc,rfl⟩:=ho.rd.form
  have HO:=Hd ho
  have HXS:=Hd hxs
  have hxl2:xs.length<=n:=by omega
  have HXL:=Hd hxl
  clear ho hxs hxl
  by_cases hlt:(n:Int)<d.calls.length
  case pos =>
   have hk:n<d.calls.length:=by omega
   obtain ⟨b,off,csx,rfl,hblx,hrdx,hcellx⟩:=HX.out n hk
   have hst:(d.calls.take (n+1)).map (StepD.mk d.proc)=(d.calls.take n).map (StepD.mk d.proc) ++ [StepD.mk d.proc d.calls[n]]:=by
    rw [List.take_succ_eq_append_getElem hk,List.map_append]
    rfl
   generalize d.calls[n]=c at hrdx hst
   rw [<- HXS.out] at hst
   have HST:=Hd hst
   clear hst
   obtain ⟨rfl,_⟩:=hrdx
   obtain ⟨x0,x1,x2,x3,x4,x5⟩:=c
   have y0:=hcellx 0 _ rfl
   have y1:=hcellx 1 _ rfl
   have y2:=hcellx 2 _ rfl
   have y3:=hcellx 3 _ rfl
   have y4:=hcellx 4 _ rfl
   have y5:=hcellx 5 _ rfl
   clear hcellx
   simp only [show vCall.k=6 from rfl,Nat.add_zero] at y0 y1 y2 y3 y4 y5
   have q1:b<w.heap.size+1:=by omega
   go_wp2_with (at_builtin;refine zA ?_)
   refine zI rfl _ _ _ rfl (R:=zqaI) (e:=118) Tryz.elemStepA (B:=(w.alloc (.cells #[.int .i64 d.id,.int .i64 d.age,.int .i64 d.proc,.int .i64 d.began,.slice (some ⟨b,off,none⟩) d.calls.length cap,.slice a1 d.answers.length c1,.slice a2 d.touch.reads.length c2,.slice a3 d.touch.writes.length c3,.slice a4 d.marks.length c4,.int .i64 d.state] 43)).heap.size) (v:=.slice oa xs.length oc) (xs:=xs) (by (skip);(repeat (first|with_reducible exact HO.out|with_reducible apply OwnL.alloc));all_goals exact (0:Nat)) rfl (ys:=[⟨d.proc,⟨x0,x1,x2,x3,x4,x5⟩⟩]) (zau zqaI _ ⟨d.proc,⟨x0,x1,x2,x3,x4,x5⟩⟩ _ rfl _ _ (by simp [zn])) rfl (by simp only [List.length_singleton];omega) (by simp only [List.length_singleton];unfold maxLen;omega) (by simp [zn];try omega) ?_
   intro v4 w4 hown4 hgr4 _
   have hb4:Below (w.alloc (.cells #[.int .i64 d.id,.int .i64 d.age,.int .i64 d.proc,.int .i64 d.began,.slice (some ⟨b,off,none⟩) d.calls.length cap,.slice a1 d.answers.length c1,.slice a2 d.touch.reads.length c2,.slice a3 d.touch.writes.length c3,.slice a4 d.marks.length c4,.int .i64 d.state] 43)).heap.size (w.alloc (.cells #[.int .i64 d.id,.int .i64 d.age,.int .i64 d.proc,.int .i64 d.began,.slice (some ⟨b,off,none⟩) d.calls.length cap,.slice a1 d.answers.length c1,.slice a2 d.touch.reads.length c2,.slice a3 d.touch.writes.length c3,.slice a4 d.marks.length c4,.int .i64 d.state] 43)) w4:=Below.appL (a:=w.alloc (.cells #[.int .i64 d.id,.int .i64 d.age,.int .i64 d.proc,.int .i64 d.began,.slice (some ⟨b,off,none⟩) d.calls.length cap,.slice a1 d.answers.length c1,.slice a2 d.touch.reads.length c2,.slice a3 d.touch.writes.length c3,.slice a4 d.marks.length c4,.int .i64 d.state] 43)) (R:=zqaI) (e:=118) (v:=.slice oa xs.length oc) (xs:=xs) (by repeat (first|with_reducible exact Below.refl _ _|with_reducible apply Below.ofExt|with_reducible apply Below.ofAlloc)) hgr4 (by (skip);(repeat (first|with_reducible exact HO.out|with_reducible apply OwnL.alloc));all_goals exact (0:Nat))
   go_wp2
   go_roundw
   case rel=>exact ⟨n+1,_,by go_num,by omega,hb4,hown4,HST.out.symm,by have:=HXL.out;simp;omega⟩
   case measure=>simp [intOf];omega
  case neg =>
   have e:n=d.calls.length:=by omega
   have hx:=HXS.out
   rw [e,List.take_length] at hx
   have HF:Hid (xs=zqa d):=hx
   clear hx
   go_wp2
   go_ret
   obtain ⟨fp,h1,h2,h3⟩:=zqG (R:=zqaI) (row:=StepD.row) (k:=7) rfl rfl (ok:=StepD.ok) (hk:=fun _=>rfl) (h1:=zqP) (HO.out.base (B':=w.heap.size) (by simp)) (fun x hx=>by
    rw [HF.out] at hx
    obtain ⟨c,hc,rfl⟩:=List.mem_map.1 hx
    exact HOK.out c hc)
   rw [HF.out] at h1
   exact ⟨_,fp,by rw [<- HF.out];rfl,⟨h1,h2,h3⟩,(by repeat (first|with_reducible exact Below.refl _ _|with_reducible apply Below.ofExt|with_reducible apply Below.ofAlloc))⟩
def zqh (zs:List CellD) (d:TxD):List CellD:=((K.runAll (zqa d)).run ⟨zs,[],[]⟩).2.cells
theorem zqi (d:TxD):(zqa d).length=d.calls.length:=by unfold zqa;rw [List.length_map]
theorem zqax (v:Value) (ct:List Value) (zs:List CellD) (d:TxD) (w:World) (h:RdL zu w v zs) (ht:vTx.rd w ct d) (hf:∀ s ∈ zqa d,s.fine) (hl:zs.length<=1048576) (hl2:d.calls.length<=1048576) (hfit:zfM (zqa d) ⟨zs,[],[]⟩) :
  Calls Tryz.prog 25 #[v,.agg ct.toArray] w fun e w'=>∃ v',e=.returned v'/\RdL zu w' v' (zqh zs d)/\Below w.heap.size w w':=by
 have D1:=Hd (fun w' (hb:Below w.heap.size w w')=>zqaj ct d w' (View.grow _ ht (Grew.below hb)) hl2)
 have D2:=Hd (fun w' vs (hb:Below w.heap.size w w') hs=>spec_l15Run v vs zs (zqa d) w' (h.below hb) hs hf hl (by rw [zqi];exact hl2) hfit)
 obtain ⟨res,mres,hr⟩ : ∃ res mres,(K.runAll (zqa d)).run ⟨zs,[],[]⟩=(res,mres):=⟨_,_,rfl⟩
 unfold zqh
 rw [hr] at D2 ⊢
 dsimp only at D2 ⊢
 obtain ⟨a0,c0,a1,c1,a2,c2,a3,c3,a4,c4,rfl⟩:=zqk ht
 obtain ⟨az,cz,rfl⟩:=h.form
 clear hr h ht hf hfit
 go_enter Tryz.func25,Tryz.ntmps25
 (repeat (first|go_skip|go_guarded|go_step|go_upon|go_back))
 (go_at_call 49;refine (D1.out _ (by repeat (first|with_reducible exact Below.refl _ _|with_reducible apply Below.ofAlloc))).mono ?_;rintro e w1 ⟨vs,fp,rfl,ho,hb⟩)
 obtain ⟨xs1,ys1,rfl⟩:=vSlice.form (View.toRd _ ho.own)
 have HO:=Hd (rdl_of_own (R:=zjt) rfl ho.own)
 have HB:Hid (Below w.heap.size w w1):=Below.then (by repeat (first|with_reducible exact Below.refl _ _|with_reducible apply Below.ofAlloc)) hb
 clear ho hb
 ((try simp only []);repeat (first|go_skip|go_guarded|go_step|go_upon|go_back))
 (go_at_call 48;refine (D2.out _ _ HB.out HO.out).mono ?_;rintro e w2 ⟨v0,v1,v2,v3,rfl,h0,h1,h2,h3,hb⟩)
 obtain ⟨b0,d0,rfl⟩:=h0.form
 obtain ⟨b1,d1,rfl⟩:=h1.form
 obtain ⟨b2,d2,rfl⟩:=h2.form
 obtain ⟨b3,d3,rfl⟩:=h3.form
 have H0:=Hd h0
 have HB2:=Hd (Below.then HB.out hb)
 clear h0 h1 h2 h3 hb D1 D2
 ((try simp only []);repeat (first|go_skip|go_guarded|go_step|go_upon|go_back))
 refine bodyPost_ret (by simp [results,Tryz.results25,go_sem];rfl) rfl ?_
 first
 | exact ⟨_,rfl,H0.out,HB2.out⟩
 | exact ⟨_,rfl,H0.out.alloc _,HB2.out.ofAlloc _⟩
 | exact ⟨_,rfl,(H0.out.alloc _).alloc _,(HB2.out.ofAlloc _).ofAlloc _⟩
theorem zqaF (v:Value) (ct:List Value) (zs:List CellD) (d:TxD) (w:World) (hg:Glob w) (h:RdL zu w v zs) (ht:vTx.rd w ct d) (hf:∀ s ∈ zqa d,s.fine) (hl:zs.length<=1048576) (hl2:d.calls.length<=1048576) (hfit:(K.runAll (zqa d)).fits ⟨zs,[],[]⟩) :
  Calls Tryz.prog 32 #[v,.agg ct.toArray] w fun e w'=>∃ v',e=.returned v'/\OwnL zu 66 w' w.heap.size v' (zqh zs d)/\Below w.heap.size w w':=by
 have D1:=Hd (fun w' (hb:Below w.heap.size w w')=>zqat ct d w' (View.grow _ ht (Grew.below hb)) hl2)
 have D2:=Hd (fun w' vs (hb:Below w.heap.size w w') hs=>zqW v vs zs (zqa d) w' (hg.below hb) (h.below hb) hs hf hl (by rw [zqi];exact hl2) hfit)
 obtain ⟨res,mres,hr⟩ : ∃ res mres,(K.runAll (zqa d)).run ⟨zs,[],[]⟩=(res,mres):=⟨_,_,rfl⟩
 unfold zqh
 rw [hr] at D2 ⊢
 dsimp only at D2 ⊢
 obtain ⟨a0,c0,a1,c1,a2,c2,a3,c3,a4,c4,rfl⟩:=zqk ht
 obtain ⟨az,cz,rfl⟩:=h.form
 clear hr h ht hf hfit
 go_enter Tryz.func32,Tryz.ntmps32
 (repeat (first|go_skip|go_guarded|go_step|go_upon|go_back))
 (go_at_call 55;refine (D1.out _ (by repeat (first|with_reducible exact Below.refl _ _|with_reducible apply Below.ofAlloc))).mono ?_;rintro e w1 ⟨vs,fp,rfl,ho,hb⟩)
 obtain ⟨xs1,ys1,rfl⟩:=vSlice.form (View.toRd _ ho.own)
 have HO:=Hd (rdl_of_own (R:=zjt) rfl ho.own)
 have HB:Hid (Below w.heap.size w w1):=Below.then (by repeat (first|with_reducible exact Below.refl _ _|with_reducible apply Below.ofAlloc)) hb
 clear ho hb
 ((try simp only []);repeat (first|go_skip|go_guarded|go_step|go_upon|go_back))
 (go_at_call 54;refine (D2.out _ _ HB.out HO.out).mono ?_;rintro e w2 ⟨v0,v1,rfl,h0,h1,hb⟩)
 obtain ⟨b0,d0,rfl⟩:=h0.rd.form
 obtain ⟨b1,d1,rfl⟩:=h1.rd.form
 have H0:=Hd (h0.base HB.out.size)
 have HB2:=Hd (Below.then HB.out hb)
 clear h0 h1 hb D1 D2
 ((try simp only []);repeat (first|go_skip|go_guarded|go_step|go_upon|go_back))
 refine bodyPost_ret (by simp [results,Tryz.results32,go_sem];rfl) rfl ?_
 exact ⟨_,rfl,H0.out,HB2.out⟩
theorem Zc2 {w:World} {p:Nat} {a0 a1:Value} {t:TypeId} (h:w.heap[p]?=some (.cells #[a0,a1] t (0,0))):w.cell? ⟨p,0,none⟩=some a0 ∧ w.cell? ⟨p,1,none⟩=some a1 :=
 ⟨(zd (i:=0) h).trans rfl,(zd (i:=1) h).trans rfl⟩
theorem Zc6 {w:World} {p:Nat} {a0 a1 a2 a3 a4 a5:Value} {t:TypeId} (h:w.heap[p]?=some (.cells #[a0,a1,a2,a3,a4,a5] t (0,0))):w.cell? ⟨p,0,none⟩=some a0 ∧ w.cell? ⟨p,1,none⟩=some a1 ∧ w.cell? ⟨p,2,none⟩=some a2 ∧ w.cell? ⟨p,3,none⟩=some a3 ∧ w.cell? ⟨p,4,none⟩=some a4 ∧ w.cell? ⟨p,5,none⟩=some a5 :=
 ⟨(zd (i:=0) h).trans rfl,(zd (i:=1) h).trans rfl,(zd (i:=2) h).trans rfl,(zd (i:=3) h).trans rfl,(zd (i:=4) h).trans rfl,(zd (i:=5) h).trans rfl⟩
theorem Zc10 {w:World} {p:Nat} {a0 a1 a2 a3 a4 a5 a6 a7 a8 a9:Value} {t:TypeId} (h:w.heap[p]?=some (.cells #[a0,a1,a2,a3,a4,a5,a6,a7,a8,a9] t (0,0))):w.cell? ⟨p,0,none⟩=some a0 ∧ w.cell? ⟨p,1,none⟩=some a1 ∧ w.cell? ⟨p,2,none⟩=some a2 ∧ w.cell? ⟨p,3,none⟩=some a3 ∧ w.cell? ⟨p,4,none⟩=some a4 ∧ w.cell? ⟨p,5,none⟩=some a5 ∧ w.cell? ⟨p,6,none⟩=some a6 ∧ w.cell? ⟨p,7,none⟩=some a7 ∧ w.cell? ⟨p,8,none⟩=some a8 ∧ w.cell? ⟨p,9,none⟩=some a9 :=
 ⟨(zd (i:=0) h).trans rfl,(zd (i:=1) h).trans rfl,(zd (i:=2) h).trans rfl,(zd (i:=3) h).trans rfl,(zd (i:=4) h).trans rfl,(zd (i:=5) h).trans rfl,(zd (i:=6) h).trans rfl,(zd (i:=7) h).trans rfl,(zd (i:=8) h).trans rfl,(zd (i:=9) h).trans rfl⟩
theorem Zgr {w w':World} {p:Nat} {o:Obj} (hb:Below w.heap.size w w') (h:Hid (w.heap[p]?=some o)):Hid (w'.heap[p]?=some o):=Lib.hid ((Grew.below hb _ (za h.out)).trans h.out)
theorem rup_rd {rd wr:List ByteArray} (hr:∀ s ∈ rd,s.size ≠ 0) (hw:∀ s ∈ wr,s.size ≠ 0):RUp (fun W c d=>RdL zx W c rd/\RdL zx W d wr) :=
 ⟨fun h=>⟨(by obtain ⟨a,n,e⟩:=h.1.form;exact ⟨_,_,_,e⟩),(by obtain ⟨a,n,e⟩:=h.2.form;exact ⟨_,_,_,e⟩)⟩,fun h hb=>⟨h.1.below hb,h.2.below hb⟩,fun h hB o=>⟨zbk hr h.1 hB o,zbk hw h.2 hB o⟩,fun h hB o=>⟨zaV (zb _) h.1 hB zbW o,zaV (zb _) h.2 hB zbW o⟩⟩
theorem zqaU {w:World} {B b:Nat} {v:Value} {xs:List ByteArray} {cs:Array Value} {t:TypeId} (h:OwnL zx 9 w B v xs) (hb:w.heap[b]?=some (.cells cs t (0,0))) (ht:t ≠ 9):v.ownBlock ≠ some b:=by
 rcases h.2 with ⟨rfl,h0⟩|⟨g,cap,cur,rfl,hg,hh,hn,hm,hsz,hk⟩
 ·intro e;cases e
 ·intro e
  have e':g=b:=by simpa [Value.ownBlock] using e
  subst e'
  rw [hh] at hb
  injection hb with hb
  injection hb with _ h2
  exact ht h2.symm
theorem zqaM {B:Nat} {rd wr:List ByteArray}:RUp (fun W c d=>OwnL zx 9 W B c rd/\OwnL zx 9 W B d wr/\∀ k,c.ownBlock=some k->d.ownBlock ≠ some k) :=
 ⟨fun h=>⟨(by obtain ⟨a,n,e⟩:=h.1.rd.form;exact ⟨_,_,_,e⟩),(by obtain ⟨a,n,e⟩:=h.2.1.rd.form;exact ⟨_,_,_,e⟩)⟩,fun h hb=>⟨zgG h.1 hb,zgG h.2.1 hb,h.2.2⟩,fun h hB o=>⟨h.1.setB (zqaU h.1 hB (by decide)) o,h.2.1.setB (zqaU h.2.1 hB (by decide)) o,h.2.2⟩,fun h hB o=>⟨h.1.setB (zqaU h.1 hB (by decide)) o,h.2.1.setB (zqaU h.2.1 hB (by decide)) o,h.2.2⟩⟩
section
variable {w:World} {v xv:Value} {proc:Int} {c:CallD} {vs:List CellD} {an:AnswerD} {xo co:Obj} {R:World->Value->Value->Prop} {L:Array Bool} {W W':World} {x11 x12 x13 x14 x15 x16 x17 x10 x18 x19 x20 x8 x9 x7:Value}
theorem WI.st14 (h:WI w v xv proc c vs an xo co R L W x11 x12 x13 x14 x15 x16 x17 x10 x18 x19 x20 x8 x9 x7) (k9:L.getD 9 false=true) (k11:L.getD 11 false=true) (k14:L.getD 14 false=false) :
  ∃ b,x8=.pointer (some ⟨b,0,none⟩)/\x19=zbO an/\W.heap[b]?=some (.cells #[.int .i64 0,.int .i64 0,.string ⟨#[]⟩] 62 (0,0))/\WI w v xv proc c vs an xo co R (L.setIfInBounds 14 true) (W.setB b (.cells #[.int .i64 an.code,.int .i64 an.n,.string an.text] 62 (0,0))) x11 x12 x13 x14 x15 x16 x17 x10 x18 x19 x20 x8 x9 x7:=by
 obtain ⟨b,e8,hb,h1|h1⟩:=h.f11 k11
 case inr=>rw [h1.1] at k14;cases k14
 have hB:=h1.2
 have hz:=za hB
 have kk:=fun {j:Nat} (hj : 14 ≠ j) (k:(L.setIfInBounds 14 true).getD j false=true)=>(zi (L:=L) hj) ▸ k
 have N:∀ k,b ≠ k->(W.setB b (.cells #[.int .i64 an.code,.int .i64 an.n,.string an.text] 62 (0,0))).heap[k]?=W.heap[k]?:=fun k hk=>World.setB_get _ _ _ _ (Ne.symm hk)
 refine ⟨b,e8,h.f9 k9,hB,⟨by rw [Array.size_setIfInBounds];exact h.sz,fun _=>by rw [zi (by decide)];exact k11,fun k=>by rw [zi (by decide)];exact h.c15 (kk (by decide) k),h.up,zr h.bel (by omega) _,(N _ (by omega)).trans h.X,(N _ (by omega)).trans h.C,(N _ (by omega)).trans h.P,
  fun k=>h.f0 (kk (by decide) k),fun k=>h.f1 (kk (by decide) k),fun k=>zcX (h.f2 (kk (by decide) k)) hB _,fun k=>h.f3 (kk (by decide) k),fun k=>h.f4 (kk (by decide) k),fun k=>h.f5 (kk (by decide) k),fun k=>?_,fun k=>?_,fun k=>h.f8 (kk (by decide) k),fun k=>h.f9 (kk (by decide) k),fun k=>?_,fun k=>?_,fun k=>?_,fun k=>.inr trivial⟩⟩
 ·obtain ⟨c0,c1,c2,e,hm⟩:=h.f6 (kk (by decide) k)
  exact ⟨c0,c1,c2,e,h.up.ans hm hB _⟩
 ·obtain ⟨c0,c1,c2,e,hm⟩:=h.f7 (kk (by decide) k)
  exact ⟨c0,c1,c2,e,h.up.ans hm hB _⟩
 ·obtain ⟨c,d,e,hm⟩:=h.f10 (kk (by decide) k)
  exact ⟨c,d,e,h.up.ans hm hB _⟩
 ·exact ⟨b,e8,hb,.inr ⟨zbF (by rw [h.sz];decide),zy _ _ _ hz⟩⟩
 ·obtain ⟨b',e,h3,h6⟩:=h.f12 (kk (by decide) k)
  have hne:b ≠ b':=by
   rintro rfl
   rcases h6 with h6|⟨_,c,d,h6,_⟩
   ·have h7:=h6.2;rw [hB] at h7;cases h7
   ·rw [hB] at h6;cases h6
  refine ⟨b',e,h3,?_⟩
  rw [zi (by decide),N b' hne]
  rcases h6 with h6|⟨h7,c,d,h6,h8⟩
  ·exact .inl h6
  ·exact .inr ⟨h7,c,d,h6,h.up.ans h8 hB _⟩
theorem WI.st15 (h:WI w v xv proc c vs an xo co R L W x11 x12 x13 x14 x15 x16 x17 x10 x18 x19 x20 x8 x9 x7) (k10:L.getD 10 false=true) (k12:L.getD 12 false=true) (k15:L.getD 15 false=false) :
  ∃ b u0 u1,x9=.pointer (some ⟨b,0,none⟩)/\x20=.agg #[u0,u1]/\((∃ a n k,u0=.slice a n k)/\∃ a n k,u1=.slice a n k)/\W.heap[b]?=some (.cells #[.slice none 0 0,.slice none 0 0] 36 (0,0))/\WI w v xv proc c vs an xo co R (L.setIfInBounds 15 true) (W.setB b (.cells #[u0,u1] 36 (0,0))) x11 x12 x13 x14 x15 x16 x17 x10 x18 x19 x20 x8 x9 x7:=by
 obtain ⟨b,e9,hb,h1|h1⟩:=h.f12 k12
 case inr=>rw [h1.1] at k15;cases k15
 have hB:=h1.2
 have hz:=za hB
 obtain ⟨u0,u1,e20,q⟩:=h.f10 k10
 have kk:=fun {j:Nat} (hj : 15 ≠ j) (k:(L.setIfInBounds 15 true).getD j false=true)=>(zi (L:=L) hj) ▸ k
 have N:∀ k,b ≠ k->(W.setB b (.cells #[u0,u1] 36 (0,0))).heap[k]?=W.heap[k]?:=fun k hk=>World.setB_get _ _ _ _ (Ne.symm hk)
 refine ⟨b,u0,u1,e9,e20,h.up.shp q,hB,⟨by rw [Array.size_setIfInBounds];exact h.sz,fun k=>by rw [zi (by decide)];exact h.c14 (kk (by decide) k),fun _=>by rw [zi (by decide)];exact k12,h.up,zr h.bel (by omega) _,(N _ (by omega)).trans h.X,(N _ (by omega)).trans h.C,(N _ (by omega)).trans h.P,
  fun k=>h.f0 (kk (by decide) k),fun k=>h.f1 (kk (by decide) k),fun k=>zaV (zh _) (h.f2 (kk (by decide) k)) hB zbW _,fun k=>h.f3 (kk (by decide) k),fun k=>h.f4 (kk (by decide) k),fun k=>h.f5 (kk (by decide) k),fun k=>?_,fun k=>?_,fun k=>h.f8 (kk (by decide) k),fun k=>h.f9 (kk (by decide) k),fun k=>?_,fun k=>?_,fun k=>?_,fun k=>.inr trivial⟩⟩
 ·obtain ⟨c0,c1,c2,e,hm⟩:=h.f6 (kk (by decide) k)
  exact ⟨c0,c1,c2,e,h.up.tch hm hB _⟩
 ·obtain ⟨c0,c1,c2,e,hm⟩:=h.f7 (kk (by decide) k)
  exact ⟨c0,c1,c2,e,h.up.tch hm hB _⟩
 ·obtain ⟨c,d,e,hm⟩:=h.f10 (kk (by decide) k)
  exact ⟨c,d,e,h.up.tch hm hB _⟩
 ·obtain ⟨b',e,h3,h6⟩:=h.f11 (kk (by decide) k)
  have hne:b ≠ b':=by
   rintro rfl
   rcases h6 with h6|h6<;>(have h7:=h6.2;rw [hB] at h7;cases h7)
  refine ⟨b',e,h3,?_⟩
  rw [zi (by decide),N b' hne]
  exact h6
 ·exact ⟨b,e9,hb,.inr ⟨zbF (by rw [h.sz];decide),_,_,zy _ _ _ hz,h.up.tch q hB _⟩⟩
end
theorem zqaG (v:Value) (cs:List CellD) (proc:Int) (hp0 : -9223372036854775808<=proc) (hp1:proc<=9223372036854775807) (c:CallD) (hc:c.ok) (ha0 : -9223372036854775808<=c.a) (ha1:c.a<=9223372036854775807) (hb0 : -9223372036854775808<=c.b) (hb1:c.b<=9223372036854775807) (w:World) (hg:Glob w) (h:RdL zu w v cs) (hl:cs.length<=1099511627776) (hf:(K.doCall proc c).fits ⟨cs,[],[]⟩) :
  Calls Tryz.prog 31 #[v,.int .i64 proc,zbx c] w fun e w'=>∃ v0 v1 v2,e=.returned (.tuple #[v0,zbO ((K.doCall proc c).run ⟨cs,[],[]⟩).1,.agg #[v1,v2]])/\OwnL zx 9 w' w.heap.size v1 ((K.doCall proc c).run ⟨cs,[],[]⟩).2.rd/\OwnL zx 9 w' w.heap.size v2 ((K.doCall proc c).run ⟨cs,[],[]⟩).2.wr/\(∀ k,v1.ownBlock=some k->v2.ownBlock ≠ some k)/\Below w.heap.size w w':=by
 have D:=Hd (fun w' (hB:Below w.heap.size w w')=>impl_MachOf v cs w' (h.below hB) hl)
 have D2:=Hd (fun w0 w1 fp p (H:IM w0 w1 p fp ⟨cs,[],[]⟩)=>impl_do proc hp0 hp1 c hc ha0 ha1 hb0 hb1 w0 w1 fp p ⟨cs,[],[]⟩ H hf)
 obtain ⟨res,m,hr⟩ : ∃ res mres,(K.doCall proc c).run ⟨cs,[],[]⟩=(res,mres):=⟨_,_,rfl⟩
 rw [hr] at D2 ⊢
 obtain ⟨xc,xn,xt⟩:=res
 obtain ⟨az,cz,rfl⟩:=h.form
 have HG:=Hd hg
 obtain ⟨kd,nm,tn,ca,cb,tx⟩:=c
 unfold zbx zbO at *
 dsimp only at D2 ⊢
 clear hr h hf hg
 go_enter Tryz.func31,Tryz.ntmps31
 (repeat (first|go_skip|go_guarded|go_step|go_upon|go_back))
 (go_at_call 52;refine (D.out _ (by repeat (first|with_reducible exact Below.refl _ _|with_reducible apply Below.ofAlloc))).mono ?_;rintro e w1 ⟨ma,mc,rfl,ho,hb⟩)
 have h3:=ziA w (.cells #[.int .i64 kd,.string nm,.string tn,.int .i64 ca,.int .i64 cb,.string tx] 45) (.cells #[.int .i64 0,.int .i64 0,.string ⟨#[]⟩] 62) (.cells #[.slice none 0 0,.slice none 0 0] 36) _ rfl
 have HO:=Hd ho
 have HB:=Hd hb
 have hsz:w.heap.size+3<=w1.heap.size:=by have:=hb.size;simp at this;omega
 have HA0:Hid (Below w.heap.size w (((w.alloc (.cells #[.int .i64 kd,.string nm,.string tn,.int .i64 ca,.int .i64 cb,.string tx] 45)).alloc (.cells #[.int .i64 0,.int .i64 0,.string ⟨#[]⟩] 62)).alloc (.cells #[.slice none 0 0,.slice none 0 0] 36))):=Hd (by repeat (first|with_reducible exact Below.refl _ _|with_reducible apply Below.ofAlloc))
 have q:=(Grew.below hb w.heap.size (by first|(simp;done)|(simp;omega))).trans h3.1
 have y0:w1.cell? ⟨w.heap.size,0,none⟩=some (.int .i64 kd):=(zd (i:=0) q).trans rfl
 have y1:w1.cell? ⟨w.heap.size,1,none⟩=some (.string nm):=(zd (i:=1) q).trans rfl
 have y2:w1.cell? ⟨w.heap.size,2,none⟩=some (.string tn):=(zd (i:=2) q).trans rfl
 have y3:w1.cell? ⟨w.heap.size,3,none⟩=some (.int .i64 ca):=(zd (i:=3) q).trans rfl
 have y4:w1.cell? ⟨w.heap.size,4,none⟩=some (.int .i64 cb):=(zd (i:=4) q).trans rfl
 have y5:w1.cell? ⟨w.heap.size,5,none⟩=some (.string tx):=(zd (i:=5) q).trans rfl
 have hql:=za q
 have H3:=Hd h3
 clear ho hb q h3 D
 ((try simp only []);repeat (first|go_skip|go_guarded|go_step|go_upon|go_back))
 have hM:IM (((w.alloc (.cells #[.int .i64 kd,.string nm,.string tn,.int .i64 ca,.int .i64 cb,.string tx] 45)).alloc (.cells #[.int .i64 0,.int .i64 0,.string ⟨#[]⟩] 62)).alloc (.cells #[.slice none 0 0,.slice none 0 0] 36)) (w1.alloc (.cells #[.slice ma cs.length mc,.slice none 0 0,.slice none 0 0] 84)) w1.heap.size (w1.heap.size :: (Value.slice ma cs.length mc).ownBlock.toList) ⟨cs,[],[]⟩:=by
  refine ⟨⟨ma,mc,none,0,none,0,heap_alloc_new w1 _,HO.out.alloc _,OwnL.nil zx _ _ _,OwnL.nil zx _ _ _,(fun k hk=>by cases hk),(fun k hk=>?_),(fun k hk=>by cases hk),(fun k hk=>by cases hk)⟩,List.mem_cons_self,(fun b hb=>?_),(fun b hb=>?_),HB.out.ofAlloc _,HG.out.below HA0.out⟩
  ·simp only [List.mem_cons,Option.mem_toList];exact .inr hk
  ·simp only [List.mem_cons,Option.mem_toList] at hb
   rcases hb with rfl|hb
   ·exact HB.out.size
   ·exact (HO.out.lt b hb).1
  ·simp only [List.mem_cons,Option.mem_toList] at hb
   rcases hb with rfl|hb
   ·simp
   ·have:=(HO.out.lt b hb).2;simp;omega
 have HM:=Hd hM
 clear hM y0 y1 y2 y3 y4 y5
 (go_at_call 53;refine (D2.out _ _ _ _ HM.out).mono ?_;rintro e w2 ⟨rfl,fp2,hm,ht⟩)
 clear HM HO HB D2 ht
 have HM:=Hd hm
 clear hm
 ((try simp only []);repeat (first|go_skip|go_guarded|go_step|go_upon|go_back))
 generalize hW:w2.alloc (.cells #[.int .i64 xc,.int .i64 xn,.string xt] 62)=W
 have h10:W.heap[w2.heap.size]?=some (.cells #[.int .i64 xc,.int .i64 xn,.string xt] 62):=by rw [<- hW];exact heap_alloc_new w2 _
 have hb2:Below w2.heap.size w2 W:=by rw [<- hW];exact Below.ofAlloc (Below.refl _ _) _
 obtain ⟨⟨a0,c0,a1,c1,a2,c2,h9,o0,o1,o2,hd,_⟩,_,_,_,bel,_⟩:=HM.out.below hb2
 have s3:(((w.alloc (.cells #[.int .i64 kd,.string nm,.string tn,.int .i64 ca,.int .i64 cb,.string tx] 45)).alloc (.cells #[.int .i64 0,.int .i64 0,.string ⟨#[]⟩] 62)).alloc (.cells #[.slice none 0 0,.slice none 0 0] 36)).heap.size=w.heap.size+3:=by simp
 have s2:w1.heap.size<w2.heap.size:=by
  obtain ⟨⟨_,_,_,_,_,_,hp,_⟩,_⟩:=HM.out
  exact za hp
 have hA:=(Grew.below bel (w.heap.size+1) (by first|(simp;done)|(simp;omega))).trans H3.out.2.1
 have hT:=(Grew.below bel (w.heap.size+1+1) (by first|(simp;done)|(simp;omega))).trans H3.out.2.2
 have y1:=za hA
 have y2:=za hT
 have z9:=za h9
 have z10:=za h10
 have hc9:∀ i o r,((W.setB (w.heap.size+1) o).setB (w.heap.size+1+1) r).cell? ⟨w1.heap.size,i,none⟩=(#[.slice a0 m.cells.length c0,.slice a1 m.rd.length c1,.slice a2 m.wr.length c2]:Array Value)[i]?:=fun i o r=>by
  rw [zd (((World.setB_get _ _ _ _ (by omega)).trans ((World.setB_get _ _ _ _ (by omega)).trans h9)))]
 have hc10:∀ i o r,((W.setB (w.heap.size+1) o).setB (w.heap.size+1+1) r).cell? ⟨w2.heap.size,i,none⟩=(#[.int .i64 xc,.int .i64 xn,.string xt]:Array Value)[i]?:=fun i o r=>by
  rw [zd (((World.setB_get _ _ _ _ (by omega)).trans ((World.setB_get _ _ _ _ (by omega)).trans h10)))]
 have p0:=fun o r=>hc9 0 o r
 have p1:=fun o r=>hc9 1 o r
 have p2:=fun o r=>hc9 2 o r
 have r0:=fun o r=>hc10 0 o r
 have r1:=fun o r=>hc10 1 o r
 have r2:=fun o r=>hc10 2 o r
 simp at p0 p1 p2 r0 r1 r2
 have HO1:Hid (∀ o r,OwnL zx 9 ((W.setB (w.heap.size+1) o).setB (w.heap.size+1+1) r) w.heap.size (.slice a1 m.rd.length c1) m.rd):=Hd (fun o r=>((o1.setB (fun hk=>by have:=(o1.lt _ hk).1;omega) o).setB (fun hk=>by have:=(o1.lt _ hk).1;omega) r).base (by omega))
 have HO2:Hid (∀ o r,OwnL zx 9 ((W.setB (w.heap.size+1) o).setB (w.heap.size+1+1) r) w.heap.size (.slice a2 m.wr.length c2) m.wr):=Hd (fun o r=>((o2.setB (fun hk=>by have:=(o2.lt _ hk).1;omega) o).setB (fun hk=>by have:=(o2.lt _ hk).1;omega) r).base (by omega))
 have HD:=Hd hd
 have HBL:=Hd (Below.then HA0.out bel)
 have e1:(W.setB (w.heap.size+1) (.cells #[.int .i64 0,.int .i64 0,.string ⟨#[]⟩] 62 (0,0))).setB (w.heap.size+1+1) (.cells #[.slice none 0 0,.slice none 0 0] 36 (0,0))=W:=by rw [zf hA,zf hT]
 rw [<- e1]
 clear e1 hA hT hc9 hc10 h9 h10 o0 o1 o2 hd bel hb2 hW HM H3 HA0 HG s3
 (repeat (first|go_skip|go_guarded|go_step|go_upon|go_back))
 go_region
 all_goals (repeat (first|go_skip|go_guarded|go_step|go_upon|go_back))
 all_goals (
  refine bodyPost_ret (by simp [results,Tryz.results31,go_sem,y1,y2];rfl) rfl ?_
  exact ⟨_,_,_,rfl,(HO1.out _ _).drew,(HO2.out _ _).drew,HD.out,Below.drew (zr (zr HBL.out (by omega) _) (by omega) _)⟩)
end Go.Proofs.YtodokkpnafabpaaGreatDoor
