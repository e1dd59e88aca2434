/- Texts of this claim, merged: the walks and what they stand on. Each condition stands in its theorem. -/
import Derived.Test.YtgcmnkkakngifaaGreatDoorTR1
set_option linter.unusedVariables false
set_option linter.unusedSimpArgs false
set_option maxRecDepth 100000
set_option maxHeartbeats 8000000
namespace Go.Proofs.YtgcmnkkakngifaaGreatDoor
open Go.ChangeShapes Go.WideShapes Go.ChangeAt Go.RowKit
def vTouch:View TouchD where
 k:=2
 rd w cs d:=∃ (s0 s1:Value),cs = [s0,s1]/\(vSlice vStr 9).rd w [s0] d.reads/\(vSlice vStr 9).rd w [s1] d.writes
 own w fp cs d:=∃ (s0 s1:Value) (f0 f1:List Nat),cs = [s0,s1]/\fp=f0 ++ f1/\(vSlice vStr 9).own w f0 [s0] d.reads/\(vSlice vStr 9).own w f1 [s1] d.writes
 len:=by rintro w cs d ⟨s0,s1,rfl,_⟩;rfl
 one:=by
  rintro w cs d ⟨s0,s1,rfl,h0,h1⟩ u hu
  simp only [List.mem_cons,List.not_mem_nil,or_false] at hu
  rcases hu with rfl|rfl
  ·exact View.one _ h0 _ (by simp)
  ·exact View.one _ h1 _ (by simp)
 grow:=by rintro w w' cs d ⟨s0,s1,rfl,h0,h1⟩ g;exact ⟨s0,s1,rfl,View.grow _ h0 g,View.grow _ h1 g⟩
 toRd:=by rintro w fp cs d ⟨s0,s1,f0,f1,rfl,rfl,h0,h1⟩;exact ⟨s0,s1,rfl,View.toRd _ h0,View.toRd _ h1⟩
 frame:=by
  rintro w w' fp cs d ⟨s0,s1,f0,f1,rfl,rfl,h0,h1⟩ g
  exact ⟨s0,s1,f0,f1,rfl,rfl,View.frame _ h0 fun b hb=>g b (by simp [hb]),View.frame _ h1 fun b hb=>g b (by simp [hb])⟩
 lt:=by
  rintro w fp cs d ⟨s0,s1,f0,f1,rfl,rfl,h0,h1⟩ b hb
  simp only [List.mem_append] at hb
  rcases hb with hb|hb
  ·exact View.lt _ h0 b hb
  ·exact View.lt _ h1 b hb
theorem laws_szTouch (cs:List Value) (d:TouchD) (left:Int) (w:World) (hs:vTouch.rd w cs d) (h0 : 0<=left) (h1:left<=4294967296) :
  Calls Tryz.prog 41 #[.agg cs.toArray,.int .i64 left] w fun e w'=>e = .returned (.int .i64 (zgj left d.wt))/\Below w.heap.size w w':=by
 obtain ⟨s0,s1,rfl,g0,g1⟩:=hs
 have H0:=Lib.hid g0
 have H1:=Lib.hid g1
 clear g0 g1
 obtain ⟨a0,c0,rfl⟩:=vSlice.form H0.out
 obtain ⟨a1,c1,rfl⟩:=vSlice.form H1.out
 unfold TouchD.wt
 have q0e:∃ q:Nat,q=zio d.reads:=⟨_,rfl⟩
 obtain ⟨q0,q0e⟩:=q0e
 have Q0:=Lib.hid q0e
 have q1e:∃ q:Nat,q=zio d.writes:=⟨_,rfl⟩
 obtain ⟨q1,q1e⟩:=q1e
 have Q1:=Lib.hid q1e
 have Qt:zio d.reads + zio d.writes=q0 + q1:=by omega
 rw [Qt]
 clear Qt q0e q1e
 go_enter Tryz.func41,Tryz.ntmps41
 go_wp2_with fail
 (go_at_call 81;refine (laws_szStringS _ d.reads _ _ (by repeat (first|with_reducible exact H0.out|with_reducible apply View.rdAlloc)) (by omega) (by omega)).mono ?_;rintro e w' ⟨rfl,hb⟩;obtain ⟨X,rfl⟩:=hb.ext;clear hb)
 rw [<- Q0.out]
 by_cases g0:(q0:Int)<=left
 case neg =>
  rw [zbD g0]
  go_wp2
  go_ret
  rw [zbD (by omega)]
  exact ⟨rfl,(by repeat (first|with_reducible exact Below.refl _ _|with_reducible apply Below.ofExt|with_reducible apply Below.ofAlloc))⟩
 rw [zek g0]
 have n0:¬ left - (q0:Int) < 0:=by omega
 go_wp2_with fail
 (go_at_call 81;refine (laws_szStringS _ d.writes _ _ (by repeat (first|with_reducible exact H1.out|with_reducible apply View.rdExt|with_reducible apply View.rdAlloc)) (by omega) (by omega)).mono ?_;rintro e w' ⟨rfl,hb⟩;obtain ⟨X,rfl⟩:=hb.ext;clear hb)
 rw [<- Q1.out]
 by_cases g1:(q1:Int)<=left - (q0:Int)
 case neg =>
  rw [zbD g1]
  go_wp2
  go_ret
  rw [zbD (by omega)]
  exact ⟨rfl,(by repeat (first|with_reducible exact Below.refl _ _|with_reducible apply Below.ofExt|with_reducible apply Below.ofAlloc))⟩
 rw [zek g1]
 have n1:¬ left - (q0:Int) - (q1:Int) < 0:=by omega
 go_wp2
 go_ret
 rw [zek (by omega)]
 exact ⟨zgA (by omega),(by repeat (first|with_reducible exact Below.refl _ _|with_reducible apply Below.ofExt|with_reducible apply Below.ofAlloc))⟩
theorem Touch_lens {d:TouchD} {n:Nat} (h:d.wt<=n):d.reads.length<=n/\d.writes.length<=n:=by
 unfold TouchD.wt at h
 simp only [zio,wtS] at h
 omega
theorem laws_toTouch (cs:List Value) (d:TouchD) (w:World) (hs:vTouch.rd w cs d) (hwt:d.wt<=1048576) :
  Calls Tryz.prog 50 #[.agg cs.toArray] w (MadeA vTouch w d):=by
 obtain ⟨s0,s1,rfl,h0,h1⟩:=hs
 have H0:=Lib.hid h0
 have H1:=Lib.hid h1
 clear h0 h1
 obtain ⟨a0,c0,rfl⟩:=vSlice.form H0.out
 obtain ⟨a1,c1,rfl⟩:=vSlice.form H1.out
 have hlen:=Touch_lens hwt
 have HL:=Lib.hid hlen
 have HWT:=Lib.hid hwt
 clear hlen hwt
 go_enter Tryz.func50,Tryz.ntmps50
 go_wp2_with fail
 (go_at_call 84;refine (laws_toStringS _ d.reads _ (by repeat (first|with_reducible exact H0.out|with_reducible apply View.rdAlloc)) HL.out.1).mono ?_;rintro e w' ⟨u0,p0,rfl,hf0,hb⟩;obtain ⟨X0,rfl⟩:=hb.ext;clear hb)
 obtain ⟨b0,g0,rfl⟩:=vSlice.form (View.toRd _ hf0.own)
 have o0:=hf0.own
 (try simp only [zo] at o0)
 have O0:=Lib.hid o0
 clear o0
 have S0:=Lib.hid hf0.sp
 clear hf0
 go_wp2_with fail
 (go_at_call 84;refine (laws_toStringS _ d.writes _ (by repeat (first|with_reducible exact H1.out|with_reducible apply View.rdExt|with_reducible apply View.rdAlloc)) HL.out.2).mono ?_;rintro e w' ⟨u1,p1,rfl,hf1,hb⟩;obtain ⟨X1,rfl⟩:=hb.ext;clear hb)
 obtain ⟨b1,g1,rfl⟩:=vSlice.form (View.toRd _ hf1.own)
 have o1:=hf1.own
 (try simp only [zo] at o1)
 have O1:=Lib.hid o1
 clear o1
 have S1:=Lib.hid hf1.sp
 clear hf1
 go_wp2
 refine bodyPost_ret (by simp [results,Tryz.results50,go_sem];rfl) rfl ?_
 refine ⟨_,_,rfl,⟨⟨_,_,p0,p1,rfl,rfl,?_,?_⟩,?_,?_⟩,(by repeat (first|with_reducible exact Below.refl _ _|with_reducible apply Below.ofExt|with_reducible apply Below.ofAlloc))⟩
 ·exact View.ownTail O0.out (fun k hk=>by have:=S0.out.lo k hk;simp [zm] at this ⊢;omega) (by simp) (by (skip);repeat (first|with_reducible exact Pre.refl _|with_reducible apply Pre.app))
 ·exact View.ownTail O1.out (fun k hk=>by have:=S1.out.lo k hk;simp [zm] at this ⊢;omega) (by simp) (by (skip);repeat (with_reducible exact Pre.refl _))
 ·have:=Sp.append (S0.out) (S1.out) (by simp [zm];try omega) (by simp [zm];try omega) (by simp [zm];try omega)
  exact this.nodup
 ·have:=Sp.append (S0.out) (S1.out) (by simp [zm];try omega) (by simp [zm];try omega) (by simp [zm];try omega)
  intro b hb
  have h2:=this.lo b (by simpa using hb)
  simp [zm] at h2
  omega
theorem laws_eqTouch (cs cs':List Value) (d:TouchD) (w:World) (hs:vTouch.rd w cs d) (hs':vTouch.rd w cs' d) :
  Calls Tryz.prog 28 #[.agg cs.toArray,.agg cs'.toArray] w fun e w'=>e = .returned (.bool true)/\Below w.heap.size w w':=by
 obtain ⟨s0,s1,rfl,h0,h1⟩:=hs
 obtain ⟨t0,t1,rfl,k0,k1⟩:=hs'
 have H0:=Lib.hid h0
 have H1:=Lib.hid h1
 clear h0 h1
 obtain ⟨a0,c0,rfl⟩:=vSlice.form H0.out
 obtain ⟨a1,c1,rfl⟩:=vSlice.form H1.out
 have K0:=Lib.hid k0
 have K1:=Lib.hid k1
 clear k0 k1
 obtain ⟨b0,g0,rfl⟩:=vSlice.form K0.out
 obtain ⟨b1,g1,rfl⟩:=vSlice.form K1.out
 go_enter Tryz.func28,Tryz.ntmps28
 go_wp2_with fail
 (go_at_call 70;refine (laws_eqStringS _ _ d.reads _ (by repeat (first|with_reducible exact H0.out|with_reducible apply View.rdAlloc)) (by repeat (first|with_reducible exact K0.out|with_reducible apply View.rdAlloc))).mono ?_;rintro e w' ⟨rfl,hb⟩;obtain ⟨X,rfl⟩:=hb.ext;clear hb)
 go_wp2_with fail
 (go_at_call 70;refine (laws_eqStringS _ _ d.writes _ (by repeat (first|with_reducible exact H1.out|with_reducible apply View.rdExt|with_reducible apply View.rdAlloc)) (by repeat (first|with_reducible exact K1.out|with_reducible apply View.rdExt|with_reducible apply View.rdAlloc))).mono ?_;rintro e w' ⟨rfl,hb⟩;obtain ⟨X,rfl⟩:=hb.ext;clear hb)
 go_wp2
 go_ret
 exact ⟨rfl,(by repeat (first|with_reducible exact Below.refl _ _|with_reducible apply Below.ofExt|with_reducible apply Below.ofAlloc))⟩
theorem vInt_shape {v:Value} {xs:List Int} {w:World} {e:TypeId} (h:(vSlice vInt e).rd w [v] xs):∃ ao cap,v = .slice ao xs.length cap/\xs.length<=cap/\cap<=maxLen/\(ao=none->cap=0/\xs = []) /\
  (xs ≠ []->∃ b off,ao=some ⟨b,off,none⟩/\b < w.heap.size/\∀ (i:Nat) (hi:i < xs.length),w.cell? ⟨b,off + i,none⟩ = some (Value.int .i64 xs[i]))/\∀ s ∈ xs,True:=by
 obtain ⟨ao,cap,rfl,h1,h2,h3,h4⟩:=vSlice.shape h
 refine ⟨ao,cap,rfl,h1,h2,fun e=>⟨h3 e,List.eq_nil_of_length_eq_zero (by have:=h3 e;omega)⟩,fun hne=>?_,fun s hs=>?_⟩
 ·have hl : 0 < xs.length:=List.length_pos_iff.2 hne
  obtain ⟨b,off,cs,rfl,hb,_,_⟩:=h4 0 hl
  refine ⟨b,off,rfl,hb,fun i hi=>?_⟩
  obtain ⟨b',off',cs',e,_,hr,hc⟩:=h4 i hi
  simp only [Option.some.injEq,Addr.mk.injEq,and_true] at e
  obtain ⟨rfl,rfl⟩:=e
  obtain ⟨rfl,_⟩:=hr
  have:=hc 0 _ rfl
  simpa [vInt,vRow] using this
 ·obtain ⟨i,hi,rfl⟩:=List.getElem_of_mem hs
  obtain ⟨_,_,_,_,_,hr,_⟩:=h4 i hi
  exact hr.2
theorem Tryz.elemIntS:Elem Tryz.prog 28 3 1 8:=Elem.of (.int .i64 0) Tryz.underlying28 (by kernel_rfl) rfl (by decide)
theorem laws_szIntS (v:Value) (xs:List Int) (left:Int) (w:World) {e:TypeId} (hs:(vSlice vInt e).rd w [v] xs) (h0 : 0<=left) (h1:left<=4294967296) :
  Calls Tryz.prog 42 #[v,.int .i64 left] w fun e w'=>e = .returned (.int .i64 (zgj left xs.length))/\Below w.heap.size w w':=by
 obtain ⟨ao,cap,rfl,hc1,hc2,hnil,hcell,hz⟩:=vInt_shape hs
 clear hcell hs hnil hz
 unfold maxLen at hc2
 have hsub:wrap64 (left - xs.length)=left - xs.length:=IntWalk.wrap64_in _ (by omega)
 by_cases hl:left - xs.length < 0
 ·rw [zbD (by omega)]
  go_enter Tryz.func42,Tryz.ntmps42
  go_wp2
  go_ret
  exact ⟨rfl,(by repeat (with_reducible exact Below.refl _ _))⟩
 ·rw [zek (by omega)]
  go_enter Tryz.func42,Tryz.ntmps42
  go_wp2
  go_ret
  exact ⟨rfl,(by repeat (with_reducible exact Below.refl _ _))⟩
theorem laws_toIntS (v:Value) (xs:List Int) (w:World) {e:TypeId} (hs:(vSlice vInt e).rd w [v] xs) (hl:xs.length<=1048576) :
  Calls Tryz.prog 51 #[v] w (Made (vSlice vInt 3) w xs):=by
 obtain ⟨ao,cap,rfl,hc1,hc2,hnil,hcell,hz⟩:=vInt_shape hs
 have HX:=Lib.hid hcell
 have HOK:=Lib.hid hz
 clear hcell hs hnil hz
 unfold maxLen at hc2
 obtain ⟨cs0,hsz0,hmk⟩:=Elem.make Tryz.elemIntS xs.length (by omega) (by omega)
 rw [Nat.mul_one] at hsz0
 go_enter Tryz.func51,Tryz.ntmps51
 go_wp2
 go_loopw [4] (fun k wr=>∃ (n:Nat) (cs:Array Value) (X:Ext),k = .int .i64 n/\n<=xs.length/\wr=(w.alloc (.cells cs 3)).ext X/\cs.size=xs.length/\cs.toList.take n=(xs.take n).flatMap (fun n=>[Value.int .i64 n])) (fun k _=>xs.length - (intOf k).toNat)
 case atStart=>exact ⟨0,cs0,⟨#[],_⟩,rfl,by omega,(zbx _ _ rfl).symm,hsz0,by simp⟩
 case round =>
  obtain ⟨n,cs,X,rfl,hn,rfl,hsz,htk⟩:=hrel
  have HT:=Lib.hid htk
  have HSZ:=Lib.hid hsz
  clear htk hmk hsz0 hsz
  by_cases hlt:(n:Int) < xs.length
  ·have hk:n < xs.length:=by omega
   obtain ⟨b,off,rfl,hbl,hcell⟩:=HX.out (by intro e;simp [e] at hk)
   have hcc:=hcell n hk
   have hfs:(xs.take (n + 1)).flatMap (fun n=>[Value.int .i64 n])=(xs.take n).flatMap (fun n=>[Value.int .i64 n]) ++ [Value.int .i64 xs[n]]:=by
    simp only [List.take_succ_eq_append_getElem hk,List.flatMap_append,List.flatMap_cons,List.flatMap_nil,List.append_nil]
   have hl2:n < cs.size:=by rw [HSZ.out];exact hk
   have hcs:cs[n]?=some cs[n]:=Array.getElem?_eq_getElem hl2
   generalize cs[n]=u at hcs
   generalize xs[n]=x at hcc hfs
   have HF:=Lib.hid hfs
   clear hcell hfs
   go_wp2
   go_roundw
   case rel =>
    exact ⟨n + 1,_,X,by go_num,by omega,rfl,by simpa using HSZ.out,by rw [HF.out];exact zjl HT.out hl2⟩
   case measure=>simp [intOf];omega
  ·go_wp2
   go_ret
   have e:n=xs.length:=by omega
   subst e
   have ht:=HT.out
   rw [List.take_length] at ht
   exact ⟨_,_,rfl,vSlice.freshRow rfl (by omega) (by rw [Nat.mul_one];exact HSZ.out) (by rw [Nat.mul_one];exact ht) HOK.out,(by repeat (first|with_reducible exact Below.refl _ _|with_reducible apply Below.ofExt|with_reducible apply Below.ofAlloc))⟩
theorem laws_eqIntS (v v':Value) (xs:List Int) (w:World) {e e':TypeId} (hs:(vSlice vInt e).rd w [v] xs) (hs':(vSlice vInt e').rd w [v'] xs) :
  Calls Tryz.prog 60 #[v,v'] w fun e w'=>e = .returned (.bool true)/\Below w.heap.size w w':=by
 obtain ⟨ao,cap,rfl,hc1,hc2,hnil,hcell,hz⟩:=vInt_shape hs
 obtain ⟨ao',cap',rfl,hc1',hc2',hnil',hcell',hz'⟩:=vInt_shape hs'
 have HX:=Lib.hid hcell
 have HX':=Lib.hid hcell'
 clear hcell hs hnil hcell' hs' hnil' hz hz'
 unfold maxLen at hc2 hc2'
 go_enter Tryz.func60,Tryz.ntmps60
 go_wp2
 go_loopw [5] (fun k wr=>∃ (n:Nat) (X:Ext),k = .int .i64 n/\n<=xs.length/\wr=w.ext X) (fun k _=>xs.length - (intOf k).toNat)
 case atStart=>exact ⟨0,⟨#[],_⟩,rfl,by omega,(zbx _ _ rfl).symm⟩
 case round =>
  obtain ⟨n,X,rfl,hn,rfl⟩:=hrel
  by_cases hlt:(n:Int) < xs.length
  ·have hk:n < xs.length:=by omega
   obtain ⟨b,off,rfl,hbl,hcell⟩:=HX.out (by intro e;simp [e] at hk)
   obtain ⟨b',off',rfl,hbl',hcell'⟩:=HX'.out (by intro e;simp [e] at hk)
   have hcc:=hcell n hk
   have hcc':=hcell' n hk
   generalize xs[n]=s at hcc hcc'
   clear hcell hcell'
   go_wp2
   refine zgv [(0,true),(1,true),(2,true),(3,true),(4,true),(5,true),(6,true),(7,true),(8,true)] 9 (by kernel_rfl) (by kernel_rfl) ?_
   repeat (refine zl rfl (fun K hK=>?_);go_simp;(try simp (disch:=omega) only [IntWalk.i64_in]);refine hK _ ?_;clear hK K)
   refine zae ?_
   go_wp2
   go_roundw
   case rel=>exact ⟨n + 1,_,by go_num,by omega,rfl⟩
   case measure=>simp [intOf];omega
  ·go_wp2
   go_ret
   exact ⟨rfl,(by repeat (first|with_reducible exact Below.refl _ _|with_reducible apply Below.ofExt))⟩
def vTx:View TxD where
 k:=10
 rd w cs d:=∃ (s0 s1 s2 s3 s4:Value),cs = [.int .i64 d.id,.int .i64 d.age,.int .i64 d.proc,.int .i64 d.began,s0,s1,s2,s3,s4,.int .i64 d.state]/\(vSlice vCall 52).rd w [s0] d.calls/\(vSlice vAnswer 98).rd w [s1] d.answers/\(vSlice vStr 9).rd w [s2] d.touch.reads/\(vSlice vStr 9).rd w [s3] d.touch.writes/\(vSlice vInt 3).rd w [s4] d.marks
 own w fp cs d:=∃ (s0 s1 s2 s3 s4:Value) (f0 f1 f2 f3 f4:List Nat),cs = [.int .i64 d.id,.int .i64 d.age,.int .i64 d.proc,.int .i64 d.began,s0,s1,s2,s3,s4,.int .i64 d.state]/\fp=f0 ++ f1 ++ f2 ++ f3 ++ f4/\(vSlice vCall 52).own w f0 [s0] d.calls/\(vSlice vAnswer 98).own w f1 [s1] d.answers/\(vSlice vStr 9).own w f2 [s2] d.touch.reads/\(vSlice vStr 9).own w f3 [s3] d.touch.writes/\(vSlice vInt 3).own w f4 [s4] d.marks
 len:=by rintro w cs d ⟨s0,s1,s2,s3,s4,rfl,_⟩;rfl
 one:=by
  rintro w cs d ⟨s0,s1,s2,s3,s4,rfl,h0,h1,h2,h3,h4⟩ u hu
  simp only [List.mem_cons,List.not_mem_nil,or_false] at hu
  rcases hu with rfl|rfl|rfl|rfl|rfl|rfl|rfl|rfl|rfl|rfl
  ·rfl
  ·rfl
  ·rfl
  ·rfl
  ·exact View.one _ h0 _ (by simp)
  ·exact View.one _ h1 _ (by simp)
  ·exact View.one _ h2 _ (by simp)
  ·exact View.one _ h3 _ (by simp)
  ·exact View.one _ h4 _ (by simp)
  ·rfl
 grow:=by rintro w w' cs d ⟨s0,s1,s2,s3,s4,rfl,h0,h1,h2,h3,h4⟩ g;exact ⟨s0,s1,s2,s3,s4,rfl,View.grow _ h0 g,View.grow _ h1 g,View.grow _ h2 g,View.grow _ h3 g,View.grow _ h4 g⟩
 toRd:=by rintro w fp cs d ⟨s0,s1,s2,s3,s4,f0,f1,f2,f3,f4,rfl,rfl,h0,h1,h2,h3,h4⟩;exact ⟨s0,s1,s2,s3,s4,rfl,View.toRd _ h0,View.toRd _ h1,View.toRd _ h2,View.toRd _ h3,View.toRd _ h4⟩
 frame:=by
  rintro w w' fp cs d ⟨s0,s1,s2,s3,s4,f0,f1,f2,f3,f4,rfl,rfl,h0,h1,h2,h3,h4⟩ g
  exact ⟨s0,s1,s2,s3,s4,f0,f1,f2,f3,f4,rfl,rfl,View.frame _ h0 fun b hb=>g b (by simp [hb]),View.frame _ h1 fun b hb=>g b (by simp [hb]),View.frame _ h2 fun b hb=>g b (by simp [hb]),View.frame _ h3 fun b hb=>g b (by simp [hb]),View.frame _ h4 fun b hb=>g b (by simp [hb])⟩
 lt:=by
  rintro w fp cs d ⟨s0,s1,s2,s3,s4,f0,f1,f2,f3,f4,rfl,rfl,h0,h1,h2,h3,h4⟩ b hb
  simp only [List.mem_append,List.append_assoc] at hb
  rcases hb with hb|hb|hb|hb|hb
  ·exact View.lt _ h0 b hb
  ·exact View.lt _ h1 b hb
  ·exact View.lt _ h2 b hb
  ·exact View.lt _ h3 b hb
  ·exact View.lt _ h4 b hb
theorem vTx_shape {w:World} {cs:List Value} {d:TxD} (h:vTx.rd w cs d):∃ a0 c0 a1 c1 a2 c2 a3 c3 a4 c4,cs = [.int .i64 d.id,.int .i64 d.age,.int .i64 d.proc,.int .i64 d.began,.slice a0 d.calls.length c0,.slice a1 d.answers.length c1,.slice a2 d.touch.reads.length c2,.slice a3 d.touch.writes.length c3,.slice a4 d.marks.length c4,.int .i64 d.state]:=by
 obtain ⟨s0,s1,s2,s3,s4,rfl,h0,h1,h2,h3,h4⟩:=h
 obtain ⟨a0,c0,rfl⟩:=vSlice.form h0;obtain ⟨a1,c1,rfl⟩:=vSlice.form h1;obtain ⟨a2,c2,rfl⟩:=vSlice.form h2;obtain ⟨a3,c3,rfl⟩:=vSlice.form h3;obtain ⟨a4,c4,rfl⟩:=vSlice.form h4
 exact ⟨a0,c0,a1,c1,a2,c2,a3,c3,a4,c4,rfl⟩
theorem laws_szTx (cs:List Value) (d:TxD) (left:Int) (w:World) (hs:vTx.rd w cs d) (h0 : 0<=left) (h1:left<=4294967296) :
  Calls Tryz.prog 10 #[.agg cs.toArray,.int .i64 left] w fun e w'=>e = .returned (.int .i64 (zgj left d.wt))/\Below w.heap.size w w':=by
 obtain ⟨s0,s1,s2,s3,s4,rfl,g0,g1,h2,h3,h4⟩:=hs
 have H0:=Lib.hid g0
 have H1:=Lib.hid g1
 have H2:=Lib.hid h2
 have H3:=Lib.hid h3
 have H4:=Lib.hid h4
 clear g0 g1 h2 h3 h4
 obtain ⟨a0,c0,rfl⟩:=vSlice.form H0.out
 obtain ⟨a1,c1,rfl⟩:=vSlice.form H1.out
 obtain ⟨a2,c2,rfl⟩:=vSlice.form H2.out
 obtain ⟨a3,c3,rfl⟩:=vSlice.form H3.out
 obtain ⟨a4,c4,rfl⟩:=vSlice.form H4.out
 unfold TxD.wt
 have q0e:∃ q:Nat,q=wtS CallD.wt d.calls:=⟨_,rfl⟩
 obtain ⟨q0,q0e⟩:=q0e
 have Q0:=Lib.hid q0e
 have q1e:∃ q:Nat,q=wtS AnswerD.wt d.answers:=⟨_,rfl⟩
 obtain ⟨q1,q1e⟩:=q1e
 have Q1:=Lib.hid q1e
 have q2e:∃ q:Nat,q=TouchD.wt d.touch:=⟨_,rfl⟩
 obtain ⟨q2,q2e⟩:=q2e
 have Q2:=Lib.hid q2e
 have q3e:∃ q:Nat,q=d.marks.length:=⟨_,rfl⟩
 obtain ⟨q3,q3e⟩:=q3e
 have Q3:=Lib.hid q3e
 unfold TouchD.wt at q2e
 have Qt:wtS CallD.wt d.calls + wtS AnswerD.wt d.answers + zio d.touch.reads + zio d.touch.writes + d.marks.length=q0 + q1 + q2 + q3:=by omega
 rw [Qt]
 clear Qt q0e q1e q2e q3e
 go_enter Tryz.func10,Tryz.ntmps10
 go_wp2_with fail
 (go_at_call 39;refine (laws_szCallS _ d.calls _ _ (by repeat (first|with_reducible exact H0.out|with_reducible apply View.rdAlloc)) (by omega) (by omega)).mono ?_;rintro e w' ⟨rfl,hb⟩;obtain ⟨X,rfl⟩:=hb.ext;clear hb)
 rw [<- Q0.out]
 by_cases g0:(q0:Int)<=left
 case neg =>
  rw [zbD g0]
  go_wp2
  go_ret
  rw [zbD (by omega)]
  exact ⟨rfl,(by repeat (first|with_reducible exact Below.refl _ _|with_reducible apply Below.ofExt|with_reducible apply Below.ofAlloc))⟩
 rw [zek g0]
 have n0:¬ left - (q0:Int) < 0:=by omega
 go_wp2_with fail
 (go_at_call 40;refine (laws_szAnswerS _ d.answers _ _ (by repeat (first|with_reducible exact H1.out|with_reducible apply View.rdExt|with_reducible apply View.rdAlloc)) (by omega) (by omega)).mono ?_;rintro e w' ⟨rfl,hb⟩;obtain ⟨X,rfl⟩:=hb.ext;clear hb)
 rw [<- Q1.out]
 by_cases g1:(q1:Int)<=left - (q0:Int)
 case neg =>
  rw [zbD g1]
  go_wp2
  go_ret
  rw [zbD (by omega)]
  exact ⟨rfl,(by repeat (first|with_reducible exact Below.refl _ _|with_reducible apply Below.ofExt|with_reducible apply Below.ofAlloc))⟩
 rw [zek g1]
 have n1:¬ left - (q0:Int) - (q1:Int) < 0:=by omega
 go_wp2_with fail
 (go_at_call 41;refine (laws_szTouch _ d.touch _ _ ⟨_,_,rfl,(by repeat (first|with_reducible exact H2.out|with_reducible apply View.rdExt|with_reducible apply View.rdAlloc)),(by repeat (first|with_reducible exact H3.out|with_reducible apply View.rdExt|with_reducible apply View.rdAlloc))⟩ (by omega) (by omega)).mono ?_;rintro e w' ⟨rfl,hb⟩;obtain ⟨X,rfl⟩:=hb.ext;clear hb)
 rw [<- Q2.out]
 by_cases g2:(q2:Int)<=left - (q0:Int) - (q1:Int)
 case neg =>
  rw [zbD g2]
  go_wp2
  go_ret
  rw [zbD (by omega)]
  exact ⟨rfl,(by repeat (first|with_reducible exact Below.refl _ _|with_reducible apply Below.ofExt|with_reducible apply Below.ofAlloc))⟩
 rw [zek g2]
 have n2:¬ left - (q0:Int) - (q1:Int) - (q2:Int) < 0:=by omega
 go_wp2_with fail
 (go_at_call 42;refine (laws_szIntS _ d.marks _ _ (by repeat (first|with_reducible exact H4.out|with_reducible apply View.rdExt|with_reducible apply View.rdAlloc)) (by omega) (by omega)).mono ?_;rintro e w' ⟨rfl,hb⟩;obtain ⟨X,rfl⟩:=hb.ext;clear hb)
 rw [<- Q3.out]
 by_cases g3:(q3:Int)<=left - (q0:Int) - (q1:Int) - (q2:Int)
 case neg =>
  rw [zbD g3]
  go_wp2
  go_ret
  rw [zbD (by omega)]
  exact ⟨rfl,(by repeat (first|with_reducible exact Below.refl _ _|with_reducible apply Below.ofExt|with_reducible apply Below.ofAlloc))⟩
 rw [zek g3]
 have n3:¬ left - (q0:Int) - (q1:Int) - (q2:Int) - (q3:Int) < 0:=by omega
 go_wp2
 go_ret
 rw [zek (by omega)]
 exact ⟨zgA (by omega),(by repeat (first|with_reducible exact Below.refl _ _|with_reducible apply Below.ofExt|with_reducible apply Below.ofAlloc))⟩
theorem Tx_lens {d:TxD} {n:Nat} (h:d.wt<=n):d.calls.length<=n/\d.answers.length<=n/\d.touch.reads.length<=n/\d.touch.writes.length<=n/\d.marks.length<=n:=by
 unfold TxD.wt at h
 simp only [zio,wtS] at h
 omega
theorem laws_toTx (cs:List Value) (d:TxD) (w:World) (hs:vTx.rd w cs d) (hwt:d.wt<=1048576) :
  Calls Tryz.prog 13 #[.agg cs.toArray] w (MadeA vTx w d):=by
 obtain ⟨s0,s1,s2,s3,s4,rfl,h0,h1,h2,h3,h4⟩:=hs
 have H0:=Lib.hid h0
 have H1:=Lib.hid h1
 have H2:=Lib.hid h2
 have H3:=Lib.hid h3
 have H4:=Lib.hid h4
 clear h0 h1 h2 h3 h4
 obtain ⟨a0,c0,rfl⟩:=vSlice.form H0.out
 obtain ⟨a1,c1,rfl⟩:=vSlice.form H1.out
 obtain ⟨a2,c2,rfl⟩:=vSlice.form H2.out
 obtain ⟨a3,c3,rfl⟩:=vSlice.form H3.out
 obtain ⟨a4,c4,rfl⟩:=vSlice.form H4.out
 have hlen:=Tx_lens hwt
 have HL:=Lib.hid hlen
 have HWT:=Lib.hid hwt
 clear hlen hwt
 go_enter Tryz.func13,Tryz.ntmps13
 go_wp2_with fail
 (go_at_call 48;refine (laws_toCallS _ d.calls _ (by repeat (first|with_reducible exact H0.out|with_reducible apply View.rdAlloc)) HL.out.1).mono ?_;rintro e w' ⟨u0,p0,rfl,hf0,hb⟩;obtain ⟨X0,rfl⟩:=hb.ext;clear hb)
 obtain ⟨b0,g0,rfl⟩:=vSlice.form (View.toRd _ hf0.own)
 have o0:=hf0.own
 (try simp only [zo] at o0)
 have O0:=Lib.hid o0
 clear o0
 have S0:=Lib.hid hf0.sp
 clear hf0
 go_wp2_with fail
 (go_at_call 49;refine (laws_toAnswerS _ d.answers _ (by repeat (first|with_reducible exact H1.out|with_reducible apply View.rdExt|with_reducible apply View.rdAlloc)) HL.out.2.1).mono ?_;rintro e w' ⟨u1,p1,rfl,hf1,hb⟩;obtain ⟨X1,rfl⟩:=hb.ext;clear hb)
 obtain ⟨b1,g1,rfl⟩:=vSlice.form (View.toRd _ hf1.own)
 have o1:=hf1.own
 (try simp only [zo] at o1)
 have O1:=Lib.hid o1
 clear o1
 have S1:=Lib.hid hf1.sp
 clear hf1
 go_wp2_with fail
 (go_at_call 50;refine (laws_toTouch _ d.touch _ ⟨_,_,rfl,(by repeat (first|with_reducible exact H2.out|with_reducible apply View.rdExt|with_reducible apply View.rdAlloc)),(by repeat (first|with_reducible exact H3.out|with_reducible apply View.rdExt|with_reducible apply View.rdAlloc))⟩ (by have:=HWT.out;unfold TxD.wt at this;unfold TouchD.wt;omega)).mono ?_;rintro e w' ⟨cs2,pp2,rfl,hf2,hb⟩;obtain ⟨X2,rfl⟩:=hb.ext;clear hb)
 have SS2:=Lib.hid hf2.sp
 obtain ⟨u2,u3,p2,p3,rfl,rfl,o2,o3⟩:=hf2.own
 clear hf2
 obtain ⟨b2,g2,rfl⟩:=vSlice.form (View.toRd _ o2)
 (try simp only [zo] at o2)
 have O2:=Lib.hid o2
 clear o2
 obtain ⟨b3,g3,rfl⟩:=vSlice.form (View.toRd _ o3)
 (try simp only [zo] at o3)
 have O3:=Lib.hid o3
 clear o3
 go_wp2_with fail
 (go_at_call 51;refine (laws_toIntS _ d.marks _ (by repeat (first|with_reducible exact H4.out|with_reducible apply View.rdExt|with_reducible apply View.rdAlloc)) HL.out.2.2.2.2).mono ?_;rintro e w' ⟨u4,p4,rfl,hf4,hb⟩;obtain ⟨X3,rfl⟩:=hb.ext;clear hb)
 obtain ⟨b4,g4,rfl⟩:=vSlice.form (View.toRd _ hf4.own)
 have o4:=hf4.own
 (try simp only [zo] at o4)
 have O4:=Lib.hid o4
 clear o4
 have S4:=Lib.hid hf4.sp
 clear hf4
 go_wp2
 refine bodyPost_ret (by simp [results,Tryz.results13,go_sem];rfl) rfl ?_
 refine ⟨_,_,rfl,⟨⟨_,_,_,_,_,p0,p1,p2,p3,p4,rfl,rfl,?_,?_,?_,?_,?_⟩,?_,?_⟩,(by repeat (first|with_reducible exact Below.refl _ _|with_reducible apply Below.ofExt|with_reducible apply Below.ofAlloc))⟩
 ·exact View.ownTail O0.out (fun k hk=>by have:=S0.out.lo k hk;simp [zm] at this ⊢;omega) (by simp) (by (try simp only [<- Array.append_assoc]);repeat (first|with_reducible exact Pre.refl _|with_reducible apply Pre.app))
 ·exact View.ownTail O1.out (fun k hk=>by have:=S1.out.lo k hk;simp [zm] at this ⊢;omega) (by simp) (by (try simp only [<- Array.append_assoc]);repeat (first|with_reducible exact Pre.refl _|with_reducible apply Pre.app))
 ·exact View.ownTail O2.out (fun k hk=>by have:=SS2.out.lo k (by simp [hk]);simp [zm] at this ⊢;omega) (by simp) (by (try simp only [<- Array.append_assoc]);repeat (first|with_reducible exact Pre.refl _|with_reducible apply Pre.app))
 ·exact View.ownTail O3.out (fun k hk=>by have:=SS2.out.lo k (by simp [hk]);simp [zm] at this ⊢;omega) (by simp) (by (try simp only [<- Array.append_assoc]);repeat (first|with_reducible exact Pre.refl _|with_reducible apply Pre.app))
 ·exact View.ownTail O4.out (fun k hk=>by have:=S4.out.lo k hk;simp [zm] at this ⊢;omega) (by simp) (by (try simp only [<- Array.append_assoc]);repeat (with_reducible exact Pre.refl _))
 ·have:=Sp.append (Sp.append (Sp.append (S0.out) (S1.out) (by simp [zm];try omega) (by simp [zm];try omega) (by simp [zm];try omega)) (SS2.out) (by simp [zm];try omega) (by simp [zm];try omega) (by simp [zm];try omega)) (S4.out) (by simp [zm];try omega) (by simp [zm];try omega) (by simp [zm];try omega)
  simpa using this.nodup
 ·have:=Sp.append (Sp.append (Sp.append (S0.out) (S1.out) (by simp [zm];try omega) (by simp [zm];try omega) (by simp [zm];try omega)) (SS2.out) (by simp [zm];try omega) (by simp [zm];try omega) (by simp [zm];try omega)) (S4.out) (by simp [zm];try omega) (by simp [zm];try omega) (by simp [zm];try omega)
  intro b hb
  have h2:=this.lo b (by simpa using hb)
  simp [zm] at h2
  omega
theorem laws_eqTx (cs cs':List Value) (d:TxD) (w:World) (hs:vTx.rd w cs d) (hs':vTx.rd w cs' d) :
  Calls Tryz.prog 16 #[.agg cs.toArray,.agg cs'.toArray] w fun e w'=>e = .returned (.bool true)/\Below w.heap.size w w':=by
 obtain ⟨s0,s1,s2,s3,s4,rfl,h0,h1,h2,h3,h4⟩:=hs
 obtain ⟨t0,t1,t2,t3,t4,rfl,k0,k1,k2,k3,k4⟩:=hs'
 have H0:=Lib.hid h0
 have H1:=Lib.hid h1
 have H2:=Lib.hid h2
 have H3:=Lib.hid h3
 have H4:=Lib.hid h4
 clear h0 h1 h2 h3 h4
 obtain ⟨a0,c0,rfl⟩:=vSlice.form H0.out
 obtain ⟨a1,c1,rfl⟩:=vSlice.form H1.out
 obtain ⟨a2,c2,rfl⟩:=vSlice.form H2.out
 obtain ⟨a3,c3,rfl⟩:=vSlice.form H3.out
 obtain ⟨a4,c4,rfl⟩:=vSlice.form H4.out
 have K0:=Lib.hid k0
 have K1:=Lib.hid k1
 have K2:=Lib.hid k2
 have K3:=Lib.hid k3
 have K4:=Lib.hid k4
 clear k0 k1 k2 k3 k4
 obtain ⟨b0,g0,rfl⟩:=vSlice.form K0.out
 obtain ⟨b1,g1,rfl⟩:=vSlice.form K1.out
 obtain ⟨b2,g2,rfl⟩:=vSlice.form K2.out
 obtain ⟨b3,g3,rfl⟩:=vSlice.form K3.out
 obtain ⟨b4,g4,rfl⟩:=vSlice.form K4.out
 go_enter Tryz.func16,Tryz.ntmps16
 go_wp2_with fail
 (go_at_call 58;refine (laws_eqCallS _ _ d.calls _ (by repeat (first|with_reducible exact H0.out|with_reducible apply View.rdAlloc)) (by repeat (first|with_reducible exact K0.out|with_reducible apply View.rdAlloc))).mono ?_;rintro e w' ⟨rfl,hb⟩;obtain ⟨X,rfl⟩:=hb.ext;clear hb)
 go_wp2_with fail
 (go_at_call 59;refine (laws_eqAnswerS _ _ d.answers _ (by repeat (first|with_reducible exact H1.out|with_reducible apply View.rdExt|with_reducible apply View.rdAlloc)) (by repeat (first|with_reducible exact K1.out|with_reducible apply View.rdExt|with_reducible apply View.rdAlloc))).mono ?_;rintro e w' ⟨rfl,hb⟩;obtain ⟨X,rfl⟩:=hb.ext;clear hb)
 go_wp2_with fail
 (go_at_call 28;refine (laws_eqTouch _ _ d.touch _ ⟨_,_,rfl,(by repeat (first|with_reducible exact H2.out|with_reducible apply View.rdExt|with_reducible apply View.rdAlloc)),(by repeat (first|with_reducible exact H3.out|with_reducible apply View.rdExt|with_reducible apply View.rdAlloc))⟩ ⟨_,_,rfl,(by repeat (first|with_reducible exact K2.out|with_reducible apply View.rdExt|with_reducible apply View.rdAlloc)),(by repeat (first|with_reducible exact K3.out|with_reducible apply View.rdExt|with_reducible apply View.rdAlloc))⟩).mono ?_;rintro e w' ⟨rfl,hb⟩;obtain ⟨X,rfl⟩:=hb.ext;clear hb)
 go_wp2_with fail
 (go_at_call 60;refine (laws_eqIntS _ _ d.marks _ (by repeat (first|with_reducible exact H4.out|with_reducible apply View.rdExt|with_reducible apply View.rdAlloc)) (by repeat (first|with_reducible exact K4.out|with_reducible apply View.rdExt|with_reducible apply View.rdAlloc))).mono ?_;rintro e w' ⟨rfl,hb⟩;obtain ⟨X,rfl⟩:=hb.ext;clear hb)
 go_wp2
 go_ret
 exact ⟨rfl,(by repeat (first|with_reducible exact Below.refl _ _|with_reducible apply Below.ofExt|with_reducible apply Below.ofAlloc))⟩
end Go.Proofs.YtgcmnkkakngifaaGreatDoor
