/- Walks. Each condition stands in its theorem. -/
import Derived.Test.YtodokkpnafabpaaGreatDoorTW2
set_option linter.unusedVariables false
set_option linter.unusedSimpArgs false
set_option maxRecDepth 100000
set_option maxHeartbeats 8000000
namespace Go.Proofs.YtodokkpnafabpaaGreatDoor
open Go.ChangeShapes Go.WideShapes Go.ChangeAt Go.RowKit
def zqy:View TouchD where
 k:=2
 rd w cs d:=∃ (s0 s1:Value),cs = [s0,s1]/\(vSlice vStr 9).rd w [s0] d.reads/\(vSlice vStr 9).rd w [s1] d.writes
 own w fp cs d:=∃ (s0 s1:Value) (f0 f1:List Nat),cs = [s0,s1]/\fp=f0++f1/\(vSlice vStr 9).own w f0 [s0] d.reads/\(vSlice vStr 9).own w f1 [s1] d.writes
 len:=by rintro w cs d ⟨s0,s1,rfl,_⟩;rfl
 one:=by
  rintro w cs d ⟨s0,s1,rfl,h0,h1⟩ u hu
  simp only [List.mem_cons,List.not_mem_nil,or_false] at hu
  rcases hu with rfl|rfl
  ·exact View.one _ h0 _ (by simp)
  ·exact View.one _ h1 _ (by simp)
 grow:=by rintro w w' cs d ⟨s0,s1,rfl,h0,h1⟩ g;exact ⟨s0,s1,rfl,View.grow _ h0 g,View.grow _ h1 g⟩
 toRd:=by rintro w fp cs d ⟨s0,s1,f0,f1,rfl,rfl,h0,h1⟩;exact ⟨s0,s1,rfl,View.toRd _ h0,View.toRd _ h1⟩
 frame:=by
  rintro w w' fp cs d ⟨s0,s1,f0,f1,rfl,rfl,h0,h1⟩ g
  exact ⟨s0,s1,f0,f1,rfl,rfl,View.frame _ h0 fun b hb=>g b (by simp [hb]),View.frame _ h1 fun b hb=>g b (by simp [hb])⟩
 lt:=by
  rintro w fp cs d ⟨s0,s1,f0,f1,rfl,rfl,h0,h1⟩ b hb
  simp only [List.mem_append] at hb
  rcases hb with hb|hb
  ·exact View.lt _ h0 b hb
  ·exact View.lt _ h1 b hb
theorem zqaq (cs:List Value) (d:TouchD) (left:Int) (w:World) (hs:zqy.rd w cs d) (h0 : 0<=left) (h1:left<=4294967296) :
  Calls Tryz.prog 22 #[.agg cs.toArray,.int .i64 left] w fun e w'=>e=.returned (.int .i64 (zgk left d.wt))/\Below w.heap.size w w':=by
 obtain ⟨s0,s1,rfl,g0,g1⟩:=hs
 have H0:=Hd g0
 have H1:=Hd g1
 clear g0 g1
 obtain ⟨a0,c0,rfl⟩:=vSlice.form H0.out
 obtain ⟨a1,c1,rfl⟩:=vSlice.form H1.out
 unfold TouchD.wt
 have q0e:∃ q:Nat,q=zip d.reads:=⟨_,rfl⟩
 obtain ⟨q0,q0e⟩:=q0e
 have Q0:=Hd q0e
 have q1e:∃ q:Nat,q=zip d.writes:=⟨_,rfl⟩
 obtain ⟨q1,q1e⟩:=q1e
 have Q1:=Hd q1e
 have Qt:zip d.reads+zip d.writes=q0+q1:=by omega
 rw [Qt]
 clear Qt q0e q1e
 go_enter Tryz.func22,Tryz.ntmps22
 go_wp2_with fail
 (go_at_call 45;refine (zqw _ d.reads _ _ (by repeat (first|with_reducible exact H0.out|with_reducible apply View.rdAlloc)) (by omega) (by omega)).mono ?_;rintro e w' ⟨rfl,hb⟩;obtain ⟨X,rfl⟩:=hb.ext;clear hb)
 rw [<- Q0.out]
 by_cases g0:(q0:Int)<=left
 case neg =>
  rw [zbG g0]
  go_wp2
  go_ret
  rw [zbG (by omega)]
  exact ⟨rfl,(by repeat (first|with_reducible exact Below.refl _ _|with_reducible apply Below.ofExt|with_reducible apply Below.ofAlloc))⟩
 rw [zel g0]
 have n0:¬ left - (q0:Int)<0:=by omega
 go_wp2_with fail
 (go_at_call 45;refine (zqw _ d.writes _ _ (by repeat (first|with_reducible exact H1.out|with_reducible apply View.rdExt|with_reducible apply View.rdAlloc)) (by omega) (by omega)).mono ?_;rintro e w' ⟨rfl,hb⟩;obtain ⟨X,rfl⟩:=hb.ext;clear hb)
 rw [<- Q1.out]
 by_cases g1:(q1:Int)<=left - (q0:Int)
 case neg =>
  rw [zbG g1]
  go_wp2
  go_ret
  rw [zbG (by omega)]
  exact ⟨rfl,(by repeat (first|with_reducible exact Below.refl _ _|with_reducible apply Below.ofExt|with_reducible apply Below.ofAlloc))⟩
 rw [zel g1]
 have n1:¬ left - (q0:Int) - (q1:Int)<0:=by omega
 go_wp2
 go_ret
 rw [zel (by omega)]
 exact ⟨zgB (by omega),(by repeat (first|with_reducible exact Below.refl _ _|with_reducible apply Below.ofExt|with_reducible apply Below.ofAlloc))⟩
theorem zqaS {d:TouchD} {n:Nat} (h:d.wt<=n):d.reads.length<=n/\d.writes.length<=n:=by
 unfold TouchD.wt at h
 simp only [zip,wtS] at h
 omega
theorem zqao (cs:List Value) (d:TouchD) (w:World) (hs:zqy.rd w cs d) (hwt:d.wt<=1048576) :
  Calls Tryz.prog 29 #[.agg cs.toArray] w (MadeA zqy w d):=by
 obtain ⟨s0,s1,rfl,h0,h1⟩:=hs
 have H0:=Hd h0
 have H1:=Hd h1
 clear h0 h1
 obtain ⟨a0,c0,rfl⟩:=vSlice.form H0.out
 obtain ⟨a1,c1,rfl⟩:=vSlice.form H1.out
 have hlen:=zqaS hwt
 have HL:=Hd hlen
 have HWT:=Hd hwt
 clear hlen hwt
 go_enter Tryz.func29,Tryz.ntmps29
 go_wp2_with fail
 (go_at_call 51;refine (zqv _ d.reads _ (by repeat (first|with_reducible exact H0.out|with_reducible apply View.rdAlloc)) HL.out.1).mono ?_;rintro e w' ⟨u0,p0,rfl,hf0,hb⟩;obtain ⟨X0,rfl⟩:=hb.ext;clear hb)
 obtain ⟨b0,g0,rfl⟩:=vSlice.form (View.toRd _ hf0.own)
 have o0:=hf0.own
 (try simp only [zp] at o0)
 have O0:=Hd o0
 clear o0
 have S0:=Hd hf0.sp
 clear hf0
 go_wp2_with fail
 (go_at_call 51;refine (zqv _ d.writes _ (by repeat (first|with_reducible exact H1.out|with_reducible apply View.rdExt|with_reducible apply View.rdAlloc)) HL.out.2).mono ?_;rintro e w' ⟨u1,p1,rfl,hf1,hb⟩;obtain ⟨X1,rfl⟩:=hb.ext;clear hb)
 obtain ⟨b1,g1,rfl⟩:=vSlice.form (View.toRd _ hf1.own)
 have o1:=hf1.own
 (try simp only [zp] at o1)
 have O1:=Hd o1
 clear o1
 have S1:=Hd hf1.sp
 clear hf1
 go_wp2
 refine bodyPost_ret (by simp [results,Tryz.results29,go_sem];rfl) rfl ?_
 refine ⟨_,_,rfl,⟨⟨_,_,p0,p1,rfl,rfl,?_,?_⟩,?_,?_⟩,(by repeat (first|with_reducible exact Below.refl _ _|with_reducible apply Below.ofExt|with_reducible apply Below.ofAlloc))⟩
 ·exact View.ownTail O0.out (fun k hk=>by have:=S0.out.lo k hk;simp [zn] at this ⊢;omega) (by simp) (by (skip);repeat (first|with_reducible exact Pre.refl _|with_reducible apply Pre.app))
 ·exact View.ownTail O1.out (fun k hk=>by have:=S1.out.lo k hk;simp [zn] at this ⊢;omega) (by simp) (by (skip);repeat (with_reducible exact Pre.refl _))
 ·have:=Sp.append (S0.out) (S1.out) (by simp [zn];try omega) (by simp [zn];try omega) (by simp [zn];try omega)
  exact this.nodup
 ·have:=Sp.append (S0.out) (S1.out) (by simp [zn];try omega) (by simp [zn];try omega) (by simp [zn];try omega)
  intro b hb
  have h2:=this.lo b (by simpa using hb)
  simp [zn] at h2
  omega
theorem zqn (cs cs':List Value) (d:TouchD) (w:World) (hs:zqy.rd w cs d) (hs':zqy.rd w cs' d) :
  Calls Tryz.prog 12 #[.agg cs.toArray,.agg cs'.toArray] w fun e w'=>e=.returned (.bool true)/\Below w.heap.size w w':=by
 obtain ⟨s0,s1,rfl,h0,h1⟩:=hs
 obtain ⟨t0,t1,rfl,k0,k1⟩:=hs'
 have H0:=Hd h0
 have H1:=Hd h1
 clear h0 h1
 obtain ⟨a0,c0,rfl⟩:=vSlice.form H0.out
 obtain ⟨a1,c1,rfl⟩:=vSlice.form H1.out
 have K0:=Hd k0
 have K1:=Hd k1
 clear k0 k1
 obtain ⟨b0,g0,rfl⟩:=vSlice.form K0.out
 obtain ⟨b1,g1,rfl⟩:=vSlice.form K1.out
 go_enter Tryz.func12,Tryz.ntmps12
 go_wp2_with fail
 (go_at_call 33;refine (zqx _ _ d.reads _ (by repeat (first|with_reducible exact H0.out|with_reducible apply View.rdAlloc)) (by repeat (first|with_reducible exact K0.out|with_reducible apply View.rdAlloc))).mono ?_;rintro e w' ⟨rfl,hb⟩;obtain ⟨X,rfl⟩:=hb.ext;clear hb)
 go_wp2_with fail
 (go_at_call 33;refine (zqx _ _ d.writes _ (by repeat (first|with_reducible exact H1.out|with_reducible apply View.rdExt|with_reducible apply View.rdAlloc)) (by repeat (first|with_reducible exact K1.out|with_reducible apply View.rdExt|with_reducible apply View.rdAlloc))).mono ?_;rintro e w' ⟨rfl,hb⟩;obtain ⟨X,rfl⟩:=hb.ext;clear hb)
 go_wp2
 go_ret
 exact ⟨rfl,(by repeat (first|with_reducible exact Below.refl _ _|with_reducible apply Below.ofExt|with_reducible apply Below.ofAlloc))⟩
def mkInt (k:Int):Int:=k
theorem zqu {v:Value} {xs:List Int} {w:World} {e:TypeId} (h:(vSlice vInt e).rd w [v] xs):∃ ao cap,v=.slice ao xs.length cap/\xs.length<=cap/\cap<=maxLen/\(ao=none->cap=0/\xs = []) /\
  (xs ≠ []->∃ b off,ao=some ⟨b,off,none⟩/\b<w.heap.size/\∀ (i:Nat) (hi:i<xs.length),w.cell? ⟨b,off+i,none⟩=some (Value.int .i64 xs[i]))/\∀ s ∈ xs,True:=by
 obtain ⟨ao,cap,rfl,h1,h2,h3,h4⟩:=vSlice.shape h
 refine ⟨ao,cap,rfl,h1,h2,fun e=>⟨h3 e,List.eq_nil_of_length_eq_zero (by have:=h3 e;omega)⟩,fun hne=>?_,fun s hs=>?_⟩
 ·have hl : 0<xs.length:=List.length_pos_iff.2 hne
  obtain ⟨b,off,cs,rfl,hb,_,_⟩:=h4 0 hl
  refine ⟨b,off,rfl,hb,fun i hi=>?_⟩
  obtain ⟨b',off',cs',e,_,hr,hc⟩:=h4 i hi
  simp only [Option.some.injEq,Addr.mk.injEq,and_true] at e
  obtain ⟨rfl,rfl⟩:=e
  obtain ⟨rfl,_⟩:=hr
  have:=hc 0 _ rfl
  simpa [vInt,vRow] using this
 ·obtain ⟨i,hi,rfl⟩:=List.getElem_of_mem hs
  obtain ⟨_,_,_,_,_,hr,_⟩:=h4 i hi
  exact hr.2
theorem Tryz.elemIntS:Elem Tryz.prog 28 3 1 8:=Elem.of (.int .i64 0) Tryz.underlying28 (by kernel_rfl) rfl (by decide)
theorem zqaB (v:Value) (xs:List Int) (left:Int) (w:World) {e:TypeId} (hs:(vSlice vInt e).rd w [v] xs) (h0 : 0<=left) (h1:left<=4294967296) :
  Calls Tryz.prog 23 #[v,.int .i64 left] w fun e w'=>e=.returned (.int .i64 (zgk left xs.length))/\Below w.heap.size w w':=by
 obtain ⟨ao,cap,rfl,hc1,hc2,hnil,hcell,hz⟩:=zqu hs
 clear hcell hs hnil hz
 unfold maxLen at hc2
 have hsub:wrap64 (left - xs.length)=left - xs.length:=IntWalk.wrap64_in _ (by omega)
 by_cases hl:left - xs.length<0
 ·rw [zbG (by omega)]
  go_enter Tryz.func23,Tryz.ntmps23
  go_wp2
  go_ret
  exact ⟨rfl,(by repeat (with_reducible exact Below.refl _ _))⟩
 ·rw [zel (by omega)]
  go_enter Tryz.func23,Tryz.ntmps23
  go_wp2
  go_ret
  exact ⟨rfl,(by repeat (with_reducible exact Below.refl _ _))⟩
theorem zqaA (v:Value) (xs:List Int) (w:World) {e:TypeId} (hs:(vSlice vInt e).rd w [v] xs) (hl:xs.length<=1048576) :
  Calls Tryz.prog 30 #[v] w (Made (vSlice vInt 3) w xs):=by
 obtain ⟨ao,cap,rfl,hc1,hc2,hnil,hcell,hz⟩:=zqu hs
 have HX:=Hd hcell
 have HOK:=Hd hz
 clear hcell hs hnil hz
 unfold maxLen at hc2
 obtain ⟨cs0,hsz0,hmk⟩:=Elem.make Tryz.elemIntS xs.length (by omega) (by omega)
 rw [Nat.mul_one] at hsz0
 go_enter Tryz.func30,Tryz.ntmps30
 go_wp2
 go_loopw [4] (fun k wr=>∃ (n:Nat) (cs:Array Value) (X:Ext),k=.int .i64 n/\n<=xs.length/\wr=(w.alloc (.cells cs 3)).ext X/\cs.size=xs.length/\cs.toList.take n=(xs.take n).flatMap (fun n=>[Value.int .i64 n])) (fun k _=>xs.length - (intOf k).toNat)
 case atStart=>exact ⟨0,cs0,⟨#[],_⟩,rfl,by omega,(zbz _ _ rfl).symm,hsz0,by simp⟩
 case round =>
  obtain ⟨n,cs,X,rfl,hn,rfl,hsz,htk⟩:=hrel
  have HT:=Hd htk
  have HSZ:=Hd hsz
  clear htk hmk hsz0 hsz
  by_cases hlt:(n:Int)<xs.length
  ·have hk:n<xs.length:=by omega
   obtain ⟨b,off,rfl,hbl,hcell⟩:=HX.out (by intro e;simp [e] at hk)
   have hcc:=hcell n hk
   have hfs:(xs.take (n+1)).flatMap (fun n=>[Value.int .i64 n])=(xs.take n).flatMap (fun n=>[Value.int .i64 n]) ++ [Value.int .i64 xs[n]]:=by
    simp only [List.take_succ_eq_append_getElem hk,List.flatMap_append,List.flatMap_cons,List.flatMap_nil,List.append_nil]
   have hl2:n<cs.size:=by rw [HSZ.out];exact hk
   have hcs:cs[n]?=some cs[n]:=Array.getElem?_eq_getElem hl2
   generalize cs[n]=u at hcs
   generalize xs[n]=x at hcc hfs
   have HF:=Hd hfs
   clear hcell hfs
   go_wp2
   go_roundw
   case rel =>
    exact ⟨n+1,_,X,by go_num,by omega,rfl,by simpa using HSZ.out,by rw [HF.out];exact zjo HT.out hl2⟩
   case measure=>simp [intOf];omega
  ·go_wp2
   go_ret
   have e:n=xs.length:=by omega
   subst e
   have ht:=HT.out
   rw [List.take_length] at ht
   exact ⟨_,_,rfl,vSlice.freshRow rfl (by omega) (by rw [Nat.mul_one];exact HSZ.out) (by rw [Nat.mul_one];exact ht) HOK.out,(by repeat (first|with_reducible exact Below.refl _ _|with_reducible apply Below.ofExt|with_reducible apply Below.ofAlloc))⟩
theorem zqaD (v v':Value) (xs:List Int) (w:World) {e e':TypeId} (hs:(vSlice vInt e).rd w [v] xs) (hs':(vSlice vInt e').rd w [v'] xs) :
  Calls Tryz.prog 37 #[v,v'] w fun e w'=>e=.returned (.bool true)/\Below w.heap.size w w':=by
 obtain ⟨ao,cap,rfl,hc1,hc2,hnil,hcell,hz⟩:=zqu hs
 obtain ⟨ao',cap',rfl,hc1',hc2',hnil',hcell',hz'⟩:=zqu hs'
 have HX:=Hd hcell
 have HX':=Hd hcell'
 clear hcell hs hnil hcell' hs' hnil' hz hz'
 unfold maxLen at hc2 hc2'
 go_enter Tryz.func37,Tryz.ntmps37
 go_wp2
 go_loopw [5] (fun k wr=>∃ (n:Nat) (X:Ext),k=.int .i64 n/\n<=xs.length/\wr=w.ext X) (fun k _=>xs.length - (intOf k).toNat)
 case atStart=>exact ⟨0,⟨#[],_⟩,rfl,by omega,(zbz _ _ rfl).symm⟩
 case round =>
  obtain ⟨n,X,rfl,hn,rfl⟩:=hrel
  by_cases hlt:(n:Int)<xs.length
  ·have hk:n<xs.length:=by omega
   obtain ⟨b,off,rfl,hbl,hcell⟩:=HX.out (by intro e;simp [e] at hk)
   obtain ⟨b',off',rfl,hbl',hcell'⟩:=HX'.out (by intro e;simp [e] at hk)
   have hcc:=hcell n hk
   have hcc':=hcell' n hk
   generalize xs[n]=s at hcc hcc'
   clear hcell hcell'
   go_wp2
   refine zgw [(0,true),(1,true),(2,true),(3,true),(4,true),(5,true),(6,true),(7,true),(8,true)] 9 (by kernel_rfl) (by kernel_rfl) ?_
   repeat (refine zm rfl (fun K hK=>?_);go_simp;(try simp (disch:=omega) only [IntWalk.i64_in]);refine hK _ ?_;clear hK K)
   refine zaf ?_
   go_wp2
   go_roundw
   case rel=>exact ⟨n+1,_,by go_num,by omega,rfl⟩
   case measure=>simp [intOf];omega
  ·go_wp2
   go_ret
   exact ⟨rfl,(by repeat (first|with_reducible exact Below.refl _ _|with_reducible apply Below.ofExt))⟩
theorem zqag (v:Value) (fp:List Nat) (ds:List Int) (k:Int) (w:World) (hs:(vSlice vInt 3).own w fp [v] ds) (h0 : 0<=k) (h1:k+(1*ds.length:Nat)<=4294960000) :
  Calls Tryz.prog 41 #[v,.int .i64 k] w fun e w'=>e=.returned (.int .i64 (k+(1*ds.length:Nat)))/\(vSlice vInt 3).own w' fp [v] (marks mkInt 1 k ds.length)/\Upon fp w w':=by
 rcases hs with ⟨hv,rfl,rfl⟩|⟨b,cap,blk,css,fps,hv,hb,hn,hm,hsz,ht,rfl,hcl,hfl,hel⟩
 ·simp only [List.cons.injEq,and_true] at hv
  subst hv
  go_enter Tryz.func41,Tryz.ntmps41
  go_wp2
  go_loopw [1,5] (fun kk i wr=>kk=.int .i64 k/\i=.int .i64 0/\wr=w) (fun _ _ _=>0)
  case atStart=>exact ⟨rfl,rfl,rfl⟩
  case round =>
   obtain ⟨rfl,rfl,rfl⟩:=hrel
   go_wp2
   go_ret
   exact ⟨by simp,.inl ⟨rfl,rfl,rfl⟩,Upon.refl _ _⟩
 ·simp only [List.cons.injEq,and_true] at hv
  subst hv
  have hfe:fps.flatten = []:=by
   rw [List.flatten_eq_nil_iff]
   intro l hl
   obtain ⟨i,hi,rfl⟩:=List.getElem_of_mem hl
   exact (hel i (by omega) (by omega) hi).1
  rw [hfe]
  have hbl:=za hb
  have hsz':blk.size=cap*1:=hsz
  rw [Nat.mul_one] at hsz'
  clear hel ht hfe hcl hfl hsz
  generalize hnn:ds.length=N at hn h1
  clear hnn
  unfold maxLen at hm
  refine World.at_block hb ?_
  clear hb
  go_enter Tryz.func41,Tryz.ntmps41
  go_wp2
  go_loopw [1,5] (fun kk i wr=>∃ (n:Nat) (cs:Array Value) (X:Ext) (m:Int),kk=.int .i64 m/\m=k+(1*n:Nat)/\i=.int .i64 n/\n<=N/\wr=(w.setB b (.cells cs 3)).ext X/\cs.size=cap/\cs.toList.take n=(marks mkInt 1 k n).flatMap (fun n=>[Value.int .i64 n])) (fun _ i _=>N - (intOf i).toNat)
  case atStart=>exact ⟨0,blk,⟨#[],_⟩,k,rfl,by simp,rfl,by omega,(zbz _ _ rfl).symm,hsz',by simp [marks]⟩
  case round =>
   obtain ⟨n,cs,X,m,rfl,hmk,rfl,hn2,rfl,hcs,htk⟩:=hrel
   have HT:=Hd htk
   have HSZ:=Hd hcs
   have HM:=Hd hmk
   clear htk hcs hsz'
   have hm0 : 0<=m:=by omega
   have hm1:m<=4294960000:=by omega
   by_cases hlt:(n:Int)<N
   ·have hk:n<N:=by omega
    have hm2:m+1<=4294960000:=by omega
    clear hmk
    have l0:n<cs.size:=by rw [HSZ.out];omega
    go_wp2
    go_roundw
    case rel =>
     refine ⟨n+1,_,_,_,rfl,?_,by go_num,by omega,rfl,?_,?_⟩
     ·have:=HM.out
      omega
     ·simpa using HSZ.out
     ·rw [zqp,List.flatMap_append,<- HM.out]
      exact zjo HT.out l0
    case measure=>simp [intOf];omega
   ·clear hmk
    go_wp2
    go_ret
    have e:n=N:=by omega
    subst e
    exact ⟨zgB (by have:=HM.out;omega),View.ownExt (zdE (zy _ _ _ hbl) (zqm _ _ _ _).symm hn (by unfold maxLen;exact hm) (by rw [Nat.mul_one];exact HSZ.out) (by rw [Nat.mul_one];exact HT.out) (fun d hd=>trivial)) X,Upon.setBExt _ _ _ (by simp)⟩
theorem zqk {w:World} {cs:List Value} {d:TxD} (h:vTx.rd w cs d):∃ a0 c0 a1 c1 a2 c2 a3 c3 a4 c4,cs = [.int .i64 d.id,.int .i64 d.age,.int .i64 d.proc,.int .i64 d.began,.slice a0 d.calls.length c0,.slice a1 d.answers.length c1,.slice a2 d.touch.reads.length c2,.slice a3 d.touch.writes.length c3,.slice a4 d.marks.length c4,.int .i64 d.state]:=by
 obtain ⟨s0,s1,s2,s3,s4,rfl,h0,h1,h2,h3,h4⟩:=h
 obtain ⟨a0,c0,rfl⟩:=vSlice.form h0;obtain ⟨a1,c1,rfl⟩:=vSlice.form h1;obtain ⟨a2,c2,rfl⟩:=vSlice.form h2;obtain ⟨a3,c3,rfl⟩:=vSlice.form h3;obtain ⟨a4,c4,rfl⟩:=vSlice.form h4
 exact ⟨a0,c0,a1,c1,a2,c2,a3,c3,a4,c4,rfl⟩
theorem zqaY (cs:List Value) (d:TxD) (left:Int) (w:World) (hs:vTx.rd w cs d) (h0 : 0<=left) (h1:left<=4294967296) :
  Calls Tryz.prog 5 #[.agg cs.toArray,.int .i64 left] w fun e w'=>e=.returned (.int .i64 (zgk left d.wt))/\Below w.heap.size w w':=by
 obtain ⟨s0,s1,s2,s3,s4,rfl,g0,g1,h2,h3,h4⟩:=hs
 have H0:=Hd g0
 have H1:=Hd g1
 have H2:=Hd h2
 have H3:=Hd h3
 have H4:=Hd h4
 clear g0 g1 h2 h3 h4
 obtain ⟨a0,c0,rfl⟩:=vSlice.form H0.out
 obtain ⟨a1,c1,rfl⟩:=vSlice.form H1.out
 obtain ⟨a2,c2,rfl⟩:=vSlice.form H2.out
 obtain ⟨a3,c3,rfl⟩:=vSlice.form H3.out
 obtain ⟨a4,c4,rfl⟩:=vSlice.form H4.out
 unfold TxD.wt
 have q0e:∃ q:Nat,q=wtS CallD.wt d.calls:=⟨_,rfl⟩
 obtain ⟨q0,q0e⟩:=q0e
 have Q0:=Hd q0e
 have q1e:∃ q:Nat,q=wtS AnswerD.wt d.answers:=⟨_,rfl⟩
 obtain ⟨q1,q1e⟩:=q1e
 have Q1:=Hd q1e
 have q2e:∃ q:Nat,q=TouchD.wt d.touch:=⟨_,rfl⟩
 obtain ⟨q2,q2e⟩:=q2e
 have Q2:=Hd q2e
 have q3e:∃ q:Nat,q=d.marks.length:=⟨_,rfl⟩
 obtain ⟨q3,q3e⟩:=q3e
 have Q3:=Hd q3e
 unfold TouchD.wt at q2e
 have Qt:wtS CallD.wt d.calls+wtS AnswerD.wt d.answers+zip d.touch.reads+zip d.touch.writes+d.marks.length=q0+q1+q2+q3:=by omega
 rw [Qt]
 clear Qt q0e q1e q2e q3e
 go_enter Tryz.func5,Tryz.ntmps5
 go_wp2_with fail
 (go_at_call 20;refine (zqar _ d.calls _ _ (by repeat (first|with_reducible exact H0.out|with_reducible apply View.rdAlloc)) (by omega) (by omega)).mono ?_;rintro e w' ⟨rfl,hb⟩;obtain ⟨X,rfl⟩:=hb.ext;clear hb)
 rw [<- Q0.out]
 by_cases g0:(q0:Int)<=left
 case neg =>
  rw [zbG g0]
  go_wp2
  go_ret
  rw [zbG (by omega)]
  exact ⟨rfl,(by repeat (first|with_reducible exact Below.refl _ _|with_reducible apply Below.ofExt|with_reducible apply Below.ofAlloc))⟩
 rw [zel g0]
 have n0:¬ left - (q0:Int)<0:=by omega
 go_wp2_with fail
 (go_at_call 21;refine (zqR _ d.answers _ _ (by repeat (first|with_reducible exact H1.out|with_reducible apply View.rdExt|with_reducible apply View.rdAlloc)) (by omega) (by omega)).mono ?_;rintro e w' ⟨rfl,hb⟩;obtain ⟨X,rfl⟩:=hb.ext;clear hb)
 rw [<- Q1.out]
 by_cases g1:(q1:Int)<=left - (q0:Int)
 case neg =>
  rw [zbG g1]
  go_wp2
  go_ret
  rw [zbG (by omega)]
  exact ⟨rfl,(by repeat (first|with_reducible exact Below.refl _ _|with_reducible apply Below.ofExt|with_reducible apply Below.ofAlloc))⟩
 rw [zel g1]
 have n1:¬ left - (q0:Int) - (q1:Int)<0:=by omega
 go_wp2_with fail
 (go_at_call 22;refine (zqaq _ d.touch _ _ ⟨_,_,rfl,(by repeat (first|with_reducible exact H2.out|with_reducible apply View.rdExt|with_reducible apply View.rdAlloc)),(by repeat (first|with_reducible exact H3.out|with_reducible apply View.rdExt|with_reducible apply View.rdAlloc))⟩ (by omega) (by omega)).mono ?_;rintro e w' ⟨rfl,hb⟩;obtain ⟨X,rfl⟩:=hb.ext;clear hb)
 rw [<- Q2.out]
 by_cases g2:(q2:Int)<=left - (q0:Int) - (q1:Int)
 case neg =>
  rw [zbG g2]
  go_wp2
  go_ret
  rw [zbG (by omega)]
  exact ⟨rfl,(by repeat (first|with_reducible exact Below.refl _ _|with_reducible apply Below.ofExt|with_reducible apply Below.ofAlloc))⟩
 rw [zel g2]
 have n2:¬ left - (q0:Int) - (q1:Int) - (q2:Int)<0:=by omega
 go_wp2_with fail
 (go_at_call 23;refine (zqaB _ d.marks _ _ (by repeat (first|with_reducible exact H4.out|with_reducible apply View.rdExt|with_reducible apply View.rdAlloc)) (by omega) (by omega)).mono ?_;rintro e w' ⟨rfl,hb⟩;obtain ⟨X,rfl⟩:=hb.ext;clear hb)
 rw [<- Q3.out]
 by_cases g3:(q3:Int)<=left - (q0:Int) - (q1:Int) - (q2:Int)
 case neg =>
  rw [zbG g3]
  go_wp2
  go_ret
  rw [zbG (by omega)]
  exact ⟨rfl,(by repeat (first|with_reducible exact Below.refl _ _|with_reducible apply Below.ofExt|with_reducible apply Below.ofAlloc))⟩
 rw [zel g3]
 have n3:¬ left - (q0:Int) - (q1:Int) - (q2:Int) - (q3:Int)<0:=by omega
 go_wp2
 go_ret
 rw [zel (by omega)]
 exact ⟨zgB (by omega),(by repeat (first|with_reducible exact Below.refl _ _|with_reducible apply Below.ofExt|with_reducible apply Below.ofAlloc))⟩
theorem zqaw {d:TxD} {n:Nat} (h:d.wt<=n):d.calls.length<=n/\d.answers.length<=n/\d.touch.reads.length<=n/\d.touch.writes.length<=n/\d.marks.length<=n:=by
 unfold TxD.wt at h
 simp only [zip,wtS] at h
 omega
theorem zqD (cs:List Value) (d:TxD) (w:World) (hs:vTx.rd w cs d) (hwt:d.wt<=1048576) :
  Calls Tryz.prog 9 #[.agg cs.toArray] w (MadeA vTx w d):=by
 obtain ⟨s0,s1,s2,s3,s4,rfl,h0,h1,h2,h3,h4⟩:=hs
 have H0:=Hd h0
 have H1:=Hd h1
 have H2:=Hd h2
 have H3:=Hd h3
 have H4:=Hd h4
 clear h0 h1 h2 h3 h4
 obtain ⟨a0,c0,rfl⟩:=vSlice.form H0.out
 obtain ⟨a1,c1,rfl⟩:=vSlice.form H1.out
 obtain ⟨a2,c2,rfl⟩:=vSlice.form H2.out
 obtain ⟨a3,c3,rfl⟩:=vSlice.form H3.out
 obtain ⟨a4,c4,rfl⟩:=vSlice.form H4.out
 have hlen:=zqaw hwt
 have HL:=Hd hlen
 have HWT:=Hd hwt
 clear hlen hwt
 go_enter Tryz.func9,Tryz.ntmps9
 go_wp2_with fail
 (go_at_call 27;refine (zqap _ d.calls _ (by repeat (first|with_reducible exact H0.out|with_reducible apply View.rdAlloc)) HL.out.1).mono ?_;rintro e w' ⟨u0,p0,rfl,hf0,hb⟩;obtain ⟨X0,rfl⟩:=hb.ext;clear hb)
 obtain ⟨b0,g0,rfl⟩:=vSlice.form (View.toRd _ hf0.own)
 have o0:=hf0.own
 (try simp only [zp] at o0)
 have O0:=Hd o0
 clear o0
 have S0:=Hd hf0.sp
 clear hf0
 go_wp2_with fail
 (go_at_call 28;refine (zqQ _ d.answers _ (by repeat (first|with_reducible exact H1.out|with_reducible apply View.rdExt|with_reducible apply View.rdAlloc)) HL.out.2.1).mono ?_;rintro e w' ⟨u1,p1,rfl,hf1,hb⟩;obtain ⟨X1,rfl⟩:=hb.ext;clear hb)
 obtain ⟨b1,g1,rfl⟩:=vSlice.form (View.toRd _ hf1.own)
 have o1:=hf1.own
 (try simp only [zp] at o1)
 have O1:=Hd o1
 clear o1
 have S1:=Hd hf1.sp
 clear hf1
 go_wp2_with fail
 (go_at_call 29;refine (zqao _ d.touch _ ⟨_,_,rfl,(by repeat (first|with_reducible exact H2.out|with_reducible apply View.rdExt|with_reducible apply View.rdAlloc)),(by repeat (first|with_reducible exact H3.out|with_reducible apply View.rdExt|with_reducible apply View.rdAlloc))⟩ (by have:=HWT.out;unfold TxD.wt at this;unfold TouchD.wt;omega)).mono ?_;rintro e w' ⟨cs2,pp2,rfl,hf2,hb⟩;obtain ⟨X2,rfl⟩:=hb.ext;clear hb)
 have SS2:=Hd hf2.sp
 obtain ⟨u2,u3,p2,p3,rfl,rfl,o2,o3⟩:=hf2.own
 clear hf2
 obtain ⟨b2,g2,rfl⟩:=vSlice.form (View.toRd _ o2)
 (try simp only [zp] at o2)
 have O2:=Hd o2
 clear o2
 obtain ⟨b3,g3,rfl⟩:=vSlice.form (View.toRd _ o3)
 (try simp only [zp] at o3)
 have O3:=Hd o3
 clear o3
 go_wp2_with fail
 (go_at_call 30;refine (zqaA _ d.marks _ (by repeat (first|with_reducible exact H4.out|with_reducible apply View.rdExt|with_reducible apply View.rdAlloc)) HL.out.2.2.2.2).mono ?_;rintro e w' ⟨u4,p4,rfl,hf4,hb⟩;obtain ⟨X3,rfl⟩:=hb.ext;clear hb)
 obtain ⟨b4,g4,rfl⟩:=vSlice.form (View.toRd _ hf4.own)
 have o4:=hf4.own
 (try simp only [zp] at o4)
 have O4:=Hd o4
 clear o4
 have S4:=Hd hf4.sp
 clear hf4
 go_wp2
 refine bodyPost_ret (by simp [results,Tryz.results9,go_sem];rfl) rfl ?_
 refine ⟨_,_,rfl,⟨⟨_,_,_,_,_,p0,p1,p2,p3,p4,rfl,rfl,?_,?_,?_,?_,?_⟩,?_,?_⟩,(by repeat (first|with_reducible exact Below.refl _ _|with_reducible apply Below.ofExt|with_reducible apply Below.ofAlloc))⟩
 ·exact View.ownTail O0.out (fun k hk=>by have:=S0.out.lo k hk;simp [zn] at this ⊢;omega) (by simp) (by (try simp only [<- Array.append_assoc]);repeat (first|with_reducible exact Pre.refl _|with_reducible apply Pre.app))
 ·exact View.ownTail O1.out (fun k hk=>by have:=S1.out.lo k hk;simp [zn] at this ⊢;omega) (by simp) (by (try simp only [<- Array.append_assoc]);repeat (first|with_reducible exact Pre.refl _|with_reducible apply Pre.app))
 ·exact View.ownTail O2.out (fun k hk=>by have:=SS2.out.lo k (by simp [hk]);simp [zn] at this ⊢;omega) (by simp) (by (try simp only [<- Array.append_assoc]);repeat (first|with_reducible exact Pre.refl _|with_reducible apply Pre.app))
 ·exact View.ownTail O3.out (fun k hk=>by have:=SS2.out.lo k (by simp [hk]);simp [zn] at this ⊢;omega) (by simp) (by (try simp only [<- Array.append_assoc]);repeat (first|with_reducible exact Pre.refl _|with_reducible apply Pre.app))
 ·exact View.ownTail O4.out (fun k hk=>by have:=S4.out.lo k hk;simp [zn] at this ⊢;omega) (by simp) (by (try simp only [<- Array.append_assoc]);repeat (with_reducible exact Pre.refl _))
 ·have:=Sp.append (Sp.append (Sp.append (S0.out) (S1.out) (by simp [zn];try omega) (by simp [zn];try omega) (by simp [zn];try omega)) (SS2.out) (by simp [zn];try omega) (by simp [zn];try omega) (by simp [zn];try omega)) (S4.out) (by simp [zn];try omega) (by simp [zn];try omega) (by simp [zn];try omega)
  simpa using this.nodup
 ·have:=Sp.append (Sp.append (Sp.append (S0.out) (S1.out) (by simp [zn];try omega) (by simp [zn];try omega) (by simp [zn];try omega)) (SS2.out) (by simp [zn];try omega) (by simp [zn];try omega) (by simp [zn];try omega)) (S4.out) (by simp [zn];try omega) (by simp [zn];try omega) (by simp [zn];try omega)
  intro b hb
  have h2:=this.lo b (by simpa using hb)
  simp [zn] at h2
  omega
theorem zqaZ (cs cs':List Value) (d:TxD) (w:World) (hs:vTx.rd w cs d) (hs':vTx.rd w cs' d) :
  Calls Tryz.prog 14 #[.agg cs.toArray,.agg cs'.toArray] w fun e w'=>e=.returned (.bool true)/\Below w.heap.size w w':=by
 obtain ⟨s0,s1,s2,s3,s4,rfl,h0,h1,h2,h3,h4⟩:=hs
 obtain ⟨t0,t1,t2,t3,t4,rfl,k0,k1,k2,k3,k4⟩:=hs'
 have H0:=Hd h0
 have H1:=Hd h1
 have H2:=Hd h2
 have H3:=Hd h3
 have H4:=Hd h4
 clear h0 h1 h2 h3 h4
 obtain ⟨a0,c0,rfl⟩:=vSlice.form H0.out
 obtain ⟨a1,c1,rfl⟩:=vSlice.form H1.out
 obtain ⟨a2,c2,rfl⟩:=vSlice.form H2.out
 obtain ⟨a3,c3,rfl⟩:=vSlice.form H3.out
 obtain ⟨a4,c4,rfl⟩:=vSlice.form H4.out
 have K0:=Hd k0
 have K1:=Hd k1
 have K2:=Hd k2
 have K3:=Hd k3
 have K4:=Hd k4
 clear k0 k1 k2 k3 k4
 obtain ⟨b0,g0,rfl⟩:=vSlice.form K0.out
 obtain ⟨b1,g1,rfl⟩:=vSlice.form K1.out
 obtain ⟨b2,g2,rfl⟩:=vSlice.form K2.out
 obtain ⟨b3,g3,rfl⟩:=vSlice.form K3.out
 obtain ⟨b4,g4,rfl⟩:=vSlice.form K4.out
 go_enter Tryz.func14,Tryz.ntmps14
 go_wp2_with fail
 (go_at_call 35;refine (zqas _ _ d.calls _ (by repeat (first|with_reducible exact H0.out|with_reducible apply View.rdAlloc)) (by repeat (first|with_reducible exact K0.out|with_reducible apply View.rdAlloc))).mono ?_;rintro e w' ⟨rfl,hb⟩;obtain ⟨X,rfl⟩:=hb.ext;clear hb)
 go_wp2_with fail
 (go_at_call 36;refine (zqV _ _ d.answers _ (by repeat (first|with_reducible exact H1.out|with_reducible apply View.rdExt|with_reducible apply View.rdAlloc)) (by repeat (first|with_reducible exact K1.out|with_reducible apply View.rdExt|with_reducible apply View.rdAlloc))).mono ?_;rintro e w' ⟨rfl,hb⟩;obtain ⟨X,rfl⟩:=hb.ext;clear hb)
 go_wp2_with fail
 (go_at_call 12;refine (zqn _ _ d.touch _ ⟨_,_,rfl,(by repeat (first|with_reducible exact H2.out|with_reducible apply View.rdExt|with_reducible apply View.rdAlloc)),(by repeat (first|with_reducible exact H3.out|with_reducible apply View.rdExt|with_reducible apply View.rdAlloc))⟩ ⟨_,_,rfl,(by repeat (first|with_reducible exact K2.out|with_reducible apply View.rdExt|with_reducible apply View.rdAlloc)),(by repeat (first|with_reducible exact K3.out|with_reducible apply View.rdExt|with_reducible apply View.rdAlloc))⟩).mono ?_;rintro e w' ⟨rfl,hb⟩;obtain ⟨X,rfl⟩:=hb.ext;clear hb)
 go_wp2_with fail
 (go_at_call 37;refine (zqaD _ _ d.marks _ (by repeat (first|with_reducible exact H4.out|with_reducible apply View.rdExt|with_reducible apply View.rdAlloc)) (by repeat (first|with_reducible exact K4.out|with_reducible apply View.rdExt|with_reducible apply View.rdAlloc))).mono ?_;rintro e w' ⟨rfl,hb⟩;obtain ⟨X,rfl⟩:=hb.ext;clear hb)
 go_wp2
 go_ret
 exact ⟨rfl,(by repeat (first|with_reducible exact Below.refl _ _|with_reducible apply Below.ofExt|with_reducible apply Below.ofAlloc))⟩
end Go.Proofs.YtodokkpnafabpaaGreatDoor
