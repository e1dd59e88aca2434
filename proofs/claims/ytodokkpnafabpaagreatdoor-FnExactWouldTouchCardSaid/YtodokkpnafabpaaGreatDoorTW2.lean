/- Walks. Each condition stands in its theorem. -/
import Derived.Test.YtodokkpnafabpaaGreatDoorCA12
import Derived.Test.YtodokkpnafabpaaGreatDoorCA35
import Derived.Test.YtodokkpnafabpaaGreatDoorTW1
set_option linter.unusedVariables false
set_option linter.unusedSimpArgs false
set_option maxRecDepth 100000
set_option maxHeartbeats 8000000
namespace Go.Proofs.YtodokkpnafabpaaGreatDoor
open Go.ChangeShapes Go.WideShapes Go.ChangeAt Go.RowKit
def zqI (k:Int):AnswerD:=⟨k,k+1,zqz (k+1+1)⟩
theorem zqaz (k:Int) (h:k<=1125899906842600):(zqI k).ok:=zqe _ (by omega)
theorem zqL {k:Int} {n:Nat} (h:k+(3*n:Nat)<=1125899906842600):∀ d ∈ marks zqI 3 k n,d.ok:=by
 intro d hd
 obtain ⟨i,hi,rfl⟩:=zqC hd
 exact zqaz _ (by omega)
theorem Tryz.elemAnswerS:Elem Tryz.prog 41 62 3 32:=Elem.of (.agg #[.int .i64 0,.int .i64 0,.string ⟨#[]⟩]) Tryz.underlying41 (by kernel_rfl) rfl (by decide)
theorem zqaf (d:AnswerD) (left:Int) (w:World) (hok:d.ok) (h0 : 0<=left) (h1:left<=1125899906842624) :
  Calls Tryz.prog 44 #[.agg d.row.toArray,.int .i64 left] w fun e w'=>e=.returned (.int .i64 (zgk left d.wt))/\Below w.heap.size w w':=by
 obtain ⟨f0,f1,f2⟩:=d
 have z0:=hok
 unfold AnswerD.ok at z0
 clear hok
 simp only at z0
 simp only [AnswerD.row,AnswerD.wt]
 have e0:wrap64 (left - f2.size)=left - f2.size:=IntWalk.wrap64_in _ (by omega)
 by_cases g0:left - f2.size<0
 ·rw [zbG (by omega)]
  go_enter Tryz.func44,Tryz.ntmps44
  go_wp2
  go_ret
  exact ⟨rfl,(by repeat (first|with_reducible exact Below.refl _ _|with_reducible apply Below.ofAlloc))⟩
 ·skip
  rw [zel (by omega)]
  go_enter Tryz.func44,Tryz.ntmps44
  go_wp2
  go_ret
  exact ⟨zgB (by omega),(by repeat (first|with_reducible exact Below.refl _ _|with_reducible apply Below.ofAlloc))⟩
theorem zqR (v:Value) (ds:List AnswerD) (left:Int) (w:World) {e:TypeId} (hs:(vSlice zjn e).rd w [v] ds) (h0 : 0<=left) (h1:left<=1125899906842624) :
  Calls Tryz.prog 21 #[v,.int .i64 left] w fun e w'=>e=.returned (.int .i64 (zgk left (wtS AnswerD.wt ds)))/\Below w.heap.size w w':=by
 obtain ⟨ao,cap,rfl,hc1,hc2,hnil,hcell⟩:=vSlice.shape hs
 have HX:=Hd hcell
 clear hcell hs hnil
 unfold maxLen at hc2
 have hsub:wrap64 (left - ds.length)=left - ds.length:=IntWalk.wrap64_in _ (by omega)
 by_cases hl:left - ds.length<0
 ·rw [zbG (by unfold wtS;omega)]
  go_enter Tryz.func21,Tryz.ntmps21
  go_wp2
  go_ret
  exact ⟨rfl,(by repeat (with_reducible exact Below.refl _ _))⟩
 ·go_enter Tryz.func21,Tryz.ntmps21
  go_wp2
  go_loopw [1,5] (fun l k wr=>∃ (n:Nat) (m:Int) (X:Ext),k=.int .i64 n/\n<=ds.length/\wr=w.ext X/\l=.int .i64 m/\m+((ds.take n).map AnswerD.wt).sum=left - ds.length/\0<=m) (fun _ k _=>ds.length - (intOf k).toNat)
  case atStart=>exact ⟨0,_,⟨#[],_⟩,rfl,by omega,(zbz _ _ rfl).symm,rfl,by simp,by omega⟩
  case round =>
   obtain ⟨n,m,X,rfl,hn,rfl,rfl,hsum,hm⟩:=hrel
   have HS:=Hd hsum
   have hm2:m<=left:=by omega
   clear hsum
   by_cases hlt:(n:Int)<ds.length
   ·have hk:n<ds.length:=by omega
    obtain ⟨b,off,cs,rfl,hbl,hrd,hcell⟩:=HX.out n hk
    have hstep:=zgy AnswerD.wt ds n hk
    have hle:=zhO AnswerD.wt ds (n+1)
    generalize ds[n]=d at hrd hstep
    have HT:=Hd hstep
    have HL:=Hd hle
    clear hstep hle
    obtain ⟨rfl,hok⟩:=hrd
    obtain ⟨x0,x1,x2⟩:=d
    have c0:=hcell 0 _ rfl
    have c1:=hcell 1 _ rfl
    have c2:=hcell 2 _ rfl
    clear hcell
    simp only [show zjn.k=3 from rfl,Nat.add_zero] at c0 c1 c2
    go_wp2_with fail
    (go_at_call 44;refine (zqaf ⟨x0,x1,x2⟩ m _ hok hm (by omega)).mono ?_;rintro e w' ⟨rfl,hb⟩;obtain ⟨X,rfl⟩:=hb.ext;clear hb)
    generalize AnswerD.wt ⟨x0,x1,x2⟩=wt at HT
    by_cases hg:(wt:Int)<=m
    ·rw [zel hg]
     have hg2:¬ m - (wt:Int)<0:=by omega
     go_wp2
     go_roundw
     case rel=>exact ⟨n+1,m - wt,_,by go_num,by omega,rfl,rfl,by rw [HT.out];have:=HS.out;omega,by omega⟩
     case measure=>simp [intOf];omega
    ·rw [zbG hg]
     go_wp2
     go_ret
     refine ⟨?_,(by repeat (first|with_reducible exact Below.refl _ _|with_reducible apply Below.ofExt))⟩
     have:=HS.out
     have h2:=HT.out
     have h3:=HL.out
     rw [zbG (by unfold wtS;omega)]
     rfl
   ·go_wp2
    go_ret
    refine ⟨?_,(by repeat (first|with_reducible exact Below.refl _ _|with_reducible apply Below.ofExt))⟩
    have e:n=ds.length:=by omega
    subst e
    have:=HS.out
    rw [List.take_length] at this
    rw [zel (by unfold wtS;omega)]
    exact zgB (by unfold wtS;omega)
theorem zqae (x0:Int) (x1:Int) (x2:ByteArray) (w:World) :
  Calls Tryz.prog 50 #[.agg #[.int .i64 x0,.int .i64 x1,.string x2]] w fun e w'=>e=.returned (.agg #[.int .i64 x0,.int .i64 x1,.string x2])/\Below w.heap.size w w':=by
 go_enter Tryz.func50,Tryz.ntmps50
 go_wp2
 refine bodyPost_ret (by simp [results,Tryz.results50,go_sem];rfl) rfl ?_
 exact ⟨rfl,(by repeat (first|with_reducible exact Below.refl _ _|with_reducible apply Below.ofAlloc))⟩
theorem zqah (x0:Int) (x1:Int) (x2:ByteArray) (w:World) :
  Calls Tryz.prog 57 #[.agg #[.int .i64 x0,.int .i64 x1,.string x2],.agg #[.int .i64 x0,.int .i64 x1,.string x2]] w fun e w'=>e=.returned (.bool true)/\Below w.heap.size w w':=by
 go_enter Tryz.func57,Tryz.ntmps57
 go_wp2
 go_ret
 exact ⟨rfl,(by repeat (first|with_reducible exact Below.refl _ _|with_reducible apply Below.ofAlloc))⟩
theorem zqQ (v:Value) (ds:List AnswerD) (w:World) {e:TypeId} (hs:(vSlice zjn e).rd w [v] ds) (hl:ds.length<=1048576) :
  Calls Tryz.prog 28 #[v] w (Made (vSlice zjn 62) w ds):=by
 obtain ⟨ao,cap,rfl,hc1,hc2,hnil,hcell⟩:=vSlice.shape hs
 have HX:=Hd hcell
 have HOK:Hid (∀ d ∈ ds,AnswerD.ok d):=fun d hd=>by
  obtain ⟨i,hi,rfl⟩:=List.getElem_of_mem hd
  obtain ⟨_,_,_,_,_,h,_⟩:=hcell i hi
  exact h.2
 clear hcell hs hnil
 unfold maxLen at hc2
 obtain ⟨cs0,hsz0,hmk⟩:=Elem.make Tryz.elemAnswerS ds.length (by omega) (by omega)
 go_enter Tryz.func28,Tryz.ntmps28
 go_wp2
 go_loopw [4] (fun k wr=>∃ (n:Nat) (cs:Array Value) (X:Ext),k=.int .i64 n/\n<=ds.length/\wr=(w.alloc (.cells cs 62)).ext X/\cs.size=ds.length*3/\cs.toList.take (n*3)=(ds.take n).flatMap AnswerD.row) (fun k _=>ds.length - (intOf k).toNat)
 case atStart=>exact ⟨0,cs0,⟨#[],_⟩,rfl,by omega,(zbz _ _ rfl).symm,hsz0,by simp⟩
 case round =>
  obtain ⟨n,cs,X,rfl,hn,rfl,hsz,htk⟩:=hrel
  have HT:=Hd htk
  have HSZ:=Hd hsz
  clear htk hmk hsz0 hsz
  by_cases hlt:(n:Int)<ds.length
  ·have hk:n<ds.length:=by omega
   obtain ⟨b,off,cs',rfl,hbl,hrd,hcell⟩:=HX.out n hk
   have hfs:(ds.take (n+1)).flatMap AnswerD.row=(ds.take n).flatMap AnswerD.row++AnswerD.row ds[n]:=by
    simp only [List.take_succ_eq_append_getElem hk,List.flatMap_append,List.flatMap_cons,List.flatMap_nil,List.append_nil]
   generalize ds[n]=d at hrd hfs
   have HF:=Hd hfs
   clear hfs
   obtain ⟨rfl,hok⟩:=hrd
   obtain ⟨x0,x1,x2⟩:=d
   have c0:=hcell 0 _ rfl
   have c1:=hcell 1 _ rfl
   have c2:=hcell 2 _ rfl
   clear hcell
   simp only [show zjn.k=3 from rfl,Nat.add_zero] at c0 c1 c2
   have hsz2:n*3+3<=cs.size:=by rw [HSZ.out];omega
   have o0:cs[n*3]?=some cs[n*3]:=Array.getElem?_eq_getElem (by omega)
   have o1:cs[n*3+1]?=some cs[n*3+1]:=Array.getElem?_eq_getElem (by omega)
   have o2:cs[n*3+2]?=some cs[n*3+2]:=Array.getElem?_eq_getElem (by omega)
   generalize cs[n*3]=y0 at o0
   generalize cs[n*3+1]=y1 at o1
   generalize cs[n*3+2]=y2 at o2
   go_wp2_with fail
   (go_at_call 50;refine (zqae x0 x1 x2 _).mono ?_;rintro e w' ⟨rfl,hb⟩;obtain ⟨X,rfl⟩:=hb.ext;clear hb)
   go_wp2
   go_roundw
   case rel =>
    have h0:=zcU (v:=.int .i64 x0) HT.out rfl rfl (by omega)
    have h1:=zcU (v:=.int .i64 x1) h0 rfl rfl (by simp;omega)
    have h2:=zcU (p:=(n+1)*3) (v:=.string x2) h1 rfl (by omega) (by simp;omega)
    exact ⟨n+1,_,_,by go_num,by omega,rfl,by simpa using HSZ.out,by rw [HF.out];simpa [AnswerD.row] using h2⟩
   case measure=>simp [intOf];omega
  ·go_wp2
   go_ret
   have e:n=ds.length:=by omega
   subst e
   have ht:=HT.out
   rw [List.take_length] at ht
   exact ⟨_,_,rfl,vSlice.freshRow rfl (by omega) HSZ.out ht HOK.out,(by repeat (first|with_reducible exact Below.refl _ _|with_reducible apply Below.ofExt|with_reducible apply Below.ofAlloc))⟩
theorem zqV (v v':Value) (ds:List AnswerD) (w:World) {e e':TypeId} (hs:(vSlice zjn e).rd w [v] ds) (hs':(vSlice zjn e').rd w [v'] ds) :
  Calls Tryz.prog 36 #[v,v'] w fun e w'=>e=.returned (.bool true)/\Below w.heap.size w w':=by
 obtain ⟨ao,cap,rfl,hc1,hc2,hnil,hcell⟩:=vSlice.shape hs
 obtain ⟨ao',cap',rfl,hc1',hc2',hnil',hcell'⟩:=vSlice.shape hs'
 have HX:=Hd hcell
 have HX':=Hd hcell'
 clear hcell hs hnil hcell' hs' hnil'
 unfold maxLen at hc2 hc2'
 go_enter Tryz.func36,Tryz.ntmps36
 go_wp2
 go_loopw [5] (fun k wr=>∃ (n:Nat) (X:Ext),k=.int .i64 n/\n<=ds.length/\wr=w.ext X) (fun k _=>ds.length - (intOf k).toNat)
 case atStart=>exact ⟨0,⟨#[],_⟩,rfl,by omega,(zbz _ _ rfl).symm⟩
 case round =>
  obtain ⟨n,X,rfl,hn,rfl⟩:=hrel
  by_cases hlt:(n:Int)<ds.length
  ·have hk:n<ds.length:=by omega
   obtain ⟨b,off,cs,rfl,hbl,hrd,hcell⟩:=HX.out n hk
   obtain ⟨b',off',cs',rfl,hbl',hrd',hcell'⟩:=HX'.out n hk
   generalize ds[n]=d at hrd hrd'
   obtain ⟨rfl,hok⟩:=hrd
   obtain ⟨rfl,hok'⟩:=hrd'
   obtain ⟨x0,x1,x2⟩:=d
   have c0:=hcell 0 _ rfl
   have c1:=hcell 1 _ rfl
   have c2:=hcell 2 _ rfl
   have e0:=hcell' 0 _ rfl
   have e1:=hcell' 1 _ rfl
   have e2:=hcell' 2 _ rfl
   clear hcell hcell'
   simp only [show zjn.k=3 from rfl,Nat.add_zero] at c0 c1 c2 e0 e1 e2
   go_wp2
   refine zgw [(0,true),(1,true),(2,true),(3,true),(4,true),(5,true),(6,true),(7,true),(8,false),(9,true)] 10 (by kernel_rfl) (by kernel_rfl) ?_
   repeat (refine zm rfl (fun K hK=>?_);go_simp;(try simp (disch:=omega) only [IntWalk.i64_in]);refine hK _ ?_;clear hK K)
   refine zt rfl (fun K hK=>?_);go_simp;go_at_call 57;refine (zqah x0 x1 x2 _).mono ?_;rintro e w' ⟨rfl,hb⟩;obtain ⟨X,rfl⟩:=hb.ext;clear hb;try go_simp;refine hK _ _ (by show Sx _ _;repeat (first|with_reducible exact Sx.same _ _ _ _|with_reducible apply Sx.more)) ?_;clear hK K
   repeat (refine zm rfl (fun K hK=>?_);go_simp;(try simp (disch:=omega) only [IntWalk.i64_in]);refine hK _ ?_;clear hK K)
   refine zaf ?_
   go_wp2
   go_roundw
   case rel=>exact ⟨n+1,_,by go_num,by omega,rfl⟩
   case measure=>simp [intOf];omega
  ·go_wp2
   go_ret
   exact ⟨rfl,(by repeat (first|with_reducible exact Below.refl _ _|with_reducible apply Below.ofExt))⟩
theorem zqJ (v:Value) (fp:List Nat) (ds:List AnswerD) (k:Int) (w:World) (hs:(vSlice zjn 62).own w fp [v] ds) (h0 : 0<=k) (h1:k+(3*ds.length:Nat)<=1125899906842000) :
  Calls Tryz.prog 40 #[v,.int .i64 k] w fun e w'=>e=.returned (.int .i64 (k+(3*ds.length:Nat)))/\(vSlice zjn 62).own w' fp [v] (marks zqI 3 k ds.length)/\Upon fp w w':=by
 rcases hs with ⟨hv,rfl,rfl⟩|⟨b,cap,blk,css,fps,hv,hb,hn,hm,hsz,ht,rfl,hcl,hfl,hel⟩
 ·simp only [List.cons.injEq,and_true] at hv
  subst hv
  go_enter Tryz.func40,Tryz.ntmps40
  go_wp2
  go_loopw [1,5] (fun kk i wr=>kk=.int .i64 k/\i=.int .i64 0/\wr=w) (fun _ _ _=>0)
  case atStart=>exact ⟨rfl,rfl,rfl⟩
  case round =>
   obtain ⟨rfl,rfl,rfl⟩:=hrel
   go_wp2
   go_ret
   exact ⟨by simp,.inl ⟨rfl,rfl,rfl⟩,Upon.refl _ _⟩
 ·simp only [List.cons.injEq,and_true] at hv
  subst hv
  have hfe:fps.flatten = []:=by
   rw [List.flatten_eq_nil_iff]
   intro l hl
   obtain ⟨i,hi,rfl⟩:=List.getElem_of_mem hl
   exact (hel i (by omega) (by omega) hi).1
  rw [hfe]
  have hbl:=za hb
  have hsz':blk.size=cap*3:=hsz
  clear hel ht hfe hcl hfl hsz
  generalize hnn:ds.length=N at hn h1
  clear hnn
  unfold maxLen at hm
  refine World.at_block hb ?_
  clear hb
  go_enter Tryz.func40,Tryz.ntmps40
  go_wp2
  go_loopw [1,5] (fun kk i wr=>∃ (n:Nat) (cs:Array Value) (X:Ext) (m:Int),kk=.int .i64 m/\m=k+(3*n:Nat)/\i=.int .i64 n/\n<=N/\wr=(w.setB b (.cells cs 62)).ext X/\cs.size=cap*3/\cs.toList.take (n*3)=(marks zqI 3 k n).flatMap AnswerD.row) (fun _ i _=>N - (intOf i).toNat)
  case atStart=>exact ⟨0,blk,⟨#[],_⟩,k,rfl,by simp,rfl,by omega,(zbz _ _ rfl).symm,hsz',by simp [marks]⟩
  case round =>
   obtain ⟨n,cs,X,m,rfl,hmk,rfl,hn2,rfl,hcs,htk⟩:=hrel
   have HT:=Hd htk
   have HSZ:=Hd hcs
   have HM:=Hd hmk
   clear htk hcs hsz'
   have hm0 : 0<=m:=by omega
   have hm1:m<=1125899906842000:=by omega
   by_cases hlt:(n:Int)<N
   ·have hk:n<N:=by omega
    have hm2:m+3<=1125899906842000:=by omega
    clear hmk
    have hsz2:n*3+3<=cs.size:=by rw [HSZ.out];omega
    have l0:n*3<cs.size:=by omega
    have l1:n*3+1<cs.size:=by omega
    have l2:n*3+2<cs.size:=by omega
    go_wp2_with fail
    (go_at_call 38;refine (zqb _ _ (by omega) (by omega)).mono ?_;rintro e w' ⟨rfl,hb⟩;obtain ⟨X,rfl⟩:=hb.ext;clear hb)
    go_wp2
    go_roundw
    case rel =>
     refine ⟨n+1,_,_,_,rfl,?_,by go_num,by omega,rfl,?_,?_⟩
     ·have:=HM.out
      omega
     ·simpa using HSZ.out
     ·skip
      have h0:=zcU (v:=.int .i64 m) HT.out rfl rfl (by omega)
      have h1:=zcU (v:=.int .i64 (m+1)) h0 rfl rfl (by simp;omega)
      have h2:=zcU (p:=(n+1)*3) (v:=.string (zqz (m+1+1))) h1 rfl (by omega) (by simp;omega)
      rw [zqp,List.flatMap_append,<- HM.out]
      simpa [zqI,AnswerD.row] using h2
    case measure=>simp [intOf];omega
   ·clear hmk
    go_wp2
    go_ret
    have e:n=N:=by omega
    subst e
    exact ⟨zgB HM.out,View.ownExt (zdE (zy _ _ _ hbl) (zqm _ _ _ _).symm hn (by unfold maxLen;exact hm) HSZ.out HT.out (zqL (by omega))) X,Upon.setBExt _ _ _ (by simp)⟩
def vStep:View StepD:=vRow StepD.row 7 StepD.ok (fun _=>rfl) (fun d u hu=>by simp [StepD.row] at hu;rcases hu with rfl|rfl|rfl|rfl|rfl|rfl|rfl<;>rfl)
theorem zqW (v vl:Value) (cs:List CellD) (l:List StepD) (w:World) (hg:Glob w) (h:RdL zu w v cs) (hs:RdL zjt w vl l) (hf:∀ s ∈ l,s.fine) (hl:cs.length<=1048576) (hl2:l.length<=1048576) (hfit:(K.runAll l).fits ⟨cs,[],[]⟩) :
  Calls Tryz.prog 54 #[v,vl] w fun e w'=>∃ v0 v1,e=.returned (.tuple #[v0,v1])/\OwnL zu 66 w' w.heap.size v0 ((K.runAll l).run ⟨cs,[],[]⟩).2.cells/\OwnL zbw 62 w' w.heap.size v1 ((K.runAll l).run ⟨cs,[],[]⟩).1/\Below w.heap.size w w':=by
 have D:=Hd (impl_MachOf v cs w h (by omega))
 obtain ⟨res,mres,hr⟩ : ∃ res mres,(K.runAll l).run ⟨cs,[],[]⟩=(res,mres):=⟨_,_,rfl⟩
 have D2:=Hd (fun w1 fp p H=>impl_run vl l hf hl2 w w1 fp p ⟨cs,[],[]⟩ H hs hfit)
 rw [hr] at D2 ⊢
 dsimp only at D2 ⊢
 clear hr h hs hf hfit
 have HG:=Hd hg
 clear hg
 go_enter Tryz.func54,Tryz.ntmps54
 (repeat (first|go_skip|go_guarded|go_step|go_upon|go_back))
 (go_at_call 52;refine D.out.mono ?_;rintro e w1 ⟨a,c,rfl,ho,hb⟩)
 have HO:=Hd ho
 have HB:=Hd hb
 have hsz:=hb.size
 clear ho hb
 ((try simp only []);repeat (first|go_skip|go_guarded|go_step|go_upon|go_back))
 have hM:IM w (w1.alloc (.cells #[.slice a cs.length c,.slice none 0 0,.slice none 0 0] 84)) w1.heap.size (w1.heap.size :: (Value.slice a cs.length c).ownBlock.toList) ⟨cs,[],[]⟩:=by
  refine ⟨⟨a,c,none,0,none,0,heap_alloc_new w1 _,HO.out.alloc _,OwnL.nil zx _ _ _,OwnL.nil zx _ _ _,(fun k hk=>by cases hk),(fun k hk=>?_),(fun k hk=>by cases hk),(fun k hk=>by cases hk)⟩,List.mem_cons_self,(fun b hb=>?_),(fun b hb=>?_),HB.out.ofAlloc _,HG.out⟩
  ·simp only [List.mem_cons,Option.mem_toList];exact .inr hk
  ·simp only [List.mem_cons,Option.mem_toList] at hb
   rcases hb with rfl|hb
   ·exact hsz
   ·exact (HO.out.lt b hb).1
  ·simp only [List.mem_cons,Option.mem_toList] at hb
   rcases hb with rfl|hb
   ·simp
   ·have:=(HO.out.lt b hb).2;simp;omega
 have HMM:=Hd hM
 clear hM
 (go_at_call 104;refine (D2.out _ _ _ HMM.out).mono ?_;rintro e w2 ⟨vo,rfl,fp2,hm,ht,hk⟩)
 obtain ⟨oa,oc,rfl⟩:=hk.1.rd.form
 have HK:=Hd (hk.1.base (show w.heap.size<=_ from by simp;omega))
 obtain ⟨⟨a0,c0,a1,c1,a2,c2,hp,o0,_⟩,_,_,_,bel,_⟩:=hm
 have q0:w2.cell? ⟨w1.heap.size,0,none⟩=some (.slice a0 mres.cells.length c0):=(zd (i:=0) hp).trans rfl
 have hpl:=za hp
 have HO0:=Hd o0
 have HBL:=Hd bel
 clear hk hp o0 bel ht
 ((try simp only []);repeat (first|go_skip|go_guarded|go_step|go_upon|go_back))
 refine bodyPost_ret (by simp [results,Tryz.results54,go_sem];rfl) rfl ?_
 exact ⟨_,_,rfl,HO0.out,HK.out,HBL.out⟩
theorem zqo {v:Value} {xs:List ByteArray} {w:World} {e:TypeId} (h:(vSlice vStr e).rd w [v] xs):∃ ao cap,v=.slice ao xs.length cap/\xs.length<=cap/\cap<=maxLen/\(ao=none->cap=0/\xs = []) /\
  (xs ≠ []->∃ b off,ao=some ⟨b,off,none⟩/\b<w.heap.size/\∀ (i:Nat) (hi:i<xs.length),w.cell? ⟨b,off+i,none⟩=some (Value.string xs[i]))/\∀ s ∈ xs,s.size<=9223372036854775807:=by
 obtain ⟨ao,cap,rfl,h1,h2,h3,h4⟩:=vSlice.shape h
 refine ⟨ao,cap,rfl,h1,h2,fun e=>⟨h3 e,List.eq_nil_of_length_eq_zero (by have:=h3 e;omega)⟩,fun hne=>?_,fun s hs=>?_⟩
 ·have hl : 0<xs.length:=List.length_pos_iff.2 hne
  obtain ⟨b,off,cs,rfl,hb,_,_⟩:=h4 0 hl
  refine ⟨b,off,rfl,hb,fun i hi=>?_⟩
  obtain ⟨b',off',cs',e,_,hr,hc⟩:=h4 i hi
  simp only [Option.some.injEq,Addr.mk.injEq,and_true] at e
  obtain ⟨rfl,rfl⟩:=e
  obtain ⟨rfl,_⟩:=hr
  have:=hc 0 _ rfl
  simpa [vStr,vRow] using this
 ·obtain ⟨i,hi,rfl⟩:=List.getElem_of_mem hs
  obtain ⟨_,_,_,_,_,hr,_⟩:=h4 i hi
  exact hr.2
theorem Tryz.elemStringS:Elem Tryz.prog 25 9 1 16:=Elem.of (.string ⟨#[]⟩) Tryz.underlying25 (by kernel_rfl) rfl (by decide)
theorem zqw (v:Value) (xs:List ByteArray) (left:Int) (w:World) {e:TypeId} (hs:(vSlice vStr e).rd w [v] xs) (h0 : 0<=left) (h1:left<=4294967296) :
  Calls Tryz.prog 45 #[v,.int .i64 left] w fun e w'=>e=.returned (.int .i64 (zgk left (zip xs)))/\Below w.heap.size w w':=by
 obtain ⟨ao,cap,rfl,hc1,hc2,hnil,hcell,hz⟩:=zqo hs
 have HX:=Hd hcell
 have HZ:=Hd hz
 clear hcell hs hnil hz
 unfold maxLen at hc2
 have hsub:wrap64 (left - xs.length)=left - xs.length:=IntWalk.wrap64_in _ (by omega)
 by_cases hl:left - xs.length<0
 ·rw [zbG (by unfold zip wtS;omega)]
  go_enter Tryz.func45,Tryz.ntmps45
  go_wp2
  go_ret
  exact ⟨rfl,(by repeat (with_reducible exact Below.refl _ _))⟩
 ·go_enter Tryz.func45,Tryz.ntmps45
  go_wp2
  go_loopw [1,5] (fun l k wr=>∃ (n:Nat) (m:Int),k=.int .i64 n/\n<=xs.length/\wr=w/\l=.int .i64 m/\m+((xs.take n).map ByteArray.size).sum=left - xs.length/\0<=m) (fun _ k _=>xs.length - (intOf k).toNat)
  case atStart=>exact ⟨0,_,rfl,by omega,rfl,rfl,by simp,by omega⟩
  case round =>
   obtain ⟨n,m,rfl,hn,rfl,rfl,hsum,hm⟩:=hrel
   have HS:=Hd hsum
   have hm2:m<=left:=by omega
   clear hsum
   by_cases hlt:(n:Int)<xs.length
   ·have hk:n<xs.length:=by omega
    obtain ⟨b,off,rfl,hbl,hcell⟩:=HX.out (by intro e;simp [e] at hk)
    have hcc:=hcell n hk
    have hstep:=zgy ByteArray.size xs n hk
    have hle:=zhO ByteArray.size xs (n+1)
    have hsz:xs[n].size<=2 ^ 63 - 1:=HZ.out _ (List.getElem_mem hk)
    generalize xs[n]=s at hcc hstep hsz
    have HT:=Hd hstep
    have HL:=Hd hle
    clear hcell hstep hle
    have hw:wrap64 (m - s.size)=m - s.size:=IntWalk.wrap64_in _ (by omega)
    by_cases hneg:m - s.size<0
    ·go_wp2
     go_ret
     refine ⟨?_,(by repeat (with_reducible exact Below.refl _ _))⟩
     have:=HS.out
     have h2:=HT.out
     have h3:=HL.out
     rw [zbG (by unfold zip wtS;omega)]
     rfl
    ·go_wp2
     go_roundw
     case rel=>exact ⟨n+1,m - s.size,by go_num,by omega,trivial,rfl,by rw [HT.out];have:=HS.out;omega,by omega⟩
     case measure=>simp [intOf];omega
   ·go_wp2
    go_ret
    refine ⟨?_,(by repeat (with_reducible exact Below.refl _ _))⟩
    have e:n=xs.length:=by omega
    subst e
    have:=HS.out
    rw [List.take_length] at this
    rw [zel (by unfold zip wtS;omega)]
    exact zgB (by unfold zip wtS;omega)
theorem zqv (v:Value) (xs:List ByteArray) (w:World) {e:TypeId} (hs:(vSlice vStr e).rd w [v] xs) (hl:xs.length<=1048576) :
  Calls Tryz.prog 51 #[v] w (Made (vSlice vStr 9) w xs):=by
 obtain ⟨ao,cap,rfl,hc1,hc2,hnil,hcell,hz⟩:=zqo hs
 have HX:=Hd hcell
 have HOK:=Hd hz
 clear hcell hs hnil hz
 unfold maxLen at hc2
 obtain ⟨cs0,hsz0,hmk⟩:=Elem.make Tryz.elemStringS xs.length (by omega) (by omega)
 rw [Nat.mul_one] at hsz0
 go_enter Tryz.func51,Tryz.ntmps51
 go_wp2
 go_loopw [4] (fun k wr=>∃ (n:Nat) (cs:Array Value) (X:Ext),k=.int .i64 n/\n<=xs.length/\wr=(w.alloc (.cells cs 9)).ext X/\cs.size=xs.length/\cs.toList.take n=(xs.take n).flatMap (fun n=>[Value.string n])) (fun k _=>xs.length - (intOf k).toNat)
 case atStart=>exact ⟨0,cs0,⟨#[],_⟩,rfl,by omega,(zbz _ _ rfl).symm,hsz0,by simp⟩
 case round =>
  obtain ⟨n,cs,X,rfl,hn,rfl,hsz,htk⟩:=hrel
  have HT:=Hd htk
  have HSZ:=Hd hsz
  clear htk hmk hsz0 hsz
  by_cases hlt:(n:Int)<xs.length
  ·have hk:n<xs.length:=by omega
   obtain ⟨b,off,rfl,hbl,hcell⟩:=HX.out (by intro e;simp [e] at hk)
   have hcc:=hcell n hk
   have hfs:(xs.take (n+1)).flatMap (fun n=>[Value.string n])=(xs.take n).flatMap (fun n=>[Value.string n]) ++ [Value.string xs[n]]:=by
    simp only [List.take_succ_eq_append_getElem hk,List.flatMap_append,List.flatMap_cons,List.flatMap_nil,List.append_nil]
   have hl2:n<cs.size:=by rw [HSZ.out];exact hk
   have hcs:cs[n]?=some cs[n]:=Array.getElem?_eq_getElem hl2
   generalize cs[n]=u at hcs
   generalize xs[n]=x at hcc hfs
   have HF:=Hd hfs
   clear hcell hfs
   go_wp2
   go_roundw
   case rel =>
    exact ⟨n+1,_,X,by go_num,by omega,rfl,by simpa using HSZ.out,by rw [HF.out];exact zjo HT.out hl2⟩
   case measure=>simp [intOf];omega
  ·go_wp2
   go_ret
   have e:n=xs.length:=by omega
   subst e
   have ht:=HT.out
   rw [List.take_length] at ht
   exact ⟨_,_,rfl,vSlice.freshRow rfl (by omega) (by rw [Nat.mul_one];exact HSZ.out) (by rw [Nat.mul_one];exact ht) HOK.out,(by repeat (first|with_reducible exact Below.refl _ _|with_reducible apply Below.ofExt|with_reducible apply Below.ofAlloc))⟩
theorem zqx (v v':Value) (xs:List ByteArray) (w:World) {e e':TypeId} (hs:(vSlice vStr e).rd w [v] xs) (hs':(vSlice vStr e').rd w [v'] xs) :
  Calls Tryz.prog 33 #[v,v'] w fun e w'=>e=.returned (.bool true)/\Below w.heap.size w w':=by
 obtain ⟨ao,cap,rfl,hc1,hc2,hnil,hcell,hz⟩:=zqo hs
 obtain ⟨ao',cap',rfl,hc1',hc2',hnil',hcell',hz'⟩:=zqo hs'
 have HX:=Hd hcell
 have HX':=Hd hcell'
 clear hcell hs hnil hcell' hs' hnil' hz hz'
 unfold maxLen at hc2 hc2'
 go_enter Tryz.func33,Tryz.ntmps33
 go_wp2
 go_loopw [5] (fun k wr=>∃ (n:Nat) (X:Ext),k=.int .i64 n/\n<=xs.length/\wr=w.ext X) (fun k _=>xs.length - (intOf k).toNat)
 case atStart=>exact ⟨0,⟨#[],_⟩,rfl,by omega,(zbz _ _ rfl).symm⟩
 case round =>
  obtain ⟨n,X,rfl,hn,rfl⟩:=hrel
  by_cases hlt:(n:Int)<xs.length
  ·have hk:n<xs.length:=by omega
   obtain ⟨b,off,rfl,hbl,hcell⟩:=HX.out (by intro e;simp [e] at hk)
   obtain ⟨b',off',rfl,hbl',hcell'⟩:=HX'.out (by intro e;simp [e] at hk)
   have hcc:=hcell n hk
   have hcc':=hcell' n hk
   generalize xs[n]=s at hcc hcc'
   clear hcell hcell'
   go_wp2
   refine zgw [(0,true),(1,true),(2,true),(3,true),(4,true),(5,true),(6,true),(7,true),(8,true)] 9 (by kernel_rfl) (by kernel_rfl) ?_
   repeat (refine zm rfl (fun K hK=>?_);go_simp;(try simp (disch:=omega) only [IntWalk.i64_in]);refine hK _ ?_;clear hK K)
   refine zaf ?_
   go_wp2
   go_roundw
   case rel=>exact ⟨n+1,_,by go_num,by omega,rfl⟩
   case measure=>simp [intOf];omega
  ·go_wp2
   go_ret
   exact ⟨rfl,(by repeat (first|with_reducible exact Below.refl _ _|with_reducible apply Below.ofExt))⟩
theorem zqc (v:Value) (fp:List Nat) (ds:List ByteArray) (k:Int) (w:World) (hs:(vSlice vStr 9).own w fp [v] ds) (h0 : 0<=k) (h1:k+(1*ds.length:Nat)<=1125899906842000) :
  Calls Tryz.prog 42 #[v,.int .i64 k] w fun e w'=>e=.returned (.int .i64 (k+(1*ds.length:Nat)))/\(vSlice vStr 9).own w' fp [v] (marks zqz 1 k ds.length)/\Upon fp w w':=by
 rcases hs with ⟨hv,rfl,rfl⟩|⟨b,cap,blk,css,fps,hv,hb,hn,hm,hsz,ht,rfl,hcl,hfl,hel⟩
 ·simp only [List.cons.injEq,and_true] at hv
  subst hv
  go_enter Tryz.func42,Tryz.ntmps42
  go_wp2
  go_loopw [1,5] (fun kk i wr=>kk=.int .i64 k/\i=.int .i64 0/\wr=w) (fun _ _ _=>0)
  case atStart=>exact ⟨rfl,rfl,rfl⟩
  case round =>
   obtain ⟨rfl,rfl,rfl⟩:=hrel
   go_wp2
   go_ret
   exact ⟨by simp,.inl ⟨rfl,rfl,rfl⟩,Upon.refl _ _⟩
 ·simp only [List.cons.injEq,and_true] at hv
  subst hv
  have hfe:fps.flatten = []:=by
   rw [List.flatten_eq_nil_iff]
   intro l hl
   obtain ⟨i,hi,rfl⟩:=List.getElem_of_mem hl
   exact (hel i (by omega) (by omega) hi).1
  rw [hfe]
  have hbl:=za hb
  have hsz':blk.size=cap*1:=hsz
  rw [Nat.mul_one] at hsz'
  clear hel ht hfe hcl hfl hsz
  generalize hnn:ds.length=N at hn h1
  clear hnn
  unfold maxLen at hm
  refine World.at_block hb ?_
  clear hb
  go_enter Tryz.func42,Tryz.ntmps42
  go_wp2
  go_loopw [1,5] (fun kk i wr=>∃ (n:Nat) (cs:Array Value) (X:Ext) (m:Int),kk=.int .i64 m/\m=k+(1*n:Nat)/\i=.int .i64 n/\n<=N/\wr=(w.setB b (.cells cs 9)).ext X/\cs.size=cap/\cs.toList.take n=(marks zqz 1 k n).flatMap (fun n=>[Value.string n])) (fun _ i _=>N - (intOf i).toNat)
  case atStart=>exact ⟨0,blk,⟨#[],_⟩,k,rfl,by simp,rfl,by omega,(zbz _ _ rfl).symm,hsz',by simp [marks]⟩
  case round =>
   obtain ⟨n,cs,X,m,rfl,hmk,rfl,hn2,rfl,hcs,htk⟩:=hrel
   have HT:=Hd htk
   have HSZ:=Hd hcs
   have HM:=Hd hmk
   clear htk hcs hsz'
   have hm0 : 0<=m:=by omega
   have hm1:m<=1125899906842000:=by omega
   by_cases hlt:(n:Int)<N
   ·have hk:n<N:=by omega
    have hm2:m+1<=1125899906842000:=by omega
    clear hmk
    have l0:n<cs.size:=by rw [HSZ.out];omega
    go_wp2_with fail
    (go_at_call 38;refine (zqb _ _ (by omega) (by omega)).mono ?_;rintro e w' ⟨rfl,hb⟩;obtain ⟨X,rfl⟩:=hb.ext;clear hb)
    go_wp2
    go_roundw
    case rel =>
     refine ⟨n+1,_,_,_,rfl,?_,by go_num,by omega,rfl,?_,?_⟩
     ·have:=HM.out
      omega
     ·simpa using HSZ.out
     ·rw [zqp,List.flatMap_append,<- HM.out]
      exact zjo HT.out l0
    case measure=>simp [intOf];omega
   ·clear hmk
    go_wp2
    go_ret
    have e:n=N:=by omega
    subst e
    exact ⟨zgB (by have:=HM.out;omega),View.ownExt (zdE (zy _ _ _ hbl) (zqm _ _ _ _).symm hn (by unfold maxLen;exact hm) (by rw [Nat.mul_one];exact HSZ.out) (by rw [Nat.mul_one];exact HT.out) (fun d hd=>by obtain ⟨i,hi,rfl⟩:=zqC hd;exact zqe _ (by omega))) X,Upon.setBExt _ _ _ (by simp)⟩
theorem zqq (v:Value) (k:Int) (N:Nat) (w:World) {e:TypeId} (hs:(vSlice vStr e).rd w [v] (marks zqz 1 k N)) (h0 : 0<=k) (h1:k+(1*N:Nat)<=1125899906842000) :
  Calls Tryz.prog 43 #[v,.int .i64 k] w fun e w'=>e=.returned (.int .i64 (k+(1*N:Nat)))/\Below w.heap.size w w':=by
 obtain ⟨ao,cap,rfl,hc1,hc2,hnil,hcell,hz⟩:=zqo hs
 have HX:=Hd hcell
 clear hcell hs hnil hz
 rw [zqm] at hc1 ⊢
 unfold maxLen at hc2
 go_enter Tryz.func43,Tryz.ntmps43
 go_wp2
 go_loopw [1,5] (fun kk i wr=>∃ (n:Nat) (m:Int),kk=.int .i64 m/\m=k+(1*n:Nat)/\i=.int .i64 n/\n<=N/\Below w.heap.size w wr) (fun _ i _=>N - (intOf i).toNat)
 case atStart=>exact ⟨0,k,rfl,by simp,rfl,by omega,(by repeat (with_reducible exact Below.refl _ _))⟩
 case round =>
  obtain ⟨n,m,rfl,hmk,rfl,hn,hbel⟩:=hrel
  obtain ⟨X,rfl⟩:=hbel.ext
  have HM:=Hd hmk
  have hm0 : 0<=m:=by omega
  have hm1:m<=1125899906842000:=by omega
  by_cases hlt:(n:Int)<N
  ·have hk:n<N:=by omega
   have hm2:m+1<=1125899906842000:=by omega
   have hkl:n<(marks zqz 1 k N).length:=by rw [zqm];exact hk
   obtain ⟨b,off,rfl,hbl,hcell⟩:=HX.out (by intro e;rw [e] at hkl;simp at hkl)
   have hcc:=hcell n hkl
   rw [zqaX,<- hmk] at hcc
   clear hmk hcell hkl
   go_wp2
   refine zgw [(0,true),(1,true),(2,true),(3,true),(4,true),(5,false),(6,true)] 7 (by kernel_rfl) (by kernel_rfl) ?_
   repeat (refine zm rfl (fun K hK=>?_);go_simp;(try simp (disch:=omega) only [IntWalk.i64_in]);refine hK _ ?_;clear hK K)
   refine zt rfl (fun K hK=>?_);go_simp;go_at_call 38;refine (zqb _ _ (by omega) (by omega)).mono ?_;rintro e w' ⟨rfl,hb⟩;obtain ⟨X,rfl⟩:=hb.ext;clear hb;try go_simp;refine hK _ _ (by show Sx _ _;repeat (first|with_reducible exact Sx.same _ _ _ _|with_reducible apply Sx.more)) ?_;clear hK K
   repeat (refine zm rfl (fun K hK=>?_);go_simp;(try simp (disch:=omega) only [IntWalk.i64_in]);refine hK _ ?_;clear hK K)
   refine zaf ?_
   go_wp2
   go_roundw
   case rel =>
    exact ⟨n+1,_,rfl,by have:=HM.out;omega,by go_num,by omega,(by repeat (first|with_reducible exact Below.refl _ _|with_reducible apply Below.ofExt))⟩
   case measure=>simp [intOf];omega
  ·clear hmk
   go_wp2
   go_ret
   have e:n=N:=by omega
   subst e
   exact ⟨zgB (by have:=HM.out;omega),(by repeat (first|with_reducible exact Below.refl _ _|with_reducible apply Below.ofExt))⟩
end Go.Proofs.YtodokkpnafabpaaGreatDoor
