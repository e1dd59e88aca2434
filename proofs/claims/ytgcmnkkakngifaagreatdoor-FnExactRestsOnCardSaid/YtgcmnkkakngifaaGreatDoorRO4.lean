/- Texts of this claim, merged: the walks and what they stand on. Each condition stands in its theorem. -/
import Derived.Deep.Slices
import Derived.Lib.SmallJoins
import Derived.Test.YtgcmnkkakngifaaGreatDoorCA29
import Derived.Test.YtgcmnkkakngifaaGreatDoorCA35
import Derived.Test.YtgcmnkkakngifaaGreatDoorCA37
import Derived.Test.YtgcmnkkakngifaaGreatDoorRO3
set_option linter.unusedVariables false
set_option linter.unusedSimpArgs false
set_option maxRecDepth 100000
set_option maxHeartbeats 8000000
namespace Go.Proofs.YtgcmnkkakngifaaGreatDoor
open Go.ChangeShapes Go.WideShapes Go.ChangeAt Go.RowKit
theorem impl_AgreeOn1 (b:Nat) (av:Option Addr) (cv:Nat) (ss:List ByteArray) (y:ByteArray) (w:World) (hv:RdS w (.slice av ss.length cv) ss) (hy:y.size<=9223372036854775807) (hb:w.cell? ⟨b,0,none⟩ = some (.slice av ss.length cv)) :
  Calls Tryz.prog 103 #[.string y,.pointer (some ⟨b,0,none⟩)] w fun e w'=>e = .returned (.bool (spansHave ss y))/\Below w.heap.size w w':=by
 have HV:=Lib.hid hv
 clear hv
 go_enter Tryz.func103,Tryz.ntmps103
 go_wp2_with fail
 (go_at_call 104;refine (impl_spansHave _ ss y _ HV.out hy).mono ?_;rintro e w' ⟨rfl,hb⟩;obtain ⟨X,rfl⟩:=hb.ext;clear hb)
 go_wp2
 go_ret
 exact ⟨rfl,(by repeat (first|with_reducible exact Below.refl _ _|with_reducible apply Below.ofExt))⟩
theorem IndexFunc_A (v:Value) (ys:List ByteArray) (c:Nat) (av:Option Addr) (cv:Nat) (ss:List ByteArray) (w:World) (hs:RdS w v ys) (hv:RdS w (.slice av ss.length cv) ss) (hcl:c < w.heap.size) (hc:w.cell? ⟨c,0,none⟩ = some (.slice av ss.length cv)) :
  Calls Tryz.prog 132 #[v,.func (Fn.func 103) #[] #[.pointer (some ⟨c,0,none⟩)]] w fun e w'=>∃ r:Int,e = .returned (.int .i64 r)/\(decide (0<=r)=ys.any (spansHave ss))/\Below w.heap.size w w':=by
 have HV:=Lib.hid hv
 clear hv
 obtain ⟨ao,cap,rfl,hc1,hc2,hnil,hcell,hz⟩:=hs
 have HX:=Lib.hid hcell
 have HZ:=Lib.hid hz
 clear hcell hnil hz
 unfold maxLen at hc2
 go_enter Tryz.func132,Tryz.ntmps132
 go_wp2
 go_loopw [8] (fun k wr=>∃ (n:Nat),k = .int .i64 n/\n<=ys.length/\Below w.heap.size w wr/\(ys.take n).any (spansHave ss)=false) (fun k _=>ys.length - (intOf k).toNat)
 case atStart=>exact ⟨0,rfl,by omega,(by repeat (with_reducible exact Below.refl _ _)),rfl⟩
 case round =>
  obtain ⟨n,rfl,hn,hbel,hany⟩:=hrel
  obtain ⟨X,rfl⟩:=hbel.ext
  have HA:=Lib.hid hany
  clear hany hbel
  by_cases hlt:(n:Int) < ys.length
  ·have hk:n < ys.length:=by omega
   obtain ⟨b,off,rfl,hbl,hcell⟩:=HX.out (by intro e;simp [e] at hk)
   have hcc:=hcell n hk
   have hstep:=zaR (spansHave ss) ys n hk
   have hyz:=HZ.out _ (List.getElem_mem hk)
   generalize ys[n]=y at hcc hstep hyz
   have HT:=Lib.hid hstep
   clear hcell hstep
   cases hm:(spansHave ss) y with
   | true =>
    go_wp2_with fail
    (go_at_call 103;refine (impl_AgreeOn1 c av cv ss y _ (by (skip);(repeat (first|with_reducible exact HV.out|with_reducible apply RdS.ext));all_goals exact (0:Nat)) hyz (by simp [go_sem,hcl,hc])).mono ?_;rintro e w' ⟨rfl,hb⟩;obtain ⟨X,rfl⟩:=hb.ext;clear hb)
    rw [show _=true from hm]
    go_wp2
    go_ret
    refine ⟨n,rfl,?_,(by repeat (first|with_reducible exact Below.refl _ _|with_reducible apply Below.ofExt))⟩
    rw [zgZ _ ys (n + 1) (by rw [HT.out,hm,Bool.or_true])]
    simp
   | false =>
    go_wp2_with fail
    (go_at_call 103;refine (impl_AgreeOn1 c av cv ss y _ (by (skip);(repeat (first|with_reducible exact HV.out|with_reducible apply RdS.ext));all_goals exact (0:Nat)) hyz (by simp [go_sem,hcl,hc])).mono ?_;rintro e w' ⟨rfl,hb⟩;obtain ⟨X,rfl⟩:=hb.ext;clear hb)
    rw [show _=false from hm]
    go_wp2
    go_roundw
    case rel=>exact ⟨n + 1,by go_num,by omega,(by repeat (first|with_reducible exact Below.refl _ _|with_reducible apply Below.ofExt)),by rw [HT.out,HA.out,hm];rfl⟩
    case measure=>simp [intOf];omega
  ·go_wp2
   go_ret
   have e:n=ys.length:=by omega
   subst e
   have ha:=HA.out
   rw [List.take_length] at ha
   refine ⟨-1,rfl,?_,(by repeat (first|with_reducible exact Below.refl _ _|with_reducible apply Below.ofExt))⟩
   rw [ha]
   rfl
theorem ContainsFunc_A (v:Value) (ys:List ByteArray) (c:Nat) (av:Option Addr) (cv:Nat) (ss:List ByteArray) (w:World) (hs:RdS w v ys) (hv:RdS w (.slice av ss.length cv) ss) (hcl:c < w.heap.size) (hc:w.cell? ⟨c,0,none⟩ = some (.slice av ss.length cv)) :
  Calls Tryz.prog 88 #[v,.func (Fn.func 103) #[] #[.pointer (some ⟨c,0,none⟩)]] w fun e w'=>e = .returned (.bool (ys.any (spansHave ss)))/\Below w.heap.size w w':=by
 go_enter Tryz.func88,Tryz.ntmps88
 go_wp2_with fail
 (go_at_call 132;refine (IndexFunc_A v ys c av cv ss _ hs hv hcl hc).mono ?_;rintro e w' ⟨r,rfl,hr,hb⟩;obtain ⟨X,rfl⟩:=hb.ext;clear hb)
 go_wp2
 go_ret
 exact ⟨by rw [<- hr];rfl,(by repeat (first|with_reducible exact Below.refl _ _|with_reducible apply Below.ofExt))⟩
theorem spec_AgreeOn (va vb vs:Value) (a b:List CellD) (ss:List ByteArray) (w:World) (ha:RdL zu w va a) (hb:RdL zu w vb b) (hs:RdS w vs ss) (hka:∀ c ∈ a,c.ok) (hkb:∀ c ∈ b,c.ok) (hl:a.length<=549755813888) (hl2:b.length<=549755813888) :
  Calls Tryz.prog 74 #[va,vb,vs] w fun e w'=>e = .returned (.bool !((diffC a b).any (spansHave ss)))/\Below w.heap.size w w':=by
 have HS:=Lib.hid hs
 have HA:=Lib.hid ha
 have HB:=Lib.hid hb
 have HKA:=Lib.hid hka
 have HKB:=Lib.hid hkb
 obtain ⟨aa,ca,rfl⟩:=ha.form
 obtain ⟨ab,cb,rfl⟩:=hb.form
 obtain ⟨sa,sc,rfl,hs1,hs2,_⟩:=hs
 clear ha hb hka hkb
 obtain ⟨ks,hks⟩ : ∃ ks,ks=diffC a b:=⟨_,rfl⟩
 have HKS:=Lib.hid hks
 have HKZ:Hid (∀ s ∈ ks,s.size<=9223372036854775807):=(by rw [hks];exact diffC_ok a b HKA.out HKB.out)
 have hkl:ks.length<=1099511627776:=by rw [hks];have:=diffC_len a b;omega
 rw [<- hks]
 clear hks
 go_enter Tryz.func74,Tryz.ntmps74
 go_wp2_with fail
 (go_at_call 99;refine (spec_DiffKeys _ _ a b _ (by (skip);(repeat (with_reducible exact HA.out));all_goals exact (0:Nat)) (by (skip);(repeat (with_reducible exact HB.out));all_goals exact (0:Nat)) hl hl2).mono ?_;rintro e w' ⟨v',rfl,ho',hb'⟩;rw [<- HKS.out] at ho';have HP:=Lib.hid (RdS.ofL ho'.rd HKZ.out);obtain ⟨Y,rfl⟩:=hb'.ext;clear ho' hb')
 obtain ⟨ka,kc,rfl,hk1,hk2,_⟩:=HP.out
 go_wp2
 go_loopw [8] (fun k wr=>∃ (n:Nat),k = .int .i64 n/\n<=ks.length/\Below w.heap.size w wr/\RdS wr (.slice ka ks.length kc) ks/\(ks.take n).any (spansHave ss)=false) (fun k _=>ks.length - (intOf k).toNat)
 case atStart=>exact ⟨0,rfl,by omega,(by repeat (first|with_reducible exact Below.refl _ _|with_reducible apply Below.ofExt)),HP.out,rfl⟩
 case round =>
  clear HP
  obtain ⟨n,rfl,hn,hbel,hrd,hany⟩:=hrel
  obtain ⟨X,rfl⟩:=hbel.ext
  have HA2:=Lib.hid hany
  have HP:=Lib.hid hrd
  clear hany hbel hrd
  by_cases hlt:(n:Int) < ks.length
  ·have hk:n < ks.length:=by omega
   obtain ⟨ka',kc',hkv,hc1,hc2,hnil,hcell,_⟩:=HP.out
   cases hkv
   obtain ⟨kb,koff,rfl,hbl,hcell⟩:=hcell (by intro e;simp [e] at hk)
   have y0:=hcell n hk
   have hst:=zaR (spansHave ss) ks n hk
   have hyz:=HKZ.out _ (List.getElem_mem hk)
   generalize ks[n]=key at y0 hst hyz
   have y1:∀ dr,(w.ext ⟨X.bs,dr⟩).cell? ⟨kb,koff + n,none⟩ = some (.string key):=fun dr=>y0
   have hbl2:kb < w.heap.size + X.bs.size:=by rw [zm] at hbl;exact hbl
   have HT:=Lib.hid hst
   have HYZ:=Lib.hid hyz
   clear hst hcell hnil hbl hyz
   have hc:covers ss [key]=spansHave ss key:=by simp [covers]
   have HC:=Lib.hid hc
   clear hc
   cases hm:spansHave ss key with
   | true =>
    go_wp2_with fail
    (go_at_call 100;refine (spec_Covers _ _ ss [key] _ (by (skip);(repeat (first|with_reducible exact HS.out|with_reducible apply RdS.ext|with_reducible apply RdS.alloc));all_goals exact (0:Nat)) (RdS.ofL (zat zx _ key _ rfl _ _ (by simp [zm])) (by simpa using HYZ.out))).mono ?_;rintro e w' ⟨rfl,hb⟩;obtain ⟨X,rfl⟩:=hb.ext;clear hb)
    rw [HC.out,hm]
    go_wp2
    go_ret
    exact ⟨by rw [zgZ _ ks (n + 1) (by rw [HT.out,hm,Bool.or_true])];rfl,(by repeat (first|with_reducible exact Below.refl _ _|with_reducible apply Below.ofExt|with_reducible apply Below.ofAlloc|with_reducible apply Below.drew|with_reducible apply Below.ofDrewN|with_reducible assumption|(with_reducible refine Below.setCell ?_ (by first|exact Nat.le_refl _|(simp [go_sem];done)|(simp [go_sem];omega)) _)))⟩
   | false =>
    go_wp2_with fail
    (go_at_call 100;refine (spec_Covers _ _ ss [key] _ (by (skip);(repeat (first|with_reducible exact HS.out|with_reducible apply RdS.ext|with_reducible apply RdS.alloc));all_goals exact (0:Nat)) (RdS.ofL (zat zx _ key _ rfl _ _ (by simp [zm])) (by simpa using HYZ.out))).mono ?_;rintro e w' ⟨rfl,hb⟩;obtain ⟨X,rfl⟩:=hb.ext;clear hb)
    rw [HC.out,hm]
    go_wp2
    go_roundw
    case rel=>exact ⟨n + 1,by go_num,by omega,(by repeat (first|with_reducible exact Below.refl _ _|with_reducible apply Below.ofExt|with_reducible apply Below.ofAlloc)),(by (skip);(repeat (first|with_reducible exact HP.out|with_reducible apply RdS.ext|with_reducible apply RdS.alloc));all_goals exact (0:Nat)),by rw [HT.out,HA2.out,hm];rfl⟩
    case measure=>simp [intOf];omega
  ·go_wp2
   go_ret
   have e:n=ks.length:=by omega
   subst e
   have ha:=HA2.out
   rw [List.take_length] at ha
   exact ⟨by rw [ha];rfl,(by repeat (first|with_reducible exact Below.refl _ _|with_reducible apply Below.ofExt))⟩
theorem impl_AgreeOn (va vb vs:Value) (a b:List CellD) (ss:List ByteArray) (w:World) (ha:RdL zu w va a) (hb:RdL zu w vb b) (hs:RdS w vs ss) (hka:∀ c ∈ a,c.ok) (hkb:∀ c ∈ b,c.ok) (hl:a.length<=549755813888) (hl2:b.length<=549755813888) :
  Calls Tryz.prog 77 #[va,vb,vs] w fun e w'=>e = .returned (.bool !((diffC a b).any (spansHave ss)))/\Below w.heap.size w w':=by
 have HS:=Lib.hid hs
 have HA:=Lib.hid ha
 have HB:=Lib.hid hb
 have HKA:=Lib.hid hka
 have HKB:=Lib.hid hkb
 obtain ⟨aa,ca,rfl⟩:=ha.form
 obtain ⟨ab,cb,rfl⟩:=hb.form
 obtain ⟨sa,sc,rfl,hs1,hs2,_⟩:=hs
 clear ha hb hka hkb
 go_enter Tryz.func77,Tryz.ntmps77
 go_wp2_with fail
 (go_at_call 102;refine (impl_DiffKeys _ _ a b _ (by (skip);(repeat (first|with_reducible exact HA.out|with_reducible apply RdL.alloc));all_goals exact (0:Nat)) (by (skip);(repeat (first|with_reducible exact HB.out|with_reducible apply RdL.alloc));all_goals exact (0:Nat)) HKA.out HKB.out hl hl2).mono ?_;rintro e w' ⟨v',rfl,ho',hb'⟩;have HP:=Lib.hid (RdS.ofL ho'.rd (diffC_ok a b HKA.out HKB.out));obtain ⟨Y,rfl⟩:=hb'.ext;clear ho' hb')
 go_wp2_with fail
 (go_at_call 88;refine (ContainsFunc_A _ (diffC a b) _ sa sc ss _ (by (skip);(repeat (with_reducible exact HP.out));all_goals exact (0:Nat)) (by (skip);(repeat (first|with_reducible exact HS.out|with_reducible apply RdS.ext|with_reducible apply RdS.alloc));all_goals exact (0:Nat)) (by simp [go_sem,zm];try omega) (by simp [go_sem])).mono ?_;rintro e w' ⟨rfl,hb⟩;obtain ⟨X,rfl⟩:=hb.ext;clear hb)
 go_wp2
 go_ret
 exact ⟨rfl,(by repeat (first|with_reducible exact Below.refl _ _|with_reducible apply Below.ofExt|with_reducible apply Below.ofAlloc))⟩
def agreeOn (a b:List CellD) (ss:List ByteArray):Bool:=!((diffC a b).any (spansHave ss))
def restOf (a b:List CellD) (r:List AnswerD) (m:MachD) (r':List AnswerD) (m':MachD):Bool :=
 !(agreeOn a b m.rd) || (sameL eqAnswer r r' && (sameTouch ⟨m.rd,m.wr⟩ ⟨m'.rd,m'.wr⟩ && agreeOn m.cells m'.cells m.wr))
theorem rdS_of' {w:World} {v:Value} {xs:List ByteArray} (h:RdL zx w v xs) (hz:∀ s ∈ xs,s.size<=8388608):RdS w v xs:=RdS.ofL h (fun s hs=>Nat.le_trans (hz s hs) (by decide))
theorem small_ok {m:MachD} (h:Mp.Small m):∀ c ∈ m.cells,c.ok:=fun c hc=>⟨by have:=(h.cz c hc).1;omega,by have:=(h.cz c hc).2;omega⟩
theorem rdT_of {w:World} {v:Value} {xs:List ByteArray} {e:TypeId} (h:RdL zx w v xs) (hz:∀ s ∈ xs,s.size<=8388608):(vSlice vStr e).rd w [v] xs:=rd_of_RdL (R:=zx) rfl rfl (by decide) h (fun s hs=>Nat.le_trans (hz s hs) (by decide))
theorem spec_StepsRestOn (va vb vs:Value) (a b:List CellD) (l:List StepD) (w:World) (ha:RdL zu w va a) (hb:RdL zu w vb b) (hs:RdL zjq w vs l) (hka:∀ c ∈ a,c.ok) (hkb:∀ c ∈ b,c.ok) (hf:∀ s ∈ l,s.fine) (hla:a.length<=1048576) (hlb:b.length<=1048576) (hl:l.length<=1048576) (hfa:zfL l ⟨a,[],[]⟩) (hfb:zfL l ⟨b,[],[]⟩)
  (r r':List AnswerD) (m m':MachD) (hr:(K.runAll l).run ⟨a,[],[]⟩ = (r,m)) (hr':(K.runAll l).run ⟨b,[],[]⟩ = (r',m')) (hsm:Mp.Small m) (hsm':Mp.Small m') (hok:∀ x ∈ r,x.ok) (hok':∀ x ∈ r',x.ok) :
  Calls Tryz.prog 34 #[va,vb,vs] w fun e w'=>e = .returned (.bool (restOf a b r m r' m'))/\Below w.heap.size w w':=by
 have D1:=Lib.hid (fun w' (hB:Below w.heap.size w w')=>spec_l15Run va vs a l w' (ha.below hB) (hs.below hB) hf hla hl hfa)
 have D2:=Lib.hid (fun w' (hB:Below w.heap.size w w')=>spec_l15Run vb vs b l w' (hb.below hB) (hs.below hB) hf hlb hl hfb)
 have D3:=Lib.hid (fun w' v ss (hB:Below w.heap.size w w') hv=>spec_AgreeOn va vb v a b ss w' (ha.below hB) (hb.below hB) hv hka hkb (by omega) (by omega))
 have D4:=Lib.hid (fun w' u u' v ss hu hu' hv=>spec_AgreeOn u u' v m.cells m'.cells ss w' hu hu' hv (small_ok hsm) (small_ok hsm') (Nat.le_trans hsm.cl (by decide)) (Nat.le_trans hsm'.cl (by decide)))
 rw [hr] at D1
 rw [hr'] at D2
 dsimp only at D1 D2
 have HSM:=Lib.hid hsm
 have HSM':=Lib.hid hsm'
 have HOK:=Lib.hid hok
 have HOK':=Lib.hid hok'
 obtain ⟨aa,ca,rfl⟩:=ha.form
 obtain ⟨ab,cb,rfl⟩:=hb.form
 obtain ⟨al,cl,rfl⟩:=hs.form
 clear ha hb hs hka hkb hf hfa hfb hr hr' hsm hsm' hok hok'
 go_enter Tryz.func34,Tryz.ntmps34
 (repeat (first|go_skip|go_guarded|go_step|go_upon|go_back))
 (go_at_call 43;refine (D1.out _ (by repeat (with_reducible exact Below.refl _ _))).mono ?_;rintro e w1 ⟨v0,v1,v2,v3,rfl,h0,h1,h2,h3,hb⟩)
 obtain ⟨b0,d0,rfl⟩:=h0.form
 obtain ⟨b1,d1,rfl⟩:=h1.form
 obtain ⟨b2,d2,rfl⟩:=h2.form
 obtain ⟨b3,d3,rfl⟩:=h3.form
 have H0:=Lib.hid h0
 have H1:Hid ((vSlice vAnswer 98).rd w1 _ r):=rd_of_RdL rfl rfl (by decide) h1 HOK.out
 have H2:=Lib.hid h2
 have H3:=Lib.hid h3
 have HB1:Hid (Below w.heap.size w w1):=Lib.hid hb
 clear h0 h1 h2 h3 hb D1
 ((try simp only []);repeat (first|go_skip|go_guarded|go_step|go_upon|go_back))
 (go_at_call 74;refine (D3.out _ _ m.rd (by repeat (first|with_reducible exact HB1.out|with_reducible apply Below.ofAlloc)) (rdS_of' (by repeat (first|with_reducible exact H2.out|with_reducible apply RdL.alloc)) HSM.out.rz)).mono ?_;rintro e w2 ⟨rfl,hb⟩;obtain ⟨X2,rfl⟩:=hb.ext;clear hb)
 clear D3
 rw [show (!((diffC a b).any (spansHave m.rd)))=agreeOn a b m.rd from rfl]
 cases qa:agreeOn a b m.rd with
 | false =>
  ((try simp only []);repeat (first|go_skip|go_guarded|go_step|go_upon|go_back))
  refine bodyPost_ret (by simp [results,Tryz.results34,go_sem];rfl) rfl ?_
  exact ⟨by unfold restOf;rw [qa];rfl,by repeat (first|with_reducible exact HB1.out|with_reducible apply Below.ofExt|with_reducible apply Below.ofAlloc)⟩
 | true =>
  ((try simp only []);repeat (first|go_skip|go_guarded|go_step|go_upon|go_back))
  (go_at_call 43;refine (D2.out _ (by repeat (first|with_reducible exact HB1.out|with_reducible apply Below.ofExt|with_reducible apply Below.ofAlloc))).mono ?_;rintro e w3 ⟨u0,u1,u2,u3,rfl,k0,k1,k2,k3,hb⟩;obtain ⟨X3,rfl⟩:=hb.ext;clear hb)
  simp only [zo] at k0 k1 k2 k3
  obtain ⟨f0,g0,rfl⟩:=k0.form
  obtain ⟨f1,g1,rfl⟩:=k1.form
  obtain ⟨f2,g2,rfl⟩:=k2.form
  obtain ⟨f3,g3,rfl⟩:=k3.form
  have K0:=Lib.hid k0
  have K1:Hid ((vSlice vAnswer 98).rd _ _ r'):=rd_of_RdL rfl rfl (by decide) k1 HOK'.out
  have K2:=Lib.hid k2
  have K3:=Lib.hid k3
  clear k0 k1 k2 k3 D2
  ((try simp only []);repeat (first|go_skip|go_guarded|go_step|go_upon|go_back))
  (go_at_call 45;refine (spec_SameAnswers _ r _ r' _ (by repeat (first|with_reducible exact H1.out|with_reducible apply View.rdExt|with_reducible apply View.rdAlloc)) (by repeat (first|with_reducible exact K1.out|with_reducible apply View.rdAlloc))).mono ?_;rintro e w' ⟨rfl,hb⟩;obtain ⟨X,rfl⟩:=hb.ext;clear hb)
  cases qb:sameL eqAnswer r r' with
  | false =>
   ((try simp only []);repeat (first|go_skip|go_guarded|go_step|go_upon|go_back))
   refine bodyPost_ret (by simp [results,Tryz.results34,go_sem];rfl) rfl ?_
   exact ⟨by unfold restOf;rw [qa,qb];rfl,by repeat (first|with_reducible exact HB1.out|with_reducible apply Below.ofExt|with_reducible apply Below.ofAlloc)⟩
  | true =>
   ((try simp only []);repeat (first|go_skip|go_guarded|go_step|go_upon|go_back))
   (go_at_call 75;refine (spec_SameTouch _ ⟨m.rd,m.wr⟩ _ ⟨m'.rd,m'.wr⟩ _ ⟨_,_,rfl,rdT_of (by repeat (first|with_reducible exact H2.out|with_reducible apply RdL.ext|with_reducible apply RdL.alloc)) HSM.out.rz,rdT_of (by repeat (first|with_reducible exact H3.out|with_reducible apply RdL.ext|with_reducible apply RdL.alloc)) HSM.out.wz⟩ ⟨_,_,rfl,rdT_of (by repeat (first|with_reducible exact K2.out|with_reducible apply RdL.ext|with_reducible apply RdL.alloc)) HSM'.out.rz,rdT_of (by repeat (first|with_reducible exact K3.out|with_reducible apply RdL.ext|with_reducible apply RdL.alloc)) HSM'.out.wz⟩).mono ?_;rintro e w' ⟨rfl,hb⟩;obtain ⟨X,rfl⟩:=hb.ext;clear hb)
   cases qc:sameTouch ⟨m.rd,m.wr⟩ ⟨m'.rd,m'.wr⟩ with
   | false =>
    ((try simp only []);repeat (first|go_skip|go_guarded|go_step|go_upon|go_back))
    refine bodyPost_ret (by simp [results,Tryz.results34,go_sem];rfl) rfl ?_
    exact ⟨by unfold restOf;rw [qa,qb,qc];rfl,by repeat (first|with_reducible exact HB1.out|with_reducible apply Below.ofExt|with_reducible apply Below.ofAlloc)⟩
   | true =>
    ((try simp only []);repeat (first|go_skip|go_guarded|go_step|go_upon|go_back))
    (go_at_call 74;refine (D4.out _ _ _ _ m.wr (by repeat (first|with_reducible exact H0.out|with_reducible apply RdL.ext|with_reducible apply RdL.alloc)) (by repeat (first|with_reducible exact K0.out|with_reducible apply RdL.ext|with_reducible apply RdL.alloc)) (rdS_of' (by repeat (first|with_reducible exact H3.out|with_reducible apply RdL.alloc|with_reducible apply RdL.ext)) HSM.out.wz)).mono ?_;rintro e w4 ⟨rfl,hb⟩;obtain ⟨X4,rfl⟩:=hb.ext;clear hb)
    ((try simp only []);repeat (first|go_skip|go_guarded|go_step|go_upon|go_back))
    refine bodyPost_ret (by simp [results,Tryz.results34,go_sem];rfl) rfl ?_
    exact ⟨by unfold restOf;rw [qa,qb,qc];rfl,by repeat (first|with_reducible exact HB1.out|with_reducible apply Below.ofExt|with_reducible apply Below.ofAlloc)⟩
theorem sameL_symm {α : Type} (p : α->α->Bool) (hp:∀ x y,p x y=p y x):∀ xs ys:List α,sameL p xs ys=sameL p ys xs:=by
 have h:∀ xs ys:List α,((xs.zip ys).all fun z=>p z.1 z.2)=((ys.zip xs).all fun z=>p z.1 z.2):=by
  intro xs
  induction xs with
  | nil=>intro ys;cases ys<;>rfl
  | cons x xs ih =>
   intro ys
   cases ys with
   | nil=>rfl
   | cons y ys =>
    simp only [List.zip_cons_cons,List.all_cons]
    rw [ih ys,hp x y]
 intro xs ys
 unfold sameL
 rw [h xs ys]
 congr 1
 exact decide_eq_decide.2 ⟨Eq.symm,Eq.symm⟩
theorem eqAnswer_symm (x y:AnswerD):eqAnswer x y=eqAnswer y x:=by
 unfold eqAnswer
 rw [Bool.beq_comm (a:=x.code),Bool.beq_comm (a:=x.n),Bool.beq_comm (a:=x.text.toList)]
theorem impl_StepsRestOn (va vb vs:Value) (a b:List CellD) (l:List StepD) (w:World) (hg:Glob w) (ha:RdL zu w va a) (hb:RdL zu w vb b) (hs:RdL zjq w vs l) (hka:∀ c ∈ a,c.ok) (hkb:∀ c ∈ b,c.ok) (hf:∀ s ∈ l,s.fine) (hla:a.length<=1048576) (hlb:b.length<=1048576) (hl:l.length<=1048576) (hfa:(K.runAll l).fits ⟨a,[],[]⟩) (hfb:(K.runAll l).fits ⟨b,[],[]⟩)
  (r r':List AnswerD) (m m':MachD) (hr:(K.runAll l).run ⟨a,[],[]⟩ = (r,m)) (hr':(K.runAll l).run ⟨b,[],[]⟩ = (r',m')) (hsm:Mp.Small m) (hsm':Mp.Small m') (hok:∀ x ∈ r,x.ok) (hok':∀ x ∈ r',x.ok) :
  Calls Tryz.prog 36 #[va,vb,vs] w fun e w'=>e = .returned (.bool (restOf a b r m r' m'))/\Below w.heap.size w w':=by
 have DA:=Lib.hid (fun w' (hB:Below w.heap.size w w')=>impl_MachOf va a w' (ha.below hB) (by omega))
 have DB:=Lib.hid (fun w' (hB:Below w.heap.size w w')=>impl_MachOf vb b w' (hb.below hB) (by omega))
 have D1:=Lib.hid (fun w1 fp p H=>impl_run vs l hf hl w w1 fp p ⟨a,[],[]⟩ H hs hfa)
 have D2:=Lib.hid (fun w1 fp p H=>impl_run vs l hf hl w w1 fp p ⟨b,[],[]⟩ H hs hfb)
 have D3:=Lib.hid (fun w' v ss (hB:Below w.heap.size w w') hv=>impl_AgreeOn va vb v a b ss w' (ha.below hB) (hb.below hB) hv hka hkb (by omega) (by omega))
 have D4:=Lib.hid (fun w' u u' v ss hu hu' hv=>impl_AgreeOn u u' v m.cells m'.cells ss w' hu hu' hv (small_ok hsm) (small_ok hsm') hsm.cl hsm'.cl)
 rw [hr] at D1
 rw [hr'] at D2
 dsimp only at D1 D2
 have HSM:=Lib.hid hsm
 have HSM':=Lib.hid hsm'
 have HOK:=Lib.hid hok
 have HOK':=Lib.hid hok'
 have HG:=Lib.hid hg
 obtain ⟨aa,ca,rfl⟩:=ha.form
 obtain ⟨ab,cb,rfl⟩:=hb.form
 obtain ⟨al,cl,rfl⟩:=hs.form
 clear ha hb hs hka hkb hf hfa hfb hr hr' hsm hsm' hok hok' hg
 go_enter Tryz.func36,Tryz.ntmps36
 (repeat (first|go_skip|go_guarded|go_step|go_upon|go_back))
 (go_at_call 52;refine (DA.out _ (by repeat (with_reducible exact Below.refl _ _))).mono ?_;rintro e w1 ⟨pa,pc,rfl,ho,hb⟩)
 have HO1:=Lib.hid ho
 have HB1:Hid (Below w.heap.size w w1):=Lib.hid hb
 clear ho hb
 ((try simp only []);repeat (first|go_skip|go_guarded|go_step|go_upon|go_back))
 (go_at_call 52;refine (DB.out _ HB1.out).mono ?_;rintro e w2 ⟨pb,pd,rfl,ho,hb⟩)
 have HO2:=Lib.hid ho
 have HP1:=Lib.hid (zgF HO1.out hb)
 have HB2:Hid (Below w.heap.size w w2):=Lib.hid (Below.then HB1.out hb)
 have s01:=HB1.out.size
 have s12:=hb.size
 clear ho hb DA DB
 have h2:=zcf w2 (.cells #[.slice pa a.length pc,.slice none 0 0,.slice none 0 0] 85) (.cells #[.slice pb b.length pd,.slice none 0 0,.slice none 0 0] 85) _ rfl
 have hM1:IM w ((w2.alloc (.cells #[.slice pa a.length pc,.slice none 0 0,.slice none 0 0] 85)).alloc (.cells #[.slice pb b.length pd,.slice none 0 0,.slice none 0 0] 85)) w2.heap.size (w2.heap.size :: (Value.slice pa a.length pc).ownBlock.toList) ⟨a,[],[]⟩:=by
  refine ⟨⟨pa,pc,none,0,none,0,h2.1,(HP1.out.alloc _).alloc _,OwnL.nil zx _ _ _,OwnL.nil zx _ _ _,(fun k hk=>by cases hk),(fun k hk=>?_),(fun k hk=>by cases hk),(fun k hk=>by cases hk)⟩,List.mem_cons_self,(fun j hj=>?_),(fun j hj=>?_),(HB2.out.ofAlloc _).ofAlloc _,HG.out⟩
  ·simp only [List.mem_cons,Option.mem_toList];exact .inr hk
  ·simp only [List.mem_cons,Option.mem_toList] at hj
   rcases hj with rfl|hj
   ·have:=HB2.out.size;omega
   ·exact (HP1.out.lt j hj).1
  ·simp only [List.mem_cons,Option.mem_toList] at hj
   rcases hj with rfl|hj
   ·simp only [World.size_alloc];omega
   ·have:=(HP1.out.lt j hj).2;simp;omega
 have hM2:IM w ((w2.alloc (.cells #[.slice pa a.length pc,.slice none 0 0,.slice none 0 0] 85)).alloc (.cells #[.slice pb b.length pd,.slice none 0 0,.slice none 0 0] 85)) (w2.heap.size + 1) ((w2.heap.size + 1) :: (Value.slice pb b.length pd).ownBlock.toList) ⟨b,[],[]⟩:=by
  refine ⟨⟨pb,pd,none,0,none,0,h2.2,((HO2.out.base HB1.out.size).alloc _).alloc _,OwnL.nil zx _ _ _,OwnL.nil zx _ _ _,(fun k hk=>by cases hk),(fun k hk=>?_),(fun k hk=>by cases hk),(fun k hk=>by cases hk)⟩,List.mem_cons_self,(fun j hj=>?_),(fun j hj=>?_),(HB2.out.ofAlloc _).ofAlloc _,HG.out⟩
  ·simp only [List.mem_cons,Option.mem_toList];exact .inr hk
  ·simp only [List.mem_cons,Option.mem_toList] at hj
   rcases hj with rfl|hj
   ·have:=HB2.out.size;omega
   ·exact ((HO2.out.base HB1.out.size).lt j hj).1
  ·simp only [List.mem_cons,Option.mem_toList] at hj
   rcases hj with rfl|hj
   ·simp only [World.size_alloc];omega
   ·have:=((HO2.out.base HB1.out.size).lt j hj).2;simp;omega
 have HD:Hid (∀ j ∈ w2.heap.size :: (Value.slice pa a.length pc).ownBlock.toList,j ∉ (w2.heap.size + 1) :: (Value.slice pb b.length pd).ownBlock.toList):=Lib.hid (fun j hj hx=>by
  simp only [List.mem_cons,Option.mem_toList] at hj hx
  rcases hj with rfl|hj<;>rcases hx with hx|hx
  ·omega
  ·have:=(HO2.out.lt _ hx).2;omega
  ·have:=(HO1.out.lt _ hj).2;omega
  ·have h1:=(HO1.out.lt _ hj).2;have h2:=(HO2.out.lt _ hx).1;omega)
 have HM1:=Lib.hid hM1
 have HM2:=Lib.hid hM2
 generalize w2.heap.size :: (Value.slice pa a.length pc).ownBlock.toList=f1 at HM1 HD
 generalize (w2.heap.size + 1) :: (Value.slice pb b.length pd).ownBlock.toList=f2 at HM2 HD
 clear hM1 hM2 h2 HO1 HO2 HP1
 ((try simp only []);repeat (first|go_skip|go_guarded|go_step|go_upon|go_back))
 (go_at_call 53;refine (D1.out _ _ _ HM1.out).mono ?_;rintro e w3 ⟨vo,rfl,g1,hm,ht,hk⟩)
 obtain ⟨oa,oc,rfl⟩:=hk.1.rd.form
 have HN2:=Lib.hid (IM.upon HM2.out ht.up HD.out HM1.out.lo)
 have HE:Hid (∀ j ∈ f2,j ∉ g1):=Lib.hid (fun j hj h=>(ht.sub j h).elim (fun h1=>HD.out j h1 hj) (fun h1=>absurd h1 (Nat.not_le.2 (HM2.out.hi j hj))))
 have HF:Hid (∀ j,(Value.slice oa r.length oc).ownBlock=some j->j ∉ f2):=Lib.hid (fun j hj hx=>absurd (hk.1.lt j hj).1 (Nat.not_le.2 (HM2.out.hi j hx)))
 have HN1:=Lib.hid hm
 have HK:=Lib.hid hk
 have HB3:Hid (Below w.heap.size w w3):=Lib.hid hm.bel
 obtain ⟨⟨n0,k0,n1,k1,n2,k2,hp,o0,o1,o2,_⟩,_⟩:=hm
 have H2:=Lib.hid o1.rd
 have q1:w3.cell? ⟨w2.heap.size,1,none⟩ = some (.slice n1 m.rd.length k1):=(zd (i:=1) hp).trans rfl
 have hpl:=za hp
 clear hp o0 o1 o2 hk ht HM1 HM2 D1 HD
 ((try simp only []);repeat (first|go_skip|go_guarded|go_step|go_upon|go_back))
 (go_at_call 77;refine (D3.out _ _ m.rd HB3.out (rdS_of' H2.out HSM.out.rz)).mono ?_;rintro e w4 ⟨rfl,hb⟩)
 have HB4:=Lib.hid (Below.then HB3.out hb)
 have HQ1:=Lib.hid (HN1.out.below hb)
 have HQ2:=Lib.hid (HN2.out.below hb)
 have HK4:=Lib.hid (HK.out.below hb)
 clear hb D3 HN1 HN2 HK H2 q1 hpl HB3
 rw [show (!((diffC a b).any (spansHave m.rd)))=agreeOn a b m.rd from rfl]
 cases qa:agreeOn a b m.rd with
 | false =>
  ((try simp only []);repeat (first|go_skip|go_guarded|go_step|go_upon|go_back))
  refine bodyPost_ret (by simp [results,Tryz.results36,go_sem];rfl) rfl ?_
  exact ⟨by unfold restOf;rw [qa];rfl,HB4.out⟩
 | true =>
  ((try simp only []);repeat (first|go_skip|go_guarded|go_step|go_upon|go_back))
  (go_at_call 53;refine (D2.out _ _ _ HQ2.out).mono ?_;rintro e w5 ⟨vo2,rfl,g2,hm2,ht2,hk2⟩)
  obtain ⟨ob,od,rfl⟩:=hk2.1.rd.form
  have hm1:=HQ1.out.upon ht2.up HE.out HQ2.out.lo
  have hk1:=HK4.out.upon ht2.up HF.out
  have HB5:=Lib.hid hm2.bel
  have A1:Hid ((vSlice vAnswer 98).rd w5 _ r):=rd_of_RdL rfl rfl (by decide) hk1.1.rd HOK.out
  have A2:Hid ((vSlice vAnswer 98).rd w5 _ r'):=rd_of_RdL rfl rfl (by decide) hk2.1.rd HOK'.out
  obtain ⟨⟨x0,y0,x1,y1,x2,y2,hp,o0,o1,o2,_⟩,_⟩:=hm1
  obtain ⟨⟨u0,t0,u1,t1,u2,t2,hp',o0',o1',o2',_⟩,_⟩:=hm2
  have H0:=Lib.hid o0.rd
  have H1:=Lib.hid o1.rd
  have H2:=Lib.hid o2.rd
  have K0:=Lib.hid o0'.rd
  have K1:=Lib.hid o1'.rd
  have K2:=Lib.hid o2'.rd
  have q0:w5.cell? ⟨w2.heap.size,0,none⟩ = some (.slice x0 m.cells.length y0):=(zd (i:=0) hp).trans rfl
  have q1:w5.cell? ⟨w2.heap.size,1,none⟩ = some (.slice x1 m.rd.length y1):=(zd (i:=1) hp).trans rfl
  have q2:w5.cell? ⟨w2.heap.size,2,none⟩ = some (.slice x2 m.wr.length y2):=(zd (i:=2) hp).trans rfl
  have p0:w5.cell? ⟨w2.heap.size + 1,0,none⟩ = some (.slice u0 m'.cells.length t0):=(zd (i:=0) hp').trans rfl
  have p1:w5.cell? ⟨w2.heap.size + 1,1,none⟩ = some (.slice u1 m'.rd.length t1):=(zd (i:=1) hp').trans rfl
  have p2:w5.cell? ⟨w2.heap.size + 1,2,none⟩ = some (.slice u2 m'.wr.length t2):=(zd (i:=2) hp').trans rfl
  have hpl:=za hp
  have hpl':=za hp'
  clear hp hp' o0 o1 o2 o0' o1' o2' hk1 hk2 ht2 D2 HQ1 HQ2 HK4 HE HF
  ((try simp only []);repeat (first|go_skip|go_guarded|go_step|go_upon|go_back))
  (go_at_call 55;refine (impl_SameAnswers _ r' _ r _ (by repeat (with_reducible exact A2.out)) (by repeat (with_reducible exact A1.out))).mono ?_;rintro e w' ⟨rfl,hb⟩;obtain ⟨X,rfl⟩:=hb.ext;clear hb)
  rw [sameL_symm eqAnswer eqAnswer_symm r' r]
  cases qb:sameL eqAnswer r r' with
  | false =>
   ((try simp only []);repeat (first|go_skip|go_guarded|go_step|go_upon|go_back))
   refine bodyPost_ret (by simp [results,Tryz.results36,go_sem];rfl) rfl ?_
   exact ⟨by unfold restOf;rw [qa,qb];rfl,(by repeat (first|with_reducible exact HB5.out|with_reducible apply Below.ofExt|with_reducible apply Below.ofAlloc))⟩
  | true =>
   ((try simp only []);repeat (first|go_skip|go_guarded|go_step|go_upon|go_back))
   (go_at_call 78;refine (impl_SameTouch _ ⟨m.rd,m.wr⟩ _ ⟨m'.rd,m'.wr⟩ _ ⟨_,_,rfl,rdT_of (by repeat (first|with_reducible exact H1.out|with_reducible apply RdL.ext)) HSM.out.rz,rdT_of (by repeat (first|with_reducible exact H2.out|with_reducible apply RdL.ext)) HSM.out.wz⟩ ⟨_,_,rfl,rdT_of (by repeat (first|with_reducible exact K1.out|with_reducible apply RdL.ext)) HSM'.out.rz,rdT_of (by repeat (first|with_reducible exact K2.out|with_reducible apply RdL.ext)) HSM'.out.wz⟩).mono ?_;rintro e w' ⟨rfl,hb⟩;obtain ⟨X,rfl⟩:=hb.ext;clear hb)
   cases qc:sameTouch ⟨m.rd,m.wr⟩ ⟨m'.rd,m'.wr⟩ with
   | false =>
    ((try simp only []);repeat (first|go_skip|go_guarded|go_step|go_upon|go_back))
    refine bodyPost_ret (by simp [results,Tryz.results36,go_sem];rfl) rfl ?_
    exact ⟨by unfold restOf;rw [qa,qb,qc];rfl,(by repeat (first|with_reducible exact HB5.out|with_reducible apply Below.ofExt|with_reducible apply Below.ofAlloc))⟩
   | true =>
    ((try simp only []);repeat (first|go_skip|go_guarded|go_step|go_upon|go_back))
    (go_at_call 77;refine (D4.out _ _ _ _ m.wr (by repeat (first|with_reducible exact H0.out|with_reducible apply RdL.ext)) (by repeat (first|with_reducible exact K0.out|with_reducible apply RdL.ext)) (rdS_of' (by repeat (first|with_reducible exact H2.out|with_reducible apply RdL.ext)) HSM.out.wz)).mono ?_;rintro e w6 ⟨rfl,hb⟩;obtain ⟨X4,rfl⟩:=hb.ext;clear hb)
    ((try simp only []);repeat (first|go_skip|go_guarded|go_step|go_upon|go_back))
    refine bodyPost_ret (by simp [results,Tryz.results36,go_sem];rfl) rfl ?_
    exact ⟨by unfold restOf;rw [qa,qb,qc];rfl,(by repeat (first|with_reducible exact HB5.out|with_reducible apply Below.ofExt))⟩
theorem spec_RestsOn (va vb:Value) (a b:List CellD) (proc:Int) (c:CallD) (w:World) (ha:RdL zu w va a) (hb:RdL zu w vb b) (hka:∀ c ∈ a,c.ok) (hkb:∀ c ∈ b,c.ok) (hf:StepD.fine ⟨proc,c⟩) (hla:a.length<=1048576) (hlb:b.length<=1048576) (hfa:zfL [⟨proc,c⟩] ⟨a,[],[]⟩) (hfb:zfL [⟨proc,c⟩] ⟨b,[],[]⟩)
  (r r':List AnswerD) (m m':MachD) (hr:(K.runAll [⟨proc,c⟩]).run ⟨a,[],[]⟩ = (r,m)) (hr':(K.runAll [⟨proc,c⟩]).run ⟨b,[],[]⟩ = (r',m')) (hsm:Mp.Small m) (hsm':Mp.Small m') (hok:∀ x ∈ r,x.ok) (hok':∀ x ∈ r',x.ok) :
  Calls Tryz.prog 31 #[va,vb,.int .i64 proc,zbL c] w fun e w'=>e = .returned (.bool (restOf a b r m r' m'))/\Below w.heap.size w w':=by
 have D:=Lib.hid (fun vs w' (hB:Below w.heap.size w w') hs=>spec_StepsRestOn va vb vs a b [⟨proc,c⟩] w' (ha.below hB) (hb.below hB) hs hka hkb (by simpa using hf) hla hlb (by simp) hfa hfb r r' m m' hr hr' hsm hsm' hok hok')
 obtain ⟨aa,ca,rfl⟩:=ha.form
 obtain ⟨ab,cb,rfl⟩:=hb.form
 obtain ⟨kd,nm,tn,na,nb,tx⟩:=c
 unfold zbL
 clear ha hb hka hkb hf hfa hfb hr hr' hsm hsm' hok hok'
 go_enter Tryz.func31,Tryz.ntmps31
 (repeat (first|go_skip|go_guarded|go_step|go_upon|go_back))
 (go_at_call 34;refine (D.out _ _ (by repeat (first|with_reducible exact Below.refl _ _|with_reducible apply Below.ofAlloc)) (zat zjq _ ⟨proc,⟨kd,nm,tn,na,nb,tx⟩⟩ _ rfl _ _ (by simp))).mono ?_;rintro e w1 ⟨rfl,hb⟩)
 have HB:Hid (Below w.heap.size w w1):=Below.then (by repeat (first|with_reducible exact Below.refl _ _|with_reducible apply Below.ofAlloc)) hb
 clear hb D
 ((try simp only []);repeat (first|go_skip|go_guarded|go_step|go_upon|go_back))
 refine bodyPost_ret (by simp [results,Tryz.results31,go_sem];rfl) rfl ?_
 exact ⟨rfl,HB.out⟩
theorem impl_RestsOn (va vb:Value) (a b:List CellD) (proc:Int) (c:CallD) (w:World) (hg:Glob w) (ha:RdL zu w va a) (hb:RdL zu w vb b) (hka:∀ c ∈ a,c.ok) (hkb:∀ c ∈ b,c.ok) (hf:StepD.fine ⟨proc,c⟩) (hla:a.length<=1048576) (hlb:b.length<=1048576) (hfa:(K.runAll [⟨proc,c⟩]).fits ⟨a,[],[]⟩) (hfb:(K.runAll [⟨proc,c⟩]).fits ⟨b,[],[]⟩)
  (r r':List AnswerD) (m m':MachD) (hr:(K.runAll [⟨proc,c⟩]).run ⟨a,[],[]⟩ = (r,m)) (hr':(K.runAll [⟨proc,c⟩]).run ⟨b,[],[]⟩ = (r',m')) (hsm:Mp.Small m) (hsm':Mp.Small m') (hok:∀ x ∈ r,x.ok) (hok':∀ x ∈ r',x.ok) :
  Calls Tryz.prog 32 #[va,vb,.int .i64 proc,zbL c] w fun e w'=>e = .returned (.bool (restOf a b r m r' m'))/\Below w.heap.size w w':=by
 have D:=Lib.hid (fun vs w' (hB:Below w.heap.size w w') hs=>impl_StepsRestOn va vb vs a b [⟨proc,c⟩] w' (hg.below hB) (ha.below hB) (hb.below hB) hs hka hkb (by simpa using hf) hla hlb (by simp) hfa hfb r r' m m' hr hr' hsm hsm' hok hok')
 obtain ⟨aa,ca,rfl⟩:=ha.form
 obtain ⟨ab,cb,rfl⟩:=hb.form
 obtain ⟨kd,nm,tn,na,nb,tx⟩:=c
 unfold zbL
 clear ha hb hka hkb hf hfa hfb hr hr' hsm hsm' hok hok'
 go_enter Tryz.func32,Tryz.ntmps32
 (repeat (first|go_skip|go_guarded|go_step|go_upon|go_back))
 (go_at_call 36;refine (D.out _ _ (by repeat (first|with_reducible exact Below.refl _ _|with_reducible apply Below.ofAlloc)) (zat zjq _ ⟨proc,⟨kd,nm,tn,na,nb,tx⟩⟩ _ rfl _ _ (by simp))).mono ?_;rintro e w1 ⟨rfl,hb⟩)
 have HB:Hid (Below w.heap.size w w1):=Below.then (by repeat (first|with_reducible exact Below.refl _ _|with_reducible apply Below.ofAlloc)) hb
 clear hb D
 ((try simp only []);repeat (first|go_skip|go_guarded|go_step|go_upon|go_back))
 refine bodyPost_ret (by simp [results,Tryz.results32,go_sem];rfl) rfl ?_
 exact ⟨rfl,HB.out⟩
theorem run_one {zs:List CellD} {s:StepD} (hf:s.fine) (hl:zs.length<=1048576) (hz:wtS CellD.wt zs<=1048576) :
  zfL [s] ⟨zs,[],[]⟩/\(K.runAll [s]).fits ⟨zs,[],[]⟩/\Mp.Small ((K.runAll [s]).run ⟨zs,[],[]⟩).2/\∀ a ∈ ((K.runAll [s]).run ⟨zs,[],[]⟩).1,a.ok:=by
 have h:=run_fits (cs:=zs) (l:=[s]) (by simp only [List.length_singleton];omega) (fun c hc=>by
  have t1:=wt_mem CellD.wt zs c hc
  have t2:CellD.wt c=c.key.size + c.val.size:=rfl
  unfold wtS at hz
  omega) (fun x hx=>by rw [List.mem_singleton.1 hx];exact ⟨hf.2.1,hf.2.2.1⟩)
 obtain ⟨h1,h2,_⟩:=zjo [s] [] _ h (fun _ h=>by cases h)
 exact ⟨h,h1,Mp.fits_end h1,h2⟩
end Go.Proofs.YtgcmnkkakngifaaGreatDoor
namespace Go
open Go.RowKit Go.ChangeShapes Go.WideShapes Go.Deep
def Opens {α : Type} (P:Program) (T:TypeId) (V:View α):Prop:=∀ (H:Type) (enc:TypeId × Value->H) (w:World) (fuel:Nat) {cs:List Value} {x:DataW H × List MemPlace},
 DataW.trod enc P w 0 (fun _=>true) true fuel T cs=some x->∃ d,V.rd w cs d
theorem opensInt {P:Program} {T:TypeId} (ht:P.underlying T=some (.int .i64)):Opens P T vInt:=by
 intro H enc w fuel cs x h
 obtain ⟨n,rfl,_⟩:=DataW.trod_int ht h
 exact ⟨n,rfl,trivial⟩
theorem opensStr {P:Program} {T:TypeId} (ht:P.underlying T=some .string):Opens P T vStr:=by
 intro H enc w fuel cs x h
 obtain ⟨n,rfl,_,hz⟩:=DataW.trod_string ht h
 exact ⟨n,rfl,hz⟩
theorem flat_cells {k:Nat} (w:World) (b:Nat):∀ (css:List (List Value)) (off:Nat),(∀ i (hc:i < css.length),(css[i]).length=k) ->
  (∀ i (hc:i < css.length) (j:Nat),j < k->w.cell? ⟨b,off + i * k + j,none⟩ = css[i][j]?)->∀ j u,css.flatten[j]?=some u->w.cell? ⟨b,off + j,none⟩ = some u
 | [],_,_,_,j,u,h=>by simp at h
 | c :: r,off,hl,hc,j,u,h=>by
  have h0:c.length=k:=hl 0 (by simp)
  rw [List.flatten_cons] at h
  by_cases hj:j < k
  ·rw [List.getElem?_append_left (by omega)] at h
   have:=hc 0 (by simp) j hj
   rw [Nat.zero_mul,Nat.add_zero] at this
   rw [this]
   exact h
  ·rw [List.getElem?_append_right (by omega),h0] at h
   have:=flat_cells w b r (off + k) (fun i hi=>by have:=hl (i + 1) (by simpa using hi);rwa [List.getElem_cons_succ] at this) (fun i hi q hq=>by
    have:=hc (i + 1) (by simpa using hi) q hq
    rw [List.getElem_cons_succ] at this
    rw [<- this]
    congr 2
    rw [Nat.add_mul]
    omega) (j - k) u h
   rw [<- this]
   congr 2
   omega
theorem add_none (b o n:Nat):(⟨b,o,none⟩ : Addr).add n = ⟨b,o + n,none⟩:=zbw b o n
theorem opens_slice {α : Type} {P:Program} {T E:TypeId} {V:View α} {e:TypeId} (ht:P.underlying T=some (.slice E)) (hc:P.cellsOf E=V.k) (hk : 0 < V.k) (hE:Opens P E V):Opens P T (vSlice V e):=by
 intro H enc w fuel cs x h
 rcases open_slice ht h with ⟨rfl,_⟩|⟨a,len,cap,m,n,D,Pl,rfl,_,hl,hm,hmm,_,hi⟩
 ·exact ⟨[],none,0,[],rfl,Nat.le_refl _,Nat.zero_le _,fun _=>rfl,rfl,fun i hi=>absurd hi (by simp),fun h=>absurd rfl h⟩
 ·have hmm2:cap=m:=hmm.symm
  subst hmm2
  have hi:∀ i,i < cap->∃ cs',w.cells? 0 (a.add (i * P.cellsOf E)) (P.cellsOf E)=some cs'/\DataW.trod enc P w 0 (fun _=>true) true n E cs'=some (D i,Pl i):=hi
  have hex:∀ i,∃ cs':List Value,∃ d:Option α,i < len->cs'.length=V.k/\(∀ j,j < V.k->w.cell? ((a.add (i * V.k)).add j)=cs'[j]?)/\∃ d',d=some d'/\V.rd w cs' d':=by
   intro i
   by_cases hlt:i < len
   ·obtain ⟨cs',h1,h2⟩:=hi i (by omega)
    rw [hc] at h1
    obtain ⟨_,h3,h4⟩:=World.cells?_some h1
    obtain ⟨d,hd⟩:=hE _ _ _ _ h2
    exact ⟨cs',some d,fun _=>⟨h3,h4,d,rfl,hd⟩⟩
   ·exact ⟨[],none,fun h=>absurd h hlt⟩
  have hex2:∃ (f:Nat->List Value) (g:Nat->Option α),∀ i,i < len->(f i).length=V.k/\(∀ j,j < V.k->w.cell? ((a.add (i * V.k)).add j)=(f i)[j]?)/\∃ d',g i=some d'/\V.rd w (f i) d' :=
   ⟨fun i=>(hex i).choose,fun i=>(hex i).choose_spec.choose,fun i=>(hex i).choose_spec.choose_spec⟩
  obtain ⟨f,g,hfg⟩:=hex2
  by_cases hz:len=0
  ·subst hz
   exact ⟨[],some a,cap,[],rfl,Nat.zero_le _,hm,(fun h=>by cases h),rfl,fun i hi=>absurd hi (by simp),fun h=>absurd rfl h⟩
  ·have h0:=(hfg 0 (by omega))
   have hd0:∃ d0 : α,True:=by obtain ⟨_,_,d,_⟩:=h0;exact ⟨d,trivial⟩
   obtain ⟨d0,_⟩:=hd0
   obtain ⟨b,off,sp⟩:=a
   have hsp:sp=none:=by
    cases sp with
    | none=>rfl
    | some q =>
     have h2:=h0.2.1 0 hk
     rw [Nat.zero_mul] at h2
     have h3:(f 0)[0]?=some ((f 0)[0]'(by rw [h0.1];exact hk)):=List.getElem?_eq_getElem _
     rw [h3] at h2
     have e:((⟨b,off,some q⟩ : Addr).add 0).add 0 = ⟨b,off,some q⟩:=by simp [Addr.add]
     rw [e] at h2
     unfold World.cell? at h2
     simp only [Option.isSome_some,if_true] at h2
     split at h2<;>cases h2
   subst hsp
   refine ⟨(List.range len).map fun i=>(g i).getD d0,some ⟨b,off,none⟩,cap,(List.range len).map f,by simp,by simpa using hl,hm,(fun h=>by cases h),by simp,?_,fun _=>⟨b,off,rfl,?_,?_⟩⟩
   ·intro i hi hci
    simp only [List.length_map,List.length_range] at hi hci
    obtain ⟨_,_,d',hd',hr⟩:=hfg i hi
    simp only [List.getElem_map,List.getElem_range,hd',Option.getD_some]
    exact hr
   ·have h2:=h0.2.1 0 hk
    obtain ⟨u,hu⟩ : ∃ u,(f 0)[0]?=some u:=⟨_,List.getElem?_eq_getElem (by rw [h0.1];exact hk)⟩
    rw [hu,add_none,add_none] at h2
    exact World.block_lt_of_cell? w _ h2
   ·refine flat_cells (k:=V.k) w b _ off (fun i hci=>?_) (fun i hci j hj=>?_)
    ·simp only [List.length_map,List.length_range] at hci
     simpa using (hfg i hci).1
    ·simp only [List.length_map,List.length_range] at hci
     have:=(hfg i hci).2.1 j hj
     rw [add_none,add_none] at this
     simpa using this
theorem open_agg {α : Type} {P:Program} {T:TypeId} {V:View α} {fs:Array Field} (hs:P.underlying T=some (.struct fs)) (hO:Opens P T V) {H:Type} {enc:TypeId × Value->H} {W:World} {base:Nat} {v:Value} {d:DataW H} {p:List MemPlace}
  (hv:Value.okWide P W .any base T v) (h:DataW.Trod enc P W 0 (fun _=>true) true T v d p):∃ (cs:List Value) (x : α),v = .agg cs.toArray/\V.rd W cs x:=by
 obtain ⟨cs,rfl,_⟩:=okWide_struct hs hv
 obtain ⟨fuel,hf⟩:=h
 obtain ⟨x,hx⟩:=hO _ _ _ _ hf
 exact ⟨cs.toList,x,by simp,hx⟩
theorem open_sl {α : Type} {P:Program} {T E e:TypeId} {V:View α} (hs:P.underlying T=some (.slice E)) (hO:Opens P T (vSlice V e)) {H:Type} {enc:TypeId × Value->H} {W:World} {base:Nat} {v:Value} {d:DataW H} {p:List MemPlace}
  (hv:Value.okWide P W .any base T v) (h:DataW.Trod enc P W 0 (fun _=>true) true T v d p):∃ x,(vSlice V e).rd W [v] x:=by
 obtain ⟨a,len,cap,rfl⟩:=okWide_slice hs hv
 obtain ⟨fuel,hf⟩:=h
 exact hO _ _ _ _ hf
end Go
