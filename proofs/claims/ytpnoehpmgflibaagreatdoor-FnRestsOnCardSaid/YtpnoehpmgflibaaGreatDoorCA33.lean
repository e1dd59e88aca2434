/- Texts of this claim, merged: the walks and what they stand on. Each condition stands in its theorem. -/
import Derived.Test.YtpnoehpmgflibaaGreatDoorCA14
import Derived.Test.YtpnoehpmgflibaaGreatDoorCA16
set_option linter.unusedVariables false
set_option linter.unusedSimpArgs false
set_option maxRecDepth 100000
set_option maxHeartbeats 8000000
namespace Go.Proofs.YtpnoehpmgflibaaGreatDoor
open Go.ChangeShapes Go.WideShapes Go.ChangeAt Go.RowKit
theorem zcw (id:Int) (id0 : -9223372036854775808<=id) (id1:id<=9223372036854775807) (t:ByteArray) (tz:t.size<=1000) (w:World) (hg:Glob w):Calls Tryz.prog 139 #[.int .i64 id,.string t] w fun e w'=>e=.returned (.string (K.procKey id t))/\Below w.heap.size w w':=by
 have D:=Hd (zah ⟨#[114,47]⟩ t id w hg (by decide) (by first|decide|omega) id0 id1)
 clear hg
 go_enter Tryz.func139,Tryz.ntmps139
 (repeat (first|go_skip|go_guarded|go_step|go_upon|go_back))
 (go_at_call 149;refine D.out.mono ?_;rintro e w1 ⟨rfl,hb1⟩)
 ((try simp only []);repeat (first|go_skip|go_guarded|go_step|go_upon|go_back))
 go_ret
 exact ⟨rfl,hb1⟩
theorem zcx (id:Int) (id0 : -9223372036854775808<=id) (id1:id<=9223372036854775807) (t:ByteArray) (tz:t.size<=1000) (w:World) (hg:Glob w):Calls Tryz.prog 154 #[.int .i64 id,.string t] w fun e w'=>e=.returned (.string (K.pipeKey id t))/\Below w.heap.size w w':=by
 have D:=Hd (zah ⟨#[112,47]⟩ t id w hg (by decide) (by first|decide|omega) id0 id1)
 clear hg
 go_enter Tryz.func154,Tryz.ntmps154
 (repeat (first|go_skip|go_guarded|go_step|go_upon|go_back))
 (go_at_call 149;refine D.out.mono ?_;rintro e w1 ⟨rfl,hb1⟩)
 ((try simp only []);repeat (first|go_skip|go_guarded|go_step|go_upon|go_back))
 go_ret
 exact ⟨rfl,hb1⟩
theorem zd4 (id:Int) (id0 : -9223372036854775808<=id) (id1:id<=9223372036854775807) (t:ByteArray) (tz:t.size<=1000) (w:World) (hg:Glob w):Calls Tryz.prog 163 #[.int .i64 id,.string t] w fun e w'=>e=.returned (.string (K.signalKey id t))/\Below w.heap.size w w':=by
 have D:=Hd (zah ⟨#[103,47]⟩ t id w hg (by decide) (by first|decide|omega) id0 id1)
 clear hg
 go_enter Tryz.func163,Tryz.ntmps163
 (repeat (first|go_skip|go_guarded|go_step|go_upon|go_back))
 (go_at_call 149;refine D.out.mono ?_;rintro e w1 ⟨rfl,hb1⟩)
 ((try simp only []);repeat (first|go_skip|go_guarded|go_step|go_upon|go_back))
 go_ret
 exact ⟨rfl,hb1⟩
theorem zbv (id:Int) (id0 : -9223372036854775808<=id) (id1:id<=9223372036854775807) (w:World) (hg:Glob w):Calls Tryz.prog 208 #[.int .i64 id] w fun e w'=>e=.returned (.string (K.sizeKey id))/\Below w.heap.size w w':=by
 have D:=Hd (zah ⟨#[105,47]⟩ ⟨#[47,115]⟩ id w hg (by decide) (by first|decide|omega) id0 id1)
 clear hg
 go_enter Tryz.func208,Tryz.ntmps208
 (repeat (first|go_skip|go_guarded|go_step|go_upon|go_back))
 (go_at_call 149;refine D.out.mono ?_;rintro e w1 ⟨rfl,hb1⟩)
 ((try simp only []);repeat (first|go_skip|go_guarded|go_step|go_upon|go_back))
 go_ret
 exact ⟨rfl,hb1⟩
theorem zc6 (id:Int) (id0 : -9223372036854775808<=id) (id1:id<=9223372036854775807) (w:World) (hg:Glob w):Calls Tryz.prog 146 #[.int .i64 id] w fun e w'=>e=.returned (.string (zO K.nI id K.tL))/\Below w.heap.size w w':=by
 have D:=Hd (zah ⟨#[105,47]⟩ ⟨#[47,108]⟩ id w hg (by decide) (by first|decide|omega) id0 id1)
 clear hg
 go_enter Tryz.func146,Tryz.ntmps146
 (repeat (first|go_skip|go_guarded|go_step|go_upon|go_back))
 (go_at_call 149;refine D.out.mono ?_;rintro e w1 ⟨rfl,hb1⟩)
 ((try simp only []);repeat (first|go_skip|go_guarded|go_step|go_upon|go_back))
 go_ret
 exact ⟨rfl,hb1⟩
theorem zbE (id:Int) (id0 : -9223372036854775808<=id) (id1:id<=9223372036854775807) (w:World) (hg:Glob w):Calls Tryz.prog 158 #[.int .i64 id] w fun e w'=>e=.returned (.string (K.pagesKey id))/\Below w.heap.size w w':=by
 have D:=Hd (zah ⟨#[109,47]⟩ ⟨#[47]⟩ id w hg (by decide) (by first|decide|omega) id0 id1)
 clear hg
 go_enter Tryz.func158,Tryz.ntmps158
 (repeat (first|go_skip|go_guarded|go_step|go_upon|go_back))
 (go_at_call 149;refine D.out.mono ?_;rintro e w1 ⟨rfl,hb1⟩)
 ((try simp only []);repeat (first|go_skip|go_guarded|go_step|go_upon|go_back))
 go_ret
 exact ⟨rfl,hb1⟩
theorem zbW (s:ByteArray) (hs:s.size<=1048576) (w:World):Calls Tryz.prog 145 #[.string s] w fun e w'=>e=.returned (.string (K.nN++s))/\w'=w:=by
 have hc:¬ 9223372036854775807<2+s.size:=by omega
 go_enter Tryz.func145,Tryz.ntmps145
 go_wp2
 go_ret
 exact ⟨rfl,rfl⟩
theorem zbF (id k:Int) (id0 : -9223372036854775808<=id) (id1:id<=9223372036854775807) (k0 : -9223372036854775808<=k) (k1:k<=9223372036854775807) (w:World) (hg:Glob w) :
  Calls Tryz.prog 210 #[.int .i64 id,.int .i64 k] w fun e w'=>e=.returned (.string (K.blockKey id k))/\Below w.heap.size w w':=by
 have hs:=zbl K.nI K.tB id id0 id1
 have c1:(K.nI).size=2:=rfl
 have c2:(K.tB).size=3:=rfl
 have hs2:(zO K.nI id K.tB).size<=1073741824:=by omega
 have D:=Hd (zah ⟨#[105,47]⟩ ⟨#[47,98,47]⟩ id w hg (by decide) (by decide) id0 id1)
 have D2:=Hd (fun w hg=>zah (zO K.nI id K.tB) ⟨#[]⟩ k w hg hs2 (by decide) k0 k1)
 have HG:=Hd hg
 clear hs c1 c2 hs2 hg
 go_enter Tryz.func210,Tryz.ntmps210
 (repeat (first|go_skip|go_guarded|go_step|go_upon|go_back))
 (go_at_call 149;refine D.out.mono ?_;rintro e w1 ⟨rfl,hb1⟩)
 ((try simp only []);repeat (first|go_skip|go_guarded|go_step|go_upon|go_back))
 (go_at_call 149;refine (D2.out _ (HG.out.below hb1)).mono ?_;rintro e w2 ⟨rfl,hb2⟩)
 ((try simp only []);repeat (first|go_skip|go_guarded|go_step|go_upon|go_back))
 go_ret
 exact ⟨rfl,Below.then hb1 hb2⟩
theorem zab (k:ByteArray) (n:Int) (n0 : -9223372036854775808<=n) (n1:n<=9223372036854775807):IC 144 (fun x=>#[x,.string k,.int .i64 n]) (K.setNum k n) (fun _=>.tuple #[]):=by
 refine zdT (fun w0 w fp b m res mres HM HT HL=>?_)
 unfold K.setNum at HL
 rcases Decidable.em (1<=n/\n<=999) with hi|hi
 all_goals (first|rw [show K.numText n=zX (Lib.itoa n) from if_pos hi] at HL|rw [show K.numText n=⟨#[]⟩ from if_neg hi] at HL)
 (skip)
 all_goals (go_enter Tryz.func144,Tryz.ntmps144;all_goals ((repeat' (first|go_skip|go_guarded|go_step|go_upon|go_back|((first|((go_at_call 147;refine (IC.use (zaT _ _) (fun _=>True) (fun _ _=>trivial) (by first|exact HL.out|exact HL.out.last) HM.out).mono ?_);(rintro e w2 ⟨x,m2,fp2,rfl,hx,hm,ht,HL2⟩);(replace HM:=Hd hm;replace HT:=Hd (HT.out.trans ht);clear hm ht;clear HL;have HL:=Hd HL2;clear HL2;(try simp only [])))|((go_at_call 140;refine (zag _ _ _ _).mono ?_);rintro e w2 ⟨rfl,rfl⟩;(try simp only []);(try rw [HN.out]);(try rw [HP.out]);(try simp (disch:=omega) only [zaP,zbb]))|((go_at_call 84;refine (zcy _ _ (by omega) (by omega) HM.out.globs.tab).mono ?_);rintro e w2 ⟨rfl,hb⟩;(replace HM:=Hd (HM.out.below hb);replace HT:=Hd (HT.out.trans (IT.below hb));clear hb;(try simp only [])))))|(exfalso;(simp only [bne_eq_false_iff_eq,beq_eq_false_iff_ne,beq_iff_eq,bne_iff_ne] at *);omega)))))
 all_goals (obtain ⟨rfl,rfl⟩:=HL.out.end;((refine bodyPost_end (by simp [results,Tryz.results144,go_sem];rfl) rfl ?_));exact ⟨rfl,_,HM.out,HT.out⟩)
theorem zgT (k:ByteArray):IC 143 (fun x=>#[x,.string k]) (K.bump k) (fun n=>.int .i64 n):=by
 refine zdT (fun w0 w fp b m res mres HM HT HL=>?_)
 unfold K.bump at HL
 (skip)
 all_goals (go_enter Tryz.func143,Tryz.ntmps143;all_goals ((repeat' (first|go_skip|go_guarded|go_step|go_upon|go_back|(((first|(go_at_call 144;refine (IC.use (zab _ _ (by omega) (by omega)) (fun _=>True) (fun _ _=>trivial) (by first|exact HL.out|exact HL.out.last) HM.out).mono ?_)|(go_at_call 138;refine (IC.use (zav _) (fun a=>0<=a/\a<=999) (fun m _=>zac _ m) (by first|exact HL.out|exact HL.out.last) HM.out).mono ?_));(rintro e w2 ⟨x,m2,fp2,rfl,hx,hm,ht,HL2⟩);(replace HM:=Hd hm;replace HT:=Hd (HT.out.trans ht);clear hm ht;clear HL;have HL:=Hd HL2;clear HL2;(try simp only []);(all_goals ((repeat' ((rcases HL.out.ite with ⟨hg,HL2⟩|⟨hg,HL2⟩<;>(clear HL;have HL:=Hd HL2;clear HL2)))))))))|(exfalso;(simp only [bne_eq_false_iff_eq,beq_eq_false_iff_ne,beq_iff_eq,bne_iff_ne] at *);omega)))))
 all_goals (obtain ⟨rfl,rfl⟩:=HL.out.end;((refine bodyPost_ret (by simp [results,Tryz.results143,go_sem];rfl) rfl ?_));exact ⟨rfl,_,HM.out,HT.out⟩)
theorem zfO (k:ByteArray):IC 157 (fun x=>#[x,.string k]) (K.message k) (fun t=>.string t):=by
 refine zdT (fun w0 w fp b m res mres HM HT HL=>?_)
 unfold K.message at HL
 (skip)
 all_goals (go_enter Tryz.func157,Tryz.ntmps157;all_goals ((repeat' (first|go_skip|go_guarded|go_step|go_upon|go_back|((first|((go_at_call 159;refine (IC.use (zeV _) (fun a=>a.size<=1048576) (fun m h=>zaV h.1 _) (by first|exact HL.out|exact HL.out.last) HM.out).mono ?_);(rintro e w2 ⟨x,m2,fp2,rfl,hx,hm,ht,HL2⟩);(replace HM:=Hd hm;replace HT:=Hd (HT.out.trans ht);clear hm ht;clear HL;have HL:=Hd HL2;clear HL2;(try simp only [])))|((go_at_call 212;refine (zhj _ _ HM.out.globs (by omega)).mono ?_);rintro e w2 ⟨rfl,hb⟩;(replace HM:=Hd (HM.out.below hb);replace HT:=Hd (HT.out.trans (IT.below hb));clear hb;(try simp only [])))))|(exfalso;(simp only [bne_eq_false_iff_eq,beq_eq_false_iff_ne,beq_iff_eq,bne_iff_ne] at *);omega)))))
 all_goals (obtain ⟨rfl,rfl⟩:=HL.out.end;((refine bodyPost_ret (by simp [results,Tryz.results157,go_sem];rfl) rfl ?_));exact ⟨rfl,_,HM.out,HT.out⟩)
theorem zfs (id:Int) (id0 : -9223372036854775808<=id) (id1:id<=9223372036854775807) (place:Int) (place0 : -9223372036854775808<=place) (place1:place<=9223372036854775807):IC 209 (fun x=>#[x,.int .i64 id,.int .i64 place]) (K.block id place) (fun t=>.string t):=by
 refine zdT (fun w0 w fp b m res mres HM HT HL=>?_)
 unfold K.block at HL
 (skip)
 all_goals (go_enter Tryz.func209,Tryz.ntmps209;all_goals ((repeat' (first|go_skip|go_guarded|go_step|go_upon|go_back|((first|((go_at_call 159;refine (IC.use (zeV _) (fun a=>a.size<=1048576) (fun m h=>zaV h.1 _) (by first|exact HL.out|exact HL.out.last) HM.out).mono ?_);(rintro e w2 ⟨x,m2,fp2,rfl,hx,hm,ht,HL2⟩);(replace HM:=Hd hm;replace HT:=Hd (HT.out.trans ht);clear hm ht;clear HL;have HL:=Hd HL2;clear HL2;(try simp only [])))|((go_at_call 210;refine (zbF _ _ (by omega) (by omega) (by omega) (by omega) _ HM.out.globs).mono ?_);rintro e w2 ⟨rfl,hb⟩;(replace HM:=Hd (HM.out.below hb);replace HT:=Hd (HT.out.trans (IT.below hb));clear hb;(try simp only [])))|((go_at_call 232;refine (zgU _ _ HM.out.globs (by omega)).mono ?_);rintro e w2 ⟨b,hun,rfl,hb⟩;(replace HM:=Hd (HM.out.below hb);replace HT:=Hd (HT.out.trans (IT.below hb));clear hb;(try simp only [])))))|(exfalso;(simp only [bne_eq_false_iff_eq,beq_eq_false_iff_ne,beq_iff_eq,bne_iff_ne] at *);omega)))))
 all_goals (obtain ⟨rfl,rfl⟩:=HL.out.end;((refine bodyPost_ret (by simp [results,Tryz.results209,go_sem];rfl) rfl ?_));exact ⟨rfl,_,HM.out,HT.out⟩)
theorem zdI (id:Int) (id0 : -9223372036854775808<=id) (id1:id<=9223372036854775807):IC 67 (fun x=>#[x,.int .i64 id]) (K.state id) (fun n=>.int .i64 n):=by
 refine zdT (fun w0 w fp b m res mres HM HT HL=>?_)
 unfold K.state at HL
 (skip)
 all_goals (go_enter Tryz.func67,Tryz.ntmps67;all_goals ((repeat' (first|go_skip|go_guarded|go_step|go_upon|go_back|((first|((go_at_call 138;refine (IC.use (zav _) (fun a=>0<=a/\a<=999) (fun m _=>zac _ m) (by first|exact HL.out|exact HL.out.last) HM.out).mono ?_);(rintro e w2 ⟨x,m2,fp2,rfl,hx,hm,ht,HL2⟩);(replace HM:=Hd hm;replace HT:=Hd (HT.out.trans ht);clear hm ht;clear HL;have HL:=Hd HL2;clear HL2;(try simp only [])))|((go_at_call 139;refine (zcw _ (by omega) (by omega) _ (by decide) _ HM.out.globs).mono ?_);rintro e w2 ⟨rfl,hb⟩;(replace HM:=Hd (HM.out.below hb);replace HT:=Hd (HT.out.trans (IT.below hb));clear hb;(try simp only [])))))|(exfalso;(simp only [bne_eq_false_iff_eq,beq_eq_false_iff_ne,beq_iff_eq,bne_iff_ne] at *);omega)))))
 all_goals (obtain ⟨rfl,rfl⟩:=HL.out.end;((refine bodyPost_ret (by simp [results,Tryz.results67,go_sem];rfl) rfl ?_));exact ⟨rfl,_,HM.out,HT.out⟩)
theorem zgR (id:Int) (id0 : -9223372036854775808<=id) (id1:id<=9223372036854775807):IC 155 (fun x=>#[x,.int .i64 id]) (K.isPipe id) (fun b=>.bool b):=by
 refine zdT (fun w0 w fp b m res mres HM HT HL=>?_)
 unfold K.isPipe at HL
 (skip)
 all_goals (go_enter Tryz.func155,Tryz.ntmps155;all_goals ((repeat' (first|go_skip|go_guarded|go_step|go_upon|go_back|((first|((go_at_call 138;refine (IC.use (zav _) (fun a=>0<=a/\a<=999) (fun m _=>zac _ m) (by first|exact HL.out|exact HL.out.last) HM.out).mono ?_);(rintro e w2 ⟨x,m2,fp2,rfl,hx,hm,ht,HL2⟩);(replace HM:=Hd hm;replace HT:=Hd (HT.out.trans ht);clear hm ht;clear HL;have HL:=Hd HL2;clear HL2;(try simp only [])))|((go_at_call 154;refine (zcx _ (by omega) (by omega) _ (by decide) _ HM.out.globs).mono ?_);rintro e w2 ⟨rfl,hb⟩;(replace HM:=Hd (HM.out.below hb);replace HT:=Hd (HT.out.trans (IT.below hb));clear hb;(try simp only [])))))|(exfalso;(simp only [bne_eq_false_iff_eq,beq_eq_false_iff_ne,beq_iff_eq,bne_iff_ne] at *);omega)))))
 all_goals (obtain ⟨rfl,rfl⟩:=HL.out.end;((refine bodyPost_ret (by simp [results,Tryz.results155,go_sem];rfl) rfl ?_));exact ⟨rfl,_,HM.out,HT.out⟩)
theorem zci (name:ByteArray) (namez:name.size<=1048576):IC 142 (fun x=>#[x,.string name]) (K.fileOf name) (fun n=>.int .i64 n):=by
 refine zdT (fun w0 w fp b m res mres HM HT HL=>?_)
 unfold K.fileOf at HL
 have hc:¬ 9223372036854775807<2+name.size:=by omega
 rcases zaz name with ⟨hn,hz⟩|hn
 all_goals (
  rw [hn] at HL
  have HN:=Hd hn;clear hn)
 all_goals ((repeat' ((rcases HL.out.ite with ⟨hg,HL2⟩|⟨hg,HL2⟩<;>(clear HL;have HL:=Hd HL2;clear HL2;try exact absurd hg (by decide))))))
 all_goals (go_enter Tryz.func142,Tryz.ntmps142;all_goals ((repeat' (first|go_skip|go_guarded|go_step|go_upon|go_back|((first|((go_at_call 138;refine (IC.use (zav _) (fun a=>0<=a/\a<=999) (fun m _=>zac _ m) (by first|exact HL.out|exact HL.out.last) HM.out).mono ?_);(rintro e w2 ⟨x,m2,fp2,rfl,hx,hm,ht,HL2⟩);(replace HM:=Hd hm;replace HT:=Hd (HT.out.trans ht);clear hm ht;clear HL;have HL:=Hd HL2;clear HL2;(try simp only [])))|((first|(go_at_call 145;refine (zbW _ (by omega) _).mono ?_)|(go_at_call 141;refine (zcj _ _ (by omega)).mono ?_));rintro e w2 ⟨rfl,rfl⟩;(try simp only []);(try rw [HN.out]);(try rw [HP.out]))))|(exfalso;(simp only [bne_eq_false_iff_eq,beq_eq_false_iff_ne,beq_iff_eq,bne_iff_ne] at *);omega)))))
 all_goals (obtain ⟨rfl,rfl⟩:=HL.out.end;((refine bodyPost_ret (by simp [results,Tryz.results142,go_sem];rfl) rfl ?_));exact ⟨rfl,_,HM.out,HT.out⟩)
theorem IM.upon {w0 w w':World} {fp fs:List Nat} {b:Nat} {m:MachD} (h:IM w0 w b fp m) (hu:Upon fs w w') (hn:∀ j ∈ fs,j ∉ fp) (hB:∀ j ∈ fs,w0.heap.size<=j):IM w0 w' b fp m:=by
 obtain ⟨⟨a0,c0,a1,c1,a2,c2,h0,h1,h2,h3,hd,f0,f1,f2⟩,pin,lo,hi,bel,glob⟩:=h
 exact ⟨⟨a0,c0,a1,c1,a2,c2,(hu.block b (za h0) (fun hx=>hn b hx pin)).trans h0,zba h1 hu (fun k hk hx=>hn k hx (f0 k hk)),zba h2 hu (fun k hk hx=>hn k hx (f1 k hk)),zba h3 hu (fun k hk hx=>hn k hx (f2 k hk)),hd,f0,f1,f2⟩,pin,lo,fun j hj=>Nat.lt_of_lt_of_le (hi j hj) hu.size,
  ⟨hu.os.trans bel.os,hu.tape.trans bel.tape,hu.output.trans bel.output,Nat.le_trans bel.size hu.size,fun k hk=>(hu.block k (Nat.lt_of_lt_of_le hk bel.size) (fun hx=>by have:=hB k hx;omega)).trans (bel.block k hk)⟩,glob⟩
theorem IT.upon {w w1 w2:World} {fp fp1 fs:List Nat} (h:IT w fp w1 fp1) (hu:Upon fs w1 w2) (hB:∀ j ∈ fs,w.heap.size<=j):IT w fp w2 fp1 :=
 ⟨⟨hu.os.trans h.up.os,hu.tape.trans h.up.tape,hu.output.trans h.up.output,Nat.le_trans h.up.size hu.size,fun k hk hn=>(hu.block k (Nat.lt_of_lt_of_le hk h.up.size) (fun hx=>by have:=hB k hx;omega)).trans (h.up.block k hk hn)⟩,h.sub⟩
theorem KL.upon {α : Type} {R:RowOf α} {e:TypeId} {w w':World} {B:Nat} {fp fs:List Nat} {v:Value} {ks:List α} (h:KL R e w B fp v ks) (hu:Upon fs w w') (hn:∀ j,v.ownBlock=some j->j ∉ fs):KL R e w' B fp v ks:=⟨zba h.1 hu hn,h.2⟩
def ICL {α : Type} (R:RowOf α) (e:TypeId) (f:FuncId) (args:Value->Array Value) (p:Mp (List α)):Prop :=
 ∀ (w0 w:World) (fp:List Nat) (b:Nat) (m:MachD),IM w0 w b fp m->p.fits m ->
  Calls Tryz.prog f (args (.pointer (some ⟨b,0,none⟩))) w fun en w'=>∃ vs,en=.returned vs/\∃ fp',IM w0 w' b fp' (p.run m).2/\IT w fp w' fp'/\KL R e w' w.heap.size fp' vs (p.run m).1
theorem ICLgo {α : Type} {R:RowOf α} {e:TypeId} {f:FuncId} {args:Value->Array Value} {p:Mp (List α)}
  (h : ∀ (w0 w : World) (fp : List Nat) (b : Nat) (m : MachD) (res : List α) (mres : MachD), Hid (IM w0 w b fp m) -> Hid (IT w fp w fp) -> Hid (Lft p m (res, mres)) ->
   Calls Tryz.prog f (args (.pointer (some ⟨b,0,none⟩))) w fun en w'=>∃ vs,en=.returned vs/\∃ fp',IM w0 w' b fp' mres/\IT w fp w' fp'/\KL R e w' w.heap.size fp' vs res):ICL R e f args p :=
 fun w0 w fp b m H hf=>h w0 w fp b m _ _ H (IT.refl w fp) ⟨hf,rfl⟩
theorem ICL.use {α β : Type} {R:RowOf α} {e:TypeId} {f:FuncId} {args:Value->Array Value} {p:Mp (List α)} (h:ICL R e f args p) (S:List α->Prop) (hS:∀ m,p.fits m->S (p.run m).1) {k:List α->Mp β} {w0 w:World} {fp:List Nat} {b:Nat} {m:MachD} {r : β × MachD} (L:Lft (p >>= k) m r) (hm:IM w0 w b fp m) :
  Calls Tryz.prog f (args (.pointer (some ⟨b,0,none⟩))) w fun en w'=>∃ ao cap ks m1 fp1,en=.returned (.slice ao ks.length cap)/\S ks/\IM w0 w' b fp1 m1/\IT w fp w' fp1/\KL R e w' w.heap.size fp1 (.slice ao ks.length cap) ks/\Lft (k ks) m1 r:=by
 refine (h w0 w fp b m hm L.step.1).mono ?_
 rintro en w' ⟨vs,rfl,fp',hm',ht,hn⟩
 obtain ⟨ao,cap,rfl⟩:=hn.1.rd.form
 exact ⟨ao,cap,_,_,fp',rfl,hS m L.step.1,hm',ht,hn,L.step.2⟩
theorem zgO (p:ByteArray):IC 148 (fun x=>#[x,.string p]) (K.wipe p) (fun _=>.tuple #[]):=by
 refine zdT (fun w0 w fp b m res mres HM HT HL=>?_)
 unfold K.wipe at HL
 go_enter Tryz.func148,Tryz.ntmps148
 (repeat (first|go_skip|go_guarded|go_step|go_upon|go_back))
 (go_at_call 150;refine (zdg (by first|exact HL.out|exact HL.out.last) HM.out).mono ?_;rintro e w2 ⟨al,nl,ks,m2,fp2,rfl,hks,hm,ht,hkl,HL2⟩;have HK:=Hd (zdQ hkl HT.out.up.size);have HM':=Hd hm;have HT':=Hd (HT.out.trans ht);clear HM HT hm ht hkl;have HM:=HM';have HT:=HT';clear HM' HT';clear HL;have HL:=Hd HL2;clear HL2;(try simp only []))
 (repeat (first|go_skip|go_guarded|go_step|go_upon|go_back))
 go_loopw [5,10] (fun _ k wr=>∃ (n:Nat) (m1:MachD) (fp1:List Nat),k=.int .i64 n/\n<=ks.length/\IM w0 wr b fp1 m1/\IT w fp wr fp1/\KL zx 9 wr w.heap.size fp1 (.slice al ks.length nl) ks/\Lft (Mp.each (fun k=>K.lay k ⟨#[]⟩) (ks.drop n)) m1 (res,mres)) (fun _ k _=>ks.length - (intOf k).toNat)
 case atStart=>exact ⟨0,m2,fp2,rfl,Nat.zero_le _,HM.out,HT.out,HK.out,HL.out⟩
 case round =>
  clear HL HM HT HK
  obtain ⟨n,m1,fp1,rfl,hn,hm,ht,hk0,hl⟩:=hrel
  have HM:=Hd hm
  have HT:=Hd ht
  have HK:=Hd hk0
  clear hm ht hk0
  have hkl:=hks.1
  by_cases hlt:(n:Int)<ks.length
  case pos =>
   have hk:n<ks.length:=by omega
   have HL:=Hd (hl.each_at hk)
   obtain ⟨b',off,rfl,hbl,y0⟩:=HK.out.at_ hk
   have hkz:=hks.2.1 _ (List.getElem_mem hk)
   clear hl
   generalize ks[n]=key at HL y0 hkz
   (repeat (first|go_skip|go_guarded|go_step|go_upon|go_back))
   clear y0
   (((go_at_call 147;refine (IC.use (zaT _ _) (fun _=>True) (fun _ _=>trivial) (by first|exact HL.out|exact HL.out.last) HM.out).mono ?_);(rintro e w2 ⟨x,m2,fp2,rfl,hx,hm,ht,HL2⟩);(have HM':=Hd hm;have HT':=Hd (HT.out.trans ht);(try (have HK':=Hd (HK.out.step ht);clear HK;have HK:=HK';clear HK'));clear HM HT hm ht;have HM:=HM';have HT:=HT';clear HM' HT';clear HL;have HL:=Hd HL2;clear HL2;(try simp only []))))
   (repeat (first|go_skip|go_guarded|go_step|go_upon|go_back))
   go_roundw
   case rel=>exact ⟨n+1,_,_,by go_num,by omega,HM.out,HT.out,HK.out,HL.out⟩
   case measure=>simp [intOf];omega
  case neg =>
   have HL:=Hd (hl.each_end (by omega))
   (repeat (first|go_skip|go_guarded|go_step|go_upon|go_back))
   all_goals (obtain ⟨rfl,rfl⟩:=HL.out.end;((refine bodyPost_end (by simp [results,Tryz.results148,go_sem];rfl) rfl ?_));exact ⟨rfl,_,HM.out,HT.out⟩)
theorem zeL (id:Int) (t:ByteArray) (ht:t.size<=1000) (h0 : -9223372036854775808<=id) (h1:id<=9223372036854775807):(K.pipeKey id t).size<=1100:=by
 have:=zbl K.nP t id h0 h1
 have c1:K.nP.size=2:=rfl
 show (zO K.nP id t).size<=_
 omega
theorem zdn (id:Int) (t:ByteArray) (ht:t.size<=1000) (h0 : -9223372036854775808<=id) (h1:id<=9223372036854775807):(K.signalKey id t).size<=1100:=by
 have:=zbl K.nG t id h0 h1
 have c1:K.nG.size=2:=rfl
 show (zO K.nG id t).size<=_
 omega
theorem zig  : IC 75 (fun x=>#[x]) K.makePipe (fun p=>.tuple #[.int .i64 p.1,.int .i64 p.2]):=by
 refine zdT (fun w0 w fp b m res mres HM HT HL=>?_)
 unfold K.makePipe at HL
 (skip)
 all_goals (go_enter Tryz.func75,Tryz.ntmps75;all_goals ((repeat' (first|go_skip|go_guarded|go_step|go_upon|go_back|((first|((first|(go_at_call 143;refine (IC.use (zgT _) (fun a=>0<=a/\a<=999) (fun m _=>zem _ m) (by first|exact HL.out|exact HL.out.last) HM.out).mono ?_)|(go_at_call 144;refine (IC.use (zab _ _ (by omega) (by omega)) (fun _=>True) (fun _ _=>trivial) (by first|exact HL.out|exact HL.out.last) HM.out).mono ?_)|(go_at_call 138;refine (IC.use (zav _) (fun a=>0<=a/\a<=999) (fun m _=>zac _ m) (by first|exact HL.out|exact HL.out.last) HM.out).mono ?_));(rintro e w2 ⟨x,m2,fp2,rfl,hx,hm,ht,HL2⟩);(replace HM:=Hd hm;replace HT:=Hd (HT.out.trans ht);clear hm ht;clear HL;have HL:=Hd HL2;clear HL2;(try simp only []);(all_goals ((repeat' ((rcases HL.out.ite with ⟨hg,HL2⟩|⟨hg,HL2⟩<;>(clear HL;have HL:=Hd HL2;clear HL2))))))))|((go_at_call 154;refine (zcx _ (by omega) (by omega) _ (by decide) _ HM.out.globs).mono ?_);rintro e w2 ⟨rfl,hb⟩;(replace HM:=Hd (HM.out.below hb);replace HT:=Hd (HT.out.trans (IT.below hb));clear hb;(try simp only [])))))|(exfalso;(simp only [bne_eq_false_iff_eq,beq_eq_false_iff_ne,beq_iff_eq,bne_iff_ne] at *);omega)))))
 all_goals (obtain ⟨rfl,rfl⟩:=HL.out.end;((refine bodyPost_ret (by simp [results,Tryz.results75,go_sem];rfl) rfl ?_));exact ⟨rfl,_,HM.out,HT.out⟩)
theorem zjk (id:Int) (id0 : -9223372036854775808<=id) (id1:id<=9223372036854775807) (text:ByteArray) (textz:text.size<=1048576):IC 76 (fun x=>#[x,.int .i64 id,.string text]) (K.putPipe id text) (fun n=>.int .i64 n):=by
 refine zdT (fun w0 w fp b m res mres HM HT HL=>?_)
 unfold K.putPipe at HL
 have hh:=zcW text
 have hc:¬ 9223372036854775807<1+(zfb text).size:=by omega
 have hk:=zeL id ⟨#[47,113,47]⟩ (by decide) id0 id1
 (skip)
 all_goals (go_enter Tryz.func76,Tryz.ntmps76;all_goals ((repeat' (first|go_skip|go_guarded|go_step|go_upon|go_back|((first|((first|(go_at_call 147;refine (IC.use (zaT _ _) (fun _=>True) (fun _ _=>trivial) (by first|exact HL.out|exact HL.out.last) HM.out).mono ?_)|(go_at_call 155;refine (IC.use (zgR _ (by omega) (by omega)) (fun _=>True) (fun _ _=>trivial) (by first|exact HL.out|exact HL.out.last) HM.out).mono ?_)|(go_at_call 144;refine (IC.use (zab _ _ (by omega) (by omega)) (fun _=>True) (fun _ _=>trivial) (by first|exact HL.out|exact HL.out.last) HM.out).mono ?_)|(go_at_call 138;refine (IC.use (zav _) (fun a=>0<=a/\a<=999) (fun m _=>zac _ m) (by first|exact HL.out|exact HL.out.last) HM.out).mono ?_));(rintro e w2 ⟨x,m2,fp2,rfl,hx,hm,ht,HL2⟩);(replace HM:=Hd hm;replace HT:=Hd (HT.out.trans ht);clear hm ht;clear HL;have HL:=Hd HL2;clear HL2;(try simp only []);(all_goals ((repeat' ((rcases HL.out.ite with ⟨hg,HL2⟩|⟨hg,HL2⟩<;>(clear HL;have HL:=Hd HL2;clear HL2))))))))|((first|(go_at_call 156;refine (zcU _ _ (by omega)).mono ?_)|(go_at_call 149;refine (zah _ _ _ _ HM.out.globs (by first|omega|decide) (by first|omega|decide) (by omega) (by omega)).mono ?_)|(go_at_call 154;refine (zcx _ (by omega) (by omega) _ (by decide) _ HM.out.globs).mono ?_));rintro e w2 ⟨rfl,hb⟩;(replace HM:=Hd (HM.out.below hb);replace HT:=Hd (HT.out.trans (IT.below hb));clear hb;(try simp only [])))))|(exfalso;(simp only [bne_eq_false_iff_eq,beq_eq_false_iff_ne,beq_iff_eq,bne_iff_ne] at *);omega)))))
 all_goals (obtain ⟨rfl,rfl⟩:=HL.out.end;((refine bodyPost_ret (by simp [results,Tryz.results76,go_sem];rfl) rfl ?_));exact ⟨rfl,_,HM.out,HT.out⟩)
theorem zid (id:Int) (id0 : -9223372036854775808<=id) (id1:id<=9223372036854775807):IC 77 (fun x=>#[x,.int .i64 id]) (K.takePipe id) (fun p=>.tuple #[.string p.1,.int .i64 p.2]):=by
 refine zdT (fun w0 w fp b m res mres HM HT HL=>?_)
 unfold K.takePipe at HL
 have hk:=zeL id ⟨#[47,113,47]⟩ (by decide) id0 id1
 (skip)
 all_goals (go_enter Tryz.func77,Tryz.ntmps77;all_goals ((repeat' (first|go_skip|go_guarded|go_step|go_upon|go_back|((first|((first|(go_at_call 147;refine (IC.use (zaT _ _) (fun _=>True) (fun _ _=>trivial) (by first|exact HL.out|exact HL.out.last) HM.out).mono ?_)|(go_at_call 155;refine (IC.use (zgR _ (by omega) (by omega)) (fun _=>True) (fun _ _=>trivial) (by first|exact HL.out|exact HL.out.last) HM.out).mono ?_)|(go_at_call 157;refine (IC.use (zfO _) (fun _=>True) (fun _ _=>trivial) (by first|exact HL.out|exact HL.out.last) HM.out).mono ?_)|(go_at_call 144;refine (IC.use (zab _ _ (by omega) (by omega)) (fun _=>True) (fun _ _=>trivial) (by first|exact HL.out|exact HL.out.last) HM.out).mono ?_)|(go_at_call 138;refine (IC.use (zav _) (fun a=>0<=a/\a<=999) (fun m _=>zac _ m) (by first|exact HL.out|exact HL.out.last) HM.out).mono ?_));(rintro e w2 ⟨x,m2,fp2,rfl,hx,hm,ht,HL2⟩);(replace HM:=Hd hm;replace HT:=Hd (HT.out.trans ht);clear hm ht;clear HL;have HL:=Hd HL2;clear HL2;(try simp only []);(all_goals ((repeat' ((rcases HL.out.ite with ⟨hg,HL2⟩|⟨hg,HL2⟩<;>(clear HL;have HL:=Hd HL2;clear HL2))))))))|((first|(go_at_call 149;refine (zah _ _ _ _ HM.out.globs (by first|omega|decide) (by first|omega|decide) (by omega) (by omega)).mono ?_)|(go_at_call 154;refine (zcx _ (by omega) (by omega) _ (by decide) _ HM.out.globs).mono ?_));rintro e w2 ⟨rfl,hb⟩;(replace HM:=Hd (HM.out.below hb);replace HT:=Hd (HT.out.trans (IT.below hb));clear hb;(try simp only [])))))|(exfalso;(simp only [bne_eq_false_iff_eq,beq_eq_false_iff_ne,beq_iff_eq,bne_iff_ne] at *);omega)))))
 all_goals (obtain ⟨rfl,rfl⟩:=HL.out.end;((refine bodyPost_ret (by simp [results,Tryz.results77,go_sem];rfl) rfl ?_));exact ⟨rfl,_,HM.out,HT.out⟩)
theorem zlc (parent:Int) (parent0 : -9223372036854775808<=parent) (parent1:parent<=9223372036854775807):IC 78 (fun x=>#[x,.int .i64 parent]) (K.spawn parent) (fun p=>.tuple #[.int .i64 p.1,.int .i64 p.2]):=by
 refine zdT (fun w0 w fp b m res mres HM HT HL=>?_)
 unfold K.spawn at HL
 (skip)
 all_goals (go_enter Tryz.func78,Tryz.ntmps78;all_goals ((repeat' (first|go_skip|go_guarded|go_step|go_upon|go_back|((first|((first|(go_at_call 143;refine (IC.use (zgT _) (fun a=>0<=a/\a<=999) (fun m _=>zem _ m) (by first|exact HL.out|exact HL.out.last) HM.out).mono ?_)|(go_at_call 144;refine (IC.use (zab _ _ (by omega) (by omega)) (fun _=>True) (fun _ _=>trivial) (by first|exact HL.out|exact HL.out.last) HM.out).mono ?_)|(go_at_call 138;refine (IC.use (zav _) (fun a=>0<=a/\a<=999) (fun m _=>zac _ m) (by first|exact HL.out|exact HL.out.last) HM.out).mono ?_));(rintro e w2 ⟨x,m2,fp2,rfl,hx,hm,ht,HL2⟩);(replace HM:=Hd hm;replace HT:=Hd (HT.out.trans ht);clear hm ht;clear HL;have HL:=Hd HL2;clear HL2;(try simp only []);(all_goals ((repeat' ((rcases HL.out.ite with ⟨hg,HL2⟩|⟨hg,HL2⟩<;>(clear HL;have HL:=Hd HL2;clear HL2))))))))|((go_at_call 139;refine (zcw _ (by omega) (by omega) _ (by decide) _ HM.out.globs).mono ?_);rintro e w2 ⟨rfl,hb⟩;(replace HM:=Hd (HM.out.below hb);replace HT:=Hd (HT.out.trans (IT.below hb));clear hb;(try simp only [])))))|(exfalso;(simp only [bne_eq_false_iff_eq,beq_eq_false_iff_ne,beq_iff_eq,bne_iff_ne] at *);omega)))))
 all_goals (obtain ⟨rfl,rfl⟩:=HL.out.end;((refine bodyPost_ret (by simp [results,Tryz.results78,go_sem];rfl) rfl ?_));exact ⟨rfl,_,HM.out,HT.out⟩)
theorem impl_end (id:Int) (id0 : -9223372036854775808<=id) (id1:id<=9223372036854775807) (n:Int) (n0 : -9223372036854775808<=n) (n1:n<=9223372036854775807):IC 80 (fun x=>#[x,.int .i64 id,.int .i64 n]) (K.endProc id n) (fun n=>.int .i64 n):=by
 refine zdT (fun w0 w fp b m res mres HM HT HL=>?_)
 unfold K.endProc at HL
 (skip)
 all_goals (go_enter Tryz.func80,Tryz.ntmps80;all_goals ((repeat' (first|go_skip|go_guarded|go_step|go_upon|go_back|((first|((first|(go_at_call 67;refine (IC.use (zdI _ (by omega) (by omega)) (fun a=>0<=a/\a<=999) (fun m _=>zac _ m) (by first|exact HL.out|exact HL.out.last) HM.out).mono ?_)|(go_at_call 144;refine (IC.use (zab _ _ (by omega) (by omega)) (fun _=>True) (fun _ _=>trivial) (by first|exact HL.out|exact HL.out.last) HM.out).mono ?_));(rintro e w2 ⟨x,m2,fp2,rfl,hx,hm,ht,HL2⟩);(replace HM:=Hd hm;replace HT:=Hd (HT.out.trans ht);clear hm ht;clear HL;have HL:=Hd HL2;clear HL2;(try simp only []);(all_goals ((repeat' ((rcases HL.out.ite with ⟨hg,HL2⟩|⟨hg,HL2⟩<;>(clear HL;have HL:=Hd HL2;clear HL2))))))))|((go_at_call 140;refine (zag _ _ _ _).mono ?_);rintro e w2 ⟨rfl,rfl⟩;(try simp only []);(try rw [HN.out]);(try rw [HP.out]);(try simp (disch:=omega) only [zaP,zbb]))|((go_at_call 139;refine (zcw _ (by omega) (by omega) _ (by decide) _ HM.out.globs).mono ?_);rintro e w2 ⟨rfl,hb⟩;(replace HM:=Hd (HM.out.below hb);replace HT:=Hd (HT.out.trans (IT.below hb));clear hb;(try simp only [])))))|(exfalso;(simp only [bne_eq_false_iff_eq,beq_eq_false_iff_ne,beq_iff_eq,bne_iff_ne] at *);omega)))))
 all_goals (obtain ⟨rfl,rfl⟩:=HL.out.end;((refine bodyPost_ret (by simp [results,Tryz.results80,go_sem];rfl) rfl ?_));exact ⟨rfl,_,HM.out,HT.out⟩)
theorem zmf (parent:Int) (parent0 : -9223372036854775808<=parent) (parent1:parent<=9223372036854775807) (id:Int) (id0 : -9223372036854775808<=id) (id1:id<=9223372036854775807):IC 82 (fun x=>#[x,.int .i64 parent,.int .i64 id]) (K.reap parent id) (fun p=>.tuple #[.int .i64 p.1,.int .i64 p.2]):=by
 refine zdT (fun w0 w fp b m res mres HM HT HL=>?_)
 unfold K.reap at HL
 (skip)
 all_goals (go_enter Tryz.func82,Tryz.ntmps82;all_goals ((repeat' (first|go_skip|go_guarded|go_step|go_upon|go_back|((first|((first|(go_at_call 148;refine (IC.use (zgO _) (fun _=>True) (fun _ _=>trivial) (by first|exact HL.out|exact HL.out.last) HM.out).mono ?_)|(go_at_call 67;refine (IC.use (zdI _ (by omega) (by omega)) (fun a=>0<=a/\a<=999) (fun m _=>zac _ m) (by first|exact HL.out|exact HL.out.last) HM.out).mono ?_)|(go_at_call 138;refine (IC.use (zav _) (fun a=>0<=a/\a<=999) (fun m _=>zac _ m) (by first|exact HL.out|exact HL.out.last) HM.out).mono ?_));(rintro e w2 ⟨x,m2,fp2,rfl,hx,hm,ht,HL2⟩);(replace HM:=Hd hm;replace HT:=Hd (HT.out.trans ht);clear hm ht;clear HL;have HL:=Hd HL2;clear HL2;(try simp only []);(all_goals ((repeat' ((rcases HL.out.ite with ⟨hg,HL2⟩|⟨hg,HL2⟩<;>(clear HL;have HL:=Hd HL2;clear HL2;try first|(have hgz : _ ∨ _:=hg;clear hg;rcases hgz with hg|hg<;>(try have hgb:=bne_iff_ne.2 hg))|(have hgz:=not_or.1 hg;clear hg;obtain ⟨hg,hgo⟩:=hgz;try replace hgo:=Decidable.not_not.1 hgo)))))))))|((go_at_call 139;refine (zcw _ (by omega) (by omega) _ (by decide) _ HM.out.globs).mono ?_);rintro e w2 ⟨rfl,hb⟩;(replace HM:=Hd (HM.out.below hb);replace HT:=Hd (HT.out.trans (IT.below hb));clear hb;(try simp only [])))))|(exfalso;(simp only [bne_eq_false_iff_eq,beq_eq_false_iff_ne,beq_iff_eq,bne_iff_ne] at *);omega)))))
 all_goals (obtain ⟨rfl,rfl⟩:=HL.out.end;((refine bodyPost_ret (by simp [results,Tryz.results82,go_sem];rfl) rfl ?_));exact ⟨rfl,_,HM.out,HT.out⟩)
end Go.Proofs.YtpnoehpmgflibaaGreatDoor
