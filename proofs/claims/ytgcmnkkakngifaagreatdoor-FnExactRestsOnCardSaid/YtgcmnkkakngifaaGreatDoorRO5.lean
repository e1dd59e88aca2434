/- Texts of this claim, merged: the walks and what they stand on. Each condition stands in its theorem. -/
import Derived.Test.YtgcmnkkakngifaaGreatDoorRO4
set_option linter.unusedVariables false
set_option linter.unusedSimpArgs false
set_option maxRecDepth 100000
set_option maxHeartbeats 8000000
namespace Go.Proofs.YtgcmnkkakngifaaGreatDoor
open Go.ChangeShapes Go.WideShapes Go.ChangeAt Go.RowKit
theorem opens_int:Opens Tryz.prog 3 vInt:=opensInt Tryz.underlying3
def vIntR:View Int:=vRow (fun n=>[.int .i64 n]) 1 InR (fun _=>rfl) (by simp [Value.oneCell'])
def vCallR:View CallD:=vRow CallD.row 6 (fun d=>d.ok/\InR d.a/\InR d.b) (fun _=>rfl) (fun d u hu=>by simp [CallD.row] at hu;rcases hu with rfl|rfl|rfl|rfl|rfl|rfl<;>rfl)
theorem opens_intR:Opens Tryz.prog 3 vIntR:=by
 intro H enc w fuel cs x h
 obtain ⟨n,rfl,_,hw⟩:=DataW.trod_int Tryz.underlying3 h
 refine ⟨n,rfl,?_⟩
 simp [Lit.wf,IntKind.min,IntKind.max,IntKind.signed,IntKind.bits] at hw
 exact ⟨by omega,by omega⟩
theorem opens_str:Opens Tryz.prog 9 vStr:=opensStr Tryz.underlying9
theorem Tryz.cellsLCall:Tryz.prog.cellsOf 49=6:=by kernel_rfl
theorem opens_CallR:Opens Tryz.prog 49 vCallR:=by
 intro H enc w fuel cs x h
 obtain ⟨xs,n,_,_,hl,hxl,hf⟩:=DataW.trod_struct Tryz.underlying49 h
 rw [Tryz.cellsLCall] at hl
 match cs,hl with
 | [c0,c1,c2,c3,c4,c5],_ =>
  match xs,hxl with
  | [y0,y1,y2,y3,y4,y5],_ =>
   have h0:DataW.trod enc Tryz.prog w 0 (fun _=>true) true n 3 [c0]=some y0:=by
    have:=hf 0 _ rfl
    rw [show Tryz.prog.cellsOf _=1 by kernel_rfl] at this
    exact this
   have h1:DataW.trod enc Tryz.prog w 0 (fun _=>true) true n 9 [c1]=some y1:=by
    have:=hf 1 _ rfl
    rw [show Tryz.prog.cellsOf _=1 by kernel_rfl] at this
    exact this
   have h2:DataW.trod enc Tryz.prog w 0 (fun _=>true) true n 9 [c2]=some y2:=by
    have:=hf 2 _ rfl
    rw [show Tryz.prog.cellsOf _=1 by kernel_rfl] at this
    exact this
   have h3:DataW.trod enc Tryz.prog w 0 (fun _=>true) true n 3 [c3]=some y3:=by
    have:=hf 3 _ rfl
    rw [show Tryz.prog.cellsOf _=1 by kernel_rfl] at this
    exact this
   have h4:DataW.trod enc Tryz.prog w 0 (fun _=>true) true n 3 [c4]=some y4:=by
    have:=hf 4 _ rfl
    rw [show Tryz.prog.cellsOf _=1 by kernel_rfl] at this
    exact this
   have h5:DataW.trod enc Tryz.prog w 0 (fun _=>true) true n 9 [c5]=some y5:=by
    have:=hf 5 _ rfl
    rw [show Tryz.prog.cellsOf _=1 by kernel_rfl] at this
    exact this
   obtain ⟨d0,e0,_⟩:=opens_int _ _ _ _ h0
   obtain ⟨d1,e1,z1⟩:=opens_str _ _ _ _ h1
   obtain ⟨d2,e2,z2⟩:=opens_str _ _ _ _ h2
   obtain ⟨d3,e3,z3⟩:=opens_intR _ _ _ _ h3
   obtain ⟨d4,e4,z4⟩:=opens_intR _ _ _ _ h4
   obtain ⟨d5,e5,z5⟩:=opens_str _ _ _ _ h5
   simp only [List.cons.injEq,and_true] at e0
   subst e0
   simp only [List.cons.injEq,and_true] at e1
   subst e1
   simp only [List.cons.injEq,and_true] at e2
   subst e2
   simp only [List.cons.injEq,and_true] at e3
   subst e3
   simp only [List.cons.injEq,and_true] at e4
   subst e4
   simp only [List.cons.injEq,and_true] at e5
   subst e5
   exact ⟨⟨d0,d1,d2,d3,d4,d5⟩,rfl,⟨⟨z1,z2,z5⟩,z3,z4⟩⟩
theorem Tryz.cellsLCell:Tryz.prog.cellsOf 68=2:=by kernel_rfl
theorem opens_Cell:Opens Tryz.prog 68 zfN:=by
 intro H enc w fuel cs x h
 obtain ⟨xs,n,_,_,hl,hxl,hf⟩:=DataW.trod_struct Tryz.underlying68 h
 rw [Tryz.cellsLCell] at hl
 match cs,hl with
 | [c0,c1],_ =>
  match xs,hxl with
  | [y0,y1],_ =>
   have h0:DataW.trod enc Tryz.prog w 0 (fun _=>true) true n 9 [c0]=some y0:=by
    have:=hf 0 _ rfl
    rw [show Tryz.prog.cellsOf _=1 by kernel_rfl] at this
    exact this
   have h1:DataW.trod enc Tryz.prog w 0 (fun _=>true) true n 9 [c1]=some y1:=by
    have:=hf 1 _ rfl
    rw [show Tryz.prog.cellsOf _=1 by kernel_rfl] at this
    exact this
   obtain ⟨d0,e0,z0⟩:=opens_str _ _ _ _ h0
   obtain ⟨d1,e1,z1⟩:=opens_str _ _ _ _ h1
   simp only [List.cons.injEq,and_true] at e0
   subst e0
   simp only [List.cons.injEq,and_true] at e1
   subst e1
   exact ⟨⟨d0,d1⟩,rfl,⟨z0,z1⟩⟩
theorem opens_CellS {x:TypeId}:Opens Tryz.prog 22 (vSlice zfN x):=opens_slice Tryz.underlying22 (by kernel_rfl) (by decide) opens_Cell
theorem open_intR {H:Type} {enc:TypeId × Value->H} {W:World} {n:Int} {d:DataW H} {p:List MemPlace} (h:DataW.Trod enc Tryz.prog W 0 (fun _=>true) true 3 (.int .i64 n) d p):InR n:=by
 obtain ⟨fuel,hf⟩:=h
 obtain ⟨m,e,z⟩:=opens_intR _ _ _ _ hf
 cases e
 exact z
theorem below_dr (w:World) (z:Array Obj) (d0 d1:Nat):Below (w.ext ⟨z,d0⟩).heap.size (w.ext ⟨z,d0⟩) (w.ext ⟨z,d1⟩):=by
 obtain ⟨X,hX⟩:=Sx.same w z d0 d1
 rw [hX]
 exact Below.ofExt (Below.refl _ _) X
theorem law_RestsOn (v0:Value) (d0:List CellD) (v1:Value) (d1:List CellD) (pr:Int) (cs3:List Value) (d3:CallD) (w:World) (hg:Glob w) (hs0:(vSlice zfN 68).rd w [v0] d0) (hs1:(vSlice zfN 68).rd w [v1] d1) (hp:InR pr) (hs3:vCallR.rd w cs3 d3):Calls Tryz.prog 7 #[v0,v1,.int .i64 pr,.agg cs3.toArray] w (Yes w):=by
 unfold Yes
 obtain ⟨ck,cn,cx,ca,cb,ct⟩:=d3
 obtain ⟨rfl,hc⟩:=hs3
 have HC:=Lib.hid hc
 have HF:Hid (StepD.fine ⟨pr,⟨ck,cn,cx,ca,cb,ct⟩⟩):=⟨hc.1,hp,hc.2.1,hc.2.2⟩
 obtain ⟨a0,c0,rfl⟩:=vSlice.form hs0
 obtain ⟨a1,c1,rfl⟩:=vSlice.form hs1
 have H0:=Lib.hid hs0
 have H1:=Lib.hid hs1
 have HG:=Lib.hid hg
 clear hs0 hs1 hg hp hc
 unfold CallD.row
 go_enter Tryz.func7,Tryz.ntmps7
 have BX:=Lib.hid (Below.refl (w.alloc (.cells #[.int .i64 ck,.string cn,.string cx,.int .i64 ca,.int .i64 cb,.string ct] 49)).heap.size (w.alloc (.cells #[.int .i64 ck,.string cn,.string cx,.int .i64 ca,.int .i64 cb,.string ct] 49)))
 have BW:Hid (Below w.heap.size w (w.alloc (.cells #[.int .i64 ck,.string cn,.string cx,.int .i64 ca,.int .i64 cb,.string ct] 49))):=Lib.hid (by repeat (first|with_reducible exact Below.refl _ _|with_reducible apply Below.ofAlloc))
 go_wp2_with fail
 (go_at_call 9;refine (laws_szCellS _ d0 _ _ (View.grow _ H0.out (Grew.below BW.out)) (by omega) (by omega)).mono ?_;rintro e w1 ⟨rfl,hb⟩)
 replace BW:=Lib.hid (Below.then BW.out hb)
 replace BX:=Lib.hid (Below.then BX.out hb)
 clear hb
 obtain ⟨⟨z1,y1⟩,rfl⟩:=BX.out.ext
 obtain ⟨q0,q0e⟩ : ∃ q:Nat,q=wtS CellD.wt d0:=⟨_,rfl⟩
 rw [<- q0e]
 have Q0:=Lib.hid q0e
 clear q0e
 by_cases g0:(q0:Int)<=1048576
 case neg =>
  rw [zbD g0]
  go_wp2
  go_ret
  exact ⟨rfl,BW.out⟩
 rw [zek g0]
 have n0:¬ (1048576 - (q0:Int):Int) < 0:=by omega
 go_wp2_with fail
 (go_at_call 9;refine (laws_szCellS _ d1 _ _ (View.grow _ H1.out (Grew.below BW.out)) (by omega) (by omega)).mono ?_;rintro e w2 ⟨rfl,hb⟩)
 replace BW:=Lib.hid (Below.then BW.out hb)
 replace BX:=Lib.hid (Below.then BX.out hb)
 clear hb
 obtain ⟨⟨z2,y2⟩,rfl⟩:=BX.out.ext
 obtain ⟨q1,q1e⟩ : ∃ q:Nat,q=wtS CellD.wt d1:=⟨_,rfl⟩
 rw [<- q1e]
 have Q1:=Lib.hid q1e
 clear q1e
 by_cases g1:(q1:Int)<=1048576 - (q0:Int)
 case neg =>
  rw [zbD g1]
  go_wp2
  go_ret
  exact ⟨rfl,BW.out⟩
 rw [zek g1]
 have n1:¬ (1048576 - (q0:Int) - (q1:Int):Int) < 0:=by omega
 have HSZ:=Lib.hid (laws_szCall ⟨ck,cn,cx,ca,cb,ct⟩)
 go_wp2_with fail
 (go_at_call 24;refine (HSZ.out _ _ HC.out.1 (by omega) (by omega)).mono ?_;rintro e w3 ⟨rfl,hb⟩)
 replace BW:=Lib.hid (Below.then BW.out hb)
 replace BX:=Lib.hid (Below.then BX.out hb)
 clear hb
 obtain ⟨⟨z3,y3⟩,rfl⟩:=BX.out.ext
 obtain ⟨q2,q2e⟩ : ∃ q:Nat,q=CallD.wt ⟨ck,cn,cx,ca,cb,ct⟩:=⟨_,rfl⟩
 rw [<- q2e]
 clear q2e HSZ
 by_cases g2:(q2:Int)<=1048576 - (q0:Int) - (q1:Int)
 case neg =>
  rw [zbD g2]
  go_wp2
  go_ret
  exact ⟨rfl,BW.out⟩
 rw [zek g2]
 have n2:¬ (1048576 - (q0:Int) - (q1:Int) - (q2:Int):Int) < 0:=by omega
 have HS0:Hid (wtS CellD.wt d0 + 1<=2097152):=by have:=Q0.out;show _<=_;omega
 have HS1:Hid (wtS CellD.wt d1 + 1<=2097152):=by have:=Q1.out;show _<=_;omega
 have HL0:Hid (d0.length<=1048576):=by have:=Q0.out;unfold wtS at this;show _<=_;omega
 have HL1:Hid (d1.length<=1048576):=by have:=Q1.out;unfold wtS at this;show _<=_;omega
 have HW0:=Lib.hid (run_one HF.out (zs:=d0) HL0.out (by have:=Q0.out;omega))
 have HW1:=Lib.hid (run_one HF.out (zs:=d1) HL1.out (by have:=Q1.out;omega))
 have HK0:=Lib.hid (vCells_ok H0.out)
 have HK1:=Lib.hid (vCells_ok H1.out)
 obtain ⟨r,m,hr⟩ : ∃ r m,(K.runAll [⟨pr,⟨ck,cn,cx,ca,cb,ct⟩⟩]).run ⟨d0,[],[]⟩ = (r,m):=⟨_,_,rfl⟩
 obtain ⟨r',m',hr'⟩ : ∃ r m,(K.runAll [⟨pr,⟨ck,cn,cx,ca,cb,ct⟩⟩]).run ⟨d1,[],[]⟩ = (r,m):=⟨_,_,rfl⟩
 have HS:Hid (Mp.Small m/\∀ a ∈ r,a.ok):=by have:=HW0.out.2.2;rw [hr] at this;exact this
 have HS':Hid (Mp.Small m'/\∀ a ∈ r',a.ok):=by have:=HW1.out.2.2;rw [hr'] at this;exact this
 have HR:=Lib.hid hr
 have HR':=Lib.hid hr'
 clear hr hr'
 obtain ⟨bb,hbb⟩ : ∃ bb,bb=restOf d0 d1 r m r' m':=⟨_,rfl⟩
 have HBB:=Lib.hid hbb
 clear hbb HS0 HS1
 go_wp2
 refine zgv [(0,true),(2,true),(4,true),(5,true),(1,false),(3,false),(6,false),(7,false),(8,false)] 8 (by kernel_rfl) (by kernel_rfl) ?_
 have hb:=below_dr (w.alloc (.cells #[.int .i64 ck,.string cn,.string cx,.int .i64 ca,.int .i64 cb,.string ct] 49)) z3 y3 (y3 + 1)
 have BR:=Lib.hid hb
 replace BW:=Lib.hid (Below.then BW.out hb)
 replace BX:=Lib.hid (Below.then BX.out hb)
 clear hb
 repeat (refine zl rfl (fun K hK=>?_);go_simp;(try simp (disch:=omega) only [IntWalk.i64_in]);refine hK _ ?_;clear hK K)
 refine zt rfl (fun K hK=>?_);go_simp;go_at_call 12;refine (laws_toCellS _ d0 _ (View.grow _ H0.out (Grew.below BW.out)) HL0.out).mono ?_;rintro e w4 ⟨u,fpA0,rfl,hf,hb⟩;obtain ⟨xA0,yA0,rfl⟩:=vSlice.form (View.toRd _ hf.own);try go_simp;refine hK _ _ ((Below.then BR.out hb).ext) ?_;clear hK K
 have OO:=Lib.hid hf.own
 clear hf
 replace BR:=Lib.hid (Below.then BR.out hb)
 replace BW:=Lib.hid (Below.then BW.out hb)
 replace BX:=Lib.hid (Below.then BX.out hb)
 clear hb
 have OA0:=Lib.hid OO.out
 clear OO
 obtain ⟨⟨z4,y4⟩,rfl⟩:=BX.out.ext
 refine zt rfl (fun K hK=>?_);go_simp;go_at_call 12;refine (laws_toCellS _ d1 _ (View.grow _ H1.out (Grew.below BW.out)) HL1.out).mono ?_;rintro e w5 ⟨u,fpA1,rfl,hf,hb⟩;obtain ⟨xA1,yA1,rfl⟩:=vSlice.form (View.toRd _ hf.own);try go_simp;refine hK _ _ ((Below.then BR.out hb).ext) ?_;clear hK K
 have OO:=Lib.hid hf.own
 clear hf
 replace BR:=Lib.hid (Below.then BR.out hb)
 replace BW:=Lib.hid (Below.then BW.out hb)
 replace BX:=Lib.hid (Below.then BX.out hb)
 replace OA0:=Lib.hid (View.own_below OA0.out hb)
 clear hb
 have OA1:=Lib.hid OO.out
 clear OO
 obtain ⟨⟨z5,y5⟩,rfl⟩:=BX.out.ext
 refine zt rfl (fun K hK=>?_);go_simp;go_at_call 26;refine (laws_toCall ck cn cx ca cb ct _).mono ?_;rintro e w6 ⟨rfl,hb⟩;try go_simp;refine hK _ _ ((Below.then BR.out hb).ext) ?_;clear hK K
 replace BR:=Lib.hid (Below.then BR.out hb)
 replace BW:=Lib.hid (Below.then BW.out hb)
 replace BX:=Lib.hid (Below.then BX.out hb)
 replace OA0:=Lib.hid (View.own_below OA0.out hb)
 replace OA1:=Lib.hid (View.own_below OA1.out hb)
 clear hb
 obtain ⟨⟨z6,y6⟩,rfl⟩:=BX.out.ext
 have DS:=Lib.hid (spec_RestsOn _ _ d0 d1 pr ⟨ck,cn,cx,ca,cb,ct⟩ _ (rdl_of_own (R:=zu) rfl OA0.out) (rdl_of_own (R:=zu) rfl OA1.out) HK0.out HK1.out HF.out HL0.out HL1.out HW0.out.1 HW1.out.1 r r' m m' HR.out HR'.out HS.out.1 HS'.out.1 HS.out.2 HS'.out.2)
 rw [<- HBB.out] at DS
 unfold zbL at DS
 refine zt rfl (fun K hK=>?_);go_simp;go_at_call 31;refine (DS.out).mono ?_;rintro e w7 ⟨rfl,hb⟩;try go_simp;refine hK _ _ ((Below.then BR.out hb).ext) ?_;clear hK K
 clear DS
 replace BR:=Lib.hid (Below.then BR.out hb)
 replace BW:=Lib.hid (Below.then BW.out hb)
 replace BX:=Lib.hid (Below.then BX.out hb)
 replace OA0:=Lib.hid (View.own_below OA0.out hb)
 replace OA1:=Lib.hid (View.own_below OA1.out hb)
 clear hb
 obtain ⟨⟨z7,y7⟩,rfl⟩:=BX.out.ext
 repeat (refine zw rfl rfl (fun K hK=>?_);go_simp;refine hK _ _ ?_;clear hK K)
 refine zae ?_
 clear BR
 clear OA0
 clear OA1
 go_wp2_with fail
 (go_at_call 12;refine (laws_toCellS _ d0 _ (View.grow _ H0.out (Grew.below BW.out)) HL0.out).mono ?_;rintro e w8 ⟨u,fpK0,rfl,hf,hb⟩;obtain ⟨xK0,yK0,rfl⟩:=vSlice.form (View.toRd _ hf.own))
 have OO:=Lib.hid hf.own
 clear hf
 replace BW:=Lib.hid (Below.then BW.out hb)
 replace BX:=Lib.hid (Below.then BX.out hb)
 clear hb
 have OK0:=Lib.hid OO.out
 clear OO
 obtain ⟨⟨z8,y8⟩,rfl⟩:=BX.out.ext
 go_wp2_with fail
 (go_at_call 12;refine (laws_toCellS _ d1 _ (View.grow _ H1.out (Grew.below BW.out)) HL1.out).mono ?_;rintro e w9 ⟨u,fpK1,rfl,hf,hb⟩;obtain ⟨xK1,yK1,rfl⟩:=vSlice.form (View.toRd _ hf.own))
 have OO:=Lib.hid hf.own
 clear hf
 replace BW:=Lib.hid (Below.then BW.out hb)
 replace BX:=Lib.hid (Below.then BX.out hb)
 replace OK0:=Lib.hid (View.own_below OK0.out hb)
 clear hb
 have OK1:=Lib.hid OO.out
 clear OO
 obtain ⟨⟨z9,y9⟩,rfl⟩:=BX.out.ext
 go_wp2_with fail
 (go_at_call 26;refine (laws_toCall ck cn cx ca cb ct _).mono ?_;rintro e w10 ⟨rfl,hb⟩)
 replace BW:=Lib.hid (Below.then BW.out hb)
 replace BX:=Lib.hid (Below.then BX.out hb)
 replace OK0:=Lib.hid (View.own_below OK0.out hb)
 replace OK1:=Lib.hid (View.own_below OK1.out hb)
 clear hb
 obtain ⟨⟨z10,y10⟩,rfl⟩:=BX.out.ext
 have DS:=Lib.hid (impl_RestsOn _ _ d0 d1 pr ⟨ck,cn,cx,ca,cb,ct⟩ _ (HG.out.below BW.out) (rdl_of_own (R:=zu) rfl OK0.out) (rdl_of_own (R:=zu) rfl OK1.out) HK0.out HK1.out HF.out HL0.out HL1.out HW0.out.2.1 HW1.out.2.1 r r' m m' HR.out HR'.out HS.out.1 HS'.out.1 HS.out.2 HS'.out.2)
 rw [<- HBB.out] at DS
 unfold zbL at DS
 go_wp2_with fail
 (go_at_call 32;refine (DS.out).mono ?_;rintro e w11 ⟨rfl,hb⟩)
 clear DS
 replace BW:=Lib.hid (Below.then BW.out hb)
 replace BX:=Lib.hid (Below.then BX.out hb)
 replace OK0:=Lib.hid (View.own_below OK0.out hb)
 replace OK1:=Lib.hid (View.own_below OK1.out hb)
 clear hb
 obtain ⟨⟨z11,y11⟩,rfl⟩:=BX.out.ext
 have hne:(bb != bb)=false:=by cases bb<;>rfl
 go_wp2_with fail
 (go_at_call 12;refine (laws_toCellS _ d0 _ (View.grow _ H0.out (Grew.below BW.out)) HL0.out).mono ?_;rintro e w12 ⟨u,fpE,rfl,hf,hb⟩;obtain ⟨xE,yE,rfl⟩:=vSlice.form (View.toRd _ hf.own))
 have OO:=Lib.hid hf.own
 clear hf
 replace BW:=Lib.hid (Below.then BW.out hb)
 replace BX:=Lib.hid (Below.then BX.out hb)
 replace OK0:=Lib.hid (View.own_below OK0.out hb)
 replace OK1:=Lib.hid (View.own_below OK1.out hb)
 clear hb
 have OE:=Lib.hid OO.out
 clear OO
 obtain ⟨⟨z12,y12⟩,rfl⟩:=BX.out.ext
 go_wp2_with fail
 (go_at_call 15;refine (laws_eqCellS _ _ d0 _ (View.toRd _ OK0.out) (View.toRd _ OE.out)).mono ?_;rintro e w13 ⟨rfl,hb⟩)
 replace BW:=Lib.hid (Below.then BW.out hb)
 replace BX:=Lib.hid (Below.then BX.out hb)
 replace OK0:=Lib.hid (View.own_below OK0.out hb)
 replace OK1:=Lib.hid (View.own_below OK1.out hb)
 replace OE:=Lib.hid (View.own_below OE.out hb)
 clear hb
 obtain ⟨⟨z13,y13⟩,rfl⟩:=BX.out.ext
 clear OE
 go_wp2_with fail
 (go_at_call 12;refine (laws_toCellS _ d1 _ (View.grow _ H1.out (Grew.below BW.out)) HL1.out).mono ?_;rintro e w14 ⟨u,fpE,rfl,hf,hb⟩;obtain ⟨xE,yE,rfl⟩:=vSlice.form (View.toRd _ hf.own))
 have OO:=Lib.hid hf.own
 clear hf
 replace BW:=Lib.hid (Below.then BW.out hb)
 replace BX:=Lib.hid (Below.then BX.out hb)
 replace OK0:=Lib.hid (View.own_below OK0.out hb)
 replace OK1:=Lib.hid (View.own_below OK1.out hb)
 clear hb
 have OE:=Lib.hid OO.out
 clear OO
 obtain ⟨⟨z14,y14⟩,rfl⟩:=BX.out.ext
 go_wp2_with fail
 (go_at_call 15;refine (laws_eqCellS _ _ d1 _ (View.toRd _ OK1.out) (View.toRd _ OE.out)).mono ?_;rintro e w15 ⟨rfl,hb⟩)
 replace BW:=Lib.hid (Below.then BW.out hb)
 replace BX:=Lib.hid (Below.then BX.out hb)
 replace OK0:=Lib.hid (View.own_below OK0.out hb)
 replace OK1:=Lib.hid (View.own_below OK1.out hb)
 replace OE:=Lib.hid (View.own_below OE.out hb)
 clear hb
 obtain ⟨⟨z15,y15⟩,rfl⟩:=BX.out.ext
 clear OE
 go_wp2
 go_ret
 exact ⟨rfl,BW.out⟩
end Go.Proofs.YtgcmnkkakngifaaGreatDoor
