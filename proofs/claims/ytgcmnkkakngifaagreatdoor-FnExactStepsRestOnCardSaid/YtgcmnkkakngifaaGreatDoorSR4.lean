/- Texts of this claim, merged: the walks and what they stand on. Each condition stands in its theorem. -/
import Derived.Test.YtgcmnkkakngifaaGreatDoorCA5
import Derived.Test.YtgcmnkkakngifaaGreatDoorCA7
import Derived.Test.YtgcmnkkakngifaaGreatDoorSR2
import Derived.Test.YtgcmnkkakngifaaGreatDoorSR3
set_option linter.unusedVariables false
set_option linter.unusedSimpArgs false
set_option maxRecDepth 100000
set_option maxHeartbeats 8000000
namespace Go.Proofs.YtgcmnkkakngifaaGreatDoor
open Go.ChangeShapes Go.WideShapes Go.ChangeAt Go.RowKit
theorem next_ss {H:Type} {P:Program} (w:World) {ops:Array Oper} {rest:List Oper} {o:Oper} {a:Act} {Q:Exit->Act->World->Prop}
  (hg:o.guard=none) (it:Operand) (hop:o.op=Op.next it false) (k e:TypeId) (K:Maps.Keyed P k) (hk:P.underlying k=some .string) (he:P.underlying e=some .string)
  (b r n:Nat) (D:DataW H) (left:Lit->Bool) (cnt:Nat) (hit:a.eval it = .pointer (some ⟨r,0,none⟩)) (h:w.ranges P k (plainElem P e) b r n D left cnt)
  (hDone:cnt=0->(∀ kl,left kl=false)->wpList P ops Q rest (a.put o.dst (.tuple #[.bool false])) w)
  (hMore : ∀ (x c : ByteArray) (w' : World) (cnt' : Nat), x.size <= maxLen -> c.size <= maxLen -> left (kS x) = true -> (∀ zd, D.atKey (kS x) zd = .lit (.string c.data.toList)) -> w'.ranges P k (plainElem P e) b r n D (fun z => left z && !z.sameKey (kS x)) cnt' -> cnt' < cnt ->
   w.grownBy w' (some r)->w'.heap.size=w.heap.size->(Instr.entry (.pointer (some ⟨r,0,none⟩))).run P w' = .ok (.tuple #[.string x,.string c]) w'->wpList P ops Q rest (a.put o.dst (.tuple #[.bool true,.string x,.string c])) w') :
  wpList P ops Q (o :: rest) a w :=
 wpList_next_ranges w hg it hop k K (plainElem P e) Value.string Value.string (fun key kl hkey=>by obtain ⟨x,rfl,_⟩:=Maps.keyOf_str hk hkey;exact ⟨_,rfl⟩) (fun v y hv=>by obtain ⟨c,rfl,_⟩:=plainElem_string_inv he hv;exact ⟨c,rfl⟩)
  b r n D left cnt hit h hDone (fun x c kl y w' cnt' hkey hlk hv hat hrg hlt hgr hsz hen=>by
   obtain ⟨x',ex,rfl,hwx⟩:=Maps.keyOf_str hk hkey
   injection ex with ex
   subst ex
   obtain ⟨c',ec,rfl,hwc⟩:=plainElem_string_inv he hv
   cases ec
   exact hMore _ c w' cnt' (by simpa [ByteArray.size] using hwx) hwc hlk hat hrg hlt hgr hsz hen)
theorem own_below {P:Program} {k:TypeId} {R:Value->Option (DataW Unit × List MemPlace)} {w w':World} {b n:Nat} {D:DataW Unit} (h:w.ownsMap P k R b n D) (hb:Below w.heap.size w w'):w'.ownsMap P k R b n D :=
 h.kept (row:=none) ⟨hb.os,hb.tape,hb.output,hb.size,fun k hk _=>hb.block k hk⟩ (by simp)
theorem look_s {w:World} {b n:Nat} {D:DataW Unit} {zs:List CellD} (h:w.ownsMap Tryz.prog 9 (plainElem (H:=Unit) Tryz.prog 9) b n D) (hv:VOf D zs) (x:ByteArray) (hx:x.size<=maxLen) :
  (Instr.lookup 174 (.map (some b)) (.string x) false).run Tryz.prog w = .ok (.string (zeF x zs)) w:=by
 obtain ⟨v,ps,hrun,hR⟩:=h.lookup (Maps.string_keyed Tryz.underlying9) Tryz.underlying174 (zeroS w) (plainElem_string Tryz.underlying9 (by decide)) (WideMaps.keyOf_string_mk (s:=x) Tryz.underlying9 hx)
 obtain ⟨s,rfl,he,_⟩:=plainElem_string_inv Tryz.underlying9 hR
 have h1:D.atKey (kS x) (.lit (.string [])) = .lit (.string s.data.toList):=(Prod.mk.inj he).1
 rw [hv.at_] at h1
 have h3:(zeF x zs).data.toList=s.data.toList:=Lit.string.inj (DataW.lit.inj h1)
 rw [hrun,ByteArray.ext (Array.toList_inj.1 h3)]
theorem same_kS (x y:ByteArray):(kS x).sameKey (kS y)=true ↔ x=y:=by
 unfold kS Lit.sameKey
 rw [beq_iff_eq]
 exact ⟨fun h=>ByteArray.ext (Array.toList_inj.1 h),fun h=>by rw [h]⟩
theorem strKeys_of {P:Program} {k:TypeId} {R:Value->Option (DataW Unit × List MemPlace)} {w:World} {b n:Nat} {D:DataW Unit} (hown:w.ownsMap P k R b n D) (K:Maps.Keyed P k) (hk:P.underlying k=some .string):(strKeys D).Nodup/\∀ x:ByteArray,x.data.toList ∈ strKeys D ↔ Maps.has D (kS x)=true:=by
 obtain ⟨es,hD,hpw,_⟩:=hown.entries K
 obtain ⟨es',hD',hko⟩:=hown.keysOf
 obtain rfl:es=es':=by rw [hD] at hD';simpa using hD'
 subst hD
 have hks:∀ p ∈ es,∃ x,p.1 = .string x:=fun p hp=>by obtain ⟨v,hv⟩:=hko p hp;obtain ⟨x,_,hx,_⟩:=Maps.keyOf_str hk hv;exact ⟨x,hx⟩
 refine ⟨?_,fun x=>?_⟩
 ·show (es.map fun p=>strOf p.1).Nodup
  refine List.pairwise_map.2 (hpw.imp_of_mem fun {p q} hp' hq' hne e=>hne ?_)
  obtain ⟨a,ha⟩:=hks p hp'
  obtain ⟨b,hb⟩:=hks q hq'
  rw [ha,hb] at e ⊢
  exact congrArg _ e
 ·show x.data.toList ∈ es.map (fun p=>strOf p.1) ↔ es.any (fun p=>p.1.sameKey (kS x))=true
  rw [List.mem_map,List.any_eq_true]
  constructor
  ·rintro ⟨p,hp,he⟩
   obtain ⟨a,ha⟩:=hks p hp
   refine ⟨p,hp,?_⟩
   rw [ha] at he ⊢
   simpa [Lit.sameKey,kS,strOf] using he
  ·rintro ⟨p,hp,he⟩
   obtain ⟨a,ha⟩:=hks p hp
   refine ⟨p,hp,?_⟩
   rw [ha] at he ⊢
   simpa [Lit.sameKey,kS,strOf] using he
structure Part (a b:List CellD) (D:DataW Unit) (S:ByteArray->Prop):Prop where
 sound:∀ key,Maps.has D (kS key)=true->zeF key a ≠ zeF key b
 full:∀ key,S key->zeF key a ≠ zeF key b->Maps.has D (kS key)=true
theorem Part.start {a b:List CellD} {S:ByteArray->Prop} (h:∀ key,¬ S key):Part a b (.map []) S:=⟨fun key h=>(by cases h),fun key hs=>absurd hs (h key)⟩
theorem Part.skip {a b:List CellD} {D:DataW Unit} {S S':ByteArray->Prop} (h:Part a b D S) (hs:∀ key,S' key->S key ∨ zeF key a=zeF key b):Part a b D S' :=
 ⟨h.sound,fun key hk hne=>(hs key hk).elim (fun h'=>h.full key h' hne) (fun e=>absurd e hne)⟩
theorem Part.put {a b:List CellD} {D:DataW Unit} {S S':ByteArray->Prop} (h:Part a b D S) (hm:Maps.IsMap D) (x:ByteArray) (d:DataW Unit) (hx:zeF x a ≠ zeF x b) (hs:∀ key,S' key->S key ∨ key=x):Part a b (D.put (kS x) d) S':=by
 refine ⟨fun key hk=>?_,fun key hk hne=>?_⟩
 ·by_cases e:key=x
  ·rw [e];exact hx
  ·rw [Maps.has_put_other (fun e'=>e (kS_inj e'))] at hk
   exact h.sound key hk
 ·by_cases e:key=x
  ·rw [e];exact Maps.has_put_same hm (kS_lit _) _
  ·rw [Maps.has_put_other (fun e'=>e (kS_inj e'))]
   exact h.full key ((hs key hk).resolve_right e) hne
theorem left_step {left:Lit->Bool} {x key:ByteArray} (h:(left (kS key) && !(kS key).sameKey (kS x))=false):left (kS key)=false ∨ key=x:=by
 cases hl:left (kS key) with
 | false=>exact .inl rfl
 | true =>
  rw [hl] at h
  right
  rw [<- same_kS]
  cases hk:(kS key).sameKey (kS x) with
  | true=>rfl
  | false=>rw [hk] at h;cases h
theorem got_of {D:DataW Unit} {zs:List CellD} {x c:ByteArray} (hv:VOf D zs) (hat:∀ zd,D.atKey (kS x) zd = .lit (.string c.data.toList)):c=zeF x zs:=by
 have h1:=hat (.lit (.string []))
 rw [hv.at_] at h1
 have h3:(zeF x zs).data.toList=c.data.toList:=Lit.string.inj (DataW.lit.inj h1)
 exact (ByteArray.ext (Array.toList_inj.1 h3)).symm
theorem row_rd {w:World} {B:Nat} {v:Value} {a b:List CellD} {ss:List (List UInt8)} (h:w.ownsRow B 9 1 v ss.length ((ss.mergeSort (fun x y=>decide (x<=y))).map encStr)) (hnd:ss.Nodup) (hm:∀ x:ByteArray,x.data.toList ∈ ss ↔ zeF x a ≠ zeF x b):OwnL zx 9 w B v (diffC a b):=by
 obtain ⟨h1,h2⟩:=sorted_diff a b ss hnd hm
 rw [h1,h2] at h
 exact h
theorem impl_DiffKeys (va vb:Value) (a b:List CellD) (w:World) (ha:RdL zu w va a) (hb:RdL zu w vb b) (hka:∀ c ∈ a,c.ok) (hkb:∀ c ∈ b,c.ok) (hl:a.length<=549755813888) (hl2:b.length<=549755813888) :
  Calls Tryz.prog 102 #[va,vb] w fun e w'=>∃ v',e = .returned v'/\OwnL zx 9 w' w.heap.size v' (diffC a b)/\Below w.heap.size w w':=by
 have HA:=Lib.hid ha
 have HB:=Lib.hid hb
 have HKA:=Lib.hid hka
 have HKB:=Lib.hid hkb
 clear hka hkb ha hb
 have hmm:=@run_makeMap Tryz.prog
 go_enter Tryz.func102,Tryz.ntmps102
 go_wp2_with fail
 (go_at_call 163;refine (impl_valuesOf _ a w HA.out HKA.out (by omega)).mono ?_;rintro e w' ⟨b1,rfl,hb1,D1,hown1,hD1,hbel1⟩;have HD1:=Lib.hid hD1;clear hD1;obtain ⟨X1,rfl⟩:=hbel1.ext;clear hbel1)
 have hl1:=hown1.lt
 have HO1:=Lib.hid hown1
 clear hown1
 go_wp2_with fail
 (go_at_call 163;refine (impl_valuesOf _ b (w.ext X1) (HB.out.ext _) HKB.out (by omega)).mono ?_;rintro e w' ⟨b2,rfl,hb2,D2,hown2,hD2,hbel2⟩;have HD2:=Lib.hid hD2;clear hD2;have hown1:=own_below HO1.out hbel2;have hbb:=Below.trans (show Below w.heap.size w (w.ext X1) from (by repeat (first|with_reducible exact Below.refl _ _|with_reducible apply Below.ofExt))) (hbel2.mono (by simp [zm]));obtain ⟨X,rfl⟩:=hbb.ext;clear hbb hbel2)
 have hb12:b1 < b2:=Nat.lt_of_lt_of_le hl1 hb2
 have hl2':=hown2.lt
 rw [zm] at hl2'
 clear HO1 hl1 hb2
 have HO1:=Lib.hid hown1
 have HO2:=Lib.hid hown2
 clear hown1 hown2
 go_wp2_with ((at_range;refine wpList_range_own _ rfl _ 174 rfl 9 9 (Maps.string_keyed Tryz.underlying9) Tryz.underlying174 (plainElem (H:=Unit) Tryz.prog 9) b1 a.length D1 rfl (HO1.out.alloc _) ?_;intro w0 hrg0 hg0 hs0))
 have hr1:((w.ext X).alloc (.map #[] 0)).heap.size=w.heap.size + X.bs.size + 1:=by simp [zm]
 rw [hr1] at hrg0 hs0
 rw [hr1]
 clear hr1
 go_frame
 have hown20:=(HO2.out.alloc (.map #[] 0)).kept hg0 (by simp)
 have hown30:=(World.ownsMap_made (w.ext X) Tryz.prog 9 (plainElem (H:=Unit) Tryz.prog 4)).kept hg0 (by simp)
 have hbel0:Below w.heap.size w w0:=Below.trans (show Below w.heap.size w ((w.ext X).alloc (.map #[] 0)) from (by repeat (first|with_reducible exact Below.refl _ _|with_reducible apply Below.ofExt|with_reducible apply Below.ofAlloc))) ⟨hg0.os,hg0.tape,hg0.output,hg0.size,fun k hk=>hg0.block k (by simp [zm];omega) (by simp)⟩
 have hcnt0:=(HO1.out.alloc (.map #[] 0)).size_le
 go_loopw [8] (fun _ wr=>∃ left cnt D3 n3,wr.ranges Tryz.prog 9 (plainElem (H:=Unit) Tryz.prog 9) b1 (w.heap.size + X.bs.size + 1) a.length D1 left cnt/\wr.ownsMap Tryz.prog 9 (plainElem (H:=Unit) Tryz.prog 9) b2 b.length D2/\wr.ownsMap Tryz.prog 9 (plainElem (H:=Unit) Tryz.prog 4) (w.heap.size + X.bs.size) n3 D3/\Hid (Part a b D3 (fun key=>a.any (zY key)=true/\left (kS key)=false))/\n3 + cnt<=a.length/\Below w.heap.size w wr) (fun _ wr=>wr.rangeLeft b1 (w.heap.size + X.bs.size + 1))
 case atStart=>exact ⟨_,_,_,0,hrg0,hown20,by simpa [zm] using hown30,Part.start (fun key h=>by have h1:=HD1.out.has_ key;rw [h.1,h.2] at h1;cases h1),by omega,hbel0⟩
 case round =>
  clear hrg0 hg0 hs0 hown20 hown30 hbel0 hcnt0
  obtain ⟨left,cnt,D3,n3,hrg,hown2,hown3,HP,hlen,hbel⟩:=hrel
  obtain ⟨X0,rfl⟩:=hbel.ext
  clear hbel
  have hlt3:=hown3.lt
  rw [zm] at hlt3
  go_wp2_with ((at_next;refine next_ss _ rfl _ rfl 9 9 (Maps.string_keyed Tryz.underlying9) Tryz.underlying9 Tryz.underlying9 b1 (w.heap.size + X.bs.size + 1) a.length _ _ _ rfl hrg ?_ ?_))
  ·intro hc0 hl0
   have HO1:=Lib.hid hrg.owns
   have HP:Hid (Part a b D3 (fun key=>a.any (zY key)=true)):=HP.out.skip (fun key h=>.inl ⟨h,hl0 _⟩)
   clear hrg hl0
   have HO2:=Lib.hid hown2
   have HO3:=Lib.hid hown3
   clear hown2 hown3
   go_wp2_with ((at_range;refine wpList_range_own _ rfl _ 174 rfl 9 9 (Maps.string_keyed Tryz.underlying9) Tryz.underlying174 (plainElem (H:=Unit) Tryz.prog 9) b2 b.length D2 rfl HO2.out ?_;intro w6 hrg6 hg6 hs6))
   have hr2:(w.ext X0).heap.size=w.heap.size + X0.bs.size:=by simp [zm]
   rw [hr2] at hrg6 hs6
   rw [hr2]
   clear hr2
   go_frame
   have hown16:=HO1.out.kept hg6 (by simp)
   have hown36:=HO3.out.kept hg6 (by simp)
   have hbel6:Below w.heap.size w w6:=Below.trans (show Below w.heap.size w (w.ext X0) from (by repeat (first|with_reducible exact Below.refl _ _|with_reducible apply Below.ofExt))) ⟨hg6.os,hg6.tape,hg6.output,hg6.size,fun k hk=>hg6.block k (by simp [zm];omega) (by simp)⟩
   have hcnt6:=HO2.out.size_le
   go_loopw [10] (fun _ wr=>∃ left cnt D3 n3,wr.ranges Tryz.prog 9 (plainElem (H:=Unit) Tryz.prog 9) b2 (w.heap.size + X0.bs.size) b.length D2 left cnt/\wr.ownsMap Tryz.prog 9 (plainElem (H:=Unit) Tryz.prog 9) b1 a.length D1/\wr.ownsMap Tryz.prog 9 (plainElem (H:=Unit) Tryz.prog 4) (w.heap.size + X.bs.size) n3 D3/\Hid (Part a b D3 (fun key=>a.any (zY key)=true ∨ (b.any (zY key)=true/\left (kS key)=false)))/\n3 + cnt<=a.length + b.length/\Below w.heap.size w wr) (fun _ wr=>wr.rangeLeft b2 (w.heap.size + X0.bs.size))
   case atStart=>exact ⟨_,_,_,n3,hrg6,hown16,hown36,HP.out.skip (fun key h=>.inl (h.resolve_right (fun h=>by have h1:=HD2.out.has_ key;rw [h.1,h.2] at h1;cases h1))),by omega,hbel6⟩
   case round =>
    clear hrg6 hg6 hs6 hown16 hown36 hbel6 hcnt6 HP HO1 HO2 HO3 hlen
    obtain ⟨left,cnt,D3,n3,hrg,hown1,hown3,HP,hlen,hbel⟩:=hrel
    obtain ⟨X7,rfl⟩:=hbel.ext
    clear hbel
    have hlt7:=hrg.lt
    rw [zm] at hlt7
    go_wp2_with ((at_next;refine next_ss _ rfl _ rfl 9 9 (Maps.string_keyed Tryz.underlying9) Tryz.underlying9 Tryz.underlying9 b2 (w.heap.size + X0.bs.size) b.length _ _ _ rfl hrg ?_ ?_))
    ·intro hc0 hl0
     have HP:Hid (∀ key:ByteArray,key.data.toList ∈ strKeys D3 ↔ zeF key a ≠ zeF key b):=by
      show ∀ key:ByteArray,_
      intro key
      rw [(strKeys_of hown3 (Maps.string_keyed Tryz.underlying9) Tryz.underlying9).2 key]
      refine ⟨HP.out.sound key,fun hne=>HP.out.full key ?_ hne⟩
      obtain ⟨c,hc,hk⟩:=getC_ne_key hne
      rcases List.mem_append.1 hc with h|h
      ·exact .inl (List.any_eq_true.2 ⟨c,h,isKey_iff.2 hk⟩)
      ·exact .inr ⟨List.any_eq_true.2 ⟨c,h,isKey_iff.2 hk⟩,hl0 _⟩
     have HND:=Lib.hid (strKeys_of hown3 (Maps.string_keyed Tryz.underlying9) Tryz.underlying9).1
     have HO3:=Lib.hid hown3
     have hsz:=hown3.size_le
     clear hrg hl0 hown1 hown3
     go_wp2_with fail
     (go_at_call 165;refine (callsIn_wide.1 (Tryz.maps_Keys_165 (some (w.heap.size + X.bs.size)) _)).mono ?_;rintro e w' ⟨rfl,rfl⟩)
     go_wp2_with fail
     have hst:=callsIn_wide.1 (Tryz.slices_Sorted_keys_164_165 (H:=Unit) (w.heap.size + X.bs.size) n3 D3 (plainElem (H:=Unit) Tryz.prog 4) (w.ext X7) HO3.out (by unfold maxLen;omega) (by omega))
     rw [zm] at hst
     (go_at_call 164;refine (hst).mono ?_;rintro e w' ⟨v,ss,rfl,hperm,hrow,_,hbel⟩)
     clear hst
     have hbw:=Below.then (show Below w.heap.size w ((w.ext X7).alloc (.cells #[.map (some (w.heap.size + X.bs.size))] 176)) from (by repeat (first|with_reducible exact Below.refl _ _|with_reducible apply Below.ofExt|with_reducible apply Below.ofAlloc))) hbel
     have HF:Hid (OwnL zx 9 w' w.heap.size v (diffC a b)):=OwnL.base (B':=w.heap.size) (row_rd hrow (hperm.symm.nodup HND.out) (fun x=>by rw [hperm.mem_iff];exact HP.out x)) (by simp [zm];try omega)
     clear hrow hbel hperm
     go_wp2
     go_ret
     exact ⟨_,rfl,HF.out,hbw⟩
    ·intro x c w1 cnt1 hwx hwc hlx hat hrg1 hlt1 hg1 hs1 hen
     have hown1n:=hown1.kept hg1 (by simp;omega)
     have hown3n:=hown3.kept hg1 (by simp;omega)
     obtain rfl:=got_of HD2.out hat
     have hb1n:=Below.trans (show Below w.heap.size w (w.ext X7) from (by repeat (first|with_reducible exact Below.refl _ _|with_reducible apply Below.ofExt))) (below_grown hg1 (show w.heap.size<=w.heap.size + X0.bs.size by omega) (by simp [zm]))
     have HM:Hid (w1.rangeLeft b2 (w.heap.size + X0.bs.size) < (w.ext X7).rangeLeft b2 (w.heap.size + X0.bs.size)):=by show _ < _;rw [hrg1.left_eq,hrg.left_eq];exact hlt1
     obtain ⟨X2,rfl⟩:=hb1n.ext
     have hlook:=look_s hown1n HD1.out x hwx
     have HR1:=Lib.hid hrg1
     have H1:=Lib.hid hown1n
     have H3:=Lib.hid hown3n
     clear hg1 hs1 hrg1 hown1n hown3n hown1 hown3 hrg hat hb1n hlx
     by_cases heq:zeF x a=zeF x b
     ·have heq':((zeF x a).toList == (zeF x b).toList)=true:=by rw [beq_iff_eq,heq]
      have HS:Hid (Part a b D3 (fun key=>a.any (zY key)=true ∨ (b.any (zY key)=true/\(left (kS key) && !(kS key).sameKey (kS x))=false))):=HP.out.skip (fun key hk=>hk.elim (fun h=>.inl (.inl h)) (fun hk=>(left_step hk.2).elim (fun h=>.inl (.inr ⟨hk.1,h⟩)) (fun h=>.inr (by rw [h,heq]))))
      clear heq
      go_wp2
      go_roundw
      case rel=>exact ⟨_,_,_,_,HR1.out,H1.out,H3.out,HS,by omega,(by repeat (first|with_reducible exact Below.refl _ _|with_reducible apply Below.ofExt))⟩
      case measure=>exact HM.out
     ·have heq':((zeF x a).toList == (zeF x b).toList)=false:=by rw [beq_eq_false_iff_ne,bl,bl];exact fun e=>heq (ByteArray.ext (Array.toList_inj.1 e))
      have HS:Hid (Part a b (D3.put (kS x) (.lit (.bool true))) (fun key=>a.any (zY key)=true ∨ (b.any (zY key)=true/\(left (kS key) && !(kS key).sameKey (kS x))=false))):=HP.out.put H3.out.isMap x _ heq (fun key hk=>hk.elim (fun h=>.inl (.inl h)) (fun hk=>(left_step hk.2).elim (fun h=>.inl (.inr ⟨hk.1,h⟩)) .inr))
      have hkm:keyOf Tryz.prog 9 (.string x)=some (kS x):=WideMaps.keyOf_string_mk Tryz.underlying9 hwx
      have HKM:=Lib.hid hkm
      clear heq hkm
      go_wp2_with (first|(at_mapUpdate;refine wpList_mapUpdate_own _ rfl _ _ _ 176 rfl 9 4 (Maps.string_keyed Tryz.underlying9) Tryz.underlying176 (plainElem (H:=Unit) Tryz.prog 4) (w.heap.size + X.bs.size) n3 D3 rfl H3.out (by unfold maxLen;omega) _ _ (kS x) rfl rfl HKM.out (.lit (.bool true)) [] (plainElem_bool Tryz.underlying4 true) ?_;intro w5 hown5 hg5))
      have hr5:=HR1.out.kept hg5 (by simp;omega) (by simp;omega)
      have ho5:=H1.out.kept hg5 (by simp;omega)
      have hb5:=Below.trans (show Below w.heap.size w _ from (by repeat (first|with_reducible exact Below.refl _ _|with_reducible apply Below.ofExt))) (below_grown hg5 (show w.heap.size<=w.heap.size + X.bs.size by omega) (by simp [zm]))
      have HM5:Hid (w5.rangeLeft b2 (w.heap.size + X0.bs.size) < (w.ext X7).rangeLeft b2 (w.heap.size + X0.bs.size)):=by show _ < _;rw [hr5.left_eq,<- HR1.out.left_eq];exact HM.out
      clear hg5
      go_frame
      go_roundw
      case rel=>exact ⟨_,_,_,_,hr5,ho5,hown5,HS,by omega,hb5⟩
      case measure=>exact HM5.out
  ·intro x c w1 cnt1 hwx hwc hlx hat hrg1 hlt1 hg1 hs1 hen
   have hown2n:=hown2.kept hg1 (by simp;omega)
   have hown3n:=hown3.kept hg1 (by simp)
   obtain rfl:=got_of HD1.out hat
   have hb1n:=Below.trans (show Below w.heap.size w (w.ext X0) from (by repeat (first|with_reducible exact Below.refl _ _|with_reducible apply Below.ofExt))) (below_grown hg1 (show w.heap.size<=w.heap.size + X.bs.size + 1 by omega) (by simp [zm]))
   have HM:Hid (w1.rangeLeft b1 (w.heap.size + X.bs.size + 1) < (w.ext X0).rangeLeft b1 (w.heap.size + X.bs.size + 1)):=by show _ < _;rw [hrg1.left_eq,hrg.left_eq];exact hlt1
   obtain ⟨X2,rfl⟩:=hb1n.ext
   have hlook:=look_s hown2n HD2.out x hwx
   have HR1:=Lib.hid hrg1
   have H2:=Lib.hid hown2n
   have H3:=Lib.hid hown3n
   have HLX:=Lib.hid hlx
   clear hg1 hs1 hrg1 hown2n hown3n hown2 hown3 hrg hat hb1n hlx
   by_cases heq:zeF x b=zeF x a
   ·have heq':((zeF x b).toList == (zeF x a).toList)=true:=by rw [beq_iff_eq,heq]
    have HS:Hid (Part a b D3 (fun key=>a.any (zY key)=true/\(left (kS key) && !(kS key).sameKey (kS x))=false)):=HP.out.skip (fun key hk=>(left_step hk.2).elim (fun h=>.inl ⟨hk.1,h⟩) (fun h=>.inr (by rw [h,heq])))
    clear heq
    go_wp2
    go_roundw
    case rel=>exact ⟨_,_,_,_,HR1.out,H2.out,H3.out,HS,by omega,(by repeat (first|with_reducible exact Below.refl _ _|with_reducible apply Below.ofExt))⟩
    case measure=>exact HM.out
   ·have heq':((zeF x b).toList == (zeF x a).toList)=false:=by rw [beq_eq_false_iff_ne,bl,bl];exact fun e=>heq (ByteArray.ext (Array.toList_inj.1 e))
    have HS:Hid (Part a b (D3.put (kS x) (.lit (.bool true))) (fun key=>a.any (zY key)=true/\(left (kS key) && !(kS key).sameKey (kS x))=false)):=HP.out.put H3.out.isMap x _ (fun e=>heq e.symm) (fun key hk=>(left_step hk.2).elim (fun h=>.inl ⟨hk.1,h⟩) .inr)
    have hkm:keyOf Tryz.prog 9 (.string x)=some (kS x):=WideMaps.keyOf_string_mk Tryz.underlying9 hwx
    have HKM:=Lib.hid hkm
    clear heq hkm
    go_wp2_with (first|(at_mapUpdate;refine wpList_mapUpdate_own _ rfl _ _ _ 176 rfl 9 4 (Maps.string_keyed Tryz.underlying9) Tryz.underlying176 (plainElem (H:=Unit) Tryz.prog 4) (w.heap.size + X.bs.size) n3 D3 rfl H3.out (by unfold maxLen;omega) _ _ (kS x) rfl rfl HKM.out (.lit (.bool true)) [] (plainElem_bool Tryz.underlying4 true) ?_;intro w5 hown5 hg5))
    have hr5:=HR1.out.kept hg5 (by simp;omega) (by simp)
    have ho5:=H2.out.kept hg5 (by simp;omega)
    have hb5:=Below.trans (show Below w.heap.size w _ from (by repeat (first|with_reducible exact Below.refl _ _|with_reducible apply Below.ofExt))) (below_grown hg5 (show w.heap.size<=w.heap.size + X.bs.size by omega) (by simp [zm]))
    have HM5:Hid (w5.rangeLeft b1 (w.heap.size + X.bs.size + 1) < (w.ext X0).rangeLeft b1 (w.heap.size + X.bs.size + 1)):=by show _ < _;rw [hr5.left_eq,<- HR1.out.left_eq];exact HM.out
    clear hg5
    go_frame
    go_roundw
    case rel=>exact ⟨_,_,_,_,hr5,ho5,hown5,HS,by omega,hb5⟩
    case measure=>exact HM5.out
theorem _root_.Go.OwnL.apart {α β : Type} {R:RowOf α} {R':RowOf β} {e e':TypeId} {w:World} {B B':Nat} {v v':Value} {xs:List α} {ys:List β} (h:OwnL R e w B v xs) (h':OwnL R' e' w B' v' ys) (he:e ≠ e'):v.ownBlock=none ∨ v.ownBlock ≠ v'.ownBlock:=by
 rcases h.2 with ⟨rfl,h0⟩|⟨g,cap,cur,rfl,hg,hh,_⟩
 ·exact .inl rfl
 ·right
  rcases h'.2 with ⟨rfl,_⟩|⟨g',cap',cur',rfl,hg',hh',_⟩
  ·simp [Value.ownBlock]
  ·intro hb
   have hb:g=g':=by simpa [Value.ownBlock] using hb
   subst hb
   rw [hh] at hh'
   injection hh' with hh'
   injection hh' with _ hh'
   exact he hh'
theorem impl_AgreeOn1 (b:Nat) (av:Option Addr) (cv:Nat) (ss:List ByteArray) (y:ByteArray) (w:World) (hv:RdS w (.slice av ss.length cv) ss) (hy:y.size<=9223372036854775807) (hb:w.cell? ⟨b,0,none⟩ = some (.slice av ss.length cv)) :
  Calls Tryz.prog 103 #[.string y,.pointer (some ⟨b,0,none⟩)] w fun e w'=>e = .returned (.bool (spansHave ss y))/\Below w.heap.size w w':=by
 have HV:=Lib.hid hv
 clear hv
 go_enter Tryz.func103,Tryz.ntmps103
 go_wp2_with fail
 (go_at_call 104;refine (impl_spansHave _ ss y _ HV.out hy).mono ?_;rintro e w' ⟨rfl,hb⟩;obtain ⟨X,rfl⟩:=hb.ext;clear hb)
 go_wp2
 go_ret
 exact ⟨rfl,(by repeat (first|with_reducible exact Below.refl _ _|with_reducible apply Below.ofExt))⟩
theorem IndexFunc_A (v:Value) (ys:List ByteArray) (c:Nat) (av:Option Addr) (cv:Nat) (ss:List ByteArray) (w:World) (hs:RdS w v ys) (hv:RdS w (.slice av ss.length cv) ss) (hcl:c < w.heap.size) (hc:w.cell? ⟨c,0,none⟩ = some (.slice av ss.length cv)) :
  Calls Tryz.prog 132 #[v,.func (Fn.func 103) #[] #[.pointer (some ⟨c,0,none⟩)]] w fun e w'=>∃ r:Int,e = .returned (.int .i64 r)/\(decide (0<=r)=ys.any (spansHave ss))/\Below w.heap.size w w':=by
 have HV:=Lib.hid hv
 clear hv
 obtain ⟨ao,cap,rfl,hc1,hc2,hnil,hcell,hz⟩:=hs
 have HX:=Lib.hid hcell
 have HZ:=Lib.hid hz
 clear hcell hnil hz
 unfold maxLen at hc2
 go_enter Tryz.func132,Tryz.ntmps132
 go_wp2
 go_loopw [8] (fun k wr=>∃ (n:Nat),k = .int .i64 n/\n<=ys.length/\Below w.heap.size w wr/\(ys.take n).any (spansHave ss)=false) (fun k _=>ys.length - (intOf k).toNat)
 case atStart=>exact ⟨0,rfl,by omega,(by repeat (with_reducible exact Below.refl _ _)),rfl⟩
 case round =>
  obtain ⟨n,rfl,hn,hbel,hany⟩:=hrel
  obtain ⟨X,rfl⟩:=hbel.ext
  have HA:=Lib.hid hany
  clear hany hbel
  by_cases hlt:(n:Int) < ys.length
  ·have hk:n < ys.length:=by omega
   obtain ⟨b,off,rfl,hbl,hcell⟩:=HX.out (by intro e;simp [e] at hk)
   have hcc:=hcell n hk
   have hstep:=zaR (spansHave ss) ys n hk
   have hyz:=HZ.out _ (List.getElem_mem hk)
   generalize ys[n]=y at hcc hstep hyz
   have HT:=Lib.hid hstep
   clear hcell hstep
   cases hm:(spansHave ss) y with
   | true =>
    go_wp2_with fail
    (go_at_call 103;refine (impl_AgreeOn1 c av cv ss y _ (by (skip);(repeat (first|with_reducible exact HV.out|with_reducible apply RdS.ext));all_goals exact (0:Nat)) hyz (by simp [go_sem,hcl,hc])).mono ?_;rintro e w' ⟨rfl,hb⟩;obtain ⟨X,rfl⟩:=hb.ext;clear hb)
    rw [show _=true from hm]
    go_wp2
    go_ret
    refine ⟨n,rfl,?_,(by repeat (first|with_reducible exact Below.refl _ _|with_reducible apply Below.ofExt))⟩
    rw [zgZ _ ys (n + 1) (by rw [HT.out,hm,Bool.or_true])]
    simp
   | false =>
    go_wp2_with fail
    (go_at_call 103;refine (impl_AgreeOn1 c av cv ss y _ (by (skip);(repeat (first|with_reducible exact HV.out|with_reducible apply RdS.ext));all_goals exact (0:Nat)) hyz (by simp [go_sem,hcl,hc])).mono ?_;rintro e w' ⟨rfl,hb⟩;obtain ⟨X,rfl⟩:=hb.ext;clear hb)
    rw [show _=false from hm]
    go_wp2
    go_roundw
    case rel=>exact ⟨n + 1,by go_num,by omega,(by repeat (first|with_reducible exact Below.refl _ _|with_reducible apply Below.ofExt)),by rw [HT.out,HA.out,hm];rfl⟩
    case measure=>simp [intOf];omega
  ·go_wp2
   go_ret
   have e:n=ys.length:=by omega
   subst e
   have ha:=HA.out
   rw [List.take_length] at ha
   refine ⟨-1,rfl,?_,(by repeat (first|with_reducible exact Below.refl _ _|with_reducible apply Below.ofExt))⟩
   rw [ha]
   rfl
theorem ContainsFunc_A (v:Value) (ys:List ByteArray) (c:Nat) (av:Option Addr) (cv:Nat) (ss:List ByteArray) (w:World) (hs:RdS w v ys) (hv:RdS w (.slice av ss.length cv) ss) (hcl:c < w.heap.size) (hc:w.cell? ⟨c,0,none⟩ = some (.slice av ss.length cv)) :
  Calls Tryz.prog 88 #[v,.func (Fn.func 103) #[] #[.pointer (some ⟨c,0,none⟩)]] w fun e w'=>e = .returned (.bool (ys.any (spansHave ss)))/\Below w.heap.size w w':=by
 go_enter Tryz.func88,Tryz.ntmps88
 go_wp2_with fail
 (go_at_call 132;refine (IndexFunc_A v ys c av cv ss _ hs hv hcl hc).mono ?_;rintro e w' ⟨r,rfl,hr,hb⟩;obtain ⟨X,rfl⟩:=hb.ext;clear hb)
 go_wp2
 go_ret
 exact ⟨by rw [<- hr];rfl,(by repeat (first|with_reducible exact Below.refl _ _|with_reducible apply Below.ofExt))⟩
theorem spec_AgreeOn (va vb vs:Value) (a b:List CellD) (ss:List ByteArray) (w:World) (ha:RdL zu w va a) (hb:RdL zu w vb b) (hs:RdS w vs ss) (hka:∀ c ∈ a,c.ok) (hkb:∀ c ∈ b,c.ok) (hl:a.length<=549755813888) (hl2:b.length<=549755813888) :
  Calls Tryz.prog 74 #[va,vb,vs] w fun e w'=>e = .returned (.bool !((diffC a b).any (spansHave ss)))/\Below w.heap.size w w':=by
 have HS:=Lib.hid hs
 have HA:=Lib.hid ha
 have HB:=Lib.hid hb
 have HKA:=Lib.hid hka
 have HKB:=Lib.hid hkb
 obtain ⟨aa,ca,rfl⟩:=ha.form
 obtain ⟨ab,cb,rfl⟩:=hb.form
 obtain ⟨sa,sc,rfl,hs1,hs2,_⟩:=hs
 clear ha hb hka hkb
 obtain ⟨ks,hks⟩ : ∃ ks,ks=diffC a b:=⟨_,rfl⟩
 have HKS:=Lib.hid hks
 have HKZ:Hid (∀ s ∈ ks,s.size<=9223372036854775807):=(by rw [hks];exact diffC_ok a b HKA.out HKB.out)
 have hkl:ks.length<=1099511627776:=by rw [hks];have:=diffC_len a b;omega
 rw [<- hks]
 clear hks
 go_enter Tryz.func74,Tryz.ntmps74
 go_wp2_with fail
 (go_at_call 99;refine (spec_DiffKeys _ _ a b _ (by (skip);(repeat (with_reducible exact HA.out));all_goals exact (0:Nat)) (by (skip);(repeat (with_reducible exact HB.out));all_goals exact (0:Nat)) hl hl2).mono ?_;rintro e w' ⟨v',rfl,ho',hb'⟩;rw [<- HKS.out] at ho';have HP:=Lib.hid (RdS.ofL ho'.rd HKZ.out);obtain ⟨Y,rfl⟩:=hb'.ext;clear ho' hb')
 obtain ⟨ka,kc,rfl,hk1,hk2,_⟩:=HP.out
 go_wp2
 go_loopw [8] (fun k wr=>∃ (n:Nat),k = .int .i64 n/\n<=ks.length/\Below w.heap.size w wr/\RdS wr (.slice ka ks.length kc) ks/\(ks.take n).any (spansHave ss)=false) (fun k _=>ks.length - (intOf k).toNat)
 case atStart=>exact ⟨0,rfl,by omega,(by repeat (first|with_reducible exact Below.refl _ _|with_reducible apply Below.ofExt)),HP.out,rfl⟩
 case round =>
  clear HP
  obtain ⟨n,rfl,hn,hbel,hrd,hany⟩:=hrel
  obtain ⟨X,rfl⟩:=hbel.ext
  have HA2:=Lib.hid hany
  have HP:=Lib.hid hrd
  clear hany hbel hrd
  by_cases hlt:(n:Int) < ks.length
  ·have hk:n < ks.length:=by omega
   obtain ⟨ka',kc',hkv,hc1,hc2,hnil,hcell,_⟩:=HP.out
   cases hkv
   obtain ⟨kb,koff,rfl,hbl,hcell⟩:=hcell (by intro e;simp [e] at hk)
   have y0:=hcell n hk
   have hst:=zaR (spansHave ss) ks n hk
   have hyz:=HKZ.out _ (List.getElem_mem hk)
   generalize ks[n]=key at y0 hst hyz
   have y1:∀ dr,(w.ext ⟨X.bs,dr⟩).cell? ⟨kb,koff + n,none⟩ = some (.string key):=fun dr=>y0
   have hbl2:kb < w.heap.size + X.bs.size:=by rw [zm] at hbl;exact hbl
   have HT:=Lib.hid hst
   have HYZ:=Lib.hid hyz
   clear hst hcell hnil hbl hyz
   have hc:covers ss [key]=spansHave ss key:=by simp [covers]
   have HC:=Lib.hid hc
   clear hc
   cases hm:spansHave ss key with
   | true =>
    go_wp2_with fail
    (go_at_call 100;refine (spec_Covers _ _ ss [key] _ (by (skip);(repeat (first|with_reducible exact HS.out|with_reducible apply RdS.ext|with_reducible apply RdS.alloc));all_goals exact (0:Nat)) (RdS.ofL (zat zx _ key _ rfl _ _ (by simp [zm])) (by simpa using HYZ.out))).mono ?_;rintro e w' ⟨rfl,hb⟩;obtain ⟨X,rfl⟩:=hb.ext;clear hb)
    rw [HC.out,hm]
    go_wp2
    go_ret
    exact ⟨by rw [zgZ _ ks (n + 1) (by rw [HT.out,hm,Bool.or_true])];rfl,(by repeat (first|with_reducible exact Below.refl _ _|with_reducible apply Below.ofExt|with_reducible apply Below.ofAlloc|with_reducible apply Below.drew|with_reducible apply Below.ofDrewN|with_reducible assumption|(with_reducible refine Below.setCell ?_ (by first|exact Nat.le_refl _|(simp [go_sem];done)|(simp [go_sem];omega)) _)))⟩
   | false =>
    go_wp2_with fail
    (go_at_call 100;refine (spec_Covers _ _ ss [key] _ (by (skip);(repeat (first|with_reducible exact HS.out|with_reducible apply RdS.ext|with_reducible apply RdS.alloc));all_goals exact (0:Nat)) (RdS.ofL (zat zx _ key _ rfl _ _ (by simp [zm])) (by simpa using HYZ.out))).mono ?_;rintro e w' ⟨rfl,hb⟩;obtain ⟨X,rfl⟩:=hb.ext;clear hb)
    rw [HC.out,hm]
    go_wp2
    go_roundw
    case rel=>exact ⟨n + 1,by go_num,by omega,(by repeat (first|with_reducible exact Below.refl _ _|with_reducible apply Below.ofExt|with_reducible apply Below.ofAlloc)),(by (skip);(repeat (first|with_reducible exact HP.out|with_reducible apply RdS.ext|with_reducible apply RdS.alloc));all_goals exact (0:Nat)),by rw [HT.out,HA2.out,hm];rfl⟩
    case measure=>simp [intOf];omega
  ·go_wp2
   go_ret
   have e:n=ks.length:=by omega
   subst e
   have ha:=HA2.out
   rw [List.take_length] at ha
   exact ⟨by rw [ha];rfl,(by repeat (first|with_reducible exact Below.refl _ _|with_reducible apply Below.ofExt))⟩
theorem impl_AgreeOn (va vb vs:Value) (a b:List CellD) (ss:List ByteArray) (w:World) (ha:RdL zu w va a) (hb:RdL zu w vb b) (hs:RdS w vs ss) (hka:∀ c ∈ a,c.ok) (hkb:∀ c ∈ b,c.ok) (hl:a.length<=549755813888) (hl2:b.length<=549755813888) :
  Calls Tryz.prog 77 #[va,vb,vs] w fun e w'=>e = .returned (.bool !((diffC a b).any (spansHave ss)))/\Below w.heap.size w w':=by
 have HS:=Lib.hid hs
 have HA:=Lib.hid ha
 have HB:=Lib.hid hb
 have HKA:=Lib.hid hka
 have HKB:=Lib.hid hkb
 obtain ⟨aa,ca,rfl⟩:=ha.form
 obtain ⟨ab,cb,rfl⟩:=hb.form
 obtain ⟨sa,sc,rfl,hs1,hs2,_⟩:=hs
 clear ha hb hka hkb
 go_enter Tryz.func77,Tryz.ntmps77
 go_wp2_with fail
 (go_at_call 102;refine (impl_DiffKeys _ _ a b _ (by (skip);(repeat (first|with_reducible exact HA.out|with_reducible apply RdL.alloc));all_goals exact (0:Nat)) (by (skip);(repeat (first|with_reducible exact HB.out|with_reducible apply RdL.alloc));all_goals exact (0:Nat)) HKA.out HKB.out hl hl2).mono ?_;rintro e w' ⟨v',rfl,ho',hb'⟩;have HP:=Lib.hid (RdS.ofL ho'.rd (diffC_ok a b HKA.out HKB.out));obtain ⟨Y,rfl⟩:=hb'.ext;clear ho' hb')
 go_wp2_with fail
 (go_at_call 88;refine (ContainsFunc_A _ (diffC a b) _ sa sc ss _ (by (skip);(repeat (with_reducible exact HP.out));all_goals exact (0:Nat)) (by (skip);(repeat (first|with_reducible exact HS.out|with_reducible apply RdS.ext|with_reducible apply RdS.alloc));all_goals exact (0:Nat)) (by simp [go_sem,zm];try omega) (by simp [go_sem])).mono ?_;rintro e w' ⟨rfl,hb⟩;obtain ⟨X,rfl⟩:=hb.ext;clear hb)
 go_wp2
 go_ret
 exact ⟨rfl,(by repeat (first|with_reducible exact Below.refl _ _|with_reducible apply Below.ofExt|with_reducible apply Below.ofAlloc))⟩
end Go.Proofs.YtgcmnkkakngifaaGreatDoor
