/- The program's readers of words: hexadecimal, decimal. Each condition stands in its theorem. -/
import Derived.Test.YtedgenmbdjadkaaGreatDoorReadRS
import Derived.Test.YtedgenmbdjadkaaGreatDoorTexts
import Derived.Test.YtedgenmbdjadkaaGreatDoorRecI
set_option linter.unusedVariables false
set_option linter.unusedSimpArgs false
namespace Go.Proofs.YtedgenmbdjadkaaGreatDoor
open Go.ChangeShapes Go.WideShapes Go.ChangeAt Go.RowKit

/-- what the library's variables hold -/
structure Glob (w : World) : Prop where
  tab : Tab10 w
  max : ∃ m, w.cell? ⟨0, 0, none⟩ = some (.int .i64 m)
  odd : ∃ ev, w.cell? ⟨1, 0, none⟩ = some ev ∧ (ev = .nilIface ∨ ∃ te pe, ev = .iface te pe)
  syn : ∃ ev, w.cell? ⟨4, 0, none⟩ = some ev ∧ (ev = .nilIface ∨ ∃ te pe, ev = .iface te pe)
  rng : ∃ ev, w.cell? ⟨5, 0, none⟩ = some ev ∧ (ev = .nilIface ∨ ∃ te pe, ev = .iface te pe)
theorem cell_below {w w' : World} (hb : Below w.heap.size w w') {a : Addr} {v : Value} (h : w.cell? a = some v) : w'.cell? a = some v := (Grew.below hb).cell h
theorem Glob.below {w w' : World} (h : Glob w) (hb : Below w.heap.size w w') : Glob w' := by
  obtain ⟨ht, ⟨m, hm⟩, ⟨e1, h1, g1⟩, ⟨e2, h2, g2⟩, ⟨e3, h3, g3⟩⟩ := h
  exact ⟨ht.below hb, ⟨m, cell_below hb hm⟩, ⟨e1, cell_below hb h1, g1⟩, ⟨e2, cell_below hb h2, g2⟩, ⟨e3, cell_below hb h3, g3⟩⟩
theorem Glob.ext {w : World} (h : Glob w) (X : Ext) : Glob (w.ext X) := h.below (Below.ofExt (Below.refl _ _) _)
theorem Glob.alloc {w : World} (h : Glob w) (o : Obj) : Glob (w.alloc o) := h.below (Below.ofAlloc (Below.refl _ _) _)
theorem own_bytes {w w' : World} {v : Value} {l : List UInt8} (h : w'.ownsRow w.heap.size 5 1 v l.length (l.map fun b => Value.int .u8 (b.toNat : Int))) : OwnB 5 w' w.heap.size v l := by
  refine OwnB.ofL ?_
  unfold OwnL
  rw [flat_B]
  exact h
theorem num_ends (x : Lib.NumEnd Int) : x = Lib.atoiAll [] ∨ x = .range ∨ ∃ n, x = .ok n := by
  cases x
  case ok n => exact .inr (.inr ⟨n, rfl⟩)
  case range => exact .inr (.inl rfl)
  exact .inl rfl
theorem str_ne {l : List UInt8} {s : ByteArray} (h : ¬ l = s.data.toList) : ((strOf l).toList == s.toList) = false := by
  rw [beq_eq_false_iff_ne, bl1, bl1]
  exact fun e => h (by rw [← e, strOf_list])
set_option maxRecDepth 100000 in
set_option maxHeartbeats 1000000 in
theorem impl_Unhex (s : ByteArray) (w : World) (hg : Glob w) (hs : s.size ≤ 1048576) :
    Calls Tryz.prog 75 #[.string s] w (UnhP s w) := by
  obtain ⟨ev, hE, hev⟩ := hg.odd
  clear hg
  have D := Tryz.hex_DecodeString_owns s w ev hE (by omega)
  obtain ⟨d, x, hdx⟩ : ∃ d x, Lib.Hx.decode s.data.toList = (d, x) := ⟨_, _, rfl⟩
  rw [hdx] at D
  obtain ⟨E, hEE⟩ : ∃ E, E = Lib.Hx.errVal 146 ev x := ⟨_, rfl⟩
  simp only [← hEE] at D
  have HD := Lib.hid D
  have hdl := Lib.Hx.decode_len s.data.toList
  rw [hdx] at hdl
  have hsl : s.data.toList.length = s.size := by simp
  have hdl2 : d.length ≤ 1048576 := by
    have : d.length ≤ s.data.toList.length / 2 := by simpa using hdl
    omega
  have hno : (x ≠ .ok ∨ 20000 < d.length ∨ Lib.Hx.encode d ≠ s.data.toList) → ∀ r, Unh s.data.toList r := fun h r => Unh.no hdx h r
  have HNO := Lib.hid hno
  have hyes : x = .ok → Unh s.data.toList (strOf d) := fun h => Unh.dec (by rw [hdx, h])
  have HY := Lib.hid hyes
  have hcs : x = .ok ∧ E = .nilIface ∨ x ≠ .ok ∧ (E = .nilIface ∨ ∃ te pe, E = .iface te pe) := by
    cases x with
    | ok => exact .inl ⟨rfl, hEE⟩
    | bad c => exact .inr ⟨by simp, .inr ⟨_, _, hEE⟩⟩
    | odd => exact .inr ⟨by simp, by rw [hEE]; exact hev⟩
  have HCS := Lib.hid hcs
  clear D hdx hE hdl hsl hno hyes hcs hEE hev
  go_enter Tryz.func75, Tryz.ntmps75
  go_wp2_with fail
  (go_at_call 100; refine HD.out.mono ?_; rintro e w1 ⟨v, rfl, ho, hb⟩)
  have HB := Lib.hid (own_bytes ho)
  have HBW := Lib.hid hb
  clear ho hb HD
  obtain ⟨oa, oc, rfl⟩ := HB.out.form
  by_cases hif : ∃ te pe, E = .iface te pe
  · obtain ⟨te, pe, rfl⟩ := hif
    have hx : x ≠ .ok := by
      rcases HCS.out with ⟨_, h⟩ | ⟨h, _⟩
      · cases h
      · exact h
    have hu := HNO.out (.inl hx) ⟨#[]⟩
    have HU := Lib.hid hu
    clear hu hx
    go_wp2
    refine bodyPost_ret (by simp [results, Tryz.results75, go_sem]; rfl) rfl ?_
    exact UnhP.mk (by decide) HU.out HBW.out
  have hE : E = .nilIface := by
    rcases HCS.out with ⟨_, h⟩ | ⟨_, h | h⟩
    · exact h
    · exact h
    · exact absurd h hif
  subst hE
  clear hif
  by_cases hlen : (20000 : Int) < d.length
  · have hu := HNO.out (.inr (.inl (by omega))) ⟨#[]⟩
    have HU := Lib.hid hu
    clear hu
    go_wp2
    refine bodyPost_ret (by simp [results, Tryz.results75, go_sem]; rfl) rfl ?_
    exact UnhP.mk (by decide) HU.out HBW.out
  have henc := lib_enc (.slice oa d.length oc) d w.heap.size w1 HB.out (by omega)
  have HENC := Lib.hid henc
  clear henc
  go_wp2_with fail
  (go_at_call 101; refine HENC.out.mono ?_; rintro e w2 ⟨rfl, hb2⟩)
  have hbw2 : Below w.heap.size w w2 := Below.then HBW.out hb2
  by_cases he : Lib.Hx.encode d = s.data.toList
  · have hxo : x = .ok ∨ x ≠ .ok := by cases x <;> simp
    rcases hxo with hxo | hxo
    · have HU := Lib.hid (HY.out hxo)
      have hr := run_string_of (P := Tryz.prog) w2 Tryz.byteT Tryz.underlying9 (HB.out.below hb2).sl
      have heq : strOf (Lib.Hx.encode d) = s := by rw [he, strOf_data]
      have hsz : (strOf d).size ≤ 20000 := by rw [strOf_size]; omega
      have HSZ := Lib.hid hsz
      clear hxo he hsz
      rw [heq]
      go_wp2
      refine bodyPost_ret (by simp [results, Tryz.results75, go_sem]; rfl) rfl ?_
      exact UnhP.mk HSZ.out HU.out hbw2
    · have HU := Lib.hid (HNO.out (.inl hxo) (strOf d))
      have hr := run_string_of (P := Tryz.prog) w2 Tryz.byteT Tryz.underlying9 (HB.out.below hb2).sl
      have heq : strOf (Lib.Hx.encode d) = s := by rw [he, strOf_data]
      have hsz : (strOf d).size ≤ 20000 := by rw [strOf_size]; omega
      have HSZ := Lib.hid hsz
      clear hxo he hsz
      rw [heq]
      go_wp2
      refine bodyPost_ret (by simp [results, Tryz.results75, go_sem]; rfl) rfl ?_
      exact UnhP.mk HSZ.out HU.out hbw2
  · have HU := Lib.hid (HNO.out (.inr (.inr he)) ⟨#[]⟩)
    have heq := str_ne he
    clear he
    go_wp2
    refine bodyPost_ret (by simp [results, Tryz.results75, go_sem]; rfl) rfl ?_
    exact UnhP.mk (by decide) HU.out hbw2
set_option maxRecDepth 100000 in
set_option maxHeartbeats 1000000 in
theorem impl_ReadDecimal (s : ByteArray) (w : World) (hg : Glob w) (hs : s.size ≤ 1048576) :
    Calls Tryz.prog 73 #[.string s] w (NumP s w) := by
  have HG := Lib.hid hg
  obtain ⟨e2, h2, g2⟩ := hg.syn
  obtain ⟨e3, h3, g3⟩ := hg.rng
  clear hg
  go_enter Tryz.func73, Tryz.ntmps73
  rcases num_ends (Lib.atoiAll s.data.toList) with ha | ha | ⟨n, ha⟩
  ·
    have hn := Num.atoi (l := s.data.toList) (fun n => by rw [ha]; intro h; cases h)
    have HN := Lib.hid hn
    have D := Tryz.strconv_Atoi_syntax s (by omega) ha e2 w h2 g2
    clear hn
    go_wp2_with fail
    (go_at_call 98; refine D.mono ?_; rintro e w1 ⟨N, rfl, _, _, hb⟩)
    clear D
    go_wp2
    refine bodyPost_ret (by simp [results, Tryz.results73, go_sem]; rfl) rfl ?_
    exact NumP.mk HN.out hb
  ·
    have hn := Num.atoi (l := s.data.toList) (fun n => by rw [ha]; intro h; cases h)
    have HN := Lib.hid hn
    have D := Tryz.strconv_Atoi_range s (by omega) ha e3 w h3 g3
    clear hn
    go_wp2_with fail
    (go_at_call 98; refine D.mono ?_; rintro e w1 ⟨N, rfl, _, _, hb⟩)
    clear D
    go_wp2
    refine bodyPost_ret (by simp [results, Tryz.results73, go_sem]; rfl) rfl ?_
    exact NumP.mk HN.out hb
  ·
    have hbd := Lib.atoiAll_bounds ha
    have D := Tryz.strconv_Atoi_ok s (by omega) n ha w
    have HA := Lib.hid ha
    clear ha
    go_wp2_with fail
    (go_at_call 98; refine D.mono ?_; rintro e w1 ⟨rfl, hww⟩)
    have hb : Below w.heap.size w w1 := by
      rcases hww with rfl | ⟨t, rfl⟩
      · exact (by repeat (first | with_reducible exact Below.refl _ _ | with_reducible apply Below.ofExt | with_reducible apply Below.ofAlloc | with_reducible apply Below.drew | with_reducible apply Below.ofDrewN | with_reducible assumption | (with_reducible refine Below.setCell ?_ (by first | exact Nat.le_refl _ | (simp [go_sem]; done) | (simp [go_sem]; omega)) _)))
      · exact Lib.bytesWorld_below _ _ _
    clear D hww h2 h3 g2 g3
    cases hin : inB n 0 1000000000 with
    | false =>
      have hn := Num.atoiNo HA.out (by unfold inB at hin; simp at hin; omega)
      have HN := Lib.hid hn
      have HIN := Lib.hid hin
      clear hn hin
      go_wp2_with fail
      (go_at_call 38; refine (impl_in _ _ _ _).mono ?_; rintro e w' ⟨rfl, rfl⟩)
      rw [HIN.out]
      go_wp2
      refine bodyPost_ret (by simp [results, Tryz.results73, go_sem]; rfl) rfl ?_
      exact NumP.mk HN.out hb
    | true =>
      have hi2 : 0 ≤ n ∧ n ≤ 1000000000 := by unfold inB at hin; simp at hin; omega
      have HIN := Lib.hid hin
      clear hin
      go_wp2_with fail
      (go_at_call 38; refine (impl_in _ _ _ _).mono ?_; rintro e w' ⟨rfl, rfl⟩)
      rw [HIN.out]
      have DD := Lib.hid (impl_Decimal n w1 (by omega) (by omega) (HG.out.below hb).tab)
      go_wp2_with fail
      (go_at_call 52; refine DD.out.mono ?_; rintro e w2 ⟨rfl, hb2⟩)
      have hbw2 : Below w.heap.size w w2 := Below.then hb hb2
      by_cases he : Lib.itoa n = s.data.toList
      · have HU := Lib.hid (Num.atoiOk HA.out hi2.1 hi2.2)
        have heq : strOf (Lib.itoa n) = s := by rw [he, strOf_data]
        clear he
        rw [heq]
        go_wp2
        refine bodyPost_ret (by simp [results, Tryz.results73, go_sem]; rfl) rfl ?_
        exact NumP.mk HU.out hbw2
      · have HU := Lib.hid (Num.atoiNo HA.out (.inr (.inr he)))
        have heq := str_ne he
        clear he
        go_wp2
        refine bodyPost_ret (by simp [results, Tryz.results73, go_sem]; rfl) rfl ?_
        exact NumP.mk HU.out hbw2
end Go.Proofs.YtedgenmbdjadkaaGreatDoor
