/- What is torn from a record is no record; sizes of records. No program in sight. -/
import Derived.Test.YtedgenmbdjadkaaGreatDoorReadP
set_option linter.unusedVariables false
set_option linter.unusedSimpArgs false
namespace Go.Proofs.YtedgenmbdjadkaaGreatDoor
open Go.ChangeShapes Go.WideShapes Go.ChangeAt Go.RowKit

theorem digit_ne10 (d : Nat) (h : d < 16) : Lib.Hx.digit d ≠ 10 := by
  have hall : ∀ x : Fin 16, Lib.Hx.digit x.val ≠ 10 := by decide
  exact hall ⟨d, h⟩
theorem enc_no10 (l : List UInt8) : (10 : UInt8) ∉ Lib.Hx.encode l := by
  intro hb
  unfold Lib.Hx.encode at hb
  obtain ⟨a, _, hb⟩ := List.mem_flatMap.1 hb
  have := a.toNat_lt
  simp only [List.mem_cons, List.not_mem_nil, or_false] at hb
  rcases hb with hb | hb
  · exact digit_ne10 _ (by omega) hb.symm
  · exact digit_ne10 _ (by omega) hb.symm
theorem itoa_no10 {n : Int} (h0 : 0 ≤ n) (h1 : n ≤ 1000000000) : (10 : UInt8) ∉ Lib.itoa n := by
  intro h
  have := (itoa_val h0 h1).2.1 _ h
  unfold digL at this
  exact absurd this.1 (by decide)
theorem word_no10 (c : CellD) : (10 : UInt8) ∉ wordL c := by
  unfold wordL
  intro h
  rcases List.mem_append.1 h with h | h
  · exact enc_no10 _ h
  · rcases List.mem_cons.1 h with h | h
    · exact absurd h (by decide)
    · exact enc_no10 _ h
theorem bsum_small (l : List UInt8) : 0 ≤ bsum l ∧ bsum l ≤ 999999 := by
  have := bsum_bd l
  omega
theorem recGo_no10 {seq : Int} {cs : List CellD} {l : List UInt8} (h : recGo (Lib.itoa seq) cs = some l) (h0 : 0 ≤ seq) (h1 : seq ≤ 1000000000) : (10 : UInt8) ∉ l := by
  rw [(recGo_form cs _ l h).1]
  intro hm
  rcases List.mem_append.1 hm with hm | hm
  · exact itoa_no10 h0 h1 hm
  · obtain ⟨c, _, hc⟩ := List.mem_flatMap.1 hm
    rcases List.mem_cons.1 hc with hc | hc
    · exact absurd hc (by decide)
    · exact word_no10 c hc
/-- a record's bytes: no byte 10 but the last -/
theorem rec_bytes {seq : Int} {cs : List CellD} {t : ByteArray} (h : recText seq cs = t) (ht : t.size ≠ 0) : ∃ m : List UInt8, t.data.toList = m ++ [10] ∧ (10 : UInt8) ∉ m := by
  obtain ⟨hi, l, hg, hl, rfl⟩ := recText_inv h ht
  have h1 : 1 ≤ seq ∧ seq ≤ 100000 := by unfold inB at hi; simp at hi; omega
  refine ⟨l ++ 32 :: 35 :: Lib.itoa (bsum l), ?_, ?_⟩
  · rw [strOf_list]
    unfold recEnd
    simp
  · have hb := bsum_small l
    intro hm
    rcases List.mem_append.1 hm with hm | hm
    · exact recGo_no10 hg (by omega) (by omega) hm
    · rcases List.mem_cons.1 hm with hm | hm
      · exact absurd hm (by decide)
      · rcases List.mem_cons.1 hm with hm | hm
        · exact absurd hm (by decide)
        · exact itoa_no10 hb.1 (by omega) hm
/-- WHAT IS TORN FROM A RECORD IS NONE. -/
theorem torn_no {seq : Int} {cs : List CellD} {t : ByteArray} (h : recText seq cs = t) (ht : t.size ≠ 0) {n : Nat} (hn : n < t.size) : readI (t.extract 0 n) = none := by
  cases hr : readI (t.extract 0 n) with
  | none => rfl
  | some p =>
    obtain ⟨h1, h2⟩ := (readI_some (seq := p.1) (cs := p.2)).1 hr
    obtain ⟨m, e1, hm⟩ := rec_bytes h ht
    obtain ⟨m', e2, _⟩ := rec_bytes h1 h2
    have hsz : t.data.toList.length = t.size := by simp
    have e3 : (t.extract 0 n).data.toList = t.data.toList.take n := by
      rw [ByteArray.data_extract, Array.toList_extract]
      simp [List.extract_eq_take_drop]
    rw [e3, e1, List.take_append_of_le_length (by rw [e1] at hsz; simp at hsz; omega)] at e2
    exact absurd (List.mem_of_mem_take (by rw [e2]; simp : (10 : UInt8) ∈ m.take n)) hm
theorem whole_yes {seq : Int} {cs : List CellD} {t : ByteArray} (h : recText seq cs = t) (ht : t.size ≠ 0) : readI t = some (seq, cs) := readI_some.2 ⟨h, ht⟩
theorem itoa_len6 {n : Int} (h0 : 0 ≤ n) (h1 : n ≤ 999999) : (Lib.itoa n).length ≤ 6 := by
  unfold Lib.itoa
  rw [if_neg (by omega)]
  exact dec_len 5 _ (by omega)
theorem itoa_len5 {n : Int} (h0 : 0 ≤ n) (h1 : n ≤ 99999) : (Lib.itoa n).length ≤ 5 := by
  unfold Lib.itoa
  rw [if_neg (by omega)]
  exact dec_len 4 _ (by omega)
theorem itoa_pos {n : Int} (h0 : 0 ≤ n) : 1 ≤ (Lib.itoa n).length := by
  unfold Lib.itoa
  rw [if_neg (by omega)]
  obtain ⟨c, r, e, _⟩ := decD_head n.toNat
  rw [e]
  simp
theorem rec_len {seq : Int} {cs : List CellD} {t : ByteArray} (h : recText seq cs = t) (ht : t.size ≠ 0) : ∃ k : Nat, (1 ≤ k ∧ k ≤ 6) ∧ t.size = (Lib.itoa seq).length + (cs.flatMap (fun c => 32 :: wordL c)).length + 3 + k := by
  obtain ⟨hi, l, hg, hl, rfl⟩ := recText_inv h ht
  have hb := bsum_small l
  have e := (recGo_form cs _ l hg).1
  refine ⟨(Lib.itoa (bsum l)).length, ⟨itoa_pos hb.1, itoa_len6 hb.1 hb.2⟩, ?_⟩
  rw [strOf_size]
  unfold recEnd
  have e2 : l.length = (Lib.itoa seq).length + (cs.flatMap (fun c => 32 :: wordL c)).length := by conv => lhs; rw [e]; rw [List.length_append]
  simp only [List.length_append, List.length_cons, List.length_nil]
  omega
theorem dec_lo : ∀ (k u : Nat), 10 ^ k ≤ u → k + 1 ≤ (Lib.decDigits u).length
  | 0, u, h => by
    obtain ⟨c, r, e, _⟩ := decD_head u
    rw [e]
    simp
  | k + 1, u, h => by
    rw [Nat.pow_succ] at h
    have hp : 0 < 10 ^ k := Nat.pow_pos (by decide)
    rw [Lib.decDigits, dif_neg (by omega), List.length_append, List.length_singleton]
    have := dec_lo k (u / 10) (by omega)
    omega
/-- A RECORD IS AT MOST FOUR BYTES LONGER THAN ITS SIZE. -/
theorem rec_size {seq : Int} {cs : List CellD} (h1 : seq ≤ 99999) (h : (recText 100000 cs).size ≠ 0) : (recText seq cs).size ≤ (recText 100000 cs).size + 4 := by
  by_cases hz : (recText seq cs).size = 0
  · omega
  · obtain ⟨k, hk, e⟩ := rec_len rfl hz
    obtain ⟨k', hk', e'⟩ := rec_len rfl h
    obtain ⟨hi, _⟩ := recText_inv (t := recText seq cs) rfl hz
    have h2 : 1 ≤ seq := by unfold inB at hi; simp at hi; omega
    have := itoa_len5 (by omega) h1
    have h6 : 6 ≤ (Lib.itoa 100000).length := by
      unfold Lib.itoa
      rw [if_neg (by omega)]
      exact dec_lo 5 _ (by decide)
    omega
theorem rec7 : (recText 7 []).size ≠ 0 := by
  have hi : inB 7 1 100000 = true := by decide
  have hb := bsum_small (Lib.itoa 7)
  have h2 := itoa_len6 hb.1 hb.2
  have h1 := itoa_len6 (n := 7) (by decide) (by decide)
  rw [recText_some hi (l := Lib.itoa 7) rfl, if_pos (by unfold recEnd; simp only [List.length_append, List.length_cons, List.length_nil]; omega), strOf_size]
  unfold recEnd
  simp
end Go.Proofs.YtedgenmbdjadkaaGreatDoor
