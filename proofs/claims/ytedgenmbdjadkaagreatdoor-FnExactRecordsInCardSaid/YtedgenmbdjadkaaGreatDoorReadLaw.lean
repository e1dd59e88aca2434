/- A record's text, split and read again: what was written comes back. No program in sight. -/
import Derived.Test.YtedgenmbdjadkaaGreatDoorSplitL
import Derived.Test.YtedgenmbdjadkaaGreatDoorRec
import Derived.Lib.ShelfFacts
import Derived.Lib.AtoiAllCases
set_option linter.unusedVariables false
set_option linter.unusedSimpArgs false
namespace Go.Proofs.YtedgenmbdjadkaaGreatDoor
open Go.ChangeShapes Go.WideShapes Go.ChangeAt Go.RowKit

def hexL (s : ByteArray) : List UInt8 := Lib.Hx.encode s.data.toList
theorem hexT_list {s : ByteArray} (h : s.size ≤ 20000) : (hexT s).data.toList = hexL s := by
  unfold hexT
  rw [if_pos h, strOf_list]
  rfl
theorem digit_ne (d : Nat) (h : d < 16) : Lib.Hx.digit d ≠ 32 ∧ Lib.Hx.digit d ≠ 61 := by
  have hall : ∀ x : Fin 16, Lib.Hx.digit x.val ≠ 32 ∧ Lib.Hx.digit x.val ≠ 61 := by decide
  exact hall ⟨d, h⟩
theorem enc_no (l : List UInt8) : ∀ b ∈ Lib.Hx.encode l, b ≠ 32 ∧ b ≠ 61 := by
  intro b hb
  unfold Lib.Hx.encode at hb
  obtain ⟨a, _, hb⟩ := List.mem_flatMap.1 hb
  have := a.toNat_lt
  simp only [List.mem_cons, List.not_mem_nil, or_false] at hb
  rcases hb with rfl | rfl
  · exact digit_ne _ (by omega)
  · exact digit_ne _ (by omega)
theorem dig_ne (u : Nat) (h : u < 10) : UInt8.ofNat (48 + u) ≠ 32 ∧ UInt8.ofNat (48 + u) ≠ 61 ∧ (UInt8.ofNat (48 + u)).toNat = 48 + u := by
  have hall : ∀ x : Fin 10, UInt8.ofNat (48 + x.val) ≠ 32 ∧ UInt8.ofNat (48 + x.val) ≠ 61 ∧ (UInt8.ofNat (48 + x.val)).toNat = 48 + x.val := by decide
  exact hall ⟨u, h⟩
theorem decD_no (u : Nat) : ∀ b ∈ Lib.decDigits u, b ≠ 32 ∧ b ≠ 61 := by
  induction u using Nat.strongRecOn with
  | _ u ih =>
    intro b hb
    rw [Lib.decDigits] at hb
    split at hb
    · rename_i h
      rw [List.mem_singleton.1 hb]
      exact ⟨(dig_ne u h).1, (dig_ne u h).2.1⟩
    · rename_i h
      rcases List.mem_append.1 hb with hb | hb
      · exact ih (u / 10) (by omega) b hb
      · rw [List.mem_singleton.1 hb]
        have := dig_ne (u % 10) (by omega)
        exact ⟨this.1, this.2.1⟩
theorem itoa_no (n : Int) (h : 0 ≤ n) : ∀ b ∈ Lib.itoa n, b ≠ 32 ∧ b ≠ 61 := by
  unfold Lib.itoa
  rw [if_neg (by omega)]
  exact decD_no _
theorem parse_snoc (c : UInt8) : ∀ (l : List UInt8) (acc u : Nat), Lib.parseUint10 acc l = .ok u → Lib.parseUint10 acc (l ++ [c]) = Lib.parseUint10 u [c]
  | [], acc, u, h => by
    simp only [Lib.parseUint10] at h
    injection h with h
    rw [h]
    rfl
  | b :: l, acc, u, h => by
    simp only [Lib.parseUint10, List.cons_append] at h ⊢
    split at h
    · rename_i h1
      rw [if_pos h1]
      split at h
      · cases h
      · rename_i h2
        rw [if_neg h2]
        split at h
        · cases h
        · rename_i h3
          rw [if_neg h3]
          exact parse_snoc c l _ u h
    · cases h
theorem parse_dec (u : Nat) (h : u ≤ 1000000000) : Lib.parseUint10 0 (Lib.decDigits u) = .ok u := by
  induction u using Nat.strongRecOn with
  | _ u ih =>
    rw [Lib.decDigits]
    split
    · rename_i h1
      have hd := (dig_ne u h1).2.2
      simp only [Lib.parseUint10]
      rw [hd, if_pos (by omega), if_neg (by omega), if_neg (by omega)]
      congr 1
      omega
    · rename_i h1
      have hd := (dig_ne (u % 10) (by omega)).2.2
      rw [parse_snoc _ _ _ _ (ih (u / 10) (by omega) (by omega))]
      simp only [Lib.parseUint10]
      rw [hd, if_pos (by omega), if_neg (by omega), if_neg (by omega)]
      congr 1
      omega
theorem decD_head (u : Nat) : ∃ c r, Lib.decDigits u = c :: r ∧ 48 ≤ c.toNat ∧ c.toNat ≤ 57 := by
  induction u using Nat.strongRecOn with
  | _ u ih =>
    rw [Lib.decDigits]
    split
    · rename_i h
      have hd := (dig_ne u h).2.2
      exact ⟨_, [], rfl, by omega, by omega⟩
    · obtain ⟨c, r, e, h1, h2⟩ := ih (u / 10) (by omega)
      exact ⟨c, r ++ [_], by rw [e]; rfl, h1, h2⟩
theorem atoi_itoa (n : Int) (h0 : 0 ≤ n) (h1 : n ≤ 1000000000) : Lib.atoiAll (Lib.itoa n) = .ok n := by
  obtain ⟨u, rfl⟩ := Int.eq_ofNat_of_zero_le h0
  unfold Lib.itoa
  rw [if_neg (by omega), Int.toNat_natCast]
  have hp := parse_dec u (by omega)
  obtain ⟨c, r, e, a, b⟩ := decD_head u
  rw [e] at hp ⊢
  rw [Lib.atoiAll_plain c r (by omega) (by omega)]
  unfold Lib.parseMag
  rw [if_neg (by simp), hp]
  unfold Lib.signless
  simp only
  rw [if_neg (by omega)]
def wordL (c : CellD) : List UInt8 := hexL c.key ++ 61 :: hexL c.val
theorem wordL_no (c : CellD) : 32 ∉ wordL c := by
  unfold wordL
  intro h
  rcases List.mem_append.1 h with h | h
  · exact (enc_no _ _ h).1 rfl
  · rcases List.mem_cons.1 h with h | h
    · exact absurd h (by decide)
    · exact (enc_no _ _ h).1 rfl
theorem hexL_no (s : ByteArray) : 61 ∉ hexL s := fun h => (enc_no _ _ h).2 rfl
theorem keyOk_size {k : ByteArray} (h : keyOk k = true) : k.size ≤ 40 := by
  unfold keyOk at h
  rw [Bool.and_eq_true] at h
  have := h.2
  unfold inB at this
  simp at this
  omega
theorem recGo_form : ∀ (cs : List CellD) (acc l : List UInt8), recGo acc cs = some l → l = acc ++ cs.flatMap (fun c => 32 :: wordL c) ∧ ∀ c ∈ cs, c.key.size ≤ 40 ∧ c.val.size ≤ 60
  | [], acc, l, h => by
    simp only [recGo, Option.some.injEq] at h
    exact ⟨by rw [h]; simp, by simp⟩
  | c :: cs, acc, l, h => by
    simp only [recGo] at h
    split at h
    · rename_i h1
      unfold recOne at h1
      rw [Bool.and_eq_true, Bool.and_eq_true] at h1
      have hk := keyOk_size h1.1
      have hv : c.val.size ≤ 60 := by have := of_decide_eq_true h1.2.1; omega
      obtain ⟨e, hc⟩ := recGo_form cs _ l h
      refine ⟨?_, fun d hd => ?_⟩
      · rw [e]
        unfold recAdd wordL
        rw [hexT_list (by omega), hexT_list (by omega)]
        simp [List.flatMap_cons]
      · rcases List.mem_cons.1 hd with rfl | hd
        · exact ⟨hk, hv⟩
        · exact hc d hd
    · cases h
theorem split_words : ∀ (cs : List CellD) (a z : List UInt8), 32 ∉ a → 32 ∉ z → splitL 32 (a ++ cs.flatMap (fun c => 32 :: wordL c) ++ 32 :: z) = a :: (cs.map wordL ++ [z])
  | [], a, z, ha, hz => by
    rw [List.flatMap_nil, List.append_nil, splitL_app 32 a z ha, splitL_none 32 z hz]
    rfl
  | c :: cs, a, z, ha, hz => by
    have e : a ++ (c :: cs).flatMap (fun c => 32 :: wordL c) ++ 32 :: z = a ++ 32 :: (wordL c ++ cs.flatMap (fun c => 32 :: wordL c) ++ 32 :: z) := by
      simp [List.flatMap_cons]
    rw [e, splitL_app 32 a _ ha, split_words cs (wordL c) z (wordL_no c) hz]
    rfl
theorem split_rec {seq : Int} {cs : List CellD} {l : List UInt8} (h : recGo (Lib.itoa seq) cs = some l) (h0 : 0 ≤ seq) :
    splitL 32 (recEnd l) = Lib.itoa seq :: (cs.map wordL ++ [35 :: (Lib.itoa (bsum l) ++ [10])]) := by
  have e := (recGo_form cs _ l h).1
  have hb := bsum_bd l
  have hz : 32 ∉ (35 :: (Lib.itoa (bsum l) ++ [10]) : List UInt8) := by
    intro hm
    rcases List.mem_cons.1 hm with hm | hm
    · exact absurd hm (by decide)
    · rcases List.mem_append.1 hm with hm | hm
      · exact (itoa_no _ (by omega) _ hm).1 rfl
      · exact absurd (List.mem_singleton.1 hm) (by decide)
  have := split_words cs (Lib.itoa seq) _ (fun hm => (itoa_no _ h0 _ hm).1 rfl) hz
  rw [← e] at this
  exact this
/-- what Unhex gives -/
def unhexI (l : List UInt8) : List UInt8 := match Lib.Hx.decode l with
  | (d, .ok) => if d.length ≤ 20000 ∧ Lib.Hx.encode d = l then d else []
  | _ => []
theorem unhex_hexL {s : ByteArray} (h : s.size ≤ 20000) : unhexI (hexL s) = s.data.toList := by
  unfold unhexI hexL
  rw [Lib.Hx.decode_encode]
  simp only
  rw [if_pos ⟨by simpa using h, trivial⟩]
/-- what ReadDecimal gives -/
def numI (l : List UInt8) : Int := match Lib.atoiAll l with
  | .ok n => if (0 ≤ n ∧ n ≤ 1000000000) ∧ Lib.itoa n = l then n else 0
  | _ => 0
theorem num_itoa (n : Int) (h0 : 0 ≤ n) (h1 : n ≤ 1000000000) : numI (Lib.itoa n) = n := by
  unfold numI
  rw [atoi_itoa n h0 h1]
  simp only
  rw [if_pos ⟨⟨h0, h1⟩, trivial⟩]
def cellI (w : List UInt8) : CellD := ⟨strOf (unhexI (Lib.cut w [61]).1), strOf (unhexI (Lib.cut w [61]).2.1)⟩
theorem strOf_data (s : ByteArray) : strOf s.data.toList = s := by
  apply ByteArray.ext
  simp [strOf]
theorem cellI_word {c : CellD} (h1 : c.key.size ≤ 40) (h2 : c.val.size ≤ 60) : cellI (wordL c) = c := by
  unfold cellI wordL
  rw [Lib.cut_app 61 _ _ (hexL_no _)]
  simp only
  rw [unhex_hexL (by omega), unhex_hexL (by omega), strOf_data, strOf_data]
/-- the numbers and cells that the program reads out of the words -/
def seqI (ws : List (List UInt8)) : Int := numI (ws.headD [])
def listI (ws : List (List UInt8)) : List CellD := ((ws.drop 1).take (ws.length - 2)).map cellI
theorem recText_inv {seq : Int} {cs : List CellD} {t : ByteArray} (h : recText seq cs = t) (ht : t.size ≠ 0) :
    inB seq 1 100000 = true ∧ ∃ l, recGo (Lib.itoa seq) cs = some l ∧ (recEnd l).length ≤ 4000 ∧ t = strOf (recEnd l) := by
  unfold recText at h
  split at h
  · rename_i hi
    refine ⟨hi, ?_⟩
    split at h
    · rw [← h] at ht; exact absurd rfl ht
    · rename_i l hg
      split at h
      · rename_i hl
        exact ⟨l, hg, by omega, h.symm⟩
      · rw [← h] at ht; exact absurd rfl ht
  · rw [← h] at ht; exact absurd rfl ht
/-- WHAT WAS WRITTEN IS READ AGAIN. -/
theorem read_back {seq : Int} {cs : List CellD} {t : ByteArray} (h : recText seq cs = t) (ht : t.size ≠ 0) :
    seqI (splitL 32 t.data.toList) = seq ∧ listI (splitL 32 t.data.toList) = cs := by
  obtain ⟨hi, l, hg, hl, rfl⟩ := recText_inv h ht
  have h1 : 1 ≤ seq ∧ seq ≤ 100000 := by unfold inB at hi; simp at hi; omega
  rw [strOf_list, split_rec hg (by omega)]
  refine ⟨num_itoa seq (by omega) (by omega), ?_⟩
  unfold listI
  have e : ((Lib.itoa seq :: (cs.map wordL ++ [35 :: (Lib.itoa (bsum l) ++ [10])])).drop 1).take ((Lib.itoa seq :: (cs.map wordL ++ [35 :: (Lib.itoa (bsum l) ++ [10])])).length - 2) = cs.map wordL := by
    simp
  rw [e, List.map_map]
  conv => rhs; rw [← List.map_id cs]
  refine List.map_congr_left fun c hc => ?_
  have := (recGo_form cs _ l hg).2 c hc
  exact cellI_word this.1 this.2
end Go.Proofs.YtedgenmbdjadkaaGreatDoor
