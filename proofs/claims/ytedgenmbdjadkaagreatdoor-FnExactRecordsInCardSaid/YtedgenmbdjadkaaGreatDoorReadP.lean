/- What the reference's readers of words compute, in plain words. No program in sight. -/
import Derived.Test.YtedgenmbdjadkaaGreatDoorReadR
set_option linter.unusedVariables false
set_option linter.unusedSimpArgs false
namespace Go.Proofs.YtedgenmbdjadkaaGreatDoor
open Go.ChangeShapes Go.WideShapes Go.ChangeAt Go.RowKit

/-- the value of a hexadecimal figure, -1 if it is none -/
def valI (c : UInt8) : Int := if 48 ≤ (c.toNat : Int) ∧ (c.toNat : Int) ≤ 57 then c.toNat - 48 else if 97 ≤ (c.toNat : Int) ∧ (c.toNat : Int) ≤ 102 then c.toNat - 97 + 10 else -1
theorem valI_digit (x : Nat) (h : x < 16) : valI (Lib.Hx.digit x) = x := by
  have hall : ∀ x : Fin 16, valI (Lib.Hx.digit x.val) = (x.val : Int) := by decide
  exact hall ⟨x, h⟩
theorem valI_le (c : UInt8) : -1 ≤ valI c ∧ valI c ≤ 15 := by
  unfold valI
  split
  · omega
  · split
    · omega
    · omega
theorem enc_get : ∀ (l : List UInt8) (m : Nat) (h : m < l.length), (Lib.Hx.encode l)[2 * m]? = some (Lib.Hx.digit (l[m].toNat / 16)) ∧ (Lib.Hx.encode l)[2 * m + 1]? = some (Lib.Hx.digit (l[m].toNat % 16))
  | [], m, h => by simp at h
  | c :: l, 0, _ => by simp [Lib.Hx.encode]
  | c :: l, m + 1, h => by
    have ih := enc_get l m (by simpa using h)
    have e : Lib.Hx.encode (c :: l) = Lib.Hx.digit (c.toNat / 16) :: Lib.Hx.digit (c.toNat % 16) :: Lib.Hx.encode l := by simp [Lib.Hx.encode]
    rw [e, show 2 * (m + 1) = 2 * m + 1 + 1 by omega, List.getElem?_cons_succ, List.getElem?_cons_succ, List.getElem?_cons_succ, List.getElem?_cons_succ]
    simpa using ih
theorem hexL_len (t : ByteArray) : (hexL t).length = 2 * t.size := by
  unfold hexL
  rw [Lib.Hx.encode_length]
  have : t.data.toList.length = t.size := by simp
  omega
/-- how far the figures have been read -/
def UnhTo (L acc : List UInt8) (m : Nat) : Prop := ∀ t : ByteArray, L = hexL t → acc = t.data.toList.take m
theorem UnhTo.nil (L : List UInt8) : UnhTo L [] 0 := fun t _ => by simp
theorem unh_at {L : List UInt8} {t : ByteArray} {m : Nat} (h : 2 * m + 1 < L.length) (e : L = hexL t) : ∃ hm : m < t.data.toList.length, valI (L[2 * m]'(by omega)) = ((t.data.toList[m].toNat / 16 : Nat) : Int) ∧ valI L[2 * m + 1] = ((t.data.toList[m].toNat % 16 : Nat) : Int) := by
  subst e
  have hm : m < t.data.toList.length := by
    rw [hexL_len] at h
    have : t.data.toList.length = t.size := by simp
    omega
  have hg := enc_get t.data.toList m hm
  have hb := t.data.toList[m].toNat_lt
  have h1 := List.getElem?_eq_getElem (l := hexL t) (i := 2 * m) (by omega)
  have h2 := List.getElem?_eq_getElem (l := hexL t) (i := 2 * m + 1) h
  have e1 : (hexL t)[2 * m]'(by omega) = Lib.Hx.digit (t.data.toList[m].toNat / 16) := Option.some.inj (h1.symm.trans hg.1)
  have e2 : (hexL t)[2 * m + 1] = Lib.Hx.digit (t.data.toList[m].toNat % 16) := Option.some.inj (h2.symm.trans hg.2)
  refine ⟨hm, ?_, ?_⟩
  · rw [e1, valI_digit _ (by omega)]
  · rw [e2, valI_digit _ (by omega)]
theorem UnhTo.step {L acc : List UInt8} {m : Nat} (H : UnhTo L acc m) (h : 2 * m + 1 < L.length) {c : UInt8} (hc : (c.toNat : Int) = 16 * valI (L[2 * m]'(by omega)) + valI L[2 * m + 1]) : UnhTo L (acc ++ [c]) (m + 1) := by
  intro t e
  obtain ⟨hm, e1, e2⟩ := unh_at h e
  rw [e1, e2] at hc
  rw [H t e, List.take_succ_eq_append_getElem hm]
  congr 2
  apply UInt8.toNat_inj.1
  omega
theorem UnhTo.bad {L : List UInt8} {m : Nat} (h : 2 * m + 1 < L.length) (hb : valI (L[2 * m]'(by omega)) < 0 ∨ valI L[2 * m + 1] < 0) (r : ByteArray) : Unh L r := by
  intro t _ e
  obtain ⟨hm, e1, e2⟩ := unh_at h e
  rw [e1, e2] at hb
  omega
theorem UnhTo.all {L acc : List UInt8} {m : Nat} (H : UnhTo L acc m) (h : L.length ≤ 2 * m) : Unh L (strOf acc) := by
  intro t _ e
  have h2 := hexL_len t
  rw [← e] at h2
  have : t.data.toList.length = t.size := by simp
  rw [H t e, List.take_of_length_le (by omega), strOf_data]
theorem Unh.long {L : List UInt8} (h : 40000 < L.length ∨ L.length % 2 ≠ 0) (r : ByteArray) : Unh L r := by
  intro t h1 e
  have := hexL_len t
  rw [← e] at this
  omega
/-- the number that figures write -/
def valD (l : List UInt8) : Int := l.foldl (fun a c => 10 * a + (c.toNat - 48)) 0
def digL (c : UInt8) : Prop := 48 ≤ c.toNat ∧ c.toNat ≤ 57
theorem valD_snoc (l : List UInt8) (c : UInt8) : valD (l ++ [c]) = 10 * valD l + (c.toNat - 48) := by simp [valD, List.foldl_append]
theorem dec_val (u : Nat) : valD (Lib.decDigits u) = u ∧ ∀ c ∈ Lib.decDigits u, digL c := by
  induction u using Nat.strongRecOn with
  | _ u ih =>
    rw [Lib.decDigits]
    split
    · rename_i h
      have hd := (dig_ne u h).2.2
      refine ⟨?_, fun c hc => ?_⟩
      · show 10 * (0 : Int) + ((UInt8.ofNat (48 + u)).toNat - 48) = u
        rw [hd]
        omega
      · rw [List.mem_singleton.1 hc]
        unfold digL
        omega
    · rename_i h
      have hd := (dig_ne (u % 10) (by omega)).2.2
      obtain ⟨h1, h2⟩ := ih (u / 10) (by omega)
      refine ⟨?_, fun c hc => ?_⟩
      · rw [valD_snoc, h1, hd]
        omega
      · rcases List.mem_append.1 hc with hc | hc
        · exact h2 c hc
        · rw [List.mem_singleton.1 hc]
          unfold digL
          omega
theorem dec_len : ∀ (k u : Nat), u < 10 ^ (k + 1) → (Lib.decDigits u).length ≤ k + 1
  | 0, u, h => by
    rw [Lib.decDigits, dif_pos (by omega)]
    simp
  | k + 1, u, h => by
    rw [Lib.decDigits]
    split
    · simp
    · have := dec_len k (u / 10) (by rw [Nat.pow_succ] at h; omega)
      rw [List.length_append, List.length_singleton]
      omega
theorem itoa_val {m : Int} (h0 : 0 ≤ m) (h1 : m ≤ 1000000000) : valD (Lib.itoa m) = m ∧ (∀ c ∈ Lib.itoa m, digL c) ∧ (Lib.itoa m).length ≤ 10 := by
  unfold Lib.itoa
  rw [if_neg (by omega)]
  obtain ⟨a, b⟩ := dec_val m.toNat
  exact ⟨by rw [a]; omega, b, dec_len 9 _ (by omega)⟩
theorem Num.long {l : List UInt8} (h : 10 < l.length) : Num l 0 false := by
  refine ⟨by omega, fun m h1 h2 e => ?_⟩
  have := (itoa_val (m := m) (by omega) (by omega)).2.2
  rw [← e] at this
  omega
theorem Num.bad {l : List UInt8} {c : UInt8} (hc : c ∈ l) (h : ¬ digL c) : Num l 0 false := by
  refine ⟨by omega, fun m h1 h2 e => ?_⟩
  exact absurd ((itoa_val (m := m) (by omega) (by omega)).2.1 c (by rw [← e]; exact hc)) h
theorem Num.good {l : List UInt8} {n : Int} (h0 : 0 ≤ n) (h1 : n ≤ 1000000000) (h : n = valD l) : Num l n true := by
  refine ⟨⟨h0, h1⟩, fun m a b e => ⟨?_, rfl⟩⟩
  have := (itoa_val (m := m) (by omega) (by omega)).1
  rw [h, e, this]
theorem Num.other {l : List UInt8} {n : Int} (h : n = valD l) (h1 : 1000000000 < n ∨ Lib.itoa n ≠ l) : Num l 0 false := by
  refine ⟨by omega, fun m a b e => ?_⟩
  have := (itoa_val (m := m) (by omega) (by omega)).1
  rw [← e, ← h] at this
  subst this
  rcases h1 with h1 | h1
  · omega
  · exact absurd e.symm h1
theorem valD_go : ∀ (l : List UInt8) (a : Int), 0 ≤ a → (∀ c ∈ l, digL c) → 0 ≤ l.foldl (fun (a : Int) (c : UInt8) => 10 * a + (c.toNat - 48)) a ∧ l.foldl (fun (a : Int) (c : UInt8) => 10 * a + (c.toNat - 48)) a + 1 ≤ (a + 1) * 10 ^ l.length
  | [], a, h, _ => by simp; omega
  | c :: l, a, h, hd => by
    have hc := hd c (by simp)
    unfold digL at hc
    obtain ⟨h1, h2⟩ := valD_go l (10 * a + (c.toNat - 48)) (by omega) (fun d hm => hd d (List.mem_cons_of_mem _ hm))
    refine ⟨h1, Int.le_trans h2 ?_⟩
    rw [List.length_cons, Int.pow_succ, Int.mul_comm (10 ^ l.length) 10, ← Int.mul_assoc]
    refine Int.mul_le_mul_of_nonneg_right (by omega) (Int.le_of_lt (Int.pow_pos (by decide)))
theorem valD_bd (l : List UInt8) (h : ∀ c ∈ l, digL c) : 0 ≤ valD l ∧ valD l < 10 ^ l.length := by
  have := valD_go l 0 (by omega) h
  unfold valD
  omega
theorem Num.atoi {l : List UInt8} (h : ∀ n, Lib.atoiAll l ≠ .ok n) : Num l 0 false := by
  refine ⟨by omega, fun m h1 h2 e => ?_⟩
  exact absurd (atoi_itoa m (by omega) (by omega)) (by rw [← e]; exact h m)
theorem Num.atoiOk {l : List UInt8} {n : Int} (h : Lib.atoiAll l = .ok n) (h0 : 0 ≤ n) (h1 : n ≤ 1000000000) : Num l n true := by
  refine ⟨⟨h0, h1⟩, fun m a b e => ⟨?_, rfl⟩⟩
  have := atoi_itoa m (by omega) (by omega)
  rw [← e, h] at this
  injection this
theorem Num.atoiNo {l : List UInt8} {n : Int} (h : Lib.atoiAll l = .ok n) (h1 : n < 0 ∨ 1000000000 < n ∨ Lib.itoa n ≠ l) : Num l 0 false := by
  refine ⟨by omega, fun m a b e => ?_⟩
  have := atoi_itoa m (by omega) (by omega)
  rw [← e, h] at this
  injection this with this
  subst this
  rcases h1 with h1 | h1 | h1
  · omega
  · omega
  · exact absurd e.symm h1
theorem Unh.dec {l d : List UInt8} (h : Lib.Hx.decode l = (d, .ok)) : Unh l (strOf d) := by
  intro t _ e
  subst e
  unfold hexL at h
  rw [Lib.Hx.decode_encode] at h
  injection h with h
  rw [← h, strOf_data]
theorem Unh.no {l d : List UInt8} {x} (h : Lib.Hx.decode l = (d, x)) (h1 : x ≠ .ok ∨ 20000 < d.length ∨ Lib.Hx.encode d ≠ l) (r : ByteArray) : Unh l r := by
  intro t ht e
  subst e
  unfold hexL at h
  rw [Lib.Hx.decode_encode] at h
  injection h with h h2
  subst h
  subst h2
  rcases h1 with h1 | h1 | h1
  · exact absurd rfl h1
  · have : t.data.toList.length = t.size := by simp
    omega
  · exact absurd rfl h1
/-- the parts that have been cut so far -/
def CutTo (c : UInt8) (L : List UInt8) (xs : List ByteArray) (b i : Nat) : Prop :=
  (i ≤ L.length ∧ b ≤ i ∧ c ∉ (L.drop b).take (i - b) ∧ xs.map (·.data.toList) ++ splitL c (L.drop b) = splitL c L) ∨ (i = L.length + 1 ∧ xs.map (·.data.toList) = splitL c L)
theorem CutTo.nil (c : UInt8) (L : List UInt8) : CutTo c L [] 0 0 := .inl ⟨by omega, by omega, by simp, by simp⟩
theorem take_drop_step (L : List UInt8) (b i : Nat) (hb : b ≤ i) (hi : i < L.length) : (L.drop b).take (i + 1 - b) = (L.drop b).take (i - b) ++ [L[i]] := by
  rw [show i + 1 - b = (i - b) + 1 by omega, List.take_succ_eq_append_getElem (by rw [List.length_drop]; omega)]
  congr 2
  rw [List.getElem_drop]
  congr 1
  omega
theorem CutTo.same {c : UInt8} {L : List UInt8} {xs : List ByteArray} {b i : Nat} (h : CutTo c L xs b i) (hi : i < L.length) (hc : L[i] ≠ c) : CutTo c L xs b (i + 1) := by
  rcases h with ⟨h1, h2, h3, h4⟩ | ⟨h, _⟩
  · refine .inl ⟨by omega, by omega, ?_, h4⟩
    rw [take_drop_step L b i h2 hi]
    intro hm
    rcases List.mem_append.1 hm with hm | hm
    · exact h3 hm
    · exact hc (List.mem_singleton.1 hm).symm
  · omega
theorem CutTo.cut {c : UInt8} {L : List UInt8} {xs : List ByteArray} {b i : Nat} (h : CutTo c L xs b i) (hi : i < L.length) (hc : L[i] = c) {s : ByteArray} (hs : s.data.toList = (L.drop b).take (i - b)) : CutTo c L (xs ++ [s]) (i + 1) (i + 1) := by
  rcases h with ⟨h1, h2, h3, h4⟩ | ⟨h, _⟩
  · refine .inl ⟨by omega, by omega, by simp, ?_⟩
    have e : L.drop b = (L.drop b).take (i - b) ++ c :: L.drop (i + 1) := by
      conv => lhs; rw [← List.take_append_drop (i - b) (L.drop b)]
      rw [List.drop_drop, show b + (i - b) = i by omega, List.drop_eq_getElem_cons hi, hc]
    rw [e, splitL_app c _ _ h3] at h4
    rw [List.map_append, List.append_assoc, ← h4, ← hs]
    rfl
  · omega
theorem CutTo.last {c : UInt8} {L : List UInt8} {xs : List ByteArray} {b i : Nat} (h : CutTo c L xs b i) (hi : i = L.length) {s : ByteArray} (hs : s.data.toList = (L.drop b).take (i - b)) : CutTo c L (xs ++ [s]) (i + 1) (i + 1) := by
  subst hi
  rcases h with ⟨h1, h2, h3, h4⟩ | ⟨h, _⟩
  · refine .inr ⟨rfl, ?_⟩
    rw [List.take_of_length_le (by rw [List.length_drop]; omega)] at h3 hs
    rw [splitL_none c _ h3] at h4
    rw [List.map_append, ← h4, ← hs]
    rfl
  · omega
theorem CutTo.all {c : UInt8} {L : List UInt8} {xs : List ByteArray} {b i : Nat} (h : CutTo c L xs b i) (hi : L.length < i) : xs.map (·.data.toList) = splitL c L := by
  rcases h with ⟨h1, _⟩ | ⟨_, h⟩
  · omega
  · exact h
theorem CutTo.lo {c : UInt8} {L : List UInt8} {xs : List ByteArray} {b i : Nat} (h : CutTo c L xs b i) (hi : i ≤ L.length) : b ≤ i := by
  rcases h with ⟨_, h, _⟩ | ⟨h, _⟩
  · exact h
  · omega
theorem splitL_length (c : UInt8) : ∀ l : List UInt8, (splitL c l).length ≤ l.length + 1
  | [] => by simp [splitL]
  | b :: l => by
    have ih := splitL_length c l
    unfold splitL
    split
    · simp; omega
    · split
      · simp
      · rename_i h; rw [h] at ih; simp at ih ⊢; omega
/-- what a reader of figures gives -/
def UnhP (s : ByteArray) (w : World) (e : Ending) (w' : World) : Prop := ∃ r b, e = .returned (.tuple #[.string r, .bool b]) ∧ r.size ≤ 20000 ∧ Unh s.data.toList r ∧ Below w.heap.size w w'
theorem UnhP.mk {s r : ByteArray} {b : Bool} {w w' : World} (h1 : r.size ≤ 20000) (h2 : Unh s.data.toList r) (h3 : Below w.heap.size w w') : UnhP s w (.returned (.tuple #[.string r, .bool b])) w' := ⟨r, b, rfl, h1, h2, h3⟩
def NumP (s : ByteArray) (w : World) (e : Ending) (w' : World) : Prop := ∃ n b, e = .returned (.tuple #[.int .i64 n, .bool b]) ∧ Num s.data.toList n b ∧ Below w.heap.size w w'
theorem NumP.mk {s : ByteArray} {n : Int} {b : Bool} {w w' : World} (h2 : Num s.data.toList n b) (h3 : Below w.heap.size w w') : NumP s w (.returned (.tuple #[.int .i64 n, .bool b])) w' := ⟨n, b, rfl, h2, h3⟩
def SplP (t : TypeId) (c : UInt8) (s : ByteArray) (w : World) (e : Ending) (w' : World) : Prop := ∃ v xs, e = .returned v ∧ OwnL rStr t w' w.heap.size v xs ∧ xs.map (·.data.toList) = splitL c s.data.toList ∧ Below w.heap.size w w'
theorem SplP.mk {t : TypeId} {c : UInt8} {s : ByteArray} {v : Value} {xs : List ByteArray} {w w' : World} (h1 : OwnL rStr t w' w.heap.size v xs) (h2 : xs.map (·.data.toList) = splitL c s.data.toList) (h3 : Below w.heap.size w w') : SplP t c s w (.returned v) w' := ⟨v, xs, rfl, h1, h2, h3⟩
theorem splitL_mem (c : UInt8) : ∀ (l w : List UInt8), w ∈ splitL c l → w.length ≤ l.length
  | [], w, h => by simp [splitL] at h; simp [h]
  | b :: l, w, h => by
    have ih := splitL_mem c l
    unfold splitL at h
    split at h
    · rcases List.mem_cons.1 h with rfl | h
      · simp
      · have := ih w h
        simp
        omega
    · split at h
      · rw [List.mem_singleton.1 h]
        simp
      · rename_i x xs hx
        rcases List.mem_cons.1 h with rfl | h
        · have := ih x (by rw [hx]; simp)
          simp
          exact this
        · have := ih w (by rw [hx]; exact List.mem_cons_of_mem _ h)
          simp
          omega
theorem split_small {c : UInt8} {s : ByteArray} {xs : List ByteArray} (h : xs.map (·.data.toList) = splitL c s.data.toList) : ∀ x ∈ xs, x.size ≤ s.size := by
  intro x hx
  have := splitL_mem c s.data.toList x.data.toList (by rw [← h]; exact List.mem_map.2 ⟨x, hx, rfl⟩)
  have e1 : x.data.toList.length = x.size := by simp
  have e2 : s.data.toList.length = s.size := by simp
  omega
theorem mid_get {ws : List (List UInt8)} {j : Nat} (h : j + 2 < ws.length) : (midL ws)[j]? = some ws[j + 1] := by
  unfold midL
  rw [List.getElem?_take, if_pos (by omega), List.getElem?_drop, Nat.add_comm 1 j, List.getElem?_eq_getElem (by omega)]
theorem mid_step {ws : List (List UInt8)} {j : Nat} (h : j + 2 < ws.length) : (midL ws).take (j + 1) = (midL ws).take j ++ [ws[j + 1]] := by
  obtain ⟨h1, h2⟩ := List.getElem?_eq_some_iff.1 (mid_get h)
  rw [List.take_succ_eq_append_getElem h1, h2]
theorem mid_all {ws : List (List UInt8)} {j : Nat} (h : ws.length ≤ j + 2) : (midL ws).take j = midL ws := by
  unfold midL
  rw [List.take_take, Nat.min_eq_right (by omega)]
theorem mid_len (ws : List (List UInt8)) : (midL ws).length ≤ ws.length := by
  unfold midL
  rw [List.length_take, List.length_drop]
  omega
theorem map_get (xs : List ByteArray) (ws : List (List UInt8)) (h : xs.map (·.data.toList) = ws) {i : Nat} (hi : i < xs.length) : ∃ h2 : i < ws.length, ws[i] = xs[i].data.toList := by
  subst h
  exact ⟨by simpa using hi, by simp⟩
theorem two_of {xs : List ByteArray} {ws : List (List UInt8)} (h : xs.map (·.data.toList) = ws) (hl : xs.length = 2) : ∃ a b : ByteArray, xs = [a, b] ∧ ws = [a.data.toList, b.data.toList] := by
  subst h
  match xs, hl with
  | [a, b], _ => exact ⟨a, b, rfl, rfl⟩
/-- small cells -/
def Sm (cs : List CellD) : Prop := ∀ c ∈ cs, c.key.size ≤ 20000 ∧ c.val.size ≤ 20000
theorem Sm.nil : Sm [] := by intro c hc; cases hc
theorem Sm.snoc {cs : List CellD} {k v : ByteArray} (h : Sm cs) (h1 : k.size ≤ 20000) (h2 : v.size ≤ 20000) : Sm (cs ++ [⟨k, v⟩]) := by
  intro c hc
  rcases List.mem_append.1 hc with hc | hc
  · exact h c hc
  · rw [List.mem_singleton.1 hc]
    exact ⟨h1, h2⟩
/-- what the readers of a record give -/
def RrOk (s : ByteArray) (n : Int) (b : Bool) (cs : List CellD) : Prop := (b = true → readI s = some (n, cs)) ∧ (b = false → n = 0 ∧ cs = [] ∧ readI s = none)
theorem RrOk.no {s : ByteArray} (h : readI s = none) : RrOk s 0 false [] := ⟨(fun e => by cases e), fun _ => ⟨rfl, rfl, h⟩⟩
theorem RrOk.yes {s : ByteArray} {n : Int} {cs : List CellD} (h : recText n cs = s) (h2 : s.size ≠ 0) : RrOk s n true cs := ⟨fun _ => readI_some.2 ⟨h, h2⟩, (fun e => by cases e)⟩
theorem ne_size {a b : ByteArray} (h1 : a.size = 0) (h2 : ¬ b.size = 0) : a ≠ b := fun e => h2 (by rw [← e]; exact h1)
end Go.Proofs.YtedgenmbdjadkaaGreatDoor
