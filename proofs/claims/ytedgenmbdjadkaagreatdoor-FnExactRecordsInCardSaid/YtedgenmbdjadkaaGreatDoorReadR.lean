/- When a text is a record, and what it says: in plain words. No program in sight. -/
import Derived.Test.YtedgenmbdjadkaaGreatDoorReadLaw
set_option linter.unusedVariables false
set_option linter.unusedSimpArgs false
namespace Go.Proofs.YtedgenmbdjadkaaGreatDoor
open Go.ChangeShapes Go.WideShapes Go.ChangeAt Go.RowKit

/-- the record that a text is, if it is one -/
def readI (t : ByteArray) : Option (Int × List CellD) :=
  if t.size ≠ 0 ∧ recText (seqI (splitL 32 t.data.toList)) (listI (splitL 32 t.data.toList)) = t then some (seqI (splitL 32 t.data.toList), listI (splitL 32 t.data.toList)) else none
theorem readI_some {t : ByteArray} {seq : Int} {cs : List CellD} : readI t = some (seq, cs) ↔ recText seq cs = t ∧ t.size ≠ 0 := by
  unfold readI
  constructor
  · intro h
    split at h
    · rename_i h1
      injection h with h
      injection h with h2 h3
      subst h2
      subst h3
      exact ⟨h1.2, h1.1⟩
    · cases h
  · rintro ⟨h, ht⟩
    have hb := read_back h ht
    rw [hb.1, hb.2, if_pos ⟨ht, h⟩]
theorem readI_big {t : ByteArray} (h : 4000 < t.size) : readI t = none := by
  cases hr : readI t with
  | none => rfl
  | some p =>
    have := (readI_some (seq := p.1) (cs := p.2)).1 hr
    have h2 := recText_size p.1 p.2
    rw [this.1] at h2
    omega
def Unh (l : List UInt8) (r : ByteArray) : Prop := ∀ s : ByteArray, s.size ≤ 20000 → l = hexL s → r = s
def Num (l : List UInt8) (n : Int) (ok : Bool) : Prop := (0 ≤ n ∧ n ≤ 1000000000) ∧ ∀ m : Int, 1 ≤ m → m ≤ 100000 → l = Lib.itoa m → n = m ∧ ok = true
def CellR (word : List UInt8) (c : CellD) : Prop := ∀ d : CellD, d.key.size ≤ 40 → d.val.size ≤ 60 → word = wordL d → c = d
def ReadsTo (ws : List (List UInt8)) (cs : List CellD) : Prop := ∃ zs : List (List UInt8 × CellD), zs.map (·.1) = ws ∧ zs.map (·.2) = cs ∧ ∀ z ∈ zs, CellR z.1 z.2
theorem ReadsTo.nil : ReadsTo [] [] := ⟨[], rfl, rfl, by simp⟩
theorem ReadsTo.snoc {ws : List (List UInt8)} {cs : List CellD} {w : List UInt8} {c : CellD} (h : ReadsTo ws cs) (hc : CellR w c) : ReadsTo (ws ++ [w]) (cs ++ [c]) := by
  obtain ⟨zs, rfl, rfl, hz⟩ := h
  refine ⟨zs ++ [(w, c)], by simp, by simp, fun z hm => ?_⟩
  rcases List.mem_append.1 hm with hm | hm
  · exact hz z hm
  · rw [List.mem_singleton.1 hm]
    exact hc
theorem ReadsTo.length {ws : List (List UInt8)} {cs : List CellD} (h : ReadsTo ws cs) : cs.length = ws.length := by
  obtain ⟨zs, rfl, rfl, _⟩ := h
  simp
theorem reads_eq : ∀ (zs : List (List UInt8 × CellD)) (ds : List CellD), (∀ z ∈ zs, CellR z.1 z.2) → zs.map (·.1) = ds.map wordL → (∀ d ∈ ds, d.key.size ≤ 40 ∧ d.val.size ≤ 60) → zs.map (·.2) = ds
  | [], [], _, _, _ => rfl
  | [], d :: ds, _, h, _ => by simp at h
  | z :: zs, [], _, h, _ => by simp at h
  | z :: zs, d :: ds, hz, h, hd => by
    simp only [List.map_cons, List.cons.injEq] at h
    rw [List.map_cons, reads_eq zs ds (fun x hx => hz x (List.mem_cons_of_mem _ hx)) h.2 (fun x hx => hd x (List.mem_cons_of_mem _ hx))]
    have := hd d (by simp)
    rw [hz z (by simp) d this.1 this.2 h.1]
theorem ReadsTo.eq {ds cs : List CellD} (h : ReadsTo (ds.map wordL) cs) (hd : ∀ d ∈ ds, d.key.size ≤ 40 ∧ d.val.size ≤ 60) : cs = ds := by
  obtain ⟨zs, h1, rfl, hz⟩ := h
  exact reads_eq zs ds hz h1 hd
def midL (ws : List (List UInt8)) : List (List UInt8) := (ws.drop 1).take (ws.length - 2)
theorem midL_rec (a z : List UInt8) (ws : List (List UInt8)) : midL (a :: (ws ++ [z])) = ws := by
  unfold midL
  simp
theorem readI_inv {t : ByteArray} {seq : Int} {cs : List CellD} (h : readI t = some (seq, cs)) :
    (1 ≤ seq ∧ seq ≤ 100000) ∧ (splitL 32 t.data.toList).headD [] = Lib.itoa seq ∧ midL (splitL 32 t.data.toList) = cs.map wordL ∧ (∀ d ∈ cs, d.key.size ≤ 40 ∧ d.val.size ≤ 60) := by
  have h1 := readI_some.1 h
  obtain ⟨hi, l, hg, hl, rfl⟩ := recText_inv h1.1 h1.2
  have h2 : 1 ≤ seq ∧ seq ≤ 100000 := by unfold inB at hi; simp at hi; omega
  rw [strOf_list, split_rec hg (by omega)]
  exact ⟨h2, rfl, midL_rec _ _ _, (recGo_form cs _ l hg).2⟩
/-- ONE READING: whoever reads the words rightly where they are a record's reads what the record says. -/
theorem read_one {t : ByteArray} {seq n : Int} {ok : Bool} {cs ds : List CellD} (h : readI t = some (seq, cs)) (hn : Num ((splitL 32 t.data.toList).headD []) n ok) (hd : ReadsTo (midL (splitL 32 t.data.toList)) ds) :
    n = seq ∧ ok = true ∧ ds = cs := by
  obtain ⟨h2, e1, e2, e3⟩ := readI_inv h
  rw [e2] at hd
  have := hn.2 seq h2.1 h2.2 e1
  exact ⟨this.1, this.2, hd.eq e3⟩
theorem read_no {t : ByteArray} {n : Int} {ok : Bool} {ds : List CellD} (hn : Num ((splitL 32 t.data.toList).headD []) n ok) (hd : ReadsTo (midL (splitL 32 t.data.toList)) ds) (h : recText n ds ≠ t ∨ t.size = 0 ∨ ok = false) : readI t = none := by
  cases hr : readI t with
  | none => rfl
  | some p =>
    obtain ⟨rfl, rfl, rfl⟩ := read_one (seq := p.1) (cs := p.2) hr hn hd
    have := (readI_some (seq := p.1) (cs := p.2)).1 hr
    rcases h with h | h | h
    · exact absurd this.1 h
    · exact absurd h this.2
    · cases h
theorem split_word (d : CellD) : splitL 61 (wordL d) = [hexL d.key, hexL d.val] := by
  unfold wordL
  rw [splitL_app 61 _ _ (hexL_no _), splitL_none 61 _ (hexL_no _)]
theorem read_no2 {t : ByteArray} {i : Nat} {w : List UInt8} (hw : (midL (splitL 32 t.data.toList))[i]? = some w) (h : (splitL 61 w).length ≠ 2) : readI t = none := by
  cases hr : readI t with
  | none => rfl
  | some p =>
    obtain ⟨_, _, e, _⟩ := readI_inv (seq := p.1) (cs := p.2) hr
    rw [e, List.getElem?_map] at hw
    obtain ⟨d, hd, rfl⟩ := Option.map_eq_some_iff.1 hw
    rw [split_word] at h
    exact absurd rfl h
theorem cellR_cut {w : List UInt8} {k v : ByteArray} (hk : Unh (Lib.cut w [61]).1 k) (hv : Unh (Lib.cut w [61]).2.1 v) : CellR w ⟨k, v⟩ := by
  intro d h1 h2 e
  have ec : Lib.cut w [61] = (hexL d.key, hexL d.val, true) := by
    rw [e]
    unfold wordL
    rw [Lib.cut_app 61 _ _ (hexL_no _)]
  rw [ec] at hk hv
  have a := hk d.key (by omega) rfl
  have b := hv d.val (by omega) rfl
  rw [a, b]
theorem cellR_split {w a b : List UInt8} {k v : ByteArray} (h : splitL 61 w = [a, b]) (hk : Unh a k) (hv : Unh b v) : CellR w ⟨k, v⟩ := by
  intro d h1 h2 e
  rw [e, split_word] at h
  injection h with h3 h4
  injection h4 with h4 _
  subst h3
  subst h4
  have a := hk d.key (by omega) rfl
  have b := hv d.val (by omega) rfl
  rw [a, b]
end Go.Proofs.YtedgenmbdjadkaaGreatDoor
