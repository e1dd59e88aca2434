/- Texts of this claim, merged: the walks and what they stand on. Each condition stands in its theorem. -/
import Derived.Test.YtieenbnmfaekiaaGreatDoorSS24
set_option linter.unusedVariables false
set_option linter.unusedSimpArgs false
set_option maxRecDepth 100000
set_option maxHeartbeats 8000000
namespace Go.Proofs.YtieenbnmfaekiaaGreatDoor
open Go.ChangeShapes Go.WideShapes Go.ChangeAt Go.RowKit
open Mp
open Classical
noncomputable def know (D : List ByteArray) (k : ByteArray) : List ByteArray := if k ∈ D then D else k :: D
theorem mem_know {D : List ByteArray} {k x : ByteArray} : x ∈ know D k ↔ x ∈ D ∨ x = k := by
 unfold know
 split
 ·rename_i h
  constructor
  ·exact .inl
  ·rintro (h' | rfl)
   ·exact h'
   ·exact h
 ·rw [List.mem_cons]
  exact Or.comm
theorem know_old {D : List ByteArray} {k : ByteArray} (h : k ∈ D) : know D k = D := if_pos h
theorem know_len (D : List ByteArray) (k : ByteArray) : (know D k).length ≤ D.length + 1 := by
 unfold know
 split
 ·omega
 ·rw [List.length_cons]; omega
theorem know_le (D : List ByteArray) (k : ByteArray) : D.length ≤ (know D k).length := by
 unfold know
 split
 ·omega
 ·rw [List.length_cons]; omega
theorem know_nd {D : List ByteArray} (h : D.Nodup) (k : ByteArray) : (know D k).Nodup := by
 unfold know
 split
 ·exact h
 ·rename_i hk
  exact List.nodup_cons.2 ⟨hk, h⟩
noncomputable def Mp.news {α : Type} : Mp α → MachD → List ByteArray → List ByteArray
 | ret _, _, D => D
 | look k f, m, D => Mp.news (f (getC k m.cells)) (m.look k) (know D k)
 | lay k v n, m, D => Mp.news n (m.lay k v) (know D k)
 | under p f, m, D => Mp.news (f (keysUnder p m.cells)) (m.under p) (know D (p ++ star))
theorem Mp.news_bind {α β : Type} (x : Mp α) (f : α → Mp β) (m : MachD) (D : List ByteArray) : (x >>= f).news m D = (f (x.run m).1).news (x.run m).2 (x.news m D) := by
 show (Mp.bind x f).news m D = _
 induction x generalizing m D with
 | ret a => rfl
 | look k g ih => exact ih _ _ _
 | lay k v n ih => exact ih _ _
 | under p g ih => exact ih _ _ _
theorem Mp.news_le {α : Type} (x : Mp α) (m : MachD) (D : List ByteArray) : D.length ≤ (x.news m D).length := by
 induction x generalizing m D with
 | ret a => exact Nat.le_refl _
 | look k g ih => exact Nat.le_trans (know_le D k) (ih _ _ _)
 | lay k v n ih => exact Nat.le_trans (know_le D k) (ih _ _)
 | under p g ih => exact Nat.le_trans (know_le D _) (ih _ _ _)
theorem Mp.news_sub {α : Type} (x : Mp α) (m : MachD) (D : List ByteArray) : ∀ k ∈ D, k ∈ x.news m D := by
 induction x generalizing m D with
 | ret a => exact fun _ h => h
 | look k g ih => exact fun y h => ih _ _ _ y (mem_know.2 (.inl h))
 | lay k v n ih => exact fun y h => ih _ _ y (mem_know.2 (.inl h))
 | under p g ih => exact fun y h => ih _ _ _ y (mem_know.2 (.inl h))
def KeyB (k : ByteArray) : Prop := k.size ≠ 0 ∧ k.size ≤ 1048700
structure Inv (L : Nat) (D : List ByteArray) (m : MachD) : Prop where
 nd : D.Nodup
 cn : ∀ c ∈ m.cells, c.key.size ≠ 0 → c.key ∈ D
 rn : ∀ k ∈ m.rd, k ∈ D
 wn : ∀ k ∈ m.wr, k ∈ D
 rk : ∀ k ∈ m.rd, KeyB k
 wk : ∀ k ∈ m.wr, KeyB k
 rs : m.rd.Pairwise ltP
 ws : m.wr.Pairwise ltP
 cz : ∀ c ∈ m.cells, c.key.size ≤ 1048576 ∧ c.val.size ≤ 1048576
 cl : ∃ E : List ByteArray, E.Nodup ∧ (∀ k ∈ E, k ∈ D) ∧ (m.cells.filter fun c => decide (c.key ∉ E)).length ≤ L ∧ ((m.cells.filter fun c => decide (c.key ∈ E)).map (·.key)).Nodup
theorem sub_len : ∀ {A D : List ByteArray}, A.Nodup → (∀ k ∈ A, k ∈ D) → A.length ≤ D.length
 | [], _, _, _ => Nat.zero_le _
 | a :: A, D, ha, h => by
  obtain ⟨s, t, rfl⟩ := List.append_of_mem (h a List.mem_cons_self)
  have hn := List.nodup_cons.1 ha
  have ih := sub_len (D := s ++ t) hn.2 fun k hk => by
   have := h k (List.mem_cons_of_mem _ hk)
   simp only [List.mem_append, List.mem_cons] at this ⊢
   rcases this with h1 | h1 | h1
   ·exact .inl h1
   ·subst h1; exact absurd hk hn.1
   ·exact .inr h1
  simp only [List.length_append, List.length_cons] at ih ⊢
  omega
theorem nd_of_rise {l : List ByteArray} (h : l.Pairwise ltP) : l.Nodup := h.imp fun {a b} hab e => by subst e; exact ltP_irr _ hab
theorem split_len {α : Type} (p : α → Bool) (l : List α) : l.length = (l.filter fun x => !p x).length + (l.filter p).length := by
 induction l with
 | nil => rfl
 | cons a l ih =>
  cases h : p a <;> simp [h] at ih ⊢ <;> omega
theorem Inv.clen {L : Nat} {D : List ByteArray} {m : MachD} (h : Inv L D m) : m.cells.length ≤ L + D.length := by
 obtain ⟨E, hE, hED, h1, h2⟩ := h.cl
 have l2 : ((m.cells.filter fun c => decide (c.key ∈ E)).map (·.key)).length ≤ E.length := sub_len h2 fun k hk => by
  obtain ⟨c, hc, rfl⟩ := List.mem_map.1 hk
  have := (List.mem_filter.1 hc).2
  simpa using this
 have l3 := sub_len hE hED
 have l4 := split_len (fun c : CellD => decide (c.key ∈ E)) m.cells
 have e : (m.cells.filter fun c => !decide (c.key ∈ E)) = m.cells.filter fun c => decide (c.key ∉ E) := by
  congr 1
  funext c
  simp
 rw [e] at l4
 rw [List.length_map] at l2
 omega
theorem Inv.small {L : Nat} {D : List ByteArray} {m : MachD} (h : Inv L D m) (hb : L + D.length ≤ 549755813888) : Small m := by
 have l0 := h.clen
 have r1 := sub_len (nd_of_rise h.rs) h.rn
 have w1 := sub_len (nd_of_rise h.ws) h.wn
 refine ⟨by omega, by omega, by omega, h.cz, fun k hk => ?_, fun k hk => ?_, fun k hk => (h.rk k hk).1, fun k hk => (h.wk k hk).1⟩
 ·have := (h.rk k hk).2; omega
 ·have := (h.wk k hk).2; omega
theorem Inv.more {L : Nat} {D : List ByteArray} {m : MachD} (h : Inv L D m) (k : ByteArray) : Inv L (know D k) m := by
 obtain ⟨E, hE, hED, h1, h2⟩ := h.cl
 exact ⟨know_nd h.nd k, fun c hc hn => mem_know.2 (.inl (h.cn c hc hn)), fun x hx => mem_know.2 (.inl (h.rn x hx)), fun x hx => mem_know.2 (.inl (h.wn x hx)), h.rk, h.wk, h.rs, h.ws, h.cz, E, hE, fun x hx => mem_know.2 (.inl (hED x hx)), h1, h2⟩
theorem Inv.read {L : Nat} {D : List ByteArray} {m : MachD} (h : Inv L D m) {k : ByteArray} (hk : KeyB k) : Inv L (know D k) { m with rd := putS m.rd k } := by
 have h' := h.more k
 refine ⟨h'.nd, h'.cn, fun x hx => ?_, h'.wn, fun x hx => ?_, h'.wk, putS_rise _ _ h.rs, h.ws, h.cz, h'.cl⟩
 ·rcases (mem_putS _ _ _).1 hx with hx | rfl
  ·exact h'.rn x hx
  ·exact mem_know.2 (.inr rfl)
 ·rcases (mem_putS _ _ _).1 hx with hx | rfl
  ·exact h.rk x hx
  ·exact hk
theorem isKey_key (k : ByteArray) (c : CellD) : isKey k c = true ↔ c.key = k := by
 unfold isKey
 rw [ByteArray.toList_eq, ByteArray.toList_eq, beq_iff_eq]
 constructor
 ·intro h
  exact ByteArray.ext (Array.toList_inj.1 h)
 ·rintro h; rw [h]
theorem insC_has {k v : ByteArray} {s : List CellD} {c : CellD} : c ∈ insC k v s ↔ c ∈ s ∨ c = ⟨k, v⟩ := by
 unfold insC
 have e := List.takeWhile_append_dropWhile (p := fun c => !gtKey k c) (l := s)
 constructor
 ·intro h
  rcases List.mem_append.1 h with h | h
  ·exact .inl ((List.takeWhile_sublist _).mem h)
  ·rcases List.mem_cons.1 h with h | h
   ·exact .inr h
   ·exact .inl ((List.dropWhile_sublist _).mem h)
 ·rintro (h | rfl)
  ·rw [← e] at h
   rcases List.mem_append.1 h with h | h
   ·exact List.mem_append.2 (.inl h)
   ·exact List.mem_append.2 (.inr (List.mem_cons_of_mem _ h))
  ·exact List.mem_append.2 (.inr List.mem_cons_self)
theorem insC_perm (k v : ByteArray) (s : List CellD) : (insC k v s).Perm (⟨k, v⟩ :: s) := by
 unfold insC
 have e := List.takeWhile_append_dropWhile (p := fun c => !gtKey k c) (l := s)
 conv => rhs; rw [← e]
 exact List.perm_middle
theorem Inv.write {L : Nat} {D : List ByteArray} {m : MachD} (h : Inv L D m) {k : ByteArray} (hk : KeyB k) (v : ByteArray) : Inv L (know D k) (m.lay k v) := by
 have h' := h.more k
 have hw : ∀ x ∈ putS m.wr k, x ∈ know D k := fun x hx => by
  rcases (mem_putS _ _ _).1 hx with hx | rfl
  ·exact h'.wn x hx
  ·exact mem_know.2 (.inr rfl)
 have hwk : ∀ x ∈ putS m.wr k, KeyB x := fun x hx => by
  rcases (mem_putS _ _ _).1 hx with hx | rfl
  ·exact h.wk x hx
  ·exact hk
 by_cases hr : keyOk k = false ∨ 60 < v.size
 ·have e : putC k v m.cells = m.cells := if_pos hr
  exact ⟨h'.nd, by show ∀ c ∈ putC k v m.cells, _; rw [e]; exact h'.cn, h'.rn, hw, h.rk, hwk, h.rs, putS_rise _ _ h.ws, by show ∀ c ∈ putC k v m.cells, _; rw [e]; exact h.cz, by show ∃ E : List ByteArray, E.Nodup ∧ (∀ x ∈ E, x ∈ know D k) ∧ ((putC k v m.cells).filter fun c => decide (c.key ∉ E)).length ≤ L ∧ (((putC k v m.cells).filter fun c => decide (c.key ∈ E)).map (·.key)).Nodup; rw [e]; exact h'.cl⟩
 have hsub : ∀ c ∈ putC k v m.cells, c ∈ m.cells ∨ c = ⟨k, v⟩ := fun c hc => by
  unfold putC at hc
  rw [if_neg hr] at hc
  split at hc
  ·exact .inl (List.mem_filter.1 hc).1
  ·rcases insC_has.1 hc with hc | hc
   ·exact .inl (List.mem_filter.1 hc).1
   ·exact .inr hc
 have hkz : k.size ≤ 40 := by
  rcases Classical.em (keyOk k = true) with ho | ho
  ·unfold keyOk inB at ho
   simp at ho
   omega
  ·exact absurd (by simpa using ho) (fun hh => hr (.inl hh))
 refine ⟨h'.nd, fun c hc hn => ?_, h'.rn, hw, h.rk, hwk, h.rs, putS_rise _ _ h.ws, fun c hc => ?_, ?_⟩
 ·rcases hsub c hc with hc | rfl
  ·exact h'.cn c hc hn
  ·exact mem_know.2 (.inr rfl)
 ·rcases hsub c hc with hc | rfl
  ·exact h.cz c hc
  ·exact ⟨by show k.size ≤ _; omega, by show v.size ≤ _; omega⟩
 ·obtain ⟨E, hE, hED, h1, h2⟩ := h.cl
  have hEk : ∀ x ∈ know E k, x ∈ know D k := fun x hx => by
   rcases mem_know.1 hx with hx | rfl
   ·exact mem_know.2 (.inl (hED x hx))
   ·exact mem_know.2 (.inr rfl)
  have out_sub : (((without k m.cells).filter fun c => decide (c.key ∉ know E k))).length ≤ L := by
   refine Nat.le_trans ?_ h1
   rw [← List.countP_eq_length_filter, ← List.countP_eq_length_filter]
   refine Nat.le_trans (List.Sublist.countP_le (List.filter_sublist (p := fun c => !isKey k c) (l := m.cells))) ?_
   refine List.countP_mono_left fun c _ hc => ?_
   simp only [decide_eq_true_eq] at hc ⊢
   exact fun hh => hc (mem_know.2 (.inl hh))
  have in_eq : (without k m.cells).filter (fun c => decide (c.key ∈ know E k)) = (without k m.cells).filter (fun c => decide (c.key ∈ E)) := by
   refine List.filter_congr fun c hc => ?_
   have hne : c.key ≠ k := fun e => by
    have := (List.mem_filter.1 hc).2
    rw [(isKey_key k c).2 e] at this
    cases this
   rw [decide_eq_decide, mem_know]
   exact ⟨fun hh => hh.resolve_right hne, .inl⟩
  have in_nd : (((without k m.cells).filter (fun c => decide (c.key ∈ know E k))).map (·.key)).Nodup := by
   rw [in_eq]
   refine List.Nodup.sublist (List.Sublist.map _ ?_) h2
   exact List.Sublist.filter _ List.filter_sublist
  refine ⟨know E k, know_nd hE k, hEk, ?_, ?_⟩
  ·show ((putC k v m.cells).filter fun c => decide (c.key ∉ know E k)).length ≤ L
   unfold putC
   rw [if_neg hr]
   split
   ·exact out_sub
   ·have hp := (insC_perm k v (without k m.cells)).filter (fun c => decide (c.key ∉ know E k))
    rw [hp.length_eq, List.filter_cons, if_neg (by simp [mem_know])]
    exact out_sub
  ·show (((putC k v m.cells).filter fun c => decide (c.key ∈ know E k)).map (·.key)).Nodup
   unfold putC
   rw [if_neg hr]
   split
   ·exact in_nd
   ·have hp := ((insC_perm k v (without k m.cells)).filter (fun c => decide (c.key ∈ know E k))).map (·.key)
    rw [List.Perm.nodup_iff hp, List.filter_cons, if_pos (by simp [mem_know]), List.map_cons, List.nodup_cons]
    refine ⟨fun hh => ?_, in_nd⟩
    obtain ⟨c, hc, e⟩ := List.mem_map.1 hh
    have := (List.mem_filter.1 (List.mem_filter.1 hc).1).2
    rw [(isKey_key k c).2 e] at this
    cases this
def Mp.KeysB {α : Type} : Mp α → MachD → Prop
 | ret _, _ => True
 | look k f, m => KeyB k ∧ Mp.KeysB (f (getC k m.cells)) (m.look k)
 | lay k v n, m => KeyB k ∧ Mp.KeysB n (m.lay k v)
 | under p f, m => KeyB (p ++ star) ∧ Mp.KeysB (f (keysUnder p m.cells)) (m.under p)
theorem Mp.keysB_bind {α β : Type} (x : Mp α) (f : α → Mp β) (m : MachD) : (x >>= f).KeysB m ↔ x.KeysB m ∧ (f (x.run m).1).KeysB (x.run m).2 := by
 show (Mp.bind x f).KeysB m ↔ _
 induction x generalizing m with
 | ret a => exact ⟨fun h => ⟨trivial, h⟩, fun h => h.2⟩
 | look k g ih => exact ⟨fun h => ⟨⟨h.1, ((ih _ _).1 h.2).1⟩, ((ih _ _).1 h.2).2⟩, fun h => ⟨h.1.1, (ih _ _).2 ⟨h.1.2, h.2⟩⟩⟩
 | lay k v n ih => exact ⟨fun h => ⟨⟨h.1, ((ih _).1 h.2).1⟩, ((ih _).1 h.2).2⟩, fun h => ⟨h.1.1, (ih _).2 ⟨h.1.2, h.2⟩⟩⟩
 | under p g ih => exact ⟨fun h => ⟨⟨h.1, ((ih _ _).1 h.2).1⟩, ((ih _ _).1 h.2).2⟩, fun h => ⟨h.1.1, (ih _ _).2 ⟨h.1.2, h.2⟩⟩⟩
theorem Mp.inv_run {α : Type} (x : Mp α) (L : Nat) (m : MachD) (D : List ByteArray) (h : Inv L D m) (hk : x.KeysB m) : Inv L (x.news m D) (x.run m).2 := by
 induction x generalizing m D with
 | ret a => exact h
 | look k g ih => exact ih _ _ _ (h.read hk.1) hk.2
 | lay k v n ih => exact ih _ _ (h.write hk.1 v) hk.2
 | under p g ih => exact ih _ _ _ (h.read hk.1) hk.2
theorem Mp.inv_fits {α : Type} (x : Mp α) (L : Nat) (m : MachD) (D : List ByteArray) (h : Inv L D m) (hk : x.KeysB m) (hb : L + (x.news m D).length ≤ 549755813888) : x.fits m := by
 induction x generalizing m D with
 | ret a => exact h.small hb
 | look k g ih =>
  have h1 := Mp.news_le (g (getC k m.cells)) (m.look k) (know D k)
  have h2 := know_le D k
  have h3 : L + ((g (getC k m.cells)).news (m.look k) (know D k)).length ≤ 549755813888 := hb
  exact ⟨h.small (by omega), by have := hk.1.2; omega, ih _ _ _ (h.read hk.1) hk.2 hb⟩
 | lay k v n ih =>
  have h1 := Mp.news_le n (m.lay k v) (know D k)
  have h2 := know_le D k
  have h3 : L + (n.news (m.lay k v) (know D k)).length ≤ 549755813888 := hb
  exact ⟨h.small (by omega), by have := hk.1.2; omega, ih _ _ (h.write hk.1 v) hk.2 hb⟩
 | under p g ih =>
  have h1 := Mp.news_le (g (keysUnder p m.cells)) (m.under p) (know D (p ++ star))
  have h2 := know_le D (p ++ star)
  have h3 : L + ((g (keysUnder p m.cells)).news (m.under p) (know D (p ++ star))).length ≤ 549755813888 := hb
  exact ⟨h.small (by omega), by have := hk.1.2; rw [ByteArray.size_append] at this; omega, ih _ _ _ (h.read hk.1) hk.2 hb⟩
open Mp
open Classical
def fst1 (k : ByteArray) : Option UInt8 := k.data.toList.head?
theorem ne_proc {k : ByteArray} {b : UInt8} (h : fst1 k = some b) (hb : b ≠ 99) : k ≠ K.cProc := by
 rintro rfl
 exact hb (Option.some.inj h).symm
theorem fst1_app {x y : ByteArray} {b : UInt8} (h : fst1 x = some b) : fst1 (x ++ y) = some b := by
 unfold fst1 at *
 rw [ByteArray.data_append, Array.toList_append, List.head?_append, h]
 rfl
theorem fst1_pos {k : ByteArray} {b : UInt8} (h : fst1 k = some b) : k.size ≠ 0 := by
 intro e
 have : k.data = #[] := Array.eq_empty_of_size_eq_zero e
 unfold fst1 at h
 rw [this] at h
 cases h
theorem keyNum_fst {h t : ByteArray} {n : Int} {b : UInt8} (hb : fst1 h = some b) : fst1 (keyNum h n t) = some b := fst1_app (fst1_app hb)
theorem keyNum_sizeB (h t : ByteArray) (n : Int) (hn : -9223372036854775808 ≤ n ∧ n ≤ 9223372036854775807) : (keyNum h n t).size ≤ h.size + 21 + t.size := by
 unfold keyNum
 rw [ByteArray.size_append, ByteArray.size_append, strOf_size]
 have := Lib.itoa_length_le n hn.1 hn.2
 omega
theorem begins_fst {p k : ByteArray} {b : UInt8} (hb : fst1 p = some b) (h : begins k p = true) : fst1 k = some b := by
 unfold begins at h
 rw [Bool.and_eq_true, decide_eq_true_eq, ByteArray.toList_eq, ByteArray.toList_eq, beq_iff_eq, ByteArray.data_extract, Array.toList_extract] at h
 unfold fst1 at *
 rw [← h.2] at hb
 change ((k.data.toList.drop 0).take (p.size - 0)).head? = some b at hb
 rw [List.drop_zero, List.head?_take] at hb
 split at hb
 ·cases hb
 ·exact hb
def KeyW (k : ByteArray) : Prop := KeyB k ∧ k ≠ K.cProc
theorem KeyW.of {k : ByteArray} {b : UInt8} (h : fst1 k = some b) (hb : b ≠ 99) (hz : k.size ≤ 1048700) : KeyW k := ⟨⟨fst1_pos h, hz⟩, ne_proc h hb⟩
theorem keyW_num {h t : ByteArray} {n : Int} {b : UInt8} (hb : fst1 h = some b) (hc : b ≠ 99) (hn : -9223372036854775808 ≤ n ∧ n ≤ 9223372036854775807) (hz : h.size + t.size ≤ 1000) : KeyW (keyNum h n t) := KeyW.of (keyNum_fst hb) hc (by have := keyNum_sizeB h t n hn; omega)
theorem keyW_num2 {h t t2 : ByteArray} {n k : Int} {b : UInt8} (hb : fst1 h = some b) (hc : b ≠ 99) (hn : -9223372036854775808 ≤ n ∧ n ≤ 9223372036854775807) (hk : -9223372036854775808 ≤ k ∧ k ≤ 9223372036854775807) (hz : h.size + t.size + t2.size ≤ 1000) : KeyW (keyNum (keyNum h n t) k t2) := KeyW.of (keyNum_fst (keyNum_fst hb)) hc (by have := keyNum_sizeB h t n hn; have := keyNum_sizeB (keyNum h n t) t2 k hk; omega)
def Mp.KeysW {α : Type} : Mp α → MachD → Prop
 | ret _, _ => True
 | look k f, m => KeyB k ∧ Mp.KeysW (f (getC k m.cells)) (m.look k)
 | lay k v n, m => KeyW k ∧ Mp.KeysW n (m.lay k v)
 | under p f, m => KeyB (p ++ star) ∧ Mp.KeysW (f (keysUnder p m.cells)) (m.under p)
theorem Mp.KeysW.b {α : Type} {x : Mp α} {m : MachD} (h : x.KeysW m) : x.KeysB m := by
 induction x generalizing m with
 | ret a => trivial
 | look k g ih => exact ⟨h.1, ih _ h.2⟩
 | lay k v n ih => exact ⟨h.1.1, ih h.2⟩
 | under p g ih => exact ⟨h.1, ih _ h.2⟩
theorem Mp.keysW_bind {α β : Type} (x : Mp α) (f : α → Mp β) (m : MachD) : (x >>= f).KeysW m ↔ x.KeysW m ∧ (f (x.run m).1).KeysW (x.run m).2 := by
 show (Mp.bind x f).KeysW m ↔ _
 induction x generalizing m with
 | ret a => exact ⟨fun h => ⟨trivial, h⟩, fun h => h.2⟩
 | look k g ih => exact ⟨fun h => ⟨⟨h.1, ((ih _ _).1 h.2).1⟩, ((ih _ _).1 h.2).2⟩, fun h => ⟨h.1.1, (ih _ _).2 ⟨h.1.2, h.2⟩⟩⟩
 | lay k v n ih => exact ⟨fun h => ⟨⟨h.1, ((ih _).1 h.2).1⟩, ((ih _).1 h.2).2⟩, fun h => ⟨h.1.1, (ih _).2 ⟨h.1.2, h.2⟩⟩⟩
 | under p g ih => exact ⟨fun h => ⟨⟨h.1, ((ih _ _).1 h.2).1⟩, ((ih _ _).1 h.2).2⟩, fun h => ⟨h.1.1, (ih _ _).2 ⟨h.1.2, h.2⟩⟩⟩
def At {α : Type} (L : Nat) (p : Mp α) (m : MachD) (D : List ByteArray) (c : Nat) (S : α → MachD → List ByteArray → Prop) : Prop :=
 Inv L D m → p.KeysW m ∧ (p.news m D).length ≤ D.length + c ∧ S (p.run m).1 (p.run m).2 (p.news m D)
section
variable {α β : Type} {L : Nat} {m : MachD} {D : List ByteArray}
theorem At.bind {x : Mp α} {f : α → Mp β} {c d : Nat} {S : α → MachD → List ByteArray → Prop} {T : β → MachD → List ByteArray → Prop} (h : At L x m D c S)
  (k : ∀ a m' D', S a m' D' → Inv L D' m' → (∀ y ∈ D, y ∈ D') → At L (f a) m' D' d T) : At L (x >>= f) m D (c + d) T := by
 intro I
 obtain ⟨h1, h2, h3⟩ := h I
 have I2 := Mp.inv_run x L m D I h1.b
 obtain ⟨k1, k2, k3⟩ := k _ _ _ h3 I2 (Mp.news_sub x m D) I2
 refine ⟨(Mp.keysW_bind x f m).2 ⟨h1, k1⟩, ?_, ?_⟩
 ·rw [Mp.news_bind]; omega
 ·rw [Mp.news_bind, Mp.run_bind]; exact k3
theorem At.le {x : Mp α} {c d : Nat} {S : α → MachD → List ByteArray → Prop} (h : At L x m D c S) (hc : c ≤ d) : At L x m D d S := fun I => by
 obtain ⟨h1, h2, h3⟩ := h I
 exact ⟨h1, by omega, h3⟩
theorem At.mono {x : Mp α} {c : Nat} {S T : α → MachD → List ByteArray → Prop} (h : At L x m D c S) (hS : ∀ a m' D', Inv L D' m' → S a m' D' → T a m' D') : At L x m D c T := fun I => by
 obtain ⟨h1, h2, h3⟩ := h I
 exact ⟨h1, h2, hS _ _ _ (Mp.inv_run x L m D I h1.b) h3⟩
theorem At.ret {a : α} {S : α → MachD → List ByteArray → Prop} (h : S a m D) : At L (pure a : Mp α) m D 0 S := fun _ => ⟨trivial, Nat.le_refl _, h⟩
theorem At.ite {p : Prop} [Decidable p] {x y : Mp α} {c : Nat} {S : α → MachD → List ByteArray → Prop} (h1 : p → At L x m D c S) (h2 : ¬ p → At L y m D c S) : At L (if p then x else y) m D c S := by
 by_cases h : p
 ·rw [if_pos h]; exact h1 h
 ·rw [if_neg h]; exact h2 h
theorem at_look {k : ByteArray} (hk : KeyB k) : At L (K.look k) m D 1 (fun _ _ _ => True) := fun I => ⟨⟨hk, trivial⟩, know_len D k, trivial⟩
theorem at_look0 {k : ByteArray} (hk : KeyB k) (h : k ∈ D) : At L (K.look k) m D 0 (fun _ m' D' => D' = D ∧ m'.cells = m.cells) := fun I => ⟨⟨hk, trivial⟩, by show (know D k).length ≤ _; rw [know_old h]; omega, know_old h, rfl⟩
theorem at_lay {k v : ByteArray} (hk : KeyW k) : At L (K.lay k v) m D 1 (fun _ _ _ => True) := fun I => ⟨⟨hk, trivial⟩, know_len D k, trivial⟩
theorem at_lay0 {k v : ByteArray} (hk : KeyW k) (h : k ∈ D) : At L (K.lay k v) m D 0 (fun _ _ D' => D' = D) := fun I => ⟨⟨hk, trivial⟩, by show (know D k).length ≤ _; rw [know_old h]; omega, know_old h⟩
theorem at_under {p : ByteArray} {b : UInt8} (hb : fst1 p = some b) (hz : p.size ≤ 1000) : At L (K.under p) m D 1 (fun ks m' D' => ks.length ≤ L + D.length ∧ ∀ k ∈ ks, k ∈ D' ∧ k.size ≤ 1048576 ∧ fst1 k = some b) := by
 intro I
 refine ⟨⟨⟨fst1_pos (fst1_app hb), by rw [ByteArray.size_append]; have : star.size = 1 := rfl; omega⟩, trivial⟩, know_len D _, ?_, ?_⟩
 ·show (keysUnder p m.cells).length ≤ _
  unfold keysUnder
  rw [List.length_map]
  exact Nat.le_trans (List.length_filter_le _ _) (I.clen)
 ·intro k hk
  obtain ⟨c, hc, rfl⟩ := List.mem_map.1 (show k ∈ keysUnder p m.cells from hk)
  have h1 := List.mem_filter.1 hc
  have hf : fst1 c.key = some b := begins_fst hb h1.2
  exact ⟨mem_know.2 (.inl (I.cn c h1.1 (fst1_pos hf))), (I.cz c h1.1).1, hf⟩
theorem at_each0 {f : α → Mp Unit} : ∀ (l : List α) (m : MachD), (∀ x ∈ l, ∀ m, At L (f x) m D 0 (fun _ _ D' => D' = D)) → At L (Mp.each f l) m D 0 (fun _ _ D' => D' = D)
 | [], m, _ => At.ret rfl
 | x :: xs, m, h => by
  show At L (f x >>= fun _ => Mp.each f xs) m D 0 _
  refine At.bind (d := 0) (h x List.mem_cons_self m) fun a m' D' hD _ _ => ?_
  rw [hD]
  exact at_each0 xs m' (fun y hy => h y (List.mem_cons_of_mem _ hy))
theorem at_each1 {f : α → Mp Unit} {P : α → List ByteArray → Prop} (hP : ∀ x D D', P x D → (∀ y ∈ D, y ∈ D') → P x D') (hf : ∀ x m D, P x D → At L (f x) m D 1 (fun _ _ _ => True)) : ∀ (l : List α) (m : MachD) (D : List ByteArray), (∀ x ∈ l, P x D) → At L (Mp.each f l) m D l.length (fun _ _ _ => True)
 | [], m, D, _ => At.ret trivial
 | x :: xs, m, D, h => by
  show At L (f x >>= fun _ => Mp.each f xs) m D (xs.length + 1) _
  rw [Nat.add_comm]
  exact At.bind (hf x m D (h x List.mem_cons_self)) fun a m' D' _ _ hs => at_each1 hP hf xs m' D' (fun y hy => hP y D D' (h y (List.mem_cons_of_mem _ hy)) hs)
theorem at_fold0 {f : β → α → Mp β} {T : β → Prop} : ∀ (l : List α) (b : β) (m : MachD), T b → (∀ x ∈ l, ∀ b m, T b → At L (f b x) m D 0 (fun b _ D' => D' = D ∧ T b)) → At L (Mp.fold f b l) m D 0 (fun b _ D' => D' = D ∧ T b)
 | [], b, m, hT, _ => At.ret ⟨rfl, hT⟩
 | x :: xs, b, m, hT, h => by
  show At L (f b x >>= fun b => Mp.fold f b xs) m D 0 _
  refine At.bind (d := 0) (h x List.mem_cons_self b m hT) fun a m' D' hD _ _ => ?_
  rw [hD.1]
  exact at_fold0 xs a m' hD.2 (fun y hy => h y (List.mem_cons_of_mem _ hy))
end
open Mp
open Classical
def IntR (n : Int) : Prop := -9223372036854775808 ≤ n ∧ n ≤ 9223372036854775807
def gkOf (a : Nat) : List ByteArray := [K.sizeKey a, K.procKey a K.tS, K.signalKey a K.tT, K.signalKey a K.tH] ++ ((List.range 131).map (fun p : Nat => K.blockKey a p) ++ (List.range 1001).map (fun q : Nat => keyNum (K.signalKey a K.tQ) q ⟨#[]⟩))
def gk : List ByteArray := (List.range 1001).flatMap gkOf
theorem flat_len {α β : Type} (f : α → List β) (c : Nat) (h : ∀ a, (f a).length = c) : ∀ l : List α, (l.flatMap f).length = l.length * c
 | [] => by simp
 | a :: l => by rw [List.flatMap_cons, List.length_append, h, flat_len f c h l, List.length_cons, Nat.succ_mul]; omega
theorem gk_len : gk.length = 1001 * 1136 := by
 unfold gk
 rw [flat_len gkOf 1136 (fun a => by simp [gkOf]), List.length_range]
theorem mem_gk {a : Int} (h0 : 0 ≤ a) (h1 : a ≤ 1000) {k : ByteArray} (h : k ∈ gkOf a.toNat) : k ∈ gk := List.mem_flatMap.2 ⟨a.toNat, List.mem_range.2 (by omega), h⟩
theorem gk_size {a : Int} (h0 : 0 ≤ a) (h1 : a ≤ 999) : K.sizeKey a ∈ gk := mem_gk h0 (by omega) (by
 have e : ((a.toNat : Nat) : Int) = a := Int.toNat_of_nonneg h0
 unfold gkOf; rw [e]; simp)
theorem gk_state {a : Int} (h0 : 0 ≤ a) (h1 : a ≤ 999) : K.procKey a K.tS ∈ gk := mem_gk h0 (by omega) (by
 have e : ((a.toNat : Nat) : Int) = a := Int.toNat_of_nonneg h0
 unfold gkOf; rw [e]; simp)
theorem gk_sigT {a : Int} (h0 : 0 ≤ a) (h1 : a ≤ 999) : K.signalKey a K.tT ∈ gk := mem_gk h0 (by omega) (by
 have e : ((a.toNat : Nat) : Int) = a := Int.toNat_of_nonneg h0
 unfold gkOf; rw [e]; simp)
theorem gk_sigH {a : Int} (h0 : 0 ≤ a) (h1 : a ≤ 999) : K.signalKey a K.tH ∈ gk := mem_gk h0 (by omega) (by
 have e : ((a.toNat : Nat) : Int) = a := Int.toNat_of_nonneg h0
 unfold gkOf; rw [e]; simp)
theorem gk_block {a p : Int} (h0 : 0 ≤ a) (h1 : a ≤ 999) (p0 : 0 ≤ p) (p1 : p ≤ 130) : K.blockKey a p ∈ gk := mem_gk h0 (by omega) (by
 have e : ((a.toNat : Nat) : Int) = a := Int.toNat_of_nonneg h0
 have e2 : ((p.toNat : Nat) : Int) = p := Int.toNat_of_nonneg p0
 unfold gkOf
 rw [e]
 refine List.mem_append.2 (.inr (List.mem_append.2 (.inl (List.mem_map.2 ⟨p.toNat, List.mem_range.2 (by omega), by rw [e2]⟩))))
 )
theorem gk_sigQ {a p : Int} (h0 : 0 ≤ a) (h1 : a ≤ 999) (p0 : 0 ≤ p) (p1 : p ≤ 1000) : keyNum (K.signalKey a K.tQ) p ⟨#[]⟩ ∈ gk := mem_gk h0 (by omega) (by
 have e : ((a.toNat : Nat) : Int) = a := Int.toNat_of_nonneg h0
 have e2 : ((p.toNat : Nat) : Int) = p := Int.toNat_of_nonneg p0
 unfold gkOf
 rw [e]
 refine List.mem_append.2 (.inr (List.mem_append.2 (.inr (List.mem_map.2 ⟨p.toNat, List.mem_range.2 (by omega), by rw [e2]⟩))))
 )
section
variable {L : Nat} {m : MachD} {D : List ByteArray}
theorem numOf_in (v : ByteArray) : 0 ≤ numOf v ∧ numOf v ≤ 999 := by
 unfold numOf
 split
 ·rename_i h; omega
 ·omega
theorem at_num {k : ByteArray} (hk : KeyB k) : At L (K.num k) m D 1 (fun a _ _ => 0 ≤ a ∧ a ≤ 999) :=
 At.bind (d := 0) (at_look hk) fun a m' D' _ _ _ => At.ret (numOf_in a)
theorem at_num0 {k : ByteArray} (hk : KeyB k) (h : k ∈ D) : At L (K.num k) m D 0 (fun a _ D' => D' = D ∧ 0 ≤ a ∧ a ≤ 999) :=
 At.bind (d := 0) (at_look0 hk h) fun a m' D' hD _ _ => At.ret ⟨hD.1, numOf_in a⟩
theorem at_setNum {k : ByteArray} {n : Int} (hk : KeyW k) : At L (K.setNum k n) m D 1 (fun _ _ _ => True) := at_lay hk
theorem at_setNum0 {k : ByteArray} {n : Int} (hk : KeyW k) (h : k ∈ D) : At L (K.setNum k n) m D 0 (fun _ _ D' => D' = D) := at_lay0 hk h
theorem at_bump {k : ByteArray} (hk : KeyW k) : At L (K.bump k) m D 2 (fun a _ _ => 0 ≤ a ∧ a ≤ 999) := by
 unfold K.bump
 refine At.bind (d := 1) (at_num hk.1) fun n m' D' hn _ _ => At.ite (fun h => ?_) fun h => ?_
 ·exact (At.ret (by omega)).le (by omega)
 ·exact At.bind (d := 0) (at_setNum hk) fun _ _ _ _ _ _ => At.ret (by omega)
theorem keyW_name {name : ByteArray} (h : K.nameOk name = true) : KeyW (K.nN ++ name) := by
 have hz : name.size ≤ 12 := by
  unfold K.nameOk inB at h
  simp at h
  omega
 refine KeyW.of (b := 110) (fst1_app rfl) (by decide) ?_
 rw [ByteArray.size_append]
 have : K.nN.size = 2 := rfl
 omega
theorem keyW_file : KeyW K.cFile := ⟨⟨by decide, by decide⟩, by decide⟩
theorem keyW_pipe : KeyW K.cPipe := ⟨⟨by decide, by decide⟩, by decide⟩
theorem keyW_clock : KeyW K.cClock := ⟨⟨by decide, by decide⟩, by decide⟩
theorem keyW_dN : KeyW K.dN := ⟨⟨by decide, by decide⟩, by decide⟩
theorem keyW_links {id : Int} (h : IntR id) : KeyW (keyNum K.nI id K.tL) := keyW_num (b := 105) rfl (by decide) h (by decide)
theorem keyW_size {id : Int} (h : IntR id) : KeyW (K.sizeKey id) := keyW_num (b := 105) rfl (by decide) h (by decide)
theorem keyW_block {id p : Int} (h : IntR id) (hp : IntR p) : KeyW (K.blockKey id p) := keyW_num2 (b := 105) rfl (by decide) h hp (by decide)
theorem keyW_pipeK {id : Int} {t : ByteArray} (h : IntR id) (ht : t.size ≤ 10) : KeyW (K.pipeKey id t) := keyW_num (b := 112) rfl (by decide) h (by have : K.nP.size = 2 := rfl; omega)
theorem keyW_pipeQ {id p : Int} (h : IntR id) (hp : IntR p) : KeyW (keyNum (K.pipeKey id K.tQ) p ⟨#[]⟩) := keyW_num2 (b := 112) rfl (by decide) h hp (by decide)
theorem keyW_procK {id : Int} {t : ByteArray} (h : IntR id) (ht : t.size ≤ 10) : KeyW (K.procKey id t) := keyW_num (b := 114) rfl (by decide) h (by have : K.nR.size = 2 := rfl; omega)
theorem keyW_sigK {id : Int} {t : ByteArray} (h : IntR id) (ht : t.size ≤ 10) : KeyW (K.signalKey id t) := keyW_num (b := 103) rfl (by decide) h (by have : K.nG.size = 2 := rfl; omega)
theorem keyW_sigQ {id p : Int} (h : IntR id) (hp : IntR p) : KeyW (keyNum (K.signalKey id K.tQ) p ⟨#[]⟩) := keyW_num2 (b := 103) rfl (by decide) h hp (by decide)
theorem keyW_page {id p : Int} (h : IntR id) (hp : IntR p) : KeyW (keyNum (K.pagesKey id) p ⟨#[]⟩) := keyW_num2 (b := 109) rfl (by decide) h hp (by decide)
theorem at_fileOf (name : ByteArray) : At L (K.fileOf name) m D 1 (fun a _ _ => 0 ≤ a ∧ a ≤ 999) := by
 unfold K.fileOf
 refine At.ite (fun h => at_num (keyW_name h).1) fun _ => (At.ret (by omega)).le (by omega)
theorem at_wipe {p : ByteArray} {b : UInt8} (hb : fst1 p = some b) (hc : b ≠ 99) (hz : p.size ≤ 1000) : At L (K.wipe p) m D 1 (fun _ _ _ => True) := by
 unfold K.wipe
 refine At.bind (d := 0) (at_under hb hz) fun ks m' D' hk I hs => ?_
 refine (at_each0 ks m' fun k hk' m => at_lay0 (KeyW.of (hk.2 k hk').2.2 hc (by have := (hk.2 k hk').2.1; omega)) (hk.2 k hk').1).mono fun _ _ _ _ _ => trivial
theorem at_makeName (name : ByteArray) : At L (K.makeName name) m D 6 (fun a _ _ => True) := by
 unfold K.makeName
 refine At.ite (fun hn => ?_) fun _ => (At.ret trivial).le (by omega)
 refine At.bind (d := 5) (at_fileOf name) fun id m' D' _ _ _ => At.ite (fun _ => (At.ret trivial).le (by omega)) fun _ => ?_
 refine At.bind (d := 4) (at_num keyW_file.1) fun n m' D' _ _ _ => At.ite (fun _ => (At.ret trivial).le (by omega)) fun _ => ?_
 refine At.bind (d := 2) (at_bump keyW_file) fun id m' D' hid _ _ => ?_
 refine At.bind (d := 1) (at_setNum (keyW_name hn)) fun _ m' D' _ _ _ => ?_
 exact At.bind (d := 0) (at_setNum (keyW_links ⟨by omega, by omega⟩)) fun _ m' D' _ _ _ => At.ret trivial
theorem at_linkName (a b : ByteArray) : At L (K.linkName a b) m D 6 (fun _ _ _ => True) := by
 unfold K.linkName
 refine At.ite (fun hn => ?_) fun _ => (At.ret trivial).le (by omega)
 refine At.bind (d := 5) (at_fileOf a) fun id m' D' hid _ _ => At.ite (fun _ => (At.ret trivial).le (by omega)) fun _ => ?_
 refine At.bind (d := 4) (at_fileOf b) fun o m' D' _ _ _ => At.ite (fun _ => (At.ret trivial).le (by omega)) fun _ => ?_
 refine At.bind (d := 3) (at_num (keyW_links ⟨by omega, by omega⟩).1) fun n m' D' _ _ _ => At.ite (fun _ => (At.ret trivial).le (by omega)) fun _ => ?_
 refine At.bind (d := 2) (at_setNum (keyW_name hn.2)) fun _ m' D' _ _ _ => ?_
 exact At.bind (d := 1) (at_setNum (keyW_links ⟨by omega, by omega⟩)) fun _ m' D' _ _ _ => (At.ret trivial).le (by omega)
theorem at_unlinkName (name : ByteArray) : At L (K.unlinkName name) m D 4 (fun _ _ _ => True) := by
 unfold K.unlinkName
 refine At.ite (fun hn => ?_) fun _ => (At.ret trivial).le (by omega)
 refine At.bind (d := 3) (at_fileOf name) fun id m' D' hid _ _ => At.ite (fun _ => (At.ret trivial).le (by omega)) fun _ => ?_
 refine At.bind (d := 2) (at_lay (keyW_name hn)) fun _ m' D' _ _ _ => ?_
 refine At.bind (d := 1) (at_num (keyW_links ⟨by omega, by omega⟩).1) fun n m' D' _ _ _ => At.ite (fun _ => ?_) fun _ => ?_
 ·exact At.bind (d := 0) (at_setNum (keyW_links ⟨by omega, by omega⟩)) fun _ m' D' _ _ _ => At.ret trivial
 ·refine At.bind (d := 0) (at_wipe (b := 105) (keyNum_fst rfl) (by decide) ?_) fun _ m' D' _ _ _ => At.ret trivial
  have := keyNum_sizeB K.nI ⟨#[47]⟩ id ⟨by omega, by omega⟩
  have h1 : K.nI.size = 2 := rfl
  have h2 : (⟨#[47]⟩ : ByteArray).size = 1 := rfl
  omega
theorem at_renameName (a b : ByteArray) : At L (K.renameName a b) m D 9 (fun _ _ _ => True) := by
 unfold K.renameName
 refine At.ite (fun hn => ?_) fun _ => (At.ret trivial).le (by omega)
 refine At.bind (d := 8) (at_fileOf a) fun id m' D' hid _ _ => At.ite (fun _ => (At.ret trivial).le (by omega)) fun _ => ?_
 refine At.bind (d := 7) (at_fileOf b) fun o m' D' _ _ _ => At.ite (fun _ => (At.ret trivial).le (by omega)) fun _ => At.ite (fun _ => ?_) fun _ => ?_
 ·refine At.bind (d := 3) (at_unlinkName b) fun _ m' D' _ _ _ => ?_
  refine At.bind (d := 2) (at_setNum (keyW_name hn.2)) fun _ m' D' _ _ _ => ?_
  exact At.bind (d := 1) (at_lay (keyW_name hn.1)) fun _ m' D' _ _ _ => (At.ret trivial).le (by omega)
 ·refine At.bind (d := 6) (at_setNum (keyW_name hn.2)) fun _ m' D' _ _ _ => ?_
  exact At.bind (d := 5) (at_lay (keyW_name hn.1)) fun _ m' D' _ _ _ => (At.ret trivial).le (by omega)
theorem at_names : At L K.names m D 1 (fun _ _ _ => True) := by
 unfold K.names
 exact At.bind (d := 0) (at_under (b := 110) rfl (by decide)) fun _ m' D' _ _ _ => At.ret trivial
end
open Mp
open Classical
section
variable {L : Nat} {m : MachD} {D : List ByteArray}
theorem at_block0 {id p : Int} (h0 : 0 ≤ id) (h1 : id ≤ 999) (p0 : 0 ≤ p) (p1 : p ≤ 130) (hG : ∀ k ∈ gk, k ∈ D) : At L (K.block id p) m D 0 (fun _ _ D' => D' = D) := by
 unfold K.block
 exact At.bind (d := 0) (at_look0 (keyW_block ⟨by omega, by omega⟩ ⟨by omega, by omega⟩).1 (hG _ (gk_block h0 h1 p0 p1))) fun _ m' D' hD _ _ => At.ret hD.1
theorem places_le {a b p : Nat} (hb : b ≤ 1040) (h : p ∈ K.places a b) : p ≤ 130 := by
 unfold K.places at h
 rw [List.mem_range'] at h
 obtain ⟨i, hi, rfl⟩ := h
 omega
theorem at_readFile {id a n : Int} (h0 : 0 ≤ id) (h1 : id ≤ 999) (hG : ∀ k ∈ gk, k ∈ D) : At L (K.readFile id a n) m D 0 (fun _ _ _ => True) := by
 unfold K.readFile
 refine At.bind (d := 0) (at_num0 (keyW_size ⟨by omega, by omega⟩).1 (hG _ (gk_size h0 h1))) fun s m' D' hs _ _ => At.ite (fun _ => At.ret trivial) fun hn => ?_
 have hG' : ∀ k ∈ gk, k ∈ D' := by rw [hs.1]; exact hG
 refine (at_fold0 (T := fun _ => True) _ _ m' trivial fun p hp b m _ => ?_).mono fun _ _ _ _ _ => trivial
 have hp2 := places_le (by omega) hp
 unfold K.readBlock
 exact At.bind (d := 0) (at_block0 h0 h1 (by omega) (by omega) hG') fun _ _ _ hD _ _ => At.ret ⟨hD, trivial⟩
theorem at_writeFile {id a : Int} {text : ByteArray} (h0 : 0 ≤ id) (h1 : id ≤ 999) (hG : ∀ k ∈ gk, k ∈ D) : At L (K.writeFile id a text) m D 0 (fun _ _ _ => True) := by
 unfold K.writeFile
 refine At.bind (d := 0) (at_num0 (keyW_size ⟨by omega, by omega⟩).1 (hG _ (gk_size h0 h1))) fun s m' D' hs _ _ => At.ite (fun _ => At.ret trivial) fun hn => At.ite (fun _ => At.ret trivial) fun h64 => ?_
 have hG' : ∀ k ∈ gk, k ∈ D' := by rw [hs.1]; exact hG
 have hE : At L (Mp.each (K.writeBlock id text a.toNat (a.toNat + text.size)) (K.places a.toNat (a.toNat + text.size))) m' D' 0 (fun _ _ D'' => D'' = D') := at_each0 _ m' fun p hp m => by
  have hp2 := places_le (by omega) hp
  unfold K.writeBlock
  refine At.bind (d := 0) (at_block0 h0 h1 (by omega) (by omega) hG') fun _ m' D' hD _ _ => ?_
  subst hD
  exact at_lay0 (keyW_block ⟨by omega, by omega⟩ ⟨by omega, by omega⟩) (hG' _ (gk_block h0 h1 (by omega) (by omega)))
 refine At.bind (d := 0) hE fun _ m2 D2 hD _ _ => ?_
 subst hD
 refine At.ite (fun _ => ?_) fun _ => ?_
 ·exact At.bind (d := 0) (at_setNum0 (keyW_size ⟨by omega, by omega⟩) (hG' _ (gk_size h0 h1))) fun _ _ _ _ _ _ => At.ret trivial
 ·exact At.ret trivial
theorem at_cutFile {id n : Int} (h0 : 0 ≤ id) (h1 : id ≤ 999) (hG : ∀ k ∈ gk, k ∈ D) : At L (K.cutFile id n) m D 0 (fun _ _ _ => True) := by
 unfold K.cutFile
 refine At.bind (d := 0) (at_num0 (keyW_size ⟨by omega, by omega⟩).1 (hG _ (gk_size h0 h1))) fun s m' D' hs _ _ => At.ite (fun _ => At.ret trivial) fun hn => ?_
 have hG' : ∀ k ∈ gk, k ∈ D' := by rw [hs.1]; exact hG
 have hE : ∀ (a b : Nat) (m : MachD), a + b ≤ 130 → At L (Mp.each (fun p : Nat => K.lay (K.blockKey id (p : Int)) ⟨#[]⟩) (List.range' a b)) m D' 0 (fun _ _ D'' => D'' = D') := fun a b m hab => at_each0 _ m fun p hp m => by
  rw [List.mem_range'] at hp
  obtain ⟨i, hi, rfl⟩ := hp
  exact at_lay0 (keyW_block ⟨by omega, by omega⟩ ⟨by omega, by omega⟩) (hG' _ (gk_block h0 h1 (by omega) (by omega)))
 refine At.ite (fun _ => ?_) fun _ => ?_
 ·refine At.bind (d := 0) (at_block0 h0 h1 (by omega) (by omega) hG') fun _ m2 D2 hD _ _ => ?_
  subst hD
  refine At.bind (d := 0) (at_lay0 (keyW_block ⟨by omega, by omega⟩ ⟨by omega, by omega⟩) (hG' _ (gk_block h0 h1 (by omega) (by omega)))) fun _ m3 D3 hD _ _ => ?_
  subst hD
  refine At.bind (d := 0) (hE _ _ m3 (by omega)) fun _ m4 D4 hD _ _ => ?_
  subst hD
  exact At.bind (d := 0) (at_setNum0 (keyW_size ⟨by omega, by omega⟩) (hG' _ (gk_size h0 h1))) fun _ _ _ _ _ _ => At.ret trivial
 ·refine At.bind (d := 0) (hE _ _ m' (by omega)) fun _ m4 D4 hD _ _ => ?_
  subst hD
  exact At.bind (d := 0) (at_setNum0 (keyW_size ⟨by omega, by omega⟩) (hG' _ (gk_size h0 h1))) fun _ _ _ _ _ _ => At.ret trivial
theorem at_makePipe : At L K.makePipe m D 4 (fun _ _ _ => True) := by
 unfold K.makePipe
 refine At.bind (d := 3) (at_num keyW_pipe.1) fun n m' D' _ _ _ => At.ite (fun _ => (At.ret trivial).le (by omega)) fun _ => ?_
 refine At.bind (d := 1) (at_bump keyW_pipe) fun id m' D' hid _ _ => ?_
 exact At.bind (d := 0) (at_setNum (keyW_pipeK ⟨by omega, by omega⟩ (by decide))) fun _ _ _ _ _ _ => At.ret trivial
theorem at_isPipe {id : Int} (h : IntR id) : At L (K.isPipe id) m D 1 (fun _ _ _ => True) := by
 unfold K.isPipe
 exact At.bind (d := 0) (at_num (keyW_pipeK h (by decide)).1) fun _ _ _ _ _ _ => At.ret trivial
theorem at_putPipe {id : Int} {text : ByteArray} (h : IntR id) : At L (K.putPipe id text) m D 5 (fun _ _ _ => True) := by
 unfold K.putPipe
 refine At.bind (d := 4) (at_isPipe h) fun is m' D' _ _ _ => At.ite (fun _ => (At.ret trivial).le (by omega)) fun _ => At.ite (fun _ => (At.ret trivial).le (by omega)) fun _ => ?_
 refine At.bind (d := 3) (at_num (keyW_pipeK h (by decide)).1) fun tl m' D' ht _ _ => ?_
 refine At.bind (d := 2) (at_num (keyW_pipeK h (by decide)).1) fun hd m' D' _ _ _ => At.ite (fun _ => (At.ret trivial).le (by omega)) fun _ => At.ite (fun _ => (At.ret trivial).le (by omega)) fun _ => ?_
 refine At.bind (d := 1) (at_setNum (keyW_pipeK h (by decide))) fun _ m' D' _ _ _ => ?_
 exact At.bind (d := 0) (at_lay (keyW_pipeQ h ⟨by omega, by omega⟩)) fun _ _ _ _ _ _ => At.ret trivial
theorem at_message {k : ByteArray} (hk : KeyB k) : At L (K.message k) m D 1 (fun _ _ _ => True) := by
 unfold K.message
 exact At.bind (d := 0) (at_look hk) fun _ _ _ _ _ _ => At.ret trivial
theorem at_takePipe {id : Int} (h : IntR id) : At L (K.takePipe id) m D 6 (fun _ _ _ => True) := by
 unfold K.takePipe
 refine At.bind (d := 5) (at_isPipe h) fun is m' D' _ _ _ => At.ite (fun _ => (At.ret trivial).le (by omega)) fun _ => ?_
 refine At.bind (d := 4) (at_num (keyW_pipeK h (by decide)).1) fun hd m' D' ht _ _ => ?_
 refine At.bind (d := 3) (at_num (keyW_pipeK h (by decide)).1) fun tl m' D' _ _ _ => At.ite (fun _ => (At.ret trivial).le (by omega)) fun _ => ?_
 refine At.bind (d := 2) (at_message (keyW_pipeQ h ⟨by omega, by omega⟩).1) fun t m' D' _ _ _ => ?_
 refine At.bind (d := 1) (at_lay (keyW_pipeQ h ⟨by omega, by omega⟩)) fun _ m' D' _ _ _ => ?_
 exact At.bind (d := 0) (at_setNum (keyW_pipeK h (by decide))) fun _ _ _ _ _ _ => At.ret trivial
theorem at_state {id : Int} (h : IntR id) : At L (K.state id) m D 1 (fun a _ _ => 0 ≤ a ∧ a ≤ 999) := at_num (keyW_procK h (by decide)).1
theorem at_endProc {id n : Int} (h : IntR id) : At L (K.endProc id n) m D 3 (fun _ _ _ => True) := by
 unfold K.endProc
 refine At.bind (d := 2) (at_state h) fun s m' D' _ _ _ => At.ite (fun _ => (At.ret trivial).le (by omega)) fun _ => At.ite (fun _ => (At.ret trivial).le (by omega)) fun _ => ?_
 refine At.bind (d := 1) (at_setNum (keyW_procK h (by decide))) fun _ m' D' _ _ _ => ?_
 exact At.bind (d := 0) (at_setNum (keyW_procK h (by decide))) fun _ _ _ _ _ _ => At.ret trivial
theorem num_size2 {hd t : ByteArray} {id : Int} (h : IntR id) (hz : hd.size + t.size ≤ 100) : (keyNum hd id t).size ≤ 1000 := by
 have := keyNum_sizeB hd t id h
 omega
theorem at_reap {parent id : Int} (h : IntR id) : At L (K.reap parent id) m D 4 (fun _ _ _ => True) := by
 unfold K.reap
 refine At.bind (d := 3) (at_num (keyW_procK h (by decide)).1) fun own m' D' _ _ _ => At.ite (fun _ => (At.ret trivial).le (by omega)) fun _ => ?_
 refine At.bind (d := 2) (at_state h) fun s m' D' _ _ _ => At.ite (fun _ => (At.ret trivial).le (by omega)) fun _ => At.ite (fun _ => (At.ret trivial).le (by omega)) fun _ => ?_
 refine At.bind (d := 1) (at_num (keyW_procK h (by decide)).1) fun n m' D' _ _ _ => ?_
 exact At.bind (d := 0) (at_wipe (b := 114) (keyNum_fst rfl) (by decide) (num_size2 h (by decide))) fun _ _ _ _ _ _ => At.ret trivial
theorem at_kids (parent : Int) : At L (K.kids parent) m D 1 (fun l _ _ => ∀ x ∈ l, 0 ≤ x ∧ x ≤ 999) := by
 unfold K.kids
 refine At.bind (d := 0) (at_under (b := 114) rfl (by decide)) fun ks m' D' hk I hs => ?_
 refine (at_fold0 (T := fun l : List Int => ∀ x ∈ l, 0 ≤ x ∧ x ≤ 999) ks [] m' (fun x hx => by cases hx) fun k hk' l m hl => ?_).mono fun _ _ _ _ h => h.2
 unfold K.kid
 refine At.ite (fun _ => ?_) fun _ => At.ret ⟨rfl, hl⟩
 have h3 := hk.2 k hk'
 refine At.bind (d := 0) (at_num0 ⟨fst1_pos h3.2.2, by omega⟩ h3.1) fun up m' D' hD _ _ => At.ret ⟨hD.1, ?_⟩
 split
 ·intro x hx
  rcases List.mem_append.1 hx with hx | hx
  ·exact hl x hx
  ·rw [List.mem_singleton] at hx
   subst hx
   exact numOf_in _
 ·exact hl
theorem at_send {to n : Int} (h : IntR to) : At L (K.send to n) m D 5 (fun _ _ _ => True) := by
 unfold K.send
 refine At.bind (d := 4) (at_state h) fun s m' D' _ _ _ => At.ite (fun _ => (At.ret trivial).le (by omega)) fun _ => At.ite (fun _ => (At.ret trivial).le (by omega)) fun _ => ?_
 refine At.bind (d := 3) (at_num (keyW_sigK h (by decide)).1) fun tl m' D' ht _ _ => ?_
 refine At.bind (d := 2) (at_num (keyW_sigK h (by decide)).1) fun hd m' D' _ _ _ => At.ite (fun _ => (At.ret trivial).le (by omega)) fun _ => At.ite (fun _ => (At.ret trivial).le (by omega)) fun _ => ?_
 refine At.bind (d := 1) (at_setNum (keyW_sigK h (by decide))) fun _ m' D' _ _ _ => ?_
 exact At.bind (d := 0) (at_setNum (keyW_sigQ h ⟨by omega, by omega⟩)) fun _ _ _ _ _ _ => At.ret trivial
theorem at_send0 {to n : Int} (h0 : 0 ≤ to) (h1 : to ≤ 999) (hG : ∀ k ∈ gk, k ∈ D) : At L (K.send to n) m D 0 (fun _ _ D' => D' = D) := by
 have h : IntR to := ⟨by omega, by omega⟩
 unfold K.send
 refine At.bind (d := 0) (at_num0 (keyW_procK h (by decide)).1 (hG _ (gk_state h0 h1))) fun s m' D' hs _ _ => ?_
 obtain ⟨rfl, _⟩ := hs
 refine At.ite (fun _ => At.ret rfl) fun _ => At.ite (fun _ => At.ret rfl) fun _ => ?_
 refine At.bind (d := 0) (at_num0 (keyW_sigK h (by decide)).1 (hG _ (gk_sigT h0 h1))) fun tl m' D' ht _ _ => ?_
 obtain ⟨rfl, ht⟩ := ht
 refine At.bind (d := 0) (at_num0 (keyW_sigK h (by decide)).1 (hG _ (gk_sigH h0 h1))) fun hd m' D' hh _ _ => ?_
 obtain ⟨rfl, _⟩ := hh
 refine At.ite (fun _ => At.ret rfl) fun _ => At.ite (fun _ => At.ret rfl) fun _ => ?_
 refine At.bind (d := 0) (at_setNum0 (keyW_sigK h (by decide)) (hG _ (gk_sigT h0 h1))) fun _ m' D' hD _ _ => ?_
 subst hD
 exact At.bind (d := 0) (at_setNum0 (keyW_sigQ h ⟨by omega, by omega⟩) (hG _ (gk_sigQ h0 h1 (by omega) (by omega)))) fun _ _ _ hD _ _ => At.ret hD
theorem at_takeSignal {id : Int} (h : IntR id) : At L (K.takeSignal id) m D 5 (fun _ _ _ => True) := by
 unfold K.takeSignal
 refine At.bind (d := 4) (at_num (keyW_sigK h (by decide)).1) fun hd m' D' ht _ _ => ?_
 refine At.bind (d := 3) (at_num (keyW_sigK h (by decide)).1) fun tl m' D' _ _ _ => At.ite (fun _ => (At.ret trivial).le (by omega)) fun _ => ?_
 refine At.bind (d := 2) (at_num (keyW_sigQ h ⟨by omega, by omega⟩).1) fun n m' D' _ _ _ => ?_
 refine At.bind (d := 1) (at_lay (keyW_sigQ h ⟨by omega, by omega⟩)) fun _ m' D' _ _ _ => ?_
 exact At.bind (d := 0) (at_setNum (keyW_sigK h (by decide))) fun _ _ _ _ _ _ => At.ret trivial
theorem at_setTimer {id a : Int} (h : IntR id) : At L (K.setTimer id a) m D 1 (fun _ _ _ => True) := by
 unfold K.setTimer
 refine At.ite (fun _ => ?_) fun _ => (At.ret trivial).le (by omega)
 exact At.bind (d := 0) (at_setNum (keyW_num (b := 116) rfl (by decide) h (by decide))) fun _ _ _ _ _ _ => At.ret trivial
theorem at_tick {n : Int} (hG : ∀ k ∈ gk, k ∈ D) : At L (K.tick n) m D 3 (fun _ _ _ => True) := by
 unfold K.tick
 refine At.ite (fun _ => (At.ret trivial).le (by omega)) fun _ => ?_
 refine At.bind (d := 2) (at_num keyW_clock.1) fun c m' D' _ _ hs => At.ite (fun _ => (At.ret trivial).le (by omega)) fun _ => ?_
 refine At.bind (d := 1) (at_setNum keyW_clock) fun _ m2 D2 _ _ hs2 => ?_
 refine At.bind (d := 0) (at_under (b := 116) rfl (by decide)) fun ks m3 D3 hk I3 hs3 => ?_
 have hG3 : ∀ k ∈ gk, k ∈ D3 := fun k h => hs3 k (hs2 k (hs k (hG k h)))
 refine At.bind (d := 0) (S := fun _ _ _ => True) ((at_fold0 (T := fun _ : Int => True) ks 0 m3 trivial fun k hk' cnt m _ => ?_).mono fun _ _ _ _ _ => trivial) fun _ _ _ _ _ _ => At.ret trivial
 have h3 := hk.2 k hk'
 have hkb : KeyB k := ⟨fst1_pos h3.2.2, by omega⟩
 unfold K.tickOne
 refine At.bind (d := 0) (at_num0 hkb h3.1) fun a m4 D4 hD _ _ => ?_
 obtain ⟨rfl, _⟩ := hD
 refine At.ite (fun _ => At.ret ⟨rfl, trivial⟩) fun _ => ?_
 refine At.bind (d := 0) (at_lay0 (KeyW.of h3.2.2 (by decide) (by omega)) h3.1) fun _ m5 D5 hD _ _ => ?_
 subst hD
 have hb := numOf_in (k.extract 2 k.size)
 exact At.bind (d := 0) (at_send0 hb.1 hb.2 hG3) fun _ _ _ hD _ _ => At.ret ⟨hD, trivial⟩
theorem at_storePage {id page : Int} {text : ByteArray} (h : IntR id) : At L (K.storePage id page text) m D 1 (fun _ _ _ => True) := by
 unfold K.storePage
 refine At.ite (fun hp => ?_) fun _ => (At.ret trivial).le (by omega)
 exact At.bind (d := 0) (at_lay (keyW_page h ⟨by omega, by omega⟩)) fun _ _ _ _ _ _ => At.ret trivial
theorem at_loadPage {id page : Int} (h : IntR id) : At L (K.loadPage id page) m D 1 (fun _ _ _ => True) := by
 unfold K.loadPage
 refine At.ite (fun hp => ?_) fun _ => (At.ret trivial).le (by omega)
 exact At.bind (d := 0) (at_message (keyW_page h ⟨by omega, by omega⟩).1) fun _ _ _ _ _ _ => At.ret trivial
theorem pages_fst (id : Int) : fst1 (K.pagesKey id) = some 109 := keyNum_fst rfl
theorem at_dropPages {id : Int} (h : IntR id) : At L (K.dropPages id) m D 1 (fun _ _ _ => True) := at_wipe (pages_fst id) (by decide) (num_size2 h (by decide))
theorem at_forkPages {frm to : Int} (hf : IntR frm) (ht : IntR to) : At L (K.forkPages frm to) m D (1 + (L + D.length)) (fun _ _ _ => True) := by
 unfold K.forkPages
 refine At.bind (d := L + D.length) (at_under (pages_fst frm) (num_size2 hf (by decide))) fun ks m' D' hk I hs => ?_
 have hzt : (K.pagesKey to).size ≤ 50 := by
  have := keyNum_sizeB K.nM K.slash to ht
  have h1 : K.nM.size = 2 := rfl
  have h2 : K.slash.size = 1 := rfl
  show (keyNum K.nM to K.slash).size ≤ 50
  omega
 refine At.le ?_ hk.1
 refine at_each1 (P := fun k D => k ∈ D ∧ k.size ≤ 1048576 ∧ k.size ≠ 0) (fun x D D' h hs => ⟨hs x h.1, h.2⟩) (fun k m D h => ?_) ks m' D' fun k hk' => ⟨(hk.2 k hk').1, (hk.2 k hk').2.1, fst1_pos (hk.2 k hk').2.2⟩
 unfold K.forkOne
 refine At.bind (c := 0) (d := 1) (at_look0 ⟨h.2.2, by omega⟩ h.1) fun v m2 D2 hD _ _ => ?_
 refine at_lay (KeyW.of (fst1_app (pages_fst to)) (by decide) ?_)
 rw [ByteArray.size_append, ByteArray.size_extract]
 omega
theorem at_putOut (text : ByteArray) : At L (K.putOut text) m D 3 (fun _ _ _ => True) := by
 unfold K.putOut
 refine At.ite (fun _ => ?_) fun _ => (At.ret trivial).le (by omega)
 refine At.bind (d := 2) (at_num keyW_dN.1) fun n m' D' hn _ _ => At.ite (fun _ => (At.ret trivial).le (by omega)) fun _ => ?_
 refine At.bind (d := 1) (at_setNum keyW_dN) fun _ m' D' _ _ _ => ?_
 exact At.bind (d := 0) (at_lay (keyW_num (b := 100) rfl (by decide) ⟨by omega, by omega⟩ (by decide))) fun _ _ _ _ _ _ => At.ret trivial
theorem at_doFile {c : CallD} (hG : ∀ k ∈ gk, k ∈ D) : At L (K.doFile c) m D 1 (fun _ _ _ => True) := by
 unfold K.doFile
 refine At.bind (d := 0) (at_fileOf c.name) fun id m' D' hid _ hs => At.ite (fun _ => At.ret trivial) fun _ => At.ite (fun _ => ?_) fun _ => At.ite (fun _ => ?_) fun _ => ?_
 all_goals have hG' : ∀ k ∈ gk, k ∈ D' := fun k h => hs k (hG k h)
 ·exact At.bind (d := 0) (at_readFile hid.1 hid.2 hG') fun _ _ _ _ _ _ => At.ret trivial
 ·exact At.bind (d := 0) (at_writeFile hid.1 hid.2 hG') fun _ _ _ _ _ _ => At.ret trivial
 ·exact At.bind (d := 0) (at_cutFile hid.1 hid.2 hG') fun _ _ _ _ _ _ => At.ret trivial
theorem at_code {x : Mp Int} {c : Nat} (h : At L x m D c (fun _ _ _ => True)) : At L (K.code x) m D c (fun _ _ _ => True) := At.bind (d := 0) h fun _ _ _ _ _ _ => At.ret trivial
theorem at_codeN {x : Mp (Int × Int)} {c : Nat} (h : At L x m D c (fun _ _ _ => True)) : At L (K.codeN x) m D c (fun _ _ _ => True) := At.bind (d := 0) h fun _ _ _ _ _ _ => At.ret trivial
theorem at_codeT {x : Mp (ByteArray × Int)} {c : Nat} (h : At L x m D c (fun _ _ _ => True)) : At L (K.codeT x) m D c (fun _ _ _ => True) := At.bind (d := 0) h fun _ _ _ _ _ _ => At.ret trivial
theorem at_doKind {proc : Int} {c : CallD} (hp : IntR proc) (ha : IntR c.a) (hk : c.kind ≠ 12) (hG : ∀ k ∈ gk, k ∈ D) : At L (K.doKind proc c) m D 10 (fun _ _ _ => True) := by
 unfold K.doKind
 refine At.ite (fun _ => (at_codeN (at_makeName _)).le (by omega)) fun _ => At.ite (fun _ => (at_code (at_linkName _ _)).le (by omega)) fun _ => At.ite (fun _ => (at_code (at_unlinkName _)).le (by omega)) fun _ => At.ite (fun _ => (at_code (at_renameName _ _)).le (by omega)) fun _ => ?_
 refine At.ite (fun _ => (At.bind (d := 0) at_names fun _ _ _ _ _ _ => At.ret trivial).le (by omega)) fun _ => At.ite (fun _ => (at_doFile hG).le (by omega)) fun _ => At.ite (fun _ => (at_codeN at_makePipe).le (by omega)) fun _ => At.ite (fun _ => (at_code (at_putPipe ha)).le (by omega)) fun _ => At.ite (fun _ => (at_codeT (at_takePipe ha)).le (by omega)) fun _ => ?_
 refine At.ite (fun h => absurd h hk) fun _ => At.ite (fun _ => ?_) fun _ => At.ite (fun _ => (at_codeN (at_reap ha)).le (by omega)) fun _ => At.ite (fun _ => (At.bind (d := 0) (at_kids proc) fun _ _ _ _ _ _ => At.ret trivial).le (by omega)) fun _ => ?_
 ·unfold K.doEnd
  refine (At.bind (d := 1) (at_endProc hp) fun r m' D' _ _ _ => At.ite (fun _ => At.bind (d := 0) (at_dropPages hp) fun _ _ _ _ _ _ => At.ret trivial) fun _ => (At.ret trivial).le (by omega)).le (by omega)
 ·exact At.ite (fun _ => (at_code (at_send ha)).le (by omega)) fun _ => At.ite (fun _ => (at_codeN (at_takeSignal hp)).le (by omega)) fun _ => At.ite (fun _ => (at_code (at_setTimer hp)).le (by omega)) fun _ => At.ite (fun _ => (at_codeN (at_tick hG)).le (by omega)) fun _ => At.ite (fun _ => (at_code (at_storePage hp)).le (by omega)) fun _ => At.ite (fun _ => (at_codeT (at_loadPage hp)).le (by omega)) fun _ => (at_code (at_putOut _)).le (by omega)
end
end Go.Proofs.YtieenbnmfaekiaaGreatDoor
