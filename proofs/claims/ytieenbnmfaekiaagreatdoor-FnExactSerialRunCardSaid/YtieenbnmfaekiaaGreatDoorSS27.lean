/- Texts of this claim, merged: the walks and what they stand on. Each condition stands in its theorem. -/
import Derived.Test.YtieenbnmfaekiaaGreatDoorSS25
import Derived.Test.YtieenbnmfaekiaaGreatDoorSS26
set_option linter.unusedVariables false
set_option linter.unusedSimpArgs false
set_option maxRecDepth 100000
set_option maxHeartbeats 8000000
namespace Go.Proofs.YtieenbnmfaekiaaGreatDoor
open Go.ChangeShapes Go.WideShapes Go.ChangeAt Go.RowKit
open Mp
open Classical
theorem find_map_val (k : ByteArray) (cs : List CellD) : getC k cs = match cs.find? (isKey k) with | some c => c.val | none => ⟨#[]⟩ := by
 unfold getC
 cases cs.find? (isKey k) <;> rfl
theorem isKey_not {k k' : ByteArray} (h : k ≠ k') {c : CellD} (hc : isKey k c = true) : isKey k' c = false := by
 cases h' : isKey k' c with
 | false => rfl
 | true => exact absurd (((isKey_key k c).1 hc).symm.trans ((isKey_key k' c).1 h')) h
theorem find_without {k k' : ByteArray} (h : k ≠ k') (cs : List CellD) : (without k' cs).find? (isKey k) = cs.find? (isKey k) := by
 unfold without
 induction cs with
 | nil => rfl
 | cons c cs ih =>
  cases hc : isKey k c with
  | true => rw [List.filter_cons_of_pos (by rw [isKey_not h hc]; rfl), List.find?_cons_of_pos hc, List.find?_cons_of_pos hc]
  | false =>
   rw [List.find?_cons_of_neg (by rw [hc]; decide)]
   cases hk : isKey k' c with
   | true => rw [List.filter_cons_of_neg (by rw [hk]; decide), ih]
   | false => rw [List.filter_cons_of_pos (by rw [hk]; rfl), List.find?_cons_of_neg (by rw [hc]; decide), ih]
theorem find_ins {k k' v : ByteArray} (h : k ≠ k') (cs : List CellD) : (insC k' v cs).find? (isKey k) = cs.find? (isKey k) := by
 unfold insC
 have e := List.takeWhile_append_dropWhile (p := fun c => !gtKey k' c) (l := cs)
 have hk : isKey k ⟨k', v⟩ = false := by
  cases h' : isKey k ⟨k', v⟩ with
  | false => rfl
  | true => exact absurd ((isKey_key k ⟨k', v⟩).1 h').symm h
 conv => rhs; rw [← e]
 rw [List.find?_append, List.find?_append, List.find?_cons_of_neg (by rw [hk]; decide)]
theorem find_put {k k' v : ByteArray} (h : k ≠ k') (cs : List CellD) : (putC k' v cs).find? (isKey k) = cs.find? (isKey k) := by
 unfold putC
 split
 ·rfl
 ·split
  ·rw [find_without h]
  ·rw [find_ins h, find_without h]
theorem getC_other {k k' v : ByteArray} (h : k ≠ k') (cs : List CellD) : getC k (putC k' v cs) = getC k cs := by
 rw [find_map_val, find_map_val, find_put h]
theorem getC_same {k v : ByteArray} (hk : keyOk k = true) (h0 : v.size ≠ 0) (h1 : v.size ≤ 60) (cs : List CellD) : getC k (putC k v cs) = v := by
 rw [find_map_val]
 unfold putC
 rw [if_neg (by rintro (h | h); rw [hk] at h; cases h; omega), if_neg h0]
 unfold insC
 have hn : (without k cs).find? (isKey k) = none := by
  rw [List.find?_eq_none]
  intro c hc h
  have := (List.mem_filter.1 hc).2
  rw [h] at this
  cases this
 have e := List.takeWhile_append_dropWhile (p := fun c => !gtKey k c) (l := without k cs)
 rw [← e, List.find?_append] at hn
 have h1 : ((without k cs).takeWhile fun c => !gtKey k c).find? (isKey k) = none := by
  cases h : ((without k cs).takeWhile fun c => !gtKey k c).find? (isKey k) with
  | none => rfl
  | some c => rw [h] at hn; cases hn
 rw [List.find?_append, h1, List.find?_cons_of_pos ((isKey_key k ⟨k, v⟩).2 rfl)]
 rfl
def prc (m : MachD) : Int := numOf (getC K.cProc m.cells)
theorem prc_in (m : MachD) : 0 ≤ prc m ∧ prc m ≤ 999 := numOf_in _
theorem Mp.KeysW.prc {α : Type} {x : Mp α} {m : MachD} (h : x.KeysW m) : prc (x.run m).2 = prc m := by
 induction x generalizing m with
 | ret a => rfl
 | look k g ih => exact ih _ h.2
 | lay k v n ih =>
  refine (ih h.2).trans ?_
  show numOf (getC K.cProc (putC k v m.cells)) = _
  rw [getC_other (Ne.symm h.1.2)]
  rfl
 | under p g ih => exact ih _ h.2
theorem numOf_text {n : Int} (h0 : 1 ≤ n) (h1 : n ≤ 999) : numOf (strOf (Lib.itoa n)) = n ∧ (strOf (Lib.itoa n)).size ≠ 0 ∧ (strOf (Lib.itoa n)).size ≤ 21 := by
 have hv := (itoa_val (m := n) (by omega) (by omega)).1
 have e : (strOf (Lib.itoa n)).data.toList = Lib.itoa n := by simp [strOf]
 have hl := Lib.itoa_length_le n (by omega) (by omega)
 refine ⟨?_, ?_, by rw [strOf_size]; omega⟩
 ·unfold numOf
  rw [e, hv, if_pos ⟨h0, h1, rfl⟩]
 ·intro hz
  rw [strOf_size] at hz
  have : Lib.itoa n = [] := List.length_eq_zero_iff.1 hz
  rw [this] at hv
  have h3 : valD [] = 0 := rfl
  omega
section
variable {α β : Type} {L : Nat} {m : MachD} {D : List ByteArray}
def AtB (L : Nat) (p : Mp α) (m : MachD) (D : List ByteArray) (c : Nat) (S : α → MachD → List ByteArray → Prop) : Prop :=
 Inv L D m → p.KeysB m ∧ (p.news m D).length ≤ D.length + c ∧ S (p.run m).1 (p.run m).2 (p.news m D)
theorem At.b {p : Mp α} {c : Nat} {S : α → MachD → List ByteArray → Prop} (h : At L p m D c S) : AtB L p m D c (fun a m' D' => S a m' D' ∧ prc m' = prc m) := fun I => by
 obtain ⟨h1, h2, h3⟩ := h I
 exact ⟨h1.b, h2, h3, h1.prc⟩
theorem AtB.bind {x : Mp α} {f : α → Mp β} {c d : Nat} {S : α → MachD → List ByteArray → Prop} {T : β → MachD → List ByteArray → Prop} (h : AtB L x m D c S)
  (k : ∀ a m' D', S a m' D' → Inv L D' m' → (∀ y ∈ D, y ∈ D') → D'.length ≤ D.length + c → AtB L (f a) m' D' d T) : AtB L (x >>= f) m D (c + d) T := by
 intro I
 obtain ⟨h1, h2, h3⟩ := h I
 have I2 := Mp.inv_run x L m D I h1
 obtain ⟨k1, k2, k3⟩ := k _ _ _ h3 I2 (Mp.news_sub x m D) h2 I2
 refine ⟨(Mp.keysB_bind x f m).2 ⟨h1, k1⟩, ?_, ?_⟩
 ·rw [Mp.news_bind]; omega
 ·rw [Mp.news_bind, Mp.run_bind]; exact k3
theorem AtB.le {x : Mp α} {c d : Nat} {S : α → MachD → List ByteArray → Prop} (h : AtB L x m D c S) (hc : c ≤ d) : AtB L x m D d S := fun I => by
 obtain ⟨h1, h2, h3⟩ := h I
 exact ⟨h1, by omega, h3⟩
theorem AtB.ret {a : α} {S : α → MachD → List ByteArray → Prop} (h : S a m D) : AtB L (pure a : Mp α) m D 0 S := fun _ => ⟨trivial, Nat.le_refl _, h⟩
theorem AtB.ite {p : Prop} [Decidable p] {x y : Mp α} {c : Nat} {S : α → MachD → List ByteArray → Prop} (h1 : p → AtB L x m D c S) (h2 : ¬ p → AtB L y m D c S) : AtB L (if p then x else y) m D c S := by
 by_cases h : p
 ·rw [if_pos h]; exact h1 h
 ·rw [if_neg h]; exact h2 h
theorem atB_proc : AtB L (K.num K.cProc) m D 1 (fun a m' _ => a = prc m ∧ prc m' = prc m) := fun I => ⟨⟨⟨by decide, by decide⟩, trivial⟩, know_len D _, rfl, rfl⟩
theorem atB_set {n : Int} (h0 : 1 ≤ n) (h1 : n ≤ 999) : AtB L (K.setNum K.cProc n) m D 1 (fun _ m' _ => prc m' = n) := fun I => by
 refine ⟨⟨⟨by decide, by decide⟩, trivial⟩, know_len D _, ?_⟩
 show numOf (getC K.cProc (putC K.cProc (K.numText n) m.cells)) = n
 have ht := numOf_text h0 h1
 unfold K.numText
 rw [if_pos ⟨h0, h1⟩, getC_same (by decide) ht.2.1 (by omega)]
 exact ht.1
theorem atB_spawn (parent : Int) : AtB L (K.spawn parent) m D 5 (fun p m' _ => (p.2 ≠ 0 ∧ prc m' = prc m) ∨ (p.2 = 0 ∧ IntR p.1 ∧ prc m' = prc m + 1 ∧ prc m' ≤ 12)) := by
 have hp0 := prc_in m
 unfold K.spawn
 refine AtB.bind (d := 4) atB_proc fun many m1 D1 h1 _ _ _ => AtB.ite (fun _ => (AtB.ret (.inl ⟨by decide, h1.2⟩)).le (by omega)) fun hm => ?_
 refine AtB.bind (c := 2) (d := 2) (S := fun id m' _ => id = prc m + 1 ∧ prc m' = prc m + 1) ?_ fun id m2 D2 h2 _ _ _ => ?_
 ·unfold K.bump
  refine AtB.bind (d := 1) atB_proc fun n m2 D2 h2 _ _ _ => AtB.ite (fun h => absurd h (by omega)) fun _ => ?_
  exact AtB.bind (d := 0) (atB_set (by omega) (by omega)) fun _ m3 D3 h3 _ _ _ => AtB.ret ⟨by omega, by omega⟩
 ·have hid : IntR id := ⟨by omega, by omega⟩
  refine AtB.bind (d := 1) (at_setNum (keyW_procK hid (by decide))).b fun _ m3 D3 h3 _ _ _ => ?_
  exact AtB.bind (d := 0) (at_setNum (keyW_procK hid (by decide))).b fun _ m4 D4 h4 _ _ _ => AtB.ret (.inr ⟨rfl, hid, by omega, by omega⟩)
theorem atB_doSpawn {proc : Int} (hp : IntR proc) : AtB L (K.doSpawn proc) m D (D.length + L + 11) (fun _ m' D' => (prc m' = prc m ∧ D'.length ≤ D.length + 5) ∨ (prc m' = prc m + 1 ∧ prc m' ≤ 12)) := by
 have hd : D.length + L + 11 = 5 + (D.length + L + 6) := by omega
 rw [hd]
 have hS : AtB L (K.spawn proc) m D 5 (fun p m' D' => ((p.2 ≠ 0 ∧ prc m' = prc m) ∨ (p.2 = 0 ∧ IntR p.1 ∧ prc m' = prc m + 1 ∧ prc m' ≤ 12)) ∧ D'.length ≤ D.length + 5) := fun I => by
  have h := atB_spawn (L := L) (m := m) (D := D) proc I
  exact ⟨h.1, h.2.1, h.2.2, h.2.1⟩
 unfold K.doSpawn
 refine AtB.bind (d := D.length + L + 6) hS fun p m1 D1 h1 _ _ _ => ?_
 refine AtB.ite (fun h0 => ?_) fun hn => ?_
 ·rcases h1.1 with h | h
  ·exact absurd h0 h.1
  ·refine AtB.le (AtB.bind (d := 0) (at_forkPages hp h.2.1).b fun _ m2 D2 h2 _ _ _ => AtB.ret (.inr ⟨by omega, by omega⟩)) ?_
   have := h1.2
   omega
 ·rcases h1.1 with h | h
  ·exact (AtB.ret (.inl ⟨h.2, h1.2⟩)).le (by omega)
  ·exact absurd h.1 hn
theorem call_grow {proc : Int} {c : CallD} (hp : IntR proc) (ha : IntR c.a) (hG : ∀ k ∈ gk, k ∈ D) (I : Inv L D m) :
  (K.doCall proc c).KeysB m ∧ ((prc ((K.doCall proc c).run m).2 = prc m ∧ ((K.doCall proc c).news m D).length ≤ D.length + 12) ∨ (prc ((K.doCall proc c).run m).2 = prc m + 1 ∧ prc ((K.doCall proc c).run m).2 ≤ 12 ∧ ((K.doCall proc c).news m D).length ≤ 2 * D.length + L + 14)) := by
 by_cases hk : c.kind = 12
 ·have h : AtB L (K.doCall proc c) m D (D.length + L + 13) (fun _ m' D' => (prc m' = prc m ∧ D'.length ≤ D.length + 12) ∨ (prc m' = prc m + 1 ∧ prc m' ≤ 12)) := by
   unfold K.doCall
   have hd : D.length + L + 13 = 1 + (D.length + L + 12) := by omega
   rw [hd]
   refine AtB.bind (d := D.length + L + 12) (at_state hp).b fun s m1 D1 h1 _ hs hl => AtB.ite (fun _ => (AtB.ret (.inl ⟨h1.2, by omega⟩)).le (by omega)) fun _ => AtB.ite (fun _ => (AtB.ret (.inl ⟨h1.2, by omega⟩)).le (by omega)) fun _ => ?_
   have e : K.doKind proc c = K.doSpawn proc := by
    unfold K.doKind
    rw [hk]
    rfl
   rw [e]
   intro I1
   obtain ⟨k1, k2, k3⟩ := atB_doSpawn (L := L) (m := m1) (D := D1) hp I1
   refine ⟨k1, by omega, ?_⟩
   rcases k3 with k3 | k3
   ·exact .inl ⟨by omega, by omega⟩
   ·exact .inr ⟨by omega, by omega⟩
  obtain ⟨h1, h2, h3⟩ := h I
  refine ⟨h1, ?_⟩
  rcases h3 with h3 | h3
  ·exact .inl h3
  ·exact .inr ⟨h3.1, h3.2, by omega⟩
 ·have h : At L (K.doCall proc c) m D 11 (fun _ _ _ => True) := by
   unfold K.doCall
   refine At.bind (c := 1) (d := 10) (at_state hp) fun s m1 D1 h1 _ hs => At.ite (fun _ => (At.ret trivial).le (by omega)) fun _ => At.ite (fun _ => (At.ret trivial).le (by omega)) fun _ => ?_
   exact at_doKind hp ha hk fun k h => hs k (hG k h)
  obtain ⟨h1, h2, h3⟩ := h I
  exact ⟨h1.b, .inl ⟨h1.prc, by omega⟩⟩
theorem Inv.fresh (h : Inv L D m) : Inv L D ⟨m.cells, [], []⟩ := ⟨h.nd, h.cn, (fun k hk => by cases hk), (fun k hk => by cases hk), (fun k hk => by cases hk), (fun k hk => by cases hk), List.Pairwise.nil, List.Pairwise.nil, h.cz, h.cl⟩
end
def FitAll : List StepD → MachD → Prop
 | [], m => Small m
 | s :: l, m => (K.doCall s.proc s.call).fits m ∧ (K.doCall s.proc s.call).fits ⟨m.cells, [], []⟩ ∧ FitAll l ((K.doCall s.proc s.call).run m).2
theorem fit_all {L : Nat} : ∀ (l : List StepD) (m : MachD) (D : List ByteArray), (∀ s ∈ l, IntR s.proc ∧ IntR s.call.a) → (∀ k ∈ gk, k ∈ D) → Inv L D m → 2 ^ (12 - (prc m).toNat) * (D.length + L + 14 + 12 * l.length) ≤ 549755813888 → FitAll l m
 | [], m, D, _, _, I, hb => by
  have h2 : 0 < 2 ^ (12 - (prc m).toNat) := Nat.two_pow_pos _
  have h3 := Nat.le_mul_of_pos_left (D.length + L + 14 + 12 * 0) h2
  rw [List.length_nil] at hb
  exact I.small (by omega)
 | s :: l, m, D, hs, hG, I, hb => by
  have h2 : 0 < 2 ^ (12 - (prc m).toNat) := Nat.two_pow_pos _
  have hp := prc_in m
  obtain ⟨hs1, hs2⟩ := hs s List.mem_cons_self
  have hc := call_grow hs1 hs2 hG I
  have hf := call_grow hs1 hs2 hG I.fresh
  rw [List.length_cons] at hb
  have key : ∀ m0 : MachD, prc m0 = prc m → Inv L D m0 → ((K.doCall s.proc s.call).KeysB m0 ∧ ((prc ((K.doCall s.proc s.call).run m0).2 = prc m0 ∧ ((K.doCall s.proc s.call).news m0 D).length ≤ D.length + 12) ∨ (prc ((K.doCall s.proc s.call).run m0).2 = prc m0 + 1 ∧ prc ((K.doCall s.proc s.call).run m0).2 ≤ 12 ∧ ((K.doCall s.proc s.call).news m0 D).length ≤ 2 * D.length + L + 14))) →
    2 ^ (12 - (prc ((K.doCall s.proc s.call).run m0).2).toNat) * (((K.doCall s.proc s.call).news m0 D).length + L + 14 + 12 * l.length) ≤ 549755813888 := by
   rintro m0 hm0 I0 ⟨_, h | h⟩
   ·rw [h.1, hm0]
    refine Nat.le_trans (Nat.mul_le_mul_left _ ?_) hb
    omega
   ·obtain ⟨h1, h3, h4⟩ := h
    have e : 12 - (prc m).toNat = (12 - (prc ((K.doCall s.proc s.call).run m0).2).toNat) + 1 := by omega
    rw [e, Nat.pow_succ, Nat.mul_assoc] at hb
    refine Nat.le_trans (Nat.mul_le_mul_left _ ?_) hb
    omega
  have fit : ∀ m0 : MachD, Inv L D m0 → (K.doCall s.proc s.call).KeysB m0 → 2 ^ (12 - (prc ((K.doCall s.proc s.call).run m0).2).toNat) * (((K.doCall s.proc s.call).news m0 D).length + L + 14 + 12 * l.length) ≤ 549755813888 → (K.doCall s.proc s.call).fits m0 := fun m0 I0 hk hh => by
   refine Mp.inv_fits _ L m0 D I0 hk ?_
   have h5 := Nat.le_mul_of_pos_left (((K.doCall s.proc s.call).news m0 D).length + L + 14 + 12 * l.length) (Nat.two_pow_pos (12 - (prc ((K.doCall s.proc s.call).run m0).2).toNat))
   omega
  have k1 := key m rfl I hc
  have k2 := key ⟨m.cells, [], []⟩ rfl I.fresh hf
  exact ⟨fit m I hc.1 k1, fit _ I.fresh hf.1 k2, fit_all l _ _ (fun x hx => hs x (List.mem_cons_of_mem _ hx)) (fun k hk => Mp.news_sub _ m D k (hG k hk)) (Mp.inv_run _ L m D I hc.1) k1⟩
noncomputable def known0 (cs : List CellD) : List ByteArray := (cs.map (·.key) ++ gk).foldr (fun k D => know D k) []
theorem known_len : ∀ l : List ByteArray, (l.foldr (fun k D => know D k) []).length ≤ l.length
 | [] => Nat.le_refl _
 | k :: l => by
  have := known_len l
  have h2 := know_len (l.foldr (fun k D => know D k) []) k
  rw [List.foldr_cons, List.length_cons]
  omega
theorem known_mem : ∀ (l : List ByteArray), ∀ x ∈ l, x ∈ l.foldr (fun k D => know D k) []
 | [], _, h => by cases h
 | k :: l, x, h => by
  rw [List.foldr_cons]
  rcases List.mem_cons.1 h with rfl | h
  ·exact mem_know.2 (.inr rfl)
  ·exact mem_know.2 (.inl (known_mem l x h))
theorem known_nd : ∀ l : List ByteArray, (l.foldr (fun k D => know D k) []).Nodup
 | [] => List.nodup_nil
 | k :: l => know_nd (known_nd l) k
theorem run_fits {cs : List CellD} {l : List StepD} (hz : cs.length + l.length ≤ 1048576) (hc : ∀ c ∈ cs, c.key.size ≤ 1048576 ∧ c.val.size ≤ 1048576) (hl : ∀ s ∈ l, IntR s.proc ∧ IntR s.call.a) : FitAll l ⟨cs, [], []⟩ := by
 have hk := known_len (cs.map (·.key) ++ gk)
 rw [List.length_append, List.length_map, gk_len] at hk
 refine fit_all (L := cs.length) l ⟨cs, [], []⟩ (known0 cs) hl (fun k h => known_mem _ k (List.mem_append.2 (.inr h))) ⟨known_nd _, fun c h _ => known_mem _ _ (List.mem_append.2 (.inl (List.mem_map.2 ⟨c, h, rfl⟩))), (fun k h => by cases h), (fun k h => by cases h), (fun k h => by cases h), (fun k h => by cases h), List.Pairwise.nil, List.Pairwise.nil, hc, [], List.nodup_nil, (fun k h => by cases h), List.length_filter_le _ _, (by rw [List.filter_eq_nil_iff.2 (fun c _ h => by simp at h)]; exact List.nodup_nil)⟩ ?_
 have h1 : 2 ^ (12 - (prc ⟨cs, [], []⟩).toNat) ≤ 2 ^ 12 := Nat.pow_le_pow_right (by decide) (by omega)
 have h2 : (known0 cs).length + cs.length + 14 + 12 * l.length ≤ 15817214 := by unfold known0; omega
 have h3 := Nat.mul_le_mul h1 h2
 omega
structure RI (w : World) (v0 vs vq : Value) (q g cap B : Nat) (cs : List CellD) (out : List AnswerD) (y z : Value) (rd wr : List ByteArray) (pb po n : Nat) (s : StepD) (an : AnswerD) (m : MachD) (L : Array Bool) (W : World) (x25 x26 x27 x28 x29 x30 x31 x32 x33 x34 x35 x36 x24 x37 x38 x39 x11 x12 x10 : Value) : Prop where
 sz : L.size = 21
 c19 : L.getD 19 false = true → L.getD 16 false = true
 c20 : L.getD 20 false = true → L.getD 17 false = true
 bel : Below w.heap.size w W
 P : W.heap[w.heap.size]? = some (.cells #[.slice none 0 0, .slice none 0 0] 50 (0, 0))
 Q : W.heap[q]? = some (.cells #[y, z] 50 (0, 0))
 A : AnsIn W B g cap out
 r0 : RdL rCell W v0 cs
 ry : RdL rStr W y rd
 rz : RdL rStr W z wr
 p0 : W.cell? ⟨pb, po + n * 7 + 0, none⟩ = some (.int .i64 s.proc)
 p1 : W.cell? ⟨pb, po + n * 7 + 1, none⟩ = some (.int .i64 s.call.kind)
 p2 : W.cell? ⟨pb, po + n * 7 + 2, none⟩ = some (.string s.call.name)
 p3 : W.cell? ⟨pb, po + n * 7 + 3, none⟩ = some (.string s.call.to)
 p4 : W.cell? ⟨pb, po + n * 7 + 4, none⟩ = some (.int .i64 s.call.a)
 p5 : W.cell? ⟨pb, po + n * 7 + 5, none⟩ = some (.int .i64 s.call.b)
 p6 : W.cell? ⟨pb, po + n * 7 + 6, none⟩ = some (.string s.call.text)
 lt : pb < w.heap.size
 f0 : L.getD 0 false = true → x25 = v0
 f1 : L.getD 1 false = true → x26 = vs
 f2 : L.getD 2 false = true → x27 = .int .i64 n
 f3 : L.getD 3 false = true → x28 = .pointer (some ⟨pb, po + n * 7, none⟩)
 f4 : L.getD 4 false = true → x29 = .pointer (some ⟨pb, po + n * 7, none⟩)
 f5 : L.getD 5 false = true → x30 = .int .i64 s.proc
 f6 : L.getD 6 false = true → x31 = vs
 f7 : L.getD 7 false = true → x32 = .int .i64 n
 f8 : L.getD 8 false = true → x33 = .pointer (some ⟨pb, po + n * 7, none⟩)
 f9 : L.getD 9 false = true → x34 = .pointer (some ⟨pb, po + n * 7 + 1, none⟩)
 f10 : L.getD 10 false = true → x35 = callV s.call
 f11 : L.getD 11 false = true → ∃ c0 c1 c2, x36 = .tuple #[c0, ansV an, .agg #[c1, c2]] ∧ MRd W (.agg #[c0, c1, c2]) m
 f12 : L.getD 12 false = true → ∃ c0 c1 c2, x24 = .tuple #[c0, ansV an, .agg #[c1, c2]] ∧ MRd W (.agg #[c0, c1, c2]) m
 f13 : L.getD 13 false = true → RdL rCell W x37 m.cells
 f14 : L.getD 14 false = true → x38 = ansV an
 f15 : L.getD 15 false = true → ∃ c d, x39 = .agg #[c, d] ∧ RdL rStr W c m.rd ∧ RdL rStr W d m.wr
 f16 : L.getD 16 false = true → ∃ b, x11 = .pointer (some ⟨b, 0, none⟩) ∧ w.heap.size + 1 ≤ b ∧ b ≠ q ∧ b ≠ g ∧ ((L.getD 19 false = false ∧ W.heap[b]? = some (.cells #[.int .i64 0, .int .i64 0, .string ⟨#[]⟩] 66 (0, 0))) ∨ (L.getD 19 false = true ∧ W.heap[b]? = some (.cells #[.int .i64 an.code, .int .i64 an.n, .string an.text] 66 (0, 0))))
 f17 : L.getD 17 false = true → ∃ b, x12 = .pointer (some ⟨b, 0, none⟩) ∧ w.heap.size + 1 ≤ b ∧ b ≠ q ∧ b ≠ g ∧ ((L.getD 20 false = false ∧ W.heap[b]? = some (.cells #[.slice none 0 0, .slice none 0 0] 50 (0, 0))) ∨ (L.getD 20 false = true ∧ ∃ c d, W.heap[b]? = some (.cells #[c, d] 50 (0, 0)) ∧ RdL rStr W c m.rd ∧ RdL rStr W d m.wr))
 f18 : L.getD 18 false = true → RdL rCell W x10 m.cells
section
variable {w : World} {v0 vs vq : Value} {q g cap B : Nat} {cs : List CellD} {out : List AnswerD} {y z : Value} {rd wr : List ByteArray} {pb po n : Nat} {s : StepD} {an : AnswerD} {m : MachD} {L : Array Bool} {W W' : World} {x25 x26 x27 x28 x29 x30 x31 x32 x33 x34 x35 x36 x24 x37 x38 x39 x11 x12 x10 : Value}
theorem RI.grow (h : RI w v0 vs vq q g cap B cs out y z rd wr pb po n s an m L W x25 x26 x27 x28 x29 x30 x31 x32 x33 x34 x35 x36 x24 x37 x38 x39 x11 x12 x10) (hb : Below W.heap.size W W') : RI w v0 vs vq q g cap B cs out y z rd wr pb po n s an m L W' x25 x26 x27 x28 x29 x30 x31 x32 x33 x34 x35 x36 x24 x37 x38 x39 x11 x12 x10 := by
 have G := fun {k : Nat} {o : Obj} (hk : W.heap[k]? = some o) => (Grew.below hb k (World.lt_of_get hk)).trans hk
 refine ⟨h.sz, h.c19, h.c20, Below.then h.bel hb, G h.P, G h.Q, h.A.below hb, h.r0.below hb, h.ry.below hb, h.rz.below hb, (Grew.below hb).cell h.p0, (Grew.below hb).cell h.p1, (Grew.below hb).cell h.p2, (Grew.below hb).cell h.p3, (Grew.below hb).cell h.p4, (Grew.below hb).cell h.p5, (Grew.below hb).cell h.p6, h.lt, h.f0, h.f1, h.f2, h.f3, h.f4, h.f5, h.f6, h.f7, h.f8, h.f9, h.f10, fun k => ?_, fun k => ?_, fun k => (h.f13 k).below hb, h.f14, fun k => ?_, fun k => ?_, fun k => ?_, fun k => (h.f18 k).below hb⟩
 ·obtain ⟨c0, c1, c2, e, hm⟩ := (h.f11 k); exact ⟨c0, c1, c2, e, hm.below hb⟩
 ·obtain ⟨c0, c1, c2, e, hm⟩ := (h.f12 k); exact ⟨c0, c1, c2, e, hm.below hb⟩
 ·obtain ⟨c, d, e, h1, h2⟩ := (h.f15 k); exact ⟨c, d, e, h1.below hb, h2.below hb⟩
 ·obtain ⟨b, e, h1, h2, h3, h4 | h4⟩ := (h.f16 k) <;> first | exact ⟨b, e, h1, h2, h3, .inl ⟨h4.1, G h4.2⟩⟩ | exact ⟨b, e, h1, h2, h3, .inr ⟨h4.1, G h4.2⟩⟩
 ·obtain ⟨b, e, h1, h2, h3, h4 | ⟨h4, c, d, h5, h6, h7⟩⟩ := (h.f17 k) <;> first | exact ⟨b, e, h1, h2, h3, .inl ⟨h4.1, G h4.2⟩⟩ | exact ⟨b, e, h1, h2, h3, .inr ⟨h4, c, d, G h5, h6.below hb, h7.below hb⟩⟩
theorem RI.set (h : RI w v0 vs vq q g cap B cs out y z rd wr pb po n s an m L W x25 x26 x27 x28 x29 x30 x31 x32 x33 x34 x35 x36 x24 x37 x38 x39 x11 x12 x10) {i : Nat} (hi : i < 21) (hi19 : i ≠ 19) (hi20 : i ≠ 20) {y25 y26 y27 y28 y29 y30 y31 y32 y33 y34 y35 y36 y24 y37 y38 y39 y11 y12 y10 : Value}
  (e0 : if i = 0 then y25 = v0 else y25 = x25)
  (e1 : if i = 1 then y26 = vs else y26 = x26)
  (e2 : if i = 2 then y27 = .int .i64 n else y27 = x27)
  (e3 : if i = 3 then y28 = .pointer (some ⟨pb, po + n * 7, none⟩) else y28 = x28)
  (e4 : if i = 4 then y29 = .pointer (some ⟨pb, po + n * 7, none⟩) else y29 = x29)
  (e5 : if i = 5 then y30 = .int .i64 s.proc else y30 = x30)
  (e6 : if i = 6 then y31 = vs else y31 = x31)
  (e7 : if i = 7 then y32 = .int .i64 n else y32 = x32)
  (e8 : if i = 8 then y33 = .pointer (some ⟨pb, po + n * 7, none⟩) else y33 = x33)
  (e9 : if i = 9 then y34 = .pointer (some ⟨pb, po + n * 7 + 1, none⟩) else y34 = x34)
  (e10 : if i = 10 then y35 = callV s.call else y35 = x35)
  (e11 : if i = 11 then ∃ c0 c1 c2, y36 = .tuple #[c0, ansV an, .agg #[c1, c2]] ∧ MRd W (.agg #[c0, c1, c2]) m else y36 = x36)
  (e12 : if i = 12 then ∃ c0 c1 c2, y24 = .tuple #[c0, ansV an, .agg #[c1, c2]] ∧ MRd W (.agg #[c0, c1, c2]) m else y24 = x24)
  (e13 : if i = 13 then RdL rCell W y37 m.cells else y37 = x37)
  (e14 : if i = 14 then y38 = ansV an else y38 = x38)
  (e15 : if i = 15 then ∃ c d, y39 = .agg #[c, d] ∧ RdL rStr W c m.rd ∧ RdL rStr W d m.wr else y39 = x39)
  (e16 : if i = 16 then ∃ b, y11 = .pointer (some ⟨b, 0, none⟩) ∧ w.heap.size + 1 ≤ b ∧ b ≠ q ∧ b ≠ g ∧ ((L.getD 19 false = false ∧ W.heap[b]? = some (.cells #[.int .i64 0, .int .i64 0, .string ⟨#[]⟩] 66 (0, 0))) ∨ (L.getD 19 false = true ∧ W.heap[b]? = some (.cells #[.int .i64 an.code, .int .i64 an.n, .string an.text] 66 (0, 0)))) else y11 = x11)
  (e17 : if i = 17 then ∃ b, y12 = .pointer (some ⟨b, 0, none⟩) ∧ w.heap.size + 1 ≤ b ∧ b ≠ q ∧ b ≠ g ∧ ((L.getD 20 false = false ∧ W.heap[b]? = some (.cells #[.slice none 0 0, .slice none 0 0] 50 (0, 0))) ∨ (L.getD 20 false = true ∧ ∃ c d, W.heap[b]? = some (.cells #[c, d] 50 (0, 0)) ∧ RdL rStr W c m.rd ∧ RdL rStr W d m.wr)) else y12 = x12)
  (e18 : if i = 18 then RdL rCell W y10 m.cells else y10 = x10) :
  RI w v0 vs vq q g cap B cs out y z rd wr pb po n s an m (L.setIfInBounds i true) W y25 y26 y27 y28 y29 y30 y31 y32 y33 y34 y35 y36 y24 y37 y38 y39 y11 y12 y10 := by
 have up : ∀ j, L.getD j false = true → (L.setIfInBounds i true).getD j false = true := fun j hj => by
  by_cases hx : i = j
  ·subst hx; exact lset_eq (by have := h.sz; omega)
  ·rw [lset_ne hx]; exact hj
 refine ⟨by rw [Array.size_setIfInBounds]; exact h.sz, fun k => up _ (h.c19 (by rw [lset_ne hi19] at k; exact k)), fun k => up _ (h.c20 (by rw [lset_ne hi20] at k; exact k)), h.bel, h.P, h.Q, h.A, h.r0, h.ry, h.rz, h.p0, h.p1, h.p2, h.p3, h.p4, h.p5, h.p6, h.lt, fun k => ?_, fun k => ?_, fun k => ?_, fun k => ?_, fun k => ?_, fun k => ?_, fun k => ?_, fun k => ?_, fun k => ?_, fun k => ?_, fun k => ?_, fun k => ?_, fun k => ?_, fun k => ?_, fun k => ?_, fun k => ?_, fun k => ?_, fun k => ?_, fun k => ?_⟩
 ·(try rw [lset_ne hi19]); (try rw [lset_ne hi20]); by_cases hx : i = 0
  ·rwa [if_pos hx] at e0
  ·rw [if_neg hx] at e0; rw [lset_ne hx] at k; rw [e0]; exact h.f0 k
 ·(try rw [lset_ne hi19]); (try rw [lset_ne hi20]); by_cases hx : i = 1
  ·rwa [if_pos hx] at e1
  ·rw [if_neg hx] at e1; rw [lset_ne hx] at k; rw [e1]; exact h.f1 k
 ·(try rw [lset_ne hi19]); (try rw [lset_ne hi20]); by_cases hx : i = 2
  ·rwa [if_pos hx] at e2
  ·rw [if_neg hx] at e2; rw [lset_ne hx] at k; rw [e2]; exact h.f2 k
 ·(try rw [lset_ne hi19]); (try rw [lset_ne hi20]); by_cases hx : i = 3
  ·rwa [if_pos hx] at e3
  ·rw [if_neg hx] at e3; rw [lset_ne hx] at k; rw [e3]; exact h.f3 k
 ·(try rw [lset_ne hi19]); (try rw [lset_ne hi20]); by_cases hx : i = 4
  ·rwa [if_pos hx] at e4
  ·rw [if_neg hx] at e4; rw [lset_ne hx] at k; rw [e4]; exact h.f4 k
 ·(try rw [lset_ne hi19]); (try rw [lset_ne hi20]); by_cases hx : i = 5
  ·rwa [if_pos hx] at e5
  ·rw [if_neg hx] at e5; rw [lset_ne hx] at k; rw [e5]; exact h.f5 k
 ·(try rw [lset_ne hi19]); (try rw [lset_ne hi20]); by_cases hx : i = 6
  ·rwa [if_pos hx] at e6
  ·rw [if_neg hx] at e6; rw [lset_ne hx] at k; rw [e6]; exact h.f6 k
 ·(try rw [lset_ne hi19]); (try rw [lset_ne hi20]); by_cases hx : i = 7
  ·rwa [if_pos hx] at e7
  ·rw [if_neg hx] at e7; rw [lset_ne hx] at k; rw [e7]; exact h.f7 k
 ·(try rw [lset_ne hi19]); (try rw [lset_ne hi20]); by_cases hx : i = 8
  ·rwa [if_pos hx] at e8
  ·rw [if_neg hx] at e8; rw [lset_ne hx] at k; rw [e8]; exact h.f8 k
 ·(try rw [lset_ne hi19]); (try rw [lset_ne hi20]); by_cases hx : i = 9
  ·rwa [if_pos hx] at e9
  ·rw [if_neg hx] at e9; rw [lset_ne hx] at k; rw [e9]; exact h.f9 k
 ·(try rw [lset_ne hi19]); (try rw [lset_ne hi20]); by_cases hx : i = 10
  ·rwa [if_pos hx] at e10
  ·rw [if_neg hx] at e10; rw [lset_ne hx] at k; rw [e10]; exact h.f10 k
 ·(try rw [lset_ne hi19]); (try rw [lset_ne hi20]); by_cases hx : i = 11
  ·rwa [if_pos hx] at e11
  ·rw [if_neg hx] at e11; rw [lset_ne hx] at k; rw [e11]; exact h.f11 k
 ·(try rw [lset_ne hi19]); (try rw [lset_ne hi20]); by_cases hx : i = 12
  ·rwa [if_pos hx] at e12
  ·rw [if_neg hx] at e12; rw [lset_ne hx] at k; rw [e12]; exact h.f12 k
 ·(try rw [lset_ne hi19]); (try rw [lset_ne hi20]); by_cases hx : i = 13
  ·rwa [if_pos hx] at e13
  ·rw [if_neg hx] at e13; rw [lset_ne hx] at k; rw [e13]; exact h.f13 k
 ·(try rw [lset_ne hi19]); (try rw [lset_ne hi20]); by_cases hx : i = 14
  ·rwa [if_pos hx] at e14
  ·rw [if_neg hx] at e14; rw [lset_ne hx] at k; rw [e14]; exact h.f14 k
 ·(try rw [lset_ne hi19]); (try rw [lset_ne hi20]); by_cases hx : i = 15
  ·rwa [if_pos hx] at e15
  ·rw [if_neg hx] at e15; rw [lset_ne hx] at k; rw [e15]; exact h.f15 k
 ·(try rw [lset_ne hi19]); (try rw [lset_ne hi20]); by_cases hx : i = 16
  ·rwa [if_pos hx] at e16
  ·rw [if_neg hx] at e16; rw [lset_ne hx] at k; rw [e16]; exact h.f16 k
 ·(try rw [lset_ne hi19]); (try rw [lset_ne hi20]); by_cases hx : i = 17
  ·rwa [if_pos hx] at e17
  ·rw [if_neg hx] at e17; rw [lset_ne hx] at k; rw [e17]; exact h.f17 k
 ·(try rw [lset_ne hi19]); (try rw [lset_ne hi20]); by_cases hx : i = 18
  ·rwa [if_pos hx] at e18
  ·rw [if_neg hx] at e18; rw [lset_ne hx] at k; rw [e18]; exact h.f18 k
theorem RI.st19 (hrd : ∀ s ∈ rd, s.size ≠ 0) (hwr : ∀ s ∈ wr, s.size ≠ 0) (hmr : ∀ s ∈ m.rd, s.size ≠ 0) (hmw : ∀ s ∈ m.wr, s.size ≠ 0) (h : RI w v0 vs vq q g cap B cs out y z rd wr pb po n s an m L W x25 x26 x27 x28 x29 x30 x31 x32 x33 x34 x35 x36 x24 x37 x38 x39 x11 x12 x10) (k14 : L.getD 14 false = true) (k16 : L.getD 16 false = true) (k19 : L.getD 19 false = false) :
  ∃ b, x11 = .pointer (some ⟨b, 0, none⟩) ∧ x38 = ansV an ∧ W.heap[b]? = some (.cells #[.int .i64 0, .int .i64 0, .string ⟨#[]⟩] 66 (0, 0)) ∧ RI w v0 vs vq q g cap B cs out y z rd wr pb po n s an m (L.setIfInBounds 19 true) (W.setB b (.cells #[.int .i64 an.code, .int .i64 an.n, .string an.text] 66 (0, 0))) x25 x26 x27 x28 x29 x30 x31 x32 x33 x34 x35 x36 x24 x37 x38 x39 x11 x12 x10 := by
 obtain ⟨b, e11, hb, hbq, hbg, h1 | h1⟩ := h.f16 k16
 case inr => rw [h1.1] at k19; cases k19
 have hB := h1.2
 have hz := World.lt_of_get hB
 have kk := fun {j : Nat} (hj : 19 ≠ j) (k : (L.setIfInBounds 19 true).getD j false = true) => (lset_ne (L := L) hj) ▸ k
 have N : ∀ k, b ≠ k → (W.setB b (.cells #[.int .i64 an.code, .int .i64 an.n, .string an.text] 66 (0, 0))).heap[k]? = W.heap[k]? := fun k hk => World.setB_get _ _ _ _ (Ne.symm hk)
 have C : ∀ i, (W.setB b (.cells #[.int .i64 an.code, .int .i64 an.n, .string an.text] 66 (0, 0))).cell? ⟨pb, i, none⟩ = W.cell? ⟨pb, i, none⟩ := fun i => World.cell?_of_block (w := W) (a := ⟨pb, i, none⟩) (N pb (by have := h.lt; omega))
 refine ⟨b, e11, h.f14 k14, hB, ⟨by rw [Array.size_setIfInBounds]; exact h.sz, fun _ => by rw [lset_ne (by decide)]; exact k16, fun k => by rw [lset_ne (by decide)]; exact h.c20 (kk (by decide) k), below_setB h.bel (by omega) _, (N _ (by omega)).trans h.P, (N _ hbq).trans h.Q, h.A.setB (Ne.symm hbg) _, rdl_ansC h.r0 hB _, rdl_ansS hrd h.ry hB _, rdl_ansS hwr h.rz hB _, (C _).trans h.p0, (C _).trans h.p1, (C _).trans h.p2, (C _).trans h.p3, (C _).trans h.p4, (C _).trans h.p5, (C _).trans h.p6, h.lt,
  fun k => h.f0 (kk (by decide) k), fun k => h.f1 (kk (by decide) k), fun k => h.f2 (kk (by decide) k), fun k => h.f3 (kk (by decide) k), fun k => h.f4 (kk (by decide) k), fun k => h.f5 (kk (by decide) k), fun k => h.f6 (kk (by decide) k), fun k => h.f7 (kk (by decide) k), fun k => h.f8 (kk (by decide) k), fun k => h.f9 (kk (by decide) k), fun k => h.f10 (kk (by decide) k), fun k => ?_, fun k => ?_, fun k => rdl_ansC (h.f13 (kk (by decide) k)) hB _, fun k => h.f14 (kk (by decide) k), fun k => ?_, fun k => ?_, fun k => ?_, fun k => rdl_ansC (h.f18 (kk (by decide) k)) hB _⟩⟩
 ·obtain ⟨c0, c1, c2, e, hm⟩ := h.f11 (kk (by decide) k)
  exact ⟨c0, c1, c2, e, hm.ansBox hmr hmw hB _⟩
 ·obtain ⟨c0, c1, c2, e, hm⟩ := h.f12 (kk (by decide) k)
  exact ⟨c0, c1, c2, e, hm.ansBox hmr hmw hB _⟩
 ·obtain ⟨c, d, e, h3, h4⟩ := h.f15 (kk (by decide) k)
  exact ⟨c, d, e, rdl_ansS hmr h3 hB _, rdl_ansS hmw h4 hB _⟩
 ·exact ⟨b, e11, hb, hbq, hbg, .inr ⟨lset_eq (by rw [h.sz]; decide), World.setB_at _ _ _ hz⟩⟩
 ·obtain ⟨b', e, h3, h4, h5, h6⟩ := h.f17 (kk (by decide) k)
  have hne : b ≠ b' := by
   rintro rfl
   rcases h6 with h6 | ⟨_, c, d, h6, _⟩
   ·have h7 := h6.2; rw [hB] at h7; cases h7
   ·rw [hB] at h6; cases h6
  refine ⟨b', e, h3, h4, h5, ?_⟩
  rw [lset_ne (by decide), N b' hne]
  rcases h6 with h6 | ⟨h7, c, d, h6, h8, h9⟩
  ·exact .inl h6
  ·exact .inr ⟨h7, c, d, h6, rdl_ansS hmr h8 hB _, rdl_ansS hmw h9 hB _⟩
theorem RI.st20 (h : RI w v0 vs vq q g cap B cs out y z rd wr pb po n s an m L W x25 x26 x27 x28 x29 x30 x31 x32 x33 x34 x35 x36 x24 x37 x38 x39 x11 x12 x10) (k15 : L.getD 15 false = true) (k17 : L.getD 17 false = true) (k20 : L.getD 20 false = false) :
  ∃ b a0 c0 a1 c1, x12 = .pointer (some ⟨b, 0, none⟩) ∧ x39 = .agg #[.slice a0 m.rd.length c0, .slice a1 m.wr.length c1] ∧ W.heap[b]? = some (.cells #[.slice none 0 0, .slice none 0 0] 50 (0, 0)) ∧ RI w v0 vs vq q g cap B cs out y z rd wr pb po n s an m (L.setIfInBounds 20 true) (W.setB b (.cells #[.slice a0 m.rd.length c0, .slice a1 m.wr.length c1] 50 (0, 0))) x25 x26 x27 x28 x29 x30 x31 x32 x33 x34 x35 x36 x24 x37 x38 x39 x11 x12 x10 := by
 obtain ⟨b, e12, hb, hbq, hbg, h1 | h1⟩ := h.f17 k17
 case inr => rw [h1.1] at k20; cases k20
 have hB := h1.2
 have hz := World.lt_of_get hB
 obtain ⟨c, d, e39, q0, q1⟩ := h.f15 k15
 obtain ⟨a0, c0, rfl⟩ := q0.form
 obtain ⟨a1, c1, rfl⟩ := q1.form
 have kk := fun {j : Nat} (hj : 20 ≠ j) (k : (L.setIfInBounds 20 true).getD j false = true) => (lset_ne (L := L) hj) ▸ k
 have N : ∀ k, b ≠ k → (W.setB b (.cells #[.slice a0 m.rd.length c0, .slice a1 m.wr.length c1] 50 (0, 0))).heap[k]? = W.heap[k]? := fun k hk => World.setB_get _ _ _ _ (Ne.symm hk)
 have C : ∀ i, (W.setB b (.cells #[.slice a0 m.rd.length c0, .slice a1 m.wr.length c1] 50 (0, 0))).cell? ⟨pb, i, none⟩ = W.cell? ⟨pb, i, none⟩ := fun i => World.cell?_of_block (w := W) (a := ⟨pb, i, none⟩) (N pb (by have := h.lt; omega))
 have S := fun {v : Value} {xs : List ByteArray} (hv : RdL rStr W v xs) => rdl_noS (str_strs _) hv hB nil2_noS (.cells #[.slice a0 m.rd.length c0, .slice a1 m.wr.length c1] 50 (0, 0))
 have SC := fun {v : Value} {xs : List CellD} (hv : RdL rCell W v xs) => rdl_noS (str_cells _) hv hB nil2_noS (.cells #[.slice a0 m.rd.length c0, .slice a1 m.wr.length c1] 50 (0, 0))
 refine ⟨b, a0, c0, a1, c1, e12, e39, hB, ⟨by rw [Array.size_setIfInBounds]; exact h.sz, fun k => by rw [lset_ne (by decide)]; exact h.c19 (kk (by decide) k), fun _ => by rw [lset_ne (by decide)]; exact k17, below_setB h.bel (by omega) _, (N _ (by omega)).trans h.P, (N _ hbq).trans h.Q, h.A.setB (Ne.symm hbg) _, SC h.r0, S h.ry, S h.rz, (C _).trans h.p0, (C _).trans h.p1, (C _).trans h.p2, (C _).trans h.p3, (C _).trans h.p4, (C _).trans h.p5, (C _).trans h.p6, h.lt,
  fun k => h.f0 (kk (by decide) k), fun k => h.f1 (kk (by decide) k), fun k => h.f2 (kk (by decide) k), fun k => h.f3 (kk (by decide) k), fun k => h.f4 (kk (by decide) k), fun k => h.f5 (kk (by decide) k), fun k => h.f6 (kk (by decide) k), fun k => h.f7 (kk (by decide) k), fun k => h.f8 (kk (by decide) k), fun k => h.f9 (kk (by decide) k), fun k => h.f10 (kk (by decide) k), fun k => ?_, fun k => ?_, fun k => SC (h.f13 (kk (by decide) k)), fun k => h.f14 (kk (by decide) k), fun k => ?_, fun k => ?_, fun k => ?_, fun k => SC (h.f18 (kk (by decide) k))⟩⟩
 ·obtain ⟨c0, c1, c2, e, hm⟩ := h.f11 (kk (by decide) k)
  exact ⟨c0, c1, c2, e, hm.touchBox hB _⟩
 ·obtain ⟨c0, c1, c2, e, hm⟩ := h.f12 (kk (by decide) k)
  exact ⟨c0, c1, c2, e, hm.touchBox hB _⟩
 ·obtain ⟨c, d, e, h3, h4⟩ := h.f15 (kk (by decide) k)
  exact ⟨c, d, e, S h3, S h4⟩
 ·obtain ⟨b', e, h3, h4, h5, h6⟩ := h.f16 (kk (by decide) k)
  have hne : b ≠ b' := by
   rintro rfl
   rcases h6 with h6 | h6 <;> (have h7 := h6.2; rw [hB] at h7; cases h7)
  refine ⟨b', e, h3, h4, h5, ?_⟩
  rw [lset_ne (by decide), N b' hne]
  exact h6
 ·exact ⟨b, e12, hb, hbq, hbg, .inr ⟨lset_eq (by rw [h.sz]; decide), _, _, World.setB_at _ _ _ hz, S q0, S q1⟩⟩
end
end Go.Proofs.YtieenbnmfaekiaaGreatDoor
