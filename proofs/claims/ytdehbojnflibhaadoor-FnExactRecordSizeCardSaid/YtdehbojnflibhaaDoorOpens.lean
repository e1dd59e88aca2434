/- What a value that is handed to a law reads as, view by view. No condition but the stated ones. -/
import Derived.Test.YtdehbojnflibhaaDoorView
import Derived.Lib.SmallJoins
import Derived.Deep.Slices
namespace Go
open Go.RowKit Go.ChangeShapes Go.WideShapes Go.Deep

/-- a value of type T that can be read reads as data of the view -/
def Opens {α : Type} (P : Program) (T : TypeId) (V : View α) : Prop := ∀ (H : Type) (enc : TypeId × Value → H) (w : World) (fuel : Nat) {cs : List Value} {x : DataW H × List MemPlace},
  DataW.trod enc P w 0 (fun _ => true) true fuel T cs = some x → ∃ d, V.rd w cs d
theorem opensInt {P : Program} {T : TypeId} (ht : P.underlying T = some (.int .i64)) : Opens P T vInt := by
  intro H enc w fuel cs x h
  obtain ⟨n, rfl, _⟩ := DataW.trod_int ht h
  exact ⟨n, rfl, trivial⟩
theorem opensStr {P : Program} {T : TypeId} (ht : P.underlying T = some .string) : Opens P T vStr := by
  intro H enc w fuel cs x h
  obtain ⟨n, rfl, _, hz⟩ := DataW.trod_string ht h
  exact ⟨n, rfl, hz⟩
theorem opensBool {P : Program} {T : TypeId} (ht : P.underlying T = some .bool) : Opens P T vBool := by
  intro H enc w fuel cs x h
  obtain ⟨n, rfl, _⟩ := DataW.trod_bool ht h
  exact ⟨n, rfl, trivial⟩
theorem flat_cells {k : Nat} (w : World) (b : Nat) : ∀ (css : List (List Value)) (off : Nat), (∀ i (hc : i < css.length), (css[i]).length = k) →
    (∀ i (hc : i < css.length) (j : Nat), j < k → w.cell? ⟨b, off + i * k + j, none⟩ = css[i][j]?) → ∀ j u, css.flatten[j]? = some u → w.cell? ⟨b, off + j, none⟩ = some u
  | [], _, _, _, j, u, h => by simp at h
  | c :: r, off, hl, hc, j, u, h => by
    have h0 : c.length = k := hl 0 (by simp)
    rw [List.flatten_cons] at h
    by_cases hj : j < k
    · rw [List.getElem?_append_left (by omega)] at h
      have := hc 0 (by simp) j hj
      rw [Nat.zero_mul, Nat.add_zero] at this
      rw [this]
      exact h
    · rw [List.getElem?_append_right (by omega), h0] at h
      have := flat_cells w b r (off + k) (fun i hi => by have := hl (i + 1) (by simpa using hi); rwa [List.getElem_cons_succ] at this) (fun i hi q hq => by
        have := hc (i + 1) (by simpa using hi) q hq
        rw [List.getElem_cons_succ] at this
        rw [← this]
        congr 2
        rw [Nat.add_mul]
        omega) (j - k) u h
      rw [← this]
      congr 2
      omega
theorem add_none (b o n : Nat) : (⟨b, o, none⟩ : Addr).add n = ⟨b, o + n, none⟩ := addr_add b o n
theorem opens_slice {α : Type} {P : Program} {T E : TypeId} {V : View α} {e : TypeId} (ht : P.underlying T = some (.slice E)) (hc : P.cellsOf E = V.k) (hk : 0 < V.k) (hE : Opens P E V) : Opens P T (vSlice V e) := by
  intro H enc w fuel cs x h
  rcases open_slice ht h with ⟨rfl, _⟩ | ⟨a, len, cap, m, n, D, Pl, rfl, _, hl, hm, hmm, _, hi⟩
  · exact ⟨[], none, 0, [], rfl, Nat.le_refl _, Nat.zero_le _, fun _ => rfl, rfl, fun i hi => absurd hi (by simp), fun h => absurd rfl h⟩
  · have hmm2 : cap = m := hmm.symm
    subst hmm2
    have hi : ∀ i, i < cap → ∃ cs', w.cells? 0 (a.add (i * P.cellsOf E)) (P.cellsOf E) = some cs' ∧ DataW.trod enc P w 0 (fun _ => true) true n E cs' = some (D i, Pl i) := hi
    have hex : ∀ i, ∃ cs' : List Value, ∃ d : Option α, i < len → cs'.length = V.k ∧ (∀ j, j < V.k → w.cell? ((a.add (i * V.k)).add j) = cs'[j]?) ∧ ∃ d', d = some d' ∧ V.rd w cs' d' := by
      intro i
      by_cases hlt : i < len
      · obtain ⟨cs', h1, h2⟩ := hi i (by omega)
        rw [hc] at h1
        obtain ⟨_, h3, h4⟩ := World.cells?_some h1
        obtain ⟨d, hd⟩ := hE _ _ _ _ h2
        exact ⟨cs', some d, fun _ => ⟨h3, h4, d, rfl, hd⟩⟩
      · exact ⟨[], none, fun h => absurd h hlt⟩
    have hex2 : ∃ (f : Nat → List Value) (g : Nat → Option α), ∀ i, i < len → (f i).length = V.k ∧ (∀ j, j < V.k → w.cell? ((a.add (i * V.k)).add j) = (f i)[j]?) ∧ ∃ d', g i = some d' ∧ V.rd w (f i) d' :=
      ⟨fun i => (hex i).choose, fun i => (hex i).choose_spec.choose, fun i => (hex i).choose_spec.choose_spec⟩
    obtain ⟨f, g, hfg⟩ := hex2
    by_cases hz : len = 0
    · subst hz
      exact ⟨[], some a, cap, [], rfl, Nat.zero_le _, hm, (fun h => by cases h), rfl, fun i hi => absurd hi (by simp), fun h => absurd rfl h⟩
    · have h0 := (hfg 0 (by omega))
      have hd0 : ∃ d0 : α, True := by obtain ⟨_, _, d, _⟩ := h0; exact ⟨d, trivial⟩
      obtain ⟨d0, _⟩ := hd0
      obtain ⟨b, off, sp⟩ := a
      have hsp : sp = none := by
        cases sp with
        | none => rfl
        | some q =>
          have h2 := h0.2.1 0 hk
          rw [Nat.zero_mul] at h2
          have h3 : (f 0)[0]? = some ((f 0)[0]'(by rw [h0.1]; exact hk)) := List.getElem?_eq_getElem _
          rw [h3] at h2
          have e : ((⟨b, off, some q⟩ : Addr).add 0).add 0 = ⟨b, off, some q⟩ := by simp [Addr.add]
          rw [e] at h2
          unfold World.cell? at h2
          simp only [Option.isSome_some, if_true] at h2
          split at h2 <;> cases h2
      subst hsp
      refine ⟨(List.range len).map fun i => (g i).getD d0, some ⟨b, off, none⟩, cap, (List.range len).map f, by simp, by simpa using hl, hm, (fun h => by cases h), by simp, ?_, fun _ => ⟨b, off, rfl, ?_, ?_⟩⟩
      · intro i hi hci
        simp only [List.length_map, List.length_range] at hi hci
        obtain ⟨_, _, d', hd', hr⟩ := hfg i hi
        simp only [List.getElem_map, List.getElem_range, hd', Option.getD_some]
        exact hr
      · have h2 := h0.2.1 0 hk
        obtain ⟨u, hu⟩ : ∃ u, (f 0)[0]? = some u := ⟨_, List.getElem?_eq_getElem (by rw [h0.1]; exact hk)⟩
        rw [hu, add_none, add_none] at h2
        exact World.block_lt_of_cell? w _ h2
      · refine flat_cells (k := V.k) w b _ off (fun i hci => ?_) (fun i hci j hj => ?_)
        · simp only [List.length_map, List.length_range] at hci
          simpa using (hfg i hci).1
        · simp only [List.length_map, List.length_range] at hci
          have := (hfg i hci).2.1 j hj
          rw [add_none, add_none] at this
          simpa using this
/-- a struct among a law's arguments -/
theorem open_agg {α : Type} {P : Program} {T : TypeId} {V : View α} {fs : Array Field} (hs : P.underlying T = some (.struct fs)) (hO : Opens P T V) {H : Type} {enc : TypeId × Value → H} {W : World} {base : Nat} {v : Value} {d : DataW H} {p : List MemPlace}
    (hv : Value.okWide P W .any base T v) (h : DataW.Trod enc P W 0 (fun _ => true) true T v d p) : ∃ (cs : List Value) (x : α), v = .agg cs.toArray ∧ V.rd W cs x := by
  obtain ⟨cs, rfl, _⟩ := okWide_struct hs hv
  obtain ⟨fuel, hf⟩ := h
  obtain ⟨x, hx⟩ := hO _ _ _ _ hf
  exact ⟨cs.toList, x, by simp, hx⟩
/-- a slice among a law's arguments -/
theorem open_sl {α : Type} {P : Program} {T E e : TypeId} {V : View α} (hs : P.underlying T = some (.slice E)) (hO : Opens P T (vSlice V e)) {H : Type} {enc : TypeId × Value → H} {W : World} {base : Nat} {v : Value} {d : DataW H} {p : List MemPlace}
    (hv : Value.okWide P W .any base T v) (h : DataW.Trod enc P W 0 (fun _ => true) true T v d p) : ∃ x, (vSlice V e).rd W [v] x := by
  obtain ⟨a, len, cap, rfl⟩ := okWide_slice hs hv
  obtain ⟨fuel, hf⟩ := h
  exact hO _ _ _ _ hf
end Go
