/- The records of a text: in plain words; lists of lists of cells that a call owns; RecordsIn of the reference. Each condition stands in its theorem. -/
import Derived.Test.YtedgenmbdjadkaaGreatDoorReadRS
import Derived.Test.YtedgenmbdjadkaaGreatDoorLines
set_option linter.unusedVariables false
set_option linter.unusedSimpArgs false
namespace Go.Proofs.YtedgenmbdjadkaaGreatDoor
open Go.ChangeShapes Go.WideShapes Go.ChangeAt Go.RowKit

/-- one line more -/
def recStep (fr : Int) (out : List (List CellD)) (sz : Int) (line : ByteArray) : Option (List (List CellD) × Int) :=
  match readI line with
  | none => none
  | some (seq, cs) =>
    if out.length = 0 ∧ seq < fr then some (out, sz + line.size)
    else if seq = fr + out.length then some (out ++ [cs], sz + line.size)
    else none
def recs (fr : Int) : List ByteArray → List (List CellD) → Int → List (List CellD) × Int
  | [], out, sz => (out, sz)
  | l :: ls, out, sz => match recStep fr out sz l with
    | none => (out, sz)
    | some p => recs fr ls p.1 p.2
/-- the lines of a text -/
def linesB (s : ByteArray) : List ByteArray := (linesL s.data.toList).map strOf
theorem linesB_eq {s : ByteArray} {xs : List ByteArray} (h : xs.map (·.data.toList) = linesL s.data.toList) : xs = linesB s := by
  unfold linesB
  rw [← h, List.map_map]
  conv => lhs; rw [← List.map_id xs]
  refine List.map_congr_left fun x _ => ?_
  exact (strOf_data x).symm
def recsI (s : ByteArray) (fr : Int) : List (List CellD) × Int := if inB fr 1 100000 then recs fr (linesB s) [] 0 else ([], 0)
theorem recs_end (fr : Int) (ls : List ByteArray) (n : Nat) (out : List (List CellD)) (sz : Int) (h : ls.length ≤ n) : recs fr (ls.drop n) out sz = (out, sz) := by
  rw [List.drop_eq_nil_of_le h]
  rfl
theorem recs_none {fr : Int} {ls : List ByteArray} {n : Nat} {out : List (List CellD)} {sz : Int} (hn : n < ls.length) (h : recStep fr out sz ls[n] = none) : recs fr (ls.drop n) out sz = (out, sz) := by
  rw [List.drop_eq_getElem_cons hn]
  unfold recs
  rw [h]
theorem recs_some {fr : Int} {ls : List ByteArray} {n : Nat} {out : List (List CellD)} {sz : Int} {p : List (List CellD) × Int} (hn : n < ls.length) (h : recStep fr out sz ls[n] = some p) : recs fr (ls.drop n) out sz = recs fr (ls.drop (n + 1)) p.1 p.2 := by
  rw [List.drop_eq_getElem_cons hn]
  conv => lhs; unfold recs
  rw [h]
theorem step_no {fr : Int} {out : List (List CellD)} {sz : Int} {line : ByteArray} (h : readI line = none) : recStep fr out sz line = none := by
  unfold recStep
  rw [h]
theorem step_skip {fr seq : Int} {cs : List CellD} {out : List (List CellD)} {sz : Int} {line : ByteArray} (h : readI line = some (seq, cs)) (h1 : out.length = 0) (h2 : seq < fr) : recStep fr out sz line = some (out, sz + line.size) := by
  unfold recStep
  rw [h]
  exact if_pos ⟨h1, h2⟩
theorem step_add {fr seq : Int} {cs : List CellD} {out : List (List CellD)} {sz : Int} {line : ByteArray} (h : readI line = some (seq, cs)) (h1 : seq = fr + out.length) : recStep fr out sz line = some (out ++ [cs], sz + line.size) := by
  unfold recStep
  rw [h]
  show (if _ then _ else if _ then _ else _) = _
  rw [if_neg (by omega), if_pos h1]
theorem step_stop {fr seq : Int} {cs : List CellD} {out : List (List CellD)} {sz : Int} {line : ByteArray} (h : readI line = some (seq, cs)) (h1 : ¬ (out.length = 0 ∧ seq < fr)) (h2 : seq ≠ fr + out.length) : recStep fr out sz line = none := by
  unfold recStep
  rw [h]
  show (if _ then _ else if _ then _ else _) = _
  rw [if_neg h1, if_neg h2]
/-- a slice value -/
structure SlH where
  ao : Option Addr
  n : Nat
  cap : Nat
def SlH.val (h : SlH) : Value := .slice h.ao h.n h.cap
def rSl : RowOf SlH := ⟨fun h => [h.val], 1, fun _ => rfl, fun h u hu => by simp at hu; subst hu; rfl⟩
theorem Tryz.elemCellSS : Elem Tryz.prog 22 35 1 24 := Elem.of (.slice none 0 0) Tryz.underlying22 (by kernel_rfl) rfl (by decide)
/-- a list of lists of cells that a call owns -/
structure OwnSS (w : World) (B : Nat) (v : Value) (ls : List (List CellD)) (hs : List SlH) (fps : List (List Nat)) : Prop where
  row : OwnL rSl 35 w B v hs
  el : RowsOwn (vSlice vCell 39) w (hs.map rSl.row) fps ls
  lo : ∀ b ∈ fps.flatten, B ≤ b
  nd : fps.flatten.Nodup
theorem cells_tag {w : World} {fp : List Nat} {cs : List Value} {xs : List CellD} {e : TypeId} (h : (vSlice vCell e).own w fp cs xs) : ∀ b ∈ fp, ∃ blk, w.heap[b]? = some (.cells blk e (0, 0)) := by
  intro b hb
  rcases h with ⟨_, _, rfl⟩ | ⟨g, cap, blk, css, fps, _, hh, _, _, _, _, rfl, _, h8, h9⟩
  · simp at hb
  · rcases List.mem_cons.1 hb with rfl | hb
    · exact ⟨blk, hh⟩
    · obtain ⟨l, hl, hbl⟩ := List.mem_flatten.1 hb
      obtain ⟨i, hi, rfl⟩ := List.getElem_of_mem hl
      have := (h9 i (by omega) (by omega) hi).1
      rw [this] at hbl
      simp at hbl
section
variable {w w' : World} {B : Nat} {v : Value} {ls : List (List CellD)} {hs : List SlH} {fps : List (List Nat)}
theorem OwnSS.len (h : OwnSS w B v ls hs fps) : hs.length = ls.length := by have := h.el.cl; simpa using this
theorem OwnSS.bel (h : OwnSS w B v ls hs fps) (hb : Below w.heap.size w w') : OwnSS w' B v ls hs fps :=
  ⟨own_bel h.row hb, h.el.frame fun b hm => (Grew.below hb) b (h.el.lt b hm), h.lo, h.nd⟩
theorem OwnSS.base {B' : Nat} (h : OwnSS w B v ls hs fps) (hb : B' ≤ B) : OwnSS w B' v ls hs fps := ⟨h.row.base hb, h.el, fun b hm => Nat.le_trans hb (h.lo b hm), h.nd⟩
theorem OwnSS.alloc (h : OwnSS w B v ls hs fps) (o : Obj) : OwnSS (w.alloc o) B v ls hs fps :=
  ⟨h.row.alloc o, h.el.frame fun b hm => Grew.alloc w o b (h.el.lt b hm), h.lo, h.nd⟩
theorem OwnSS.form (h : OwnSS w B v ls hs fps) : ∃ ao cap, v = .slice ao ls.length cap := by
  obtain ⟨ao, cap, e⟩ := h.row.rd.form
  exact ⟨ao, cap, by rw [e, h.len]⟩
theorem OwnSS.nil (w : World) (B : Nat) : OwnSS w B (.slice none 0 0) [] [] [] := ⟨OwnL.nil _ _ _ _, RowsOwn.nil _ _, by simp, by simp⟩
theorem OwnSS.empty (w : World) : OwnSS (w.alloc (.cells #[] 35)) w.heap.size (.slice (some ⟨w.heap.size, 0, none⟩) 0 0) [] [] [] := ⟨OwnL.empty _ _ _, RowsOwn.nil _ _, by simp, by simp⟩
/-- one list more -/
theorem OwnSS.snoc {ao : Option Addr} {n cap : Nat} {cs : List CellD} {fp : List Nat} {v' : Value} (h : OwnSS w B v ls hs fps) (hc : (vSlice vCell 39).own w fp [.slice ao n cap] cs) (hnd : fp.Nodup) (hlo : ∀ b ∈ fp, B ≤ b) (hap : ∀ b ∈ fps.flatten, b ∉ fp)
    (hr : OwnL rSl 35 w' B v' (hs ++ [⟨ao, n, cap⟩])) (hg : w.grownBy w' v.ownBlock) : OwnSS w' B v' (ls ++ [cs]) (hs ++ [⟨ao, n, cap⟩]) (fps ++ [fp]) := by
  have h1 := h.el.snoc hc
  refine ⟨hr, ?_, fun b hb => ?_, ?_⟩
  · rw [List.map_append]
    refine RowsOwn.frame h1 fun b hb => hg.block b (h1.lt b hb) fun e => ?_
    obtain ⟨l, hl, hbl⟩ := List.mem_flatten.1 hb
    obtain ⟨i, hi, rfl⟩ := List.getElem_of_mem hl
    obtain ⟨blk, hh⟩ := cells_tag (h1.el i (by have := h1.fl; omega) (by have := h1.fl; have := h1.cl; omega) hi) b hbl
    rcases h.row.2 with ⟨rfl, _⟩ | ⟨g, cap', cur, rfl, _, hh', _⟩
    · simp [Value.ownBlock] at e
    · have e : b = g := by simpa [Value.ownBlock] using e
      subst e
      rw [hh] at hh'
      injection hh' with hh'
      injection hh' with _ hh'
      exact absurd hh' (by decide)
  · rw [List.flatten_append] at hb
    rcases List.mem_append.1 hb with hb | hb
    · exact h.lo b hb
    · exact hlo b (by simpa using hb)
  · rw [List.flatten_append]
    refine List.nodup_append.2 ⟨h.nd, by simpa using hnd, fun a ha b hb e => ?_⟩
    subst e
    exact hap a ha (by simpa using hb)
theorem OwnSS.own (h : OwnSS w B v ls hs fps) : ∃ fp : List Nat, (vSlice (vSlice vCell 39) 35).own w fp [v] ls ∧ fp.Nodup ∧ ∀ b ∈ fp, B ≤ b := by
  have hl := h.len
  rcases h.row.2 with ⟨rfl, h0⟩ | ⟨g, cap, cur, rfl, hg, hh, hn, hm, hsz, ht⟩
  · have : ls = [] := List.eq_nil_of_length_eq_zero (by omega)
    subst this
    exact ⟨[], .inl ⟨rfl, rfl, rfl⟩, List.nodup_nil, by simp⟩
  · refine ⟨g :: fps.flatten, vSlice.ownRows hh hl hn hm hsz (by rw [← List.flatMap_def]; exact ht) h.el, ?_, ?_⟩
    · refine List.nodup_cons.2 ⟨fun hb => ?_, h.nd⟩
      obtain ⟨l, hl, hbl⟩ := List.mem_flatten.1 hb
      obtain ⟨i, hi, rfl⟩ := List.getElem_of_mem hl
      obtain ⟨blk, hh'⟩ := cells_tag (h.el.el i (by have := h.el.fl; omega) (by have := h.el.fl; have := h.el.cl; omega) hi) g hbl
      rw [hh] at hh'
      injection hh' with hh'
      injection hh' with _ hh'
      exact absurd hh' (by decide)
    · intro b hb
      rcases List.mem_cons.1 hb with rfl | hb
      · exact hg
      · exact h.lo b hb
end
/-- what the readers of records leave -/
def RsP (s : ByteArray) (fr : Int) (w : World) (e : Ending) (w' : World) : Prop := ∃ v sz ls hs fps, e = .returned (.tuple #[v, .int .i64 sz]) ∧ OwnSS w' w.heap.size v ls hs fps ∧ recsI s fr = (ls, sz) ∧ Below w.heap.size w w'
theorem RsP.mk {s : ByteArray} {fr sz : Int} {v : Value} {ls : List (List CellD)} {hs : List SlH} {fps : List (List Nat)} {w w' : World} (h1 : OwnSS w' w.heap.size v ls hs fps) (h2 : recsI s fr = (ls, sz)) (h3 : Below w.heap.size w w') : RsP s fr w (.returned (.tuple #[v, .int .i64 sz])) w' := ⟨v, sz, ls, hs, fps, rfl, h1, h2, h3⟩
theorem recsI_out {s : ByteArray} {fr : Int} (h : inB fr 1 100000 = false) : recsI s fr = ([], 0) := by unfold recsI; rw [h]; rfl
theorem recsI_in {s : ByteArray} {fr : Int} (h : inB fr 1 100000 = true) : recsI s fr = recs fr (linesB s) [] 0 := by unfold recsI; rw [h]; rfl
theorem linesB_len (s : ByteArray) : (linesB s).length ≤ s.size := by
  unfold linesB
  rw [List.length_map]
  have := linesL_len s.data.toList
  have e : s.data.toList.length = s.size := by simp
  omega
theorem first10 {l : List UInt8} (h : (10 : UInt8) ∈ l) : ∃ a r, l = a ++ 10 :: r ∧ (10 : UInt8) ∉ a := by
  induction l with
  | nil => cases h
  | cons b l ih =>
    by_cases e : b = 10
    · exact ⟨[], l, by rw [e]; rfl, by simp⟩
    · have hm : (10 : UInt8) ∈ l := by
        rcases List.mem_cons.1 h with h | h
        · exact absurd h.symm e
        · exact h
      obtain ⟨a, r, rfl, ha⟩ := ih hm
      refine ⟨b :: a, r, rfl, fun hm => ?_⟩
      rcases List.mem_cons.1 hm with hm | hm
      · exact e hm.symm
      · exact ha hm
theorem linesL_sum : ∀ (m : Nat) (l : List UInt8), l.length ≤ m → ((linesL l).map List.length).sum ≤ l.length
  | 0, l, h => by
    have : l = [] := List.eq_nil_of_length_eq_zero (by omega)
    subst this
    decide
  | m + 1, l, h => by
    by_cases hm : (10 : UInt8) ∈ l
    · obtain ⟨a, r, rfl, ha⟩ := first10 hm
      rw [List.length_append, List.length_cons] at h
      have := linesL_sum m r (by omega)
      rw [linesL_app r ha, List.map_cons, List.sum_cons, List.length_append, List.length_append, List.length_cons]
      simp
      omega
    · rw [linesL_none hm]
      simp
theorem mem_sum : ∀ (ns : List Nat) (n : Nat), n ∈ ns → n ≤ ns.sum
  | [], _, h => by cases h
  | m :: ns, n, h => by
    rcases List.mem_cons.1 h with rfl | h
    · simp
    · have := mem_sum ns n h
      simp
      omega
theorem linesB_mem {s x : ByteArray} (h : x ∈ linesB s) : x.size ≤ s.size := by
  unfold linesB at h
  obtain ⟨a, ha, rfl⟩ := List.mem_map.1 h
  have h1 := mem_sum ((linesL s.data.toList).map List.length) a.length (List.mem_map.2 ⟨a, ha, rfl⟩)
  have h2 := linesL_sum _ s.data.toList (Nat.le_refl _)
  have e : s.data.toList.length = s.size := by simp
  rw [strOf_size]
  omega
end Go.Proofs.YtedgenmbdjadkaaGreatDoor
