/- A new disk, and the marks of a disk of two slots: the program's and the reference's. Each condition stands in its theorem. -/
import Derived.Test.YtdelkphahpbegaaCloneC
import Derived.Test.YtdelkphahpbegaaCDisk
set_option linter.unusedVariables false
set_option linter.unusedSimpArgs false
namespace Go.Proofs.Ytdelkphahpbegaa
open Go.ChangeShapes Go.WideShapes Go.ChangeAt Go.RowKit

/-- a disk of two slots, the second of no cells -/
structure D2 (w : World) (b : Nat) (f0 : List Nat) (u0 : Value) (s0 s1 : SlotD) : Prop where
  blk : w.heap[b]? = some (.cells #[.int .i64 s0.seq, u0, .bool s0.whole, .int .i64 s1.seq, .slice none 0 0, .bool s1.whole] 50 (0, 0))
  own : (vSlice vCell 58).own w f0 [u0] s0.cells
  nb : b ∉ f0
  nil : s1.cells = []
theorem D2.grow {w w' : World} {b : Nat} {f0 : List Nat} {u0 : Value} {s0 s1 : SlotD} (h : D2 w b f0 u0 s0 s1) (g : Grew w w') : D2 w' b f0 u0 s0 s1 :=
  ⟨(g b (World.lt_of_get h.blk)).trans h.blk, View.ownGrow h.own g, h.nb, h.nil⟩
theorem D2.ext {w : World} {b : Nat} {f0 : List Nat} {u0 : Value} {s0 s1 : SlotD} (h : D2 w b f0 u0 s0 s1) (X : Ext) : D2 (w.ext X) b f0 u0 s0 s1 := h.grow (Grew.ext w X)
theorem D2.alloc {w : World} {b : Nat} {f0 : List Nat} {u0 : Value} {s0 s1 : SlotD} (h : D2 w b f0 u0 s0 s1) (o : Obj) : D2 (w.alloc o) b f0 u0 s0 s1 := h.grow (Grew.alloc w o)
theorem D2.merge {w : World} {b : Nat} {f0 : List Nat} {u0 : Value} {s0 s1 : SlotD} {xs bs : Array Obj} {d0 dr : Nat} (h : D2 (w.ext ⟨xs, d0⟩) b f0 u0 s0 s1) : D2 (w.ext ⟨xs ++ bs, dr⟩) b f0 u0 s0 s1 := by
  have := h.ext ⟨bs, dr⟩
  rwa [World.ext_ext] at this
theorem D2.upon {w w' : World} {b : Nat} {f0 fp : List Nat} {u0 : Value} {s0 s1 : SlotD} (h : D2 w b f0 u0 s0 s1) (g : Upon fp w w') (hd : ∀ x ∈ b :: f0, x ∉ fp) : D2 w' b f0 u0 s0 s1 :=
  ⟨(g.block b (World.lt_of_get h.blk) (hd b (by simp))).trans h.blk, View.ownUpon h.own g (fun x hx => hd x (List.mem_cons_of_mem _ hx)), h.nb, h.nil⟩
theorem D2.rd {w : World} {b : Nat} {f0 : List Nat} {u0 : Value} {s0 s1 : SlotD} (h : D2 w b f0 u0 s0 s1) : vDisk.rd w [.slice (some ⟨b, 0, none⟩) 2 2, .string ⟨#[]⟩, .int .i64 0] ⟨[s0, s1], ⟨⟨#[]⟩, 0⟩⟩ := by
  refine ⟨_, rfl, ⟨_, 2, [[.int .i64 s0.seq, u0, .bool s0.whole], [.int .i64 s1.seq, .slice none 0 0, .bool s1.whole]], rfl, Nat.le_refl _, by unfold maxLen; omega, (fun h => by cases h), rfl, fun i hi hc => ?_, fun _ => ⟨b, 0, rfl, World.lt_of_get h.blk, fun j u hj => ?_⟩⟩, by show (0 : Nat) ≤ _; omega⟩
  · match i, hi with
    | 0, _ => exact ⟨u0, rfl, View.toRd _ h.own⟩
    | 1, _ => exact ⟨_, rfl, by rw [show ([s0, s1][1]).cells = [] from h.nil]; exact View.toRd _ (.inl ⟨rfl, rfl, rfl⟩)⟩
  · rw [World.cell?_of_get h.blk, Nat.zero_add]
    simpa using hj
theorem alloc_sz (W : World) (o : Obj) : (W.alloc o).heap.size = W.heap.size + 1 := by simp
theorem at_new (W : World) (o : Obj) (n : Nat) (h : n = W.heap.size) : (W.alloc o).heap[n]? = some o := by
  subst h
  show (W.heap.push o)[_]? = _
  simp
theorem own_emptyC' (w : World) (o : Obj) : OwnL rCell 58 ((w.alloc o).alloc (.cells #[] 58)) (w.alloc o).heap.size (.slice (some ⟨w.heap.size + 1, 0, none⟩) 0 0) [] := by
  have h := OwnL.empty rCell 58 (w.alloc o)
  have e : (w.alloc o).heap.size = w.heap.size + 1 := by simp
  rwa [e] at h ⊢
theorem own_emptyC (w : World) (o : Obj) : OwnL rCell 58 ((w.alloc o).alloc (.cells #[] 58)) w.heap.size (.slice (some ⟨w.heap.size + 1, 0, none⟩) 0 0) [] := (own_emptyC' w o).base (by simp)
set_option maxRecDepth 100000 in
theorem spec_DiskNew (v : Value) (xs : List CellD) (w : World) (hs : RdL rCell w v xs) (hok : ∀ c ∈ xs, c.ok) (hl : xs.length ≤ 1048576) :
    Calls Try.prog 13 #[v] w fun e w' => ∃ (b : Nat) (f0 : List Nat) (u0 : Value), e = .returned (.agg #[.slice (some ⟨b, 0, none⟩) 2 2, .string ⟨#[]⟩, .int .i64 0]) ∧ D2 w' b f0 u0 ⟨0, xs, true⟩ ⟨0, [], false⟩ ∧ Sp w.heap.size w'.heap.size (b :: f0) ∧ Below w.heap.size w w'  := by
  obtain ⟨ao, cap, rfl, hc1, hc2, hnil, hne⟩ := hs.shape
  have HS := Lib.hid hs
  clear hs hne
  go_enter Try.func13, Try.ntmps13
  go_wp2_with (at_builtin; refine Stop.here ?_)
  refine wpList_appL rfl _ _ _ rfl (R := rCell) (e := 58) Try.elemCellS (B := (w.alloc (.cells #[.slice none 0 0, .string ⟨#[]⟩, .int .i64 0] 32)).heap.size) (v := .slice (some ⟨w.heap.size + 1, 0, none⟩) 0 0) (xs := []) (own_emptyC' w _) rfl ((HS.out.alloc _).alloc _) rfl (by simp only [List.length_nil]; omega) (by simp only [List.length_nil]; unfold maxLen; omega) (by simp) ?_
  intro v4 w4 hown4 hgr4 _
  have hb4 : Below (w.alloc (.cells #[.slice none 0 0, .string ⟨#[]⟩, .int .i64 0] 32)).heap.size (w.alloc (.cells #[.slice none 0 0, .string ⟨#[]⟩, .int .i64 0] 32)) w4 := Below.appL (a := w.alloc (.cells #[.slice none 0 0, .string ⟨#[]⟩, .int .i64 0] 32)) (R := rCell) (e := 58) (v := .slice (some ⟨w.heap.size + 1, 0, none⟩) 0 0) (xs := []) (by repeat (first | with_reducible exact Below.refl _ _ | with_reducible apply Below.ofExt | with_reducible apply Below.ofAlloc | with_reducible apply Below.drew | with_reducible apply Below.ofDrewN | with_reducible assumption | (with_reducible refine Below.setCell ?_ (by first | exact Nat.le_refl _ | (simp [go_sem]; done) | (simp [go_sem]; omega)) _))) hgr4 (own_emptyC' w _)
  obtain ⟨X, rfl⟩ := hb4.ext
  obtain ⟨oa, oc, ev⟩ := hown4.rd.form
  simp only [List.nil_append] at hown4 ev
  subst ev
  obtain ⟨f0, o1, o2, o3⟩ := own_of_cells hown4 hok
  have HO := Lib.hid o1
  clear o1 hown4
  go_wp2
  refine bodyPost_ret (by simp [results, Try.results13, go_sem]; rfl) rfl ?_
  have ol := View.lt _ HO.out
  simp only [World.ext_size, alloc_sz] at ol o3
  exact ⟨_, f0, _, rfl, ⟨at_new _ _ _ (by simp [World.ext_size]), View.ownAlloc (View.ownTail HO.out (fun k hk => by have := o3 k hk; simpa using this) (by simp) (Pre.refl _)) _, fun h => by have := ol _ h; omega, rfl⟩, ⟨List.nodup_cons.2 ⟨fun h => by have := ol _ h; omega, o2⟩, fun x hx => by
    rcases List.mem_cons.1 hx with rfl | hx
    · omega
    · have := o3 x hx; omega, fun x hx => by
    simp only [World.ext_size, alloc_sz]
    rcases List.mem_cons.1 hx with rfl | hx
    · omega
    · have := ol x hx; omega⟩, (by repeat (first | with_reducible exact Below.refl _ _ | with_reducible apply Below.ofExt | with_reducible apply Below.ofAlloc | with_reducible apply Below.drew | with_reducible apply Below.ofDrewN | with_reducible assumption | (with_reducible refine Below.setCell ?_ (by first | exact Nat.le_refl _ | (simp [go_sem]; done) | (simp [go_sem]; omega)) _)))⟩
set_option maxRecDepth 100000 in
theorem impl_DiskNew (v : Value) (xs : List CellD) (w : World) (hs : RdL rCell w v xs) (hok : ∀ c ∈ xs, c.ok) (hl : xs.length ≤ 1048576) :
    Calls Try.prog 15 #[v] w fun e w' => ∃ (b : Nat) (f0 : List Nat) (u0 : Value), e = .returned (.agg #[.slice (some ⟨b, 0, none⟩) 2 2, .string ⟨#[]⟩, .int .i64 0]) ∧ D2 w' b f0 u0 ⟨0, xs, true⟩ ⟨0, [], false⟩ ∧ Sp w.heap.size w'.heap.size (b :: f0) ∧ Below w.heap.size w w'  := by
  obtain ⟨ao, cap, rfl, hc1, hc2, hnil, hne⟩ := hs.shape
  have HS := Lib.hid hs
  clear hs hne
  go_enter Try.func15, Try.ntmps15
  go_wp2_with fail
  (go_at_call 32; refine (impl_CloneCells _ xs _ (HS.out.alloc _) hl).mono ?_; rintro e w' ⟨v', rfl, ho, hb⟩; obtain ⟨X, rfl⟩ := hb.ext; clear hb; obtain ⟨f0, o1, o2, o3⟩ := own_of_cells ho hok; obtain ⟨oa, oc, rfl⟩ := ho.rd.form; have HO := Lib.hid o1; clear o1 ho)
  go_wp2
  refine bodyPost_ret (by simp [results, Try.results15, go_sem]; rfl) rfl ?_
  have ol := View.lt _ HO.out
  simp only [World.ext_size, alloc_sz] at ol o3
  exact ⟨_, f0, _, rfl, ⟨at_new _ _ _ (by simp [World.ext_size]), View.ownAlloc (View.ownTail HO.out (fun k hk => by have := o3 k hk; simpa using this) (by simp) (Pre.refl _)) _, fun h => by have := ol _ h; omega, rfl⟩, ⟨List.nodup_cons.2 ⟨fun h => by have := ol _ h; omega, o2⟩, fun x hx => by
    rcases List.mem_cons.1 hx with rfl | hx
    · omega
    · have := o3 x hx; omega, fun x hx => by
    simp only [World.ext_size, alloc_sz]
    rcases List.mem_cons.1 hx with rfl | hx
    · omega
    · have := ol x hx; omega⟩, (by repeat (first | with_reducible exact Below.refl _ _ | with_reducible apply Below.ofExt | with_reducible apply Below.ofAlloc | with_reducible apply Below.drew | with_reducible apply Below.ofDrewN | with_reducible assumption | (with_reducible refine Below.setCell ?_ (by first | exact Nat.le_refl _ | (simp [go_sem]; done) | (simp [go_sem]; omega)) _)))⟩
end Go.Proofs.Ytdelkphahpbegaa
