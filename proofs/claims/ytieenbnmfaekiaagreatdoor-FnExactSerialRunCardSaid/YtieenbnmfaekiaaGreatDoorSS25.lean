/- Texts of this claim, merged: the walks and what they stand on. Each condition stands in its theorem. -/
import Derived.Test.YtieenbnmfaekiaaGreatDoorSS20
import Derived.Test.YtieenbnmfaekiaaGreatDoorSS24
set_option linter.unusedVariables false
set_option linter.unusedSimpArgs false
set_option maxRecDepth 100000
set_option maxHeartbeats 8000000
namespace Go.Proofs.YtieenbnmfaekiaaGreatDoor
open Go.ChangeShapes Go.WideShapes Go.ChangeAt Go.RowKit
structure JI (w : World) (va0 va1 vb0 vb1 : Value) (a0 a1 b0 b1 : List ByteArray) (L : Array Bool) (W : World) (x5 x8 x9 x10 x11 x12 x13 x14 x15 x16 : Value) : Prop where
 sz : L.size = 11
 c10 : L.getD 10 false = true → L.getD 9 false = true
 bel : Below w.heap.size w W
 P0 : W.heap[w.heap.size]? = some (.cells #[va0, va1] 50 (0, 0))
 P1 : W.heap[w.heap.size + 1]? = some (.cells #[vb0, vb1] 50 (0, 0))
 P2 : W.heap[w.heap.size + 1 + 1]? = some (.cells #[.slice none 0 0, .slice none 0 0] 50 (0, 0))
 r0 : RdL rStr W va0 a0
 r1 : RdL rStr W va1 a1
 s0 : RdL rStr W vb0 b0
 s1 : RdL rStr W vb1 b1
 f0 : L.getD 0 false = true → ∃ b, x8 = .slice (some ⟨b, 0, none⟩) 0 0 ∧ w.heap.size + 3 ≤ b ∧ W.heap[b]? = some (.cells #[] 9 (0, 0)) ∧ OwnL rStr 9 W (w.heap.size + 3) x8 []
 f1 : L.getD 1 false = true → x9 = .pointer (some ⟨w.heap.size, 0, none⟩)
 f2 : L.getD 2 false = true → x10 = va0
 f3 : L.getD 3 false = true → RdL rStr W x11 a0
 f4 : L.getD 4 false = true → ∃ b, x12 = .slice (some ⟨b, 0, none⟩) 0 0 ∧ w.heap.size + 3 ≤ b ∧ W.heap[b]? = some (.cells #[] 9 (0, 0)) ∧ OwnL rStr 9 W (w.heap.size + 3) x12 []
 f5 : L.getD 5 false = true → x13 = .pointer (some ⟨w.heap.size, 1, none⟩)
 f6 : L.getD 6 false = true → x14 = va1
 f7 : L.getD 7 false = true → RdL rStr W x15 a1
 f8 : L.getD 8 false = true → ∃ y z, x16 = .agg #[y, z] ∧ RdL rStr W y a0 ∧ RdL rStr W z a1
 f9 : L.getD 9 false = true → ∃ b, x5 = .pointer (some ⟨b, 0, none⟩) ∧ w.heap.size + 3 ≤ b ∧ ((L.getD 10 false = false ∧ W.heap[b]? = some (.cells #[.slice none 0 0, .slice none 0 0] 50 (0, 0))) ∨ (L.getD 10 false = true ∧ ∃ y z, W.heap[b]? = some (.cells #[y, z] 50 (0, 0)) ∧ RdL rStr W y a0 ∧ RdL rStr W z a1))
section
variable {w : World} {va0 va1 vb0 vb1 : Value} {a0 a1 b0 b1 : List ByteArray} {L : Array Bool} {W W' : World} {x5 x8 x9 x10 x11 x12 x13 x14 x15 x16 : Value}
theorem JI.grow (h : JI w va0 va1 vb0 vb1 a0 a1 b0 b1 L W x5 x8 x9 x10 x11 x12 x13 x14 x15 x16) (hb : Below W.heap.size W W') : JI w va0 va1 vb0 vb1 a0 a1 b0 b1 L W' x5 x8 x9 x10 x11 x12 x13 x14 x15 x16 := by
 have G := fun {k : Nat} {o : Obj} (hk : W.heap[k]? = some o) => (Grew.below hb k (World.lt_of_get hk)).trans hk
 refine ⟨h.sz, h.c10, Below.then h.bel hb, G h.P0, G h.P1, G h.P2, h.r0.below hb, h.r1.below hb, h.s0.below hb, h.s1.below hb, fun k => ?_, h.f1, h.f2, fun k => (h.f3 k).below hb, fun k => ?_, h.f5, h.f6, fun k => (h.f7 k).below hb, fun k => ?_, fun k => ?_⟩
 ·obtain ⟨b, e, h1, h2, h3⟩ := h.f0 k
  exact ⟨b, e, h1, G h2, own_belM h3 hb⟩
 ·obtain ⟨b, e, h1, h2, h3⟩ := h.f4 k
  exact ⟨b, e, h1, G h2, own_belM h3 hb⟩
 ·obtain ⟨y, z, e, h1, h2⟩ := h.f8 k
  exact ⟨y, z, e, h1.below hb, h2.below hb⟩
 ·obtain ⟨b, e, hb1, h1 | ⟨h1, y, z, h2, h3, h4⟩⟩ := h.f9 k
  ·exact ⟨b, e, hb1, .inl ⟨h1.1, G h1.2⟩⟩
  ·exact ⟨b, e, hb1, .inr ⟨h1, y, z, G h2, h3.below hb, h4.below hb⟩⟩
theorem JI.set (h : JI w va0 va1 vb0 vb1 a0 a1 b0 b1 L W x5 x8 x9 x10 x11 x12 x13 x14 x15 x16) {i : Nat} (hi : i < 10) {y5 y8 y9 y10 y11 y12 y13 y14 y15 y16 : Value}
  (e0 : if i = 0 then ∃ b, y8 = .slice (some ⟨b, 0, none⟩) 0 0 ∧ w.heap.size + 3 ≤ b ∧ W.heap[b]? = some (.cells #[] 9 (0, 0)) ∧ OwnL rStr 9 W (w.heap.size + 3) y8 [] else y8 = x8) (e1 : if i = 1 then y9 = .pointer (some ⟨w.heap.size, 0, none⟩) else y9 = x9) (e2 : if i = 2 then y10 = va0 else y10 = x10) (e3 : if i = 3 then RdL rStr W y11 a0 else y11 = x11)
  (e4 : if i = 4 then ∃ b, y12 = .slice (some ⟨b, 0, none⟩) 0 0 ∧ w.heap.size + 3 ≤ b ∧ W.heap[b]? = some (.cells #[] 9 (0, 0)) ∧ OwnL rStr 9 W (w.heap.size + 3) y12 [] else y12 = x12) (e5 : if i = 5 then y13 = .pointer (some ⟨w.heap.size, 1, none⟩) else y13 = x13) (e6 : if i = 6 then y14 = va1 else y14 = x14) (e7 : if i = 7 then RdL rStr W y15 a1 else y15 = x15)
  (e8 : if i = 8 then ∃ y z, y16 = .agg #[y, z] ∧ RdL rStr W y a0 ∧ RdL rStr W z a1 else y16 = x16)
  (e9 : if i = 9 then L.getD 10 false = false ∧ ∃ b, y5 = .pointer (some ⟨b, 0, none⟩) ∧ w.heap.size + 3 ≤ b ∧ W.heap[b]? = some (.cells #[.slice none 0 0, .slice none 0 0] 50 (0, 0)) else y5 = x5) :
  JI w va0 va1 vb0 vb1 a0 a1 b0 b1 (L.setIfInBounds i true) W y5 y8 y9 y10 y11 y12 y13 y14 y15 y16 := by
 have k10 : (L.setIfInBounds i true).getD 10 false = L.getD 10 false := lset_ne (by omega)
 have up : ∀ j, L.getD j false = true → (L.setIfInBounds i true).getD j false = true := fun j hj => by
  by_cases hx : i = j
  ·subst hx; exact lset_eq (by have := h.sz; omega)
  ·rw [lset_ne hx]; exact hj
 refine ⟨by rw [Array.size_setIfInBounds]; exact h.sz, fun k => up _ (h.c10 (k10 ▸ k)), h.bel, h.P0, h.P1, h.P2, h.r0, h.r1, h.s0, h.s1, fun k => ?_, fun k => ?_, fun k => ?_, fun k => ?_, fun k => ?_, fun k => ?_, fun k => ?_, fun k => ?_, fun k => ?_, fun k => ?_⟩
 ·by_cases hx : i = 0
  ·rwa [if_pos hx] at e0
  ·rw [if_neg hx] at e0; rw [lset_ne hx] at k; rw [e0]; exact h.f0 k
 ·by_cases hx : i = 1
  ·rwa [if_pos hx] at e1
  ·rw [if_neg hx] at e1; rw [lset_ne hx] at k; rw [e1]; exact h.f1 k
 ·by_cases hx : i = 2
  ·rwa [if_pos hx] at e2
  ·rw [if_neg hx] at e2; rw [lset_ne hx] at k; rw [e2]; exact h.f2 k
 ·by_cases hx : i = 3
  ·rwa [if_pos hx] at e3
  ·rw [if_neg hx] at e3; rw [lset_ne hx] at k; rw [e3]; exact h.f3 k
 ·by_cases hx : i = 4
  ·rwa [if_pos hx] at e4
  ·rw [if_neg hx] at e4; rw [lset_ne hx] at k; rw [e4]; exact h.f4 k
 ·by_cases hx : i = 5
  ·rwa [if_pos hx] at e5
  ·rw [if_neg hx] at e5; rw [lset_ne hx] at k; rw [e5]; exact h.f5 k
 ·by_cases hx : i = 6
  ·rwa [if_pos hx] at e6
  ·rw [if_neg hx] at e6; rw [lset_ne hx] at k; rw [e6]; exact h.f6 k
 ·by_cases hx : i = 7
  ·rwa [if_pos hx] at e7
  ·rw [if_neg hx] at e7; rw [lset_ne hx] at k; rw [e7]; exact h.f7 k
 ·by_cases hx : i = 8
  ·rwa [if_pos hx] at e8
  ·rw [if_neg hx] at e8; rw [lset_ne hx] at k; rw [e8]; exact h.f8 k
 ·rw [k10]
  by_cases hx : i = 9
  ·rw [if_pos hx] at e9
   obtain ⟨h1, b, e, h2, h3⟩ := e9
   exact ⟨b, e, h2, .inl ⟨h1, h3⟩⟩
  ·rw [if_neg hx] at e9; rw [lset_ne hx] at k; rw [e9]; exact h.f9 k
theorem nil2_noS : ∀ u ∈ (#[.slice none 0 0, .slice none 0 0] : Array Value), ∀ s, u ≠ .string s := by
 intro u hu s
 simp at hu
 subst hu
 simp
theorem JI.st10 (h : JI w va0 va1 vb0 vb1 a0 a1 b0 b1 L W x5 x8 x9 x10 x11 x12 x13 x14 x15 x16) (k8 : L.getD 8 false = true) (k9 : L.getD 9 false = true) (k10 : L.getD 10 false = false) :
  ∃ b p0 c0 p1 c1, x5 = .pointer (some ⟨b, 0, none⟩) ∧ x16 = .agg #[.slice p0 a0.length c0, .slice p1 a1.length c1] ∧ W.heap[b]? = some (.cells #[.slice none 0 0, .slice none 0 0] 50 (0, 0)) ∧ JI w va0 va1 vb0 vb1 a0 a1 b0 b1 (L.setIfInBounds 10 true) (W.setB b (.cells #[.slice p0 a0.length c0, .slice p1 a1.length c1] 50 (0, 0))) x5 x8 x9 x10 x11 x12 x13 x14 x15 x16 := by
 obtain ⟨b, e5, hb, h1 | h1⟩ := h.f9 k9
 case inr => rw [h1.1] at k10; cases k10
 obtain ⟨y, z, e16, q0, q1⟩ := h.f8 k8
 obtain ⟨p0, c0, rfl⟩ := q0.form
 obtain ⟨p1, c1, rfl⟩ := q1.form
 have hB := h1.2
 have hz := World.lt_of_get hB
 have N : ∀ k, k < w.heap.size + 3 → (W.setB b (.cells #[.slice p0 a0.length c0, .slice p1 a1.length c1] 50 (0, 0))).heap[k]? = W.heap[k]? := fun k hk => World.setB_get _ _ _ _ (by omega)
 have kk := fun {j : Nat} (hj : 10 ≠ j) (k : (L.setIfInBounds 10 true).getD j false = true) => (lset_ne (L := L) hj) ▸ k
 have S := fun {v : Value} {xs : List ByteArray} (hv : RdL rStr W v xs) => rdl_noS (str_strs _) hv hB nil2_noS (.cells #[.slice p0 a0.length c0, .slice p1 a1.length c1] 50 (0, 0))
 have EB : ∀ {x : Value}, (∃ b', x = .slice (some ⟨b', 0, none⟩) 0 0 ∧ w.heap.size + 3 ≤ b' ∧ W.heap[b']? = some (.cells #[] 9 (0, 0)) ∧ OwnL rStr 9 W (w.heap.size + 3) x []) → ∃ b', x = .slice (some ⟨b', 0, none⟩) 0 0 ∧ w.heap.size + 3 ≤ b' ∧ (W.setB b (.cells #[.slice p0 a0.length c0, .slice p1 a1.length c1] 50 (0, 0))).heap[b']? = some (.cells #[] 9 (0, 0)) ∧ OwnL rStr 9 (W.setB b (.cells #[.slice p0 a0.length c0, .slice p1 a1.length c1] 50 (0, 0))) (w.heap.size + 3) x [] := by
  rintro x ⟨b', rfl, h2, h3, h4⟩
  have hne : b' ≠ b := by rintro rfl; rw [hB] at h3; cases h3
  exact ⟨b', rfl, h2, (World.setB_get _ _ _ _ hne).trans h3, h4.setB (by simpa [Value.ownBlock] using hne) _⟩
 refine ⟨b, p0, c0, p1, c1, e5, e16, hB, ⟨by rw [Array.size_setIfInBounds]; exact h.sz, fun _ => by rw [lset_ne (by decide)]; exact k9, below_setB h.bel (by omega) _, (N _ (by omega)).trans h.P0, (N _ (by omega)).trans h.P1, (N _ (by omega)).trans h.P2, S h.r0, S h.r1, S h.s0, S h.s1, fun k => EB (h.f0 (kk (by decide) k)), fun k => h.f1 (kk (by decide) k), fun k => h.f2 (kk (by decide) k), fun k => S (h.f3 (kk (by decide) k)), fun k => EB (h.f4 (kk (by decide) k)), fun k => h.f5 (kk (by decide) k), fun k => h.f6 (kk (by decide) k), fun k => S (h.f7 (kk (by decide) k)), fun k => ?_, fun k => ?_⟩⟩
 ·exact ⟨_, _, e16, S q0, S q1⟩
 ·exact ⟨b, e5, hb, .inr ⟨lset_eq (by rw [h.sz]; decide), _, _, World.setB_at _ _ _ hz, S q0, S q1⟩⟩
end
structure JL (w : World) (q : Nat) (vb0 vb1 : Value) (b0 b1 : List ByteArray) (W : World) (y z : Value) (a0 a1 : List ByteArray) : Prop where
 bel : Below w.heap.size w W
 P1 : W.heap[w.heap.size + 1]? = some (.cells #[vb0, vb1] 50 (0, 0))
 P2 : W.heap[w.heap.size + 1 + 1]? = some (.cells #[.slice none 0 0, .slice none 0 0] 50 (0, 0))
 Q : W.heap[q]? = some (.cells #[y, z] 50 (0, 0))
 ry : RdL rStr W y a0
 rz : RdL rStr W z a1
 s0 : RdL rStr W vb0 b0
 s1 : RdL rStr W vb1 b1
theorem two_noS (a0 a1 : Option Addr) (n0 n1 c0 c1 : Nat) : ∀ u ∈ (#[.slice a0 n0 c0, .slice a1 n1 c1] : Array Value), ∀ s, u ≠ .string s := by
 intro u hu s
 simp at hu
 rcases hu with rfl | rfl <;> simp
theorem one_set {w : World} {q : Nat} {v : Value} {xs : List ByteArray} {X : Ext} {a0 a1 : Option Addr} {n0 n1 c0 c1 : Nat} (hq : q < w.heap.size) (h : RdL rStr ((w.setB q (.cells #[.slice a0 n0 c0, .slice a1 n1 c1] 50 (0, 0))).ext X) v xs) (o : Obj) : RdL rStr ((w.setB q o).ext X) v xs := by
 have hg : ((w.setB q (.cells #[.slice a0 n0 c0, .slice a1 n1 c1] 50 (0, 0))).ext X).heap[q]? = some (.cells #[.slice a0 n0 c0, .slice a1 n1 c1] 50 (0, 0)) := (World.ext_get _ X (by rw [World.setB_size]; exact hq)).trans (World.setB_at _ _ _ hq)
 have h1 := rdl_noS (str_strs _) h hg (two_noS _ _ _ _ _ _) o
 rw [World.setB_ext _ _ _ _ (by rw [World.setB_size]; exact hq)] at h1
 have e : (w.setB q (.cells #[.slice a0 n0 c0, .slice a1 n1 c1] 50 (0, 0))).setB q o = w.setB q o := by simp [go_sem]
 rwa [e] at h1
theorem JL.all {w : World} {q : Nat} {vb0 vb1 : Value} {b0 b1 : List ByteArray} {W : World} {e0 e1 : Option Addr} {n0 n1 d0 d1 : Nat} {a0 a1 : List ByteArray} (h : JL w q vb0 vb1 b0 b1 W (.slice e0 n0 d0) (.slice e1 n1 d1) a0 a1) (hq : w.heap.size + 3 ≤ q) (o : Obj) :
  Below w.heap.size w (W.setB q o) ∧ (W.setB q o).heap[w.heap.size + 1]? = some (.cells #[vb0, vb1] 50 (0, 0)) ∧ (W.setB q o).heap[w.heap.size + 1 + 1]? = some (.cells #[.slice none 0 0, .slice none 0 0] 50 (0, 0)) ∧ RdL rStr (W.setB q o) (.slice e0 n0 d0) a0 ∧ RdL rStr (W.setB q o) (.slice e1 n1 d1) a1 ∧ RdL rStr (W.setB q o) vb0 b0 ∧ RdL rStr (W.setB q o) vb1 b1 := by
 have S := fun {v : Value} {xs : List ByteArray} (hv : RdL rStr W v xs) => rdl_noS (str_strs _) hv h.Q (two_noS _ _ _ _ _ _) o
 exact ⟨below_setB h.bel (by omega) o, (World.setB_get _ _ _ _ (by omega)).trans h.P1, (World.setB_get _ _ _ _ (by omega)).trans h.P2, S h.ry, S h.rz, S h.s0, S h.s1⟩
theorem JL.laid {w : World} {q : Nat} {vb0 vb1 : Value} {b0 b1 : List ByteArray} {W : World} {e0 e1 : Option Addr} {n0 n1 d0 d1 : Nat} {a0 a1 : List ByteArray} (h : JL w q vb0 vb1 b0 b1 W (.slice e0 n0 d0) (.slice e1 n1 d1) a0 a1) (hq : w.heap.size + 3 ≤ q) {X : Ext} {y z : Value} {c0 c1 : List ByteArray}
  (hy : RdL rStr ((W.setB q (.cells #[.slice e0 n0 d0, .slice e1 n1 d1] 50 (0, 0))).ext X) y c0) (hz : RdL rStr ((W.setB q (.cells #[.slice e0 n0 d0, .slice e1 n1 d1] 50 (0, 0))).ext X) z c1) :
  JL w q vb0 vb1 b0 b1 ((W.setB q (.cells #[y, z] 50 (0, 0))).ext X) y z c0 c1 := by
 have hs := World.lt_of_get h.Q
 have k := h.all hq (.cells #[y, z] 50 (0, 0))
 have G := fun {j : Nat} {o : Obj} (hk : (W.setB q (.cells #[y, z] 50 (0, 0))).heap[j]? = some o) => (World.ext_get _ X (World.lt_of_get hk)).trans hk
 exact ⟨k.1.ofExt X, G k.2.1, G k.2.2.1, G (World.setB_at _ _ _ hs), one_set hs hy _, one_set hs hz _, k.2.2.2.2.2.1.ext X, k.2.2.2.2.2.2.ext X⟩
theorem joinS_len : ∀ (ys xs : List ByteArray), (joinS xs ys).length ≤ xs.length + ys.length
 | [], xs => Nat.le_refl _
 | y :: ys, xs => by
  have h := joinS_len ys (putS xs y)
  have h2 := putS_length xs y
  show (joinS (putS xs y) ys).length ≤ _
  rw [List.length_cons]
  omega
theorem spec_JoinTouch (va0 va1 vb0 vb1 : Value) (a0 a1 b0 b1 : List ByteArray) (w : World) (h0 : RdL rStr w va0 a0) (h1 : RdL rStr w va1 a1) (g0 : RdL rStr w vb0 b0) (g1 : RdL rStr w vb1 b1) (hl0 : a0.length + b0.length ≤ 1099511627776) (hl1 : a1.length + b1.length ≤ 1099511627776) :
  Calls Tryz.prog 31 #[.agg #[va0, va1], .agg #[vb0, vb1]] w fun e w' => ∃ v0 v1, e = .returned (.agg #[v0, v1]) ∧ RdL rStr w' v0 (joinS a0 b0) ∧ RdL rStr w' v1 (joinS a1 b1) ∧ Below w.heap.size w w' := by
 go_enter Tryz.func31, Tryz.ntmps31
 (skip); repeat (first | go_skip | go_guarded | go_step | go_upon | go_back)
 have H0 := Lib.hid h0
 have H1 := Lib.hid h1
 have G0 := Lib.hid g0
 have G1 := Lib.hid g1
 clear h0 h1 g0 g1
 refine wp_region_inv (fun L a W => ∃ x5 x8 x9 x10 x11 x12 x13 x14 x15 x16, a = ⟨#[.agg #[va0, va1], .agg #[vb0, vb1], .pointer (some ⟨w.heap.size, 0, none⟩), .pointer (some ⟨w.heap.size + 1, 0, none⟩), .pointer (some ⟨w.heap.size + 1 + 1, 0, none⟩), x5, undef, undef, x8, x9, x10, x11, x12, x13, x14, x15, x16, undef, undef, undef, undef, undef, undef, undef, undef, undef, undef, undef, undef, undef, undef, undef, undef, undef, undef, undef, undef, undef, undef, undef, undef, undef, undef, undef, undef, undef, undef, undef, undef, undef], []⟩ ∧ JI w va0 va1 vb0 vb1 a0 a1 b0 b1 L W x5 x8 x9 x10 x11 x12 x13 x14 x15 x16) (by kernel_rfl) ?_ ?_ ?_
 ·have N : ∀ j, ¬ (Array.replicate 11 false).getD j false = true := lset_no 11
  have h3 := heap3s w (.cells #[va0, va1] 50) (.cells #[vb0, vb1] 50) (.cells #[.slice none 0 0, .slice none 0 0] 50) w.heap.size rfl
  exact ⟨_, _, _, _, _, _, _, _, _, _, rfl, ⟨by simp, fun k => absurd k (N _), (by repeat (first | with_reducible exact Below.refl _ _ | with_reducible apply Below.ofAlloc | with_reducible apply Below.drew)), h3.1, h3.2.1, h3.2.2, RdL.drew (((H0.out.alloc _).alloc _).alloc _), RdL.drew (((H1.out.alloc _).alloc _).alloc _), RdL.drew (((G0.out.alloc _).alloc _).alloc _), RdL.drew (((G1.out.alloc _).alloc _).alloc _), fun k => absurd k (N _), fun k => absurd k (N _), fun k => absurd k (N _), fun k => absurd k (N _), fun k => absurd k (N _), fun k => absurd k (N _), fun k => absurd k (N _), fun k => absurd k (N _), fun k => absurd k (N _), fun k => absurd k (N _)⟩⟩
 ·rintro L a W i ⟨x5, x8, x9, x10, x11, x12, x13, x14, x15, x16, rfl, H⟩ hi
  have hlt := ready_lt hi
  have hun := ready_un hi
  have hW : Hid (∀ j, waitsFor _ i j = true → L.getD j false = true) := fun j h => ready_waits hi h
  have h12 : i < 11 := hlt
  clear hlt hi
  have hcs : i = 0 ∨ i = 1 ∨ i = 2 ∨ i = 3 ∨ i = 4 ∨ i = 5 ∨ i = 6 ∨ i = 7 ∨ i = 8 ∨ i = 9 ∨ i = 10 := by omega
  clear h12
  rcases hcs with rfl | rfl | rfl | rfl | rfl | rfl | rfl | rfl | rfl | rfl | rfl
  ·refine wpOp_of rfl (fun K hK => ?_)
   go_simp
   refine hK _ _ ⟨_, _, _, _, _, _, _, _, _, _, rfl, (H.grow (Below.ofAlloc (Below.refl _ _) _)).set (i := 0) (by decide) (by rw [if_pos rfl]; have hs := H.bel.size; have hs2 := World.lt_of_get H.P2; exact ⟨_, rfl, by omega, heap_alloc_new _ _, OwnL.base (OwnL.empty rStr _ _) (by omega)⟩) (by (simp; done)) (by (simp; done)) (by (simp; done)) (by (simp; done)) (by (simp; done)) (by (simp; done)) (by (simp; done)) (by (simp; done)) (by (simp; done))⟩
  ·refine wpOp_of rfl (fun K hK => ?_)
   go_simp
   refine hK _ _ ⟨_, _, _, _, _, _, _, _, _, _, rfl, H.set (i := 1) (by decide) (by (simp; done)) (by rw [if_pos rfl]) (by (simp; done)) (by (simp; done)) (by (simp; done)) (by (simp; done)) (by (simp; done)) (by (simp; done)) (by (simp; done)) (by (simp; done))⟩
  ·obtain rfl := H.f1 (hW.out 1 (by kernel_rfl))
   have p0 : W.cell? ⟨w.heap.size, 0, none⟩ = some va0 := (World.cell?_of_get (i := 0) H.P0).trans rfl
   have hz := World.lt_of_get H.P0
   obtain ⟨q0, d0, rfl⟩ := H.r0.form
   refine wpOp_of rfl (fun K hK => ?_)
   go_simp
   refine hK _ _ ⟨_, _, _, _, _, _, _, _, _, _, rfl, H.set (i := 2) (by decide) (by (simp; done)) (by (simp; done)) (by rw [if_pos rfl]) (by (simp; done)) (by (simp; done)) (by (simp; done)) (by (simp; done)) (by (simp; done)) (by (simp; done)) (by (simp; done))⟩
  ·obtain ⟨b, rfl, hb, hg, ho⟩ := H.f0 (hW.out 0 (by kernel_rfl))
   obtain rfl := H.f2 (hW.out 2 (by kernel_rfl))
   refine wpOp_of rfl (fun K hK => ?_)
   change Oper.wp _ _ _ _ _ _
   have hs := H.bel.size
   have hs2 := World.lt_of_get H.P2
   refine wp_appZ (.tmp 8) (.tmp 10) _ rfl Tryz.elemStrs ho (by omega) hg rfl H.r0 rfl (by omega) (by unfold maxLen; omega) ?_
   intro v' w' hr hbl
   refine hK _ _ ⟨_, _, _, _, _, _, _, _, _, _, rfl, (H.grow hbl).set (i := 3) (by decide) (by (simp; done)) (by (simp; done)) (by (simp; done)) (by rw [if_pos rfl]; exact hr) (by (simp; done)) (by (simp; done)) (by (simp; done)) (by (simp; done)) (by (simp; done)) (by (simp; done))⟩
  ·refine wpOp_of rfl (fun K hK => ?_)
   go_simp
   refine hK _ _ ⟨_, _, _, _, _, _, _, _, _, _, rfl, (H.grow (Below.ofAlloc (Below.refl _ _) _)).set (i := 4) (by decide) (by (simp; done)) (by (simp; done)) (by (simp; done)) (by (simp; done)) (by rw [if_pos rfl]; have hs := H.bel.size; have hs2 := World.lt_of_get H.P2; exact ⟨_, rfl, by omega, heap_alloc_new _ _, OwnL.base (OwnL.empty rStr _ _) (by omega)⟩) (by (simp; done)) (by (simp; done)) (by (simp; done)) (by (simp; done)) (by (simp; done))⟩
  ·refine wpOp_of rfl (fun K hK => ?_)
   go_simp
   refine hK _ _ ⟨_, _, _, _, _, _, _, _, _, _, rfl, H.set (i := 5) (by decide) (by (simp; done)) (by (simp; done)) (by (simp; done)) (by (simp; done)) (by (simp; done)) (by rw [if_pos rfl]) (by (simp; done)) (by (simp; done)) (by (simp; done)) (by (simp; done))⟩
  ·obtain rfl := H.f5 (hW.out 5 (by kernel_rfl))
   have p0 : W.cell? ⟨w.heap.size, 1, none⟩ = some va1 := (World.cell?_of_get (i := 1) H.P0).trans rfl
   have hz := World.lt_of_get H.P0
   obtain ⟨q0, d0, rfl⟩ := H.r1.form
   refine wpOp_of rfl (fun K hK => ?_)
   go_simp
   refine hK _ _ ⟨_, _, _, _, _, _, _, _, _, _, rfl, H.set (i := 6) (by decide) (by (simp; done)) (by (simp; done)) (by (simp; done)) (by (simp; done)) (by (simp; done)) (by (simp; done)) (by rw [if_pos rfl]) (by (simp; done)) (by (simp; done)) (by (simp; done))⟩
  ·obtain ⟨b, rfl, hb, hg, ho⟩ := H.f4 (hW.out 4 (by kernel_rfl))
   obtain rfl := H.f6 (hW.out 6 (by kernel_rfl))
   refine wpOp_of rfl (fun K hK => ?_)
   change Oper.wp _ _ _ _ _ _
   have hs := H.bel.size
   have hs2 := World.lt_of_get H.P2
   refine wp_appZ (.tmp 12) (.tmp 14) _ rfl Tryz.elemStrs ho (by omega) hg rfl H.r1 rfl (by omega) (by unfold maxLen; omega) ?_
   intro v' w' hr hbl
   refine hK _ _ ⟨_, _, _, _, _, _, _, _, _, _, rfl, (H.grow hbl).set (i := 7) (by decide) (by (simp; done)) (by (simp; done)) (by (simp; done)) (by (simp; done)) (by (simp; done)) (by (simp; done)) (by (simp; done)) (by rw [if_pos rfl]; exact hr) (by (simp; done)) (by (simp; done))⟩
  ·have k3 := H.f3 (hW.out 3 (by kernel_rfl))
   have k7 := H.f7 (hW.out 7 (by kernel_rfl))
   obtain ⟨q0, d0, rfl⟩ := k3.form
   obtain ⟨q1, d1, rfl⟩ := k7.form
   refine wpOp_of rfl (fun K hK => ?_)
   go_simp
   refine hK _ _ ⟨_, _, _, _, _, _, _, _, _, _, rfl, H.set (i := 8) (by decide) (by (simp; done)) (by (simp; done)) (by (simp; done)) (by (simp; done)) (by (simp; done)) (by (simp; done)) (by (simp; done)) (by (simp; done)) (by rw [if_pos rfl]; exact ⟨_, _, rfl, k3, k7⟩) (by (simp; done))⟩
  ·have k10 : L.getD 10 false = false := by cases h : L.getD 10 false with | false => rfl | true => exact absurd (H.c10 h) (by rw [hun]; decide)
   refine wpOp_of rfl (fun K hK => ?_)
   go_simp
   refine hK _ _ ⟨_, _, _, _, _, _, _, _, _, _, rfl, (H.grow (Below.ofAlloc (Below.refl _ _) _)).set (i := 9) (by decide) (by (simp; done)) (by (simp; done)) (by (simp; done)) (by (simp; done)) (by (simp; done)) (by (simp; done)) (by (simp; done)) (by (simp; done)) (by (simp; done)) (by rw [if_pos rfl]; exact ⟨k10, _, rfl, by have := H.bel.size; have := World.lt_of_get H.P2; omega, heap_alloc_new _ _⟩)⟩
  ·obtain ⟨b, p0, c0, p1, c1, rfl, rfl, hB, H'⟩ := H.st10 (hW.out 8 (by kernel_rfl)) (hW.out 9 (by kernel_rfl)) hun
   have e1 := World.setB_self hB
   have hz := World.lt_of_get hB
   refine wpOp_of rfl (fun K hK => ?_)
   rw [← e1]
   clear e1
   go_simp
   exact hK _ _ ⟨_, _, _, _, _, _, _, _, _, _, rfl, H'⟩
 ·rintro L a W ⟨x5, x8, x9, x10, x11, x12, x13, x14, x15, x16, rfl, H⟩ hr
  have hall := ready_none (ops := _) H.sz hr (backOnly_spec (by kernel_rfl))
  obtain ⟨b5, rfl, hb5, h9⟩ := H.f9 (hall 9 (by decide))
  have k10 := hall 10 (by decide)
  rcases h9 with h9 | ⟨_, y, z, h9, hy, hz⟩
  ·rw [k10] at h9; cases h9.1
  obtain ⟨e0, d0, rfl⟩ := hy.form
  obtain ⟨e1, d1, rfl⟩ := hz.form
  obtain ⟨u0, v0, rfl⟩ := H.s0.form
  obtain ⟨u1, v1, rfl⟩ := H.s1.form
  have HK : Hid (JL w b5 (.slice u0 b0.length v0) (.slice u1 b1.length v1) b0 b1 W (.slice e0 a0.length d0) (.slice e1 a1.length d1) a0 a1) := ⟨H.bel, H.P1, H.P2, h9, hy, hz, H.s0, H.s1⟩
  clear h9 hy hz H hall k10 hr H0 H1 G0 G1
  (try simp only []); repeat (first | go_skip | go_guarded | go_step | go_upon | go_back)
  go_loopw [6] (fun k wr => ∃ (n : Nat) (e0 : Option Addr) (d0 : Nat), k = .int .i64 n ∧ n ≤ b0.length ∧ JL w b5 (.slice u0 b0.length v0) (.slice u1 b1.length v1) b0 b1 wr (.slice e0 (joinS a0 (b0.take n)).length d0) (.slice e1 a1.length d1) (joinS a0 (b0.take n)) a1) (fun k _ => b0.length - (intOf k).toNat)
  case atStart => exact ⟨0, e0, d0, rfl, Nat.zero_le _, HK.out⟩
  case round =>
   clear HK
   obtain ⟨n, e0, d0, rfl, hn, hj⟩ := hrel
   have HJ := Lib.hid hj
   have hzq := World.lt_of_get hj.Q
   have e1 := World.setB_self hj.Q
   rw [← e1]
   have y1 : w.heap.size + 1 < wr.heap.size := World.lt_of_get hj.P1
   have y2 : w.heap.size + 1 + 1 < wr.heap.size := World.lt_of_get hj.P2
   clear e1 hj
   have p0 : ∀ o, (wr.setB b5 o).cell? ⟨w.heap.size + 1, 0, none⟩ = some (.slice u0 b0.length v0) := fun o => (World.cell?_of_get (i := 0) (HJ.out.all hb5 o).2.1).trans rfl
   have p1 : ∀ o, (wr.setB b5 o).cell? ⟨w.heap.size + 1, 1, none⟩ = some (.slice u1 b1.length v1) := fun o => (World.cell?_of_get (i := 1) (HJ.out.all hb5 o).2.1).trans rfl
   by_cases hlt : (n : Int) < b0.length
   case pos =>
    have hk2 : n < b0.length := by omega
    obtain ⟨b, off, rfl, hbl, hce⟩ := list_at (W := fun o r => wr.setB b5 o) (fun o r => (HJ.out.all hb5 o).2.2.2.2.2.1) hk2 (.cells #[] 0) (.cells #[] 0)
    rw [World.setB_size] at hbl
    have hce := fun o => hce o (.cells #[] 0)
    have hsn := joinS_snoc a0 (b0.take n) b0[n]
    rw [← List.take_succ_eq_append_getElem hk2] at hsn
    have HSN := Lib.hid hsn
    clear hsn
    generalize b0[n] = key at hce HSN
    have hjl := joinS_len (b0.take n) a0
    rw [List.length_take] at hjl
    generalize joinS a0 (b0.take n) = cur at HJ HSN hjl ⊢
    (skip); repeat (first | go_skip | go_guarded | go_step | go_upon | go_back)
    (refine wp_region_ordU (id := 5) [(0, true), (1, true), (2, true), (3, true), (4, true), (5, true), (6, true), (7, false), (8, false), (9, false)] 8 (by kernel_rfl) (by kernel_rfl) ?_)
    repeat (first | (refine wpOrd_quiet rfl (fun K hK => ?_); go_simp; refine hK _ ?_; clear hK K) | (refine wpOrd_grow rfl (fun K hK => ?_); go_simp; go_at_call 38; refine (spec_AddSpan _ cur key _ (by exact (HJ.out.all hb5 _).2.2.2.1) (by omega)).mono ?_; rintro e w' ⟨v', rfl, ho, hb⟩; obtain ⟨X, rfl⟩ := hb.ext; obtain ⟨f0, g0, rfl⟩ := ho.rd.form; have HO := Lib.hid ho.rd; clear ho hb; (try go_simp); refine hK _ _ (by show Sx _ _; repeat (first | with_reducible apply Sx.ext | with_reducible exact Sx.refl _)) ?_; clear hK K) | (refine wpOrd_tail rfl rfl (fun K hK => ?_); go_simp; refine hK _ _ ?_; clear hK K))
    refine wpOrd_nil ?_
    have hy := HO.out
    clear HO
    (try simp only [World.ext_ext, World.drew_ext, Array.append_assoc] at hy)
    have HN := Lib.hid (JL.laid HJ.out hb5 hy ((HJ.out.all hb5 _).2.2.2.2.1.ext X))
    clear hy
    (skip); repeat (first | go_skip | go_guarded | go_step | go_upon | go_back)
    go_roundw
    case rel => exact ⟨n + 1, f0, g0, by go_num, by omega, by rw [HSN.out]; exact HN.out⟩
    case measure => simp [intOf]; omega
   case neg =>
    have e : n = b0.length := by omega
    subst e
    rw [List.take_length] at HJ ⊢
    generalize hJ0 : joinS a0 b0 = c0 at HJ ⊢
    (skip); repeat (first | go_skip | go_guarded | go_step | go_upon | go_back)
    go_loopw [7] (fun k wr => ∃ (n : Nat) (e1 : Option Addr) (d1 : Nat), k = .int .i64 n ∧ n ≤ b1.length ∧ JL w b5 (.slice u0 b0.length v0) (.slice u1 b1.length v1) b0 b1 wr (.slice e0 c0.length d0) (.slice e1 (joinS a1 (b1.take n)).length d1) c0 (joinS a1 (b1.take n))) (fun k _ => b1.length - (intOf k).toNat)
    case atStart => exact ⟨0, e1, d1, rfl, Nat.zero_le _, ⟨(HJ.out.all hb5 _).1, (HJ.out.all hb5 _).2.1, (HJ.out.all hb5 _).2.2.1, World.setB_at _ _ _ hzq, (HJ.out.all hb5 _).2.2.2.1, (HJ.out.all hb5 _).2.2.2.2.1, (HJ.out.all hb5 _).2.2.2.2.2.1, (HJ.out.all hb5 _).2.2.2.2.2.2⟩⟩
    case round =>
     clear HJ hzq y1 y2 p0 p1
     obtain ⟨n, e1, d1, rfl, hn, hj⟩ := hrel
     have HJ := Lib.hid hj
     have hzq := World.lt_of_get hj.Q
     have ew := World.setB_self hj.Q
     rw [← ew]
     have y1 : w.heap.size + 1 < wr.heap.size := World.lt_of_get hj.P1
     have y2 : w.heap.size + 1 + 1 < wr.heap.size := World.lt_of_get hj.P2
     clear ew hj
     have p0 : ∀ o, (wr.setB b5 o).cell? ⟨w.heap.size + 1, 0, none⟩ = some (.slice u0 b0.length v0) := fun o => (World.cell?_of_get (i := 0) (HJ.out.all hb5 o).2.1).trans rfl
     have p1 : ∀ o, (wr.setB b5 o).cell? ⟨w.heap.size + 1, 1, none⟩ = some (.slice u1 b1.length v1) := fun o => (World.cell?_of_get (i := 1) (HJ.out.all hb5 o).2.1).trans rfl
     by_cases hlt : (n : Int) < b1.length
     case pos =>
      have hk2 : n < b1.length := by omega
      obtain ⟨b, off, rfl, hbl, hce⟩ := list_at (W := fun o r => wr.setB b5 o) (fun o r => (HJ.out.all hb5 o).2.2.2.2.2.2) hk2 (.cells #[] 0) (.cells #[] 0)
      rw [World.setB_size] at hbl
      have hce := fun o => hce o (.cells #[] 0)
      have hsn := joinS_snoc a1 (b1.take n) b1[n]
      rw [← List.take_succ_eq_append_getElem hk2] at hsn
      have HSN := Lib.hid hsn
      clear hsn
      generalize b1[n] = key at hce HSN
      have hjl := joinS_len (b1.take n) a1
      rw [List.length_take] at hjl
      generalize joinS a1 (b1.take n) = cur at HJ HSN hjl ⊢
      (skip); repeat (first | go_skip | go_guarded | go_step | go_upon | go_back)
      (refine wp_region_ordU (id := 9) [(0, true), (1, true), (2, true), (3, true), (4, true), (5, true), (6, true), (7, false), (8, false), (9, false)] 8 (by kernel_rfl) (by kernel_rfl) ?_)
      repeat (first | (refine wpOrd_quiet rfl (fun K hK => ?_); go_simp; refine hK _ ?_; clear hK K) | (refine wpOrd_grow rfl (fun K hK => ?_); go_simp; go_at_call 38; refine (spec_AddSpan _ cur key _ (by exact (HJ.out.all hb5 _).2.2.2.2.1) (by omega)).mono ?_; rintro e w' ⟨v', rfl, ho, hb⟩; obtain ⟨X, rfl⟩ := hb.ext; obtain ⟨f0, g0, rfl⟩ := ho.rd.form; have HO := Lib.hid ho.rd; clear ho hb; (try go_simp); refine hK _ _ (by show Sx _ _; repeat (first | with_reducible apply Sx.ext | with_reducible exact Sx.refl _)) ?_; clear hK K) | (refine wpOrd_tail rfl rfl (fun K hK => ?_); go_simp; refine hK _ _ ?_; clear hK K))
      refine wpOrd_nil ?_
      have hy := HO.out
      clear HO
      (try simp only [World.ext_ext, World.drew_ext, Array.append_assoc] at hy)
      have HN := Lib.hid (JL.laid HJ.out hb5 ((HJ.out.all hb5 _).2.2.2.1.ext X) hy)
      clear hy
      (skip); repeat (first | go_skip | go_guarded | go_step | go_upon | go_back)
      go_roundw
      case rel => exact ⟨n + 1, f0, g0, by go_num, by omega, by rw [HSN.out]; exact HN.out⟩
      case measure => simp [intOf]; omega
     case neg =>
      have e : n = b1.length := by omega
      subst e
      rw [List.take_length] at HJ ⊢
      have p2 : ∀ o, (wr.setB b5 o).heap[w.heap.size + 1 + 1]? = some (.cells #[.slice none 0 0, .slice none 0 0] 50 (0, 0)) := fun o => (HJ.out.all hb5 o).2.2.1
      generalize hJ1 : joinS a1 b1 = c1 at HJ ⊢
      have ew := World.setB_self (p2 (.cells #[.slice e0 c0.length d0, .slice e1 c1.length d1] 50 (0, 0)))
      rw [← ew]
      clear ew
      have y3 : w.heap.size + 1 + 1 < (wr.setB b5 (.cells #[.slice e0 c0.length d0, .slice e1 c1.length d1] 50 (0, 0))).heap.size := by rw [World.setB_size]; exact y2
      have n1 : ¬ b5 = w.heap.size + 1 + 1 := by omega
      have n2 : ¬ w.heap.size + 1 + 1 = b5 := by omega
      have HE : Hid (∀ o, RdL rStr ((wr.setB b5 (.cells #[.slice e0 c0.length d0, .slice e1 c1.length d1] 50 (0, 0))).setB (w.heap.size + 1 + 1) o) (.slice e0 c0.length d0) c0 ∧ RdL rStr ((wr.setB b5 (.cells #[.slice e0 c0.length d0, .slice e1 c1.length d1] 50 (0, 0))).setB (w.heap.size + 1 + 1) o) (.slice e1 c1.length d1) c1 ∧ Below w.heap.size w ((wr.setB b5 (.cells #[.slice e0 c0.length d0, .slice e1 c1.length d1] 50 (0, 0))).setB (w.heap.size + 1 + 1) o)) := fun o => ⟨rdl_noS (str_strs _) (HJ.out.all hb5 _).2.2.2.1 (p2 _) nil2_noS o, rdl_noS (str_strs _) (HJ.out.all hb5 _).2.2.2.2.1 (p2 _) nil2_noS o, below_setB (HJ.out.all hb5 _).1 (by omega) o⟩
      clear HJ p2
      (skip); repeat (first | go_skip | go_guarded | go_step | go_upon | go_back)
      refine bodyPost_ret (by simp [results, Tryz.results31, go_sem, y2, n1, n2]; rfl) rfl ?_
      subst hJ0
      subst hJ1
      exact ⟨_, _, rfl, (HE.out _).1, (HE.out _).2.1, (HE.out _).2.2⟩
def rAns : RowOf AnswerD := ⟨AnswerD.row, 3, fun _ => rfl, fun d u hu => by simp [AnswerD.row] at hu; rcases hu with rfl | rfl | rfl <;> rfl⟩
def zAns (k : Nat) : List Value := (List.replicate k [Value.int .i64 0, .int .i64 0, .string ⟨#[]⟩]).flatten
theorem zAns_len (k : Nat) : (zAns k).length = k * 3 := by
 unfold zAns
 induction k with
 | zero => rfl
 | succ k ih => rw [List.replicate_succ, List.flatten_cons, List.length_append, ih]; simp; omega
structure AnsIn (w : World) (B g cap : Nat) (xs : List AnswerD) : Prop where
 base : B ≤ g
 le : xs.length ≤ cap
 mx : cap ≤ maxLen
 at_ : w.heap[g]? = some (.cells (xs.flatMap rAns.row ++ zAns (cap - xs.length)).toArray 66 (0, 0))
theorem AnsIn.rd {w : World} {B g cap : Nat} {xs : List AnswerD} (h : AnsIn w B g cap xs) : RdL rAns w (.slice (some ⟨g, 0, none⟩) xs.length cap) xs := by
 refine .inr ⟨g, 0, cap, rfl, h.le, h.mx, fun j u hj => ?_⟩
 rw [World.cell?_of_get h.at_]
 rw [Nat.zero_add, List.getElem?_toArray, List.getElem?_append_left (List.getElem?_eq_some_iff.1 hj).1]
 exact hj
theorem AnsIn.below {w w' : World} {B g cap : Nat} {xs : List AnswerD} (h : AnsIn w B g cap xs) (hb : Below w.heap.size w w') : AnsIn w' B g cap xs :=
 ⟨h.base, h.le, h.mx, (Grew.below hb g (World.lt_of_get h.at_)).trans h.at_⟩
theorem AnsIn.setB {w : World} {B g cap : Nat} {xs : List AnswerD} (h : AnsIn w B g cap xs) {p : Nat} (hp : g ≠ p) (o : Obj) : AnsIn (w.setB p o) B g cap xs :=
 ⟨h.base, h.le, h.mx, (World.setB_get _ _ _ _ hp).trans h.at_⟩
theorem zAns_at : ∀ (k i : Nat) (u : Value), (zAns k)[i]? = some u → (i % 3 ≠ 2 ∧ u = .int .i64 0) ∨ (i % 3 = 2 ∧ u = .string ⟨#[]⟩)
 | 0, i, u, h => by simp [zAns] at h
 | k + 1, i, u, h => by
  have e : zAns (k + 1) = [Value.int .i64 0, .int .i64 0, .string ⟨#[]⟩] ++ zAns k := by unfold zAns; rw [List.replicate_succ, List.flatten_cons]
  rw [e] at h
  by_cases hi : i < 3
  ·rw [List.getElem?_append_left hi] at h
   have : i = 0 ∨ i = 1 ∨ i = 2 := by omega
   rcases this with rfl | rfl | rfl <;> simp at h <;> subst h
   ·exact .inl ⟨by decide, rfl⟩
   ·exact .inl ⟨by decide, rfl⟩
   ·exact .inr ⟨rfl, rfl⟩
  ·rw [List.getElem?_append_right (by simp; omega)] at h
   have ih := zAns_at k (i - 3) u (by simpa using h)
   have e2 : (i - 3) % 3 = i % 3 := by omega
   rwa [e2] at ih
theorem flat_ans_len (xs : List AnswerD) : (xs.flatMap rAns.row).length = xs.length * 3 := rAns.flat_len xs
theorem zAns_succ (k : Nat) : zAns (k + 1) = [Value.int .i64 0, .int .i64 0, .string ⟨#[]⟩] ++ zAns k := by unfold zAns; rw [List.replicate_succ, List.flatten_cons]
theorem ans_same {xs : List AnswerD} {x : AnswerD} {k i : Nat} {u : Value} (h : (xs.flatMap rAns.row ++ zAns (k + 1))[i]? = some u) : ((xs ++ [x]).flatMap rAns.row ++ zAns k)[i]? = some u ∨ (xs.length * 3 ≤ i ∧ ((i % 3 ≠ 2 ∧ u = .int .i64 0) ∨ (i % 3 = 2 ∧ u = .string ⟨#[]⟩))) := by
 by_cases hi : i < xs.length * 3
 ·left
  rw [List.getElem?_append_left (by rw [flat_ans_len]; exact hi)] at h
  rw [List.flatMap_append, List.append_assoc, List.getElem?_append_left (by rw [flat_ans_len]; exact hi)]
  exact h
 ·right
  refine ⟨by omega, ?_⟩
  rw [List.getElem?_append_right (by rw [flat_ans_len]; omega), flat_ans_len] at h
  have h2 := zAns_at _ _ _ h
  have e : (i - xs.length * 3) % 3 = i % 3 := by omega
  rwa [e] at h2
theorem rd_upd {α : Type} {R : RowOf α} {w w' : World} {v : Value} {ys : List α} {g : Nat} {t : TypeId} {xs : List AnswerD} {x : AnswerD} {k : Nat} (h : RdL R w v ys) (hg : w.grownBy w' (some g))
  (ho : w.heap[g]? = some (.cells (xs.flatMap rAns.row ++ zAns (k + 1)).toArray t (0, 0))) (hn : w'.heap[g]? = some (.cells ((xs ++ [x]).flatMap rAns.row ++ zAns k).toArray t (0, 0)))
  (hk : ∀ off, (∀ j u, (ys.flatMap R.row)[j]? = some u → (xs.flatMap rAns.row ++ zAns (k + 1))[off + j]? = some u) → ∀ j u, (ys.flatMap R.row)[j]? = some u → ¬ (xs.length * 3 ≤ off + j ∧ (((off + j) % 3 ≠ 2 ∧ u = .int .i64 0) ∨ ((off + j) % 3 = 2 ∧ u = .string ⟨#[]⟩)))) : RdL R w' v ys := by
 rcases h with h | ⟨b, off, cap, hv, h1, h2, h3⟩
 ·exact .inl h
 ·refine .inr ⟨b, off, cap, hv, h1, h2, fun j u hj => ?_⟩
  have hc := h3 j u hj
  by_cases hb : b = g
  ·subst hb
   have h3' : ∀ j u, (ys.flatMap R.row)[j]? = some u → (xs.flatMap rAns.row ++ zAns (k + 1))[off + j]? = some u := fun j u hj => by
    have := h3 j u hj
    rw [World.cell?_of_get ho] at this
    simpa using this
   rw [World.cell?_of_get hn]
   rcases ans_same (x := x) (h3' j u hj) with hs | hs
   ·simpa using hs
   ·exact absurd hs (hk off h3' j u hj)
  ·have hlt : b < w.heap.size := by
    unfold World.cell? at hc
    cases hw : w.heap[b]? with
    | none => simp [hw] at hc
    | some o => exact World.lt_of_get hw
   rw [World.cell?_of_block (w := w) (w' := w') (a := ⟨b, off + j, none⟩) (hg.block b hlt (by simpa using hb))]
   exact hc
theorem rd_updS {w w' : World} {v : Value} {ys : List ByteArray} {g : Nat} {t : TypeId} {xs : List AnswerD} {x : AnswerD} {k : Nat} (hn0 : ∀ s ∈ ys, s.size ≠ 0) (h : RdL rStr w v ys) (hg : w.grownBy w' (some g))
  (ho : w.heap[g]? = some (.cells (xs.flatMap rAns.row ++ zAns (k + 1)).toArray t (0, 0))) (hn : w'.heap[g]? = some (.cells ((xs ++ [x]).flatMap rAns.row ++ zAns k).toArray t (0, 0))) : RdL rStr w' v ys := by
 refine rd_upd h hg ho hn fun off _ j u hj => ?_
 rintro ⟨_, ⟨_, rfl⟩ | ⟨_, rfl⟩⟩
 ·obtain ⟨s, hs⟩ := str_strs ys _ (List.mem_of_getElem? hj)
  cases hs
 ·obtain ⟨s, hs, hu⟩ := List.mem_flatMap.1 (List.mem_of_getElem? hj)
  simp [rStr] at hu
  exact hn0 s hs (by rw [← hu]; rfl)
theorem rd_updC {w w' : World} {v : Value} {ys : List CellD} {g : Nat} {t : TypeId} {xs : List AnswerD} {x : AnswerD} {k : Nat} (h : RdL rCell w v ys) (hg : w.grownBy w' (some g))
  (ho : w.heap[g]? = some (.cells (xs.flatMap rAns.row ++ zAns (k + 1)).toArray t (0, 0))) (hn : w'.heap[g]? = some (.cells ((xs ++ [x]).flatMap rAns.row ++ zAns k).toArray t (0, 0))) : RdL rCell w' v ys := by
 have hlen : (ys.flatMap rCell.row).length = ys.length * 2 := rCell.flat_len ys
 refine rd_upd h hg ho hn fun off h3 j u hj => ?_
 rintro ⟨hge, hh⟩
 have hst := fun j u (hj : (ys.flatMap rCell.row)[j]? = some u) => str_cells ys _ (List.mem_of_getElem? hj)
 rcases hh with ⟨_, rfl⟩ | ⟨hm, _⟩
 ·obtain ⟨s, hs⟩ := hst _ _ hj
  cases hs
 ·have hjl := (List.getElem?_eq_some_iff.1 hj).1
  have other : ∀ i u, (ys.flatMap rCell.row)[i]? = some u → xs.length * 3 ≤ off + i → (off + i) % 3 = 2 := fun i u hi hgi => by
   rcases ans_same (x := x) (h3 i u hi) with _ | ⟨_, h5⟩
   ·have h6 := h3 i u hi
    rw [List.getElem?_append_right (by rw [flat_ans_len]; omega), flat_ans_len] at h6
    rcases zAns_at _ _ _ h6 with ⟨_, rfl⟩ | ⟨h7, _⟩
    ·obtain ⟨s, hs⟩ := hst _ _ hi
     cases hs
    ·omega
   ·rcases h5 with ⟨_, rfl⟩ | ⟨h7, _⟩
    ·obtain ⟨s, hs⟩ := hst _ _ hi
     cases hs
    ·exact h7
  by_cases hp : j % 2 = 0
  ·have hj1 : j + 1 < (ys.flatMap rCell.row).length := by omega
   have := other (j + 1) _ (List.getElem?_eq_getElem hj1) (by omega)
   omega
  ·have hj1 : j - 1 < (ys.flatMap rCell.row).length := by omega
   by_cases hg2 : xs.length * 3 ≤ off + (j - 1)
   ·have := other (j - 1) _ (List.getElem?_eq_getElem hj1) hg2
    omega
   ·omega
structure Keeps (w w' : World) (g : Nat) : Prop where
 grown : w.grownBy w' (some g)
 strs : ∀ v ys, (∀ s ∈ ys, s.size ≠ 0) → RdL rStr w v ys → RdL rStr w' v ys
 cells : ∀ v ys, RdL rCell w v ys → RdL rCell w' v ys
theorem Tryz.elemAnsQ : Elem Tryz.prog 27 66 3 32 := Elem.of (.agg #[.int .i64 0, .int .i64 0, .string ⟨#[]⟩]) Tryz.underlying27 (by kernel_rfl) rfl (by decide)
theorem Tryz.zeroAns : (Tryz.prog.info? 66).map (·.zero) = some (some (.agg #[.int .i64 0, .int .i64 0, .string ⟨#[]⟩])) := by kernel_rfl
theorem zeroCells_ans (n : Nat) : (Builtin.zeroCells (Value.agg #[.int .i64 0, .int .i64 0, .string ⟨#[]⟩]).cells n).toList = zAns n := by
 apply List.ext_getElem?
 intro i
 have hc : (Value.agg #[.int .i64 0, .int .i64 0, .string ⟨#[]⟩]).cells = #[.int .i64 0, .int .i64 0, .string ⟨#[]⟩] := rfl
 rw [hc]
 unfold Builtin.zeroCells
 by_cases hi : i < n * 3
 ·have h1 : i < (zAns n).length := by rw [zAns_len]; exact hi
  rw [List.getElem?_eq_getElem h1]
  have h2 := zAns_at n i _ (List.getElem?_eq_getElem h1)
  have hm : i % 3 = 0 ∨ i % 3 = 1 ∨ i % 3 = 2 := by omega
  rcases h2 with ⟨h3, h4⟩ | ⟨h3, h4⟩
  ·rw [h4]
   rcases hm with hm | hm | hm
   ·simp [hi, hm]
   ·simp [hi, hm]
   ·exact absurd hm h3
  ·rw [h4]
   simp [hi, h3]
 ·rw [List.getElem?_eq_none (show (zAns n).length ≤ i by rw [zAns_len]; omega)]
  rw [List.getElem?_eq_none]
  simp
  omega
theorem ansIn_app {w : World} {B g cap : Nat} {xs : List AnswerD} {ty : TypeId} (h : AnsIn w B g cap xs) (x : AnswerD) {v : Value} (hx : RdL rAns w v [x]) (hl : (xs.length + 1) * 32 ≤ 140737488355328) (hB : B ≤ w.heap.size) :
  ∃ g' cap' w', (Builtin.append_ #[27, 27] ty #[.slice (some ⟨g, 0, none⟩) xs.length cap, v]).run Tryz.prog w = .ok (.slice (some ⟨g', 0, none⟩) (xs.length + 1) cap') w' ∧ AnsIn w' B g' cap' (xs ++ [x]) ∧ Keeps w w' g := by
 have E := Tryz.elemAnsQ
 obtain ⟨i, z, hi, hz, hs, hby, hzs⟩ := E.hi
 have hze : z = .agg #[.int .i64 0, .int .i64 0, .string ⟨#[]⟩] := by
  have := Tryz.zeroAns
  rw [hi] at this
  simp only [Option.map_some, Option.some.injEq] at this
  rw [hz] at this
  exact Option.some.inj this
 subst hze
 have hxl : ([x].flatMap rAns.row).length = 1 * i.size := by rw [hs]; rfl
 have hbx := hx
 rcases hx with ⟨_, h1, _⟩ | ⟨b, off, c, rfl, _, _, hc⟩
 ·cases h1
 have hnews : ∀ j u, ([x].flatMap rAns.row)[j]? = some u → w.cell? ((⟨b, off, none⟩ : Addr).add j) = some u := fun j u hj => by rw [addr_add]; exact hc j u hj
 have hfl := flat_ans_len xs
 by_cases hroom : xs.length + 1 ≤ cap
 ·obtain ⟨k, hk⟩ : ∃ k, cap - xs.length = k + 1 := ⟨cap - xs.length - 1, by omega⟩
  have hat := h.at_
  rw [hk] at hat
  have hsz : (xs.flatMap rAns.row ++ zAns (k + 1)).toArray.size = xs.length * 3 + (k + 1) * 3 := by
   rw [List.size_toArray, List.length_append, hfl, zAns_len]
  have hr := run_append_room (P := Tryz.prog) w 27 ty 66 i E.ht hi g xs.length cap _ hat ⟨b, off, none⟩ 1 c ([x].flatMap rAns.row) hxl hnews (rAns.flat_one [x]) hroom (by rw [hsz, hxl, hs]; omega)
  have hcur : ((xs.flatMap rAns.row ++ zAns (k + 1)).toArray.toList.take (xs.length * i.size) ++ [x].flatMap rAns.row ++ (xs.flatMap rAns.row ++ zAns (k + 1)).toArray.toList.drop (xs.length * i.size + ([x].flatMap rAns.row).length)) = (xs ++ [x]).flatMap rAns.row ++ zAns k := by
   rw [hxl, hs, zAns_succ]
   have e1 : xs.length * 3 = (xs.flatMap rAns.row).length := hfl.symm
   have e3 : ([Value.int .i64 0, .int .i64 0, .string ⟨#[]⟩] : List Value).length = 1 * 3 := rfl
   rw [List.flatMap_append, e1, List.take_left, ← List.append_assoc (xs.flatMap rAns.row), List.drop_left' (by rw [List.length_append, e3])]
  rw [hcur] at hr
  have hn := setRow_heap w g (xs.flatMap rAns.row ++ zAns (k + 1)).toArray ((xs ++ [x]).flatMap rAns.row ++ zAns k).toArray 66 (0, 0) hat
  have hgr : w.grownBy (w.setRow g ((xs ++ [x]).flatMap rAns.row ++ zAns k).toArray) (some g) := by
   refine ⟨rfl, rfl, rfl, by simp [World.setRow], fun j hj hne => ?_⟩
   have : g ≠ j := fun e => hne (by rw [e])
   simp [World.setRow, Array.getElem?_modify, this]
  refine ⟨g, cap, _, hr, ⟨h.base, by simp; omega, h.mx, ?_⟩, ⟨hgr, fun v ys hn0 hv => rd_updS hn0 hv hgr hat hn, fun v ys hv => rd_updC hv hgr hat hn⟩⟩
  have e2 : cap - (xs ++ [x]).length = k := by simp; omega
  rw [e2]
  exact hn
 ·have hcap : cap = xs.length := by have := h.le; omega
  have holds : ∀ j u, (xs.flatMap rAns.row)[j]? = some u → w.cell? ((⟨g, 0, none⟩ : Addr).add j) = some u := fun j u hj => by
   rw [addr_add, World.cell?_of_get h.at_]
   rw [Nat.zero_add, List.getElem?_toArray, List.getElem?_append_left (List.getElem?_eq_some_iff.1 hj).1]
   exact hj
  have hr := run_append_grow (P := Tryz.prog) w 27 ty 66 i _ E.ht hi hz ⟨g, 0, none⟩ xs.length cap (xs.flatMap rAns.row) (by rw [hfl, hs]) holds ⟨b, off, none⟩ 1 c ([x].flatMap rAns.row) hxl hnews (by omega) (by omega) (growslice_fits (by omega) (by rw [hby]; omega))
  have hge := grownCap_ge w (xs.length + 1) cap 66
  have hmx := grownCap_le_maxLen w (xs.length + 1) cap 66 (by unfold maxLen; omega)
  generalize grownCap w (xs.length + 1) cap 66 = cap' at hr hge hmx
  have hA : (xs.flatMap rAns.row).toArray ++ ([x].flatMap rAns.row).toArray ++ Builtin.zeroCells (Value.agg #[.int .i64 0, .int .i64 0, .string ⟨#[]⟩]).cells (cap' - (xs.length + 1)) = ((xs ++ [x]).flatMap rAns.row ++ zAns (cap' - (xs ++ [x]).length)).toArray := by
   apply Array.toList_inj.1
   rw [Array.toList_append, Array.toList_append, zeroCells_ans, List.flatMap_append, List.length_append, List.length_singleton]
  rw [hA] at hr
  have hb : Below w.heap.size w (w.drew.alloc (.cells ((xs ++ [x]).flatMap rAns.row ++ zAns (cap' - (xs ++ [x]).length)).toArray 66)) := Below.ofAlloc (Below.drew (Below.refl _ _)) _
  have hn := heap_alloc_new w.drew (.cells ((xs ++ [x]).flatMap rAns.row ++ zAns (cap' - (xs ++ [x]).length)).toArray 66)
  have hle : (xs ++ [x]).length ≤ cap' := by rw [List.length_append, List.length_singleton]; exact hge
  exact ⟨w.heap.size, cap', _, hr, ⟨hB, hle, hmx, hn⟩, ⟨⟨hb.os, hb.tape, hb.output, hb.size, fun j hj _ => hb.block j hj⟩, fun v ys _ hv => hv.below hb, fun v ys hv => hv.below hb⟩⟩
theorem wpList_ans {w : World} {B g cap : Nat} {xs : List AnswerD} {ops : Array Oper} {rest : List Oper} {o : Oper} {a : Act} {Q : Exit → Act → World → Prop} (hgd : o.guard = none) (s x : Operand)
  (ho : o.op = .call { callee := .builtin .append, args := #[s, x], argTypes := #[27, 27] }) (h : AnsIn w B g cap xs) (hs : a.eval s = .slice (some ⟨g, 0, none⟩) xs.length cap)
  {vx : Value} {y : AnswerD} (hx : RdL rAns w vx [y]) (hvx : a.eval x = vx) (hl : (xs.length + 1) * 32 ≤ 140737488355328) (hB : B ≤ w.heap.size)
  (hk : ∀ g' cap' w', AnsIn w' B g' cap' (xs ++ [y]) → Keeps w w' g → wpList Tryz.prog ops Q rest (a.put o.dst (.slice (some ⟨g', 0, none⟩) (xs.length + 1) cap')) w') : wpList Tryz.prog ops Q (o :: rest) a w := by
 refine wpList_plain hgd fun K hK => ?_
 obtain ⟨g', cap', w', hr, h2, h3⟩ := ansIn_app (ty := o.type) h y hx hl hB
 unfold Oper.wp execOp
 simp only [ho, resolve, invoke, builtin, Sem.run_bind, Sem.run_pure, Result.andThen_ok, List.map_toArray, List.map_cons, List.map_nil, hs, hvx, hr]
 exact hK _ _ (hk g' cap' w' h2 h3)
def rStepM : RowOf StepD := ⟨StepD.row, 7, fun _ => rfl, fun d u hu => by simp [StepD.row] at hu; rcases hu with rfl | rfl | rfl | rfl | rfl | rfl | rfl <;> rfl⟩
def StepD.fine (s : StepD) : Prop := s.call.ok ∧ (-9223372036854775808 ≤ s.proc ∧ s.proc ≤ 9223372036854775807) ∧ (-9223372036854775808 ≤ s.call.a ∧ s.call.a ≤ 9223372036854775807) ∧ (-9223372036854775808 ≤ s.call.b ∧ s.call.b ≤ 9223372036854775807)
theorem impl_run (vs : Value) (l : List StepD) (hf : ∀ s ∈ l, s.fine) (hl : l.length ≤ 1048576) (w0 w : World) (fp : List Nat) (mb : Nat) (m : MachD) (H : IM w0 w mb fp m) (hs : RdL rStepM w0 vs l) (hfit : (K.runAll l).fits m) :
  Calls Tryz.prog 24 #[.pointer (some ⟨mb, 0, none⟩), vs] w fun e w' => ∃ vo, e = .returned vo ∧ ∃ fp', IM w0 w' mb fp' ((K.runAll l).run m).2 ∧ IT w fp w' fp' ∧ KL rAns 66 w' w.heap.size fp' vo ((K.runAll l).run m).1 := by
 obtain ⟨res, mres, hr⟩ : ∃ res mres, (K.runAll l).run m = (res, mres) := ⟨_, _, rfl⟩
 have HL : Hid (Lft (K.runAll l) m (res, mres)) := ⟨hfit, hr⟩
 rw [hr]
 clear hr hfit
 unfold K.runAll at HL
 have HM := Lib.hid H
 have HT := Lib.hid (IT.refl w fp)
 have HB0 := Lib.hid H.bel.size
 have HF := Lib.hid hf
 obtain ⟨ao, cap, rfl, hc1, hc2, hnil, hne⟩ := hs.shape
 have HX := Lib.hid hne
 have hb0 := H.bel.size
 clear H hs hne hnil hf
 unfold maxLen at hc2
 go_enter Tryz.func24, Tryz.ntmps24
 (repeat (first | go_skip | go_guarded | go_step | go_upon | go_back))
 go_loopw [5, 7, 10] (fun o _ k wr => ∃ (n : Nat) (xs : List AnswerD) (m1 : MachD) (fp1 : List Nat), k = .int .i64 n ∧ n ≤ l.length ∧ xs.length ≤ n ∧ IM w0 wr mb fp1 m1 ∧ IT w fp wr fp1 ∧ KL rAns 66 wr w.heap.size fp1 o xs ∧ Lft (Mp.fold K.runSteps xs (l.drop n) >>= pure) m1 (res, mres)) (fun _ _ k _ => l.length - (intOf k).toNat)
 case atStart => exact ⟨0, [], _, _, rfl, Nat.zero_le _, Nat.le_refl _, HM.out, HT.out, ⟨OwnL.nil rAns _ w _, fun j hj => by cases hj⟩, HL.out.last⟩
 case round =>
  clear HL HM HT
  obtain ⟨n, xs, m1, fp1, rfl, hn, hxl, hm, ht, ho, hl'⟩ := hrel
  obtain ⟨oa, oc, rfl⟩ := ho.1.rd.form
  have HM := Lib.hid hm
  have HT := Lib.hid ht
  have HO := Lib.hid ho
  clear hm ht ho
  by_cases hlt : (n : Int) < l.length
  case neg =>
   have HL := Lib.hid (Lft.fold_end (κ := pure) (by omega) hl')
   (repeat (first | go_skip | go_guarded | go_step | go_upon | go_back))
   obtain ⟨rfl, rfl⟩ := HL.out.end
   refine bodyPost_ret (by simp [results, Tryz.results24, go_sem]; rfl) rfl ?_
   exact ⟨_, rfl, _, HM.out, HT.out, HO.out⟩
  case pos =>
   have hk : n < l.length := by omega
   have hl2 := Lft.fold_at (κ := pure) hk hl'
   clear hl'
   obtain ⟨b, off, rfl, hbl, hcell⟩ := HX.out (by intro e; simp [e] at hk)
   have hc := hcell n hk
   have hfine := HF.out _ (List.getElem_mem hk)
   generalize l[n] = s at hc hfine hl2
   obtain ⟨pr, kd, nm, tn, ca, cb, tx⟩ := s
   obtain ⟨f0, f1, f2, f3⟩ := hfine
   dsimp only at f1 f2 f3
   have hbl := hbl (by decide)
   have hg0 : ∀ {a : Addr} {u : Value}, w0.cell? a = some u → wr.cell? a = some u := fun h => (Grew.below HM.out.bel).cell h
   have y0 : wr.cell? ⟨b, off + n * 7, none⟩ = some (.int .i64 pr) := hg0 (hc 0 _ rfl)
   have y1 : wr.cell? ⟨b, off + n * 7 + 1, none⟩ = some (.int .i64 kd) := hg0 (hc 1 _ rfl)
   have y2 : wr.cell? ⟨b, off + n * 7 + 2, none⟩ = some (.string nm) := hg0 (hc 2 _ rfl)
   have y3 : wr.cell? ⟨b, off + n * 7 + 3, none⟩ = some (.string tn) := hg0 (hc 3 _ rfl)
   have y4 : wr.cell? ⟨b, off + n * 7 + 4, none⟩ = some (.int .i64 ca) := hg0 (hc 4 _ rfl)
   have y5 : wr.cell? ⟨b, off + n * 7 + 5, none⟩ = some (.int .i64 cb) := hg0 (hc 5 _ rfl)
   have y6 : wr.cell? ⟨b, off + n * 7 + 6, none⟩ = some (.string tx) := hg0 (hc 6 _ rfl)
   have hbw : b < wr.heap.size := Nat.lt_of_lt_of_le hbl HM.out.bel.size
   have hl3 : Lft (K.doCall pr ⟨kd, nm, tn, ca, cb, tx⟩ >>= fun a => Mp.fold K.runSteps (xs ++ [a]) (l.drop (n + 1)) >>= pure) m1 (res, mres) := by
    unfold K.runSteps at hl2
    rw [Mp.bind_assoc] at hl2
    exact hl2
   have HL := Lib.hid hl3
   clear hl2 hl3 hc hcell hg0
   (repeat (first | go_skip | go_guarded | go_step | go_upon | go_back))
   clear y0 y1 y2 y3 y4 y5 y6
   (go_at_call 34; refine (IC.use (impl_do pr f1.1 f1.2 ⟨kd, nm, tn, ca, cb, tx⟩ f0 f2.1 f2.2 f3.1 f3.2) (fun _ => True) (fun _ _ => trivial) HL.out (HM.out.below (Below.ofAlloc (Below.refl _ _) _))).mono ?_; rintro e w2 ⟨x, m2, fp2, rfl, hx, hm, ht, HL2⟩)
   have HT' := Lib.hid (HT.out.trans ((IT.below (Below.ofAlloc (Below.refl _ _) _)).trans ht))
   have HO' := Lib.hid ((HO.out.below (Below.ofAlloc (Below.refl _ _) _)).step ht)
   have HM' := Lib.hid hm
   clear HM HT HO hm ht
   have HM := HM'
   have HT := HT'
   have HO := HO'
   clear HM' HT' HO' HL
   have HL := Lib.hid HL2
   clear HL2
   obtain ⟨xc, xn, xt⟩ := x
   unfold ansV
   go_wp2_with (at_builtin; refine Stop.here ?_)
   refine wpList_appF rfl _ _ _ rfl Tryz.elemAnsQ (B := w.heap.size) (v := .slice oa xs.length oc) (R := rAns) (xs := xs) (HO.out.1.alloc _) rfl (RdL.oneAt rAns _ ⟨xc, xn, xt⟩ _ rfl _ _ rfl) rfl (by simp only [List.length_singleton]; omega) (by simp only [List.length_singleton]; unfold maxLen; omega) (by have := HT.out.up.size; simp; omega) ?_
   intro v7 w7 hown hg hfr
   have hBo := fun j hj => (HO.out.1.lt j hj).1
   have hu := upon_grown hg
   have hba := Below.ofAlloc (Below.refl w2.heap.size w2) (.cells #[.int .i64 xc, .int .i64 xn, .string xt] 66)
   have hm1 := HM.out.below hba
   have hm7 := hm1.upon hu (fun j hj => HO.out.2 j (by simpa using hj)) (fun j hj => Nat.le_trans HB0.out (hBo j (by simpa using hj)))
   have ht7 := (HT.out.trans (IT.below hba)).upon hu (fun j hj => hBo j (by simpa using hj))
   have ho7 : KL rAns 66 w7 w.heap.size _ v7 (xs ++ [⟨xc, xn, xt⟩]) := ⟨hown, fun j hj hx => by
    rcases hfr with h | h
    ·exact HO.out.2 j (by rw [← hj, h]) hx
    ·rw [hj] at h
     have h1 := Option.some.inj h
     have h2 := hm1.hi j hx
     omega⟩
   obtain ⟨oa7, oc7, rfl⟩ := hown.rd.form
   simp only [List.length_append, List.length_singleton] at ho7
   clear hown hg hfr hu hba hm1
   have HM7 := Lib.hid hm7
   have HT7 := Lib.hid ht7
   have HO7 := Lib.hid ho7
   clear hm7 ht7 ho7 hBo
   ((try simp only []); repeat (first | go_skip | go_guarded | go_step | go_upon | go_back))
   go_roundw
   case rel => exact ⟨n + 1, xs ++ [⟨xc, xn, xt⟩], _, _, by go_num, by omega, by simp; omega, HM7.out, HT7.out, HO7.out, HL.out⟩
   case measure => simp [intOf]; omega
theorem impl_MachOf (v : Value) (cs : List CellD) (w : World) (h : RdL rCell w v cs) (hl : cs.length ≤ 1048576) :
  Calls Tryz.prog 23 #[v] w fun e w' => ∃ a c, e = .returned (.agg #[.slice a cs.length c, .slice none 0 0, .slice none 0 0]) ∧ OwnL rCell 53 w' w.heap.size (.slice a cs.length c) cs ∧ Below w.heap.size w w' := by
 have D := Lib.hid (impl_CloneCells v cs (w.alloc (.cells #[.slice none 0 0, .slice none 0 0, .slice none 0 0] 60)) (h.alloc _) hl)
 clear h
 go_enter Tryz.func23, Tryz.ntmps23
 (repeat (first | go_skip | go_guarded | go_step | go_upon | go_back))
 (go_at_call 33; refine D.out.mono ?_; rintro e w1 ⟨v1, rfl, ho, hb⟩)
 obtain ⟨a, c, rfl⟩ := ho.rd.form
 have hw : Below w.heap.size w w1 := Below.then (show Below w.heap.size w (w.alloc (.cells #[.slice none 0 0, .slice none 0 0, .slice none 0 0] 60)) from (by repeat (first | with_reducible exact Below.refl _ _ | with_reducible apply Below.ofAlloc))) hb
 have hq : w1.heap[w.heap.size]? = some (.cells #[.slice none 0 0, .slice none 0 0, .slice none 0 0] 60 (0, 0)) := (Grew.below hb _ (by simp)).trans (heap_alloc_new w _)
 have hb0 : w.heap.size + 1 ≤ (w.alloc (.cells #[.slice none 0 0, .slice none 0 0, .slice none 0 0] 60)).heap.size := by simp
 have HO := Lib.hid (OwnL.base ho hb0)
 have HW := Lib.hid hw
 have y := World.lt_of_get hq
 have e1 := World.setB_self hq
 rw [← e1]
 clear e1 hq hw ho hb hb0
 ((try simp only []); repeat (first | go_skip | go_guarded | go_step | go_upon | go_back))
 refine bodyPost_ret (by simp [results, Tryz.results23, go_sem, y]; rfl) rfl ?_
 exact ⟨_, _, rfl, (HO.out.setB (fun hk => by have := (HO.out.lt _ hk).1; omega) _).base (by omega), below_setB HW.out (Nat.le_refl _) _⟩
theorem impl_SerialRun (v vl : Value) (cs : List CellD) (l : List StepD) (w : World) (hg : Glob w) (h : RdL rCell w v cs) (hs : RdL rStepM w vl l) (hf : ∀ s ∈ l, s.fine) (hl : cs.length ≤ 1048576) (hl2 : l.length ≤ 1048576) (hfit : (K.runAll l).fits ⟨cs, [], []⟩) :
  Calls Tryz.prog 9 #[v, vl] w fun e w' => ∃ v0 v1, e = .returned (.tuple #[v0, v1]) ∧ OwnL rCell 53 w' w.heap.size v0 ((K.runAll l).run ⟨cs, [], []⟩).2.cells ∧ OwnL rAns 66 w' w.heap.size v1 ((K.runAll l).run ⟨cs, [], []⟩).1 ∧ Below w.heap.size w w' := by
 have D := Lib.hid (impl_MachOf v cs w h hl)
 obtain ⟨res, mres, hr⟩ : ∃ res mres, (K.runAll l).run ⟨cs, [], []⟩ = (res, mres) := ⟨_, _, rfl⟩
 have D2 := Lib.hid (fun w1 fp p H => impl_run vl l hf hl2 w w1 fp p ⟨cs, [], []⟩ H hs hfit)
 rw [hr] at D2 ⊢
 dsimp only at D2 ⊢
 clear hr h hs hf hfit
 have HG := Lib.hid hg
 clear hg
 go_enter Tryz.func9, Tryz.ntmps9
 (repeat (first | go_skip | go_guarded | go_step | go_upon | go_back))
 (go_at_call 23; refine D.out.mono ?_; rintro e w1 ⟨a, c, rfl, ho, hb⟩)
 have HO := Lib.hid ho
 have HB := Lib.hid hb
 have hsz := hb.size
 clear ho hb
 ((try simp only []); repeat (first | go_skip | go_guarded | go_step | go_upon | go_back))
 have hM : IM w (w1.alloc (.cells #[.slice a cs.length c, .slice none 0 0, .slice none 0 0] 60)) w1.heap.size (w1.heap.size :: (Value.slice a cs.length c).ownBlock.toList) ⟨cs, [], []⟩ := by
  refine ⟨⟨a, c, none, 0, none, 0, heap_alloc_new w1 _, HO.out.alloc _, OwnL.nil rStr _ _ _, OwnL.nil rStr _ _ _, (fun k hk => by cases hk), (fun k hk => ?_), (fun k hk => by cases hk), (fun k hk => by cases hk)⟩, List.mem_cons_self, (fun b hb => ?_), (fun b hb => ?_), HB.out.ofAlloc _, HG.out⟩
  ·simp only [List.mem_cons, Option.mem_toList]; exact .inr hk
  ·simp only [List.mem_cons, Option.mem_toList] at hb
   rcases hb with rfl | hb
   ·exact hsz
   ·exact (HO.out.lt b hb).1
  ·simp only [List.mem_cons, Option.mem_toList] at hb
   rcases hb with rfl | hb
   ·simp
   ·have := (HO.out.lt b hb).2; simp; omega
 have HMM := Lib.hid hM
 clear hM
 (go_at_call 24; refine (D2.out _ _ _ HMM.out).mono ?_; rintro e w2 ⟨vo, rfl, fp2, hm, ht, hk⟩)
 obtain ⟨oa, oc, rfl⟩ := hk.1.rd.form
 have HK := Lib.hid (hk.1.base (show w.heap.size ≤ _ from by simp; omega))
 obtain ⟨⟨a0, c0, a1, c1, a2, c2, hp, o0, _⟩, _, _, _, bel, _⟩ := hm
 have q0 : w2.cell? ⟨w1.heap.size, 0, none⟩ = some (.slice a0 mres.cells.length c0) := (World.cell?_of_get (i := 0) hp).trans rfl
 have hpl := World.lt_of_get hp
 have HO0 := Lib.hid o0
 have HBL := Lib.hid bel
 clear hk hp o0 bel ht
 ((try simp only []); repeat (first | go_skip | go_guarded | go_step | go_upon | go_back))
 refine bodyPost_ret (by simp [results, Tryz.results9, go_sem]; rfl) rfl ?_
 exact ⟨_, _, rfl, HO0.out, HK.out, HBL.out⟩
end Go.Proofs.YtieenbnmfaekiaaGreatDoor
