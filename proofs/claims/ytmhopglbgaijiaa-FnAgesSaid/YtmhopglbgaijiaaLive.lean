/- The Ids of the live transactions: the program's and the reference's. Each condition stands in its theorem. -/
import Derived.Test.YtmhopglbgaijiaaCTxS
import Derived.Test.YtmhopglbgaijiaaTInt
set_option linter.unusedVariables false
set_option linter.unusedSimpArgs false
namespace Go.Proofs.Ytmhopglbgaijiaa
open Go.ChangeShapes Go.WideShapes Go.ChangeAt Go.RowKit

def isLive (d : TxD) : Bool := d.state == 1
def liveIds (ds : List TxD) : List Int := (ds.filter isLive).map TxD.id
theorem liveIds_step (ds : List TxD) (n : Nat) (h : n < ds.length) : liveIds (ds.take (n + 1)) = liveIds (ds.take n) ++ (if (ds[n].state == 1) = true then [ds[n].id] else []) := by
  unfold liveIds
  rw [List.take_succ_eq_append_getElem h, List.filter_append, List.map_append]
  congr 1
  by_cases hs : isLive ds[n] = true
  · have : (ds[n].state == 1) = true := hs
    rw [if_pos this, List.filter_cons_of_pos hs]
    rfl
  · have : ¬ (ds[n].state == 1) = true := hs
    rw [if_neg this, List.filter_cons_of_neg hs]
    rfl
theorem own_of_OwnL {e : TypeId} {w : World} {B : Nat} {v : Value} {xs : List Int} (h : OwnL rInt e w B v xs) : ∃ fp : List Nat, (vSlice vInt e).own w fp [v] xs ∧ fp.Nodup ∧ ∀ b ∈ fp, B ≤ b := by
  rcases h.2 with ⟨rfl, h0⟩ | ⟨g, cap, cur, rfl, hg, hh, hn, hm, hsz, ht⟩
  · have : xs = [] := List.eq_nil_of_length_eq_zero h0
    subst this
    exact ⟨[], .inl ⟨rfl, rfl, rfl⟩, List.nodup_nil, by simp⟩
  · exact ⟨[g], vSlice.ownRow hh rfl hn hm hsz ht (fun _ _ => trivial), by simp, by simpa using hg⟩
theorem OwnL.merge2 {α : Type} {R : RowOf α} {e : TypeId} {w : World} {B : Nat} {v : Value} {xs : List α} {bs cs : Array Obj} {d0 dr : Nat} (h : OwnL R e (w.ext ⟨bs, d0⟩) B v xs) : OwnL R e (w.ext ⟨bs ++ cs, dr⟩) B v xs := by
  have := h.ext ⟨cs, dr⟩
  rwa [World.ext_ext] at this
end Go.Proofs.Ytmhopglbgaijiaa
