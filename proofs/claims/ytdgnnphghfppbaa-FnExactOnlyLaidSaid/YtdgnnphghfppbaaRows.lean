/-
  No cell of these rows narrows 'for every input' (looked for: loops, veiled, ifaces, maps, wideKeys, modest, calm, conditions, laid).
  DERIVED. THE GIVEN ROWS OF THIS SEAT. 5 by the template 'for every input the law returns true; each argument reads behind the call as it read before'; 0 by the template 'total and deterministic' (their statements: YtdgnnphghfppbaaTotals.lean).
  GIVEN WITH THE SEED: the statements are not yours to turn. If you find one false, say at which input.
  Laid BY PROGRAM, IN A SANDBOX (cutbox-rows.mjs): the forced cells as the released guide's own fill.sh prints them over the translation f64e53f22296e63d… (all of the seat's roots in one cut). By AI agents, Wed Nov 11 2026. No macro, syntax, notation, axiom, sorry.
-/
import Derived.Test.YtdgnnphghfppbaaChecked
import GoSem.Claim
import GoSem.ClaimJoined
import GoSem.ClaimMapViews
import Derived.JoinedTies
import Derived.KernelRfl
namespace Go.Proofs.Ytdgnnphghfppbaa
/- THE CELL 'sum', in the pinned program and in every row, IS THE sha256 OF THE DUMP (.gsa) THAT YtdgnnphghfppbaaProg.lean LOADS. Nothing in Lean hashes anything: it is a label: what it is worth is what the hold of that sum in a sandbox is worth. -/
noncomputable def Try.pinned : Pinned := { name := "ytdgnnphghfppbaa", sum := "f64e53f22296e63dfdf324d3f481ec975361b3d77cd757efbe30ef8fa5678740", checked := Try.checked }
namespace Rows
def none {H : Type} : Left H := { results := [], args := [] }

/-- 'laws.FnExactApplyRecord': WHATEVER THE INPUT: true; the input reads as it did. -/
def fnExactApplyRecordSpec : ChangeSpec := { name := "fnExactApplyRecord", fn := fun _ => fun
  | [d1, d2] => { results := [.lit (.bool true)], args := [d1, d2] }
  | _ => none }
def fnExactApplyRecordRow : OpenClaim := { program := "ytdgnnphghfppbaa", sum := "f64e53f22296e63dfdf324d3f481ec975361b3d77cd757efbe30ef8fa5678740", func := "loop.example/g00974/laws.FnExactApplyRecord", spec := "fnExactApplyRecord", inPlace := ["slices.overlaps[loop.example/g00974/impl.Cell]"], unfollowed := true, recurses := true, apart := false }
def FnExactApplyRecordSaid : Prop := fnExactApplyRecordRow.holds Try.pinned (OpenSpec.ofChange fnExactApplyRecordSpec)

/-- ITS FALSE NEIGHBOUR: 'it returns false'. Refute it at one input. -/
def fnExactApplyRecordWrong : ChangeSpec := { name := "fnExactApplyRecord", fn := fun _ => fun
  | [d1, d2] => { results := [.lit (.bool false)], args := [d1, d2] }
  | _ => none }
def FnExactApplyRecordWrongFalsely : Prop := fnExactApplyRecordRow.holds Try.pinned (OpenSpec.ofChange fnExactApplyRecordWrong)

/-- 'laws.FnExactLaidOver': WHATEVER THE INPUT: true; the input reads as it did. -/
def fnExactLaidOverSpec : ChangeSpec := { name := "fnExactLaidOver", fn := fun _ => fun
  | [d1, d2, d3] => { results := [.lit (.bool true)], args := [d1, d2, d3] }
  | _ => none }
def fnExactLaidOverRow : OpenClaim := { program := "ytdgnnphghfppbaa", sum := "f64e53f22296e63dfdf324d3f481ec975361b3d77cd757efbe30ef8fa5678740", func := "loop.example/g00974/laws.FnExactLaidOver", spec := "fnExactLaidOver", inPlace := ["slices.overlaps[loop.example/g00974/impl.Cell]"], unfollowed := true, recurses := true, apart := false }
def FnExactLaidOverSaid : Prop := fnExactLaidOverRow.holds Try.pinned (OpenSpec.ofChange fnExactLaidOverSpec)

/-- ITS FALSE NEIGHBOUR: 'it returns false'. Refute it at one input. -/
def fnExactLaidOverWrong : ChangeSpec := { name := "fnExactLaidOver", fn := fun _ => fun
  | [d1, d2, d3] => { results := [.lit (.bool false)], args := [d1, d2, d3] }
  | _ => none }
def FnExactLaidOverWrongFalsely : Prop := fnExactLaidOverRow.holds Try.pinned (OpenSpec.ofChange fnExactLaidOverWrong)

/-- 'laws.FnExactChanges': WHATEVER THE INPUT: true; the input reads as it did. -/
def fnExactChangesSpec : ChangeSpec := { name := "fnExactChanges", fn := fun _ => fun
  | [d1, d2] => { results := [.lit (.bool true)], args := [d1, d2] }
  | _ => none }
def fnExactChangesRow : OpenClaim := { program := "ytdgnnphghfppbaa", sum := "f64e53f22296e63dfdf324d3f481ec975361b3d77cd757efbe30ef8fa5678740", func := "loop.example/g00974/laws.FnExactChanges", spec := "fnExactChanges", unfollowed := true, recurses := true, apart := false }
def FnExactChangesSaid : Prop := fnExactChangesRow.holds Try.pinned (OpenSpec.ofChange fnExactChangesSpec)

/-- ITS FALSE NEIGHBOUR: 'it returns false'. Refute it at one input. -/
def fnExactChangesWrong : ChangeSpec := { name := "fnExactChanges", fn := fun _ => fun
  | [d1, d2] => { results := [.lit (.bool false)], args := [d1, d2] }
  | _ => none }
def FnExactChangesWrongFalsely : Prop := fnExactChangesRow.holds Try.pinned (OpenSpec.ofChange fnExactChangesWrong)

/-- 'laws.FnExactAgreeOn': WHATEVER THE INPUT: true; the input reads as it did. -/
def fnExactAgreeOnSpec : ChangeSpec := { name := "fnExactAgreeOn", fn := fun _ => fun
  | [d1, d2, d3] => { results := [.lit (.bool true)], args := [d1, d2, d3] }
  | _ => none }
def fnExactAgreeOnRow : OpenClaim := { program := "ytdgnnphghfppbaa", sum := "f64e53f22296e63dfdf324d3f481ec975361b3d77cd757efbe30ef8fa5678740", func := "loop.example/g00974/laws.FnExactAgreeOn", spec := "fnExactAgreeOn", unfollowed := true, recurses := true, apart := false }
def FnExactAgreeOnSaid : Prop := fnExactAgreeOnRow.holds Try.pinned (OpenSpec.ofChange fnExactAgreeOnSpec)

/-- ITS FALSE NEIGHBOUR: 'it returns false'. Refute it at one input. -/
def fnExactAgreeOnWrong : ChangeSpec := { name := "fnExactAgreeOn", fn := fun _ => fun
  | [d1, d2, d3] => { results := [.lit (.bool false)], args := [d1, d2, d3] }
  | _ => none }
def FnExactAgreeOnWrongFalsely : Prop := fnExactAgreeOnRow.holds Try.pinned (OpenSpec.ofChange fnExactAgreeOnWrong)

/-- 'laws.FnExactOnlyLaid': WHATEVER THE INPUT: true; the input reads as it did. -/
def fnExactOnlyLaidSpec : ChangeSpec := { name := "fnExactOnlyLaid", fn := fun _ => fun
  | [d1, d2, d3] => { results := [.lit (.bool true)], args := [d1, d2, d3] }
  | _ => none }
def fnExactOnlyLaidRow : OpenClaim := { program := "ytdgnnphghfppbaa", sum := "f64e53f22296e63dfdf324d3f481ec975361b3d77cd757efbe30ef8fa5678740", func := "loop.example/g00974/laws.FnExactOnlyLaid", spec := "fnExactOnlyLaid", unfollowed := true, recurses := true, apart := false }
def FnExactOnlyLaidSaid : Prop := fnExactOnlyLaidRow.holds Try.pinned (OpenSpec.ofChange fnExactOnlyLaidSpec)

/-- ITS FALSE NEIGHBOUR: 'it returns false'. Refute it at one input. -/
def fnExactOnlyLaidWrong : ChangeSpec := { name := "fnExactOnlyLaid", fn := fun _ => fun
  | [d1, d2, d3] => { results := [.lit (.bool false)], args := [d1, d2, d3] }
  | _ => none }
def FnExactOnlyLaidWrongFalsely : Prop := fnExactOnlyLaidRow.holds Try.pinned (OpenSpec.ofChange fnExactOnlyLaidWrong)

/- THE SECOND FORM. 'bulk': how many values and letters a reading holds, each counted each time it is reached (what is shared counts as often as it is met; a slice's spare places count too). A statement '..UptoSaid' is the law's where the arguments, and the package variables that the reading takes, are together of bulk at most 1048576: NARROWER than '..Said'. Prove '..Said' where nothing that the law and all that it calls make is longer than what came in: it says more and counts as full. Else prove '..UptoSaid'. A law counts once. -/
mutual
def uptoBulk {H : Type} : DataW H → Nat
  | .lit (.string bytes) => bytes.length + 1
  | .lit _ => 1
  | .nil => 1
  | .ptr d => uptoBulk d + 1
  | .slice elems spare => uptoBulkAll elems + uptoBulkAll spare + 1
  | .agg parts => uptoBulkAll parts + 1
  | .iface _ d => uptoBulk d + 1
  | .map entries => uptoBulkEntries entries + 1
  | .held _ => 1
def uptoBulkAll {H : Type} : List (DataW H) → Nat
  | [] => 0
  | d :: r => uptoBulk d + uptoBulkAll r
def uptoBulkEntries {H : Type} : List (Lit × DataW H) → Nat
  | [] => 0
  | x :: r => uptoBulkEntry x + uptoBulkEntries r
def uptoBulkEntry {H : Type} : Lit × DataW H → Nat
  | (.string bytes, d) => bytes.length + uptoBulk d + 1
  | (_, d) => uptoBulk d + 1
 end
def uptoSmall : (H : Type) → List (DataW H) → Bool := fun _ ds => decide (uptoBulkAll ds ≤ 1048576)
def OpenSpec.upto (s : _root_.Go.ChangeSpec) : _root_.Go.OpenSpec := { _root_.Go.OpenSpec.ofChange s with cond := some uptoSmall }

/-- 'laws.FnExactApplyRecord', WHERE WHAT IT READS IS OF BULK AT MOST 1048576: true; the input reads as it did. -/
def fnExactApplyRecordUptoRow : OpenClaim := { program := "ytdgnnphghfppbaa", sum := "f64e53f22296e63dfdf324d3f481ec975361b3d77cd757efbe30ef8fa5678740", func := "loop.example/g00974/laws.FnExactApplyRecord", spec := "fnExactApplyRecord", inPlace := ["slices.overlaps[loop.example/g00974/impl.Cell]"], unfollowed := true, recurses := true, apart := false, narrowed := true }
def FnExactApplyRecordUptoSaid : Prop := fnExactApplyRecordUptoRow.holds Try.pinned (OpenSpec.upto fnExactApplyRecordSpec)

/-- 'laws.FnExactLaidOver', WHERE WHAT IT READS IS OF BULK AT MOST 1048576: true; the input reads as it did. -/
def fnExactLaidOverUptoRow : OpenClaim := { program := "ytdgnnphghfppbaa", sum := "f64e53f22296e63dfdf324d3f481ec975361b3d77cd757efbe30ef8fa5678740", func := "loop.example/g00974/laws.FnExactLaidOver", spec := "fnExactLaidOver", inPlace := ["slices.overlaps[loop.example/g00974/impl.Cell]"], unfollowed := true, recurses := true, apart := false, narrowed := true }
def FnExactLaidOverUptoSaid : Prop := fnExactLaidOverUptoRow.holds Try.pinned (OpenSpec.upto fnExactLaidOverSpec)

/-- 'laws.FnExactChanges', WHERE WHAT IT READS IS OF BULK AT MOST 1048576: true; the input reads as it did. -/
def fnExactChangesUptoRow : OpenClaim := { program := "ytdgnnphghfppbaa", sum := "f64e53f22296e63dfdf324d3f481ec975361b3d77cd757efbe30ef8fa5678740", func := "loop.example/g00974/laws.FnExactChanges", spec := "fnExactChanges", unfollowed := true, recurses := true, apart := false, narrowed := true }
def FnExactChangesUptoSaid : Prop := fnExactChangesUptoRow.holds Try.pinned (OpenSpec.upto fnExactChangesSpec)

/-- 'laws.FnExactAgreeOn', WHERE WHAT IT READS IS OF BULK AT MOST 1048576: true; the input reads as it did. -/
def fnExactAgreeOnUptoRow : OpenClaim := { program := "ytdgnnphghfppbaa", sum := "f64e53f22296e63dfdf324d3f481ec975361b3d77cd757efbe30ef8fa5678740", func := "loop.example/g00974/laws.FnExactAgreeOn", spec := "fnExactAgreeOn", unfollowed := true, recurses := true, apart := false, narrowed := true }
def FnExactAgreeOnUptoSaid : Prop := fnExactAgreeOnUptoRow.holds Try.pinned (OpenSpec.upto fnExactAgreeOnSpec)

/-- 'laws.FnExactOnlyLaid', WHERE WHAT IT READS IS OF BULK AT MOST 1048576: true; the input reads as it did. -/
def fnExactOnlyLaidUptoRow : OpenClaim := { program := "ytdgnnphghfppbaa", sum := "f64e53f22296e63dfdf324d3f481ec975361b3d77cd757efbe30ef8fa5678740", func := "loop.example/g00974/laws.FnExactOnlyLaid", spec := "fnExactOnlyLaid", unfollowed := true, recurses := true, apart := false, narrowed := true }
def FnExactOnlyLaidUptoSaid : Prop := fnExactOnlyLaidUptoRow.holds Try.pinned (OpenSpec.upto fnExactOnlyLaidSpec)

end Rows
end Go.Proofs.Ytdgnnphghfppbaa
