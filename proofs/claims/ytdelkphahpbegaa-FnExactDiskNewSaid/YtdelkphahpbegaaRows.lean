/-
  No cell of these rows narrows 'for every input' (looked for: loops, veiled, ifaces, maps, wideKeys, modest, calm, conditions, laid).
  DERIVED. THE GIVEN ROWS OF THIS SEAT. 4 by the template 'for every input the law returns true; each argument reads behind the call as it read before'; 0 by the template 'total and deterministic' (their statements: YtdelkphahpbegaaTotals.lean).
  GIVEN WITH THE SEED: the statements are not yours to turn. If you find one false, say at which input.
  Laid BY PROGRAM, IN A SANDBOX (cutbox-rows.mjs): the forced cells as the released guide's own fill.sh prints them over the translation 3764217dcdc58690… (all of the seat's roots in one cut). By AI agents, Wed Nov 11 2026. No macro, syntax, notation, axiom, sorry.
-/
import Derived.Test.YtdelkphahpbegaaChecked
import GoSem.Claim
import GoSem.ClaimJoined
import GoSem.ClaimMapViews
import Derived.JoinedTies
import Derived.KernelRfl
namespace Go.Proofs.Ytdelkphahpbegaa
/- THE CELL 'sum', in the pinned program and in every row, IS THE sha256 OF THE DUMP (.gsa) THAT YtdelkphahpbegaaProg.lean LOADS. Nothing in Lean hashes anything: it is a label: what it is worth is what the hold of that sum in a sandbox is worth. -/
noncomputable def Try.pinned : Pinned := { name := "ytdelkphahpbegaa", sum := "3764217dcdc58690c144b3e0ea0026f375ab79bc72031505e21ffdb24608b705", checked := Try.checked }
namespace Rows
def none {H : Type} : Left H := { results := [], args := [] }

/-- 'laws.FnExactBestSlot': WHATEVER THE INPUT: true; the input reads as it did. -/
def fnExactBestSlotSpec : ChangeSpec := { name := "fnExactBestSlot", fn := fun _ => fun
  | [d] => { results := [.lit (.bool true)], args := [d] }
  | _ => none }
def fnExactBestSlotRow : OpenClaim := { program := "ytdelkphahpbegaa", sum := "3764217dcdc58690c144b3e0ea0026f375ab79bc72031505e21ffdb24608b705", func := "loop.example/g00974/laws.FnExactBestSlot", spec := "fnExactBestSlot", apart := false }
def FnExactBestSlotSaid : Prop := fnExactBestSlotRow.holds Try.pinned (OpenSpec.ofChange fnExactBestSlotSpec)

/-- ITS FALSE NEIGHBOUR: 'it returns false'. Refute it at one input. -/
def fnExactBestSlotWrong : ChangeSpec := { name := "fnExactBestSlot", fn := fun _ => fun
  | [d] => { results := [.lit (.bool false)], args := [d] }
  | _ => none }
def FnExactBestSlotWrongFalsely : Prop := fnExactBestSlotRow.holds Try.pinned (OpenSpec.ofChange fnExactBestSlotWrong)

/-- 'laws.FnExactDiskNew': WHATEVER THE INPUT: true; the input reads as it did. -/
def fnExactDiskNewSpec : ChangeSpec := { name := "fnExactDiskNew", fn := fun _ => fun
  | [d] => { results := [.lit (.bool true)], args := [d] }
  | _ => none }
def fnExactDiskNewRow : OpenClaim := { program := "ytdelkphahpbegaa", sum := "3764217dcdc58690c144b3e0ea0026f375ab79bc72031505e21ffdb24608b705", func := "loop.example/g00974/laws.FnExactDiskNew", spec := "fnExactDiskNew", apart := false }
def FnExactDiskNewSaid : Prop := fnExactDiskNewRow.holds Try.pinned (OpenSpec.ofChange fnExactDiskNewSpec)

/-- ITS FALSE NEIGHBOUR: 'it returns false'. Refute it at one input. -/
def fnExactDiskNewWrong : ChangeSpec := { name := "fnExactDiskNew", fn := fun _ => fun
  | [d] => { results := [.lit (.bool false)], args := [d] }
  | _ => none }
def FnExactDiskNewWrongFalsely : Prop := fnExactDiskNewRow.holds Try.pinned (OpenSpec.ofChange fnExactDiskNewWrong)

/-- 'laws.FnExactSameDisk': WHATEVER THE INPUT: true; the input reads as it did. -/
def fnExactSameDiskSpec : ChangeSpec := { name := "fnExactSameDisk", fn := fun _ => fun
  | [d1, d2] => { results := [.lit (.bool true)], args := [d1, d2] }
  | _ => none }
def fnExactSameDiskRow : OpenClaim := { program := "ytdelkphahpbegaa", sum := "3764217dcdc58690c144b3e0ea0026f375ab79bc72031505e21ffdb24608b705", func := "loop.example/g00974/laws.FnExactSameDisk", spec := "fnExactSameDisk", unfollowed := true, recurses := true, apart := false }
def FnExactSameDiskSaid : Prop := fnExactSameDiskRow.holds Try.pinned (OpenSpec.ofChange fnExactSameDiskSpec)

/-- ITS FALSE NEIGHBOUR: 'it returns false'. Refute it at one input. -/
def fnExactSameDiskWrong : ChangeSpec := { name := "fnExactSameDisk", fn := fun _ => fun
  | [d1, d2] => { results := [.lit (.bool false)], args := [d1, d2] }
  | _ => none }
def FnExactSameDiskWrongFalsely : Prop := fnExactSameDiskRow.holds Try.pinned (OpenSpec.ofChange fnExactSameDiskWrong)

/-- 'laws.FnExactDiskOk': WHATEVER THE INPUT: true; the input reads as it did. -/
def fnExactDiskOkSpec : ChangeSpec := { name := "fnExactDiskOk", fn := fun _ => fun
  | [d] => { results := [.lit (.bool true)], args := [d] }
  | _ => none }
def fnExactDiskOkRow : OpenClaim := { program := "ytdelkphahpbegaa", sum := "3764217dcdc58690c144b3e0ea0026f375ab79bc72031505e21ffdb24608b705", func := "loop.example/g00974/laws.FnExactDiskOk", spec := "fnExactDiskOk", apart := false }
def FnExactDiskOkSaid : Prop := fnExactDiskOkRow.holds Try.pinned (OpenSpec.ofChange fnExactDiskOkSpec)

/-- ITS FALSE NEIGHBOUR: 'it returns false'. Refute it at one input. -/
def fnExactDiskOkWrong : ChangeSpec := { name := "fnExactDiskOk", fn := fun _ => fun
  | [d] => { results := [.lit (.bool false)], args := [d] }
  | _ => none }
def FnExactDiskOkWrongFalsely : Prop := fnExactDiskOkRow.holds Try.pinned (OpenSpec.ofChange fnExactDiskOkWrong)

/- THE SECOND FORM. 'bulk': how many values and letters a reading holds, each counted each time it is reached (what is shared counts as often as it is met; a slice's spare places count too). A statement '..UptoSaid' is the law's where the arguments, and the package variables that the reading takes, are together of bulk at most 1048576: NARROWER than '..Said'. Prove '..Said' where nothing that the law and all that it calls make is longer than what came in: it says more and counts as full. Else prove '..UptoSaid'. A law counts once. -/
mutual
def uptoBulk {H : Type} : DataW H → Nat
  | .lit (.string bytes) => bytes.length + 1
  | .lit _ => 1
  | .nil => 1
  | .ptr d => uptoBulk d + 1
  | .slice elems spare => uptoBulkAll elems + uptoBulkAll spare + 1
  | .agg parts => uptoBulkAll parts + 1
  | .iface _ d => uptoBulk d + 1
  | .map entries => uptoBulkEntries entries + 1
  | .held _ => 1
def uptoBulkAll {H : Type} : List (DataW H) → Nat
  | [] => 0
  | d :: r => uptoBulk d + uptoBulkAll r
def uptoBulkEntries {H : Type} : List (Lit × DataW H) → Nat
  | [] => 0
  | x :: r => uptoBulkEntry x + uptoBulkEntries r
def uptoBulkEntry {H : Type} : Lit × DataW H → Nat
  | (.string bytes, d) => bytes.length + uptoBulk d + 1
  | (_, d) => uptoBulk d + 1
 end
def uptoSmall : (H : Type) → List (DataW H) → Bool := fun _ ds => decide (uptoBulkAll ds ≤ 1048576)
def OpenSpec.upto (s : _root_.Go.ChangeSpec) : _root_.Go.OpenSpec := { _root_.Go.OpenSpec.ofChange s with cond := some uptoSmall }

/-- 'laws.FnExactBestSlot', WHERE WHAT IT READS IS OF BULK AT MOST 1048576: true; the input reads as it did. -/
def fnExactBestSlotUptoRow : OpenClaim := { program := "ytdelkphahpbegaa", sum := "3764217dcdc58690c144b3e0ea0026f375ab79bc72031505e21ffdb24608b705", func := "loop.example/g00974/laws.FnExactBestSlot", spec := "fnExactBestSlot", apart := false, narrowed := true }
def FnExactBestSlotUptoSaid : Prop := fnExactBestSlotUptoRow.holds Try.pinned (OpenSpec.upto fnExactBestSlotSpec)

/-- 'laws.FnExactDiskNew', WHERE WHAT IT READS IS OF BULK AT MOST 1048576: true; the input reads as it did. -/
def fnExactDiskNewUptoRow : OpenClaim := { program := "ytdelkphahpbegaa", sum := "3764217dcdc58690c144b3e0ea0026f375ab79bc72031505e21ffdb24608b705", func := "loop.example/g00974/laws.FnExactDiskNew", spec := "fnExactDiskNew", apart := false, narrowed := true }
def FnExactDiskNewUptoSaid : Prop := fnExactDiskNewUptoRow.holds Try.pinned (OpenSpec.upto fnExactDiskNewSpec)

/-- 'laws.FnExactSameDisk', WHERE WHAT IT READS IS OF BULK AT MOST 1048576: true; the input reads as it did. -/
def fnExactSameDiskUptoRow : OpenClaim := { program := "ytdelkphahpbegaa", sum := "3764217dcdc58690c144b3e0ea0026f375ab79bc72031505e21ffdb24608b705", func := "loop.example/g00974/laws.FnExactSameDisk", spec := "fnExactSameDisk", unfollowed := true, recurses := true, apart := false, narrowed := true }
def FnExactSameDiskUptoSaid : Prop := fnExactSameDiskUptoRow.holds Try.pinned (OpenSpec.upto fnExactSameDiskSpec)

/-- 'laws.FnExactDiskOk', WHERE WHAT IT READS IS OF BULK AT MOST 1048576: true; the input reads as it did. -/
def fnExactDiskOkUptoRow : OpenClaim := { program := "ytdelkphahpbegaa", sum := "3764217dcdc58690c144b3e0ea0026f375ab79bc72031505e21ffdb24608b705", func := "loop.example/g00974/laws.FnExactDiskOk", spec := "fnExactDiskOk", apart := false, narrowed := true }
def FnExactDiskOkUptoSaid : Prop := fnExactDiskOkUptoRow.holds Try.pinned (OpenSpec.upto fnExactDiskOkSpec)

end Rows
end Go.Proofs.Ytdelkphahpbegaa
