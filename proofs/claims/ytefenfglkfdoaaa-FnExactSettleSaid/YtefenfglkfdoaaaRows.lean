/-
  No cell of these rows narrows 'for every input' (looked for: loops, veiled, ifaces, maps, wideKeys, modest, calm, conditions, laid).
  DERIVED. THE GIVEN ROWS OF THIS SEAT. 15 by the template 'for every input the law returns true; each argument reads behind the call as it read before'; 0 by the template 'total and deterministic' (their statements: YtefenfglkfdoaaaTotals.lean).
  GIVEN WITH THE SEED: the statements are not yours to turn. If you find one false, say at which input.
  Laid BY PROGRAM, IN A SANDBOX (cutbox-rows.mjs): the forced cells as the released guide's own fill.sh prints them over the translation 3925d7fb9dc2adee… (all of the seat's roots in one cut). By AI agents, Wed Nov 11 2026. No macro, syntax, notation, axiom, sorry.
-/
import Derived.Test.YtefenfglkfdoaaaChecked
import GoSem.Claim
import GoSem.ClaimJoined
import GoSem.ClaimMapViews
import Derived.JoinedTies
import Derived.KernelRfl
namespace Go.Proofs.Ytefenfglkfdoaaa
/- THE CELL 'sum', in the pinned program and in every row, IS THE sha256 OF THE DUMP (.gsa) THAT YtefenfglkfdoaaaProg.lean LOADS. Nothing in Lean hashes anything: it is a label: what it is worth is what the hold of that sum in a sandbox is worth. -/
noncomputable def Try.pinned : Pinned := { name := "ytefenfglkfdoaaa", sum := "3925d7fb9dc2adee937abf46431a617b71c10cca39a22ab121ebffd8ba79c217", checked := Try.checked }
namespace Rows
def none {H : Type} : Left H := { results := [], args := [] }

/-- 'laws.FnExactTxNew': WHATEVER THE INPUT: true; the input reads as it did. -/
def fnExactTxNewSpec : ChangeSpec := { name := "fnExactTxNew", fn := fun _ => fun
  | [d1, d2, d3] => { results := [.lit (.bool true)], args := [d1, d2, d3] }
  | _ => none }
def fnExactTxNewRow : OpenClaim := { program := "ytefenfglkfdoaaa", sum := "3925d7fb9dc2adee937abf46431a617b71c10cca39a22ab121ebffd8ba79c217", func := "loop.example/g00974/laws.FnExactTxNew", spec := "fnExactTxNew", apart := false }
def FnExactTxNewSaid : Prop := fnExactTxNewRow.holds Try.pinned (OpenSpec.ofChange fnExactTxNewSpec)

/-- ITS FALSE NEIGHBOUR: 'it returns false'. Refute it at one input. -/
def fnExactTxNewWrong : ChangeSpec := { name := "fnExactTxNew", fn := fun _ => fun
  | [d1, d2, d3] => { results := [.lit (.bool false)], args := [d1, d2, d3] }
  | _ => none }
def FnExactTxNewWrongFalsely : Prop := fnExactTxNewRow.holds Try.pinned (OpenSpec.ofChange fnExactTxNewWrong)

/-- 'laws.FnExactMarked': WHATEVER THE INPUT: true; the input reads as it did. -/
def fnExactMarkedSpec : ChangeSpec := { name := "fnExactMarked", fn := fun _ => fun
  | [d] => { results := [.lit (.bool true)], args := [d] }
  | _ => none }
def fnExactMarkedRow : OpenClaim := { program := "ytefenfglkfdoaaa", sum := "3925d7fb9dc2adee937abf46431a617b71c10cca39a22ab121ebffd8ba79c217", func := "loop.example/g00974/laws.FnExactMarked", spec := "fnExactMarked", apart := false }
def FnExactMarkedSaid : Prop := fnExactMarkedRow.holds Try.pinned (OpenSpec.ofChange fnExactMarkedSpec)

/-- ITS FALSE NEIGHBOUR: 'it returns false'. Refute it at one input. -/
def fnExactMarkedWrong : ChangeSpec := { name := "fnExactMarked", fn := fun _ => fun
  | [d] => { results := [.lit (.bool false)], args := [d] }
  | _ => none }
def FnExactMarkedWrongFalsely : Prop := fnExactMarkedRow.holds Try.pinned (OpenSpec.ofChange fnExactMarkedWrong)

/-- 'laws.FnExactOlder': WHATEVER THE INPUT: true; the input reads as it did. -/
def fnExactOlderSpec : ChangeSpec := { name := "fnExactOlder", fn := fun _ => fun
  | [d1, d2] => { results := [.lit (.bool true)], args := [d1, d2] }
  | _ => none }
def fnExactOlderRow : OpenClaim := { program := "ytefenfglkfdoaaa", sum := "3925d7fb9dc2adee937abf46431a617b71c10cca39a22ab121ebffd8ba79c217", func := "loop.example/g00974/laws.FnExactOlder", spec := "fnExactOlder", apart := false }
def FnExactOlderSaid : Prop := fnExactOlderRow.holds Try.pinned (OpenSpec.ofChange fnExactOlderSpec)

/-- ITS FALSE NEIGHBOUR: 'it returns false'. Refute it at one input. -/
def fnExactOlderWrong : ChangeSpec := { name := "fnExactOlder", fn := fun _ => fun
  | [d1, d2] => { results := [.lit (.bool false)], args := [d1, d2] }
  | _ => none }
def FnExactOlderWrongFalsely : Prop := fnExactOlderRow.holds Try.pinned (OpenSpec.ofChange fnExactOlderWrong)

/-- 'laws.FnExactMarksOk': WHATEVER THE INPUT: true; the input reads as it did. -/
def fnExactMarksOkSpec : ChangeSpec := { name := "fnExactMarksOk", fn := fun _ => fun
  | [d] => { results := [.lit (.bool true)], args := [d] }
  | _ => none }
def fnExactMarksOkRow : OpenClaim := { program := "ytefenfglkfdoaaa", sum := "3925d7fb9dc2adee937abf46431a617b71c10cca39a22ab121ebffd8ba79c217", func := "loop.example/g00974/laws.FnExactMarksOk", spec := "fnExactMarksOk", unfollowed := true, recurses := true, apart := false }
def FnExactMarksOkSaid : Prop := fnExactMarksOkRow.holds Try.pinned (OpenSpec.ofChange fnExactMarksOkSpec)

/-- ITS FALSE NEIGHBOUR: 'it returns false'. Refute it at one input. -/
def fnExactMarksOkWrong : ChangeSpec := { name := "fnExactMarksOk", fn := fun _ => fun
  | [d] => { results := [.lit (.bool false)], args := [d] }
  | _ => none }
def FnExactMarksOkWrongFalsely : Prop := fnExactMarksOkRow.holds Try.pinned (OpenSpec.ofChange fnExactMarksOkWrong)

/-- 'laws.FnExactNextAge': WHATEVER THE INPUT: true; the input reads as it did. -/
def fnExactNextAgeSpec : ChangeSpec := { name := "fnExactNextAge", fn := fun _ => fun
  | [d] => { results := [.lit (.bool true)], args := [d] }
  | _ => none }
def fnExactNextAgeRow : OpenClaim := { program := "ytefenfglkfdoaaa", sum := "3925d7fb9dc2adee937abf46431a617b71c10cca39a22ab121ebffd8ba79c217", func := "loop.example/g00974/laws.FnExactNextAge", spec := "fnExactNextAge", apart := false }
def FnExactNextAgeSaid : Prop := fnExactNextAgeRow.holds Try.pinned (OpenSpec.ofChange fnExactNextAgeSpec)

/-- ITS FALSE NEIGHBOUR: 'it returns false'. Refute it at one input. -/
def fnExactNextAgeWrong : ChangeSpec := { name := "fnExactNextAge", fn := fun _ => fun
  | [d] => { results := [.lit (.bool false)], args := [d] }
  | _ => none }
def FnExactNextAgeWrongFalsely : Prop := fnExactNextAgeRow.holds Try.pinned (OpenSpec.ofChange fnExactNextAgeWrong)

/-- 'laws.FnExactFindTx': WHATEVER THE INPUT: true; the input reads as it did. -/
def fnExactFindTxSpec : ChangeSpec := { name := "fnExactFindTx", fn := fun _ => fun
  | [d1, d2] => { results := [.lit (.bool true)], args := [d1, d2] }
  | _ => none }
def fnExactFindTxRow : OpenClaim := { program := "ytefenfglkfdoaaa", sum := "3925d7fb9dc2adee937abf46431a617b71c10cca39a22ab121ebffd8ba79c217", func := "loop.example/g00974/laws.FnExactFindTx", spec := "fnExactFindTx", unfollowed := true, recurses := true, apart := false }
def FnExactFindTxSaid : Prop := fnExactFindTxRow.holds Try.pinned (OpenSpec.ofChange fnExactFindTxSpec)

/-- ITS FALSE NEIGHBOUR: 'it returns false'. Refute it at one input. -/
def fnExactFindTxWrong : ChangeSpec := { name := "fnExactFindTx", fn := fun _ => fun
  | [d1, d2] => { results := [.lit (.bool false)], args := [d1, d2] }
  | _ => none }
def FnExactFindTxWrongFalsely : Prop := fnExactFindTxRow.holds Try.pinned (OpenSpec.ofChange fnExactFindTxWrong)

/-- 'laws.FnExactOldestLive': WHATEVER THE INPUT: true; the input reads as it did. -/
def fnExactOldestLiveSpec : ChangeSpec := { name := "fnExactOldestLive", fn := fun _ => fun
  | [d] => { results := [.lit (.bool true)], args := [d] }
  | _ => none }
def fnExactOldestLiveRow : OpenClaim := { program := "ytefenfglkfdoaaa", sum := "3925d7fb9dc2adee937abf46431a617b71c10cca39a22ab121ebffd8ba79c217", func := "loop.example/g00974/laws.FnExactOldestLive", spec := "fnExactOldestLive", apart := false }
def FnExactOldestLiveSaid : Prop := fnExactOldestLiveRow.holds Try.pinned (OpenSpec.ofChange fnExactOldestLiveSpec)

/-- ITS FALSE NEIGHBOUR: 'it returns false'. Refute it at one input. -/
def fnExactOldestLiveWrong : ChangeSpec := { name := "fnExactOldestLive", fn := fun _ => fun
  | [d] => { results := [.lit (.bool false)], args := [d] }
  | _ => none }
def FnExactOldestLiveWrongFalsely : Prop := fnExactOldestLiveRow.holds Try.pinned (OpenSpec.ofChange fnExactOldestLiveWrong)

/-- 'laws.FnExactSameTx': WHATEVER THE INPUT: true; the input reads as it did. -/
def fnExactSameTxSpec : ChangeSpec := { name := "fnExactSameTx", fn := fun _ => fun
  | [d1, d2] => { results := [.lit (.bool true)], args := [d1, d2] }
  | _ => none }
def fnExactSameTxRow : OpenClaim := { program := "ytefenfglkfdoaaa", sum := "3925d7fb9dc2adee937abf46431a617b71c10cca39a22ab121ebffd8ba79c217", func := "loop.example/g00974/laws.FnExactSameTx", spec := "fnExactSameTx", apart := false }
def FnExactSameTxSaid : Prop := fnExactSameTxRow.holds Try.pinned (OpenSpec.ofChange fnExactSameTxSpec)

/-- ITS FALSE NEIGHBOUR: 'it returns false'. Refute it at one input. -/
def fnExactSameTxWrong : ChangeSpec := { name := "fnExactSameTx", fn := fun _ => fun
  | [d1, d2] => { results := [.lit (.bool false)], args := [d1, d2] }
  | _ => none }
def FnExactSameTxWrongFalsely : Prop := fnExactSameTxRow.holds Try.pinned (OpenSpec.ofChange fnExactSameTxWrong)

/-- 'laws.FnExactYoungerAll': WHATEVER THE INPUT: true; the input reads as it did. -/
def fnExactYoungerAllSpec : ChangeSpec := { name := "fnExactYoungerAll", fn := fun _ => fun
  | [d1, d2, d3] => { results := [.lit (.bool true)], args := [d1, d2, d3] }
  | _ => none }
def fnExactYoungerAllRow : OpenClaim := { program := "ytefenfglkfdoaaa", sum := "3925d7fb9dc2adee937abf46431a617b71c10cca39a22ab121ebffd8ba79c217", func := "loop.example/g00974/laws.FnExactYoungerAll", spec := "fnExactYoungerAll", unfollowed := true, recurses := true, apart := false }
def FnExactYoungerAllSaid : Prop := fnExactYoungerAllRow.holds Try.pinned (OpenSpec.ofChange fnExactYoungerAllSpec)

/-- ITS FALSE NEIGHBOUR: 'it returns false'. Refute it at one input. -/
def fnExactYoungerAllWrong : ChangeSpec := { name := "fnExactYoungerAll", fn := fun _ => fun
  | [d1, d2, d3] => { results := [.lit (.bool false)], args := [d1, d2, d3] }
  | _ => none }
def FnExactYoungerAllWrongFalsely : Prop := fnExactYoungerAllRow.holds Try.pinned (OpenSpec.ofChange fnExactYoungerAllWrong)

/-- 'laws.FnExactSinceMark': WHATEVER THE INPUT: true; the input reads as it did. -/
def fnExactSinceMarkSpec : ChangeSpec := { name := "fnExactSinceMark", fn := fun _ => fun
  | [d1, d2] => { results := [.lit (.bool true)], args := [d1, d2] }
  | _ => none }
def fnExactSinceMarkRow : OpenClaim := { program := "ytefenfglkfdoaaa", sum := "3925d7fb9dc2adee937abf46431a617b71c10cca39a22ab121ebffd8ba79c217", func := "loop.example/g00974/laws.FnExactSinceMark", spec := "fnExactSinceMark", apart := false }
def FnExactSinceMarkSaid : Prop := fnExactSinceMarkRow.holds Try.pinned (OpenSpec.ofChange fnExactSinceMarkSpec)

/-- ITS FALSE NEIGHBOUR: 'it returns false'. Refute it at one input. -/
def fnExactSinceMarkWrong : ChangeSpec := { name := "fnExactSinceMark", fn := fun _ => fun
  | [d1, d2] => { results := [.lit (.bool false)], args := [d1, d2] }
  | _ => none }
def FnExactSinceMarkWrongFalsely : Prop := fnExactSinceMarkRow.holds Try.pinned (OpenSpec.ofChange fnExactSinceMarkWrong)

/-- 'laws.FnExactLiveIn': WHATEVER THE INPUT: true; the input reads as it did. -/
def fnExactLiveInSpec : ChangeSpec := { name := "fnExactLiveIn", fn := fun _ => fun
  | [d] => { results := [.lit (.bool true)], args := [d] }
  | _ => none }
def fnExactLiveInRow : OpenClaim := { program := "ytefenfglkfdoaaa", sum := "3925d7fb9dc2adee937abf46431a617b71c10cca39a22ab121ebffd8ba79c217", func := "loop.example/g00974/laws.FnExactLiveIn", spec := "fnExactLiveIn", unfollowed := true, recurses := true, apart := false }
def FnExactLiveInSaid : Prop := fnExactLiveInRow.holds Try.pinned (OpenSpec.ofChange fnExactLiveInSpec)

/-- ITS FALSE NEIGHBOUR: 'it returns false'. Refute it at one input. -/
def fnExactLiveInWrong : ChangeSpec := { name := "fnExactLiveIn", fn := fun _ => fun
  | [d] => { results := [.lit (.bool false)], args := [d] }
  | _ => none }
def FnExactLiveInWrongFalsely : Prop := fnExactLiveInRow.holds Try.pinned (OpenSpec.ofChange fnExactLiveInWrong)

/-- 'laws.FnExactAllApart': WHATEVER THE INPUT: true; the input reads as it did. -/
def fnExactAllApartSpec : ChangeSpec := { name := "fnExactAllApart", fn := fun _ => fun
  | [d] => { results := [.lit (.bool true)], args := [d] }
  | _ => none }
def fnExactAllApartRow : OpenClaim := { program := "ytefenfglkfdoaaa", sum := "3925d7fb9dc2adee937abf46431a617b71c10cca39a22ab121ebffd8ba79c217", func := "loop.example/g00974/laws.FnExactAllApart", spec := "fnExactAllApart", unfollowed := true, recurses := true, apart := false }
def FnExactAllApartSaid : Prop := fnExactAllApartRow.holds Try.pinned (OpenSpec.ofChange fnExactAllApartSpec)

/-- ITS FALSE NEIGHBOUR: 'it returns false'. Refute it at one input. -/
def fnExactAllApartWrong : ChangeSpec := { name := "fnExactAllApart", fn := fun _ => fun
  | [d] => { results := [.lit (.bool false)], args := [d] }
  | _ => none }
def FnExactAllApartWrongFalsely : Prop := fnExactAllApartRow.holds Try.pinned (OpenSpec.ofChange fnExactAllApartWrong)

/-- 'laws.FnExactTxSteps': WHATEVER THE INPUT: true; the input reads as it did. -/
def fnExactTxStepsSpec : ChangeSpec := { name := "fnExactTxSteps", fn := fun _ => fun
  | [d] => { results := [.lit (.bool true)], args := [d] }
  | _ => none }
def fnExactTxStepsRow : OpenClaim := { program := "ytefenfglkfdoaaa", sum := "3925d7fb9dc2adee937abf46431a617b71c10cca39a22ab121ebffd8ba79c217", func := "loop.example/g00974/laws.FnExactTxSteps", spec := "fnExactTxSteps", apart := false }
def FnExactTxStepsSaid : Prop := fnExactTxStepsRow.holds Try.pinned (OpenSpec.ofChange fnExactTxStepsSpec)

/-- ITS FALSE NEIGHBOUR: 'it returns false'. Refute it at one input. -/
def fnExactTxStepsWrong : ChangeSpec := { name := "fnExactTxSteps", fn := fun _ => fun
  | [d] => { results := [.lit (.bool false)], args := [d] }
  | _ => none }
def FnExactTxStepsWrongFalsely : Prop := fnExactTxStepsRow.holds Try.pinned (OpenSpec.ofChange fnExactTxStepsWrong)

/-- 'laws.FnExactClashesOf': WHATEVER THE INPUT: true; the input reads as it did. -/
def fnExactClashesOfSpec : ChangeSpec := { name := "fnExactClashesOf", fn := fun _ => fun
  | [d1, d2, d3] => { results := [.lit (.bool true)], args := [d1, d2, d3] }
  | _ => none }
def fnExactClashesOfRow : OpenClaim := { program := "ytefenfglkfdoaaa", sum := "3925d7fb9dc2adee937abf46431a617b71c10cca39a22ab121ebffd8ba79c217", func := "loop.example/g00974/laws.FnExactClashesOf", spec := "fnExactClashesOf", unfollowed := true, recurses := true, apart := false }
def FnExactClashesOfSaid : Prop := fnExactClashesOfRow.holds Try.pinned (OpenSpec.ofChange fnExactClashesOfSpec)

/-- ITS FALSE NEIGHBOUR: 'it returns false'. Refute it at one input. -/
def fnExactClashesOfWrong : ChangeSpec := { name := "fnExactClashesOf", fn := fun _ => fun
  | [d1, d2, d3] => { results := [.lit (.bool false)], args := [d1, d2, d3] }
  | _ => none }
def FnExactClashesOfWrongFalsely : Prop := fnExactClashesOfRow.holds Try.pinned (OpenSpec.ofChange fnExactClashesOfWrong)

/-- 'laws.FnExactSettle': WHATEVER THE INPUT: true; the input reads as it did. -/
def fnExactSettleSpec : ChangeSpec := { name := "fnExactSettle", fn := fun _ => fun
  | [d1, d2, d3] => { results := [.lit (.bool true)], args := [d1, d2, d3] }
  | _ => none }
def fnExactSettleRow : OpenClaim := { program := "ytefenfglkfdoaaa", sum := "3925d7fb9dc2adee937abf46431a617b71c10cca39a22ab121ebffd8ba79c217", func := "loop.example/g00974/laws.FnExactSettle", spec := "fnExactSettle", unfollowed := true, recurses := true, apart := false }
def FnExactSettleSaid : Prop := fnExactSettleRow.holds Try.pinned (OpenSpec.ofChange fnExactSettleSpec)

/-- ITS FALSE NEIGHBOUR: 'it returns false'. Refute it at one input. -/
def fnExactSettleWrong : ChangeSpec := { name := "fnExactSettle", fn := fun _ => fun
  | [d1, d2, d3] => { results := [.lit (.bool false)], args := [d1, d2, d3] }
  | _ => none }
def FnExactSettleWrongFalsely : Prop := fnExactSettleRow.holds Try.pinned (OpenSpec.ofChange fnExactSettleWrong)

/- THE SECOND FORM. 'bulk': how many values and letters a reading holds, each counted each time it is reached (what is shared counts as often as it is met; a slice's spare places count too). A statement '..UptoSaid' is the law's where the arguments, and the package variables that the reading takes, are together of bulk at most 1048576: NARROWER than '..Said'. Prove '..Said' where nothing that the law and all that it calls make is longer than what came in: it says more and counts as full. Else prove '..UptoSaid'. A law counts once. -/
mutual
def uptoBulk {H : Type} : DataW H → Nat
  | .lit (.string bytes) => bytes.length + 1
  | .lit _ => 1
  | .nil => 1
  | .ptr d => uptoBulk d + 1
  | .slice elems spare => uptoBulkAll elems + uptoBulkAll spare + 1
  | .agg parts => uptoBulkAll parts + 1
  | .iface _ d => uptoBulk d + 1
  | .map entries => uptoBulkEntries entries + 1
  | .held _ => 1
def uptoBulkAll {H : Type} : List (DataW H) → Nat
  | [] => 0
  | d :: r => uptoBulk d + uptoBulkAll r
def uptoBulkEntries {H : Type} : List (Lit × DataW H) → Nat
  | [] => 0
  | x :: r => uptoBulkEntry x + uptoBulkEntries r
def uptoBulkEntry {H : Type} : Lit × DataW H → Nat
  | (.string bytes, d) => bytes.length + uptoBulk d + 1
  | (_, d) => uptoBulk d + 1
 end
def uptoSmall : (H : Type) → List (DataW H) → Bool := fun _ ds => decide (uptoBulkAll ds ≤ 1048576)
def OpenSpec.upto (s : _root_.Go.ChangeSpec) : _root_.Go.OpenSpec := { _root_.Go.OpenSpec.ofChange s with cond := some uptoSmall }

/-- 'laws.FnExactTxNew', WHERE WHAT IT READS IS OF BULK AT MOST 1048576: true; the input reads as it did. -/
def fnExactTxNewUptoRow : OpenClaim := { program := "ytefenfglkfdoaaa", sum := "3925d7fb9dc2adee937abf46431a617b71c10cca39a22ab121ebffd8ba79c217", func := "loop.example/g00974/laws.FnExactTxNew", spec := "fnExactTxNew", apart := false, narrowed := true }
def FnExactTxNewUptoSaid : Prop := fnExactTxNewUptoRow.holds Try.pinned (OpenSpec.upto fnExactTxNewSpec)

/-- 'laws.FnExactMarked', WHERE WHAT IT READS IS OF BULK AT MOST 1048576: true; the input reads as it did. -/
def fnExactMarkedUptoRow : OpenClaim := { program := "ytefenfglkfdoaaa", sum := "3925d7fb9dc2adee937abf46431a617b71c10cca39a22ab121ebffd8ba79c217", func := "loop.example/g00974/laws.FnExactMarked", spec := "fnExactMarked", apart := false, narrowed := true }
def FnExactMarkedUptoSaid : Prop := fnExactMarkedUptoRow.holds Try.pinned (OpenSpec.upto fnExactMarkedSpec)

/-- 'laws.FnExactOlder', WHERE WHAT IT READS IS OF BULK AT MOST 1048576: true; the input reads as it did. -/
def fnExactOlderUptoRow : OpenClaim := { program := "ytefenfglkfdoaaa", sum := "3925d7fb9dc2adee937abf46431a617b71c10cca39a22ab121ebffd8ba79c217", func := "loop.example/g00974/laws.FnExactOlder", spec := "fnExactOlder", apart := false, narrowed := true }
def FnExactOlderUptoSaid : Prop := fnExactOlderUptoRow.holds Try.pinned (OpenSpec.upto fnExactOlderSpec)

/-- 'laws.FnExactMarksOk', WHERE WHAT IT READS IS OF BULK AT MOST 1048576: true; the input reads as it did. -/
def fnExactMarksOkUptoRow : OpenClaim := { program := "ytefenfglkfdoaaa", sum := "3925d7fb9dc2adee937abf46431a617b71c10cca39a22ab121ebffd8ba79c217", func := "loop.example/g00974/laws.FnExactMarksOk", spec := "fnExactMarksOk", unfollowed := true, recurses := true, apart := false, narrowed := true }
def FnExactMarksOkUptoSaid : Prop := fnExactMarksOkUptoRow.holds Try.pinned (OpenSpec.upto fnExactMarksOkSpec)

/-- 'laws.FnExactNextAge', WHERE WHAT IT READS IS OF BULK AT MOST 1048576: true; the input reads as it did. -/
def fnExactNextAgeUptoRow : OpenClaim := { program := "ytefenfglkfdoaaa", sum := "3925d7fb9dc2adee937abf46431a617b71c10cca39a22ab121ebffd8ba79c217", func := "loop.example/g00974/laws.FnExactNextAge", spec := "fnExactNextAge", apart := false, narrowed := true }
def FnExactNextAgeUptoSaid : Prop := fnExactNextAgeUptoRow.holds Try.pinned (OpenSpec.upto fnExactNextAgeSpec)

/-- 'laws.FnExactFindTx', WHERE WHAT IT READS IS OF BULK AT MOST 1048576: true; the input reads as it did. -/
def fnExactFindTxUptoRow : OpenClaim := { program := "ytefenfglkfdoaaa", sum := "3925d7fb9dc2adee937abf46431a617b71c10cca39a22ab121ebffd8ba79c217", func := "loop.example/g00974/laws.FnExactFindTx", spec := "fnExactFindTx", unfollowed := true, recurses := true, apart := false, narrowed := true }
def FnExactFindTxUptoSaid : Prop := fnExactFindTxUptoRow.holds Try.pinned (OpenSpec.upto fnExactFindTxSpec)

/-- 'laws.FnExactOldestLive', WHERE WHAT IT READS IS OF BULK AT MOST 1048576: true; the input reads as it did. -/
def fnExactOldestLiveUptoRow : OpenClaim := { program := "ytefenfglkfdoaaa", sum := "3925d7fb9dc2adee937abf46431a617b71c10cca39a22ab121ebffd8ba79c217", func := "loop.example/g00974/laws.FnExactOldestLive", spec := "fnExactOldestLive", apart := false, narrowed := true }
def FnExactOldestLiveUptoSaid : Prop := fnExactOldestLiveUptoRow.holds Try.pinned (OpenSpec.upto fnExactOldestLiveSpec)

/-- 'laws.FnExactSameTx', WHERE WHAT IT READS IS OF BULK AT MOST 1048576: true; the input reads as it did. -/
def fnExactSameTxUptoRow : OpenClaim := { program := "ytefenfglkfdoaaa", sum := "3925d7fb9dc2adee937abf46431a617b71c10cca39a22ab121ebffd8ba79c217", func := "loop.example/g00974/laws.FnExactSameTx", spec := "fnExactSameTx", apart := false, narrowed := true }
def FnExactSameTxUptoSaid : Prop := fnExactSameTxUptoRow.holds Try.pinned (OpenSpec.upto fnExactSameTxSpec)

/-- 'laws.FnExactYoungerAll', WHERE WHAT IT READS IS OF BULK AT MOST 1048576: true; the input reads as it did. -/
def fnExactYoungerAllUptoRow : OpenClaim := { program := "ytefenfglkfdoaaa", sum := "3925d7fb9dc2adee937abf46431a617b71c10cca39a22ab121ebffd8ba79c217", func := "loop.example/g00974/laws.FnExactYoungerAll", spec := "fnExactYoungerAll", unfollowed := true, recurses := true, apart := false, narrowed := true }
def FnExactYoungerAllUptoSaid : Prop := fnExactYoungerAllUptoRow.holds Try.pinned (OpenSpec.upto fnExactYoungerAllSpec)

/-- 'laws.FnExactSinceMark', WHERE WHAT IT READS IS OF BULK AT MOST 1048576: true; the input reads as it did. -/
def fnExactSinceMarkUptoRow : OpenClaim := { program := "ytefenfglkfdoaaa", sum := "3925d7fb9dc2adee937abf46431a617b71c10cca39a22ab121ebffd8ba79c217", func := "loop.example/g00974/laws.FnExactSinceMark", spec := "fnExactSinceMark", apart := false, narrowed := true }
def FnExactSinceMarkUptoSaid : Prop := fnExactSinceMarkUptoRow.holds Try.pinned (OpenSpec.upto fnExactSinceMarkSpec)

/-- 'laws.FnExactLiveIn', WHERE WHAT IT READS IS OF BULK AT MOST 1048576: true; the input reads as it did. -/
def fnExactLiveInUptoRow : OpenClaim := { program := "ytefenfglkfdoaaa", sum := "3925d7fb9dc2adee937abf46431a617b71c10cca39a22ab121ebffd8ba79c217", func := "loop.example/g00974/laws.FnExactLiveIn", spec := "fnExactLiveIn", unfollowed := true, recurses := true, apart := false, narrowed := true }
def FnExactLiveInUptoSaid : Prop := fnExactLiveInUptoRow.holds Try.pinned (OpenSpec.upto fnExactLiveInSpec)

/-- 'laws.FnExactAllApart', WHERE WHAT IT READS IS OF BULK AT MOST 1048576: true; the input reads as it did. -/
def fnExactAllApartUptoRow : OpenClaim := { program := "ytefenfglkfdoaaa", sum := "3925d7fb9dc2adee937abf46431a617b71c10cca39a22ab121ebffd8ba79c217", func := "loop.example/g00974/laws.FnExactAllApart", spec := "fnExactAllApart", unfollowed := true, recurses := true, apart := false, narrowed := true }
def FnExactAllApartUptoSaid : Prop := fnExactAllApartUptoRow.holds Try.pinned (OpenSpec.upto fnExactAllApartSpec)

/-- 'laws.FnExactTxSteps', WHERE WHAT IT READS IS OF BULK AT MOST 1048576: true; the input reads as it did. -/
def fnExactTxStepsUptoRow : OpenClaim := { program := "ytefenfglkfdoaaa", sum := "3925d7fb9dc2adee937abf46431a617b71c10cca39a22ab121ebffd8ba79c217", func := "loop.example/g00974/laws.FnExactTxSteps", spec := "fnExactTxSteps", apart := false, narrowed := true }
def FnExactTxStepsUptoSaid : Prop := fnExactTxStepsUptoRow.holds Try.pinned (OpenSpec.upto fnExactTxStepsSpec)

/-- 'laws.FnExactClashesOf', WHERE WHAT IT READS IS OF BULK AT MOST 1048576: true; the input reads as it did. -/
def fnExactClashesOfUptoRow : OpenClaim := { program := "ytefenfglkfdoaaa", sum := "3925d7fb9dc2adee937abf46431a617b71c10cca39a22ab121ebffd8ba79c217", func := "loop.example/g00974/laws.FnExactClashesOf", spec := "fnExactClashesOf", unfollowed := true, recurses := true, apart := false, narrowed := true }
def FnExactClashesOfUptoSaid : Prop := fnExactClashesOfUptoRow.holds Try.pinned (OpenSpec.upto fnExactClashesOfSpec)

/-- 'laws.FnExactSettle', WHERE WHAT IT READS IS OF BULK AT MOST 1048576: true; the input reads as it did. -/
def fnExactSettleUptoRow : OpenClaim := { program := "ytefenfglkfdoaaa", sum := "3925d7fb9dc2adee937abf46431a617b71c10cca39a22ab121ebffd8ba79c217", func := "loop.example/g00974/laws.FnExactSettle", spec := "fnExactSettle", unfollowed := true, recurses := true, apart := false, narrowed := true }
def FnExactSettleUptoSaid : Prop := fnExactSettleUptoRow.holds Try.pinned (OpenSpec.upto fnExactSettleSpec)

end Rows
end Go.Proofs.Ytefenfglkfdoaaa
