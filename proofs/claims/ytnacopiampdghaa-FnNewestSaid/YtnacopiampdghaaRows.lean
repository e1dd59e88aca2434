/-
  No cell of these rows narrows 'for every input' (looked for: loops, veiled, ifaces, maps, wideKeys, modest, calm, conditions, laid).
  DERIVED. THE GIVEN ROWS OF THIS SEAT. 7 by the template 'for every input the law returns true; each argument reads behind the call as it read before'; 0 by the template 'total and deterministic' (their statements: YtnacopiampdghaaTotals.lean).
  GIVEN WITH THE SEED: the statements are not yours to turn. If you find one false, say at which input.
  Laid BY PROGRAM, IN A SANDBOX (cutbox-rows.mjs): the forced cells as the released guide's own fill.sh prints them over the translation ce1e6f9a277b9815… (all of the seat's roots in one cut). By AI agents, Wed Nov 11 2026. No macro, syntax, notation, axiom, sorry.
-/
import Derived.Test.YtnacopiampdghaaChecked
import GoSem.Claim
import GoSem.ClaimJoined
import GoSem.ClaimMapViews
import Derived.JoinedTies
import Derived.KernelRfl
namespace Go.Proofs.Ytnacopiampdghaa
/- THE CELL 'sum', in the pinned program and in every row, IS THE sha256 OF THE DUMP (.gsa) THAT YtnacopiampdghaaProg.lean LOADS. Nothing in Lean hashes anything: it is a label: what it is worth is what the hold of that sum in a sandbox is worth. -/
noncomputable def Try.pinned : Pinned := { name := "ytnacopiampdghaa", sum := "ce1e6f9a277b981522f6894e8588af1f75c0bcaf674bfdf063ec1613bbc9ccbb", checked := Try.checked }
namespace Rows
def none {H : Type} : Left H := { results := [], args := [] }

/-- 'laws.FnExactByteSum': WHATEVER THE INPUT: true; the input reads as it did. -/
def fnExactByteSumSpec : ChangeSpec := { name := "fnExactByteSum", fn := fun _ => fun
  | [d] => { results := [.lit (.bool true)], args := [d] }
  | _ => none }
def fnExactByteSumRow : OpenClaim := { program := "ytnacopiampdghaa", sum := "ce1e6f9a277b981522f6894e8588af1f75c0bcaf674bfdf063ec1613bbc9ccbb", func := "loop.example/g00974/laws.FnExactByteSum", spec := "fnExactByteSum", apart := false }
def FnExactByteSumSaid : Prop := fnExactByteSumRow.holds Try.pinned (OpenSpec.ofChange fnExactByteSumSpec)

/-- ITS FALSE NEIGHBOUR: 'it returns false'. Refute it at one input. -/
def fnExactByteSumWrong : ChangeSpec := { name := "fnExactByteSum", fn := fun _ => fun
  | [d] => { results := [.lit (.bool false)], args := [d] }
  | _ => none }
def FnExactByteSumWrongFalsely : Prop := fnExactByteSumRow.holds Try.pinned (OpenSpec.ofChange fnExactByteSumWrong)

/-- 'laws.FnExactJournalOk': WHATEVER THE INPUT: true; the input reads as it did. -/
def fnExactJournalOkSpec : ChangeSpec := { name := "fnExactJournalOk", fn := fun _ => fun
  | [d] => { results := [.lit (.bool true)], args := [d] }
  | _ => none }
def fnExactJournalOkRow : OpenClaim := { program := "ytnacopiampdghaa", sum := "ce1e6f9a277b981522f6894e8588af1f75c0bcaf674bfdf063ec1613bbc9ccbb", func := "loop.example/g00974/laws.FnExactJournalOk", spec := "fnExactJournalOk", apart := false }
def FnExactJournalOkSaid : Prop := fnExactJournalOkRow.holds Try.pinned (OpenSpec.ofChange fnExactJournalOkSpec)

/-- ITS FALSE NEIGHBOUR: 'it returns false'. Refute it at one input. -/
def fnExactJournalOkWrong : ChangeSpec := { name := "fnExactJournalOk", fn := fun _ => fun
  | [d] => { results := [.lit (.bool false)], args := [d] }
  | _ => none }
def FnExactJournalOkWrongFalsely : Prop := fnExactJournalOkRow.holds Try.pinned (OpenSpec.ofChange fnExactJournalOkWrong)

/-- 'laws.FnExactFlush': WHATEVER THE INPUT: true; the input reads as it did. -/
def fnExactFlushSpec : ChangeSpec := { name := "fnExactFlush", fn := fun _ => fun
  | [d] => { results := [.lit (.bool true)], args := [d] }
  | _ => none }
def fnExactFlushRow : OpenClaim := { program := "ytnacopiampdghaa", sum := "ce1e6f9a277b981522f6894e8588af1f75c0bcaf674bfdf063ec1613bbc9ccbb", func := "loop.example/g00974/laws.FnExactFlush", spec := "fnExactFlush", apart := false }
def FnExactFlushSaid : Prop := fnExactFlushRow.holds Try.pinned (OpenSpec.ofChange fnExactFlushSpec)

/-- ITS FALSE NEIGHBOUR: 'it returns false'. Refute it at one input. -/
def fnExactFlushWrong : ChangeSpec := { name := "fnExactFlush", fn := fun _ => fun
  | [d] => { results := [.lit (.bool false)], args := [d] }
  | _ => none }
def FnExactFlushWrongFalsely : Prop := fnExactFlushRow.holds Try.pinned (OpenSpec.ofChange fnExactFlushWrong)

/-- 'laws.FnExactAddText': WHATEVER THE INPUT: true; the input reads as it did. -/
def fnExactAddTextSpec : ChangeSpec := { name := "fnExactAddText", fn := fun _ => fun
  | [d1, d2] => { results := [.lit (.bool true)], args := [d1, d2] }
  | _ => none }
def fnExactAddTextRow : OpenClaim := { program := "ytnacopiampdghaa", sum := "ce1e6f9a277b981522f6894e8588af1f75c0bcaf674bfdf063ec1613bbc9ccbb", func := "loop.example/g00974/laws.FnExactAddText", spec := "fnExactAddText", apart := false }
def FnExactAddTextSaid : Prop := fnExactAddTextRow.holds Try.pinned (OpenSpec.ofChange fnExactAddTextSpec)

/-- ITS FALSE NEIGHBOUR: 'it returns false'. Refute it at one input. -/
def fnExactAddTextWrong : ChangeSpec := { name := "fnExactAddText", fn := fun _ => fun
  | [d1, d2] => { results := [.lit (.bool false)], args := [d1, d2] }
  | _ => none }
def FnExactAddTextWrongFalsely : Prop := fnExactAddTextRow.holds Try.pinned (OpenSpec.ofChange fnExactAddTextWrong)

/-- 'laws.FnExactFallJournal': WHATEVER THE INPUT: true; the input reads as it did. -/
def fnExactFallJournalSpec : ChangeSpec := { name := "fnExactFallJournal", fn := fun _ => fun
  | [d1, d2] => { results := [.lit (.bool true)], args := [d1, d2] }
  | _ => none }
def fnExactFallJournalRow : OpenClaim := { program := "ytnacopiampdghaa", sum := "ce1e6f9a277b981522f6894e8588af1f75c0bcaf674bfdf063ec1613bbc9ccbb", func := "loop.example/g00974/laws.FnExactFallJournal", spec := "fnExactFallJournal", apart := false }
def FnExactFallJournalSaid : Prop := fnExactFallJournalRow.holds Try.pinned (OpenSpec.ofChange fnExactFallJournalSpec)

/-- ITS FALSE NEIGHBOUR: 'it returns false'. Refute it at one input. -/
def fnExactFallJournalWrong : ChangeSpec := { name := "fnExactFallJournal", fn := fun _ => fun
  | [d1, d2] => { results := [.lit (.bool false)], args := [d1, d2] }
  | _ => none }
def FnExactFallJournalWrongFalsely : Prop := fnExactFallJournalRow.holds Try.pinned (OpenSpec.ofChange fnExactFallJournalWrong)

/-- 'laws.FnOlderChain': WHATEVER THE INPUT: true; the input reads as it did. -/
def fnOlderChainSpec : ChangeSpec := { name := "fnOlderChain", fn := fun _ => fun
  | [d] => { results := [.lit (.bool true)], args := [d] }
  | _ => none }
def fnOlderChainRow : OpenClaim := { program := "ytnacopiampdghaa", sum := "ce1e6f9a277b981522f6894e8588af1f75c0bcaf674bfdf063ec1613bbc9ccbb", func := "loop.example/g00974/laws.FnOlderChain", spec := "fnOlderChain", apart := false }
def FnOlderChainSaid : Prop := fnOlderChainRow.holds Try.pinned (OpenSpec.ofChange fnOlderChainSpec)

/-- ITS FALSE NEIGHBOUR: 'it returns false'. Refute it at one input. -/
def fnOlderChainWrong : ChangeSpec := { name := "fnOlderChain", fn := fun _ => fun
  | [d] => { results := [.lit (.bool false)], args := [d] }
  | _ => none }
def FnOlderChainWrongFalsely : Prop := fnOlderChainRow.holds Try.pinned (OpenSpec.ofChange fnOlderChainWrong)

/-- 'laws.FnNewest': WHATEVER THE INPUT: true; the input reads as it did. -/
def fnNewestSpec : ChangeSpec := { name := "fnNewest", fn := fun _ => fun
  | [d] => { results := [.lit (.bool true)], args := [d] }
  | _ => none }
def fnNewestRow : OpenClaim := { program := "ytnacopiampdghaa", sum := "ce1e6f9a277b981522f6894e8588af1f75c0bcaf674bfdf063ec1613bbc9ccbb", func := "loop.example/g00974/laws.FnNewest", spec := "fnNewest", apart := false }
def FnNewestSaid : Prop := fnNewestRow.holds Try.pinned (OpenSpec.ofChange fnNewestSpec)

/-- ITS FALSE NEIGHBOUR: 'it returns false'. Refute it at one input. -/
def fnNewestWrong : ChangeSpec := { name := "fnNewest", fn := fun _ => fun
  | [d] => { results := [.lit (.bool false)], args := [d] }
  | _ => none }
def FnNewestWrongFalsely : Prop := fnNewestRow.holds Try.pinned (OpenSpec.ofChange fnNewestWrong)

/- THE SECOND FORM. 'bulk': how many values and letters a reading holds, each counted each time it is reached (what is shared counts as often as it is met; a slice's spare places count too). A statement '..UptoSaid' is the law's where the arguments, and the package variables that the reading takes, are together of bulk at most 1048576: NARROWER than '..Said'. Prove '..Said' where nothing that the law and all that it calls make is longer than what came in: it says more and counts as full. Else prove '..UptoSaid'. A law counts once. -/
mutual
def uptoBulk {H : Type} : DataW H → Nat
  | .lit (.string bytes) => bytes.length + 1
  | .lit _ => 1
  | .nil => 1
  | .ptr d => uptoBulk d + 1
  | .slice elems spare => uptoBulkAll elems + uptoBulkAll spare + 1
  | .agg parts => uptoBulkAll parts + 1
  | .iface _ d => uptoBulk d + 1
  | .map entries => uptoBulkEntries entries + 1
  | .held _ => 1
def uptoBulkAll {H : Type} : List (DataW H) → Nat
  | [] => 0
  | d :: r => uptoBulk d + uptoBulkAll r
def uptoBulkEntries {H : Type} : List (Lit × DataW H) → Nat
  | [] => 0
  | x :: r => uptoBulkEntry x + uptoBulkEntries r
def uptoBulkEntry {H : Type} : Lit × DataW H → Nat
  | (.string bytes, d) => bytes.length + uptoBulk d + 1
  | (_, d) => uptoBulk d + 1
 end
def uptoSmall : (H : Type) → List (DataW H) → Bool := fun _ ds => decide (uptoBulkAll ds ≤ 1048576)
def OpenSpec.upto (s : _root_.Go.ChangeSpec) : _root_.Go.OpenSpec := { _root_.Go.OpenSpec.ofChange s with cond := some uptoSmall }

/-- 'laws.FnExactByteSum', WHERE WHAT IT READS IS OF BULK AT MOST 1048576: true; the input reads as it did. -/
def fnExactByteSumUptoRow : OpenClaim := { program := "ytnacopiampdghaa", sum := "ce1e6f9a277b981522f6894e8588af1f75c0bcaf674bfdf063ec1613bbc9ccbb", func := "loop.example/g00974/laws.FnExactByteSum", spec := "fnExactByteSum", apart := false, narrowed := true }
def FnExactByteSumUptoSaid : Prop := fnExactByteSumUptoRow.holds Try.pinned (OpenSpec.upto fnExactByteSumSpec)

/-- 'laws.FnExactJournalOk', WHERE WHAT IT READS IS OF BULK AT MOST 1048576: true; the input reads as it did. -/
def fnExactJournalOkUptoRow : OpenClaim := { program := "ytnacopiampdghaa", sum := "ce1e6f9a277b981522f6894e8588af1f75c0bcaf674bfdf063ec1613bbc9ccbb", func := "loop.example/g00974/laws.FnExactJournalOk", spec := "fnExactJournalOk", apart := false, narrowed := true }
def FnExactJournalOkUptoSaid : Prop := fnExactJournalOkUptoRow.holds Try.pinned (OpenSpec.upto fnExactJournalOkSpec)

/-- 'laws.FnExactFlush', WHERE WHAT IT READS IS OF BULK AT MOST 1048576: true; the input reads as it did. -/
def fnExactFlushUptoRow : OpenClaim := { program := "ytnacopiampdghaa", sum := "ce1e6f9a277b981522f6894e8588af1f75c0bcaf674bfdf063ec1613bbc9ccbb", func := "loop.example/g00974/laws.FnExactFlush", spec := "fnExactFlush", apart := false, narrowed := true }
def FnExactFlushUptoSaid : Prop := fnExactFlushUptoRow.holds Try.pinned (OpenSpec.upto fnExactFlushSpec)

/-- 'laws.FnExactAddText', WHERE WHAT IT READS IS OF BULK AT MOST 1048576: true; the input reads as it did. -/
def fnExactAddTextUptoRow : OpenClaim := { program := "ytnacopiampdghaa", sum := "ce1e6f9a277b981522f6894e8588af1f75c0bcaf674bfdf063ec1613bbc9ccbb", func := "loop.example/g00974/laws.FnExactAddText", spec := "fnExactAddText", apart := false, narrowed := true }
def FnExactAddTextUptoSaid : Prop := fnExactAddTextUptoRow.holds Try.pinned (OpenSpec.upto fnExactAddTextSpec)

/-- 'laws.FnExactFallJournal', WHERE WHAT IT READS IS OF BULK AT MOST 1048576: true; the input reads as it did. -/
def fnExactFallJournalUptoRow : OpenClaim := { program := "ytnacopiampdghaa", sum := "ce1e6f9a277b981522f6894e8588af1f75c0bcaf674bfdf063ec1613bbc9ccbb", func := "loop.example/g00974/laws.FnExactFallJournal", spec := "fnExactFallJournal", apart := false, narrowed := true }
def FnExactFallJournalUptoSaid : Prop := fnExactFallJournalUptoRow.holds Try.pinned (OpenSpec.upto fnExactFallJournalSpec)

/-- 'laws.FnOlderChain', WHERE WHAT IT READS IS OF BULK AT MOST 1048576: true; the input reads as it did. -/
def fnOlderChainUptoRow : OpenClaim := { program := "ytnacopiampdghaa", sum := "ce1e6f9a277b981522f6894e8588af1f75c0bcaf674bfdf063ec1613bbc9ccbb", func := "loop.example/g00974/laws.FnOlderChain", spec := "fnOlderChain", apart := false, narrowed := true }
def FnOlderChainUptoSaid : Prop := fnOlderChainUptoRow.holds Try.pinned (OpenSpec.upto fnOlderChainSpec)

/-- 'laws.FnNewest', WHERE WHAT IT READS IS OF BULK AT MOST 1048576: true; the input reads as it did. -/
def fnNewestUptoRow : OpenClaim := { program := "ytnacopiampdghaa", sum := "ce1e6f9a277b981522f6894e8588af1f75c0bcaf674bfdf063ec1613bbc9ccbb", func := "loop.example/g00974/laws.FnNewest", spec := "fnNewest", apart := false, narrowed := true }
def FnNewestUptoSaid : Prop := fnNewestUptoRow.holds Try.pinned (OpenSpec.upto fnNewestSpec)

end Rows
end Go.Proofs.Ytnacopiampdghaa
