/-
  DERIVED. GIVEN WITH THE SEED: THE CARDS: each row of YtedgenmbdjadkaaDoorRows.lean that lists a variable, with what it lists TIED to the program's text (the seventh form; the later family's looks); each row that meets fmt, with fmt's text TOLD by the authors' own Lean function (tested against real Go, not proved from fmt's source: count such statements apart). THE CARD IS WHAT COUNTS. Prove the row's statement (the work); the ties are given (YtedgenmbdjadkaaDoorTie.lean); close each card by the builder's one call (the guide's Derived/Test/ToyasCard.lean, 'card_holds'). Laid BY PROGRAM, IN A SANDBOX (cutbox-door.mjs). By AI agents, Wed Nov 11 2026. No macro, syntax, notation, axiom, sorry.
-/
import Derived.Test.YtedgenmbdjadkaaDoorRows
import GoSem.ClaimSeven
namespace Go.Proofs.YtedgenmbdjadkaaDoor
namespace Rows

/-- THE TIED CARD OF 'laws.FnExactLinesIn'. -/
def fnExactLinesInCard : Claim7 := { stood := { row := fnExactLinesInRow, standIns := [], harness := (true, "6fca4220a79bb49cd64e5311511675169837a1c5180dbafaafb7f42530af2877"), looks := true }, kinds := [], alts := [], laidByText := true, laidKinds := [.data, .pinned], laidTests := true, laidLooks := .later }
def FnExactLinesInCardSaid : Prop := Claim7.holds Tryd.pinned (.plain (OpenSpec.ofChange fnExactLinesInSpec)) fnExactLinesInCard

/-- THE TIED CARD OF 'laws.FnExactLastSeq'. -/
def fnExactLastSeqCard : Claim7 := { stood := { row := fnExactLastSeqRow, standIns := [], harness := (true, "6fca4220a79bb49cd64e5311511675169837a1c5180dbafaafb7f42530af2877"), looks := true }, kinds := [], alts := [], laidByText := true, laidKinds := [.data, .data, .data, .data, .sentinel, .sentinel, .sentinel, .pinned], laidTests := true, laidLooks := .later }
def FnExactLastSeqCardSaid : Prop := Claim7.holds Tryd.pinned (.plain (OpenSpec.ofChange fnExactLastSeqSpec)) fnExactLastSeqCard

/-- THE SECOND FORM's CARD OF 'laws.FnExactLinesIn'. -/
def fnExactLinesInUptoCard : Claim7 := { stood := { row := fnExactLinesInUptoRow, standIns := [], harness := (true, "6fca4220a79bb49cd64e5311511675169837a1c5180dbafaafb7f42530af2877"), looks := true }, kinds := [], alts := [], laidByText := true, laidKinds := [.data, .pinned], laidTests := true, laidLooks := .later }
def FnExactLinesInUptoCardSaid : Prop := Claim7.holds Tryd.pinned (.plain (OpenSpec.upto fnExactLinesInSpec)) fnExactLinesInUptoCard

/-- THE SECOND FORM's CARD OF 'laws.FnExactLastSeq'. -/
def fnExactLastSeqUptoCard : Claim7 := { stood := { row := fnExactLastSeqUptoRow, standIns := [], harness := (true, "6fca4220a79bb49cd64e5311511675169837a1c5180dbafaafb7f42530af2877"), looks := true }, kinds := [], alts := [], laidByText := true, laidKinds := [.data, .data, .data, .data, .sentinel, .sentinel, .sentinel, .pinned], laidTests := true, laidLooks := .later }
def FnExactLastSeqUptoCardSaid : Prop := Claim7.holds Tryd.pinned (.plain (OpenSpec.upto fnExactLastSeqSpec)) fnExactLastSeqUptoCard
end Rows
end Go.Proofs.YtedgenmbdjadkaaDoor
