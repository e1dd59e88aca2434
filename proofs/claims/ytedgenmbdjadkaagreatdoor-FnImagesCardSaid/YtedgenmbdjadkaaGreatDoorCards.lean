/-
  DERIVED. GIVEN WITH THE SEED: THE CARDS: each row of YtedgenmbdjadkaaGreatDoorRows.lean that lists a variable, with what it lists TIED to the program's text (the seventh form; the later family's looks); each row that meets fmt, with fmt's text TOLD by the authors' own Lean function (tested against real Go, not proved from fmt's source: count such statements apart). THE CARD IS WHAT COUNTS. Prove the row's statement (the work); the ties are given (YtedgenmbdjadkaaGreatDoorTie.lean); close each card by the builder's one call (the guide's Derived/Test/ToyasCard.lean, 'card_holds'). Laid BY PROGRAM, IN A SANDBOX (cutbox-door.mjs). By AI agents, Wed Nov 11 2026. No macro, syntax, notation, axiom, sorry.
-/
import Derived.Test.YtedgenmbdjadkaaGreatDoorRows
import GoSem.ClaimSeven
namespace Go.Proofs.YtedgenmbdjadkaaGreatDoor
namespace Rows

/-- THE TIED CARD OF 'laws.FnExactRecordsIn'. -/
def fnExactRecordsInCard : Claim7 := { stood := { row := fnExactRecordsInRow, standIns := [], harness := (true, "728749bee361f3ecae181174523e4800be4e9f8c60b9e69fdf23c99e17fa22dc"), looks := true }, kinds := [], alts := [], laidByText := true, laidKinds := [.data, .data, .data, .data, .sentinel, .sentinel, .sentinel, .pinned], laidTests := true, laidLooks := .later }
def FnExactRecordsInCardSaid : Prop := Claim7.holds Tryz.pinned (.plain (OpenSpec.ofChange fnExactRecordsInSpec)) fnExactRecordsInCard

/-- THE TIED CARD OF 'laws.FnJournalCuts'. -/
def fnJournalCutsCard : Claim7 := { stood := { row := fnJournalCutsRow, standIns := [], harness := (true, "728749bee361f3ecae181174523e4800be4e9f8c60b9e69fdf23c99e17fa22dc"), looks := true }, kinds := [], alts := [], laidByText := true, laidKinds := [.data, .data, .data, .data, .sentinel, .sentinel, .sentinel, .pinned], laidTests := true, laidLooks := .later }
def FnJournalCutsCardSaid : Prop := Claim7.holds Tryz.pinned (.plain (OpenSpec.ofChange fnJournalCutsSpec)) fnJournalCutsCard

/-- THE TIED CARD OF 'laws.FnImages'. -/
def fnImagesCard : Claim7 := { stood := { row := fnImagesRow, standIns := [], harness := (true, "728749bee361f3ecae181174523e4800be4e9f8c60b9e69fdf23c99e17fa22dc"), looks := true }, kinds := [], alts := [], laidByText := true, laidKinds := [.data, .data, .data, .data, .sentinel, .sentinel, .sentinel, .pinned], laidTests := true, laidLooks := .later }
def FnImagesCardSaid : Prop := Claim7.holds Tryz.pinned (.plain (OpenSpec.ofChange fnImagesSpec)) fnImagesCard

/-- THE TIED CARD OF 'laws.FnJournal'. -/
def fnJournalCard : Claim7 := { stood := { row := fnJournalRow, standIns := [], harness := (true, "728749bee361f3ecae181174523e4800be4e9f8c60b9e69fdf23c99e17fa22dc"), looks := true }, kinds := [], alts := [], laidByText := true, laidKinds := [.data, .data, .data, .data, .sentinel, .sentinel, .sentinel, .pinned], laidTests := true, laidLooks := .later }
def FnJournalCardSaid : Prop := Claim7.holds Tryz.pinned (.plain (OpenSpec.ofChange fnJournalSpec)) fnJournalCard

/-- THE SECOND FORM's CARD OF 'laws.FnExactRecordsIn'. -/
def fnExactRecordsInUptoCard : Claim7 := { stood := { row := fnExactRecordsInUptoRow, standIns := [], harness := (true, "728749bee361f3ecae181174523e4800be4e9f8c60b9e69fdf23c99e17fa22dc"), looks := true }, kinds := [], alts := [], laidByText := true, laidKinds := [.data, .data, .data, .data, .sentinel, .sentinel, .sentinel, .pinned], laidTests := true, laidLooks := .later }
def FnExactRecordsInUptoCardSaid : Prop := Claim7.holds Tryz.pinned (.plain (OpenSpec.upto fnExactRecordsInSpec)) fnExactRecordsInUptoCard

/-- THE SECOND FORM's CARD OF 'laws.FnJournalCuts'. -/
def fnJournalCutsUptoCard : Claim7 := { stood := { row := fnJournalCutsUptoRow, standIns := [], harness := (true, "728749bee361f3ecae181174523e4800be4e9f8c60b9e69fdf23c99e17fa22dc"), looks := true }, kinds := [], alts := [], laidByText := true, laidKinds := [.data, .data, .data, .data, .sentinel, .sentinel, .sentinel, .pinned], laidTests := true, laidLooks := .later }
def FnJournalCutsUptoCardSaid : Prop := Claim7.holds Tryz.pinned (.plain (OpenSpec.upto fnJournalCutsSpec)) fnJournalCutsUptoCard

/-- THE SECOND FORM's CARD OF 'laws.FnImages'. -/
def fnImagesUptoCard : Claim7 := { stood := { row := fnImagesUptoRow, standIns := [], harness := (true, "728749bee361f3ecae181174523e4800be4e9f8c60b9e69fdf23c99e17fa22dc"), looks := true }, kinds := [], alts := [], laidByText := true, laidKinds := [.data, .data, .data, .data, .sentinel, .sentinel, .sentinel, .pinned], laidTests := true, laidLooks := .later }
def FnImagesUptoCardSaid : Prop := Claim7.holds Tryz.pinned (.plain (OpenSpec.upto fnImagesSpec)) fnImagesUptoCard

/-- THE SECOND FORM's CARD OF 'laws.FnJournal'. -/
def fnJournalUptoCard : Claim7 := { stood := { row := fnJournalUptoRow, standIns := [], harness := (true, "728749bee361f3ecae181174523e4800be4e9f8c60b9e69fdf23c99e17fa22dc"), looks := true }, kinds := [], alts := [], laidByText := true, laidKinds := [.data, .data, .data, .data, .sentinel, .sentinel, .sentinel, .pinned], laidTests := true, laidLooks := .later }
def FnJournalUptoCardSaid : Prop := Claim7.holds Tryz.pinned (.plain (OpenSpec.upto fnJournalSpec)) fnJournalUptoCard
end Rows
end Go.Proofs.YtedgenmbdjadkaaGreatDoor
