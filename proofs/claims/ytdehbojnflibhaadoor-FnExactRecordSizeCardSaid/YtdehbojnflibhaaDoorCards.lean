/-
  DERIVED. GIVEN WITH THE SEED: THE CARDS: each row of YtdehbojnflibhaaDoorRows.lean that lists a variable, with what it lists TIED to the program's text (the seventh form; the later family's looks); each row that meets fmt, with fmt's text TOLD by the authors' own Lean function (tested against real Go, not proved from fmt's source: count such statements apart). THE CARD IS WHAT COUNTS. Prove the row's statement (the work); the ties are given (YtdehbojnflibhaaDoorTie.lean); close each card by the builder's one call (the guide's Derived/Test/ToyasCard.lean, 'card_holds'). Laid BY PROGRAM, IN A SANDBOX (cutbox-door.mjs). By AI agents, Wed Nov 11 2026. No macro, syntax, notation, axiom, sorry.
-/
import Derived.Test.YtdehbojnflibhaaDoorRows
import GoSem.ClaimSeven
namespace Go.Proofs.YtdehbojnflibhaaDoor
namespace Rows

/-- THE TIED CARD OF 'laws.FnExactLinesIn'. -/
def fnExactLinesInCard : Claim7 := { stood := { row := fnExactLinesInRow, standIns := [], harness := (true, "9fcc4feadd9bc7efd8de6933f4b711b558173507dab268abdfa7f832a881490d"), looks := false }, kinds := [], alts := [], laidByText := true, laidKinds := [.data, .pinned], laidTests := true, laidLooks := .later }
def FnExactLinesInCardSaid : Prop := Claim7.holds Tryd.pinned (.plain (OpenSpec.ofChange fnExactLinesInSpec)) fnExactLinesInCard

/-- THE TIED CARD OF 'laws.FnExactRecordText'. -/
def fnExactRecordTextCard : Claim7 := { stood := { row := fnExactRecordTextRow, standIns := [], harness := (true, "9fcc4feadd9bc7efd8de6933f4b711b558173507dab268abdfa7f832a881490d"), looks := false }, kinds := [], alts := [], laidByText := true, laidKinds := [.data, .data, .data], laidTests := true, laidLooks := .later }
def FnExactRecordTextCardSaid : Prop := Claim7.holds Tryd.pinned (.plain (OpenSpec.ofChange fnExactRecordTextSpec)) fnExactRecordTextCard

/-- THE TIED CARD OF 'laws.FnExactRecordSize'. -/
def fnExactRecordSizeCard : Claim7 := { stood := { row := fnExactRecordSizeRow, standIns := [], harness := (true, "9fcc4feadd9bc7efd8de6933f4b711b558173507dab268abdfa7f832a881490d"), looks := false }, kinds := [], alts := [], laidByText := true, laidKinds := [.data, .data, .data], laidTests := true, laidLooks := .later }
def FnExactRecordSizeCardSaid : Prop := Claim7.holds Tryd.pinned (.plain (OpenSpec.ofChange fnExactRecordSizeSpec)) fnExactRecordSizeCard

/-- THE SECOND FORM's CARD OF 'laws.FnExactLinesIn'. -/
def fnExactLinesInUptoCard : Claim7 := { stood := { row := fnExactLinesInUptoRow, standIns := [], harness := (true, "9fcc4feadd9bc7efd8de6933f4b711b558173507dab268abdfa7f832a881490d"), looks := false }, kinds := [], alts := [], laidByText := true, laidKinds := [.data, .pinned], laidTests := true, laidLooks := .later }
def FnExactLinesInUptoCardSaid : Prop := Claim7.holds Tryd.pinned (.plain (OpenSpec.upto fnExactLinesInSpec)) fnExactLinesInUptoCard

/-- THE SECOND FORM's CARD OF 'laws.FnExactRecordText'. -/
def fnExactRecordTextUptoCard : Claim7 := { stood := { row := fnExactRecordTextUptoRow, standIns := [], harness := (true, "9fcc4feadd9bc7efd8de6933f4b711b558173507dab268abdfa7f832a881490d"), looks := false }, kinds := [], alts := [], laidByText := true, laidKinds := [.data, .data, .data], laidTests := true, laidLooks := .later }
def FnExactRecordTextUptoCardSaid : Prop := Claim7.holds Tryd.pinned (.plain (OpenSpec.upto fnExactRecordTextSpec)) fnExactRecordTextUptoCard

/-- THE SECOND FORM's CARD OF 'laws.FnExactRecordSize'. -/
def fnExactRecordSizeUptoCard : Claim7 := { stood := { row := fnExactRecordSizeUptoRow, standIns := [], harness := (true, "9fcc4feadd9bc7efd8de6933f4b711b558173507dab268abdfa7f832a881490d"), looks := false }, kinds := [], alts := [], laidByText := true, laidKinds := [.data, .data, .data], laidTests := true, laidLooks := .later }
def FnExactRecordSizeUptoCardSaid : Prop := Claim7.holds Tryd.pinned (.plain (OpenSpec.upto fnExactRecordSizeSpec)) fnExactRecordSizeUptoCard
end Rows
end Go.Proofs.YtdehbojnflibhaaDoor
