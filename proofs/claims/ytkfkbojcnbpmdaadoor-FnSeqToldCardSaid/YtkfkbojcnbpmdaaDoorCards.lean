/-
  DERIVED. GIVEN WITH THE SEED: THE CARDS: each row of YtkfkbojcnbpmdaaDoorRows.lean that lists a variable, with what it lists TIED to the program's text (the seventh form; the later family's looks); each row that meets fmt, with fmt's text TOLD by the authors' own Lean function (tested against real Go, not proved from fmt's source: count such statements apart). THE CARD IS WHAT COUNTS. Prove the row's statement (the work); the ties are given (YtkfkbojcnbpmdaaDoorTie.lean); close each card by the builder's one call (the guide's Derived/Test/ToyasCard.lean, 'card_holds'). Laid BY PROGRAM, IN A SANDBOX (cutbox-door.mjs). By AI agents, Wed Nov 11 2026. No macro, syntax, notation, axiom, sorry.
-/
import Derived.Test.YtkfkbojcnbpmdaaDoorRows
import GoSem.ClaimSeven
namespace Go.Proofs.YtkfkbojcnbpmdaaDoor
namespace Rows

/-- THE TIED CARD OF 'laws.FnSeqTold'. -/
def fnSeqToldCard : Claim7 := { stood := { row := fnSeqToldRow, standIns := [], harness := (true, "36abee44983c1361a46081608a8cf83306503979557946d003009d25cd9f28ae"), looks := true }, kinds := [], alts := [], laidByText := true, laidKinds := [.data, .data, .data, .data, .sentinel, .sentinel, .sentinel, .pinned], laidTests := true, laidLooks := .later }
def FnSeqToldCardSaid : Prop := Claim7.holds Tryd.pinned (.plain (OpenSpec.ofChange fnSeqToldSpec)) fnSeqToldCard

/-- THE TIED CARD OF 'laws.FnTorn'. -/
def fnTornCard : Claim7 := { stood := { row := fnTornRow, standIns := [], harness := (true, "36abee44983c1361a46081608a8cf83306503979557946d003009d25cd9f28ae"), looks := true }, kinds := [], alts := [], laidByText := true, laidKinds := [.data, .data, .data, .data, .sentinel, .sentinel, .sentinel, .pinned], laidTests := true, laidLooks := .later }
def FnTornCardSaid : Prop := Claim7.holds Tryd.pinned (.plain (OpenSpec.ofChange fnTornSpec)) fnTornCard

/-- THE TIED CARD OF 'laws.FnExactReadRecord'. -/
def fnExactReadRecordCard : Claim7 := { stood := { row := fnExactReadRecordRow, standIns := [], harness := (true, "36abee44983c1361a46081608a8cf83306503979557946d003009d25cd9f28ae"), looks := true }, kinds := [], alts := [], laidByText := true, laidKinds := [.data, .data, .data, .data, .sentinel, .sentinel, .sentinel, .pinned], laidTests := true, laidLooks := .later }
def FnExactReadRecordCardSaid : Prop := Claim7.holds Tryd.pinned (.plain (OpenSpec.ofChange fnExactReadRecordSpec)) fnExactReadRecordCard

/-- THE SECOND FORM's CARD OF 'laws.FnSeqTold'. -/
def fnSeqToldUptoCard : Claim7 := { stood := { row := fnSeqToldUptoRow, standIns := [], harness := (true, "36abee44983c1361a46081608a8cf83306503979557946d003009d25cd9f28ae"), looks := true }, kinds := [], alts := [], laidByText := true, laidKinds := [.data, .data, .data, .data, .sentinel, .sentinel, .sentinel, .pinned], laidTests := true, laidLooks := .later }
def FnSeqToldUptoCardSaid : Prop := Claim7.holds Tryd.pinned (.plain (OpenSpec.upto fnSeqToldSpec)) fnSeqToldUptoCard

/-- THE SECOND FORM's CARD OF 'laws.FnTorn'. -/
def fnTornUptoCard : Claim7 := { stood := { row := fnTornUptoRow, standIns := [], harness := (true, "36abee44983c1361a46081608a8cf83306503979557946d003009d25cd9f28ae"), looks := true }, kinds := [], alts := [], laidByText := true, laidKinds := [.data, .data, .data, .data, .sentinel, .sentinel, .sentinel, .pinned], laidTests := true, laidLooks := .later }
def FnTornUptoCardSaid : Prop := Claim7.holds Tryd.pinned (.plain (OpenSpec.upto fnTornSpec)) fnTornUptoCard

/-- THE SECOND FORM's CARD OF 'laws.FnExactReadRecord'. -/
def fnExactReadRecordUptoCard : Claim7 := { stood := { row := fnExactReadRecordUptoRow, standIns := [], harness := (true, "36abee44983c1361a46081608a8cf83306503979557946d003009d25cd9f28ae"), looks := true }, kinds := [], alts := [], laidByText := true, laidKinds := [.data, .data, .data, .data, .sentinel, .sentinel, .sentinel, .pinned], laidTests := true, laidLooks := .later }
def FnExactReadRecordUptoCardSaid : Prop := Claim7.holds Tryd.pinned (.plain (OpenSpec.upto fnExactReadRecordSpec)) fnExactReadRecordUptoCard
end Rows
end Go.Proofs.YtkfkbojcnbpmdaaDoor
