/-
  DERIVED. GIVEN WITH THE SEED: THE CARDS: each row of YtieenbnmfaekiaaGreatDoorRows.lean that lists a variable, with what it lists TIED to the program's text (the seventh form; the later family's looks); each row that meets fmt, with fmt's text TOLD by the authors' own Lean function (tested against real Go, not proved from fmt's source: count such statements apart). THE CARD IS WHAT COUNTS. Prove the row's statement (the work); the ties are given (YtieenbnmfaekiaaGreatDoorTie.lean); close each card by the builder's one call (the guide's Derived/Test/ToyasCard.lean, 'card_holds'). Laid BY PROGRAM, IN A SANDBOX (cutbox-door.mjs). By AI agents, Wed Nov 11 2026. No macro, syntax, notation, axiom, sorry.
-/
import Derived.Test.YtieenbnmfaekiaaGreatDoorRows
import GoSem.ClaimSeven
namespace Go.Proofs.YtieenbnmfaekiaaGreatDoor
namespace Rows

/-- THE TIED CARD OF 'laws.FnExactSerialRun'. -/
def fnExactSerialRunCard : Claim7 := { stood := { row := fnExactSerialRunRow, standIns := [], harness := (true, "bea86f5a1d400f008e207302c488a4f05c5f17b62912b06a91c5285ddc09c315"), looks := true }, kinds := [], alts := [], laidByText := true, laidKinds := [.data, .data, .data, .sentinel, .sentinel, .sentinel], laidTests := true, laidLooks := .later }
def FnExactSerialRunCardSaid : Prop := Claim7.holds Tryz.pinned (.plain (OpenSpec.ofChange fnExactSerialRunSpec)) fnExactSerialRunCard

/-- THE SECOND FORM's CARD OF 'laws.FnExactSerialRun'. -/
def fnExactSerialRunUptoCard : Claim7 := { stood := { row := fnExactSerialRunUptoRow, standIns := [], harness := (true, "bea86f5a1d400f008e207302c488a4f05c5f17b62912b06a91c5285ddc09c315"), looks := true }, kinds := [], alts := [], laidByText := true, laidKinds := [.data, .data, .data, .sentinel, .sentinel, .sentinel], laidTests := true, laidLooks := .later }
def FnExactSerialRunUptoCardSaid : Prop := Claim7.holds Tryz.pinned (.plain (OpenSpec.upto fnExactSerialRunSpec)) fnExactSerialRunUptoCard
end Rows
end Go.Proofs.YtieenbnmfaekiaaGreatDoor
