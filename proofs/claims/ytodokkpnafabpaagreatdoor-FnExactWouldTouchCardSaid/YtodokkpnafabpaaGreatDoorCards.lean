/-
  DERIVED. GIVEN WITH THE SEED: THE CARDS: each row of YtodokkpnafabpaaGreatDoorRows.lean that lists a variable, with what it lists TIED to the program's text (the seventh form; the later family's looks); each row that meets fmt, with fmt's text TOLD by the authors' own Lean function (tested against real Go, not proved from fmt's source: count such statements apart). THE CARD IS WHAT COUNTS. Prove the row's statement (the work); the ties are given (YtodokkpnafabpaaGreatDoorTie.lean); close each card by the builder's one call (the guide's Derived/Test/ToyasCard.lean, 'card_holds'). Laid BY PROGRAM, IN A SANDBOX (cutbox-door.mjs). By AI agents, Wed Nov 11 2026. No macro, syntax, notation, axiom, sorry.
-/
import Derived.Test.YtodokkpnafabpaaGreatDoorRows
import GoSem.ClaimSeven
namespace Go.Proofs.YtodokkpnafabpaaGreatDoor
namespace Rows

/-- THE TIED CARD OF 'laws.FnExactWouldTouch'. -/
def fnExactWouldTouchCard : Claim7 := { stood := { row := fnExactWouldTouchRow, standIns := [], harness := (true, "2f8213516f5547eed7f63483e940dd45555919be9a61ffeee27e3901adf3151c"), looks := true }, kinds := [], alts := [], laidByText := true, laidKinds := [.data, .data, .data, .sentinel, .sentinel, .sentinel], laidTests := true, laidLooks := .later }
def FnExactWouldTouchCardSaid : Prop := Claim7.holds Tryz.pinned (.plain (OpenSpec.ofChange fnExactWouldTouchSpec)) fnExactWouldTouchCard

/-- THE SECOND FORM's CARD OF 'laws.FnExactWouldTouch'. -/
def fnExactWouldTouchUptoCard : Claim7 := { stood := { row := fnExactWouldTouchUptoRow, standIns := [], harness := (true, "2f8213516f5547eed7f63483e940dd45555919be9a61ffeee27e3901adf3151c"), looks := true }, kinds := [], alts := [], laidByText := true, laidKinds := [.data, .data, .data, .sentinel, .sentinel, .sentinel], laidTests := true, laidLooks := .later }
def FnExactWouldTouchUptoCardSaid : Prop := Claim7.holds Tryz.pinned (.plain (OpenSpec.upto fnExactWouldTouchSpec)) fnExactWouldTouchUptoCard
end Rows
end Go.Proofs.YtodokkpnafabpaaGreatDoor
