/-
  DERIVED. GIVEN WITH THE SEED: THE CARDS: each row of YtgcmnkkakngifaaGreatDoorRows.lean that lists a variable, with what it lists TIED to the program's text (the seventh form; the later family's looks); each row that meets fmt, with fmt's text TOLD by the authors' own Lean function (tested against real Go, not proved from fmt's source: count such statements apart). THE CARD IS WHAT COUNTS. Prove the row's statement (the work); the ties are given (YtgcmnkkakngifaaGreatDoorTie.lean); close each card by the builder's one call (the guide's Derived/Test/ToyasCard.lean, 'card_holds'). Laid BY PROGRAM, IN A SANDBOX (cutbox-door.mjs). By AI agents, Wed Nov 11 2026. No macro, syntax, notation, axiom, sorry.
-/
import Derived.Test.YtgcmnkkakngifaaGreatDoorRows
import GoSem.ClaimSeven
namespace Go.Proofs.YtgcmnkkakngifaaGreatDoor
namespace Rows

/-- THE TIED CARD OF 'laws.FnExactTxRight'. -/
def fnExactTxRightCard : Claim7 := { stood := { row := fnExactTxRightRow, standIns := [], harness := (true, "108015b372a8c24b0cff5524d13f609db752e674f118082910b5df34cdf14e06"), looks := true }, kinds := [], alts := [], laidByText := true, laidKinds := [.data, .data, .data, .sentinel, .sentinel, .sentinel], laidTests := true, laidLooks := .later }
def FnExactTxRightCardSaid : Prop := Claim7.holds Tryz.pinned (.plain (OpenSpec.ofChange fnExactTxRightSpec)) fnExactTxRightCard

/-- THE TIED CARD OF 'laws.FnExactTxView'. -/
def fnExactTxViewCard : Claim7 := { stood := { row := fnExactTxViewRow, standIns := [], harness := (true, "108015b372a8c24b0cff5524d13f609db752e674f118082910b5df34cdf14e06"), looks := true }, kinds := [], alts := [], laidByText := true, laidKinds := [.data, .data, .data, .sentinel, .sentinel, .sentinel], laidTests := true, laidLooks := .later }
def FnExactTxViewCardSaid : Prop := Claim7.holds Tryz.pinned (.plain (OpenSpec.ofChange fnExactTxViewSpec)) fnExactTxViewCard

/-- THE TIED CARD OF 'laws.FnExactTxLaid'. -/
def fnExactTxLaidCard : Claim7 := { stood := { row := fnExactTxLaidRow, standIns := [], harness := (true, "108015b372a8c24b0cff5524d13f609db752e674f118082910b5df34cdf14e06"), looks := true }, kinds := [], alts := [], laidByText := true, laidKinds := [.data, .data, .data, .sentinel, .sentinel, .sentinel], laidTests := true, laidLooks := .later }
def FnExactTxLaidCardSaid : Prop := Claim7.holds Tryz.pinned (.plain (OpenSpec.ofChange fnExactTxLaidSpec)) fnExactTxLaidCard

/-- THE TIED CARD OF 'laws.FnExactWouldTouch'. -/
def fnExactWouldTouchCard : Claim7 := { stood := { row := fnExactWouldTouchRow, standIns := [], harness := (true, "108015b372a8c24b0cff5524d13f609db752e674f118082910b5df34cdf14e06"), looks := true }, kinds := [], alts := [], laidByText := true, laidKinds := [.data, .data, .data, .sentinel, .sentinel, .sentinel], laidTests := true, laidLooks := .later }
def FnExactWouldTouchCardSaid : Prop := Claim7.holds Tryz.pinned (.plain (OpenSpec.ofChange fnExactWouldTouchSpec)) fnExactWouldTouchCard

/-- THE TIED CARD OF 'laws.FnExactRestsOn'. -/
def fnExactRestsOnCard : Claim7 := { stood := { row := fnExactRestsOnRow, standIns := [], harness := (true, "108015b372a8c24b0cff5524d13f609db752e674f118082910b5df34cdf14e06"), looks := true }, kinds := [], alts := [], laidByText := true, laidKinds := [.data, .data, .data, .sentinel, .sentinel, .sentinel], laidTests := true, laidLooks := .later }
def FnExactRestsOnCardSaid : Prop := Claim7.holds Tryz.pinned (.plain (OpenSpec.ofChange fnExactRestsOnSpec)) fnExactRestsOnCard

/-- THE TIED CARD OF 'laws.FnExactStepsRestOn'. -/
def fnExactStepsRestOnCard : Claim7 := { stood := { row := fnExactStepsRestOnRow, standIns := [], harness := (true, "108015b372a8c24b0cff5524d13f609db752e674f118082910b5df34cdf14e06"), looks := true }, kinds := [], alts := [], laidByText := true, laidKinds := [.data, .data, .data, .sentinel, .sentinel, .sentinel], laidTests := true, laidLooks := .later }
def FnExactStepsRestOnCardSaid : Prop := Claim7.holds Tryz.pinned (.plain (OpenSpec.ofChange fnExactStepsRestOnSpec)) fnExactStepsRestOnCard

/-- THE SECOND FORM's CARD OF 'laws.FnExactTxRight'. -/
def fnExactTxRightUptoCard : Claim7 := { stood := { row := fnExactTxRightUptoRow, standIns := [], harness := (true, "108015b372a8c24b0cff5524d13f609db752e674f118082910b5df34cdf14e06"), looks := true }, kinds := [], alts := [], laidByText := true, laidKinds := [.data, .data, .data, .sentinel, .sentinel, .sentinel], laidTests := true, laidLooks := .later }
def FnExactTxRightUptoCardSaid : Prop := Claim7.holds Tryz.pinned (.plain (OpenSpec.upto fnExactTxRightSpec)) fnExactTxRightUptoCard

/-- THE SECOND FORM's CARD OF 'laws.FnExactTxView'. -/
def fnExactTxViewUptoCard : Claim7 := { stood := { row := fnExactTxViewUptoRow, standIns := [], harness := (true, "108015b372a8c24b0cff5524d13f609db752e674f118082910b5df34cdf14e06"), looks := true }, kinds := [], alts := [], laidByText := true, laidKinds := [.data, .data, .data, .sentinel, .sentinel, .sentinel], laidTests := true, laidLooks := .later }
def FnExactTxViewUptoCardSaid : Prop := Claim7.holds Tryz.pinned (.plain (OpenSpec.upto fnExactTxViewSpec)) fnExactTxViewUptoCard

/-- THE SECOND FORM's CARD OF 'laws.FnExactTxLaid'. -/
def fnExactTxLaidUptoCard : Claim7 := { stood := { row := fnExactTxLaidUptoRow, standIns := [], harness := (true, "108015b372a8c24b0cff5524d13f609db752e674f118082910b5df34cdf14e06"), looks := true }, kinds := [], alts := [], laidByText := true, laidKinds := [.data, .data, .data, .sentinel, .sentinel, .sentinel], laidTests := true, laidLooks := .later }
def FnExactTxLaidUptoCardSaid : Prop := Claim7.holds Tryz.pinned (.plain (OpenSpec.upto fnExactTxLaidSpec)) fnExactTxLaidUptoCard

/-- THE SECOND FORM's CARD OF 'laws.FnExactWouldTouch'. -/
def fnExactWouldTouchUptoCard : Claim7 := { stood := { row := fnExactWouldTouchUptoRow, standIns := [], harness := (true, "108015b372a8c24b0cff5524d13f609db752e674f118082910b5df34cdf14e06"), looks := true }, kinds := [], alts := [], laidByText := true, laidKinds := [.data, .data, .data, .sentinel, .sentinel, .sentinel], laidTests := true, laidLooks := .later }
def FnExactWouldTouchUptoCardSaid : Prop := Claim7.holds Tryz.pinned (.plain (OpenSpec.upto fnExactWouldTouchSpec)) fnExactWouldTouchUptoCard

/-- THE SECOND FORM's CARD OF 'laws.FnExactRestsOn'. -/
def fnExactRestsOnUptoCard : Claim7 := { stood := { row := fnExactRestsOnUptoRow, standIns := [], harness := (true, "108015b372a8c24b0cff5524d13f609db752e674f118082910b5df34cdf14e06"), looks := true }, kinds := [], alts := [], laidByText := true, laidKinds := [.data, .data, .data, .sentinel, .sentinel, .sentinel], laidTests := true, laidLooks := .later }
def FnExactRestsOnUptoCardSaid : Prop := Claim7.holds Tryz.pinned (.plain (OpenSpec.upto fnExactRestsOnSpec)) fnExactRestsOnUptoCard

/-- THE SECOND FORM's CARD OF 'laws.FnExactStepsRestOn'. -/
def fnExactStepsRestOnUptoCard : Claim7 := { stood := { row := fnExactStepsRestOnUptoRow, standIns := [], harness := (true, "108015b372a8c24b0cff5524d13f609db752e674f118082910b5df34cdf14e06"), looks := true }, kinds := [], alts := [], laidByText := true, laidKinds := [.data, .data, .data, .sentinel, .sentinel, .sentinel], laidTests := true, laidLooks := .later }
def FnExactStepsRestOnUptoCardSaid : Prop := Claim7.holds Tryz.pinned (.plain (OpenSpec.upto fnExactStepsRestOnSpec)) fnExactStepsRestOnUptoCard
end Rows
end Go.Proofs.YtgcmnkkakngifaaGreatDoor
