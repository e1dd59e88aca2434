/-
  DERIVED. GIVEN WITH THE SEED: THE CARDS: each row of YtpbcehcmdoncmaaGreatDoorRows.lean that lists a variable, with what it lists TIED to the program's text (the seventh form; the later family's looks); each row that meets fmt, with fmt's text TOLD by the authors' own Lean function (tested against real Go, not proved from fmt's source: count such statements apart). THE CARD IS WHAT COUNTS. Prove the row's statement (the work); the ties are given (YtpbcehcmdoncmaaGreatDoorTie.lean); close each card by the builder's one call (the guide's Derived/Test/ToyasCard.lean, 'card_holds'). Laid BY PROGRAM, IN A SANDBOX (cutbox-door.mjs). By AI agents, Wed Nov 11 2026. No macro, syntax, notation, axiom, sorry.
-/
import Derived.Test.YtpbcehcmdoncmaaGreatDoorRows
import GoSem.ClaimSeven
namespace Go.Proofs.YtpbcehcmdoncmaaGreatDoor
namespace Rows

/-- THE TIED CARD OF 'laws.FnLookers'. -/
def fnLookersCard : Claim7 := { stood := { row := fnLookersRow, standIns := [], harness := (true, "c7f42013bf737833fe4a5b3b06bd41fff3a6eb199a79e69f2970ecd5b723b4de"), looks := true }, kinds := [], alts := [], laidByText := true, laidKinds := [.data, .data, .data, .sentinel, .sentinel, .sentinel], laidTests := true, laidLooks := .later }
def FnLookersCardSaid : Prop := Claim7.holds Tryz.pinned (.plain (OpenSpec.ofChange fnLookersSpec)) fnLookersCard

/-- THE SECOND FORM's CARD OF 'laws.FnLookers'. -/
def fnLookersUptoCard : Claim7 := { stood := { row := fnLookersUptoRow, standIns := [], harness := (true, "c7f42013bf737833fe4a5b3b06bd41fff3a6eb199a79e69f2970ecd5b723b4de"), looks := true }, kinds := [], alts := [], laidByText := true, laidKinds := [.data, .data, .data, .sentinel, .sentinel, .sentinel], laidTests := true, laidLooks := .later }
def FnLookersUptoCardSaid : Prop := Claim7.holds Tryz.pinned (.plain (OpenSpec.upto fnLookersSpec)) fnLookersUptoCard
end Rows
end Go.Proofs.YtpbcehcmdoncmaaGreatDoor
