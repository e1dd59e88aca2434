/-
  DERIVED. GIVEN WITH THE SEED: THE CARDS: each row of YtpnoehpmgflibaaGreatDoorRows.lean that lists a variable, with what it lists TIED to the program's text (the seventh form; the later family's looks); each row that meets fmt, with fmt's text TOLD by the authors' own Lean function (tested against real Go, not proved from fmt's source: count such statements apart). THE CARD IS WHAT COUNTS. Prove the row's statement (the work); the ties are given (YtpnoehpmgflibaaGreatDoorTie.lean); close each card by the builder's one call (the guide's Derived/Test/ToyasCard.lean, 'card_holds'). Laid BY PROGRAM, IN A SANDBOX (cutbox-door.mjs). By AI agents, Wed Nov 11 2026. No macro, syntax, notation, axiom, sorry.
-/
import Derived.Test.YtpnoehpmgflibaaGreatDoorRows
import GoSem.ClaimSeven
namespace Go.Proofs.YtpnoehpmgflibaaGreatDoor
namespace Rows

/-- THE TIED CARD OF 'laws.FnRestsOn'. -/
def fnRestsOnCard : Claim7 := { stood := { row := fnRestsOnRow, standIns := [], harness := (true, "fba313df6c8ba6c409cb32ce218e1c37639ef8688f14da0ff2e0158159e43aad"), looks := true }, kinds := [], alts := [], laidByText := true, laidKinds := [.data, .data, .data, .sentinel, .sentinel, .sentinel], laidTests := true, laidLooks := .later }
def FnRestsOnCardSaid : Prop := Claim7.holds Tryz.pinned (.plain (OpenSpec.ofChange fnRestsOnSpec)) fnRestsOnCard

/-- THE TIED CARD OF 'laws.FnApartly'. -/
def fnApartlyCard : Claim7 := { stood := { row := fnApartlyRow, standIns := [], harness := (true, "fba313df6c8ba6c409cb32ce218e1c37639ef8688f14da0ff2e0158159e43aad"), looks := true }, kinds := [], alts := [], laidByText := true, laidKinds := [.data, .data, .data, .sentinel, .sentinel, .sentinel], laidTests := true, laidLooks := .later }
def FnApartlyCardSaid : Prop := Claim7.holds Tryz.pinned (.plain (OpenSpec.ofChange fnApartlySpec)) fnApartlyCard

/-- THE SECOND FORM's CARD OF 'laws.FnRestsOn'. -/
def fnRestsOnUptoCard : Claim7 := { stood := { row := fnRestsOnUptoRow, standIns := [], harness := (true, "fba313df6c8ba6c409cb32ce218e1c37639ef8688f14da0ff2e0158159e43aad"), looks := true }, kinds := [], alts := [], laidByText := true, laidKinds := [.data, .data, .data, .sentinel, .sentinel, .sentinel], laidTests := true, laidLooks := .later }
def FnRestsOnUptoCardSaid : Prop := Claim7.holds Tryz.pinned (.plain (OpenSpec.upto fnRestsOnSpec)) fnRestsOnUptoCard

/-- THE SECOND FORM's CARD OF 'laws.FnApartly'. -/
def fnApartlyUptoCard : Claim7 := { stood := { row := fnApartlyUptoRow, standIns := [], harness := (true, "fba313df6c8ba6c409cb32ce218e1c37639ef8688f14da0ff2e0158159e43aad"), looks := true }, kinds := [], alts := [], laidByText := true, laidKinds := [.data, .data, .data, .sentinel, .sentinel, .sentinel], laidTests := true, laidLooks := .later }
def FnApartlyUptoCardSaid : Prop := Claim7.holds Tryz.pinned (.plain (OpenSpec.upto fnApartlySpec)) fnApartlyUptoCard
end Rows
end Go.Proofs.YtpnoehpmgflibaaGreatDoor
