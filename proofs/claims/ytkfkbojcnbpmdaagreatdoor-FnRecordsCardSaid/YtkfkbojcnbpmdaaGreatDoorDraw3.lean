/- The drawing functions of the reference: lists of spans, access sets. Each condition stands in its theorem. -/
import Derived.Test.YtkfkbojcnbpmdaaGreatDoorDraw2
set_option linter.unusedVariables false
set_option linter.unusedSimpArgs false
namespace Go.Proofs.YtkfkbojcnbpmdaaGreatDoor
open Go.ChangeShapes Go.WideShapes Go.ChangeAt Go.RowKit

def spansLit : List ByteArray := [⟨#[97]⟩, ⟨#[98]⟩, ⟨#[110, 47, 120]⟩, ⟨#[110, 47, 121]⟩, ⟨#[110, 47, 121, 121]⟩, ⟨#[110, 47, 42]⟩, ⟨#[110, 47, 121, 42]⟩, ⟨#[105, 47, 49, 47, 42]⟩, ⟨#[105, 47, 49, 47, 115]⟩, ⟨#[105, 47, 42]⟩, ⟨#[42]⟩, ⟨#[105, 47, 49, 50, 47, 115]⟩]
end Go.Proofs.YtkfkbojcnbpmdaaGreatDoor
