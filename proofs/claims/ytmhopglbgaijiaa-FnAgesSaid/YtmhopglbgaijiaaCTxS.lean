/- The laws' measure, copy, comparison of slices of Tx. Each condition stands in its theorem. -/
import Derived.Test.YtmhopglbgaijiaaCTx
set_option linter.unusedVariables false
set_option linter.unusedSimpArgs false
namespace Go.Proofs.Ytmhopglbgaijiaa
open Go.ChangeShapes Go.WideShapes Go.ChangeAt Go.RowKit

end Go.Proofs.Ytmhopglbgaijiaa
