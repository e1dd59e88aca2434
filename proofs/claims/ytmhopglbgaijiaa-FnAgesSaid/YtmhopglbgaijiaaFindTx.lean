/- The place of the transaction with an Id: the program's and the reference's. Each condition stands in its theorem. -/
import Derived.Test.YtmhopglbgaijiaaFirst
import Derived.Test.YtmhopglbgaijiaaCTxS
set_option linter.unusedVariables false
set_option linter.unusedSimpArgs false
namespace Go.Proofs.Ytmhopglbgaijiaa
open Go.ChangeShapes Go.WideShapes Go.ChangeAt Go.RowKit

def isId (id : Int) (d : TxD) : Bool := d.id == id
end Go.Proofs.Ytmhopglbgaijiaa
