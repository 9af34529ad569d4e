/- No condition. -/
import Derived.Test.YtobeamaaifgllaaEventSpanE
import Derived.Test.YtobeamaaifgllaaChecked
import Derived.Test.YtobeamaaifgllaaRxVa
namespace Go.Proofs.Ytobeamaaifgllaa
open Go Go.Rx Go.ChangeShapes Go.WideShapes Go.RowKit
set_option maxRecDepth 100000
set_option linter.unusedVariables false
set_option linter.unusedSimpArgs false
set_option linter.unnecessarySimpa false
set_option linter.unnecessarySimpa false
end Go.Proofs.Ytobeamaaifgllaa
