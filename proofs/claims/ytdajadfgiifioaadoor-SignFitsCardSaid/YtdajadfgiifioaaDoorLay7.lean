/- Contracts of package layout: a cell. -/
import Derived.Test.YtdajadfgiifioaaDoorLay6
namespace Go.Proofs.YtdajadfgiifioaaDoor
open Go.RowKit
set_option linter.unusedSimpArgs false
set_option linter.unusedVariables false

end Go.Proofs.YtdajadfgiifioaaDoor
