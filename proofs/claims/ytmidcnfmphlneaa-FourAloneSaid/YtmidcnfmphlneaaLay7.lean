/- Contracts of package layout: a cell. -/
import Derived.Test.YtmidcnfmphlneaaLay6
namespace Go.Proofs.Ytmidcnfmphlneaa
open Go.RowKit
set_option linter.unusedSimpArgs false
set_option linter.unusedVariables false

end Go.Proofs.Ytmidcnfmphlneaa
