/- Structs of structs: how they are compared. -/
import Derived.Test.YtiaippkjgmccoaaCL
set_option linter.unusedVariables false
set_option maxRecDepth 100000
set_option maxHeartbeats 4000000
namespace Go.Cl
open Go Go.RowKit
section
variable {P : Program}
end
end Go.Cl
namespace Go.Proofs.Ytiaippkjgmccoaa
open Go Go.Cl
end Go.Proofs.Ytiaippkjgmccoaa
