/- What functions of the program compute, and that they do. -/
import Derived.Test.YthpfffijnkmdgaaCS
set_option linter.unusedVariables false
set_option linter.unusedSimpArgs false
set_option maxRecDepth 100000
set_option maxHeartbeats 4000000
namespace Go.Proofs.Ythpfffijnkmdgaa
open Go Go.Cl
noncomputable section
end
end Go.Proofs.Ythpfffijnkmdgaa
