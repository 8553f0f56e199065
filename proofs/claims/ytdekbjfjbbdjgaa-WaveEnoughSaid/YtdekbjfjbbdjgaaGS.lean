/- What functions of the program compute, and that they do. -/
import Derived.Test.YtdekbjfjbbdjgaaGX
set_option linter.unusedVariables false
set_option linter.unusedSimpArgs false
set_option maxRecDepth 100000
set_option maxHeartbeats 4000000
namespace Go.Proofs.Ytdekbjfjbbdjgaa
open Go Go.Cl
noncomputable section
def e5 (x : Int) : List Value := [.int .u8 x]
end
end Go.Proofs.Ytdekbjfjbbdjgaa
