/- Sorting at most twelve elements. -/
import Derived.Test.YthpfffijnkmdgaaTsZ
import Derived.Test.YthpfffijnkmdgaaCB
import Derived.KernelRfl
set_option linter.unusedVariables false
set_option linter.unusedSimpArgs false
set_option maxRecDepth 100000
set_option maxHeartbeats 4000000
namespace Go.Proofs.Ythpfffijnkmdgaa
open Go Go.Cl
def e101 (x : (Int × Int)) : List Value := [.int .i64 x.1, .int .i64 x.2]
def e55 (x : (Int × Int)) : List Value := [.int .i64 x.1, .int .i64 x.2]
end Go.Proofs.Ythpfffijnkmdgaa
