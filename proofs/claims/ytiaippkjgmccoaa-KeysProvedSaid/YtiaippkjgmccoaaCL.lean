/- slices.Clone: what is copied, nil or not if it is empty. -/
import Derived.Test.YtiaippkjgmccoaaTsZ
import Derived.Test.YtiaippkjgmccoaaProg
import Derived.KernelRfl
set_option linter.unusedVariables false
set_option maxRecDepth 100000
set_option maxHeartbeats 4000000
namespace Go.Proofs.Ytiaippkjgmccoaa
open Go Go.Cl
noncomputable section
theorem mixed : Try.prog.follows .mixedOrders = true := by kernel_rfl
def e50 (x : (Int × Bool)) : List Value := [.int .i64 x.1, .bool x.2]
end
end Go.Proofs.Ytiaippkjgmccoaa
