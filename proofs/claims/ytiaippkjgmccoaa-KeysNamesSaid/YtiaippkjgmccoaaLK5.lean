/- Chains: as short as stated, and accepted as stated. -/
import Derived.Test.YtiaippkjgmccoaaLK4
import Derived.Test.YtiaippkjgmccoaaKF
set_option linter.unusedVariables false
namespace Go.Proofs.Ytiaippkjgmccoaa.plain
open Go Go.Cl
section
variable {T : Int} {rs : Rules} {l : List Case} {x : Case} {m : Map} {D : Case → Nat}
end
end Go.Proofs.Ytiaippkjgmccoaa.plain
