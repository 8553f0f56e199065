/- The reference: how far cases lie, and what is possible. -/
import Derived.Test.YtiaippkjgmccoaaLK2
import Derived.Test.YtiaippkjgmccoaaKD
set_option linter.unusedVariables false
namespace Go.Proofs.Ytiaippkjgmccoaa.plain
open Go Go.Cl
section
variable {T : Int} {rs : Rules} {l : List Case}
end
end Go.Proofs.Ytiaippkjgmccoaa.plain
