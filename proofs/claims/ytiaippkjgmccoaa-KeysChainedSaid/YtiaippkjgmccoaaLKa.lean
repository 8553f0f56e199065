/- Spare rules, and how many truths are left: what the program computes. -/
import Derived.Test.YtiaippkjgmccoaaLK9
import Derived.Test.YtiaippkjgmccoaaKS
set_option linter.unusedVariables false
set_option maxRecDepth 100000
namespace Go.Proofs.Ytiaippkjgmccoaa.plain
open Go Go.Cl
section
variable {T : Int} {rs : Rules} {l : List Case}
end
end Go.Proofs.Ytiaippkjgmccoaa.plain
