/- The first truth is a truth; a chain is there just if a case leads to another one. -/
import Derived.Test.YtiaippkjgmccoaaLK7
set_option linter.unusedVariables false
namespace Go.Proofs.Ytiaippkjgmccoaa.plain
open Go Go.Cl
section
variable {T : Int} {rs : Rules} {l : List Case}
end
end Go.Proofs.Ytiaippkjgmccoaa.plain
