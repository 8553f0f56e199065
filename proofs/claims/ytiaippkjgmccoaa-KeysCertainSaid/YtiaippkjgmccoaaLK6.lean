/- Chains that prove that a book is not possible. -/
import Derived.Test.YtiaippkjgmccoaaLK5
import Derived.Test.YtiaippkjgmccoaaKP
set_option linter.unusedVariables false
namespace Go.Proofs.Ytiaippkjgmccoaa.plain
open Go Go.Cl
section
variable {T : Int} {rs : Rules} {l : List Case}
end
end Go.Proofs.Ytiaippkjgmccoaa.plain
