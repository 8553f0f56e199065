/- For KeysEither: what Proves answers for chains; bits for values; the first truth is the least. -/
import Derived.Test.YtiaippkjgmccoaaLK8
set_option linter.unusedVariables false
set_option maxRecDepth 100000
namespace Go.Proofs.Ytiaippkjgmccoaa.plain
open Go Go.Cl
section
variable {T : Int} {rs : Rules} {l : List Case}
end
end Go.Proofs.Ytiaippkjgmccoaa.plain
