/- Offices: books by numbers, chains as the statements go through them, and truths tried one by one. -/
import Derived.Test.YtiaippkjgmccoaaLK6
import Derived.Test.YtiaippkjgmccoaaKQ
set_option linter.unusedVariables false
namespace Go.Proofs.Ytiaippkjgmccoaa.plain
open Go Go.Cl
section
variable {T : Int} {rs : Rules} {l : List Case}
def vb (bits : Int) (t : Int) : Bool := and64 (shr64 bits t) 1 == 1
end
end Go.Proofs.Ytiaippkjgmccoaa.plain
