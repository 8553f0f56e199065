/- Shifts and bits of integers. -/
import Derived.Test.YtiaippkjgmccoaaCL
set_option linter.unusedVariables false
namespace Go.Cl
open Go Go.RowKit
section
variable {P : Program} {x : Option QRes} {ty : TypeId} {ox oy : Operand} {a b : Int}
end
end Go.Cl
