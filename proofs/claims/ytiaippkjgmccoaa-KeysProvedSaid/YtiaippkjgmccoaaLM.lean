/- Maps as lists of pairs: what is found. -/
import Derived.Test.YtiaippkjgmccoaaTsZ
set_option linter.unusedVariables false
namespace Go.Cl
section
variable {α β : Type} [DecidableEq α]
end
end Go.Cl
