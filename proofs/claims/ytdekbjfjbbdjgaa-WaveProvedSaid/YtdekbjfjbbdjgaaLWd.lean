/- The ring that is returned: it is one, and clashes. -/
import Derived.Test.YtdekbjfjbbdjgaaLWc
set_option linter.unusedVariables false
namespace Go.Cl
end Go.Cl
namespace Go.Proofs.Ytdekbjfjbbdjgaa.plain
open Go Go.Cl
section
variable {S M : Int} {rd : List (Int × Int)} {out : Out}
theorem nda_ne {y z : Int × Int} : nda S y ≠ ndb M z := fun e => by have := (Prod.mk.inj e).1; omega
end
end Go.Proofs.Ytdekbjfjbbdjgaa.plain
