/- The ring that is returned: it is one, and clashes. -/
import Derived.Test.YtdekbjfjbbdjgaaLWc
set_option linter.unusedVariables false
namespace Go.Cl
end Go.Cl
namespace Go.Proofs.Ytdekbjfjbbdjgaa.plain
open Go Go.Cl
section
variable {S M : Int} {rd : List (Int × Int)} {out : Out}
end
end Go.Proofs.Ytdekbjfjbbdjgaa.plain
