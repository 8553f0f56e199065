/- Verify, in plain words. -/
import Derived.Test.YtdekbjfjbbdjgaaLWe
set_option linter.unusedVariables false
namespace Go.Proofs.Ytdekbjfjbbdjgaa.plain
open Go Go.Cl
section
variable {S M : Int} {rd : List (Int × Int)}
end
end Go.Proofs.Ytdekbjfjbbdjgaa.plain
