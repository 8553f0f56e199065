/- How nodes were found: ways to the first node of their part. -/
import Derived.Test.YtdekbjfjbbdjgaaGX
import Derived.Test.YtdekbjfjbbdjgaaLWb
set_option linter.unusedVariables false
namespace Go.Cl
end Go.Cl
namespace Go.Proofs.Ytdekbjfjbbdjgaa.plain
open Go Go.Cl
section
variable {S M : Int} {rd : List (Int × Int)}
end
end Go.Proofs.Ytdekbjfjbbdjgaa.plain
