/- Clash and Verify. -/
import Derived.Test.YtdekbjfjbbdjgaaLWd
set_option linter.unusedVariables false
namespace Go.Proofs.Ytdekbjfjbbdjgaa.plain
open Go Go.Cl
section
variable {S M : Int} {rd : List (Int × Int)} {out : Out}
end
section
variable {S M : Int} {rd : List (Int × Int)} {out : Out} {P W : List Int} (B : Both S M rd out P W)
include B
end
end Go.Proofs.Ytdekbjfjbbdjgaa.plain
