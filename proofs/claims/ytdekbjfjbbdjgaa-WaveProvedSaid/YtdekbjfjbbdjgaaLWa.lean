/- Values at an hour, on both sides. -/
import Derived.Test.YtdekbjfjbbdjgaaLW9
set_option linter.unusedVariables false
namespace Go.Proofs.Ytdekbjfjbbdjgaa.plain
open Go Go.Cl
section
variable {S M : Int} {rd : List (Int × Int)} {out : Out} {P W : List Int} (B : Both S M rd out P W) {hour : Int} (hh : 0 ≤ hour)
include B
include hh
end
end Go.Proofs.Ytdekbjfjbbdjgaa.plain
