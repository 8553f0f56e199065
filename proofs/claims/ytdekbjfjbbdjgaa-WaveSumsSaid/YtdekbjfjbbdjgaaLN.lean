/- The nodes of a record: each gets the smallest node of its part. -/
import Derived.Test.YtdekbjfjbbdjgaaGT
import Derived.Test.YtdekbjfjbbdjgaaLT
set_option linter.unusedVariables false
namespace Go.Proofs.Ytdekbjfjbbdjgaa.plain
open Go Go.Cl
section
variable {S M : Int} {rd : List (Int × Int)} {part wave : Int → Int}
end
end Go.Proofs.Ytdekbjfjbbdjgaa.plain
