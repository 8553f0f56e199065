/- The reference's parts and waves are the record's. -/
import Derived.Test.YtdekbjfjbbdjgaaLW7
set_option linter.unusedVariables false
namespace Go.Proofs.Ytdekbjfjbbdjgaa.plain
open Go Go.Cl
section
variable {S M i : Int} {rd : List (Int × Int)} {n : Int} {E : Edges} {P W : List Int}
end
end Go.Proofs.Ytdekbjfjbbdjgaa.plain
