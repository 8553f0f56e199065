/- The reference's rounds give the record's parts and waves. -/
import Derived.Test.YtdekbjfjbbdjgaaLW5
set_option linter.unusedVariables false
namespace Go.Proofs.Ytdekbjfjbbdjgaa.plain
open Go Go.Cl
section
variable {n S i : Int} {E : Edges} {P W : List Int}
end
end Go.Proofs.Ytdekbjfjbbdjgaa.plain
