/- The reference's rounds. -/
import Derived.Test.YtdekbjfjbbdjgaaLW6
set_option linter.unusedVariables false
namespace Go.Proofs.Ytdekbjfjbbdjgaa.plain
open Go Go.Cl
section
variable {S M i : Int} {rd : List (Int × Int)}
def edge (S M : Int) (y : Int × Int) : Int × Int × Int := (Int.tmod y.1 S, S + Int.tmod y.1 M, y.2)
theorem edge_mem {y : Int × Int} (hy : y ∈ rd) : edge S M y ∈ edges S M rd := List.mem_map_of_mem (f := fun y : Int × Int => (Int.tmod y.1 S, S + Int.tmod y.1 M, y.2)) hy
end
end Go.Proofs.Ytdekbjfjbbdjgaa.plain
