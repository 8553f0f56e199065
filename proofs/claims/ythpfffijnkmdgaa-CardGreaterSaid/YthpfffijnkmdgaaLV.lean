/- What is known of a card: both ends of its spans; when it is sure. -/
import Derived.Test.YthpfffijnkmdgaaLR
import Derived.Test.YthpfffijnkmdgaaCW
set_option linter.unusedVariables false
set_option linter.unusedSimpArgs false
set_option maxRecDepth 100000
namespace Go.Proofs.Ythpfffijnkmdgaa.plain
open Go Go.Cl
abbrev Mks := List (Int × (Int × Int))
section
variable {k : Mks} {l h c : Card} {m : Int} {i : Nat}
end
end Go.Proofs.Ythpfffijnkmdgaa.plain
