/- Sorting at most twelve: the same members, in order. -/
import Derived.Test.YthpfffijnkmdgaaLC2
set_option linter.unusedVariables false
set_option linter.unusedSimpArgs false
set_option maxRecDepth 100000
namespace Go.Proofs.Ythpfffijnkmdgaa.plain
open Go Go.Cl
section
variable {α : Type} {lt : α → α → Prop} [DecidableRel lt]
end
section
variable {α : Type} {f : α → Pt} {lt : α → α → Prop} [DecidableRel lt] {G : α → Prop}
end
section
variable {α : Type} {f : α → Pt} {lt : α → α → Prop} [DecidableRel lt] {G : α → Prop}
end
end Go.Proofs.Ythpfffijnkmdgaa.plain
