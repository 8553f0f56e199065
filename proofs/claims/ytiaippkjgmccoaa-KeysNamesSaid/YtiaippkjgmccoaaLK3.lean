/- The reference: how far cases lie, and what is possible. -/
import Derived.Test.YtiaippkjgmccoaaLK2
import Derived.Test.YtiaippkjgmccoaaKD
set_option linter.unusedVariables false
namespace Go.Proofs.Ytiaippkjgmccoaa.plain
open Go Go.Cl
section
variable {T : Int} {rs : Rules} {l : List Case}
noncomputable def chk2 (T : Int) (rs : Rules) (l : List Case) : Int := if chk T rs ≠ 0 then chk T rs else if l.length > 24 then 3 else if inC T l then 0 else 6
end
end Go.Proofs.Ytiaippkjgmccoaa.plain
