/- Chains that prove that a book is not possible. -/
import Derived.Test.YtiaippkjgmccoaaLK5
import Derived.Test.YtiaippkjgmccoaaKP
set_option linter.unusedVariables false
namespace Go.Proofs.Ytiaippkjgmccoaa.plain
open Go Go.Cl
section
variable {T : Int} {rs : Rules} {l : List Case}
theorem ver_ok (h : ver T rs l = 0) : 1 ≤ l.length ∧ l.length ≤ 100 := by
 unfold ver at h
 split at h
 · exact absurd h (by assumption)
 split at h
 · exact absurd h (by decide)
 split at h
 · exact absurd h (by decide)
 omega
end
end Go.Proofs.Ytiaippkjgmccoaa.plain
