/- What reach finds: all cases that chains lead to, each by a shortest chain. -/
import Derived.Test.YtiaippkjgmccoaaKA
import Derived.Test.YtiaippkjgmccoaaLM
import Derived.Test.YtiaippkjgmccoaaLK0
set_option linter.unusedVariables false
namespace Go.Cl
end Go.Cl
namespace Go.Proofs.Ytiaippkjgmccoaa.plain
open Go Go.Cl
abbrev Map := List (Case × Case)
def okC (T : Int) (c : Case) : Prop := 0 ≤ c.1 ∧ c.1 < T
def okR (T : Int) (rs : Rules) : Prop := ∀ r ∈ rs, okC T r.1 ∧ okC T r.2
section
variable {T : Int} {rs : Rules} {l : List Case}
theorem eq_code (a b : Case) : ((a.1 == b.1) && ((a.2 == b.2) && true)) = decide (a = b) := by
 rw [Bool.eq_iff_iff]
 simp [Prod.ext_iff]
theorem F72_eq (c : Case) : F72 c.1 c.2 = some (ctr c) := rfl
variable {p3 : List Case} {r1 : List Case}
end
end Go.Proofs.Ytiaippkjgmccoaa.plain
