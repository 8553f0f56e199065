/- Rules of two cases each: what leads where, which cases agree, and that then some values make all true. -/
import Derived.KernelRfl
set_option linter.unusedVariables false
namespace Go.Proofs.Ytiaippkjgmccoaa.plain
abbrev Case := Int × Bool
abbrev Rules := List (Case × Case)
def ctr (c : Case) : Case := (c.1, !c.2)
theorem ctr_ctr (c : Case) : ctr (ctr c) = c := by unfold ctr; simp
def Leads (rs : Rules) (x y : Case) : Prop := ∃ r ∈ rs, (r.1 = ctr x ∧ r.2 = y) ∨ (r.2 = ctr x ∧ r.1 = y)
section
variable {rs : Rules} {x y z c : Case} {l : List Case}
inductive Reach (rs : Rules) (x : Case) : Case → Prop where
 | refl : Reach rs x x
 | step {y z : Case} (h : Reach rs x y) (e : Leads rs y z) : Reach rs x z
def From (rs : Rules) (l : List Case) (y : Case) : Prop := ∃ x ∈ l, Reach rs x y
variable {v : Int → Bool}
end
end Go.Proofs.Ytiaippkjgmccoaa.plain
