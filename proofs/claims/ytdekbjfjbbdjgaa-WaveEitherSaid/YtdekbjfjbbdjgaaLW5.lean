/- The reference's parts and waves: one reading. -/
import Derived.Test.YtdekbjfjbbdjgaaLW4
set_option linter.unusedVariables false
namespace Go.Proofs.Ytdekbjfjbbdjgaa.plain
open Go Go.Cl
section
variable {S M : Int} {rd : List (Int × Int)}
def at0 (l : List Int) (i : Int) : Int := l.getD i.toNat 0
theorem at0_set {l : List Int} {i j v : Int} (hi : 0 ≤ i) (hl : i < l.length) (hj : 0 ≤ j) : at0 (l.set i.toNat v) j = if j = i then v else at0 l j := by
 unfold at0
 simp only [List.getD_eq_getElem?_getD, List.getElem?_set]
 by_cases e : j = i
 · subst e
   rw [if_pos rfl, if_pos rfl, if_pos (by omega)]; rfl
 rw [if_neg e, if_neg (by omega)]
end
end Go.Proofs.Ytdekbjfjbbdjgaa.plain
