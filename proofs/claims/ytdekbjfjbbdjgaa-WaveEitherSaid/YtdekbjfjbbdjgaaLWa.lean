/- Values at an hour, on both sides. -/
import Derived.Test.YtdekbjfjbbdjgaaLW9
set_option linter.unusedVariables false
namespace Go.Proofs.Ytdekbjfjbbdjgaa.plain
open Go Go.Cl
section
variable {S M : Int} {rd : List (Int × Int)} {out : Out} {P W : List Int} (B : Both S M rd out P W) {hour : Int} (hh : 0 ≤ hour)
include B
theorem Both.root_eq {i j : Int} (hi : 0 ≤ i ∧ i < S + M) (hj : 0 ≤ j ∧ j < S + M) : (pl S out i).1 = (pl S out j).1 ↔ partOf S out i = partOf S out j := by
 obtain ⟨q, a, b⟩ := B.val i hi.1 hi.2
 obtain ⟨r, c, d⟩ := B.val j hj.1 hj.2
 have e1 : pl S out i = q := by unfold pl; rw [a]; rfl
 have e2 : pl S out j = r := by unfold pl; rw [c]; rfl
 have hs := B.h.s
 unfold partOf
 rw [e1, e2]
 constructor
 · intro h; rw [h]
 intro h
 have x := nd_ix b (S := S) (by omega)
 have y := nd_ix d (S := S) (by omega)
 rw [← x, ← y, h]
include hh
end
end Go.Proofs.Ytdekbjfjbbdjgaa.plain
