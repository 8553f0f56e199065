/- How many parts, and the waves as lists. -/
import Derived.Test.YtdekbjfjbbdjgaaLWa
set_option linter.unusedVariables false
namespace Go.Cl
end Go.Cl
namespace Go.Proofs.Ytdekbjfjbbdjgaa.plain
open Go Go.Cl
section
variable {S M : Int} {rd : List (Int × Int)} {out : Out} {P W : List Int} (B : Both S M rd out P W)
include B
section
variable (g : Good (edges S M rd) (at0 W))
include g
end
theorem Both.fitsE : F21 S M rd = F22 S M rd := by
  obtain ⟨k, f, g⟩ := B.fits
  unfold F21
  rw [B.co]
  simp only [Option.bind_eq_bind, Option.bind_some, bne_self_eq_false, Bool.false_eq_true, if_false]
  rw [B.fo]
  simp only [Option.bind_some]
  rw [f]
  simp only [Option.bind_some]
  rcases g with ⟨g1, g2, g3, g4, g5⟩ | ⟨g1, g2, g3, g4, g5, g6, _⟩
  · rw [g5, if_neg (by simp; omega)]
  · rw [g6, if_pos (by simp; omega)]
end
end Go.Proofs.Ytdekbjfjbbdjgaa.plain
