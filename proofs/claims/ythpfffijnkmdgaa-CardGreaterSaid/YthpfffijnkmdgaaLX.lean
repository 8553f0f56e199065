/- Two cards, one behind the other. -/
import Derived.Test.YthpfffijnkmdgaaLG
import Derived.Test.YthpfffijnkmdgaaLT
set_option linter.unusedVariables false
set_option linter.unusedSimpArgs false
set_option maxRecDepth 100000
namespace Go.Proofs.Ythpfffijnkmdgaa.plain
open Go Go.Cl
theorem num_le {x : Rat} {K : Nat} (h0 : -((K : Int) : Rat) ≤ x) (h1 : x ≤ ((K : Int) : Rat)) : x.num.natAbs ≤ K * x.den := by
 have a := (Rat.le_iff _ _).1 h1
 have b := (Rat.le_iff _ _).1 h0
 have e1 : (((K : Int) : Rat)).num = (K : Int) := rfl
 have e2 : (((K : Int) : Rat)).den = 1 := rfl
 have e3 : (-((K : Int) : Rat)).num = -(K : Int) := rfl
 have e4 : (-((K : Int) : Rat)).den = 1 := rfl
 rw [e1, e2] at a
 rw [e3, e4, Int.neg_mul] at b
 have e5 : ((K * x.den : Nat) : Int) = (K : Int) * x.den := Int.natCast_mul _ _
 have e6 : ((x.den : Nat) : Int) = (x.den : Int) := rfl
 omega
theorem norm_den {d : Card} {x : Rat} : (norm d x).den = x.den := by
 unfold norm
 split
 · exact (add_int x 3600).2
 rfl
end Go.Proofs.Ythpfffijnkmdgaa.plain
