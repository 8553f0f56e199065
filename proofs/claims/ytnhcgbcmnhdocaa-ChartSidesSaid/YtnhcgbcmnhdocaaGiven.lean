/- The chapter's examples hold. -/
import Derived.Test.YtnhcgbcmnhdocaaWorked
import Derived.Test.YtnhcgbcmnhdocaaTs7
namespace Go.Proofs.Ytnhcgbcmnhdocaa
open Go Go.Cl
def F17 : Option Bool := some true
def V17 (_ : Nat) (r : Bool) : Value := .bool r
def N17 (_ : Nat) (_ : Bool) : List Blk := []
theorem C17 (r : Bool) (hF : F17 = some r) : PureSim Try.prog 17 [] [] (V17 0 r) (N17 0 r) := by
  have hr : true = r := Option.some.inj hF
  subst hr
  exact worked.works
end Go.Proofs.Ytnhcgbcmnhdocaa
