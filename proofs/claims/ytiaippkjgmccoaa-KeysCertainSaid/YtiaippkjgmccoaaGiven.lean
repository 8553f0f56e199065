/- The chapter's examples hold. -/
import Derived.Test.YtiaippkjgmccoaaWorked
import Derived.Test.YtiaippkjgmccoaaTs8
namespace Go.Proofs.Ytiaippkjgmccoaa
open Go Go.Cl
def F15 : Option Bool := some true
def V15 (_ : Nat) (r : Bool) : Value := .bool r
def N15 (_ : Nat) (_ : Bool) : List Blk := []
theorem C15 (r : Bool) (hF : F15 = some r) : PureSim Try.prog 15 [] [] (V15 0 r) (N15 0 r) := by
 have hr : true = r := Option.some.inj hF
 subst hr
 exact worked.works
end Go.Proofs.Ytiaippkjgmccoaa
