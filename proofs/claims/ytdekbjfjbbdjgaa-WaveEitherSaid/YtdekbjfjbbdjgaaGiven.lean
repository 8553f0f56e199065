/- The chapter's examples hold. -/
import Derived.Test.YtdekbjfjbbdjgaaWorked
import Derived.Test.YtdekbjfjbbdjgaaTs8
namespace Go.Proofs.Ytdekbjfjbbdjgaa
open Go Go.Cl
def F14 : Option Bool := some true
def V14 (_ : Nat) (r : Bool) : Value := .bool r
def N14 (_ : Nat) (_ : Bool) : List Blk := []
theorem C14 (r : Bool) (hF : F14 = some r) : PureSim Try.prog 14 [] [] (V14 0 r) (N14 0 r) := by
 have hr : true = r := Option.some.inj hF
 subst hr
 exact worked.works
end Go.Proofs.Ytdekbjfjbbdjgaa
