/- works() says true, over the tables of answers. -/
import Derived.Test.YtnhcgbcmnhdocaaT1
namespace Go.Proofs.Ytnhcgbcmnhdocaa.worked
open Go
set_option maxRecDepth 100000
def e17 : Cl.Entry := ⟨17, [], [], .bool true, []⟩
theorem e17_gives : Cl.gives ((Cl.run env3 3000).pcall e17.g e17.args e17.h) e17.v e17.new = true := by kernel_rfl
theorem works : Cl.PureSim env0.P 17 [] [] (.bool true) [] := Cl.entry_ok ok3 mixed e17_gives
theorem true_table2 : ∀ e ∈ table2, Cl.PureSim env0.P e.g e.args e.h e.v e.new := true2
end Go.Proofs.Ytnhcgbcmnhdocaa.worked
