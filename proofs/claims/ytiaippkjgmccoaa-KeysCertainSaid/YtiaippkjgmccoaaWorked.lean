/- works() says true, over the tables of answers. -/
import Derived.Test.YtiaippkjgmccoaaKG
import Derived.Test.YtiaippkjgmccoaaKAB
import Derived.Test.YtiaippkjgmccoaaKCDE
import Derived.Test.YtiaippkjgmccoaaKFH
import Derived.Test.YtiaippkjgmccoaaKIJ
import Derived.Test.YtiaippkjgmccoaaKLM
import Derived.Test.YtiaippkjgmccoaaKNO
import Derived.KernelRfl
namespace Go.Proofs.Ytiaippkjgmccoaa.worked
open Go
set_option linter.unusedVariables false
set_option maxRecDepth 100000
def table2 : List Cl.Entry := [eG, eA, eB, eC, eD, eE, eF, eH, eI, eJ, eL, eM, eN, eO]
theorem true_table2 : ∀ e ∈ table2, Cl.PureSim env0.P e.g e.args e.h e.v e.new := by
 intro e he
 simp only [table2, List.mem_cons, List.not_mem_nil, or_false] at he
 rcases he with rfl | rfl | rfl | rfl | rfl | rfl | rfl | rfl | rfl | rfl | rfl | rfl | rfl | rfl
 · exact eG_ok
 · exact eA_ok
 · exact eB_ok
 · exact eC_ok
 · exact eD_ok
 · exact eE_ok
 · exact eF_ok
 · exact eH_ok
 · exact eI_ok
 · exact eJ_ok
 · exact eL_ok
 · exact eM_ok
 · exact eN_ok
 exact eO_ok
noncomputable def env2 : Cl.Env := { env0 with sum := Cl.tableSumR table2 }
theorem ok2 : Cl.SumOk env2 := Cl.tableR_okI rfl true_table2 told
def w15 : Cl.Entry := ⟨15, [], [], .bool true, []⟩
theorem w15_gives : Cl.gives ((Cl.run env2 3000).pcall w15.g w15.args w15.h) w15.v w15.new = true := by kernel_rfl
theorem works : Cl.PureSim env0.P 15 [] [] (.bool true) [] := Cl.entry_ok ok2 mixed w15_gives
end Go.Proofs.Ytiaippkjgmccoaa.worked
