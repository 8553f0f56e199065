/- Examples of the chapters: works() of the lower statements say true. -/
import Derived.Test.YtfebcljpgcahbaaGreatTs14
import Derived.Test.YtfebcljpgcahbaaGreatProg
import Derived.KernelRfl
namespace Go.Proofs.YtfebcljpgcahbaaGreat.worked
open Go
set_option linter.unusedVariables false
set_option maxRecDepth 100000
noncomputable def env0 : Cl.Env := { P := Tryz.prog, sum := fun _ => none, imp := fun f => [42,50,55,65,66,85,113,114,115,116,118,122,126,127,134,135,143,145,150,151,152,166,175,176,177,178,179,180,181,182,183,193,202,204,205,206,214,220,221,224,225,226,229,231,237,239,242,243,244,245,248,249,250,251,252,253,254,255,256,259,260,261,262,263,264,266,267,268,269,270,271,272,273,274,275,292].contains f, strict := true }
theorem mixed : env0.P.follows .mixedOrders = true := by kernel_rfl
theorem ok0 : Cl.SumOk env0 := Cl.sumOk_none fun _ => rfl
def e88 : Cl.Entry := ⟨88, [], [], .bool true, []⟩
theorem e88_gives : Cl.gives ((Cl.run env0 3000).pcall e88.g e88.args e88.h) e88.v e88.new = true := by kernel_rfl
def t1 : List Cl.Entry := [e88]
theorem t1_true : ∀ e ∈ t1, Cl.PureSim env0.P e.g e.args e.h e.v e.new := by
  intro e he
  simp only [t1, List.mem_cons, List.not_mem_nil, or_false] at he
  subst he
  exact Cl.entry_ok ok0 mixed e88_gives
noncomputable def env1 : Cl.Env := { env0 with sum := Cl.tableSumR t1 }
theorem ok1 : Cl.SumOk env1 := Cl.tableR_ok rfl t1_true
def e38 : Cl.Entry := ⟨38, [], [], .bool true, []⟩
theorem e38_gives : Cl.gives ((Cl.run env1 3000).pcall e38.g e38.args e38.h) e38.v e38.new = true := by kernel_rfl
def t2 : List Cl.Entry := [e38]
theorem t2_true : ∀ e ∈ t2, Cl.PureSim env0.P e.g e.args e.h e.v e.new := by
  intro e he
  simp only [t2, List.mem_cons, List.not_mem_nil, or_false] at he
  subst he
  exact Cl.entry_ok ok1 mixed e38_gives
noncomputable def env2 : Cl.Env := { env0 with sum := Cl.tableSumR t2 }
theorem ok2 : Cl.SumOk env2 := Cl.tableR_ok rfl t2_true
def e10 : Cl.Entry := ⟨10, [], [], .bool true, []⟩
theorem e10_gives : Cl.gives ((Cl.run env2 3000).pcall e10.g e10.args e10.h) e10.v e10.new = true := by kernel_rfl
theorem mined_ok : Cl.PureSim env0.P 10 [] [] (.bool true) [] := Cl.entry_ok ok2 mixed e10_gives
end Go.Proofs.YtfebcljpgcahbaaGreat.worked
