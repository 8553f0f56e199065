/- works() says true, over the tables of answers. -/
import Derived.Test.YtdekbjfjbbdjgaaT1
namespace Go.Proofs.Ytdekbjfjbbdjgaa.worked
open Go
set_option linter.unusedVariables false
set_option maxRecDepth 100000
def q25 : Cl.Entry := ⟨25, [(.agg (Array.mk [(.int .i64 3), (.int .i64 2), (.slice (some (Addr.mk 0 0 none)) 5 18446744073709551616)]))], [(.cells 57 [(.int .i64 0), (.int .i64 15), (.int .i64 1), (.int .i64 23), (.int .i64 2), (.int .i64 16), (.int .i64 3), (.int .i64 24), (.int .i64 5), (.int .i64 99)])], (.tuple (Array.mk [(.slice (some (Addr.mk 1 0 none)) 4 18446744073709551616), (.int .i64 0)])), [(.cells 3 [(.int .i64 0), (.int .i64 2), (.int .i64 3), (.int .i64 4)])]⟩
theorem q25_gives : Cl.gives ((Cl.run env1 3000).pcall q25.g q25.args q25.h) q25.v q25.new = true := by kernel_rfl
def table2 : List Cl.Entry := q25 :: table1
theorem true_table2 : ∀ e ∈ table2, Cl.PureSim env0.P e.g e.args e.h e.v e.new := by
 intro e he
 simp only [table2, List.mem_cons] at he
 rcases he with rfl | he
 · exact Cl.entry_ok ok1 mixed q25_gives
 exact true_table1 e he
noncomputable def env2 : Cl.Env := { env0 with sum := Cl.tableSumR table2 }
theorem ok2 : Cl.SumOk env2 := Cl.tableR_ok rfl true_table2
def e14 : Cl.Entry := ⟨14, [], [], .bool true, []⟩
theorem e14_gives : Cl.gives ((Cl.run env2 3000).pcall e14.g e14.args e14.h) e14.v e14.new = true := by kernel_rfl
theorem works : Cl.PureSim env0.P 14 [] [] (.bool true) [] := Cl.entry_ok ok2 mixed e14_gives
end Go.Proofs.Ytdekbjfjbbdjgaa.worked
