/- Answers that the examples of the chapter ask for. -/
import Derived.Test.YtdekbjfjbbdjgaaTs14
import Derived.Test.YtdekbjfjbbdjgaaTs10
import Derived.Test.YtdekbjfjbbdjgaaParts
import Derived.KernelRfl
namespace Go.Proofs.Ytdekbjfjbbdjgaa.worked
open Go
set_option linter.unusedVariables false
set_option maxRecDepth 100000
noncomputable def env0 : Cl.Env := { P := Try.prog, sum := fun _ => none, imp := fun f => [57,60,61].contains f, strict := true }
theorem mixed : env0.P.follows .mixedOrders = true := by kernel_rfl
theorem ok0 : Cl.SumOk env0 := Cl.sumOk_none fun _ => rfl
def sR : Cl.Entry := ⟨49, [(.agg (Array.mk [(.int .i64 3), (.int .i64 2), (.slice (some (Addr.mk 0 0 none)) 4 18446744073709551616)]))], [(.cells 57 [(.int .i64 0), (.int .i64 15), (.int .i64 1), (.int .i64 23), (.int .i64 2), (.int .i64 16), (.int .i64 3), (.int .i64 24)])], (.map (some 1)), [(.map 83 [((.agg (Array.mk [(.int .i64 0), (.int .i64 0)])), (.agg (Array.mk [(.int .i64 0), (.int .i64 0), (.int .i64 0), (.int .i64 (-1)), (.int .i64 0), (.int .i64 0)]))), ((.agg (Array.mk [(.int .i64 1), (.int .i64 0)])), (.agg (Array.mk [(.int .i64 0), (.int .i64 0), (.int .i64 15), (.int .i64 0), (.int .i64 0), (.int .i64 0)]))), ((.agg (Array.mk [(.int .i64 0), (.int .i64 2)])), (.agg (Array.mk [(.int .i64 0), (.int .i64 0), (.int .i64 1), (.int .i64 2), (.int .i64 1), (.int .i64 0)]))), ((.agg (Array.mk [(.int .i64 1), (.int .i64 1)])), (.agg (Array.mk [(.int .i64 0), (.int .i64 0), (.int .i64 24), (.int .i64 3), (.int .i64 0), (.int .i64 0)]))), ((.agg (Array.mk [(.int .i64 0), (.int .i64 1)])), (.agg (Array.mk [(.int .i64 0), (.int .i64 0), (.int .i64 (-1)), (.int .i64 1), (.int .i64 1), (.int .i64 1)])))])]⟩
theorem sR_gives : Cl.gives ((Cl.run env0 3000).pcall sR.g sR.args sR.h) sR.v sR.new = true := by kernel_rfl
theorem sR_ok : Cl.PureSim env0.P sR.g sR.args sR.h sR.v sR.new := Cl.entry_ok ok0 mixed sR_gives
def sU : Cl.Entry := ⟨49, [(.agg (Array.mk [(.int .i64 3), (.int .i64 2), (.slice (some (Addr.mk 0 0 none)) 4 18446744073709551616)]))], [(.cells 57 [(.int .i64 0), (.int .i64 15), (.int .i64 1), (.int .i64 23), (.int .i64 2), (.int .i64 16), (.int .i64 5), (.int .i64 99)])], (.map (some 1)), [(.map 83 [((.agg (Array.mk [(.int .i64 0), (.int .i64 0)])), (.agg (Array.mk [(.int .i64 0), (.int .i64 0), (.int .i64 0), (.int .i64 (-1)), (.int .i64 0), (.int .i64 0)]))), ((.agg (Array.mk [(.int .i64 1), (.int .i64 0)])), (.agg (Array.mk [(.int .i64 0), (.int .i64 0), (.int .i64 15), (.int .i64 0), (.int .i64 0), (.int .i64 0)]))), ((.agg (Array.mk [(.int .i64 0), (.int .i64 2)])), (.agg (Array.mk [(.int .i64 0), (.int .i64 0), (.int .i64 1), (.int .i64 2), (.int .i64 1), (.int .i64 0)]))), ((.agg (Array.mk [(.int .i64 1), (.int .i64 1)])), (.agg (Array.mk [(.int .i64 0), (.int .i64 0), (.int .i64 98), (.int .i64 3), (.int .i64 0), (.int .i64 2)]))), ((.agg (Array.mk [(.int .i64 0), (.int .i64 1)])), (.agg (Array.mk [(.int .i64 0), (.int .i64 0), (.int .i64 (-75)), (.int .i64 1), (.int .i64 1), (.int .i64 1)])))])]⟩
theorem sU_gives : Cl.gives ((Cl.run env0 3000).pcall sU.g sU.args sU.h) sU.v sU.new = true := by kernel_rfl
theorem sU_ok : Cl.PureSim env0.P sU.g sU.args sU.h sU.v sU.new := Cl.entry_ok ok0 mixed sU_gives
def sT : Cl.Entry := ⟨49, [(.agg (Array.mk [(.int .i64 3), (.int .i64 2), (.slice (some (Addr.mk 0 0 none)) 5 18446744073709551616)]))], [(.cells 57 [(.int .i64 0), (.int .i64 15), (.int .i64 1), (.int .i64 23), (.int .i64 2), (.int .i64 16), (.int .i64 3), (.int .i64 24), (.int .i64 5), (.int .i64 99)])], (.map (some 1)), [(.map 83 [((.agg (Array.mk [(.int .i64 0), (.int .i64 0)])), (.agg (Array.mk [(.int .i64 0), (.int .i64 0), (.int .i64 0), (.int .i64 (-1)), (.int .i64 0), (.int .i64 0)]))), ((.agg (Array.mk [(.int .i64 1), (.int .i64 0)])), (.agg (Array.mk [(.int .i64 0), (.int .i64 0), (.int .i64 15), (.int .i64 0), (.int .i64 0), (.int .i64 0)]))), ((.agg (Array.mk [(.int .i64 0), (.int .i64 2)])), (.agg (Array.mk [(.int .i64 0), (.int .i64 0), (.int .i64 1), (.int .i64 2), (.int .i64 1), (.int .i64 0)]))), ((.agg (Array.mk [(.int .i64 1), (.int .i64 1)])), (.agg (Array.mk [(.int .i64 0), (.int .i64 0), (.int .i64 98), (.int .i64 4), (.int .i64 0), (.int .i64 2)]))), ((.agg (Array.mk [(.int .i64 0), (.int .i64 1)])), (.agg (Array.mk [(.int .i64 0), (.int .i64 0), (.int .i64 (-75)), (.int .i64 1), (.int .i64 1), (.int .i64 1)])))])]⟩
theorem sT_gives : Cl.gives ((Cl.run env0 3000).pcall sT.g sT.args sT.h) sT.v sT.new = true := by kernel_rfl
theorem sT_ok : Cl.PureSim env0.P sT.g sT.args sT.h sT.v sT.new := Cl.entry_ok ok0 mixed sT_gives
def pR : Cl.Entry := ⟨18, [(.agg (Array.mk [(.int .i64 3), (.int .i64 2), (.slice (some (Addr.mk 0 0 none)) 4 18446744073709551616)]))], [(.cells 57 [(.int .i64 0), (.int .i64 15), (.int .i64 1), (.int .i64 23), (.int .i64 2), (.int .i64 16), (.int .i64 3), (.int .i64 24)])], .tuple ⟨[.int .i64 1, .int .i64 0]⟩, []⟩
theorem pR_ok : Cl.PureSim env0.P pR.g pR.args pR.h pR.v pR.new := parts.R.ok
def pU : Cl.Entry := ⟨18, [(.agg (Array.mk [(.int .i64 3), (.int .i64 2), (.slice (some (Addr.mk 0 0 none)) 4 18446744073709551616)]))], [(.cells 57 [(.int .i64 0), (.int .i64 15), (.int .i64 1), (.int .i64 23), (.int .i64 2), (.int .i64 16), (.int .i64 5), (.int .i64 99)])], .tuple ⟨[.int .i64 1, .int .i64 0]⟩, []⟩
theorem pU_ok : Cl.PureSim env0.P pU.g pU.args pU.h pU.v pU.new := parts.U.ok
def table1 : List Cl.Entry := [sR, sU, sT, pR, pU]
theorem true_table1 : ∀ e ∈ table1, Cl.PureSim env0.P e.g e.args e.h e.v e.new := by
 intro e he
 simp only [table1, List.mem_cons, List.not_mem_nil, or_false] at he
 rcases he with rfl | rfl | rfl | rfl | rfl
 · exact sR_ok
 · exact sU_ok
 · exact sT_ok
 · exact pR_ok
 exact pU_ok
noncomputable def env1 : Cl.Env := { env0 with sum := Cl.tableSumR table1 }
theorem ok1 : Cl.SumOk env1 := Cl.tableR_ok rfl true_table1
end Go.Proofs.Ytdekbjfjbbdjgaa.worked
