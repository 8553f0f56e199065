/- Answers of greater functions, over those of small ones. -/
import Derived.Test.YtnhcgbcmnhdocaaT0
namespace Go.Proofs.Ytnhcgbcmnhdocaa.worked
open Go
set_option linter.unusedVariables false
set_option maxRecDepth 100000
noncomputable def env1 : Cl.Env := { env0 with sum := Cl.tableSumR table0 }
theorem ok1 : Cl.SumOk env1 := Cl.tableR_ok rfl true0
def b40 : Cl.Entry := ⟨40, [(Go.Value.slice (Option.some (Go.Addr.mk 0 0 Option.none)) 5 5)], [(Go.Cl.Blk.cells 25 [(Go.Value.int Go.IntKind.i64 (Int.ofNat 0)), (Go.Value.int Go.IntKind.i64 (Int.ofNat 0)), (Go.Value.int Go.IntKind.i64 (Int.ofNat 0)), (Go.Value.int Go.IntKind.i64 (Int.ofNat 0)), (Go.Value.int Go.IntKind.i64 (Int.ofNat 10)), (Go.Value.int Go.IntKind.i64 (Int.ofNat 0)), (Go.Value.int Go.IntKind.i64 (Int.ofNat 100)), (Go.Value.int Go.IntKind.i64 (Int.ofNat 100)), (Go.Value.int Go.IntKind.i64 (Int.ofNat 0)), (Go.Value.int Go.IntKind.i64 (Int.ofNat 10)), (Go.Value.int Go.IntKind.i64 (Int.ofNat 200)), (Go.Value.int Go.IntKind.i64 (Int.ofNat 200)), (Go.Value.int Go.IntKind.i64 (Int.ofNat 9)), (Go.Value.int Go.IntKind.i64 (Int.ofNat 9)), (Go.Value.int Go.IntKind.i64 (Int.ofNat 90)), (Go.Value.int Go.IntKind.i64 (Int.ofNat 110)), (Go.Value.int Go.IntKind.i64 (Int.ofNat 4)), (Go.Value.int Go.IntKind.i64 (Int.ofNat 3)), (Go.Value.int Go.IntKind.i64 (Int.ofNat 50)), (Go.Value.int Go.IntKind.i64 (Int.ofNat 50))])], (Go.Value.int Go.IntKind.i64 (Int.ofNat 0)), []⟩
theorem b40_gives : Cl.gives ((Cl.run env1 3000).pcall b40.g b40.args b40.h) b40.v b40.new = true := by kernel_rfl
theorem b40_ok : Cl.PureSim env0.P b40.g b40.args b40.h b40.v b40.new := Cl.entry_ok ok1 mixed b40_gives
def b53 : Cl.Entry := ⟨53, [(Go.Value.slice (Option.some (Go.Addr.mk 0 0 Option.none)) 5 5)], [(Go.Cl.Blk.cells 25 [(Go.Value.int Go.IntKind.i64 (Int.ofNat 0)), (Go.Value.int Go.IntKind.i64 (Int.ofNat 0)), (Go.Value.int Go.IntKind.i64 (Int.ofNat 0)), (Go.Value.int Go.IntKind.i64 (Int.ofNat 0)), (Go.Value.int Go.IntKind.i64 (Int.ofNat 10)), (Go.Value.int Go.IntKind.i64 (Int.ofNat 0)), (Go.Value.int Go.IntKind.i64 (Int.ofNat 100)), (Go.Value.int Go.IntKind.i64 (Int.ofNat 100)), (Go.Value.int Go.IntKind.i64 (Int.ofNat 0)), (Go.Value.int Go.IntKind.i64 (Int.ofNat 10)), (Go.Value.int Go.IntKind.i64 (Int.ofNat 200)), (Go.Value.int Go.IntKind.i64 (Int.ofNat 200)), (Go.Value.int Go.IntKind.i64 (Int.ofNat 9)), (Go.Value.int Go.IntKind.i64 (Int.ofNat 9)), (Go.Value.int Go.IntKind.i64 (Int.ofNat 90)), (Go.Value.int Go.IntKind.i64 (Int.ofNat 110)), (Go.Value.int Go.IntKind.i64 (Int.ofNat 4)), (Go.Value.int Go.IntKind.i64 (Int.ofNat 3)), (Go.Value.int Go.IntKind.i64 (Int.ofNat 50)), (Go.Value.int Go.IntKind.i64 (Int.ofNat 50))])], (Go.Value.slice (Option.some (Go.Addr.mk 1 0 Option.none)) 5 18446744073709551616), [(Go.Cl.Blk.cells 87 [(Go.Value.int Go.IntKind.i64 (Int.ofNat 0)), (Go.Value.int Go.IntKind.i64 (Int.ofNat 0)), (Go.Value.int Go.IntKind.i64 (Int.ofNat 10)), (Go.Value.int Go.IntKind.i64 (Int.ofNat 0)), (Go.Value.int Go.IntKind.i64 (Int.ofNat 0)), (Go.Value.int Go.IntKind.i64 (Int.ofNat 10)), (Go.Value.int Go.IntKind.i64 (Int.ofNat 9)), (Go.Value.int Go.IntKind.i64 (Int.ofNat 9)), (Go.Value.int Go.IntKind.i64 (Int.ofNat 4)), (Go.Value.int Go.IntKind.i64 (Int.ofNat 3))])]⟩
theorem b53_gives : Cl.gives ((Cl.run env1 3000).pcall b53.g b53.args b53.h) b53.v b53.new = true := by kernel_rfl
theorem b53_ok : Cl.PureSim env0.P b53.g b53.args b53.h b53.v b53.new := Cl.entry_ok ok1 mixed b53_gives
def b54 : Cl.Entry := ⟨54, [(Go.Value.slice (Option.some (Go.Addr.mk 0 0 Option.none)) 5 18446744073709551616)], [(Go.Cl.Blk.cells 87 [(Go.Value.int Go.IntKind.i64 (Int.ofNat 0)), (Go.Value.int Go.IntKind.i64 (Int.ofNat 0)), (Go.Value.int Go.IntKind.i64 (Int.ofNat 10)), (Go.Value.int Go.IntKind.i64 (Int.ofNat 0)), (Go.Value.int Go.IntKind.i64 (Int.ofNat 0)), (Go.Value.int Go.IntKind.i64 (Int.ofNat 10)), (Go.Value.int Go.IntKind.i64 (Int.ofNat 9)), (Go.Value.int Go.IntKind.i64 (Int.ofNat 9)), (Go.Value.int Go.IntKind.i64 (Int.ofNat 4)), (Go.Value.int Go.IntKind.i64 (Int.ofNat 3))])], (Go.Value.slice (Option.some (Go.Addr.mk 1 0 Option.none)) 4 18446744073709551616), [(Go.Cl.Blk.cells 3 [(Go.Value.int Go.IntKind.i64 (Int.ofNat 0)), (Go.Value.int Go.IntKind.i64 (Int.ofNat 1)), (Go.Value.int Go.IntKind.i64 (Int.ofNat 3)), (Go.Value.int Go.IntKind.i64 (Int.ofNat 2))])]⟩
theorem b54_gives : Cl.gives ((Cl.run env1 3000).pcall b54.g b54.args b54.h) b54.v b54.new = true := by kernel_rfl
theorem b54_ok : Cl.PureSim env0.P b54.g b54.args b54.h b54.v b54.new := Cl.entry_ok ok1 mixed b54_gives
def table1 : List Cl.Entry := b40 :: b53 :: b54 :: table0
theorem true1 : ∀ e ∈ table1, Cl.PureSim env0.P e.g e.args e.h e.v e.new := by
  intro e he
  simp only [table1, List.mem_cons] at he
  rcases he with rfl | rfl | rfl | he
  · exact b40_ok
  · exact b53_ok
  · exact b54_ok
  · exact true0 e he
noncomputable def env2 : Cl.Env := { env0 with sum := Cl.tableSumR table1 }
theorem ok2 : Cl.SumOk env2 := Cl.tableR_ok rfl true1
def b52 : Cl.Entry := ⟨52, [(Go.Value.slice (Option.some (Go.Addr.mk 0 0 Option.none)) 5 18446744073709551616)], [(Go.Cl.Blk.cells 87 [(Go.Value.int Go.IntKind.i64 (Int.ofNat 0)), (Go.Value.int Go.IntKind.i64 (Int.ofNat 0)), (Go.Value.int Go.IntKind.i64 (Int.ofNat 10)), (Go.Value.int Go.IntKind.i64 (Int.ofNat 0)), (Go.Value.int Go.IntKind.i64 (Int.ofNat 0)), (Go.Value.int Go.IntKind.i64 (Int.ofNat 10)), (Go.Value.int Go.IntKind.i64 (Int.ofNat 9)), (Go.Value.int Go.IntKind.i64 (Int.ofNat 9)), (Go.Value.int Go.IntKind.i64 (Int.ofNat 4)), (Go.Value.int Go.IntKind.i64 (Int.ofNat 3))])], (Go.Value.slice (Option.some (Go.Addr.mk 1 0 Option.none)) 4 18446744073709551616), [(Go.Cl.Blk.cells 52 [(Go.Value.int Go.IntKind.i64 (Int.ofNat 0)), (Go.Value.int Go.IntKind.i64 (Int.ofNat 1)), (Go.Value.int Go.IntKind.i64 (Int.ofNat 4)), (Go.Value.int Go.IntKind.i64 (Int.ofNat 0)), (Go.Value.int Go.IntKind.i64 (Int.ofNat 2)), (Go.Value.int Go.IntKind.i64 (Int.ofNat 4)), (Go.Value.int Go.IntKind.i64 (Int.ofNat 1)), (Go.Value.int Go.IntKind.i64 (Int.ofNat 3)), (Go.Value.int Go.IntKind.i64 (Int.ofNat 4)), (Go.Value.int Go.IntKind.i64 (Int.ofNat 2)), (Go.Value.int Go.IntKind.i64 (Int.ofNat 3)), (Go.Value.int Go.IntKind.i64 (Int.ofNat 4))])]⟩
theorem b52_gives : Cl.gives ((Cl.run env2 3000).pcall b52.g b52.args b52.h) b52.v b52.new = true := by kernel_rfl
theorem b52_ok : Cl.PureSim env0.P b52.g b52.args b52.h b52.v b52.new := Cl.entry_ok ok2 mixed b52_gives
def table2 : List Cl.Entry := b52 :: table1
theorem true2 : ∀ e ∈ table2, Cl.PureSim env0.P e.g e.args e.h e.v e.new := by
  intro e he
  simp only [table2, List.mem_cons] at he
  rcases he with rfl | he
  · exact b52_ok
  · exact true1 e he
noncomputable def env3 : Cl.Env := { env0 with sum := Cl.tableSumR table2 }
theorem ok3 : Cl.SumOk env3 := Cl.tableR_ok rfl true2
end Go.Proofs.Ytnhcgbcmnhdocaa.worked
