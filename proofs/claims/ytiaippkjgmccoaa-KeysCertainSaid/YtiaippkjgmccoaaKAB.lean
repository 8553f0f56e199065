/- Answers that the examples ask for. -/
import Derived.Test.YtiaippkjgmccoaaK0
import Derived.KernelRfl
namespace Go.Proofs.Ytiaippkjgmccoaa.worked
open Go
set_option linter.unusedVariables false
set_option maxRecDepth 100000
def eA : Cl.Entry := ⟨18, [(Go.Value.agg (Array.mk [(Go.Value.int Go.IntKind.i64 (Int.ofNat 3)), (Go.Value.slice (Option.some (Go.Addr.mk 0 0 Option.none)) 3 18446744073709551616)])), (Go.Value.slice Option.none 0 0)], [(Go.Cl.Blk.cells 86 [(Go.Value.int Go.IntKind.i64 (Int.ofNat 0)), (Go.Value.bool Bool.true), (Go.Value.int Go.IntKind.i64 (Int.ofNat 1)), (Go.Value.bool Bool.true), (Go.Value.int Go.IntKind.i64 (Int.ofNat 0)), (Go.Value.bool Bool.false), (Go.Value.int Go.IntKind.i64 (Int.ofNat 2)), (Go.Value.bool Bool.true), (Go.Value.int Go.IntKind.i64 (Int.ofNat 1)), (Go.Value.bool Bool.false), (Go.Value.int Go.IntKind.i64 (Int.ofNat 2)), (Go.Value.bool Bool.true)])], (Go.Value.tuple (Array.mk [(Go.Value.slice (Option.some (Go.Addr.mk 1 0 Option.none)) 3 18446744073709551616), (Go.Value.int Go.IntKind.i64 (Int.ofNat 0))])), [(Go.Cl.Blk.cells 4 [(Go.Value.bool Bool.false), (Go.Value.bool Bool.true), (Go.Value.bool Bool.true)])]⟩
theorem eA_gives : Cl.gives ((Cl.run env0 3000).pcall eA.g eA.args eA.h) eA.v eA.new = true := by kernel_rfl
theorem eA_ok : Cl.PureSim env0.P eA.g eA.args eA.h eA.v eA.new := Cl.entry_ok ok0 mixed eA_gives
def eB : Cl.Entry := ⟨18, [(Go.Value.agg (Array.mk [(Go.Value.int Go.IntKind.i64 (Int.ofNat 3)), (Go.Value.slice (Option.some (Go.Addr.mk 0 0 Option.none)) 3 18446744073709551616)])), (Go.Value.slice (Option.some (Go.Addr.mk 1 0 Option.none)) 1 18446744073709551616)], [(Go.Cl.Blk.cells 86 [(Go.Value.int Go.IntKind.i64 (Int.ofNat 0)), (Go.Value.bool Bool.true), (Go.Value.int Go.IntKind.i64 (Int.ofNat 1)), (Go.Value.bool Bool.true), (Go.Value.int Go.IntKind.i64 (Int.ofNat 0)), (Go.Value.bool Bool.false), (Go.Value.int Go.IntKind.i64 (Int.ofNat 2)), (Go.Value.bool Bool.true), (Go.Value.int Go.IntKind.i64 (Int.ofNat 1)), (Go.Value.bool Bool.false), (Go.Value.int Go.IntKind.i64 (Int.ofNat 2)), (Go.Value.bool Bool.true)]), (Go.Cl.Blk.cells 50 [(Go.Value.int Go.IntKind.i64 (Int.ofNat 1)), (Go.Value.bool Bool.false)])], (Go.Value.tuple (Array.mk [(Go.Value.slice (Option.some (Go.Addr.mk 2 0 Option.none)) 3 18446744073709551616), (Go.Value.int Go.IntKind.i64 (Int.ofNat 0))])), [(Go.Cl.Blk.cells 4 [(Go.Value.bool Bool.true), (Go.Value.bool Bool.false), (Go.Value.bool Bool.true)])]⟩
theorem eB_gives : Cl.gives ((Cl.run env0 3000).pcall eB.g eB.args eB.h) eB.v eB.new = true := by kernel_rfl
theorem eB_ok : Cl.PureSim env0.P eB.g eB.args eB.h eB.v eB.new := Cl.entry_ok ok0 mixed eB_gives
end Go.Proofs.Ytiaippkjgmccoaa.worked
