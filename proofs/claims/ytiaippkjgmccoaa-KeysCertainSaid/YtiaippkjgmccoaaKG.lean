/- Answers that the examples ask for. -/
import Derived.Test.YtiaippkjgmccoaaK0
import Derived.KernelRfl
namespace Go.Proofs.Ytiaippkjgmccoaa.worked
open Go
set_option linter.unusedVariables false
set_option maxRecDepth 100000
def eG : Cl.Entry := ⟨36, [(Go.Value.agg (Array.mk [(Go.Value.int Go.IntKind.i64 (Int.ofNat 3)), (Go.Value.slice (Option.some (Go.Addr.mk 0 0 Option.none)) 4 18446744073709551616)]))], [(Go.Cl.Blk.cells 86 [(Go.Value.int Go.IntKind.i64 (Int.ofNat 0)), (Go.Value.bool Bool.true), (Go.Value.int Go.IntKind.i64 (Int.ofNat 1)), (Go.Value.bool Bool.true), (Go.Value.int Go.IntKind.i64 (Int.ofNat 0)), (Go.Value.bool Bool.false), (Go.Value.int Go.IntKind.i64 (Int.ofNat 2)), (Go.Value.bool Bool.true), (Go.Value.int Go.IntKind.i64 (Int.ofNat 1)), (Go.Value.bool Bool.false), (Go.Value.int Go.IntKind.i64 (Int.ofNat 2)), (Go.Value.bool Bool.true), (Go.Value.int Go.IntKind.i64 (Int.ofNat 2)), (Go.Value.bool Bool.true), (Go.Value.int Go.IntKind.i64 (Int.ofNat 2)), (Go.Value.bool Bool.true)])], (Go.Value.tuple (Array.mk [(Go.Value.slice (Option.some (Go.Addr.mk 1 0 Option.none)) 3 18446744073709551616), (Go.Value.int Go.IntKind.i64 (Int.ofNat 0))])), [(Go.Cl.Blk.cells 3 [(Go.Value.int Go.IntKind.i64 (Int.ofNat 1)), (Go.Value.int Go.IntKind.i64 (Int.ofNat 2)), (Go.Value.int Go.IntKind.i64 (Int.ofNat 3))])]⟩
theorem eG_gives : Cl.gives ((Cl.run env0 3000).pcall eG.g eG.args eG.h) eG.v eG.new = true := by kernel_rfl
theorem eG_ok : Cl.PureSim env0.P eG.g eG.args eG.h eG.v eG.new := Cl.entry_ok ok0 mixed eG_gives
end Go.Proofs.Ytiaippkjgmccoaa.worked
