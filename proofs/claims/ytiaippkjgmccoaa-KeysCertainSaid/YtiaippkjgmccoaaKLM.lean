/- Answers that the examples ask for. -/
import Derived.Test.YtiaippkjgmccoaaK0
import Derived.KernelRfl
namespace Go.Proofs.Ytiaippkjgmccoaa.worked
open Go
set_option linter.unusedVariables false
set_option maxRecDepth 100000
def eL : Cl.Entry := ⟨20, [(Go.Value.agg (Array.mk [(Go.Value.int Go.IntKind.i64 (Int.ofNat 3)), (Go.Value.slice (Option.some (Go.Addr.mk 0 0 Option.none)) 3 18446744073709551616)])), (Go.Value.slice Option.none 0 0)], [(Go.Cl.Blk.cells 86 [(Go.Value.int Go.IntKind.i64 (Int.ofNat 0)), (Go.Value.bool Bool.true), (Go.Value.int Go.IntKind.i64 (Int.ofNat 1)), (Go.Value.bool Bool.true), (Go.Value.int Go.IntKind.i64 (Int.ofNat 0)), (Go.Value.bool Bool.false), (Go.Value.int Go.IntKind.i64 (Int.ofNat 2)), (Go.Value.bool Bool.true), (Go.Value.int Go.IntKind.i64 (Int.ofNat 1)), (Go.Value.bool Bool.false), (Go.Value.int Go.IntKind.i64 (Int.ofNat 2)), (Go.Value.bool Bool.true)])], (Go.Value.tuple (Array.mk [(Go.Value.slice (Option.some (Go.Addr.mk 1 0 Option.none)) 3 18446744073709551616), (Go.Value.int Go.IntKind.i64 (Int.ofNat 0))])), [(Go.Cl.Blk.cells 3 [(Go.Value.int Go.IntKind.i64 (Int.ofNat 2)), (Go.Value.int Go.IntKind.i64 (Int.ofNat 2)), (Go.Value.int Go.IntKind.i64 (Int.ofNat 1))])]⟩
theorem eL_gives : Cl.gives ((Cl.run env0 3000).pcall eL.g eL.args eL.h) eL.v eL.new = true := by kernel_rfl
theorem eL_ok : Cl.PureSim env0.P eL.g eL.args eL.h eL.v eL.new := Cl.entry_ok ok0 mixed eL_gives
def eM : Cl.Entry := ⟨20, [(Go.Value.agg (Array.mk [(Go.Value.int Go.IntKind.i64 (Int.ofNat 3)), (Go.Value.slice (Option.some (Go.Addr.mk 0 0 Option.none)) 3 18446744073709551616)])), (Go.Value.slice (Option.some (Go.Addr.mk 1 0 Option.none)) 1 18446744073709551616)], [(Go.Cl.Blk.cells 86 [(Go.Value.int Go.IntKind.i64 (Int.ofNat 0)), (Go.Value.bool Bool.true), (Go.Value.int Go.IntKind.i64 (Int.ofNat 1)), (Go.Value.bool Bool.true), (Go.Value.int Go.IntKind.i64 (Int.ofNat 0)), (Go.Value.bool Bool.false), (Go.Value.int Go.IntKind.i64 (Int.ofNat 2)), (Go.Value.bool Bool.true), (Go.Value.int Go.IntKind.i64 (Int.ofNat 1)), (Go.Value.bool Bool.false), (Go.Value.int Go.IntKind.i64 (Int.ofNat 2)), (Go.Value.bool Bool.true)]), (Go.Cl.Blk.cells 50 [(Go.Value.int Go.IntKind.i64 (Int.ofNat 2)), (Go.Value.bool Bool.false)])], (Go.Value.tuple (Array.mk [(Go.Value.slice Option.none 0 0), (Go.Value.int Go.IntKind.i64 (Int.ofNat 13))])), []⟩
theorem eM_gives : Cl.gives ((Cl.run env0 3000).pcall eM.g eM.args eM.h) eM.v eM.new = true := by kernel_rfl
theorem eM_ok : Cl.PureSim env0.P eM.g eM.args eM.h eM.v eM.new := Cl.entry_ok ok0 mixed eM_gives
end Go.Proofs.Ytiaippkjgmccoaa.worked
