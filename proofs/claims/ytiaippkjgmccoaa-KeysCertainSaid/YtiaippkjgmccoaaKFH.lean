/- Answers that the examples ask for. -/
import Derived.Test.YtiaippkjgmccoaaK0
import Derived.KernelRfl
namespace Go.Proofs.Ytiaippkjgmccoaa.worked
open Go
set_option linter.unusedVariables false
set_option maxRecDepth 100000
def eF : Cl.Entry := ⟨38, [(Go.Value.agg (Array.mk [(Go.Value.int Go.IntKind.i64 (Int.ofNat 3)), (Go.Value.slice (Option.some (Go.Addr.mk 0 0 Option.none)) 3 18446744073709551616)])), (Go.Value.slice Option.none 0 0)], [(Go.Cl.Blk.cells 86 [(Go.Value.int Go.IntKind.i64 (Int.ofNat 0)), (Go.Value.bool Bool.true), (Go.Value.int Go.IntKind.i64 (Int.ofNat 1)), (Go.Value.bool Bool.true), (Go.Value.int Go.IntKind.i64 (Int.ofNat 0)), (Go.Value.bool Bool.false), (Go.Value.int Go.IntKind.i64 (Int.ofNat 2)), (Go.Value.bool Bool.true), (Go.Value.int Go.IntKind.i64 (Int.ofNat 1)), (Go.Value.bool Bool.false), (Go.Value.int Go.IntKind.i64 (Int.ofNat 2)), (Go.Value.bool Bool.true)])], (Go.Value.tuple (Array.mk [(Go.Value.int Go.IntKind.i64 (Int.ofNat 3)), (Go.Value.int Go.IntKind.i64 (Int.ofNat 0))])), []⟩
theorem eF_gives : Cl.gives ((Cl.run env0 3000).pcall eF.g eF.args eF.h) eF.v eF.new = true := by kernel_rfl
theorem eF_ok : Cl.PureSim env0.P eF.g eF.args eF.h eF.v eF.new := Cl.entry_ok ok0 mixed eF_gives
def eH : Cl.Entry := ⟨22, [(Go.Value.agg (Array.mk [(Go.Value.int Go.IntKind.i64 (Int.ofNat 3)), (Go.Value.slice (Option.some (Go.Addr.mk 0 0 Option.none)) 3 18446744073709551616)])), (Go.Value.slice (Option.some (Go.Addr.mk 1 0 Option.none)) 3 3)], [(Go.Cl.Blk.cells 86 [(Go.Value.int Go.IntKind.i64 (Int.ofNat 0)), (Go.Value.bool Bool.true), (Go.Value.int Go.IntKind.i64 (Int.ofNat 1)), (Go.Value.bool Bool.true), (Go.Value.int Go.IntKind.i64 (Int.ofNat 0)), (Go.Value.bool Bool.false), (Go.Value.int Go.IntKind.i64 (Int.ofNat 2)), (Go.Value.bool Bool.true), (Go.Value.int Go.IntKind.i64 (Int.ofNat 1)), (Go.Value.bool Bool.false), (Go.Value.int Go.IntKind.i64 (Int.ofNat 2)), (Go.Value.bool Bool.true)]), (Go.Cl.Blk.cells 4 [(Go.Value.bool Bool.false), (Go.Value.bool Bool.false), (Go.Value.bool Bool.false)])], (Go.Value.tuple (Array.mk [(Go.Value.slice (Option.some (Go.Addr.mk 2 0 Option.none)) 1 18446744073709551616), (Go.Value.int Go.IntKind.i64 (Int.ofNat 0))])), [(Go.Cl.Blk.cells 3 [(Go.Value.int Go.IntKind.i64 (Int.ofNat 0))])]⟩
theorem eH_gives : Cl.gives ((Cl.run env0 3000).pcall eH.g eH.args eH.h) eH.v eH.new = true := by kernel_rfl
theorem eH_ok : Cl.PureSim env0.P eH.g eH.args eH.h eH.v eH.new := Cl.entry_ok ok0 mixed eH_gives
end Go.Proofs.Ytiaippkjgmccoaa.worked
