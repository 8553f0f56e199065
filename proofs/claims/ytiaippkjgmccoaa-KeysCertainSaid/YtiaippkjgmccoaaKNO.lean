/- Answers that the examples ask for. -/
import Derived.Test.YtiaippkjgmccoaaK0
import Derived.KernelRfl
namespace Go.Proofs.Ytiaippkjgmccoaa.worked
open Go
set_option linter.unusedVariables false
set_option maxRecDepth 100000
def eN : Cl.Entry := ⟨38, [(Go.Value.agg (Array.mk [(Go.Value.int Go.IntKind.i64 (Int.ofNat 3)), (Go.Value.slice (Option.some (Go.Addr.mk 0 0 Option.none)) 4 18446744073709551616)])), (Go.Value.slice Option.none 0 0)], [(Go.Cl.Blk.cells 86 [(Go.Value.int Go.IntKind.i64 (Int.ofNat 0)), (Go.Value.bool Bool.true), (Go.Value.int Go.IntKind.i64 (Int.ofNat 1)), (Go.Value.bool Bool.true), (Go.Value.int Go.IntKind.i64 (Int.ofNat 0)), (Go.Value.bool Bool.false), (Go.Value.int Go.IntKind.i64 (Int.ofNat 2)), (Go.Value.bool Bool.true), (Go.Value.int Go.IntKind.i64 (Int.ofNat 1)), (Go.Value.bool Bool.false), (Go.Value.int Go.IntKind.i64 (Int.ofNat 2)), (Go.Value.bool Bool.true), (Go.Value.int Go.IntKind.i64 (Int.ofNat 2)), (Go.Value.bool Bool.false), (Go.Value.int Go.IntKind.i64 (Int.ofNat 2)), (Go.Value.bool Bool.false)])], (Go.Value.tuple (Array.mk [(Go.Value.int Go.IntKind.i64 (Int.ofNat 0)), (Go.Value.int Go.IntKind.i64 (Int.ofNat 0))])), []⟩
theorem eN_gives : Cl.gives ((Cl.run env0 3000).pcall eN.g eN.args eN.h) eN.v eN.new = true := by kernel_rfl
theorem eN_ok : Cl.PureSim env0.P eN.g eN.args eN.h eN.v eN.new := Cl.entry_ok ok0 mixed eN_gives
def eO : Cl.Entry := ⟨36, [(Go.Value.agg (Array.mk [(Go.Value.int Go.IntKind.i64 (Int.ofNat 3)), (Go.Value.slice (Option.some (Go.Addr.mk 0 0 Option.none)) 3 18446744073709551616)]))], [(Go.Cl.Blk.cells 86 [(Go.Value.int Go.IntKind.i64 (Int.ofNat 0)), (Go.Value.bool Bool.true), (Go.Value.int Go.IntKind.i64 (Int.ofNat 1)), (Go.Value.bool Bool.true), (Go.Value.int Go.IntKind.i64 (Int.ofNat 0)), (Go.Value.bool Bool.false), (Go.Value.int Go.IntKind.i64 (Int.ofNat 2)), (Go.Value.bool Bool.true), (Go.Value.int Go.IntKind.i64 (Int.ofNat 1)), (Go.Value.bool Bool.false), (Go.Value.int Go.IntKind.i64 (Int.ofNat 2)), (Go.Value.bool Bool.true)])], (Go.Value.tuple (Array.mk [(Go.Value.slice Option.none 0 0), (Go.Value.int Go.IntKind.i64 (Int.ofNat 0))])), []⟩
theorem eO_gives : Cl.gives ((Cl.run env0 3000).pcall eO.g eO.args eO.h) eO.v eO.new = true := by kernel_rfl
theorem eO_ok : Cl.PureSim env0.P eO.g eO.args eO.h eO.v eO.new := Cl.entry_ok ok0 mixed eO_gives
end Go.Proofs.Ytiaippkjgmccoaa.worked
