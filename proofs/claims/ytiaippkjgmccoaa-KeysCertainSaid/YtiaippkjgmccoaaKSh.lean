/- Shifts and bits of integers. -/
import Derived.Test.YtiaippkjgmccoaaCL
set_option linter.unusedVariables false
namespace Go.Cl
open Go Go.RowKit
def shl64 (a b : Int) : Int := w64 (a * 2 ^ (min b.toNat 64))
def shr64 (a b : Int) : Int := a.fdiv (2 ^ (min b.toNat 64))
def and64 (a b : Int) : Int := w64 ((BitVec.ofInt 64 a &&& BitVec.ofInt 64 b).toNat)
section
variable {P : Program} {x : Option QRes} {ty : TypeId} {ox oy : Operand} {a b : Int}
theorem q_shl (h : x = qBin P .shl ty ox oy (.int .i64 a) (.int .i64 b)) (hb : 0 ≤ b) : x = some { val := .int .i64 (shl64 a b) } := by
 rw [h]
 simp only [qBin, intBin]
 have e : pureRun P (do eqGuard .shl ty ox oy (.int .i64 a) (.int .i64 b); binOp .shl ty (.int .i64 a) (.int .i64 b)) = some (.int .i64 (shl64 a b)) := by
  show pureRun P (Op.shift .shl .i64 a .i64 b) = _
  unfold Op.shift
  rw [if_neg (by omega)]
  rfl
 rw [if_neg (by decide)]
 unfold flatRun
 rw [e]
 rfl
theorem q_shr (h : x = qBin P .shr ty ox oy (.int .i64 a) (.int .i64 b)) (hb : 0 ≤ b) : x = some { val := .int .i64 (shr64 a b) } := by
 rw [h]
 simp only [qBin, intBin]
 have e : pureRun P (do eqGuard .shr ty ox oy (.int .i64 a) (.int .i64 b); binOp .shr ty (.int .i64 a) (.int .i64 b)) = some (.int .i64 (shr64 a b)) := by
  show pureRun P (Op.shift .shr .i64 a .i64 b) = _
  unfold Op.shift
  rw [if_neg (by omega)]
  rfl
 rw [if_neg (by decide)]
 unfold flatRun
 rw [e]
 rfl
theorem q_and (h : x = qBin P .and ty ox oy (.int .i64 a) (.int .i64 b)) : x = some { val := .int .i64 (and64 a b) } := by
 rw [h]
 simp only [qBin, intBin]
 have e : pureRun P (do eqGuard .and ty ox oy (.int .i64 a) (.int .i64 b); binOp .and ty (.int .i64 a) (.int .i64 b)) = some (.int .i64 (and64 a b)) := rfl
 rw [if_neg (by decide)]
 unfold flatRun
 rw [e]
 rfl
end
end Go.Cl
