/- Shifts and bits of unsigned integers. -/
import Derived.Test.YthpfffijnkmdgaaCB
set_option linter.unusedVariables false
namespace Go.Cl
open Go Go.RowKit
def shlu (a b : Int) : Int := IntKind.wrap .u64 (a * 2 ^ (min b.toNat 64))
def shru (a b : Int) : Int := a.fdiv (2 ^ (min b.toNat 64))
def andu (a b : Int) : Int := IntKind.wrap .u64 ((BitVec.ofInt 64 a &&& BitVec.ofInt 64 b).toNat)
def xoru (a b : Int) : Int := IntKind.wrap .u64 ((BitVec.ofInt 64 a ^^^ BitVec.ofInt 64 b).toNat)
section
variable {P : Program} {x : Option QRes} {ty : TypeId} {ox oy : Operand} {a b : Int}
theorem q_shlu (h : x = qBin P .shl ty ox oy (.int .u64 a) (.int .u64 b)) (hb : 0 ≤ b) : x = some { val := .int .u64 (shlu a b) } := by
 rw [h]
 simp only [qBin, intBin]
 have e : pureRun P (do eqGuard .shl ty ox oy (.int .u64 a) (.int .u64 b); binOp .shl ty (.int .u64 a) (.int .u64 b)) = some (.int .u64 (shlu a b)) := by
  show pureRun P (Op.shift .shl .u64 a .u64 b) = _
  unfold Op.shift
  rw [if_neg (by omega)]
  rfl
 rw [if_neg (by decide)]
 unfold flatRun
 rw [e]
 rfl
theorem q_shru (h : x = qBin P .shr ty ox oy (.int .u64 a) (.int .u64 b)) (hb : 0 ≤ b) : x = some { val := .int .u64 (shru a b) } := by
 rw [h]
 simp only [qBin, intBin]
 have e : pureRun P (do eqGuard .shr ty ox oy (.int .u64 a) (.int .u64 b); binOp .shr ty (.int .u64 a) (.int .u64 b)) = some (.int .u64 (shru a b)) := by
  show pureRun P (Op.shift .shr .u64 a .u64 b) = _
  unfold Op.shift
  rw [if_neg (by omega)]
  rfl
 rw [if_neg (by decide)]
 unfold flatRun
 rw [e]
 rfl
theorem q_andu (h : x = qBin P .and ty ox oy (.int .u64 a) (.int .u64 b)) : x = some { val := .int .u64 (andu a b) } := by
 rw [h]
 simp only [qBin, intBin]
 have e : pureRun P (do eqGuard .and ty ox oy (.int .u64 a) (.int .u64 b); binOp .and ty (.int .u64 a) (.int .u64 b)) = some (.int .u64 (andu a b)) := rfl
 rw [if_neg (by decide)]
 unfold flatRun
 rw [e]
 rfl
theorem q_xoru (h : x = qBin P .xor ty ox oy (.int .u64 a) (.int .u64 b)) : x = some { val := .int .u64 (xoru a b) } := by
 rw [h]
 simp only [qBin, intBin]
 have e : pureRun P (do eqGuard .xor ty ox oy (.int .u64 a) (.int .u64 b); binOp .xor ty (.int .u64 a) (.int .u64 b)) = some (.int .u64 (xoru a b)) := rfl
 rw [if_neg (by decide)]
 unfold flatRun
 rw [e]
 rfl
end
end Go.Cl
