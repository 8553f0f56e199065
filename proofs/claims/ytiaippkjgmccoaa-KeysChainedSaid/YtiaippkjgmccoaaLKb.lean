/- Counting: numbers with a property, and values as bits. -/
import Derived.Test.YtiaippkjgmccoaaLKa
set_option linter.unusedVariables false
set_option maxRecDepth 100000
namespace Go.Proofs.Ytiaippkjgmccoaa.plain
open Go Go.Cl
theorem pow14 {n : Nat} (h : n ≤ 14) : 2 ^ n ≤ 16384 := Nat.le_trans (Nat.pow_le_pow_right (by decide) h) (by decide)
end Go.Proofs.Ytiaippkjgmccoaa.plain
