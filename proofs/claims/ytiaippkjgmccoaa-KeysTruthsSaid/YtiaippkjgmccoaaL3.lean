/- KeysTruths: the plain law. -/
import Derived.Test.YtiaippkjgmccoaaLK4
import Derived.Test.YtiaippkjgmccoaaG3
set_option linter.unusedVariables false
namespace Go.Proofs.Ytiaippkjgmccoaa
open Go Go.Cl
theorem plain (p0 : Int) (p1 : List ((Int × Bool) × (Int × Bool))) (p2 : List (Int × Bool)) (p3 : List Bool) (wp0 : (Lit.int .i64 p0).wf = true) (wp1 : ∀ x ∈ p1, (Lit.int .i64 x.1.1).wf = true ∧ (Lit.int .i64 x.2.1).wf = true) (wp2 : ∀ x ∈ p2, (Lit.int .i64 x.1).wf = true) (wp3 : ∀ x ∈ p3, True) : F3 p0 p1 p2 p3 = some true := by
 unfold F3
 by_cases h1 : (p1.length : Int) > 100
 · rw [decide_eq_true h1]; rfl
 rw [decide_eq_false h1]
 by_cases h2 : (p2.length : Int) > 100
 · rw [decide_eq_true h2]; rfl
 rw [decide_eq_false h2]
 by_cases h3 : (p3.length : Int) > 100
 · rw [decide_eq_true h3]; rfl
 rw [decide_eq_false h3]
 have q1 : p1.length ≤ 1000 := by omega
 have q2 : p2.length ≤ 1000 := by omega
 obtain ⟨o, e, f, g, q⟩ := plain.broken_eq (T := p0) q1 p3
 simp only [Option.bind_eq_bind, Option.bind_some, Bool.false_eq_true, if_false]
 rw [plain.F16_eq q1, plain.F17_eq q2, plain.F18_eq q1 q2]
 simp only [Option.bind_some]
 rw [plain.F19_eq q1 q2, plain.F20_eq q1 q2]
 simp only [Option.bind_some]
 rw [plain.F21_eq q1 q2, f]
 simp only [Option.bind_some]
 rw [g]
 simp only [Option.bind_some]
 rw [plain.F24_eq (plain.first_short q1), plain.F25_eq (plain.cert_short q1), plain.F25_eq q, plain.F26_eq q1, plain.F27_eq q1]
 simp only [Option.bind_some, beq_self_eq_true, if_true]
 rfl
end Go.Proofs.Ytiaippkjgmccoaa
