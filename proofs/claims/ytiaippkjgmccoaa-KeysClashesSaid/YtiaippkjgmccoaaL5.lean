/- KeysClashes: the plain law. -/
import Derived.Test.YtiaippkjgmccoaaLK6
import Derived.Test.YtiaippkjgmccoaaG5
set_option linter.unusedVariables false
namespace Go.Proofs.Ytiaippkjgmccoaa
open Go Go.Cl
theorem plain (p0 : Int) (p1 : List ((Int × Bool) × (Int × Bool))) (p2 p3 : List (Int × Bool)) (wp0 : (Lit.int .i64 p0).wf = true) (wp1 : ∀ x ∈ p1, (Lit.int .i64 x.1.1).wf = true ∧ (Lit.int .i64 x.2.1).wf = true) (wp2 : ∀ x ∈ p2, (Lit.int .i64 x.1).wf = true) (wp3 : ∀ x ∈ p3, (Lit.int .i64 x.1).wf = true) : F5 p0 p1 p2 p3 = some true := by
 unfold F5
 by_cases h1 : (p1.length : Int) > 100
 · rw [decide_eq_true h1]; rfl
 rw [decide_eq_false h1]
 by_cases h2 : (p2.length : Int) > 120
 · rw [decide_eq_true h2]; rfl
 rw [decide_eq_false h2]
 by_cases h3 : (p3.length : Int) > 120
 · rw [decide_eq_true h3]; rfl
 rw [decide_eq_false h3]
 have q1 : p1.length ≤ 1000 := by omega
 have q2 : p2.length ≤ 1000 := by omega
 have q3 : p3.length ≤ 1000 := by omega
 obtain ⟨a, b, e, f, g, hn, ha⟩ := plain.clash_eq (T := p0) q1
 obtain ⟨k, d, hd⟩ := plain.proves_eq (T := p0) q1 q2 q3
 simp only [Option.bind_eq_bind, Option.bind_some, Bool.false_eq_true, if_false]
 rw [plain.F16_eq q1, f]
 simp only [Option.bind_some]
 rw [g, k, hd, plain.F17_eq q2, plain.F17_eq q3]
 simp only [Option.bind_some]
 rw [hd]
 simp only [Option.bind_some, bne_self_eq_false, Bool.false_eq_true, if_false]
 by_cases he : e = 0
 · obtain ⟨b1, b2, b3⟩ := ha he
   subst he
   rw [if_neg (by simp), plain.F17_eq b2, plain.F17_eq b3]
   simp only [Option.bind_some]
   rw [b1]
   rfl
 obtain ⟨rfl, rfl⟩ := hn he
 rw [if_pos (by simpa using he)]
 rfl
end Go.Proofs.Ytiaippkjgmccoaa
