/- KeysChains: the plain law. -/
import Derived.Test.YtiaippkjgmccoaaLK5
import Derived.Test.YtiaippkjgmccoaaG4
set_option linter.unusedVariables false
namespace Go.Proofs.Ytiaippkjgmccoaa
open Go Go.Cl
theorem plain (p0 : Int) (p1 : List ((Int × Bool) × (Int × Bool))) (p2 : Int) (p3 : Bool) (p4 : Int) (p5 : Bool) (p6 : List (Int × Bool)) (wp0 : (Lit.int .i64 p0).wf = true) (wp1 : ∀ x ∈ p1, (Lit.int .i64 x.1.1).wf = true ∧ (Lit.int .i64 x.2.1).wf = true) (wp2 : (Lit.int .i64 p2).wf = true) (wp4 : (Lit.int .i64 p4).wf = true) (wp6 : ∀ x ∈ p6, (Lit.int .i64 x.1).wf = true) : F4 p0 p1 p2 p3 p4 p5 p6 = some true := by
 unfold F4
 by_cases h1 : (p1.length : Int) > 100
 · rw [decide_eq_true h1]; rfl
 rw [decide_eq_false h1]
 by_cases h2 : (p6.length : Int) > 120
 · rw [decide_eq_true h2]; rfl
 rw [decide_eq_false h2]
 have q1 : p1.length ≤ 1000 := by omega
 have q6 : p6.length ≤ 1000 := by omega
 obtain ⟨a, e, n, f, g, hn, ha⟩ := plain.chain_eq (T := p0) q1 (p2, p3) (p4, p5)
 dsimp only at f g
 simp only [Option.bind_eq_bind, Option.bind_some, Bool.false_eq_true, if_false]
 rw [plain.F16_eq q1, f]
 simp only [Option.bind_some]
 rw [g, plain.F30_eq q1 q6, plain.F17_eq q6]
 simp only [Option.bind_some, hn]
 rw [plain.F31_eq q1 q6]
 simp only [Option.bind_some, bne_self_eq_false, Bool.false_eq_true, if_false]
 by_cases he : e = 0
 · obtain ⟨b1, b2, b3, b4, b5⟩ := ha he
   subst he
   rw [if_neg (by simp), if_pos ⟨by omega, by omega⟩]
   have w : w64 (n - 1) = ((a.length - 1 : Nat) : Int) := by rw [w64_in (by omega) (by omega)]; omega
   have e0 : List.getD a (Int.toNat 0) (0, false) = (p2, p3) := b3
   have e1 : List.getD a (Int.toNat (w64 (n - 1))) (0, false) = (p4, p5) := by rw [w]; exact b4
   simp only [e0, e1, beq_self_eq_true, Bool.and_self, if_true]
   rw [if_pos ⟨by omega, by omega⟩, plain.F17_eq (by omega)]
   simp only [Option.bind_some]
   rw [plain.F31_eq q1 (by omega), b5]
   rfl
 rw [if_pos (by simpa using he)]
 rfl
end Go.Proofs.Ytiaippkjgmccoaa
