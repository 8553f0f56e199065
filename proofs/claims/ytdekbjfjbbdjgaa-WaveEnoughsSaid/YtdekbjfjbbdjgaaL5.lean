/- The plain law of WaveEnoughs: what the functions compute, in plain Lean. -/
import Derived.Test.YtdekbjfjbbdjgaaG5
set_option linter.unusedVariables false
set_option linter.unusedSimpArgs false
set_option maxHeartbeats 4000000
namespace Go.Proofs.Ytdekbjfjbbdjgaa
open Go Go.Cl
theorem F30l0_fix (p0 : Int) (p1 : Int) (v8 : Int) (v9 : Int) : F30l0 p0 p1 v8 v9 = (
    if decide (v9 > 0) then
      if v9 = 0 then none else
      F30l0 p0 p1 v9 (Int.tmod v8 v9)
    else
      some v8
    : Option Int) := by
  delta F30l0
  conv => lhs; rw [Lean.Order.fix_eq]
theorem F31l0_fix (p0 : Int) (p1 : Int) (v8 : Int) (v9 : Int) : F31l0 p0 p1 v8 v9 = (
    if decide (v9 > 0) then
      if v9 = 0 then none else
      F31l0 p0 p1 v9 (Int.tmod v8 v9)
    else
      some v8
    : Option Int) := by
  delta F31l0
  conv => lhs; rw [Lean.Order.fix_eq]
theorem F51_eq (a b c : Int) : F51 a b c = some (decide (a ≤ b ∧ b ≤ c)) := by
  unfold F51
  by_cases h : a ≤ b <;> simp [h]
theorem F52_eq (a b c : Int) : F52 a b c = some (decide (b ≤ a ∧ a ≤ c)) := by
  unfold F52
  by_cases h : b ≤ a <;> simp [h]
/-- Both loops end, with the same number. -/
theorem gcd_same (p0 p1 : Int) : ∀ (m : Nat) (v8 v9 : Int), v9.toNat < m → ∃ r, F30l0 p0 p1 v8 v9 = some r ∧ F31l0 p0 p1 v8 v9 = some r := by
  intro m
  induction m with
  | zero => intro v8 v9 h; omega
  | succ m ih =>
    intro v8 v9 h
    rw [F30l0_fix, F31l0_fix]
    by_cases h9 : v9 > 0
    · have h0 : ¬ v9 = 0 := by omega
      have hlt := Int.tmod_lt_of_pos v8 h9
      simp only [h9, decide_true, if_true, h0, if_false]
      exact ih v9 (Int.tmod v8 v9) (by omega)
    · simp only [h9, decide_false, Bool.false_eq_true, if_false]
      exact ⟨_, rfl, rfl⟩
end Go.Proofs.Ytdekbjfjbbdjgaa
namespace Go.Proofs.Ytdekbjfjbbdjgaa.waveEnoughs
open Go Go.Cl
theorem plain (p0 p1 : Int) (w0 : (Lit.int .i64 p0).wf = true) (w1 : (Lit.int .i64 p1).wf = true) : F5 p0 p1 = some true := by
  unfold F5 F30 F31
  obtain ⟨r, h1, h2⟩ := gcd_same p0 p1 (p1.toNat + 1) p0 p1 (Nat.lt_succ_self _)
  simp only [F51_eq, F52_eq, Option.bind_eq_bind, Option.bind_some, h1, h2]
  by_cases a : (1 ≤ p0 ∧ p0 ≤ 30)
  · by_cases b : (1 ≤ p1 ∧ p1 ≤ 30)
    · simp [a, b, F14]
    · simp [a, b, F14]
  · simp [a, F14]
end Go.Proofs.Ytdekbjfjbbdjgaa.waveEnoughs
