/- TopRooted: the plain law: both bytes matter modulo 6 alone. -/
import Derived.Test.YtfebcljpgcahbaaGreatG5
set_option linter.unusedVariables false
set_option maxRecDepth 100000
namespace Go.Proofs.YtfebcljpgcahbaaGreat
open Go Go.Cl
theorem six {p : Int} (h : (Lit.int .u8 p).wf = true) : ∃ x : Int, Int.tmod (w64 p) 6 = x ∧ (x = 0 ∨ x = 1 ∨ x = 2 ∨ x = 3 ∨ x = 4 ∨ x = 5) := by
  have hb : 0 ≤ p ∧ p ≤ 255 := by
    simp [Lit.wf, IntKind.signed, IntKind.bits, IntKind.min, IntKind.max] at h
    omega
  refine ⟨_, rfl, ?_⟩
  rw [w64_in (by omega) (by omega), Int.tmod_eq_emod_of_nonneg hb.1]
  omega
theorem plain (p0 p1 : Int) (wp0 : (Lit.int .u8 p0).wf = true) (wp1 : (Lit.int .u8 p1).wf = true) : F5 p0 p1 = some true := by
  obtain ⟨x, hx, cx⟩ := six wp0
  obtain ⟨y, hy, cy⟩ := six wp1
  unfold F5
  rw [hx, hy]
  clear hx hy wp0 wp1
  rcases cx with rfl | rfl | rfl | rfl | rfl | rfl <;> rcases cy with rfl | rfl | rfl | rfl | rfl | rfl <;> kernel_rfl
end Go.Proofs.YtfebcljpgcahbaaGreat
