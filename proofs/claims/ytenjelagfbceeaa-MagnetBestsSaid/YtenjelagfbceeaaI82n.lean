/- Sorting no choices: the nil slice. Sorting keeps the number. -/
import Derived.Test.YtenjelagfbceeaaI82
import Derived.KernelRfl
set_option maxRecDepth 100000
set_option linter.unusedVariables false
namespace Go.Proofs.Ytenjelagfbceeaa
open Go Go.Cl
theorem C82nil : PureSim Try.prog 82 [.slice none 0 0, .func (.func 83) ⟨[]⟩ ⟨[]⟩] [] (.tuple #[]) [] :=
  answer (E := env82) (Cl.sumOk_none fun _ => rfl) mixed (n := 3000) (by kernel_rfl)
theorem len89l1 (p1 p2 a b : Int) (v r : List (Int × Int)) (h : F89l1 p1 p2 a b v = some r) : r.length = v.length := by
  refine F89l1.partial_correctness p1 p2 a (motive := fun b v r => r.length = v.length) ?_ b v r h
  intro f ih b v r hF
  obtain ⟨m, hm, hF⟩ := of_do hF
  split at hF
  · split at hF
    · obtain ⟨o1, _, hF⟩ := of_do hF
      split at hF
      · obtain ⟨o2, _, hF⟩ := of_do hF
        have := ih _ _ _ hF
        simpa using this
      · cases hF
    · cases hF
  · cases hF
    rfl
theorem len89l0 (p1 p2 a : Int) (v r : List (Int × Int)) (h : F89l0 p1 p2 a v = some r) : r.length = v.length := by
  refine F89l0.partial_correctness p1 p2 (motive := fun a v r => r.length = v.length) ?_ a v r h
  intro f ih a v r hF
  split at hF
  · obtain ⟨m, hm, hF⟩ := of_do hF
    rw [ih _ _ _ hF, len89l1 _ _ _ _ _ _ hm]
  · cases hF
    rfl
theorem len89 (p1 p2 : Int) (v r : List (Int × Int)) (h : F89 v p1 p2 = some r) : r.length = v.length := by
  unfold F89 at h
  obtain ⟨m, hm, h⟩ := of_do h
  cases h
  exact len89l0 _ _ _ _ _ hm
end Go.Proofs.Ytenjelagfbceeaa
