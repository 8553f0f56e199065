/- Roots of x x less a number: one run for each. -/
import Derived.Test.YtfebcljpgcahbaaGreatW3
set_option linter.unusedVariables false
set_option maxRecDepth 100000
namespace Go.Proofs.YtfebcljpgcahbaaGreat.worked
open Go Go.Cl
theorem w19_1 : says envS (q19 1) = true := by kernel_rfl
theorem w19_2 : says envS (q19 2) = true := by kernel_rfl
theorem w19_4 : says envS (q19 4) = true := by kernel_rfl
theorem w19_5 : says envS (q19 5) = true := by kernel_rfl
theorem w19_8 : says envS (q19 8) = true := by kernel_rfl
theorem w19_9 : says envS (q19 9) = true := by kernel_rfl
theorem w19_10 : says envS (q19 10) = true := by kernel_rfl
theorem w19_13 : says envS (q19 13) = true := by kernel_rfl
theorem w19_16 : says envS (q19 16) = true := by kernel_rfl
theorem w19_17 : says envS (q19 17) = true := by kernel_rfl
theorem w19_18 : says envS (q19 18) = true := by kernel_rfl
theorem w19_20 : says envS (q19 20) = true := by kernel_rfl
theorem w19_25 : says envS (q19 25) = true := by kernel_rfl
theorem w19_26 : says envS (q19 26) = true := by kernel_rfl
theorem w19_29 : says envS (q19 29) = true := by kernel_rfl
theorem w19_32 : says envS (q19 32) = true := by kernel_rfl
theorem w19_34 : says envS (q19 34) = true := by kernel_rfl
theorem w19_41 : says envS (q19 41) = true := by kernel_rfl
theorem w19_50 : says envS (q19 50) = true := by kernel_rfl
theorem w19 : ∀ n ∈ Ns, says envS (q19 n) = true := List.forall_mem_cons.2 ⟨w19_1, List.forall_mem_cons.2 ⟨w19_2, List.forall_mem_cons.2 ⟨w19_4, List.forall_mem_cons.2 ⟨w19_5, List.forall_mem_cons.2 ⟨w19_8, List.forall_mem_cons.2 ⟨w19_9, List.forall_mem_cons.2 ⟨w19_10, List.forall_mem_cons.2 ⟨w19_13, List.forall_mem_cons.2 ⟨w19_16, List.forall_mem_cons.2 ⟨w19_17, List.forall_mem_cons.2 ⟨w19_18, List.forall_mem_cons.2 ⟨w19_20, List.forall_mem_cons.2 ⟨w19_25, List.forall_mem_cons.2 ⟨w19_26, List.forall_mem_cons.2 ⟨w19_29, List.forall_mem_cons.2 ⟨w19_32, List.forall_mem_cons.2 ⟨w19_34, List.forall_mem_cons.2 ⟨w19_41, List.forall_mem_cons.2 ⟨w19_50, fun n hn => by cases hn⟩⟩⟩⟩⟩⟩⟩⟩⟩⟩⟩⟩⟩⟩⟩⟩⟩⟩⟩
end Go.Proofs.YtfebcljpgcahbaaGreat.worked
