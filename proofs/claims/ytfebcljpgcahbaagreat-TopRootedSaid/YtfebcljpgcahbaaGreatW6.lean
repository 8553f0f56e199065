/- The squares of two legs: one run for each. -/
import Derived.Test.YtfebcljpgcahbaaGreatW3
set_option linter.unusedVariables false
set_option maxRecDepth 100000
namespace Go.Proofs.YtfebcljpgcahbaaGreat.worked
open Go Go.Cl
def pairs : List (Nat × Nat) := [(0, 0), (0, 1), (0, 2), (0, 3), (0, 4), (0, 5), (1, 0), (1, 1), (1, 2), (1, 3), (1, 4), (1, 5), (2, 0), (2, 1), (2, 2), (2, 3), (2, 4), (2, 5), (3, 0), (3, 1), (3, 2), (3, 3), (3, 4), (3, 5), (4, 0), (4, 1), (4, 2), (4, 3), (4, 4), (4, 5), (5, 0), (5, 1), (5, 2), (5, 3), (5, 4), (5, 5)]
theorem w18_00 : says envS (q18 0 0) = true := by kernel_rfl
theorem w18_01 : says envS (q18 0 1) = true := by kernel_rfl
theorem w18_02 : says envS (q18 0 2) = true := by kernel_rfl
theorem w18_03 : says envS (q18 0 3) = true := by kernel_rfl
theorem w18_04 : says envS (q18 0 4) = true := by kernel_rfl
theorem w18_05 : says envS (q18 0 5) = true := by kernel_rfl
theorem w18_10 : says envS (q18 1 0) = true := by kernel_rfl
theorem w18_11 : says envS (q18 1 1) = true := by kernel_rfl
theorem w18_12 : says envS (q18 1 2) = true := by kernel_rfl
theorem w18_13 : says envS (q18 1 3) = true := by kernel_rfl
theorem w18_14 : says envS (q18 1 4) = true := by kernel_rfl
theorem w18_15 : says envS (q18 1 5) = true := by kernel_rfl
theorem w18_20 : says envS (q18 2 0) = true := by kernel_rfl
theorem w18_21 : says envS (q18 2 1) = true := by kernel_rfl
theorem w18_22 : says envS (q18 2 2) = true := by kernel_rfl
theorem w18_23 : says envS (q18 2 3) = true := by kernel_rfl
theorem w18_24 : says envS (q18 2 4) = true := by kernel_rfl
theorem w18_25 : says envS (q18 2 5) = true := by kernel_rfl
theorem w18_30 : says envS (q18 3 0) = true := by kernel_rfl
theorem w18_31 : says envS (q18 3 1) = true := by kernel_rfl
theorem w18_32 : says envS (q18 3 2) = true := by kernel_rfl
theorem w18_33 : says envS (q18 3 3) = true := by kernel_rfl
theorem w18_34 : says envS (q18 3 4) = true := by kernel_rfl
theorem w18_35 : says envS (q18 3 5) = true := by kernel_rfl
theorem w18_40 : says envS (q18 4 0) = true := by kernel_rfl
theorem w18_41 : says envS (q18 4 1) = true := by kernel_rfl
theorem w18_42 : says envS (q18 4 2) = true := by kernel_rfl
theorem w18_43 : says envS (q18 4 3) = true := by kernel_rfl
theorem w18_44 : says envS (q18 4 4) = true := by kernel_rfl
theorem w18_45 : says envS (q18 4 5) = true := by kernel_rfl
theorem w18_50 : says envS (q18 5 0) = true := by kernel_rfl
theorem w18_51 : says envS (q18 5 1) = true := by kernel_rfl
theorem w18_52 : says envS (q18 5 2) = true := by kernel_rfl
theorem w18_53 : says envS (q18 5 3) = true := by kernel_rfl
theorem w18_54 : says envS (q18 5 4) = true := by kernel_rfl
theorem w18_55 : says envS (q18 5 5) = true := by kernel_rfl
theorem w18 : ∀ p ∈ pairs, says envS (q18 p.1 p.2) = true := List.forall_mem_cons.2 ⟨w18_00, List.forall_mem_cons.2 ⟨w18_01, List.forall_mem_cons.2 ⟨w18_02, List.forall_mem_cons.2 ⟨w18_03, List.forall_mem_cons.2 ⟨w18_04, List.forall_mem_cons.2 ⟨w18_05, List.forall_mem_cons.2 ⟨w18_10, List.forall_mem_cons.2 ⟨w18_11, List.forall_mem_cons.2 ⟨w18_12, List.forall_mem_cons.2 ⟨w18_13, List.forall_mem_cons.2 ⟨w18_14, List.forall_mem_cons.2 ⟨w18_15, List.forall_mem_cons.2 ⟨w18_20, List.forall_mem_cons.2 ⟨w18_21, List.forall_mem_cons.2 ⟨w18_22, List.forall_mem_cons.2 ⟨w18_23, List.forall_mem_cons.2 ⟨w18_24, List.forall_mem_cons.2 ⟨w18_25, List.forall_mem_cons.2 ⟨w18_30, List.forall_mem_cons.2 ⟨w18_31, List.forall_mem_cons.2 ⟨w18_32, List.forall_mem_cons.2 ⟨w18_33, List.forall_mem_cons.2 ⟨w18_34, List.forall_mem_cons.2 ⟨w18_35, List.forall_mem_cons.2 ⟨w18_40, List.forall_mem_cons.2 ⟨w18_41, List.forall_mem_cons.2 ⟨w18_42, List.forall_mem_cons.2 ⟨w18_43, List.forall_mem_cons.2 ⟨w18_44, List.forall_mem_cons.2 ⟨w18_45, List.forall_mem_cons.2 ⟨w18_50, List.forall_mem_cons.2 ⟨w18_51, List.forall_mem_cons.2 ⟨w18_52, List.forall_mem_cons.2 ⟨w18_53, List.forall_mem_cons.2 ⟨w18_54, List.forall_mem_cons.2 ⟨w18_55, fun n hn => by cases hn⟩⟩⟩⟩⟩⟩⟩⟩⟩⟩⟩⟩⟩⟩⟩⟩⟩⟩⟩⟩⟩⟩⟩⟩⟩⟩⟩⟩⟩⟩⟩⟩⟩⟩⟩⟩
theorem ok18 : ∀ p ∈ pairs, PureSim env0.P (q18 p.1 p.2).g (q18 p.1 p.2).args (q18 p.1 p.2).h (q18 p.1 p.2).v (q18 p.1 p.2).new := fun p hp => entry_ok okS mixed (w18 p hp)
end Go.Proofs.YtfebcljpgcahbaaGreat.worked
