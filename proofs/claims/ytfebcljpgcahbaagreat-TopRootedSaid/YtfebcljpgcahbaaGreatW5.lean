/- Counts and signs: one run for each. -/
import Derived.Test.YtfebcljpgcahbaaGreatW3
set_option linter.unusedVariables false
set_option maxRecDepth 100000
namespace Go.Proofs.YtfebcljpgcahbaaGreat.worked
open Go Go.Cl
def m10 : Cl.Entry := ⟨10, [], [], .bool true, []⟩
noncomputable def envM : Env := { env0 with sum := sumT [m10] }
theorem okM : SumOk envM := sumT_ok rfl rfl (fun e he => by rw [List.mem_singleton.1 he]; exact mined_ok)
def m17 : Cl.Entry := ⟨17, [], [], .bool true, []⟩
theorem w17 : says envM m17 = true := by kernel_rfl
theorem rooted_ok : PureSim env0.P 17 [] [] (.bool true) [] := entry_ok okM mixed w17
theorem w22_1 : says envS (q22 1) = true := by kernel_rfl
theorem w22_2 : says envS (q22 2) = true := by kernel_rfl
theorem w22_4 : says envS (q22 4) = true := by kernel_rfl
theorem w22_5 : says envS (q22 5) = true := by kernel_rfl
theorem w22_8 : says envS (q22 8) = true := by kernel_rfl
theorem w22_9 : says envS (q22 9) = true := by kernel_rfl
theorem w22_10 : says envS (q22 10) = true := by kernel_rfl
theorem w22_13 : says envS (q22 13) = true := by kernel_rfl
theorem w22_16 : says envS (q22 16) = true := by kernel_rfl
theorem w22_17 : says envS (q22 17) = true := by kernel_rfl
theorem w22_18 : says envS (q22 18) = true := by kernel_rfl
theorem w22_20 : says envS (q22 20) = true := by kernel_rfl
theorem w22_25 : says envS (q22 25) = true := by kernel_rfl
theorem w22_26 : says envS (q22 26) = true := by kernel_rfl
theorem w22_29 : says envS (q22 29) = true := by kernel_rfl
theorem w22_32 : says envS (q22 32) = true := by kernel_rfl
theorem w22_34 : says envS (q22 34) = true := by kernel_rfl
theorem w22_41 : says envS (q22 41) = true := by kernel_rfl
theorem w22_50 : says envS (q22 50) = true := by kernel_rfl
theorem w22 : ∀ n ∈ Ns, says envS (q22 n) = true := List.forall_mem_cons.2 ⟨w22_1, List.forall_mem_cons.2 ⟨w22_2, List.forall_mem_cons.2 ⟨w22_4, List.forall_mem_cons.2 ⟨w22_5, List.forall_mem_cons.2 ⟨w22_8, List.forall_mem_cons.2 ⟨w22_9, List.forall_mem_cons.2 ⟨w22_10, List.forall_mem_cons.2 ⟨w22_13, List.forall_mem_cons.2 ⟨w22_16, List.forall_mem_cons.2 ⟨w22_17, List.forall_mem_cons.2 ⟨w22_18, List.forall_mem_cons.2 ⟨w22_20, List.forall_mem_cons.2 ⟨w22_25, List.forall_mem_cons.2 ⟨w22_26, List.forall_mem_cons.2 ⟨w22_29, List.forall_mem_cons.2 ⟨w22_32, List.forall_mem_cons.2 ⟨w22_34, List.forall_mem_cons.2 ⟨w22_41, List.forall_mem_cons.2 ⟨w22_50, fun n hn => by cases hn⟩⟩⟩⟩⟩⟩⟩⟩⟩⟩⟩⟩⟩⟩⟩⟩⟩⟩⟩
theorem w20 : ∀ n ∈ Ns, says envS (q20 n) = true := List.all_eq_true.1 (by kernel_rfl : (Ns.all fun n => says envS (q20 n)) = true)
theorem w21 : ∀ n ∈ Ns, (says envS (q21 n (flo 1 n)) && says envS (q21 n (ceil 1 n))) = true := List.all_eq_true.1 (by kernel_rfl : (Ns.all fun n => says envS (q21 n (flo 1 n)) && says envS (q21 n (ceil 1 n))) = true)
end Go.Proofs.YtfebcljpgcahbaaGreat.worked
