/- The lengths of two legs and the whole: one run for each. -/
import Derived.Test.YtfebcljpgcahbaaGreatW6
set_option linter.unusedVariables false
set_option maxRecDepth 100000
namespace Go.Proofs.YtfebcljpgcahbaaGreat.worked
open Go Go.Cl
noncomputable def env11 (x y : Nat) : Env := { env0 with sum := sumT [q18 x y] }
theorem w11_00 : says (env11 0 0) (q11 0 0) = true := by kernel_rfl
theorem w11_01 : says (env11 0 1) (q11 0 1) = true := by kernel_rfl
theorem w11_02 : says (env11 0 2) (q11 0 2) = true := by kernel_rfl
theorem w11_03 : says (env11 0 3) (q11 0 3) = true := by kernel_rfl
theorem w11_04 : says (env11 0 4) (q11 0 4) = true := by kernel_rfl
theorem w11_05 : says (env11 0 5) (q11 0 5) = true := by kernel_rfl
theorem w11_10 : says (env11 1 0) (q11 1 0) = true := by kernel_rfl
theorem w11_11 : says (env11 1 1) (q11 1 1) = true := by kernel_rfl
theorem w11_12 : says (env11 1 2) (q11 1 2) = true := by kernel_rfl
theorem w11_13 : says (env11 1 3) (q11 1 3) = true := by kernel_rfl
theorem w11_14 : says (env11 1 4) (q11 1 4) = true := by kernel_rfl
theorem w11_15 : says (env11 1 5) (q11 1 5) = true := by kernel_rfl
theorem w11_20 : says (env11 2 0) (q11 2 0) = true := by kernel_rfl
theorem w11_21 : says (env11 2 1) (q11 2 1) = true := by kernel_rfl
theorem w11_22 : says (env11 2 2) (q11 2 2) = true := by kernel_rfl
theorem w11_23 : says (env11 2 3) (q11 2 3) = true := by kernel_rfl
theorem w11_24 : says (env11 2 4) (q11 2 4) = true := by kernel_rfl
theorem w11_25 : says (env11 2 5) (q11 2 5) = true := by kernel_rfl
theorem w11_30 : says (env11 3 0) (q11 3 0) = true := by kernel_rfl
theorem w11_31 : says (env11 3 1) (q11 3 1) = true := by kernel_rfl
theorem w11_32 : says (env11 3 2) (q11 3 2) = true := by kernel_rfl
theorem w11_33 : says (env11 3 3) (q11 3 3) = true := by kernel_rfl
theorem w11_34 : says (env11 3 4) (q11 3 4) = true := by kernel_rfl
theorem w11_35 : says (env11 3 5) (q11 3 5) = true := by kernel_rfl
theorem w11_40 : says (env11 4 0) (q11 4 0) = true := by kernel_rfl
theorem w11_41 : says (env11 4 1) (q11 4 1) = true := by kernel_rfl
theorem w11_42 : says (env11 4 2) (q11 4 2) = true := by kernel_rfl
theorem w11_43 : says (env11 4 3) (q11 4 3) = true := by kernel_rfl
theorem w11_44 : says (env11 4 4) (q11 4 4) = true := by kernel_rfl
theorem w11_45 : says (env11 4 5) (q11 4 5) = true := by kernel_rfl
theorem w11_50 : says (env11 5 0) (q11 5 0) = true := by kernel_rfl
theorem w11_51 : says (env11 5 1) (q11 5 1) = true := by kernel_rfl
theorem w11_52 : says (env11 5 2) (q11 5 2) = true := by kernel_rfl
theorem w11_53 : says (env11 5 3) (q11 5 3) = true := by kernel_rfl
theorem w11_54 : says (env11 5 4) (q11 5 4) = true := by kernel_rfl
theorem w11_55 : says (env11 5 5) (q11 5 5) = true := by kernel_rfl
theorem w11 : ∀ p ∈ pairs, says (env11 p.1 p.2) (q11 p.1 p.2) = true := List.forall_mem_cons.2 ⟨w11_00, List.forall_mem_cons.2 ⟨w11_01, List.forall_mem_cons.2 ⟨w11_02, List.forall_mem_cons.2 ⟨w11_03, List.forall_mem_cons.2 ⟨w11_04, List.forall_mem_cons.2 ⟨w11_05, List.forall_mem_cons.2 ⟨w11_10, List.forall_mem_cons.2 ⟨w11_11, List.forall_mem_cons.2 ⟨w11_12, List.forall_mem_cons.2 ⟨w11_13, List.forall_mem_cons.2 ⟨w11_14, List.forall_mem_cons.2 ⟨w11_15, List.forall_mem_cons.2 ⟨w11_20, List.forall_mem_cons.2 ⟨w11_21, List.forall_mem_cons.2 ⟨w11_22, List.forall_mem_cons.2 ⟨w11_23, List.forall_mem_cons.2 ⟨w11_24, List.forall_mem_cons.2 ⟨w11_25, List.forall_mem_cons.2 ⟨w11_30, List.forall_mem_cons.2 ⟨w11_31, List.forall_mem_cons.2 ⟨w11_32, List.forall_mem_cons.2 ⟨w11_33, List.forall_mem_cons.2 ⟨w11_34, List.forall_mem_cons.2 ⟨w11_35, List.forall_mem_cons.2 ⟨w11_40, List.forall_mem_cons.2 ⟨w11_41, List.forall_mem_cons.2 ⟨w11_42, List.forall_mem_cons.2 ⟨w11_43, List.forall_mem_cons.2 ⟨w11_44, List.forall_mem_cons.2 ⟨w11_45, List.forall_mem_cons.2 ⟨w11_50, List.forall_mem_cons.2 ⟨w11_51, List.forall_mem_cons.2 ⟨w11_52, List.forall_mem_cons.2 ⟨w11_53, List.forall_mem_cons.2 ⟨w11_54, List.forall_mem_cons.2 ⟨w11_55, fun n hn => by cases hn⟩⟩⟩⟩⟩⟩⟩⟩⟩⟩⟩⟩⟩⟩⟩⟩⟩⟩⟩⟩⟩⟩⟩⟩⟩⟩⟩⟩⟩⟩⟩⟩⟩⟩⟩⟩
theorem okE (p : Nat × Nat) (hp : p ∈ pairs) : SumOk (env11 p.1 p.2) := sumT_ok rfl rfl (fun e he => by rw [List.mem_singleton.1 he]; exact ok18 p hp)
theorem ok11 : ∀ p ∈ pairs, PureSim env0.P (q11 p.1 p.2).g (q11 p.1 p.2).args (q11 p.1 p.2).h (q11 p.1 p.2).v (q11 p.1 p.2).new := fun p hp => entry_ok (E := env11 p.1 p.2) (okE p hp) mixed (w11 p hp)
end Go.Proofs.YtfebcljpgcahbaaGreat.worked
