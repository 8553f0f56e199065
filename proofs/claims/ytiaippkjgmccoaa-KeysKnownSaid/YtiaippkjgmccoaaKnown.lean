/- The law KeysKnown holds: it returns true (it takes no input). Conditions: none. -/
import Derived.Test.YtiaippkjgmccoaaRows
import Derived.Test.YtiaippkjgmccoaaCl28
import Derived.Test.YtiaippkjgmccoaaWorked
import Derived.WalkKit
import Derived.ProofKit
import Derived.OpenShut
import Derived.ShutString
import Derived.ChangeOld
import Derived.Below
import Derived.SizedLaws
namespace Go.Proofs.Ytiaippkjgmccoaa.keysKnown
open Go.ChangeShapes Go.WideShapes Go.ChangeAt Go.RowKit
set_option linter.unusedVariables false
def e_w : Cl.Entry := ⟨15, [], [], .bool true, []⟩
def all : List Cl.Entry := e_w :: worked.table2
theorem all_true : ∀ e ∈ all, Cl.PureSim worked.env0.P e.g e.args e.h e.v e.new := by
  intro e he
  simp only [all, List.mem_cons] at he
  rcases he with rfl | he
  · exact worked.works
  · exact worked.true_table2 e he
noncomputable def env : Cl.Env := { worked.env0 with sum := Cl.tableSumR all }
theorem sumOk : Cl.SumOk env := Cl.tableR_okI rfl all_true worked.told
theorem ran : Cl.saysTrue ((Cl.run env 3000).pcall 14 [] []) = true := by kernel_rfl
theorem mixed : env.P.follows .mixedOrders = true := worked.mixed
theorem walk (W : World) : Calls Try.prog 14 #[] W fun e W' => e = .returned (.bool true) ∧ Below W.heap.size W W' :=
  Cl.law0 sumOk mixed ran W
theorem own : ownKnob Try.prog.godebug = none := by kernel_rfl
set_option maxRecDepth 100000 in
theorem lifted (os : Os) (started : os.Started) (H : Type) (enc : TypeId × Value → H) :
    ReturnsInHanded {} Try.checked os 14 .any (Rows.keysKnownSpec.pre6 enc Try.prog Try.f14 Rows.keysKnownRow.domain false) (Rows.keysKnownSpec.post enc Try.prog Try.f14 false true false false) := by
  refine returnsInHanded_of_change_sized (C := Try.checked) own started (by kernel_rfl) Try.func14
    (ChangeSpec.witness6 (enc := enc) (C := Try.checked) false ⟨#[], #[], []⟩ 8 (by kernel_rfl) (by kernel_rfl) (by kernel_rfl) (by kernel_rfl)) ?_
  intro W base args ds gs before hval0 hW hcnd hsz0 _
  have hW' := hW
  obtain ⟨p, q, hA0, hV, rfl, hfz, hnd⟩ := hW
  have hA : DataW.TrodAll enc Try.prog W 0 (fun _ => true) true Try.f14.params.toList args.toList ds p := hA0
  rw [Try.params14] at hA
  obtain ⟨rfl, rfl, rfl⟩ := trodAll_none hA
  obtain ⟨rfl, rfl⟩ := trodVars_none hV
  clear hA0 hval0 hsz0
  refine (walk W).mono fun e W' ⟨he, bel⟩ => ?_
  subst he
  exact ⟨_, rfl, _, _, _, [], _, [], hW', trodAll_mk1 (shut_bool Try.underlying4 _), trodAll_mk0, rfl, bel.frame _, fun h => by cases h⟩
theorem over : Rows.keysKnownRow.holds Try.pinned (OpenSpec.ofChange Rows.keysKnownSpec) :=
  OpenClaim.holds_of_wide 14 Try.f14 rfl rfl rfl rfl rfl rfl rfl ⟨rfl, rfl, rfl, rfl, rfl⟩ rfl rfl rfl rfl rfl (by kernel_rfl) Try.func14 (by kernel_rfl)
    (of_decide_eq_true (by kernel_rfl)) (by unfold Func.isWrapper; first | (rw [if_pos (by decide +kernel)]; kernel_rfl) | (rw [if_neg (by decide +kernel)]; exact ⟨rfl, rfl⟩))
    (fun os started H enc _ => lifted os started H enc)
theorem proved : Rows.KeysKnownSaid := over
#print axioms proved
end Go.Proofs.Ytiaippkjgmccoaa.keysKnown
namespace Go.Proofs.Ytiaippkjgmccoaa
/-- The row, under a short name, for the claim. -/
theorem keysKnown_holds : Rows.KeysKnownSaid := keysKnown.proved
end Go.Proofs.Ytiaippkjgmccoaa
