/- The law TopRooted holds: whatever the input, it returns true. Conditions: none. -/
import Derived.Test.YtfebcljpgcahbaaGreatRows
import Derived.Test.YtfebcljpgcahbaaGreatTs8
import Derived.Test.YtfebcljpgcahbaaGreatTs10
import Derived.Test.YtfebcljpgcahbaaGreatL5
import Derived.WalkKit
import Derived.ProofKit
import Derived.OpenShut
import Derived.ShutString
import Derived.ChangeOld
import Derived.Below
import Derived.Carry
import Derived.SizedLaws
namespace Go.Proofs.YtfebcljpgcahbaaGreat.topRooted
open Go.ChangeShapes Go.WideShapes Go.ChangeAt Go.RowKit
set_option linter.unusedVariables false
theorem walk (p0 : Int) (p1 : Int)  (wp0 : (Lit.int .u8 p0).wf = true) (wp1 : (Lit.int .u8 p1).wf = true) (W : World)  : Calls Tryz.prog 5 #[.int .u8 p0, .int .u8 p1] W fun e W' => e = .returned (.bool true) ∧ Below W.heap.size W W' :=
  Cl.lawF rfl (C5 p0 p1 true (plain p0 p1 wp0 wp1)) W
theorem own : ownKnob Tryz.prog.godebug = none := by kernel_rfl
theorem laid : laidOutB Tryz.prog = true := by kernel_rfl
set_option maxRecDepth 100000 in
theorem lifted (os : Os) (started : os.Started) (H : Type) (enc : TypeId × Value → H) :
    ReturnsInHanded {} Tryz.checked os 5 .any (Rows.topRootedSpec.pre6 enc Tryz.prog Tryz.f5 Rows.topRootedRow.domain false) (Rows.topRootedSpec.post enc Tryz.prog Tryz.f5 false true false false) := by
  refine returnsInHanded_of_change_sized (C := Tryz.checked) own started (by kernel_rfl) Tryz.func5
    (ChangeSpec.witness6 (enc := enc) (C := Tryz.checked) false ⟨#[], #[.int .u8 0, .int .u8 0], []⟩ 8 (by kernel_rfl) (by kernel_rfl) (by kernel_rfl) (by kernel_rfl)) ?_
  intro W base args ds gs before hval0 hW hcnd hsz0 _
  have hval : ∀ (j : Nat) t v, Tryz.f5.params[j]? = some t → args[j]? = some v → Value.okWide Tryz.prog W .any base t v := hval0
  have hW' := hW
  obtain ⟨p, q, hA0, hV, rfl, hfz, hnd⟩ := hW
  have hA : DataW.TrodAll enc Tryz.prog W 0 (fun _ => true) true Tryz.f5.params.toList args.toList ds p := hA0
  rw [Tryz.params5] at hA hval
  obtain ⟨v0, vs0, d0, ds0, p0_, q0_, hargs, rfl, rfl, h0, r0⟩ := trodAll_cons hA
  obtain ⟨v1, vs1, d1, ds1, p1_, q1_, rfl, rfl, rfl, h1, r1⟩ := trodAll_cons r0
  obtain ⟨rfl, rfl, rfl⟩ := trodAll_nil r1
  obtain rfl : args = #[v0, v1] := by cases args; simp_all
  obtain ⟨rfl, rfl⟩ := trodVars_none hV
  obtain ⟨p0, e0, _, _, wp0⟩ := open_int (show Tryz.prog.underlying 5 = some (.int .u8) from by kernel_rfl) (hval 0 5 v0 rfl rfl) h0
  subst e0
  obtain ⟨p1, e1, _, _, wp1⟩ := open_int (show Tryz.prog.underlying 5 = some (.int .u8) from by kernel_rfl) (hval 1 5 v1 rfl rfl) h1
  subst e1
  clear hA0 hval0 hsz0
  refine (walk p0 p1  wp0 wp1 W ).mono fun e W' ⟨he, bel⟩ => ?_
  subst he
  exact ⟨_, rfl, _, _, _, [], _, [], hW', trodAll_mk1 (shut_bool Tryz.underlying4 _), (trodAll_cons_mk (Below.trod laid (by kernel_rfl) (of_decide_eq_true (by kernel_rfl)) h0 bel (fun x hx => hW'.lt x (by simp [hx]))) (trodAll_cons_mk (Below.trod laid (by kernel_rfl) (of_decide_eq_true (by kernel_rfl)) h1 bel (fun x hx => hW'.lt x (by simp [hx]))) trodAll_mk0)), rfl, bel.frame _, fun h => by cases h⟩
theorem over : Rows.topRootedRow.holds Tryz.pinned (OpenSpec.ofChange Rows.topRootedSpec) :=
  OpenClaim.holds_of_wide 5 Tryz.f5 rfl rfl rfl rfl rfl rfl rfl ⟨rfl, rfl, rfl, rfl, rfl⟩ rfl rfl rfl rfl rfl (by kernel_rfl) Tryz.func5 (by kernel_rfl)
    (of_decide_eq_true (by kernel_rfl)) (by unfold Func.isWrapper; first | (rw [if_pos (by decide +kernel)]; kernel_rfl) | (rw [if_neg (by decide +kernel)]; exact ⟨rfl, rfl⟩))
    (fun os started H enc _ => lifted os started H enc)
theorem proved : Rows.TopRootedSaid := over
#print axioms proved
end Go.Proofs.YtfebcljpgcahbaaGreat.topRooted
namespace Go.Proofs.YtfebcljpgcahbaaGreat
/-- The row, under a short name, for the claim. -/
theorem topRooted_holds : Rows.TopRootedSaid := topRooted.proved
end Go.Proofs.YtfebcljpgcahbaaGreat
