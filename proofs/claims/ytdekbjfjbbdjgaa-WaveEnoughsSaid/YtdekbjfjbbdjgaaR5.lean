/- The law WaveEnoughs holds: whatever the input, it returns true. Conditions: none. -/
import Derived.Test.YtdekbjfjbbdjgaaRows
import Derived.Test.YtdekbjfjbbdjgaaTs8
import Derived.Test.YtdekbjfjbbdjgaaL5
import Derived.WalkKit
import Derived.ProofKit
import Derived.OpenShut
import Derived.ShutString
import Derived.ChangeOld
import Derived.Below
import Derived.Carry
import Derived.SizedLaws
namespace Go.Proofs.Ytdekbjfjbbdjgaa.waveEnoughs
open Go.ChangeShapes Go.WideShapes Go.ChangeAt Go.RowKit
set_option linter.unusedVariables false
theorem walk (p0 : Int) (p1 : Int) (wp0 : (Lit.int .i64 p0).wf = true) (wp1 : (Lit.int .i64 p1).wf = true) (W : World) : Calls Try.prog 5 #[.int .i64 p0, .int .i64 p1] W fun e W' => e = .returned (.bool true) ∧ Below W.heap.size W W' :=
  Cl.lawF rfl (C5 p0 p1 true (plain p0 p1 wp0 wp1)) W
theorem own : ownKnob Try.prog.godebug = none := by kernel_rfl
theorem laid : laidOutB Try.prog = true := by kernel_rfl
set_option maxRecDepth 100000 in
theorem lifted (os : Os) (started : os.Started) (H : Type) (enc : TypeId × Value → H) :
    ReturnsInHanded {} Try.checked os 5 .any (Rows.waveEnoughsSpec.pre6 enc Try.prog Try.f5 Rows.waveEnoughsRow.domain false) (Rows.waveEnoughsSpec.post enc Try.prog Try.f5 false true false false) := by
  refine returnsInHanded_of_change_sized (C := Try.checked) own started (by kernel_rfl) Try.func5
    (ChangeSpec.witness6 (enc := enc) (C := Try.checked) false ⟨#[], #[.int .i64 0, .int .i64 0], []⟩ 8 (by kernel_rfl) (by kernel_rfl) (by kernel_rfl) (by kernel_rfl)) ?_
  intro W base args ds gs before hval0 hW hcnd hsz0 _
  have hval : ∀ (j : Nat) t v, Try.f5.params[j]? = some t → args[j]? = some v → Value.okWide Try.prog W .any base t v := hval0
  have hW' := hW
  obtain ⟨p, q, hA0, hV, rfl, hfz, hnd⟩ := hW
  have hA : DataW.TrodAll enc Try.prog W 0 (fun _ => true) true Try.f5.params.toList args.toList ds p := hA0
  rw [Try.params5] at hA hval
  obtain ⟨v0, vs0, d0, ds0, p0_, q0_, hargs, rfl, rfl, h0, r0⟩ := trodAll_cons hA
  obtain ⟨v1, vs1, d1, ds1, p1_, q1_, rfl, rfl, rfl, h1, r1⟩ := trodAll_cons r0
  obtain ⟨rfl, rfl, rfl⟩ := trodAll_nil r1
  obtain rfl : args = #[v0, v1] := by cases args; simp_all
  obtain ⟨rfl, rfl⟩ := trodVars_none hV
  obtain ⟨p0, e0, _, _, wp0⟩ := open_int (show Try.prog.underlying 3 = some (.int .i64) from by kernel_rfl) (hval 0 3 v0 rfl rfl) h0
  subst e0
  obtain ⟨p1, e1, _, _, wp1⟩ := open_int (show Try.prog.underlying 3 = some (.int .i64) from by kernel_rfl) (hval 1 3 v1 rfl rfl) h1
  subst e1
  clear hA0 hval0 hsz0
  refine (walk p0 p1 wp0 wp1 W).mono fun e W' ⟨he, bel⟩ => ?_
  subst he
  exact ⟨_, rfl, _, _, _, [], _, [], hW', trodAll_mk1 (shut_bool Try.underlying4 _), (trodAll_cons_mk (Below.trod laid (by kernel_rfl) (of_decide_eq_true (by kernel_rfl)) h0 bel (fun x hx => hW'.lt x (by simp [hx]))) (trodAll_cons_mk (Below.trod laid (by kernel_rfl) (of_decide_eq_true (by kernel_rfl)) h1 bel (fun x hx => hW'.lt x (by simp [hx]))) trodAll_mk0)), rfl, bel.frame _, fun h => by cases h⟩
theorem over : Rows.waveEnoughsRow.holds Try.pinned (OpenSpec.ofChange Rows.waveEnoughsSpec) :=
  OpenClaim.holds_of_wide 5 Try.f5 rfl rfl rfl rfl rfl rfl rfl ⟨rfl, rfl, rfl, rfl, rfl⟩ rfl rfl rfl rfl rfl (by kernel_rfl) Try.func5 (by kernel_rfl)
    (of_decide_eq_true (by kernel_rfl)) (by unfold Func.isWrapper; first | (rw [if_pos (by decide +kernel)]; kernel_rfl) | (rw [if_neg (by decide +kernel)]; exact ⟨rfl, rfl⟩))
    (fun os started H enc _ => lifted os started H enc)
theorem proved : Rows.WaveEnoughsSaid := over
#print axioms proved
end Go.Proofs.Ytdekbjfjbbdjgaa.waveEnoughs
namespace Go.Proofs.Ytdekbjfjbbdjgaa
/-- The row, under a short name, for the claim. -/
theorem waveEnoughs_holds : Rows.WaveEnoughsSaid := waveEnoughs.proved
end Go.Proofs.Ytdekbjfjbbdjgaa
