/- The law CardCourses holds: whatever the input, it returns true. Conditions: none. -/
import Derived.Test.YthpfffijnkmdgaaRows
import Derived.Test.YthpfffijnkmdgaaTs8
import Derived.Test.YthpfffijnkmdgaaTs10
import Derived.Test.YthpfffijnkmdgaaL4
import Derived.WalkKit
import Derived.ProofKit
import Derived.OpenShut
import Derived.ShutString
import Derived.ChangeOld
import Derived.Below
import Derived.Carry
import Derived.SizedLaws
namespace Go.Proofs.Ythpfffijnkmdgaa.cardCourses
open Go.ChangeShapes Go.WideShapes Go.ChangeAt Go.RowKit
set_option linter.unusedVariables false
theorem walk (p0 : List (Int × Int)) (p1 : Int) (v0 : Value) (wp0 : ∀ x ∈ p0, (Lit.int .i64 x.1).wf = true ∧ (Lit.int .i64 x.2).wf = true) (wp1 : (Lit.int .i64 p1).wf = true) (W : World) (k0 : Cl.SlOk W (List.map e55 p0) v0) : Calls Try.prog 4 #[v0, .int .i64 p1] W fun e W' => e = .returned (.bool true) ∧ Below W.heap.size W W' :=
 by
 refine Cl.lawS (args := [.slice (some ⟨0, 0, none⟩) (List.map e55 p0).length Cl.ANY, .int .i64 p1]) [(55, List.map e55 p0, v0)] ?_ (fun D β κ hv => (.cons (hv 0 _ rfl) (.cons (.int _ _) .nil))) (new := N4 0 true) ?_
 · intro x hx
   simp only [List.mem_cons, List.not_mem_nil, or_false] at hx
   rcases hx with rfl
   exact k0
 have h := C4 p0 p1 true (plain p0 p1 wp0 wp1)
 simp only [List.length_map]
 simp only [List.map_cons, List.map_nil, Cl.slBlk, List.length_map]
 exact h
theorem own : ownKnob Try.prog.godebug = none := by kernel_rfl
theorem laid : laidOutB Try.prog = true := by kernel_rfl
set_option maxRecDepth 100000 in
theorem lifted (os : Os) (started : os.Started) (H : Type) (enc : TypeId × Value → H) :
 ReturnsInHanded {} Try.checked os 4 .any (Rows.cardCoursesSpec.pre6 enc Try.prog Try.f4 Rows.cardCoursesRow.domain false) (Rows.cardCoursesSpec.post enc Try.prog Try.f4 false true false false) := by
 refine returnsInHanded_of_change_sized (C := Try.checked) own started (by kernel_rfl) Try.func4
  (ChangeSpec.witness6 (enc := enc) (C := Try.checked) false ⟨#[], #[.slice none 0 0, .int .i64 0], []⟩ 8 (by kernel_rfl) (by kernel_rfl) (by kernel_rfl) (by kernel_rfl)) ?_
 intro W base args ds gs before hval0 hW hcnd hsz0 _
 have hval : ∀ (j : Nat) t v, Try.f4.params[j]? = some t → args[j]? = some v → Value.okWide Try.prog W .any base t v := hval0
 have hW' := hW
 obtain ⟨p, q, hA0, hV, rfl, hfz, hnd⟩ := hW
 have hA : DataW.TrodAll enc Try.prog W 0 (fun _ => true) true Try.f4.params.toList args.toList ds p := hA0
 rw [Try.params4] at hA hval
 obtain ⟨v0, vs0, d0, ds0, p0_, q0_, hargs, rfl, rfl, h0, r0⟩ := trodAll_cons hA
 obtain ⟨v1, vs1, d1, ds1, p1_, q1_, rfl, rfl, rfl, h1, r1⟩ := trodAll_cons r0
 obtain ⟨rfl, rfl, rfl⟩ := trodAll_nil r1
 obtain rfl : args = #[v0, v1] := by cases args; simp_all
 obtain ⟨rfl, rfl⟩ := trodVars_none hV
 have l0 := Cl.open_leaves2 (n := 20) (show Cl.leaves2 Try.prog 20 23 = some [.list [.int .i64, .int .i64]] from by kernel_rfl) h0
 obtain ⟨R0, k0, f0⟩ := Cl.open_sl (show Try.prog.underlying 23 = some (.slice 55) from by kernel_rfl) (hval 0 23 v0 rfl rfl) l0
 obtain ⟨p0, rfl, wp0⟩ := Cl.rows_typed (enc := e55) (wf := fun x => (Lit.int .i64 x.1).wf = true ∧ (Lit.int .i64 x.2).wf = true) (fun r hr => by
  obtain ⟨a0, z0, rfl, w0, n0⟩ := Cl.lfits.consI hr
  obtain ⟨a1, z1, rfl, w1, n1⟩ := Cl.lfits.consI n0
  obtain rfl := Cl.lfits.nil n1
  exact ⟨(a0, a1), rfl, w0, w1⟩) f0
 obtain ⟨p1, e1, _, _, wp1⟩ := open_int (show Try.prog.underlying 3 = some (.int .i64) from by kernel_rfl) (hval 1 3 v1 rfl rfl) h1
 subst e1
 clear hA0 hval0 hsz0
 refine (walk p0 p1 v0 wp0 wp1 W k0).mono fun e W' ⟨he, bel⟩ => ?_
 subst he
 exact ⟨_, rfl, _, _, _, [], _, [], hW', trodAll_mk1 (shut_bool Try.underlying4 _), (trodAll_cons_mk (Below.trod laid (by kernel_rfl) (of_decide_eq_true (by kernel_rfl)) h0 bel (fun x hx => hW'.lt x (by simp [hx]))) (trodAll_cons_mk (Below.trod laid (by kernel_rfl) (of_decide_eq_true (by kernel_rfl)) h1 bel (fun x hx => hW'.lt x (by simp [hx]))) trodAll_mk0)), rfl, bel.frame _, fun h => by cases h⟩
theorem over : Rows.cardCoursesRow.holds Try.pinned (OpenSpec.ofChange Rows.cardCoursesSpec) :=
 OpenClaim.holds_of_wide 4 Try.f4 rfl rfl rfl rfl rfl rfl rfl ⟨rfl, rfl, rfl, rfl, rfl⟩ rfl rfl rfl rfl rfl (by kernel_rfl) Try.func4 (by kernel_rfl)
  (of_decide_eq_true (by kernel_rfl)) (by unfold Func.isWrapper; first | (rw [if_pos (by decide +kernel)]; kernel_rfl) | (rw [if_neg (by decide +kernel)]; exact ⟨rfl, rfl⟩))
  (fun os started H enc _ => lifted os started H enc)
theorem proved : Rows.CardCoursesSaid := over
#print axioms proved
end Go.Proofs.Ythpfffijnkmdgaa.cardCourses
namespace Go.Proofs.Ythpfffijnkmdgaa
end Go.Proofs.Ythpfffijnkmdgaa
