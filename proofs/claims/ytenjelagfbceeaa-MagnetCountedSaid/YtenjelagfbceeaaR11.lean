/- The law MagnetCounted holds: whatever the input, it returns true. Conditions: none. -/
import Derived.Test.YtenjelagfbceeaaRows
import Derived.Test.YtenjelagfbceeaaTs8
import Derived.Test.YtenjelagfbceeaaL11
import Derived.WalkKit
import Derived.ProofKit
import Derived.OpenShut
import Derived.ShutString
import Derived.ChangeOld
import Derived.Below
import Derived.Carry
import Derived.SizedLaws
namespace Go.Proofs.Ytenjelagfbceeaa.magnetCounted
open Go.ChangeShapes Go.WideShapes Go.ChangeAt Go.RowKit
set_option linter.unusedVariables false
theorem walk (p0 : Int) (p1 : Int) (p2 : Int) (p3 : Int) (p4 : Int) (p5 : Int) (p6 : Int) (p7 : Int) (wp0 : (Lit.int .i8 p0).wf = true) (wp1 : (Lit.int .i8 p1).wf = true) (wp2 : (Lit.int .i8 p2).wf = true) (wp3 : (Lit.int .i8 p3).wf = true) (wp4 : (Lit.int .i16 p4).wf = true) (wp5 : (Lit.int .i16 p5).wf = true) (wp6 : (Lit.int .u8 p6).wf = true) (wp7 : (Lit.int .u8 p7).wf = true) (W : World) : Calls Try.prog 11 #[.agg ⟨[.int .i8 p0, .int .i8 p1, .int .i8 p2, .int .i8 p3, .int .i16 p4, .int .i16 p5]⟩, .int .u8 p6, .int .u8 p7] W fun e W' => e = .returned (.bool true) ∧ Below W.heap.size W W' :=
  Cl.lawF rfl (C11 p0 p1 p2 p3 p4 p5 p6 p7 true (plain p0 p1 p2 p3 p4 p5 p6 p7 wp0 wp1 wp2 wp3 wp4 wp5 wp6 wp7)) W
theorem own : ownKnob Try.prog.godebug = none := by kernel_rfl
theorem laid : laidOutB Try.prog = true := by kernel_rfl
set_option maxRecDepth 100000 in
theorem lifted (os : Os) (started : os.Started) (H : Type) (enc : TypeId × Value → H) :
    ReturnsInHanded {} Try.checked os 11 .any (Rows.magnetCountedSpec.pre6 enc Try.prog Try.f11 Rows.magnetCountedRow.domain false) (Rows.magnetCountedSpec.post enc Try.prog Try.f11 false true false false) := by
  refine returnsInHanded_of_change_sized (C := Try.checked) own started (by kernel_rfl) Try.func11
    (ChangeSpec.witness6 (enc := enc) (C := Try.checked) false ⟨#[], #[.agg ⟨[.int .i8 0, .int .i8 0, .int .i8 0, .int .i8 0, .int .i16 0, .int .i16 0]⟩, .int .u8 0, .int .u8 0], []⟩ 8 (by kernel_rfl) (by kernel_rfl) (by kernel_rfl) (by kernel_rfl)) ?_
  intro W base args ds gs before hval0 hW hcnd hsz0 _
  have hval : ∀ (j : Nat) t v, Try.f11.params[j]? = some t → args[j]? = some v → Value.okWide Try.prog W .any base t v := hval0
  have hW' := hW
  obtain ⟨p, q, hA0, hV, rfl, hfz, hnd⟩ := hW
  have hA : DataW.TrodAll enc Try.prog W 0 (fun _ => true) true Try.f11.params.toList args.toList ds p := hA0
  rw [Try.params11] at hA hval
  obtain ⟨v0, vs0, d0, ds0, p0_, q0_, hargs, rfl, rfl, h0, r0⟩ := trodAll_cons hA
  obtain ⟨v1, vs1, d1, ds1, p1_, q1_, rfl, rfl, rfl, h1, r1⟩ := trodAll_cons r0
  obtain ⟨v2, vs2, d2, ds2, p2_, q2_, rfl, rfl, rfl, h2, r2⟩ := trodAll_cons r1
  obtain ⟨rfl, rfl, rfl⟩ := trodAll_nil r2
  obtain rfl : args = #[v0, v1, v2] := by cases args; simp_all
  obtain ⟨rfl, rfl⟩ := trodVars_none hV
  have l0 := Cl.open_leaves (n := 20) (show Cl.leaves Try.prog 20 77 = some [.int .i8, .int .i8, .int .i8, .int .i8, .int .i16, .int .i16] from by kernel_rfl) h0
  have e0 := Cl.open_agg (by kernel_rfl) (hval 0 77 v0 rfl rfl)
  obtain ⟨p0, y0_0, c0, wp0, m0_0⟩ := Cl.lfits.consI l0
  obtain ⟨p1, y0_1, rfl, wp1, m0_1⟩ := Cl.lfits.consI m0_0
  obtain ⟨p2, y0_2, rfl, wp2, m0_2⟩ := Cl.lfits.consI m0_1
  obtain ⟨p3, y0_3, rfl, wp3, m0_3⟩ := Cl.lfits.consI m0_2
  obtain ⟨p4, y0_4, rfl, wp4, m0_4⟩ := Cl.lfits.consI m0_3
  obtain ⟨p5, y0_5, rfl, wp5, m0_5⟩ := Cl.lfits.consI m0_4
  obtain rfl := Cl.lfits.nil m0_5
  rw [c0] at e0
  subst e0
  obtain ⟨p6, e1, _, _, wp6⟩ := open_int (show Try.prog.underlying 5 = some (.int .u8) from by kernel_rfl) (hval 1 5 v1 rfl rfl) h1
  subst e1
  obtain ⟨p7, e2, _, _, wp7⟩ := open_int (show Try.prog.underlying 5 = some (.int .u8) from by kernel_rfl) (hval 2 5 v2 rfl rfl) h2
  subst e2
  clear hA0 hval0 hsz0
  refine (walk p0 p1 p2 p3 p4 p5 p6 p7 wp0 wp1 wp2 wp3 wp4 wp5 wp6 wp7 W).mono fun e W' ⟨he, bel⟩ => ?_
  subst he
  exact ⟨_, rfl, _, _, _, [], _, [], hW', trodAll_mk1 (shut_bool Try.underlying4 _), (trodAll_cons_mk (Below.trod laid (by kernel_rfl) (of_decide_eq_true (by kernel_rfl)) h0 bel (fun x hx => hW'.lt x (by simp [hx]))) (trodAll_cons_mk (Below.trod laid (by kernel_rfl) (of_decide_eq_true (by kernel_rfl)) h1 bel (fun x hx => hW'.lt x (by simp [hx]))) (trodAll_cons_mk (Below.trod laid (by kernel_rfl) (of_decide_eq_true (by kernel_rfl)) h2 bel (fun x hx => hW'.lt x (by simp [hx]))) trodAll_mk0))), rfl, bel.frame _, fun h => by cases h⟩
theorem over : Rows.magnetCountedRow.holds Try.pinned (OpenSpec.ofChange Rows.magnetCountedSpec) :=
  OpenClaim.holds_of_wide 11 Try.f11 rfl rfl rfl rfl rfl rfl rfl ⟨rfl, rfl, rfl, rfl, rfl⟩ rfl rfl rfl rfl rfl (by kernel_rfl) Try.func11 (by kernel_rfl)
    (of_decide_eq_true (by kernel_rfl)) (by unfold Func.isWrapper; first | (rw [if_pos (by decide +kernel)]; kernel_rfl) | (rw [if_neg (by decide +kernel)]; exact ⟨rfl, rfl⟩))
    (fun os started H enc _ => lifted os started H enc)
theorem proved : Rows.MagnetCountedSaid := over
#print axioms proved
end Go.Proofs.Ytenjelagfbceeaa.magnetCounted
namespace Go.Proofs.Ytenjelagfbceeaa
/-- The row, under a short name, for the claim. -/
theorem magnetCounted_holds : Rows.MagnetCountedSaid := magnetCounted.proved
end Go.Proofs.Ytenjelagfbceeaa
