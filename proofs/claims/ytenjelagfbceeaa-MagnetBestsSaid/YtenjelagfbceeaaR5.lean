/- The law MagnetBests holds: whatever the input, it returns true. Conditions: none. -/
import Derived.Test.YtenjelagfbceeaaRows
import Derived.Test.YtenjelagfbceeaaTs8
import Derived.Test.YtenjelagfbceeaaL5
import Derived.WalkKit
import Derived.ProofKit
import Derived.OpenShut
import Derived.ShutString
import Derived.ChangeOld
import Derived.Below
import Derived.Carry
import Derived.SizedLaws
namespace Go.Proofs.Ytenjelagfbceeaa.magnetBests
open Go.ChangeShapes Go.WideShapes Go.ChangeAt Go.RowKit
set_option linter.unusedVariables false
theorem walk (p0 : Int) (p1 : Int) (p2 : Int) (p3 : Int) (p4 : Int) (p5 : Int) (p6 : Int) (p7 : Int) (p8 : Int) (p9 : Int) (p10 : Int) (p11 : Int) (wp0 : (Lit.int .i64 p0).wf = true) (wp1 : (Lit.int .i64 p1).wf = true) (wp2 : (Lit.int .i64 p2).wf = true) (wp3 : (Lit.int .i64 p3).wf = true) (wp4 : (Lit.int .i64 p4).wf = true) (wp5 : (Lit.int .i64 p5).wf = true) (wp6 : (Lit.int .i64 p6).wf = true) (wp7 : (Lit.int .i64 p7).wf = true) (wp8 : (Lit.int .i64 p8).wf = true) (wp9 : (Lit.int .i64 p9).wf = true) (wp10 : (Lit.int .i64 p10).wf = true) (wp11 : (Lit.int .i64 p11).wf = true) (W : World) : Calls Try.prog 5 #[.agg ⟨[.int .i64 p0, .int .i64 p1, .int .i64 p2, .int .i64 p3]⟩, .agg ⟨[.int .i64 p4, .int .i64 p5]⟩, .agg ⟨[.int .i64 p6, .int .i64 p7]⟩, .agg ⟨[.int .i64 p8, .int .i64 p9]⟩, .agg ⟨[.int .i64 p10, .int .i64 p11]⟩] W fun e W' => e = .returned (.bool true) ∧ Below W.heap.size W W' :=
  Cl.lawF rfl (C5 p0 p1 p2 p3 p4 p5 p6 p7 p8 p9 p10 p11 true (plain p0 p1 p2 p3 p4 p5 p6 p7 p8 p9 p10 p11 wp0 wp1 wp2 wp3 wp4 wp5 wp6 wp7 wp8 wp9 wp10 wp11)) W
theorem own : ownKnob Try.prog.godebug = none := by kernel_rfl
theorem laid : laidOutB Try.prog = true := by kernel_rfl
set_option maxRecDepth 100000 in
theorem lifted (os : Os) (started : os.Started) (H : Type) (enc : TypeId × Value → H) :
    ReturnsInHanded {} Try.checked os 5 .any (Rows.magnetBestsSpec.pre6 enc Try.prog Try.f5 Rows.magnetBestsRow.domain false) (Rows.magnetBestsSpec.post enc Try.prog Try.f5 false true false false) := by
  refine returnsInHanded_of_change_sized (C := Try.checked) own started (by kernel_rfl) Try.func5
    (ChangeSpec.witness6 (enc := enc) (C := Try.checked) false ⟨#[], #[.agg ⟨[.int .i64 0, .int .i64 0, .int .i64 0, .int .i64 0]⟩, .agg ⟨[.int .i64 0, .int .i64 0]⟩, .agg ⟨[.int .i64 0, .int .i64 0]⟩, .agg ⟨[.int .i64 0, .int .i64 0]⟩, .agg ⟨[.int .i64 0, .int .i64 0]⟩], []⟩ 8 (by kernel_rfl) (by kernel_rfl) (by kernel_rfl) (by kernel_rfl)) ?_
  intro W base args ds gs before hval0 hW hcnd hsz0 _
  have hval : ∀ (j : Nat) t v, Try.f5.params[j]? = some t → args[j]? = some v → Value.okWide Try.prog W .any base t v := hval0
  have hW' := hW
  obtain ⟨p, q, hA0, hV, rfl, hfz, hnd⟩ := hW
  have hA : DataW.TrodAll enc Try.prog W 0 (fun _ => true) true Try.f5.params.toList args.toList ds p := hA0
  rw [Try.params5] at hA hval
  obtain ⟨v0, vs0, d0, ds0, p0_, q0_, hargs, rfl, rfl, h0, r0⟩ := trodAll_cons hA
  obtain ⟨v1, vs1, d1, ds1, p1_, q1_, rfl, rfl, rfl, h1, r1⟩ := trodAll_cons r0
  obtain ⟨v2, vs2, d2, ds2, p2_, q2_, rfl, rfl, rfl, h2, r2⟩ := trodAll_cons r1
  obtain ⟨v3, vs3, d3, ds3, p3_, q3_, rfl, rfl, rfl, h3, r3⟩ := trodAll_cons r2
  obtain ⟨v4, vs4, d4, ds4, p4_, q4_, rfl, rfl, rfl, h4, r4⟩ := trodAll_cons r3
  obtain ⟨rfl, rfl, rfl⟩ := trodAll_nil r4
  obtain rfl : args = #[v0, v1, v2, v3, v4] := by cases args; simp_all
  obtain ⟨rfl, rfl⟩ := trodVars_none hV
  have l0 := Cl.open_leaves (n := 20) (show Cl.leaves Try.prog 20 25 = some [.int .i64, .int .i64, .int .i64, .int .i64] from by kernel_rfl) h0
  have e0 := Cl.open_agg (by kernel_rfl) (hval 0 25 v0 rfl rfl)
  obtain ⟨p0, y0_0, c0, wp0, m0_0⟩ := Cl.lfits.consI l0
  obtain ⟨p1, y0_1, rfl, wp1, m0_1⟩ := Cl.lfits.consI m0_0
  obtain ⟨p2, y0_2, rfl, wp2, m0_2⟩ := Cl.lfits.consI m0_1
  obtain ⟨p3, y0_3, rfl, wp3, m0_3⟩ := Cl.lfits.consI m0_2
  obtain rfl := Cl.lfits.nil m0_3
  rw [c0] at e0
  subst e0
  have l1 := Cl.open_leaves (n := 20) (show Cl.leaves Try.prog 20 23 = some [.int .i64, .int .i64] from by kernel_rfl) h1
  have e1 := Cl.open_agg (by kernel_rfl) (hval 1 23 v1 rfl rfl)
  obtain ⟨p4, y1_0, c1, wp4, m1_0⟩ := Cl.lfits.consI l1
  obtain ⟨p5, y1_1, rfl, wp5, m1_1⟩ := Cl.lfits.consI m1_0
  obtain rfl := Cl.lfits.nil m1_1
  rw [c1] at e1
  subst e1
  have l2 := Cl.open_leaves (n := 20) (show Cl.leaves Try.prog 20 27 = some [.int .i64, .int .i64] from by kernel_rfl) h2
  have e2 := Cl.open_agg (by kernel_rfl) (hval 2 27 v2 rfl rfl)
  obtain ⟨p6, y2_0, c2, wp6, m2_0⟩ := Cl.lfits.consI l2
  obtain ⟨p7, y2_1, rfl, wp7, m2_1⟩ := Cl.lfits.consI m2_0
  obtain rfl := Cl.lfits.nil m2_1
  rw [c2] at e2
  subst e2
  have l3 := Cl.open_leaves (n := 20) (show Cl.leaves Try.prog 20 27 = some [.int .i64, .int .i64] from by kernel_rfl) h3
  have e3 := Cl.open_agg (by kernel_rfl) (hval 3 27 v3 rfl rfl)
  obtain ⟨p8, y3_0, c3, wp8, m3_0⟩ := Cl.lfits.consI l3
  obtain ⟨p9, y3_1, rfl, wp9, m3_1⟩ := Cl.lfits.consI m3_0
  obtain rfl := Cl.lfits.nil m3_1
  rw [c3] at e3
  subst e3
  have l4 := Cl.open_leaves (n := 20) (show Cl.leaves Try.prog 20 27 = some [.int .i64, .int .i64] from by kernel_rfl) h4
  have e4 := Cl.open_agg (by kernel_rfl) (hval 4 27 v4 rfl rfl)
  obtain ⟨p10, y4_0, c4, wp10, m4_0⟩ := Cl.lfits.consI l4
  obtain ⟨p11, y4_1, rfl, wp11, m4_1⟩ := Cl.lfits.consI m4_0
  obtain rfl := Cl.lfits.nil m4_1
  rw [c4] at e4
  subst e4
  clear hA0 hval0 hsz0
  refine (walk p0 p1 p2 p3 p4 p5 p6 p7 p8 p9 p10 p11 wp0 wp1 wp2 wp3 wp4 wp5 wp6 wp7 wp8 wp9 wp10 wp11 W).mono fun e W' ⟨he, bel⟩ => ?_
  subst he
  exact ⟨_, rfl, _, _, _, [], _, [], hW', trodAll_mk1 (shut_bool Try.underlying4 _), (trodAll_cons_mk (Below.trod laid (by kernel_rfl) (of_decide_eq_true (by kernel_rfl)) h0 bel (fun x hx => hW'.lt x (by simp [hx]))) (trodAll_cons_mk (Below.trod laid (by kernel_rfl) (of_decide_eq_true (by kernel_rfl)) h1 bel (fun x hx => hW'.lt x (by simp [hx]))) (trodAll_cons_mk (Below.trod laid (by kernel_rfl) (of_decide_eq_true (by kernel_rfl)) h2 bel (fun x hx => hW'.lt x (by simp [hx]))) (trodAll_cons_mk (Below.trod laid (by kernel_rfl) (of_decide_eq_true (by kernel_rfl)) h3 bel (fun x hx => hW'.lt x (by simp [hx]))) (trodAll_cons_mk (Below.trod laid (by kernel_rfl) (of_decide_eq_true (by kernel_rfl)) h4 bel (fun x hx => hW'.lt x (by simp [hx]))) trodAll_mk0))))), rfl, bel.frame _, fun h => by cases h⟩
theorem over : Rows.magnetBestsRow.holds Try.pinned (OpenSpec.ofChange Rows.magnetBestsSpec) :=
  OpenClaim.holds_of_wide 5 Try.f5 rfl rfl rfl rfl rfl rfl rfl ⟨rfl, rfl, rfl, rfl, rfl⟩ rfl rfl rfl rfl rfl (by kernel_rfl) Try.func5 (by kernel_rfl)
    (of_decide_eq_true (by kernel_rfl)) (by unfold Func.isWrapper; first | (rw [if_pos (by decide +kernel)]; kernel_rfl) | (rw [if_neg (by decide +kernel)]; exact ⟨rfl, rfl⟩))
    (fun os started H enc _ => lifted os started H enc)
theorem proved : Rows.MagnetBestsSaid := over
#print axioms proved
end Go.Proofs.Ytenjelagfbceeaa.magnetBests
namespace Go.Proofs.Ytenjelagfbceeaa
/-- The row, under a short name, for the claim. -/
theorem magnetBests_holds : Rows.MagnetBestsSaid := magnetBests.proved
end Go.Proofs.Ytenjelagfbceeaa
