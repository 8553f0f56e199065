/- The law ChartSides holds: whatever the input, it returns true. Conditions: none. -/
import Derived.Test.YtnhcgbcmnhdocaaRows
import Derived.Test.YtnhcgbcmnhdocaaTs8
import Derived.Test.YtnhcgbcmnhdocaaL3
import Derived.WalkKit
import Derived.ProofKit
import Derived.OpenShut
import Derived.ShutString
import Derived.ChangeOld
import Derived.Below
import Derived.Carry
import Derived.SizedLaws
namespace Go.Proofs.Ytnhcgbcmnhdocaa.chartSides
open Go.ChangeShapes Go.WideShapes Go.ChangeAt Go.RowKit
set_option linter.unusedVariables false
theorem walk (p0 : Int) (p1 : Int) (p2 : Int) (p3 : Int) (p4 : Int) (p5 : Int) (p6 : Int) (p7 : Int) (p8 : Int) (p9 : Int) (p10 : Int) (p11 : Int) (p12 : Int) (p13 : Int) (p14 : Int) (p15 : Int) (wp0 : (Lit.int .i64 p0).wf = true) (wp1 : (Lit.int .i64 p1).wf = true) (wp2 : (Lit.int .i64 p2).wf = true) (wp3 : (Lit.int .i64 p3).wf = true) (wp4 : (Lit.int .i64 p4).wf = true) (wp5 : (Lit.int .i64 p5).wf = true) (wp6 : (Lit.int .i64 p6).wf = true) (wp7 : (Lit.int .i64 p7).wf = true) (wp8 : (Lit.int .i64 p8).wf = true) (wp9 : (Lit.int .i64 p9).wf = true) (wp10 : (Lit.int .i64 p10).wf = true) (wp11 : (Lit.int .i64 p11).wf = true) (wp12 : (Lit.int .i64 p12).wf = true) (wp13 : (Lit.int .i64 p13).wf = true) (wp14 : (Lit.int .i64 p14).wf = true) (wp15 : (Lit.int .i64 p15).wf = true) (W : World) : Calls Try.prog 3 #[.agg ⟨[.int .i64 p0, .int .i64 p1, .int .i64 p2, .int .i64 p3]⟩, .agg ⟨[.int .i64 p4, .int .i64 p5, .int .i64 p6, .int .i64 p7]⟩, .agg ⟨[.int .i64 p8, .int .i64 p9, .int .i64 p10, .int .i64 p11]⟩, .agg ⟨[.int .i64 p12, .int .i64 p13, .int .i64 p14, .int .i64 p15]⟩] W fun e W' => e = .returned (.bool true) ∧ Below W.heap.size W W' :=
  Cl.lawF rfl (C3 p0 p1 p2 p3 p4 p5 p6 p7 p8 p9 p10 p11 p12 p13 p14 p15 true (plain p0 p1 p2 p3 p4 p5 p6 p7 p8 p9 p10 p11 p12 p13 p14 p15 wp0 wp1 wp2 wp3 wp4 wp5 wp6 wp7 wp8 wp9 wp10 wp11 wp12 wp13 wp14 wp15)) W
theorem own : ownKnob Try.prog.godebug = none := by kernel_rfl
theorem laid : laidOutB Try.prog = true := by kernel_rfl
set_option maxRecDepth 100000 in
theorem lifted (os : Os) (started : os.Started) (H : Type) (enc : TypeId × Value → H) :
    ReturnsInHanded {} Try.checked os 3 .any (Rows.chartSidesSpec.pre6 enc Try.prog Try.f3 Rows.chartSidesRow.domain false) (Rows.chartSidesSpec.post enc Try.prog Try.f3 false true false false) := by
  refine returnsInHanded_of_change_sized (C := Try.checked) own started (by kernel_rfl) Try.func3
    (ChangeSpec.witness6 (enc := enc) (C := Try.checked) false ⟨#[], #[.agg ⟨[.int .i64 0, .int .i64 0, .int .i64 0, .int .i64 0]⟩, .agg ⟨[.int .i64 0, .int .i64 0, .int .i64 0, .int .i64 0]⟩, .agg ⟨[.int .i64 0, .int .i64 0, .int .i64 0, .int .i64 0]⟩, .agg ⟨[.int .i64 0, .int .i64 0, .int .i64 0, .int .i64 0]⟩], []⟩ 8 (by kernel_rfl) (by kernel_rfl) (by kernel_rfl) (by kernel_rfl)) ?_
  intro W base args ds gs before hval0 hW hcnd hsz0 _
  have hval : ∀ (j : Nat) t v, Try.f3.params[j]? = some t → args[j]? = some v → Value.okWide Try.prog W .any base t v := hval0
  have hW' := hW
  obtain ⟨p, q, hA0, hV, rfl, hfz, hnd⟩ := hW
  have hA : DataW.TrodAll enc Try.prog W 0 (fun _ => true) true Try.f3.params.toList args.toList ds p := hA0
  rw [Try.params3] at hA hval
  obtain ⟨v0, vs0, d0, ds0, p0_, q0_, hargs, rfl, rfl, h0, r0⟩ := trodAll_cons hA
  obtain ⟨v1, vs1, d1, ds1, p1_, q1_, rfl, rfl, rfl, h1, r1⟩ := trodAll_cons r0
  obtain ⟨v2, vs2, d2, ds2, p2_, q2_, rfl, rfl, rfl, h2, r2⟩ := trodAll_cons r1
  obtain ⟨v3, vs3, d3, ds3, p3_, q3_, rfl, rfl, rfl, h3, r3⟩ := trodAll_cons r2
  obtain ⟨rfl, rfl, rfl⟩ := trodAll_nil r3
  obtain rfl : args = #[v0, v1, v2, v3] := by cases args; simp_all
  obtain ⟨rfl, rfl⟩ := trodVars_none hV
  have l0 := Cl.open_leaves (n := 20) (show Cl.leaves Try.prog 20 25 = some [.int .i64, .int .i64, .int .i64, .int .i64] from by kernel_rfl) h0
  have e0 := Cl.open_agg (by kernel_rfl) (hval 0 25 v0 rfl rfl)
  obtain ⟨p0, y0_0, c0, wp0, m0_0⟩ := Cl.lfits.consI l0
  obtain ⟨p1, y0_1, rfl, wp1, m0_1⟩ := Cl.lfits.consI m0_0
  obtain ⟨p2, y0_2, rfl, wp2, m0_2⟩ := Cl.lfits.consI m0_1
  obtain ⟨p3, y0_3, rfl, wp3, m0_3⟩ := Cl.lfits.consI m0_2
  obtain rfl := Cl.lfits.nil m0_3
  rw [c0] at e0
  subst e0
  have l1 := Cl.open_leaves (n := 20) (show Cl.leaves Try.prog 20 25 = some [.int .i64, .int .i64, .int .i64, .int .i64] from by kernel_rfl) h1
  have e1 := Cl.open_agg (by kernel_rfl) (hval 1 25 v1 rfl rfl)
  obtain ⟨p4, y1_0, c1, wp4, m1_0⟩ := Cl.lfits.consI l1
  obtain ⟨p5, y1_1, rfl, wp5, m1_1⟩ := Cl.lfits.consI m1_0
  obtain ⟨p6, y1_2, rfl, wp6, m1_2⟩ := Cl.lfits.consI m1_1
  obtain ⟨p7, y1_3, rfl, wp7, m1_3⟩ := Cl.lfits.consI m1_2
  obtain rfl := Cl.lfits.nil m1_3
  rw [c1] at e1
  subst e1
  have l2 := Cl.open_leaves (n := 20) (show Cl.leaves Try.prog 20 25 = some [.int .i64, .int .i64, .int .i64, .int .i64] from by kernel_rfl) h2
  have e2 := Cl.open_agg (by kernel_rfl) (hval 2 25 v2 rfl rfl)
  obtain ⟨p8, y2_0, c2, wp8, m2_0⟩ := Cl.lfits.consI l2
  obtain ⟨p9, y2_1, rfl, wp9, m2_1⟩ := Cl.lfits.consI m2_0
  obtain ⟨p10, y2_2, rfl, wp10, m2_2⟩ := Cl.lfits.consI m2_1
  obtain ⟨p11, y2_3, rfl, wp11, m2_3⟩ := Cl.lfits.consI m2_2
  obtain rfl := Cl.lfits.nil m2_3
  rw [c2] at e2
  subst e2
  have l3 := Cl.open_leaves (n := 20) (show Cl.leaves Try.prog 20 25 = some [.int .i64, .int .i64, .int .i64, .int .i64] from by kernel_rfl) h3
  have e3 := Cl.open_agg (by kernel_rfl) (hval 3 25 v3 rfl rfl)
  obtain ⟨p12, y3_0, c3, wp12, m3_0⟩ := Cl.lfits.consI l3
  obtain ⟨p13, y3_1, rfl, wp13, m3_1⟩ := Cl.lfits.consI m3_0
  obtain ⟨p14, y3_2, rfl, wp14, m3_2⟩ := Cl.lfits.consI m3_1
  obtain ⟨p15, y3_3, rfl, wp15, m3_3⟩ := Cl.lfits.consI m3_2
  obtain rfl := Cl.lfits.nil m3_3
  rw [c3] at e3
  subst e3
  clear hA0 hval0 hsz0
  refine (walk p0 p1 p2 p3 p4 p5 p6 p7 p8 p9 p10 p11 p12 p13 p14 p15 wp0 wp1 wp2 wp3 wp4 wp5 wp6 wp7 wp8 wp9 wp10 wp11 wp12 wp13 wp14 wp15 W).mono fun e W' ⟨he, bel⟩ => ?_
  subst he
  exact ⟨_, rfl, _, _, _, [], _, [], hW', trodAll_mk1 (shut_bool Try.underlying4 _), (trodAll_cons_mk (Below.trod laid (by kernel_rfl) (of_decide_eq_true (by kernel_rfl)) h0 bel (fun x hx => hW'.lt x (by simp [hx]))) (trodAll_cons_mk (Below.trod laid (by kernel_rfl) (of_decide_eq_true (by kernel_rfl)) h1 bel (fun x hx => hW'.lt x (by simp [hx]))) (trodAll_cons_mk (Below.trod laid (by kernel_rfl) (of_decide_eq_true (by kernel_rfl)) h2 bel (fun x hx => hW'.lt x (by simp [hx]))) (trodAll_cons_mk (Below.trod laid (by kernel_rfl) (of_decide_eq_true (by kernel_rfl)) h3 bel (fun x hx => hW'.lt x (by simp [hx]))) trodAll_mk0)))), rfl, bel.frame _, fun h => by cases h⟩
theorem over : Rows.chartSidesRow.holds Try.pinned (OpenSpec.ofChange Rows.chartSidesSpec) :=
  OpenClaim.holds_of_wide 3 Try.f3 rfl rfl rfl rfl rfl rfl rfl ⟨rfl, rfl, rfl, rfl, rfl⟩ rfl rfl rfl rfl rfl (by kernel_rfl) Try.func3 (by kernel_rfl)
    (of_decide_eq_true (by kernel_rfl)) (by unfold Func.isWrapper; first | (rw [if_pos (by decide +kernel)]; kernel_rfl) | (rw [if_neg (by decide +kernel)]; exact ⟨rfl, rfl⟩))
    (fun os started H enc _ => lifted os started H enc)
theorem proved : Rows.ChartSidesSaid := over
#print axioms proved
end Go.Proofs.Ytnhcgbcmnhdocaa.chartSides
namespace Go.Proofs.Ytnhcgbcmnhdocaa
/-- The row, under a short name, for the claim. -/
theorem chartSides_holds : Rows.ChartSidesSaid := chartSides.proved
end Go.Proofs.Ytnhcgbcmnhdocaa
