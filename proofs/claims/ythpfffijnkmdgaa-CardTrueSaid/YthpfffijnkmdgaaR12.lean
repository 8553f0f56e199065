/- The law CardTrue holds: whatever the input, it returns true. Conditions: none. -/
import Derived.Test.YthpfffijnkmdgaaRows
import Derived.Test.YthpfffijnkmdgaaTs8
import Derived.Test.YthpfffijnkmdgaaTs10
import Derived.Test.YthpfffijnkmdgaaL12
import Derived.WalkKit
import Derived.ProofKit
import Derived.OpenShut
import Derived.ShutString
import Derived.ChangeOld
import Derived.Below
import Derived.Carry
import Derived.SizedLaws
namespace Go.Proofs.Ythpfffijnkmdgaa.cardTrue
open Go.ChangeShapes Go.WideShapes Go.ChangeAt Go.RowKit
set_option linter.unusedVariables false
theorem vagg {D : Nat → Prop} {β : Nat → Nat × Nat} {κ : Nat → Nat} {l l' : List Value} (h : Cl.LR D β κ l l') : Cl.VR D β κ (.agg ⟨l⟩) (.agg ⟨l'⟩) := .agg _ _ h.len h.at_
theorem walk (p0 : List (Int × Int)) (p1 : Int) (p2 : Int) (p3 : Int) (p4 : Int) (p5 : Int) (p6 : Int) (p7 : Int) (p8 : Int) (p9 : Int) (p10 : Int) (p11 : Int) (p12 : Int) (s0 : Value) (wp0 : ∀ x ∈ p0, (Lit.int .u16 x.1).wf = true ∧ (Lit.int .u16 x.2).wf = true) (wp1 : (Lit.int .u8 p1).wf = true) (wp2 : (Lit.int .u8 p2).wf = true) (wp3 : (Lit.int .u8 p3).wf = true) (wp4 : (Lit.int .u8 p4).wf = true) (wp5 : (Lit.int .u8 p5).wf = true) (wp6 : (Lit.int .u8 p6).wf = true) (wp7 : (Lit.int .u8 p7).wf = true) (wp8 : (Lit.int .u8 p8).wf = true) (wp9 : (Lit.int .u8 p9).wf = true) (wp10 : (Lit.int .u8 p10).wf = true) (wp11 : (Lit.int .u8 p11).wf = true) (wp12 : (Lit.int .u16 p12).wf = true) (W : World) (k0 : Cl.SlOk W (List.map e81 p0) s0) : Calls Try.prog 12 #[.agg ⟨[s0, .int .u8 p1]⟩, .agg ⟨[.int .u8 p2, .int .u8 p3, .int .u8 p4, .int .u8 p5, .int .u8 p6]⟩, .agg ⟨[.int .u8 p7, .int .u8 p8, .int .u8 p9, .int .u8 p10, .int .u8 p11]⟩, .int .u16 p12] W fun e W' => e = .returned (.bool true) ∧ Below W.heap.size W W' :=
 by
 refine Cl.lawS (args := [.agg ⟨[.slice (some ⟨0, 0, none⟩) (List.map e81 p0).length Cl.ANY, .int .u8 p1]⟩, .agg ⟨[.int .u8 p2, .int .u8 p3, .int .u8 p4, .int .u8 p5, .int .u8 p6]⟩, .agg ⟨[.int .u8 p7, .int .u8 p8, .int .u8 p9, .int .u8 p10, .int .u8 p11]⟩, .int .u16 p12]) [(81, List.map e81 p0, s0)] ?_ (fun D β κ hv => (.cons (vagg (.cons (hv 0 _ rfl) (.cons (.int _ _) .nil))) (.cons (vagg (.cons (.int _ _) (.cons (.int _ _) (.cons (.int _ _) (.cons (.int _ _) (.cons (.int _ _) .nil)))))) (.cons (vagg (.cons (.int _ _) (.cons (.int _ _) (.cons (.int _ _) (.cons (.int _ _) (.cons (.int _ _) .nil)))))) (.cons (.int _ _) .nil))))) (new := N12 0 true) ?_
 · intro x hx
   simp only [List.mem_cons, List.not_mem_nil, or_false] at hx
   rcases hx with rfl
   exact k0
 have h := C12 p0 p1 p2 p3 p4 p5 p6 p7 p8 p9 p10 p11 p12 true (plain p0 p1 p2 p3 p4 p5 p6 p7 p8 p9 p10 p11 p12 wp0 wp1 wp2 wp3 wp4 wp5 wp6 wp7 wp8 wp9 wp10 wp11 wp12)
 simp only [List.length_map]
 simp only [List.map_cons, List.map_nil, Cl.slBlk, List.length_map]
 exact h
theorem own : ownKnob Try.prog.godebug = none := by kernel_rfl
theorem laid : laidOutB Try.prog = true := by kernel_rfl
set_option maxRecDepth 100000 in
theorem lifted (os : Os) (started : os.Started) (H : Type) (enc : TypeId × Value → H) :
 ReturnsInHanded {} Try.checked os 12 .any (Rows.cardTrueSpec.pre6 enc Try.prog Try.f12 Rows.cardTrueRow.domain false) (Rows.cardTrueSpec.post enc Try.prog Try.f12 false true false false) := by
 refine returnsInHanded_of_change_sized (C := Try.checked) own started (by kernel_rfl) Try.func12
  (ChangeSpec.witness6 (enc := enc) (C := Try.checked) false ⟨#[], #[.agg ⟨[.slice none 0 0, .int .u8 0]⟩, .agg ⟨[.int .u8 0, .int .u8 0, .int .u8 0, .int .u8 0, .int .u8 0]⟩, .agg ⟨[.int .u8 0, .int .u8 0, .int .u8 0, .int .u8 0, .int .u8 0]⟩, .int .u16 0], []⟩ 8 (by kernel_rfl) (by kernel_rfl) (by kernel_rfl) (by kernel_rfl)) ?_
 intro W base args ds gs before hval0 hW hcnd hsz0 _
 have hval : ∀ (j : Nat) t v, Try.f12.params[j]? = some t → args[j]? = some v → Value.okWide Try.prog W .any base t v := hval0
 have hW' := hW
 obtain ⟨p, q, hA0, hV, rfl, hfz, hnd⟩ := hW
 have hA : DataW.TrodAll enc Try.prog W 0 (fun _ => true) true Try.f12.params.toList args.toList ds p := hA0
 rw [Try.params12] at hA hval
 obtain ⟨v0, vs0, d0, ds0, p0_, q0_, hargs, rfl, rfl, h0, r0⟩ := trodAll_cons hA
 obtain ⟨v1, vs1, d1, ds1, p1_, q1_, rfl, rfl, rfl, h1, r1⟩ := trodAll_cons r0
 obtain ⟨v2, vs2, d2, ds2, p2_, q2_, rfl, rfl, rfl, h2, r2⟩ := trodAll_cons r1
 obtain ⟨v3, vs3, d3, ds3, p3_, q3_, rfl, rfl, rfl, h3, r3⟩ := trodAll_cons r2
 obtain ⟨rfl, rfl, rfl⟩ := trodAll_nil r3
 obtain rfl : args = #[v0, v1, v2, v3] := by cases args; simp_all
 obtain ⟨rfl, rfl⟩ := trodVars_none hV
 have l0 := Cl.open_leaves2 (n := 20) (show Cl.leaves2 Try.prog 20 72 = some [.list [.int .u16, .int .u16], .flat (.int .u8)] from by kernel_rfl) h0
 have e0 := Cl.open_agg (by kernel_rfl) (hval 0 72 v0 rfl rfl)
 obtain ⟨s0, y0_0, R0, c0, k0, f0, m0_0⟩ := Cl.lfits2.consS l0
 obtain ⟨p0, rfl, wp0⟩ := Cl.rows_typed (enc := e81) (wf := fun x => (Lit.int .u16 x.1).wf = true ∧ (Lit.int .u16 x.2).wf = true) (fun r hr => by
  obtain ⟨a0, z0, rfl, w0, n0⟩ := Cl.lfits.consI hr
  obtain ⟨a1, z1, rfl, w1, n1⟩ := Cl.lfits.consI n0
  obtain rfl := Cl.lfits.nil n1
  exact ⟨(a0, a1), rfl, w0, w1⟩) f0
 obtain ⟨p1, y0_1, rfl, wp1, m0_1⟩ := Cl.lfits2.consI m0_0
 obtain rfl := Cl.lfits2.nil m0_1
 rw [c0] at e0
 subst e0
 have l1 := Cl.open_leaves (n := 20) (show Cl.leaves Try.prog 20 88 = some [.int .u8, .int .u8, .int .u8, .int .u8, .int .u8] from by kernel_rfl) h1
 have e1 := Cl.open_agg (by kernel_rfl) (hval 1 88 v1 rfl rfl)
 obtain ⟨p2, y1_0, c1, wp2, m1_0⟩ := Cl.lfits.consI l1
 obtain ⟨p3, y1_1, rfl, wp3, m1_1⟩ := Cl.lfits.consI m1_0
 obtain ⟨p4, y1_2, rfl, wp4, m1_2⟩ := Cl.lfits.consI m1_1
 obtain ⟨p5, y1_3, rfl, wp5, m1_3⟩ := Cl.lfits.consI m1_2
 obtain ⟨p6, y1_4, rfl, wp6, m1_4⟩ := Cl.lfits.consI m1_3
 obtain rfl := Cl.lfits.nil m1_4
 rw [c1] at e1
 subst e1
 have l2 := Cl.open_leaves (n := 20) (show Cl.leaves Try.prog 20 88 = some [.int .u8, .int .u8, .int .u8, .int .u8, .int .u8] from by kernel_rfl) h2
 have e2 := Cl.open_agg (by kernel_rfl) (hval 2 88 v2 rfl rfl)
 obtain ⟨p7, y2_0, c2, wp7, m2_0⟩ := Cl.lfits.consI l2
 obtain ⟨p8, y2_1, rfl, wp8, m2_1⟩ := Cl.lfits.consI m2_0
 obtain ⟨p9, y2_2, rfl, wp9, m2_2⟩ := Cl.lfits.consI m2_1
 obtain ⟨p10, y2_3, rfl, wp10, m2_3⟩ := Cl.lfits.consI m2_2
 obtain ⟨p11, y2_4, rfl, wp11, m2_4⟩ := Cl.lfits.consI m2_3
 obtain rfl := Cl.lfits.nil m2_4
 rw [c2] at e2
 subst e2
 obtain ⟨p12, e3, _, _, wp12⟩ := open_int (show Try.prog.underlying 73 = some (.int .u16) from by kernel_rfl) (hval 3 73 v3 rfl rfl) h3
 subst e3
 clear hA0 hval0 hsz0
 refine (walk p0 p1 p2 p3 p4 p5 p6 p7 p8 p9 p10 p11 p12 s0 wp0 wp1 wp2 wp3 wp4 wp5 wp6 wp7 wp8 wp9 wp10 wp11 wp12 W k0).mono fun e W' ⟨he, bel⟩ => ?_
 subst he
 exact ⟨_, rfl, _, _, _, [], _, [], hW', trodAll_mk1 (shut_bool Try.underlying4 _), (trodAll_cons_mk (Below.trod laid (by kernel_rfl) (of_decide_eq_true (by kernel_rfl)) h0 bel (fun x hx => hW'.lt x (by simp [hx]))) (trodAll_cons_mk (Below.trod laid (by kernel_rfl) (of_decide_eq_true (by kernel_rfl)) h1 bel (fun x hx => hW'.lt x (by simp [hx]))) (trodAll_cons_mk (Below.trod laid (by kernel_rfl) (of_decide_eq_true (by kernel_rfl)) h2 bel (fun x hx => hW'.lt x (by simp [hx]))) (trodAll_cons_mk (Below.trod laid (by kernel_rfl) (of_decide_eq_true (by kernel_rfl)) h3 bel (fun x hx => hW'.lt x (by simp [hx]))) trodAll_mk0)))), rfl, bel.frame _, fun h => by cases h⟩
theorem over : Rows.cardTrueRow.holds Try.pinned (OpenSpec.ofChange Rows.cardTrueSpec) :=
 OpenClaim.holds_of_wide 12 Try.f12 rfl rfl rfl rfl rfl rfl rfl ⟨rfl, rfl, rfl, rfl, rfl⟩ rfl rfl rfl rfl rfl (by kernel_rfl) Try.func12 (by kernel_rfl)
  (of_decide_eq_true (by kernel_rfl)) (by unfold Func.isWrapper; first | (rw [if_pos (by decide +kernel)]; kernel_rfl) | (rw [if_neg (by decide +kernel)]; exact ⟨rfl, rfl⟩))
  (fun os started H enc _ => lifted os started H enc)
theorem proved : Rows.CardTrueSaid := over
#print axioms proved
end Go.Proofs.Ythpfffijnkmdgaa.cardTrue
namespace Go.Proofs.Ythpfffijnkmdgaa
end Go.Proofs.Ythpfffijnkmdgaa
