/- The law CardGreater holds: whatever the input, it returns true. Conditions: none. -/
import Derived.Test.YthpfffijnkmdgaaRows
import Derived.Test.YthpfffijnkmdgaaTs8
import Derived.Test.YthpfffijnkmdgaaTs10
import Derived.Test.YthpfffijnkmdgaaL13
import Derived.WalkKit
import Derived.ProofKit
import Derived.OpenShut
import Derived.ShutString
import Derived.ChangeOld
import Derived.Below
import Derived.Carry
import Derived.SizedLaws
namespace Go.Proofs.Ythpfffijnkmdgaa.cardGreater
open Go.ChangeShapes Go.WideShapes Go.ChangeAt Go.RowKit
set_option linter.unusedVariables false
theorem vagg {D : Nat → Prop} {β : Nat → Nat × Nat} {κ : Nat → Nat} {l l' : List Value} (h : Cl.LR D β κ l l') : Cl.VR D β κ (.agg ⟨l⟩) (.agg ⟨l'⟩) := .agg _ _ h.len h.at_
theorem walk (p0 : List (Int × Int)) (p1 : Int) (p2 : Int) (p3 : Int) (p4 : Int) (s0 : Value) (wp0 : ∀ x ∈ p0, (Lit.int .u16 x.1).wf = true ∧ (Lit.int .u16 x.2).wf = true) (wp1 : (Lit.int .u8 p1).wf = true) (wp2 : (Lit.int .u16 p2).wf = true) (wp3 : (Lit.int .u16 p3).wf = true) (wp4 : (Lit.int .u8 p4).wf = true) (W : World) (k0 : Cl.SlOk W (List.map e81 p0) s0) : Calls Try.prog 13 #[.agg ⟨[s0, .int .u8 p1]⟩, .int .u16 p2, .int .u16 p3, .int .u8 p4] W fun e W' => e = .returned (.bool true) ∧ Below W.heap.size W W' :=
 by
 refine Cl.lawS (args := [.agg ⟨[.slice (some ⟨0, 0, none⟩) (List.map e81 p0).length Cl.ANY, .int .u8 p1]⟩, .int .u16 p2, .int .u16 p3, .int .u8 p4]) [(81, List.map e81 p0, s0)] ?_ (fun D β κ hv => (.cons (vagg (.cons (hv 0 _ rfl) (.cons (.int _ _) .nil))) (.cons (.int _ _) (.cons (.int _ _) (.cons (.int _ _) .nil))))) (new := N13 0 true) ?_
 · intro x hx
   simp only [List.mem_cons, List.not_mem_nil, or_false] at hx
   rcases hx with rfl
   exact k0
 have h := C13 p0 p1 p2 p3 p4 true (plain p0 p1 p2 p3 p4 wp0 wp1 wp2 wp3 wp4)
 simp only [List.length_map]
 simp only [List.map_cons, List.map_nil, Cl.slBlk, List.length_map]
 exact h
theorem own : ownKnob Try.prog.godebug = none := by kernel_rfl
theorem laid : laidOutB Try.prog = true := by kernel_rfl
set_option maxRecDepth 100000 in
theorem lifted (os : Os) (started : os.Started) (H : Type) (enc : TypeId × Value → H) :
 ReturnsInHanded {} Try.checked os 13 .any (Rows.cardGreaterSpec.pre6 enc Try.prog Try.f13 Rows.cardGreaterRow.domain false) (Rows.cardGreaterSpec.post enc Try.prog Try.f13 false true false false) := by
 refine returnsInHanded_of_change_sized (C := Try.checked) own started (by kernel_rfl) Try.func13
  (ChangeSpec.witness6 (enc := enc) (C := Try.checked) false ⟨#[], #[.agg ⟨[.slice none 0 0, .int .u8 0]⟩, .int .u16 0, .int .u16 0, .int .u8 0], []⟩ 8 (by kernel_rfl) (by kernel_rfl) (by kernel_rfl) (by kernel_rfl)) ?_
 intro W base args ds gs before hval0 hW hcnd hsz0 _
 have hval : ∀ (j : Nat) t v, Try.f13.params[j]? = some t → args[j]? = some v → Value.okWide Try.prog W .any base t v := hval0
 have hW' := hW
 obtain ⟨p, q, hA0, hV, rfl, hfz, hnd⟩ := hW
 have hA : DataW.TrodAll enc Try.prog W 0 (fun _ => true) true Try.f13.params.toList args.toList ds p := hA0
 rw [Try.params13] at hA hval
 obtain ⟨v0, vs0, d0, ds0, p0_, q0_, hargs, rfl, rfl, h0, r0⟩ := trodAll_cons hA
 obtain ⟨v1, vs1, d1, ds1, p1_, q1_, rfl, rfl, rfl, h1, r1⟩ := trodAll_cons r0
 obtain ⟨v2, vs2, d2, ds2, p2_, q2_, rfl, rfl, rfl, h2, r2⟩ := trodAll_cons r1
 obtain ⟨v3, vs3, d3, ds3, p3_, q3_, rfl, rfl, rfl, h3, r3⟩ := trodAll_cons r2
 obtain ⟨rfl, rfl, rfl⟩ := trodAll_nil r3
 obtain rfl : args = #[v0, v1, v2, v3] := by cases args; simp_all
 obtain ⟨rfl, rfl⟩ := trodVars_none hV
 have l0 := Cl.open_leaves2 (n := 20) (show Cl.leaves2 Try.prog 20 72 = some [.list [.int .u16, .int .u16], .flat (.int .u8)] from by kernel_rfl) h0
 have e0 := Cl.open_agg (by kernel_rfl) (hval 0 72 v0 rfl rfl)
 obtain ⟨s0, y0_0, R0, c0, k0, f0, m0_0⟩ := Cl.lfits2.consS l0
 obtain ⟨p0, rfl, wp0⟩ := Cl.rows_typed (enc := e81) (wf := fun x => (Lit.int .u16 x.1).wf = true ∧ (Lit.int .u16 x.2).wf = true) (fun r hr => by
  obtain ⟨a0, z0, rfl, w0, n0⟩ := Cl.lfits.consI hr
  obtain ⟨a1, z1, rfl, w1, n1⟩ := Cl.lfits.consI n0
  obtain rfl := Cl.lfits.nil n1
  exact ⟨(a0, a1), rfl, w0, w1⟩) f0
 obtain ⟨p1, y0_1, rfl, wp1, m0_1⟩ := Cl.lfits2.consI m0_0
 obtain rfl := Cl.lfits2.nil m0_1
 rw [c0] at e0
 subst e0
 obtain ⟨p2, e1, _, _, wp2⟩ := open_int (show Try.prog.underlying 73 = some (.int .u16) from by kernel_rfl) (hval 1 73 v1 rfl rfl) h1
 subst e1
 obtain ⟨p3, e2, _, _, wp3⟩ := open_int (show Try.prog.underlying 73 = some (.int .u16) from by kernel_rfl) (hval 2 73 v2 rfl rfl) h2
 subst e2
 obtain ⟨p4, e3, _, _, wp4⟩ := open_int (show Try.prog.underlying 5 = some (.int .u8) from by kernel_rfl) (hval 3 5 v3 rfl rfl) h3
 subst e3
 clear hA0 hval0 hsz0
 refine (walk p0 p1 p2 p3 p4 s0 wp0 wp1 wp2 wp3 wp4 W k0).mono fun e W' ⟨he, bel⟩ => ?_
 subst he
 exact ⟨_, rfl, _, _, _, [], _, [], hW', trodAll_mk1 (shut_bool Try.underlying4 _), (trodAll_cons_mk (Below.trod laid (by kernel_rfl) (of_decide_eq_true (by kernel_rfl)) h0 bel (fun x hx => hW'.lt x (by simp [hx]))) (trodAll_cons_mk (Below.trod laid (by kernel_rfl) (of_decide_eq_true (by kernel_rfl)) h1 bel (fun x hx => hW'.lt x (by simp [hx]))) (trodAll_cons_mk (Below.trod laid (by kernel_rfl) (of_decide_eq_true (by kernel_rfl)) h2 bel (fun x hx => hW'.lt x (by simp [hx]))) (trodAll_cons_mk (Below.trod laid (by kernel_rfl) (of_decide_eq_true (by kernel_rfl)) h3 bel (fun x hx => hW'.lt x (by simp [hx]))) trodAll_mk0)))), rfl, bel.frame _, fun h => by cases h⟩
theorem over : Rows.cardGreaterRow.holds Try.pinned (OpenSpec.ofChange Rows.cardGreaterSpec) :=
 OpenClaim.holds_of_wide 13 Try.f13 rfl rfl rfl rfl rfl rfl rfl ⟨rfl, rfl, rfl, rfl, rfl⟩ rfl rfl rfl rfl rfl (by kernel_rfl) Try.func13 (by kernel_rfl)
  (of_decide_eq_true (by kernel_rfl)) (by unfold Func.isWrapper; first | (rw [if_pos (by decide +kernel)]; kernel_rfl) | (rw [if_neg (by decide +kernel)]; exact ⟨rfl, rfl⟩))
  (fun os started H enc _ => lifted os started H enc)
theorem proved : Rows.CardGreaterSaid := over
#print axioms proved
end Go.Proofs.Ythpfffijnkmdgaa.cardGreater
namespace Go.Proofs.Ythpfffijnkmdgaa
end Go.Proofs.Ythpfffijnkmdgaa
