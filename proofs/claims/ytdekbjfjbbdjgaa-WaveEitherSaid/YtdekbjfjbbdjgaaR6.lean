/- The law WaveEither holds: whatever the input, it returns true. Conditions: none. -/
import Derived.Test.YtdekbjfjbbdjgaaRows
import Derived.Test.YtdekbjfjbbdjgaaTs8
import Derived.Test.YtdekbjfjbbdjgaaTs10
import Derived.Test.YtdekbjfjbbdjgaaL6
import Derived.WalkKit
import Derived.ProofKit
import Derived.OpenShut
import Derived.ShutString
import Derived.ChangeOld
import Derived.Below
import Derived.Carry
import Derived.SizedLaws
namespace Go.Proofs.Ytdekbjfjbbdjgaa.waveEither
open Go.ChangeShapes Go.WideShapes Go.ChangeAt Go.RowKit
set_option linter.unusedVariables false
theorem vagg {D : Nat → Prop} {β : Nat → Nat × Nat} {κ : Nat → Nat} {l l' : List Value} (h : Cl.LR D β κ l l') : Cl.VR D β κ (.agg ⟨l⟩) (.agg ⟨l'⟩) := .agg _ _ h.len h.at_
theorem walk (p0 : Int) (p1 : Int) (p2 : List Int) (p3 : Int) (p4 : Int) (p5 : Int) (p6 : Int) (p7 : Int) (p8 : Int) (p9 : Int) (p10 : Int) (p11 : Int) (p12 : Int) (p13 : List Int) (s0 : Value) (s1 : Value) (wp0 : (Lit.int .u8 p0).wf = true) (wp1 : (Lit.int .u8 p1).wf = true) (wp2 : ∀ x ∈ p2, (Lit.int .u8 x).wf = true) (wp3 : (Lit.int .u8 p3).wf = true) (wp4 : (Lit.int .u8 p4).wf = true) (wp5 : (Lit.int .u8 p5).wf = true) (wp6 : (Lit.int .u8 p6).wf = true) (wp7 : (Lit.int .u8 p7).wf = true) (wp8 : (Lit.int .u8 p8).wf = true) (wp9 : (Lit.int .u8 p9).wf = true) (wp10 : (Lit.int .u8 p10).wf = true) (wp11 : (Lit.int .u8 p11).wf = true) (wp12 : (Lit.int .u8 p12).wf = true) (wp13 : ∀ x ∈ p13, (Lit.int .u8 x).wf = true) (W : World) (k0 : Cl.SlOk W (List.map e5 p2) s0) (k1 : Cl.SlOk W (List.map e5 p13) s1) : Calls Try.prog 6 #[.agg ⟨[.int .u8 p0, .int .u8 p1, s0, .int .u8 p3, .int .u8 p4, .int .u8 p5, .int .u8 p6, .int .u8 p7, .int .u8 p8, .int .u8 p9, .int .u8 p10, .int .u8 p11, .int .u8 p12, s1]⟩] W fun e W' => e = .returned (.bool true) ∧ Below W.heap.size W W' :=
 by
 refine Cl.lawS (args := [.agg ⟨[.int .u8 p0, .int .u8 p1, .slice (some ⟨0, 0, none⟩) (List.map e5 p2).length Cl.ANY, .int .u8 p3, .int .u8 p4, .int .u8 p5, .int .u8 p6, .int .u8 p7, .int .u8 p8, .int .u8 p9, .int .u8 p10, .int .u8 p11, .int .u8 p12, .slice (some ⟨1, 0, none⟩) (List.map e5 p13).length Cl.ANY]⟩]) [(5, List.map e5 p2, s0), (5, List.map e5 p13, s1)] ?_ (fun D β κ hv => (.cons (vagg (.cons (.int _ _) (.cons (.int _ _) (.cons (hv 0 _ rfl) (.cons (.int _ _) (.cons (.int _ _) (.cons (.int _ _) (.cons (.int _ _) (.cons (.int _ _) (.cons (.int _ _) (.cons (.int _ _) (.cons (.int _ _) (.cons (.int _ _) (.cons (.int _ _) (.cons (hv 1 _ rfl) .nil))))))))))))))) .nil)) (new := N6 0 true) ?_
 · intro x hx
   simp only [List.mem_cons, List.not_mem_nil, or_false] at hx
   rcases hx with rfl | rfl
   · exact k0
   exact k1
 have h := C6 p0 p1 p2 p3 p4 p5 p6 p7 p8 p9 p10 p11 p12 p13 true (plain p0 p1 p2 p3 p4 p5 p6 p7 p8 p9 p10 p11 p12 p13 wp0 wp1 wp2 wp3 wp4 wp5 wp6 wp7 wp8 wp9 wp10 wp11 wp12 wp13 (by have hq := k0.ln; simp only [List.length_map, Cl.INF] at hq; exact hq) (by have hq := k1.ln; simp only [List.length_map, Cl.INF] at hq; exact hq))
 simp only [List.length_map]
 simp only [List.map_cons, List.map_nil, Cl.slBlk, List.length_map]
 exact h
theorem own : ownKnob Try.prog.godebug = none := by kernel_rfl
theorem laid : laidOutB Try.prog = true := by kernel_rfl
set_option maxRecDepth 100000 in
theorem lifted (os : Os) (started : os.Started) (H : Type) (enc : TypeId × Value → H) :
 ReturnsInHanded {} Try.checked os 6 .any (Rows.waveEitherSpec.pre6 enc Try.prog Try.f6 Rows.waveEitherRow.domain false) (Rows.waveEitherSpec.post enc Try.prog Try.f6 false true false false) := by
 refine returnsInHanded_of_change_sized (C := Try.checked) own started (by kernel_rfl) Try.func6
  (ChangeSpec.witness6 (enc := enc) (C := Try.checked) false ⟨#[], #[.agg ⟨[.int .u8 0, .int .u8 0, .slice none 0 0, .int .u8 0, .int .u8 0, .int .u8 0, .int .u8 0, .int .u8 0, .int .u8 0, .int .u8 0, .int .u8 0, .int .u8 0, .int .u8 0, .slice none 0 0]⟩], []⟩ 8 (by kernel_rfl) (by kernel_rfl) (by kernel_rfl) (by kernel_rfl)) ?_
 intro W base args ds gs before hval0 hW hcnd hsz0 _
 have hval : ∀ (j : Nat) t v, Try.f6.params[j]? = some t → args[j]? = some v → Value.okWide Try.prog W .any base t v := hval0
 have hW' := hW
 obtain ⟨p, q, hA0, hV, rfl, hfz, hnd⟩ := hW
 have hA : DataW.TrodAll enc Try.prog W 0 (fun _ => true) true Try.f6.params.toList args.toList ds p := hA0
 rw [Try.params6] at hA hval
 obtain ⟨v0, vs0, d0, ds0, p0_, q0_, hargs, rfl, rfl, h0, r0⟩ := trodAll_cons hA
 obtain ⟨rfl, rfl, rfl⟩ := trodAll_nil r0
 obtain rfl : args = #[v0] := by cases args; simp_all
 obtain ⟨rfl, rfl⟩ := trodVars_none hV
 have l0 := Cl.open_leaves2 (n := 20) (show Cl.leaves2 Try.prog 20 53 = some [.flat (.int .u8), .flat (.int .u8), .list [.int .u8], .flat (.int .u8), .flat (.int .u8), .flat (.int .u8), .flat (.int .u8), .flat (.int .u8), .flat (.int .u8), .flat (.int .u8), .flat (.int .u8), .flat (.int .u8), .flat (.int .u8), .list [.int .u8]] from by kernel_rfl) h0
 have e0 := Cl.open_agg (by kernel_rfl) (hval 0 53 v0 rfl rfl)
 obtain ⟨p0, y0_0, c0, wp0, m0_0⟩ := Cl.lfits2.consI l0
 obtain ⟨p1, y0_1, rfl, wp1, m0_1⟩ := Cl.lfits2.consI m0_0
 obtain ⟨s0, y0_2, R0, rfl, k0, f0, m0_2⟩ := Cl.lfits2.consS m0_1
 obtain ⟨p2, rfl, wp2⟩ := Cl.rows_typed (enc := e5) (wf := fun x => (Lit.int .u8 x).wf = true) (fun r hr => by
  obtain ⟨a0, z0, rfl, w0, n0⟩ := Cl.lfits.consI hr
  obtain rfl := Cl.lfits.nil n0
  exact ⟨a0, rfl, w0⟩) f0
 obtain ⟨p3, y0_3, rfl, wp3, m0_3⟩ := Cl.lfits2.consI m0_2
 obtain ⟨p4, y0_4, rfl, wp4, m0_4⟩ := Cl.lfits2.consI m0_3
 obtain ⟨p5, y0_5, rfl, wp5, m0_5⟩ := Cl.lfits2.consI m0_4
 obtain ⟨p6, y0_6, rfl, wp6, m0_6⟩ := Cl.lfits2.consI m0_5
 obtain ⟨p7, y0_7, rfl, wp7, m0_7⟩ := Cl.lfits2.consI m0_6
 obtain ⟨p8, y0_8, rfl, wp8, m0_8⟩ := Cl.lfits2.consI m0_7
 obtain ⟨p9, y0_9, rfl, wp9, m0_9⟩ := Cl.lfits2.consI m0_8
 obtain ⟨p10, y0_10, rfl, wp10, m0_10⟩ := Cl.lfits2.consI m0_9
 obtain ⟨p11, y0_11, rfl, wp11, m0_11⟩ := Cl.lfits2.consI m0_10
 obtain ⟨p12, y0_12, rfl, wp12, m0_12⟩ := Cl.lfits2.consI m0_11
 obtain ⟨s1, y0_13, R1, rfl, k1, f1, m0_13⟩ := Cl.lfits2.consS m0_12
 obtain ⟨p13, rfl, wp13⟩ := Cl.rows_typed (enc := e5) (wf := fun x => (Lit.int .u8 x).wf = true) (fun r hr => by
  obtain ⟨a0, z0, rfl, w0, n0⟩ := Cl.lfits.consI hr
  obtain rfl := Cl.lfits.nil n0
  exact ⟨a0, rfl, w0⟩) f1
 obtain rfl := Cl.lfits2.nil m0_13
 rw [c0] at e0
 subst e0
 clear hA0 hval0 hsz0
 refine (walk p0 p1 p2 p3 p4 p5 p6 p7 p8 p9 p10 p11 p12 p13 s0 s1 wp0 wp1 wp2 wp3 wp4 wp5 wp6 wp7 wp8 wp9 wp10 wp11 wp12 wp13 W k0 k1).mono fun e W' ⟨he, bel⟩ => ?_
 subst he
 exact ⟨_, rfl, _, _, _, [], _, [], hW', trodAll_mk1 (shut_bool Try.underlying4 _), (trodAll_cons_mk (Below.trod laid (by kernel_rfl) (of_decide_eq_true (by kernel_rfl)) h0 bel (fun x hx => hW'.lt x (by simp [hx]))) trodAll_mk0), rfl, bel.frame _, fun h => by cases h⟩
theorem over : Rows.waveEitherRow.holds Try.pinned (OpenSpec.ofChange Rows.waveEitherSpec) :=
 OpenClaim.holds_of_wide 6 Try.f6 rfl rfl rfl rfl rfl rfl rfl ⟨rfl, rfl, rfl, rfl, rfl⟩ rfl rfl rfl rfl rfl (by kernel_rfl) Try.func6 (by kernel_rfl)
  (of_decide_eq_true (by kernel_rfl)) (by unfold Func.isWrapper; first | (rw [if_pos (by decide +kernel)]; kernel_rfl) | (rw [if_neg (by decide +kernel)]; exact ⟨rfl, rfl⟩))
  (fun os started H enc _ => lifted os started H enc)
theorem proved : Rows.WaveEitherSaid := over
#print axioms proved
end Go.Proofs.Ytdekbjfjbbdjgaa.waveEither
namespace Go.Proofs.Ytdekbjfjbbdjgaa
end Go.Proofs.Ytdekbjfjbbdjgaa
