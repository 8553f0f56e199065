/- The law WaveEnough holds: whatever the input, it returns true. Conditions: none. -/
import Derived.Test.YtdekbjfjbbdjgaaRows
import Derived.Test.YtdekbjfjbbdjgaaTs8
import Derived.Test.YtdekbjfjbbdjgaaTs10
import Derived.Test.YtdekbjfjbbdjgaaL13
import Derived.WalkKit
import Derived.ProofKit
import Derived.OpenShut
import Derived.ShutString
import Derived.ChangeOld
import Derived.Below
import Derived.Carry
import Derived.SizedLaws
namespace Go.Proofs.Ytdekbjfjbbdjgaa.waveEnough
open Go.ChangeShapes Go.WideShapes Go.ChangeAt Go.RowKit
set_option linter.unusedVariables false
theorem walk (p0 : Int) (p1 : Int) (p2 : Int) (p3 : List Int) (v3 : Value) (wp0 : (Lit.int .u8 p0).wf = true) (wp1 : (Lit.int .u8 p1).wf = true) (wp2 : (Lit.int .u8 p2).wf = true) (wp3 : ∀ x ∈ p3, (Lit.int .u8 x).wf = true) (W : World) (k0 : Cl.SlOk W (List.map e5 p3) v3) : Calls Try.prog 13 #[.int .u8 p0, .int .u8 p1, .int .u8 p2, v3] W fun e W' => e = .returned (.bool true) ∧ Below W.heap.size W W' :=
 by
 refine Cl.lawS (args := [.int .u8 p0, .int .u8 p1, .int .u8 p2, .slice (some ⟨0, 0, none⟩) (List.map e5 p3).length Cl.ANY]) [(5, List.map e5 p3, v3)] ?_ (fun D β κ hv => (.cons (.int _ _) (.cons (.int _ _) (.cons (.int _ _) (.cons (hv 0 _ rfl) .nil))))) (new := N13 0 true) ?_
 · intro x hx
   simp only [List.mem_cons, List.not_mem_nil, or_false] at hx
   rcases hx with rfl
   exact k0
 have h := C13 p0 p1 p2 p3 true (plain p0 p1 p2 p3 wp0 wp1 wp2 wp3 (by have hq := k0.ln; simp only [List.length_map, Cl.INF] at hq; exact hq))
 simp only [List.length_map]
 simp only [List.map_cons, List.map_nil, Cl.slBlk, List.length_map]
 exact h
theorem own : ownKnob Try.prog.godebug = none := by kernel_rfl
theorem laid : laidOutB Try.prog = true := by kernel_rfl
set_option maxRecDepth 100000 in
theorem lifted (os : Os) (started : os.Started) (H : Type) (enc : TypeId × Value → H) :
 ReturnsInHanded {} Try.checked os 13 .any (Rows.waveEnoughSpec.pre6 enc Try.prog Try.f13 Rows.waveEnoughRow.domain false) (Rows.waveEnoughSpec.post enc Try.prog Try.f13 false true false false) := by
 refine returnsInHanded_of_change_sized (C := Try.checked) own started (by kernel_rfl) Try.func13
  (ChangeSpec.witness6 (enc := enc) (C := Try.checked) false ⟨#[], #[.int .u8 0, .int .u8 0, .int .u8 0, .slice none 0 0], []⟩ 8 (by kernel_rfl) (by kernel_rfl) (by kernel_rfl) (by kernel_rfl)) ?_
 intro W base args ds gs before hval0 hW hcnd hsz0 _
 have hval : ∀ (j : Nat) t v, Try.f13.params[j]? = some t → args[j]? = some v → Value.okWide Try.prog W .any base t v := hval0
 have hW' := hW
 obtain ⟨p, q, hA0, hV, rfl, hfz, hnd⟩ := hW
 have hA : DataW.TrodAll enc Try.prog W 0 (fun _ => true) true Try.f13.params.toList args.toList ds p := hA0
 rw [Try.params13] at hA hval
 obtain ⟨v0, vs0, d0, ds0, p0_, q0_, hargs, rfl, rfl, h0, r0⟩ := trodAll_cons hA
 obtain ⟨v1, vs1, d1, ds1, p1_, q1_, rfl, rfl, rfl, h1, r1⟩ := trodAll_cons r0
 obtain ⟨v2, vs2, d2, ds2, p2_, q2_, rfl, rfl, rfl, h2, r2⟩ := trodAll_cons r1
 obtain ⟨v3, vs3, d3, ds3, p3_, q3_, rfl, rfl, rfl, h3, r3⟩ := trodAll_cons r2
 obtain ⟨rfl, rfl, rfl⟩ := trodAll_nil r3
 obtain rfl : args = #[v0, v1, v2, v3] := by cases args; simp_all
 obtain ⟨rfl, rfl⟩ := trodVars_none hV
 obtain ⟨p0, e0, _, _, wp0⟩ := open_int (show Try.prog.underlying 5 = some (.int .u8) from by kernel_rfl) (hval 0 5 v0 rfl rfl) h0
 subst e0
 obtain ⟨p1, e1, _, _, wp1⟩ := open_int (show Try.prog.underlying 5 = some (.int .u8) from by kernel_rfl) (hval 1 5 v1 rfl rfl) h1
 subst e1
 obtain ⟨p2, e2, _, _, wp2⟩ := open_int (show Try.prog.underlying 5 = some (.int .u8) from by kernel_rfl) (hval 2 5 v2 rfl rfl) h2
 subst e2
 have l3 := Cl.open_leaves2 (n := 20) (show Cl.leaves2 Try.prog 20 50 = some [.list [.int .u8]] from by kernel_rfl) h3
 obtain ⟨R0, k0, f0⟩ := Cl.open_sl (show Try.prog.underlying 50 = some (.slice 5) from by kernel_rfl) (hval 3 50 v3 rfl rfl) l3
 obtain ⟨p3, rfl, wp3⟩ := Cl.rows_typed (enc := e5) (wf := fun x => (Lit.int .u8 x).wf = true) (fun r hr => by
  obtain ⟨a0, z0, rfl, w0, n0⟩ := Cl.lfits.consI hr
  obtain rfl := Cl.lfits.nil n0
  exact ⟨a0, rfl, w0⟩) f0
 clear hA0 hval0 hsz0
 refine (walk p0 p1 p2 p3 v3 wp0 wp1 wp2 wp3 W k0).mono fun e W' ⟨he, bel⟩ => ?_
 subst he
 exact ⟨_, rfl, _, _, _, [], _, [], hW', trodAll_mk1 (shut_bool Try.underlying4 _), (trodAll_cons_mk (Below.trod laid (by kernel_rfl) (of_decide_eq_true (by kernel_rfl)) h0 bel (fun x hx => hW'.lt x (by simp [hx]))) (trodAll_cons_mk (Below.trod laid (by kernel_rfl) (of_decide_eq_true (by kernel_rfl)) h1 bel (fun x hx => hW'.lt x (by simp [hx]))) (trodAll_cons_mk (Below.trod laid (by kernel_rfl) (of_decide_eq_true (by kernel_rfl)) h2 bel (fun x hx => hW'.lt x (by simp [hx]))) (trodAll_cons_mk (Below.trod laid (by kernel_rfl) (of_decide_eq_true (by kernel_rfl)) h3 bel (fun x hx => hW'.lt x (by simp [hx]))) trodAll_mk0)))), rfl, bel.frame _, fun h => by cases h⟩
theorem over : Rows.waveEnoughRow.holds Try.pinned (OpenSpec.ofChange Rows.waveEnoughSpec) :=
 OpenClaim.holds_of_wide 13 Try.f13 rfl rfl rfl rfl rfl rfl rfl ⟨rfl, rfl, rfl, rfl, rfl⟩ rfl rfl rfl rfl rfl (by kernel_rfl) Try.func13 (by kernel_rfl)
  (of_decide_eq_true (by kernel_rfl)) (by unfold Func.isWrapper; first | (rw [if_pos (by decide +kernel)]; kernel_rfl) | (rw [if_neg (by decide +kernel)]; exact ⟨rfl, rfl⟩))
  (fun os started H enc _ => lifted os started H enc)
theorem proved : Rows.WaveEnoughSaid := over
#print axioms proved
end Go.Proofs.Ytdekbjfjbbdjgaa.waveEnough
namespace Go.Proofs.Ytdekbjfjbbdjgaa
end Go.Proofs.Ytdekbjfjbbdjgaa
