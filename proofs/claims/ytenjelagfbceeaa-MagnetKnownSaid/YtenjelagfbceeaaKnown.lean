/- The law MagnetKnown holds: it returns true (it takes no input). Conditions: none. -/
import Derived.Test.YtenjelagfbceeaaRows
import Derived.Test.YtenjelagfbceeaaCl28
import Derived.Test.YtenjelagfbceeaaWorked
import Derived.WalkKit
import Derived.ProofKit
import Derived.OpenShut
import Derived.ShutString
import Derived.ChangeOld
import Derived.Below
import Derived.SizedLaws
namespace Go.Proofs.Ytenjelagfbceeaa.magnetKnown
open Go.ChangeShapes Go.WideShapes Go.ChangeAt Go.RowKit
set_option linter.unusedVariables false
/-- The chapter's examples hold, whatever the heap. -/
def told (g : FuncId) : Option (List Value → List Cl.Blk → Option (Value × List Cl.Blk)) :=
  if g == 22 then some (fun args _ => match args with | [] => some (.bool true, []) | _ => none) else none
noncomputable def env : Cl.Env := { worked.env0 with sum := told }
theorem anyHeap {P : Program} {f : FuncId} {new : List Cl.Blk} (hP : Cl.PureSim P f [] [] (.bool true) new) (h : List Cl.Blk) : Cl.PureSim P f [] h (.bool true) [] := by
  refine ⟨hP.1, fun D β κ w args' hD hR ha => ?_⟩
  cases ha.unnil
  refine Calls.mono (hP.2 (fun _ => False) (fun _ => (0, 0)) (fun _ => 0) w [] (fun i hi => hi.elim) (Cl.Rel.empty _ w) .nil) ?_
  rintro e w' ⟨v', β', κ', rfl, hQ⟩
  have hv := hQ.val
  cases hv
  exact ⟨_, β, κ, rfl, { ext := fun _ _ => ⟨rfl, rfl⟩, val := .bool _, below := hQ.below, keep := fun B hB _ => hQ.below.block B hB, new := fun j b hj => by simp at hj, inj := fun i j b c hi => by simp at hi, upd := fun k b hk => by cases hk }⟩
theorem sumOk : Cl.SumOk env := by
  intro g s args h v new hs hv
  obtain ⟨n_w, hw⟩ := Cl.saysTrue_spec worked.works
  have hP := Cl.answer worked.ok1 worked.mixed hw
  simp only [env, told] at hs
  split at hs
  · rename_i hg
    cases hs
    simp only [beq_iff_eq] at hg
    subst hg
    cases args with
    | nil => cases hv; exact anyHeap hP h
    | cons a l => cases hv
  · cases hs
theorem ran : Cl.saysTrue ((Cl.run env 3000).pcall 12 [] []) = true := by kernel_rfl
theorem mixed : env.P.follows .mixedOrders = true := worked.mixed
theorem walk (W : World) : Calls Try.prog 12 #[] W fun e W' => e = .returned (.bool true) ∧ Below W.heap.size W W' :=
  Cl.law0 sumOk mixed ran W
theorem own : ownKnob Try.prog.godebug = none := by kernel_rfl
set_option maxRecDepth 100000 in
theorem lifted (os : Os) (started : os.Started) (H : Type) (enc : TypeId × Value → H) :
    ReturnsInHanded {} Try.checked os 12 .any (Rows.magnetKnownSpec.pre6 enc Try.prog Try.f12 Rows.magnetKnownRow.domain false) (Rows.magnetKnownSpec.post enc Try.prog Try.f12 false true false false) := by
  refine returnsInHanded_of_change_sized (C := Try.checked) own started (by kernel_rfl) Try.func12
    (ChangeSpec.witness6 (enc := enc) (C := Try.checked) false ⟨#[], #[], []⟩ 8 (by kernel_rfl) (by kernel_rfl) (by kernel_rfl) (by kernel_rfl)) ?_
  intro W base args ds gs before hval0 hW hcnd hsz0 _
  have hW' := hW
  obtain ⟨p, q, hA0, hV, rfl, hfz, hnd⟩ := hW
  have hA : DataW.TrodAll enc Try.prog W 0 (fun _ => true) true Try.f12.params.toList args.toList ds p := hA0
  rw [Try.params12] at hA
  obtain ⟨rfl, rfl, rfl⟩ := trodAll_none hA
  obtain ⟨rfl, rfl⟩ := trodVars_none hV
  clear hA0 hval0 hsz0
  refine (walk W).mono fun e W' ⟨he, bel⟩ => ?_
  subst he
  exact ⟨_, rfl, _, _, _, [], _, [], hW', trodAll_mk1 (shut_bool Try.underlying4 _), trodAll_mk0, rfl, bel.frame _, fun h => by cases h⟩
theorem over : Rows.magnetKnownRow.holds Try.pinned (OpenSpec.ofChange Rows.magnetKnownSpec) :=
  OpenClaim.holds_of_wide 12 Try.f12 rfl rfl rfl rfl rfl rfl rfl ⟨rfl, rfl, rfl, rfl, rfl⟩ rfl rfl rfl rfl rfl (by kernel_rfl) Try.func12 (by kernel_rfl)
    (of_decide_eq_true (by kernel_rfl)) (by unfold Func.isWrapper; first | (rw [if_pos (by decide +kernel)]; kernel_rfl) | (rw [if_neg (by decide +kernel)]; exact ⟨rfl, rfl⟩))
    (fun os started H enc _ => lifted os started H enc)
theorem proved : Rows.MagnetKnownSaid := over
#print axioms proved
end Go.Proofs.Ytenjelagfbceeaa.magnetKnown
namespace Go.Proofs.Ytenjelagfbceeaa
/-- The row, under a short name, for the claim. -/
theorem magnetKnown_holds : Rows.MagnetKnownSaid := magnetKnown.proved
end Go.Proofs.Ytenjelagfbceeaa
