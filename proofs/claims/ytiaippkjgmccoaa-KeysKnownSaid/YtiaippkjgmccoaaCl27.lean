/- What a law's row asks of its function, out of a run of the clean interpreter. -/
import Derived.Test.YtiaippkjgmccoaaCl26
set_option linter.unusedVariables false
namespace Go.Cl
open Go Go.RowKit

/-- The answer is true. -/
def saysTrue (x : Option (Value × List Blk)) : Bool :=
  match x with
  | some (.bool true, _) => true
  | _ => false

theorem saysTrue_spec {x : Option (Value × List Blk)} (h : saysTrue x = true) : ∃ new, x = some (.bool true, new) := by
  unfold saysTrue at h
  split at h
  · exact ⟨_, rfl⟩
  · cases h

theorem sumOk_none {E : Env} (h : ∀ g, E.sum g = none) (hI : E.isum = fun _ => none := by rfl) : SumOk E := SumOk.of hI fun g s args hp v new hs => by rw [h g] at hs; cases hs

/-- Nothing is known of any world: the empty heap. -/
theorem Rel.empty (P : Program) (w : World) : Rel P (fun _ => False) (fun _ => (0, 0)) (fun _ => 0) 0 w.heap.size (toF []) w where
  blk := fun i => trivial
  ro := fun i hi => absurd rfl hi
  own := fun i hi => absurd rfl hi
  inj := fun i j hi => absurd rfl hi
  size := Nat.le_refl _

/-- A law without arguments. -/
theorem law0 {E : Env} (hS : SumOk E) (hmix : E.P.follows .mixedOrders = true) {n : Nat} {g : FuncId} (h : saysTrue ((run E n).pcall g [] []) = true) (W : World) :
    Calls E.P g #[] W fun e W' => e = .returned (.bool true) ∧ Below W.heap.size W W' := by
  obtain ⟨new, hr⟩ := saysTrue_spec h
  have hP := answer hS hmix hr
  refine Calls.mono (hP.2 (fun _ => False) (fun _ => (0, 0)) (fun _ => 0) W [] (fun i hi => hi.elim) (Rel.empty _ W) .nil) ?_
  rintro e W' ⟨v', β', κ', rfl, hQ⟩
  have hv := hQ.val
  cases hv
  exact ⟨rfl, hQ.below⟩
end Go.Cl
