/- Calls and rounds: a function from its body; a function that was called; a round of a loop over a function. -/
import Derived.Test.YtiaippkjgmccoaaCl14
import Derived.LoopNIn
set_option linter.unusedSimpArgs false
set_option linter.unusedVariables false
namespace Go.Cl
open Go Go.RowKit

/-- What a piece of code must achieve; a loop: within m rounds. -/
def CodeWp (F : Fence) (P : Program) (m : Nat) (Q : Exit → Act → World → Prop) (c : Code) (a : Act) (w : World) : Prop :=
  match c with
  | .loop c => Code.roundsIn F 0 P c Q m a w
  | c => c.wpIn F 0 P Q a w

theorem CodeWp.wp {F : Fence} {P : Program} {m : Nat} {Q : Exit → Act → World → Prop} {c : Code} {a : Act} {w : World} (h : CodeWp F P m Q c a w) : c.wpIn F 0 P Q a w := by
  unfold CodeWp at h
  split at h
  · exact wpIn_loop_rounds m h
  · exact h

/-- The round in which the code stands, clean and real. -/
def RoR (D : Nat → Prop) (β : Nat → Nat × Nat) (ro R : Option Nat) : Prop := (ro = none ∧ R = none) ∨ ∃ l0, ro = some l0 ∧ D l0 ∧ R = some (β l0).1

def CodeSim (P : Program) (m : Nat) (ro : Option Nat) (base : Nat) (c : Code) (a : CAct) (h : List Blk) (e : Exit) (a1 : CAct) (h1 : List Blk) : Prop :=
  ∀ (D : Nat → Prop) β κ (N : Nat) (w : World) (a' : Act) (R : Option Nat) (Q : Exit → Act → World → Prop), (∀ i, D i → i < h.length) → base ≤ h.length → Rel P D β κ base N (toF h) w → ActR D β κ a a' → RoR D β ro R →
    (∀ β' κ' w' a1', Out P D β κ base N h w h1 w' β' κ' → ActR (Up D h h1) β' κ' a1 a1' → Q e a1' w') → CodeWp (FW R) P m Q c a' w

def ImpSim (P : Program) (g : FuncId) (args : List Value) (base : Nat) (h : List Blk) (v : Value) (h1 : List Blk) : Prop :=
  Enters P g ∧ ∀ (D : Nat → Prop) β κ (N : Nat) (w : World) (args' : List Value), (∀ i, D i → i < h.length) → base ≤ h.length → Rel P D β κ base N (toF h) w → LR D β κ args args' →
    Calls P g ⟨args'⟩ w fun e w' => ∃ v' β' κ', e = .returned v' ∧ Out P D β κ base N h w h1 w' β' κ' ∧ VR (Up D h h1) β' κ' v v'

structure Sound (E : Env) (m : Nat) (r : Rec) : Prop where
  pcall : ∀ g args h v new, r.pcall g args h = some (v, new) → PureSim E.P g args h v new
  icall : ∀ g args base h v h1, r.icall g args base h = some (v, h1) → ImpSim E.P g args base h v h1
  code : ∀ ro base c a h e a1 h1, r.code ro base c a h = some (e, a1, h1) → CodeSim E.P m ro base c a h e a1 h1

/-- What is told of functions is true. -/
structure SumOk (E : Env) : Prop where
  pure : ∀ g s args h v new, E.sum g = some s → s args h = some (v, new) → PureSim E.P g args h v new
  imp : ∀ g s args base h v h1, E.isum g = some s → s args base h = some (v, h1) → ImpSim E.P g args base h v h1
theorem SumOk.of {E : Env} (hI : E.isum = fun _ => none) (hp : ∀ g s args h v new, E.sum g = some s → s args h = some (v, new) → PureSim E.P g args h v new) : SumOk E :=
  ⟨hp, fun g s args base h v h1 hs => by rw [hI] at hs; cases hs⟩

theorem callQ_sound {E : Env} {m : Nat} {r : Rec} (hS : SumOk E) (hr : Sound E m r) (h : List Blk) (g : FuncId) (args : List Value) (v : Value) (new : List Blk) (hc : callQ E r g args h = some (v, new)) :
    PureSim E.P g args h v new := by
  unfold callQ at hc
  split at hc
  · rename_i p hp
    cases hc
    split at hp
    · rename_i s hs; exact hS.pure g s args h v new hs hp
    · cases hp
  · split at hc
    · cases hc
    · exact hr.pcall g args h v new hc

section
variable {P : Program} {w : World} {D : Nat → Prop} {β : Nat → Nat × Nat} {κ : Nat → Nat} {base N n : Nat} {H : Nat → Blk}

theorem slot_sim {a : CAct} {a' : Act} {h : List Blk} {t : TypeId} {x : Tmp} {v : Value} (hR : Rel P D β κ base N (toF h) w) (hA : ActR D β κ a a') (hl : cLoad P h t (getT a.tmps x) = some v) :
    ∃ v', (do loadVar t (← asAddr (a'.tmps.getD x undef))).run P w = .ok v' w ∧ VR D β κ v v' := by
  have hx : VR D β κ (getT a.tmps x) (a'.tmps.getD x undef) := hA.eval (.tmp x)
  obtain ⟨v', h1, h2⟩ := load_sim hl hR hx
  refine ⟨v', ?_, h2⟩
  generalize a'.tmps.getD x undef = av at h1 hx
  generalize getT a.tmps x = cv at hl hx
  unfold cLoad at hl
  split at hl
  · cases hx with
    | ptr i o hi => simpa [Instr.loadAt, Instr.sureAddr, asAddr] using h1
  · cases hl

def slotRun (tmps : Array Value) : ResultVar → Sem Value
  | .tmp t => pure (tmps.getD t undef)
  | .cell x t => do loadVar t (← asAddr (tmps.getD x undef))
theorem results_eq (fn : Func) (tmps : Array Value) : results fn tmps = (do let vs ← fn.results.mapM (slotRun tmps); pure (if h : vs.size = 1 then vs[0] else .tuple vs)) := rfl

theorem results_list {a : CAct} {a' : Act} {h : List Blk} (hR : Rel P D β κ base N (toF h) w) (hA : ActR D β κ a a') : ∀ (l : List ResultVar) (vs : List Value),
    l.mapM (fun | .tmp t => some (getT a.tmps t) | .cell x t => cLoad P h t (getT a.tmps x)) = some vs →
    ∃ vs', (l.mapM (slotRun a'.tmps)).run P w = .ok vs' w ∧ LR D β κ vs vs'
  | [], vs, h => by simp at h; subst h; exact ⟨[], by simp, .nil⟩
  | s :: l, vs, hm => by
    rw [List.mapM_cons] at hm
    cases s with
    | tmp t =>
      simp only [Option.pure_def, Option.bind_eq_bind, Option.bind_some] at hm
      cases hrest : l.mapM (fun | .tmp t => some (getT a.tmps t) | .cell x t => cLoad P h t (getT a.tmps x)) with
      | none => rw [hrest] at hm; cases hm
      | some us =>
        rw [hrest] at hm
        cases hm
        obtain ⟨us', h1, h2⟩ := results_list hR hA l us hrest
        refine ⟨a'.tmps.getD t undef :: us', ?_, LR.cons (hA.eval (.tmp t)) h2⟩
        rw [List.mapM_cons]
        simp only [slotRun, Sem.run_bind, Sem.run_pure, Result.andThen_ok, h1]
    | cell x t =>
      simp only [Option.pure_def, Option.bind_eq_bind] at hm
      cases hl : cLoad P h t (getT a.tmps x) with
      | none => rw [hl] at hm; cases hm
      | some v =>
        rw [hl] at hm
        simp only [Option.bind_some] at hm
        cases hrest : l.mapM (fun | .tmp t => some (getT a.tmps t) | .cell x t => cLoad P h t (getT a.tmps x)) with
        | none => rw [hrest] at hm; cases hm
        | some us =>
          rw [hrest] at hm
          cases hm
          obtain ⟨us', h1, h2⟩ := results_list hR hA l us hrest
          obtain ⟨v', h3, h4⟩ := slot_sim hR hA hl
          refine ⟨v' :: us', ?_, LR.cons h4 h2⟩
          rw [List.mapM_cons, Sem.run_bind, show (slotRun a'.tmps (.cell x t)).run P w = _ from h3]
          simp only [Sem.run_bind, Sem.run_pure, Result.andThen_ok, h1]

theorem results_sim {fn : Func} {a : CAct} {a' : Act} {h : List Blk} {v : Value} (hR : Rel P D β κ base N (toF h) w) (hA : ActR D β κ a a') (hc : cResults P fn a h = some v) :
    ∃ v', (results fn a'.tmps).run P w = .ok v' w ∧ VR D β κ v v' := by
  unfold cResults at hc
  generalize hm : fn.results.toList.mapM (m := Option) _ = m at hc
  cases m with
  | none => cases hc
  | some vs =>
    obtain ⟨vs', h1, h2⟩ := results_list hR hA _ _ hm
    have hrun2 : (results fn a'.tmps).run P w = (pure (if h : (⟨vs'⟩ : Array Value).size = 1 then (⟨vs'⟩ : Array Value)[0] else .tuple ⟨vs'⟩) : Sem Value).run P w := by
      rw [results_eq, Array.mapM_eq_mapM_toList, Sem.run_bind, Sem.run_map, h1]
      rfl
    rw [hrun2]
    split at hc
    · rename_i v1 heq
      cases hc
      cases heq
      obtain ⟨v', l', rfl, hv, hl⟩ := h2.uncons
      cases hl.unnil
      exact ⟨v', by simp, hv⟩
    · rename_i us hne heq
      cases hc
      cases heq
      have hne' : ¬ vs'.length = 1 := by
        rw [← h2.len]
        intro h1
        obtain ⟨x, hx⟩ := List.length_eq_one_iff.1 h1
        exact hne x (by rw [hx])
      exact ⟨.tuple ⟨vs'⟩, by simp [hne'], .tuple _ _ h2.len h2.at_⟩
    · rename_i heq; cases heq
end
end Go.Cl
