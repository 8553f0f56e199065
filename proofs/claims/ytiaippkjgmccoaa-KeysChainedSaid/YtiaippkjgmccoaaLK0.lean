/- Rules of two cases each: what leads where, which cases agree, and that then some values make all true. -/
import Derived.KernelRfl
set_option linter.unusedVariables false
namespace Go.Proofs.Ytiaippkjgmccoaa.plain
abbrev Case := Int × Bool
abbrev Rules := List (Case × Case)
def ctr (c : Case) : Case := (c.1, !c.2)
theorem ctr_ctr (c : Case) : ctr (ctr c) = c := by unfold ctr; simp
def Leads (rs : Rules) (x y : Case) : Prop := ∃ r ∈ rs, (r.1 = ctr x ∧ r.2 = y) ∨ (r.2 = ctr x ∧ r.1 = y)
section
variable {rs : Rules} {x y z c : Case} {l : List Case}
theorem Leads.skew (h : Leads rs x y) : Leads rs (ctr y) (ctr x) := by
 obtain ⟨r, hr, ⟨a, b⟩ | ⟨a, b⟩⟩ := h
 · exact ⟨r, hr, .inr ⟨by rw [ctr_ctr, b], a⟩⟩
 exact ⟨r, hr, .inl ⟨by rw [ctr_ctr, b], a⟩⟩
inductive Reach (rs : Rules) (x : Case) : Case → Prop where
 | refl : Reach rs x x
 | step {y z : Case} (h : Reach rs x y) (e : Leads rs y z) : Reach rs x z
def From (rs : Rules) (l : List Case) (y : Case) : Prop := ∃ x ∈ l, Reach rs x y
def so (v : Int → Bool) (c : Case) : Prop := v c.1 = c.2
def Sat (rs : Rules) (v : Int → Bool) : Prop := ∀ r ∈ rs, so v r.1 ∨ so v r.2
variable {v : Int → Bool}
theorem so_ctr : so v (ctr c) ↔ ¬ so v c := by
 unfold so ctr
 cases v c.1 <;> cases c.2 <;> simp
theorem Sat.lead (h : Sat rs v) (e : Leads rs x y) (hx : so v x) : so v y := by
 obtain ⟨r, hr, ⟨a, b⟩ | ⟨a, b⟩⟩ := e
 · rcases h r hr with g | g
   · rw [a, so_ctr] at g; exact absurd hx g
   rwa [b] at g
 rcases h r hr with g | g
 · rwa [b] at g
 rw [a, so_ctr] at g; exact absurd hx g
theorem Sat.reach (h : Sat rs v) (e : Reach rs x y) (hx : so v x) : so v y := by
 induction e with
 | refl => exact hx
 | step _ e ih => exact h.lead e ih
end
end Go.Proofs.Ytiaippkjgmccoaa.plain
