/- Rules of two cases each: what leads where, which cases agree, and that then some values make all true. -/
import Derived.KernelRfl
set_option linter.unusedVariables false
namespace Go.Proofs.Ytiaippkjgmccoaa.plain
abbrev Case := Int × Bool
abbrev Rules := List (Case × Case)
def ctr (c : Case) : Case := (c.1, !c.2)
theorem ctr_ctr (c : Case) : ctr (ctr c) = c := by unfold ctr; simp
theorem ctr_ne (c : Case) : ctr c ≠ c := fun h => by
 have := congrArg Prod.snd h
 unfold ctr at this
 cases hc : c.2 <;> rw [hc] at this <;> cases this
def Leads (rs : Rules) (x y : Case) : Prop := ∃ r ∈ rs, (r.1 = ctr x ∧ r.2 = y) ∨ (r.2 = ctr x ∧ r.1 = y)
section
variable {rs : Rules} {x y z c : Case} {l : List Case}
theorem Leads.skew (h : Leads rs x y) : Leads rs (ctr y) (ctr x) := by
 obtain ⟨r, hr, ⟨a, b⟩ | ⟨a, b⟩⟩ := h
 · exact ⟨r, hr, .inr ⟨by rw [ctr_ctr, b], a⟩⟩
 exact ⟨r, hr, .inl ⟨by rw [ctr_ctr, b], a⟩⟩
inductive Reach (rs : Rules) (x : Case) : Case → Prop where
 | refl : Reach rs x x
 | step {y z : Case} (h : Reach rs x y) (e : Leads rs y z) : Reach rs x z
theorem Reach.trans (h : Reach rs x y) (g : Reach rs y z) : Reach rs x z := by
 induction g with
 | refl => exact h
 | step _ e ih => exact ih.step e
theorem Reach.one (e : Leads rs x y) : Reach rs x y := Reach.refl.step e
theorem Reach.skew (h : Reach rs x y) : Reach rs (ctr y) (ctr x) := by
 induction h with
 | refl => exact .refl
 | step _ e ih => exact (Reach.one e.skew).trans ih
theorem Reach.skew' (h : Reach rs x (ctr y)) : Reach rs y (ctr x) := by have := h.skew; rwa [ctr_ctr] at this
def From (rs : Rules) (l : List Case) (y : Case) : Prop := ∃ x ∈ l, Reach rs x y
def Agrees (rs : Rules) (l : List Case) : Prop := ∀ y, From rs l y → ¬ From rs l (ctr y)
def Wrong (rs : Rules) : Prop := ∃ x, Reach rs x (ctr x) ∧ Reach rs (ctr x) x
theorem agrees_iff : Agrees rs l ↔ ∀ x ∈ l, ∀ y ∈ l, ¬ Reach rs x (ctr y) := by
 constructor
 · intro h x hx y hy hr
   exact h y ⟨y, hy, .refl⟩ ⟨x, hx, hr⟩
 rintro h y ⟨x, hx, a⟩ ⟨z, hz, b⟩
 exact h x hx z hz (a.trans b.skew')
theorem extend (hw : ¬ Wrong rs) (ha : Agrees rs l) (hn : ¬ Agrees rs (l ++ [c])) : Agrees rs (l ++ [ctr c]) := by
 rw [agrees_iff] at ha hn ⊢
 have h1 : (∃ g ∈ l, Reach rs g (ctr c)) ∨ Reach rs c (ctr c) := by
  refine Classical.byContradiction fun hno => hn fun x hx y hy hr => ?_
  rcases List.mem_append.1 hx with hx | hx <;> rcases List.mem_append.1 hy with hy | hy
  · exact ha x hx y hy hr
  · rw [List.mem_singleton.1 hy] at hr; exact hno (.inl ⟨x, hx, hr⟩)
  · rw [List.mem_singleton.1 hx] at hr; exact hno (.inl ⟨y, hy, hr.skew'⟩)
  rw [List.mem_singleton.1 hx, List.mem_singleton.1 hy] at hr; exact hno (.inr hr)
 have key : ∀ g ∈ l, ¬ Reach rs g c := fun g hg hr => by
  rcases h1 with ⟨k, hk, h⟩ | h
  · exact ha k hk g hg (h.trans hr.skew)
  exact ha g hg g hg ((hr.trans h).trans hr.skew)
 intro x hx y hy hr
 rcases List.mem_append.1 hx with hx | hx <;> rcases List.mem_append.1 hy with hy | hy
 · exact ha x hx y hy hr
 · rw [List.mem_singleton.1 hy, ctr_ctr] at hr; exact key x hx hr
 · rw [List.mem_singleton.1 hx] at hr
   have := hr.skew'
   rw [ctr_ctr] at this
   exact key y hy this
 rw [List.mem_singleton.1 hx, List.mem_singleton.1 hy, ctr_ctr] at hr
 rcases h1 with ⟨g, hg, h⟩ | h
 · exact key g hg (h.trans hr)
 exact hw ⟨c, h, hr⟩
def so (v : Int → Bool) (c : Case) : Prop := v c.1 = c.2
def Sat (rs : Rules) (v : Int → Bool) : Prop := ∀ r ∈ rs, so v r.1 ∨ so v r.2
variable {v : Int → Bool}
theorem so_ctr : so v (ctr c) ↔ ¬ so v c := by
 unfold so ctr
 cases v c.1 <;> cases c.2 <;> simp
theorem Sat.lead (h : Sat rs v) (e : Leads rs x y) (hx : so v x) : so v y := by
 obtain ⟨r, hr, ⟨a, b⟩ | ⟨a, b⟩⟩ := e
 · rcases h r hr with g | g
   · rw [a, so_ctr] at g; exact absurd hx g
   rwa [b] at g
 rcases h r hr with g | g
 · rwa [b] at g
 rw [a, so_ctr] at g; exact absurd hx g
theorem Sat.reach (h : Sat rs v) (e : Reach rs x y) (hx : so v x) : so v y := by
 induction e with
 | refl => exact hx
 | step _ e ih => exact h.lead e ih
theorem Sat.agrees (h : Sat rs v) (hl : ∀ x ∈ l, so v x) : Agrees rs l := by
 rw [agrees_iff]
 exact fun x hx y hy hr => so_ctr.1 (h.reach hr (hl x hx)) (hl y hy)
theorem Sat.not_wrong (h : Sat rs v) : ¬ Wrong rs := by
 rintro ⟨x, a, b⟩
 by_cases c : so v x
 · exact so_ctr.1 (h.reach a c) c
 exact c (h.reach b (so_ctr.2 c))
end
end Go.Proofs.Ytiaippkjgmccoaa.plain
