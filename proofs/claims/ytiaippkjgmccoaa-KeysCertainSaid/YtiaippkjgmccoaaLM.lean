/- Maps as lists of pairs: what is found. -/
import Derived.Test.YtiaippkjgmccoaaTsZ
set_option linter.unusedVariables false
namespace Go.Cl
section
variable {α β : Type} [DecidableEq α]
theorem mget_mput (l : List (α × β)) (k j : α) (x : β) : mget (mput l k x) j = if j = k then some x else mget l j := by
 induction l with
 | nil => simp [mput, mget]
 | cons p l ih =>
  obtain ⟨a, b⟩ := p
  by_cases h : k = a
  · subst h
    by_cases hj : j = k
    · subst hj; simp [mput, mget]
    simp [mput, mget, hj]
  by_cases hj : j = a
  · subst hj
    have : j ≠ k := fun e => h e.symm
    simp [mput, mget, h, this]
  simp only [mput, if_neg h, mget, if_neg hj, ih]
def keys (l : List (α × β)) : List α := l.map Prod.fst
theorem mget_none {l : List (α × β)} {k : α} : mget l k = none ↔ k ∉ keys l := by
 induction l with
 | nil => simp [mget, keys]
 | cons p l ih =>
  obtain ⟨a, b⟩ := p
  by_cases h : k = a
  · subst h; simp [mget, keys]
  simp [mget, keys, h] at ih ⊢; exact ih
theorem keys_mput (l : List (α × β)) (k : α) (x : β) : keys (mput l k x) = if k ∈ keys l then keys l else keys l ++ [k] := by
 induction l with
 | nil => simp [mput, keys]
 | cons p l ih =>
  obtain ⟨a, b⟩ := p
  by_cases h : k = a
  · subst h; simp [mput, keys]
  simp only [mput, if_neg h]
  have e : keys ((a, b) :: mput l k x) = a :: keys (mput l k x) := rfl
  have e2 : keys ((a, b) :: l) = a :: keys l := rfl
  rw [e, e2, ih]
  by_cases hm : k ∈ keys l
  · simp [hm]
  simp [hm, h]
theorem nodup_mput {l : List (α × β)} (k : α) (x : β) (h : (keys l).Nodup) : (keys (mput l k x)).Nodup := by
 rw [keys_mput]
 split
 · exact h
 rename_i hm
 rw [List.nodup_append]
 refine ⟨h, by simp, fun a ha b hb e => ?_⟩
 simp at hb; subst hb; subst e; exact hm ha
end
end Go.Cl
