/- The ring that is returned: it is one, and clashes. -/
import Derived.Test.YtdekbjfjbbdjgaaLWc
set_option linter.unusedVariables false
namespace Go.Cl
theorem len_le_sub {α : Type} [DecidableEq α] : ∀ {l m : List α}, l.Nodup → (∀ x ∈ l, x ∈ m) → l.length ≤ m.length
 | [], m, _, _ => Nat.zero_le _
 | x :: l, m, hn, hs => by
  have hn' := List.nodup_cons.1 hn
  have hx : x ∈ m := hs x (by simp)
  have := len_le_sub (l := l) (m := m.erase x) hn'.2 (fun y hy => by
   have hne : y ≠ x := fun e => hn'.1 (e ▸ hy)
   exact (List.mem_erase_of_ne hne).2 (hs y (by simp [hy])))
  rw [List.length_erase_of_mem hx] at this
  have := List.length_pos_of_mem hx
  simp only [List.length_cons]
  omega
end Go.Cl
namespace Go.Proofs.Ytdekbjfjbbdjgaa.plain
open Go Go.Cl
section
variable {S M : Int} {rd : List (Int × Int)} {out : Out}
end
end Go.Proofs.Ytdekbjfjbbdjgaa.plain
