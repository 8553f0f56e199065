/- First, Certain and Broken answer as the reference does. -/
import Derived.Test.YtiaippkjgmccoaaLK3
set_option linter.unusedVariables false
namespace Go.Proofs.Ytiaippkjgmccoaa.plain
open Go Go.Cl
section
variable {T : Int} {rs : Rules} {l : List Case}
theorem cons_get {α : Type} {l : List α} {v : Nat} (d : α) (hlt : v < l.length) : l.getD v d = l[v] := by rw [List.getD_eq_getElem?_getD, List.getElem?_eq_getElem hlt]; rfl
theorem w64_up {v : Nat} (h : v ≤ 1000000) : w64 ((v : Int) + 1) = ((v + 1 : Nat) : Int) := by rw [w64_in (by omega) (by omega)]; omega
theorem F16_eq (hrs : rs.length ≤ 1000) : F16 T rs = some (T, rs) := by
 have go : ∀ (d v : Nat), v + d = rs.length → F16l0 T rs v (rs.take v) = some rs := by
  intro d
  induction d with
  | zero => intro v hd; rw [F16l0, if_neg (by simp; omega), List.take_of_length_le (by omega)]
  | succ d ih =>
   intro v hd
   have hlt : v < rs.length := by omega
   rw [F16l0, if_pos (by simp; omega), if_pos ⟨by omega, by omega⟩, w64_up (by omega)]
   simp only [Option.bind_eq_bind, Option.bind_some, show ((v : Int)).toNat = v from rfl, cons_get _ hlt]
   rw [if_pos (by rw [List.length_take]; omega)]
   have := ih (v + 1) (by omega)
   rw [List.take_add_one, List.getElem?_eq_getElem hlt] at this
   exact this
 unfold F16
 have := go rs.length 0 (by omega)
 rw [List.take_zero] at this
 rw [show (0 : Int) = ((0 : Nat) : Int) from rfl, this]
 rfl
theorem F17_eq (hl : l.length ≤ 1000) : F17 l = some l := by
 have go : ∀ (d v : Nat), v + d = l.length → F17l0 l (l.take v) v = some l := by
  intro d
  induction d with
  | zero => intro v hd; rw [F17l0, if_neg (by simp; omega), List.take_of_length_le (by omega)]
  | succ d ih =>
   intro v hd
   have hlt : v < l.length := by omega
   rw [F17l0, if_pos (by simp; omega), if_pos ⟨by omega, by omega⟩, w64_up (by omega)]
   simp only [Option.bind_eq_bind, Option.bind_some, show ((v : Int)).toNat = v from rfl, cons_get _ hlt]
   rw [if_pos (by rw [List.length_take]; omega)]
   have := ih (v + 1) (by omega)
   rw [List.take_add_one, List.getElem?_eq_getElem hlt] at this
   exact this
 unfold F17
 have := go l.length 0 (by omega)
 rw [List.take_zero] at this
 rw [show (0 : Int) = ((0 : Nat) : Int) from rfl, this]
 rfl
end
end Go.Proofs.Ytiaippkjgmccoaa.plain
