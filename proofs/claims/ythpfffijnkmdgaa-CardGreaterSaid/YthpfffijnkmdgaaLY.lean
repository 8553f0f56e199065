/- Segments of two cards that lead to one another; the sorted card that leads back. -/
import Derived.Test.YthpfffijnkmdgaaLX
set_option linter.unusedVariables false
set_option linter.unusedSimpArgs false
set_option maxRecDepth 100000
namespace Go.Proofs.Ythpfffijnkmdgaa.plain
open Go Go.Cl
section
variable {c b : Card} {i k r : Nat} {m n p q : Int} {x y z u v : Rat}
theorem same_turn {a : Rat} {w : Int} (h1 : a ≤ u) (h2 : u < a + ((3600 : Int) : Rat)) (h3 : a ≤ v) (h4 : v < a + ((3600 : Int) : Rat)) (e : u = v + ((3600 * w : Int) : Rat)) : u = v := by
 rcases Int.lt_trichotomy w 0 with h | h | h
 · have := Rat.intCast_le_intCast.2 (show 3600 * w ≤ -3600 by omega)
   have e2 : ((-3600 : Int) : Rat) = -((3600 : Int) : Rat) := Rat.intCast_neg 3600
   rw [e2] at this
   generalize ((3600 : Int) : Rat) = W at *
   exfalso
   grind
 · subst h
   have : ((3600 * 0 : Int) : Rat) = 0 := rfl
   rw [this] at e
   grind
 have := Rat.intCast_le_intCast.2 (show 3600 ≤ 3600 * w by omega)
 generalize ((3600 : Int) : Rat) = W at *
 exfalso
 grind
theorem lies_turn (hb : Ok b) (g : Lies b k u) : ((A b 0).1 : Rat) ≤ u ∧ u < ((A b 0).1 : Rat) + ((3600 : Int) : Rat) := by
 have f1 := Rat.intCast_le_intCast.2 (hb.first_le g.1)
 have f2 := Rat.intCast_le_intCast.2 (hb.end_le g.1)
 have := g.2.1
 have := g.2.2
 rw [Rat.intCast_add] at f2
 generalize ((3600 : Int) : Rat) = W at *
 constructor <;> grind
theorem norm_turns (c : Card) (x : Rat) : ∃ w : Int, norm c x = x + ((3600 * w : Int) : Rat) := by
 unfold norm
 split
 · exact ⟨1, rfl⟩
 exact ⟨0, by show x = x + 0; grind⟩
theorem wrap_turns (x : Rat) : ∃ w : Int, wrap x = x + ((3600 * w : Int) : Rat) := by
 unfold wrap
 split
 · exact ⟨0, by show x = x + 0; grind⟩
 exact ⟨-1, rfl⟩
theorem rm_turns (x : Rat) : ∃ w : Int, rm x = x + ((3600 * w : Int) : Rat) := by
 unfold rm
 split
 · exact ⟨1, rfl⟩
 exact wrap_turns x
theorem turns_add (a d : Int) : ((3600 * a : Int) : Rat) + ((3600 * d : Int) : Rat) = ((3600 * (a + d) : Int) : Rat) := by rw [← Rat.intCast_add, Int.mul_add]
theorem B_in (h : i + 1 < c.length) : B c i = A c (i + 1) := if_neg (by omega)
theorem B_end (h : i + 1 = c.length) : B c i = ((A c 0).1 + 3600, (A c 0).2) := if_pos h
end
end Go.Proofs.Ythpfffijnkmdgaa.plain
