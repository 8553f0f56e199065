/- A sound card's course rises; greater deviations give greater allowances. -/
import Derived.Test.YthpfffijnkmdgaaLV
import Derived.Test.YthpfffijnkmdgaaLM
set_option linter.unusedVariables false
set_option linter.unusedSimpArgs false
set_option maxRecDepth 100000
namespace Go.Proofs.Ythpfffijnkmdgaa.plain
open Go Go.Cl
section
variable {l h c : Card} {m n p : Int} {i j : Nat} {x y z : Rat}
def tt (c : Card) (i : Nat) (y : Rat) : Rat := (y - ((A c i).1 : Rat)) / (((B c i).1 : Rat) - ((A c i).1 : Rat))
theorem seg_t (hc : Ok c) (g : Lies c i y) : 0 ≤ tt c i y ∧ tt c i y < 1 ∧ y = ((A c i).1 : Rat) + tt c i y * (((B c i).1 : Rat) - ((A c i).1 : Rat)) ∧ devAt c i y = ((A c i).2 : Rat) + tt c i y * (((B c i).2 : Rat) - ((A c i).2 : Rat)) ∧ 0 < ((B c i).1 : Rat) - ((A c i).1 : Rat) := by
 obtain ⟨hi, h1, h2⟩ := g
 obtain ⟨s1, s2, s3, s4, s5⟩ := hc.seg hi
 have hL : (0 : Rat) < ((B c i).1 : Rat) - ((A c i).1 : Rat) := by
  have := Rat.intCast_lt_intCast.2 s1
  grind
 unfold devAt tt
 rw [Rat.divInt_eq_div, Rat.intCast_sub (B c i).2, Rat.intCast_sub (B c i).1, Rat.intCast_neg]
 generalize ((B c i).2 : Rat) = b2 at *
 generalize ((A c i).2 : Rat) = a2 at *
 generalize ((B c i).1 : Rat) = b1 at *
 generalize ((A c i).1 : Rat) = a1 at *
 have e : (y - a1) / (b1 - a1) * (b1 - a1) = y - a1 := Rat.div_mul_cancel (by grind)
 refine ⟨?_, ?_, by grind, ?_, hL⟩
 · rw [← Rat.not_lt, Rat.div_lt_iff hL, Rat.zero_mul, Rat.not_lt]; grind
 · rw [Rat.div_lt_iff hL, Rat.one_mul]; grind
 generalize b1 - a1 = L at *
 grind
theorem val_eq (hc : Ok c) (g : Lies c i y) : y + devAt c i y = ((ca c i : Int) : Rat) + tt c i y * (((cb c i : Int) : Rat) - ((ca c i : Int) : Rat)) := by
 obtain ⟨_, _, e1, e2, _⟩ := seg_t hc g
 have f1 : ((ca c i : Int) : Rat) = ((A c i).1 : Rat) + ((A c i).2 : Rat) := by unfold ca; rw [Rat.intCast_add]
 have f2 : ((cb c i : Int) : Rat) = ((B c i).1 : Rat) + ((B c i).2 : Rat) := by unfold cb; rw [Rat.intCast_add]
 rw [f1, f2, e2]
 generalize tt c i y = t at *
 grind
end
end Go.Proofs.Ythpfffijnkmdgaa.plain
