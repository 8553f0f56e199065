/- Folds; the compass courses of a magnetic heading. -/
import Derived.Test.YthpfffijnkmdgaaLS
import Derived.Test.YthpfffijnkmdgaaCE
set_option linter.unusedVariables false
set_option linter.unusedSimpArgs false
set_option maxRecDepth 100000
namespace Go.Proofs.Ythpfffijnkmdgaa.plain
open Go Go.Cl
section
variable {c : Card} {i : Nat} {m : Int}
theorem divInt_lt {a d k : Int} (hd : 0 < d) : Rat.divInt a d < (k : Rat) ↔ a < k * d := by
 rw [Rat.divInt_eq_div, Rat.div_lt_iff (Rat.intCast_pos.2 hd), ← Rat.intCast_mul, Rat.intCast_lt_intCast]
theorem le_divInt {a d k : Int} (hd : 0 < d) : (k : Rat) ≤ Rat.divInt a d ↔ k * d ≤ a := by
 rw [← Rat.not_lt, divInt_lt hd, Int.not_lt]
def wrap (x : Rat) : Rat := if x < ((3600 : Int) : Rat) then x else x + ((-3600 : Int) : Rat)
theorem wrap_rng {x : Rat} (h0 : 0 ≤ x) (h1 : x < ((7200 : Int) : Rat)) : 0 ≤ wrap x ∧ wrap x < ((3600 : Int) : Rat) := by
 unfold wrap
 by_cases h : x < ((3600 : Int) : Rat)
 · rw [if_pos h]; exact ⟨h0, h⟩
 rw [if_neg h]
 obtain ⟨a1, a2⟩ := add_int x (-3600)
 have h2 := int_le.1 (Rat.not_lt.1 h)
 have h1' := lt_int.1 h1
 constructor
 · rw [← Rat.num_nonneg, a1]; omega
 rw [lt_int, a1, a2]; omega
theorem wrap_den (x : Rat) : (wrap x).den = x.den := by
 unfold wrap
 split
 · rfl
 exact (add_int x (-3600)).2
end
end Go.Proofs.Ythpfffijnkmdgaa.plain
