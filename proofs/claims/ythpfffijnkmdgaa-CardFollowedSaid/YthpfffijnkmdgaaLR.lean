/- Places of segments; cards by numbers, and what the statements reckon of them. -/
import Derived.Test.YthpfffijnkmdgaaLC3
import Derived.Test.YthpfffijnkmdgaaCR
set_option linter.unusedVariables false
set_option linter.unusedSimpArgs false
set_option maxRecDepth 100000
namespace Go.Proofs.Ythpfffijnkmdgaa.plain
open Go Go.Cl
section
variable {c : Card} {i j : Nat} {m n : Int} {x y : Rat}
theorem Ok.next_le (h : Ok c) (hij : i < j) (hj : j < c.length) : (B c i).1 ≤ (A c j).1 := by
 have m := h.mono (k := j - (i + 1)) (i := i + 1) (by omega)
 rw [show i + 1 + (j - (i + 1)) = j by omega] at m
 unfold B
 rw [if_neg (by omega)]
 omega
theorem Lies.uniq (hc : Ok c) (h : Lies c i x) (g : Lies c j x) : i = j := by
 obtain ⟨h1, h2, h3⟩ := h
 obtain ⟨g1, g2, g3⟩ := g
 rcases Nat.lt_trichotomy i j with e | e | e
 · have := Rat.intCast_le_intCast.2 (hc.next_le e g1); grind
 · exact e
 have := Rat.intCast_le_intCast.2 (hc.next_le e h1); grind
theorem F39_eq (hc : Ok c) (hi : i < c.length) : F39 c i = some (A c i, B c i) := by
 have hcl := hc.le
 have r := hc.rng i hi
 have r0 := hc.rng 0 hc.pos
 unfold F39
 rw [if_pos ⟨by omega, by omega⟩]
 simp only [Option.bind_eq_bind, show ((i : Int)).toNat = i from rfl]
 rw [show c.getD i (0, 0) = A c i from rfl, Option.bind_some]
 refine (seg_code (by omega) (by omega) hi (fun o6 m11 => some (((A c i).1, (A c i).2), (m11, o6.2)))).trans ?_
 rw [next_snd hi]
end
end Go.Proofs.Ythpfffijnkmdgaa.plain
