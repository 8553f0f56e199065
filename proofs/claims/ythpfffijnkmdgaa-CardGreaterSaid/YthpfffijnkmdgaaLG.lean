/- Cards one after the other. -/
import Derived.Test.YthpfffijnkmdgaaLM
set_option linter.unusedVariables false
set_option linter.unusedSimpArgs false
set_option maxRecDepth 100000
namespace Go.Proofs.Ythpfffijnkmdgaa.plain
open Go Go.Cl
section
variable {c : Card} {i j : Nat} {m n : Int} {x y : Rat}
def rm (x : Rat) : Rat := if x < 0 then x + ((3600 : Int) : Rat) else wrap x
theorem rm_rng (h0 : ((-3600 : Int) : Rat) ≤ x) (h1 : x < ((7200 : Int) : Rat)) : 0 ≤ rm x ∧ rm x < ((3600 : Int) : Rat) := by
 unfold rm
 by_cases h : x < 0
 · rw [if_pos h]; constructor <;> grind
 rw [if_neg h]; exact wrap_rng (by grind) h1
theorem dev_frac (hc : Ok c) (hi : i < c.length) : ∃ N : Int, devAt c i y = Rat.divInt N ((y.den : Int) * ((B c i).1 - (A c i).1)) := by
 obtain ⟨s1, s2, s3, s4, s5⟩ := hc.seg hi
 have hp := den_pos y
 refine ⟨(A c i).2 * ((y.den : Int) * ((B c i).1 - (A c i).1)) + (y.num + (-(A c i).1) * (y.den : Int)) * ((B c i).2 - (A c i).2), ?_⟩
 obtain ⟨a1, a2⟩ := add_int y (-(A c i).1)
 have hne : (y.den : Int) * ((B c i).1 - (A c i).1) ≠ 0 := by
  have := Int.mul_pos hp (show 0 < (B c i).1 - (A c i).1 by omega)
  omega
 have e1 : (y + ((-(A c i).1 : Int) : Rat)) * Rat.divInt ((B c i).2 - (A c i).2) ((B c i).1 - (A c i).1) = Rat.divInt ((y.num + (-(A c i).1) * (y.den : Int)) * ((B c i).2 - (A c i).2)) ((y.den : Int) * ((B c i).1 - (A c i).1)) := by
  rw [← Rat.divInt_mul_divInt]
  congr 1
  rw [← Rat.num_divInt_den (y + ((-(A c i).1 : Int) : Rat)), a1, a2]
 unfold devAt
 rw [e1, int_divInt, Rat.divInt_add_divInt _ _ (by decide) hne]
 congr 1
 · omega
 omega
theorem den_le {x : Rat} {N D : Int} (h : x = Rat.divInt N D) (hD : 0 < D) : (x.den : Int) ≤ D := by
 rw [h, Rat.den_divInt, if_neg (by omega)]
 have := Nat.div_le_self D.natAbs (Int.gcd D N)
 omega
theorem dev_den (hc : Ok c) (hi : i < c.length) : ((devAt c i y).den : Int) ≤ (y.den : Int) * 3600 := by
 obtain ⟨s1, s2, s3, s4, s5⟩ := hc.seg hi
 obtain ⟨N, e⟩ := dev_frac (y := y) hc hi
 have hp := den_pos y
 have h1 := den_le e (Int.mul_pos hp (by omega))
 have h2 : (y.den : Int) * ((B c i).1 - (A c i).1) ≤ (y.den : Int) * 3600 := Int.mul_le_mul_of_nonneg_left (by omega) (by omega)
 omega
theorem dev_rng (hc : Ok c) (h : Lies c i y) {K : Int} (k1 : -K ≤ (A c i).2 ∧ (A c i).2 ≤ K) (k2 : -K ≤ (B c i).2 ∧ (B c i).2 ≤ K) : -(K : Rat) ≤ devAt c i y ∧ devAt c i y ≤ (K : Rat) := by
 obtain ⟨hi, h1, h2⟩ := h
 obtain ⟨s1, s2, s3, s4, s5⟩ := hc.seg hi
 have hL : (0 : Rat) < (((B c i).1 - (A c i).1 : Int) : Rat) := Rat.intCast_pos.2 (by omega)
 have a1 : -(K : Rat) ≤ ((A c i).2 : Rat) := by have := Rat.intCast_le_intCast.2 k1.1; rwa [Rat.intCast_neg] at this
 have a2 : ((A c i).2 : Rat) ≤ (K : Rat) := Rat.intCast_le_intCast.2 k1.2
 have b1 : -(K : Rat) ≤ ((B c i).2 : Rat) := by have := Rat.intCast_le_intCast.2 k2.1; rwa [Rat.intCast_neg] at this
 have b2 : ((B c i).2 : Rat) ≤ (K : Rat) := Rat.intCast_le_intCast.2 k2.2
 unfold devAt
 rw [Rat.divInt_eq_div, Rat.intCast_sub (B c i).2, Rat.intCast_neg]
 have hLe : (((B c i).1 - (A c i).1 : Int) : Rat) = ((B c i).1 : Rat) - ((A c i).1 : Rat) := Rat.intCast_sub _ _
 obtain ⟨t, ht⟩ : ∃ t : Rat, t = (y + -((A c i).1 : Rat)) / (((B c i).1 - (A c i).1 : Int) : Rat) := ⟨_, rfl⟩
 have t0 : 0 ≤ t := by
  rw [ht, ← Rat.not_lt, Rat.div_lt_iff hL, Rat.zero_mul, Rat.not_lt]
  grind
 have t1 : t ≤ 1 := by
  refine Rat.le_of_lt ?_
  rw [ht, Rat.div_lt_iff hL, Rat.one_mul, hLe]
  grind
 have e : (y + -((A c i).1 : Rat)) * ((((B c i).2 : Rat) - ((A c i).2 : Rat)) / (((B c i).1 - (A c i).1 : Int) : Rat)) = t * (((B c i).2 : Rat) - ((A c i).2 : Rat)) := by
  rw [ht]
  generalize (((B c i).1 - (A c i).1 : Int) : Rat) = L at *
  grind
 rw [e]
 generalize ((A c i).2 : Rat) = a at *
 generalize ((B c i).2 : Rat) = b at *
 generalize (K : Rat) = k at *
 have u1 : t * (b + k) ≥ 0 := Rat.mul_nonneg t0 (by grind)
 have u2 : (1 - t) * (a + k) ≥ 0 := Rat.mul_nonneg (by grind) (by grind)
 have u3 : t * (k - b) ≥ 0 := Rat.mul_nonneg t0 (by grind)
 have u4 : (1 - t) * (k - a) ≥ 0 := Rat.mul_nonneg (by grind) (by grind)
 constructor <;> grind
end
end Go.Proofs.Ythpfffijnkmdgaa.plain
