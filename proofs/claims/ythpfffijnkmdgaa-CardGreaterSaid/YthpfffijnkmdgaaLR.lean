/- Places of segments; cards by numbers, and what the statements reckon of them. -/
import Derived.Test.YthpfffijnkmdgaaLC3
import Derived.Test.YthpfffijnkmdgaaCR
set_option linter.unusedVariables false
set_option linter.unusedSimpArgs false
set_option maxRecDepth 100000
namespace Go.Proofs.Ythpfffijnkmdgaa.plain
open Go Go.Cl
section
variable {c : Card} {i j : Nat} {m n : Int} {x y : Rat}
theorem Ok.next_le (h : Ok c) (hij : i < j) (hj : j < c.length) : (B c i).1 ≤ (A c j).1 := by
 have m := h.mono (k := j - (i + 1)) (i := i + 1) (by omega)
 rw [show i + 1 + (j - (i + 1)) = j by omega] at m
 unfold B
 rw [if_neg (by omega)]
 omega
theorem Ok.end_le (h : Ok c) (hi : i < c.length) : (B c i).1 ≤ (A c 0).1 + 3600 := by
 unfold B
 have r0 := h.rng 0 h.pos
 split
 · exact Int.le_refl _
 have := h.rng (i + 1) (by omega); omega
theorem Ok.first_le (h : Ok c) (hi : i < c.length) : (A c 0).1 ≤ (A c i).1 := by
 have m := h.mono (k := i) (i := 0) (by omega)
 rw [Nat.zero_add] at m
 omega
theorem Lies.uniq (hc : Ok c) (h : Lies c i x) (g : Lies c j x) : i = j := by
 obtain ⟨h1, h2, h3⟩ := h
 obtain ⟨g1, g2, g3⟩ := g
 rcases Nat.lt_trichotomy i j with e | e | e
 · have := Rat.intCast_le_intCast.2 (hc.next_le e g1); grind
 · exact e
 have := Rat.intCast_le_intCast.2 (hc.next_le e h1); grind
theorem norm_wrap (hc : Ok c) (h : Lies c i y) : norm c (wrap y) = y := by
 obtain ⟨h1, h2, h3⟩ := h
 have e1 := Rat.intCast_le_intCast.2 (hc.end_le h1)
 have e2 := Rat.intCast_le_intCast.2 (hc.first_le h1)
 unfold norm wrap
 by_cases k : y < ((3600 : Int) : Rat)
 · rw [if_pos k, if_neg (by grind)]
 rw [if_neg k, if_pos (by grind)]
 grind
def place (c : Card) (i : Nat) (n : Int) : Rat := part c i n + ((A c i).1 : Rat)
theorem sAt_eq : sAt c i n = wrap (place c i n) := rfl
theorem place_lies (hc : Ok c) (hi : i < c.length) (h : Hit (ca c i) (cb c i) n) : Lies c i (place c i n) := by
 obtain ⟨q1, q2, q3, q4⟩ := place_rng hc hi h
 exact ⟨hi, q3, q2⟩
theorem norm_sAt (hc : Ok c) (hi : i < c.length) (h : Hit (ca c i) (cb c i) n) : norm c (sAt c i n) = place c i n := norm_wrap hc (place_lies hc hi h)
theorem dev_place (hc : Ok c) (hi : i < c.length) (h : Hit (ca c i) (cb c i) n) : devAt c i (place c i n) = (n : Rat) - place c i n := by
 obtain ⟨s1, s2, s3, s4, s5⟩ := hc.seg hi
 have hcc : cb c i - ca c i ≠ 0 := by unfold Hit at h; omega
 have hL : (B c i).1 - (A c i).1 ≠ 0 := by omega
 have e1 : (((cb c i - ca c i : Int)) : Rat) ≠ 0 := fun e => hcc (Rat.intCast_eq_zero_iff.1 e)
 have e2 : ((((B c i).1 - (A c i).1 : Int)) : Rat) ≠ 0 := fun e => hL (Rat.intCast_eq_zero_iff.1 e)
 unfold devAt place part
 rw [Rat.divInt_eq_div, Rat.divInt_eq_div]
 have hk : cb c i - ca c i = ((B c i).1 - (A c i).1) + ((B c i).2 - (A c i).2) := by unfold cb ca; omega
 have hk2 : (((cb c i - ca c i : Int)) : Rat) = ((((B c i).1 - (A c i).1 : Int)) : Rat) + ((((B c i).2 - (A c i).2 : Int)) : Rat) := by rw [hk, Rat.intCast_add]
 have hca : ((ca c i : Int) : Rat) = ((A c i).1 : Rat) + ((A c i).2 : Rat) := by unfold ca; rw [Rat.intCast_add]
 have hn : (((n - ca c i) * ((B c i).1 - (A c i).1) : Int) : Rat) = ((n : Rat) - (((A c i).1 : Rat) + ((A c i).2 : Rat))) * ((((B c i).1 - (A c i).1 : Int)) : Rat) := by
  rw [Rat.intCast_mul, Rat.intCast_sub, hca]
 rw [hn, Rat.intCast_neg]
 generalize (((cb c i - ca c i : Int)) : Rat) = C at *
 generalize ((((B c i).1 - (A c i).1 : Int)) : Rat) = L at *
 generalize ((((B c i).2 - (A c i).2 : Int)) : Rat) = D at *
 grind
theorem als_short (hc : Ok c) (m0 : 0 ≤ m) (m1 : m < 3600) : ∀ d v, v + d ≤ c.length → (als c m d v).length ≤ 2 * d := by
 intro d
 induction d with
 | zero => intro v _; exact Nat.le_refl _
 | succ d ih =>
  intro v hv
  have := ih (v + 1) (by omega)
  have := sol_len hc (i := v) (by omega) m0 m1
  rw [als, List.length_append, List.length_map]
  omega
theorem F40_fit {x : Rat} (h0 : 0 ≤ x) (h1 : x < ((3600 : Int) : Rat)) (hd : x.den ≤ 6000) : F40 (fr x).1 (fr x).2 3600 = some true := by
 have hp := den_pos x
 have n0 := Rat.num_nonneg.2 h0
 have n1 := lt_int.1 h1
 show F40 x.num x.den 3600 = _
 unfold F40
 rw [decide_eq_true (show (x.den : Int) ≥ 1 by omega), decide_eq_true (show (x.den : Int) ≤ 6000 by omega), decide_eq_true (show x.num ≥ 0 from n0), w64_in (by omega) (by omega), decide_eq_true n1]
 rfl
theorem F42_lead {N D t k : Int} (hD : 0 < D) (hk : N = k * D) (ht : (k - t) % 3600 = 0) (hDs : D ≤ 100000000000) (hks : -20000 ≤ k ∧ k ≤ 20000) (hts : -20000 ≤ t ∧ t ≤ 20000) : F42 N D t = some true := by
 have b1 := b62 (a := k) (b := D) 20000 100000000000 (by omega) (by omega) (by omega)
 have b2 := b62 (a := t) (b := D) 20000 100000000000 (by omega) (by omega) (by omega)
 have b3 := b62 (a := k - t) (b := D) 40000 100000000000 (by omega) (by omega) (by omega)
 have e : N - t * D = (k - t) * D := by rw [hk, Int.sub_mul]
 unfold B62 at b1 b2 b3
 unfold F42
 rw [w64_in (x := 3600 * D) (by omega) (by omega), if_neg (by omega), w64_in (x := t * D) (by omega) (by omega), w64_in (x := N - t * D) (by omega) (by omega), e]
 obtain ⟨q, hq⟩ := Int.dvd_of_emod_eq_zero ht
 rw [hq, show 3600 * q * D = 3600 * D * q by rw [Int.mul_assoc, Int.mul_assoc, Int.mul_comm q D], Int.mul_tmod_right]
 rfl
end
end Go.Proofs.Ythpfffijnkmdgaa.plain
