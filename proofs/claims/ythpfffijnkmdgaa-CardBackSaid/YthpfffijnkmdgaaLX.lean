/- Two cards, one behind the other. -/
import Derived.Test.YthpfffijnkmdgaaLG
import Derived.Test.YthpfffijnkmdgaaLT
set_option linter.unusedVariables false
set_option linter.unusedSimpArgs false
set_option maxRecDepth 100000
namespace Go.Proofs.Ythpfffijnkmdgaa.plain
open Go Go.Cl
theorem num_le {x : Rat} {K : Nat} (h0 : -((K : Int) : Rat) ≤ x) (h1 : x ≤ ((K : Int) : Rat)) : x.num.natAbs ≤ K * x.den := by
 have a := (Rat.le_iff _ _).1 h1
 have b := (Rat.le_iff _ _).1 h0
 have e1 : (((K : Int) : Rat)).num = (K : Int) := rfl
 have e2 : (((K : Int) : Rat)).den = 1 := rfl
 have e3 : (-((K : Int) : Rat)).num = -(K : Int) := rfl
 have e4 : (-((K : Int) : Rat)).den = 1 := rfl
 rw [e1, e2] at a
 rw [e3, e4, Int.neg_mul] at b
 have e5 : ((K * x.den : Nat) : Int) = (K : Int) * x.den := Int.natCast_mul _ _
 have e6 : ((x.den : Nat) : Int) = (x.den : Int) := rfl
 omega
structure Two (c d : Card) (n : Int) (d1 d2 x2 : Rat) (j : Nat) : Prop where
 den1 : d1.den ≤ 3600
 lo1 : -((785 : Int) : Rat) ≤ d1
 hi1 : d1 ≤ ((785 : Int) : Rat)
 ex2 : x2 = rm ((n : Rat) + d1)
 lies : Lies d j (norm d x2)
 ed2 : d2 = devAt d j (norm d x2)
 den2 : d2.den ≤ 3600 * 3600
 lo2 : -((785 : Int) : Rat) ≤ d2
 hi2 : d2 ≤ ((785 : Int) : Rat)
 f1 : F54 c n 1 = some (fr d1)
 f2 : F77 n 1 [((fr d1).1, (fr d1).2)] = some (fr ((n : Rat) + d1))
 f3 : F73 (fr ((n : Rat) + d1)).1 (fr ((n : Rat) + d1)).2 = some (fr x2)
 f4 : F54 d (fr x2).1 (fr x2).2 = some (fr d2)
 f5 : F77 (fr x2).1 (fr x2).2 [((fr d2).1, (fr d2).2)] = some (fr (x2 + d2))
 f6 : F73 (fr (x2 + d2)).1 (fr (x2 + d2)).2 = some (fr (rm (x2 + d2)))
 f7 : F77 0 1 [((fr d1).1, (fr d1).2)] = some (fr d1)
 f8 : F77 0 1 [((fr d1).1, (fr d1).2), ((fr d2).1, (fr d2).2)] = some (fr (d1 + d2))
 dens : ((d1 + d2).den : Int) ≤ 3600 * 3600
theorem norm_den {d : Card} {x : Rat} : (norm d x).den = x.den := by
 unfold norm
 split
 · exact (add_int x 3600).2
 rfl
def Dv (c : Card) : Prop := ∀ i, i < c.length → -785 ≤ (A c i).2 ∧ (A c i).2 ≤ 785
theorem Dv.bb {c : Card} (h : Dv c) (hc : Ok c) {i : Nat} (hi : i < c.length) : -785 ≤ (B c i).2 ∧ (B c i).2 ≤ 785 := by
 unfold B
 split
 · exact h 0 hc.pos
 exact h (i + 1) (by omega)
theorem dv_dev {c : Card} (hr : Dv c) (hc : Ok c) {i : Nat} {y : Rat} (h : Lies c i y) : -((785 : Int) : Rat) ≤ devAt c i y ∧ devAt c i y ≤ ((785 : Int) : Rat) := by
 have p := hr i h.1
 have q := hr.bb hc h.1
 exact dev_rng hc h (K := 785) ⟨by omega, by omega⟩ ⟨by omega, by omega⟩
theorem two_of {c d : Card} {n : Int} (hc : Ok c) (hd : Ok d) (rc : Dv c) (rd : Dv d) (n0 : 0 ≤ n) (n1 : n < 3600) : ∃ d1 d2 x2 j, Two c d n d1 d2 x2 j := by
 have h0 : (0 : Rat) ≤ ((n : Int) : Rat) := Rat.intCast_nonneg.2 n0
 have h1 : ((n : Int) : Rat) < ((3600 : Int) : Rat) := Rat.intCast_lt_intCast.2 n1
 obtain ⟨i, l1, f1⟩ := F54_eq hc (x := (n : Rat)) (M := 1) (Nat.le_refl _) (by omega) h0 h1
 obtain ⟨lo1, hi1⟩ := dv_dev rc hc l1
 have den1 := dev_den (y := norm c (n : Rat)) hc l1.1
 rw [norm_den, Rat.den_intCast] at den1
 generalize devAt c i (norm c (n : Rat)) = d1 at *
 have den1' : d1.den ≤ 3600 := by omega
 have num1 := num_le (K := 785) lo1 hi1
 have num1' : d1.num.natAbs ≤ 785 * 3600 := Nat.le_trans num1 (Nat.mul_le_mul_left _ den1')
 have hb0 : ((-3600 : Int) : Rat) ≤ (n : Rat) + d1 := by grind
 have hb1 : (n : Rat) + d1 < ((7200 : Int) : Rat) := by grind
 obtain ⟨a1, a2⟩ := add_int d1 n
 rw [Rat.add_comm] at a1 a2
 have r := rm_rng hb0 hb1
 have rd1 := rm_den ((n : Rat) + d1)
 have f2 : F77 n 1 [((fr d1).1, (fr d1).2)] = some (fr ((n : Rat) + d1)) := F77_fr (x := (n : Rat)) (y := d1) (b62_two 3600 3600 (by show n.natAbs ≤ 3600; omega) (by omega) (by decide)) (b62_two (785 * 3600) 1 num1' (by show ((1 : Nat) : Int).natAbs ≤ 1; decide) (by decide)) (b62 1 3600 (by show ((1 : Nat) : Int).natAbs ≤ 1; decide) (by omega) (by decide))
 have f3 := F73_rm (x := (n : Rat) + d1) (by rw [a2]; omega) hb0 hb1
 obtain ⟨x2, hx2⟩ : ∃ x2, x2 = rm ((n : Rat) + d1) := ⟨_, rfl⟩
 rw [← hx2] at r f3 rd1
 have xd : x2.den ≤ 3600 := by rw [rd1, a2]; exact den1'
 obtain ⟨j, l2, f4⟩ := F54_eq hd (x := x2) (M := 3600) xd (by omega) r.1 r.2
 obtain ⟨lo2, hi2⟩ := dv_dev rd hd l2
 have den2 := dev_den (y := norm d x2) hd l2.1
 obtain ⟨N2, e2⟩ := dev_frac (y := norm d x2) hd l2.1
 rw [norm_den] at den2 e2
 obtain ⟨d2, hd2⟩ : ∃ d2, d2 = devAt d j (norm d x2) := ⟨_, rfl⟩
 rw [← hd2] at f4 lo2 hi2 den2 e2
 have den2' : d2.den ≤ 3600 * 3600 := by omega
 have num2 := num_le (K := 785) lo2 hi2
 have num2' : d2.num.natAbs ≤ 785 * (3600 * 3600) := Nat.le_trans num2 (Nat.mul_le_mul_left _ den2')
 have xn0 := Rat.num_nonneg.2 r.1
 have xn1 := lt_int.1 r.2
 have f5 : F77 (fr x2).1 (fr x2).2 [((fr d2).1, (fr d2).2)] = some (fr (x2 + d2)) := F77_fr (x := x2) (y := d2) (b62_two (3600 * 3600) (3600 * 3600) (by omega) (by omega) (by decide)) (b62_two (785 * (3600 * 3600)) 3600 num2' (by omega) (by decide)) (b62 3600 (3600 * 3600) (by omega) (by omega) (by decide))
 have sumd : ∀ (u v : Rat) (P Q : Int), u = Rat.divInt P Q → v = Rat.divInt P Q → u = v := fun u v P Q a b => by rw [a, b]
 have f6d : (x2 + d2).den ≤ 1000000000000 := by
  have hq : (0 : Int) < (x2.den : Int) * d2.den := Int.mul_pos (den_pos x2) (den_pos d2)
  have e : x2 + d2 = Rat.divInt (x2.num * d2.den + d2.num * x2.den) ((x2.den : Int) * d2.den) := by
   rw [← Rat.divInt_add_divInt _ _ (by have := den_pos x2; omega) (by have := den_pos d2; omega), Rat.num_divInt_den, Rat.num_divInt_den]
  have h := den_le e hq
  have h2 : ((x2.den : Int) * d2.den).natAbs ≤ 3600 * (3600 * 3600) := by rw [Int.natAbs_mul]; exact Nat.mul_le_mul (by omega) (by omega)
  omega
 have f6 := F73_rm (x := x2 + d2) f6d (by grind) (by grind)
 have f7 : F77 0 1 [((fr d1).1, (fr d1).2)] = some (fr d1) := by
  have := F77_fr (x := ((0 : Int) : Rat)) (y := d1) (b62_two 0 3600 (by show (0 : Int).natAbs ≤ 0; decide) (by omega) (by decide)) (b62_two (785 * 3600) 1 num1' (by show ((1 : Nat) : Int).natAbs ≤ 1; decide) (by decide)) (b62 1 3600 (by show ((1 : Nat) : Int).natAbs ≤ 1; decide) (by omega) (by decide))
  have e : ((0 : Int) : Rat) + d1 = d1 := by grind
  rw [e] at this
  exact this
 have f9 : F77 (fr d1).1 (fr d1).2 [((fr d2).1, (fr d2).2)] = some (fr (d1 + d2)) := F77_fr (x := d1) (y := d2) (b62_two (785 * 3600) (3600 * 3600) num1' (by omega) (by decide)) (b62_two (785 * (3600 * 3600)) 3600 num2' (by omega) (by decide)) (b62 3600 (3600 * 3600) (by omega) (by omega) (by decide))
 refine ⟨d1, d2, x2, j, ⟨den1', lo1, hi1, hx2, l2, hd2, den2', lo2, hi2, f1, f2, f3, f4, f5, f6, f7, ?_, ?_⟩⟩
 · rw [F77_two, f7]; exact f9
 obtain ⟨s1, s2, s3, s4, s5⟩ := hd.seg l2.1
 have xp := den_pos x2
 have hL : (0 : Int) < (x2.den : Int) * ((B d j).1 - (A d j).1) := Int.mul_pos xp (by omega)
 have e1 : d1 = Rat.divInt (d1.num * ((B d j).1 - (A d j).1)) ((x2.den : Int) * ((B d j).1 - (A d j).1)) := by
  rw [Rat.divInt_mul_right (by omega), rd1, a2, Rat.num_divInt_den]
 have e : d1 + d2 = Rat.divInt (d1.num * ((B d j).1 - (A d j).1) + N2) ((x2.den : Int) * ((B d j).1 - (A d j).1)) := by
  rw [e2]
  conv => lhs; rw [e1]
  rw [Rat.divInt_eq_div, Rat.divInt_eq_div, Rat.divInt_eq_div, Rat.intCast_add]
  generalize (((x2.den : Int) * ((B d j).1 - (A d j).1) : Int) : Rat) = q
  grind
 have h := den_le e hL
 have h2 : ((x2.den : Int) * ((B d j).1 - (A d j).1)).natAbs ≤ 3600 * 3600 := by rw [Int.natAbs_mul]; exact Nat.mul_le_mul (by omega) (by omega)
 omega
end Go.Proofs.Ythpfffijnkmdgaa.plain
