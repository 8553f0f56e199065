/- The deviation on a heading. -/
import Derived.Test.YthpfffijnkmdgaaLC1
set_option linter.unusedVariables false
set_option linter.unusedSimpArgs false
set_option maxRecDepth 100000
namespace Go.Proofs.Ythpfffijnkmdgaa.plain
open Go Go.Cl
theorem b62 {a b : Int} (p q : Nat) (ha : a.natAbs ≤ p) (hb : b.natAbs ≤ q) (h : p * q ≤ 4611686018427387904) : B62 (a * b) := by
 have h1 : (a * b).natAbs ≤ p * q := by rw [Int.natAbs_mul]; exact Nat.mul_le_mul ha hb
 exact ⟨by omega, by omega⟩
theorem b62_two {a b : Int} (p q : Nat) (ha : a.natAbs ≤ p) (hb : b.natAbs ≤ q) (h : 2 * (p * q) ≤ 4611686018427387904) : B62 (2 * (a * b)) := by
 have h1 : (a * b).natAbs ≤ p * q := by rw [Int.natAbs_mul]; exact Nat.mul_le_mul ha hb
 exact ⟨by omega, by omega⟩
structure Sm (M N : Nat) (x : Rat) : Prop where
 den : x.den ≤ M
 num : x.num.natAbs ≤ N
theorem add_int (x : Rat) (k : Int) : (x + (k : Rat)).num = x.num + k * x.den ∧ (x + (k : Rat)).den = x.den := by
 have hc : Nat.Coprime (x.num + k * (x.den : Int)).natAbs x.den := by
  have h1 : Int.gcd (x.num + k * (x.den : Int)) x.den = Int.gcd x.num x.den := by
   rw [Int.gcd_add_mul_right_left]
  have : Int.gcd x.num x.den = 1 := x.reduced
  rw [this] at h1
  exact h1
 have e : x + (k : Rat) = ⟨x.num + k * x.den, x.den, x.den_nz, hc⟩ := by
  rw [Rat.mk_eq_divInt, ← Rat.num_divInt_den x]
  rw [show ((k : Int) : Rat) = Rat.divInt k 1 from (Rat.num_divInt_den (k : Rat)).symm, Rat.divInt_add_divInt _ _ (by have := den_pos x; omega) (by decide)]
  simp
 rw [e]
 exact ⟨rfl, rfl⟩
theorem int_divInt (k : Int) : (k : Rat) = Rat.divInt k 1 := (Rat.num_divInt_den (k : Rat)).symm
theorem lt_int {x : Rat} {k : Int} : x < (k : Rat) ↔ x.num < k * x.den := by rw [Rat.lt_iff]; show x.num * 1 < k * (x.den : Int) ↔ _; rw [Int.mul_one]
theorem int_le {x : Rat} {k : Int} : (k : Rat) ≤ x ↔ k * x.den ≤ x.num := by rw [Rat.le_iff]; show k * (x.den : Int) ≤ x.num * 1 ↔ _; rw [Int.mul_one]
section
variable {c : Card} {x : Rat} {i : Nat}
def devAt (c : Card) (i : Nat) (x : Rat) : Rat := ((A c i).2 : Rat) + (x + ((-(A c i).1 : Int) : Rat)) * Rat.divInt ((B c i).2 - (A c i).2) ((B c i).1 - (A c i).1)
def norm (c : Card) (x : Rat) : Rat := if x < ((A c 0).1 : Rat) then x + ((3600 : Int) : Rat) else x
def Lies (c : Card) (i : Nat) (x : Rat) : Prop := i < c.length ∧ ((A c i).1 : Rat) ≤ x ∧ x < ((B c i).1 : Rat)
theorem F55_eq (n : Int) : F55 n = some (n, 1) := rfl
theorem plus_int {x : Rat} {M N : Nat} (k : Int) (hs : Sm M N x) (hk : k.natAbs ≤ 10000) (hM : M ≤ 20000000) (hN : N ≤ 1000000000000) : F77 (fr x).1 (fr x).2 [(k, 1)] = some (fr (x + (k : Rat))) := by
 have hd := hs.den; have hn := hs.num
 exact F77_fr (x := x) (y := (k : Rat)) (b62_two N 1 hn (by show ((1 : Nat) : Int).natAbs ≤ 1; decide) (by omega)) (b62_two 10000 M (by exact hk) (by show ((x.den : Nat) : Int).natAbs ≤ M; omega) (by omega)) (b62 M 1 (by show ((x.den : Nat) : Int).natAbs ≤ M; omega) (by show ((1 : Nat) : Int).natAbs ≤ 1; decide) (by omega))
end
end Go.Proofs.Ythpfffijnkmdgaa.plain
