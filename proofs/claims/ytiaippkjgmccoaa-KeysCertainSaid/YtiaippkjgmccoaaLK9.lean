/- For KeysEither: what Proves answers for chains; bits for values; the first truth is the least. -/
import Derived.Test.YtiaippkjgmccoaaLK8
set_option linter.unusedVariables false
set_option maxRecDepth 100000
namespace Go.Proofs.Ytiaippkjgmccoaa.plain
open Go Go.Cl
section
variable {T : Int} {rs : Rules} {l : List Case}
theorem bits5 : ∀ a b c d e : Bool, let n : Int := ((a.toNat + 2 * b.toNat + 4 * c.toNat + 8 * d.toNat + 16 * e.toNat : Nat) : Int)
 vb n 0 = a ∧ vb n 1 = b ∧ vb n 2 = c ∧ vb n 3 = d ∧ vb n 4 = e := by decide +kernel
theorem bits_for (h0 : 1 ≤ T) (hT : T ≤ 5) (f : Int → Bool) : ∃ n : Nat, n < 2 ^ T.toNat ∧ ∀ t, 0 ≤ t → t < T → vb (n : Int) t = f t := by
 have key : ∀ a b c d e : Bool, (T ≤ 1 → b = false) → (T ≤ 2 → c = false) → (T ≤ 3 → d = false) → (T ≤ 4 → e = false) → a.toNat + 2 * b.toNat + 4 * c.toNat + 8 * d.toNat + 16 * e.toNat < 2 ^ T.toNat := by
  intro a b c d e h1 h2 h3 h4
  have := Bool.toNat_le a; have := Bool.toNat_le b; have := Bool.toNat_le c; have := Bool.toNat_le d; have := Bool.toNat_le e
  rcases (by omega : T = 1 ∨ T = 2 ∨ T = 3 ∨ T = 4 ∨ T = 5) with rfl | rfl | rfl | rfl | rfl
  · rw [h1 (by decide), h2 (by decide), h3 (by decide), h4 (by decide)]; simp; omega
  · rw [h2 (by decide), h3 (by decide), h4 (by decide)]; simp; omega
  · rw [h3 (by decide), h4 (by decide)]; simp; omega
  · rw [h4 (by decide)]; simp; omega
  simp; omega
 let g : Int → Bool := fun t => if t < T then f t else false
 obtain ⟨v0, v1, v2, v3, v4⟩ := bits5 (g 0) (g 1) (g 2) (g 3) (g 4)
 refine ⟨_, key (g 0) (g 1) (g 2) (g 3) (g 4) (fun h => if_neg (by omega)) (fun h => if_neg (by omega)) (fun h => if_neg (by omega)) (fun h => if_neg (by omega)), fun t a b => ?_⟩
 have hg : f t = g t := (if_pos b).symm
 rw [hg]
 rcases (by omega : t = 0 ∨ t = 1 ∨ t = 2 ∨ t = 3 ∨ t = 4) with rfl | rfl | rfl | rfl | rfl
 · exact v0
 · exact v1
 · exact v2
 · exact v3
 exact v4
end
end Go.Proofs.Ytiaippkjgmccoaa.plain
