/- Sorting fractions; putting one into its place. -/
import Derived.Test.YthpfffijnkmdgaaLC2
import Derived.Test.YthpfffijnkmdgaaLP
set_option linter.unusedVariables false
set_option linter.unusedSimpArgs false
set_option maxRecDepth 100000
namespace Go.Proofs.Ythpfffijnkmdgaa.plain
open Go Go.Cl
section
variable {α : Type} {lt : α → α → Prop} [DecidableRel lt]
def insR (lt : α → α → Prop) [DecidableRel lt] : List α → α → List α
 | [], x => [x]
 | a :: R, x => if lt x a then a :: insR lt R x else x :: a :: R
theorem insR_perm {x : α} : ∀ {R : List α}, (insR lt R x).Perm (x :: R)
 | [] => List.Perm.refl _
 | a :: R => by
  rw [insR]
  split
  · exact (List.Perm.cons a insR_perm).trans (List.Perm.swap x a R)
  exact List.Perm.refl _
def Down (lt : α → α → Prop) (R : List α) : Prop := R.Pairwise fun a b => ¬ lt a b
theorem insR_down (tr : ∀ a b c, ¬ lt a b → ¬ lt b c → ¬ lt a c) (asy : ∀ a b, lt a b → ¬ lt b a) {x : α} : ∀ {R : List α}, Down lt R → Down lt (insR lt R x)
 | [], _ => List.pairwise_singleton _ _
 | a :: R, h => by
  unfold Down at h
  rw [List.pairwise_cons] at h
  rw [insR]
  split
  · rename_i hx
    unfold Down
    rw [List.pairwise_cons]
    refine ⟨fun y hy => ?_, insR_down tr asy h.2⟩
    rcases List.mem_cons.1 (insR_perm.mem_iff.1 hy) with rfl | hy
    · exact asy _ _ hx
    exact h.1 y hy
  rename_i hx
  unfold Down
  rw [List.pairwise_cons, List.pairwise_cons]
  refine ⟨fun y hy => ?_, h⟩
  rcases List.mem_cons.1 hy with rfl | hy
  · exact hx
  exact tr _ _ _ hx (h.1 y hy)
end
theorem getD_app {x : Pt} {l C : List Pt} {i : Nat} (hi : i = l.length) (d : Pt) : (l ++ x :: C).getD i d = x := by
 subst hi
 simp [List.getD]
theorem set_app {x y : Pt} {l C : List Pt} {i : Nat} (hi : i = l.length) : (l ++ x :: C).set i y = l ++ y :: C := by
 subst hi
 simp
theorem rat_tr (a b c : Rat) (h : ¬ a < b) (g : ¬ b < c) : ¬ a < c := Rat.not_lt.2 (Rat.le_trans (Rat.not_lt.1 g) (Rat.not_lt.1 h))
theorem rat_as (a b : Rat) (h : a < b) : ¬ b < a := Rat.not_lt.2 (Rat.le_of_lt h)
theorem sort_rat {M N : Nat} (hM : 1 ≤ M ∧ M ≤ 20000) (hN : N ≤ 1000000000000) {L : List Rat} (hl : L.length < 73) (hG : ∀ a ∈ L, Sm M N a) : ∃ S : List Rat, sort92 (L.map fr) = some (S.map fr) ∧ S.Perm L ∧ S.Pairwise (· ≤ ·) := by
 obtain ⟨S, e, p, h⟩ := sort92_eq (0 : Rat) ⟨hM.1, Nat.zero_le _⟩ (f := fr) (lt := fun a b : Rat => a < b) (G := Sm M N) (fun a b ha hb => ⟨_, F87_fr (b62 N M ha.num (by have := hb.den; omega) (Nat.le_trans (Nat.mul_le_mul hN hM.2) (by decide))) (b62 N M hb.num (by have := ha.den; omega) (Nat.le_trans (Nat.mul_le_mul hN hM.2) (by decide))), by
  by_cases h : a < b
  · rw [if_pos h]; exact ⟨fun _ => h, fun _ => by decide⟩
  rw [if_neg h]
  constructor
  · intro g; split at g <;> omega
  intro g; exact absurd g h⟩) rat_tr rat_as hl hG
 exact ⟨S, e, p, h.imp fun g => Rat.not_lt.1 g⟩
end Go.Proofs.Ythpfffijnkmdgaa.plain
