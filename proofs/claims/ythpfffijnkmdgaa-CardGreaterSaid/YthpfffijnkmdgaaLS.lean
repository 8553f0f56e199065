/- Sorting at most twelve: the same members, in order. -/
import Derived.Test.YthpfffijnkmdgaaLC2
set_option linter.unusedVariables false
set_option linter.unusedSimpArgs false
set_option maxRecDepth 100000
namespace Go.Proofs.Ythpfffijnkmdgaa.plain
open Go Go.Cl
section
variable {α : Type} {lt : α → α → Prop} [DecidableRel lt]
def insR (lt : α → α → Prop) [DecidableRel lt] : List α → α → List α
 | [], x => [x]
 | a :: R, x => if lt x a then a :: insR lt R x else x :: a :: R
theorem insR_perm {x : α} : ∀ {R : List α}, (insR lt R x).Perm (x :: R)
 | [] => List.Perm.refl _
 | a :: R => by
  rw [insR]
  split
  · exact (List.Perm.cons a insR_perm).trans (List.Perm.swap x a R)
  exact List.Perm.refl _
def Down (lt : α → α → Prop) (R : List α) : Prop := R.Pairwise fun a b => ¬ lt a b
theorem insR_down (tr : ∀ a b c, ¬ lt a b → ¬ lt b c → ¬ lt a c) (asy : ∀ a b, lt a b → ¬ lt b a) {x : α} : ∀ {R : List α}, Down lt R → Down lt (insR lt R x)
 | [], _ => List.pairwise_singleton _ _
 | a :: R, h => by
  unfold Down at h
  rw [List.pairwise_cons] at h
  rw [insR]
  split
  · rename_i hx
    unfold Down
    rw [List.pairwise_cons]
    refine ⟨fun y hy => ?_, insR_down tr asy h.2⟩
    rcases List.mem_cons.1 (insR_perm.mem_iff.1 hy) with rfl | hy
    · exact asy _ _ hx
    exact h.1 y hy
  rename_i hx
  unfold Down
  rw [List.pairwise_cons, List.pairwise_cons]
  refine ⟨fun y hy => ?_, h⟩
  rcases List.mem_cons.1 hy with rfl | hy
  · exact hx
  exact tr _ _ _ hx (h.1 y hy)
def sortR (lt : α → α → Prop) [DecidableRel lt] : List α → List α → List α
 | [], R => R
 | x :: C, R => sortR lt C (insR lt R x)
theorem sortR_perm : ∀ {C R : List α}, (sortR lt C R).Perm (C ++ R)
 | [], R => List.Perm.refl _
 | x :: C, R => by
  rw [sortR]
  refine sortR_perm.trans ((List.Perm.append_left C insR_perm).trans ?_)
  exact List.perm_middle
theorem sortR_down (tr : ∀ a b c, ¬ lt a b → ¬ lt b c → ¬ lt a c) (asy : ∀ a b, lt a b → ¬ lt b a) : ∀ {C R : List α}, Down lt R → Down lt (sortR lt C R)
 | [], R, h => h
 | x :: C, R, h => by
  rw [sortR]
  exact sortR_down tr asy (insR_down tr asy h)
end
theorem getD_app {x : Pt} {l C : List Pt} {i : Nat} (hi : i = l.length) (d : Pt) : (l ++ x :: C).getD i d = x := by
 subst hi
 simp [List.getD]
theorem set_app {x y : Pt} {l C : List Pt} {i : Nat} (hi : i = l.length) : (l ++ x :: C).set i y = l ++ y :: C := by
 subst hi
 simp
section
variable {α : Type} {f : α → Pt} {lt : α → α → Prop} [DecidableRel lt] {G : α → Prop}
theorem F110l1_eq (hcmp : ∀ a b, G a → G b → ∃ r, F87 (f a).1 (f a).2 (f b).1 (f b).2 = some r ∧ (r < 0 ↔ lt a b)) (p2 v58 : Int) (x : α) (hx : G x) : ∀ (R C : List α), (∀ a ∈ R, G a) → R.length + C.length < 1000 → F110l1 0 p2 v58 R.length ((R.reverse ++ x :: C).map f) = some (((insR lt R x).reverse ++ C).map f)
 | [], C, hG, hl => by
  rw [F110l1]
  simp [insR]
 | a :: R, C, hG, hl => by
  rw [List.length_cons] at hl
  have h1 : ((R.length + 1 : Nat) : Int) - 1 = (R.length : Int) := by omega
  have e1 : (((a :: R).reverse ++ x :: C).map f) = R.reverse.map f ++ f a :: f x :: C.map f := by simp
  have e1' : (((a :: R).reverse ++ x :: C).map f) = (R.reverse.map f ++ [f a]) ++ f x :: C.map f := by simp
  have hlen : (R.reverse.map f ++ f a :: f x :: C.map f).length = R.length + 1 + (C.length + 1) := by simp; omega
  have g1 : (R.reverse.map f ++ f a :: f x :: C.map f).getD (R.length + 1) (0, 0) = f x := by rw [← e1, e1']; exact getD_app (by simp) _
  have g2 : (R.reverse.map f ++ f a :: f x :: C.map f).getD R.length (0, 0) = f a := getD_app (by simp) _
  rw [e1, F110l1, List.length_cons, w64_in (x := ((R.length + 1 : Nat) : Int) - 1) (by omega) (by omega), h1, hlen]
  have c1 : ((R.length + 1 : Nat) : Int) > 0 := by omega
  have c2 : (0 : Int) ≤ ((R.length + 1 : Nat) : Int) ∧ ((R.length + 1 : Nat) : Int) < ((R.length + 1 + (C.length + 1) : Nat) : Int) := by omega
  have c3 : (0 : Int) ≤ (R.length : Int) ∧ (R.length : Int) < ((R.length + 1 + (C.length + 1) : Nat) : Int) := by omega
  simp only [c1, decide_true, if_true, if_pos c2, if_pos c3, Option.bind_eq_bind, Option.bind_some, Int.toNat_natCast, g1, g2]
  obtain ⟨r, hr, hlt⟩ := hcmp x a hx (hG a List.mem_cons_self)
  rw [hr, Option.bind_some, Option.bind_some, insR]
  by_cases hp : lt x a
  · have h0 : r < 0 := hlt.2 hp
    simp only [h0, decide_true, if_true, if_pos hp]
    have s1 : (R.reverse.map f ++ f a :: f x :: C.map f).set (R.length + 1) ((f a).1, (f a).2) = (R.reverse.map f ++ [f a]) ++ f a :: C.map f := by
     rw [show R.reverse.map f ++ f a :: f x :: C.map f = (R.reverse.map f ++ [f a]) ++ f x :: C.map f by simp]
     exact set_app (by simp)
    have s2 : ((R.reverse.map f ++ [f a]) ++ f a :: C.map f).set R.length ((f x).1, (f x).2) = (R.reverse ++ x :: a :: C).map f := by
     rw [show (R.reverse.map f ++ [f a]) ++ f a :: C.map f = R.reverse.map f ++ f a :: f a :: C.map f by simp, show (R.reverse ++ x :: a :: C).map f = R.reverse.map f ++ f x :: f a :: C.map f by simp]
     exact set_app (by simp)
    rw [s1, s2, F110l1_eq hcmp p2 v58 x hx R (a :: C) (fun b hb => hG b (List.mem_cons_of_mem _ hb)) (by simp only [List.length_cons]; omega)]
    simp
  have h0 : ¬ r < 0 := fun h => hp (hlt.1 h)
  simp only [h0, decide_false, Bool.false_eq_true, if_false, if_neg hp]
  simp
theorem F110l0_eq (hcmp : ∀ a b, G a → G b → ∃ r, F87 (f a).1 (f a).2 (f b).1 (f b).2 = some r ∧ (r < 0 ↔ lt a b)) (n : Int) : ∀ (C R : List α), (∀ a ∈ R, G a) → (∀ a ∈ C, G a) → R ≠ [] → n = R.length + C.length → n < 1000 → F110l0 0 n R.length ((R.reverse ++ C).map f) = some ((sortR lt C R).reverse.map f)
 | [], R, hG, hGC, hR, hn, hb => by
  rw [F110l0]
  have : ¬ ((R.length : Int) < n) := by simp only [List.length_nil] at hn; omega
  simp [this, sortR]
 | x :: C, R, hG, hGC, hR, hn, hb => by
  rw [List.length_cons] at hn
  rw [F110l0]
  have c1 : (R.length : Int) < n := by omega
  have hx := hGC x List.mem_cons_self
  simp only [c1, decide_true, if_true]
  rw [F110l1_eq hcmp n R.length x hx R C hG (by omega), Option.bind_eq_bind, Option.bind_some, w64_in (by omega) (by omega)]
  have hil : (insR lt R x).length = R.length + 1 := by rw [insR_perm.length_eq, List.length_cons]
  have e : (R.length : Int) + 1 = ((insR lt R x).length : Int) := by rw [hil]; omega
  rw [e, F110l0_eq hcmp n C (insR lt R x) (fun a ha => by
   rcases List.mem_cons.1 (insR_perm.mem_iff.1 ha) with h | h
   · rw [h]; exact hx
   exact hG a h) (fun a ha => hGC a (List.mem_cons_of_mem _ ha)) (fun h => by rw [h] at hil; simp at hil) (by rw [hil]; omega) hb]
  rfl
theorem sort92_eq (hcmp : ∀ a b, G a → G b → ∃ r, F87 (f a).1 (f a).2 (f b).1 (f b).2 = some r ∧ (r < 0 ↔ lt a b)) (tr : ∀ a b c, ¬ lt a b → ¬ lt b c → ¬ lt a c) (asy : ∀ a b, lt a b → ¬ lt b a) {L : List α} (hl : L.length ≤ 12) (hG : ∀ a ∈ L, G a) : ∃ M : List α, sort92 (L.map f) = some (M.map f) ∧ M.Perm L ∧ M.Pairwise fun a b => ¬ lt b a := by
 unfold sort92
 rw [List.length_map, if_pos hl]
 cases L with
 | nil =>
  refine ⟨[], ?_, List.Perm.refl _, List.Pairwise.nil⟩
  unfold F110
  rw [show w64 (0 + 1) = 1 from rfl, F110l0]
  simp
 | cons x C =>
  rw [List.length_cons] at hl
  refine ⟨(sortR lt C [x]).reverse, ?_, ?_, ?_⟩
  · unfold F110
    rw [show w64 (0 + 1) = (([x] : List α).length : Int) from rfl]
    have := F110l0_eq hcmp ((x :: C).length) C [x] (fun a ha => hG a (by rw [List.mem_singleton.1 ha]; exact List.mem_cons_self)) (fun a ha => hG a (List.mem_cons_of_mem _ ha)) (by simp) (by simp only [List.length_cons, List.length_nil]; omega) (by simp only [List.length_cons]; omega)
    rw [List.reverse_singleton, List.singleton_append] at this
    rw [this]
    rfl
  · refine (List.reverse_perm _).trans (sortR_perm.trans ?_)
    exact List.perm_append_comm
  rw [List.pairwise_reverse]
  exact sortR_down tr asy (List.pairwise_singleton _ _)
end
section
variable {α : Type} {f : α → Pt} {lt : α → α → Prop} [DecidableRel lt] {G : α → Prop}
end
theorem rat_tr (a b c : Rat) (h : ¬ a < b) (g : ¬ b < c) : ¬ a < c := Rat.not_lt.2 (Rat.le_trans (Rat.not_lt.1 g) (Rat.not_lt.1 h))
theorem rat_as (a b : Rat) (h : a < b) : ¬ b < a := Rat.not_lt.2 (Rat.le_of_lt h)
theorem sort_rat {M N : Nat} (hM : M ≤ 20000) (hN : N ≤ 1000000000000) {L : List Rat} (hl : L.length ≤ 12) (hG : ∀ a ∈ L, Sm M N a) : ∃ S : List Rat, sort92 (L.map fr) = some (S.map fr) ∧ S.Perm L ∧ S.Pairwise (· ≤ ·) := by
 obtain ⟨S, e, p, h⟩ := sort92_eq (f := fr) (lt := fun a b : Rat => a < b) (G := Sm M N) (fun a b ha hb => ⟨_, F87_fr (b62 N M ha.num (by have := hb.den; omega) (Nat.le_trans (Nat.mul_le_mul hN hM) (by decide))) (b62 N M hb.num (by have := ha.den; omega) (Nat.le_trans (Nat.mul_le_mul hN hM) (by decide))), by
  by_cases h : a < b
  · rw [if_pos h]; exact ⟨fun _ => h, fun _ => by decide⟩
  rw [if_neg h]
  constructor
  · intro g; split at g <;> omega
  intro g; exact absurd g h⟩) rat_tr rat_as hl hG
 exact ⟨S, e, p, h.imp fun g => Rat.not_lt.1 g⟩
end Go.Proofs.Ythpfffijnkmdgaa.plain
