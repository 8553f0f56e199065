/- The loops of All, and its answer. -/
import Derived.Test.YtenjelagfbceeaaLB1
set_option linter.unusedVariables false
set_option linter.unusedSimpArgs false
set_option maxHeartbeats 4000000
namespace Go.Proofs.Ytenjelagfbceeaa
open Go Go.Cl
theorem ab_mul {z d m : Int} (hd : d ≠ 0) (hm : 0 ≤ m) (h : -(m * (d.natAbs : Int)) ≤ z * d ∧ z * d ≤ m * (d.natAbs : Int)) : -m ≤ z ∧ z ≤ m := by
  have h1 : z.natAbs * d.natAbs ≤ m.natAbs * d.natAbs := by
    rw [← Int.natAbs_mul]
    have : ((m.natAbs * d.natAbs : Nat) : Int) = m * (d.natAbs : Int) := by
      rw [Int.natCast_mul]
      congr 1
      omega
    omega
  have := Nat.le_of_mul_le_mul_right h1 (by omega)
  omega
/-- What a best choice leaves is small. -/
theorem near6_small {x y u v X Y : Int} (h : red x y u v) (hd : x * v - y * u ≠ 0) (bx : -1500 ≤ x ∧ x ≤ 1500) (by' : -1500 ≤ y ∧ y ≤ 1500) (bu : -1500 ≤ u ∧ u ≤ 1500) (bv : -1500 ≤ v ∧ v ≤ 1500) (hn : near6 x y u v X Y) : (-3000 ≤ X ∧ X ≤ 3000) ∧ (-3000 ≤ Y ∧ Y ≤ 3000) := by
  obtain ⟨c1, c2⟩ := near6_cross h hd hn
  have e1 : X * (x * v - y * u) = (X * v - Y * u) * x + (x * Y - y * X) * u := by grind
  have e2 : Y * (x * v - y * u) = (X * v - Y * u) * y + (x * Y - y * X) * v := by grind
  generalize X * v - Y * u = p at *
  generalize x * Y - y * X = q at *
  generalize x * v - y * u = d at *
  have m1 := mul_le c1 bx (by omega) (by omega)
  have m2 := mul_le c2 bu (by omega) (by omega)
  have m3 := mul_le c1 by' (by omega) (by omega)
  have m4 := mul_le c2 bv (by omega) (by omega)
  refine ⟨ab_mul hd (by omega) ?_, ab_mul hd (by omega) ?_⟩
  · rw [e1]; omega
  · rw [e2]; omega
/-- A kit's reduced bundles, within their bounds. -/
structure RB (a b c d i j k l : Int) : Prop where
  kit : Kit4 a b c d
  det : i * l - j * k = 1 ∨ i * l - j * k = -1
  red : Ytenjelagfbceeaa.red (i * a + j * c) (i * b + j * d) (k * a + l * c) (k * b + l * d)
  bun : Bun a b c d i j k l
theorem RB.nf {a b c d i j k l : Int} (h : RB a b c d i j k l) : (i * a + j * c) * (k * b + l * d) - (i * b + j * d) * (k * a + l * c) ≠ 0 := by
  have e : (i * a + j * c) * (k * b + l * d) - (i * b + j * d) * (k * a + l * c) = (i * l - j * k) * (a * d - b * c) := by grind
  rw [e]
  have := h.kit.nf
  rcases h.det with h1 | h1 <;> rw [h1] <;> omega
theorem RB.bds {a b c d i j k l : Int} (h : RB a b c d i j k l) : ((-1500 ≤ i * a + j * c ∧ i * a + j * c ≤ 1500) ∧ (-1500 ≤ i * b + j * d ∧ i * b + j * d ≤ 1500) ∧ (-3000000 ≤ i ∧ i ≤ 3000000) ∧ (-3000000 ≤ j ∧ j ≤ 3000000)) ∧
    ((-1500 ≤ k * a + l * c ∧ k * a + l * c ≤ 1500) ∧ (-1500 ≤ k * b + l * d ∧ k * b + l * d ≤ 1500) ∧ (-3000000 ≤ k ∧ k ≤ 3000000) ∧ (-3000000 ≤ l ∧ l ≤ 3000000)) :=
  ⟨small_of h.kit h.bun.sa, small_of h.kit h.bun.sb⟩
theorem RB.rest {a b c d i j k l : Int} (h : RB a b c d i j k l) {e f : Int} {p : Int × Int} (hp : Best a b c d e f p) : (-3000 ≤ e + p.1 * a + p.2 * c ∧ e + p.1 * a + p.2 * c ≤ 3000) ∧ (-3000 ≤ f + p.1 * b + p.2 * d ∧ f + p.1 * b + p.2 * d ≤ 3000) := by
  obtain ⟨m, n, rfl⟩ := by_bundles h.det p
  have hn := (best_near6 h.det h.red).1 hp
  obtain ⟨b1, b2⟩ := h.bds
  have := near6_small h.red h.nf b1.1 b1.2.1 b2.1 b2.2.1 hn
  simp only
  have e1 : e + (m * i + n * k) * a + (m * j + n * l) * c = e + m * (i * a + j * c) + n * (k * a + l * c) := by grind
  have e2 : f + (m * i + n * k) * b + (m * j + n * l) * d = f + m * (i * b + j * d) + n * (k * b + l * d) := by grind
  rw [e1, e2]
  exact this
/-- Best choices have small numbers. -/
theorem best_small {a b c d A E : Int} (hA : 0 ≤ A) (hE : 0 ≤ E) (hd : a * d - b * c ≠ 0) (ba : -A ≤ a ∧ a ≤ A) (bb : -A ≤ b ∧ b ≤ A) (bc : -A ≤ c ∧ c ≤ A) (bd : -A ≤ d ∧ d ≤ A) {p : Int × Int}
    (h1 : -E ≤ p.1 * a + p.2 * c ∧ p.1 * a + p.2 * c ≤ E) (h2 : -E ≤ p.1 * b + p.2 * d ∧ p.1 * b + p.2 * d ≤ E) : (-(2 * (E * A)) ≤ p.1 ∧ p.1 ≤ 2 * (E * A)) ∧ (-(2 * (E * A)) ≤ p.2 ∧ p.2 ≤ 2 * (E * A)) := by
  have e1 : p.1 * (a * d - b * c) = (p.1 * a + p.2 * c) * d - (p.1 * b + p.2 * d) * c := by grind
  have e2 : p.2 * (a * d - b * c) = (p.1 * b + p.2 * d) * a - (p.1 * a + p.2 * c) * b := by grind
  have m1 := mul_le h1 bd hE hA
  have m2 := mul_le h2 bc hE hA
  have m3 := mul_le h2 ba hE hA
  have m4 := mul_le h1 bb hE hA
  have key : ∀ z : Int, -(2 * (E * A)) ≤ z * (a * d - b * c) → z * (a * d - b * c) ≤ 2 * (E * A) → -(2 * (E * A)) ≤ z ∧ z ≤ 2 * (E * A) := by
    intro z z1 z2
    generalize a * d - b * c = q at *
    generalize 2 * (E * A) = M at *
    have h3 : z.natAbs * q.natAbs ≤ M.natAbs := by rw [← Int.natAbs_mul]; omega
    have h4 : z.natAbs * 1 ≤ z.natAbs * q.natAbs := Nat.mul_le_mul_left _ (by omega)
    omega
  exact ⟨key _ (by omega) (by omega), key _ (by omega) (by omega)⟩
/-- Where the quotient stands. -/
theorem window {w D m m0 : Int} (hd : D ≠ 0) (h0 : m0 = if 0 < D then (-w) / D else w / (-D)) (h : -(D.natAbs : Int) ≤ w + m * D ∧ w + m * D ≤ (D.natAbs : Int)) : m0 - 1 ≤ m ∧ m ≤ m0 + 1 := by
  have cmp : ∀ {p q r : Int}, 0 < r → p * r < q * r → p < q := fun hr hpq => Int.lt_of_mul_lt_mul_right hpq (by omega)
  by_cases hp : 0 < D
  · rw [if_pos hp] at h0
    obtain ⟨s1, s2⟩ := div_spec (n := -w) hp
    rw [← h0] at s1 s2
    have e : (D.natAbs : Int) = D := by omega
    rw [e] at h
    have e1 : (m0 + 1) * D = m0 * D + D := by grind
    have e2 : (m0 - 2) * D = m0 * D - 2 * D := by grind
    have e3 : (m0 + 2) * D = m0 * D + 2 * D := by grind
    have := cmp hp (p := m0 - 2) (q := m) (by omega)
    have := cmp hp (p := m) (q := m0 + 2) (by omega)
    omega
  · rw [if_neg hp] at h0
    have hp' : 0 < -D := by omega
    obtain ⟨s1, s2⟩ := div_spec (n := w) hp'
    rw [← h0] at s1 s2
    have e : (D.natAbs : Int) = -D := by omega
    rw [e] at h
    have e0 : m * D = -(m * -D) := by grind
    rw [e0] at h
    have e1 : (m0 + 1) * -D = m0 * -D + -D := by grind
    have e2 : (m0 - 2) * -D = m0 * -D - 2 * -D := by grind
    have e3 : (m0 + 2) * -D = m0 * -D + 2 * -D := by grind
    generalize m0 * -D = t0 at *
    generalize hm : m * -D = t at *
    have := cmp hp' (p := m0 - 2) (q := m) (by omega)
    have := cmp hp' (p := m) (q := m0 + 2) (by omega)
    omega
/-! ### Sorting -/
def plt (p q : Int × Int) : Prop := p.1 < q.1 ∨ p.1 = q.1 ∧ p.2 < q.2
instance (p q : Int × Int) : Decidable (plt p q) := by unfold plt; infer_instance
/-- A list, turned around, into which one comes. -/
def insR : List (Int × Int) → Int × Int → List (Int × Int)
  | [], x => [x]
  | a :: R, x => if plt x a then a :: insR R x else x :: a :: R
theorem insR_mem {x y : Int × Int} : ∀ {R : List (Int × Int)}, y ∈ insR R x ↔ y = x ∨ y ∈ R
  | [] => by simp [insR]
  | a :: R => by
    unfold insR
    split
    · simp only [List.mem_cons, insR_mem]
      constructor
      · rintro (h | h | h)
        · exact .inr (.inl h)
        · exact .inl h
        · exact .inr (.inr h)
      · rintro (h | h | h)
        · exact .inr (.inl h)
        · exact .inl h
        · exact .inr (.inr h)
    · simp [List.mem_cons]
theorem insR_len {x : Int × Int} : ∀ {R : List (Int × Int)}, (insR R x).length = R.length + 1
  | [] => rfl
  | a :: R => by
    unfold insR
    split
    · simp [insR_len]
    · simp
/-- Greatest first, strictly. -/
def Down (R : List (Int × Int)) : Prop := R.Pairwise fun p q => plt q p
theorem plt_trans {p q r : Int × Int} (h : plt p q) (k : plt q r) : plt p r := by unfold plt at *; omega
theorem plt_tri {p q : Int × Int} (h : ¬ plt p q) (hne : p ≠ q) : plt q p := by
  unfold plt at *
  have : ¬ (p.1 = q.1 ∧ p.2 = q.2) := fun e => hne (Prod.ext e.1 e.2)
  omega
theorem insR_down {x : Int × Int} : ∀ {R : List (Int × Int)}, Down R → x ∉ R → Down (insR R x)
  | [], _, _ => by simp [insR, Down]
  | a :: R, h, hx => by
    unfold Down at h ⊢
    rw [List.pairwise_cons] at h
    unfold insR
    split
    · rename_i hlt
      rw [List.pairwise_cons]
      refine ⟨fun y hy => ?_, insR_down h.2 fun hc => hx (.tail _ hc)⟩
      rcases insR_mem.1 hy with rfl | hy
      · exact hlt
      · exact h.1 y hy
    · rename_i hlt
      have hax : plt a x := plt_tri hlt fun e => hx (e ▸ .head _)
      rw [List.pairwise_cons, List.pairwise_cons]
      refine ⟨fun y hy => ?_, h⟩
      rcases List.mem_cons.1 hy with rfl | hy
      · exact hax
      · exact plt_trans (h.1 y hy) hax
/-- Two such lists with the same members are the same. -/
theorem down_eq : ∀ {R S : List (Int × Int)}, Down R → Down S → (∀ x, x ∈ R ↔ x ∈ S) → R = S
  | [], [], _, _, _ => rfl
  | [], s :: S, _, _, h => by have := (h s).2 (.head _); cases this
  | r :: R, [], _, _, h => by have := (h r).1 (.head _); cases this
  | r :: R, s :: S, hR, hS, h => by
    unfold Down at hR hS
    rw [List.pairwise_cons] at hR hS
    have irr : ∀ p : Int × Int, ¬ plt p p := fun p hp => by unfold plt at hp; omega
    have e : r = s := by
      rcases List.mem_cons.1 ((h r).1 (.head _)) with e | hr
      · exact e
      · rcases List.mem_cons.1 ((h s).2 (.head _)) with e | hs
        · exact e.symm
        · exact absurd (plt_trans (hS.1 r hr) (hR.1 s hs)) (irr _)
    subst e
    rw [down_eq (R := R) (S := S) hR.2 hS.2 fun x => ⟨fun hx => ?_, fun hx => ?_⟩]
    · rcases List.mem_cons.1 ((h x).1 (.tail _ hx)) with e | hx'
      · subst e; exact absurd (hR.1 x hx) (irr _)
      · exact hx'
    · rcases List.mem_cons.1 ((h x).2 (.tail _ hx)) with e | hx'
      · subst e; exact absurd (hS.1 x hx) (irr _)
      · exact hx'
theorem F87_two (x y : Int) : F87 [x, y] = some (if x ≠ 0 then x else y) := by
  have e1 : w64 (1 + 1) = 2 := by rfl
  have e0 : w64 (0 + 1) = 1 := by rfl
  unfold F87
  rw [F87l0_fix]
  by_cases hx : x = 0
  · subst hx
    simp only [List.length_cons, List.length_nil, Int.toNat_zero, List.getD_cons_zero]
    simp only [Option.bind_eq_bind, Option.bind_some]
    rw [e0, F87l0_fix]
    by_cases hy : y = 0
    · subst hy
      simp
      rw [show w64 2 = 2 from rfl, F87l0_fix]
      simp
    · simp [hy]
  · simp [hx]
theorem F88_eq (a b : Int) : F88 a b = some (if a < b then -1 else if a > b then 1 else 0) := by
  unfold F88 F99
  by_cases h1 : a < b
  · simp [h1]
  · by_cases h2 : a > b
    · simp [h1, h2]
    · simp [h1, h2]
theorem F83_eq (p q : Int × Int) : ∃ r, F83 p.1 p.2 q.1 q.2 = some r ∧ (r < 0 ↔ plt p q) := by
  unfold F83
  rw [F88_eq, F88_eq, Option.bind_eq_bind, Option.bind_some, Option.bind_some, F87_two]
  refine ⟨_, rfl, ?_⟩
  unfold plt
  split <;> split <;> omega
theorem getD_app {x : Int × Int} {l C : List (Int × Int)} {i : Nat} (hi : i = l.length) (d : Int × Int) : (l ++ x :: C).getD i d = x := by
  subst hi
  simp [List.getD]
theorem set_app {x y : Int × Int} {l C : List (Int × Int)} {i : Nat} (hi : i = l.length) : (l ++ x :: C).set i y = l ++ y :: C := by
  subst hi
  simp
/-- The inner loop: one comes to its place. -/
theorem F89l1_eq (p2 v58 : Int) (x : Int × Int) : ∀ (R C : List (Int × Int)), R.length + C.length < 1000 → F89l1 0 p2 v58 R.length (R.reverse ++ x :: C) = some ((insR R x).reverse ++ C)
  | [], C, hl => by
    rw [F89l1_fix]
    simp [insR]
  | a :: R, C, hl => by
    rw [List.length_cons] at hl
    have h1 : ((R.length + 1 : Nat) : Int) - 1 = (R.length : Int) := by omega
    have e1 : (a :: R).reverse ++ x :: C = R.reverse ++ a :: x :: C := by simp
    have hlen : ((a :: R).reverse ++ x :: C).length = R.length + 1 + (C.length + 1) := by simp; omega
    rw [F89l1_fix, List.length_cons, w64_id (x := ((R.length + 1 : Nat) : Int) - 1) (by omega) (by omega), h1, hlen]
    have g1 : ((a :: R).reverse ++ x :: C).getD (R.length + 1) (0, 0) = x := getD_app (by simp) _
    have g2 : ((a :: R).reverse ++ x :: C).getD R.length (0, 0) = a := by rw [e1]; exact getD_app (by simp) _
    have c1 : ((R.length + 1 : Nat) : Int) > 0 := by omega
    have c2 : (0 : Int) ≤ ((R.length + 1 : Nat) : Int) ∧ ((R.length + 1 : Nat) : Int) < ((R.length + 1 + (C.length + 1) : Nat) : Int) := by omega
    have c3 : (0 : Int) ≤ (R.length : Int) ∧ (R.length : Int) < ((R.length + 1 + (C.length + 1) : Nat) : Int) := by omega
    simp only [c1, decide_true, if_true, if_pos c2, if_pos c3, Option.bind_eq_bind, Option.bind_some, Int.toNat_natCast, g1, g2]
    obtain ⟨r, hr, hlt⟩ := F83_eq x a
    rw [hr, Option.bind_some, Option.bind_some]
    unfold insR
    by_cases hp : plt x a
    · have h0 : r < 0 := hlt.2 hp
      simp only [h0, decide_true, if_true, if_pos hp]
      have s1 : ((a :: R).reverse ++ x :: C).set (R.length + 1) (a.1, a.2) = (a :: R).reverse ++ a :: C := set_app (by simp)
      have s2 : ((a :: R).reverse ++ a :: C).set R.length (x.1, x.2) = R.reverse ++ x :: a :: C := by
        have e2 : (a :: R).reverse ++ a :: C = R.reverse ++ a :: a :: C := by simp
        rw [e2]
        exact set_app (by simp)
      rw [s1, s2, F89l1_eq p2 v58 x R (a :: C) (by simp only [List.length_cons]; omega)]
      simp
    · have h0 : ¬ r < 0 := fun h => hp (hlt.1 h)
      simp only [h0, decide_false, Bool.false_eq_true, if_false, if_neg hp]
      simp
/-- The sorted list, greatest first. -/
def sortR : List (Int × Int) → List (Int × Int) → List (Int × Int)
  | [], R => R
  | x :: C, R => sortR C (insR R x)
theorem F89l0_eq (n : Int) : ∀ (C R : List (Int × Int)), R ≠ [] → n = R.length + C.length → n < 1000 → F89l0 0 n R.length (R.reverse ++ C) = some (sortR C R).reverse
  | [], R, hR, hn, hb => by
    rw [F89l0_fix]
    have : ¬ ((R.length : Int) < n) := by simp only [List.length_nil] at hn; omega
    simp [this, sortR]
  | x :: C, R, hR, hn, hb => by
    rw [List.length_cons] at hn
    rw [F89l0_fix]
    have c1 : (R.length : Int) < n := by omega
    simp only [c1, decide_true, if_true]
    rw [F89l1_eq n R.length x R C (by omega), Option.bind_eq_bind, Option.bind_some, w64_id (by omega) (by omega)]
    have e : (R.length : Int) + 1 = ((insR R x).length : Int) := by rw [insR_len]; omega
    rw [e, F89l0_eq n C (insR R x) (fun h => by have := insR_len (x := x) (R := R); rw [h] at this; simp at this) (by rw [insR_len]; omega) hb]
    rfl
theorem sortR_mem {x : Int × Int} : ∀ {C R : List (Int × Int)}, x ∈ sortR C R ↔ x ∈ C ∨ x ∈ R
  | [], R => by simp [sortR]
  | y :: C, R => by
    unfold sortR
    rw [sortR_mem, insR_mem, List.mem_cons]
    constructor
    · rintro (h | h | h)
      · exact .inl (.inr h)
      · exact .inl (.inl h)
      · exact .inr h
    · rintro ((h | h) | h)
      · exact .inr (.inl h)
      · exact .inl h
      · exact .inr (.inr h)
theorem sortR_down : ∀ {C R : List (Int × Int)}, Down R → C.Nodup → (∀ x ∈ C, x ∉ R) → Down (sortR C R)
  | [], R, h, _, _ => h
  | y :: C, R, h, hn, hx => by
    have hn' := List.nodup_cons.1 hn
    unfold sortR
    refine sortR_down (insR_down h (hx y (.head _))) hn'.2 fun x hxC => ?_
    rw [insR_mem]
    rintro (e | hR)
    · exact hn'.1 (e ▸ hxC)
    · exact hx x (.tail _ hxC) hR
/-- SortFunc of at most twelve: the same members, in order. -/
theorem sort82_eq {L : List (Int × Int)} (hl : L.length ≤ 12) (hn : L.Nodup) : ∃ R, sort82 L = some R.reverse ∧ Down R ∧ ∀ x, x ∈ R ↔ x ∈ L := by
  unfold sort82
  rw [if_pos hl]
  cases L with
  | nil =>
    refine ⟨[], ?_, by simp [Down], fun x => Iff.rfl⟩
    unfold F89
    rw [show w64 (0 + 1) = 1 from rfl, F89l0_fix]
    simp
  | cons x C =>
    have hn' := List.nodup_cons.1 hn
    rw [List.length_cons] at hl
    refine ⟨sortR C [x], ?_, sortR_down (by simp [Down]) hn'.2 fun y hy e => hn'.1 (List.mem_singleton.1 e ▸ hy), fun y => by rw [sortR_mem, List.mem_singleton, List.mem_cons]; exact Or.comm⟩
    unfold F89
    rw [show w64 (0 + 1) = (([x] : List (Int × Int)).length : Int) from rfl]
    have := F89l0_eq ((x :: C).length) C [x] (by simp) (by simp only [List.length_cons, List.length_nil]; omega) (by simp only [List.length_cons]; omega)
    rw [List.reverse_singleton, List.singleton_append] at this
    rw [this]
    rfl
end Go.Proofs.Ytenjelagfbceeaa
