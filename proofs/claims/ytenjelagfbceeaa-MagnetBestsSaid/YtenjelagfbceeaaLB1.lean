/- Which choices are best: the lattice, and sorting. -/
import Derived.Test.YtenjelagfbceeaaLB0
set_option linter.unusedVariables false
set_option linter.unusedSimpArgs false
set_option maxHeartbeats 4000000
namespace Go.Proofs.Ytenjelagfbceeaa
open Go Go.Cl
/-- Six bounds are enough. -/
theorem voro {α β γ P R : Int} (hα : 0 ≤ α) (hβ : 0 ≤ β) (hγ : 0 ≤ γ) (hP : -(α + γ) ≤ P ∧ P ≤ α + γ) (hR : -(β + γ) ≤ R ∧ R ≤ β + γ) (hS : -(α + β) ≤ P + R ∧ P + R ≤ α + β) (m n : Int) :
    0 ≤ m * P + n * R + α * (m * m) + β * (n * n) + γ * ((m - n) * (m - n)) := by
  have tt : ∀ t : Int, 0 ≤ t * t - t := fun t => by
    have e : t * t - t = t * (t - 1) := by grind
    rw [e]
    by_cases h : 1 ≤ t
    · exact Int.mul_nonneg (by omega) (by omega)
    · exact Int.mul_nonneg_of_nonpos_of_nonpos (by omega) (by omega)
  have a1 := fun t => Int.mul_nonneg hα (tt t)
  have a2 := fun t => Int.mul_nonneg hβ (tt t)
  have a3 := fun t => Int.mul_nonneg hγ (tt t)
  rcases Int.le_total 0 m with hm | hm <;> rcases Int.le_total 0 n with hn | hn
  · rcases Int.le_total n m with h | h
    · have b1 := Int.mul_nonneg hn (show 0 ≤ P + R + (α + β) by omega)
      have b2 := Int.mul_nonneg (show 0 ≤ m - n by omega) (show 0 ≤ P + (α + γ) by omega)
      have e : m * P + n * R + α * (m * m) + β * (n * n) + γ * ((m - n) * (m - n)) = n * (P + R + (α + β)) + (m - n) * (P + (α + γ)) + α * (m * m - m) + β * (n * n - n) + γ * ((m - n) * (m - n) - (m - n)) := by grind
      have := a1 m; have := a2 n; have := a3 (m - n)
      omega
    · have b1 := Int.mul_nonneg hm (show 0 ≤ P + R + (α + β) by omega)
      have b2 := Int.mul_nonneg (show 0 ≤ n - m by omega) (show 0 ≤ R + (β + γ) by omega)
      have e : m * P + n * R + α * (m * m) + β * (n * n) + γ * ((m - n) * (m - n)) = m * (P + R + (α + β)) + (n - m) * (R + (β + γ)) + α * (m * m - m) + β * (n * n - n) + γ * ((n - m) * (n - m) - (n - m)) := by grind
      have := a1 m; have := a2 n; have := a3 (n - m)
      omega
  · have b1 := Int.mul_nonneg hm (show 0 ≤ P + (α + γ) by omega)
    have b2 := Int.mul_nonneg (show 0 ≤ -n by omega) (show 0 ≤ -R + (β + γ) by omega)
    have e : m * P + n * R + α * (m * m) + β * (n * n) + γ * ((m - n) * (m - n)) = m * (P + (α + γ)) + (-n) * (-R + (β + γ)) + α * (m * m - m) + β * ((-n) * (-n) - (-n)) + γ * ((m - n) * (m - n) - (m - n)) := by grind
    have := a1 m; have := a2 (-n); have := a3 (m - n)
    omega
  · have b1 := Int.mul_nonneg (show 0 ≤ -m by omega) (show 0 ≤ -P + (α + γ) by omega)
    have b2 := Int.mul_nonneg hn (show 0 ≤ R + (β + γ) by omega)
    have e : m * P + n * R + α * (m * m) + β * (n * n) + γ * ((m - n) * (m - n)) = (-m) * (-P + (α + γ)) + n * (R + (β + γ)) + α * ((-m) * (-m) - (-m)) + β * (n * n - n) + γ * ((n - m) * (n - m) - (n - m)) := by grind
    have := a1 (-m); have := a2 n; have := a3 (n - m)
    omega
  · rcases Int.le_total n m with h | h
    · have b1 := Int.mul_nonneg (show 0 ≤ -m by omega) (show 0 ≤ -(P + R) + (α + β) by omega)
      have b2 := Int.mul_nonneg (show 0 ≤ m - n by omega) (show 0 ≤ -R + (β + γ) by omega)
      have e : m * P + n * R + α * (m * m) + β * (n * n) + γ * ((m - n) * (m - n)) = (-m) * (-(P + R) + (α + β)) + (m - n) * (-R + (β + γ)) + α * ((-m) * (-m) - (-m)) + β * ((-n) * (-n) - (-n)) + γ * ((m - n) * (m - n) - (m - n)) := by grind
      have := a1 (-m); have := a2 (-n); have := a3 (m - n)
      omega
    · have b1 := Int.mul_nonneg (show 0 ≤ -n by omega) (show 0 ≤ -(P + R) + (α + β) by omega)
      have b2 := Int.mul_nonneg (show 0 ≤ n - m by omega) (show 0 ≤ -P + (α + γ) by omega)
      have e : m * P + n * R + α * (m * m) + β * (n * n) + γ * ((m - n) * (m - n)) = (-n) * (-(P + R) + (α + β)) + (n - m) * (-P + (α + γ)) + α * ((-m) * (-m) - (-m)) + β * ((-n) * (-n) - (-n)) + γ * ((n - m) * (n - m) - (n - m)) := by grind
      have := a1 (-m); have := a2 (-n); have := a3 (n - m)
      omega
/-- The sign with which the second pull is added to the first one. -/
def sgn (x y u v : Int) : Int := if x * u + y * v > 0 then -1 else 1
theorem sgn_cases (x y u v : Int) : (sgn x y u v = 1 ∧ x * u + y * v ≤ 0) ∨ (sgn x y u v = -1 ∧ 0 < x * u + y * v) := by
  unfold sgn
  split
  · exact .inr ⟨rfl, by omega⟩
  · exact .inl ⟨rfl, by omega⟩
/-- A rest (a, b) has no product with the six vectors that is too great. -/
def near6 (x y u v a b : Int) : Prop :=
  (-(x * x + y * y) ≤ 2 * (a * x + b * y) ∧ 2 * (a * x + b * y) ≤ x * x + y * y) ∧
  (-(u * u + v * v) ≤ 2 * (a * u + b * v) ∧ 2 * (a * u + b * v) ≤ u * u + v * v) ∧
  (-((x + sgn x y u v * u) * (x + sgn x y u v * u) + (y + sgn x y u v * v) * (y + sgn x y u v * v)) ≤ 2 * (a * (x + sgn x y u v * u) + b * (y + sgn x y u v * v)) ∧
    2 * (a * (x + sgn x y u v * u) + b * (y + sgn x y u v * v)) ≤ (x + sgn x y u v * u) * (x + sgn x y u v * u) + (y + sgn x y u v * v) * (y + sgn x y u v * v))
theorem near6_min {x y u v a b : Int} (h : red x y u v) (hn : near6 x y u v a b) (m n : Int) : a * a + b * b ≤ (a + m * x + n * u) * (a + m * x + n * u) + (b + m * y + n * v) * (b + m * y + n * v) := by
  obtain ⟨h1, h2, h3⟩ := h
  obtain ⟨n1, n2, n3⟩ := hn
  have hs : 0 ≤ x * x + y * y := by have := sq_nn x; have := sq_nn y; omega
  rcases sgn_cases x y u v with ⟨e, hg⟩ | ⟨e, hg⟩ <;> rw [e] at n3
  · have e3 : (x + 1 * u) * (x + 1 * u) + (y + 1 * v) * (y + 1 * v) = (x * x + y * y) + 2 * (x * u + y * v) + (u * u + v * v) := by grind
    have e4 : 2 * (a * (x + 1 * u) + b * (y + 1 * v)) = 2 * (a * x + b * y) + 2 * (a * u + b * v) := by grind
    rw [e3, e4] at n3
    have key := voro (α := (x * x + y * y) + (x * u + y * v)) (β := (u * u + v * v) + (x * u + y * v)) (γ := -(x * u + y * v)) (P := 2 * (a * x + b * y)) (R := 2 * (a * u + b * v)) (by omega) (by omega) (by omega) (by omega) (by omega) (by omega) m n
    have e5 : (a + m * x + n * u) * (a + m * x + n * u) + (b + m * y + n * v) * (b + m * y + n * v) = a * a + b * b + (m * (2 * (a * x + b * y)) + n * (2 * (a * u + b * v)) + ((x * x + y * y) + (x * u + y * v)) * (m * m) + ((u * u + v * v) + (x * u + y * v)) * (n * n) + -(x * u + y * v) * ((m - n) * (m - n))) := by grind
    omega
  · have e3 : (x + -1 * u) * (x + -1 * u) + (y + -1 * v) * (y + -1 * v) = (x * x + y * y) - 2 * (x * u + y * v) + (u * u + v * v) := by grind
    have e4 : 2 * (a * (x + -1 * u) + b * (y + -1 * v)) = 2 * (a * x + b * y) - 2 * (a * u + b * v) := by grind
    rw [e3, e4] at n3
    have key := voro (α := (x * x + y * y) - (x * u + y * v)) (β := (u * u + v * v) - (x * u + y * v)) (γ := x * u + y * v) (P := 2 * (a * x + b * y)) (R := -(2 * (a * u + b * v))) (by omega) (by omega) (by omega) (by omega) (by omega) (by omega) m (-n)
    have e5 : (a + m * x + n * u) * (a + m * x + n * u) + (b + m * y + n * v) * (b + m * y + n * v) = a * a + b * b + (m * (2 * (a * x + b * y)) + (-n) * -(2 * (a * u + b * v)) + ((x * x + y * y) - (x * u + y * v)) * (m * m) + ((u * u + v * v) - (x * u + y * v)) * (-n * -n) + (x * u + y * v) * ((m - -n) * (m - -n))) := by grind
    omega
theorem min_near6 {x y u v a b : Int} (h : ∀ m n : Int, a * a + b * b ≤ (a + m * x + n * u) * (a + m * x + n * u) + (b + m * y + n * v) * (b + m * y + n * v)) : near6 x y u v a b := by
  have f : ∀ m n : Int, -((m * x + n * u) * (m * x + n * u) + (m * y + n * v) * (m * y + n * v)) ≤ 2 * (a * (m * x + n * u) + b * (m * y + n * v)) := fun m n => by
    have := h m n
    have e : (a + m * x + n * u) * (a + m * x + n * u) + (b + m * y + n * v) * (b + m * y + n * v) = a * a + b * b + 2 * (a * (m * x + n * u) + b * (m * y + n * v)) + ((m * x + n * u) * (m * x + n * u) + (m * y + n * v) * (m * y + n * v)) := by grind
    omega
  unfold near6
  generalize sgn x y u v = z
  have f1 := f 1 0
  have f2 := f (-1) 0
  have f3 := f 0 1
  have f4 := f 0 (-1)
  have f5 := f 1 z
  have f6 := f (-1) (-z)
  have g1 : (-1 * x + -z * u) * (-1 * x + -z * u) + (-1 * y + -z * v) * (-1 * y + -z * v) = (x + z * u) * (x + z * u) + (y + z * v) * (y + z * v) := by grind
  have g2 : 2 * (a * (-1 * x + -z * u) + b * (-1 * y + -z * v)) = -(2 * (a * (x + z * u) + b * (y + z * v))) := by grind
  have g3 : (-1 * x + 0 * u) * (-1 * x + 0 * u) + (-1 * y + 0 * v) * (-1 * y + 0 * v) = x * x + y * y := by grind
  have g4 : 2 * (a * (-1 * x + 0 * u) + b * (-1 * y + 0 * v)) = -(2 * (a * x + b * y)) := by grind
  have g5 : (0 * x + -1 * u) * (0 * x + -1 * u) + (0 * y + -1 * v) * (0 * y + -1 * v) = u * u + v * v := by grind
  have g6 : 2 * (a * (0 * x + -1 * u) + b * (0 * y + -1 * v)) = -(2 * (a * u + b * v)) := by grind
  rw [g1, g2] at f6
  rw [g3, g4] at f2
  rw [g5, g6] at f4
  simp only [Int.one_mul, Int.zero_mul, Int.add_zero, Int.zero_add] at f1 f3 f5
  exact ⟨⟨f1, by omega⟩, ⟨f3, by omega⟩, ⟨f5, by omega⟩⟩
/-- Such a rest has an area with each pull that is no greater than the kit's. -/
theorem near6_cross {x y u v a b : Int} (h : red x y u v) (hd : x * v - y * u ≠ 0) (hn : near6 x y u v a b) :
    (-((x * v - y * u).natAbs : Int) ≤ a * v - b * u ∧ a * v - b * u ≤ ((x * v - y * u).natAbs : Int)) ∧ (-((x * v - y * u).natAbs : Int) ≤ x * b - y * a ∧ x * b - y * a ≤ ((x * v - y * u).natAbs : Int)) := by
  have har := area_of h
  obtain ⟨h1, h2, h3⟩ := h
  obtain ⟨n1, n2, _⟩ := hn
  have hs : 0 ≤ x * x + y * y := by have := sq_nn x; have := sq_nn y; omega
  have e1 : (a * v - b * u) * (x * v - y * u) = (a * x + b * y) * (u * u + v * v) - (a * u + b * v) * (x * u + y * v) := by grind
  have e2 : (x * b - y * a) * (x * v - y * u) = (a * u + b * v) * (x * x + y * y) - (a * x + b * y) * (x * u + y * v) := by grind
  generalize hS : x * x + y * y = s at *
  generalize hT : u * u + v * v = t at *
  generalize hG : x * u + y * v = g at *
  generalize hP : a * x + b * y = p at *
  generalize hR : a * u + b * v = r at *
  have m1 := mul_le (a := 2 * p) (b := t) (m := s) (n := t) (by omega) (by omega) hs (by omega)
  have m2 := mul_le (a := 2 * r) (b := 2 * g) (m := t) (n := s) (by omega) (by omega) (by omega) hs
  have m3 := mul_le (a := 2 * r) (b := s) (m := t) (n := s) (by omega) (by omega) (by omega) hs
  have m4 := mul_le (a := 2 * p) (b := 2 * g) (m := s) (n := s) (by omega) (by omega) hs hs
  have m5 : s * s ≤ s * t := Int.mul_le_mul_of_nonneg_left h1 hs
  have q1 : 2 * p * t = 2 * (p * t) := by grind
  have q2 : 2 * r * (2 * g) = 4 * (r * g) := by grind
  have q3 : 2 * r * s = 2 * (r * s) := by grind
  have q4 : 2 * p * (2 * g) = 4 * (p * g) := by grind
  have q5 : 3 * s * t = 3 * (s * t) := by grind
  have q6 : t * s = s * t := by grind
  generalize x * v - y * u = d at *
  have key : ∀ z : Int, -(d * d) ≤ z * d → z * d ≤ d * d → -(d.natAbs : Int) ≤ z ∧ z ≤ (d.natAbs : Int) := by
    intro z z1 z2
    have : z.natAbs * d.natAbs ≤ d.natAbs * d.natAbs := by rw [← Int.natAbs_mul, ← Int.natAbs_mul]; omega
    have : z.natAbs ≤ d.natAbs := Nat.le_of_mul_le_mul_right this (by omega)
    omega
  exact ⟨key _ (by omega) (by omega), key _ (by omega) (by omega)⟩

/-! ### Best choices -/
/-- The square of what a choice leaves. -/
def lft (a b c d e f : Int) (p : Int × Int) : Int := (e + p.1 * a + p.2 * c) * (e + p.1 * a + p.2 * c) + (f + p.1 * b + p.2 * d) * (f + p.1 * b + p.2 * d)
def Best (a b c d e f : Int) (p : Int × Int) : Prop := ∀ q, lft a b c d e f p ≤ lft a b c d e f q
/-- Choices are numbers of bundles. -/
theorem by_bundles {i j k l : Int} (hd : i * l - j * k = 1 ∨ i * l - j * k = -1) (p : Int × Int) : ∃ m n : Int, p = (m * i + n * k, m * j + n * l) := by
  obtain ⟨X, Y⟩ := p
  generalize hD : i * l - j * k = D at hd
  have hDD : D * D = 1 := by rcases hd with h | h <;> subst h <;> rfl
  have e1 : D * (X * l - Y * k) * i + D * (Y * i - X * j) * k = X := by
    have : D * (X * l - Y * k) * i + D * (Y * i - X * j) * k = D * (i * l - j * k) * X := by grind
    rw [this, hD, hDD, Int.one_mul]
  have e2 : D * (X * l - Y * k) * j + D * (Y * i - X * j) * l = Y := by
    have : D * (X * l - Y * k) * j + D * (Y * i - X * j) * l = D * (i * l - j * k) * Y := by grind
    rw [this, hD, hDD, Int.one_mul]
  exact ⟨D * (X * l - Y * k), D * (Y * i - X * j), by rw [e1, e2]⟩
theorem lft_bundles (a b c d e f i j k l m n : Int) : lft a b c d e f (m * i + n * k, m * j + n * l) =
    (e + m * (i * a + j * c) + n * (k * a + l * c)) * (e + m * (i * a + j * c) + n * (k * a + l * c)) + (f + m * (i * b + j * d) + n * (k * b + l * d)) * (f + m * (i * b + j * d) + n * (k * b + l * d)) := by
  unfold lft
  grind
theorem best_near6 {a b c d e f i j k l m n : Int} (hd : i * l - j * k = 1 ∨ i * l - j * k = -1) (hr : red (i * a + j * c) (i * b + j * d) (k * a + l * c) (k * b + l * d)) :
    Best a b c d e f (m * i + n * k, m * j + n * l) ↔ near6 (i * a + j * c) (i * b + j * d) (k * a + l * c) (k * b + l * d) (e + m * (i * a + j * c) + n * (k * a + l * c)) (f + m * (i * b + j * d) + n * (k * b + l * d)) := by
  constructor
  · intro h
    refine min_near6 fun m' n' => ?_
    have := h ((m + m') * i + (n + n') * k, (m + m') * j + (n + n') * l)
    rw [lft_bundles, lft_bundles] at this
    have e1 : e + (m + m') * (i * a + j * c) + (n + n') * (k * a + l * c) = e + m * (i * a + j * c) + n * (k * a + l * c) + m' * (i * a + j * c) + n' * (k * a + l * c) := by grind
    have e2 : f + (m + m') * (i * b + j * d) + (n + n') * (k * b + l * d) = f + m * (i * b + j * d) + n * (k * b + l * d) + m' * (i * b + j * d) + n' * (k * b + l * d) := by grind
    rw [e1, e2] at this
    exact this
  · intro h q
    obtain ⟨m', n', rfl⟩ := by_bundles hd q
    rw [lft_bundles, lft_bundles]
    have := near6_min hr h (m' - m) (n' - n)
    have e1 : e + m' * (i * a + j * c) + n' * (k * a + l * c) = e + m * (i * a + j * c) + n * (k * a + l * c) + (m' - m) * (i * a + j * c) + (n' - n) * (k * a + l * c) := by grind
    have e2 : f + m' * (i * b + j * d) + n' * (k * b + l * d) = f + m * (i * b + j * d) + n * (k * b + l * d) + (m' - m) * (i * b + j * d) + (n' - n) * (k * b + l * d) := by grind
    rw [e1, e2]
    exact this
/-- Two best choices that are equal modulo 2 are equal. -/
theorem best_parity {a b c d e f : Int} (hd : a * d - b * c ≠ 0) {p q : Int × Int} (hp : Best a b c d e f p) (hq : Best a b c d e f q) (h1 : p.1 % 2 = q.1 % 2) (h2 : p.2 % 2 = q.2 % 2) : p = q := by
  obtain ⟨m, hm⟩ : ∃ m, q.1 = p.1 + 2 * m := ⟨(q.1 - p.1) / 2, by omega⟩
  obtain ⟨n, hn⟩ : ∃ n, q.2 = p.2 + 2 * n := ⟨(q.2 - p.2) / 2, by omega⟩
  have a1 := hp (p.1 + m, p.2 + n)
  have a2 := hq (p.1 + m, p.2 + n)
  unfold lft at a1 a2
  simp only at a1 a2
  rw [hm, hn] at a2
  generalize hX : e + p.1 * a + p.2 * c = X at *
  generalize hY : f + p.1 * b + p.2 * d = Y at *
  generalize hU : m * a + n * c = U
  generalize hV : m * b + n * d = V
  have e1 : e + (p.1 + m) * a + (p.2 + n) * c = X + U := by grind
  have e2 : f + (p.1 + m) * b + (p.2 + n) * d = Y + V := by grind
  have e3 : e + (p.1 + 2 * m) * a + (p.2 + 2 * n) * c = X + 2 * U := by grind
  have e4 : f + (p.1 + 2 * m) * b + (p.2 + 2 * n) * d = Y + 2 * V := by grind
  rw [e1, e2] at a1 a2
  rw [e3, e4] at a2
  have u1 : (X + 2 * U) * (X + 2 * U) = 2 * ((X + U) * (X + U)) - X * X + 2 * (U * U) := by grind
  have u2 : (Y + 2 * V) * (Y + 2 * V) = 2 * ((Y + V) * (Y + V)) - Y * Y + 2 * (V * V) := by grind
  rw [u1, u2] at a2
  have nu := sq_nn U
  have nv := sq_nn V
  have hU0 := sq_bd (a := U) (m := 0) (by omega) (by omega)
  have hV0 := sq_bd (a := V) (m := 0) (by omega) (by omega)
  have U0 : U = 0 := by omega
  have V0 : V = 0 := by omega
  have m0 : m * (a * d - b * c) = U * d - V * c := by grind
  have n0 : n * (a * d - b * c) = V * a - U * b := by grind
  rw [U0, V0] at m0 n0
  simp only [Int.zero_mul, Int.sub_zero, Int.mul_eq_zero] at m0 n0
  have hm0 : m = 0 := by rcases m0 with h | h; exact h; exact absurd h hd
  have hn0 : n = 0 := by rcases n0 with h | h; exact h; exact absurd h hd
  subst hm0; subst hn0
  ext <;> omega
theorem best_four {a b c d e f : Int} (hd : a * d - b * c ≠ 0) {L : List (Int × Int)} (hn : L.Nodup) (hb : ∀ p ∈ L, Best a b c d e f p) : L.length ≤ 4 := by
  have h1 : (L.map fun p => (p.1 % 2, p.2 % 2)).Nodup := by
    induction L with
    | nil => exact List.nodup_nil
    | cons p L ih =>
      have hn' := List.nodup_cons.1 hn
      rw [List.map_cons, List.nodup_cons]
      refine ⟨fun hm => ?_, ih hn'.2 fun q hq => hb q (.tail _ hq)⟩
      obtain ⟨q, hq, e⟩ := List.mem_map.1 hm
      simp only [Prod.mk.injEq] at e
      have := best_parity hd (hb p (.head _)) (hb q (.tail _ hq)) e.1.symm e.2.symm
      exact hn'.1 (this ▸ hq)
  have := len_le h1 (m := [(0, 0), (0, 1), (1, 0), (1, 1)]) (by
    intro x hx
    obtain ⟨p, _, rfl⟩ := List.mem_map.1 hx
    have a1 : p.1 % 2 = 0 ∨ p.1 % 2 = 1 := by omega
    have a2 : p.2 % 2 = 0 ∨ p.2 % 2 = 1 := by omega
    rcases a1 with a1 | a1 <;> rcases a2 with a2 | a2 <;> rw [a1, a2] <;> simp)
  simpa using this
end Go.Proofs.Ytenjelagfbceeaa
