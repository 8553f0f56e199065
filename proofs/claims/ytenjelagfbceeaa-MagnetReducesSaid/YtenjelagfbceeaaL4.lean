/- The plain law of MagnetReduces: what the functions compute, in plain Lean. -/
import Derived.Test.YtenjelagfbceeaaG4
set_option linter.unusedVariables false
set_option linter.unusedSimpArgs false
set_option maxHeartbeats 4000000
namespace Go.Proofs.Ytenjelagfbceeaa
open Go Go.Cl
theorem w64_id {x : Int} (h1 : -9223372036854775808 ≤ x) (h2 : x ≤ 9223372036854775807) : w64 x = x := by
  simp [w64, IntKind.wrap, IntKind.signed, IntKind.bits]
  omega
theorem F68_eq (a b c : Int) : F68 a b c = some (decide (a ≤ b ∧ b ≤ c)) := by
  unfold F68
  by_cases h : a ≤ b <;> simp [h]
theorem F73_eq (a b c : Int) : F73 a b c = some (decide (b ≤ a ∧ a ≤ c)) := by
  unfold F73
  by_cases h : b ≤ a <;> simp [h]
/-- Both lie within m. -/
def inb (m a b : Int) : Bool := decide ((-m ≤ a ∧ a ≤ m) ∧ (-m ≤ b ∧ b ≤ m))
theorem inb_of {m a b : Int} (h : inb m a b = true) : (-m ≤ a ∧ a ≤ m) ∧ (-m ≤ b ∧ b ≤ m) := of_decide_eq_true h
theorem F58_eq (a b m : Int) (h : 0 ≤ m) (hm : m ≤ 1000000) : F58 a b m = some (inb m a b) := by
  unfold inb
  unfold F58
  rw [w64_id (x := 0 - m) (by omega) (by omega), F68_eq, F68_eq]
  by_cases h1 : (0 - m ≤ a ∧ a ≤ m)
  · have : (-m ≤ a ∧ a ≤ m) := by omega
    simp [h1, this]
  · have : ¬ (-m ≤ a ∧ a ≤ m) := by omega
    simp [h1, this]
theorem F55_eq (a b m : Int) (h : 0 ≤ m) (hm : m ≤ 1000000) : F55 a b m = some (inb m a b) := by
  unfold inb
  unfold F55
  rw [w64_id (x := 0 - m) (by omega) (by omega), F73_eq, F73_eq]
  by_cases h1 : (0 - m ≤ a ∧ a ≤ m)
  · have : (-m ≤ a ∧ a ≤ m) := by omega
    simp [h1, this]
  · have : ¬ (-m ≤ a ∧ a ≤ m) := by omega
    simp [h1, this]

theorem mul_le {a b m n : Int} (ha : -m ≤ a ∧ a ≤ m) (hb : -n ≤ b ∧ b ≤ n) (hm : 0 ≤ m) (hn : 0 ≤ n) : -(m * n) ≤ a * b ∧ a * b ≤ m * n := by
  have h1 : a.natAbs ≤ m.natAbs := by omega
  have h2 : b.natAbs ≤ n.natAbs := by omega
  have h3 := Nat.mul_le_mul h1 h2
  rw [← Int.natAbs_mul, ← Int.natAbs_mul] at h3
  have h4 : 0 ≤ m * n := Int.mul_nonneg hm hn
  omega
theorem F20_eq (a b c d : Int) : F20 a b c d = some (if inb 1000 a b && inb 1000 c d then if a * d - b * c = 0 then 15 else 0 else 1) := by
  unfold F20 F59
  rw [F58_eq _ _ _ (by omega) (by omega), F58_eq _ _ _ (by omega) (by omega)]
  cases h1 : inb 1000 a b
  · simp
  · cases h2 : inb 1000 c d
    · simp
    · have h1 := inb_of h1
      have h2 := inb_of h2
      have h3 := mul_le (a := a) (b := d) (m := 1000) (n := 1000) (by omega) (by omega) (by omega) (by omega)
      have h4 := mul_le (a := b) (b := c) (m := 1000) (n := 1000) (by omega) (by omega) (by omega) (by omega)
      rw [w64_id (x := a * d) (by omega) (by omega), w64_id (x := b * c) (by omega) (by omega), w64_id (x := a * d - b * c) (by omega) (by omega)]
      by_cases h : a * d - b * c = 0 <;> simp [h]
theorem F21_eq (a b c d : Int) : F21 a b c d = F20 a b c d := by
  rw [F20_eq]
  unfold F21 F60
  rw [F55_eq _ _ _ (by omega) (by omega), F55_eq _ _ _ (by omega) (by omega)]
  cases h1 : inb 1000 a b
  · simp
  · cases h2 : inb 1000 c d
    · simp
    · have h1 := inb_of h1
      have h2 := inb_of h2
      have h3 := mul_le (a := a) (b := d) (m := 1000) (n := 1000) (by omega) (by omega) (by omega) (by omega)
      have h4 := mul_le (a := b) (b := c) (m := 1000) (n := 1000) (by omega) (by omega) (by omega) (by omega)
      rw [w64_id (x := a * d) (by omega) (by omega), w64_id (x := b * c) (by omega) (by omega), w64_id (x := a * d - b * c) (by omega) (by omega), w64_id (x := b * c - a * d) (by omega) (by omega)]
      generalize a * d = u at *
      generalize b * c = v at *
      by_cases h : u - v = 0
      · have : v - u = 0 := by omega
        simp [h, this, mx]
      · have : ¬ (if v - u > u - v then v - u else u - v) = 0 := by split <;> omega
        simp only [Option.bind_eq_bind, Option.bind_some, h, Bool.and_true, beq_iff_eq]
        simp [mx, this, h]
theorem F61l0_fix  (z68 : (Int × Int × Int × Int × Int × Int × Int × Int)) : F61l0 z68 = (
    F72 z68.1 z68.2.1 z68.2.2.1 z68.2.2.2.1 >>= fun r51 =>
    F63 z68.1 z68.2.1 >>= fun r53 =>
    F63 z68.1 z68.2.1 >>= fun r55 =>
    F69 (w64 ((w64 (2 * r51)) + r53)) (w64 (2 * r55)) >>= fun r57 =>
    F53 z68.2.2.1 z68.2.2.2.1 (w64 (0 - r57)) z68.1 z68.2.1 >>= fun r59 =>
    F78 z68.2.2.2.2.2.2.1 z68.2.2.2.2.2.2.2 (w64 (0 - r57)) z68.2.2.2.2.1 z68.2.2.2.2.2.1 >>= fun r61 =>
    F63 z68.1 z68.2.1 >>= fun r63 =>
    F63 r59.1 r59.2 >>= fun r65 =>
    if decide (r63 ≤ r65) then
      some (z68.1, z68.2.1, r59.1, r59.2, z68.2.2.2.2.1, z68.2.2.2.2.2.1, r61.1, r61.2)
    else
      F61l0  (r59.1, r59.2, z68.1, z68.2.1, r61.1, r61.2, z68.2.2.2.2.1, z68.2.2.2.2.2.1)
    : Option (Int × Int × Int × Int × Int × Int × Int × Int)) := by
  delta F61l0
  conv => lhs; rw [Lean.Order.fix_eq]
theorem F62l0_fix (p0 : Int) (p1 : Int) (p2 : Int) (p3 : Int) (v26 : Int) (v27 : Int) (v28 : Int) (v29 : Int) : F62l0 p0 p1 p2 p3 v26 v27 v28 v29 = (
    F57 p0 p1 p2 p3 v26 v27 >>= fun r59 =>
    F57 p0 p1 p2 p3 v28 v29 >>= fun r61 =>
    F51 r59.1 r59.2 r61.1 r61.2 >>= fun r63 =>
    (
      if r63 then
        some (false)
      else
        some (true)
    : Option Bool) >>= fun m65 =>
    if m65 then
      F57 p0 p1 p2 p3 v26 v27 >>= fun r66 =>
      F57 p0 p1 p2 p3 v28 v29 >>= fun r68 =>
      F64 r66.1 r66.2 r66.1 r66.2 >>= fun r70 =>
      F64 r68.1 r68.2 r68.1 r68.2 >>= fun r72 =>
      if decide (r70 > r72) then
        F62l0 p0 p1 p2 p3 v28 v29 v26 v27
      else
        F64 r66.1 r66.2 r68.1 r68.2 >>= fun r75 =>
        F64 r66.1 r66.2 r66.1 r66.2 >>= fun r77 =>
        F64 r66.1 r66.2 r66.1 r66.2 >>= fun r79 =>
        F74 (w64 ((w64 (2 * r75)) + r77)) (w64 (2 * r79)) >>= fun r81 =>
        F62l0 p0 p1 p2 p3 v26 v27 (w64 (v28 - (w64 (r81 * v26)))) (w64 (v29 - (w64 (r81 * v27))))
    else
      some (v26, v27, v28, v29)
    : Option (Int × Int × Int × Int)) := by
  delta F62l0
  conv => lhs; rw [Lean.Order.fix_eq]
/-! ### Numbers -/
theorem sq_bd {a m : Int} (hm : 0 ≤ m) (h : a * a ≤ m * m) : -m ≤ a ∧ a ≤ m := by
  constructor
  · apply Classical.byContradiction
    intro hc
    have h1 : m + 1 ≤ -a := by omega
    have h2 := Int.mul_le_mul h1 h1 (by omega) (by omega)
    have h3 : -a * -a = a * a := by grind
    have h4 : (m + 1) * (m + 1) = m * m + 2 * m + 1 := by grind
    omega
  · apply Classical.byContradiction
    intro hc
    have h1 : m + 1 ≤ a := by omega
    have h2 := Int.mul_le_mul h1 h1 (by omega) (by omega)
    have h4 : (m + 1) * (m + 1) = m * m + 2 * m + 1 := by grind
    omega
theorem sq_nn (a : Int) : 0 ≤ a * a := by
  cases Int.le_total 0 a with
  | inl h => exact Int.mul_nonneg h h
  | inr h => exact Int.mul_nonneg_of_nonpos_of_nonpos h h
/-- The remainder, brought up to nothing or more. -/
theorem tmod_up {n d : Int} (hd : 0 < d) : (Int.tmod n d + d).tmod d = n % d := by
  have h1 : 0 ≤ Int.tmod n d + d := by
    rw [Int.tmod_eq_emod]
    have := Int.emod_nonneg n (b := d) (by omega)
    split <;> omega
  rw [Int.tmod_eq_emod_of_nonneg h1, Int.add_emod_right]
  have h2 : Int.tmod n d = n - d * Int.tdiv n d := by
    have := Int.mul_tdiv_add_tmod n d
    omega
  rw [h2, Int.sub_mul_emod_self_left]
theorem F69_eq {n d : Int} (hd : 0 < d) (hd2 : d ≤ 1000000000000) (hn : -1000000000000 ≤ n ∧ n ≤ 1000000000000) : F69 n d = some (n / d) := by
  unfold F69
  have h1 : ¬ d < 0 := by omega
  have h2 : ¬ d = 0 := by omega
  have ht : -d < Int.tmod n d ∧ Int.tmod n d < d := ⟨Int.lt_tmod_of_pos n hd, Int.tmod_lt_of_pos n hd⟩
  simp only [h1, h2, decide_false, Bool.false_eq_true, if_false, Option.bind_eq_bind, Option.bind_some]
  rw [w64_id (x := Int.tmod n d + d) (by omega) (by omega), tmod_up hd]
  have h3 := Int.emod_nonneg n (b := d) (by omega)
  have h4 := Int.emod_lt_of_pos n hd
  have h5 := Int.mul_ediv_add_emod n d
  rw [w64_id (x := n - n % d) (by omega) (by omega)]
  have h6 : n - n % d = d * (n / d) := by omega
  rw [h6, Int.mul_tdiv_cancel_left _ h2]
  have h7 : -1000000000001 ≤ n / d := by
    rw [Int.le_ediv_iff_mul_le hd]
    have : -1000000000001 * d ≤ -1000000000001 * 1 := Int.mul_le_mul_of_nonpos_left (by omega) (by omega)
    omega
  have h8 : n / d ≤ 1000000000001 := by
    have : n / d < 1000000000001 := by
      rw [Int.ediv_lt_iff_lt_mul hd]
      have : 1000000000001 * 1 ≤ 1000000000001 * d := Int.mul_le_mul_of_nonneg_left (by omega) (by omega)
      omega
    omega
  rw [w64_id (by omega) (by omega)]
theorem F74_eq {n d : Int} (hd : 0 < d) (hd2 : d ≤ 1000000000000) (hn : -1000000000000 ≤ n ∧ n ≤ 1000000000000) : F74 n d = some (n / d) := by
  unfold F74
  have h2 : ¬ d = 0 := by omega
  have h4 := Int.emod_lt_of_pos n hd
  have h4' := Int.emod_nonneg n (b := d) (by omega)
  have h7 : -1000000000001 ≤ n / d := by
    rw [Int.le_ediv_iff_mul_le hd]
    have : -1000000000001 * d ≤ -1000000000001 * 1 := Int.mul_le_mul_of_nonpos_left (by omega) (by omega)
    omega
  have h8 : n / d ≤ 1000000000001 := by
    have : n / d < 1000000000001 := by
      rw [Int.ediv_lt_iff_lt_mul hd]
      have : 1000000000001 * 1 ≤ 1000000000001 * d := Int.mul_le_mul_of_nonneg_left (by omega) (by omega)
      omega
    omega
  simp only [h2, if_false, Option.bind_eq_bind, Option.bind_some]
  rw [Int.tdiv_eq_ediv, Int.tmod_eq_emod, Int.sign_eq_one_of_pos hd]
  by_cases hc : 0 ≤ n ∨ d ∣ n
  · have : ¬ (n % d - ((0 : Nat) : Int) < 0) := by omega
    simp only [hc, if_true, this, decide_false, Bool.false_eq_true, if_false, Int.add_zero, Option.bind_some]
    rw [w64_id (by omega) (by omega)]
  · have : (n % d - ((d.natAbs : Nat) : Int) < 0) := by omega
    simp only [hc, if_true, this, decide_true, if_false, Option.bind_some]
    rw [w64_id (x := n / d + 1) (by omega) (by omega), w64_id (x := n / d + 1 - 1) (by omega) (by omega)]
    congr 1
    omega

/-! ### Kits and bundles -/
/-- a kit within the bounds, not flat -/
structure Kit4 (p0 p1 p2 p3 : Int) : Prop where
  b0 : -1000 ≤ p0 ∧ p0 ≤ 1000
  b1 : -1000 ≤ p1 ∧ p1 ≤ 1000
  b2 : -1000 ≤ p2 ∧ p2 ≤ 1000
  b3 : -1000 ≤ p3 ∧ p3 ≤ 1000
  nf : p0 * p3 - p1 * p2 ≠ 0
/-- What (i, j) and (k, l) pull; they are complete; the pulls are (x, y) and (u, v) and not long. -/
structure Bun (p0 p1 p2 p3 i j k l : Int) : Prop where
  det : i * l - j * k = 1 ∨ i * l - j * k = -1
  sa : (i * p0 + j * p2) * (i * p0 + j * p2) + (i * p1 + j * p3) * (i * p1 + j * p3) ≤ 2000000
  sb : (k * p0 + l * p2) * (k * p0 + l * p2) + (k * p1 + l * p3) * (k * p1 + l * p3) ≤ 2000000
/-- A choice whose pull is short is small. -/
theorem small_of {p0 p1 p2 p3 i j : Int} (h : Kit4 p0 p1 p2 p3) (hs : (i * p0 + j * p2) * (i * p0 + j * p2) + (i * p1 + j * p3) * (i * p1 + j * p3) ≤ 2000000) :
    (-1500 ≤ i * p0 + j * p2 ∧ i * p0 + j * p2 ≤ 1500) ∧ (-1500 ≤ i * p1 + j * p3 ∧ i * p1 + j * p3 ≤ 1500) ∧ (-3000000 ≤ i ∧ i ≤ 3000000) ∧ (-3000000 ≤ j ∧ j ≤ 3000000) := by
  have e1 : i * (p0 * p3 - p1 * p2) = (i * p0 + j * p2) * p3 - (i * p1 + j * p3) * p2 := by grind
  have e2 : j * (p0 * p3 - p1 * p2) = (i * p1 + j * p3) * p0 - (i * p0 + j * p2) * p1 := by grind
  generalize i * p0 + j * p2 = x at *
  generalize i * p1 + j * p3 = y at *
  have nx := sq_nn x
  have ny := sq_nn y
  have hx := sq_bd (a := x) (m := 1500) (by omega) (by omega)
  have hy := sq_bd (a := y) (m := 1500) (by omega) (by omega)
  have a1 := mul_le (a := x) (b := p3) (m := 1500) (n := 1000) hx h.b3 (by omega) (by omega)
  have a2 := mul_le (a := y) (b := p2) (m := 1500) (n := 1000) hy h.b2 (by omega) (by omega)
  have a3 := mul_le (a := y) (b := p0) (m := 1500) (n := 1000) hy h.b0 (by omega) (by omega)
  have a4 := mul_le (a := x) (b := p1) (m := 1500) (n := 1000) hx h.b1 (by omega) (by omega)
  have nf := h.nf
  generalize p0 * p3 - p1 * p2 = d at *
  have key : ∀ q : Int, (-3000000 ≤ q * d ∧ q * d ≤ 3000000) → -3000000 ≤ q ∧ q ≤ 3000000 := by
    intro q hq
    have h1 : q.natAbs * d.natAbs ≤ 3000000 := by rw [← Int.natAbs_mul]; omega
    have h2 : q.natAbs * 1 ≤ q.natAbs * d.natAbs := Nat.mul_le_mul_left _ (by omega)
    omega
  refine ⟨hx, hy, key i (by omega), key j (by omega)⟩
/-- The pull of a complete choice is not nothing. -/
theorem pos_of {p0 p1 p2 p3 i j k l : Int} (h : Kit4 p0 p1 p2 p3) (hd : i * l - j * k = 1 ∨ i * l - j * k = -1) :
    0 < (i * p0 + j * p2) * (i * p0 + j * p2) + (i * p1 + j * p3) * (i * p1 + j * p3) := by
  have e : (i * p0 + j * p2) * (k * p1 + l * p3) - (i * p1 + j * p3) * (k * p0 + l * p2) = (i * l - j * k) * (p0 * p3 - p1 * p2) := by grind
  have nf := h.nf
  generalize i * p0 + j * p2 = x at *
  generalize i * p1 + j * p3 = y at *
  have nx := sq_nn x
  have ny := sq_nn y
  apply Classical.byContradiction
  intro hc
  have hx := sq_bd (a := x) (m := 0) (by omega) (by omega)
  have hy := sq_bd (a := y) (m := 0) (by omega) (by omega)
  have hx : x = 0 := by omega
  have hy : y = 0 := by omega
  subst hx; subst hy
  rcases hd with hd | hd <;> rw [hd] at e <;> omega
/-- The nearest multiple, taken away. -/
theorem near_of {s t n : Int} (hs : 0 < s) (hn : n = (2 * t + s) / (2 * s)) : -s ≤ 2 * (t - n * s) ∧ 2 * (t - n * s) < s ∧ 0 ≤ n * (2 * t - n * s) := by
  have h1 := Int.ediv_mul_le (2 * t + s) (b := 2 * s) (by omega)
  have h2 := Int.lt_ediv_add_one_mul_self (2 * t + s) (b := 2 * s) (by omega)
  rw [← hn] at h1 h2
  have e1 : n * (2 * s) = 2 * (n * s) := by grind
  have e2 : (n + 1) * (2 * s) = 2 * (n * s) + 2 * s := by grind
  refine ⟨by omega, by omega, ?_⟩
  by_cases h0 : 1 ≤ n
  · have : 0 ≤ 2 * t - n * s := by
      have : 1 * s ≤ n * s := Int.mul_le_mul_of_nonneg_right h0 (by omega)
      omega
    exact Int.mul_nonneg (by omega) this
  · by_cases h1 : n = 0
    · subst h1; omega
    · have : 2 * t - n * s ≤ 0 := by
        have : n * s ≤ -1 * s := Int.mul_le_mul_of_nonneg_right (by omega) (by omega)
        omega
      exact Int.mul_nonneg_of_nonpos_of_nonpos (by omega) this
/-- One step of the reduction: what is left is no longer than before. -/
theorem step_of {x y u v n : Int} (hs : 0 < x * x + y * y) (hn : n = (2 * (x * u + y * v) + (x * x + y * y)) / (2 * (x * x + y * y))) :
    (u - n * x) * (u - n * x) + (v - n * y) * (v - n * y) ≤ u * u + v * v ∧ -(x * x + y * y) ≤ 2 * (x * (u - n * x) + y * (v - n * y)) ∧ 2 * (x * (u - n * x) + y * (v - n * y)) < x * x + y * y := by
  obtain ⟨h1, h2, h3⟩ := near_of hs hn
  have e1 : (u - n * x) * (u - n * x) + (v - n * y) * (v - n * y) = u * u + v * v - n * (2 * (x * u + y * v) - n * (x * x + y * y)) := by grind
  have e2 : x * (u - n * x) + y * (v - n * y) = (x * u + y * v) - n * (x * x + y * y) := by grind
  rw [e1, e2]
  omega
/-- The numbers of a step are not great. -/
theorem n_bd {s t n : Int} (hs : 0 < s) (hs2 : s ≤ 10000000) (ht : -10000000 ≤ t ∧ t ≤ 10000000) (hn : n = (2 * t + s) / (2 * s)) : -40000000 ≤ n ∧ n ≤ 40000000 := by
  constructor
  · rw [hn, Int.le_ediv_iff_mul_le (by omega)]
    have : -40000000 * (2 * s) ≤ -40000000 * 2 := Int.mul_le_mul_of_nonpos_left (by omega) (by omega)
    omega
  · have : n < 40000001 := by
      rw [hn, Int.ediv_lt_iff_lt_mul (by omega)]
      have : 40000001 * 2 ≤ 40000001 * (2 * s) := Int.mul_le_mul_of_nonneg_left (by omega) (by omega)
      omega
    omega
theorem F72_eq {a b c d : Int} (ha : -1500 ≤ a ∧ a ≤ 1500) (hb : -1500 ≤ b ∧ b ≤ 1500) (hc : -1500 ≤ c ∧ c ≤ 1500) (hd : -1500 ≤ d ∧ d ≤ 1500) : F72 a b c d = some (a * c + b * d) := by
  have h1 := mul_le (m := 1500) (n := 1500) ha hc (by omega) (by omega)
  have h2 := mul_le (m := 1500) (n := 1500) hb hd (by omega) (by omega)
  unfold F72
  rw [w64_id (x := a * c) (by omega) (by omega), w64_id (x := b * d) (by omega) (by omega), w64_id (by omega) (by omega)]
theorem F64_eq {a b c d : Int} (ha : -1500 ≤ a ∧ a ≤ 1500) (hb : -1500 ≤ b ∧ b ≤ 1500) (hc : -1500 ≤ c ∧ c ≤ 1500) (hd : -1500 ≤ d ∧ d ≤ 1500) : F64 a b c d = some (a * c + b * d) := F72_eq ha hb hc hd
theorem F63_eq {a b : Int} (ha : -1500 ≤ a ∧ a ≤ 1500) (hb : -1500 ≤ b ∧ b ≤ 1500) : F63 a b = some (a * a + b * b) := by
  unfold F63
  rw [F72_eq ha hb ha hb]
  rfl
theorem F53_eq {u v n x y : Int} (hu : -3000000 ≤ u ∧ u ≤ 3000000) (hv : -3000000 ≤ v ∧ v ≤ 3000000) (hn : -40000000 ≤ n ∧ n ≤ 40000000) (hx : -3000000 ≤ x ∧ x ≤ 3000000) (hy : -3000000 ≤ y ∧ y ≤ 3000000) :
    F53 u v n x y = some (u + n * x, v + n * y) := by
  have h1 := mul_le (m := 40000000) (n := 3000000) hn hx (by omega) (by omega)
  have h2 := mul_le (m := 40000000) (n := 3000000) hn hy (by omega) (by omega)
  unfold F53
  rw [w64_id (x := n * x) (by omega) (by omega), w64_id (x := n * y) (by omega) (by omega), w64_id (x := u + n * x) (by omega) (by omega), w64_id (x := v + n * y) (by omega) (by omega)]
theorem F78_eq {u v n x y : Int} (hu : -3000000 ≤ u ∧ u ≤ 3000000) (hv : -3000000 ≤ v ∧ v ≤ 3000000) (hn : -40000000 ≤ n ∧ n ≤ 40000000) (hx : -3000000 ≤ x ∧ x ≤ 3000000) (hy : -3000000 ≤ y ∧ y ≤ 3000000) :
    F78 u v n x y = some (u + n * x, v + n * y) := F53_eq hu hv hn hx hy
theorem F57_eq {p0 p1 p2 p3 i j : Int} (h : Kit4 p0 p1 p2 p3) (hi : -100000000 ≤ i ∧ i ≤ 100000000) (hj : -100000000 ≤ j ∧ j ≤ 100000000) : F57 p0 p1 p2 p3 i j = some (i * p0 + j * p2, i * p1 + j * p3) := by
  have h0 := mul_le (m := 100000000) (n := 1000) hi h.b0 (by omega) (by omega)
  have h1 := mul_le (m := 100000000) (n := 1000) hi h.b1 (by omega) (by omega)
  have h2 := mul_le (m := 100000000) (n := 1000) hj h.b2 (by omega) (by omega)
  have h3 := mul_le (m := 100000000) (n := 1000) hj h.b3 (by omega) (by omega)
  unfold F57
  rw [w64_id (x := i * p0) (by omega) (by omega), w64_id (x := i * p1) (by omega) (by omega), w64_id (x := j * p2) (by omega) (by omega), w64_id (x := j * p3) (by omega) (by omega),
    w64_id (by omega) (by omega), w64_id (by omega) (by omega)]
/-- Reduced, as the chapter says it. -/
def red (x y u v : Int) : Prop := x * x + y * y ≤ u * u + v * v ∧ -(x * x + y * y) ≤ 2 * (x * u + y * v) ∧ 2 * (x * u + y * v) ≤ x * x + y * y
/-- The program's loop: it ends, and what it ends with is reduced. -/
theorem loop61 {p0 p1 p2 p3 : Int} (h : Kit4 p0 p1 p2 p3) : ∀ (m : Nat) (i j k l : Int), Bun p0 p1 p2 p3 i j k l →
    (i * p0 + j * p2) * (i * p0 + j * p2) + (i * p1 + j * p3) * (i * p1 + j * p3) < m →
    ∃ i' j' k' l', F61l0 (i * p0 + j * p2, i * p1 + j * p3, k * p0 + l * p2, k * p1 + l * p3, i, j, k, l) = some (i' * p0 + j' * p2, i' * p1 + j' * p3, k' * p0 + l' * p2, k' * p1 + l' * p3, i', j', k', l') ∧
      Bun p0 p1 p2 p3 i' j' k' l' ∧ red (i' * p0 + j' * p2) (i' * p1 + j' * p3) (k' * p0 + l' * p2) (k' * p1 + l' * p3) := by
  intro m
  induction m with
  | zero =>
    intro i j k l hB hm
    have := pos_of h hB.det
    omega
  | succ m ih =>
    intro i j k l hB hm
    obtain ⟨hx, hy, hi, hj⟩ := small_of h hB.sa
    obtain ⟨hu, hv, hk, hl⟩ := small_of h hB.sb
    have hp := pos_of h hB.det
    have hsa := hB.sa
    have hsb := hB.sb
    generalize hn : (2 * ((i * p0 + j * p2) * (k * p0 + l * p2) + (i * p1 + j * p3) * (k * p1 + l * p3)) + ((i * p0 + j * p2) * (i * p0 + j * p2) + (i * p1 + j * p3) * (i * p1 + j * p3))) / (2 * ((i * p0 + j * p2) * (i * p0 + j * p2) + (i * p1 + j * p3) * (i * p1 + j * p3))) = n
    have hst := step_of hp hn.symm
    have t1 := mul_le (m := 1500) (n := 1500) hx hu (by omega) (by omega)
    have t2 := mul_le (m := 1500) (n := 1500) hy hv (by omega) (by omega)
    have hnb := n_bd hp (by omega) (by omega) hn.symm
    have ek : k * p0 + l * p2 - n * (i * p0 + j * p2) = (k - n * i) * p0 + (l - n * j) * p2 := by grind
    have el : k * p1 + l * p3 - n * (i * p1 + j * p3) = (k - n * i) * p1 + (l - n * j) * p3 := by grind
    rw [ek, el] at hst
    have ed : i * (l - n * j) - j * (k - n * i) = i * l - j * k := by grind
    have hB' : Bun p0 p1 p2 p3 i j (k - n * i) (l - n * j) := ⟨by rw [ed]; exact hB.det, hsa, by omega⟩
    obtain ⟨hu', hv', hk', hl'⟩ := small_of h hB'.sb
    rw [F61l0_fix]
    simp only [Option.bind_eq_bind]
    rw [F72_eq hx hy hu hv, Option.bind_some, F63_eq hx hy, Option.bind_some, Option.bind_some]
    generalize hs : (i * p0 + j * p2) * (i * p0 + j * p2) + (i * p1 + j * p3) * (i * p1 + j * p3) = s at *
    generalize ht : (i * p0 + j * p2) * (k * p0 + l * p2) + (i * p1 + j * p3) * (k * p1 + l * p3) = t at *
    rw [w64_id (x := 2 * t) (by omega) (by omega), w64_id (x := 2 * t + s) (by omega) (by omega), w64_id (x := 2 * s) (by omega) (by omega), F69_eq (by omega) (by omega) (by omega), Option.bind_some, hn, w64_id (x := 0 - n) (by omega) (by omega)]
    rw [F53_eq (by omega) (by omega) (by omega) (by omega) (by omega), Option.bind_some, F78_eq hk hl (by omega) hi hj, Option.bind_some]
    have e1 : k * p0 + l * p2 + (0 - n) * (i * p0 + j * p2) = (k - n * i) * p0 + (l - n * j) * p2 := by grind
    have e2 : k * p1 + l * p3 + (0 - n) * (i * p1 + j * p3) = (k - n * i) * p1 + (l - n * j) * p3 := by grind
    have e3 : k + (0 - n) * i = k - n * i := by grind
    have e4 : l + (0 - n) * j = l - n * j := by grind
    simp only [e1, e2, e3, e4]
    rw [Option.bind_some, F63_eq hu' hv', Option.bind_some]
    split
    · rename_i hd
      have hd := of_decide_eq_true hd
      exact ⟨i, j, k - n * i, l - n * j, rfl, hB', by unfold red; rw [hs]; omega⟩
    · rename_i hd
      have hd : ¬ _ := fun h => hd (decide_eq_true h)
      have ed2 : (k - n * i) * j - (l - n * j) * i = -(i * (l - n * j) - j * (k - n * i)) := by grind
      have hB2 : Bun p0 p1 p2 p3 (k - n * i) (l - n * j) i j := ⟨by have := hB'.det; omega, hB'.sb, hB'.sa⟩
      exact ih _ _ _ _ hB2 (by omega)
/-- No combination of a reduced kit's pulls, but nothing, is shorter than its first one. -/
theorem red_min {x y u v : Int} (h : red x y u v) {m n : Int} (hmn : m ≠ 0 ∨ n ≠ 0) :
    x * x + y * y ≤ (m * x + n * u) * (m * x + n * u) + (m * y + n * v) * (m * y + n * v) := by
  obtain ⟨h1, h2, h3⟩ := h
  have e : (m * x + n * u) * (m * x + n * u) + (m * y + n * v) * (m * y + n * v) = m * m * (x * x + y * y) + m * n * (2 * (x * u + y * v)) + n * n * (u * u + v * v) := by grind
  rw [e]
  have hs : 0 ≤ x * x + y * y := by have := sq_nn x; have := sq_nn y; omega
  generalize x * x + y * y = s at *
  generalize 2 * (x * u + y * v) = t at *
  generalize u * u + v * v = r at *
  have hr : n * n * s ≤ n * n * r := Int.mul_le_mul_of_nonneg_left h1 (sq_nn n)
  have key : ∀ q : Int, 1 ≤ q → s ≤ q * s := fun q hq => by
    have := Int.mul_le_mul_of_nonneg_right hq hs
    omega
  have pos : ∀ m n : Int, (m ≠ 0 ∨ n ≠ 0) → 1 ≤ m * m - m * n + n * n := fun m n hmn => by
    have e4 : 4 * (m * m - m * n + n * n) = (2 * m - n) * (2 * m - n) + 3 * (n * n) := by grind
    have p1 := sq_nn (2 * m - n)
    by_cases hn : n = 0
    · subst hn
      have hm : m ≠ 0 := by omega
      have : m * m ≠ 0 := Int.mul_ne_zero hm hm
      have := sq_nn m
      simp only [Int.mul_zero, Int.sub_zero, Int.add_zero]
      omega
    · have h1 : n * n ≠ 0 := Int.mul_ne_zero hn hn
      have h2 := sq_nn n
      omega
  rcases Int.le_total 0 (m * n) with hp | hp
  · have a1 : m * n * (-s) ≤ m * n * t := Int.mul_le_mul_of_nonneg_left (by omega) hp
    have a2 := key _ (pos m n hmn)
    have e2 : (m * m - m * n + n * n) * s = m * m * s + m * n * (-s) + n * n * s := by grind
    omega
  · have a1 : m * n * s ≤ m * n * t := Int.mul_le_mul_of_nonpos_left hp (by omega)
    have a2 := key _ (pos m (-n) (by omega))
    have e2 : (m * m - m * (-n) + (-n) * (-n)) * s = m * m * s + m * n * s + n * n * s := by grind
    omega
/-- The first pull of a reduced complete kit is no longer than any pull but nothing. -/
theorem red_le {p0 p1 p2 p3 i j k l i' j' : Int} (hd : i * l - j * k = 1 ∨ i * l - j * k = -1)
    (hr : red (i * p0 + j * p2) (i * p1 + j * p3) (k * p0 + l * p2) (k * p1 + l * p3)) (h0 : i' ≠ 0 ∨ j' ≠ 0) :
    (i * p0 + j * p2) * (i * p0 + j * p2) + (i * p1 + j * p3) * (i * p1 + j * p3) ≤ (i' * p0 + j' * p2) * (i' * p0 + j' * p2) + (i' * p1 + j' * p3) * (i' * p1 + j' * p3) := by
  generalize hD : i * l - j * k = D at hd
  have hDD : D * D = 1 := by rcases hd with h | h <;> subst h <;> rfl
  have hm : D * (i' * l - j' * k) ≠ 0 ∨ D * (i * j' - j * i') ≠ 0 := by
    apply Classical.byContradiction
    intro hc
    have hc1 : D * (i' * l - j' * k) = 0 := by omega
    have hc2 : D * (i * j' - j * i') = 0 := by omega
    have q1 : D * (D * (i' * l - j' * k)) = i' * l - j' * k := by rw [← Int.mul_assoc, hDD, Int.one_mul]
    have q2 : D * (D * (i * j' - j * i')) = i * j' - j * i' := by rw [← Int.mul_assoc, hDD, Int.one_mul]
    rw [hc1] at q1; rw [hc2] at q2
    have r1 : i' * (i * l - j * k) = i * (i' * l - j' * k) + k * (i * j' - j * i') := by grind
    have r2 : j' * (i * l - j * k) = j * (i' * l - j' * k) + l * (i * j' - j * i') := by grind
    rw [← q1, ← q2, hD] at r1 r2
    simp only [Int.mul_zero, Int.add_zero] at r1 r2
    rcases hd with h | h <;> subst h <;> omega
  have e1 : (D * (i' * l - j' * k)) * (i * p0 + j * p2) + (D * (i * j' - j * i')) * (k * p0 + l * p2) = i' * p0 + j' * p2 := by
    have : (D * (i' * l - j' * k)) * (i * p0 + j * p2) + (D * (i * j' - j * i')) * (k * p0 + l * p2) = D * (i * l - j * k) * (i' * p0 + j' * p2) := by grind
    rw [this, hD, hDD, Int.one_mul]
  have e2 : (D * (i' * l - j' * k)) * (i * p1 + j * p3) + (D * (i * j' - j * i')) * (k * p1 + l * p3) = i' * p1 + j' * p3 := by
    have : (D * (i' * l - j' * k)) * (i * p1 + j * p3) + (D * (i * j' - j * i')) * (k * p1 + l * p3) = D * (i * l - j * k) * (i' * p1 + j' * p3) := by grind
    rw [this, hD, hDD, Int.one_mul]
  have := red_min hr hm
  rw [e1, e2] at this
  exact this
theorem ne0_of_det {i j k l : Int} (hd : i * l - j * k = 1 ∨ i * l - j * k = -1) : i ≠ 0 ∨ j ≠ 0 := by
  apply Classical.byContradiction
  intro hc
  have h1 : i = 0 := by omega
  have h2 : j = 0 := by omega
  subst h1; subst h2
  simp at hd
theorem mx_le {a b c : Int} : mx a b ≤ c ↔ a ≤ c ∧ b ≤ c := by
  unfold mx
  split <;> omega
instance (x y u v : Int) : Decidable (red x y u v) := by unfold red; infer_instance
theorem F51_eq {x y u v : Int} (hx : -1500 ≤ x ∧ x ≤ 1500) (hy : -1500 ≤ y ∧ y ≤ 1500) (hu : -1500 ≤ u ∧ u ≤ 1500) (hv : -1500 ≤ v ∧ v ≤ 1500) : F51 x y u v = some (decide (red x y u v)) := by
  have t1 := mul_le (m := 1500) (n := 1500) hx hu (by omega) (by omega)
  have t2 := mul_le (m := 1500) (n := 1500) hy hv (by omega) (by omega)
  have ht : -4500000 ≤ x * u + y * v ∧ x * u + y * v ≤ 4500000 := by omega
  unfold F51
  simp only [Option.bind_eq_bind]
  rw [F64_eq hx hy hu hv, Option.bind_some, F64_eq hx hy hx hy, Option.bind_some, F64_eq hu hv hu hv, Option.bind_some]
  by_cases hred : red x y u v
  · rw [decide_eq_true hred]
    obtain ⟨a1, a2, a3⟩ := hred
    generalize x * x + y * y = s at *
    generalize x * u + y * v = t at *
    generalize u * u + v * v = r at *
    have hm : -4500000 ≤ mx t (w64 (0 - t)) ∧ mx t (w64 (0 - t)) ≤ 4500000 := by
      rw [w64_id (x := 0 - t) (by omega) (by omega)]
      unfold mx
      split <;> omega
    have e : w64 (2 * mx t (w64 (0 - t))) ≤ s := by
      rw [w64_id (x := 2 * mx t (w64 (0 - t))) (by omega) (by omega), w64_id (x := 0 - t) (by omega) (by omega)]
      unfold mx
      split <;> omega
    rw [if_pos (decide_eq_true a1)]
    show some (decide (w64 (2 * mx t (w64 (0 - t))) ≤ s)) = _
    rw [decide_eq_true e]
  · rw [decide_eq_false hred]
    unfold red at hred
    generalize x * x + y * y = s at *
    generalize x * u + y * v = t at *
    generalize u * u + v * v = r at *
    by_cases h : s ≤ r
    · have hm : -4500000 ≤ mx t (w64 (0 - t)) ∧ mx t (w64 (0 - t)) ≤ 4500000 := by
        rw [w64_id (x := 0 - t) (by omega) (by omega)]
        unfold mx
        split <;> omega
      have e : ¬ w64 (2 * mx t (w64 (0 - t))) ≤ s := by
        rw [w64_id (x := 2 * mx t (w64 (0 - t))) (by omega) (by omega), w64_id (x := 0 - t) (by omega) (by omega)]
        unfold mx
        split <;> omega
      rw [if_pos (decide_eq_true h)]
      show some (decide (w64 (2 * mx t (w64 (0 - t))) ≤ s)) = _
      rw [decide_eq_false e]
    · rw [if_neg (by simpa using h)]
      rfl
/-- The step makes the second pull shorter, where the kit was not reduced. -/
theorem near_pos {s t n : Int} (hs : 0 < s) (hn : n = (2 * t + s) / (2 * s)) (h : 2 * t > s ∨ 2 * t < -s) : 0 < n * (2 * t - n * s) := by
  obtain ⟨h1, h2, h3⟩ := near_of hs hn
  have hz : n * (2 * t - n * s) ≠ 0 := by
    refine Int.mul_ne_zero ?_ ?_
    · intro h0
      rw [h0] at h1 h2
      omega
    · omega
  omega
theorem step_lt {x y u v n : Int} (hs : 0 < x * x + y * y) (hn : n = (2 * (x * u + y * v) + (x * x + y * y)) / (2 * (x * x + y * y))) (h : 2 * (x * u + y * v) > x * x + y * y ∨ 2 * (x * u + y * v) < -(x * x + y * y)) :
    (u - n * x) * (u - n * x) + (v - n * y) * (v - n * y) < u * u + v * v := by
  have h3 := near_pos hs hn h
  have e1 : (u - n * x) * (u - n * x) + (v - n * y) * (v - n * y) = u * u + v * v - n * (2 * (x * u + y * v) - n * (x * x + y * y)) := by grind
  rw [e1]
  omega
/-- The reference's loop: it ends, and what it ends with is reduced. -/
theorem loop62 {p0 p1 p2 p3 : Int} (h : Kit4 p0 p1 p2 p3) : ∀ (m : Nat) (i j k l : Int), Bun p0 p1 p2 p3 i j k l →
    2 * (((i * p0 + j * p2) * (i * p0 + j * p2) + (i * p1 + j * p3) * (i * p1 + j * p3)) + ((k * p0 + l * p2) * (k * p0 + l * p2) + (k * p1 + l * p3) * (k * p1 + l * p3))) +
      (if (i * p0 + j * p2) * (i * p0 + j * p2) + (i * p1 + j * p3) * (i * p1 + j * p3) > (k * p0 + l * p2) * (k * p0 + l * p2) + (k * p1 + l * p3) * (k * p1 + l * p3) then 1 else 0) < m →
    ∃ i' j' k' l', F62l0 p0 p1 p2 p3 i j k l = some (i', j', k', l') ∧ Bun p0 p1 p2 p3 i' j' k' l' ∧ red (i' * p0 + j' * p2) (i' * p1 + j' * p3) (k' * p0 + l' * p2) (k' * p1 + l' * p3) := by
  intro m
  induction m with
  | zero =>
    intro i j k l hB hm
    have := pos_of h hB.det
    have h1 := sq_nn (k * p0 + l * p2)
    have h2 := sq_nn (k * p1 + l * p3)
    split at hm <;> omega
  | succ m ih =>
    intro i j k l hB hm
    obtain ⟨hx, hy, hi, hj⟩ := small_of h hB.sa
    obtain ⟨hu, hv, hk, hl⟩ := small_of h hB.sb
    have hp := pos_of h hB.det
    have hsa := hB.sa
    have hsb := hB.sb
    rw [F62l0_fix]
    simp only [Option.bind_eq_bind]
    rw [F57_eq h (by omega) (by omega), Option.bind_some, F57_eq h (by omega) (by omega), Option.bind_some, F51_eq hx hy hu hv, Option.bind_some]
    by_cases hred : red (i * p0 + j * p2) (i * p1 + j * p3) (k * p0 + l * p2) (k * p1 + l * p3)
    · simp only [hred, decide_true, if_true, Option.bind_some, Bool.false_eq_true, if_false]
      exact ⟨i, j, k, l, rfl, hB, hred⟩
    · simp only [hred, decide_false, if_true, Option.bind_some, Bool.false_eq_true, if_false]
      rw [F64_eq hx hy hx hy, Option.bind_some, F64_eq hu hv hu hv, Option.bind_some]
      by_cases hgt : (i * p0 + j * p2) * (i * p0 + j * p2) + (i * p1 + j * p3) * (i * p1 + j * p3) > (k * p0 + l * p2) * (k * p0 + l * p2) + (k * p1 + l * p3) * (k * p1 + l * p3)
      · rw [if_pos (decide_eq_true hgt)]
        rw [if_pos hgt] at hm
        have hB2 : Bun p0 p1 p2 p3 k l i j := ⟨by have e : k * j - l * i = -(i * l - j * k) := by grind
                                                  have := hB.det; omega, hsb, hsa⟩
        refine ih k l i j hB2 ?_
        rw [if_neg (by omega)]
        omega
      · rw [if_neg (by simpa using hgt)]
        rw [if_neg hgt] at hm
        have hnr : 2 * ((i * p0 + j * p2) * (k * p0 + l * p2) + (i * p1 + j * p3) * (k * p1 + l * p3)) > (i * p0 + j * p2) * (i * p0 + j * p2) + (i * p1 + j * p3) * (i * p1 + j * p3) ∨ 2 * ((i * p0 + j * p2) * (k * p0 + l * p2) + (i * p1 + j * p3) * (k * p1 + l * p3)) < -((i * p0 + j * p2) * (i * p0 + j * p2) + (i * p1 + j * p3) * (i * p1 + j * p3)) := by
          unfold red at hred
          omega
        generalize hn : (2 * ((i * p0 + j * p2) * (k * p0 + l * p2) + (i * p1 + j * p3) * (k * p1 + l * p3)) + ((i * p0 + j * p2) * (i * p0 + j * p2) + (i * p1 + j * p3) * (i * p1 + j * p3))) / (2 * ((i * p0 + j * p2) * (i * p0 + j * p2) + (i * p1 + j * p3) * (i * p1 + j * p3))) = n
        have hst := step_lt hp hn.symm hnr
        have t1 := mul_le (m := 1500) (n := 1500) hx hu (by omega) (by omega)
        have t2 := mul_le (m := 1500) (n := 1500) hy hv (by omega) (by omega)
        have hnb := n_bd hp (by omega) (by omega) hn.symm
        have ek : k * p0 + l * p2 - n * (i * p0 + j * p2) = (k - n * i) * p0 + (l - n * j) * p2 := by grind
        have el : k * p1 + l * p3 - n * (i * p1 + j * p3) = (k - n * i) * p1 + (l - n * j) * p3 := by grind
        rw [ek, el] at hst
        have ed : i * (l - n * j) - j * (k - n * i) = i * l - j * k := by grind
        have hB' : Bun p0 p1 p2 p3 i j (k - n * i) (l - n * j) := ⟨by rw [ed]; exact hB.det, hsa, by omega⟩
        have b1 := mul_le (m := 40000000) (n := 3000000) hnb hi (by omega) (by omega)
        have b2 := mul_le (m := 40000000) (n := 3000000) hnb hj (by omega) (by omega)
        rw [F64_eq hx hy hu hv, Option.bind_some, Option.bind_some, Option.bind_some]
        generalize hs : (i * p0 + j * p2) * (i * p0 + j * p2) + (i * p1 + j * p3) * (i * p1 + j * p3) = s at *
        generalize ht : (i * p0 + j * p2) * (k * p0 + l * p2) + (i * p1 + j * p3) * (k * p1 + l * p3) = t at *
        rw [w64_id (x := 2 * t) (by omega) (by omega), w64_id (x := 2 * t + s) (by omega) (by omega), w64_id (x := 2 * s) (by omega) (by omega), F74_eq (by omega) (by omega) (by omega), Option.bind_some, hn,
          w64_id (x := n * i) (by omega) (by omega), w64_id (x := n * j) (by omega) (by omega), w64_id (x := k - n * i) (by omega) (by omega), w64_id (x := l - n * j) (by omega) (by omega)]
        refine ih i j (k - n * i) (l - n * j) hB' ?_
        rw [hs]
        have h0 : (if s > ((k - n * i) * p0 + (l - n * j) * p2) * ((k - n * i) * p0 + (l - n * j) * p2) + ((k - n * i) * p1 + (l - n * j) * p3) * ((k - n * i) * p1 + (l - n * j) * p3) then (1 : Int) else 0) ≤ 1 := by split <;> omega
        omega
theorem bun0 {p0 p1 p2 p3 : Int} (h : Kit4 p0 p1 p2 p3) : Bun p0 p1 p2 p3 1 0 0 1 := by
  have h0 := mul_le (m := 1000) (n := 1000) h.b0 h.b0 (by omega) (by omega)
  have h1 := mul_le (m := 1000) (n := 1000) h.b1 h.b1 (by omega) (by omega)
  have h2 := mul_le (m := 1000) (n := 1000) h.b2 h.b2 (by omega) (by omega)
  have h3 := mul_le (m := 1000) (n := 1000) h.b3 h.b3 (by omega) (by omega)
  refine ⟨by omega, ?_, ?_⟩
  · simp only [Int.one_mul, Int.zero_mul, Int.add_zero]; omega
  · simp only [Int.one_mul, Int.zero_mul, Int.zero_add]; omega
theorem F61_eq {p0 p1 p2 p3 : Int} (h : Kit4 p0 p1 p2 p3) : ∃ i j k l, F61 p0 p1 p2 p3 = some (((i * p0 + j * p2, i * p1 + j * p3), (k * p0 + l * p2, k * p1 + l * p3)), (i, j), (k, l)) ∧
    Bun p0 p1 p2 p3 i j k l ∧ red (i * p0 + j * p2) (i * p1 + j * p3) (k * p0 + l * p2) (k * p1 + l * p3) := by
  obtain ⟨i, j, k, l, h1, h2, h3⟩ := loop61 h (((1 * p0 + 0 * p2) * (1 * p0 + 0 * p2) + (1 * p1 + 0 * p3) * (1 * p1 + 0 * p3)).toNat + 1) 1 0 0 1 (bun0 h) (by omega)
  refine ⟨i, j, k, l, ?_, h2, h3⟩
  simp only [Int.one_mul, Int.zero_mul, Int.add_zero, Int.zero_add] at h1
  unfold F61
  rw [h1]
  rfl
theorem F62_eq {p0 p1 p2 p3 : Int} (h : Kit4 p0 p1 p2 p3) : ∃ i j k l, F62 p0 p1 p2 p3 = some ((i, j), (k, l)) ∧
    Bun p0 p1 p2 p3 i j k l ∧ red (i * p0 + j * p2) (i * p1 + j * p3) (k * p0 + l * p2) (k * p1 + l * p3) := by
  obtain ⟨i, j, k, l, h1, h2, h3⟩ := loop62 h _ 1 0 0 1 (bun0 h) (Int.lt_of_le_of_lt (Int.self_le_toNat _) (Int.ofNat_lt.2 (Nat.lt_succ_self _)))
  refine ⟨i, j, k, l, ?_, h2, h3⟩
  unfold F62
  rw [h1]
  rfl
theorem same_sq {p0 p1 p2 p3 i j k l i' j' k' l' : Int} (h : Kit4 p0 p1 p2 p3) (hB : Bun p0 p1 p2 p3 i j k l) (hr : red (i * p0 + j * p2) (i * p1 + j * p3) (k * p0 + l * p2) (k * p1 + l * p3))
    (hB' : Bun p0 p1 p2 p3 i' j' k' l') (hr' : red (i' * p0 + j' * p2) (i' * p1 + j' * p3) (k' * p0 + l' * p2) (k' * p1 + l' * p3)) :
    (i * p0 + j * p2) * (i * p0 + j * p2) + (i * p1 + j * p3) * (i * p1 + j * p3) = (i' * p0 + j' * p2) * (i' * p0 + j' * p2) + (i' * p1 + j' * p3) * (i' * p1 + j' * p3) :=
  Int.le_antisymm (red_le hB.det hr (ne0_of_det hB'.det)) (red_le hB'.det hr' (ne0_of_det hB.det))
theorem F27_eq {p0 p1 p2 p3 i j k l : Int} (h : Kit4 p0 p1 p2 p3) (hB : Bun p0 p1 p2 p3 i j k l) (hr : red (i * p0 + j * p2) (i * p1 + j * p3) (k * p0 + l * p2) (k * p1 + l * p3)) : F27 p0 p1 p2 p3 i j k l = some true := by
  obtain ⟨hx, hy, hi, hj⟩ := small_of h hB.sa
  obtain ⟨hu, hv, hk, hl⟩ := small_of h hB.sb
  have b1 := mul_le (m := 3000000) (n := 3000000) hi hl (by omega) (by omega)
  have b2 := mul_le (m := 3000000) (n := 3000000) hj hk (by omega) (by omega)
  unfold F27
  simp only [Option.bind_eq_bind]
  rw [F57_eq h (by omega) (by omega), Option.bind_some, F57_eq h (by omega) (by omega), Option.bind_some]
  rw [w64_id (x := i * l) (by omega) (by omega), w64_id (x := j * k) (by omega) (by omega), w64_id (x := i * l - j * k) (by omega) (by omega)]
  simp only [F55_eq _ _ _ (show (0 : Int) ≤ 2000 by omega) (show (2000 : Int) ≤ 1000000 by omega), Option.bind_some]
  have w1 : inb 2000 (i * p0 + j * p2) (i * p1 + j * p3) = true := decide_eq_true (by omega)
  have w2 : inb 2000 (k * p0 + l * p2) (k * p1 + l * p3) = true := decide_eq_true (by omega)
  rw [w1, w2, F51_eq hx hy hu hv]
  simp only [hr, decide_true, if_true, Option.bind_some]
  rcases hB.det with hd | hd <;> simp [hd]
theorem big_of {i j k l : Int} (hi : -3000000 ≤ i ∧ i ≤ 3000000) (hj : -3000000 ≤ j ∧ j ≤ 3000000) (hk : -3000000 ≤ k ∧ k ≤ 3000000) (hl : -3000000 ≤ l ∧ l ≤ 3000000) :
    mx (mx (mx (mx (mx (mx (mx i (w64 (0 - i))) j) (w64 (0 - j))) k) (w64 (0 - k))) l) (w64 (0 - l)) ≤ 100000000 := by
  simp only [mx_le]
  rw [w64_id (x := 0 - i) (by omega) (by omega), w64_id (x := 0 - j) (by omega) (by omega), w64_id (x := 0 - k) (by omega) (by omega), w64_id (x := 0 - l) (by omega) (by omega)]
  omega
theorem F20_ok {a b c d : Int} (h : inb 1000 a b = true) (h2 : inb 1000 c d = true) (h3 : a * d - b * c ≠ 0) : Kit4 a b c d :=
  ⟨(inb_of h).1, (inb_of h).2, (inb_of h2).1, (inb_of h2).2, h3⟩
/-- The check says 0 of a kit as stated, and an error else. -/
theorem F20_cases (a b c d : Int) : (F20 a b c d = some 0 ∧ Kit4 a b c d) ∨ ∃ e, e ≠ 0 ∧ F20 a b c d = some e := by
  rw [F20_eq]
  cases h1 : inb 1000 a b
  · exact .inr ⟨1, by omega, rfl⟩
  · cases h2 : inb 1000 c d
    · exact .inr ⟨1, by omega, rfl⟩
    · by_cases h3 : a * d - b * c = 0
      · exact .inr ⟨15, by omega, by simp [h3]⟩
      · exact .inl ⟨by simp [h3], F20_ok h1 h2 h3⟩
end Go.Proofs.Ytenjelagfbceeaa
namespace Go.Proofs.Ytenjelagfbceeaa.magnetReduces
open Go Go.Cl
theorem plain (p0 p1 p2 p3 : Int) (w0 : (Lit.int .i64 p0).wf = true) (w1 : (Lit.int .i64 p1).wf = true) (w2 : (Lit.int .i64 p2).wf = true) (w3 : (Lit.int .i64 p3).wf = true) : F4 p0 p1 p2 p3 = some true := by
  unfold F4
  simp only [F13, Option.bind_eq_bind, Option.bind_some, F23, F24, F25, F26, F21_eq]
  rcases F20_cases p0 p1 p2 p3 with ⟨h0, hk⟩ | ⟨e, he, h0⟩
  · obtain ⟨i, j, k, l, h1, hB, hr⟩ := F61_eq hk
    obtain ⟨i', j', k', l', h1', hB', hr'⟩ := F62_eq hk
    obtain ⟨hx, hy, hi, hj⟩ := small_of hk hB.sa
    obtain ⟨hu, hv, hkk, hl⟩ := small_of hk hB.sb
    obtain ⟨hx', hy', hi', hj'⟩ := small_of hk hB'.sa
    simp only [h0, h1, h1', Option.bind_some, bne_self_eq_false, Bool.false_eq_true, if_false]
    have e57 := F57_eq hk (i := i') (j := j') (by omega) (by omega)
    have e64 := F64_eq hx' hy' hx' hy'
    have e63 := F63_eq hx hy
    simp only [e57, e64, e63, Option.bind_some, same_sq hk hB hr hB' hr', bne_self_eq_false, Bool.false_eq_true, if_false, F19, big_of hi hj hkk hl, decide_true, if_true, F27_eq hk hB hr]
    rfl
  · simp [h0, he, F22]
end Go.Proofs.Ytenjelagfbceeaa.magnetReduces
