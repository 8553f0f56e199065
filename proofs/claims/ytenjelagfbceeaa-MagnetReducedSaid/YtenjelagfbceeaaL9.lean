/- The plain law of MagnetReduced: what the functions compute, in plain Lean. -/
import Derived.Test.YtenjelagfbceeaaG9
set_option linter.unusedVariables false
set_option linter.unusedSimpArgs false
set_option maxHeartbeats 4000000
namespace Go.Proofs.Ytenjelagfbceeaa
open Go Go.Cl
theorem F61l0_fix  (z68 : (Int × Int × Int × Int × Int × Int × Int × Int)) : F61l0 z68 = (
    F72 z68.1 z68.2.1 z68.2.2.1 z68.2.2.2.1 >>= fun r51 =>
    F63 z68.1 z68.2.1 >>= fun r53 =>
    F63 z68.1 z68.2.1 >>= fun r55 =>
    F69 (w64 ((w64 (2 * r51)) + r53)) (w64 (2 * r55)) >>= fun r57 =>
    F53 z68.2.2.1 z68.2.2.2.1 (w64 (0 - r57)) z68.1 z68.2.1 >>= fun r59 =>
    F78 z68.2.2.2.2.2.2.1 z68.2.2.2.2.2.2.2 (w64 (0 - r57)) z68.2.2.2.2.1 z68.2.2.2.2.2.1 >>= fun r61 =>
    F63 z68.1 z68.2.1 >>= fun r63 =>
    F63 r59.1 r59.2 >>= fun r65 =>
    if decide (r63 ≤ r65) then
      some (z68.1, z68.2.1, r59.1, r59.2, z68.2.2.2.2.1, z68.2.2.2.2.2.1, r61.1, r61.2)
    else
      F61l0  (r59.1, r59.2, z68.1, z68.2.1, r61.1, r61.2, z68.2.2.2.2.1, z68.2.2.2.2.2.1)
    : Option (Int × Int × Int × Int × Int × Int × Int × Int)) := by
  delta F61l0
  conv => lhs; rw [Lean.Order.fix_eq]
theorem F42l1_fix (p0 : Int) (p1 : Int) (p2 : Int) (p3 : Int) (p4 : Int) (p5 : Int) (p6 : Int) (r1 : Int) (v48 : Int) (v111 : Int) (v110 : (List (Int × Int))) : F42l1 p0 p1 p2 p3 p4 p5 p6 r1 v48 v111 v110 = (
    if decide (v111 ≤ (w64 (p5 + p6))) then
      F43 v48 v111 >>= fun r126 =>
      F45 r126.1 r126.2 p2 p3 >>= fun r128 =>
      if r1 = 0 then none else
      (
        if (Int.tmod r128 r1) == 0 then
          F45 p0 p1 r126.1 r126.2 >>= fun r132 =>
          some ((Int.tmod r132 r1) == 0)
        else
          some (false)
      : Option Bool) >>= fun m134 =>
      (
        if m134 then
          if List.length v110 ≤ 1000000000 then
            some (v110 ++ [(r126.1, r126.2)])
          else none
        else
          some v110
      : Option (List (Int × Int))) >>= fun m137 =>
      F42l1 p0 p1 p2 p3 p4 p5 p6 r1 v48 (w64 (v111 + 1)) m137
    else
      some v110
    : Option (List (Int × Int))) := by
  delta F42l1
  conv => lhs; rw [Lean.Order.fix_eq]
theorem F42l0_fix (p0 : Int) (p1 : Int) (p2 : Int) (p3 : Int) (p4 : Int) (p5 : Int) (p6 : Int) (r1 : Int) (v49 : (List (Int × Int))) (v48 : Int) : F42l0 p0 p1 p2 p3 p4 p5 p6 r1 v49 v48 = (
    if decide (v48 ≤ (w64 (p4 + p6))) then
      F42l1 p0 p1 p2 p3 p4 p5 p6 r1 v48 (w64 (p5 - p6)) v49 >>= fun r141 =>
      F42l0 p0 p1 p2 p3 p4 p5 p6 r1 r141 (w64 (v48 + 1))
    else
      some v49
    : Option (List (Int × Int))) := by
  delta F42l0
  conv => lhs; rw [Lean.Order.fix_eq]
theorem F9l0_fix (p6 : Int) (p7 : Int) (r1 : (((Int × Int) × (Int × Int)) × (Int × Int))) (r5 : (Int × Int)) (r32 : (List (Int × Int))) (v45 : Int) : F9l0 p6 p7 r1 r5 r32 v45 = (
    if decide (v45 < (List.length r32 : Int)) then
      if (0 : Int) ≤ v45 ∧ v45 < (List.length r32 : Int) then
        some (List.getD r32 (Int.toNat v45) (0, 0)) >>= fun o59 =>
        F41 o59.1 o59.2 o59.1 o59.2 >>= fun r61 =>
        (
          if decide (r61 > 0) then
            F41 o59.1 o59.2 o59.1 o59.2 >>= fun r64 =>
            some (decide (r64 < r5.1))
          else
            some (false)
        : Option Bool) >>= fun m66 =>
        if m66 then
          some (.inl ())
        else
          F9l0 p6 p7 r1 r5 r32 (w64 (v45 + 1))
      else none
    else
      some (.inr ())
    : Option (Unit ⊕ Unit)) := by
  delta F9l0
  conv => lhs; rw [Lean.Order.fix_eq]
theorem w64_id {x : Int} (h1 : -9223372036854775808 ≤ x) (h2 : x ≤ 9223372036854775807) : w64 x = x := by
  simp [w64, IntKind.wrap, IntKind.signed, IntKind.bits]
  omega
theorem F68_eq (a b c : Int) : F68 a b c = some (decide (a ≤ b ∧ b ≤ c)) := by
  unfold F68
  by_cases h : a ≤ b <;> simp [h]
/-- Both lie within m. -/
def inb (m a b : Int) : Bool := decide ((-m ≤ a ∧ a ≤ m) ∧ (-m ≤ b ∧ b ≤ m))
theorem inb_of {m a b : Int} (h : inb m a b = true) : (-m ≤ a ∧ a ≤ m) ∧ (-m ≤ b ∧ b ≤ m) := of_decide_eq_true h
theorem F58_eq (a b m : Int) (h : 0 ≤ m) (hm : m ≤ 1000000) : F58 a b m = some (inb m a b) := by
  unfold inb
  unfold F58
  rw [w64_id (x := 0 - m) (by omega) (by omega), F68_eq, F68_eq]
  by_cases h1 : (0 - m ≤ a ∧ a ≤ m)
  · have : (-m ≤ a ∧ a ≤ m) := by omega
    simp [h1, this]
  · have : ¬ (-m ≤ a ∧ a ≤ m) := by omega
    simp [h1, this]
theorem mul_le {a b m n : Int} (ha : -m ≤ a ∧ a ≤ m) (hb : -n ≤ b ∧ b ≤ n) (hm : 0 ≤ m) (hn : 0 ≤ n) : -(m * n) ≤ a * b ∧ a * b ≤ m * n := by
  have h1 : a.natAbs ≤ m.natAbs := by omega
  have h2 : b.natAbs ≤ n.natAbs := by omega
  have h3 := Nat.mul_le_mul h1 h2
  rw [← Int.natAbs_mul, ← Int.natAbs_mul] at h3
  have h4 : 0 ≤ m * n := Int.mul_nonneg hm hn
  omega
theorem F20_eq (a b c d : Int) : F20 a b c d = some (if inb 1000 a b && inb 1000 c d then if a * d - b * c = 0 then 15 else 0 else 1) := by
  unfold F20 F59
  rw [F58_eq _ _ _ (by omega) (by omega), F58_eq _ _ _ (by omega) (by omega)]
  cases h1 : inb 1000 a b
  · simp
  · cases h2 : inb 1000 c d
    · simp
    · have h1 := inb_of h1
      have h2 := inb_of h2
      have h3 := mul_le (a := a) (b := d) (m := 1000) (n := 1000) (by omega) (by omega) (by omega) (by omega)
      have h4 := mul_le (a := b) (b := c) (m := 1000) (n := 1000) (by omega) (by omega) (by omega) (by omega)
      rw [w64_id (x := a * d) (by omega) (by omega), w64_id (x := b * c) (by omega) (by omega), w64_id (x := a * d - b * c) (by omega) (by omega)]
      by_cases h : a * d - b * c = 0 <;> simp [h]
theorem sq_bd {a m : Int} (hm : 0 ≤ m) (h : a * a ≤ m * m) : -m ≤ a ∧ a ≤ m := by
  constructor
  · apply Classical.byContradiction
    intro hc
    have h1 : m + 1 ≤ -a := by omega
    have h2 := Int.mul_le_mul h1 h1 (by omega) (by omega)
    have h3 : -a * -a = a * a := by grind
    have h4 : (m + 1) * (m + 1) = m * m + 2 * m + 1 := by grind
    omega
  · apply Classical.byContradiction
    intro hc
    have h1 : m + 1 ≤ a := by omega
    have h2 := Int.mul_le_mul h1 h1 (by omega) (by omega)
    have h4 : (m + 1) * (m + 1) = m * m + 2 * m + 1 := by grind
    omega
theorem sq_nn (a : Int) : 0 ≤ a * a := by
  cases Int.le_total 0 a with
  | inl h => exact Int.mul_nonneg h h
  | inr h => exact Int.mul_nonneg_of_nonpos_of_nonpos h h
/-- The remainder, brought up to nothing or more. -/
theorem tmod_up {n d : Int} (hd : 0 < d) : (Int.tmod n d + d).tmod d = n % d := by
  have h1 : 0 ≤ Int.tmod n d + d := by
    rw [Int.tmod_eq_emod]
    have := Int.emod_nonneg n (b := d) (by omega)
    split <;> omega
  rw [Int.tmod_eq_emod_of_nonneg h1, Int.add_emod_right]
  have h2 : Int.tmod n d = n - d * Int.tdiv n d := by
    have := Int.mul_tdiv_add_tmod n d
    omega
  rw [h2, Int.sub_mul_emod_self_left]
theorem F69_eq {n d : Int} (hd : 0 < d) (hd2 : d ≤ 1000000000000) (hn : -1000000000000 ≤ n ∧ n ≤ 1000000000000) : F69 n d = some (n / d) := by
  unfold F69
  have h1 : ¬ d < 0 := by omega
  have h2 : ¬ d = 0 := by omega
  have ht : -d < Int.tmod n d ∧ Int.tmod n d < d := ⟨Int.lt_tmod_of_pos n hd, Int.tmod_lt_of_pos n hd⟩
  simp only [h1, h2, decide_false, Bool.false_eq_true, if_false, Option.bind_eq_bind, Option.bind_some]
  rw [w64_id (x := Int.tmod n d + d) (by omega) (by omega), tmod_up hd]
  have h3 := Int.emod_nonneg n (b := d) (by omega)
  have h4 := Int.emod_lt_of_pos n hd
  have h5 := Int.mul_ediv_add_emod n d
  rw [w64_id (x := n - n % d) (by omega) (by omega)]
  have h6 : n - n % d = d * (n / d) := by omega
  rw [h6, Int.mul_tdiv_cancel_left _ h2]
  have h7 : -1000000000001 ≤ n / d := by
    rw [Int.le_ediv_iff_mul_le hd]
    have : -1000000000001 * d ≤ -1000000000001 * 1 := Int.mul_le_mul_of_nonpos_left (by omega) (by omega)
    omega
  have h8 : n / d ≤ 1000000000001 := by
    have : n / d < 1000000000001 := by
      rw [Int.ediv_lt_iff_lt_mul hd]
      have : 1000000000001 * 1 ≤ 1000000000001 * d := Int.mul_le_mul_of_nonneg_left (by omega) (by omega)
      omega
    omega
  rw [w64_id (by omega) (by omega)]
/-- a kit within the bounds, not flat -/
structure Kit4 (p0 p1 p2 p3 : Int) : Prop where
  b0 : -1000 ≤ p0 ∧ p0 ≤ 1000
  b1 : -1000 ≤ p1 ∧ p1 ≤ 1000
  b2 : -1000 ≤ p2 ∧ p2 ≤ 1000
  b3 : -1000 ≤ p3 ∧ p3 ≤ 1000
  nf : p0 * p3 - p1 * p2 ≠ 0
/-- What (i, j) and (k, l) pull; they are complete; the pulls are (x, y) and (u, v) and not long. -/
structure Bun (p0 p1 p2 p3 i j k l : Int) : Prop where
  det : i * l - j * k = 1 ∨ i * l - j * k = -1
  sa : (i * p0 + j * p2) * (i * p0 + j * p2) + (i * p1 + j * p3) * (i * p1 + j * p3) ≤ 2000000
  sb : (k * p0 + l * p2) * (k * p0 + l * p2) + (k * p1 + l * p3) * (k * p1 + l * p3) ≤ 2000000
/-- A choice whose pull is short is small. -/
theorem small_of {p0 p1 p2 p3 i j : Int} (h : Kit4 p0 p1 p2 p3) (hs : (i * p0 + j * p2) * (i * p0 + j * p2) + (i * p1 + j * p3) * (i * p1 + j * p3) ≤ 2000000) :
    (-1500 ≤ i * p0 + j * p2 ∧ i * p0 + j * p2 ≤ 1500) ∧ (-1500 ≤ i * p1 + j * p3 ∧ i * p1 + j * p3 ≤ 1500) ∧ (-3000000 ≤ i ∧ i ≤ 3000000) ∧ (-3000000 ≤ j ∧ j ≤ 3000000) := by
  have e1 : i * (p0 * p3 - p1 * p2) = (i * p0 + j * p2) * p3 - (i * p1 + j * p3) * p2 := by grind
  have e2 : j * (p0 * p3 - p1 * p2) = (i * p1 + j * p3) * p0 - (i * p0 + j * p2) * p1 := by grind
  generalize i * p0 + j * p2 = x at *
  generalize i * p1 + j * p3 = y at *
  have nx := sq_nn x
  have ny := sq_nn y
  have hx := sq_bd (a := x) (m := 1500) (by omega) (by omega)
  have hy := sq_bd (a := y) (m := 1500) (by omega) (by omega)
  have a1 := mul_le (a := x) (b := p3) (m := 1500) (n := 1000) hx h.b3 (by omega) (by omega)
  have a2 := mul_le (a := y) (b := p2) (m := 1500) (n := 1000) hy h.b2 (by omega) (by omega)
  have a3 := mul_le (a := y) (b := p0) (m := 1500) (n := 1000) hy h.b0 (by omega) (by omega)
  have a4 := mul_le (a := x) (b := p1) (m := 1500) (n := 1000) hx h.b1 (by omega) (by omega)
  have nf := h.nf
  generalize p0 * p3 - p1 * p2 = d at *
  have key : ∀ q : Int, (-3000000 ≤ q * d ∧ q * d ≤ 3000000) → -3000000 ≤ q ∧ q ≤ 3000000 := by
    intro q hq
    have h1 : q.natAbs * d.natAbs ≤ 3000000 := by rw [← Int.natAbs_mul]; omega
    have h2 : q.natAbs * 1 ≤ q.natAbs * d.natAbs := Nat.mul_le_mul_left _ (by omega)
    omega
  refine ⟨hx, hy, key i (by omega), key j (by omega)⟩
/-- The pull of a complete choice is not nothing. -/
theorem pos_of {p0 p1 p2 p3 i j k l : Int} (h : Kit4 p0 p1 p2 p3) (hd : i * l - j * k = 1 ∨ i * l - j * k = -1) :
    0 < (i * p0 + j * p2) * (i * p0 + j * p2) + (i * p1 + j * p3) * (i * p1 + j * p3) := by
  have e : (i * p0 + j * p2) * (k * p1 + l * p3) - (i * p1 + j * p3) * (k * p0 + l * p2) = (i * l - j * k) * (p0 * p3 - p1 * p2) := by grind
  have nf := h.nf
  generalize i * p0 + j * p2 = x at *
  generalize i * p1 + j * p3 = y at *
  have nx := sq_nn x
  have ny := sq_nn y
  apply Classical.byContradiction
  intro hc
  have hx := sq_bd (a := x) (m := 0) (by omega) (by omega)
  have hy := sq_bd (a := y) (m := 0) (by omega) (by omega)
  have hx : x = 0 := by omega
  have hy : y = 0 := by omega
  subst hx; subst hy
  rcases hd with hd | hd <;> rw [hd] at e <;> omega
/-- The nearest multiple, taken away. -/
theorem near_of {s t n : Int} (hs : 0 < s) (hn : n = (2 * t + s) / (2 * s)) : -s ≤ 2 * (t - n * s) ∧ 2 * (t - n * s) < s ∧ 0 ≤ n * (2 * t - n * s) := by
  have h1 := Int.ediv_mul_le (2 * t + s) (b := 2 * s) (by omega)
  have h2 := Int.lt_ediv_add_one_mul_self (2 * t + s) (b := 2 * s) (by omega)
  rw [← hn] at h1 h2
  have e1 : n * (2 * s) = 2 * (n * s) := by grind
  have e2 : (n + 1) * (2 * s) = 2 * (n * s) + 2 * s := by grind
  refine ⟨by omega, by omega, ?_⟩
  by_cases h0 : 1 ≤ n
  · have : 0 ≤ 2 * t - n * s := by
      have : 1 * s ≤ n * s := Int.mul_le_mul_of_nonneg_right h0 (by omega)
      omega
    exact Int.mul_nonneg (by omega) this
  · by_cases h1 : n = 0
    · subst h1; omega
    · have : 2 * t - n * s ≤ 0 := by
        have : n * s ≤ -1 * s := Int.mul_le_mul_of_nonneg_right (by omega) (by omega)
        omega
      exact Int.mul_nonneg_of_nonpos_of_nonpos (by omega) this
/-- One step of the reduction: what is left is no longer than before. -/
theorem step_of {x y u v n : Int} (hs : 0 < x * x + y * y) (hn : n = (2 * (x * u + y * v) + (x * x + y * y)) / (2 * (x * x + y * y))) :
    (u - n * x) * (u - n * x) + (v - n * y) * (v - n * y) ≤ u * u + v * v ∧ -(x * x + y * y) ≤ 2 * (x * (u - n * x) + y * (v - n * y)) ∧ 2 * (x * (u - n * x) + y * (v - n * y)) < x * x + y * y := by
  obtain ⟨h1, h2, h3⟩ := near_of hs hn
  have e1 : (u - n * x) * (u - n * x) + (v - n * y) * (v - n * y) = u * u + v * v - n * (2 * (x * u + y * v) - n * (x * x + y * y)) := by grind
  have e2 : x * (u - n * x) + y * (v - n * y) = (x * u + y * v) - n * (x * x + y * y) := by grind
  rw [e1, e2]
  omega
/-- The numbers of a step are not great. -/
theorem n_bd {s t n : Int} (hs : 0 < s) (hs2 : s ≤ 10000000) (ht : -10000000 ≤ t ∧ t ≤ 10000000) (hn : n = (2 * t + s) / (2 * s)) : -40000000 ≤ n ∧ n ≤ 40000000 := by
  constructor
  · rw [hn, Int.le_ediv_iff_mul_le (by omega)]
    have : -40000000 * (2 * s) ≤ -40000000 * 2 := Int.mul_le_mul_of_nonpos_left (by omega) (by omega)
    omega
  · have : n < 40000001 := by
      rw [hn, Int.ediv_lt_iff_lt_mul (by omega)]
      have : 40000001 * 2 ≤ 40000001 * (2 * s) := Int.mul_le_mul_of_nonneg_left (by omega) (by omega)
      omega
    omega
theorem F72_eq {a b c d : Int} (ha : -1500 ≤ a ∧ a ≤ 1500) (hb : -1500 ≤ b ∧ b ≤ 1500) (hc : -1500 ≤ c ∧ c ≤ 1500) (hd : -1500 ≤ d ∧ d ≤ 1500) : F72 a b c d = some (a * c + b * d) := by
  have h1 := mul_le (m := 1500) (n := 1500) ha hc (by omega) (by omega)
  have h2 := mul_le (m := 1500) (n := 1500) hb hd (by omega) (by omega)
  unfold F72
  rw [w64_id (x := a * c) (by omega) (by omega), w64_id (x := b * d) (by omega) (by omega), w64_id (by omega) (by omega)]
theorem F63_eq {a b : Int} (ha : -1500 ≤ a ∧ a ≤ 1500) (hb : -1500 ≤ b ∧ b ≤ 1500) : F63 a b = some (a * a + b * b) := by
  unfold F63
  rw [F72_eq ha hb ha hb]
  rfl
theorem F53_eq {u v n x y : Int} (hu : -3000000 ≤ u ∧ u ≤ 3000000) (hv : -3000000 ≤ v ∧ v ≤ 3000000) (hn : -40000000 ≤ n ∧ n ≤ 40000000) (hx : -3000000 ≤ x ∧ x ≤ 3000000) (hy : -3000000 ≤ y ∧ y ≤ 3000000) :
    F53 u v n x y = some (u + n * x, v + n * y) := by
  have h1 := mul_le (m := 40000000) (n := 3000000) hn hx (by omega) (by omega)
  have h2 := mul_le (m := 40000000) (n := 3000000) hn hy (by omega) (by omega)
  unfold F53
  rw [w64_id (x := n * x) (by omega) (by omega), w64_id (x := n * y) (by omega) (by omega), w64_id (x := u + n * x) (by omega) (by omega), w64_id (x := v + n * y) (by omega) (by omega)]
theorem F78_eq {u v n x y : Int} (hu : -3000000 ≤ u ∧ u ≤ 3000000) (hv : -3000000 ≤ v ∧ v ≤ 3000000) (hn : -40000000 ≤ n ∧ n ≤ 40000000) (hx : -3000000 ≤ x ∧ x ≤ 3000000) (hy : -3000000 ≤ y ∧ y ≤ 3000000) :
    F78 u v n x y = some (u + n * x, v + n * y) := F53_eq hu hv hn hx hy
/-- Reduced, as the chapter says it. -/
def red (x y u v : Int) : Prop := x * x + y * y ≤ u * u + v * v ∧ -(x * x + y * y) ≤ 2 * (x * u + y * v) ∧ 2 * (x * u + y * v) ≤ x * x + y * y
/-- The program's loop: it ends, and what it ends with is reduced. -/
theorem loop61 {p0 p1 p2 p3 : Int} (h : Kit4 p0 p1 p2 p3) : ∀ (m : Nat) (i j k l : Int), Bun p0 p1 p2 p3 i j k l →
    (i * p0 + j * p2) * (i * p0 + j * p2) + (i * p1 + j * p3) * (i * p1 + j * p3) < m →
    ∃ i' j' k' l', F61l0 (i * p0 + j * p2, i * p1 + j * p3, k * p0 + l * p2, k * p1 + l * p3, i, j, k, l) = some (i' * p0 + j' * p2, i' * p1 + j' * p3, k' * p0 + l' * p2, k' * p1 + l' * p3, i', j', k', l') ∧
      Bun p0 p1 p2 p3 i' j' k' l' ∧ red (i' * p0 + j' * p2) (i' * p1 + j' * p3) (k' * p0 + l' * p2) (k' * p1 + l' * p3) := by
  intro m
  induction m with
  | zero =>
    intro i j k l hB hm
    have := pos_of h hB.det
    omega
  | succ m ih =>
    intro i j k l hB hm
    obtain ⟨hx, hy, hi, hj⟩ := small_of h hB.sa
    obtain ⟨hu, hv, hk, hl⟩ := small_of h hB.sb
    have hp := pos_of h hB.det
    have hsa := hB.sa
    have hsb := hB.sb
    generalize hn : (2 * ((i * p0 + j * p2) * (k * p0 + l * p2) + (i * p1 + j * p3) * (k * p1 + l * p3)) + ((i * p0 + j * p2) * (i * p0 + j * p2) + (i * p1 + j * p3) * (i * p1 + j * p3))) / (2 * ((i * p0 + j * p2) * (i * p0 + j * p2) + (i * p1 + j * p3) * (i * p1 + j * p3))) = n
    have hst := step_of hp hn.symm
    have t1 := mul_le (m := 1500) (n := 1500) hx hu (by omega) (by omega)
    have t2 := mul_le (m := 1500) (n := 1500) hy hv (by omega) (by omega)
    have hnb := n_bd hp (by omega) (by omega) hn.symm
    have ek : k * p0 + l * p2 - n * (i * p0 + j * p2) = (k - n * i) * p0 + (l - n * j) * p2 := by grind
    have el : k * p1 + l * p3 - n * (i * p1 + j * p3) = (k - n * i) * p1 + (l - n * j) * p3 := by grind
    rw [ek, el] at hst
    have ed : i * (l - n * j) - j * (k - n * i) = i * l - j * k := by grind
    have hB' : Bun p0 p1 p2 p3 i j (k - n * i) (l - n * j) := ⟨by rw [ed]; exact hB.det, hsa, by omega⟩
    obtain ⟨hu', hv', hk', hl'⟩ := small_of h hB'.sb
    rw [F61l0_fix]
    simp only [Option.bind_eq_bind]
    rw [F72_eq hx hy hu hv, Option.bind_some, F63_eq hx hy, Option.bind_some, Option.bind_some]
    generalize hs : (i * p0 + j * p2) * (i * p0 + j * p2) + (i * p1 + j * p3) * (i * p1 + j * p3) = s at *
    generalize ht : (i * p0 + j * p2) * (k * p0 + l * p2) + (i * p1 + j * p3) * (k * p1 + l * p3) = t at *
    rw [w64_id (x := 2 * t) (by omega) (by omega), w64_id (x := 2 * t + s) (by omega) (by omega), w64_id (x := 2 * s) (by omega) (by omega), F69_eq (by omega) (by omega) (by omega), Option.bind_some, hn, w64_id (x := 0 - n) (by omega) (by omega)]
    rw [F53_eq (by omega) (by omega) (by omega) (by omega) (by omega), Option.bind_some, F78_eq hk hl (by omega) hi hj, Option.bind_some]
    have e1 : k * p0 + l * p2 + (0 - n) * (i * p0 + j * p2) = (k - n * i) * p0 + (l - n * j) * p2 := by grind
    have e2 : k * p1 + l * p3 + (0 - n) * (i * p1 + j * p3) = (k - n * i) * p1 + (l - n * j) * p3 := by grind
    have e3 : k + (0 - n) * i = k - n * i := by grind
    have e4 : l + (0 - n) * j = l - n * j := by grind
    simp only [e1, e2, e3, e4]
    rw [Option.bind_some, F63_eq hu' hv', Option.bind_some]
    split
    · rename_i hd
      have hd := of_decide_eq_true hd
      exact ⟨i, j, k - n * i, l - n * j, rfl, hB', by unfold red; rw [hs]; omega⟩
    · rename_i hd
      have hd : ¬ _ := fun h => hd (decide_eq_true h)
      have ed2 : (k - n * i) * j - (l - n * j) * i = -(i * (l - n * j) - j * (k - n * i)) := by grind
      have hB2 : Bun p0 p1 p2 p3 (k - n * i) (l - n * j) i j := ⟨by have := hB'.det; omega, hB'.sb, hB'.sa⟩
      exact ih _ _ _ _ hB2 (by omega)
/-- No combination of a reduced kit's pulls, but nothing, is shorter than its first one. -/
theorem red_min {x y u v : Int} (h : red x y u v) {m n : Int} (hmn : m ≠ 0 ∨ n ≠ 0) :
    x * x + y * y ≤ (m * x + n * u) * (m * x + n * u) + (m * y + n * v) * (m * y + n * v) := by
  obtain ⟨h1, h2, h3⟩ := h
  have e : (m * x + n * u) * (m * x + n * u) + (m * y + n * v) * (m * y + n * v) = m * m * (x * x + y * y) + m * n * (2 * (x * u + y * v)) + n * n * (u * u + v * v) := by grind
  rw [e]
  have hs : 0 ≤ x * x + y * y := by have := sq_nn x; have := sq_nn y; omega
  generalize x * x + y * y = s at *
  generalize 2 * (x * u + y * v) = t at *
  generalize u * u + v * v = r at *
  have hr : n * n * s ≤ n * n * r := Int.mul_le_mul_of_nonneg_left h1 (sq_nn n)
  have key : ∀ q : Int, 1 ≤ q → s ≤ q * s := fun q hq => by
    have := Int.mul_le_mul_of_nonneg_right hq hs
    omega
  have pos : ∀ m n : Int, (m ≠ 0 ∨ n ≠ 0) → 1 ≤ m * m - m * n + n * n := fun m n hmn => by
    have e4 : 4 * (m * m - m * n + n * n) = (2 * m - n) * (2 * m - n) + 3 * (n * n) := by grind
    have p1 := sq_nn (2 * m - n)
    by_cases hn : n = 0
    · subst hn
      have hm : m ≠ 0 := by omega
      have : m * m ≠ 0 := Int.mul_ne_zero hm hm
      have := sq_nn m
      simp only [Int.mul_zero, Int.sub_zero, Int.add_zero]
      omega
    · have h1 : n * n ≠ 0 := Int.mul_ne_zero hn hn
      have h2 := sq_nn n
      omega
  rcases Int.le_total 0 (m * n) with hp | hp
  · have a1 : m * n * (-s) ≤ m * n * t := Int.mul_le_mul_of_nonneg_left (by omega) hp
    have a2 := key _ (pos m n hmn)
    have e2 : (m * m - m * n + n * n) * s = m * m * s + m * n * (-s) + n * n * s := by grind
    omega
  · have a1 : m * n * s ≤ m * n * t := Int.mul_le_mul_of_nonpos_left hp (by omega)
    have a2 := key _ (pos m (-n) (by omega))
    have e2 : (m * m - m * (-n) + (-n) * (-n)) * s = m * m * s + m * n * s + n * n * s := by grind
    omega
/-- The first pull of a reduced complete kit is no longer than any pull but nothing. -/
theorem red_le {p0 p1 p2 p3 i j k l i' j' : Int} (hd : i * l - j * k = 1 ∨ i * l - j * k = -1)
    (hr : red (i * p0 + j * p2) (i * p1 + j * p3) (k * p0 + l * p2) (k * p1 + l * p3)) (h0 : i' ≠ 0 ∨ j' ≠ 0) :
    (i * p0 + j * p2) * (i * p0 + j * p2) + (i * p1 + j * p3) * (i * p1 + j * p3) ≤ (i' * p0 + j' * p2) * (i' * p0 + j' * p2) + (i' * p1 + j' * p3) * (i' * p1 + j' * p3) := by
  generalize hD : i * l - j * k = D at hd
  have hDD : D * D = 1 := by rcases hd with h | h <;> subst h <;> rfl
  have hm : D * (i' * l - j' * k) ≠ 0 ∨ D * (i * j' - j * i') ≠ 0 := by
    apply Classical.byContradiction
    intro hc
    have hc1 : D * (i' * l - j' * k) = 0 := by omega
    have hc2 : D * (i * j' - j * i') = 0 := by omega
    have q1 : D * (D * (i' * l - j' * k)) = i' * l - j' * k := by rw [← Int.mul_assoc, hDD, Int.one_mul]
    have q2 : D * (D * (i * j' - j * i')) = i * j' - j * i' := by rw [← Int.mul_assoc, hDD, Int.one_mul]
    rw [hc1] at q1; rw [hc2] at q2
    have r1 : i' * (i * l - j * k) = i * (i' * l - j' * k) + k * (i * j' - j * i') := by grind
    have r2 : j' * (i * l - j * k) = j * (i' * l - j' * k) + l * (i * j' - j * i') := by grind
    rw [← q1, ← q2, hD] at r1 r2
    simp only [Int.mul_zero, Int.add_zero] at r1 r2
    rcases hd with h | h <;> subst h <;> omega
  have e1 : (D * (i' * l - j' * k)) * (i * p0 + j * p2) + (D * (i * j' - j * i')) * (k * p0 + l * p2) = i' * p0 + j' * p2 := by
    have : (D * (i' * l - j' * k)) * (i * p0 + j * p2) + (D * (i * j' - j * i')) * (k * p0 + l * p2) = D * (i * l - j * k) * (i' * p0 + j' * p2) := by grind
    rw [this, hD, hDD, Int.one_mul]
  have e2 : (D * (i' * l - j' * k)) * (i * p1 + j * p3) + (D * (i * j' - j * i')) * (k * p1 + l * p3) = i' * p1 + j' * p3 := by
    have : (D * (i' * l - j' * k)) * (i * p1 + j * p3) + (D * (i * j' - j * i')) * (k * p1 + l * p3) = D * (i * l - j * k) * (i' * p1 + j' * p3) := by grind
    rw [this, hD, hDD, Int.one_mul]
  have := red_min hr hm
  rw [e1, e2] at this
  exact this
theorem ne0_of_det {i j k l : Int} (hd : i * l - j * k = 1 ∨ i * l - j * k = -1) : i ≠ 0 ∨ j ≠ 0 := by
  apply Classical.byContradiction
  intro hc
  have h1 : i = 0 := by omega
  have h2 : j = 0 := by omega
  subst h1; subst h2
  simp at hd
theorem bun0 {p0 p1 p2 p3 : Int} (h : Kit4 p0 p1 p2 p3) : Bun p0 p1 p2 p3 1 0 0 1 := by
  have h0 := mul_le (m := 1000) (n := 1000) h.b0 h.b0 (by omega) (by omega)
  have h1 := mul_le (m := 1000) (n := 1000) h.b1 h.b1 (by omega) (by omega)
  have h2 := mul_le (m := 1000) (n := 1000) h.b2 h.b2 (by omega) (by omega)
  have h3 := mul_le (m := 1000) (n := 1000) h.b3 h.b3 (by omega) (by omega)
  refine ⟨by omega, ?_, ?_⟩
  · simp only [Int.one_mul, Int.zero_mul, Int.add_zero]; omega
  · simp only [Int.one_mul, Int.zero_mul, Int.zero_add]; omega
theorem F61_eq {p0 p1 p2 p3 : Int} (h : Kit4 p0 p1 p2 p3) : ∃ i j k l, F61 p0 p1 p2 p3 = some (((i * p0 + j * p2, i * p1 + j * p3), (k * p0 + l * p2, k * p1 + l * p3)), (i, j), (k, l)) ∧
    Bun p0 p1 p2 p3 i j k l ∧ red (i * p0 + j * p2) (i * p1 + j * p3) (k * p0 + l * p2) (k * p1 + l * p3) := by
  obtain ⟨i, j, k, l, h1, h2, h3⟩ := loop61 h (((1 * p0 + 0 * p2) * (1 * p0 + 0 * p2) + (1 * p1 + 0 * p3) * (1 * p1 + 0 * p3)).toNat + 1) 1 0 0 1 (bun0 h) (by omega)
  refine ⟨i, j, k, l, ?_, h2, h3⟩
  simp only [Int.one_mul, Int.zero_mul, Int.add_zero, Int.zero_add] at h1
  unfold F61
  rw [h1]
  rfl
theorem F20_ok {a b c d : Int} (h : inb 1000 a b = true) (h2 : inb 1000 c d = true) (h3 : a * d - b * c ≠ 0) : Kit4 a b c d :=
  ⟨(inb_of h).1, (inb_of h).2, (inb_of h2).1, (inb_of h2).2, h3⟩
/-- The check says 0 of a kit as stated, and an error else. -/
theorem F20_cases (a b c d : Int) : (F20 a b c d = some 0 ∧ Kit4 a b c d) ∨ ∃ e, e ≠ 0 ∧ F20 a b c d = some e := by
  rw [F20_eq]
  cases h1 : inb 1000 a b
  · exact .inr ⟨1, by omega, rfl⟩
  · cases h2 : inb 1000 c d
    · exact .inr ⟨1, by omega, rfl⟩
    · by_cases h3 : a * d - b * c = 0
      · exact .inr ⟨15, by omega, by simp [h3]⟩
      · exact .inl ⟨by simp [h3], F20_ok h1 h2 h3⟩
theorem mx_abs (x : Int) : mx x (0 - x) = (x.natAbs : Int) := by
  unfold mx
  split <;> omega
theorem mx_le {a b c : Int} : mx a b ≤ c ↔ a ≤ c ∧ b ≤ c := by
  unfold mx
  split <;> omega
theorem F43_eq (a b : Int) : F43 a b = some (a, b) := rfl
theorem F41_eq {a b c d : Int} (ha : -40000 ≤ a ∧ a ≤ 40000) (hb : -40000 ≤ b ∧ b ≤ 40000) (hc : -40000 ≤ c ∧ c ≤ 40000) (hd : -40000 ≤ d ∧ d ≤ 40000) : F41 a b c d = some (a * c + b * d) := by
  have h1 := mul_le (m := 40000) (n := 40000) ha hc (by omega) (by omega)
  have h2 := mul_le (m := 40000) (n := 40000) hb hd (by omega) (by omega)
  unfold F41
  rw [w64_id (x := a * c) (by omega) (by omega), w64_id (x := b * d) (by omega) (by omega), w64_id (by omega) (by omega)]
theorem F45_eq {a b c d : Int} (ha : -40000 ≤ a ∧ a ≤ 40000) (hb : -40000 ≤ b ∧ b ≤ 40000) (hc : -40000 ≤ c ∧ c ≤ 40000) (hd : -40000 ≤ d ∧ d ≤ 40000) : F45 a b c d = some ((a * d - b * c).natAbs : Int) := by
  have h1 := mul_le (m := 40000) (n := 40000) ha hd (by omega) (by omega)
  have h2 := mul_le (m := 40000) (n := 40000) hb hc (by omega) (by omega)
  unfold F45
  rw [w64_id (x := a * d) (by omega) (by omega), w64_id (x := b * c) (by omega) (by omega), w64_id (x := a * d - b * c) (by omega) (by omega), w64_id (by omega) (by omega), mx_abs]
  rfl
theorem tmod_lt (x : Int) {m : Int} (hm : 0 < m) : -m < Int.tmod x m ∧ Int.tmod x m < m := ⟨Int.lt_tmod_of_pos x hm, Int.tmod_lt_of_pos x hm⟩
/-- The kit of a ship by numbers: small, and not flat. -/
structure Kit12 (a b c d : Int) : Prop where
  b0 : -12 ≤ a ∧ a ≤ 12
  b1 : -12 ≤ b ∧ b ≤ 12
  b2 : -12 ≤ c ∧ c ≤ 12
  b3 : -12 ≤ d ∧ d ≤ 12
  nf : a * d - b * c ≠ 0
theorem Kit12.kit {a b c d : Int} (h : Kit12 a b c d) : Kit4 a b c d :=
  ⟨by have := h.b0; omega, by have := h.b1; omega, by have := h.b2; omega, by have := h.b3; omega, h.nf⟩
theorem F36_eq (p0 p1 p2 p3 p4 p5 : Int) : ∃ a b c d x y, F36 p0 p1 p2 p3 p4 p5 = some (((a, b), (c, d)), (x, y)) ∧ Kit12 a b c d ∧ (-199 ≤ x ∧ x ≤ 199) ∧ (-199 ≤ y ∧ y ≤ 199) := by
  have h0 := tmod_lt (w64 p0) (m := 13) (by omega)
  have h1 := tmod_lt (w64 p1) (m := 13) (by omega)
  have h2 := tmod_lt (w64 p2) (m := 13) (by omega)
  have h3 := tmod_lt (w64 p3) (m := 13) (by omega)
  have h4 := tmod_lt (w64 p4) (m := 200) (by omega)
  have h5 := tmod_lt (w64 p5) (m := 200) (by omega)
  unfold F36 F49
  simp only [F43_eq, Option.bind_eq_bind, Option.bind_some]
  generalize Int.tmod (w64 p0) 13 = a at *
  generalize Int.tmod (w64 p1) 13 = b at *
  generalize Int.tmod (w64 p2) 13 = c at *
  generalize Int.tmod (w64 p3) 13 = d at *
  generalize Int.tmod (w64 p4) 200 = x at *
  generalize Int.tmod (w64 p5) 200 = y at *
  rw [F45_eq (by omega) (by omega) (by omega) (by omega)]
  simp only [Option.bind_some]
  by_cases hz : a * d - b * c = 0
  · simp only [hz, Int.natAbs_zero, Int.ofNat_zero, beq_self_eq_true, if_true, Option.bind_some]
    exact ⟨3, 1, 1, 4, x, y, rfl, ⟨by omega, by omega, by omega, by omega, by omega⟩, by omega, by omega⟩
  · have : (((a * d - b * c).natAbs : Int) == 0) = false := by
      rw [beq_eq_false_iff_ne]
      omega
    simp only [this, Bool.false_eq_true, if_false, Option.bind_some]
    exact ⟨a, b, c, d, x, y, rfl, ⟨by omega, by omega, by omega, by omega, hz⟩, by omega, by omega⟩
/-- What is known of reduced bundles of a small kit. -/
structure Red12 (a b c d i j k l : Int) : Prop where
  bx : -333 ≤ i * a + j * c ∧ i * a + j * c ≤ 333
  by' : -333 ≤ i * b + j * d ∧ i * b + j * d ≤ 333
  bu : -333 ≤ k * a + l * c ∧ k * a + l * c ≤ 333
  bv : -333 ≤ k * b + l * d ∧ k * b + l * d ≤ 333
  bi : -8000 ≤ i ∧ i ≤ 8000
  bj : -8000 ≤ j ∧ j ≤ 8000
  bk : -8000 ≤ k ∧ k ≤ 8000
  bl : -8000 ≤ l ∧ l ≤ 8000
  area : 3 * ((i * a + j * c) * (i * a + j * c) + (i * b + j * d) * (i * b + j * d)) * ((k * a + l * c) * (k * a + l * c) + (k * b + l * d) * (k * b + l * d)) ≤ 4 * ((a * d - b * c) * (a * d - b * c))
/-- The squares of a reduced kit against its area. -/
theorem area_of {x y u v : Int} (h : red x y u v) : 3 * (x * x + y * y) * (u * u + v * v) ≤ 4 * ((x * v - y * u) * (x * v - y * u)) := by
  obtain ⟨h1, h2, h3⟩ := h
  have e : (x * v - y * u) * (x * v - y * u) = (x * x + y * y) * (u * u + v * v) - (x * u + y * v) * (x * u + y * v) := by grind
  rw [e]
  have hs : 0 ≤ x * x + y * y := by have := sq_nn x; have := sq_nn y; omega
  generalize x * x + y * y = s at *
  generalize x * u + y * v = t at *
  generalize u * u + v * v = r at *
  have t4 : 4 * (t * t) ≤ s * s := by
    have := mul_le (a := 2 * t) (b := 2 * t) (m := s) (n := s) (by omega) (by omega) hs hs
    have e2 : 2 * t * (2 * t) = 4 * (t * t) := by grind
    omega
  have sr : s * s ≤ s * r := Int.mul_le_mul_of_nonneg_left h1 hs
  have e3 : 3 * s * r = 3 * (s * r) := by grind
  rw [e3]
  omega
theorem det_of {a b c d i j k l : Int} : (i * a + j * c) * (k * b + l * d) - (i * b + j * d) * (k * a + l * c) = (i * l - j * k) * (a * d - b * c) := by grind
theorem sq_of_det {D e : Int} (hd : e = 1 ∨ e = -1) : e * D * (e * D) = D * D := by
  rcases hd with h | h <;> subst h <;> grind
theorem coef {D x y p q i : Int} (hD : D ≠ 0) (hx : -333 ≤ x ∧ x ≤ 333) (hy : -333 ≤ y ∧ y ≤ 333) (hp : -12 ≤ p ∧ p ≤ 12) (hq : -12 ≤ q ∧ q ≤ 12) (h : i * D = x * p - y * q) : -8000 ≤ i ∧ i ≤ 8000 := by
  have a1 := mul_le (m := 333) (n := 12) hx hp (by omega) (by omega)
  have a2 := mul_le (m := 333) (n := 12) hy hq (by omega) (by omega)
  have h1 : i.natAbs * D.natAbs ≤ 8000 := by rw [← Int.natAbs_mul]; omega
  have h2 : i.natAbs * 1 ≤ i.natAbs * D.natAbs := Nat.mul_le_mul_left _ (by omega)
  omega
theorem red12_of {a b c d i j k l : Int} (h : Kit12 a b c d) (hB : Bun a b c d i j k l) (hr : red (i * a + j * c) (i * b + j * d) (k * a + l * c) (k * b + l * d)) : Red12 a b c d i j k l := by
  have ha := area_of hr
  have hp := pos_of h.kit hB.det
  rw [det_of, sq_of_det hB.det] at ha
  have m1 := mul_le (m := 12) (n := 12) h.b0 h.b3 (by omega) (by omega)
  have m2 := mul_le (m := 12) (n := 12) h.b1 h.b2 (by omega) (by omega)
  have hD2 : (a * d - b * c) * (a * d - b * c) ≤ 82944 := by
    have := mul_le (a := a * d - b * c) (b := a * d - b * c) (m := 288) (n := 288) (by omega) (by omega) (by omega) (by omega)
    omega
  have hle := hr.1
  have hnn : 0 ≤ (k * a + l * c) * (k * a + l * c) + (k * b + l * d) * (k * b + l * d) := by have := sq_nn (k * a + l * c); have := sq_nn (k * b + l * d); omega
  have hr1 : (k * a + l * c) * (k * a + l * c) + (k * b + l * d) * (k * b + l * d) ≤ 110592 := by
    have e : 3 * ((i * a + j * c) * (i * a + j * c) + (i * b + j * d) * (i * b + j * d)) * ((k * a + l * c) * (k * a + l * c) + (k * b + l * d) * (k * b + l * d)) = 3 * (((i * a + j * c) * (i * a + j * c) + (i * b + j * d) * (i * b + j * d)) * ((k * a + l * c) * (k * a + l * c) + (k * b + l * d) * (k * b + l * d))) := by grind
    have q := Int.mul_le_mul_of_nonneg_right (show (1 : Int) ≤ (i * a + j * c) * (i * a + j * c) + (i * b + j * d) * (i * b + j * d) by omega) hnn
    omega
  have n1 := sq_nn (i * a + j * c)
  have n2 := sq_nn (i * b + j * d)
  have n3 := sq_nn (k * a + l * c)
  have n4 := sq_nn (k * b + l * d)
  have bx := sq_bd (a := i * a + j * c) (m := 333) (by omega) (by omega)
  have by' := sq_bd (a := i * b + j * d) (m := 333) (by omega) (by omega)
  have bu := sq_bd (a := k * a + l * c) (m := 333) (by omega) (by omega)
  have bv := sq_bd (a := k * b + l * d) (m := 333) (by omega) (by omega)
  have e1 : i * (a * d - b * c) = (i * a + j * c) * d - (i * b + j * d) * c := by grind
  have e2 : j * (a * d - b * c) = (i * b + j * d) * a - (i * a + j * c) * b := by grind
  have e3 : k * (a * d - b * c) = (k * a + l * c) * d - (k * b + l * d) * c := by grind
  have e4 : l * (a * d - b * c) = (k * b + l * d) * a - (k * a + l * c) * b := by grind
  exact ⟨bx, by', bu, bv, coef h.nf bx by' h.b3 h.b2 e1, coef h.nf by' bx h.b0 h.b1 e2, coef h.nf bu bv h.b3 h.b2 e3, coef h.nf bv bu h.b0 h.b1 e4, ha⟩
theorem F38_eq {i j : Int} (hi : -8000 ≤ i ∧ i ≤ 8000) (hj : -8000 ≤ j ∧ j ≤ 8000) : F38 i j = some true := by
  unfold F38
  have h1 : i ≥ -1000000 := by omega
  have h2 : i ≤ 1000000 := by omega
  have h3 : j ≥ -1000000 := by omega
  have h4 : j ≤ 1000000 := by omega
  simp [h1, h2, h3, h4]
theorem F40_eq {a b c d i j : Int} (h : Kit12 a b c d) (hi : -8000 ≤ i ∧ i ≤ 8000) (hj : -8000 ≤ j ∧ j ≤ 8000) : F40 a b c d i j = some (i * a + j * c, i * b + j * d) := by
  have h0 := mul_le (m := 8000) (n := 12) hi h.b0 (by omega) (by omega)
  have h1 := mul_le (m := 8000) (n := 12) hi h.b1 (by omega) (by omega)
  have h2 := mul_le (m := 8000) (n := 12) hj h.b2 (by omega) (by omega)
  have h3 := mul_le (m := 8000) (n := 12) hj h.b3 (by omega) (by omega)
  unfold F40
  rw [w64_id (x := i * a) (by omega) (by omega), w64_id (x := i * b) (by omega) (by omega), w64_id (x := j * c) (by omega) (by omega), w64_id (x := j * d) (by omega) (by omega),
    w64_id (by omega) (by omega), w64_id (by omega) (by omega)]
  rfl
/-- The bundles that the program returns of a small kit. -/
theorem F23_eq {a b c d : Int} (h : Kit4 a b c d) (h20 : F20 a b c d = some 0) {i j k l : Int} (h61 : F61 a b c d = some (((i * a + j * c, i * b + j * d), (k * a + l * c, k * b + l * d)), (i, j), (k, l))) : F23 a b c d = some ((i, j), (k, l), 0) := by
  unfold F23
  simp only [h20, h61, Option.bind_eq_bind, Option.bind_some, bne_self_eq_false, Bool.false_eq_true, if_false]
theorem F20_good {a b c d : Int} (h : Kit4 a b c d) : F20 a b c d = some 0 := by
  rw [F20_eq]
  have h1 : inb 1000 a b = true := decide_eq_true ⟨h.b0, h.b1⟩
  have h2 : inb 1000 c d = true := decide_eq_true ⟨h.b2, h.b3⟩
  have h3 := h.nf
  simp [h1, h2, h3]
theorem F37_eq {a b c d i j k l : Int} (h : Kit12 a b c d) (hB : Bun a b c d i j k l) (hr : red (i * a + j * c) (i * b + j * d) (k * a + l * c) (k * b + l * d)) (h23 : F23 a b c d = some ((i, j), (k, l), 0)) :
    F37 a b c d = some (((i * a + j * c, i * b + j * d), (k * a + l * c, k * b + l * d)), true) := by
  have R := red12_of h hB hr
  have b1 := mul_le (m := 8000) (n := 8000) R.bi R.bl (by omega) (by omega)
  have b2 := mul_le (m := 8000) (n := 8000) R.bj R.bk (by omega) (by omega)
  have bx := R.bx
  have by' := R.by'
  have bu := R.bu
  have bv := R.bv
  unfold F37
  simp only [h23, Option.bind_eq_bind, Option.bind_some, bne_self_eq_false, Bool.false_eq_true, if_false, F38_eq R.bi R.bj, F38_eq R.bk R.bl, if_true, F40_eq h R.bi R.bj, F40_eq h R.bk R.bl]
  rw [F41_eq (by omega) (by omega) (by omega) (by omega), Option.bind_some]
  rw [w64_id (x := i * l) (by omega) (by omega), w64_id (x := j * k) (by omega) (by omega), w64_id (x := i * l - j * k) (by omega) (by omega)]
  rw [F41_eq (by omega) (by omega) (by omega) (by omega), F41_eq (by omega) (by omega) (by omega) (by omega)]
  simp only [Option.bind_some]
  obtain ⟨r1, r2, r3⟩ := hr
  have t1 := mul_le (m := 333) (n := 333) bx bu (by omega) (by omega)
  have t2 := mul_le (m := 333) (n := 333) by' bv (by omega) (by omega)
  have hm : w64 (2 * mx ((i * a + j * c) * (k * a + l * c) + (i * b + j * d) * (k * b + l * d)) (w64 (0 - ((i * a + j * c) * (k * a + l * c) + (i * b + j * d) * (k * b + l * d))))) ≤ (i * a + j * c) * (i * a + j * c) + (i * b + j * d) * (i * b + j * d) := by
    generalize (i * a + j * c) * (k * a + l * c) = t1' at *
    generalize (i * b + j * d) * (k * b + l * d) = t2' at *
    generalize (i * a + j * c) * (i * a + j * c) + (i * b + j * d) * (i * b + j * d) = s at *
    rw [w64_id (x := 0 - (t1' + t2')) (by omega) (by omega), mx_abs, w64_id (by omega) (by omega)]
    omega
  rw [Int.zero_sub] at hm
  rcases hB.det with hd | hd <;> simp [hd, r1, hm]
theorem F50_eq {x y u v : Int} (bx : -333 ≤ x ∧ x ≤ 333) (by' : -333 ≤ y ∧ y ≤ 333) (bu : -333 ≤ u ∧ u ≤ 333) (bv : -333 ≤ v ∧ v ≤ 333) (hr : red x y u v) : F50 x y u v = some true := by
  have t1 := mul_le (m := 333) (n := 333) bx bu (by omega) (by omega)
  have t2 := mul_le (m := 333) (n := 333) by' bv (by omega) (by omega)
  unfold F50
  simp only [Option.bind_eq_bind]
  rw [F72_eq (by omega) (by omega) (by omega) (by omega), Option.bind_some, F63_eq (by omega) (by omega), Option.bind_some, F63_eq (by omega) (by omega), Option.bind_some]
  obtain ⟨r1, r2, r3⟩ := hr
  have hm : w64 (2 * mx (x * u + y * v) (w64 (0 - (x * u + y * v)))) ≤ x * x + y * y := by
    generalize x * u = t1' at *
    generalize y * v = t2' at *
    generalize x * x + y * y = s at *
    rw [w64_id (x := 0 - (t1' + t2')) (by omega) (by omega), mx_abs, w64_id (by omega) (by omega)]
    omega
  rw [Int.zero_sub] at hm
  simp [r1, hm]
/-- A vector that the kit pulls. -/
def Lat (a b c d : Int) (v : Int × Int) : Prop := (-16 ≤ v.1 ∧ v.1 ≤ 16) ∧ (-16 ≤ v.2 ∧ v.2 ≤ 16) ∧ ∃ m n : Int, v.1 = m * a + n * c ∧ v.2 = m * b + n * d
theorem lat_of {a b c d x y : Int} (hD : a * d - b * c ≠ 0) (h1 : Int.tmod ((x * d - y * c).natAbs : Int) ((a * d - b * c).natAbs : Int) = 0) (h2 : Int.tmod ((a * y - b * x).natAbs : Int) ((a * d - b * c).natAbs : Int) = 0) :
    ∃ m n : Int, x = m * a + n * c ∧ y = m * b + n * d := by
  have d1 := Int.natAbs_dvd_natAbs.1 (Int.ofNat_dvd.1 (Int.dvd_of_tmod_eq_zero h1))
  have d2 := Int.natAbs_dvd_natAbs.1 (Int.ofNat_dvd.1 (Int.dvd_of_tmod_eq_zero h2))
  obtain ⟨m, hm⟩ := d1
  obtain ⟨n, hn⟩ := d2
  refine ⟨m, n, ?_, ?_⟩
  · refine Int.eq_of_mul_eq_mul_left hD ?_
    have : (a * d - b * c) * (m * a + n * c) = ((a * d - b * c) * m) * a + ((a * d - b * c) * n) * c := by grind
    rw [this, ← hm, ← hn]
    grind
  · refine Int.eq_of_mul_eq_mul_left hD ?_
    have : (a * d - b * c) * (m * b + n * d) = ((a * d - b * c) * m) * b + ((a * d - b * c) * n) * d := by grind
    rw [this, ← hm, ← hn]
    grind
theorem F42l1_eq {a b c d x : Int} (h : Kit12 a b c d) (hx : -16 ≤ x ∧ x ≤ 16) : ∀ (m : Nat) (y : Int) (l : List (Int × Int)), (17 - y).toNat = m → -16 ≤ y → y ≤ 17 → l.length ≤ 100000 - m → (∀ v ∈ l, Lat a b c d v) →
    ∃ l', F42l1 a b c d 0 0 16 ((a * d - b * c).natAbs : Int) x y l = some l' ∧ l'.length ≤ l.length + m ∧ ∀ v ∈ l', Lat a b c d v := by
  intro m
  induction m with
  | zero =>
    intro y l hm h1 h2 hl hv
    rw [F42l1_fix]
    have : ¬ y ≤ w64 (0 + 16) := by rw [w64_id (by omega) (by omega)]; omega
    simp only [this, decide_false, Bool.false_eq_true, if_false]
    exact ⟨l, rfl, by omega, hv⟩
  | succ m ih =>
    intro y l hm h1 h2 hl hv
    rw [F42l1_fix]
    have hy : y ≤ w64 (0 + 16) := by rw [w64_id (by omega) (by omega)]; omega
    have b0 := h.b0
    have b1 := h.b1
    have b2 := h.b2
    have b3 := h.b3
    have hD := h.nf
    have hz : ¬ (((a * d - b * c).natAbs : Nat) : Int) = 0 := by omega
    simp only [hy, decide_true, if_true, F43_eq, Option.bind_eq_bind, Option.bind_some]
    rw [F45_eq (by omega) (by omega) (by omega) (by omega), Option.bind_some, F45_eq (by omega) (by omega) (by omega) (by omega), w64_id (x := y + 1) (by omega) (by omega)]
    simp only [hz, if_false, Option.bind_some]
    have hlen : l.length ≤ 1000000000 := by omega
    have again : ∀ l2 : List (Int × Int), l2.length ≤ l.length + 1 → (∀ v ∈ l2, Lat a b c d v) → ∃ l', F42l1 a b c d 0 0 16 ((a * d - b * c).natAbs : Int) x (y + 1) l2 = some l' ∧ l'.length ≤ l.length + (m + 1) ∧ ∀ v ∈ l', Lat a b c d v := fun l2 h3 h4 => by
      obtain ⟨l', q1, q2, q3⟩ := ih (y + 1) l2 (by omega) (by omega) (by omega) (by omega) h4
      exact ⟨l', q1, by omega, q3⟩
    by_cases t1 : Int.tmod ((x * d - y * c).natAbs : Int) ((a * d - b * c).natAbs : Int) = 0
    · by_cases t2 : Int.tmod ((a * y - b * x).natAbs : Int) ((a * d - b * c).natAbs : Int) = 0
      · simp only [t1, t2, beq_self_eq_true, if_true, hlen, Option.bind_some]
        refine again _ (by simp) fun v hv' => ?_
        rcases List.mem_append.1 hv' with hv' | hv'
        · exact hv v hv'
        · simp only [List.mem_singleton] at hv'
          subst hv'
          exact ⟨hx, by omega, lat_of hD t1 t2⟩
      · have : (Int.tmod ((a * y - b * x).natAbs : Int) ((a * d - b * c).natAbs : Int) == 0) = false := by simpa using t2
        simp only [t1, this, beq_self_eq_true, if_true, Bool.false_eq_true, if_false, Option.bind_some]
        exact again l (by omega) hv
    · have : (Int.tmod ((x * d - y * c).natAbs : Int) ((a * d - b * c).natAbs : Int) == 0) = false := by simpa using t1
      simp only [this, Bool.false_eq_true, if_false, Option.bind_some]
      exact again l (by omega) hv
theorem F42l0_eq {a b c d : Int} (h : Kit12 a b c d) : ∀ (m : Nat) (x : Int) (l : List (Int × Int)), (17 - x).toNat = m → -16 ≤ x → x ≤ 17 → l.length ≤ 10000 - 40 * m → m ≤ 40 → (∀ v ∈ l, Lat a b c d v) →
    ∃ l', F42l0 a b c d 0 0 16 ((a * d - b * c).natAbs : Int) l x = some l' ∧ l'.length ≤ 10000 ∧ ∀ v ∈ l', Lat a b c d v := by
  intro m
  induction m with
  | zero =>
    intro x l hm h1 h2 hl _ hv
    rw [F42l0_fix]
    have : ¬ x ≤ w64 (0 + 16) := by rw [w64_id (by omega) (by omega)]; omega
    simp only [this, decide_false, Bool.false_eq_true, if_false]
    exact ⟨l, rfl, by omega, hv⟩
  | succ m ih =>
    intro x l hm h1 h2 hl hm40 hv
    rw [F42l0_fix]
    have hx : x ≤ w64 (0 + 16) := by rw [w64_id (by omega) (by omega)]; omega
    simp only [hx, decide_true, if_true, Option.bind_eq_bind]
    rw [w64_id (x := 0 - 16) (by omega) (by omega), w64_id (x := x + 1) (by omega) (by omega)]
    obtain ⟨l', q1, q2, q3⟩ := F42l1_eq h (x := x) (by omega) 33 (0 - 16) l (by omega) (by omega) (by omega) (by omega) hv
    rw [q1, Option.bind_some]
    exact ih (x + 1) l' (by omega) (by omega) (by omega) (by omega) (by omega) q3
theorem F42_eq {a b c d : Int} (h : Kit12 a b c d) : ∃ l, F42 a b c d 0 0 16 = some l ∧ l.length ≤ 10000 ∧ ∀ v ∈ l, Lat a b c d v := by
  have b0 := h.b0
  have b1 := h.b1
  have b2 := h.b2
  have b3 := h.b3
  unfold F42
  simp only [Option.bind_eq_bind]
  rw [F45_eq (by omega) (by omega) (by omega) (by omega), Option.bind_some, w64_id (x := 0 - 16) (by omega) (by omega)]
  obtain ⟨l, q1, q2, q3⟩ := F42l0_eq h 33 (0 - 16) [] (by omega) (by omega) (by omega) (by simp) (by omega) (by simp)
  rw [q1]
  exact ⟨l, rfl, q2, q3⟩
theorem F9l0_eq {a b c d i j k l : Int} (hB : Bun a b c d i j k l) (hr : red (i * a + j * c) (i * b + j * d) (k * a + l * c) (k * b + l * d)) {p6 p7 : Int} {r1 : ((Int × Int) × (Int × Int)) × (Int × Int)} {r5 : Int × Int} (h5 : r5.1 = (i * a + j * c) * (i * a + j * c) + (i * b + j * d) * (i * b + j * d))
    {L : List (Int × Int)} (hL : L.length ≤ 10000) (hv : ∀ v ∈ L, Lat a b c d v) : ∀ (m : Nat) (n : Nat), n + m = L.length → F9l0 p6 p7 r1 r5 L (n : Int) = some (.inr ()) := by
  intro m
  induction m with
  | zero =>
    intro n hn
    rw [F9l0_fix]
    have : ¬ (n : Int) < (L.length : Int) := by omega
    simp only [this, decide_false, Bool.false_eq_true, if_false]
  | succ m ih =>
    intro n hn
    rw [F9l0_fix]
    have h1 : (n : Int) < (L.length : Int) := by omega
    have h2 : (0 : Int) ≤ (n : Int) ∧ (n : Int) < (L.length : Int) := by omega
    have hl : n < L.length := by omega
    have hget : List.getD L (Int.toNat (n : Int)) (0, 0) = L[n] := by simp [List.getD, hl]
    obtain ⟨v1, v2, mm, nn, e1, e2⟩ := hv L[n] (List.getElem_mem hl)
    simp only [h1, decide_true, if_true, h2, and_self, Option.bind_eq_bind, Option.bind_some, hget]
    rw [F41_eq (by omega) (by omega) (by omega) (by omega), Option.bind_some, Option.bind_some, w64_id (x := (n : Int) + 1) (by omega) (by omega)]
    have key : ¬ (L[n].1 * L[n].1 + L[n].2 * L[n].2 > 0 ∧ L[n].1 * L[n].1 + L[n].2 * L[n].2 < r5.1) := by
      rintro ⟨k1, k2⟩
      have h0 : mm ≠ 0 ∨ nn ≠ 0 := by
        apply Classical.byContradiction
        intro hc
        have m0 : mm = 0 := by omega
        have n0 : nn = 0 := by omega
        subst m0; subst n0
        simp only [Int.zero_mul, Int.add_zero] at e1 e2
        rw [e1, e2] at k1
        omega
      have := red_le (p0 := a) (p1 := b) (p2 := c) (p3 := d) hB.det hr h0
      rw [← e1, ← e2, ← h5] at this
      omega
    have hn1 : ((n : Int) + 1) = ((n + 1 : Nat) : Int) := by omega
    by_cases k1 : L[n].1 * L[n].1 + L[n].2 * L[n].2 > 0
    · have k2 : ¬ L[n].1 * L[n].1 + L[n].2 * L[n].2 < r5.1 := fun k2 => key ⟨k1, k2⟩
      simp only [k1, k2, decide_true, decide_false, if_true, Bool.false_eq_true, if_false, Option.bind_some]
      rw [hn1]
      exact ih (n + 1) (by omega)
    · simp only [k1, decide_false, Bool.false_eq_true, if_false, Option.bind_some]
      rw [hn1]
      exact ih (n + 1) (by omega)
/-- Another kit with the same pulls has the same shortest one. -/
theorem other_sq {a b c d t0 t1 i j k l i' j' k' l' : Int} (hB : Bun a b c d i j k l) (hr : red (i * a + j * c) (i * b + j * d) (k * a + l * c) (k * b + l * d))
    (hB' : Bun (c + t1 * (a + t0 * c)) (d + t1 * (b + t0 * d)) (a + t0 * c) (b + t0 * d) i' j' k' l')
    (hr' : red (i' * (c + t1 * (a + t0 * c)) + j' * (a + t0 * c)) (i' * (d + t1 * (b + t0 * d)) + j' * (b + t0 * d)) (k' * (c + t1 * (a + t0 * c)) + l' * (a + t0 * c)) (k' * (d + t1 * (b + t0 * d)) + l' * (b + t0 * d))) :
    (i' * (c + t1 * (a + t0 * c)) + j' * (a + t0 * c)) * (i' * (c + t1 * (a + t0 * c)) + j' * (a + t0 * c)) + (i' * (d + t1 * (b + t0 * d)) + j' * (b + t0 * d)) * (i' * (d + t1 * (b + t0 * d)) + j' * (b + t0 * d)) =
      (i * a + j * c) * (i * a + j * c) + (i * b + j * d) * (i * b + j * d) := by
  have n1 := ne0_of_det hB.det
  have n2 := ne0_of_det hB'.det
  have f1 : i' * (c + t1 * (a + t0 * c)) + j' * (a + t0 * c) = (i' * t1 + j') * a + (i' + t0 * (i' * t1 + j')) * c := by grind
  have f2 : i' * (d + t1 * (b + t0 * d)) + j' * (b + t0 * d) = (i' * t1 + j') * b + (i' + t0 * (i' * t1 + j')) * d := by grind
  have g1 : i * a + j * c = (j - t0 * i) * (c + t1 * (a + t0 * c)) + (i - (j - t0 * i) * t1) * (a + t0 * c) := by grind
  have g2 : i * b + j * d = (j - t0 * i) * (d + t1 * (b + t0 * d)) + (i - (j - t0 * i) * t1) * (b + t0 * d) := by grind
  apply Int.le_antisymm
  · have := red_le hB'.det hr' (i' := j - t0 * i) (j' := i - (j - t0 * i) * t1) (by
      apply Classical.byContradiction
      intro hc
      have z1 : j - t0 * i = 0 := by omega
      have z2 : i - (j - t0 * i) * t1 = 0 := by omega
      rw [z1] at z2
      simp only [Int.zero_mul, Int.sub_zero] at z2
      subst z2
      simp only [Int.mul_zero, Int.sub_zero] at z1
      omega)
    rw [← g1, ← g2] at this
    exact this
  · have := red_le hB.det hr (i' := i' * t1 + j') (j' := i' + t0 * (i' * t1 + j')) (by
      apply Classical.byContradiction
      intro hc
      have z1 : i' * t1 + j' = 0 := by omega
      have z2 : i' + t0 * (i' * t1 + j') = 0 := by omega
      rw [z1] at z2
      simp only [Int.mul_zero, Int.add_zero] at z2
      subst z2
      simp only [Int.zero_mul, Int.zero_add] at z1
      omega)
    rw [← f1, ← f2] at this
    exact this
end Go.Proofs.Ytenjelagfbceeaa
namespace Go.Proofs.Ytenjelagfbceeaa.magnetReduced
open Go Go.Cl
theorem plain (p0 p1 p2 p3 p4 p5 p6 p7 : Int) (w0 : (Lit.int .i8 p0).wf = true) (w1 : (Lit.int .i8 p1).wf = true) (w2 : (Lit.int .i8 p2).wf = true) (w3 : (Lit.int .i8 p3).wf = true) (w4 : (Lit.int .i16 p4).wf = true) (w5 : (Lit.int .i16 p5).wf = true)
    (w6 : (Lit.int .i8 p6).wf = true) (w7 : (Lit.int .i8 p7).wf = true) : F9 p0 p1 p2 p3 p4 p5 p6 p7 = some true := by
  obtain ⟨a, b, c, d, x, y, h36, hk, hx, hy⟩ := F36_eq p0 p1 p2 p3 p4 p5
  obtain ⟨i, j, k, l, h61, hB, hr⟩ := F61_eq hk.kit
  have R := red12_of hk hB hr
  have h23 := F23_eq hk.kit (F20_good hk.kit) h61
  have h37 := F37_eq hk hB hr h23
  have bx := R.bx
  have by' := R.by'
  have bu := R.bu
  have bv := R.bv
  have e63 := F63_eq (a := i * a + j * c) (b := i * b + j * d) (by omega) (by omega)
  have h25 : F25 a b c d = some ((i * a + j * c) * (i * a + j * c) + (i * b + j * d) * (i * b + j * d), 0) := by
    unfold F25
    simp only [F20_good hk.kit, h61, e63, Option.bind_eq_bind, Option.bind_some, bne_self_eq_false, Bool.false_eq_true, if_false]
  have hdet := det_of (a := a) (b := b) (c := c) (d := d) (i := i) (j := j) (k := k) (l := l)
  have hkit : Kit4 (i * a + j * c) (i * b + j * d) (k * a + l * c) (k * b + l * d) := ⟨by omega, by omega, by omega, by omega, by
    rw [hdet]
    exact Int.mul_ne_zero (by rcases hB.det with h | h <;> omega) hk.nf⟩
  have h14 : F14 (i * a + j * c) (i * b + j * d) (k * a + l * c) (k * b + l * d) = some (true, 0) := by
    unfold F14
    simp only [F20_good hkit, F50_eq bx by' bu bv hr, Option.bind_eq_bind, Option.bind_some, bne_self_eq_false, Bool.false_eq_true, if_false]
  have b0 := hk.b0
  have b1 := hk.b1
  have b2 := hk.b2
  have b3 := hk.b3
  have e41 := F41_eq (a := i * a + j * c) (b := i * b + j * d) (c := i * a + j * c) (d := i * b + j * d) (by omega) (by omega) (by omega) (by omega)
  have e41' := F41_eq (a := k * a + l * c) (b := k * b + l * d) (c := k * a + l * c) (d := k * b + l * d) (by omega) (by omega) (by omega) (by omega)
  have e45 := F45_eq (a := i * a + j * c) (b := i * b + j * d) (c := k * a + l * c) (d := k * b + l * d) (by omega) (by omega) (by omega) (by omega)
  have e45' := F45_eq (a := a) (b := b) (c := c) (d := d) (by omega) (by omega) (by omega) (by omega)
  have habs : ((i * a + j * c) * (k * b + l * d) - (i * b + j * d) * (k * a + l * c)).natAbs = (a * d - b * c).natAbs := by
    rw [hdet, Int.natAbs_mul]
    have : (i * l - j * k).natAbs = 1 := by rcases hB.det with h | h <;> omega
    rw [this, Nat.one_mul]
  rw [habs] at e45
  obtain ⟨L, h42, hL, hLv⟩ := F42_eq hk
  have h9 : F9l0 p6 p7 (((a, b), (c, d)), (x, y)) ((i * a + j * c) * (i * a + j * c) + (i * b + j * d) * (i * b + j * d), 0) L 0 = some (.inr ()) := F9l0_eq hB hr rfl hL hLv L.length 0 (by omega)
  have t0 := tmod_lt (w64 p6) (m := 9) (by omega)
  have t1 := tmod_lt (w64 p7) (m := 5) (by omega)
  have harea : ¬ w64 (w64 (3 * ((i * a + j * c) * (i * a + j * c) + (i * b + j * d) * (i * b + j * d))) * ((k * a + l * c) * (k * a + l * c) + (k * b + l * d) * (k * b + l * d))) > w64 (w64 (4 * ((a * d - b * c).natAbs : Int)) * ((a * d - b * c).natAbs : Int)) := by
    have hA := R.area
    have hle := hr.1
    have s1 := mul_le (m := 333) (n := 333) bx bx (by omega) (by omega)
    have s2 := mul_le (m := 333) (n := 333) by' by' (by omega) (by omega)
    have s3 := mul_le (m := 333) (n := 333) bu bu (by omega) (by omega)
    have s4 := mul_le (m := 333) (n := 333) bv bv (by omega) (by omega)
    have n1 := sq_nn (i * a + j * c)
    have n2 := sq_nn (i * b + j * d)
    have n3 := sq_nn (k * a + l * c)
    have n4 := sq_nn (k * b + l * d)
    have m1 := mul_le (m := 12) (n := 12) b0 b3 (by omega) (by omega)
    have m2 := mul_le (m := 12) (n := 12) b1 b2 (by omega) (by omega)
    have sqabs : (((a * d - b * c).natAbs : Int)) * (((a * d - b * c).natAbs : Int)) = (a * d - b * c) * (a * d - b * c) := by
      rw [← Int.natAbs_mul_self' (a * d - b * c)]
    have hs : 0 ≤ (i * a + j * c) * (i * a + j * c) + (i * b + j * d) * (i * b + j * d) ∧ (i * a + j * c) * (i * a + j * c) + (i * b + j * d) * (i * b + j * d) ≤ 250000 := by omega
    have hr0 : 0 ≤ (k * a + l * c) * (k * a + l * c) + (k * b + l * d) * (k * b + l * d) ∧ (k * a + l * c) * (k * a + l * c) + (k * b + l * d) * (k * b + l * d) ≤ 250000 := by omega
    generalize (i * a + j * c) * (i * a + j * c) + (i * b + j * d) * (i * b + j * d) = s at *
    generalize (k * a + l * c) * (k * a + l * c) + (k * b + l * d) * (k * b + l * d) = r at *
    generalize hN : ((a * d - b * c).natAbs : Int) = q at *
    have hq : 0 ≤ q ∧ q ≤ 300 := by omega
    have p1 := mul_le (a := 3 * s) (b := r) (m := 750000) (n := 250000) (by omega) (by omega) (by omega) (by omega)
    have p2 := mul_le (a := 4 * q) (b := q) (m := 1200) (n := 300) (by omega) (by omega) (by omega) (by omega)
    have e4 : 4 * q * q = 4 * ((a * d - b * c) * (a * d - b * c)) := by rw [← sqabs]; grind
    rw [w64_id (x := 3 * s) (by omega) (by omega), w64_id (x := 4 * q) (by omega) (by omega), w64_id (x := 3 * s * r) (by omega) (by omega), w64_id (x := 4 * q * q) (by omega) (by omega)]
    omega
  unfold F9
  simp only [h36, h37, h25, h14, e41, e41', e45, e45', h42, h9, F43_eq, Option.bind_eq_bind, Option.bind_some, if_true, bne_self_eq_false, Bool.false_eq_true, if_false, harea, decide_false]
  generalize Int.tmod (w64 p6) 9 = t at *
  generalize Int.tmod (w64 p7) 5 = u at *
  have q1 := mul_le (a := t) (b := c) (m := 8) (n := 12) (by omega) (by omega) (by omega) (by omega)
  have q2 := mul_le (a := t) (b := d) (m := 8) (n := 12) (by omega) (by omega) (by omega) (by omega)
  have q3 := mul_le (a := u) (b := a + t * c) (m := 4) (n := 108) (by omega) (by omega) (by omega) (by omega)
  have q4 := mul_le (a := u) (b := b + t * d) (m := 4) (n := 108) (by omega) (by omega) (by omega) (by omega)
  rw [w64_id (x := t * c) (by omega) (by omega), w64_id (x := t * d) (by omega) (by omega), w64_id (x := a + t * c) (by omega) (by omega), w64_id (x := b + t * d) (by omega) (by omega),
    w64_id (x := u * (a + t * c)) (by omega) (by omega), w64_id (x := u * (b + t * d)) (by omega) (by omega), w64_id (x := c + u * (a + t * c)) (by omega) (by omega), w64_id (x := d + u * (b + t * d)) (by omega) (by omega)]
  have ho : Kit4 (c + u * (a + t * c)) (d + u * (b + t * d)) (a + t * c) (b + t * d) := ⟨by omega, by omega, by omega, by omega, by
    have : (c + u * (a + t * c)) * (b + t * d) - (d + u * (b + t * d)) * (a + t * c) = -(a * d - b * c) := by grind
    rw [this]
    have := hk.nf
    omega⟩
  obtain ⟨i', j', k', l', h61', hB', hr'⟩ := F61_eq ho
  have hsq := other_sq hB hr hB' hr'
  obtain ⟨sx, sy, _, _⟩ := small_of ho hB'.sa
  have h25' : F25 (c + u * (a + t * c)) (d + u * (b + t * d)) (a + t * c) (b + t * d) = some ((i * a + j * c) * (i * a + j * c) + (i * b + j * d) * (i * b + j * d), 0) := by
    unfold F25
    simp only [F20_good ho, h61', Option.bind_eq_bind, Option.bind_some, bne_self_eq_false, Bool.false_eq_true, if_false]
    rw [F63_eq sx sy, hsq]
    rfl
  simp only [h25', Option.bind_some, beq_self_eq_true, if_true, F22]
end Go.Proofs.Ytenjelagfbceeaa.magnetReduced
