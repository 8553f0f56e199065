/- What the functions under Best and All compute, in plain Lean: numbers, kits, bundles. -/
import Derived.Test.YtenjelagfbceeaaGB
set_option linter.unusedVariables false
set_option linter.unusedSimpArgs false
set_option maxHeartbeats 4000000
namespace Go.Proofs.Ytenjelagfbceeaa
open Go Go.Cl
theorem F84l0_fix (p0 : (List (Int × Int))) (v7 : Int) : F84l0 p0 v7 = (
    if decide (v7 < (List.length p0 : Int)) then
      if (0 : Int) ≤ v7 ∧ v7 < (List.length p0 : Int) then
        some (List.getD p0 (Int.toNat v7) (0, 0)) >>= fun o17 =>
        F76 o17.1 o17.2 >>= fun r19 =>
        if r19 then
          some (.inl v7)
        else
          F84l0 p0 (w64 (v7 + 1))
      else none
    else
      some (.inr ())
    : Option (Int ⊕ Unit)) := by
  delta F84l0
  conv => lhs; rw [Lean.Order.fix_eq]
theorem F61l0_fix  (z68 : (Int × Int × Int × Int × Int × Int × Int × Int)) : F61l0 z68 = (
    F72 z68.1 z68.2.1 z68.2.2.1 z68.2.2.2.1 >>= fun r51 =>
    F63 z68.1 z68.2.1 >>= fun r53 =>
    F63 z68.1 z68.2.1 >>= fun r55 =>
    F69 (w64 ((w64 (2 * r51)) + r53)) (w64 (2 * r55)) >>= fun r57 =>
    F53 z68.2.2.1 z68.2.2.2.1 (w64 (0 - r57)) z68.1 z68.2.1 >>= fun r59 =>
    F78 z68.2.2.2.2.2.2.1 z68.2.2.2.2.2.2.2 (w64 (0 - r57)) z68.2.2.2.2.1 z68.2.2.2.2.2.1 >>= fun r61 =>
    F63 z68.1 z68.2.1 >>= fun r63 =>
    F63 r59.1 r59.2 >>= fun r65 =>
    if decide (r63 ≤ r65) then
      some (z68.1, z68.2.1, r59.1, r59.2, z68.2.2.2.2.1, z68.2.2.2.2.2.1, r61.1, r61.2)
    else
      F61l0  (r59.1, r59.2, z68.1, z68.2.1, r61.1, r61.2, z68.2.2.2.2.1, z68.2.2.2.2.2.1)
    : Option (Int × Int × Int × Int × Int × Int × Int × Int)) := by
  delta F61l0
  conv => lhs; rw [Lean.Order.fix_eq]
theorem F84k1l0_fix (p0 : (List (Int × Int))) (p1 : Int) (p2 : Int) (v7 : Int) : F84k1l0 p0 p1 p2 v7 = (
    if decide (v7 < (List.length p0 : Int)) then
      if (0 : Int) ≤ v7 ∧ v7 < (List.length p0 : Int) then
        some (List.getD p0 (Int.toNat v7) (0, 0)) >>= fun o17 =>
        F81 o17.1 o17.2 p1 p2 >>= fun r19 =>
        if r19 then
          some (.inl v7)
        else
          F84k1l0 p0 p1 p2 (w64 (v7 + 1))
      else none
    else
      some (.inr ())
    : Option (Int ⊕ Unit)) := by
  delta F84k1l0
  conv => lhs; rw [Lean.Order.fix_eq]
theorem F66l1_fix (p0 : Int) (p1 : Int) (p2 : Int) (p3 : Int) (p4 : Int) (p5 : Int) (p6 : Int) (p7 : Int) (p12 : Int) (p13 : Int) (r5 : Int) (r9 : Int) (v158 : Int) (v356 : Int) (v357 : (List (Int × Int))) : F66l1 p0 p1 p2 p3 p4 p5 p6 p7 p12 p13 r5 r9 v158 v356 v357 = (
    if decide (v356 ≤ (w64 (r9 + 2))) then
      F53 p12 p13 v158 p0 p1 >>= fun r406 =>
      F53 r406.1 r406.2 v356 p2 p3 >>= fun r408 =>
      F80 p0 p1 p2 p3 p4 p5 p6 p7 >>= fun r410 =>
      F72 r408.1 r408.2 r410.1.1 r410.1.2 >>= fun r412 =>
      F63 r410.1.1 r410.1.2 >>= fun r414 =>
      if decide ((w64 (2 * r412)) > r414) then
        F66l1 p0 p1 p2 p3 p4 p5 p6 p7 p12 p13 r5 r9 v158 (w64 (v356 + 1)) v357
      else
        F72 r408.1 r408.2 r410.2.1.1 r410.2.1.2 >>= fun r417 =>
        F63 r410.2.1.1 r410.2.1.2 >>= fun r419 =>
        if decide ((w64 (2 * r417)) > r419) then
          F66l1 p0 p1 p2 p3 p4 p5 p6 p7 p12 p13 r5 r9 v158 (w64 (v356 + 1)) v357
        else
          F72 r408.1 r408.2 r410.2.2.1.1 r410.2.2.1.2 >>= fun r422 =>
          F63 r410.2.2.1.1 r410.2.2.1.2 >>= fun r424 =>
          if decide ((w64 (2 * r422)) > r424) then
            F66l1 p0 p1 p2 p3 p4 p5 p6 p7 p12 p13 r5 r9 v158 (w64 (v356 + 1)) v357
          else
            F72 r408.1 r408.2 r410.2.2.2.1.1 r410.2.2.2.1.2 >>= fun r427 =>
            F63 r410.2.2.2.1.1 r410.2.2.2.1.2 >>= fun r429 =>
            if decide ((w64 (2 * r427)) > r429) then
              F66l1 p0 p1 p2 p3 p4 p5 p6 p7 p12 p13 r5 r9 v158 (w64 (v356 + 1)) v357
            else
              F72 r408.1 r408.2 r410.2.2.2.2.1.1 r410.2.2.2.2.1.2 >>= fun r432 =>
              F63 r410.2.2.2.2.1.1 r410.2.2.2.2.1.2 >>= fun r434 =>
              if decide ((w64 (2 * r432)) > r434) then
                F66l1 p0 p1 p2 p3 p4 p5 p6 p7 p12 p13 r5 r9 v158 (w64 (v356 + 1)) v357
              else
                F72 r408.1 r408.2 r410.2.2.2.2.2.1 r410.2.2.2.2.2.2 >>= fun r437 =>
                F63 r410.2.2.2.2.2.1 r410.2.2.2.2.2.2 >>= fun r439 =>
                if decide ((w64 (2 * r437)) > r439) then
                  F66l1 p0 p1 p2 p3 p4 p5 p6 p7 p12 p13 r5 r9 v158 (w64 (v356 + 1)) v357
                else
                  F78 0 0 v158 p4 p5 >>= fun r442 =>
                  F78 r442.1 r442.2 v356 p6 p7 >>= fun r444 =>
                  F75k1 v357 r444.1 r444.2 >>= fun r446 =>
                  (
                    if r446 then
                      some (false)
                    else
                      some (true)
                  : Option Bool) >>= fun m448 =>
                  (
                    if m448 then
                      if List.length v357 ≤ 1000000000 then
                        some (v357 ++ [(r444.1, r444.2)])
                      else none
                    else
                      some v357
                  : Option (List (Int × Int))) >>= fun m451 =>
                  F66l1 p0 p1 p2 p3 p4 p5 p6 p7 p12 p13 r5 r9 v158 (w64 (v356 + 1)) m451
    else
      some v357
    : Option (List (Int × Int))) := by
  delta F66l1
  conv => lhs; rw [Lean.Order.fix_eq]
theorem F66l0_fix (p0 : Int) (p1 : Int) (p2 : Int) (p3 : Int) (p4 : Int) (p5 : Int) (p6 : Int) (p7 : Int) (p12 : Int) (p13 : Int) (r5 : Int) (r9 : Int) (v159 : (List (Int × Int))) (v158 : Int) : F66l0 p0 p1 p2 p3 p4 p5 p6 p7 p12 p13 r5 r9 v159 v158 = (
    if decide (v158 ≤ (w64 (r5 + 2))) then
      F66l1 p0 p1 p2 p3 p4 p5 p6 p7 p12 p13 r5 r9 v158 (w64 (r9 - 1)) v159 >>= fun r455 =>
      F66l0 p0 p1 p2 p3 p4 p5 p6 p7 p12 p13 r5 r9 r455 (w64 (v158 + 1))
    else
      some v159
    : Option (List (Int × Int))) := by
  delta F66l0
  conv => lhs; rw [Lean.Order.fix_eq]
theorem F87l0_fix (p0 : (List Int)) (v6 : Int) : F87l0 p0 v6 = (
    if decide (v6 < (List.length p0 : Int)) then
      if (0 : Int) ≤ v6 ∧ v6 < (List.length p0 : Int) then
        some (List.getD p0 (Int.toNat v6) 0) >>= fun o15 =>
        if o15 != 0 then
          some (.inl o15)
        else
          F87l0 p0 (w64 (v6 + 1))
      else none
    else
      some (.inr ())
    : Option (Int ⊕ Unit)) := by
  delta F87l0
  conv => lhs; rw [Lean.Order.fix_eq]
theorem F89l1_fix (p1 : Int) (p2 : Int) (v58 : Int) (v136 : Int) (v137 : (List (Int × Int))) : F89l1 p1 p2 v58 v136 v137 = (
    (
      if decide (v136 > p1) then
        if (0 : Int) ≤ v136 ∧ v136 < (List.length v137 : Int) then
          some (List.getD v137 (Int.toNat v136) (0, 0)) >>= fun o158 =>
          if (0 : Int) ≤ w64 (v136 - 1) ∧ w64 (v136 - 1) < (List.length v137 : Int) then
            some (List.getD v137 (Int.toNat (w64 (v136 - 1))) (0, 0)) >>= fun o161 =>
            F83 o158.1 o158.2 o161.1 o161.2 >>= fun r163 =>
            some (decide (r163 < 0))
          else none
        else none
      else
        some (false)
    : Option Bool) >>= fun m165 =>
    if m165 then
      if (0 : Int) ≤ w64 (v136 - 1) ∧ w64 (v136 - 1) < (List.length v137 : Int) then
        some (List.getD v137 (Int.toNat (w64 (v136 - 1))) (0, 0)) >>= fun o167 =>
        if (0 : Int) ≤ v136 ∧ v136 < (List.length v137 : Int) then
          some (List.getD v137 (Int.toNat v136) (0, 0)) >>= fun o170 =>
          F89l1 p1 p2 v58 (w64 (v136 - 1)) (List.set (List.set v137 (Int.toNat v136) (o167.1, o167.2)) (Int.toNat (w64 (v136 - 1))) (o170.1, o170.2))
        else none
      else none
    else
      some v137
    : Option (List (Int × Int))) := by
  delta F89l1
  conv => lhs; rw [Lean.Order.fix_eq]
theorem F89l0_fix (p1 : Int) (p2 : Int) (v58 : Int) (v59 : (List (Int × Int))) : F89l0 p1 p2 v58 v59 = (
    if decide (v58 < p2) then
      F89l1 p1 p2 v58 v58 v59 >>= fun r173 =>
      F89l0 p1 p2 (w64 (v58 + 1)) r173
    else
      some v59
    : Option (List (Int × Int))) := by
  delta F89l0
  conv => lhs; rw [Lean.Order.fix_eq]
/- The plain law of MagnetWithins: what the functions compute, in plain Lean. -/
theorem w64_id {x : Int} (h1 : -9223372036854775808 ≤ x) (h2 : x ≤ 9223372036854775807) : w64 x = x := by
  simp [w64, IntKind.wrap, IntKind.signed, IntKind.bits]
  omega
theorem F68_eq (a b c : Int) : F68 a b c = some (decide (a ≤ b ∧ b ≤ c)) := by
  unfold F68
  by_cases h : a ≤ b <;> simp [h]
/-- Both lie within m. -/
def inb (m a b : Int) : Bool := decide ((-m ≤ a ∧ a ≤ m) ∧ (-m ≤ b ∧ b ≤ m))
theorem inb_of {m a b : Int} (h : inb m a b = true) : (-m ≤ a ∧ a ≤ m) ∧ (-m ≤ b ∧ b ≤ m) := of_decide_eq_true h
theorem F58_eq (a b m : Int) (h : 0 ≤ m) (hm : m ≤ 1000000) : F58 a b m = some (inb m a b) := by
  unfold inb
  unfold F58
  rw [w64_id (x := 0 - m) (by omega) (by omega), F68_eq, F68_eq]
  by_cases h1 : (0 - m ≤ a ∧ a ≤ m)
  · have : (-m ≤ a ∧ a ≤ m) := by omega
    simp [h1, this]
  · have : ¬ (-m ≤ a ∧ a ≤ m) := by omega
    simp [h1, this]
theorem mul_le {a b m n : Int} (ha : -m ≤ a ∧ a ≤ m) (hb : -n ≤ b ∧ b ≤ n) (hm : 0 ≤ m) (hn : 0 ≤ n) : -(m * n) ≤ a * b ∧ a * b ≤ m * n := by
  have h1 : a.natAbs ≤ m.natAbs := by omega
  have h2 : b.natAbs ≤ n.natAbs := by omega
  have h3 := Nat.mul_le_mul h1 h2
  rw [← Int.natAbs_mul, ← Int.natAbs_mul] at h3
  have h4 : 0 ≤ m * n := Int.mul_nonneg hm hn
  omega
theorem F20_eq (a b c d : Int) : F20 a b c d = some (if inb 1000 a b && inb 1000 c d then if a * d - b * c = 0 then 15 else 0 else 1) := by
  unfold F20 F59
  rw [F58_eq _ _ _ (by omega) (by omega), F58_eq _ _ _ (by omega) (by omega)]
  cases h1 : inb 1000 a b
  · simp
  · cases h2 : inb 1000 c d
    · simp
    · have h1 := inb_of h1
      have h2 := inb_of h2
      have h3 := mul_le (a := a) (b := d) (m := 1000) (n := 1000) (by omega) (by omega) (by omega) (by omega)
      have h4 := mul_le (a := b) (b := c) (m := 1000) (n := 1000) (by omega) (by omega) (by omega) (by omega)
      rw [w64_id (x := a * d) (by omega) (by omega), w64_id (x := b * c) (by omega) (by omega), w64_id (x := a * d - b * c) (by omega) (by omega)]
      by_cases h : a * d - b * c = 0 <;> simp [h]
theorem sq_bd {a m : Int} (hm : 0 ≤ m) (h : a * a ≤ m * m) : -m ≤ a ∧ a ≤ m := by
  constructor
  · apply Classical.byContradiction
    intro hc
    have h1 : m + 1 ≤ -a := by omega
    have h2 := Int.mul_le_mul h1 h1 (by omega) (by omega)
    have h3 : -a * -a = a * a := by grind
    have h4 : (m + 1) * (m + 1) = m * m + 2 * m + 1 := by grind
    omega
  · apply Classical.byContradiction
    intro hc
    have h1 : m + 1 ≤ a := by omega
    have h2 := Int.mul_le_mul h1 h1 (by omega) (by omega)
    have h4 : (m + 1) * (m + 1) = m * m + 2 * m + 1 := by grind
    omega
theorem sq_nn (a : Int) : 0 ≤ a * a := by
  cases Int.le_total 0 a with
  | inl h => exact Int.mul_nonneg h h
  | inr h => exact Int.mul_nonneg_of_nonpos_of_nonpos h h
/-- The remainder, brought up to nothing or more. -/
theorem tmod_up {n d : Int} (hd : 0 < d) : (Int.tmod n d + d).tmod d = n % d := by
  have h1 : 0 ≤ Int.tmod n d + d := by
    rw [Int.tmod_eq_emod]
    have := Int.emod_nonneg n (b := d) (by omega)
    split <;> omega
  rw [Int.tmod_eq_emod_of_nonneg h1, Int.add_emod_right]
  have h2 : Int.tmod n d = n - d * Int.tdiv n d := by
    have := Int.mul_tdiv_add_tmod n d
    omega
  rw [h2, Int.sub_mul_emod_self_left]
theorem F69_eq {n d : Int} (hd : 0 < d) (hd2 : d ≤ 1000000000000) (hn : -1000000000000 ≤ n ∧ n ≤ 1000000000000) : F69 n d = some (n / d) := by
  unfold F69
  have h1 : ¬ d < 0 := by omega
  have h2 : ¬ d = 0 := by omega
  have ht : -d < Int.tmod n d ∧ Int.tmod n d < d := ⟨Int.lt_tmod_of_pos n hd, Int.tmod_lt_of_pos n hd⟩
  simp only [h1, h2, decide_false, Bool.false_eq_true, if_false, Option.bind_eq_bind, Option.bind_some]
  rw [w64_id (x := Int.tmod n d + d) (by omega) (by omega), tmod_up hd]
  have h3 := Int.emod_nonneg n (b := d) (by omega)
  have h4 := Int.emod_lt_of_pos n hd
  have h5 := Int.mul_ediv_add_emod n d
  rw [w64_id (x := n - n % d) (by omega) (by omega)]
  have h6 : n - n % d = d * (n / d) := by omega
  rw [h6, Int.mul_tdiv_cancel_left _ h2]
  have h7 : -1000000000001 ≤ n / d := by
    rw [Int.le_ediv_iff_mul_le hd]
    have : -1000000000001 * d ≤ -1000000000001 * 1 := Int.mul_le_mul_of_nonpos_left (by omega) (by omega)
    omega
  have h8 : n / d ≤ 1000000000001 := by
    have : n / d < 1000000000001 := by
      rw [Int.ediv_lt_iff_lt_mul hd]
      have : 1000000000001 * 1 ≤ 1000000000001 * d := Int.mul_le_mul_of_nonneg_left (by omega) (by omega)
      omega
    omega
  rw [w64_id (by omega) (by omega)]
/-- a kit within the bounds, not flat -/
structure Kit4 (p0 p1 p2 p3 : Int) : Prop where
  b0 : -1000 ≤ p0 ∧ p0 ≤ 1000
  b1 : -1000 ≤ p1 ∧ p1 ≤ 1000
  b2 : -1000 ≤ p2 ∧ p2 ≤ 1000
  b3 : -1000 ≤ p3 ∧ p3 ≤ 1000
  nf : p0 * p3 - p1 * p2 ≠ 0
/-- What (i, j) and (k, l) pull; they are complete; the pulls are (x, y) and (u, v) and not long. -/
structure Bun (p0 p1 p2 p3 i j k l : Int) : Prop where
  det : i * l - j * k = 1 ∨ i * l - j * k = -1
  sa : (i * p0 + j * p2) * (i * p0 + j * p2) + (i * p1 + j * p3) * (i * p1 + j * p3) ≤ 2000000
  sb : (k * p0 + l * p2) * (k * p0 + l * p2) + (k * p1 + l * p3) * (k * p1 + l * p3) ≤ 2000000
/-- A choice whose pull is short is small. -/
theorem small_of {p0 p1 p2 p3 i j : Int} (h : Kit4 p0 p1 p2 p3) (hs : (i * p0 + j * p2) * (i * p0 + j * p2) + (i * p1 + j * p3) * (i * p1 + j * p3) ≤ 2000000) :
    (-1500 ≤ i * p0 + j * p2 ∧ i * p0 + j * p2 ≤ 1500) ∧ (-1500 ≤ i * p1 + j * p3 ∧ i * p1 + j * p3 ≤ 1500) ∧ (-3000000 ≤ i ∧ i ≤ 3000000) ∧ (-3000000 ≤ j ∧ j ≤ 3000000) := by
  have e1 : i * (p0 * p3 - p1 * p2) = (i * p0 + j * p2) * p3 - (i * p1 + j * p3) * p2 := by grind
  have e2 : j * (p0 * p3 - p1 * p2) = (i * p1 + j * p3) * p0 - (i * p0 + j * p2) * p1 := by grind
  generalize i * p0 + j * p2 = x at *
  generalize i * p1 + j * p3 = y at *
  have nx := sq_nn x
  have ny := sq_nn y
  have hx := sq_bd (a := x) (m := 1500) (by omega) (by omega)
  have hy := sq_bd (a := y) (m := 1500) (by omega) (by omega)
  have a1 := mul_le (a := x) (b := p3) (m := 1500) (n := 1000) hx h.b3 (by omega) (by omega)
  have a2 := mul_le (a := y) (b := p2) (m := 1500) (n := 1000) hy h.b2 (by omega) (by omega)
  have a3 := mul_le (a := y) (b := p0) (m := 1500) (n := 1000) hy h.b0 (by omega) (by omega)
  have a4 := mul_le (a := x) (b := p1) (m := 1500) (n := 1000) hx h.b1 (by omega) (by omega)
  have nf := h.nf
  generalize p0 * p3 - p1 * p2 = d at *
  have key : ∀ q : Int, (-3000000 ≤ q * d ∧ q * d ≤ 3000000) → -3000000 ≤ q ∧ q ≤ 3000000 := by
    intro q hq
    have h1 : q.natAbs * d.natAbs ≤ 3000000 := by rw [← Int.natAbs_mul]; omega
    have h2 : q.natAbs * 1 ≤ q.natAbs * d.natAbs := Nat.mul_le_mul_left _ (by omega)
    omega
  refine ⟨hx, hy, key i (by omega), key j (by omega)⟩
/-- The pull of a complete choice is not nothing. -/
theorem pos_of {p0 p1 p2 p3 i j k l : Int} (h : Kit4 p0 p1 p2 p3) (hd : i * l - j * k = 1 ∨ i * l - j * k = -1) :
    0 < (i * p0 + j * p2) * (i * p0 + j * p2) + (i * p1 + j * p3) * (i * p1 + j * p3) := by
  have e : (i * p0 + j * p2) * (k * p1 + l * p3) - (i * p1 + j * p3) * (k * p0 + l * p2) = (i * l - j * k) * (p0 * p3 - p1 * p2) := by grind
  have nf := h.nf
  generalize i * p0 + j * p2 = x at *
  generalize i * p1 + j * p3 = y at *
  have nx := sq_nn x
  have ny := sq_nn y
  apply Classical.byContradiction
  intro hc
  have hx := sq_bd (a := x) (m := 0) (by omega) (by omega)
  have hy := sq_bd (a := y) (m := 0) (by omega) (by omega)
  have hx : x = 0 := by omega
  have hy : y = 0 := by omega
  subst hx; subst hy
  rcases hd with hd | hd <;> rw [hd] at e <;> omega
/-- The nearest multiple, taken away. -/
theorem near_of {s t n : Int} (hs : 0 < s) (hn : n = (2 * t + s) / (2 * s)) : -s ≤ 2 * (t - n * s) ∧ 2 * (t - n * s) < s ∧ 0 ≤ n * (2 * t - n * s) := by
  have h1 := Int.ediv_mul_le (2 * t + s) (b := 2 * s) (by omega)
  have h2 := Int.lt_ediv_add_one_mul_self (2 * t + s) (b := 2 * s) (by omega)
  rw [← hn] at h1 h2
  have e1 : n * (2 * s) = 2 * (n * s) := by grind
  have e2 : (n + 1) * (2 * s) = 2 * (n * s) + 2 * s := by grind
  refine ⟨by omega, by omega, ?_⟩
  by_cases h0 : 1 ≤ n
  · have : 0 ≤ 2 * t - n * s := by
      have : 1 * s ≤ n * s := Int.mul_le_mul_of_nonneg_right h0 (by omega)
      omega
    exact Int.mul_nonneg (by omega) this
  · by_cases h1 : n = 0
    · subst h1; omega
    · have : 2 * t - n * s ≤ 0 := by
        have : n * s ≤ -1 * s := Int.mul_le_mul_of_nonneg_right (by omega) (by omega)
        omega
      exact Int.mul_nonneg_of_nonpos_of_nonpos (by omega) this
/-- One step of the reduction: what is left is no longer than before. -/
theorem step_of {x y u v n : Int} (hs : 0 < x * x + y * y) (hn : n = (2 * (x * u + y * v) + (x * x + y * y)) / (2 * (x * x + y * y))) :
    (u - n * x) * (u - n * x) + (v - n * y) * (v - n * y) ≤ u * u + v * v ∧ -(x * x + y * y) ≤ 2 * (x * (u - n * x) + y * (v - n * y)) ∧ 2 * (x * (u - n * x) + y * (v - n * y)) < x * x + y * y := by
  obtain ⟨h1, h2, h3⟩ := near_of hs hn
  have e1 : (u - n * x) * (u - n * x) + (v - n * y) * (v - n * y) = u * u + v * v - n * (2 * (x * u + y * v) - n * (x * x + y * y)) := by grind
  have e2 : x * (u - n * x) + y * (v - n * y) = (x * u + y * v) - n * (x * x + y * y) := by grind
  rw [e1, e2]
  omega
/-- The numbers of a step are not great. -/
theorem n_bd {s t n : Int} (hs : 0 < s) (hs2 : s ≤ 10000000) (ht : -10000000 ≤ t ∧ t ≤ 10000000) (hn : n = (2 * t + s) / (2 * s)) : -40000000 ≤ n ∧ n ≤ 40000000 := by
  constructor
  · rw [hn, Int.le_ediv_iff_mul_le (by omega)]
    have : -40000000 * (2 * s) ≤ -40000000 * 2 := Int.mul_le_mul_of_nonpos_left (by omega) (by omega)
    omega
  · have : n < 40000001 := by
      rw [hn, Int.ediv_lt_iff_lt_mul (by omega)]
      have : 40000001 * 2 ≤ 40000001 * (2 * s) := Int.mul_le_mul_of_nonneg_left (by omega) (by omega)
      omega
    omega
theorem F72_eq {a b c d : Int} (ha : -1500 ≤ a ∧ a ≤ 1500) (hb : -1500 ≤ b ∧ b ≤ 1500) (hc : -1500 ≤ c ∧ c ≤ 1500) (hd : -1500 ≤ d ∧ d ≤ 1500) : F72 a b c d = some (a * c + b * d) := by
  have h1 := mul_le (m := 1500) (n := 1500) ha hc (by omega) (by omega)
  have h2 := mul_le (m := 1500) (n := 1500) hb hd (by omega) (by omega)
  unfold F72
  rw [w64_id (x := a * c) (by omega) (by omega), w64_id (x := b * d) (by omega) (by omega), w64_id (by omega) (by omega)]
theorem F63_eq {a b : Int} (ha : -1500 ≤ a ∧ a ≤ 1500) (hb : -1500 ≤ b ∧ b ≤ 1500) : F63 a b = some (a * a + b * b) := by
  unfold F63
  rw [F72_eq ha hb ha hb]
  rfl
theorem F53_eq {u v n x y : Int} (hu : -3000000 ≤ u ∧ u ≤ 3000000) (hv : -3000000 ≤ v ∧ v ≤ 3000000) (hn : -40000000 ≤ n ∧ n ≤ 40000000) (hx : -3000000 ≤ x ∧ x ≤ 3000000) (hy : -3000000 ≤ y ∧ y ≤ 3000000) :
    F53 u v n x y = some (u + n * x, v + n * y) := by
  have h1 := mul_le (m := 40000000) (n := 3000000) hn hx (by omega) (by omega)
  have h2 := mul_le (m := 40000000) (n := 3000000) hn hy (by omega) (by omega)
  unfold F53
  rw [w64_id (x := n * x) (by omega) (by omega), w64_id (x := n * y) (by omega) (by omega), w64_id (x := u + n * x) (by omega) (by omega), w64_id (x := v + n * y) (by omega) (by omega)]
theorem F78_eq {u v n x y : Int} (hu : -3000000 ≤ u ∧ u ≤ 3000000) (hv : -3000000 ≤ v ∧ v ≤ 3000000) (hn : -40000000 ≤ n ∧ n ≤ 40000000) (hx : -3000000 ≤ x ∧ x ≤ 3000000) (hy : -3000000 ≤ y ∧ y ≤ 3000000) :
    F78 u v n x y = some (u + n * x, v + n * y) := F53_eq hu hv hn hx hy
/-- Reduced, as the chapter says it. -/
def red (x y u v : Int) : Prop := x * x + y * y ≤ u * u + v * v ∧ -(x * x + y * y) ≤ 2 * (x * u + y * v) ∧ 2 * (x * u + y * v) ≤ x * x + y * y
instance (x y u v : Int) : Decidable (red x y u v) := by unfold red; infer_instance
/-- The program's loop: it ends, and what it ends with is reduced. -/
theorem loop61 {p0 p1 p2 p3 : Int} (h : Kit4 p0 p1 p2 p3) : ∀ (m : Nat) (i j k l : Int), Bun p0 p1 p2 p3 i j k l →
    (i * p0 + j * p2) * (i * p0 + j * p2) + (i * p1 + j * p3) * (i * p1 + j * p3) < m →
    ∃ i' j' k' l', F61l0 (i * p0 + j * p2, i * p1 + j * p3, k * p0 + l * p2, k * p1 + l * p3, i, j, k, l) = some (i' * p0 + j' * p2, i' * p1 + j' * p3, k' * p0 + l' * p2, k' * p1 + l' * p3, i', j', k', l') ∧
      Bun p0 p1 p2 p3 i' j' k' l' ∧ red (i' * p0 + j' * p2) (i' * p1 + j' * p3) (k' * p0 + l' * p2) (k' * p1 + l' * p3) := by
  intro m
  induction m with
  | zero =>
    intro i j k l hB hm
    have := pos_of h hB.det
    omega
  | succ m ih =>
    intro i j k l hB hm
    obtain ⟨hx, hy, hi, hj⟩ := small_of h hB.sa
    obtain ⟨hu, hv, hk, hl⟩ := small_of h hB.sb
    have hp := pos_of h hB.det
    have hsa := hB.sa
    have hsb := hB.sb
    generalize hn : (2 * ((i * p0 + j * p2) * (k * p0 + l * p2) + (i * p1 + j * p3) * (k * p1 + l * p3)) + ((i * p0 + j * p2) * (i * p0 + j * p2) + (i * p1 + j * p3) * (i * p1 + j * p3))) / (2 * ((i * p0 + j * p2) * (i * p0 + j * p2) + (i * p1 + j * p3) * (i * p1 + j * p3))) = n
    have hst := step_of hp hn.symm
    have t1 := mul_le (m := 1500) (n := 1500) hx hu (by omega) (by omega)
    have t2 := mul_le (m := 1500) (n := 1500) hy hv (by omega) (by omega)
    have hnb := n_bd hp (by omega) (by omega) hn.symm
    have ek : k * p0 + l * p2 - n * (i * p0 + j * p2) = (k - n * i) * p0 + (l - n * j) * p2 := by grind
    have el : k * p1 + l * p3 - n * (i * p1 + j * p3) = (k - n * i) * p1 + (l - n * j) * p3 := by grind
    rw [ek, el] at hst
    have ed : i * (l - n * j) - j * (k - n * i) = i * l - j * k := by grind
    have hB' : Bun p0 p1 p2 p3 i j (k - n * i) (l - n * j) := ⟨by rw [ed]; exact hB.det, hsa, by omega⟩
    obtain ⟨hu', hv', hk', hl'⟩ := small_of h hB'.sb
    rw [F61l0_fix]
    simp only [Option.bind_eq_bind]
    rw [F72_eq hx hy hu hv, Option.bind_some, F63_eq hx hy, Option.bind_some, Option.bind_some]
    generalize hs : (i * p0 + j * p2) * (i * p0 + j * p2) + (i * p1 + j * p3) * (i * p1 + j * p3) = s at *
    generalize ht : (i * p0 + j * p2) * (k * p0 + l * p2) + (i * p1 + j * p3) * (k * p1 + l * p3) = t at *
    rw [w64_id (x := 2 * t) (by omega) (by omega), w64_id (x := 2 * t + s) (by omega) (by omega), w64_id (x := 2 * s) (by omega) (by omega), F69_eq (by omega) (by omega) (by omega), Option.bind_some, hn, w64_id (x := 0 - n) (by omega) (by omega)]
    rw [F53_eq (by omega) (by omega) (by omega) (by omega) (by omega), Option.bind_some, F78_eq hk hl (by omega) hi hj, Option.bind_some]
    have e1 : k * p0 + l * p2 + (0 - n) * (i * p0 + j * p2) = (k - n * i) * p0 + (l - n * j) * p2 := by grind
    have e2 : k * p1 + l * p3 + (0 - n) * (i * p1 + j * p3) = (k - n * i) * p1 + (l - n * j) * p3 := by grind
    have e3 : k + (0 - n) * i = k - n * i := by grind
    have e4 : l + (0 - n) * j = l - n * j := by grind
    simp only [e1, e2, e3, e4]
    rw [Option.bind_some, F63_eq hu' hv', Option.bind_some]
    split
    · rename_i hd
      have hd := of_decide_eq_true hd
      exact ⟨i, j, k - n * i, l - n * j, rfl, hB', by unfold red; rw [hs]; omega⟩
    · rename_i hd
      have hd : ¬ _ := fun h => hd (decide_eq_true h)
      have ed2 : (k - n * i) * j - (l - n * j) * i = -(i * (l - n * j) - j * (k - n * i)) := by grind
      have hB2 : Bun p0 p1 p2 p3 (k - n * i) (l - n * j) i j := ⟨by have := hB'.det; omega, hB'.sb, hB'.sa⟩
      exact ih _ _ _ _ hB2 (by omega)
/-- No combination of a reduced kit's pulls, but nothing, is shorter than its first one. -/
theorem red_min {x y u v : Int} (h : red x y u v) {m n : Int} (hmn : m ≠ 0 ∨ n ≠ 0) :
    x * x + y * y ≤ (m * x + n * u) * (m * x + n * u) + (m * y + n * v) * (m * y + n * v) := by
  obtain ⟨h1, h2, h3⟩ := h
  have e : (m * x + n * u) * (m * x + n * u) + (m * y + n * v) * (m * y + n * v) = m * m * (x * x + y * y) + m * n * (2 * (x * u + y * v)) + n * n * (u * u + v * v) := by grind
  rw [e]
  have hs : 0 ≤ x * x + y * y := by have := sq_nn x; have := sq_nn y; omega
  generalize x * x + y * y = s at *
  generalize 2 * (x * u + y * v) = t at *
  generalize u * u + v * v = r at *
  have hr : n * n * s ≤ n * n * r := Int.mul_le_mul_of_nonneg_left h1 (sq_nn n)
  have key : ∀ q : Int, 1 ≤ q → s ≤ q * s := fun q hq => by
    have := Int.mul_le_mul_of_nonneg_right hq hs
    omega
  have pos : ∀ m n : Int, (m ≠ 0 ∨ n ≠ 0) → 1 ≤ m * m - m * n + n * n := fun m n hmn => by
    have e4 : 4 * (m * m - m * n + n * n) = (2 * m - n) * (2 * m - n) + 3 * (n * n) := by grind
    have p1 := sq_nn (2 * m - n)
    by_cases hn : n = 0
    · subst hn
      have hm : m ≠ 0 := by omega
      have : m * m ≠ 0 := Int.mul_ne_zero hm hm
      have := sq_nn m
      simp only [Int.mul_zero, Int.sub_zero, Int.add_zero]
      omega
    · have h1 : n * n ≠ 0 := Int.mul_ne_zero hn hn
      have h2 := sq_nn n
      omega
  rcases Int.le_total 0 (m * n) with hp | hp
  · have a1 : m * n * (-s) ≤ m * n * t := Int.mul_le_mul_of_nonneg_left (by omega) hp
    have a2 := key _ (pos m n hmn)
    have e2 : (m * m - m * n + n * n) * s = m * m * s + m * n * (-s) + n * n * s := by grind
    omega
  · have a1 : m * n * s ≤ m * n * t := Int.mul_le_mul_of_nonpos_left hp (by omega)
    have a2 := key _ (pos m (-n) (by omega))
    have e2 : (m * m - m * (-n) + (-n) * (-n)) * s = m * m * s + m * n * s + n * n * s := by grind
    omega
/-- The first pull of a reduced complete kit is no longer than any pull but nothing. -/
theorem red_le {p0 p1 p2 p3 i j k l i' j' : Int} (hd : i * l - j * k = 1 ∨ i * l - j * k = -1)
    (hr : red (i * p0 + j * p2) (i * p1 + j * p3) (k * p0 + l * p2) (k * p1 + l * p3)) (h0 : i' ≠ 0 ∨ j' ≠ 0) :
    (i * p0 + j * p2) * (i * p0 + j * p2) + (i * p1 + j * p3) * (i * p1 + j * p3) ≤ (i' * p0 + j' * p2) * (i' * p0 + j' * p2) + (i' * p1 + j' * p3) * (i' * p1 + j' * p3) := by
  generalize hD : i * l - j * k = D at hd
  have hDD : D * D = 1 := by rcases hd with h | h <;> subst h <;> rfl
  have hm : D * (i' * l - j' * k) ≠ 0 ∨ D * (i * j' - j * i') ≠ 0 := by
    apply Classical.byContradiction
    intro hc
    have hc1 : D * (i' * l - j' * k) = 0 := by omega
    have hc2 : D * (i * j' - j * i') = 0 := by omega
    have q1 : D * (D * (i' * l - j' * k)) = i' * l - j' * k := by rw [← Int.mul_assoc, hDD, Int.one_mul]
    have q2 : D * (D * (i * j' - j * i')) = i * j' - j * i' := by rw [← Int.mul_assoc, hDD, Int.one_mul]
    rw [hc1] at q1; rw [hc2] at q2
    have r1 : i' * (i * l - j * k) = i * (i' * l - j' * k) + k * (i * j' - j * i') := by grind
    have r2 : j' * (i * l - j * k) = j * (i' * l - j' * k) + l * (i * j' - j * i') := by grind
    rw [← q1, ← q2, hD] at r1 r2
    simp only [Int.mul_zero, Int.add_zero] at r1 r2
    rcases hd with h | h <;> subst h <;> omega
  have e1 : (D * (i' * l - j' * k)) * (i * p0 + j * p2) + (D * (i * j' - j * i')) * (k * p0 + l * p2) = i' * p0 + j' * p2 := by
    have : (D * (i' * l - j' * k)) * (i * p0 + j * p2) + (D * (i * j' - j * i')) * (k * p0 + l * p2) = D * (i * l - j * k) * (i' * p0 + j' * p2) := by grind
    rw [this, hD, hDD, Int.one_mul]
  have e2 : (D * (i' * l - j' * k)) * (i * p1 + j * p3) + (D * (i * j' - j * i')) * (k * p1 + l * p3) = i' * p1 + j' * p3 := by
    have : (D * (i' * l - j' * k)) * (i * p1 + j * p3) + (D * (i * j' - j * i')) * (k * p1 + l * p3) = D * (i * l - j * k) * (i' * p1 + j' * p3) := by grind
    rw [this, hD, hDD, Int.one_mul]
  have := red_min hr hm
  rw [e1, e2] at this
  exact this
theorem ne0_of_det {i j k l : Int} (hd : i * l - j * k = 1 ∨ i * l - j * k = -1) : i ≠ 0 ∨ j ≠ 0 := by
  apply Classical.byContradiction
  intro hc
  have h1 : i = 0 := by omega
  have h2 : j = 0 := by omega
  subst h1; subst h2
  simp at hd
theorem mx_le {a b c : Int} : mx a b ≤ c ↔ a ≤ c ∧ b ≤ c := by
  unfold mx
  split <;> omega
/-- The step makes the second pull shorter, where the kit was not reduced. -/
theorem near_pos {s t n : Int} (hs : 0 < s) (hn : n = (2 * t + s) / (2 * s)) (h : 2 * t > s ∨ 2 * t < -s) : 0 < n * (2 * t - n * s) := by
  obtain ⟨h1, h2, h3⟩ := near_of hs hn
  have hz : n * (2 * t - n * s) ≠ 0 := by
    refine Int.mul_ne_zero ?_ ?_
    · intro h0
      rw [h0] at h1 h2
      omega
    · omega
  omega
theorem step_lt {x y u v n : Int} (hs : 0 < x * x + y * y) (hn : n = (2 * (x * u + y * v) + (x * x + y * y)) / (2 * (x * x + y * y))) (h : 2 * (x * u + y * v) > x * x + y * y ∨ 2 * (x * u + y * v) < -(x * x + y * y)) :
    (u - n * x) * (u - n * x) + (v - n * y) * (v - n * y) < u * u + v * v := by
  have h3 := near_pos hs hn h
  have e1 : (u - n * x) * (u - n * x) + (v - n * y) * (v - n * y) = u * u + v * v - n * (2 * (x * u + y * v) - n * (x * x + y * y)) := by grind
  rw [e1]
  omega
theorem bun0 {p0 p1 p2 p3 : Int} (h : Kit4 p0 p1 p2 p3) : Bun p0 p1 p2 p3 1 0 0 1 := by
  have h0 := mul_le (m := 1000) (n := 1000) h.b0 h.b0 (by omega) (by omega)
  have h1 := mul_le (m := 1000) (n := 1000) h.b1 h.b1 (by omega) (by omega)
  have h2 := mul_le (m := 1000) (n := 1000) h.b2 h.b2 (by omega) (by omega)
  have h3 := mul_le (m := 1000) (n := 1000) h.b3 h.b3 (by omega) (by omega)
  refine ⟨by omega, ?_, ?_⟩
  · simp only [Int.one_mul, Int.zero_mul, Int.add_zero]; omega
  · simp only [Int.one_mul, Int.zero_mul, Int.zero_add]; omega
theorem F61_eq {p0 p1 p2 p3 : Int} (h : Kit4 p0 p1 p2 p3) : ∃ i j k l, F61 p0 p1 p2 p3 = some (((i * p0 + j * p2, i * p1 + j * p3), (k * p0 + l * p2, k * p1 + l * p3)), (i, j), (k, l)) ∧
    Bun p0 p1 p2 p3 i j k l ∧ red (i * p0 + j * p2) (i * p1 + j * p3) (k * p0 + l * p2) (k * p1 + l * p3) := by
  obtain ⟨i, j, k, l, h1, h2, h3⟩ := loop61 h (((1 * p0 + 0 * p2) * (1 * p0 + 0 * p2) + (1 * p1 + 0 * p3) * (1 * p1 + 0 * p3)).toNat + 1) 1 0 0 1 (bun0 h) (by omega)
  refine ⟨i, j, k, l, ?_, h2, h3⟩
  simp only [Int.one_mul, Int.zero_mul, Int.add_zero, Int.zero_add] at h1
  unfold F61
  rw [h1]
  rfl
theorem F20_ok {a b c d : Int} (h : inb 1000 a b = true) (h2 : inb 1000 c d = true) (h3 : a * d - b * c ≠ 0) : Kit4 a b c d :=
  ⟨(inb_of h).1, (inb_of h).2, (inb_of h2).1, (inb_of h2).2, h3⟩
/-- The check says 0 of a kit as stated, and an error else. -/
theorem F20_cases (a b c d : Int) : (F20 a b c d = some 0 ∧ Kit4 a b c d) ∨ ∃ e, e ≠ 0 ∧ F20 a b c d = some e := by
  rw [F20_eq]
  cases h1 : inb 1000 a b
  · exact .inr ⟨1, by omega, rfl⟩
  · cases h2 : inb 1000 c d
    · exact .inr ⟨1, by omega, rfl⟩
    · by_cases h3 : a * d - b * c = 0
      · exact .inr ⟨15, by omega, by simp [h3]⟩
      · exact .inl ⟨by simp [h3], F20_ok h1 h2 h3⟩
/-- The squares of a reduced kit against its area. -/
theorem area_of {x y u v : Int} (h : red x y u v) : 3 * (x * x + y * y) * (u * u + v * v) ≤ 4 * ((x * v - y * u) * (x * v - y * u)) := by
  obtain ⟨h1, h2, h3⟩ := h
  have e : (x * v - y * u) * (x * v - y * u) = (x * x + y * y) * (u * u + v * v) - (x * u + y * v) * (x * u + y * v) := by grind
  rw [e]
  have hs : 0 ≤ x * x + y * y := by have := sq_nn x; have := sq_nn y; omega
  generalize x * x + y * y = s at *
  generalize x * u + y * v = t at *
  generalize u * u + v * v = r at *
  have t4 : 4 * (t * t) ≤ s * s := by
    have := mul_le (a := 2 * t) (b := 2 * t) (m := s) (n := s) (by omega) (by omega) hs hs
    have e2 : 2 * t * (2 * t) = 4 * (t * t) := by grind
    omega
  have sr : s * s ≤ s * r := Int.mul_le_mul_of_nonneg_left h1 hs
  have e3 : 3 * s * r = 3 * (s * r) := by grind
  rw [e3]
  omega

/-! ### Counting -/
/-- So many pairs are such. -/
def Counts (S : Int × Int → Prop) (n : Nat) : Prop := ∃ l : List (Int × Int), l.Nodup ∧ (∀ c, c ∈ l ↔ S c) ∧ n = l.length
theorem len_le {α : Type} [DecidableEq α] : ∀ {l m : List α}, l.Nodup → (∀ x ∈ l, x ∈ m) → l.length ≤ m.length
  | [], m, _, _ => Nat.zero_le _
  | x :: l, m, hn, hs => by
    have hn' := List.nodup_cons.1 hn
    have hx := hs x (.head _)
    have := len_le (l := l) (m := m.erase x) hn'.2 fun y hy => (List.mem_erase_of_ne (fun (e : y = x) => hn'.1 (by rw [← e]; exact hy))).2 (hs y (.tail _ hy))
    rw [List.length_erase_of_mem hx] at this
    have h0 : 0 < m.length := List.length_pos_of_mem hx
    simp only [List.length_cons]
    omega
theorem Counts.unique {S : Int × Int → Prop} {n m : Nat} (h : Counts S n) (k : Counts S m) : n = m := by
  obtain ⟨l, h1, h2, h3⟩ := h
  obtain ⟨l', k1, k2, k3⟩ := k
  have a := len_le h1 fun x hx => (k2 x).2 ((h2 x).1 hx)
  have b := len_le k1 fun x hx => (h2 x).2 ((k2 x).1 hx)
  omega
theorem nodup_map {α γ : Type} {f : α → γ} (hf : ∀ x y, f x = f y → x = y) : ∀ {l : List α}, l.Nodup → (l.map f).Nodup
  | [], _ => List.nodup_nil
  | x :: l, h => by
    have h' := List.nodup_cons.1 h
    rw [List.map_cons, List.nodup_cons]
    refine ⟨fun hm => ?_, nodup_map hf h'.2⟩
    obtain ⟨y, hy, e⟩ := List.mem_map.1 hm
    exact h'.1 (hf _ _ e ▸ hy)
/-- By other numbers: (m, n) of one kit is (a m + c n, b m + d n) of the other one. -/
theorem Counts.map {S T : Int × Int → Prop} {n : Nat} {i j k l : Int} (hd : i * l - j * k = 1 ∨ i * l - j * k = -1) (hST : ∀ x y, T (x, y) ↔ S (x * i + y * k, x * j + y * l)) (h : Counts T n) : Counts S n := by
  obtain ⟨L, h1, h2, h3⟩ := h
  refine ⟨L.map fun p => (p.1 * i + p.2 * k, p.1 * j + p.2 * l), nodup_map ?_ h1, ?_, by simp [h3]⟩
  · rintro ⟨x, y⟩ ⟨x', y'⟩ he
    simp only [Prod.mk.injEq] at he
    obtain ⟨e1, e2⟩ := he
    have f1 : (i * l - j * k) * x = (x * i + y * k) * l - (x * j + y * l) * k := by grind
    have f2 : (i * l - j * k) * y = (x * j + y * l) * i - (x * i + y * k) * j := by grind
    have g1 : (i * l - j * k) * x' = (x' * i + y' * k) * l - (x' * j + y' * l) * k := by grind
    have g2 : (i * l - j * k) * y' = (x' * j + y' * l) * i - (x' * i + y' * k) * j := by grind
    rw [e1, e2, ← g1] at f1
    rw [e1, e2, ← g2] at f2
    rcases hd with hd | hd <;> rw [hd] at f1 f2 <;> ext <;> simp only <;> omega
  · rintro ⟨X, Y⟩
    rw [List.mem_map]
    constructor
    · rintro ⟨⟨x, y⟩, hm, he⟩
      have := (hST x y).1 ((h2 (x, y)).1 hm)
      simp only [Prod.mk.injEq] at he
      rw [he.1, he.2] at this
      exact this
    · intro hS
      generalize hD : i * l - j * k = D at hd
      have hDD : D * D = 1 := by rcases hd with h | h <;> subst h <;> rfl
      have e1 : D * (X * l - Y * k) * i + D * (Y * i - X * j) * k = X := by
        have : D * (X * l - Y * k) * i + D * (Y * i - X * j) * k = D * (i * l - j * k) * X := by grind
        rw [this, hD, hDD, Int.one_mul]
      have e2 : D * (X * l - Y * k) * j + D * (Y * i - X * j) * l = Y := by
        have : D * (X * l - Y * k) * j + D * (Y * i - X * j) * l = D * (i * l - j * k) * Y := by grind
        rw [this, hD, hDD, Int.one_mul]
      refine ⟨(D * (X * l - Y * k), D * (Y * i - X * j)), ?_, by simp only [e1, e2]⟩
      rw [h2, hST, e1, e2]
      exact hS
/-- n from a number on. -/
def seg (y i : Int) : Nat → List (Int × Int)
  | 0 => []
  | n + 1 => (i, y) :: seg y (i + 1) n
theorem seg_mem {y i : Int} {c : Int × Int} : ∀ {n : Nat}, c ∈ seg y i n ↔ c.2 = y ∧ i ≤ c.1 ∧ c.1 < i + n
  | 0 => by simp [seg]
  | n + 1 => by
    rw [seg, List.mem_cons, seg_mem]
    obtain ⟨a, b⟩ := c
    simp only [Prod.mk.injEq]
    omega
theorem seg_nodup {y i : Int} : ∀ {n : Nat}, (seg y i n).Nodup
  | 0 => List.nodup_nil
  | n + 1 => by
    rw [seg, List.nodup_cons]
    refine ⟨fun h => ?_, seg_nodup⟩
    have := seg_mem.1 h
    simp only at this
    omega
theorem seg_len {y i : Int} : ∀ {n : Nat}, (seg y i n).length = n
  | 0 => rfl
  | n + 1 => by rw [seg, List.length_cons, seg_len]
theorem Counts.zero {S : Int × Int → Prop} (h : ∀ c, ¬ S c) : Counts S 0 := ⟨[], List.nodup_nil, fun c => ⟨fun hc => (by cases hc), fun hc => absurd hc (h c)⟩, rfl⟩
theorem Counts.add {S T U : Int × Int → Prop} {n m : Nat} (h : Counts S n) (k : Counts T m) (hST : ∀ c, S c → T c → False) (hU : ∀ c, U c ↔ S c ∨ T c) : Counts U (n + m) := by
  obtain ⟨l, h1, h2, h3⟩ := h
  obtain ⟨l', k1, k2, k3⟩ := k
  refine ⟨l ++ l', ?_, fun c => ?_, by rw [List.length_append, h3, k3]⟩
  · rw [List.nodup_append]
    exact ⟨h1, k1, fun a ha b hb e => hST a ((h2 a).1 ha) ((k2 a).1 (e ▸ hb))⟩
  · rw [List.mem_append, h2, k2, hU]
theorem Counts.seg {y i : Int} {n : Nat} : Counts (fun c => c.2 = y ∧ i ≤ c.1 ∧ c.1 < i + n) n := ⟨Ytenjelagfbceeaa.seg y i n, seg_nodup, fun c => seg_mem, seg_len.symm⟩
theorem Counts.congr {S T : Int × Int → Prop} {n : Nat} (h : Counts S n) (hST : ∀ c, S c ↔ T c) : Counts T n := by
  obtain ⟨l, h1, h2, h3⟩ := h
  exact ⟨l, h1, fun c => (h2 c).trans (hST c), h3⟩
/-! ### Greater bounds -/
theorem F53_big {u v n x y : Int} (hu : -1000000000000000000 ≤ u ∧ u ≤ 1000000000000000000) (hv : -1000000000000000000 ≤ v ∧ v ≤ 1000000000000000000) (hn : -2000000000000000 ≤ n ∧ n ≤ 2000000000000000) (hx : -1500 ≤ x ∧ x ≤ 1500) (hy : -1500 ≤ y ∧ y ≤ 1500) :
    F53 u v n x y = some (u + n * x, v + n * y) := by
  have h1 := mul_le (m := 2000000000000000) (n := 1500) hn hx (by omega) (by omega)
  have h2 := mul_le (m := 2000000000000000) (n := 1500) hn hy (by omega) (by omega)
  unfold F53
  rw [w64_id (x := n * x) (by omega) (by omega), w64_id (x := n * y) (by omega) (by omega), w64_id (x := u + n * x) (by omega) (by omega), w64_id (x := v + n * y) (by omega) (by omega)]
theorem F72_big {a b c d : Int} (ha : -1000000000000 ≤ a ∧ a ≤ 1000000000000) (hb : -1000000000000 ≤ b ∧ b ≤ 1000000000000) (hc : -1500 ≤ c ∧ c ≤ 1500) (hd : -1500 ≤ d ∧ d ≤ 1500) : F72 a b c d = some (a * c + b * d) := by
  have h1 := mul_le (m := 1000000000000) (n := 1500) ha hc (by omega) (by omega)
  have h2 := mul_le (m := 1000000000000) (n := 1500) hb hd (by omega) (by omega)
  unfold F72
  rw [w64_id (x := a * c) (by omega) (by omega), w64_id (x := b * d) (by omega) (by omega), w64_id (by omega) (by omega)]
theorem F72_sq {a b : Int} (ha : -100000000 ≤ a ∧ a ≤ 100000000) (hb : -100000000 ≤ b ∧ b ≤ 100000000) : F72 a b a b = some (a * a + b * b) := by
  have h1 := mul_le (m := 100000000) (n := 100000000) ha ha (by omega) (by omega)
  have h2 := mul_le (m := 100000000) (n := 100000000) hb hb (by omega) (by omega)
  unfold F72
  rw [w64_id (x := a * a) (by omega) (by omega), w64_id (x := b * b) (by omega) (by omega), w64_id (by omega) (by omega)]
theorem F63_sq {a b : Int} (ha : -100000000 ≤ a ∧ a ≤ 100000000) (hb : -100000000 ≤ b ∧ b ≤ 100000000) : F63 a b = some (a * a + b * b) := by
  unfold F63
  rw [F72_sq ha hb]
  rfl
theorem F69_pos {n d : Int} (hd : 0 < d) (hd2 : d ≤ 1000000000000) (hn : -4000000000000000000 ≤ n ∧ n ≤ 4000000000000000000) : F69 n d = some (n / d) := by
  unfold F69
  have h1 : ¬ d < 0 := by omega
  have h2 : ¬ d = 0 := by omega
  have ht : -d < Int.tmod n d ∧ Int.tmod n d < d := ⟨Int.lt_tmod_of_pos n hd, Int.tmod_lt_of_pos n hd⟩
  simp only [h1, h2, decide_false, Bool.false_eq_true, if_false, Option.bind_eq_bind, Option.bind_some]
  rw [w64_id (x := Int.tmod n d + d) (by omega) (by omega), tmod_up hd]
  have h3 := Int.emod_nonneg n (b := d) (by omega)
  have h4 := Int.emod_lt_of_pos n hd
  have h5 := Int.mul_ediv_add_emod n d
  rw [w64_id (x := n - n % d) (by omega) (by omega)]
  have h6 : n - n % d = d * (n / d) := by omega
  rw [h6, Int.mul_tdiv_cancel_left _ h2]
  have h7 : -4000000000000000001 ≤ n / d := by
    rw [Int.le_ediv_iff_mul_le hd]
    have : -4000000000000000001 * d ≤ -4000000000000000001 * 1 := Int.mul_le_mul_of_nonpos_left (by omega) (by omega)
    omega
  have h8 : n / d ≤ 4000000000000000001 := by
    have : n / d < 4000000000000000001 := by
      rw [Int.ediv_lt_iff_lt_mul hd]
      have : 4000000000000000001 * 1 ≤ 4000000000000000001 * d := Int.mul_le_mul_of_nonneg_left (by omega) (by omega)
      omega
    omega
  rw [w64_id (by omega) (by omega)]
theorem div_spec {n d : Int} (hd : 0 < d) : (n / d) * d ≤ n ∧ n < (n / d + 1) * d := ⟨Int.ediv_mul_le n (by omega), Int.lt_ediv_add_one_mul_self n hd⟩
theorem div_bd {n d m : Int} (hd : 0 < d) (hm : 0 ≤ m) (h : -m ≤ n ∧ n ≤ m) : -(m + 1) ≤ n / d ∧ n / d ≤ m + 1 := by
  constructor
  · rw [Int.le_ediv_iff_mul_le hd]
    have : -(m + 1) * d ≤ -(m + 1) * 1 := Int.mul_le_mul_of_nonpos_left (by omega) (by omega)
    omega
  · have : n / d < m + 1 := by
      rw [Int.ediv_lt_iff_lt_mul hd]
      have : (m + 1) * 1 ≤ (m + 1) * d := Int.mul_le_mul_of_nonneg_left (by omega) (by omega)
      omega
    omega
/-- The quotient, whatever the divisor's sign, by the divisor made positive. -/
theorem F69_any {n d : Int} (hd : d ≠ 0) (hd2 : -1000000000000 ≤ d ∧ d ≤ 1000000000000) (hn : -4000000000000000000 ≤ n ∧ n ≤ 4000000000000000000) : F69 n d = some (if 0 < d then n / d else (-n) / (-d)) := by
  by_cases h : 0 < d
  · rw [if_pos h]
    exact F69_pos h hd2.2 hn
  · rw [if_neg h]
    have h1 : d < 0 := by omega
    have : F69 n d = F69 (-n) (-d) := by
      unfold F69
      have h2 : ¬ -d < 0 := by omega
      simp only [h1, h2, decide_true, decide_false, if_true, Bool.false_eq_true, if_false, Option.bind_eq_bind, Option.bind_some]
      rw [w64_id (x := 0 - n) (by omega) (by omega), w64_id (x := 0 - d) (by omega) (by omega)]
      simp only [Int.zero_sub]
    rw [this]
    exact F69_pos (by omega) (by omega) (by omega)

end Go.Proofs.Ytenjelagfbceeaa
