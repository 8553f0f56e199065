/- The plain law of MagnetWithins: what the functions compute, in plain Lean. -/
import Derived.Test.YtenjelagfbceeaaG6
set_option linter.unusedVariables false
set_option linter.unusedSimpArgs false
set_option maxHeartbeats 4000000
namespace Go.Proofs.Ytenjelagfbceeaa
open Go Go.Cl
theorem F84l0_fix (p0 : (List (Int × Int))) (v7 : Int) : F84l0 p0 v7 = (
    if decide (v7 < (List.length p0 : Int)) then
      if (0 : Int) ≤ v7 ∧ v7 < (List.length p0 : Int) then
        some (List.getD p0 (Int.toNat v7) (0, 0)) >>= fun o17 =>
        F76 o17.1 o17.2 >>= fun r19 =>
        if r19 then
          some (.inl v7)
        else
          F84l0 p0 (w64 (v7 + 1))
      else none
    else
      some (.inr ())
    : Option (Int ⊕ Unit)) := by
  delta F84l0
  conv => lhs; rw [Lean.Order.fix_eq]
theorem F61l0_fix  (z68 : (Int × Int × Int × Int × Int × Int × Int × Int)) : F61l0 z68 = (
    F72 z68.1 z68.2.1 z68.2.2.1 z68.2.2.2.1 >>= fun r51 =>
    F63 z68.1 z68.2.1 >>= fun r53 =>
    F63 z68.1 z68.2.1 >>= fun r55 =>
    F69 (w64 ((w64 (2 * r51)) + r53)) (w64 (2 * r55)) >>= fun r57 =>
    F53 z68.2.2.1 z68.2.2.2.1 (w64 (0 - r57)) z68.1 z68.2.1 >>= fun r59 =>
    F78 z68.2.2.2.2.2.2.1 z68.2.2.2.2.2.2.2 (w64 (0 - r57)) z68.2.2.2.2.1 z68.2.2.2.2.2.1 >>= fun r61 =>
    F63 z68.1 z68.2.1 >>= fun r63 =>
    F63 r59.1 r59.2 >>= fun r65 =>
    if decide (r63 ≤ r65) then
      some (z68.1, z68.2.1, r59.1, r59.2, z68.2.2.2.2.1, z68.2.2.2.2.2.1, r61.1, r61.2)
    else
      F61l0  (r59.1, r59.2, z68.1, z68.2.1, r61.1, r61.2, z68.2.2.2.2.1, z68.2.2.2.2.2.1)
    : Option (Int × Int × Int × Int × Int × Int × Int × Int)) := by
  delta F61l0
  conv => lhs; rw [Lean.Order.fix_eq]
theorem F70l0_fix (p0 : Int) (p1 : Int) (p2 : Int) (p3 : Int) (p4 : Int) (p5 : Int) (p6 : Int) (p7 : Int) (p8 : Int) (p9 : Int) (v5 : Int) : F70l0 p0 p1 p2 p3 p4 p5 p6 p7 p8 p9 v5 = (
    F71 v5 p0 p1 p2 p3 p4 p5 p6 p7 p8 p9 >>= fun r11 =>
    (
      if r11 then
        some (false)
      else
        some (true)
    : Option Bool) >>= fun m13 =>
    if m13 then
      F70l0 p0 p1 p2 p3 p4 p5 p6 p7 p8 p9 (w64 (v5 + 1))
    else
      some v5
    : Option Int) := by
  delta F70l0
  conv => lhs; rw [Lean.Order.fix_eq]
theorem F34l1_fix (p4 : Int) (p5 : Int) (p6 : Int) (r10 : (((Int × Int) × (Int × Int)) × (Int × Int) × (Int × Int))) (r16 : Int) (r18 : Int) (r138 : (Int × Int)) (r146 : Int) (v78 : Int) (v155 : Int) (v156 : Int) (v157 : Int) : F34l1 p4 p5 p6 r10 r16 r18 r138 r146 v78 v155 v156 v157 = (
    F63 v156 v157 >>= fun r164 =>
    if decide (r164 ≤ p6) then
      F53 v156 v157 1 r10.1.1.1 r10.1.1.2 >>= fun r167 =>
      F34l1 p4 p5 p6 r10 r16 r18 r138 r146 v78 (w64 (v155 + 1)) r167.1 r167.2
    else
      some v155
    : Option Int) := by
  delta F34l1
  conv => lhs; rw [Lean.Order.fix_eq]
theorem F34l2_fix (p4 : Int) (p5 : Int) (p6 : Int) (r10 : (((Int × Int) × (Int × Int)) × (Int × Int) × (Int × Int))) (r16 : Int) (r18 : Int) (v78 : Int) (v178 : Int) (v179 : Int) (v180 : Int) : F34l2 p4 p5 p6 r10 r16 r18 v78 v178 v179 v180 = (
    F63 v179 v180 >>= fun r187 =>
    if decide (r187 ≤ p6) then
      F53 v179 v180 (-1) r10.1.1.1 r10.1.1.2 >>= fun r190 =>
      F34l2 p4 p5 p6 r10 r16 r18 v78 (w64 (v178 + 1)) r190.1 r190.2
    else
      some v178
    : Option Int) := by
  delta F34l2
  conv => lhs; rw [Lean.Order.fix_eq]
theorem F34l0_fix (p4 : Int) (p5 : Int) (p6 : Int) (r10 : (((Int × Int) × (Int × Int)) × (Int × Int) × (Int × Int))) (r16 : Int) (r18 : Int) (v77 : Int) (v78 : Int) : F34l0 p4 p5 p6 r10 r16 r18 v77 v78 = (
    if decide (v78 ≤ (w64 ((w64 (r16 + r18)) + 1))) then
      F53 p4 p5 v78 r10.1.2.1 r10.1.2.2 >>= fun r138 =>
      F72 r138.1 r138.2 r10.1.1.1 r10.1.1.2 >>= fun r140 =>
      F63 r10.1.1.1 r10.1.1.2 >>= fun r142 =>
      F63 r10.1.1.1 r10.1.1.2 >>= fun r144 =>
      F69 (w64 ((w64 ((-2) * r140)) + r142)) (w64 (2 * r144)) >>= fun r146 =>
      F53 r138.1 r138.2 r146 r10.1.1.1 r10.1.1.2 >>= fun r148 =>
      F34l1 p4 p5 p6 r10 r16 r18 r138 r146 v78 v77 r148.1 r148.2 >>= fun r169 =>
      F53 r138.1 r138.2 (w64 (r146 - 1)) r10.1.1.1 r10.1.1.2 >>= fun r171 =>
      F34l2 p4 p5 p6 r10 r16 r18 v78 r169 r171.1 r171.2 >>= fun r192 =>
      F34l0 p4 p5 p6 r10 r16 r18 r192 (w64 (v78 + 1))
    else
      some v77
    : Option Int) := by
  delta F34l0
  conv => lhs; rw [Lean.Order.fix_eq]
theorem F62l0_fix (p0 : Int) (p1 : Int) (p2 : Int) (p3 : Int) (v26 : Int) (v27 : Int) (v28 : Int) (v29 : Int) : F62l0 p0 p1 p2 p3 v26 v27 v28 v29 = (
    F57 p0 p1 p2 p3 v26 v27 >>= fun r59 =>
    F57 p0 p1 p2 p3 v28 v29 >>= fun r61 =>
    F51 r59.1 r59.2 r61.1 r61.2 >>= fun r63 =>
    (
      if r63 then
        some (false)
      else
        some (true)
    : Option Bool) >>= fun m65 =>
    if m65 then
      F57 p0 p1 p2 p3 v26 v27 >>= fun r66 =>
      F57 p0 p1 p2 p3 v28 v29 >>= fun r68 =>
      F64 r66.1 r66.2 r66.1 r66.2 >>= fun r70 =>
      F64 r68.1 r68.2 r68.1 r68.2 >>= fun r72 =>
      if decide (r70 > r72) then
        F62l0 p0 p1 p2 p3 v28 v29 v26 v27
      else
        F64 r66.1 r66.2 r68.1 r68.2 >>= fun r75 =>
        F64 r66.1 r66.2 r66.1 r66.2 >>= fun r77 =>
        F64 r66.1 r66.2 r66.1 r66.2 >>= fun r79 =>
        F74 (w64 ((w64 (2 * r75)) + r77)) (w64 (2 * r79)) >>= fun r81 =>
        F62l0 p0 p1 p2 p3 v26 v27 (w64 (v28 - (w64 (r81 * v26)))) (w64 (v29 - (w64 (r81 * v27))))
    else
      some (v26, v27, v28, v29)
    : Option (Int × Int × Int × Int)) := by
  delta F62l0
  conv => lhs; rw [Lean.Order.fix_eq]
theorem F35l0_fix (p4 : Int) (p5 : Int) (p6 : Int) (m36 : (Int × Int × Int)) (r22 : (Int × Int)) (r24 : (Int × Int)) (v41 : Int) : F35l0 p4 p5 p6 m36 r22 r24 v41 = (
    F64 r22.1 r22.2 r22.1 r22.2 >>= fun r46 =>
    if decide ((w64 ((w64 ((w64 (v41 * v41)) * m36.1)) * m36.1)) ≤ (w64 (p6 * r46))) then
      F35l0 p4 p5 p6 m36 r22 r24 (w64 (v41 + 1))
    else
      some v41
    : Option Int) := by
  delta F35l0
  conv => lhs; rw [Lean.Order.fix_eq]
theorem F35l1_fix (p4 : Int) (p5 : Int) (p6 : Int) (m36 : (Int × Int × Int)) (r22 : (Int × Int)) (r24 : (Int × Int)) (r49 : Int) (v54 : Int) : F35l1 p4 p5 p6 m36 r22 r24 r49 v54 = (
    F64 r24.1 r24.2 r24.1 r24.2 >>= fun r59 =>
    if decide ((w64 ((w64 ((w64 (v54 * v54)) * m36.1)) * m36.1)) ≤ (w64 (p6 * r59))) then
      F35l1 p4 p5 p6 m36 r22 r24 r49 (w64 (v54 + 1))
    else
      some v54
    : Option Int) := by
  delta F35l1
  conv => lhs; rw [Lean.Order.fix_eq]
theorem F35l3_fix (p4 : Int) (p5 : Int) (p6 : Int) (m36 : (Int × Int × Int)) (r22 : (Int × Int)) (r24 : (Int × Int)) (r49 : Int) (r62 : Int) (v112 : Int) (v174 : Int) (v175 : Int) : F35l3 p4 p5 p6 m36 r22 r24 r49 r62 v112 v174 v175 = (
    F74 m36.2.2 m36.1 >>= fun r187 =>
    if decide (v175 ≤ (w64 ((w64 (r187 + r49)) + 1))) then
      some (w64 ((w64 (p4 + (w64 (v112 * r22.1)))) + (w64 (v175 * r24.1)))) >>= fun o190 =>
      some (w64 ((w64 (p5 + (w64 (v112 * r22.2)))) + (w64 (v175 * r24.2)))) >>= fun o192 =>
      F64 o190 o192 o190 o192 >>= fun r194 =>
      (
        if decide (r194 ≤ p6) then
          some (w64 (v174 + 1))
        else
          some v174
      : Option Int) >>= fun m199 =>
      F35l3 p4 p5 p6 m36 r22 r24 r49 r62 v112 m199 (w64 (v175 + 1))
    else
      some v174
    : Option Int) := by
  delta F35l3
  conv => lhs; rw [Lean.Order.fix_eq]
theorem F35l2_fix (p4 : Int) (p5 : Int) (p6 : Int) (m36 : (Int × Int × Int)) (r22 : (Int × Int)) (r24 : (Int × Int)) (r49 : Int) (r62 : Int) (v111 : Int) (v112 : Int) : F35l2 p4 p5 p6 m36 r22 r24 r49 r62 v111 v112 = (
    F74 m36.2.1 m36.1 >>= fun r159 =>
    if decide (v112 ≤ (w64 ((w64 (r159 + r62)) + 1))) then
      F74 m36.2.2 m36.1 >>= fun r162 =>
      F35l3 p4 p5 p6 m36 r22 r24 r49 r62 v112 v111 (w64 (r162 - r49)) >>= fun r202 =>
      F35l2 p4 p5 p6 m36 r22 r24 r49 r62 r202 (w64 (v112 + 1))
    else
      some v111
    : Option Int) := by
  delta F35l2
  conv => lhs; rw [Lean.Order.fix_eq]
theorem w64_id {x : Int} (h1 : -9223372036854775808 ≤ x) (h2 : x ≤ 9223372036854775807) : w64 x = x := by
  simp [w64, IntKind.wrap, IntKind.signed, IntKind.bits]
  omega
theorem F68_eq (a b c : Int) : F68 a b c = some (decide (a ≤ b ∧ b ≤ c)) := by
  unfold F68
  by_cases h : a ≤ b <;> simp [h]
theorem F73_eq (a b c : Int) : F73 a b c = some (decide (b ≤ a ∧ a ≤ c)) := by
  unfold F73
  by_cases h : b ≤ a <;> simp [h]
/-- Both lie within m. -/
def inb (m a b : Int) : Bool := decide ((-m ≤ a ∧ a ≤ m) ∧ (-m ≤ b ∧ b ≤ m))
theorem inb_of {m a b : Int} (h : inb m a b = true) : (-m ≤ a ∧ a ≤ m) ∧ (-m ≤ b ∧ b ≤ m) := of_decide_eq_true h
theorem F58_eq (a b m : Int) (h : 0 ≤ m) (hm : m ≤ 1000000) : F58 a b m = some (inb m a b) := by
  unfold inb
  unfold F58
  rw [w64_id (x := 0 - m) (by omega) (by omega), F68_eq, F68_eq]
  by_cases h1 : (0 - m ≤ a ∧ a ≤ m)
  · have : (-m ≤ a ∧ a ≤ m) := by omega
    simp [h1, this]
  · have : ¬ (-m ≤ a ∧ a ≤ m) := by omega
    simp [h1, this]
theorem F55_eq (a b m : Int) (h : 0 ≤ m) (hm : m ≤ 1000000) : F55 a b m = some (inb m a b) := by
  unfold inb
  unfold F55
  rw [w64_id (x := 0 - m) (by omega) (by omega), F73_eq, F73_eq]
  by_cases h1 : (0 - m ≤ a ∧ a ≤ m)
  · have : (-m ≤ a ∧ a ≤ m) := by omega
    simp [h1, this]
  · have : ¬ (-m ≤ a ∧ a ≤ m) := by omega
    simp [h1, this]

theorem mul_le {a b m n : Int} (ha : -m ≤ a ∧ a ≤ m) (hb : -n ≤ b ∧ b ≤ n) (hm : 0 ≤ m) (hn : 0 ≤ n) : -(m * n) ≤ a * b ∧ a * b ≤ m * n := by
  have h1 : a.natAbs ≤ m.natAbs := by omega
  have h2 : b.natAbs ≤ n.natAbs := by omega
  have h3 := Nat.mul_le_mul h1 h2
  rw [← Int.natAbs_mul, ← Int.natAbs_mul] at h3
  have h4 : 0 ≤ m * n := Int.mul_nonneg hm hn
  omega
theorem F20_eq (a b c d : Int) : F20 a b c d = some (if inb 1000 a b && inb 1000 c d then if a * d - b * c = 0 then 15 else 0 else 1) := by
  unfold F20 F59
  rw [F58_eq _ _ _ (by omega) (by omega), F58_eq _ _ _ (by omega) (by omega)]
  cases h1 : inb 1000 a b
  · simp
  · cases h2 : inb 1000 c d
    · simp
    · have h1 := inb_of h1
      have h2 := inb_of h2
      have h3 := mul_le (a := a) (b := d) (m := 1000) (n := 1000) (by omega) (by omega) (by omega) (by omega)
      have h4 := mul_le (a := b) (b := c) (m := 1000) (n := 1000) (by omega) (by omega) (by omega) (by omega)
      rw [w64_id (x := a * d) (by omega) (by omega), w64_id (x := b * c) (by omega) (by omega), w64_id (x := a * d - b * c) (by omega) (by omega)]
      by_cases h : a * d - b * c = 0 <;> simp [h]
theorem F21_eq (a b c d : Int) : F21 a b c d = F20 a b c d := by
  rw [F20_eq]
  unfold F21 F60
  rw [F55_eq _ _ _ (by omega) (by omega), F55_eq _ _ _ (by omega) (by omega)]
  cases h1 : inb 1000 a b
  · simp
  · cases h2 : inb 1000 c d
    · simp
    · have h1 := inb_of h1
      have h2 := inb_of h2
      have h3 := mul_le (a := a) (b := d) (m := 1000) (n := 1000) (by omega) (by omega) (by omega) (by omega)
      have h4 := mul_le (a := b) (b := c) (m := 1000) (n := 1000) (by omega) (by omega) (by omega) (by omega)
      rw [w64_id (x := a * d) (by omega) (by omega), w64_id (x := b * c) (by omega) (by omega), w64_id (x := a * d - b * c) (by omega) (by omega), w64_id (x := b * c - a * d) (by omega) (by omega)]
      generalize a * d = u at *
      generalize b * c = v at *
      by_cases h : u - v = 0
      · have : v - u = 0 := by omega
        simp [h, this, mx]
      · have : ¬ (if v - u > u - v then v - u else u - v) = 0 := by split <;> omega
        simp only [Option.bind_eq_bind, Option.bind_some, h, Bool.and_true, beq_iff_eq]
        simp [mx, this, h]
theorem sq_bd {a m : Int} (hm : 0 ≤ m) (h : a * a ≤ m * m) : -m ≤ a ∧ a ≤ m := by
  constructor
  · apply Classical.byContradiction
    intro hc
    have h1 : m + 1 ≤ -a := by omega
    have h2 := Int.mul_le_mul h1 h1 (by omega) (by omega)
    have h3 : -a * -a = a * a := by grind
    have h4 : (m + 1) * (m + 1) = m * m + 2 * m + 1 := by grind
    omega
  · apply Classical.byContradiction
    intro hc
    have h1 : m + 1 ≤ a := by omega
    have h2 := Int.mul_le_mul h1 h1 (by omega) (by omega)
    have h4 : (m + 1) * (m + 1) = m * m + 2 * m + 1 := by grind
    omega
theorem sq_nn (a : Int) : 0 ≤ a * a := by
  cases Int.le_total 0 a with
  | inl h => exact Int.mul_nonneg h h
  | inr h => exact Int.mul_nonneg_of_nonpos_of_nonpos h h
/-- The remainder, brought up to nothing or more. -/
theorem tmod_up {n d : Int} (hd : 0 < d) : (Int.tmod n d + d).tmod d = n % d := by
  have h1 : 0 ≤ Int.tmod n d + d := by
    rw [Int.tmod_eq_emod]
    have := Int.emod_nonneg n (b := d) (by omega)
    split <;> omega
  rw [Int.tmod_eq_emod_of_nonneg h1, Int.add_emod_right]
  have h2 : Int.tmod n d = n - d * Int.tdiv n d := by
    have := Int.mul_tdiv_add_tmod n d
    omega
  rw [h2, Int.sub_mul_emod_self_left]
theorem F69_eq {n d : Int} (hd : 0 < d) (hd2 : d ≤ 1000000000000) (hn : -1000000000000 ≤ n ∧ n ≤ 1000000000000) : F69 n d = some (n / d) := by
  unfold F69
  have h1 : ¬ d < 0 := by omega
  have h2 : ¬ d = 0 := by omega
  have ht : -d < Int.tmod n d ∧ Int.tmod n d < d := ⟨Int.lt_tmod_of_pos n hd, Int.tmod_lt_of_pos n hd⟩
  simp only [h1, h2, decide_false, Bool.false_eq_true, if_false, Option.bind_eq_bind, Option.bind_some]
  rw [w64_id (x := Int.tmod n d + d) (by omega) (by omega), tmod_up hd]
  have h3 := Int.emod_nonneg n (b := d) (by omega)
  have h4 := Int.emod_lt_of_pos n hd
  have h5 := Int.mul_ediv_add_emod n d
  rw [w64_id (x := n - n % d) (by omega) (by omega)]
  have h6 : n - n % d = d * (n / d) := by omega
  rw [h6, Int.mul_tdiv_cancel_left _ h2]
  have h7 : -1000000000001 ≤ n / d := by
    rw [Int.le_ediv_iff_mul_le hd]
    have : -1000000000001 * d ≤ -1000000000001 * 1 := Int.mul_le_mul_of_nonpos_left (by omega) (by omega)
    omega
  have h8 : n / d ≤ 1000000000001 := by
    have : n / d < 1000000000001 := by
      rw [Int.ediv_lt_iff_lt_mul hd]
      have : 1000000000001 * 1 ≤ 1000000000001 * d := Int.mul_le_mul_of_nonneg_left (by omega) (by omega)
      omega
    omega
  rw [w64_id (by omega) (by omega)]
theorem F74_eq {n d : Int} (hd : 0 < d) (hd2 : d ≤ 1000000000000) (hn : -1000000000000 ≤ n ∧ n ≤ 1000000000000) : F74 n d = some (n / d) := by
  unfold F74
  have h2 : ¬ d = 0 := by omega
  have h4 := Int.emod_lt_of_pos n hd
  have h4' := Int.emod_nonneg n (b := d) (by omega)
  have h7 : -1000000000001 ≤ n / d := by
    rw [Int.le_ediv_iff_mul_le hd]
    have : -1000000000001 * d ≤ -1000000000001 * 1 := Int.mul_le_mul_of_nonpos_left (by omega) (by omega)
    omega
  have h8 : n / d ≤ 1000000000001 := by
    have : n / d < 1000000000001 := by
      rw [Int.ediv_lt_iff_lt_mul hd]
      have : 1000000000001 * 1 ≤ 1000000000001 * d := Int.mul_le_mul_of_nonneg_left (by omega) (by omega)
      omega
    omega
  simp only [h2, if_false, Option.bind_eq_bind, Option.bind_some]
  rw [Int.tdiv_eq_ediv, Int.tmod_eq_emod, Int.sign_eq_one_of_pos hd]
  by_cases hc : 0 ≤ n ∨ d ∣ n
  · have : ¬ (n % d - ((0 : Nat) : Int) < 0) := by omega
    simp only [hc, if_true, this, decide_false, Bool.false_eq_true, if_false, Int.add_zero, Option.bind_some]
    rw [w64_id (by omega) (by omega)]
  · have : (n % d - ((d.natAbs : Nat) : Int) < 0) := by omega
    simp only [hc, if_true, this, decide_true, if_false, Option.bind_some]
    rw [w64_id (x := n / d + 1) (by omega) (by omega), w64_id (x := n / d + 1 - 1) (by omega) (by omega)]
    congr 1
    omega

/-- a kit within the bounds, not flat -/
structure Kit4 (p0 p1 p2 p3 : Int) : Prop where
  b0 : -1000 ≤ p0 ∧ p0 ≤ 1000
  b1 : -1000 ≤ p1 ∧ p1 ≤ 1000
  b2 : -1000 ≤ p2 ∧ p2 ≤ 1000
  b3 : -1000 ≤ p3 ∧ p3 ≤ 1000
  nf : p0 * p3 - p1 * p2 ≠ 0
/-- What (i, j) and (k, l) pull; they are complete; the pulls are (x, y) and (u, v) and not long. -/
structure Bun (p0 p1 p2 p3 i j k l : Int) : Prop where
  det : i * l - j * k = 1 ∨ i * l - j * k = -1
  sa : (i * p0 + j * p2) * (i * p0 + j * p2) + (i * p1 + j * p3) * (i * p1 + j * p3) ≤ 2000000
  sb : (k * p0 + l * p2) * (k * p0 + l * p2) + (k * p1 + l * p3) * (k * p1 + l * p3) ≤ 2000000
/-- A choice whose pull is short is small. -/
theorem small_of {p0 p1 p2 p3 i j : Int} (h : Kit4 p0 p1 p2 p3) (hs : (i * p0 + j * p2) * (i * p0 + j * p2) + (i * p1 + j * p3) * (i * p1 + j * p3) ≤ 2000000) :
    (-1500 ≤ i * p0 + j * p2 ∧ i * p0 + j * p2 ≤ 1500) ∧ (-1500 ≤ i * p1 + j * p3 ∧ i * p1 + j * p3 ≤ 1500) ∧ (-3000000 ≤ i ∧ i ≤ 3000000) ∧ (-3000000 ≤ j ∧ j ≤ 3000000) := by
  have e1 : i * (p0 * p3 - p1 * p2) = (i * p0 + j * p2) * p3 - (i * p1 + j * p3) * p2 := by grind
  have e2 : j * (p0 * p3 - p1 * p2) = (i * p1 + j * p3) * p0 - (i * p0 + j * p2) * p1 := by grind
  generalize i * p0 + j * p2 = x at *
  generalize i * p1 + j * p3 = y at *
  have nx := sq_nn x
  have ny := sq_nn y
  have hx := sq_bd (a := x) (m := 1500) (by omega) (by omega)
  have hy := sq_bd (a := y) (m := 1500) (by omega) (by omega)
  have a1 := mul_le (a := x) (b := p3) (m := 1500) (n := 1000) hx h.b3 (by omega) (by omega)
  have a2 := mul_le (a := y) (b := p2) (m := 1500) (n := 1000) hy h.b2 (by omega) (by omega)
  have a3 := mul_le (a := y) (b := p0) (m := 1500) (n := 1000) hy h.b0 (by omega) (by omega)
  have a4 := mul_le (a := x) (b := p1) (m := 1500) (n := 1000) hx h.b1 (by omega) (by omega)
  have nf := h.nf
  generalize p0 * p3 - p1 * p2 = d at *
  have key : ∀ q : Int, (-3000000 ≤ q * d ∧ q * d ≤ 3000000) → -3000000 ≤ q ∧ q ≤ 3000000 := by
    intro q hq
    have h1 : q.natAbs * d.natAbs ≤ 3000000 := by rw [← Int.natAbs_mul]; omega
    have h2 : q.natAbs * 1 ≤ q.natAbs * d.natAbs := Nat.mul_le_mul_left _ (by omega)
    omega
  refine ⟨hx, hy, key i (by omega), key j (by omega)⟩
/-- The pull of a complete choice is not nothing. -/
theorem pos_of {p0 p1 p2 p3 i j k l : Int} (h : Kit4 p0 p1 p2 p3) (hd : i * l - j * k = 1 ∨ i * l - j * k = -1) :
    0 < (i * p0 + j * p2) * (i * p0 + j * p2) + (i * p1 + j * p3) * (i * p1 + j * p3) := by
  have e : (i * p0 + j * p2) * (k * p1 + l * p3) - (i * p1 + j * p3) * (k * p0 + l * p2) = (i * l - j * k) * (p0 * p3 - p1 * p2) := by grind
  have nf := h.nf
  generalize i * p0 + j * p2 = x at *
  generalize i * p1 + j * p3 = y at *
  have nx := sq_nn x
  have ny := sq_nn y
  apply Classical.byContradiction
  intro hc
  have hx := sq_bd (a := x) (m := 0) (by omega) (by omega)
  have hy := sq_bd (a := y) (m := 0) (by omega) (by omega)
  have hx : x = 0 := by omega
  have hy : y = 0 := by omega
  subst hx; subst hy
  rcases hd with hd | hd <;> rw [hd] at e <;> omega
/-- The nearest multiple, taken away. -/
theorem near_of {s t n : Int} (hs : 0 < s) (hn : n = (2 * t + s) / (2 * s)) : -s ≤ 2 * (t - n * s) ∧ 2 * (t - n * s) < s ∧ 0 ≤ n * (2 * t - n * s) := by
  have h1 := Int.ediv_mul_le (2 * t + s) (b := 2 * s) (by omega)
  have h2 := Int.lt_ediv_add_one_mul_self (2 * t + s) (b := 2 * s) (by omega)
  rw [← hn] at h1 h2
  have e1 : n * (2 * s) = 2 * (n * s) := by grind
  have e2 : (n + 1) * (2 * s) = 2 * (n * s) + 2 * s := by grind
  refine ⟨by omega, by omega, ?_⟩
  by_cases h0 : 1 ≤ n
  · have : 0 ≤ 2 * t - n * s := by
      have : 1 * s ≤ n * s := Int.mul_le_mul_of_nonneg_right h0 (by omega)
      omega
    exact Int.mul_nonneg (by omega) this
  · by_cases h1 : n = 0
    · subst h1; omega
    · have : 2 * t - n * s ≤ 0 := by
        have : n * s ≤ -1 * s := Int.mul_le_mul_of_nonneg_right (by omega) (by omega)
        omega
      exact Int.mul_nonneg_of_nonpos_of_nonpos (by omega) this
/-- One step of the reduction: what is left is no longer than before. -/
theorem step_of {x y u v n : Int} (hs : 0 < x * x + y * y) (hn : n = (2 * (x * u + y * v) + (x * x + y * y)) / (2 * (x * x + y * y))) :
    (u - n * x) * (u - n * x) + (v - n * y) * (v - n * y) ≤ u * u + v * v ∧ -(x * x + y * y) ≤ 2 * (x * (u - n * x) + y * (v - n * y)) ∧ 2 * (x * (u - n * x) + y * (v - n * y)) < x * x + y * y := by
  obtain ⟨h1, h2, h3⟩ := near_of hs hn
  have e1 : (u - n * x) * (u - n * x) + (v - n * y) * (v - n * y) = u * u + v * v - n * (2 * (x * u + y * v) - n * (x * x + y * y)) := by grind
  have e2 : x * (u - n * x) + y * (v - n * y) = (x * u + y * v) - n * (x * x + y * y) := by grind
  rw [e1, e2]
  omega
/-- The numbers of a step are not great. -/
theorem n_bd {s t n : Int} (hs : 0 < s) (hs2 : s ≤ 10000000) (ht : -10000000 ≤ t ∧ t ≤ 10000000) (hn : n = (2 * t + s) / (2 * s)) : -40000000 ≤ n ∧ n ≤ 40000000 := by
  constructor
  · rw [hn, Int.le_ediv_iff_mul_le (by omega)]
    have : -40000000 * (2 * s) ≤ -40000000 * 2 := Int.mul_le_mul_of_nonpos_left (by omega) (by omega)
    omega
  · have : n < 40000001 := by
      rw [hn, Int.ediv_lt_iff_lt_mul (by omega)]
      have : 40000001 * 2 ≤ 40000001 * (2 * s) := Int.mul_le_mul_of_nonneg_left (by omega) (by omega)
      omega
    omega
theorem F72_eq {a b c d : Int} (ha : -1500 ≤ a ∧ a ≤ 1500) (hb : -1500 ≤ b ∧ b ≤ 1500) (hc : -1500 ≤ c ∧ c ≤ 1500) (hd : -1500 ≤ d ∧ d ≤ 1500) : F72 a b c d = some (a * c + b * d) := by
  have h1 := mul_le (m := 1500) (n := 1500) ha hc (by omega) (by omega)
  have h2 := mul_le (m := 1500) (n := 1500) hb hd (by omega) (by omega)
  unfold F72
  rw [w64_id (x := a * c) (by omega) (by omega), w64_id (x := b * d) (by omega) (by omega), w64_id (by omega) (by omega)]
theorem F64_eq {a b c d : Int} (ha : -1500 ≤ a ∧ a ≤ 1500) (hb : -1500 ≤ b ∧ b ≤ 1500) (hc : -1500 ≤ c ∧ c ≤ 1500) (hd : -1500 ≤ d ∧ d ≤ 1500) : F64 a b c d = some (a * c + b * d) := F72_eq ha hb hc hd
theorem F63_eq {a b : Int} (ha : -1500 ≤ a ∧ a ≤ 1500) (hb : -1500 ≤ b ∧ b ≤ 1500) : F63 a b = some (a * a + b * b) := by
  unfold F63
  rw [F72_eq ha hb ha hb]
  rfl
theorem F53_eq {u v n x y : Int} (hu : -3000000 ≤ u ∧ u ≤ 3000000) (hv : -3000000 ≤ v ∧ v ≤ 3000000) (hn : -40000000 ≤ n ∧ n ≤ 40000000) (hx : -3000000 ≤ x ∧ x ≤ 3000000) (hy : -3000000 ≤ y ∧ y ≤ 3000000) :
    F53 u v n x y = some (u + n * x, v + n * y) := by
  have h1 := mul_le (m := 40000000) (n := 3000000) hn hx (by omega) (by omega)
  have h2 := mul_le (m := 40000000) (n := 3000000) hn hy (by omega) (by omega)
  unfold F53
  rw [w64_id (x := n * x) (by omega) (by omega), w64_id (x := n * y) (by omega) (by omega), w64_id (x := u + n * x) (by omega) (by omega), w64_id (x := v + n * y) (by omega) (by omega)]
theorem F78_eq {u v n x y : Int} (hu : -3000000 ≤ u ∧ u ≤ 3000000) (hv : -3000000 ≤ v ∧ v ≤ 3000000) (hn : -40000000 ≤ n ∧ n ≤ 40000000) (hx : -3000000 ≤ x ∧ x ≤ 3000000) (hy : -3000000 ≤ y ∧ y ≤ 3000000) :
    F78 u v n x y = some (u + n * x, v + n * y) := F53_eq hu hv hn hx hy
theorem F57_eq {p0 p1 p2 p3 i j : Int} (h : Kit4 p0 p1 p2 p3) (hi : -100000000 ≤ i ∧ i ≤ 100000000) (hj : -100000000 ≤ j ∧ j ≤ 100000000) : F57 p0 p1 p2 p3 i j = some (i * p0 + j * p2, i * p1 + j * p3) := by
  have h0 := mul_le (m := 100000000) (n := 1000) hi h.b0 (by omega) (by omega)
  have h1 := mul_le (m := 100000000) (n := 1000) hi h.b1 (by omega) (by omega)
  have h2 := mul_le (m := 100000000) (n := 1000) hj h.b2 (by omega) (by omega)
  have h3 := mul_le (m := 100000000) (n := 1000) hj h.b3 (by omega) (by omega)
  unfold F57
  rw [w64_id (x := i * p0) (by omega) (by omega), w64_id (x := i * p1) (by omega) (by omega), w64_id (x := j * p2) (by omega) (by omega), w64_id (x := j * p3) (by omega) (by omega),
    w64_id (by omega) (by omega), w64_id (by omega) (by omega)]
/-- Reduced, as the chapter says it. -/
def red (x y u v : Int) : Prop := x * x + y * y ≤ u * u + v * v ∧ -(x * x + y * y) ≤ 2 * (x * u + y * v) ∧ 2 * (x * u + y * v) ≤ x * x + y * y
instance (x y u v : Int) : Decidable (red x y u v) := by unfold red; infer_instance
/-- The program's loop: it ends, and what it ends with is reduced. -/
theorem loop61 {p0 p1 p2 p3 : Int} (h : Kit4 p0 p1 p2 p3) : ∀ (m : Nat) (i j k l : Int), Bun p0 p1 p2 p3 i j k l →
    (i * p0 + j * p2) * (i * p0 + j * p2) + (i * p1 + j * p3) * (i * p1 + j * p3) < m →
    ∃ i' j' k' l', F61l0 (i * p0 + j * p2, i * p1 + j * p3, k * p0 + l * p2, k * p1 + l * p3, i, j, k, l) = some (i' * p0 + j' * p2, i' * p1 + j' * p3, k' * p0 + l' * p2, k' * p1 + l' * p3, i', j', k', l') ∧
      Bun p0 p1 p2 p3 i' j' k' l' ∧ red (i' * p0 + j' * p2) (i' * p1 + j' * p3) (k' * p0 + l' * p2) (k' * p1 + l' * p3) := by
  intro m
  induction m with
  | zero =>
    intro i j k l hB hm
    have := pos_of h hB.det
    omega
  | succ m ih =>
    intro i j k l hB hm
    obtain ⟨hx, hy, hi, hj⟩ := small_of h hB.sa
    obtain ⟨hu, hv, hk, hl⟩ := small_of h hB.sb
    have hp := pos_of h hB.det
    have hsa := hB.sa
    have hsb := hB.sb
    generalize hn : (2 * ((i * p0 + j * p2) * (k * p0 + l * p2) + (i * p1 + j * p3) * (k * p1 + l * p3)) + ((i * p0 + j * p2) * (i * p0 + j * p2) + (i * p1 + j * p3) * (i * p1 + j * p3))) / (2 * ((i * p0 + j * p2) * (i * p0 + j * p2) + (i * p1 + j * p3) * (i * p1 + j * p3))) = n
    have hst := step_of hp hn.symm
    have t1 := mul_le (m := 1500) (n := 1500) hx hu (by omega) (by omega)
    have t2 := mul_le (m := 1500) (n := 1500) hy hv (by omega) (by omega)
    have hnb := n_bd hp (by omega) (by omega) hn.symm
    have ek : k * p0 + l * p2 - n * (i * p0 + j * p2) = (k - n * i) * p0 + (l - n * j) * p2 := by grind
    have el : k * p1 + l * p3 - n * (i * p1 + j * p3) = (k - n * i) * p1 + (l - n * j) * p3 := by grind
    rw [ek, el] at hst
    have ed : i * (l - n * j) - j * (k - n * i) = i * l - j * k := by grind
    have hB' : Bun p0 p1 p2 p3 i j (k - n * i) (l - n * j) := ⟨by rw [ed]; exact hB.det, hsa, by omega⟩
    obtain ⟨hu', hv', hk', hl'⟩ := small_of h hB'.sb
    rw [F61l0_fix]
    simp only [Option.bind_eq_bind]
    rw [F72_eq hx hy hu hv, Option.bind_some, F63_eq hx hy, Option.bind_some, Option.bind_some]
    generalize hs : (i * p0 + j * p2) * (i * p0 + j * p2) + (i * p1 + j * p3) * (i * p1 + j * p3) = s at *
    generalize ht : (i * p0 + j * p2) * (k * p0 + l * p2) + (i * p1 + j * p3) * (k * p1 + l * p3) = t at *
    rw [w64_id (x := 2 * t) (by omega) (by omega), w64_id (x := 2 * t + s) (by omega) (by omega), w64_id (x := 2 * s) (by omega) (by omega), F69_eq (by omega) (by omega) (by omega), Option.bind_some, hn, w64_id (x := 0 - n) (by omega) (by omega)]
    rw [F53_eq (by omega) (by omega) (by omega) (by omega) (by omega), Option.bind_some, F78_eq hk hl (by omega) hi hj, Option.bind_some]
    have e1 : k * p0 + l * p2 + (0 - n) * (i * p0 + j * p2) = (k - n * i) * p0 + (l - n * j) * p2 := by grind
    have e2 : k * p1 + l * p3 + (0 - n) * (i * p1 + j * p3) = (k - n * i) * p1 + (l - n * j) * p3 := by grind
    have e3 : k + (0 - n) * i = k - n * i := by grind
    have e4 : l + (0 - n) * j = l - n * j := by grind
    simp only [e1, e2, e3, e4]
    rw [Option.bind_some, F63_eq hu' hv', Option.bind_some]
    split
    · rename_i hd
      have hd := of_decide_eq_true hd
      exact ⟨i, j, k - n * i, l - n * j, rfl, hB', by unfold red; rw [hs]; omega⟩
    · rename_i hd
      have hd : ¬ _ := fun h => hd (decide_eq_true h)
      have ed2 : (k - n * i) * j - (l - n * j) * i = -(i * (l - n * j) - j * (k - n * i)) := by grind
      have hB2 : Bun p0 p1 p2 p3 (k - n * i) (l - n * j) i j := ⟨by have := hB'.det; omega, hB'.sb, hB'.sa⟩
      exact ih _ _ _ _ hB2 (by omega)
/-- No combination of a reduced kit's pulls, but nothing, is shorter than its first one. -/
theorem red_min {x y u v : Int} (h : red x y u v) {m n : Int} (hmn : m ≠ 0 ∨ n ≠ 0) :
    x * x + y * y ≤ (m * x + n * u) * (m * x + n * u) + (m * y + n * v) * (m * y + n * v) := by
  obtain ⟨h1, h2, h3⟩ := h
  have e : (m * x + n * u) * (m * x + n * u) + (m * y + n * v) * (m * y + n * v) = m * m * (x * x + y * y) + m * n * (2 * (x * u + y * v)) + n * n * (u * u + v * v) := by grind
  rw [e]
  have hs : 0 ≤ x * x + y * y := by have := sq_nn x; have := sq_nn y; omega
  generalize x * x + y * y = s at *
  generalize 2 * (x * u + y * v) = t at *
  generalize u * u + v * v = r at *
  have hr : n * n * s ≤ n * n * r := Int.mul_le_mul_of_nonneg_left h1 (sq_nn n)
  have key : ∀ q : Int, 1 ≤ q → s ≤ q * s := fun q hq => by
    have := Int.mul_le_mul_of_nonneg_right hq hs
    omega
  have pos : ∀ m n : Int, (m ≠ 0 ∨ n ≠ 0) → 1 ≤ m * m - m * n + n * n := fun m n hmn => by
    have e4 : 4 * (m * m - m * n + n * n) = (2 * m - n) * (2 * m - n) + 3 * (n * n) := by grind
    have p1 := sq_nn (2 * m - n)
    by_cases hn : n = 0
    · subst hn
      have hm : m ≠ 0 := by omega
      have : m * m ≠ 0 := Int.mul_ne_zero hm hm
      have := sq_nn m
      simp only [Int.mul_zero, Int.sub_zero, Int.add_zero]
      omega
    · have h1 : n * n ≠ 0 := Int.mul_ne_zero hn hn
      have h2 := sq_nn n
      omega
  rcases Int.le_total 0 (m * n) with hp | hp
  · have a1 : m * n * (-s) ≤ m * n * t := Int.mul_le_mul_of_nonneg_left (by omega) hp
    have a2 := key _ (pos m n hmn)
    have e2 : (m * m - m * n + n * n) * s = m * m * s + m * n * (-s) + n * n * s := by grind
    omega
  · have a1 : m * n * s ≤ m * n * t := Int.mul_le_mul_of_nonpos_left hp (by omega)
    have a2 := key _ (pos m (-n) (by omega))
    have e2 : (m * m - m * (-n) + (-n) * (-n)) * s = m * m * s + m * n * s + n * n * s := by grind
    omega
/-- The first pull of a reduced complete kit is no longer than any pull but nothing. -/
theorem red_le {p0 p1 p2 p3 i j k l i' j' : Int} (hd : i * l - j * k = 1 ∨ i * l - j * k = -1)
    (hr : red (i * p0 + j * p2) (i * p1 + j * p3) (k * p0 + l * p2) (k * p1 + l * p3)) (h0 : i' ≠ 0 ∨ j' ≠ 0) :
    (i * p0 + j * p2) * (i * p0 + j * p2) + (i * p1 + j * p3) * (i * p1 + j * p3) ≤ (i' * p0 + j' * p2) * (i' * p0 + j' * p2) + (i' * p1 + j' * p3) * (i' * p1 + j' * p3) := by
  generalize hD : i * l - j * k = D at hd
  have hDD : D * D = 1 := by rcases hd with h | h <;> subst h <;> rfl
  have hm : D * (i' * l - j' * k) ≠ 0 ∨ D * (i * j' - j * i') ≠ 0 := by
    apply Classical.byContradiction
    intro hc
    have hc1 : D * (i' * l - j' * k) = 0 := by omega
    have hc2 : D * (i * j' - j * i') = 0 := by omega
    have q1 : D * (D * (i' * l - j' * k)) = i' * l - j' * k := by rw [← Int.mul_assoc, hDD, Int.one_mul]
    have q2 : D * (D * (i * j' - j * i')) = i * j' - j * i' := by rw [← Int.mul_assoc, hDD, Int.one_mul]
    rw [hc1] at q1; rw [hc2] at q2
    have r1 : i' * (i * l - j * k) = i * (i' * l - j' * k) + k * (i * j' - j * i') := by grind
    have r2 : j' * (i * l - j * k) = j * (i' * l - j' * k) + l * (i * j' - j * i') := by grind
    rw [← q1, ← q2, hD] at r1 r2
    simp only [Int.mul_zero, Int.add_zero] at r1 r2
    rcases hd with h | h <;> subst h <;> omega
  have e1 : (D * (i' * l - j' * k)) * (i * p0 + j * p2) + (D * (i * j' - j * i')) * (k * p0 + l * p2) = i' * p0 + j' * p2 := by
    have : (D * (i' * l - j' * k)) * (i * p0 + j * p2) + (D * (i * j' - j * i')) * (k * p0 + l * p2) = D * (i * l - j * k) * (i' * p0 + j' * p2) := by grind
    rw [this, hD, hDD, Int.one_mul]
  have e2 : (D * (i' * l - j' * k)) * (i * p1 + j * p3) + (D * (i * j' - j * i')) * (k * p1 + l * p3) = i' * p1 + j' * p3 := by
    have : (D * (i' * l - j' * k)) * (i * p1 + j * p3) + (D * (i * j' - j * i')) * (k * p1 + l * p3) = D * (i * l - j * k) * (i' * p1 + j' * p3) := by grind
    rw [this, hD, hDD, Int.one_mul]
  have := red_min hr hm
  rw [e1, e2] at this
  exact this
theorem ne0_of_det {i j k l : Int} (hd : i * l - j * k = 1 ∨ i * l - j * k = -1) : i ≠ 0 ∨ j ≠ 0 := by
  apply Classical.byContradiction
  intro hc
  have h1 : i = 0 := by omega
  have h2 : j = 0 := by omega
  subst h1; subst h2
  simp at hd
theorem mx_le {a b c : Int} : mx a b ≤ c ↔ a ≤ c ∧ b ≤ c := by
  unfold mx
  split <;> omega
theorem F51_eq {x y u v : Int} (hx : -1500 ≤ x ∧ x ≤ 1500) (hy : -1500 ≤ y ∧ y ≤ 1500) (hu : -1500 ≤ u ∧ u ≤ 1500) (hv : -1500 ≤ v ∧ v ≤ 1500) : F51 x y u v = some (decide (red x y u v)) := by
  have t1 := mul_le (m := 1500) (n := 1500) hx hu (by omega) (by omega)
  have t2 := mul_le (m := 1500) (n := 1500) hy hv (by omega) (by omega)
  have ht : -4500000 ≤ x * u + y * v ∧ x * u + y * v ≤ 4500000 := by omega
  unfold F51
  simp only [Option.bind_eq_bind]
  rw [F64_eq hx hy hu hv, Option.bind_some, F64_eq hx hy hx hy, Option.bind_some, F64_eq hu hv hu hv, Option.bind_some]
  by_cases hred : red x y u v
  · rw [decide_eq_true hred]
    obtain ⟨a1, a2, a3⟩ := hred
    generalize x * x + y * y = s at *
    generalize x * u + y * v = t at *
    generalize u * u + v * v = r at *
    have hm : -4500000 ≤ mx t (w64 (0 - t)) ∧ mx t (w64 (0 - t)) ≤ 4500000 := by
      rw [w64_id (x := 0 - t) (by omega) (by omega)]
      unfold mx
      split <;> omega
    have e : w64 (2 * mx t (w64 (0 - t))) ≤ s := by
      rw [w64_id (x := 2 * mx t (w64 (0 - t))) (by omega) (by omega), w64_id (x := 0 - t) (by omega) (by omega)]
      unfold mx
      split <;> omega
    rw [if_pos (decide_eq_true a1)]
    show some (decide (w64 (2 * mx t (w64 (0 - t))) ≤ s)) = _
    rw [decide_eq_true e]
  · rw [decide_eq_false hred]
    unfold red at hred
    generalize x * x + y * y = s at *
    generalize x * u + y * v = t at *
    generalize u * u + v * v = r at *
    by_cases h : s ≤ r
    · have hm : -4500000 ≤ mx t (w64 (0 - t)) ∧ mx t (w64 (0 - t)) ≤ 4500000 := by
        rw [w64_id (x := 0 - t) (by omega) (by omega)]
        unfold mx
        split <;> omega
      have e : ¬ w64 (2 * mx t (w64 (0 - t))) ≤ s := by
        rw [w64_id (x := 2 * mx t (w64 (0 - t))) (by omega) (by omega), w64_id (x := 0 - t) (by omega) (by omega)]
        unfold mx
        split <;> omega
      rw [if_pos (decide_eq_true h)]
      show some (decide (w64 (2 * mx t (w64 (0 - t))) ≤ s)) = _
      rw [decide_eq_false e]
    · rw [if_neg (by simpa using h)]
      rfl
/-- The step makes the second pull shorter, where the kit was not reduced. -/
theorem near_pos {s t n : Int} (hs : 0 < s) (hn : n = (2 * t + s) / (2 * s)) (h : 2 * t > s ∨ 2 * t < -s) : 0 < n * (2 * t - n * s) := by
  obtain ⟨h1, h2, h3⟩ := near_of hs hn
  have hz : n * (2 * t - n * s) ≠ 0 := by
    refine Int.mul_ne_zero ?_ ?_
    · intro h0
      rw [h0] at h1 h2
      omega
    · omega
  omega
theorem step_lt {x y u v n : Int} (hs : 0 < x * x + y * y) (hn : n = (2 * (x * u + y * v) + (x * x + y * y)) / (2 * (x * x + y * y))) (h : 2 * (x * u + y * v) > x * x + y * y ∨ 2 * (x * u + y * v) < -(x * x + y * y)) :
    (u - n * x) * (u - n * x) + (v - n * y) * (v - n * y) < u * u + v * v := by
  have h3 := near_pos hs hn h
  have e1 : (u - n * x) * (u - n * x) + (v - n * y) * (v - n * y) = u * u + v * v - n * (2 * (x * u + y * v) - n * (x * x + y * y)) := by grind
  rw [e1]
  omega
/-- The reference's loop: it ends, and what it ends with is reduced. -/
theorem loop62 {p0 p1 p2 p3 : Int} (h : Kit4 p0 p1 p2 p3) : ∀ (m : Nat) (i j k l : Int), Bun p0 p1 p2 p3 i j k l →
    2 * (((i * p0 + j * p2) * (i * p0 + j * p2) + (i * p1 + j * p3) * (i * p1 + j * p3)) + ((k * p0 + l * p2) * (k * p0 + l * p2) + (k * p1 + l * p3) * (k * p1 + l * p3))) +
      (if (i * p0 + j * p2) * (i * p0 + j * p2) + (i * p1 + j * p3) * (i * p1 + j * p3) > (k * p0 + l * p2) * (k * p0 + l * p2) + (k * p1 + l * p3) * (k * p1 + l * p3) then 1 else 0) < m →
    ∃ i' j' k' l', F62l0 p0 p1 p2 p3 i j k l = some (i', j', k', l') ∧ Bun p0 p1 p2 p3 i' j' k' l' ∧ red (i' * p0 + j' * p2) (i' * p1 + j' * p3) (k' * p0 + l' * p2) (k' * p1 + l' * p3) := by
  intro m
  induction m with
  | zero =>
    intro i j k l hB hm
    have := pos_of h hB.det
    have h1 := sq_nn (k * p0 + l * p2)
    have h2 := sq_nn (k * p1 + l * p3)
    split at hm <;> omega
  | succ m ih =>
    intro i j k l hB hm
    obtain ⟨hx, hy, hi, hj⟩ := small_of h hB.sa
    obtain ⟨hu, hv, hk, hl⟩ := small_of h hB.sb
    have hp := pos_of h hB.det
    have hsa := hB.sa
    have hsb := hB.sb
    rw [F62l0_fix]
    simp only [Option.bind_eq_bind]
    rw [F57_eq h (by omega) (by omega), Option.bind_some, F57_eq h (by omega) (by omega), Option.bind_some, F51_eq hx hy hu hv, Option.bind_some]
    by_cases hred : red (i * p0 + j * p2) (i * p1 + j * p3) (k * p0 + l * p2) (k * p1 + l * p3)
    · simp only [hred, decide_true, if_true, Option.bind_some, Bool.false_eq_true, if_false]
      exact ⟨i, j, k, l, rfl, hB, hred⟩
    · simp only [hred, decide_false, if_true, Option.bind_some, Bool.false_eq_true, if_false]
      rw [F64_eq hx hy hx hy, Option.bind_some, F64_eq hu hv hu hv, Option.bind_some]
      by_cases hgt : (i * p0 + j * p2) * (i * p0 + j * p2) + (i * p1 + j * p3) * (i * p1 + j * p3) > (k * p0 + l * p2) * (k * p0 + l * p2) + (k * p1 + l * p3) * (k * p1 + l * p3)
      · rw [if_pos (decide_eq_true hgt)]
        rw [if_pos hgt] at hm
        have hB2 : Bun p0 p1 p2 p3 k l i j := ⟨by have e : k * j - l * i = -(i * l - j * k) := by grind
                                                  have := hB.det; omega, hsb, hsa⟩
        refine ih k l i j hB2 ?_
        rw [if_neg (by omega)]
        omega
      · rw [if_neg (by simpa using hgt)]
        rw [if_neg hgt] at hm
        have hnr : 2 * ((i * p0 + j * p2) * (k * p0 + l * p2) + (i * p1 + j * p3) * (k * p1 + l * p3)) > (i * p0 + j * p2) * (i * p0 + j * p2) + (i * p1 + j * p3) * (i * p1 + j * p3) ∨ 2 * ((i * p0 + j * p2) * (k * p0 + l * p2) + (i * p1 + j * p3) * (k * p1 + l * p3)) < -((i * p0 + j * p2) * (i * p0 + j * p2) + (i * p1 + j * p3) * (i * p1 + j * p3)) := by
          unfold red at hred
          omega
        generalize hn : (2 * ((i * p0 + j * p2) * (k * p0 + l * p2) + (i * p1 + j * p3) * (k * p1 + l * p3)) + ((i * p0 + j * p2) * (i * p0 + j * p2) + (i * p1 + j * p3) * (i * p1 + j * p3))) / (2 * ((i * p0 + j * p2) * (i * p0 + j * p2) + (i * p1 + j * p3) * (i * p1 + j * p3))) = n
        have hst := step_lt hp hn.symm hnr
        have t1 := mul_le (m := 1500) (n := 1500) hx hu (by omega) (by omega)
        have t2 := mul_le (m := 1500) (n := 1500) hy hv (by omega) (by omega)
        have hnb := n_bd hp (by omega) (by omega) hn.symm
        have ek : k * p0 + l * p2 - n * (i * p0 + j * p2) = (k - n * i) * p0 + (l - n * j) * p2 := by grind
        have el : k * p1 + l * p3 - n * (i * p1 + j * p3) = (k - n * i) * p1 + (l - n * j) * p3 := by grind
        rw [ek, el] at hst
        have ed : i * (l - n * j) - j * (k - n * i) = i * l - j * k := by grind
        have hB' : Bun p0 p1 p2 p3 i j (k - n * i) (l - n * j) := ⟨by rw [ed]; exact hB.det, hsa, by omega⟩
        have b1 := mul_le (m := 40000000) (n := 3000000) hnb hi (by omega) (by omega)
        have b2 := mul_le (m := 40000000) (n := 3000000) hnb hj (by omega) (by omega)
        rw [F64_eq hx hy hu hv, Option.bind_some, Option.bind_some, Option.bind_some]
        generalize hs : (i * p0 + j * p2) * (i * p0 + j * p2) + (i * p1 + j * p3) * (i * p1 + j * p3) = s at *
        generalize ht : (i * p0 + j * p2) * (k * p0 + l * p2) + (i * p1 + j * p3) * (k * p1 + l * p3) = t at *
        rw [w64_id (x := 2 * t) (by omega) (by omega), w64_id (x := 2 * t + s) (by omega) (by omega), w64_id (x := 2 * s) (by omega) (by omega), F74_eq (by omega) (by omega) (by omega), Option.bind_some, hn,
          w64_id (x := n * i) (by omega) (by omega), w64_id (x := n * j) (by omega) (by omega), w64_id (x := k - n * i) (by omega) (by omega), w64_id (x := l - n * j) (by omega) (by omega)]
        refine ih i j (k - n * i) (l - n * j) hB' ?_
        rw [hs]
        have h0 : (if s > ((k - n * i) * p0 + (l - n * j) * p2) * ((k - n * i) * p0 + (l - n * j) * p2) + ((k - n * i) * p1 + (l - n * j) * p3) * ((k - n * i) * p1 + (l - n * j) * p3) then (1 : Int) else 0) ≤ 1 := by split <;> omega
        omega
theorem bun0 {p0 p1 p2 p3 : Int} (h : Kit4 p0 p1 p2 p3) : Bun p0 p1 p2 p3 1 0 0 1 := by
  have h0 := mul_le (m := 1000) (n := 1000) h.b0 h.b0 (by omega) (by omega)
  have h1 := mul_le (m := 1000) (n := 1000) h.b1 h.b1 (by omega) (by omega)
  have h2 := mul_le (m := 1000) (n := 1000) h.b2 h.b2 (by omega) (by omega)
  have h3 := mul_le (m := 1000) (n := 1000) h.b3 h.b3 (by omega) (by omega)
  refine ⟨by omega, ?_, ?_⟩
  · simp only [Int.one_mul, Int.zero_mul, Int.add_zero]; omega
  · simp only [Int.one_mul, Int.zero_mul, Int.zero_add]; omega
theorem F61_eq {p0 p1 p2 p3 : Int} (h : Kit4 p0 p1 p2 p3) : ∃ i j k l, F61 p0 p1 p2 p3 = some (((i * p0 + j * p2, i * p1 + j * p3), (k * p0 + l * p2, k * p1 + l * p3)), (i, j), (k, l)) ∧
    Bun p0 p1 p2 p3 i j k l ∧ red (i * p0 + j * p2) (i * p1 + j * p3) (k * p0 + l * p2) (k * p1 + l * p3) := by
  obtain ⟨i, j, k, l, h1, h2, h3⟩ := loop61 h (((1 * p0 + 0 * p2) * (1 * p0 + 0 * p2) + (1 * p1 + 0 * p3) * (1 * p1 + 0 * p3)).toNat + 1) 1 0 0 1 (bun0 h) (by omega)
  refine ⟨i, j, k, l, ?_, h2, h3⟩
  simp only [Int.one_mul, Int.zero_mul, Int.add_zero, Int.zero_add] at h1
  unfold F61
  rw [h1]
  rfl
theorem F62_eq {p0 p1 p2 p3 : Int} (h : Kit4 p0 p1 p2 p3) : ∃ i j k l, F62 p0 p1 p2 p3 = some ((i, j), (k, l)) ∧
    Bun p0 p1 p2 p3 i j k l ∧ red (i * p0 + j * p2) (i * p1 + j * p3) (k * p0 + l * p2) (k * p1 + l * p3) := by
  obtain ⟨i, j, k, l, h1, h2, h3⟩ := loop62 h _ 1 0 0 1 (bun0 h) (Int.lt_of_le_of_lt (Int.self_le_toNat _) (Int.ofNat_lt.2 (Nat.lt_succ_self _)))
  refine ⟨i, j, k, l, ?_, h2, h3⟩
  unfold F62
  rw [h1]
  rfl
theorem F20_ok {a b c d : Int} (h : inb 1000 a b = true) (h2 : inb 1000 c d = true) (h3 : a * d - b * c ≠ 0) : Kit4 a b c d :=
  ⟨(inb_of h).1, (inb_of h).2, (inb_of h2).1, (inb_of h2).2, h3⟩
/-- The check says 0 of a kit as stated, and an error else. -/
theorem F20_cases (a b c d : Int) : (F20 a b c d = some 0 ∧ Kit4 a b c d) ∨ ∃ e, e ≠ 0 ∧ F20 a b c d = some e := by
  rw [F20_eq]
  cases h1 : inb 1000 a b
  · exact .inr ⟨1, by omega, rfl⟩
  · cases h2 : inb 1000 c d
    · exact .inr ⟨1, by omega, rfl⟩
    · by_cases h3 : a * d - b * c = 0
      · exact .inr ⟨15, by omega, by simp [h3]⟩
      · exact .inl ⟨by simp [h3], F20_ok h1 h2 h3⟩
/-- The squares of a reduced kit against its area. -/
theorem area_of {x y u v : Int} (h : red x y u v) : 3 * (x * x + y * y) * (u * u + v * v) ≤ 4 * ((x * v - y * u) * (x * v - y * u)) := by
  obtain ⟨h1, h2, h3⟩ := h
  have e : (x * v - y * u) * (x * v - y * u) = (x * x + y * y) * (u * u + v * v) - (x * u + y * v) * (x * u + y * v) := by grind
  rw [e]
  have hs : 0 ≤ x * x + y * y := by have := sq_nn x; have := sq_nn y; omega
  generalize x * x + y * y = s at *
  generalize x * u + y * v = t at *
  generalize u * u + v * v = r at *
  have t4 : 4 * (t * t) ≤ s * s := by
    have := mul_le (a := 2 * t) (b := 2 * t) (m := s) (n := s) (by omega) (by omega) hs hs
    have e2 : 2 * t * (2 * t) = 4 * (t * t) := by grind
    omega
  have sr : s * s ≤ s * r := Int.mul_le_mul_of_nonneg_left h1 hs
  have e3 : 3 * s * r = 3 * (s * r) := by grind
  rw [e3]
  omega

theorem F56_eq (a b : Int) : F56 a b = some (inb 100000000 a b) := by
  unfold F56 inb
  rw [F73_eq, F73_eq]
  by_cases h1 : -100000000 ≤ a ∧ a ≤ 100000000 <;> simp [h1]

/-! ### Counting -/
/-- So many pairs are such. -/
def Counts (S : Int × Int → Prop) (n : Nat) : Prop := ∃ l : List (Int × Int), l.Nodup ∧ (∀ c, c ∈ l ↔ S c) ∧ n = l.length
theorem len_le {α : Type} [DecidableEq α] : ∀ {l m : List α}, l.Nodup → (∀ x ∈ l, x ∈ m) → l.length ≤ m.length
  | [], m, _, _ => Nat.zero_le _
  | x :: l, m, hn, hs => by
    have hn' := List.nodup_cons.1 hn
    have hx := hs x (.head _)
    have := len_le (l := l) (m := m.erase x) hn'.2 fun y hy => (List.mem_erase_of_ne (fun (e : y = x) => hn'.1 (by rw [← e]; exact hy))).2 (hs y (.tail _ hy))
    rw [List.length_erase_of_mem hx] at this
    have h0 : 0 < m.length := List.length_pos_of_mem hx
    simp only [List.length_cons]
    omega
theorem Counts.unique {S : Int × Int → Prop} {n m : Nat} (h : Counts S n) (k : Counts S m) : n = m := by
  obtain ⟨l, h1, h2, h3⟩ := h
  obtain ⟨l', k1, k2, k3⟩ := k
  have a := len_le h1 fun x hx => (k2 x).2 ((h2 x).1 hx)
  have b := len_le k1 fun x hx => (h2 x).2 ((k2 x).1 hx)
  omega
theorem nodup_map {α γ : Type} {f : α → γ} (hf : ∀ x y, f x = f y → x = y) : ∀ {l : List α}, l.Nodup → (l.map f).Nodup
  | [], _ => List.nodup_nil
  | x :: l, h => by
    have h' := List.nodup_cons.1 h
    rw [List.map_cons, List.nodup_cons]
    refine ⟨fun hm => ?_, nodup_map hf h'.2⟩
    obtain ⟨y, hy, e⟩ := List.mem_map.1 hm
    exact h'.1 (hf _ _ e ▸ hy)
/-- By other numbers: (m, n) of one kit is (a m + c n, b m + d n) of the other one. -/
theorem Counts.map {S T : Int × Int → Prop} {n : Nat} {i j k l : Int} (hd : i * l - j * k = 1 ∨ i * l - j * k = -1) (hST : ∀ x y, T (x, y) ↔ S (x * i + y * k, x * j + y * l)) (h : Counts T n) : Counts S n := by
  obtain ⟨L, h1, h2, h3⟩ := h
  refine ⟨L.map fun p => (p.1 * i + p.2 * k, p.1 * j + p.2 * l), nodup_map ?_ h1, ?_, by simp [h3]⟩
  · rintro ⟨x, y⟩ ⟨x', y'⟩ he
    simp only [Prod.mk.injEq] at he
    obtain ⟨e1, e2⟩ := he
    have f1 : (i * l - j * k) * x = (x * i + y * k) * l - (x * j + y * l) * k := by grind
    have f2 : (i * l - j * k) * y = (x * j + y * l) * i - (x * i + y * k) * j := by grind
    have g1 : (i * l - j * k) * x' = (x' * i + y' * k) * l - (x' * j + y' * l) * k := by grind
    have g2 : (i * l - j * k) * y' = (x' * j + y' * l) * i - (x' * i + y' * k) * j := by grind
    rw [e1, e2, ← g1] at f1
    rw [e1, e2, ← g2] at f2
    rcases hd with hd | hd <;> rw [hd] at f1 f2 <;> ext <;> simp only <;> omega
  · rintro ⟨X, Y⟩
    rw [List.mem_map]
    constructor
    · rintro ⟨⟨x, y⟩, hm, he⟩
      have := (hST x y).1 ((h2 (x, y)).1 hm)
      simp only [Prod.mk.injEq] at he
      rw [he.1, he.2] at this
      exact this
    · intro hS
      generalize hD : i * l - j * k = D at hd
      have hDD : D * D = 1 := by rcases hd with h | h <;> subst h <;> rfl
      have e1 : D * (X * l - Y * k) * i + D * (Y * i - X * j) * k = X := by
        have : D * (X * l - Y * k) * i + D * (Y * i - X * j) * k = D * (i * l - j * k) * X := by grind
        rw [this, hD, hDD, Int.one_mul]
      have e2 : D * (X * l - Y * k) * j + D * (Y * i - X * j) * l = Y := by
        have : D * (X * l - Y * k) * j + D * (Y * i - X * j) * l = D * (i * l - j * k) * Y := by grind
        rw [this, hD, hDD, Int.one_mul]
      refine ⟨(D * (X * l - Y * k), D * (Y * i - X * j)), ?_, by simp only [e1, e2]⟩
      rw [h2, hST, e1, e2]
      exact hS
/-- n from a number on. -/
def seg (y i : Int) : Nat → List (Int × Int)
  | 0 => []
  | n + 1 => (i, y) :: seg y (i + 1) n
theorem seg_mem {y i : Int} {c : Int × Int} : ∀ {n : Nat}, c ∈ seg y i n ↔ c.2 = y ∧ i ≤ c.1 ∧ c.1 < i + n
  | 0 => by simp [seg]
  | n + 1 => by
    rw [seg, List.mem_cons, seg_mem]
    obtain ⟨a, b⟩ := c
    simp only [Prod.mk.injEq]
    omega
theorem seg_nodup {y i : Int} : ∀ {n : Nat}, (seg y i n).Nodup
  | 0 => List.nodup_nil
  | n + 1 => by
    rw [seg, List.nodup_cons]
    refine ⟨fun h => ?_, seg_nodup⟩
    have := seg_mem.1 h
    simp only at this
    omega
theorem seg_len {y i : Int} : ∀ {n : Nat}, (seg y i n).length = n
  | 0 => rfl
  | n + 1 => by rw [seg, List.length_cons, seg_len]
theorem Counts.zero {S : Int × Int → Prop} (h : ∀ c, ¬ S c) : Counts S 0 := ⟨[], List.nodup_nil, fun c => ⟨fun hc => (by cases hc), fun hc => absurd hc (h c)⟩, rfl⟩
theorem Counts.add {S T U : Int × Int → Prop} {n m : Nat} (h : Counts S n) (k : Counts T m) (hST : ∀ c, S c → T c → False) (hU : ∀ c, U c ↔ S c ∨ T c) : Counts U (n + m) := by
  obtain ⟨l, h1, h2, h3⟩ := h
  obtain ⟨l', k1, k2, k3⟩ := k
  refine ⟨l ++ l', ?_, fun c => ?_, by rw [List.length_append, h3, k3]⟩
  · rw [List.nodup_append]
    exact ⟨h1, k1, fun a ha b hb e => hST a ((h2 a).1 ha) ((k2 a).1 (e ▸ hb))⟩
  · rw [List.mem_append, h2, k2, hU]
theorem Counts.seg {y i : Int} {n : Nat} : Counts (fun c => c.2 = y ∧ i ≤ c.1 ∧ c.1 < i + n) n := ⟨Ytenjelagfbceeaa.seg y i n, seg_nodup, fun c => seg_mem, seg_len.symm⟩
theorem Counts.congr {S T : Int × Int → Prop} {n : Nat} (h : Counts S n) (hST : ∀ c, S c ↔ T c) : Counts T n := by
  obtain ⟨l, h1, h2, h3⟩ := h
  exact ⟨l, h1, fun c => (h2 c).trans (hST c), h3⟩
/-! ### Greater bounds -/
theorem F53_big {u v n x y : Int} (hu : -1000000000000000000 ≤ u ∧ u ≤ 1000000000000000000) (hv : -1000000000000000000 ≤ v ∧ v ≤ 1000000000000000000) (hn : -2000000000000000 ≤ n ∧ n ≤ 2000000000000000) (hx : -1500 ≤ x ∧ x ≤ 1500) (hy : -1500 ≤ y ∧ y ≤ 1500) :
    F53 u v n x y = some (u + n * x, v + n * y) := by
  have h1 := mul_le (m := 2000000000000000) (n := 1500) hn hx (by omega) (by omega)
  have h2 := mul_le (m := 2000000000000000) (n := 1500) hn hy (by omega) (by omega)
  unfold F53
  rw [w64_id (x := n * x) (by omega) (by omega), w64_id (x := n * y) (by omega) (by omega), w64_id (x := u + n * x) (by omega) (by omega), w64_id (x := v + n * y) (by omega) (by omega)]
theorem F72_big {a b c d : Int} (ha : -1000000000000 ≤ a ∧ a ≤ 1000000000000) (hb : -1000000000000 ≤ b ∧ b ≤ 1000000000000) (hc : -1500 ≤ c ∧ c ≤ 1500) (hd : -1500 ≤ d ∧ d ≤ 1500) : F72 a b c d = some (a * c + b * d) := by
  have h1 := mul_le (m := 1000000000000) (n := 1500) ha hc (by omega) (by omega)
  have h2 := mul_le (m := 1000000000000) (n := 1500) hb hd (by omega) (by omega)
  unfold F72
  rw [w64_id (x := a * c) (by omega) (by omega), w64_id (x := b * d) (by omega) (by omega), w64_id (by omega) (by omega)]
theorem F72_sq {a b : Int} (ha : -100000000 ≤ a ∧ a ≤ 100000000) (hb : -100000000 ≤ b ∧ b ≤ 100000000) : F72 a b a b = some (a * a + b * b) := by
  have h1 := mul_le (m := 100000000) (n := 100000000) ha ha (by omega) (by omega)
  have h2 := mul_le (m := 100000000) (n := 100000000) hb hb (by omega) (by omega)
  unfold F72
  rw [w64_id (x := a * a) (by omega) (by omega), w64_id (x := b * b) (by omega) (by omega), w64_id (by omega) (by omega)]
theorem F63_sq {a b : Int} (ha : -100000000 ≤ a ∧ a ≤ 100000000) (hb : -100000000 ≤ b ∧ b ≤ 100000000) : F63 a b = some (a * a + b * b) := by
  unfold F63
  rw [F72_sq ha hb]
  rfl
theorem F69_pos {n d : Int} (hd : 0 < d) (hd2 : d ≤ 1000000000000) (hn : -4000000000000000000 ≤ n ∧ n ≤ 4000000000000000000) : F69 n d = some (n / d) := by
  unfold F69
  have h1 : ¬ d < 0 := by omega
  have h2 : ¬ d = 0 := by omega
  have ht : -d < Int.tmod n d ∧ Int.tmod n d < d := ⟨Int.lt_tmod_of_pos n hd, Int.tmod_lt_of_pos n hd⟩
  simp only [h1, h2, decide_false, Bool.false_eq_true, if_false, Option.bind_eq_bind, Option.bind_some]
  rw [w64_id (x := Int.tmod n d + d) (by omega) (by omega), tmod_up hd]
  have h3 := Int.emod_nonneg n (b := d) (by omega)
  have h4 := Int.emod_lt_of_pos n hd
  have h5 := Int.mul_ediv_add_emod n d
  rw [w64_id (x := n - n % d) (by omega) (by omega)]
  have h6 : n - n % d = d * (n / d) := by omega
  rw [h6, Int.mul_tdiv_cancel_left _ h2]
  have h7 : -4000000000000000001 ≤ n / d := by
    rw [Int.le_ediv_iff_mul_le hd]
    have : -4000000000000000001 * d ≤ -4000000000000000001 * 1 := Int.mul_le_mul_of_nonpos_left (by omega) (by omega)
    omega
  have h8 : n / d ≤ 4000000000000000001 := by
    have : n / d < 4000000000000000001 := by
      rw [Int.ediv_lt_iff_lt_mul hd]
      have : 4000000000000000001 * 1 ≤ 4000000000000000001 * d := Int.mul_le_mul_of_nonneg_left (by omega) (by omega)
      omega
    omega
  rw [w64_id (by omega) (by omega)]
theorem div_spec {n d : Int} (hd : 0 < d) : (n / d) * d ≤ n ∧ n < (n / d + 1) * d := ⟨Int.ediv_mul_le n (by omega), Int.lt_ediv_add_one_mul_self n hd⟩
theorem div_bd {n d m : Int} (hd : 0 < d) (hm : 0 ≤ m) (h : -m ≤ n ∧ n ≤ m) : -(m + 1) ≤ n / d ∧ n / d ≤ m + 1 := by
  constructor
  · rw [Int.le_ediv_iff_mul_le hd]
    have : -(m + 1) * d ≤ -(m + 1) * 1 := Int.mul_le_mul_of_nonpos_left (by omega) (by omega)
    omega
  · have : n / d < m + 1 := by
      rw [Int.ediv_lt_iff_lt_mul hd]
      have : (m + 1) * 1 ≤ (m + 1) * d := Int.mul_le_mul_of_nonneg_left (by omega) (by omega)
      omega
    omega
/-- The quotient, whatever the divisor's sign, by the divisor made positive. -/
theorem F69_any {n d : Int} (hd : d ≠ 0) (hd2 : -1000000000000 ≤ d ∧ d ≤ 1000000000000) (hn : -4000000000000000000 ≤ n ∧ n ≤ 4000000000000000000) : F69 n d = some (if 0 < d then n / d else (-n) / (-d)) := by
  by_cases h : 0 < d
  · rw [if_pos h]
    exact F69_pos h hd2.2 hn
  · rw [if_neg h]
    have h1 : d < 0 := by omega
    have : F69 n d = F69 (-n) (-d) := by
      unfold F69
      have h2 : ¬ -d < 0 := by omega
      simp only [h1, h2, decide_true, decide_false, if_true, Bool.false_eq_true, if_false, Option.bind_eq_bind, Option.bind_some]
      rw [w64_id (x := 0 - n) (by omega) (by omega), w64_id (x := 0 - d) (by omega) (by omega)]
      simp only [Int.zero_sub]
    rw [this]
    exact F69_pos (by omega) (by omega) (by omega)

/-! ### The iron's neighbours -/
/-- A reduced kit, an iron and a square, within the bounds. -/
structure Ctx (x y u v e f q : Int) : Prop where
  bx : -1500 ≤ x ∧ x ≤ 1500
  by' : -1500 ≤ y ∧ y ≤ 1500
  bu : -1500 ≤ u ∧ u ≤ 1500
  bv : -1500 ≤ v ∧ v ≤ 1500
  be : -10000 ≤ e ∧ e ≤ 10000
  bf : -10000 ≤ f ∧ f ≤ 10000
  bq : 0 ≤ q ∧ q ≤ 1000000000
  nd : x * v - y * u ≠ 0
/-- The choices with a small rest, by bundles. -/
def Near (x y u v e f q : Int) (c : Int × Int) : Prop := (e + c.1 * x + c.2 * u) * (e + c.1 * x + c.2 * u) + (f + c.1 * y + c.2 * v) * (f + c.1 * y + c.2 * v) ≤ q
section
variable {x y u v e f q : Int}
theorem Ctx.sa (C : Ctx x y u v e f q) : 0 < x * x + y * y ∧ x * x + y * y ≤ 4500000 := by
  have h1 := mul_le (m := 1500) (n := 1500) C.bx C.bx (by omega) (by omega)
  have h2 := mul_le (m := 1500) (n := 1500) C.by' C.by' (by omega) (by omega)
  have n1 := sq_nn x
  have n2 := sq_nn y
  refine ⟨?_, by omega⟩
  apply Classical.byContradiction
  intro hc
  have hx := sq_bd (a := x) (m := 0) (by omega) (by omega)
  have hy := sq_bd (a := y) (m := 0) (by omega) (by omega)
  apply C.nd
  have : x = 0 := by omega
  have : y = 0 := by omega
  subst x; subst y
  simp
theorem Ctx.db (C : Ctx x y u v e f q) : -4500000 ≤ x * v - y * u ∧ x * v - y * u ≤ 4500000 := by
  have h1 := mul_le (m := 1500) (n := 1500) C.bx C.bv (by omega) (by omega)
  have h2 := mul_le (m := 1500) (n := 1500) C.by' C.bu (by omega) (by omega)
  omega
end
/-- How far: so many areas are too much, and are no great number. -/
structure Wide (d Q N : Int) : Prop where
  nn : 0 ≤ N
  sm : N * (d.natAbs : Int) ≤ 72000000
  gt : Q < N * N * (d * d)
theorem sq_abs (d : Int) : d * d = (d.natAbs : Int) * (d.natAbs : Int) := (Int.natAbs_mul_self' d).symm
theorem wide_step {d Q n : Int} (hd : d ≠ 0) (hdb : -4500000 ≤ d ∧ d ≤ 4500000) (hQ : Q ≤ 4500000000000000) (hn : 0 ≤ n) (h : n * n * (d * d) ≤ Q) : (n + 1) * (d.natAbs : Int) ≤ 72000000 := by
  have e : n * n * (d * d) = (n * (d.natAbs : Int)) * (n * (d.natAbs : Int)) := by rw [sq_abs d]; grind
  have := sq_bd (a := n * (d.natAbs : Int)) (m := 67500000) (by omega) (by omega)
  have e2 : (n + 1) * (d.natAbs : Int) = n * (d.natAbs : Int) + (d.natAbs : Int) := by grind
  omega
theorem wide_w64 {d n : Int} (hd : d ≠ 0) (hn : 0 ≤ n) (h : n * (d.natAbs : Int) ≤ 72000000) : w64 (w64 (w64 (n * n) * d) * d) = n * n * (d * d) ∧ n ≤ 72000000 := by
  have h1 : n * 1 ≤ n * (d.natAbs : Int) := Int.mul_le_mul_of_nonneg_left (by omega) hn
  have hn2 : n ≤ 72000000 := by omega
  have a1 := mul_le (a := n) (b := n) (m := 72000000) (n := 72000000) (by omega) (by omega) (by omega) (by omega)
  have hnd : -72000000 ≤ n * d ∧ n * d ≤ 72000000 := by
    have e : (n * d).natAbs = n.natAbs * d.natAbs := Int.natAbs_mul n d
    have e2 : ((n.natAbs * d.natAbs : Nat) : Int) = n * (d.natAbs : Int) := by rw [Int.natCast_mul, Int.natAbs_of_nonneg hn]
    omega
  have a2 := mul_le (a := n) (b := n * d) (m := 72000000) (n := 72000000) (by omega) hnd (by omega) (by omega)
  have a3 := mul_le (a := n * d) (b := n * d) (m := 72000000) (n := 72000000) hnd hnd (by omega) (by omega)
  have e1 : n * n * d = n * (n * d) := by grind
  have e2 : n * n * d * d = n * d * (n * d) := by grind
  have e3 : n * n * (d * d) = n * d * (n * d) := by grind
  refine ⟨?_, hn2⟩
  rw [w64_id (x := n * n) (by omega) (by omega), w64_id (x := n * n * d) (by omega) (by omega), w64_id (x := n * n * d * d) (by omega) (by omega)]
  omega
/-- Numbers of a line that are not too far lie around the quotient. -/
theorem in_range {w d N Q j n0 : Int} (hd : d ≠ 0) (W : Wide d Q N) (hj : (w + j * d) * (w + j * d) ≤ Q) (h0 : n0 = if 0 < d then (-w) / d else w / (-d)) : n0 - N ≤ j ∧ j ≤ n0 + N := by
  have hlt : (w + j * d) * (w + j * d) < (N * (d.natAbs : Int)) * (N * (d.natAbs : Int)) := by
    have e : N * N * (d * d) = (N * (d.natAbs : Int)) * (N * (d.natAbs : Int)) := by rw [sq_abs d]; grind
    have := W.gt
    omega
  have hNd : 0 ≤ N * (d.natAbs : Int) := Int.mul_nonneg W.nn (by omega)
  have b1 : w + j * d < N * (d.natAbs : Int) := by
    apply Classical.byContradiction
    intro hc
    have := Int.mul_le_mul (show N * (d.natAbs : Int) ≤ w + j * d by omega) (show N * (d.natAbs : Int) ≤ w + j * d by omega) hNd (by omega)
    omega
  have b2 : -(N * (d.natAbs : Int)) < w + j * d := by
    apply Classical.byContradiction
    intro hc
    have := Int.mul_le_mul (show N * (d.natAbs : Int) ≤ -(w + j * d) by omega) (show N * (d.natAbs : Int) ≤ -(w + j * d) by omega) hNd (by omega)
    have e : -(w + j * d) * -(w + j * d) = (w + j * d) * (w + j * d) := by grind
    omega
  by_cases hp : 0 < d
  · rw [if_pos hp] at h0
    have hs := div_spec (n := -w) hp
    rw [← h0] at hs
    have ea : (d.natAbs : Int) = d := by omega
    rw [ea] at b1 b2
    have c1 : j * d < (n0 + N + 1) * d := by
      have : (n0 + N + 1) * d = (n0 + 1) * d + N * d := by grind
      omega
    have c2 : (n0 - N - 1) * d < j * d := by
      have : (n0 - N - 1) * d = n0 * d - N * d - d := by grind
      omega
    have := Int.lt_of_mul_lt_mul_right c1 (by omega)
    have := Int.lt_of_mul_lt_mul_right c2 (by omega)
    omega
  · rw [if_neg hp] at h0
    have hm : 0 < -d := by omega
    have hs := div_spec (n := w) hm
    rw [← h0] at hs
    have ea : (d.natAbs : Int) = -d := by omega
    rw [ea] at b1 b2
    have ej : j * d = -(j * -d) := by grind
    have c1 : j * -d < (n0 + N + 1) * -d := by
      have : (n0 + N + 1) * -d = (n0 + 1) * -d + N * -d := by grind
      omega
    have c2 : (n0 - N - 1) * -d < j * -d := by
      have : (n0 - N - 1) * -d = n0 * -d - N * -d - -d := by grind
      omega
    have := Int.lt_of_mul_lt_mul_right c1 (by omega)
    have := Int.lt_of_mul_lt_mul_right c2 (by omega)
    omega
/-- A line of the range is not far. -/
theorem line_bd {w d N j n0 : Int} (hd : d ≠ 0) (hdb : -4500000 ≤ d ∧ d ≤ 4500000) (hN : 0 ≤ N) (sm : N * (d.natAbs : Int) ≤ 72000000) (h0 : n0 = if 0 < d then (-w) / d else w / (-d)) (hj : n0 - N ≤ j ∧ j ≤ n0 + N + 1) : -81000000 ≤ w + j * d ∧ w + j * d ≤ 81000000 := by
  by_cases hp : 0 < d
  · rw [if_pos hp] at h0
    have hs := div_spec (n := -w) hp
    rw [← h0] at hs
    have ea : (d.natAbs : Int) = d := by omega
    rw [ea] at sm
    have c1 : j * d ≤ (n0 + N + 1) * d := Int.mul_le_mul_of_nonneg_right (by omega) (by omega)
    have c2 : (n0 - N) * d ≤ j * d := Int.mul_le_mul_of_nonneg_right (by omega) (by omega)
    have e1 : (n0 + N + 1) * d = n0 * d + N * d + d := by grind
    have e2 : (n0 - N) * d = n0 * d - N * d := by grind
    have e3 : (n0 + 1) * d = n0 * d + d := by grind
    omega
  · rw [if_neg hp] at h0
    have hm : 0 < -d := by omega
    have hs := div_spec (n := w) hm
    rw [← h0] at hs
    have ea : (d.natAbs : Int) = -d := by omega
    rw [ea] at sm
    have ej : j * d = -(j * -d) := by grind
    have c1 : j * -d ≤ (n0 + N + 1) * -d := Int.mul_le_mul_of_nonneg_right (by omega) (by omega)
    have c2 : (n0 - N) * -d ≤ j * -d := Int.mul_le_mul_of_nonneg_right (by omega) (by omega)
    have e1 : (n0 + N + 1) * -d = n0 * -d + N * -d + -d := by grind
    have e2 : (n0 - N) * -d = n0 * -d - N * -d := by grind
    have e3 : (n0 + 1) * -d = n0 * -d + -d := by grind
    omega
/-- The area with a rest against its square. -/
theorem cross_le {x y X Y q : Int} (h : X * X + Y * Y ≤ q) : (x * Y - y * X) * (x * Y - y * X) ≤ q * (x * x + y * y) := by
  have e : (x * Y - y * X) * (x * Y - y * X) = (X * X + Y * Y) * (x * x + y * y) - (x * X + y * Y) * (x * X + y * Y) := by grind
  have n0 := sq_nn (x * X + y * Y)
  have n1 := sq_nn x
  have n2 := sq_nn y
  have := Int.mul_le_mul_of_nonneg_right h (show 0 ≤ x * x + y * y by omega)
  omega
/-! ### One line -/
/-- The square of a line's i-th rest. -/
def fq (X Y x y i : Int) : Int := (X + i * x) * (X + i * x) + (Y + i * y) * (Y + i * y)
theorem fq_step (X Y x y i : Int) : fq X Y x y (i + 1) = fq X Y x y i + (2 * (X * x + Y * y) + 2 * (i * (x * x + y * y)) + (x * x + y * y)) := by unfold fq; grind
theorem fq_nn (X Y x y i : Int) : 0 ≤ fq X Y x y i := by
  have := sq_nn (X + i * x)
  have := sq_nn (Y + i * y)
  unfold fq
  omega
/-- i0 is the nearest one of the line. -/
structure Mid (X Y x y i0 : Int) : Prop where
  lo : -(x * x + y * y) < 2 * (X * x + Y * y) + 2 * (i0 * (x * x + y * y))
  hi : 2 * (X * x + Y * y) + 2 * (i0 * (x * x + y * y)) ≤ x * x + y * y
section
variable {X Y x y i0 : Int}
theorem Mid.up (M : Mid X Y x y i0) (hs : 0 < x * x + y * y) (k : Nat) : fq X Y x y (i0 + k) ≤ fq X Y x y (i0 + k + 1) ∧ (k : Int) * ((k : Int) - 1) ≤ fq X Y x y (i0 + k) := by
  have e : ∀ k : Int, (i0 + k) * (x * x + y * y) = i0 * (x * x + y * y) + k * (x * x + y * y) := fun k => by grind
  have step : ∀ k : Nat, fq X Y x y (i0 + k + 1) ≥ fq X Y x y (i0 + k) + 2 * (k : Int) := fun k => by
    have h1 := fq_step X Y x y (i0 + k)
    rw [e] at h1
    have h2 : (k : Int) * 1 ≤ (k : Int) * (x * x + y * y) := Int.mul_le_mul_of_nonneg_left (by omega) (by omega)
    have := M.lo
    omega
  refine ⟨by have := step k; omega, ?_⟩
  induction k with
  | zero => have := fq_nn X Y x y (i0 + (0 : Nat)); simpa using this
  | succ k ih =>
    have h1 := step k
    have e2 : ((k + 1 : Nat) : Int) * (((k + 1 : Nat) : Int) - 1) = (k : Int) * ((k : Int) - 1) + 2 * (k : Int) := by
      rw [Int.natCast_add]
      grind
    have e3 : i0 + ((k + 1 : Nat) : Int) = i0 + (k : Int) + 1 := by omega
    rw [e2, e3]
    omega
theorem Mid.down (M : Mid X Y x y i0) (hs : 0 < x * x + y * y) (k : Nat) : fq X Y x y (i0 - k) ≤ fq X Y x y (i0 - k - 1) ∧ (k : Int) * ((k : Int) - 1) ≤ fq X Y x y (i0 - k) := by
  have e : ∀ k : Int, (i0 - k - 1) * (x * x + y * y) = i0 * (x * x + y * y) - k * (x * x + y * y) - (x * x + y * y) := fun k => by grind
  have step : ∀ k : Nat, fq X Y x y (i0 - k - 1) ≥ fq X Y x y (i0 - k) + 2 * (k : Int) := fun k => by
    have h1 := fq_step X Y x y (i0 - k - 1)
    rw [e] at h1
    have e2 : i0 - (k : Int) - 1 + 1 = i0 - k := by omega
    rw [e2] at h1
    have h2 : (k : Int) * 1 ≤ (k : Int) * (x * x + y * y) := Int.mul_le_mul_of_nonneg_left (by omega) (by omega)
    have := M.hi
    omega
  refine ⟨by have := step k; omega, ?_⟩
  induction k with
  | zero => have := fq_nn X Y x y (i0 - (0 : Nat)); simpa using this
  | succ k ih =>
    have h1 := step k
    have e2 : ((k + 1 : Nat) : Int) * (((k + 1 : Nat) : Int) - 1) = (k : Int) * ((k : Int) - 1) + 2 * (k : Int) := by
      rw [Int.natCast_add]
      grind
    have e3 : i0 - ((k + 1 : Nat) : Int) = i0 - (k : Int) - 1 := by omega
    rw [e2, e3]
    omega
/-- Behind one that is too great all are. -/
theorem Mid.all_up (M : Mid X Y x y i0) (hs : 0 < x * x + y * y) {q : Int} {K : Nat} (h : q < fq X Y x y (i0 + K)) : ∀ (i : Int), i0 + K ≤ i → q < fq X Y x y i := by
  have : ∀ m : Nat, q < fq X Y x y (i0 + (K + m : Nat)) := fun m => by
    induction m with
    | zero => exact h
    | succ m ih =>
      have := (M.up hs (K + m)).1
      have e : i0 + ((K + (m + 1) : Nat) : Int) = i0 + ((K + m : Nat) : Int) + 1 := by omega
      rw [e]
      omega
  intro i hi
  have := this (i - i0 - K).toNat
  rwa [show i0 + ((K + (i - i0 - K).toNat : Nat) : Int) = i by omega] at this
theorem Mid.all_down (M : Mid X Y x y i0) (hs : 0 < x * x + y * y) {q : Int} {K : Nat} (h : q < fq X Y x y (i0 - K)) : ∀ (i : Int), i ≤ i0 - K → q < fq X Y x y i := by
  have : ∀ m : Nat, q < fq X Y x y (i0 - (K + m : Nat)) := fun m => by
    induction m with
    | zero => exact h
    | succ m ih =>
      have := (M.down hs (K + m)).1
      have e : i0 - ((K + (m + 1) : Nat) : Int) = i0 - ((K + m : Nat) : Int) - 1 := by omega
      rw [e]
      omega
  intro i hi
  have := this (i0 - K - i).toNat
  rwa [show i0 - ((K + (i0 - K - i).toNat : Nat) : Int) = i by omega] at this
end
theorem k_bd {k : Nat} {q : Int} (h : (k : Int) * ((k : Int) - 1) ≤ q) (hq : q ≤ 1000000000) : k ≤ 40000 := by
  apply Classical.byContradiction
  intro hc
  have := Int.mul_le_mul (show (40000 : Int) ≤ (k : Int) by omega) (show (40000 : Int) ≤ (k : Int) - 1 by omega) (by omega) (by omega)
  omega
theorem coord_bd {X Y q : Int} (h : X * X + Y * Y ≤ q) (hq : q ≤ 1000000000) : (-31623 ≤ X ∧ X ≤ 31623) ∧ (-31623 ≤ Y ∧ Y ≤ 31623) := by
  have n1 := sq_nn X
  have n2 := sq_nn Y
  exact ⟨sq_bd (by omega) (by omega), sq_bd (by omega) (by omega)⟩
/-- Upwards. -/
theorem F34l1_eq {x y u v e f q X Y i0 : Int} (C : Ctx x y u v e f q) (M : Mid X Y x y i0) (hX : -90000000 ≤ X + i0 * x ∧ X + i0 * x ≤ 90000000) (hY : -90000000 ≤ Y + i0 * y ∧ Y + i0 * y ≤ 90000000)
    {p4 p5 : Int} {r16 r18 v78 : Int} {r138 : Int × Int} {r146 : Int} {i j k l : Int} : ∀ (m n : Nat) (acc : Int), n + m = 40001 → 0 ≤ acc → acc ≤ 1000000000000000 → (∀ t : Nat, t < n → fq X Y x y (i0 + t) ≤ q) →
    ∃ K : Nat, F34l1 p4 p5 q (((x, y), (u, v)), (i, j), (k, l)) r16 r18 r138 r146 v78 (acc + n) (X + (i0 + n) * x) (Y + (i0 + n) * y) = some (acc + K) ∧ K ≤ 40001 ∧ (∀ t : Nat, t < K → fq X Y x y (i0 + t) ≤ q) ∧ q < fq X Y x y (i0 + K) := by
  have hs := C.sa.1
  have hq := C.bq
  intro m
  induction m with
  | zero =>
    intro n acc hn h0 h1 hall
    exfalso
    have h2 := hall 40000 (by omega)
    have h3 := (M.up hs 40000).2
    simp at h3 h2
    omega
  | succ m ih =>
    intro n acc hn h0 h1 hall
    have hb : (-100000000 ≤ X + (i0 + n) * x ∧ X + (i0 + n) * x ≤ 100000000) ∧ (-100000000 ≤ Y + (i0 + n) * y ∧ Y + (i0 + n) * y ≤ 100000000) := by
      cases n with
      | zero => simp only [Int.natCast_zero, Int.add_zero]; omega
      | succ n =>
        have h2 := hall n (by omega)
        unfold fq at h2
        have := coord_bd h2 hq.2
        have e1 : X + (i0 + ((n + 1 : Nat) : Int)) * x = X + (i0 + (n : Int)) * x + x := by rw [Int.natCast_add]; grind
        have e2 : Y + (i0 + ((n + 1 : Nat) : Int)) * y = Y + (i0 + (n : Int)) * y + y := by rw [Int.natCast_add]; grind
        have bx := C.bx
        have by' := C.by'
        rw [e1, e2]
        omega
    rw [F34l1_fix]
    simp only [Option.bind_eq_bind]
    rw [F63_sq hb.1 hb.2, Option.bind_some]
    by_cases hle : fq X Y x y (i0 + n) ≤ q
    · have hle' : (X + (i0 + (n : Int)) * x) * (X + (i0 + (n : Int)) * x) + (Y + (i0 + (n : Int)) * y) * (Y + (i0 + (n : Int)) * y) ≤ q := hle
      simp only [hle', decide_true, if_true]
      rw [F53_big (by omega) (by omega) (by omega) C.bx C.by', Option.bind_some, w64_id (x := acc + n + 1) (by omega) (by omega)]
      have e1 : X + (i0 + (n : Int)) * x + 1 * x = X + (i0 + ((n + 1 : Nat) : Int)) * x := by rw [Int.natCast_add]; grind
      have e2 : Y + (i0 + (n : Int)) * y + 1 * y = Y + (i0 + ((n + 1 : Nat) : Int)) * y := by rw [Int.natCast_add]; grind
      have e3 : acc + (n : Int) + 1 = acc + ((n + 1 : Nat) : Int) := by omega
      simp only [e1, e2, e3]
      refine ih (n + 1) acc (by omega) h0 h1 fun t ht => ?_
      by_cases htn : t = n
      · subst htn; exact hle
      · exact hall t (by omega)
    · have hle' : ¬ (X + (i0 + (n : Int)) * x) * (X + (i0 + (n : Int)) * x) + (Y + (i0 + (n : Int)) * y) * (Y + (i0 + (n : Int)) * y) ≤ q := hle
      simp only [hle', decide_false, Bool.false_eq_true, if_false]
      exact ⟨n, rfl, by omega, hall, by omega⟩
/-- Downwards. -/
theorem F34l2_eq {x y u v e f q X Y i0 : Int} (C : Ctx x y u v e f q) (M : Mid X Y x y i0) (hX : -90000000 ≤ X + i0 * x ∧ X + i0 * x ≤ 90000000) (hY : -90000000 ≤ Y + i0 * y ∧ Y + i0 * y ≤ 90000000)
    {p4 p5 : Int} {r16 r18 v78 : Int} {i j k l : Int} : ∀ (m n : Nat) (acc : Int), n + m = 40001 → 0 ≤ acc → acc ≤ 1000000000000000 → (∀ t : Nat, t < n → fq X Y x y (i0 - t - 1) ≤ q) →
    ∃ K : Nat, F34l2 p4 p5 q (((x, y), (u, v)), (i, j), (k, l)) r16 r18 v78 (acc + n) (X + (i0 - n - 1) * x) (Y + (i0 - n - 1) * y) = some (acc + K) ∧ K ≤ 40001 ∧ (∀ t : Nat, t < K → fq X Y x y (i0 - t - 1) ≤ q) ∧ q < fq X Y x y (i0 - K - 1) := by
  have hs := C.sa.1
  have hq := C.bq
  intro m
  induction m with
  | zero =>
    intro n acc hn h0 h1 hall
    exfalso
    have h2 := hall 40000 (by omega)
    have h3 := (M.down hs 40001).2
    have e : i0 - ((40000 : Nat) : Int) - 1 = i0 - ((40001 : Nat) : Int) := by omega
    rw [e] at h2
    simp at h3 h2
    omega
  | succ m ih =>
    intro n acc hn h0 h1 hall
    have bx := C.bx
    have by' := C.by'
    have hb : (-100000000 ≤ X + (i0 - n - 1) * x ∧ X + (i0 - n - 1) * x ≤ 100000000) ∧ (-100000000 ≤ Y + (i0 - n - 1) * y ∧ Y + (i0 - n - 1) * y ≤ 100000000) := by
      cases n with
      | zero =>
        have e1 : X + (i0 - ((0 : Nat) : Int) - 1) * x = X + i0 * x - x := by simp only [Int.natCast_zero, Int.sub_zero]; grind
        have e2 : Y + (i0 - ((0 : Nat) : Int) - 1) * y = Y + i0 * y - y := by simp only [Int.natCast_zero, Int.sub_zero]; grind
        rw [e1, e2]
        omega
      | succ n =>
        have h2 := hall n (by omega)
        unfold fq at h2
        have := coord_bd h2 hq.2
        have e1 : X + (i0 - ((n + 1 : Nat) : Int) - 1) * x = X + (i0 - (n : Int) - 1) * x - x := by rw [Int.natCast_add]; grind
        have e2 : Y + (i0 - ((n + 1 : Nat) : Int) - 1) * y = Y + (i0 - (n : Int) - 1) * y - y := by rw [Int.natCast_add]; grind
        rw [e1, e2]
        omega
    rw [F34l2_fix]
    simp only [Option.bind_eq_bind]
    rw [F63_sq hb.1 hb.2, Option.bind_some]
    by_cases hle : fq X Y x y (i0 - n - 1) ≤ q
    · have hle' : (X + (i0 - (n : Int) - 1) * x) * (X + (i0 - (n : Int) - 1) * x) + (Y + (i0 - (n : Int) - 1) * y) * (Y + (i0 - (n : Int) - 1) * y) ≤ q := hle
      simp only [hle', decide_true, if_true]
      rw [F53_big (by omega) (by omega) (by omega) C.bx C.by', Option.bind_some, w64_id (x := acc + n + 1) (by omega) (by omega)]
      have e1 : X + (i0 - (n : Int) - 1) * x + -1 * x = X + (i0 - ((n + 1 : Nat) : Int) - 1) * x := by rw [Int.natCast_add]; grind
      have e2 : Y + (i0 - (n : Int) - 1) * y + -1 * y = Y + (i0 - ((n + 1 : Nat) : Int) - 1) * y := by rw [Int.natCast_add]; grind
      have e3 : acc + (n : Int) + 1 = acc + ((n + 1 : Nat) : Int) := by omega
      simp only [e1, e2, e3]
      refine ih (n + 1) acc (by omega) h0 h1 fun t ht => ?_
      by_cases htn : t = n
      · subst htn; exact hle
      · exact hall t (by omega)
    · have hle' : ¬ (X + (i0 - (n : Int) - 1) * x) * (X + (i0 - (n : Int) - 1) * x) + (Y + (i0 - (n : Int) - 1) * y) * (Y + (i0 - (n : Int) - 1) * y) ≤ q := hle
      simp only [hle', decide_false, Bool.false_eq_true, if_false]
      exact ⟨n, rfl, by omega, hall, by omega⟩
/-- The choices of a line. -/
theorem row_counts {x y u v e f q X Y i0 j : Int} (M : Mid X Y x y i0) (hs : 0 < x * x + y * y) (eX : X = e + j * u) (eY : Y = f + j * v) {K1 K2 : Nat} (a1 : ∀ t : Nat, t < K1 → fq X Y x y (i0 + t) ≤ q) (b1 : q < fq X Y x y (i0 + K1))
    (a2 : ∀ t : Nat, t < K2 → fq X Y x y (i0 - t - 1) ≤ q) (b2 : q < fq X Y x y (i0 - K2 - 1)) : Counts (fun c => Near x y u v e f q c ∧ c.2 = j) (K2 + K1) := by
  refine (Counts.seg (y := j) (i := i0 - K2) (n := K2 + K1)).congr fun c => ?_
  obtain ⟨m, n⟩ := c
  have hfq : n = j → (Near x y u v e f q (m, n) ↔ fq X Y x y m ≤ q) := fun hn => by
    subst hn
    unfold Near fq
    simp only [eX, eY]
    have e1 : e + m * x + n * u = e + n * u + m * x := by omega
    have e2 : f + m * y + n * v = f + n * v + m * y := by omega
    rw [e1, e2]
  constructor
  · rintro ⟨h1, h2, h3⟩
    simp only at h1 h2 h3
    refine ⟨(hfq h1).2 ?_, h1⟩
    by_cases hm : i0 ≤ m
    · have := a1 (m - i0).toNat (by omega)
      rwa [show i0 + ((m - i0).toNat : Int) = m by omega] at this
    · have := a2 (i0 - m - 1).toNat (by omega)
      rwa [show i0 - ((i0 - m - 1).toNat : Int) - 1 = m by omega] at this
  · rintro ⟨h1, h2⟩
    simp only at h2
    have h3 := (hfq h2).1 h1
    refine ⟨h2, ?_, ?_⟩
    · apply Classical.byContradiction
      intro hc
      simp only at hc
      have e3 : i0 - (K2 : Int) - 1 = i0 - ((K2 + 1 : Nat) : Int) := by omega
      rw [e3] at b2
      have := M.all_down hs b2 m (by omega)
      omega
    · apply Classical.byContradiction
      intro hc
      simp only at hc
      have := M.all_up hs b1 m (by omega)
      omega
/-! ### The program's count -/
theorem F70l0_eq {x y u v e f q : Int} (C : Ctx x y u v e f q) {i j k l : Int} : ∀ (m : Nat) (n : Nat), n + m = 72000001 → (n : Int) * ((x * v - y * u).natAbs : Int) ≤ 72000000 →
    ∃ N, F70l0 (x * v - y * u) q x y u v i j k l (n : Int) = some N ∧ Wide (x * v - y * u) (q * (x * x + y * y)) N := by
  have hsa := C.sa
  have hq := C.bq
  have hdb := C.db
  have hd := C.nd
  have bx := C.bx
  have by' := C.by'
  have hQ : q * (x * x + y * y) ≤ 4500000000000000 := by
    have := mul_le (a := q) (b := x * x + y * y) (m := 1000000000) (n := 4500000) (by omega) (by omega) (by omega) (by omega)
    omega
  have hQ0 : 0 ≤ q * (x * x + y * y) := Int.mul_nonneg hq.1 (by omega)
  generalize hdd : x * v - y * u = d at *
  intro m
  induction m with
  | zero =>
    intro n hn h
    exfalso
    have h1 : (n : Int) * 1 ≤ (n : Int) * (d.natAbs : Int) := Int.mul_le_mul_of_nonneg_left (by omega) (by omega)
    omega
  | succ m ih =>
    intro n hn h
    obtain ⟨w1, w2⟩ := wide_w64 hd (n := (n : Int)) (by omega) h
    rw [F70l0_fix]
    unfold F71
    simp only [Option.bind_eq_bind]
    rw [F63_sq (by omega) (by omega)]
    simp only [Option.bind_some]
    rw [w1, w64_id (x := q * (x * x + y * y)) (by omega) (by omega)]
    by_cases hgt : (n : Int) * (n : Int) * (d * d) > q * (x * x + y * y)
    · simp only [hgt, decide_true, if_true, Option.bind_some, Bool.false_eq_true, if_false]
      exact ⟨n, rfl, ⟨by omega, h, hgt⟩⟩
    · simp only [hgt, decide_false, if_true, Option.bind_some, Bool.false_eq_true, if_false]
      have hs := wide_step hd hdb hQ (n := (n : Int)) (by omega) (by omega)
      rw [w64_id (x := (n : Int) + 1) (by omega) (by omega)]
      have e : (n : Int) + 1 = ((n + 1 : Nat) : Int) := by omega
      rw [e] at hs ⊢
      exact ih (n + 1) (by omega) hs
/-- The rest of a line's middle is not far. -/
theorem mid_bd {x y X Y i0 : Int} (hs : 0 < x * x + y * y) (hsb : x * x + y * y ≤ 4500000) (M : Mid X Y x y i0) (hc : -81000000 ≤ x * Y - y * X ∧ x * Y - y * X ≤ 81000000) :
    (-90000000 ≤ X + i0 * x ∧ X + i0 * x ≤ 90000000) ∧ (-90000000 ≤ Y + i0 * y ∧ Y + i0 * y ≤ 90000000) := by
  have e : ((X + i0 * x) * (X + i0 * x) + (Y + i0 * y) * (Y + i0 * y)) * (x * x + y * y) = (x * Y - y * X) * (x * Y - y * X) + ((X + i0 * x) * x + (Y + i0 * y) * y) * ((X + i0 * x) * x + (Y + i0 * y) * y) := by grind
  have ep : (X + i0 * x) * x + (Y + i0 * y) * y = (X * x + Y * y) + i0 * (x * x + y * y) := by grind
  have hp : -4500000 ≤ (X + i0 * x) * x + (Y + i0 * y) * y ∧ (X + i0 * x) * x + (Y + i0 * y) * y ≤ 4500000 := by
    rw [ep]
    have := M.lo
    have := M.hi
    omega
  have p1 := mul_le (m := 81000000) (n := 81000000) hc hc (by omega) (by omega)
  have p2 := mul_le (m := 4500000) (n := 4500000) hp hp (by omega) (by omega)
  have n1 := sq_nn (X + i0 * x)
  have n2 := sq_nn (Y + i0 * y)
  have hle : ((X + i0 * x) * (X + i0 * x) + (Y + i0 * y) * (Y + i0 * y)) * 1 ≤ ((X + i0 * x) * (X + i0 * x) + (Y + i0 * y) * (Y + i0 * y)) * (x * x + y * y) := Int.mul_le_mul_of_nonneg_left (by omega) (by omega)
  exact ⟨sq_bd (by omega) (by omega), sq_bd (by omega) (by omega)⟩
theorem F34l0_eq {x y u v e f q n0 N : Int} (C : Ctx x y u v e f q) (W : Wide (x * v - y * u) (q * (x * x + y * y)) N) (h0 : n0 = if 0 < x * v - y * u then (-(x * f - y * e)) / (x * v - y * u) else (x * f - y * e) / (-(x * v - y * u)))
    (hn0 : -30000001 ≤ n0 ∧ n0 ≤ 30000001) {i j k l : Int} : ∀ (m : Nat) (J acc : Int), J + m = n0 + N + 2 → n0 - N ≤ J → 0 ≤ acc → acc ≤ 80002 * (J - (n0 - N)) → Counts (fun c => Near x y u v e f q c ∧ n0 - N ≤ c.2 ∧ c.2 < J) acc.toNat →
    ∃ r, F34l0 e f q (((x, y), (u, v)), (i, j), (k, l)) n0 N acc J = some r ∧ 0 ≤ r ∧ Counts (fun c => Near x y u v e f q c ∧ n0 - N ≤ c.2 ∧ c.2 < n0 + N + 2) r.toNat := by
  have hsa := C.sa
  have hq := C.bq
  have hdb := C.db
  have hd := C.nd
  have bx := C.bx
  have by' := C.by'
  have bu := C.bu
  have bv := C.bv
  have be := C.be
  have bf := C.bf
  have hN := W.nn
  have hNb := (wide_w64 hd hN W.sm).2
  intro m
  induction m with
  | zero =>
    intro J acc hm hJ ha hab hc
    rw [F34l0_fix]
    have : ¬ J ≤ w64 (w64 (n0 + N) + 1) := by rw [w64_id (x := n0 + N) (by omega) (by omega), w64_id (by omega) (by omega)]; omega
    simp only [this, decide_false, Bool.false_eq_true, if_false]
    exact ⟨acc, rfl, ha, by rwa [show n0 + N + 2 = J by omega]⟩
  | succ m ih =>
    intro J acc hm hJ ha hab hc
    rw [F34l0_fix]
    have hJ2 : J ≤ w64 (w64 (n0 + N) + 1) := by rw [w64_id (x := n0 + N) (by omega) (by omega), w64_id (by omega) (by omega)]; omega
    have hJb : -110000000 ≤ J ∧ J ≤ 110000000 := by omega
    have j1 := mul_le (m := 110000000) (n := 1500) hJb bu (by omega) (by omega)
    have j2 := mul_le (m := 110000000) (n := 1500) hJb bv (by omega) (by omega)
    simp only [hJ2, decide_true, if_true, Option.bind_eq_bind]
    rw [F53_big (by omega) (by omega) (by omega) bu bv]
    simp only [Option.bind_some]
    generalize hX : e + J * u = X
    generalize hY : f + J * v = Y
    have hXb : -200000000000 ≤ X ∧ X ≤ 200000000000 := by omega
    have hYb : -200000000000 ≤ Y ∧ Y ≤ 200000000000 := by omega
    have q1 := mul_le (m := 200000000000) (n := 1500) hXb bx (by omega) (by omega)
    have q2 := mul_le (m := 200000000000) (n := 1500) hYb by' (by omega) (by omega)
    rw [F72_big (by omega) (by omega) bx by', Option.bind_some, F63_sq (by omega) (by omega), Option.bind_some, Option.bind_some]
    rw [w64_id (x := -2 * (X * x + Y * y)) (by omega) (by omega), w64_id (x := -2 * (X * x + Y * y) + (x * x + y * y)) (by omega) (by omega), w64_id (x := 2 * (x * x + y * y)) (by omega) (by omega)]
    rw [F69_pos (by omega) (by omega) (by omega), Option.bind_some]
    generalize hi0 : (-2 * (X * x + Y * y) + (x * x + y * y)) / (2 * (x * x + y * y)) = i0
    have hsp := div_spec (n := -2 * (X * x + Y * y) + (x * x + y * y)) (d := 2 * (x * x + y * y)) (by omega)
    have hib := div_bd (n := -2 * (X * x + Y * y) + (x * x + y * y)) (d := 2 * (x * x + y * y)) (m := 1300000000000000) (by omega) (by omega) (by omega)
    rw [hi0] at hsp hib
    have M : Mid X Y x y i0 := by
      have g1 : i0 * (2 * (x * x + y * y)) = 2 * (i0 * (x * x + y * y)) := by grind
      have g2 : (i0 + 1) * (2 * (x * x + y * y)) = 2 * (i0 * (x * x + y * y)) + 2 * (x * x + y * y) := by grind
      exact ⟨by omega, by omega⟩
    have hcross : x * Y - y * X = (x * f - y * e) + J * (x * v - y * u) := by rw [← hX, ← hY]; grind
    have hline := line_bd hd hdb hN W.sm h0 (j := J) (by omega)
    rw [← hcross] at hline
    obtain ⟨mb1, mb2⟩ := mid_bd hsa.1 hsa.2 M hline
    rw [F53_big (by omega) (by omega) (by omega) bx by', Option.bind_some]
    have haccb : acc ≤ 1000000000000000 := by omega
    obtain ⟨K1, r1, k1, a1, b1⟩ := F34l1_eq C M mb1 mb2 (p4 := e) (p5 := f) (r16 := n0) (r18 := N) (v78 := J) (r138 := (X, Y)) (r146 := i0) (i := i) (j := j) (k := k) (l := l) 40001 0 acc (by omega) ha haccb (fun t ht => by omega)
    have z1 : acc + ((0 : Nat) : Int) = acc := by omega
    have z2 : i0 + ((0 : Nat) : Int) = i0 := by omega
    rw [z1, z2] at r1
    rw [r1, Option.bind_some]
    rw [w64_id (x := i0 - 1) (by omega) (by omega), F53_big (by omega) (by omega) (by omega) bx by', Option.bind_some]
    obtain ⟨K2, r2, k2, a2, b2⟩ := F34l2_eq C M mb1 mb2 (p4 := e) (p5 := f) (r16 := n0) (r18 := N) (v78 := J) (i := i) (j := j) (k := k) (l := l) 40001 0 (acc + K1) (by omega) (by omega) (by omega) (fun t ht => by omega)
    have z3 : acc + (K1 : Int) + ((0 : Nat) : Int) = acc + K1 := by omega
    have z4 : i0 - ((0 : Nat) : Int) - 1 = i0 - 1 := by omega
    rw [z3, z4] at r2
    rw [r2, Option.bind_some, w64_id (x := J + 1) (by omega) (by omega)]
    have hrow := row_counts M hsa.1 hX.symm hY.symm a1 b1 a2 b2
    refine ih (J + 1) (acc + K1 + K2) (by omega) (by omega) (by omega) (by omega) ?_
    have hadd := hc.add hrow (U := fun c => Near x y u v e f q c ∧ n0 - N ≤ c.2 ∧ c.2 < J + 1) (fun c h1 h2 => by have := h1.2.2; have := h2.2; omega) (fun c => by
      constructor
      · rintro ⟨h1, h2, h3⟩
        by_cases hcj : c.2 = J
        · exact .inr ⟨h1, hcj⟩
        · exact .inl ⟨h1, h2, by omega⟩
      · rintro (⟨h1, h2, h3⟩ | ⟨h1, h2⟩)
        · exact ⟨h1, h2, by omega⟩
        · exact ⟨h1, by omega, by omega⟩)
    rwa [show acc.toNat + (K2 + K1) = (acc + K1 + K2).toNat by omega] at hadd
/-- All near ones lie in the lines. -/
theorem near_line {x y u v e f q n0 N : Int} (C : Ctx x y u v e f q) (W : Wide (x * v - y * u) (q * (x * x + y * y)) N) (h0 : n0 = if 0 < x * v - y * u then (-(x * f - y * e)) / (x * v - y * u) else (x * f - y * e) / (-(x * v - y * u)))
    {c : Int × Int} (h : Near x y u v e f q c) : n0 - N ≤ c.2 ∧ c.2 ≤ n0 + N := by
  refine in_range C.nd W ?_ h0
  have := cross_le (x := x) (y := y) h
  have e1 : x * (f + c.1 * y + c.2 * v) - y * (e + c.1 * x + c.2 * u) = x * f - y * e + c.2 * (x * v - y * u) := by grind
  rw [e1] at this
  exact this
theorem near_col {x y u v e f q n0 N : Int} (C : Ctx x y u v e f q) (W : Wide (x * v - y * u) (q * (u * u + v * v)) N) (h0 : n0 = if 0 < x * v - y * u then (-(e * v - f * u)) / (x * v - y * u) else (e * v - f * u) / (-(x * v - y * u)))
    {c : Int × Int} (h : Near x y u v e f q c) : n0 - N ≤ c.1 ∧ c.1 ≤ n0 + N := by
  refine in_range C.nd W ?_ h0
  have := cross_le (x := u) (y := v) h
  have e1 : (u * (f + c.1 * y + c.2 * v) - v * (e + c.1 * x + c.2 * u)) * (u * (f + c.1 * y + c.2 * v) - v * (e + c.1 * x + c.2 * u)) = (e * v - f * u + c.1 * (x * v - y * u)) * (e * v - f * u + c.1 * (x * v - y * u)) := by grind
  rw [e1] at this
  exact this
/-- The choices of the kit with a small rest. -/
def Small (a b c d e f q : Int) (p : Int × Int) : Prop := (e + p.1 * a + p.2 * c) * (e + p.1 * a + p.2 * c) + (f + p.1 * b + p.2 * d) * (f + p.1 * b + p.2 * d) ≤ q
theorem small_near {a b c d e f q i j k l : Int} (X Y : Int) : Near (i * a + j * c) (i * b + j * d) (k * a + l * c) (k * b + l * d) e f q (X, Y) ↔ Small a b c d e f q (X * i + Y * k, X * j + Y * l) := by
  unfold Near Small
  simp only
  have e1 : e + X * (i * a + j * c) + Y * (k * a + l * c) = e + (X * i + Y * k) * a + (X * j + Y * l) * c := by grind
  have e2 : f + X * (i * b + j * d) + Y * (k * b + l * d) = f + (X * i + Y * k) * b + (X * j + Y * l) * d := by grind
  rw [e1, e2]
theorem F34_ok {a b c d e f q : Int} (h : Kit4 a b c d) (be : -10000 ≤ e ∧ e ≤ 10000) (bf : -10000 ≤ f ∧ f ≤ 10000) (bq : 0 ≤ q ∧ q ≤ 1000000000) (h52 : F52 a b c d e f [] = some 0) (hov : ¬ q > w64 (2000 * mx (w64 (w64 (a * d) - w64 (b * c))) (w64 (0 - w64 (w64 (a * d) - w64 (b * c)))))) :
    ∃ r, F34 a b c d e f q = some (r, 0) ∧ 0 ≤ r ∧ Counts (Small a b c d e f q) r.toNat := by
  obtain ⟨i, j, k, l, h61, hB, hr⟩ := F61_eq h
  obtain ⟨hx, hy, hi, hj⟩ := small_of h hB.sa
  obtain ⟨hu, hv, hk, hl⟩ := small_of h hB.sb
  have hnd : (i * a + j * c) * (k * b + l * d) - (i * b + j * d) * (k * a + l * c) ≠ 0 := by
    have e : (i * a + j * c) * (k * b + l * d) - (i * b + j * d) * (k * a + l * c) = (i * l - j * k) * (a * d - b * c) := by grind
    rw [e]
    exact Int.mul_ne_zero (by rcases hB.det with h | h <;> omega) h.nf
  have hmap := @small_near a b c d e f q i j k l
  unfold F34
  simp only [h52, Option.bind_eq_bind, Option.bind_some, bne_self_eq_false, Bool.false_eq_true, if_false, F68_eq, bq, and_self, decide_true, if_true, F59]
  simp only [hov, decide_false, Bool.false_eq_true, if_false, h61, Option.bind_some]
  generalize i * a + j * c = x at *
  generalize i * b + j * d = y at *
  generalize k * a + l * c = u at *
  generalize k * b + l * d = v at *
  have C : Ctx x y u v e f q := ⟨hx, hy, hu, hv, be, bf, bq, hnd⟩
  have hdb := C.db
  have m1 := mul_le (m := 1500) (n := 1500) hx hv (by omega) (by omega)
  have m2 := mul_le (m := 1500) (n := 1500) hy hu (by omega) (by omega)
  have m3 := mul_le (m := 1500) (n := 10000) hx bf (by omega) (by omega)
  have m4 := mul_le (m := 1500) (n := 10000) hy be (by omega) (by omega)
  rw [w64_id (x := x * v) (by omega) (by omega), w64_id (x := y * u) (by omega) (by omega), w64_id (x := x * v - y * u) (by omega) (by omega),
    w64_id (x := x * f) (by omega) (by omega), w64_id (x := y * e) (by omega) (by omega), w64_id (x := x * f - y * e) (by omega) (by omega), w64_id (x := 0 - (x * f - y * e)) (by omega) (by omega), F69_any hnd (by omega) (by omega), Option.bind_some]
  obtain ⟨N, hN, W⟩ := F70l0_eq C (i := i) (j := j) (k := k) (l := l) 72000001 0 (by omega) (by simp)
  have h70 : F70 (x * v - y * u) q x y u v i j k l = some N := by
    unfold F70
    rw [show ((0 : Nat) : Int) = 0 from rfl] at hN
    rw [hN]
    rfl
  rw [h70, Option.bind_some]
  have e0 : (0 - (x * f - y * e)) = -(x * f - y * e) := by omega
  have e1 : -(0 - (x * f - y * e)) = x * f - y * e := by omega
  rw [e1, e0]
  generalize hn0 : (if 0 < x * v - y * u then -(x * f - y * e) / (x * v - y * u) else (x * f - y * e) / -(x * v - y * u)) = n0
  have hNb := (wide_w64 hnd W.nn W.sm).2
  have hNn := W.nn
  have hn0b : -30000001 ≤ n0 ∧ n0 ≤ 30000001 := by
    rw [← hn0]
    split
    · rename_i hp
      have := div_bd (n := -(x * f - y * e)) (d := x * v - y * u) (m := 30000000) hp (by omega) (by omega)
      omega
    · rename_i hp
      have := div_bd (n := x * f - y * e) (d := -(x * v - y * u)) (m := 30000000) (by omega) (by omega) (by omega)
      omega
  rw [w64_id (x := n0 - N) (by omega) (by omega)]
  obtain ⟨r, hr1, hr2, hr3⟩ := F34l0_eq C W hn0.symm hn0b (i := i) (j := j) (k := k) (l := l) (2 * N + 2).toNat (n0 - N) 0 (by omega) (by omega) (by omega) (by omega) (Counts.zero fun c hc => by have := hc.2.1; have := hc.2.2; omega)
  rw [hr1, Option.bind_some]
  refine ⟨r, rfl, hr2, Counts.map hB.det hmap (hr3.congr fun c => ⟨fun hc => hc.1, fun hc => ⟨hc, ?_⟩⟩)⟩
  have := near_line C W hn0.symm hc
  omega
/-! ### The reference's count -/
theorem F35l0_eq {x y u v e f q : Int} (C : Ctx x y u v e f q) {t1 t2 : Int} : ∀ (m : Nat) (n : Nat), n + m = 72000001 → (n : Int) * ((x * v - y * u).natAbs : Int) ≤ 72000000 →
    ∃ N, F35l0 e f q (((x * v - y * u).natAbs : Int), t1, t2) (x, y) (u, v) (n : Int) = some N ∧ Wide (x * v - y * u) (q * (x * x + y * y)) N := by
  have hsa := C.sa
  have hq := C.bq
  have hdb := C.db
  have hd := C.nd
  have bx := C.bx
  have by' := C.by'
  have hQ : q * (x * x + y * y) ≤ 4500000000000000 := by
    have := mul_le (a := q) (b := x * x + y * y) (m := 1000000000) (n := 4500000) (by omega) (by omega) (by omega) (by omega)
    omega
  have hQ0 : 0 ≤ q * (x * x + y * y) := Int.mul_nonneg hq.1 (by omega)
  generalize hdd : x * v - y * u = d at *
  intro m
  induction m with
  | zero =>
    intro n hn h
    exfalso
    have h1 : (n : Int) * 1 ≤ (n : Int) * (d.natAbs : Int) := Int.mul_le_mul_of_nonneg_left (by omega) (by omega)
    omega
  | succ m ih =>
    intro n hn h
    obtain ⟨w1, w2⟩ := wide_w64 (d := (d.natAbs : Int)) (by omega) (n := (n : Int)) (by omega) (by rwa [Int.natAbs_natCast])
    rw [F35l0_fix]
    simp only [Option.bind_eq_bind]
    rw [F64_eq bx by' bx by']
    simp only [Option.bind_some]
    rw [w1, w64_id (x := q * (x * x + y * y)) (by omega) (by omega), ← sq_abs d]
    by_cases hle : (n : Int) * (n : Int) * (d * d) ≤ q * (x * x + y * y)
    · simp only [hle, decide_true, if_true]
      have hs := wide_step hd hdb hQ (n := (n : Int)) (by omega) hle
      rw [w64_id (x := (n : Int) + 1) (by omega) (by omega)]
      have e : (n : Int) + 1 = ((n + 1 : Nat) : Int) := by omega
      rw [e] at hs ⊢
      exact ih (n + 1) (by omega) hs
    · simp only [hle, decide_false, Bool.false_eq_true, if_false]
      exact ⟨n, rfl, ⟨by omega, h, by omega⟩⟩
theorem F35l1_eq {x y u v e f q : Int} (C : Ctx x y u v e f q) (hb : 0 < u * u + v * v ∧ u * u + v * v ≤ 4500000) {t1 t2 N0 : Int} : ∀ (m : Nat) (n : Nat), n + m = 72000001 → (n : Int) * ((x * v - y * u).natAbs : Int) ≤ 72000000 →
    ∃ N, F35l1 e f q (((x * v - y * u).natAbs : Int), t1, t2) (x, y) (u, v) N0 (n : Int) = some N ∧ Wide (x * v - y * u) (q * (u * u + v * v)) N := by
  have hq := C.bq
  have hdb := C.db
  have hd := C.nd
  have bu := C.bu
  have bv := C.bv
  have hQ : q * (u * u + v * v) ≤ 4500000000000000 := by
    have := mul_le (a := q) (b := u * u + v * v) (m := 1000000000) (n := 4500000) (by omega) (by omega) (by omega) (by omega)
    omega
  have hQ0 : 0 ≤ q * (u * u + v * v) := Int.mul_nonneg hq.1 (by omega)
  generalize hdd : x * v - y * u = d at *
  intro m
  induction m with
  | zero =>
    intro n hn h
    exfalso
    have h1 : (n : Int) * 1 ≤ (n : Int) * (d.natAbs : Int) := Int.mul_le_mul_of_nonneg_left (by omega) (by omega)
    omega
  | succ m ih =>
    intro n hn h
    obtain ⟨w1, w2⟩ := wide_w64 (d := (d.natAbs : Int)) (by omega) (n := (n : Int)) (by omega) (by rwa [Int.natAbs_natCast])
    rw [F35l1_fix]
    simp only [Option.bind_eq_bind]
    rw [F64_eq bu bv bu bv]
    simp only [Option.bind_some]
    rw [w1, w64_id (x := q * (u * u + v * v)) (by omega) (by omega), ← sq_abs d]
    by_cases hle : (n : Int) * (n : Int) * (d * d) ≤ q * (u * u + v * v)
    · simp only [hle, decide_true, if_true]
      have hs := wide_step hd hdb hQ (n := (n : Int)) (by omega) hle
      rw [w64_id (x := (n : Int) + 1) (by omega) (by omega)]
      have e : (n : Int) + 1 = ((n + 1 : Nat) : Int) := by omega
      rw [e] at hs ⊢
      exact ih (n + 1) (by omega) hs
    · simp only [hle, decide_false, Bool.false_eq_true, if_false]
      exact ⟨n, rfl, ⟨by omega, h, by omega⟩⟩
theorem F74_pos {n d : Int} (hd : 0 < d) (hd2 : d ≤ 1000000000000) (hn : -1000000000000 ≤ n ∧ n ≤ 1000000000000) : F74 n d = some (n / d) := F74_eq hd hd2 hn
theorem F64_sq {a b : Int} (ha : -500000000 ≤ a ∧ a ≤ 500000000) (hb : -500000000 ≤ b ∧ b ≤ 500000000) : F64 a b a b = some (a * a + b * b) := by
  have h1 := mul_le (m := 500000000) (n := 500000000) ha ha (by omega) (by omega)
  have h2 := mul_le (m := 500000000) (n := 500000000) hb hb (by omega) (by omega)
  unfold F64
  rw [w64_id (x := a * a) (by omega) (by omega), w64_id (x := b * b) (by omega) (by omega), w64_id (by omega) (by omega)]
/-- Multiples of a reduced kit's pulls are not long, if they are no great areas. -/
theorem mult_bd {x y d s r m : Int} (hs : s = x * x + y * y) (h1 : 1 ≤ r) (har : 3 * s * r ≤ 4 * (d * d)) (hm : -120000000 ≤ m * d ∧ m * d ≤ 120000000) : (-150000000 ≤ m * x ∧ m * x ≤ 150000000) ∧ (-150000000 ≤ m * y ∧ m * y ≤ 150000000) := by
  have n1 := sq_nn (m * x)
  have n2 := sq_nn (m * y)
  have nm := sq_nn m
  have nx := sq_nn x
  have ny := sq_nn y
  have e : m * x * (m * x) + m * y * (m * y) = m * m * s := by rw [hs]; grind
  have p := mul_le (m := 120000000) (n := 120000000) hm hm (by omega) (by omega)
  have e2 : m * d * (m * d) = m * m * (d * d) := by grind
  have hsr : s * 1 ≤ s * r := Int.mul_le_mul_of_nonneg_left h1 (by omega)
  have hms : m * m * s ≤ m * m * (s * r) := Int.mul_le_mul_of_nonneg_left (by omega) nm
  have hmd : m * m * (3 * s * r) ≤ m * m * (4 * (d * d)) := Int.mul_le_mul_of_nonneg_left har nm
  have e3 : m * m * (3 * s * r) = 3 * (m * m * (s * r)) := by grind
  have e4 : m * m * (4 * (d * d)) = 4 * (m * m * (d * d)) := by grind
  exact ⟨sq_bd (by omega) (by omega), sq_bd (by omega) (by omega)⟩
/-- A line of the range has no great area. -/
theorem line_md {w d N j n0 : Int} (hd : d ≠ 0) (hdb : -4500000 ≤ d ∧ d ≤ 4500000) (hw : -30000000 ≤ w ∧ w ≤ 30000000) (hN : 0 ≤ N) (sm : N * (d.natAbs : Int) ≤ 72000000) (h0 : n0 = if 0 < d then (-w) / d else w / (-d)) (hj : n0 - N ≤ j ∧ j ≤ n0 + N + 1) : -120000000 ≤ j * d ∧ j * d ≤ 120000000 := by
  have := line_bd hd hdb hN sm h0 hj
  omega
/-- A column's choices. -/
theorem F35l3_eq {x y u v e f q n0 N Nw w0 t0 t1 : Int} (C : Ctx x y u v e f q) (hub : 1 ≤ u * u + v * v) (har : 3 * (x * x + y * y) * (u * u + v * v) ≤ 4 * ((x * v - y * u) * (x * v - y * u)))
    (h74 : F74 t1 ((x * v - y * u).natAbs : Int) = some n0) (h0 : n0 = if 0 < x * v - y * u then (-(x * f - y * e)) / (x * v - y * u) else (x * f - y * e) / (-(x * v - y * u))) (hn0 : -30000001 ≤ n0 ∧ n0 ≤ 30000001) (hN : 0 ≤ N) (sm : N * ((x * v - y * u).natAbs : Int) ≤ 72000000) (hN2 : N ≤ 72000000)
    {m0 : Int} (hm0 : -120000000 ≤ m0 * (x * v - y * u) ∧ m0 * (x * v - y * u) ≤ 120000000) :
    ∀ (m : Nat) (n acc : Int), n + m = n0 + N + 2 → n0 - N ≤ n → 0 ≤ w0 → w0 ≤ acc → acc + m ≤ 9000000000000000000 → Counts (fun c => Near x y u v e f q c ∧ c.1 = m0 ∧ n0 - N ≤ c.2 ∧ c.2 < n) (acc - w0).toNat →
    ∃ r, F35l3 e f q (((x * v - y * u).natAbs : Int), t0, t1) (x, y) (u, v) N Nw m0 acc n = some r ∧ acc ≤ r ∧ r ≤ acc + m ∧ Counts (fun c => Near x y u v e f q c ∧ c.1 = m0 ∧ n0 - N ≤ c.2 ∧ c.2 < n0 + N + 2) (r - w0).toNat := by
  have hsa := C.sa
  have bx := C.bx
  have by' := C.by'
  have bu := C.bu
  have bv := C.bv
  have be := C.be
  have bf := C.bf
  have hq := C.bq
  have hd := C.nd
  have hdb := C.db
  have m3 := mul_le (m := 1500) (n := 10000) bx bf (by omega) (by omega)
  have m4 := mul_le (m := 1500) (n := 10000) by' be (by omega) (by omega)
  obtain ⟨j1, j2⟩ := mult_bd (x := x) (y := y) rfl hub har hm0
  have har' : 3 * (u * u + v * v) * (x * x + y * y) ≤ 4 * ((x * v - y * u) * (x * v - y * u)) := by
    have : 3 * (u * u + v * v) * (x * x + y * y) = 3 * (x * x + y * y) * (u * u + v * v) := by grind
    omega
  intro m
  induction m with
  | zero =>
    intro n acc hm hn hw0 hw hab hc
    rw [F35l3_fix]
    simp only [Option.bind_eq_bind]
    rw [h74, Option.bind_some]
    have : ¬ n ≤ w64 (w64 (n0 + N) + 1) := by rw [w64_id (x := n0 + N) (by omega) (by omega), w64_id (by omega) (by omega)]; omega
    simp only [this, decide_false, Bool.false_eq_true, if_false]
    exact ⟨acc, rfl, by omega, by omega, by rwa [show n0 + N + 2 = n by omega]⟩
  | succ m ih =>
    intro n acc hm hn hw0 hw hab hc
    rw [F35l3_fix]
    simp only [Option.bind_eq_bind]
    rw [h74, Option.bind_some]
    have hle : n ≤ w64 (w64 (n0 + N) + 1) := by rw [w64_id (x := n0 + N) (by omega) (by omega), w64_id (by omega) (by omega)]; omega
    have hnd := line_md (w := x * f - y * e) hd hdb (by omega) hN sm h0 (j := n) (by omega)
    obtain ⟨k1, k2⟩ := mult_bd (x := u) (y := v) rfl (show 1 ≤ x * x + y * y by omega) har' hnd
    simp only [hle, decide_true, if_true, Option.bind_some]
    rw [w64_id (x := m0 * x) (by omega) (by omega), w64_id (x := e + m0 * x) (by omega) (by omega), w64_id (x := n * u) (by omega) (by omega), w64_id (x := e + m0 * x + n * u) (by omega) (by omega),
      w64_id (x := m0 * y) (by omega) (by omega), w64_id (x := f + m0 * y) (by omega) (by omega), w64_id (x := n * v) (by omega) (by omega), w64_id (x := f + m0 * y + n * v) (by omega) (by omega), w64_id (x := n + 1) (by omega) (by omega)]
    rw [F64_sq (by omega) (by omega), Option.bind_some]
    by_cases hnear : (e + m0 * x + n * u) * (e + m0 * x + n * u) + (f + m0 * y + n * v) * (f + m0 * y + n * v) ≤ q
    · simp only [hnear, decide_true, if_true, Option.bind_some]
      rw [w64_id (x := acc + 1) (by omega) (by omega)]
      have hadd := hc.add (Counts.seg (y := n) (i := m0) (n := 1)) (U := fun c => Near x y u v e f q c ∧ c.1 = m0 ∧ n0 - N ≤ c.2 ∧ c.2 < n + 1) (fun c h1 h2 => by have := h1.2.2.2; have := h2.1; omega) (fun c => by
        constructor
        · rintro ⟨h1, h2, h3, h4⟩
          by_cases hcn : c.2 = n
          · exact .inr ⟨hcn, by omega, by omega⟩
          · exact .inl ⟨h1, h2, h3, by omega⟩
        · rintro (⟨h1, h2, h3, h4⟩ | ⟨h1, h2, h3⟩)
          · exact ⟨h1, h2, h3, by omega⟩
          · refine ⟨?_, by omega, by omega, by omega⟩
            have hc1 : c.1 = m0 := by omega
            unfold Near
            rw [hc1, h1]
            exact hnear)
      obtain ⟨r, r1, r2, r3, r4⟩ := ih (n + 1) (acc + 1) (by omega) (by omega) hw0 (by omega) (by omega) (by rwa [show (acc - w0).toNat + 1 = (acc + 1 - w0).toNat by omega] at hadd)
      exact ⟨r, r1, by omega, by omega, r4⟩
    · simp only [hnear, decide_false, Bool.false_eq_true, if_false, Option.bind_some]
      have hcong := hc.congr (T := fun c => Near x y u v e f q c ∧ c.1 = m0 ∧ n0 - N ≤ c.2 ∧ c.2 < n + 1) (fun c => by
        constructor
        · rintro ⟨h1, h2, h3, h4⟩
          exact ⟨h1, h2, h3, by omega⟩
        · rintro ⟨h1, h2, h3, h4⟩
          refine ⟨h1, h2, h3, ?_⟩
          by_cases hcn : c.2 = n
          · exfalso
            unfold Near at h1
            rw [h2, hcn] at h1
            exact hnear h1
          · omega)
      obtain ⟨r, r1, r2, r3, r4⟩ := ih (n + 1) acc (by omega) (by omega) hw0 hw (by omega) hcong
      exact ⟨r, r1, by omega, by omega, r4⟩
/-- All columns. -/
theorem F35l2_eq {x y u v e f q n0 N k0 K t0 t1 : Int} (C : Ctx x y u v e f q) (hub : 1 ≤ u * u + v * v) (har : 3 * (x * x + y * y) * (u * u + v * v) ≤ 4 * ((x * v - y * u) * (x * v - y * u)))
    (h74 : F74 t1 ((x * v - y * u).natAbs : Int) = some n0) (h0 : n0 = if 0 < x * v - y * u then (-(x * f - y * e)) / (x * v - y * u) else (x * f - y * e) / (-(x * v - y * u))) (hn0 : -30000001 ≤ n0 ∧ n0 ≤ 30000001) (W : Wide (x * v - y * u) (q * (x * x + y * y)) N)
    (h74' : F74 t0 ((x * v - y * u).natAbs : Int) = some k0) (h0' : k0 = if 0 < x * v - y * u then (-(e * v - f * u)) / (x * v - y * u) else (e * v - f * u) / (-(x * v - y * u))) (hk0 : -30000001 ≤ k0 ∧ k0 ≤ 30000001) (W' : Wide (x * v - y * u) (q * (u * u + v * v)) K) :
    ∀ (m : Nat) (M acc : Int), M + m = k0 + K + 2 → k0 - K ≤ M → 0 ≤ acc → acc ≤ 200000000 * (M - (k0 - K)) → Counts (fun c => Near x y u v e f q c ∧ k0 - K ≤ c.1 ∧ c.1 < M) acc.toNat →
    ∃ r, F35l2 e f q (((x * v - y * u).natAbs : Int), t0, t1) (x, y) (u, v) N K acc M = some r ∧ 0 ≤ r ∧ Counts (Near x y u v e f q) r.toNat := by
  have hd := C.nd
  have hdb := C.db
  have be := C.be
  have bf := C.bf
  have m3 := mul_le (m := 10000) (n := 1500) be C.bv (by omega) (by omega)
  have m4 := mul_le (m := 10000) (n := 1500) bf C.bu (by omega) (by omega)
  have hN := W.nn
  have hNb := (wide_w64 hd hN W.sm).2
  have hK := W'.nn
  have hKb := (wide_w64 hd hK W'.sm).2
  intro m
  induction m with
  | zero =>
    intro M acc hm hM ha hab hc
    rw [F35l2_fix]
    simp only [Option.bind_eq_bind]
    rw [h74', Option.bind_some]
    have : ¬ M ≤ w64 (w64 (k0 + K) + 1) := by rw [w64_id (x := k0 + K) (by omega) (by omega), w64_id (by omega) (by omega)]; omega
    simp only [this, decide_false, Bool.false_eq_true, if_false]
    refine ⟨acc, rfl, ha, hc.congr fun c => ⟨fun h => h.1, fun h => ⟨h, ?_⟩⟩⟩
    have := near_col C W' h0' h
    omega
  | succ m ih =>
    intro M acc hm hM ha hab hc
    rw [F35l2_fix]
    simp only [Option.bind_eq_bind]
    rw [h74', Option.bind_some]
    have hle : M ≤ w64 (w64 (k0 + K) + 1) := by rw [w64_id (x := k0 + K) (by omega) (by omega), w64_id (by omega) (by omega)]; omega
    simp only [hle, decide_true, if_true]
    rw [h74, Option.bind_some, w64_id (x := n0 - N) (by omega) (by omega)]
    have hMd := line_md (w := e * v - f * u) hd hdb (by omega) hK W'.sm h0' (j := M) (by omega)
    obtain ⟨r, r1, r2, r3, r4⟩ := F35l3_eq C hub har h74 h0 hn0 hN W.sm hNb (Nw := K) (w0 := acc) (t0 := t0) hMd (2 * N + 2).toNat (n0 - N) acc (by omega) (by omega) ha (Int.le_refl _) (by omega) (by
      rw [show (acc - acc).toNat = 0 by omega]
      exact Counts.zero fun c hc => by have := hc.2.2.1; have := hc.2.2.2; omega)
    rw [r1, Option.bind_some, w64_id (x := M + 1) (by omega) (by omega)]
    refine ih (M + 1) r (by omega) (by omega) (by omega) (by omega) ?_
    have hadd := hc.add r4 (U := fun c => Near x y u v e f q c ∧ k0 - K ≤ c.1 ∧ c.1 < M + 1) (fun c h1 h2 => by have := h1.2.2; have := h2.2.1; omega) (fun c => by
      constructor
      · rintro ⟨h1, h2, h3⟩
        by_cases hcm : c.1 = M
        · have := near_line C W h0 h1
          exact .inr ⟨h1, hcm, by omega, by omega⟩
        · exact .inl ⟨h1, h2, by omega⟩
      · rintro (⟨h1, h2, h3⟩ | ⟨h1, h2, h3, h4⟩)
        · exact ⟨h1, h2, by omega⟩
        · exact ⟨h1, by omega, by omega⟩)
    rwa [show acc.toNat + (r - acc).toNat = r.toNat by omega] at hadd
theorem quot_bd {w d n0 : Int} (hd : d ≠ 0) (hw : -30000000 ≤ w ∧ w ≤ 30000000) (h0 : n0 = if 0 < d then (-w) / d else w / (-d)) : -30000001 ≤ n0 ∧ n0 ≤ 30000001 := by
  rw [h0]
  split
  · rename_i hp
    have := div_bd (n := -w) (d := d) (m := 30000000) hp (by omega) (by omega)
    omega
  · rename_i hp
    have := div_bd (n := w) (d := -d) (m := 30000000) (by omega) (by omega) (by omega)
    omega
end Go.Proofs.Ytenjelagfbceeaa
