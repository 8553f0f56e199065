/- What the functions of the laws without the reference compute. -/
import Derived.Test.YtenjelagfbceeaaLB4
import Derived.Test.YtenjelagfbceeaaG11
set_option linter.unusedVariables false
set_option linter.unusedSimpArgs false
set_option maxHeartbeats 4000000
namespace Go.Proofs.Ytenjelagfbceeaa
open Go Go.Cl
theorem F70l0_fix (p0 : Int) (p1 : Int) (p2 : Int) (p3 : Int) (p4 : Int) (p5 : Int) (p6 : Int) (p7 : Int) (p8 : Int) (p9 : Int) (v5 : Int) : F70l0 p0 p1 p2 p3 p4 p5 p6 p7 p8 p9 v5 = (
    F71 v5 p0 p1 p2 p3 p4 p5 p6 p7 p8 p9 >>= fun r11 =>
    (
      if r11 then
        some (false)
      else
        some (true)
    : Option Bool) >>= fun m13 =>
    if m13 then
      F70l0 p0 p1 p2 p3 p4 p5 p6 p7 p8 p9 (w64 (v5 + 1))
    else
      some v5
    : Option Int) := by
  delta F70l0
  conv => lhs; rw [Lean.Order.fix_eq]
theorem F34l1_fix (p4 : Int) (p5 : Int) (p6 : Int) (r10 : (((Int × Int) × (Int × Int)) × (Int × Int) × (Int × Int))) (r16 : Int) (r18 : Int) (r138 : (Int × Int)) (r146 : Int) (v78 : Int) (v155 : Int) (v156 : Int) (v157 : Int) : F34l1 p4 p5 p6 r10 r16 r18 r138 r146 v78 v155 v156 v157 = (
    F63 v156 v157 >>= fun r164 =>
    if decide (r164 ≤ p6) then
      F53 v156 v157 1 r10.1.1.1 r10.1.1.2 >>= fun r167 =>
      F34l1 p4 p5 p6 r10 r16 r18 r138 r146 v78 (w64 (v155 + 1)) r167.1 r167.2
    else
      some v155
    : Option Int) := by
  delta F34l1
  conv => lhs; rw [Lean.Order.fix_eq]
theorem F34l2_fix (p4 : Int) (p5 : Int) (p6 : Int) (r10 : (((Int × Int) × (Int × Int)) × (Int × Int) × (Int × Int))) (r16 : Int) (r18 : Int) (v78 : Int) (v178 : Int) (v179 : Int) (v180 : Int) : F34l2 p4 p5 p6 r10 r16 r18 v78 v178 v179 v180 = (
    F63 v179 v180 >>= fun r187 =>
    if decide (r187 ≤ p6) then
      F53 v179 v180 (-1) r10.1.1.1 r10.1.1.2 >>= fun r190 =>
      F34l2 p4 p5 p6 r10 r16 r18 v78 (w64 (v178 + 1)) r190.1 r190.2
    else
      some v178
    : Option Int) := by
  delta F34l2
  conv => lhs; rw [Lean.Order.fix_eq]
theorem F34l0_fix (p4 : Int) (p5 : Int) (p6 : Int) (r10 : (((Int × Int) × (Int × Int)) × (Int × Int) × (Int × Int))) (r16 : Int) (r18 : Int) (v77 : Int) (v78 : Int) : F34l0 p4 p5 p6 r10 r16 r18 v77 v78 = (
    if decide (v78 ≤ (w64 ((w64 (r16 + r18)) + 1))) then
      F53 p4 p5 v78 r10.1.2.1 r10.1.2.2 >>= fun r138 =>
      F72 r138.1 r138.2 r10.1.1.1 r10.1.1.2 >>= fun r140 =>
      F63 r10.1.1.1 r10.1.1.2 >>= fun r142 =>
      F63 r10.1.1.1 r10.1.1.2 >>= fun r144 =>
      F69 (w64 ((w64 ((-2) * r140)) + r142)) (w64 (2 * r144)) >>= fun r146 =>
      F53 r138.1 r138.2 r146 r10.1.1.1 r10.1.1.2 >>= fun r148 =>
      F34l1 p4 p5 p6 r10 r16 r18 r138 r146 v78 v77 r148.1 r148.2 >>= fun r169 =>
      F53 r138.1 r138.2 (w64 (r146 - 1)) r10.1.1.1 r10.1.1.2 >>= fun r171 =>
      F34l2 p4 p5 p6 r10 r16 r18 v78 r169 r171.1 r171.2 >>= fun r192 =>
      F34l0 p4 p5 p6 r10 r16 r18 r192 (w64 (v78 + 1))
    else
      some v77
    : Option Int) := by
  delta F34l0
  conv => lhs; rw [Lean.Order.fix_eq]
theorem F42l1_fix (p0 : Int) (p1 : Int) (p2 : Int) (p3 : Int) (p4 : Int) (p5 : Int) (p6 : Int) (r1 : Int) (v48 : Int) (v111 : Int) (v110 : (List (Int × Int))) : F42l1 p0 p1 p2 p3 p4 p5 p6 r1 v48 v111 v110 = (
    if decide (v111 ≤ (w64 (p5 + p6))) then
      F43 v48 v111 >>= fun r126 =>
      F45 r126.1 r126.2 p2 p3 >>= fun r128 =>
      if r1 = 0 then none else
      (
        if (Int.tmod r128 r1) == 0 then
          F45 p0 p1 r126.1 r126.2 >>= fun r132 =>
          some ((Int.tmod r132 r1) == 0)
        else
          some (false)
      : Option Bool) >>= fun m134 =>
      (
        if m134 then
          if List.length v110 ≤ 1000000000 then
            some (v110 ++ [(r126.1, r126.2)])
          else none
        else
          some v110
      : Option (List (Int × Int))) >>= fun m137 =>
      F42l1 p0 p1 p2 p3 p4 p5 p6 r1 v48 (w64 (v111 + 1)) m137
    else
      some v110
    : Option (List (Int × Int))) := by
  delta F42l1
  conv => lhs; rw [Lean.Order.fix_eq]
theorem F42l0_fix (p0 : Int) (p1 : Int) (p2 : Int) (p3 : Int) (p4 : Int) (p5 : Int) (p6 : Int) (r1 : Int) (v49 : (List (Int × Int))) (v48 : Int) : F42l0 p0 p1 p2 p3 p4 p5 p6 r1 v49 v48 = (
    if decide (v48 ≤ (w64 (p4 + p6))) then
      F42l1 p0 p1 p2 p3 p4 p5 p6 r1 v48 (w64 (p5 - p6)) v49 >>= fun r141 =>
      F42l0 p0 p1 p2 p3 p4 p5 p6 r1 r141 (w64 (v48 + 1))
    else
      some v49
    : Option (List (Int × Int))) := by
  delta F42l0
  conv => lhs; rw [Lean.Order.fix_eq]
theorem F11l0_fix (p6 : Int) (r1 : (((Int × Int) × (Int × Int)) × (Int × Int))) (r3 : (Int × Int)) (r28 : (List (Int × Int))) (v39 : Int) (v40 : Int) : F11l0 p6 r1 r3 r28 v39 v40 = (
    if decide (v40 < (List.length r28 : Int)) then
      if (0 : Int) ≤ v40 ∧ v40 < (List.length r28 : Int) then
        some (List.getD r28 (Int.toNat v40) (0, 0)) >>= fun o53 =>
        F39 r1.2.1 r1.2.2 o53.1 o53.2 >>= fun r55 =>
        F41 r55.1 r55.2 r55.1 r55.2 >>= fun r57 =>
        (
          if decide (r57 ≤ (w64 p6)) then
            some (w64 (v39 + 1))
          else
            some v39
        : Option Int) >>= fun m62 =>
        F11l0 p6 r1 r3 r28 m62 (w64 (v40 + 1))
      else none
    else
      some v39
    : Option Int) := by
  delta F11l0
  conv => lhs; rw [Lean.Order.fix_eq]
/- The plain law of MagnetWithins: what the functions compute, in plain Lean. -/
instance (x y u v : Int) : Decidable (red x y u v) := by unfold red; infer_instance
/-! ### The iron's neighbours -/
/-- A reduced kit, an iron and a square, within the bounds. -/
structure Ctx (x y u v e f q : Int) : Prop where
  bx : -1500 ≤ x ∧ x ≤ 1500
  by' : -1500 ≤ y ∧ y ≤ 1500
  bu : -1500 ≤ u ∧ u ≤ 1500
  bv : -1500 ≤ v ∧ v ≤ 1500
  be : -10000 ≤ e ∧ e ≤ 10000
  bf : -10000 ≤ f ∧ f ≤ 10000
  bq : 0 ≤ q ∧ q ≤ 1000000000
  nd : x * v - y * u ≠ 0
/-- The choices with a small rest, by bundles. -/
def Near (x y u v e f q : Int) (c : Int × Int) : Prop := (e + c.1 * x + c.2 * u) * (e + c.1 * x + c.2 * u) + (f + c.1 * y + c.2 * v) * (f + c.1 * y + c.2 * v) ≤ q
section
variable {x y u v e f q : Int}
theorem Ctx.sa (C : Ctx x y u v e f q) : 0 < x * x + y * y ∧ x * x + y * y ≤ 4500000 := by
  have h1 := mul_le (m := 1500) (n := 1500) C.bx C.bx (by omega) (by omega)
  have h2 := mul_le (m := 1500) (n := 1500) C.by' C.by' (by omega) (by omega)
  have n1 := sq_nn x
  have n2 := sq_nn y
  refine ⟨?_, by omega⟩
  apply Classical.byContradiction
  intro hc
  have hx := sq_bd (a := x) (m := 0) (by omega) (by omega)
  have hy := sq_bd (a := y) (m := 0) (by omega) (by omega)
  apply C.nd
  have : x = 0 := by omega
  have : y = 0 := by omega
  subst x; subst y
  simp
theorem Ctx.db (C : Ctx x y u v e f q) : -4500000 ≤ x * v - y * u ∧ x * v - y * u ≤ 4500000 := by
  have h1 := mul_le (m := 1500) (n := 1500) C.bx C.bv (by omega) (by omega)
  have h2 := mul_le (m := 1500) (n := 1500) C.by' C.bu (by omega) (by omega)
  omega
end
/-- How far: so many areas are too much, and are no great number. -/
structure Wide (d Q N : Int) : Prop where
  nn : 0 ≤ N
  sm : N * (d.natAbs : Int) ≤ 72000000
  gt : Q < N * N * (d * d)
theorem sq_abs (d : Int) : d * d = (d.natAbs : Int) * (d.natAbs : Int) := (Int.natAbs_mul_self' d).symm
theorem wide_step {d Q n : Int} (hd : d ≠ 0) (hdb : -4500000 ≤ d ∧ d ≤ 4500000) (hQ : Q ≤ 4500000000000000) (hn : 0 ≤ n) (h : n * n * (d * d) ≤ Q) : (n + 1) * (d.natAbs : Int) ≤ 72000000 := by
  have e : n * n * (d * d) = (n * (d.natAbs : Int)) * (n * (d.natAbs : Int)) := by rw [sq_abs d]; grind
  have := sq_bd (a := n * (d.natAbs : Int)) (m := 67500000) (by omega) (by omega)
  have e2 : (n + 1) * (d.natAbs : Int) = n * (d.natAbs : Int) + (d.natAbs : Int) := by grind
  omega
theorem wide_w64 {d n : Int} (hd : d ≠ 0) (hn : 0 ≤ n) (h : n * (d.natAbs : Int) ≤ 72000000) : w64 (w64 (w64 (n * n) * d) * d) = n * n * (d * d) ∧ n ≤ 72000000 := by
  have h1 : n * 1 ≤ n * (d.natAbs : Int) := Int.mul_le_mul_of_nonneg_left (by omega) hn
  have hn2 : n ≤ 72000000 := by omega
  have a1 := mul_le (a := n) (b := n) (m := 72000000) (n := 72000000) (by omega) (by omega) (by omega) (by omega)
  have hnd : -72000000 ≤ n * d ∧ n * d ≤ 72000000 := by
    have e : (n * d).natAbs = n.natAbs * d.natAbs := Int.natAbs_mul n d
    have e2 : ((n.natAbs * d.natAbs : Nat) : Int) = n * (d.natAbs : Int) := by rw [Int.natCast_mul, Int.natAbs_of_nonneg hn]
    omega
  have a2 := mul_le (a := n) (b := n * d) (m := 72000000) (n := 72000000) (by omega) hnd (by omega) (by omega)
  have a3 := mul_le (a := n * d) (b := n * d) (m := 72000000) (n := 72000000) hnd hnd (by omega) (by omega)
  have e1 : n * n * d = n * (n * d) := by grind
  have e2 : n * n * d * d = n * d * (n * d) := by grind
  have e3 : n * n * (d * d) = n * d * (n * d) := by grind
  refine ⟨?_, hn2⟩
  rw [w64_id (x := n * n) (by omega) (by omega), w64_id (x := n * n * d) (by omega) (by omega), w64_id (x := n * n * d * d) (by omega) (by omega)]
  omega
/-- Numbers of a line that are not too far lie around the quotient. -/
theorem in_range {w d N Q j n0 : Int} (hd : d ≠ 0) (W : Wide d Q N) (hj : (w + j * d) * (w + j * d) ≤ Q) (h0 : n0 = if 0 < d then (-w) / d else w / (-d)) : n0 - N ≤ j ∧ j ≤ n0 + N := by
  have hlt : (w + j * d) * (w + j * d) < (N * (d.natAbs : Int)) * (N * (d.natAbs : Int)) := by
    have e : N * N * (d * d) = (N * (d.natAbs : Int)) * (N * (d.natAbs : Int)) := by rw [sq_abs d]; grind
    have := W.gt
    omega
  have hNd : 0 ≤ N * (d.natAbs : Int) := Int.mul_nonneg W.nn (by omega)
  have b1 : w + j * d < N * (d.natAbs : Int) := by
    apply Classical.byContradiction
    intro hc
    have := Int.mul_le_mul (show N * (d.natAbs : Int) ≤ w + j * d by omega) (show N * (d.natAbs : Int) ≤ w + j * d by omega) hNd (by omega)
    omega
  have b2 : -(N * (d.natAbs : Int)) < w + j * d := by
    apply Classical.byContradiction
    intro hc
    have := Int.mul_le_mul (show N * (d.natAbs : Int) ≤ -(w + j * d) by omega) (show N * (d.natAbs : Int) ≤ -(w + j * d) by omega) hNd (by omega)
    have e : -(w + j * d) * -(w + j * d) = (w + j * d) * (w + j * d) := by grind
    omega
  by_cases hp : 0 < d
  · rw [if_pos hp] at h0
    have hs := div_spec (n := -w) hp
    rw [← h0] at hs
    have ea : (d.natAbs : Int) = d := by omega
    rw [ea] at b1 b2
    have c1 : j * d < (n0 + N + 1) * d := by
      have : (n0 + N + 1) * d = (n0 + 1) * d + N * d := by grind
      omega
    have c2 : (n0 - N - 1) * d < j * d := by
      have : (n0 - N - 1) * d = n0 * d - N * d - d := by grind
      omega
    have := Int.lt_of_mul_lt_mul_right c1 (by omega)
    have := Int.lt_of_mul_lt_mul_right c2 (by omega)
    omega
  · rw [if_neg hp] at h0
    have hm : 0 < -d := by omega
    have hs := div_spec (n := w) hm
    rw [← h0] at hs
    have ea : (d.natAbs : Int) = -d := by omega
    rw [ea] at b1 b2
    have ej : j * d = -(j * -d) := by grind
    have c1 : j * -d < (n0 + N + 1) * -d := by
      have : (n0 + N + 1) * -d = (n0 + 1) * -d + N * -d := by grind
      omega
    have c2 : (n0 - N - 1) * -d < j * -d := by
      have : (n0 - N - 1) * -d = n0 * -d - N * -d - -d := by grind
      omega
    have := Int.lt_of_mul_lt_mul_right c1 (by omega)
    have := Int.lt_of_mul_lt_mul_right c2 (by omega)
    omega
/-- A line of the range is not far. -/
theorem line_bd {w d N j n0 : Int} (hd : d ≠ 0) (hdb : -4500000 ≤ d ∧ d ≤ 4500000) (hN : 0 ≤ N) (sm : N * (d.natAbs : Int) ≤ 72000000) (h0 : n0 = if 0 < d then (-w) / d else w / (-d)) (hj : n0 - N ≤ j ∧ j ≤ n0 + N + 1) : -81000000 ≤ w + j * d ∧ w + j * d ≤ 81000000 := by
  by_cases hp : 0 < d
  · rw [if_pos hp] at h0
    have hs := div_spec (n := -w) hp
    rw [← h0] at hs
    have ea : (d.natAbs : Int) = d := by omega
    rw [ea] at sm
    have c1 : j * d ≤ (n0 + N + 1) * d := Int.mul_le_mul_of_nonneg_right (by omega) (by omega)
    have c2 : (n0 - N) * d ≤ j * d := Int.mul_le_mul_of_nonneg_right (by omega) (by omega)
    have e1 : (n0 + N + 1) * d = n0 * d + N * d + d := by grind
    have e2 : (n0 - N) * d = n0 * d - N * d := by grind
    have e3 : (n0 + 1) * d = n0 * d + d := by grind
    omega
  · rw [if_neg hp] at h0
    have hm : 0 < -d := by omega
    have hs := div_spec (n := w) hm
    rw [← h0] at hs
    have ea : (d.natAbs : Int) = -d := by omega
    rw [ea] at sm
    have ej : j * d = -(j * -d) := by grind
    have c1 : j * -d ≤ (n0 + N + 1) * -d := Int.mul_le_mul_of_nonneg_right (by omega) (by omega)
    have c2 : (n0 - N) * -d ≤ j * -d := Int.mul_le_mul_of_nonneg_right (by omega) (by omega)
    have e1 : (n0 + N + 1) * -d = n0 * -d + N * -d + -d := by grind
    have e2 : (n0 - N) * -d = n0 * -d - N * -d := by grind
    have e3 : (n0 + 1) * -d = n0 * -d + -d := by grind
    omega
/-- The area with a rest against its square. -/
theorem cross_le {x y X Y q : Int} (h : X * X + Y * Y ≤ q) : (x * Y - y * X) * (x * Y - y * X) ≤ q * (x * x + y * y) := by
  have e : (x * Y - y * X) * (x * Y - y * X) = (X * X + Y * Y) * (x * x + y * y) - (x * X + y * Y) * (x * X + y * Y) := by grind
  have n0 := sq_nn (x * X + y * Y)
  have n1 := sq_nn x
  have n2 := sq_nn y
  have := Int.mul_le_mul_of_nonneg_right h (show 0 ≤ x * x + y * y by omega)
  omega
/-! ### One line -/
/-- The square of a line's i-th rest. -/
def fq (X Y x y i : Int) : Int := (X + i * x) * (X + i * x) + (Y + i * y) * (Y + i * y)
theorem fq_step (X Y x y i : Int) : fq X Y x y (i + 1) = fq X Y x y i + (2 * (X * x + Y * y) + 2 * (i * (x * x + y * y)) + (x * x + y * y)) := by unfold fq; grind
theorem fq_nn (X Y x y i : Int) : 0 ≤ fq X Y x y i := by
  have := sq_nn (X + i * x)
  have := sq_nn (Y + i * y)
  unfold fq
  omega
/-- i0 is the nearest one of the line. -/
structure Mid (X Y x y i0 : Int) : Prop where
  lo : -(x * x + y * y) < 2 * (X * x + Y * y) + 2 * (i0 * (x * x + y * y))
  hi : 2 * (X * x + Y * y) + 2 * (i0 * (x * x + y * y)) ≤ x * x + y * y
section
variable {X Y x y i0 : Int}
theorem Mid.up (M : Mid X Y x y i0) (hs : 0 < x * x + y * y) (k : Nat) : fq X Y x y (i0 + k) ≤ fq X Y x y (i0 + k + 1) ∧ (k : Int) * ((k : Int) - 1) ≤ fq X Y x y (i0 + k) := by
  have e : ∀ k : Int, (i0 + k) * (x * x + y * y) = i0 * (x * x + y * y) + k * (x * x + y * y) := fun k => by grind
  have step : ∀ k : Nat, fq X Y x y (i0 + k + 1) ≥ fq X Y x y (i0 + k) + 2 * (k : Int) := fun k => by
    have h1 := fq_step X Y x y (i0 + k)
    rw [e] at h1
    have h2 : (k : Int) * 1 ≤ (k : Int) * (x * x + y * y) := Int.mul_le_mul_of_nonneg_left (by omega) (by omega)
    have := M.lo
    omega
  refine ⟨by have := step k; omega, ?_⟩
  induction k with
  | zero => have := fq_nn X Y x y (i0 + (0 : Nat)); simpa using this
  | succ k ih =>
    have h1 := step k
    have e2 : ((k + 1 : Nat) : Int) * (((k + 1 : Nat) : Int) - 1) = (k : Int) * ((k : Int) - 1) + 2 * (k : Int) := by
      rw [Int.natCast_add]
      grind
    have e3 : i0 + ((k + 1 : Nat) : Int) = i0 + (k : Int) + 1 := by omega
    rw [e2, e3]
    omega
theorem Mid.down (M : Mid X Y x y i0) (hs : 0 < x * x + y * y) (k : Nat) : fq X Y x y (i0 - k) ≤ fq X Y x y (i0 - k - 1) ∧ (k : Int) * ((k : Int) - 1) ≤ fq X Y x y (i0 - k) := by
  have e : ∀ k : Int, (i0 - k - 1) * (x * x + y * y) = i0 * (x * x + y * y) - k * (x * x + y * y) - (x * x + y * y) := fun k => by grind
  have step : ∀ k : Nat, fq X Y x y (i0 - k - 1) ≥ fq X Y x y (i0 - k) + 2 * (k : Int) := fun k => by
    have h1 := fq_step X Y x y (i0 - k - 1)
    rw [e] at h1
    have e2 : i0 - (k : Int) - 1 + 1 = i0 - k := by omega
    rw [e2] at h1
    have h2 : (k : Int) * 1 ≤ (k : Int) * (x * x + y * y) := Int.mul_le_mul_of_nonneg_left (by omega) (by omega)
    have := M.hi
    omega
  refine ⟨by have := step k; omega, ?_⟩
  induction k with
  | zero => have := fq_nn X Y x y (i0 - (0 : Nat)); simpa using this
  | succ k ih =>
    have h1 := step k
    have e2 : ((k + 1 : Nat) : Int) * (((k + 1 : Nat) : Int) - 1) = (k : Int) * ((k : Int) - 1) + 2 * (k : Int) := by
      rw [Int.natCast_add]
      grind
    have e3 : i0 - ((k + 1 : Nat) : Int) = i0 - (k : Int) - 1 := by omega
    rw [e2, e3]
    omega
/-- Behind one that is too great all are. -/
theorem Mid.all_up (M : Mid X Y x y i0) (hs : 0 < x * x + y * y) {q : Int} {K : Nat} (h : q < fq X Y x y (i0 + K)) : ∀ (i : Int), i0 + K ≤ i → q < fq X Y x y i := by
  have : ∀ m : Nat, q < fq X Y x y (i0 + (K + m : Nat)) := fun m => by
    induction m with
    | zero => exact h
    | succ m ih =>
      have := (M.up hs (K + m)).1
      have e : i0 + ((K + (m + 1) : Nat) : Int) = i0 + ((K + m : Nat) : Int) + 1 := by omega
      rw [e]
      omega
  intro i hi
  have := this (i - i0 - K).toNat
  rwa [show i0 + ((K + (i - i0 - K).toNat : Nat) : Int) = i by omega] at this
theorem Mid.all_down (M : Mid X Y x y i0) (hs : 0 < x * x + y * y) {q : Int} {K : Nat} (h : q < fq X Y x y (i0 - K)) : ∀ (i : Int), i ≤ i0 - K → q < fq X Y x y i := by
  have : ∀ m : Nat, q < fq X Y x y (i0 - (K + m : Nat)) := fun m => by
    induction m with
    | zero => exact h
    | succ m ih =>
      have := (M.down hs (K + m)).1
      have e : i0 - ((K + (m + 1) : Nat) : Int) = i0 - ((K + m : Nat) : Int) - 1 := by omega
      rw [e]
      omega
  intro i hi
  have := this (i0 - K - i).toNat
  rwa [show i0 - ((K + (i0 - K - i).toNat : Nat) : Int) = i by omega] at this
end
theorem k_bd {k : Nat} {q : Int} (h : (k : Int) * ((k : Int) - 1) ≤ q) (hq : q ≤ 1000000000) : k ≤ 40000 := by
  apply Classical.byContradiction
  intro hc
  have := Int.mul_le_mul (show (40000 : Int) ≤ (k : Int) by omega) (show (40000 : Int) ≤ (k : Int) - 1 by omega) (by omega) (by omega)
  omega
theorem coord_bd {X Y q : Int} (h : X * X + Y * Y ≤ q) (hq : q ≤ 1000000000) : (-31623 ≤ X ∧ X ≤ 31623) ∧ (-31623 ≤ Y ∧ Y ≤ 31623) := by
  have n1 := sq_nn X
  have n2 := sq_nn Y
  exact ⟨sq_bd (by omega) (by omega), sq_bd (by omega) (by omega)⟩
/-- Upwards. -/
theorem F34l1_eq {x y u v e f q X Y i0 : Int} (C : Ctx x y u v e f q) (M : Mid X Y x y i0) (hX : -90000000 ≤ X + i0 * x ∧ X + i0 * x ≤ 90000000) (hY : -90000000 ≤ Y + i0 * y ∧ Y + i0 * y ≤ 90000000)
    {p4 p5 : Int} {r16 r18 v78 : Int} {r138 : Int × Int} {r146 : Int} {i j k l : Int} : ∀ (m n : Nat) (acc : Int), n + m = 40001 → 0 ≤ acc → acc ≤ 1000000000000000 → (∀ t : Nat, t < n → fq X Y x y (i0 + t) ≤ q) →
    ∃ K : Nat, F34l1 p4 p5 q (((x, y), (u, v)), (i, j), (k, l)) r16 r18 r138 r146 v78 (acc + n) (X + (i0 + n) * x) (Y + (i0 + n) * y) = some (acc + K) ∧ K ≤ 40001 ∧ (∀ t : Nat, t < K → fq X Y x y (i0 + t) ≤ q) ∧ q < fq X Y x y (i0 + K) := by
  have hs := C.sa.1
  have hq := C.bq
  intro m
  induction m with
  | zero =>
    intro n acc hn h0 h1 hall
    exfalso
    have h2 := hall 40000 (by omega)
    have h3 := (M.up hs 40000).2
    simp at h3 h2
    omega
  | succ m ih =>
    intro n acc hn h0 h1 hall
    have hb : (-100000000 ≤ X + (i0 + n) * x ∧ X + (i0 + n) * x ≤ 100000000) ∧ (-100000000 ≤ Y + (i0 + n) * y ∧ Y + (i0 + n) * y ≤ 100000000) := by
      cases n with
      | zero => simp only [Int.natCast_zero, Int.add_zero]; omega
      | succ n =>
        have h2 := hall n (by omega)
        unfold fq at h2
        have := coord_bd h2 hq.2
        have e1 : X + (i0 + ((n + 1 : Nat) : Int)) * x = X + (i0 + (n : Int)) * x + x := by rw [Int.natCast_add]; grind
        have e2 : Y + (i0 + ((n + 1 : Nat) : Int)) * y = Y + (i0 + (n : Int)) * y + y := by rw [Int.natCast_add]; grind
        have bx := C.bx
        have by' := C.by'
        rw [e1, e2]
        omega
    rw [F34l1_fix]
    simp only [Option.bind_eq_bind]
    rw [F63_sq hb.1 hb.2, Option.bind_some]
    by_cases hle : fq X Y x y (i0 + n) ≤ q
    · have hle' : (X + (i0 + (n : Int)) * x) * (X + (i0 + (n : Int)) * x) + (Y + (i0 + (n : Int)) * y) * (Y + (i0 + (n : Int)) * y) ≤ q := hle
      simp only [hle', decide_true, if_true]
      rw [F53_big (by omega) (by omega) (by omega) C.bx C.by', Option.bind_some, w64_id (x := acc + n + 1) (by omega) (by omega)]
      have e1 : X + (i0 + (n : Int)) * x + 1 * x = X + (i0 + ((n + 1 : Nat) : Int)) * x := by rw [Int.natCast_add]; grind
      have e2 : Y + (i0 + (n : Int)) * y + 1 * y = Y + (i0 + ((n + 1 : Nat) : Int)) * y := by rw [Int.natCast_add]; grind
      have e3 : acc + (n : Int) + 1 = acc + ((n + 1 : Nat) : Int) := by omega
      simp only [e1, e2, e3]
      refine ih (n + 1) acc (by omega) h0 h1 fun t ht => ?_
      by_cases htn : t = n
      · subst htn; exact hle
      · exact hall t (by omega)
    · have hle' : ¬ (X + (i0 + (n : Int)) * x) * (X + (i0 + (n : Int)) * x) + (Y + (i0 + (n : Int)) * y) * (Y + (i0 + (n : Int)) * y) ≤ q := hle
      simp only [hle', decide_false, Bool.false_eq_true, if_false]
      exact ⟨n, rfl, by omega, hall, by omega⟩
/-- Downwards. -/
theorem F34l2_eq {x y u v e f q X Y i0 : Int} (C : Ctx x y u v e f q) (M : Mid X Y x y i0) (hX : -90000000 ≤ X + i0 * x ∧ X + i0 * x ≤ 90000000) (hY : -90000000 ≤ Y + i0 * y ∧ Y + i0 * y ≤ 90000000)
    {p4 p5 : Int} {r16 r18 v78 : Int} {i j k l : Int} : ∀ (m n : Nat) (acc : Int), n + m = 40001 → 0 ≤ acc → acc ≤ 1000000000000000 → (∀ t : Nat, t < n → fq X Y x y (i0 - t - 1) ≤ q) →
    ∃ K : Nat, F34l2 p4 p5 q (((x, y), (u, v)), (i, j), (k, l)) r16 r18 v78 (acc + n) (X + (i0 - n - 1) * x) (Y + (i0 - n - 1) * y) = some (acc + K) ∧ K ≤ 40001 ∧ (∀ t : Nat, t < K → fq X Y x y (i0 - t - 1) ≤ q) ∧ q < fq X Y x y (i0 - K - 1) := by
  have hs := C.sa.1
  have hq := C.bq
  intro m
  induction m with
  | zero =>
    intro n acc hn h0 h1 hall
    exfalso
    have h2 := hall 40000 (by omega)
    have h3 := (M.down hs 40001).2
    have e : i0 - ((40000 : Nat) : Int) - 1 = i0 - ((40001 : Nat) : Int) := by omega
    rw [e] at h2
    simp at h3 h2
    omega
  | succ m ih =>
    intro n acc hn h0 h1 hall
    have bx := C.bx
    have by' := C.by'
    have hb : (-100000000 ≤ X + (i0 - n - 1) * x ∧ X + (i0 - n - 1) * x ≤ 100000000) ∧ (-100000000 ≤ Y + (i0 - n - 1) * y ∧ Y + (i0 - n - 1) * y ≤ 100000000) := by
      cases n with
      | zero =>
        have e1 : X + (i0 - ((0 : Nat) : Int) - 1) * x = X + i0 * x - x := by simp only [Int.natCast_zero, Int.sub_zero]; grind
        have e2 : Y + (i0 - ((0 : Nat) : Int) - 1) * y = Y + i0 * y - y := by simp only [Int.natCast_zero, Int.sub_zero]; grind
        rw [e1, e2]
        omega
      | succ n =>
        have h2 := hall n (by omega)
        unfold fq at h2
        have := coord_bd h2 hq.2
        have e1 : X + (i0 - ((n + 1 : Nat) : Int) - 1) * x = X + (i0 - (n : Int) - 1) * x - x := by rw [Int.natCast_add]; grind
        have e2 : Y + (i0 - ((n + 1 : Nat) : Int) - 1) * y = Y + (i0 - (n : Int) - 1) * y - y := by rw [Int.natCast_add]; grind
        rw [e1, e2]
        omega
    rw [F34l2_fix]
    simp only [Option.bind_eq_bind]
    rw [F63_sq hb.1 hb.2, Option.bind_some]
    by_cases hle : fq X Y x y (i0 - n - 1) ≤ q
    · have hle' : (X + (i0 - (n : Int) - 1) * x) * (X + (i0 - (n : Int) - 1) * x) + (Y + (i0 - (n : Int) - 1) * y) * (Y + (i0 - (n : Int) - 1) * y) ≤ q := hle
      simp only [hle', decide_true, if_true]
      rw [F53_big (by omega) (by omega) (by omega) C.bx C.by', Option.bind_some, w64_id (x := acc + n + 1) (by omega) (by omega)]
      have e1 : X + (i0 - (n : Int) - 1) * x + -1 * x = X + (i0 - ((n + 1 : Nat) : Int) - 1) * x := by rw [Int.natCast_add]; grind
      have e2 : Y + (i0 - (n : Int) - 1) * y + -1 * y = Y + (i0 - ((n + 1 : Nat) : Int) - 1) * y := by rw [Int.natCast_add]; grind
      have e3 : acc + (n : Int) + 1 = acc + ((n + 1 : Nat) : Int) := by omega
      simp only [e1, e2, e3]
      refine ih (n + 1) acc (by omega) h0 h1 fun t ht => ?_
      by_cases htn : t = n
      · subst htn; exact hle
      · exact hall t (by omega)
    · have hle' : ¬ (X + (i0 - (n : Int) - 1) * x) * (X + (i0 - (n : Int) - 1) * x) + (Y + (i0 - (n : Int) - 1) * y) * (Y + (i0 - (n : Int) - 1) * y) ≤ q := hle
      simp only [hle', decide_false, Bool.false_eq_true, if_false]
      exact ⟨n, rfl, by omega, hall, by omega⟩
/-- The choices of a line. -/
theorem row_counts {x y u v e f q X Y i0 j : Int} (M : Mid X Y x y i0) (hs : 0 < x * x + y * y) (eX : X = e + j * u) (eY : Y = f + j * v) {K1 K2 : Nat} (a1 : ∀ t : Nat, t < K1 → fq X Y x y (i0 + t) ≤ q) (b1 : q < fq X Y x y (i0 + K1))
    (a2 : ∀ t : Nat, t < K2 → fq X Y x y (i0 - t - 1) ≤ q) (b2 : q < fq X Y x y (i0 - K2 - 1)) : Counts (fun c => Near x y u v e f q c ∧ c.2 = j) (K2 + K1) := by
  refine (Counts.seg (y := j) (i := i0 - K2) (n := K2 + K1)).congr fun c => ?_
  obtain ⟨m, n⟩ := c
  have hfq : n = j → (Near x y u v e f q (m, n) ↔ fq X Y x y m ≤ q) := fun hn => by
    subst hn
    unfold Near fq
    simp only [eX, eY]
    have e1 : e + m * x + n * u = e + n * u + m * x := by omega
    have e2 : f + m * y + n * v = f + n * v + m * y := by omega
    rw [e1, e2]
  constructor
  · rintro ⟨h1, h2, h3⟩
    simp only at h1 h2 h3
    refine ⟨(hfq h1).2 ?_, h1⟩
    by_cases hm : i0 ≤ m
    · have := a1 (m - i0).toNat (by omega)
      rwa [show i0 + ((m - i0).toNat : Int) = m by omega] at this
    · have := a2 (i0 - m - 1).toNat (by omega)
      rwa [show i0 - ((i0 - m - 1).toNat : Int) - 1 = m by omega] at this
  · rintro ⟨h1, h2⟩
    simp only at h2
    have h3 := (hfq h2).1 h1
    refine ⟨h2, ?_, ?_⟩
    · apply Classical.byContradiction
      intro hc
      simp only at hc
      have e3 : i0 - (K2 : Int) - 1 = i0 - ((K2 + 1 : Nat) : Int) := by omega
      rw [e3] at b2
      have := M.all_down hs b2 m (by omega)
      omega
    · apply Classical.byContradiction
      intro hc
      simp only at hc
      have := M.all_up hs b1 m (by omega)
      omega
/-! ### The program's count -/
theorem F70l0_eq {x y u v e f q : Int} (C : Ctx x y u v e f q) {i j k l : Int} : ∀ (m : Nat) (n : Nat), n + m = 72000001 → (n : Int) * ((x * v - y * u).natAbs : Int) ≤ 72000000 →
    ∃ N, F70l0 (x * v - y * u) q x y u v i j k l (n : Int) = some N ∧ Wide (x * v - y * u) (q * (x * x + y * y)) N := by
  have hsa := C.sa
  have hq := C.bq
  have hdb := C.db
  have hd := C.nd
  have bx := C.bx
  have by' := C.by'
  have hQ : q * (x * x + y * y) ≤ 4500000000000000 := by
    have := mul_le (a := q) (b := x * x + y * y) (m := 1000000000) (n := 4500000) (by omega) (by omega) (by omega) (by omega)
    omega
  have hQ0 : 0 ≤ q * (x * x + y * y) := Int.mul_nonneg hq.1 (by omega)
  generalize hdd : x * v - y * u = d at *
  intro m
  induction m with
  | zero =>
    intro n hn h
    exfalso
    have h1 : (n : Int) * 1 ≤ (n : Int) * (d.natAbs : Int) := Int.mul_le_mul_of_nonneg_left (by omega) (by omega)
    omega
  | succ m ih =>
    intro n hn h
    obtain ⟨w1, w2⟩ := wide_w64 hd (n := (n : Int)) (by omega) h
    rw [F70l0_fix]
    unfold F71
    simp only [Option.bind_eq_bind]
    rw [F63_sq (by omega) (by omega)]
    simp only [Option.bind_some]
    rw [w1, w64_id (x := q * (x * x + y * y)) (by omega) (by omega)]
    by_cases hgt : (n : Int) * (n : Int) * (d * d) > q * (x * x + y * y)
    · simp only [hgt, decide_true, if_true, Option.bind_some, Bool.false_eq_true, if_false]
      exact ⟨n, rfl, ⟨by omega, h, hgt⟩⟩
    · simp only [hgt, decide_false, if_true, Option.bind_some, Bool.false_eq_true, if_false]
      have hs := wide_step hd hdb hQ (n := (n : Int)) (by omega) (by omega)
      rw [w64_id (x := (n : Int) + 1) (by omega) (by omega)]
      have e : (n : Int) + 1 = ((n + 1 : Nat) : Int) := by omega
      rw [e] at hs ⊢
      exact ih (n + 1) (by omega) hs
/-- The rest of a line's middle is not far. -/
theorem mid_bd {x y X Y i0 : Int} (hs : 0 < x * x + y * y) (hsb : x * x + y * y ≤ 4500000) (M : Mid X Y x y i0) (hc : -81000000 ≤ x * Y - y * X ∧ x * Y - y * X ≤ 81000000) :
    (-90000000 ≤ X + i0 * x ∧ X + i0 * x ≤ 90000000) ∧ (-90000000 ≤ Y + i0 * y ∧ Y + i0 * y ≤ 90000000) := by
  have e : ((X + i0 * x) * (X + i0 * x) + (Y + i0 * y) * (Y + i0 * y)) * (x * x + y * y) = (x * Y - y * X) * (x * Y - y * X) + ((X + i0 * x) * x + (Y + i0 * y) * y) * ((X + i0 * x) * x + (Y + i0 * y) * y) := by grind
  have ep : (X + i0 * x) * x + (Y + i0 * y) * y = (X * x + Y * y) + i0 * (x * x + y * y) := by grind
  have hp : -4500000 ≤ (X + i0 * x) * x + (Y + i0 * y) * y ∧ (X + i0 * x) * x + (Y + i0 * y) * y ≤ 4500000 := by
    rw [ep]
    have := M.lo
    have := M.hi
    omega
  have p1 := mul_le (m := 81000000) (n := 81000000) hc hc (by omega) (by omega)
  have p2 := mul_le (m := 4500000) (n := 4500000) hp hp (by omega) (by omega)
  have n1 := sq_nn (X + i0 * x)
  have n2 := sq_nn (Y + i0 * y)
  have hle : ((X + i0 * x) * (X + i0 * x) + (Y + i0 * y) * (Y + i0 * y)) * 1 ≤ ((X + i0 * x) * (X + i0 * x) + (Y + i0 * y) * (Y + i0 * y)) * (x * x + y * y) := Int.mul_le_mul_of_nonneg_left (by omega) (by omega)
  exact ⟨sq_bd (by omega) (by omega), sq_bd (by omega) (by omega)⟩
theorem F34l0_eq {x y u v e f q n0 N : Int} (C : Ctx x y u v e f q) (W : Wide (x * v - y * u) (q * (x * x + y * y)) N) (h0 : n0 = if 0 < x * v - y * u then (-(x * f - y * e)) / (x * v - y * u) else (x * f - y * e) / (-(x * v - y * u)))
    (hn0 : -30000001 ≤ n0 ∧ n0 ≤ 30000001) {i j k l : Int} : ∀ (m : Nat) (J acc : Int), J + m = n0 + N + 2 → n0 - N ≤ J → 0 ≤ acc → acc ≤ 80002 * (J - (n0 - N)) → Counts (fun c => Near x y u v e f q c ∧ n0 - N ≤ c.2 ∧ c.2 < J) acc.toNat →
    ∃ r, F34l0 e f q (((x, y), (u, v)), (i, j), (k, l)) n0 N acc J = some r ∧ 0 ≤ r ∧ Counts (fun c => Near x y u v e f q c ∧ n0 - N ≤ c.2 ∧ c.2 < n0 + N + 2) r.toNat := by
  have hsa := C.sa
  have hq := C.bq
  have hdb := C.db
  have hd := C.nd
  have bx := C.bx
  have by' := C.by'
  have bu := C.bu
  have bv := C.bv
  have be := C.be
  have bf := C.bf
  have hN := W.nn
  have hNb := (wide_w64 hd hN W.sm).2
  intro m
  induction m with
  | zero =>
    intro J acc hm hJ ha hab hc
    rw [F34l0_fix]
    have : ¬ J ≤ w64 (w64 (n0 + N) + 1) := by rw [w64_id (x := n0 + N) (by omega) (by omega), w64_id (by omega) (by omega)]; omega
    simp only [this, decide_false, Bool.false_eq_true, if_false]
    exact ⟨acc, rfl, ha, by rwa [show n0 + N + 2 = J by omega]⟩
  | succ m ih =>
    intro J acc hm hJ ha hab hc
    rw [F34l0_fix]
    have hJ2 : J ≤ w64 (w64 (n0 + N) + 1) := by rw [w64_id (x := n0 + N) (by omega) (by omega), w64_id (by omega) (by omega)]; omega
    have hJb : -110000000 ≤ J ∧ J ≤ 110000000 := by omega
    have j1 := mul_le (m := 110000000) (n := 1500) hJb bu (by omega) (by omega)
    have j2 := mul_le (m := 110000000) (n := 1500) hJb bv (by omega) (by omega)
    simp only [hJ2, decide_true, if_true, Option.bind_eq_bind]
    rw [F53_big (by omega) (by omega) (by omega) bu bv]
    simp only [Option.bind_some]
    generalize hX : e + J * u = X
    generalize hY : f + J * v = Y
    have hXb : -200000000000 ≤ X ∧ X ≤ 200000000000 := by omega
    have hYb : -200000000000 ≤ Y ∧ Y ≤ 200000000000 := by omega
    have q1 := mul_le (m := 200000000000) (n := 1500) hXb bx (by omega) (by omega)
    have q2 := mul_le (m := 200000000000) (n := 1500) hYb by' (by omega) (by omega)
    rw [F72_big (by omega) (by omega) bx by', Option.bind_some, F63_sq (by omega) (by omega), Option.bind_some, Option.bind_some]
    rw [w64_id (x := -2 * (X * x + Y * y)) (by omega) (by omega), w64_id (x := -2 * (X * x + Y * y) + (x * x + y * y)) (by omega) (by omega), w64_id (x := 2 * (x * x + y * y)) (by omega) (by omega)]
    rw [F69_pos (by omega) (by omega) (by omega), Option.bind_some]
    generalize hi0 : (-2 * (X * x + Y * y) + (x * x + y * y)) / (2 * (x * x + y * y)) = i0
    have hsp := div_spec (n := -2 * (X * x + Y * y) + (x * x + y * y)) (d := 2 * (x * x + y * y)) (by omega)
    have hib := div_bd (n := -2 * (X * x + Y * y) + (x * x + y * y)) (d := 2 * (x * x + y * y)) (m := 1300000000000000) (by omega) (by omega) (by omega)
    rw [hi0] at hsp hib
    have M : Mid X Y x y i0 := by
      have g1 : i0 * (2 * (x * x + y * y)) = 2 * (i0 * (x * x + y * y)) := by grind
      have g2 : (i0 + 1) * (2 * (x * x + y * y)) = 2 * (i0 * (x * x + y * y)) + 2 * (x * x + y * y) := by grind
      exact ⟨by omega, by omega⟩
    have hcross : x * Y - y * X = (x * f - y * e) + J * (x * v - y * u) := by rw [← hX, ← hY]; grind
    have hline := line_bd hd hdb hN W.sm h0 (j := J) (by omega)
    rw [← hcross] at hline
    obtain ⟨mb1, mb2⟩ := mid_bd hsa.1 hsa.2 M hline
    rw [F53_big (by omega) (by omega) (by omega) bx by', Option.bind_some]
    have haccb : acc ≤ 1000000000000000 := by omega
    obtain ⟨K1, r1, k1, a1, b1⟩ := F34l1_eq C M mb1 mb2 (p4 := e) (p5 := f) (r16 := n0) (r18 := N) (v78 := J) (r138 := (X, Y)) (r146 := i0) (i := i) (j := j) (k := k) (l := l) 40001 0 acc (by omega) ha haccb (fun t ht => by omega)
    have z1 : acc + ((0 : Nat) : Int) = acc := by omega
    have z2 : i0 + ((0 : Nat) : Int) = i0 := by omega
    rw [z1, z2] at r1
    rw [r1, Option.bind_some]
    rw [w64_id (x := i0 - 1) (by omega) (by omega), F53_big (by omega) (by omega) (by omega) bx by', Option.bind_some]
    obtain ⟨K2, r2, k2, a2, b2⟩ := F34l2_eq C M mb1 mb2 (p4 := e) (p5 := f) (r16 := n0) (r18 := N) (v78 := J) (i := i) (j := j) (k := k) (l := l) 40001 0 (acc + K1) (by omega) (by omega) (by omega) (fun t ht => by omega)
    have z3 : acc + (K1 : Int) + ((0 : Nat) : Int) = acc + K1 := by omega
    have z4 : i0 - ((0 : Nat) : Int) - 1 = i0 - 1 := by omega
    rw [z3, z4] at r2
    rw [r2, Option.bind_some, w64_id (x := J + 1) (by omega) (by omega)]
    have hrow := row_counts M hsa.1 hX.symm hY.symm a1 b1 a2 b2
    refine ih (J + 1) (acc + K1 + K2) (by omega) (by omega) (by omega) (by omega) ?_
    have hadd := hc.add hrow (U := fun c => Near x y u v e f q c ∧ n0 - N ≤ c.2 ∧ c.2 < J + 1) (fun c h1 h2 => by have := h1.2.2; have := h2.2; omega) (fun c => by
      constructor
      · rintro ⟨h1, h2, h3⟩
        by_cases hcj : c.2 = J
        · exact .inr ⟨h1, hcj⟩
        · exact .inl ⟨h1, h2, by omega⟩
      · rintro (⟨h1, h2, h3⟩ | ⟨h1, h2⟩)
        · exact ⟨h1, h2, by omega⟩
        · exact ⟨h1, by omega, by omega⟩)
    rwa [show acc.toNat + (K2 + K1) = (acc + K1 + K2).toNat by omega] at hadd
/-- All near ones lie in the lines. -/
theorem near_line {x y u v e f q n0 N : Int} (C : Ctx x y u v e f q) (W : Wide (x * v - y * u) (q * (x * x + y * y)) N) (h0 : n0 = if 0 < x * v - y * u then (-(x * f - y * e)) / (x * v - y * u) else (x * f - y * e) / (-(x * v - y * u)))
    {c : Int × Int} (h : Near x y u v e f q c) : n0 - N ≤ c.2 ∧ c.2 ≤ n0 + N := by
  refine in_range C.nd W ?_ h0
  have := cross_le (x := x) (y := y) h
  have e1 : x * (f + c.1 * y + c.2 * v) - y * (e + c.1 * x + c.2 * u) = x * f - y * e + c.2 * (x * v - y * u) := by grind
  rw [e1] at this
  exact this
theorem near_col {x y u v e f q n0 N : Int} (C : Ctx x y u v e f q) (W : Wide (x * v - y * u) (q * (u * u + v * v)) N) (h0 : n0 = if 0 < x * v - y * u then (-(e * v - f * u)) / (x * v - y * u) else (e * v - f * u) / (-(x * v - y * u)))
    {c : Int × Int} (h : Near x y u v e f q c) : n0 - N ≤ c.1 ∧ c.1 ≤ n0 + N := by
  refine in_range C.nd W ?_ h0
  have := cross_le (x := u) (y := v) h
  have e1 : (u * (f + c.1 * y + c.2 * v) - v * (e + c.1 * x + c.2 * u)) * (u * (f + c.1 * y + c.2 * v) - v * (e + c.1 * x + c.2 * u)) = (e * v - f * u + c.1 * (x * v - y * u)) * (e * v - f * u + c.1 * (x * v - y * u)) := by grind
  rw [e1] at this
  exact this
/-- The choices of the kit with a small rest. -/
def Small (a b c d e f q : Int) (p : Int × Int) : Prop := (e + p.1 * a + p.2 * c) * (e + p.1 * a + p.2 * c) + (f + p.1 * b + p.2 * d) * (f + p.1 * b + p.2 * d) ≤ q
theorem small_near {a b c d e f q i j k l : Int} (X Y : Int) : Near (i * a + j * c) (i * b + j * d) (k * a + l * c) (k * b + l * d) e f q (X, Y) ↔ Small a b c d e f q (X * i + Y * k, X * j + Y * l) := by
  unfold Near Small
  simp only
  have e1 : e + X * (i * a + j * c) + Y * (k * a + l * c) = e + (X * i + Y * k) * a + (X * j + Y * l) * c := by grind
  have e2 : f + X * (i * b + j * d) + Y * (k * b + l * d) = f + (X * i + Y * k) * b + (X * j + Y * l) * d := by grind
  rw [e1, e2]
theorem F34_ok {a b c d e f q : Int} (h : Kit4 a b c d) (be : -10000 ≤ e ∧ e ≤ 10000) (bf : -10000 ≤ f ∧ f ≤ 10000) (bq : 0 ≤ q ∧ q ≤ 1000000000) (h52 : F52 a b c d e f [] = some 0) (hov : ¬ q > w64 (2000 * mx (w64 (w64 (a * d) - w64 (b * c))) (w64 (0 - w64 (w64 (a * d) - w64 (b * c)))))) :
    ∃ r, F34 a b c d e f q = some (r, 0) ∧ 0 ≤ r ∧ Counts (Small a b c d e f q) r.toNat := by
  obtain ⟨i, j, k, l, h61, hB, hr⟩ := F61_eq h
  obtain ⟨hx, hy, hi, hj⟩ := small_of h hB.sa
  obtain ⟨hu, hv, hk, hl⟩ := small_of h hB.sb
  have hnd : (i * a + j * c) * (k * b + l * d) - (i * b + j * d) * (k * a + l * c) ≠ 0 := by
    have e : (i * a + j * c) * (k * b + l * d) - (i * b + j * d) * (k * a + l * c) = (i * l - j * k) * (a * d - b * c) := by grind
    rw [e]
    exact Int.mul_ne_zero (by rcases hB.det with h | h <;> omega) h.nf
  have hmap := @small_near a b c d e f q i j k l
  unfold F34
  simp only [h52, Option.bind_eq_bind, Option.bind_some, bne_self_eq_false, Bool.false_eq_true, if_false, F68_eq, bq, and_self, decide_true, if_true, F59]
  simp only [hov, decide_false, Bool.false_eq_true, if_false, h61, Option.bind_some]
  generalize i * a + j * c = x at *
  generalize i * b + j * d = y at *
  generalize k * a + l * c = u at *
  generalize k * b + l * d = v at *
  have C : Ctx x y u v e f q := ⟨hx, hy, hu, hv, be, bf, bq, hnd⟩
  have hdb := C.db
  have m1 := mul_le (m := 1500) (n := 1500) hx hv (by omega) (by omega)
  have m2 := mul_le (m := 1500) (n := 1500) hy hu (by omega) (by omega)
  have m3 := mul_le (m := 1500) (n := 10000) hx bf (by omega) (by omega)
  have m4 := mul_le (m := 1500) (n := 10000) hy be (by omega) (by omega)
  rw [w64_id (x := x * v) (by omega) (by omega), w64_id (x := y * u) (by omega) (by omega), w64_id (x := x * v - y * u) (by omega) (by omega),
    w64_id (x := x * f) (by omega) (by omega), w64_id (x := y * e) (by omega) (by omega), w64_id (x := x * f - y * e) (by omega) (by omega), w64_id (x := 0 - (x * f - y * e)) (by omega) (by omega), F69_any hnd (by omega) (by omega), Option.bind_some]
  obtain ⟨N, hN, W⟩ := F70l0_eq C (i := i) (j := j) (k := k) (l := l) 72000001 0 (by omega) (by simp)
  have h70 : F70 (x * v - y * u) q x y u v i j k l = some N := by
    unfold F70
    rw [show ((0 : Nat) : Int) = 0 from rfl] at hN
    rw [hN]
    rfl
  rw [h70, Option.bind_some]
  have e0 : (0 - (x * f - y * e)) = -(x * f - y * e) := by omega
  have e1 : -(0 - (x * f - y * e)) = x * f - y * e := by omega
  rw [e1, e0]
  generalize hn0 : (if 0 < x * v - y * u then -(x * f - y * e) / (x * v - y * u) else (x * f - y * e) / -(x * v - y * u)) = n0
  have hNb := (wide_w64 hnd W.nn W.sm).2
  have hNn := W.nn
  have hn0b : -30000001 ≤ n0 ∧ n0 ≤ 30000001 := by
    rw [← hn0]
    split
    · rename_i hp
      have := div_bd (n := -(x * f - y * e)) (d := x * v - y * u) (m := 30000000) hp (by omega) (by omega)
      omega
    · rename_i hp
      have := div_bd (n := x * f - y * e) (d := -(x * v - y * u)) (m := 30000000) (by omega) (by omega) (by omega)
      omega
  rw [w64_id (x := n0 - N) (by omega) (by omega)]
  obtain ⟨r, hr1, hr2, hr3⟩ := F34l0_eq C W hn0.symm hn0b (i := i) (j := j) (k := k) (l := l) (2 * N + 2).toNat (n0 - N) 0 (by omega) (by omega) (by omega) (by omega) (Counts.zero fun c hc => by have := hc.2.1; have := hc.2.2; omega)
  rw [hr1, Option.bind_some]
  refine ⟨r, rfl, hr2, Counts.map hB.det hmap (hr3.congr fun c => ⟨fun hc => hc.1, fun hc => ⟨hc, ?_⟩⟩)⟩
  have := near_line C W hn0.symm hc
  omega
/-- Multiples of a reduced kit's pulls are not long, if they are no great areas. -/
theorem mult_bd {x y d s r m : Int} (hs : s = x * x + y * y) (h1 : 1 ≤ r) (har : 3 * s * r ≤ 4 * (d * d)) (hm : -120000000 ≤ m * d ∧ m * d ≤ 120000000) : (-150000000 ≤ m * x ∧ m * x ≤ 150000000) ∧ (-150000000 ≤ m * y ∧ m * y ≤ 150000000) := by
  have n1 := sq_nn (m * x)
  have n2 := sq_nn (m * y)
  have nm := sq_nn m
  have nx := sq_nn x
  have ny := sq_nn y
  have e : m * x * (m * x) + m * y * (m * y) = m * m * s := by rw [hs]; grind
  have p := mul_le (m := 120000000) (n := 120000000) hm hm (by omega) (by omega)
  have e2 : m * d * (m * d) = m * m * (d * d) := by grind
  have hsr : s * 1 ≤ s * r := Int.mul_le_mul_of_nonneg_left h1 (by omega)
  have hms : m * m * s ≤ m * m * (s * r) := Int.mul_le_mul_of_nonneg_left (by omega) nm
  have hmd : m * m * (3 * s * r) ≤ m * m * (4 * (d * d)) := Int.mul_le_mul_of_nonneg_left har nm
  have e3 : m * m * (3 * s * r) = 3 * (m * m * (s * r)) := by grind
  have e4 : m * m * (4 * (d * d)) = 4 * (m * m * (d * d)) := by grind
  exact ⟨sq_bd (by omega) (by omega), sq_bd (by omega) (by omega)⟩
/-- A line of the range has no great area. -/
theorem line_md {w d N j n0 : Int} (hd : d ≠ 0) (hdb : -4500000 ≤ d ∧ d ≤ 4500000) (hw : -30000000 ≤ w ∧ w ≤ 30000000) (hN : 0 ≤ N) (sm : N * (d.natAbs : Int) ≤ 72000000) (h0 : n0 = if 0 < d then (-w) / d else w / (-d)) (hj : n0 - N ≤ j ∧ j ≤ n0 + N + 1) : -120000000 ≤ j * d ∧ j * d ≤ 120000000 := by
  have := line_bd hd hdb hN sm h0 hj
  omega
theorem quot_bd {w d n0 : Int} (hd : d ≠ 0) (hw : -30000000 ≤ w ∧ w ≤ 30000000) (h0 : n0 = if 0 < d then (-w) / d else w / (-d)) : -30000001 ≤ n0 ∧ n0 ≤ 30000001 := by
  rw [h0]
  split
  · rename_i hp
    have := div_bd (n := -w) (d := d) (m := 30000000) hp (by omega) (by omega)
    omega
  · rename_i hp
    have := div_bd (n := w) (d := -d) (m := 30000000) (by omega) (by omega) (by omega)
    omega
theorem mx_abs (x : Int) : mx x (0 - x) = (x.natAbs : Int) := by
  unfold mx
  split <;> omega
theorem F43_eq (a b : Int) : F43 a b = some (a, b) := rfl
theorem F41_eq {a b c d : Int} (ha : -40000 ≤ a ∧ a ≤ 40000) (hb : -40000 ≤ b ∧ b ≤ 40000) (hc : -40000 ≤ c ∧ c ≤ 40000) (hd : -40000 ≤ d ∧ d ≤ 40000) : F41 a b c d = some (a * c + b * d) := by
  have h1 := mul_le (m := 40000) (n := 40000) ha hc (by omega) (by omega)
  have h2 := mul_le (m := 40000) (n := 40000) hb hd (by omega) (by omega)
  unfold F41
  rw [w64_id (x := a * c) (by omega) (by omega), w64_id (x := b * d) (by omega) (by omega), w64_id (by omega) (by omega)]
theorem F45_eq {a b c d : Int} (ha : -40000 ≤ a ∧ a ≤ 40000) (hb : -40000 ≤ b ∧ b ≤ 40000) (hc : -40000 ≤ c ∧ c ≤ 40000) (hd : -40000 ≤ d ∧ d ≤ 40000) : F45 a b c d = some ((a * d - b * c).natAbs : Int) := by
  have h1 := mul_le (m := 40000) (n := 40000) ha hd (by omega) (by omega)
  have h2 := mul_le (m := 40000) (n := 40000) hb hc (by omega) (by omega)
  unfold F45
  rw [w64_id (x := a * d) (by omega) (by omega), w64_id (x := b * c) (by omega) (by omega), w64_id (x := a * d - b * c) (by omega) (by omega), w64_id (by omega) (by omega), mx_abs]
  rfl
theorem tmod_lt (x : Int) {m : Int} (hm : 0 < m) : -m < Int.tmod x m ∧ Int.tmod x m < m := ⟨Int.lt_tmod_of_pos x hm, Int.tmod_lt_of_pos x hm⟩
/-- The kit of a ship by numbers: small, and not flat. -/
structure Kit12 (a b c d : Int) : Prop where
  b0 : -12 ≤ a ∧ a ≤ 12
  b1 : -12 ≤ b ∧ b ≤ 12
  b2 : -12 ≤ c ∧ c ≤ 12
  b3 : -12 ≤ d ∧ d ≤ 12
  nf : a * d - b * c ≠ 0
theorem Kit12.kit {a b c d : Int} (h : Kit12 a b c d) : Kit4 a b c d :=
  ⟨by have := h.b0; omega, by have := h.b1; omega, by have := h.b2; omega, by have := h.b3; omega, h.nf⟩
theorem F36_eq (p0 p1 p2 p3 p4 p5 : Int) : ∃ a b c d x y, F36 p0 p1 p2 p3 p4 p5 = some (((a, b), (c, d)), (x, y)) ∧ Kit12 a b c d ∧ (-199 ≤ x ∧ x ≤ 199) ∧ (-199 ≤ y ∧ y ≤ 199) := by
  have h0 := tmod_lt (w64 p0) (m := 13) (by omega)
  have h1 := tmod_lt (w64 p1) (m := 13) (by omega)
  have h2 := tmod_lt (w64 p2) (m := 13) (by omega)
  have h3 := tmod_lt (w64 p3) (m := 13) (by omega)
  have h4 := tmod_lt (w64 p4) (m := 200) (by omega)
  have h5 := tmod_lt (w64 p5) (m := 200) (by omega)
  unfold F36 F49
  simp only [F43_eq, Option.bind_eq_bind, Option.bind_some]
  generalize Int.tmod (w64 p0) 13 = a at *
  generalize Int.tmod (w64 p1) 13 = b at *
  generalize Int.tmod (w64 p2) 13 = c at *
  generalize Int.tmod (w64 p3) 13 = d at *
  generalize Int.tmod (w64 p4) 200 = x at *
  generalize Int.tmod (w64 p5) 200 = y at *
  rw [F45_eq (by omega) (by omega) (by omega) (by omega)]
  simp only [Option.bind_some]
  by_cases hz : a * d - b * c = 0
  · simp only [hz, Int.natAbs_zero, Int.ofNat_zero, beq_self_eq_true, if_true, Option.bind_some]
    exact ⟨3, 1, 1, 4, x, y, rfl, ⟨by omega, by omega, by omega, by omega, by omega⟩, by omega, by omega⟩
  · have : (((a * d - b * c).natAbs : Int) == 0) = false := by
      rw [beq_eq_false_iff_ne]
      omega
    simp only [this, Bool.false_eq_true, if_false, Option.bind_some]
    exact ⟨a, b, c, d, x, y, rfl, ⟨by omega, by omega, by omega, by omega, hz⟩, by omega, by omega⟩
/-- What is known of reduced bundles of a small kit. -/
structure Red12 (a b c d i j k l : Int) : Prop where
  bx : -333 ≤ i * a + j * c ∧ i * a + j * c ≤ 333
  by' : -333 ≤ i * b + j * d ∧ i * b + j * d ≤ 333
  bu : -333 ≤ k * a + l * c ∧ k * a + l * c ≤ 333
  bv : -333 ≤ k * b + l * d ∧ k * b + l * d ≤ 333
  bi : -8000 ≤ i ∧ i ≤ 8000
  bj : -8000 ≤ j ∧ j ≤ 8000
  bk : -8000 ≤ k ∧ k ≤ 8000
  bl : -8000 ≤ l ∧ l ≤ 8000
  area : 3 * ((i * a + j * c) * (i * a + j * c) + (i * b + j * d) * (i * b + j * d)) * ((k * a + l * c) * (k * a + l * c) + (k * b + l * d) * (k * b + l * d)) ≤ 4 * ((a * d - b * c) * (a * d - b * c))
theorem det_of {a b c d i j k l : Int} : (i * a + j * c) * (k * b + l * d) - (i * b + j * d) * (k * a + l * c) = (i * l - j * k) * (a * d - b * c) := by grind
theorem sq_of_det {D e : Int} (hd : e = 1 ∨ e = -1) : e * D * (e * D) = D * D := by
  rcases hd with h | h <;> subst h <;> grind
theorem coef {D x y p q i : Int} (hD : D ≠ 0) (hx : -333 ≤ x ∧ x ≤ 333) (hy : -333 ≤ y ∧ y ≤ 333) (hp : -12 ≤ p ∧ p ≤ 12) (hq : -12 ≤ q ∧ q ≤ 12) (h : i * D = x * p - y * q) : -8000 ≤ i ∧ i ≤ 8000 := by
  have a1 := mul_le (m := 333) (n := 12) hx hp (by omega) (by omega)
  have a2 := mul_le (m := 333) (n := 12) hy hq (by omega) (by omega)
  have h1 : i.natAbs * D.natAbs ≤ 8000 := by rw [← Int.natAbs_mul]; omega
  have h2 : i.natAbs * 1 ≤ i.natAbs * D.natAbs := Nat.mul_le_mul_left _ (by omega)
  omega
theorem red12_of {a b c d i j k l : Int} (h : Kit12 a b c d) (hB : Bun a b c d i j k l) (hr : red (i * a + j * c) (i * b + j * d) (k * a + l * c) (k * b + l * d)) : Red12 a b c d i j k l := by
  have ha := area_of hr
  have hp := pos_of h.kit hB.det
  rw [det_of, sq_of_det hB.det] at ha
  have m1 := mul_le (m := 12) (n := 12) h.b0 h.b3 (by omega) (by omega)
  have m2 := mul_le (m := 12) (n := 12) h.b1 h.b2 (by omega) (by omega)
  have hD2 : (a * d - b * c) * (a * d - b * c) ≤ 82944 := by
    have := mul_le (a := a * d - b * c) (b := a * d - b * c) (m := 288) (n := 288) (by omega) (by omega) (by omega) (by omega)
    omega
  have hle := hr.1
  have hnn : 0 ≤ (k * a + l * c) * (k * a + l * c) + (k * b + l * d) * (k * b + l * d) := by have := sq_nn (k * a + l * c); have := sq_nn (k * b + l * d); omega
  have hr1 : (k * a + l * c) * (k * a + l * c) + (k * b + l * d) * (k * b + l * d) ≤ 110592 := by
    have e : 3 * ((i * a + j * c) * (i * a + j * c) + (i * b + j * d) * (i * b + j * d)) * ((k * a + l * c) * (k * a + l * c) + (k * b + l * d) * (k * b + l * d)) = 3 * (((i * a + j * c) * (i * a + j * c) + (i * b + j * d) * (i * b + j * d)) * ((k * a + l * c) * (k * a + l * c) + (k * b + l * d) * (k * b + l * d))) := by grind
    have q := Int.mul_le_mul_of_nonneg_right (show (1 : Int) ≤ (i * a + j * c) * (i * a + j * c) + (i * b + j * d) * (i * b + j * d) by omega) hnn
    omega
  have n1 := sq_nn (i * a + j * c)
  have n2 := sq_nn (i * b + j * d)
  have n3 := sq_nn (k * a + l * c)
  have n4 := sq_nn (k * b + l * d)
  have bx := sq_bd (a := i * a + j * c) (m := 333) (by omega) (by omega)
  have by' := sq_bd (a := i * b + j * d) (m := 333) (by omega) (by omega)
  have bu := sq_bd (a := k * a + l * c) (m := 333) (by omega) (by omega)
  have bv := sq_bd (a := k * b + l * d) (m := 333) (by omega) (by omega)
  have e1 : i * (a * d - b * c) = (i * a + j * c) * d - (i * b + j * d) * c := by grind
  have e2 : j * (a * d - b * c) = (i * b + j * d) * a - (i * a + j * c) * b := by grind
  have e3 : k * (a * d - b * c) = (k * a + l * c) * d - (k * b + l * d) * c := by grind
  have e4 : l * (a * d - b * c) = (k * b + l * d) * a - (k * a + l * c) * b := by grind
  exact ⟨bx, by', bu, bv, coef h.nf bx by' h.b3 h.b2 e1, coef h.nf by' bx h.b0 h.b1 e2, coef h.nf bu bv h.b3 h.b2 e3, coef h.nf bv bu h.b0 h.b1 e4, ha⟩
theorem F38_eq {i j : Int} (hi : -8000 ≤ i ∧ i ≤ 8000) (hj : -8000 ≤ j ∧ j ≤ 8000) : F38 i j = some true := by
  unfold F38
  have h1 : i ≥ -1000000 := by omega
  have h2 : i ≤ 1000000 := by omega
  have h3 : j ≥ -1000000 := by omega
  have h4 : j ≤ 1000000 := by omega
  simp [h1, h2, h3, h4]
theorem F40_eq {a b c d i j : Int} (h : Kit12 a b c d) (hi : -8000 ≤ i ∧ i ≤ 8000) (hj : -8000 ≤ j ∧ j ≤ 8000) : F40 a b c d i j = some (i * a + j * c, i * b + j * d) := by
  have h0 := mul_le (m := 8000) (n := 12) hi h.b0 (by omega) (by omega)
  have h1 := mul_le (m := 8000) (n := 12) hi h.b1 (by omega) (by omega)
  have h2 := mul_le (m := 8000) (n := 12) hj h.b2 (by omega) (by omega)
  have h3 := mul_le (m := 8000) (n := 12) hj h.b3 (by omega) (by omega)
  unfold F40
  rw [w64_id (x := i * a) (by omega) (by omega), w64_id (x := i * b) (by omega) (by omega), w64_id (x := j * c) (by omega) (by omega), w64_id (x := j * d) (by omega) (by omega),
    w64_id (by omega) (by omega), w64_id (by omega) (by omega)]
  rfl
theorem F20_good {a b c d : Int} (h : Kit4 a b c d) : F20 a b c d = some 0 := by
  rw [F20_eq]
  have h1 : inb 1000 a b = true := decide_eq_true ⟨h.b0, h.b1⟩
  have h2 : inb 1000 c d = true := decide_eq_true ⟨h.b2, h.b3⟩
  have h3 := h.nf
  simp [h1, h2, h3]
theorem F37_eq {a b c d i j k l : Int} (h : Kit12 a b c d) (hB : Bun a b c d i j k l) (hr : red (i * a + j * c) (i * b + j * d) (k * a + l * c) (k * b + l * d)) (h23 : F23 a b c d = some ((i, j), (k, l), 0)) :
    F37 a b c d = some (((i * a + j * c, i * b + j * d), (k * a + l * c, k * b + l * d)), true) := by
  have R := red12_of h hB hr
  have b1 := mul_le (m := 8000) (n := 8000) R.bi R.bl (by omega) (by omega)
  have b2 := mul_le (m := 8000) (n := 8000) R.bj R.bk (by omega) (by omega)
  have bx := R.bx
  have by' := R.by'
  have bu := R.bu
  have bv := R.bv
  unfold F37
  simp only [h23, Option.bind_eq_bind, Option.bind_some, bne_self_eq_false, Bool.false_eq_true, if_false, F38_eq R.bi R.bj, F38_eq R.bk R.bl, if_true, F40_eq h R.bi R.bj, F40_eq h R.bk R.bl]
  rw [F41_eq (by omega) (by omega) (by omega) (by omega), Option.bind_some]
  rw [w64_id (x := i * l) (by omega) (by omega), w64_id (x := j * k) (by omega) (by omega), w64_id (x := i * l - j * k) (by omega) (by omega)]
  rw [F41_eq (by omega) (by omega) (by omega) (by omega), F41_eq (by omega) (by omega) (by omega) (by omega)]
  simp only [Option.bind_some]
  obtain ⟨r1, r2, r3⟩ := hr
  have t1 := mul_le (m := 333) (n := 333) bx bu (by omega) (by omega)
  have t2 := mul_le (m := 333) (n := 333) by' bv (by omega) (by omega)
  have hm : w64 (2 * mx ((i * a + j * c) * (k * a + l * c) + (i * b + j * d) * (k * b + l * d)) (w64 (0 - ((i * a + j * c) * (k * a + l * c) + (i * b + j * d) * (k * b + l * d))))) ≤ (i * a + j * c) * (i * a + j * c) + (i * b + j * d) * (i * b + j * d) := by
    generalize (i * a + j * c) * (k * a + l * c) = t1' at *
    generalize (i * b + j * d) * (k * b + l * d) = t2' at *
    generalize (i * a + j * c) * (i * a + j * c) + (i * b + j * d) * (i * b + j * d) = s at *
    rw [w64_id (x := 0 - (t1' + t2')) (by omega) (by omega), mx_abs, w64_id (by omega) (by omega)]
    omega
  rw [Int.zero_sub] at hm
  rcases hB.det with hd | hd <;> simp [hd, r1, hm]
/-- The least rest against a fundamental cell. -/
theorem cell_pos {x y u v e f S : Int} (hD : 0 < x * v - y * u) (h : ∀ m n : Int, S ≤ (e + m * x + n * u) * (e + m * x + n * u) + (f + m * y + n * v) * (f + m * y + n * v)) : 4 * S ≤ x * x + y * y + (u * u + v * v) := by
  generalize hDD : x * v - y * u = D at hD
  obtain ⟨m, hm1, hm2⟩ : ∃ m : Int, -D < (e * v - f * u) + m * D ∧ (e * v - f * u) + m * D ≤ 0 := by
    refine ⟨(-(e * v - f * u)) / D, ?_⟩
    obtain ⟨s1, s2⟩ := div_spec (n := -(e * v - f * u)) hD
    have e1 : ((-(e * v - f * u)) / D + 1) * D = (-(e * v - f * u)) / D * D + D := by grind
    omega
  obtain ⟨n, hn1, hn2⟩ : ∃ n : Int, -D < (x * f - y * e) + n * D ∧ (x * f - y * e) + n * D ≤ 0 := by
    refine ⟨(-(x * f - y * e)) / D, ?_⟩
    obtain ⟨s1, s2⟩ := div_spec (n := -(x * f - y * e)) hD
    have e1 : ((-(x * f - y * e)) / D + 1) * D = (-(x * f - y * e)) / D * D + D := by grind
    omega
  have h00 := h m n
  have h10 := h (m + 1) n
  have h01 := h m (n + 1)
  have h11 := h (m + 1) (n + 1)
  have e10 : e + (m + 1) * x + n * u = (e + m * x + n * u) + x := by grind
  have e10' : f + (m + 1) * y + n * v = (f + m * y + n * v) + y := by grind
  have e01 : e + m * x + (n + 1) * u = (e + m * x + n * u) + u := by grind
  have e01' : f + m * y + (n + 1) * v = (f + m * y + n * v) + v := by grind
  have e11 : e + (m + 1) * x + (n + 1) * u = (e + m * x + n * u) + x + u := by grind
  have e11' : f + (m + 1) * y + (n + 1) * v = (f + m * y + n * v) + y + v := by grind
  rw [e10, e10'] at h10
  rw [e01, e01'] at h01
  rw [e11, e11'] at h11
  generalize hX : e + m * x + n * u = X at *
  generalize hY : f + m * y + n * v = Y at *
  have hp : X * v - Y * u = (e * v - f * u) + m * D := by rw [← hX, ← hY, ← hDD]; grind
  have hq : x * Y - y * X = (x * f - y * e) + n * D := by rw [← hX, ← hY, ← hDD]; grind
  rw [← hp] at hm1 hm2
  rw [← hq] at hn1 hn2
  generalize hP : X * v - Y * u = p at *
  generalize hQ : x * Y - y * X = q at *
  have w0 : 0 ≤ D + p := by omega
  have w1 : 0 ≤ -p := by omega
  have z0 : 0 ≤ D + q := by omega
  have z1 : 0 ≤ -q := by omega
  have k00 := Int.mul_le_mul_of_nonneg_left h00 (Int.mul_nonneg w0 z0)
  have k10 := Int.mul_le_mul_of_nonneg_left h10 (Int.mul_nonneg w1 z0)
  have k01 := Int.mul_le_mul_of_nonneg_left h01 (Int.mul_nonneg w0 z1)
  have k11 := Int.mul_le_mul_of_nonneg_left h11 (Int.mul_nonneg w1 z1)
  have xD : X * D = p * x + q * u := by rw [← hP, ← hQ, ← hDD]; grind
  have yD : Y * D = p * y + q * v := by rw [← hP, ← hQ, ← hDD]; grind
  have sumS : (D + p) * (D + q) * S + -p * (D + q) * S + (D + p) * -q * S + -p * -q * S = D * D * S := by grind
  have sumR : (D + p) * (D + q) * (X * X + Y * Y) + -p * (D + q) * ((X + x) * (X + x) + (Y + y) * (Y + y)) + (D + p) * -q * ((X + u) * (X + u) + (Y + v) * (Y + v)) + -p * -q * ((X + x + u) * (X + x + u) + (Y + y + v) * (Y + y + v))
      = (X * D) * (X * D) + (Y * D) * (Y * D) - 2 * (X * D) * (p * x + q * u) - 2 * (Y * D) * (p * y + q * v) - p * D * (x * x + y * y) - q * D * (u * u + v * v) + 2 * (p * q) * (x * u + y * v) := by grind
  rw [xD, yD] at sumR
  have sumT : (p * x + q * u) * (p * x + q * u) + (p * y + q * v) * (p * y + q * v) - 2 * (p * x + q * u) * (p * x + q * u) - 2 * (p * y + q * v) * (p * y + q * v) - p * D * (x * x + y * y) - q * D * (u * u + v * v) + 2 * (p * q) * (x * u + y * v)
      = -(p * p + p * D) * (x * x + y * y) - (q * q + q * D) * (u * u + v * v) := by grind
  rw [sumT] at sumR
  have a1 : 0 ≤ x * x + y * y := by have := sq_nn x; have := sq_nn y; omega
  have a2 : 0 ≤ u * u + v * v := by have := sq_nn u; have := sq_nn v; omega
  have qd : ∀ t : Int, 0 ≤ D * D + 4 * (t * t + t * D) := fun t => by
    have : D * D + 4 * (t * t + t * D) = (D + 2 * t) * (D + 2 * t) := by grind
    rw [this]; exact sq_nn _
  have b1 := Int.mul_nonneg (qd p) a1
  have b2 := Int.mul_nonneg (qd q) a2
  have c1 : (D * D + 4 * (p * p + p * D)) * (x * x + y * y) = D * D * (x * x + y * y) + 4 * ((p * p + p * D) * (x * x + y * y)) := by grind
  have c2 : (D * D + 4 * (q * q + q * D)) * (u * u + v * v) = D * D * (u * u + v * v) + 4 * ((q * q + q * D) * (u * u + v * v)) := by grind
  have c3 : -(p * p + p * D) * (x * x + y * y) = -((p * p + p * D) * (x * x + y * y)) := by grind
  have fin : D * D * (4 * S) ≤ D * D * (x * x + y * y + (u * u + v * v)) := by
    have d1 : D * D * (4 * S) = 4 * (D * D * S) := by grind
    have d2 : D * D * (x * x + y * y + (u * u + v * v)) = D * D * (x * x + y * y) + D * D * (u * u + v * v) := by grind
    omega
  exact Int.le_of_mul_le_mul_left fin (Int.mul_pos hD hD)
theorem cell {x y u v e f S : Int} (hD : x * v - y * u ≠ 0) (h : ∀ m n : Int, S ≤ (e + m * x + n * u) * (e + m * x + n * u) + (f + m * y + n * v) * (f + m * y + n * v)) : 4 * S ≤ x * x + y * y + (u * u + v * v) := by
  by_cases hp : 0 < x * v - y * u
  · exact cell_pos hp h
  · have := cell_pos (x := x) (y := y) (u := -u) (v := -v) (e := e) (f := f) (S := S) (by
      have : x * -v - y * -u = -(x * v - y * u) := by grind
      omega) fun m n => by
        have := h m (-n)
        have e1 : n * -u = -n * u := by grind
        have e2 : n * -v = -n * v := by grind
        rw [e1, e2]; exact this
    have e1 : -u * -u + -v * -v = u * u + v * v := by grind
    omega
/-- A vector that the kit pulls. -/
def Lat2 (a b c d : Int) (v : Int × Int) : Prop := ∃ m n : Int, v.1 = m * a + n * c ∧ v.2 = m * b + n * d
theorem lat_of {a b c d x y : Int} (hD : a * d - b * c ≠ 0) : (Int.tmod ((x * d - y * c).natAbs : Int) ((a * d - b * c).natAbs : Int) = 0 ∧ Int.tmod ((a * y - b * x).natAbs : Int) ((a * d - b * c).natAbs : Int) = 0) ↔ Lat2 a b c d (x, y) := by
  constructor
  · rintro ⟨h1, h2⟩
    have d1 := Int.natAbs_dvd_natAbs.1 (Int.ofNat_dvd.1 (Int.dvd_of_tmod_eq_zero h1))
    have d2 := Int.natAbs_dvd_natAbs.1 (Int.ofNat_dvd.1 (Int.dvd_of_tmod_eq_zero h2))
    obtain ⟨m, hm⟩ := d1
    obtain ⟨n, hn⟩ := d2
    refine ⟨m, n, ?_, ?_⟩
    · refine Int.eq_of_mul_eq_mul_left hD ?_
      have : (a * d - b * c) * (m * a + n * c) = ((a * d - b * c) * m) * a + ((a * d - b * c) * n) * c := by grind
      rw [this, ← hm, ← hn]
      grind
    · refine Int.eq_of_mul_eq_mul_left hD ?_
      have : (a * d - b * c) * (m * b + n * d) = ((a * d - b * c) * m) * b + ((a * d - b * c) * n) * d := by grind
      rw [this, ← hm, ← hn]
      grind
  · rintro ⟨m, n, h1, h2⟩
    simp only at h1 h2
    have e1 : x * d - y * c = m * (a * d - b * c) := by rw [h1, h2]; grind
    have e2 : a * y - b * x = n * (a * d - b * c) := by rw [h1, h2]; grind
    rw [e1, e2, Int.natAbs_mul, Int.natAbs_mul, Int.natCast_mul, Int.natCast_mul]
    exact ⟨Int.mul_tmod_left _ _, Int.mul_tmod_left _ _⟩
/-- What pulls has listed so far. -/
structure Listed (a b c d : Int) (T : Int → Int → Prop) (n : Nat) (l : List (Int × Int)) : Prop where
  nd : l.Nodup
  len : l.length ≤ n
  mem : ∀ v, v ∈ l ↔ Lat2 a b c d v ∧ T v.1 v.2
theorem F42l1_eq {a b c d X Y R x : Int} (h : Kit12 a b c d) (bX : -300 ≤ X ∧ X ≤ 300) (bY : -300 ≤ Y ∧ Y ≤ 300) (bR : 0 ≤ R ∧ R ≤ 20) (hx : -320 ≤ x ∧ x ≤ 320) : ∀ (m : Nat) (y : Int) (T : Int → Int → Prop) (n : Nat) (l : List (Int × Int)), y + m = Y + R + 1 → Y - R ≤ y → n + m ≤ 100000 → (∀ q, T x q → q < y) → Listed a b c d T n l →
    ∃ l', F42l1 a b c d X Y R ((a * d - b * c).natAbs : Int) x y l = some l' ∧ Listed a b c d (fun p q => T p q ∨ p = x ∧ y ≤ q ∧ q ≤ Y + R) (n + m) l' := by
  intro m
  induction m with
  | zero =>
    intro y T n l hm h1 hn hT hL
    rw [F42l1_fix, w64_id (x := Y + R) (by omega) (by omega)]
    have : ¬ y ≤ Y + R := by omega
    simp only [this, decide_false, Bool.false_eq_true, if_false]
    exact ⟨l, rfl, hL.nd, hL.len, fun v => by
      rw [hL.mem]
      constructor
      · rintro ⟨p, q⟩; exact ⟨p, .inl q⟩
      · rintro ⟨p, q | q⟩
        · exact ⟨p, q⟩
        · omega⟩
  | succ m ih =>
    intro y T n l hm h1 hn hT hL
    rw [F42l1_fix, w64_id (x := Y + R) (by omega) (by omega)]
    have hy : y ≤ Y + R := by omega
    have b0 := h.b0
    have b1 := h.b1
    have b2 := h.b2
    have b3 := h.b3
    have hD := h.nf
    have hz : ¬ (((a * d - b * c).natAbs : Nat) : Int) = 0 := by omega
    simp only [hy, decide_true, if_true, F43_eq, Option.bind_eq_bind, Option.bind_some]
    rw [F45_eq (by omega) (by omega) (by omega) (by omega), Option.bind_some, F45_eq (by omega) (by omega) (by omega) (by omega), w64_id (x := y + 1) (by omega) (by omega)]
    simp only [hz, if_false, Option.bind_some]
    have hlen : l.length ≤ 1000000000 := by have := hL.len; omega
    have again : ∀ l2 : List (Int × Int), Listed a b c d (fun p q => T p q ∨ p = x ∧ q = y) (n + 1) l2 → ∃ l', F42l1 a b c d X Y R ((a * d - b * c).natAbs : Int) x (y + 1) l2 = some l' ∧ Listed a b c d (fun p q => T p q ∨ p = x ∧ y ≤ q ∧ q ≤ Y + R) (n + (m + 1)) l' := fun l2 h3 => by
      obtain ⟨l', q1, q2⟩ := ih (y + 1) _ (n + 1) l2 (by omega) (by omega) (by omega) (fun q hq => by
        rcases hq with hq | hq
        · have := hT q hq; omega
        · omega) h3
      refine ⟨l', q1, q2.nd, by have := q2.len; omega, fun v => ?_⟩
      rw [q2.mem]
      constructor
      · rintro ⟨p, (q | q) | q⟩
        · exact ⟨p, .inl q⟩
        · exact ⟨p, .inr ⟨q.1, by omega, by omega⟩⟩
        · exact ⟨p, .inr ⟨q.1, by omega, by omega⟩⟩
      · rintro ⟨p, q | q⟩
        · exact ⟨p, .inl (.inl q)⟩
        · by_cases e : v.2 = y
          · exact ⟨p, .inl (.inr ⟨q.1, e⟩)⟩
          · exact ⟨p, .inr ⟨q.1, by omega, by omega⟩⟩
    have no : ¬ Lat2 a b c d (x, y) → Listed a b c d (fun p q => T p q ∨ p = x ∧ q = y) (n + 1) l := fun hl => ⟨hL.nd, by have := hL.len; omega, fun v => by
      rw [hL.mem]
      constructor
      · rintro ⟨p, q⟩; exact ⟨p, .inl q⟩
      · rintro ⟨p, q | q⟩
        · exact ⟨p, q⟩
        · exact absurd (show Lat2 a b c d (x, y) from by rw [← q.1, ← q.2]; exact p) hl⟩
    have lat := lat_of (x := x) (y := y) hD
    by_cases t1 : Int.tmod ((x * d - y * c).natAbs : Int) ((a * d - b * c).natAbs : Int) = 0
    · by_cases t2 : Int.tmod ((a * y - b * x).natAbs : Int) ((a * d - b * c).natAbs : Int) = 0
      · simp only [t1, t2, beq_self_eq_true, if_true, hlen, Option.bind_some]
        refine again _ ⟨?_, by simp only [List.length_append, List.length_cons, List.length_nil]; have := hL.len; omega, fun v => ?_⟩
        · rw [List.nodup_append]
          refine ⟨hL.nd, by simp, fun v hv w hw e => ?_⟩
          rw [List.mem_singleton] at hw
          subst e; subst hw
          have := ((hL.mem (x, y)).1 hv).2
          have := hT y this
          omega
        · rw [List.mem_append, List.mem_singleton, hL.mem]
          constructor
          · rintro (⟨p, q⟩ | rfl)
            · exact ⟨p, .inl q⟩
            · exact ⟨lat.1 ⟨t1, t2⟩, .inr ⟨rfl, rfl⟩⟩
          · rintro ⟨p, q | q⟩
            · exact .inl ⟨p, q⟩
            · exact .inr (Prod.ext q.1 q.2)
      · have : (Int.tmod ((a * y - b * x).natAbs : Int) ((a * d - b * c).natAbs : Int) == 0) = false := by simpa using t2
        simp only [t1, this, beq_self_eq_true, if_true, Bool.false_eq_true, if_false, Option.bind_some]
        exact again l (no fun hl => t2 (lat.2 hl).2)
    · have : (Int.tmod ((x * d - y * c).natAbs : Int) ((a * d - b * c).natAbs : Int) == 0) = false := by simpa using t1
      simp only [this, Bool.false_eq_true, if_false, Option.bind_some]
      exact again l (no fun hl => t1 (lat.2 hl).1)
theorem F42l0_eq {a b c d X Y R : Int} (h : Kit12 a b c d) (bX : -300 ≤ X ∧ X ≤ 300) (bY : -300 ≤ Y ∧ Y ≤ 300) (bR : 0 ≤ R ∧ R ≤ 20) : ∀ (m : Nat) (x : Int) (T : Int → Int → Prop) (n : Nat) (l : List (Int × Int)), x + m = X + R + 1 → X - R ≤ x → n + 41 * m ≤ 10000 → (∀ p q, T p q → p < x) → Listed a b c d T n l →
    ∃ l', F42l0 a b c d X Y R ((a * d - b * c).natAbs : Int) l x = some l' ∧ Listed a b c d (fun p q => T p q ∨ (x ≤ p ∧ p ≤ X + R) ∧ Y - R ≤ q ∧ q ≤ Y + R) (n + 41 * m) l' := by
  intro m
  induction m with
  | zero =>
    intro x T n l hm h1 hn hT hL
    rw [F42l0_fix, w64_id (x := X + R) (by omega) (by omega)]
    have : ¬ x ≤ X + R := by omega
    simp only [this, decide_false, Bool.false_eq_true, if_false]
    exact ⟨l, rfl, hL.nd, hL.len, fun v => by
      rw [hL.mem]
      constructor
      · rintro ⟨p, q⟩; exact ⟨p, .inl q⟩
      · rintro ⟨p, q | q⟩
        · exact ⟨p, q⟩
        · omega⟩
  | succ m ih =>
    intro x T n l hm h1 hn hT hL
    rw [F42l0_fix, w64_id (x := X + R) (by omega) (by omega), w64_id (x := Y - R) (by omega) (by omega), w64_id (x := x + 1) (by omega) (by omega)]
    have hx : x ≤ X + R := by omega
    simp only [hx, decide_true, if_true]
    obtain ⟨l', q1, q2⟩ := F42l1_eq h bX bY bR (x := x) (by omega) (2 * R + 1).toNat (Y - R) T n l (by omega) (by omega) (by omega) (fun q hq => by have := hT x q hq; omega) hL
    rw [q1, bs]
    obtain ⟨l'', q3, q4⟩ := ih (x + 1) (fun p q => T p q ∨ p = x ∧ Y - R ≤ q ∧ q ≤ Y + R) (n + 41) l' (by omega) (by omega) (by omega) (fun p q hpq => by
      rcases hpq with hpq | hpq
      · have := hT p q hpq; omega
      · omega) ⟨q2.nd, by have := q2.len; omega, q2.mem⟩
    refine ⟨l'', q3, q4.nd, by have := q4.len; omega, fun v => ?_⟩
    rw [q4.mem]
    constructor
    · rintro ⟨p, (q | q) | q⟩
      · exact ⟨p, .inl q⟩
      · exact ⟨p, .inr ⟨by omega, q.2⟩⟩
      · exact ⟨p, .inr ⟨by omega, q.2⟩⟩
    · rintro ⟨p, q | q⟩
      · exact ⟨p, .inl (.inl q)⟩
      · by_cases e : v.1 = x
        · exact ⟨p, .inl (.inr ⟨e, q.2⟩)⟩
        · exact ⟨p, .inr ⟨by omega, q.2⟩⟩
/-- The pulls up to a distance from a place. -/
theorem F42_eq {a b c d X Y R : Int} (h : Kit12 a b c d) (bX : -300 ≤ X ∧ X ≤ 300) (bY : -300 ≤ Y ∧ Y ≤ 300) (bR : 0 ≤ R ∧ R ≤ 20) : ∃ l, F42 a b c d X Y R = some l ∧ l.Nodup ∧ l.length ≤ 10000 ∧ ∀ v, v ∈ l ↔ Lat2 a b c d v ∧ (X - R ≤ v.1 ∧ v.1 ≤ X + R) ∧ Y - R ≤ v.2 ∧ v.2 ≤ Y + R := by
  have b0 := h.b0
  have b1 := h.b1
  have b2 := h.b2
  have b3 := h.b3
  unfold F42
  rw [F45_eq (by omega) (by omega) (by omega) (by omega), bs, w64_id (x := X - R) (by omega) (by omega)]
  obtain ⟨l, q1, q2⟩ := F42l0_eq h bX bY bR (2 * R + 1).toNat (X - R) (fun _ _ => False) 0 [] (by omega) (by omega) (by omega) (fun _ _ hp => hp.elim) ⟨List.nodup_nil, by simp, fun v => by simp⟩
  rw [q1, bs]
  refine ⟨l, rfl, q2.nd, by have := q2.len; omega, fun v => ?_⟩
  rw [q2.mem]
  simp only [false_or]
theorem best12 {a b c d e f : Int} (h : Kit12 a b c d) (be : -199 ≤ e ∧ e ≤ 199) (bf : -199 ≤ f ∧ f ≤ 199) {p : Int × Int} (hp : Best a b c d e f p) :
    4 * lft a b c d e f p ≤ 576 ∧ ((-12 ≤ e + p.1 * a + p.2 * c ∧ e + p.1 * a + p.2 * c ≤ 12) ∧ (-12 ≤ f + p.1 * b + p.2 * d ∧ f + p.1 * b + p.2 * d ≤ 12)) ∧ (-8000 ≤ p.1 ∧ p.1 ≤ 8000) ∧ (-8000 ≤ p.2 ∧ p.2 ≤ 8000) := by
  have h1 := cell (x := a) (y := b) (u := c) (v := d) (e := e) (f := f) (S := lft a b c d e f p) h.nf fun m n => hp (m, n)
  have m0 := mul_le (m := 12) (n := 12) h.b0 h.b0 (by omega) (by omega)
  have m1 := mul_le (m := 12) (n := 12) h.b1 h.b1 (by omega) (by omega)
  have m2 := mul_le (m := 12) (n := 12) h.b2 h.b2 (by omega) (by omega)
  have m3 := mul_le (m := 12) (n := 12) h.b3 h.b3 (by omega) (by omega)
  have h2 : 4 * lft a b c d e f p ≤ 576 := by omega
  have h3 : lft a b c d e f p = (e + p.1 * a + p.2 * c) * (e + p.1 * a + p.2 * c) + (f + p.1 * b + p.2 * d) * (f + p.1 * b + p.2 * d) := rfl
  have n1 := sq_nn (e + p.1 * a + p.2 * c)
  have n2 := sq_nn (f + p.1 * b + p.2 * d)
  have b1 := sq_bd (a := e + p.1 * a + p.2 * c) (m := 12) (by omega) (by omega)
  have b2 := sq_bd (a := f + p.1 * b + p.2 * d) (m := 12) (by omega) (by omega)
  have b3 := best_small (A := 12) (E := 211) (by omega) (by omega) h.nf h.b0 h.b1 h.b2 h.b3 (p := p) (by omega) (by omega)
  exact ⟨h2, ⟨b1, b2⟩, by omega, by omega⟩
theorem F39_eq {a b c d : Int} (ha : -1000000 ≤ a ∧ a ≤ 1000000) (hb : -1000000 ≤ b ∧ b ≤ 1000000) (hc : -1000000 ≤ c ∧ c ≤ 1000000) (hd : -1000000 ≤ d ∧ d ≤ 1000000) : F39 a b c d = some (a + c, b + d) := by
  unfold F39
  rw [w64_id (by omega) (by omega), w64_id (by omega) (by omega), F43_eq]
  rfl
/-- A ship's bundles. -/
theorem bundled12 {a b c d : Int} (h : Kit12 a b c d) : ∃ i j k l, F23 a b c d = some ((i, j), (k, l), 0) ∧ RB a b c d i j k l ∧ Red12 a b c d i j k l ∧ F37 a b c d = some (((i * a + j * c, i * b + j * d), (k * a + l * c, k * b + l * d)), true) := by
  obtain ⟨i, j, k, l, h1, hB⟩ := F23_eq h.kit
  exact ⟨i, j, k, l, h1, hB, red12_of h hB.bun hB.red, F37_eq h hB.bun hB.red h1⟩

end Go.Proofs.Ytenjelagfbceeaa
