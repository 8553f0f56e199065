/- What the functions of the laws without the reference compute. -/
import Derived.Test.YtenjelagfbceeaaLB4
import Derived.Test.YtenjelagfbceeaaG10
set_option linter.unusedVariables false
set_option linter.unusedSimpArgs false
set_option maxHeartbeats 4000000
namespace Go.Proofs.Ytenjelagfbceeaa
open Go Go.Cl
theorem F48l0_fix (p0 : (List (Int × Int))) (p1 : (List (Int × Int))) (v10 : Int) : F48l0 p0 p1 v10 = (
    if decide (v10 < (List.length p0 : Int)) then
      if (0 : Int) ≤ v10 ∧ v10 < (List.length p0 : Int) then
        some (List.getD p0 (Int.toNat v10) (0, 0)) >>= fun o21 =>
        if (0 : Int) ≤ v10 ∧ v10 < (List.length p1 : Int) then
          some (List.getD p1 (Int.toNat v10) (0, 0)) >>= fun o24 =>
          if !((o21.1 == o24.1) && ((o21.2 == o24.2) && true)) then
            some (.inl ())
          else
            F48l0 p0 p1 (w64 (v10 + 1))
        else none
      else none
    else
      some (.inr ())
    : Option (Unit ⊕ Unit)) := by
  delta F48l0
  conv => lhs; rw [Lean.Order.fix_eq]
theorem F10l0_fix (r3 : ((List (Int × Int)) × Int)) (r9 : (Int × Int)) (r15 : ((List (Int × Int)) × Int)) (r35 : ((List (Int × Int)) × Int)) (v76 : Int) : F10l0 r3 r9 r15 r35 v76 = (
    if decide (v76 < (List.length r3.1 : Int)) then
      if (0 : Int) ≤ v76 ∧ v76 < (List.length r15.1 : Int) then
        some (List.getD r15.1 (Int.toNat v76) (0, 0)) >>= fun o96 =>
        if (0 : Int) ≤ v76 ∧ v76 < (List.length r3.1 : Int) then
          some (List.getD r3.1 (Int.toNat v76) (0, 0)) >>= fun o99 =>
          F44 (w64 (o99.1 - r9.1)) (w64 (o99.2 - r9.2)) >>= fun r101 =>
          (
            if !((o96.1 == r101.1) && ((o96.2 == r101.2) && true)) then
              some (true)
            else
              if (0 : Int) ≤ w64 ((w64 ((List.length r35.1 : Int) - 1)) - v76) ∧ w64 ((w64 ((List.length r35.1 : Int) - 1)) - v76) < (List.length r35.1 : Int) then
                some (List.getD r35.1 (Int.toNat (w64 ((w64 ((List.length r35.1 : Int) - 1)) - v76))) (0, 0)) >>= fun o105 =>
                F44 (w64 (0 - o99.1)) (w64 (0 - o99.2)) >>= fun r107 =>
                some (!((o105.1 == r107.1) && ((o105.2 == r107.2) && true)))
              else none
          : Option Bool) >>= fun m109 =>
          if m109 then
            some (.inl ())
          else
            F10l0 r3 r9 r15 r35 (w64 (v76 + 1))
        else none
      else none
    else
      some (.inr ())
    : Option (Unit ⊕ Unit)) := by
  delta F10l0
  conv => lhs; rw [Lean.Order.fix_eq]
theorem mx_abs (x : Int) : mx x (0 - x) = (x.natAbs : Int) := by
  unfold mx
  split <;> omega
theorem F43_eq (a b : Int) : F43 a b = some (a, b) := rfl
theorem F45_eq {a b c d : Int} (ha : -40000 ≤ a ∧ a ≤ 40000) (hb : -40000 ≤ b ∧ b ≤ 40000) (hc : -40000 ≤ c ∧ c ≤ 40000) (hd : -40000 ≤ d ∧ d ≤ 40000) : F45 a b c d = some ((a * d - b * c).natAbs : Int) := by
  have h1 := mul_le (m := 40000) (n := 40000) ha hd (by omega) (by omega)
  have h2 := mul_le (m := 40000) (n := 40000) hb hc (by omega) (by omega)
  unfold F45
  rw [w64_id (x := a * d) (by omega) (by omega), w64_id (x := b * c) (by omega) (by omega), w64_id (x := a * d - b * c) (by omega) (by omega), w64_id (by omega) (by omega), mx_abs]
  rfl
theorem tmod_lt (x : Int) {m : Int} (hm : 0 < m) : -m < Int.tmod x m ∧ Int.tmod x m < m := ⟨Int.lt_tmod_of_pos x hm, Int.tmod_lt_of_pos x hm⟩
/-- The kit of a ship by numbers: small, and not flat. -/
structure Kit12 (a b c d : Int) : Prop where
  b0 : -12 ≤ a ∧ a ≤ 12
  b1 : -12 ≤ b ∧ b ≤ 12
  b2 : -12 ≤ c ∧ c ≤ 12
  b3 : -12 ≤ d ∧ d ≤ 12
  nf : a * d - b * c ≠ 0
theorem Kit12.kit {a b c d : Int} (h : Kit12 a b c d) : Kit4 a b c d :=
  ⟨by have := h.b0; omega, by have := h.b1; omega, by have := h.b2; omega, by have := h.b3; omega, h.nf⟩
theorem F36_eq (p0 p1 p2 p3 p4 p5 : Int) : ∃ a b c d x y, F36 p0 p1 p2 p3 p4 p5 = some (((a, b), (c, d)), (x, y)) ∧ Kit12 a b c d ∧ (-199 ≤ x ∧ x ≤ 199) ∧ (-199 ≤ y ∧ y ≤ 199) := by
  have h0 := tmod_lt (w64 p0) (m := 13) (by omega)
  have h1 := tmod_lt (w64 p1) (m := 13) (by omega)
  have h2 := tmod_lt (w64 p2) (m := 13) (by omega)
  have h3 := tmod_lt (w64 p3) (m := 13) (by omega)
  have h4 := tmod_lt (w64 p4) (m := 200) (by omega)
  have h5 := tmod_lt (w64 p5) (m := 200) (by omega)
  unfold F36 F49
  simp only [F43_eq, Option.bind_eq_bind, Option.bind_some]
  generalize Int.tmod (w64 p0) 13 = a at *
  generalize Int.tmod (w64 p1) 13 = b at *
  generalize Int.tmod (w64 p2) 13 = c at *
  generalize Int.tmod (w64 p3) 13 = d at *
  generalize Int.tmod (w64 p4) 200 = x at *
  generalize Int.tmod (w64 p5) 200 = y at *
  rw [F45_eq (by omega) (by omega) (by omega) (by omega)]
  simp only [Option.bind_some]
  by_cases hz : a * d - b * c = 0
  · simp only [hz, Int.natAbs_zero, Int.ofNat_zero, beq_self_eq_true, if_true, Option.bind_some]
    exact ⟨3, 1, 1, 4, x, y, rfl, ⟨by omega, by omega, by omega, by omega, by omega⟩, by omega, by omega⟩
  · have : (((a * d - b * c).natAbs : Int) == 0) = false := by
      rw [beq_eq_false_iff_ne]
      omega
    simp only [this, Bool.false_eq_true, if_false, Option.bind_some]
    exact ⟨a, b, c, d, x, y, rfl, ⟨by omega, by omega, by omega, by omega, hz⟩, by omega, by omega⟩
/-- What is known of reduced bundles of a small kit. -/
structure Red12 (a b c d i j k l : Int) : Prop where
  bx : -333 ≤ i * a + j * c ∧ i * a + j * c ≤ 333
  by' : -333 ≤ i * b + j * d ∧ i * b + j * d ≤ 333
  bu : -333 ≤ k * a + l * c ∧ k * a + l * c ≤ 333
  bv : -333 ≤ k * b + l * d ∧ k * b + l * d ≤ 333
  bi : -8000 ≤ i ∧ i ≤ 8000
  bj : -8000 ≤ j ∧ j ≤ 8000
  bk : -8000 ≤ k ∧ k ≤ 8000
  bl : -8000 ≤ l ∧ l ≤ 8000
  area : 3 * ((i * a + j * c) * (i * a + j * c) + (i * b + j * d) * (i * b + j * d)) * ((k * a + l * c) * (k * a + l * c) + (k * b + l * d) * (k * b + l * d)) ≤ 4 * ((a * d - b * c) * (a * d - b * c))
theorem det_of {a b c d i j k l : Int} : (i * a + j * c) * (k * b + l * d) - (i * b + j * d) * (k * a + l * c) = (i * l - j * k) * (a * d - b * c) := by grind
theorem sq_of_det {D e : Int} (hd : e = 1 ∨ e = -1) : e * D * (e * D) = D * D := by
  rcases hd with h | h <;> subst h <;> grind
theorem coef {D x y p q i : Int} (hD : D ≠ 0) (hx : -333 ≤ x ∧ x ≤ 333) (hy : -333 ≤ y ∧ y ≤ 333) (hp : -12 ≤ p ∧ p ≤ 12) (hq : -12 ≤ q ∧ q ≤ 12) (h : i * D = x * p - y * q) : -8000 ≤ i ∧ i ≤ 8000 := by
  have a1 := mul_le (m := 333) (n := 12) hx hp (by omega) (by omega)
  have a2 := mul_le (m := 333) (n := 12) hy hq (by omega) (by omega)
  have h1 : i.natAbs * D.natAbs ≤ 8000 := by rw [← Int.natAbs_mul]; omega
  have h2 : i.natAbs * 1 ≤ i.natAbs * D.natAbs := Nat.mul_le_mul_left _ (by omega)
  omega
theorem red12_of {a b c d i j k l : Int} (h : Kit12 a b c d) (hB : Bun a b c d i j k l) (hr : red (i * a + j * c) (i * b + j * d) (k * a + l * c) (k * b + l * d)) : Red12 a b c d i j k l := by
  have ha := area_of hr
  have hp := pos_of h.kit hB.det
  rw [det_of, sq_of_det hB.det] at ha
  have m1 := mul_le (m := 12) (n := 12) h.b0 h.b3 (by omega) (by omega)
  have m2 := mul_le (m := 12) (n := 12) h.b1 h.b2 (by omega) (by omega)
  have hD2 : (a * d - b * c) * (a * d - b * c) ≤ 82944 := by
    have := mul_le (a := a * d - b * c) (b := a * d - b * c) (m := 288) (n := 288) (by omega) (by omega) (by omega) (by omega)
    omega
  have hle := hr.1
  have hnn : 0 ≤ (k * a + l * c) * (k * a + l * c) + (k * b + l * d) * (k * b + l * d) := by have := sq_nn (k * a + l * c); have := sq_nn (k * b + l * d); omega
  have hr1 : (k * a + l * c) * (k * a + l * c) + (k * b + l * d) * (k * b + l * d) ≤ 110592 := by
    have e : 3 * ((i * a + j * c) * (i * a + j * c) + (i * b + j * d) * (i * b + j * d)) * ((k * a + l * c) * (k * a + l * c) + (k * b + l * d) * (k * b + l * d)) = 3 * (((i * a + j * c) * (i * a + j * c) + (i * b + j * d) * (i * b + j * d)) * ((k * a + l * c) * (k * a + l * c) + (k * b + l * d) * (k * b + l * d))) := by grind
    have q := Int.mul_le_mul_of_nonneg_right (show (1 : Int) ≤ (i * a + j * c) * (i * a + j * c) + (i * b + j * d) * (i * b + j * d) by omega) hnn
    omega
  have n1 := sq_nn (i * a + j * c)
  have n2 := sq_nn (i * b + j * d)
  have n3 := sq_nn (k * a + l * c)
  have n4 := sq_nn (k * b + l * d)
  have bx := sq_bd (a := i * a + j * c) (m := 333) (by omega) (by omega)
  have by' := sq_bd (a := i * b + j * d) (m := 333) (by omega) (by omega)
  have bu := sq_bd (a := k * a + l * c) (m := 333) (by omega) (by omega)
  have bv := sq_bd (a := k * b + l * d) (m := 333) (by omega) (by omega)
  have e1 : i * (a * d - b * c) = (i * a + j * c) * d - (i * b + j * d) * c := by grind
  have e2 : j * (a * d - b * c) = (i * b + j * d) * a - (i * a + j * c) * b := by grind
  have e3 : k * (a * d - b * c) = (k * a + l * c) * d - (k * b + l * d) * c := by grind
  have e4 : l * (a * d - b * c) = (k * b + l * d) * a - (k * a + l * c) * b := by grind
  exact ⟨bx, by', bu, bv, coef h.nf bx by' h.b3 h.b2 e1, coef h.nf by' bx h.b0 h.b1 e2, coef h.nf bu bv h.b3 h.b2 e3, coef h.nf bv bu h.b0 h.b1 e4, ha⟩
theorem F40_eq {a b c d i j : Int} (h : Kit12 a b c d) (hi : -8000 ≤ i ∧ i ≤ 8000) (hj : -8000 ≤ j ∧ j ≤ 8000) : F40 a b c d i j = some (i * a + j * c, i * b + j * d) := by
  have h0 := mul_le (m := 8000) (n := 12) hi h.b0 (by omega) (by omega)
  have h1 := mul_le (m := 8000) (n := 12) hi h.b1 (by omega) (by omega)
  have h2 := mul_le (m := 8000) (n := 12) hj h.b2 (by omega) (by omega)
  have h3 := mul_le (m := 8000) (n := 12) hj h.b3 (by omega) (by omega)
  unfold F40
  rw [w64_id (x := i * a) (by omega) (by omega), w64_id (x := i * b) (by omega) (by omega), w64_id (x := j * c) (by omega) (by omega), w64_id (x := j * d) (by omega) (by omega),
    w64_id (by omega) (by omega), w64_id (by omega) (by omega)]
  rfl
theorem F20_good {a b c d : Int} (h : Kit4 a b c d) : F20 a b c d = some 0 := by
  rw [F20_eq]
  have h1 : inb 1000 a b = true := decide_eq_true ⟨h.b0, h.b1⟩
  have h2 : inb 1000 c d = true := decide_eq_true ⟨h.b2, h.b3⟩
  have h3 := h.nf
  simp [h1, h2, h3]
/-- The least rest against a fundamental cell. -/
theorem cell_pos {x y u v e f S : Int} (hD : 0 < x * v - y * u) (h : ∀ m n : Int, S ≤ (e + m * x + n * u) * (e + m * x + n * u) + (f + m * y + n * v) * (f + m * y + n * v)) : 4 * S ≤ x * x + y * y + (u * u + v * v) := by
  generalize hDD : x * v - y * u = D at hD
  obtain ⟨m, hm1, hm2⟩ : ∃ m : Int, -D < (e * v - f * u) + m * D ∧ (e * v - f * u) + m * D ≤ 0 := by
    refine ⟨(-(e * v - f * u)) / D, ?_⟩
    obtain ⟨s1, s2⟩ := div_spec (n := -(e * v - f * u)) hD
    have e1 : ((-(e * v - f * u)) / D + 1) * D = (-(e * v - f * u)) / D * D + D := by grind
    omega
  obtain ⟨n, hn1, hn2⟩ : ∃ n : Int, -D < (x * f - y * e) + n * D ∧ (x * f - y * e) + n * D ≤ 0 := by
    refine ⟨(-(x * f - y * e)) / D, ?_⟩
    obtain ⟨s1, s2⟩ := div_spec (n := -(x * f - y * e)) hD
    have e1 : ((-(x * f - y * e)) / D + 1) * D = (-(x * f - y * e)) / D * D + D := by grind
    omega
  have h00 := h m n
  have h10 := h (m + 1) n
  have h01 := h m (n + 1)
  have h11 := h (m + 1) (n + 1)
  have e10 : e + (m + 1) * x + n * u = (e + m * x + n * u) + x := by grind
  have e10' : f + (m + 1) * y + n * v = (f + m * y + n * v) + y := by grind
  have e01 : e + m * x + (n + 1) * u = (e + m * x + n * u) + u := by grind
  have e01' : f + m * y + (n + 1) * v = (f + m * y + n * v) + v := by grind
  have e11 : e + (m + 1) * x + (n + 1) * u = (e + m * x + n * u) + x + u := by grind
  have e11' : f + (m + 1) * y + (n + 1) * v = (f + m * y + n * v) + y + v := by grind
  rw [e10, e10'] at h10
  rw [e01, e01'] at h01
  rw [e11, e11'] at h11
  generalize hX : e + m * x + n * u = X at *
  generalize hY : f + m * y + n * v = Y at *
  have hp : X * v - Y * u = (e * v - f * u) + m * D := by rw [← hX, ← hY, ← hDD]; grind
  have hq : x * Y - y * X = (x * f - y * e) + n * D := by rw [← hX, ← hY, ← hDD]; grind
  rw [← hp] at hm1 hm2
  rw [← hq] at hn1 hn2
  generalize hP : X * v - Y * u = p at *
  generalize hQ : x * Y - y * X = q at *
  have w0 : 0 ≤ D + p := by omega
  have w1 : 0 ≤ -p := by omega
  have z0 : 0 ≤ D + q := by omega
  have z1 : 0 ≤ -q := by omega
  have k00 := Int.mul_le_mul_of_nonneg_left h00 (Int.mul_nonneg w0 z0)
  have k10 := Int.mul_le_mul_of_nonneg_left h10 (Int.mul_nonneg w1 z0)
  have k01 := Int.mul_le_mul_of_nonneg_left h01 (Int.mul_nonneg w0 z1)
  have k11 := Int.mul_le_mul_of_nonneg_left h11 (Int.mul_nonneg w1 z1)
  have xD : X * D = p * x + q * u := by rw [← hP, ← hQ, ← hDD]; grind
  have yD : Y * D = p * y + q * v := by rw [← hP, ← hQ, ← hDD]; grind
  have sumS : (D + p) * (D + q) * S + -p * (D + q) * S + (D + p) * -q * S + -p * -q * S = D * D * S := by grind
  have sumR : (D + p) * (D + q) * (X * X + Y * Y) + -p * (D + q) * ((X + x) * (X + x) + (Y + y) * (Y + y)) + (D + p) * -q * ((X + u) * (X + u) + (Y + v) * (Y + v)) + -p * -q * ((X + x + u) * (X + x + u) + (Y + y + v) * (Y + y + v))
      = (X * D) * (X * D) + (Y * D) * (Y * D) - 2 * (X * D) * (p * x + q * u) - 2 * (Y * D) * (p * y + q * v) - p * D * (x * x + y * y) - q * D * (u * u + v * v) + 2 * (p * q) * (x * u + y * v) := by grind
  rw [xD, yD] at sumR
  have sumT : (p * x + q * u) * (p * x + q * u) + (p * y + q * v) * (p * y + q * v) - 2 * (p * x + q * u) * (p * x + q * u) - 2 * (p * y + q * v) * (p * y + q * v) - p * D * (x * x + y * y) - q * D * (u * u + v * v) + 2 * (p * q) * (x * u + y * v)
      = -(p * p + p * D) * (x * x + y * y) - (q * q + q * D) * (u * u + v * v) := by grind
  rw [sumT] at sumR
  have a1 : 0 ≤ x * x + y * y := by have := sq_nn x; have := sq_nn y; omega
  have a2 : 0 ≤ u * u + v * v := by have := sq_nn u; have := sq_nn v; omega
  have qd : ∀ t : Int, 0 ≤ D * D + 4 * (t * t + t * D) := fun t => by
    have : D * D + 4 * (t * t + t * D) = (D + 2 * t) * (D + 2 * t) := by grind
    rw [this]; exact sq_nn _
  have b1 := Int.mul_nonneg (qd p) a1
  have b2 := Int.mul_nonneg (qd q) a2
  have c1 : (D * D + 4 * (p * p + p * D)) * (x * x + y * y) = D * D * (x * x + y * y) + 4 * ((p * p + p * D) * (x * x + y * y)) := by grind
  have c2 : (D * D + 4 * (q * q + q * D)) * (u * u + v * v) = D * D * (u * u + v * v) + 4 * ((q * q + q * D) * (u * u + v * v)) := by grind
  have c3 : -(p * p + p * D) * (x * x + y * y) = -((p * p + p * D) * (x * x + y * y)) := by grind
  have fin : D * D * (4 * S) ≤ D * D * (x * x + y * y + (u * u + v * v)) := by
    have d1 : D * D * (4 * S) = 4 * (D * D * S) := by grind
    have d2 : D * D * (x * x + y * y + (u * u + v * v)) = D * D * (x * x + y * y) + D * D * (u * u + v * v) := by grind
    omega
  exact Int.le_of_mul_le_mul_left fin (Int.mul_pos hD hD)
theorem cell {x y u v e f S : Int} (hD : x * v - y * u ≠ 0) (h : ∀ m n : Int, S ≤ (e + m * x + n * u) * (e + m * x + n * u) + (f + m * y + n * v) * (f + m * y + n * v)) : 4 * S ≤ x * x + y * y + (u * u + v * v) := by
  by_cases hp : 0 < x * v - y * u
  · exact cell_pos hp h
  · have := cell_pos (x := x) (y := y) (u := -u) (v := -v) (e := e) (f := f) (S := S) (by
      have : x * -v - y * -u = -(x * v - y * u) := by grind
      omega) fun m n => by
        have := h m (-n)
        have e1 : n * -u = -n * u := by grind
        have e2 : n * -v = -n * v := by grind
        rw [e1, e2]; exact this
    have e1 : -u * -u + -v * -v = u * u + v * v := by grind
    omega
/-- A vector that the kit pulls. -/
def Lat2 (a b c d : Int) (v : Int × Int) : Prop := ∃ m n : Int, v.1 = m * a + n * c ∧ v.2 = m * b + n * d
theorem lat_of {a b c d x y : Int} (hD : a * d - b * c ≠ 0) : (Int.tmod ((x * d - y * c).natAbs : Int) ((a * d - b * c).natAbs : Int) = 0 ∧ Int.tmod ((a * y - b * x).natAbs : Int) ((a * d - b * c).natAbs : Int) = 0) ↔ Lat2 a b c d (x, y) := by
  constructor
  · rintro ⟨h1, h2⟩
    have d1 := Int.natAbs_dvd_natAbs.1 (Int.ofNat_dvd.1 (Int.dvd_of_tmod_eq_zero h1))
    have d2 := Int.natAbs_dvd_natAbs.1 (Int.ofNat_dvd.1 (Int.dvd_of_tmod_eq_zero h2))
    obtain ⟨m, hm⟩ := d1
    obtain ⟨n, hn⟩ := d2
    refine ⟨m, n, ?_, ?_⟩
    · refine Int.eq_of_mul_eq_mul_left hD ?_
      have : (a * d - b * c) * (m * a + n * c) = ((a * d - b * c) * m) * a + ((a * d - b * c) * n) * c := by grind
      rw [this, ← hm, ← hn]
      grind
    · refine Int.eq_of_mul_eq_mul_left hD ?_
      have : (a * d - b * c) * (m * b + n * d) = ((a * d - b * c) * m) * b + ((a * d - b * c) * n) * d := by grind
      rw [this, ← hm, ← hn]
      grind
  · rintro ⟨m, n, h1, h2⟩
    simp only at h1 h2
    have e1 : x * d - y * c = m * (a * d - b * c) := by rw [h1, h2]; grind
    have e2 : a * y - b * x = n * (a * d - b * c) := by rw [h1, h2]; grind
    rw [e1, e2, Int.natAbs_mul, Int.natAbs_mul, Int.natCast_mul, Int.natCast_mul]
    exact ⟨Int.mul_tmod_left _ _, Int.mul_tmod_left _ _⟩
/-- What pulls has listed so far. -/
structure Listed (a b c d : Int) (T : Int → Int → Prop) (n : Nat) (l : List (Int × Int)) : Prop where
  nd : l.Nodup
  len : l.length ≤ n
  mem : ∀ v, v ∈ l ↔ Lat2 a b c d v ∧ T v.1 v.2
theorem best12 {a b c d e f : Int} (h : Kit12 a b c d) (be : -199 ≤ e ∧ e ≤ 199) (bf : -199 ≤ f ∧ f ≤ 199) {p : Int × Int} (hp : Best a b c d e f p) :
    4 * lft a b c d e f p ≤ 576 ∧ ((-12 ≤ e + p.1 * a + p.2 * c ∧ e + p.1 * a + p.2 * c ≤ 12) ∧ (-12 ≤ f + p.1 * b + p.2 * d ∧ f + p.1 * b + p.2 * d ≤ 12)) ∧ (-8000 ≤ p.1 ∧ p.1 ≤ 8000) ∧ (-8000 ≤ p.2 ∧ p.2 ≤ 8000) := by
  have h1 := cell (x := a) (y := b) (u := c) (v := d) (e := e) (f := f) (S := lft a b c d e f p) h.nf fun m n => hp (m, n)
  have m0 := mul_le (m := 12) (n := 12) h.b0 h.b0 (by omega) (by omega)
  have m1 := mul_le (m := 12) (n := 12) h.b1 h.b1 (by omega) (by omega)
  have m2 := mul_le (m := 12) (n := 12) h.b2 h.b2 (by omega) (by omega)
  have m3 := mul_le (m := 12) (n := 12) h.b3 h.b3 (by omega) (by omega)
  have h2 : 4 * lft a b c d e f p ≤ 576 := by omega
  have h3 : lft a b c d e f p = (e + p.1 * a + p.2 * c) * (e + p.1 * a + p.2 * c) + (f + p.1 * b + p.2 * d) * (f + p.1 * b + p.2 * d) := rfl
  have n1 := sq_nn (e + p.1 * a + p.2 * c)
  have n2 := sq_nn (f + p.1 * b + p.2 * d)
  have b1 := sq_bd (a := e + p.1 * a + p.2 * c) (m := 12) (by omega) (by omega)
  have b2 := sq_bd (a := f + p.1 * b + p.2 * d) (m := 12) (by omega) (by omega)
  have b3 := best_small (A := 12) (E := 211) (by omega) (by omega) h.nf h.b0 h.b1 h.b2 h.b3 (p := p) (by omega) (by omega)
  exact ⟨h2, ⟨b1, b2⟩, by omega, by omega⟩
theorem F39_eq {a b c d : Int} (ha : -1000000 ≤ a ∧ a ≤ 1000000) (hb : -1000000 ≤ b ∧ b ≤ 1000000) (hc : -1000000 ≤ c ∧ c ≤ 1000000) (hd : -1000000 ≤ d ∧ d ≤ 1000000) : F39 a b c d = some (a + c, b + d) := by
  unfold F39
  rw [w64_id (by omega) (by omega), w64_id (by omega) (by omega), F43_eq]
  rfl
end Go.Proofs.Ytenjelagfbceeaa
