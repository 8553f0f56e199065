/- What the reference computes, and Verify. -/
import Derived.Test.YtenjelagfbceeaaLB4
import Derived.Test.YtenjelagfbceeaaG5
set_option linter.unusedVariables false
set_option linter.unusedSimpArgs false
set_option maxHeartbeats 4000000
namespace Go.Proofs.Ytenjelagfbceeaa
open Go Go.Cl
theorem F65l2_fix (p0 : Int) (p1 : Int) (p2 : Int) (p3 : Int) (p4 : Int) (p5 : Int) (m18 : (Int × Int × Int)) (m954 : ((List (Int × Int)) × Int)) (r1 : ((Int × Int) × (Int × Int))) (v317 : Int) (v810 : Int) (v977 : Int) (v978 : (List (Int × Int))) : F65l2 p0 p1 p2 p3 p4 p5 m18 m954 r1 v317 v810 v977 v978 = (
    (
      if decide (v977 > 0) then
        if (0 : Int) ≤ v977 ∧ v977 < (List.length v978 : Int) then
          some (List.getD v978 (Int.toNat v977) (0, 0)) >>= fun o999 =>
          if (0 : Int) ≤ w64 (v977 - 1) ∧ w64 (v977 - 1) < (List.length v978 : Int) then
            some (List.getD v978 (Int.toNat (w64 (v977 - 1))) (0, 0)) >>= fun o1002 =>
            F79 o999.1 o999.2 o1002.1 o1002.2 >>= fun r1004 =>
            some (r1004)
          else none
        else none
      else
        some (false)
    : Option Bool) >>= fun m1006 =>
    if m1006 then
      if (0 : Int) ≤ w64 (v977 - 1) ∧ w64 (v977 - 1) < (List.length v978 : Int) then
        some (List.getD v978 (Int.toNat (w64 (v977 - 1))) (0, 0)) >>= fun o1008 =>
        if (0 : Int) ≤ v977 ∧ v977 < (List.length v978 : Int) then
          some (List.getD v978 (Int.toNat v977) (0, 0)) >>= fun o1011 =>
          F65l2 p0 p1 p2 p3 p4 p5 m18 m954 r1 v317 v810 (w64 (v977 - 1)) (List.set (List.set v978 (Int.toNat v977) (o1008.1, o1008.2)) (Int.toNat (w64 (v977 - 1))) (o1011.1, o1011.2))
        else none
      else none
    else
      some v978
    : Option (List (Int × Int))) := by
  delta F65l2
  conv => lhs; rw [Lean.Order.fix_eq]
theorem F65l1_fix (p0 : Int) (p1 : Int) (p2 : Int) (p3 : Int) (p4 : Int) (p5 : Int) (m18 : (Int × Int × Int)) (r1 : ((Int × Int) × (Int × Int))) (v317 : Int) (v809 : Int) (v810 : Int) (v808 : (List (Int × Int))) : F65l1 p0 p1 p2 p3 p4 p5 m18 r1 v317 v809 v810 v808 = (
    F74 m18.2.2 m18.1 >>= fun r942 =>
    if decide (v810 ≤ (w64 (r942 + 3))) then
      F57 p0 p1 p2 p3 (w64 ((w64 (v317 * r1.1.1)) + (w64 (v810 * r1.2.1)))) (w64 ((w64 (v317 * r1.1.2)) + (w64 (v810 * r1.2.2)))) >>= fun r945 =>
      F64 (w64 (p4 + r945.1)) (w64 (p5 + r945.2)) (w64 (p4 + r945.1)) (w64 (p5 + r945.2)) >>= fun r947 =>
      (
        if decide (v809 < 0) then
          some (true)
        else
          some (decide (r947 < v809))
      : Option Bool) >>= fun m950 =>
      (
        if m950 then
          some ([], r947)
        else
          some (v808, v809)
      : Option ((List (Int × Int)) × Int)) >>= fun m954 =>
      if decide (r947 > m954.2) then
        F65l1 p0 p1 p2 p3 p4 p5 m18 r1 v317 m954.2 (w64 (v810 + 1)) m954.1
      else
        if List.length m954.1 ≤ 1000000000 then
          some (List.length (m954.1 ++ [(w64 ((w64 (v317 * r1.1.1)) + (w64 (v810 * r1.2.1))), w64 ((w64 (v317 * r1.1.2)) + (w64 (v810 * r1.2.2))))]) : Int) >>= fun o958 =>
          F65l2 p0 p1 p2 p3 p4 p5 m18 m954 r1 v317 v810 (w64 (o958 - 1)) (m954.1 ++ [(w64 ((w64 (v317 * r1.1.1)) + (w64 (v810 * r1.2.1))), w64 ((w64 (v317 * r1.1.2)) + (w64 (v810 * r1.2.2))))]) >>= fun r1014 =>
          F65l1 p0 p1 p2 p3 p4 p5 m18 r1 v317 m954.2 (w64 (v810 + 1)) r1014
        else none
    else
      some (v808, v809)
    : Option ((List (Int × Int)) × Int)) := by
  delta F65l1
  conv => lhs; rw [Lean.Order.fix_eq]
theorem F65l0_fix (p0 : Int) (p1 : Int) (p2 : Int) (p3 : Int) (p4 : Int) (p5 : Int) (m18 : (Int × Int × Int)) (r1 : ((Int × Int) × (Int × Int))) (v318 : (List (Int × Int))) (v316 : Int) (v317 : Int) : F65l0 p0 p1 p2 p3 p4 p5 m18 r1 v318 v316 v317 = (
    F74 m18.2.1 m18.1 >>= fun r670 =>
    if decide (v317 ≤ (w64 (r670 + 3))) then
      F74 m18.2.2 m18.1 >>= fun r673 =>
      F65l1 p0 p1 p2 p3 p4 p5 m18 r1 v317 v316 (w64 (r673 - 2)) v318 >>= fun r1017 =>
      F65l0 p0 p1 p2 p3 p4 p5 m18 r1 r1017.1 r1017.2 (w64 (v317 + 1))
    else
      some (v318, v316)
    : Option ((List (Int × Int)) × Int)) := by
  delta F65l0
  conv => lhs; rw [Lean.Order.fix_eq]
theorem F33l0_fix (p10 : Int) (p11 : Int) (r22 : ((List (Int × Int)) × Int)) (v29 : Int) : F33l0 p10 p11 r22 v29 = (
    if decide (v29 < (List.length r22.1 : Int)) then
      if (0 : Int) ≤ v29 ∧ v29 < (List.length r22.1 : Int) then
        some (List.getD r22.1 (Int.toNat v29) (0, 0)) >>= fun o37 =>
        if ((o37.1 == p10) && ((o37.2 == p11) && true)) then
          some (.inl ())
        else
          F33l0 p10 p11 r22 (w64 (v29 + 1))
      else none
    else
      some (.inr ())
    : Option (Unit ⊕ Unit)) := by
  delta F33l0
  conv => lhs; rw [Lean.Order.fix_eq]
theorem F5l0_fix (p0 : Int) (p1 : Int) (p2 : Int) (p3 : Int) (p4 : Int) (p5 : Int) (p6 : Int) (p7 : Int) (p8 : Int) (p9 : Int) (p10 : Int) (p11 : Int) (r1 : ((Int × Int) × (Int × Int))) (r3 : (Int × Int)) (r9 : ((List (Int × Int)) × Int)) (r11 : ((List (Int × Int)) × Int)) (v32 : Int) : F5l0 p0 p1 p2 p3 p4 p5 p6 p7 p8 p9 p10 p11 r1 r3 r9 r11 v32 = (
    if decide (v32 < (List.length r9.1 : Int)) then
      if (0 : Int) ≤ v32 ∧ v32 < (List.length r9.1 : Int) then
        some (List.getD r9.1 (Int.toNat v32) (0, 0)) >>= fun o45 =>
        F19 o45.1 o45.2 >>= fun r47 =>
        if (0 : Int) ≤ v32 ∧ v32 < (List.length r11.1 : Int) then
          some (List.getD r11.1 (Int.toNat v32) (0, 0)) >>= fun o50 =>
          if !((r47.1 == o50.1) && ((r47.2 == o50.2) && true)) then
            some (.inl ())
          else
            F5l0 p0 p1 p2 p3 p4 p5 p6 p7 p8 p9 p10 p11 r1 r3 r9 r11 (w64 (v32 + 1))
        else none
      else none
    else
      some (.inr ())
    : Option (Unit ⊕ Unit)) := by
  delta F5l0
  conv => lhs; rw [Lean.Order.fix_eq]
theorem F62l0_fix (p0 : Int) (p1 : Int) (p2 : Int) (p3 : Int) (v26 : Int) (v27 : Int) (v28 : Int) (v29 : Int) : F62l0 p0 p1 p2 p3 v26 v27 v28 v29 = (
    F57 p0 p1 p2 p3 v26 v27 >>= fun r59 =>
    F57 p0 p1 p2 p3 v28 v29 >>= fun r61 =>
    F51 r59.1 r59.2 r61.1 r61.2 >>= fun r63 =>
    (
      if r63 then
        some (false)
      else
        some (true)
    : Option Bool) >>= fun m65 =>
    if m65 then
      F57 p0 p1 p2 p3 v26 v27 >>= fun r66 =>
      F57 p0 p1 p2 p3 v28 v29 >>= fun r68 =>
      F64 r66.1 r66.2 r66.1 r66.2 >>= fun r70 =>
      F64 r68.1 r68.2 r68.1 r68.2 >>= fun r72 =>
      if decide (r70 > r72) then
        F62l0 p0 p1 p2 p3 v28 v29 v26 v27
      else
        F64 r66.1 r66.2 r68.1 r68.2 >>= fun r75 =>
        F64 r66.1 r66.2 r66.1 r66.2 >>= fun r77 =>
        F64 r66.1 r66.2 r66.1 r66.2 >>= fun r79 =>
        F74 (w64 ((w64 (2 * r75)) + r77)) (w64 (2 * r79)) >>= fun r81 =>
        F62l0 p0 p1 p2 p3 v26 v27 (w64 (v28 - (w64 (r81 * v26)))) (w64 (v29 - (w64 (r81 * v27))))
    else
      some (v26, v27, v28, v29)
    : Option (Int × Int × Int × Int)) := by
  delta F62l0
  conv => lhs; rw [Lean.Order.fix_eq]
instance (x y u v a b : Int) : Decidable (near6 x y u v a b) := by unfold near6; infer_instance
theorem F50_eq {x y u v : Int} (hx : -2000 ≤ x ∧ x ≤ 2000) (hy : -2000 ≤ y ∧ y ≤ 2000) (hu : -2000 ≤ u ∧ u ≤ 2000) (hv : -2000 ≤ v ∧ v ≤ 2000) : F50 x y u v = some (decide (red x y u v)) := by
  have h1 := mul_le (m := 2000) (n := 2000) hx hu (by omega) (by omega)
  have h2 := mul_le (m := 2000) (n := 2000) hy hv (by omega) (by omega)
  unfold F50
  rw [(F72_four (by omega) (by omega) (by omega) (by omega)).1, bs, F63_sq (by omega) (by omega), bs, F63_sq (by omega) (by omega), bs, bs]
  unfold red
  by_cases c1 : x * x + y * y ≤ u * u + v * v
  · simp only [c1, decide_true, if_true, true_and]
    rw [bs, w64_id (x := 0 - (x * u + y * v)) (by omega) (by omega)]
    have hm : mx (x * u + y * v) (0 - (x * u + y * v)) = if 0 - (x * u + y * v) > x * u + y * v then 0 - (x * u + y * v) else x * u + y * v := rfl
    rw [hm, w64_id (by split <;> omega) (by split <;> omega)]
    congr 1
    rw [decide_eq_decide]
    split <;> omega
  · simp [c1]
theorem F67_eq {x y u v X Y g0 g1 g2 g3 : Int} (hx : -2000 ≤ x ∧ x ≤ 2000) (hy : -2000 ≤ y ∧ y ≤ 2000) (hu : -2000 ≤ u ∧ u ≤ 2000) (hv : -2000 ≤ v ∧ v ≤ 2000) (hX : -1000000000000 ≤ X ∧ X ≤ 1000000000000) (hY : -1000000000000 ≤ Y ∧ Y ≤ 1000000000000) :
    F67 x y u v g0 g1 g2 g3 X Y = some (decide (near6 x y u v X Y)) := by
  have hs : sgn x y u v = 1 ∨ sgn x y u v = -1 := by rcases sgn_cases x y u v with h | h; exact .inl h.1; exact .inr h.1
  unfold F67
  rw [F80_eq hx hy hu hv, bs]
  simp only
  have bw : -4500 ≤ x + sgn x y u v * u ∧ x + sgn x y u v * u ≤ 4500 := by rcases hs with h | h <;> rw [h] <;> omega
  have bz : -4500 ≤ y + sgn x y u v * v ∧ y + sgn x y u v * v ≤ 4500 := by rcases hs with h | h <;> rw [h] <;> omega
  have hw2 : near6 x y u v X Y ↔
      (-(x * x + y * y) ≤ 2 * (X * x + Y * y) ∧ 2 * (X * x + Y * y) ≤ x * x + y * y) ∧
      (-(u * u + v * v) ≤ 2 * (X * u + Y * v) ∧ 2 * (X * u + Y * v) ≤ u * u + v * v) ∧
      (-((x + sgn x y u v * u) * (x + sgn x y u v * u) + (y + sgn x y u v * v) * (y + sgn x y u v * v)) ≤ 2 * (X * (x + sgn x y u v * u) + Y * (y + sgn x y u v * v)) ∧
        2 * (X * (x + sgn x y u v * u) + Y * (y + sgn x y u v * v)) ≤ (x + sgn x y u v * u) * (x + sgn x y u v * u) + (y + sgn x y u v * v) * (y + sgn x y u v * v)) := Iff.rfl
  generalize x + sgn x y u v * u = w at *
  generalize y + sgn x y u v * v = z at *
  have neg : ∀ p q : Int, X * -p + Y * -q = -(X * p + Y * q) := fun p q => by grind
  have neq : ∀ p q : Int, -p * -p + -q * -q = p * p + q * q := fun p q => by grind
  obtain ⟨t1, t1'⟩ := F72_four (c := x) (d := y) hX hY (by omega) (by omega)
  obtain ⟨t2, t2'⟩ := F72_four (c := -x) (d := -y) hX hY (by omega) (by omega)
  obtain ⟨t3, t3'⟩ := F72_four (c := u) (d := v) hX hY (by omega) (by omega)
  obtain ⟨t4, t4'⟩ := F72_four (c := -u) (d := -v) hX hY (by omega) (by omega)
  obtain ⟨t5, t5'⟩ := F72_four (c := w) (d := z) hX hY (by omega) (by omega)
  obtain ⟨t6, t6'⟩ := F72_four (c := -w) (d := -z) hX hY (by omega) (by omega)
  rw [neg] at t2 t2' t4 t4' t6 t6'
  have no : ¬ near6 x y u v X Y → some false = some (decide (near6 x y u v X Y)) := fun h => by rw [decide_eq_false h]
  rw [t1, bs, F63_sq (by omega) (by omega), bs, t1']
  by_cases c1 : 2 * (X * x + Y * y) > x * x + y * y
  · rw [if_pos (decide_eq_true c1)]
    exact no fun h => by have := hw2.1 h; omega
  rw [if_neg (by simpa using c1)]
  rw [t2, bs, F63_sq (by omega) (by omega), bs, t2', neq]
  by_cases c2 : 2 * -(X * x + Y * y) > x * x + y * y
  · rw [if_pos (decide_eq_true c2)]
    exact no fun h => by have := hw2.1 h; omega
  rw [if_neg (by simpa using c2)]
  rw [t3, bs, F63_sq (by omega) (by omega), bs, t3']
  by_cases c3 : 2 * (X * u + Y * v) > u * u + v * v
  · rw [if_pos (decide_eq_true c3)]
    exact no fun h => by have := hw2.1 h; omega
  rw [if_neg (by simpa using c3)]
  rw [t4, bs, F63_sq (by omega) (by omega), bs, t4', neq]
  by_cases c4 : 2 * -(X * u + Y * v) > u * u + v * v
  · rw [if_pos (decide_eq_true c4)]
    exact no fun h => by have := hw2.1 h; omega
  rw [if_neg (by simpa using c4)]
  rw [t5, bs, F63_sq (by omega) (by omega), bs, t5']
  by_cases c5 : 2 * (X * w + Y * z) > w * w + z * z
  · rw [if_pos (decide_eq_true c5)]
    exact no fun h => by have := hw2.1 h; omega
  rw [if_neg (by simpa using c5)]
  rw [t6, bs, F63_sq (by omega) (by omega), bs, t6', neq]
  by_cases c6 : 2 * -(X * w + Y * z) > w * w + z * z
  · rw [if_pos (decide_eq_true c6)]
    exact no fun h => by have := hw2.1 h; omega
  rw [if_neg (by simpa using c6)]
  rw [decide_eq_true]
  exact hw2.2 ⟨⟨by omega, by omega⟩, ⟨by omega, by omega⟩, ⟨by omega, by omega⟩⟩
/-- Verify of what is within the bounds. -/
theorem F32_eq {a b c d e f i j k l p q : Int} (h : Kit4 a b c d) (be : -10000 ≤ e ∧ e ≤ 10000) (bf : -10000 ≤ f ∧ f ≤ 10000) (hp : inb 100000000 p q = true) (hi : inb 100000000 i j = true) (hl : inb 100000000 k l = true) :
    F32 a b c d i j k l e f p q = some (if (i * l - j * k = 1 ∨ i * l - j * k = -1) ∧ inb 2000 (i * a + j * c) (i * b + j * d) = true ∧ inb 2000 (k * a + l * c) (k * b + l * d) = true ∧ red (i * a + j * c) (i * b + j * d) (k * a + l * c) (k * b + l * d) then
      if near6 (i * a + j * c) (i * b + j * d) (k * a + l * c) (k * b + l * d) (e + p * a + q * c) (f + p * b + q * d) then 0 else 12 else 5) := by
  obtain ⟨r, hr, h52⟩ := F52_eq a b c d e f [(p, q), (i, j), (k, l)] (by simp)
  rw [kit_F20 h] at hr
  obtain rfl := Option.some.inj hr
  have hib : inb 10000 e f = true := decide_eq_true ⟨be, bf⟩
  have bp := inb_of hp
  have bi := inb_of hi
  have bl := inb_of hl
  unfold F32
  rw [h52]
  simp only [ne_eq, not_true_eq_false, if_false, hib, List.all_cons, List.all_nil, hp, hi, hl, Bool.and_self, if_true]
  rw [bs]
  simp only [bne_self_eq_false, Bool.false_eq_true, if_false]
  have m1 := mul_le (a := i) (b := l) (m := 100000000) (n := 100000000) bi.1 bl.2 (by omega) (by omega)
  have m2 := mul_le (a := j) (b := k) (m := 100000000) (n := 100000000) bi.2 bl.1 (by omega) (by omega)
  rw [F54_eq h bi.1 bi.2, bs, F54_eq h bl.1 bl.2, bs, w64_id (x := i * l) (by omega) (by omega), w64_id (x := j * k) (by omega) (by omega), w64_id (by omega) (by omega), F54_eq h bp.1 bp.2]
  have p1 := mul_le (a := p) (b := a) (m := 100000000) (n := 1000) bp.1 h.b0 (by omega) (by omega)
  have p2 := mul_le (a := p) (b := b) (m := 100000000) (n := 1000) bp.1 h.b1 (by omega) (by omega)
  have p3 := mul_le (a := q) (b := c) (m := 100000000) (n := 1000) bp.2 h.b2 (by omega) (by omega)
  have p4 := mul_le (a := q) (b := d) (m := 100000000) (n := 1000) bp.2 h.b3 (by omega) (by omega)
  simp only
  rw [F58_eq _ _ _ (by omega) (by omega), F58_eq _ _ _ (by omega) (by omega)]
  have q1 : e + (p * a + q * c) = e + p * a + q * c := by omega
  have q2 : f + (p * b + q * d) = f + p * b + q * d := by omega
  generalize i * a + j * c = x
  generalize i * b + j * d = y
  generalize k * a + l * c = u
  generalize k * b + l * d = v
  generalize i * l - j * k = D
  by_cases hc : (D = 1 ∨ D = -1) ∧ inb 2000 x y = true ∧ inb 2000 u v = true ∧ red x y u v
  · rw [if_pos hc]
    obtain ⟨hD, hA, hB, hR⟩ := hc
    have bA := inb_of hA
    have bB := inb_of hB
    rw [hA, hB, F50_eq bA.1 bA.2 bB.1 bB.2]
    have h53 : F53 e f 1 (p * a + q * c) (p * b + q * d) = some (e + p * a + q * c, f + p * b + q * d) := by rw [F53_one (by omega) (by omega) (by omega) (by omega), q1, q2]
    have h67 := F67_eq (g0 := i) (g1 := j) (g2 := k) (g3 := l) bA.1 bA.2 bB.1 bB.2 (X := e + p * a + q * c) (Y := f + p * b + q * d) (by omega) (by omega)
    by_cases hn : near6 x y u v (e + p * a + q * c) (f + p * b + q * d)
    · rcases hD with hD | hD <;> subst hD <;> simp [hR, h53, h67, hn]
    · rcases hD with hD | hD <;> subst hD <;> simp [hR, h53, h67, hn]
  · rw [if_neg hc]
    by_cases hA : inb 2000 x y = true
    · by_cases hB : inb 2000 u v = true
      · have bA := inb_of hA
        have bB := inb_of hB
        rw [hA, hB, F50_eq bA.1 bA.2 bB.1 bB.2]
        by_cases hR : red x y u v
        · have hD : ¬ (D = 1 ∨ D = -1) := fun h => hc ⟨h, hA, hB, hR⟩
          have d1 : (D != 1) = true := by simp; omega
          have d2 : (D != -1) = true := by simp; omega
          simp [d1, d2]
        · by_cases d1 : D = 1 <;> by_cases d2 : D = -1 <;> simp [d1, d2, hR]
      · have hB' : inb 2000 u v = false := by simpa using hB
        rw [hB', hA]
        by_cases d1 : D = 1 <;> by_cases d2 : D = -1 <;> simp [d1, d2]
    · have hA' : inb 2000 x y = false := by simpa using hA
      rw [hA']
      by_cases d1 : D = 1 <;> by_cases d2 : D = -1 <;> simp [d1, d2]
/- The plain law of MagnetWithins: what the functions compute, in plain Lean. -/
theorem F73_eq (a b c : Int) : F73 a b c = some (decide (b ≤ a ∧ a ≤ c)) := by
  unfold F73
  by_cases h : b ≤ a <;> simp [h]
theorem F55_eq (a b m : Int) (h : 0 ≤ m) (hm : m ≤ 1000000) : F55 a b m = some (inb m a b) := by
  unfold inb
  unfold F55
  rw [w64_id (x := 0 - m) (by omega) (by omega), F73_eq, F73_eq]
  by_cases h1 : (0 - m ≤ a ∧ a ≤ m)
  · have : (-m ≤ a ∧ a ≤ m) := by omega
    simp [h1, this]
  · have : ¬ (-m ≤ a ∧ a ≤ m) := by omega
    simp [h1, this]

theorem F21_eq (a b c d : Int) : F21 a b c d = F20 a b c d := by
  rw [F20_eq]
  unfold F21 F60
  rw [F55_eq _ _ _ (by omega) (by omega), F55_eq _ _ _ (by omega) (by omega)]
  cases h1 : inb 1000 a b
  · simp
  · cases h2 : inb 1000 c d
    · simp
    · have h1 := inb_of h1
      have h2 := inb_of h2
      have h3 := mul_le (a := a) (b := d) (m := 1000) (n := 1000) (by omega) (by omega) (by omega) (by omega)
      have h4 := mul_le (a := b) (b := c) (m := 1000) (n := 1000) (by omega) (by omega) (by omega) (by omega)
      rw [w64_id (x := a * d) (by omega) (by omega), w64_id (x := b * c) (by omega) (by omega), w64_id (x := a * d - b * c) (by omega) (by omega), w64_id (x := b * c - a * d) (by omega) (by omega)]
      generalize a * d = u at *
      generalize b * c = v at *
      by_cases h : u - v = 0
      · have : v - u = 0 := by omega
        simp [h, this, mx]
      · have : ¬ (if v - u > u - v then v - u else u - v) = 0 := by split <;> omega
        simp only [Option.bind_eq_bind, Option.bind_some, h, Bool.and_true, beq_iff_eq]
        simp [mx, this, h]
theorem F74_eq {n d : Int} (hd : 0 < d) (hd2 : d ≤ 1000000000000) (hn : -1000000000000 ≤ n ∧ n ≤ 1000000000000) : F74 n d = some (n / d) := by
  unfold F74
  have h2 : ¬ d = 0 := by omega
  have h4 := Int.emod_lt_of_pos n hd
  have h4' := Int.emod_nonneg n (b := d) (by omega)
  have h7 : -1000000000001 ≤ n / d := by
    rw [Int.le_ediv_iff_mul_le hd]
    have : -1000000000001 * d ≤ -1000000000001 * 1 := Int.mul_le_mul_of_nonpos_left (by omega) (by omega)
    omega
  have h8 : n / d ≤ 1000000000001 := by
    have : n / d < 1000000000001 := by
      rw [Int.ediv_lt_iff_lt_mul hd]
      have : 1000000000001 * 1 ≤ 1000000000001 * d := Int.mul_le_mul_of_nonneg_left (by omega) (by omega)
      omega
    omega
  simp only [h2, if_false, Option.bind_eq_bind, Option.bind_some]
  rw [Int.tdiv_eq_ediv, Int.tmod_eq_emod, Int.sign_eq_one_of_pos hd]
  by_cases hc : 0 ≤ n ∨ d ∣ n
  · have : ¬ (n % d - ((0 : Nat) : Int) < 0) := by omega
    simp only [hc, if_true, this, decide_false, Bool.false_eq_true, if_false, Int.add_zero, Option.bind_some]
    rw [w64_id (by omega) (by omega)]
  · have : (n % d - ((d.natAbs : Nat) : Int) < 0) := by omega
    simp only [hc, if_true, this, decide_true, if_false, Option.bind_some]
    rw [w64_id (x := n / d + 1) (by omega) (by omega), w64_id (x := n / d + 1 - 1) (by omega) (by omega)]
    congr 1
    omega

theorem F64_eq {a b c d : Int} (ha : -1500 ≤ a ∧ a ≤ 1500) (hb : -1500 ≤ b ∧ b ≤ 1500) (hc : -1500 ≤ c ∧ c ≤ 1500) (hd : -1500 ≤ d ∧ d ≤ 1500) : F64 a b c d = some (a * c + b * d) := F72_eq ha hb hc hd
theorem F57_eq {p0 p1 p2 p3 i j : Int} (h : Kit4 p0 p1 p2 p3) (hi : -100000000 ≤ i ∧ i ≤ 100000000) (hj : -100000000 ≤ j ∧ j ≤ 100000000) : F57 p0 p1 p2 p3 i j = some (i * p0 + j * p2, i * p1 + j * p3) := by
  have h0 := mul_le (m := 100000000) (n := 1000) hi h.b0 (by omega) (by omega)
  have h1 := mul_le (m := 100000000) (n := 1000) hi h.b1 (by omega) (by omega)
  have h2 := mul_le (m := 100000000) (n := 1000) hj h.b2 (by omega) (by omega)
  have h3 := mul_le (m := 100000000) (n := 1000) hj h.b3 (by omega) (by omega)
  unfold F57
  rw [w64_id (x := i * p0) (by omega) (by omega), w64_id (x := i * p1) (by omega) (by omega), w64_id (x := j * p2) (by omega) (by omega), w64_id (x := j * p3) (by omega) (by omega),
    w64_id (by omega) (by omega), w64_id (by omega) (by omega)]
instance (x y u v : Int) : Decidable (red x y u v) := by unfold red; infer_instance
theorem F51_eq {x y u v : Int} (hx : -1500 ≤ x ∧ x ≤ 1500) (hy : -1500 ≤ y ∧ y ≤ 1500) (hu : -1500 ≤ u ∧ u ≤ 1500) (hv : -1500 ≤ v ∧ v ≤ 1500) : F51 x y u v = some (decide (red x y u v)) := by
  have t1 := mul_le (m := 1500) (n := 1500) hx hu (by omega) (by omega)
  have t2 := mul_le (m := 1500) (n := 1500) hy hv (by omega) (by omega)
  have ht : -4500000 ≤ x * u + y * v ∧ x * u + y * v ≤ 4500000 := by omega
  unfold F51
  simp only [Option.bind_eq_bind]
  rw [F64_eq hx hy hu hv, Option.bind_some, F64_eq hx hy hx hy, Option.bind_some, F64_eq hu hv hu hv, Option.bind_some]
  by_cases hred : red x y u v
  · rw [decide_eq_true hred]
    obtain ⟨a1, a2, a3⟩ := hred
    generalize x * x + y * y = s at *
    generalize x * u + y * v = t at *
    generalize u * u + v * v = r at *
    have hm : -4500000 ≤ mx t (w64 (0 - t)) ∧ mx t (w64 (0 - t)) ≤ 4500000 := by
      rw [w64_id (x := 0 - t) (by omega) (by omega)]
      unfold mx
      split <;> omega
    have e : w64 (2 * mx t (w64 (0 - t))) ≤ s := by
      rw [w64_id (x := 2 * mx t (w64 (0 - t))) (by omega) (by omega), w64_id (x := 0 - t) (by omega) (by omega)]
      unfold mx
      split <;> omega
    rw [if_pos (decide_eq_true a1)]
    show some (decide (w64 (2 * mx t (w64 (0 - t))) ≤ s)) = _
    rw [decide_eq_true e]
  · rw [decide_eq_false hred]
    unfold red at hred
    generalize x * x + y * y = s at *
    generalize x * u + y * v = t at *
    generalize u * u + v * v = r at *
    by_cases h : s ≤ r
    · have hm : -4500000 ≤ mx t (w64 (0 - t)) ∧ mx t (w64 (0 - t)) ≤ 4500000 := by
        rw [w64_id (x := 0 - t) (by omega) (by omega)]
        unfold mx
        split <;> omega
      have e : ¬ w64 (2 * mx t (w64 (0 - t))) ≤ s := by
        rw [w64_id (x := 2 * mx t (w64 (0 - t))) (by omega) (by omega), w64_id (x := 0 - t) (by omega) (by omega)]
        unfold mx
        split <;> omega
      rw [if_pos (decide_eq_true h)]
      show some (decide (w64 (2 * mx t (w64 (0 - t))) ≤ s)) = _
      rw [decide_eq_false e]
    · rw [if_neg (by simpa using h)]
      rfl
/-- The reference's loop: it ends, and what it ends with is reduced. -/
theorem loop62 {p0 p1 p2 p3 : Int} (h : Kit4 p0 p1 p2 p3) : ∀ (m : Nat) (i j k l : Int), Bun p0 p1 p2 p3 i j k l →
    2 * (((i * p0 + j * p2) * (i * p0 + j * p2) + (i * p1 + j * p3) * (i * p1 + j * p3)) + ((k * p0 + l * p2) * (k * p0 + l * p2) + (k * p1 + l * p3) * (k * p1 + l * p3))) +
      (if (i * p0 + j * p2) * (i * p0 + j * p2) + (i * p1 + j * p3) * (i * p1 + j * p3) > (k * p0 + l * p2) * (k * p0 + l * p2) + (k * p1 + l * p3) * (k * p1 + l * p3) then 1 else 0) < m →
    ∃ i' j' k' l', F62l0 p0 p1 p2 p3 i j k l = some (i', j', k', l') ∧ Bun p0 p1 p2 p3 i' j' k' l' ∧ red (i' * p0 + j' * p2) (i' * p1 + j' * p3) (k' * p0 + l' * p2) (k' * p1 + l' * p3) := by
  intro m
  induction m with
  | zero =>
    intro i j k l hB hm
    have := pos_of h hB.det
    have h1 := sq_nn (k * p0 + l * p2)
    have h2 := sq_nn (k * p1 + l * p3)
    split at hm <;> omega
  | succ m ih =>
    intro i j k l hB hm
    obtain ⟨hx, hy, hi, hj⟩ := small_of h hB.sa
    obtain ⟨hu, hv, hk, hl⟩ := small_of h hB.sb
    have hp := pos_of h hB.det
    have hsa := hB.sa
    have hsb := hB.sb
    rw [F62l0_fix]
    simp only [Option.bind_eq_bind]
    rw [F57_eq h (by omega) (by omega), Option.bind_some, F57_eq h (by omega) (by omega), Option.bind_some, F51_eq hx hy hu hv, Option.bind_some]
    by_cases hred : red (i * p0 + j * p2) (i * p1 + j * p3) (k * p0 + l * p2) (k * p1 + l * p3)
    · simp only [hred, decide_true, if_true, Option.bind_some, Bool.false_eq_true, if_false]
      exact ⟨i, j, k, l, rfl, hB, hred⟩
    · simp only [hred, decide_false, if_true, Option.bind_some, Bool.false_eq_true, if_false]
      rw [F64_eq hx hy hx hy, Option.bind_some, F64_eq hu hv hu hv, Option.bind_some]
      by_cases hgt : (i * p0 + j * p2) * (i * p0 + j * p2) + (i * p1 + j * p3) * (i * p1 + j * p3) > (k * p0 + l * p2) * (k * p0 + l * p2) + (k * p1 + l * p3) * (k * p1 + l * p3)
      · rw [if_pos (decide_eq_true hgt)]
        rw [if_pos hgt] at hm
        have hB2 : Bun p0 p1 p2 p3 k l i j := ⟨by have e : k * j - l * i = -(i * l - j * k) := by grind
                                                  have := hB.det; omega, hsb, hsa⟩
        refine ih k l i j hB2 ?_
        rw [if_neg (by omega)]
        omega
      · rw [if_neg (by simpa using hgt)]
        rw [if_neg hgt] at hm
        have hnr : 2 * ((i * p0 + j * p2) * (k * p0 + l * p2) + (i * p1 + j * p3) * (k * p1 + l * p3)) > (i * p0 + j * p2) * (i * p0 + j * p2) + (i * p1 + j * p3) * (i * p1 + j * p3) ∨ 2 * ((i * p0 + j * p2) * (k * p0 + l * p2) + (i * p1 + j * p3) * (k * p1 + l * p3)) < -((i * p0 + j * p2) * (i * p0 + j * p2) + (i * p1 + j * p3) * (i * p1 + j * p3)) := by
          unfold red at hred
          omega
        generalize hn : (2 * ((i * p0 + j * p2) * (k * p0 + l * p2) + (i * p1 + j * p3) * (k * p1 + l * p3)) + ((i * p0 + j * p2) * (i * p0 + j * p2) + (i * p1 + j * p3) * (i * p1 + j * p3))) / (2 * ((i * p0 + j * p2) * (i * p0 + j * p2) + (i * p1 + j * p3) * (i * p1 + j * p3))) = n
        have hst := step_lt hp hn.symm hnr
        have t1 := mul_le (m := 1500) (n := 1500) hx hu (by omega) (by omega)
        have t2 := mul_le (m := 1500) (n := 1500) hy hv (by omega) (by omega)
        have hnb := n_bd hp (by omega) (by omega) hn.symm
        have ek : k * p0 + l * p2 - n * (i * p0 + j * p2) = (k - n * i) * p0 + (l - n * j) * p2 := by grind
        have el : k * p1 + l * p3 - n * (i * p1 + j * p3) = (k - n * i) * p1 + (l - n * j) * p3 := by grind
        rw [ek, el] at hst
        have ed : i * (l - n * j) - j * (k - n * i) = i * l - j * k := by grind
        have hB' : Bun p0 p1 p2 p3 i j (k - n * i) (l - n * j) := ⟨by rw [ed]; exact hB.det, hsa, by omega⟩
        have b1 := mul_le (m := 40000000) (n := 3000000) hnb hi (by omega) (by omega)
        have b2 := mul_le (m := 40000000) (n := 3000000) hnb hj (by omega) (by omega)
        rw [F64_eq hx hy hu hv, Option.bind_some, Option.bind_some, Option.bind_some]
        generalize hs : (i * p0 + j * p2) * (i * p0 + j * p2) + (i * p1 + j * p3) * (i * p1 + j * p3) = s at *
        generalize ht : (i * p0 + j * p2) * (k * p0 + l * p2) + (i * p1 + j * p3) * (k * p1 + l * p3) = t at *
        rw [w64_id (x := 2 * t) (by omega) (by omega), w64_id (x := 2 * t + s) (by omega) (by omega), w64_id (x := 2 * s) (by omega) (by omega), F74_eq (by omega) (by omega) (by omega), Option.bind_some, hn,
          w64_id (x := n * i) (by omega) (by omega), w64_id (x := n * j) (by omega) (by omega), w64_id (x := k - n * i) (by omega) (by omega), w64_id (x := l - n * j) (by omega) (by omega)]
        refine ih i j (k - n * i) (l - n * j) hB' ?_
        rw [hs]
        have h0 : (if s > ((k - n * i) * p0 + (l - n * j) * p2) * ((k - n * i) * p0 + (l - n * j) * p2) + ((k - n * i) * p1 + (l - n * j) * p3) * ((k - n * i) * p1 + (l - n * j) * p3) then (1 : Int) else 0) ≤ 1 := by split <;> omega
        omega
theorem F62_eq {p0 p1 p2 p3 : Int} (h : Kit4 p0 p1 p2 p3) : ∃ i j k l, F62 p0 p1 p2 p3 = some ((i, j), (k, l)) ∧
    Bun p0 p1 p2 p3 i j k l ∧ red (i * p0 + j * p2) (i * p1 + j * p3) (k * p0 + l * p2) (k * p1 + l * p3) := by
  obtain ⟨i, j, k, l, h1, h2, h3⟩ := loop62 h _ 1 0 0 1 (bun0 h) (Int.lt_of_le_of_lt (Int.self_le_toNat _) (Int.ofNat_lt.2 (Nat.lt_succ_self _)))
  refine ⟨i, j, k, l, ?_, h2, h3⟩
  unfold F62
  rw [h1]
  rfl
theorem F56_eq (a b : Int) : F56 a b = some (inb 100000000 a b) := by
  unfold F56 inb
  rw [F73_eq, F73_eq]
  by_cases h1 : -100000000 ≤ a ∧ a ≤ 100000000 <;> simp [h1]

/-! ### The iron's neighbours -/
/-- A reduced kit, an iron and a square, within the bounds. -/
structure Ctx (x y u v e f q : Int) : Prop where
  bx : -1500 ≤ x ∧ x ≤ 1500
  by' : -1500 ≤ y ∧ y ≤ 1500
  bu : -1500 ≤ u ∧ u ≤ 1500
  bv : -1500 ≤ v ∧ v ≤ 1500
  be : -10000 ≤ e ∧ e ≤ 10000
  bf : -10000 ≤ f ∧ f ≤ 10000
  bq : 0 ≤ q ∧ q ≤ 1000000000
  nd : x * v - y * u ≠ 0
/-- The choices with a small rest, by bundles. -/
def Near (x y u v e f q : Int) (c : Int × Int) : Prop := (e + c.1 * x + c.2 * u) * (e + c.1 * x + c.2 * u) + (f + c.1 * y + c.2 * v) * (f + c.1 * y + c.2 * v) ≤ q
section
variable {x y u v e f q : Int}
theorem Ctx.sa (C : Ctx x y u v e f q) : 0 < x * x + y * y ∧ x * x + y * y ≤ 4500000 := by
  have h1 := mul_le (m := 1500) (n := 1500) C.bx C.bx (by omega) (by omega)
  have h2 := mul_le (m := 1500) (n := 1500) C.by' C.by' (by omega) (by omega)
  have n1 := sq_nn x
  have n2 := sq_nn y
  refine ⟨?_, by omega⟩
  apply Classical.byContradiction
  intro hc
  have hx := sq_bd (a := x) (m := 0) (by omega) (by omega)
  have hy := sq_bd (a := y) (m := 0) (by omega) (by omega)
  apply C.nd
  have : x = 0 := by omega
  have : y = 0 := by omega
  subst x; subst y
  simp
theorem Ctx.db (C : Ctx x y u v e f q) : -4500000 ≤ x * v - y * u ∧ x * v - y * u ≤ 4500000 := by
  have h1 := mul_le (m := 1500) (n := 1500) C.bx C.bv (by omega) (by omega)
  have h2 := mul_le (m := 1500) (n := 1500) C.by' C.bu (by omega) (by omega)
  omega
end
/-- How far: so many areas are too much, and are no great number. -/
structure Wide (d Q N : Int) : Prop where
  nn : 0 ≤ N
  sm : N * (d.natAbs : Int) ≤ 72000000
  gt : Q < N * N * (d * d)
theorem sq_abs (d : Int) : d * d = (d.natAbs : Int) * (d.natAbs : Int) := (Int.natAbs_mul_self' d).symm
theorem wide_step {d Q n : Int} (hd : d ≠ 0) (hdb : -4500000 ≤ d ∧ d ≤ 4500000) (hQ : Q ≤ 4500000000000000) (hn : 0 ≤ n) (h : n * n * (d * d) ≤ Q) : (n + 1) * (d.natAbs : Int) ≤ 72000000 := by
  have e : n * n * (d * d) = (n * (d.natAbs : Int)) * (n * (d.natAbs : Int)) := by rw [sq_abs d]; grind
  have := sq_bd (a := n * (d.natAbs : Int)) (m := 67500000) (by omega) (by omega)
  have e2 : (n + 1) * (d.natAbs : Int) = n * (d.natAbs : Int) + (d.natAbs : Int) := by grind
  omega
theorem wide_w64 {d n : Int} (hd : d ≠ 0) (hn : 0 ≤ n) (h : n * (d.natAbs : Int) ≤ 72000000) : w64 (w64 (w64 (n * n) * d) * d) = n * n * (d * d) ∧ n ≤ 72000000 := by
  have h1 : n * 1 ≤ n * (d.natAbs : Int) := Int.mul_le_mul_of_nonneg_left (by omega) hn
  have hn2 : n ≤ 72000000 := by omega
  have a1 := mul_le (a := n) (b := n) (m := 72000000) (n := 72000000) (by omega) (by omega) (by omega) (by omega)
  have hnd : -72000000 ≤ n * d ∧ n * d ≤ 72000000 := by
    have e : (n * d).natAbs = n.natAbs * d.natAbs := Int.natAbs_mul n d
    have e2 : ((n.natAbs * d.natAbs : Nat) : Int) = n * (d.natAbs : Int) := by rw [Int.natCast_mul, Int.natAbs_of_nonneg hn]
    omega
  have a2 := mul_le (a := n) (b := n * d) (m := 72000000) (n := 72000000) (by omega) hnd (by omega) (by omega)
  have a3 := mul_le (a := n * d) (b := n * d) (m := 72000000) (n := 72000000) hnd hnd (by omega) (by omega)
  have e1 : n * n * d = n * (n * d) := by grind
  have e2 : n * n * d * d = n * d * (n * d) := by grind
  have e3 : n * n * (d * d) = n * d * (n * d) := by grind
  refine ⟨?_, hn2⟩
  rw [w64_id (x := n * n) (by omega) (by omega), w64_id (x := n * n * d) (by omega) (by omega), w64_id (x := n * n * d * d) (by omega) (by omega)]
  omega
/-- Numbers of a line that are not too far lie around the quotient. -/
theorem in_range {w d N Q j n0 : Int} (hd : d ≠ 0) (W : Wide d Q N) (hj : (w + j * d) * (w + j * d) ≤ Q) (h0 : n0 = if 0 < d then (-w) / d else w / (-d)) : n0 - N ≤ j ∧ j ≤ n0 + N := by
  have hlt : (w + j * d) * (w + j * d) < (N * (d.natAbs : Int)) * (N * (d.natAbs : Int)) := by
    have e : N * N * (d * d) = (N * (d.natAbs : Int)) * (N * (d.natAbs : Int)) := by rw [sq_abs d]; grind
    have := W.gt
    omega
  have hNd : 0 ≤ N * (d.natAbs : Int) := Int.mul_nonneg W.nn (by omega)
  have b1 : w + j * d < N * (d.natAbs : Int) := by
    apply Classical.byContradiction
    intro hc
    have := Int.mul_le_mul (show N * (d.natAbs : Int) ≤ w + j * d by omega) (show N * (d.natAbs : Int) ≤ w + j * d by omega) hNd (by omega)
    omega
  have b2 : -(N * (d.natAbs : Int)) < w + j * d := by
    apply Classical.byContradiction
    intro hc
    have := Int.mul_le_mul (show N * (d.natAbs : Int) ≤ -(w + j * d) by omega) (show N * (d.natAbs : Int) ≤ -(w + j * d) by omega) hNd (by omega)
    have e : -(w + j * d) * -(w + j * d) = (w + j * d) * (w + j * d) := by grind
    omega
  by_cases hp : 0 < d
  · rw [if_pos hp] at h0
    have hs := div_spec (n := -w) hp
    rw [← h0] at hs
    have ea : (d.natAbs : Int) = d := by omega
    rw [ea] at b1 b2
    have c1 : j * d < (n0 + N + 1) * d := by
      have : (n0 + N + 1) * d = (n0 + 1) * d + N * d := by grind
      omega
    have c2 : (n0 - N - 1) * d < j * d := by
      have : (n0 - N - 1) * d = n0 * d - N * d - d := by grind
      omega
    have := Int.lt_of_mul_lt_mul_right c1 (by omega)
    have := Int.lt_of_mul_lt_mul_right c2 (by omega)
    omega
  · rw [if_neg hp] at h0
    have hm : 0 < -d := by omega
    have hs := div_spec (n := w) hm
    rw [← h0] at hs
    have ea : (d.natAbs : Int) = -d := by omega
    rw [ea] at b1 b2
    have ej : j * d = -(j * -d) := by grind
    have c1 : j * -d < (n0 + N + 1) * -d := by
      have : (n0 + N + 1) * -d = (n0 + 1) * -d + N * -d := by grind
      omega
    have c2 : (n0 - N - 1) * -d < j * -d := by
      have : (n0 - N - 1) * -d = n0 * -d - N * -d - -d := by grind
      omega
    have := Int.lt_of_mul_lt_mul_right c1 (by omega)
    have := Int.lt_of_mul_lt_mul_right c2 (by omega)
    omega
/-- A line of the range is not far. -/
theorem line_bd {w d N j n0 : Int} (hd : d ≠ 0) (hdb : -4500000 ≤ d ∧ d ≤ 4500000) (hN : 0 ≤ N) (sm : N * (d.natAbs : Int) ≤ 72000000) (h0 : n0 = if 0 < d then (-w) / d else w / (-d)) (hj : n0 - N ≤ j ∧ j ≤ n0 + N + 1) : -81000000 ≤ w + j * d ∧ w + j * d ≤ 81000000 := by
  by_cases hp : 0 < d
  · rw [if_pos hp] at h0
    have hs := div_spec (n := -w) hp
    rw [← h0] at hs
    have ea : (d.natAbs : Int) = d := by omega
    rw [ea] at sm
    have c1 : j * d ≤ (n0 + N + 1) * d := Int.mul_le_mul_of_nonneg_right (by omega) (by omega)
    have c2 : (n0 - N) * d ≤ j * d := Int.mul_le_mul_of_nonneg_right (by omega) (by omega)
    have e1 : (n0 + N + 1) * d = n0 * d + N * d + d := by grind
    have e2 : (n0 - N) * d = n0 * d - N * d := by grind
    have e3 : (n0 + 1) * d = n0 * d + d := by grind
    omega
  · rw [if_neg hp] at h0
    have hm : 0 < -d := by omega
    have hs := div_spec (n := w) hm
    rw [← h0] at hs
    have ea : (d.natAbs : Int) = -d := by omega
    rw [ea] at sm
    have ej : j * d = -(j * -d) := by grind
    have c1 : j * -d ≤ (n0 + N + 1) * -d := Int.mul_le_mul_of_nonneg_right (by omega) (by omega)
    have c2 : (n0 - N) * -d ≤ j * -d := Int.mul_le_mul_of_nonneg_right (by omega) (by omega)
    have e1 : (n0 + N + 1) * -d = n0 * -d + N * -d + -d := by grind
    have e2 : (n0 - N) * -d = n0 * -d - N * -d := by grind
    have e3 : (n0 + 1) * -d = n0 * -d + -d := by grind
    omega
/-- The area with a rest against its square. -/
theorem cross_le {x y X Y q : Int} (h : X * X + Y * Y ≤ q) : (x * Y - y * X) * (x * Y - y * X) ≤ q * (x * x + y * y) := by
  have e : (x * Y - y * X) * (x * Y - y * X) = (X * X + Y * Y) * (x * x + y * y) - (x * X + y * Y) * (x * X + y * Y) := by grind
  have n0 := sq_nn (x * X + y * Y)
  have n1 := sq_nn x
  have n2 := sq_nn y
  have := Int.mul_le_mul_of_nonneg_right h (show 0 ≤ x * x + y * y by omega)
  omega
/-! ### One line -/
/-- The square of a line's i-th rest. -/
def fq (X Y x y i : Int) : Int := (X + i * x) * (X + i * x) + (Y + i * y) * (Y + i * y)
theorem fq_step (X Y x y i : Int) : fq X Y x y (i + 1) = fq X Y x y i + (2 * (X * x + Y * y) + 2 * (i * (x * x + y * y)) + (x * x + y * y)) := by unfold fq; grind
theorem fq_nn (X Y x y i : Int) : 0 ≤ fq X Y x y i := by
  have := sq_nn (X + i * x)
  have := sq_nn (Y + i * y)
  unfold fq
  omega
/-- i0 is the nearest one of the line. -/
structure Mid (X Y x y i0 : Int) : Prop where
  lo : -(x * x + y * y) < 2 * (X * x + Y * y) + 2 * (i0 * (x * x + y * y))
  hi : 2 * (X * x + Y * y) + 2 * (i0 * (x * x + y * y)) ≤ x * x + y * y
section
variable {X Y x y i0 : Int}
theorem Mid.up (M : Mid X Y x y i0) (hs : 0 < x * x + y * y) (k : Nat) : fq X Y x y (i0 + k) ≤ fq X Y x y (i0 + k + 1) ∧ (k : Int) * ((k : Int) - 1) ≤ fq X Y x y (i0 + k) := by
  have e : ∀ k : Int, (i0 + k) * (x * x + y * y) = i0 * (x * x + y * y) + k * (x * x + y * y) := fun k => by grind
  have step : ∀ k : Nat, fq X Y x y (i0 + k + 1) ≥ fq X Y x y (i0 + k) + 2 * (k : Int) := fun k => by
    have h1 := fq_step X Y x y (i0 + k)
    rw [e] at h1
    have h2 : (k : Int) * 1 ≤ (k : Int) * (x * x + y * y) := Int.mul_le_mul_of_nonneg_left (by omega) (by omega)
    have := M.lo
    omega
  refine ⟨by have := step k; omega, ?_⟩
  induction k with
  | zero => have := fq_nn X Y x y (i0 + (0 : Nat)); simpa using this
  | succ k ih =>
    have h1 := step k
    have e2 : ((k + 1 : Nat) : Int) * (((k + 1 : Nat) : Int) - 1) = (k : Int) * ((k : Int) - 1) + 2 * (k : Int) := by
      rw [Int.natCast_add]
      grind
    have e3 : i0 + ((k + 1 : Nat) : Int) = i0 + (k : Int) + 1 := by omega
    rw [e2, e3]
    omega
theorem Mid.down (M : Mid X Y x y i0) (hs : 0 < x * x + y * y) (k : Nat) : fq X Y x y (i0 - k) ≤ fq X Y x y (i0 - k - 1) ∧ (k : Int) * ((k : Int) - 1) ≤ fq X Y x y (i0 - k) := by
  have e : ∀ k : Int, (i0 - k - 1) * (x * x + y * y) = i0 * (x * x + y * y) - k * (x * x + y * y) - (x * x + y * y) := fun k => by grind
  have step : ∀ k : Nat, fq X Y x y (i0 - k - 1) ≥ fq X Y x y (i0 - k) + 2 * (k : Int) := fun k => by
    have h1 := fq_step X Y x y (i0 - k - 1)
    rw [e] at h1
    have e2 : i0 - (k : Int) - 1 + 1 = i0 - k := by omega
    rw [e2] at h1
    have h2 : (k : Int) * 1 ≤ (k : Int) * (x * x + y * y) := Int.mul_le_mul_of_nonneg_left (by omega) (by omega)
    have := M.hi
    omega
  refine ⟨by have := step k; omega, ?_⟩
  induction k with
  | zero => have := fq_nn X Y x y (i0 - (0 : Nat)); simpa using this
  | succ k ih =>
    have h1 := step k
    have e2 : ((k + 1 : Nat) : Int) * (((k + 1 : Nat) : Int) - 1) = (k : Int) * ((k : Int) - 1) + 2 * (k : Int) := by
      rw [Int.natCast_add]
      grind
    have e3 : i0 - ((k + 1 : Nat) : Int) = i0 - (k : Int) - 1 := by omega
    rw [e2, e3]
    omega
/-- Behind one that is too great all are. -/
theorem Mid.all_up (M : Mid X Y x y i0) (hs : 0 < x * x + y * y) {q : Int} {K : Nat} (h : q < fq X Y x y (i0 + K)) : ∀ (i : Int), i0 + K ≤ i → q < fq X Y x y i := by
  have : ∀ m : Nat, q < fq X Y x y (i0 + (K + m : Nat)) := fun m => by
    induction m with
    | zero => exact h
    | succ m ih =>
      have := (M.up hs (K + m)).1
      have e : i0 + ((K + (m + 1) : Nat) : Int) = i0 + ((K + m : Nat) : Int) + 1 := by omega
      rw [e]
      omega
  intro i hi
  have := this (i - i0 - K).toNat
  rwa [show i0 + ((K + (i - i0 - K).toNat : Nat) : Int) = i by omega] at this
theorem Mid.all_down (M : Mid X Y x y i0) (hs : 0 < x * x + y * y) {q : Int} {K : Nat} (h : q < fq X Y x y (i0 - K)) : ∀ (i : Int), i ≤ i0 - K → q < fq X Y x y i := by
  have : ∀ m : Nat, q < fq X Y x y (i0 - (K + m : Nat)) := fun m => by
    induction m with
    | zero => exact h
    | succ m ih =>
      have := (M.down hs (K + m)).1
      have e : i0 - ((K + (m + 1) : Nat) : Int) = i0 - ((K + m : Nat) : Int) - 1 := by omega
      rw [e]
      omega
  intro i hi
  have := this (i0 - K - i).toNat
  rwa [show i0 - ((K + (i0 - K - i).toNat : Nat) : Int) = i by omega] at this
end
theorem k_bd {k : Nat} {q : Int} (h : (k : Int) * ((k : Int) - 1) ≤ q) (hq : q ≤ 1000000000) : k ≤ 40000 := by
  apply Classical.byContradiction
  intro hc
  have := Int.mul_le_mul (show (40000 : Int) ≤ (k : Int) by omega) (show (40000 : Int) ≤ (k : Int) - 1 by omega) (by omega) (by omega)
  omega
theorem coord_bd {X Y q : Int} (h : X * X + Y * Y ≤ q) (hq : q ≤ 1000000000) : (-31623 ≤ X ∧ X ≤ 31623) ∧ (-31623 ≤ Y ∧ Y ≤ 31623) := by
  have n1 := sq_nn X
  have n2 := sq_nn Y
  exact ⟨sq_bd (by omega) (by omega), sq_bd (by omega) (by omega)⟩
/-- The choices of a line. -/
theorem row_counts {x y u v e f q X Y i0 j : Int} (M : Mid X Y x y i0) (hs : 0 < x * x + y * y) (eX : X = e + j * u) (eY : Y = f + j * v) {K1 K2 : Nat} (a1 : ∀ t : Nat, t < K1 → fq X Y x y (i0 + t) ≤ q) (b1 : q < fq X Y x y (i0 + K1))
    (a2 : ∀ t : Nat, t < K2 → fq X Y x y (i0 - t - 1) ≤ q) (b2 : q < fq X Y x y (i0 - K2 - 1)) : Counts (fun c => Near x y u v e f q c ∧ c.2 = j) (K2 + K1) := by
  refine (Counts.seg (y := j) (i := i0 - K2) (n := K2 + K1)).congr fun c => ?_
  obtain ⟨m, n⟩ := c
  have hfq : n = j → (Near x y u v e f q (m, n) ↔ fq X Y x y m ≤ q) := fun hn => by
    subst hn
    unfold Near fq
    simp only [eX, eY]
    have e1 : e + m * x + n * u = e + n * u + m * x := by omega
    have e2 : f + m * y + n * v = f + n * v + m * y := by omega
    rw [e1, e2]
  constructor
  · rintro ⟨h1, h2, h3⟩
    simp only at h1 h2 h3
    refine ⟨(hfq h1).2 ?_, h1⟩
    by_cases hm : i0 ≤ m
    · have := a1 (m - i0).toNat (by omega)
      rwa [show i0 + ((m - i0).toNat : Int) = m by omega] at this
    · have := a2 (i0 - m - 1).toNat (by omega)
      rwa [show i0 - ((i0 - m - 1).toNat : Int) - 1 = m by omega] at this
  · rintro ⟨h1, h2⟩
    simp only at h2
    have h3 := (hfq h2).1 h1
    refine ⟨h2, ?_, ?_⟩
    · apply Classical.byContradiction
      intro hc
      simp only at hc
      have e3 : i0 - (K2 : Int) - 1 = i0 - ((K2 + 1 : Nat) : Int) := by omega
      rw [e3] at b2
      have := M.all_down hs b2 m (by omega)
      omega
    · apply Classical.byContradiction
      intro hc
      simp only at hc
      have := M.all_up hs b1 m (by omega)
      omega
/-- The rest of a line's middle is not far. -/
theorem mid_bd {x y X Y i0 : Int} (hs : 0 < x * x + y * y) (hsb : x * x + y * y ≤ 4500000) (M : Mid X Y x y i0) (hc : -81000000 ≤ x * Y - y * X ∧ x * Y - y * X ≤ 81000000) :
    (-90000000 ≤ X + i0 * x ∧ X + i0 * x ≤ 90000000) ∧ (-90000000 ≤ Y + i0 * y ∧ Y + i0 * y ≤ 90000000) := by
  have e : ((X + i0 * x) * (X + i0 * x) + (Y + i0 * y) * (Y + i0 * y)) * (x * x + y * y) = (x * Y - y * X) * (x * Y - y * X) + ((X + i0 * x) * x + (Y + i0 * y) * y) * ((X + i0 * x) * x + (Y + i0 * y) * y) := by grind
  have ep : (X + i0 * x) * x + (Y + i0 * y) * y = (X * x + Y * y) + i0 * (x * x + y * y) := by grind
  have hp : -4500000 ≤ (X + i0 * x) * x + (Y + i0 * y) * y ∧ (X + i0 * x) * x + (Y + i0 * y) * y ≤ 4500000 := by
    rw [ep]
    have := M.lo
    have := M.hi
    omega
  have p1 := mul_le (m := 81000000) (n := 81000000) hc hc (by omega) (by omega)
  have p2 := mul_le (m := 4500000) (n := 4500000) hp hp (by omega) (by omega)
  have n1 := sq_nn (X + i0 * x)
  have n2 := sq_nn (Y + i0 * y)
  have hle : ((X + i0 * x) * (X + i0 * x) + (Y + i0 * y) * (Y + i0 * y)) * 1 ≤ ((X + i0 * x) * (X + i0 * x) + (Y + i0 * y) * (Y + i0 * y)) * (x * x + y * y) := Int.mul_le_mul_of_nonneg_left (by omega) (by omega)
  exact ⟨sq_bd (by omega) (by omega), sq_bd (by omega) (by omega)⟩
/-- All near ones lie in the lines. -/
theorem near_line {x y u v e f q n0 N : Int} (C : Ctx x y u v e f q) (W : Wide (x * v - y * u) (q * (x * x + y * y)) N) (h0 : n0 = if 0 < x * v - y * u then (-(x * f - y * e)) / (x * v - y * u) else (x * f - y * e) / (-(x * v - y * u)))
    {c : Int × Int} (h : Near x y u v e f q c) : n0 - N ≤ c.2 ∧ c.2 ≤ n0 + N := by
  refine in_range C.nd W ?_ h0
  have := cross_le (x := x) (y := y) h
  have e1 : x * (f + c.1 * y + c.2 * v) - y * (e + c.1 * x + c.2 * u) = x * f - y * e + c.2 * (x * v - y * u) := by grind
  rw [e1] at this
  exact this
theorem near_col {x y u v e f q n0 N : Int} (C : Ctx x y u v e f q) (W : Wide (x * v - y * u) (q * (u * u + v * v)) N) (h0 : n0 = if 0 < x * v - y * u then (-(e * v - f * u)) / (x * v - y * u) else (e * v - f * u) / (-(x * v - y * u)))
    {c : Int × Int} (h : Near x y u v e f q c) : n0 - N ≤ c.1 ∧ c.1 ≤ n0 + N := by
  refine in_range C.nd W ?_ h0
  have := cross_le (x := u) (y := v) h
  have e1 : (u * (f + c.1 * y + c.2 * v) - v * (e + c.1 * x + c.2 * u)) * (u * (f + c.1 * y + c.2 * v) - v * (e + c.1 * x + c.2 * u)) = (e * v - f * u + c.1 * (x * v - y * u)) * (e * v - f * u + c.1 * (x * v - y * u)) := by grind
  rw [e1] at this
  exact this
/-- The choices of the kit with a small rest. -/
def Small (a b c d e f q : Int) (p : Int × Int) : Prop := (e + p.1 * a + p.2 * c) * (e + p.1 * a + p.2 * c) + (f + p.1 * b + p.2 * d) * (f + p.1 * b + p.2 * d) ≤ q
theorem small_near {a b c d e f q i j k l : Int} (X Y : Int) : Near (i * a + j * c) (i * b + j * d) (k * a + l * c) (k * b + l * d) e f q (X, Y) ↔ Small a b c d e f q (X * i + Y * k, X * j + Y * l) := by
  unfold Near Small
  simp only
  have e1 : e + X * (i * a + j * c) + Y * (k * a + l * c) = e + (X * i + Y * k) * a + (X * j + Y * l) * c := by grind
  have e2 : f + X * (i * b + j * d) + Y * (k * b + l * d) = f + (X * i + Y * k) * b + (X * j + Y * l) * d := by grind
  rw [e1, e2]
theorem F74_pos {n d : Int} (hd : 0 < d) (hd2 : d ≤ 1000000000000) (hn : -1000000000000 ≤ n ∧ n ≤ 1000000000000) : F74 n d = some (n / d) := F74_eq hd hd2 hn
theorem F64_sq {a b : Int} (ha : -500000000 ≤ a ∧ a ≤ 500000000) (hb : -500000000 ≤ b ∧ b ≤ 500000000) : F64 a b a b = some (a * a + b * b) := by
  have h1 := mul_le (m := 500000000) (n := 500000000) ha ha (by omega) (by omega)
  have h2 := mul_le (m := 500000000) (n := 500000000) hb hb (by omega) (by omega)
  unfold F64
  rw [w64_id (x := a * a) (by omega) (by omega), w64_id (x := b * b) (by omega) (by omega), w64_id (by omega) (by omega)]
/-- Multiples of a reduced kit's pulls are not long, if they are no great areas. -/
theorem mult_bd {x y d s r m : Int} (hs : s = x * x + y * y) (h1 : 1 ≤ r) (har : 3 * s * r ≤ 4 * (d * d)) (hm : -120000000 ≤ m * d ∧ m * d ≤ 120000000) : (-150000000 ≤ m * x ∧ m * x ≤ 150000000) ∧ (-150000000 ≤ m * y ∧ m * y ≤ 150000000) := by
  have n1 := sq_nn (m * x)
  have n2 := sq_nn (m * y)
  have nm := sq_nn m
  have nx := sq_nn x
  have ny := sq_nn y
  have e : m * x * (m * x) + m * y * (m * y) = m * m * s := by rw [hs]; grind
  have p := mul_le (m := 120000000) (n := 120000000) hm hm (by omega) (by omega)
  have e2 : m * d * (m * d) = m * m * (d * d) := by grind
  have hsr : s * 1 ≤ s * r := Int.mul_le_mul_of_nonneg_left h1 (by omega)
  have hms : m * m * s ≤ m * m * (s * r) := Int.mul_le_mul_of_nonneg_left (by omega) nm
  have hmd : m * m * (3 * s * r) ≤ m * m * (4 * (d * d)) := Int.mul_le_mul_of_nonneg_left har nm
  have e3 : m * m * (3 * s * r) = 3 * (m * m * (s * r)) := by grind
  have e4 : m * m * (4 * (d * d)) = 4 * (m * m * (d * d)) := by grind
  exact ⟨sq_bd (by omega) (by omega), sq_bd (by omega) (by omega)⟩
/-- A line of the range has no great area. -/
theorem line_md {w d N j n0 : Int} (hd : d ≠ 0) (hdb : -4500000 ≤ d ∧ d ≤ 4500000) (hw : -30000000 ≤ w ∧ w ≤ 30000000) (hN : 0 ≤ N) (sm : N * (d.natAbs : Int) ≤ 72000000) (h0 : n0 = if 0 < d then (-w) / d else w / (-d)) (hj : n0 - N ≤ j ∧ j ≤ n0 + N + 1) : -120000000 ≤ j * d ∧ j * d ≤ 120000000 := by
  have := line_bd hd hdb hN sm h0 hj
  omega
theorem quot_bd {w d n0 : Int} (hd : d ≠ 0) (hw : -30000000 ≤ w ∧ w ≤ 30000000) (h0 : n0 = if 0 < d then (-w) / d else w / (-d)) : -30000001 ≤ n0 ∧ n0 ≤ 30000001 := by
  rw [h0]
  split
  · rename_i hp
    have := div_bd (n := -w) (d := d) (m := 30000000) hp (by omega) (by omega)
    omega
  · rename_i hp
    have := div_bd (n := w) (d := -d) (m := 30000000) (by omega) (by omega) (by omega)
    omega
theorem F64_four {a b c d : Int} (ha : -1000000000000 ≤ a ∧ a ≤ 1000000000000) (hb : -1000000000000 ≤ b ∧ b ≤ 1000000000000) (hc : -4500 ≤ c ∧ c ≤ 4500) (hd : -4500 ≤ d ∧ d ≤ 4500) : F64 a b c d = some (a * c + b * d) := (F72_four ha hb hc hd).1
theorem F64_big {a b : Int} (ha : -100000000 ≤ a ∧ a ≤ 100000000) (hb : -100000000 ≤ b ∧ b ≤ 100000000) : F64 a b a b = some (a * a + b * b) := F72_sq ha hb
theorem F51_two {x y u v : Int} (hx : -2000 ≤ x ∧ x ≤ 2000) (hy : -2000 ≤ y ∧ y ≤ 2000) (hu : -2000 ≤ u ∧ u ≤ 2000) (hv : -2000 ≤ v ∧ v ≤ 2000) : F51 x y u v = some (decide (red x y u v)) := by
  have h1 := mul_le (m := 2000) (n := 2000) hx hu (by omega) (by omega)
  have h2 := mul_le (m := 2000) (n := 2000) hy hv (by omega) (by omega)
  unfold F51
  rw [F64_four (by omega) (by omega) (by omega) (by omega), bs, F64_big (by omega) (by omega), bs, F64_big (by omega) (by omega), bs, bs]
  unfold red
  by_cases c1 : x * x + y * y ≤ u * u + v * v
  · simp only [c1, decide_true, if_true, true_and]
    rw [bs, w64_id (x := 0 - (x * u + y * v)) (by omega) (by omega)]
    have hm : mx (x * u + y * v) (0 - (x * u + y * v)) = if 0 - (x * u + y * v) > x * u + y * v then 0 - (x * u + y * v) else x * u + y * v := rfl
    rw [hm, w64_id (by split <;> omega) (by split <;> omega)]
    congr 1
    rw [decide_eq_decide]
    split <;> omega
  · simp [c1]
theorem F57_big {a b c d i j : Int} (h : Kit4 a b c d) (hi : -1000000000000000 ≤ i ∧ i ≤ 1000000000000000) (hj : -1000000000000000 ≤ j ∧ j ≤ 1000000000000000) : F57 a b c d i j = some (i * a + j * c, i * b + j * d) := by
  have h0 := mul_le (m := 1000000000000000) (n := 1000) hi h.b0 (by omega) (by omega)
  have h1 := mul_le (m := 1000000000000000) (n := 1000) hi h.b1 (by omega) (by omega)
  have h2 := mul_le (m := 1000000000000000) (n := 1000) hj h.b2 (by omega) (by omega)
  have h3 := mul_le (m := 1000000000000000) (n := 1000) hj h.b3 (by omega) (by omega)
  unfold F57
  rw [w64_id (x := i * a) (by omega) (by omega), w64_id (x := i * b) (by omega) (by omega), w64_id (x := j * c) (by omega) (by omega), w64_id (x := j * d) (by omega) (by omega),
    w64_id (by omega) (by omega), w64_id (by omega) (by omega)]
theorem F79_eq (p q : Int × Int) : F79 p.1 p.2 q.1 q.2 = some (decide (plt p q)) := by
  unfold F79 plt
  by_cases h1 : p.1 < q.1
  · simp [h1]
  · by_cases h2 : p.1 = q.1
    · simp [h2]
    · simp [h1, h2]
theorem F65l2_eq {p0 p1 p2 p3 p4 p5 v317 v810 : Int} {m18 : Int × Int × Int} {m954 : List (Int × Int) × Int} {r1 : (Int × Int) × Int × Int} (x : Int × Int) : ∀ (R C : List (Int × Int)), R.length + C.length < 1000 → F65l2 p0 p1 p2 p3 p4 p5 m18 m954 r1 v317 v810 R.length (R.reverse ++ x :: C) = some ((insR R x).reverse ++ C)
  | [], C, hl => by
    rw [F65l2_fix]
    simp [insR]
  | a :: R, C, hl => by
    rw [List.length_cons] at hl
    have h1 : ((R.length + 1 : Nat) : Int) - 1 = (R.length : Int) := by omega
    have e1 : (a :: R).reverse ++ x :: C = R.reverse ++ a :: x :: C := by simp
    have hlen : ((a :: R).reverse ++ x :: C).length = R.length + 1 + (C.length + 1) := by simp; omega
    rw [F65l2_fix, List.length_cons, w64_id (x := ((R.length + 1 : Nat) : Int) - 1) (by omega) (by omega), h1, hlen]
    have g1 : ((a :: R).reverse ++ x :: C).getD (R.length + 1) (0, 0) = x := getD_app (by simp) _
    have g2 : ((a :: R).reverse ++ x :: C).getD R.length (0, 0) = a := by rw [e1]; exact getD_app (by simp) _
    have c1 : ((R.length + 1 : Nat) : Int) > 0 := by omega
    have c2 : (0 : Int) ≤ ((R.length + 1 : Nat) : Int) ∧ ((R.length + 1 : Nat) : Int) < ((R.length + 1 + (C.length + 1) : Nat) : Int) := by omega
    have c3 : (0 : Int) ≤ (R.length : Int) ∧ (R.length : Int) < ((R.length + 1 + (C.length + 1) : Nat) : Int) := by omega
    simp only [c1, decide_true, if_true, if_pos c2, if_pos c3, bs, Int.toNat_natCast, g1, g2, F79_eq x a]
    unfold insR
    by_cases hp : plt x a
    · simp only [hp, decide_true, if_true]
      have s1 : ((a :: R).reverse ++ x :: C).set (R.length + 1) (a.1, a.2) = (a :: R).reverse ++ a :: C := set_app (by simp)
      have s2 : ((a :: R).reverse ++ a :: C).set R.length (x.1, x.2) = R.reverse ++ x :: a :: C := by
        have e2 : (a :: R).reverse ++ a :: C = R.reverse ++ a :: a :: C := by simp
        rw [e2]
        exact set_app (by simp)
      rw [s1, s2, F65l2_eq x R (a :: C) (by simp only [List.length_cons]; omega)]
      simp
    · simp only [hp, decide_false, Bool.false_eq_true, if_false]
      simp
theorem comb_inj {i j k l m n p q : Int} (hd : i * l - j * k = 1 ∨ i * l - j * k = -1) (he : (m * i + n * k, m * j + n * l) = (p * i + q * k, p * j + q * l)) : m = p ∧ n = q := by
  simp only [Prod.mk.injEq] at he
  obtain ⟨e1, e2⟩ := he
  have f1 : (i * l - j * k) * m = (m * i + n * k) * l - (m * j + n * l) * k := by grind
  have f2 : (i * l - j * k) * n = (m * j + n * l) * i - (m * i + n * k) * j := by grind
  have g1 : (i * l - j * k) * p = (p * i + q * k) * l - (p * j + q * l) * k := by grind
  have g2 : (i * l - j * k) * q = (p * j + q * l) * i - (p * i + q * k) * j := by grind
  rw [e1, e2, ← g1] at f1
  rw [e1, e2, ← g2] at f2
  rcases hd with hd | hd <;> rw [hd] at f1 f2 <;> omega
/-- What the reference's loops have found. -/
structure RInv (a b c d e f i j k l : Int) (S : Int → Int → Prop) (L : List (Int × Int)) (s : Int) (K : Nat) : Prop where
  len : L.length ≤ K
  srt : L.Pairwise plt
  ne : 0 ≤ s → L ≠ []
  cs : (s = -1 ∧ L = [] ∧ ∀ p q, ¬ S p q) ∨ (0 ≤ s ∧ ∀ p q, S p q → s ≤ lft a b c d e f (p * i + q * k, p * j + q * l))
  mem : ∀ x, x ∈ L ↔ ∃ p q, S p q ∧ x = (p * i + q * k, p * j + q * l) ∧ lft a b c d e f (p * i + q * k, p * j + q * l) = s
/-- What is near the window leaves little. -/
theorem near_win {a b c d e f i j k l m n : Int} (h : RB a b c d i j k l)
    (h1 : -(4 * (((i * a + j * c) * (k * b + l * d) - (i * b + j * d) * (k * a + l * c)).natAbs : Int)) ≤ (e * (k * b + l * d) - f * (k * a + l * c)) + m * ((i * a + j * c) * (k * b + l * d) - (i * b + j * d) * (k * a + l * c)) ∧ (e * (k * b + l * d) - f * (k * a + l * c)) + m * ((i * a + j * c) * (k * b + l * d) - (i * b + j * d) * (k * a + l * c)) ≤ 4 * (((i * a + j * c) * (k * b + l * d) - (i * b + j * d) * (k * a + l * c)).natAbs : Int))
    (h2 : -(4 * (((i * a + j * c) * (k * b + l * d) - (i * b + j * d) * (k * a + l * c)).natAbs : Int)) ≤ ((i * a + j * c) * f - (i * b + j * d) * e) + n * ((i * a + j * c) * (k * b + l * d) - (i * b + j * d) * (k * a + l * c)) ∧ ((i * a + j * c) * f - (i * b + j * d) * e) + n * ((i * a + j * c) * (k * b + l * d) - (i * b + j * d) * (k * a + l * c)) ≤ 4 * (((i * a + j * c) * (k * b + l * d) - (i * b + j * d) * (k * a + l * c)).natAbs : Int)) :
    (-12000 ≤ e + (m * i + n * k) * a + (m * j + n * l) * c ∧ e + (m * i + n * k) * a + (m * j + n * l) * c ≤ 12000) ∧ (-12000 ≤ f + (m * i + n * k) * b + (m * j + n * l) * d ∧ f + (m * i + n * k) * b + (m * j + n * l) * d ≤ 12000) := by
  obtain ⟨b1, b2⟩ := h.bds
  have nf := h.nf
  have e1 : e + (m * i + n * k) * a + (m * j + n * l) * c = e + m * (i * a + j * c) + n * (k * a + l * c) := by grind
  have e2 : f + (m * i + n * k) * b + (m * j + n * l) * d = f + m * (i * b + j * d) + n * (k * b + l * d) := by grind
  rw [e1, e2]
  generalize i * a + j * c = x at *
  generalize i * b + j * d = y at *
  generalize k * a + l * c = u at *
  generalize k * b + l * d = v at *
  have k1 : (e + m * x + n * u) * (x * v - y * u) = (e * v - f * u + m * (x * v - y * u)) * x + (x * f - y * e + n * (x * v - y * u)) * u := by grind
  have k2 : (f + m * y + n * v) * (x * v - y * u) = (e * v - f * u + m * (x * v - y * u)) * y + (x * f - y * e + n * (x * v - y * u)) * v := by grind
  generalize e * v - f * u + m * (x * v - y * u) = p at *
  generalize x * f - y * e + n * (x * v - y * u) = q at *
  generalize x * v - y * u = D at *
  have m1 := mul_le (a := p) (b := x) (m := 4 * (D.natAbs : Int)) (n := 1500) h1 b1.1 (by omega) (by omega)
  have m2 := mul_le (a := q) (b := u) (m := 4 * (D.natAbs : Int)) (n := 1500) h2 b2.1 (by omega) (by omega)
  have m3 := mul_le (a := p) (b := y) (m := 4 * (D.natAbs : Int)) (n := 1500) h1 b1.2.1 (by omega) (by omega)
  have m4 := mul_le (a := q) (b := v) (m := 4 * (D.natAbs : Int)) (n := 1500) h2 b2.2.1 (by omega) (by omega)
  exact ⟨ab_mul nf (by omega) (by rw [k1]; omega), ab_mul nf (by omega) (by rw [k2]; omega)⟩
/-- The window's residues. -/
theorem win_bd {w D m m0 : Int} (hd : D ≠ 0) (h0 : m0 = if 0 < D then (-w) / D else w / (-D)) (h : m0 - 2 ≤ m ∧ m ≤ m0 + 3) : -(4 * (D.natAbs : Int)) ≤ w + m * D ∧ w + m * D ≤ 4 * (D.natAbs : Int) := by
  obtain ⟨t, ht⟩ : ∃ t, m = m0 + t := ⟨m - m0, by omega⟩
  have ht2 : -2 ≤ t ∧ t ≤ 3 := by omega
  subst ht
  have e0 : (m0 + t) * D = m0 * D + t * D := by grind
  rw [e0]
  by_cases hp : 0 < D
  · rw [if_pos hp] at h0
    obtain ⟨s1, s2⟩ := div_spec (n := -w) hp
    rw [← h0] at s1 s2
    have e1 : (m0 + 1) * D = m0 * D + D := by grind
    have a1 : -2 * D ≤ t * D := Int.mul_le_mul_of_nonneg_right (by omega) (by omega)
    have a2 : t * D ≤ 3 * D := Int.mul_le_mul_of_nonneg_right (by omega) (by omega)
    omega
  · rw [if_neg hp] at h0
    obtain ⟨s1, s2⟩ := div_spec (n := w) (d := -D) (by omega)
    rw [← h0] at s1 s2
    have e1 : (m0 + 1) * -D = m0 * -D + -D := by grind
    have e2 : m0 * -D = -(m0 * D) := by grind
    have a1 : -2 * -D ≤ t * -D := Int.mul_le_mul_of_nonneg_right (by omega) (by omega)
    have a2 : t * -D ≤ 3 * -D := Int.mul_le_mul_of_nonneg_right (by omega) (by omega)
    have e3 : t * -D = -(t * D) := by grind
    omega
theorem F65l1_eq {a b c d e f i j k l : Int} (h : RB a b c d i j k l) (be : -10000 ≤ e ∧ e ≤ 10000) (bf : -10000 ≤ f ∧ f ≤ 10000) {m m0 n0 g1 g2 g3 : Int} (hn0 : F74 g3 g1 = some n0) (bm : -30000010 ≤ m ∧ m ≤ 30000010) (bn : -30000001 ≤ n0 ∧ n0 ≤ 30000001)
    (near : ∀ n, n0 - 2 ≤ n → n ≤ n0 + 3 → (-12000 ≤ e + (m * i + n * k) * a + (m * j + n * l) * c ∧ e + (m * i + n * k) * a + (m * j + n * l) * c ≤ 12000) ∧ (-12000 ≤ f + (m * i + n * k) * b + (m * j + n * l) * d ∧ f + (m * i + n * k) * b + (m * j + n * l) * d ≤ 12000)) :
    ∀ (t : Nat) (n : Int) (S : Int → Int → Prop) (L : List (Int × Int)) (s : Int) (K : Nat), n0 - 2 ≤ n → n + t = n0 + 4 → K + t ≤ 100 → (∀ q, S m q → q < n) → RInv a b c d e f i j k l S L s K →
      ∃ L' s', F65l1 a b c d e f (g1, g2, g3) ((i, j), (k, l)) m s n L = some (L', s') ∧ RInv a b c d e f i j k l (fun p q => S p q ∨ p = m ∧ n ≤ q ∧ q ≤ n0 + 3) L' s' (K + t) := by
  intro t
  induction t with
  | zero =>
    intro n S L s K hn ht hK hS I
    rw [F65l1_fix]
    simp only
    rw [hn0, bs, w64_id (x := n0 + 3) (by omega) (by omega)]
    have : ¬ n ≤ n0 + 3 := by omega
    rw [if_neg (by simpa using this)]
    refine ⟨L, s, rfl, I.len, I.srt, I.ne, ?_, fun x => ?_⟩
    · rcases I.cs with ⟨h1, h2, h3⟩ | ⟨h1, h2⟩
      · exact .inl ⟨h1, h2, fun p q hp => by rcases hp with hp | hp; exact h3 p q hp; omega⟩
      · exact .inr ⟨h1, fun p q hp => by rcases hp with hp | hp; exact h2 p q hp; omega⟩
    · rw [I.mem]
      constructor
      · rintro ⟨p, q, h1, h2⟩; exact ⟨p, q, .inl h1, h2⟩
      · rintro ⟨p, q, h1 | h1, h2⟩
        · exact ⟨p, q, h1, h2⟩
        · omega
  | succ t ih =>
    intro n S L s K hn ht hK hS I
    obtain ⟨b1, b2⟩ := h.bds
    have hle : n ≤ n0 + 3 := by omega
    obtain ⟨nX, nY⟩ := near n hn hle
    have again : ∀ L2 s2, RInv a b c d e f i j k l (fun p q => S p q ∨ p = m ∧ q = n) L2 s2 (K + 1) →
        ∃ L' s', F65l1 a b c d e f (g1, g2, g3) ((i, j), (k, l)) m s2 (n + 1) L2 = some (L', s') ∧ RInv a b c d e f i j k l (fun p q => S p q ∨ p = m ∧ n ≤ q ∧ q ≤ n0 + 3) L' s' (K + (t + 1)) := by
      intro L2 s2 I2
      obtain ⟨L', s', q1, q2⟩ := ih (n + 1) _ L2 s2 (K + 1) (by omega) (by omega) (by omega) (fun q hq => by
        rcases hq with hq | hq
        · have := hS q hq; omega
        · omega) I2
      have eqS : ∀ p q, ((S p q ∨ p = m ∧ q = n) ∨ p = m ∧ n + 1 ≤ q ∧ q ≤ n0 + 3) ↔ (S p q ∨ p = m ∧ n ≤ q ∧ q ≤ n0 + 3) := fun p q => by
        constructor
        · rintro ((h | h) | h)
          · exact .inl h
          · exact .inr ⟨h.1, by omega, by omega⟩
          · exact .inr ⟨h.1, by omega, by omega⟩
        · rintro (h | h)
          · exact .inl (.inl h)
          · by_cases e : q = n
            · exact .inl (.inr ⟨h.1, e⟩)
            · exact .inr ⟨h.1, by omega, by omega⟩
      refine ⟨L', s', q1, by have := q2.len; omega, q2.srt, q2.ne, ?_, fun x => ?_⟩
      · rcases q2.cs with ⟨h1, h2, h3⟩ | ⟨h1, h2⟩
        · exact .inl ⟨h1, h2, fun p q hp => h3 p q ((eqS p q).2 hp)⟩
        · exact .inr ⟨h1, fun p q hp => h2 p q ((eqS p q).2 hp)⟩
      · rw [q2.mem]
        constructor
        · rintro ⟨p, q, h1, h2⟩; exact ⟨p, q, (eqS p q).1 h1, h2⟩
        · rintro ⟨p, q, h1, h2⟩; exact ⟨p, q, (eqS p q).2 h1, h2⟩
    have m1 := mul_le (a := m) (b := i) (m := 30000010) (n := 3000000) bm b1.2.2.1 (by omega) (by omega)
    have m2 := mul_le (a := m) (b := j) (m := 30000010) (n := 3000000) bm b1.2.2.2 (by omega) (by omega)
    have m3 := mul_le (a := n) (b := k) (m := 30000010) (n := 3000000) (by omega) b2.2.2.1 (by omega) (by omega)
    have m4 := mul_le (a := n) (b := l) (m := 30000010) (n := 3000000) (by omega) b2.2.2.2 (by omega) (by omega)
    rw [F65l1_fix]
    simp only
    rw [hn0, bs, w64_id (x := n0 + 3) (by omega) (by omega), if_pos (decide_eq_true hle)]
    rw [w64_id (x := m * i) (by omega) (by omega), w64_id (x := m * j) (by omega) (by omega), w64_id (x := n * k) (by omega) (by omega), w64_id (x := n * l) (by omega) (by omega),
      w64_id (x := m * i + n * k) (by omega) (by omega), w64_id (x := m * j + n * l) (by omega) (by omega), F57_big h.kit (by omega) (by omega), bs]
    simp only
    have q1 : e + ((m * i + n * k) * a + (m * j + n * l) * c) = e + (m * i + n * k) * a + (m * j + n * l) * c := by omega
    have q2 : f + ((m * i + n * k) * b + (m * j + n * l) * d) = f + (m * i + n * k) * b + (m * j + n * l) * d := by omega
    rw [q1, q2, w64_id (x := e + (m * i + n * k) * a + (m * j + n * l) * c) (by omega) (by omega), w64_id (x := f + (m * i + n * k) * b + (m * j + n * l) * d) (by omega) (by omega), F64_big (by omega) (by omega), bs, w64_id (x := n + 1) (by omega) (by omega)]
    have hN : (e + (m * i + n * k) * a + (m * j + n * l) * c) * (e + (m * i + n * k) * a + (m * j + n * l) * c) + (f + (m * i + n * k) * b + (m * j + n * l) * d) * (f + (m * i + n * k) * b + (m * j + n * l) * d) = lft a b c d e f (m * i + n * k, m * j + n * l) := rfl
    rw [hN]
    have hN0 := lft_nn a b c d e f (m * i + n * k, m * j + n * l)
    have hnot : (m * i + n * k, m * j + n * l) ∉ L := fun hc => by
      obtain ⟨p, q, h1, h2, _⟩ := (I.mem _).1 hc
      obtain ⟨rfl, rfl⟩ := comb_inj h.det h2
      have := hS _ h1
      omega
    by_cases hnew : s < 0 ∨ lft a b c d e f (m * i + n * k, m * j + n * l) < s
    · have e1 : (if decide (s < 0) then some true else some (decide (lft a b c d e f (m * i + n * k, m * j + n * l) < s))) = some true := by
        by_cases h1 : s < 0
        · simp [h1]
        · have := hnew.resolve_left h1
          simp [h1, this]
      rw [e1, bs]
      simp only [if_true]
      rw [bs]
      simp only [gt_iff_lt, Int.lt_irrefl, decide_false, Bool.false_eq_true, if_false, List.nil_append, List.length_nil, Nat.zero_le, if_true, List.length_cons]
      rw [bs, show w64 (((0 + 1 : Nat) : Int) - 1) = (([] : List (Int × Int)).length : Int) from rfl]
      have := F65l2_eq (p0 := a) (p1 := b) (p2 := c) (p3 := d) (p4 := e) (p5 := f) (v317 := m) (v810 := n) (m18 := (g1, g2, g3)) (m954 := ([], lft a b c d e f (m * i + n * k, m * j + n * l))) (r1 := ((i, j), (k, l))) (m * i + n * k, m * j + n * l) [] [] (by simp)
      rw [List.reverse_nil, List.nil_append] at this
      rw [this, bs]
      refine again _ _ ⟨by simp [insR], by simp [insR], fun _ => by simp [insR], .inr ⟨hN0, fun p q hp => ?_⟩, fun x => ?_⟩
      · rcases hp with hp | ⟨rfl, rfl⟩
        · rcases I.cs with ⟨_, _, h3⟩ | ⟨h1, h2⟩
          · exact absurd hp (h3 p q)
          · have := h2 p q hp
            omega
        · omega
      · simp only [insR, List.reverse_cons, List.reverse_nil, List.nil_append, List.append_nil, List.mem_singleton]
        constructor
        · rintro rfl
          exact ⟨m, n, .inr ⟨rfl, rfl⟩, rfl, rfl⟩
        · rintro ⟨p, q, hp | ⟨rfl, rfl⟩, h2, h3⟩
          · rcases I.cs with ⟨_, _, h4⟩ | ⟨h4, h5⟩
            · exact absurd hp (h4 p q)
            · have := h5 p q hp
              omega
          · exact h2
    · have hs0 : ¬ s < 0 := fun h => hnew (.inl h)
      have hs1 : ¬ lft a b c d e f (m * i + n * k, m * j + n * l) < s := fun h => hnew (.inr h)
      simp only [hs0, hs1, decide_false, Bool.false_eq_true, if_false, bs]
      have hmin : ∀ p q, S p q → s ≤ lft a b c d e f (p * i + q * k, p * j + q * l) := by
        rcases I.cs with ⟨h1, _, _⟩ | ⟨_, h2⟩
        · omega
        · exact h2
      by_cases hgt : lft a b c d e f (m * i + n * k, m * j + n * l) > s
      · simp only [hgt, decide_true, if_true]
        refine again _ _ ⟨by have := I.len; omega, I.srt, I.ne, .inr ⟨by omega, fun p q hp => ?_⟩, fun x => ?_⟩
        · rcases hp with hp | ⟨rfl, rfl⟩
          · exact hmin p q hp
          · omega
        · rw [I.mem]
          constructor
          · rintro ⟨p, q, h1, h2⟩; exact ⟨p, q, .inl h1, h2⟩
          · rintro ⟨p, q, h1 | ⟨rfl, rfl⟩, h2, h3⟩
            · exact ⟨p, q, h1, h2, h3⟩
            · omega
      · have heq : lft a b c d e f (m * i + n * k, m * j + n * l) = s := by omega
        have hlen := I.len
        have hl9 : L.length ≤ 1000000000 := by omega
        simp only [hgt, decide_false, Bool.false_eq_true, if_false, hl9, if_true]
        have hl1 : w64 (((L ++ [(m * i + n * k, m * j + n * l)]).length : Int) - 1) = (L.reverse.length : Int) := by
          rw [List.length_append, List.length_reverse, w64_id (by simp only [List.length_cons, List.length_nil]; omega) (by simp only [List.length_cons, List.length_nil]; omega)]
          simp only [List.length_cons, List.length_nil]
          omega
        rw [hl1]
        have := F65l2_eq (p0 := a) (p1 := b) (p2 := c) (p3 := d) (p4 := e) (p5 := f) (v317 := m) (v810 := n) (m18 := (g1, g2, g3)) (m954 := (L, s)) (r1 := ((i, j), (k, l))) (m * i + n * k, m * j + n * l) L.reverse [] (by simp; omega)
        rw [List.reverse_reverse, List.append_nil] at this
        rw [this, bs]
        refine again _ _ ⟨by rw [List.length_reverse, insR_len, List.length_reverse]; omega, ?_, fun _ hc => by
          have := insR_len (x := (m * i + n * k, m * j + n * l)) (R := L.reverse)
          rw [List.reverse_eq_nil_iff] at hc
          rw [hc] at this
          simp at this, .inr ⟨by omega, fun p q hp => ?_⟩, fun x => ?_⟩
        · rw [List.pairwise_reverse]
          exact insR_down (R := L.reverse) (List.pairwise_reverse.2 I.srt) fun hc => hnot (List.mem_reverse.1 hc)
        · rcases hp with hp | ⟨rfl, rfl⟩
          · exact hmin p q hp
          · omega
        · rw [List.mem_reverse, insR_mem, List.mem_reverse, I.mem]
          constructor
          · rintro (rfl | ⟨p, q, h1, h2⟩)
            · exact ⟨m, n, .inr ⟨rfl, rfl⟩, rfl, heq⟩
            · exact ⟨p, q, .inl h1, h2⟩
          · rintro ⟨p, q, h1 | ⟨rfl, rfl⟩, h2, h3⟩
            · exact .inr ⟨p, q, h1, h2, h3⟩
            · exact .inl h2
theorem F65l0_eq {a b c d e f i j k l : Int} (h : RB a b c d i j k l) (be : -10000 ≤ e ∧ e ≤ 10000) (bf : -10000 ≤ f ∧ f ≤ 10000) {m0 n0 g1 g2 g3 : Int} (hm0 : F74 g2 g1 = some m0) (hn0 : F74 g3 g1 = some n0) (bm : -30000001 ≤ m0 ∧ m0 ≤ 30000001) (bn : -30000001 ≤ n0 ∧ n0 ≤ 30000001)
    (near : ∀ m n, m0 - 2 ≤ m → m ≤ m0 + 3 → n0 - 2 ≤ n → n ≤ n0 + 3 → (-12000 ≤ e + (m * i + n * k) * a + (m * j + n * l) * c ∧ e + (m * i + n * k) * a + (m * j + n * l) * c ≤ 12000) ∧ (-12000 ≤ f + (m * i + n * k) * b + (m * j + n * l) * d ∧ f + (m * i + n * k) * b + (m * j + n * l) * d ≤ 12000)) :
    ∀ (t : Nat) (m : Int) (S : Int → Int → Prop) (L : List (Int × Int)) (s : Int) (K : Nat), m0 - 2 ≤ m → m + t = m0 + 4 → K + 6 * t ≤ 100 → (∀ p q, S p q → p < m) → RInv a b c d e f i j k l S L s K →
      ∃ L' s', F65l0 a b c d e f (g1, g2, g3) ((i, j), (k, l)) L s m = some (L', s') ∧ RInv a b c d e f i j k l (fun p q => S p q ∨ (m ≤ p ∧ p ≤ m0 + 3) ∧ n0 - 2 ≤ q ∧ q ≤ n0 + 3) L' s' (K + 6 * t) := by
  intro t
  induction t with
  | zero =>
    intro m S L s K hm ht hK hS I
    rw [F65l0_fix]
    simp only
    rw [hm0, bs, w64_id (x := m0 + 3) (by omega) (by omega)]
    have : ¬ m ≤ m0 + 3 := by omega
    rw [if_neg (by simpa using this)]
    refine ⟨L, s, rfl, I.len, I.srt, I.ne, ?_, fun x => ?_⟩
    · rcases I.cs with ⟨h1, h2, h3⟩ | ⟨h1, h2⟩
      · exact .inl ⟨h1, h2, fun p q hp => by rcases hp with hp | hp; exact h3 p q hp; omega⟩
      · exact .inr ⟨h1, fun p q hp => by rcases hp with hp | hp; exact h2 p q hp; omega⟩
    · rw [I.mem]
      constructor
      · rintro ⟨p, q, h1, h2⟩; exact ⟨p, q, .inl h1, h2⟩
      · rintro ⟨p, q, h1 | h1, h2⟩
        · exact ⟨p, q, h1, h2⟩
        · omega
  | succ t ih =>
    intro m S L s K hm ht hK hS I
    have hle : m ≤ m0 + 3 := by omega
    rw [F65l0_fix]
    simp only
    rw [hm0, bs, w64_id (x := m0 + 3) (by omega) (by omega), if_pos (decide_eq_true hle), hn0, bs, w64_id (x := n0 - 2) (by omega) (by omega), w64_id (x := m + 1) (by omega) (by omega)]
    obtain ⟨L1, s1, q1, q2⟩ := F65l1_eq (m0 := m0) (g2 := g2) h be bf hn0 (m := m) (by omega) bn (fun n h1 h2 => near m n hm hle h1 h2) 6 (n0 - 2) S L s K (by omega) (by omega) (by omega) (fun q hq => by have := hS m q hq; omega) I
    rw [q1, bs]
    obtain ⟨L2, s2, q3, q4⟩ := ih (m + 1) (fun p q => S p q ∨ p = m ∧ n0 - 2 ≤ q ∧ q ≤ n0 + 3) L1 s1 (K + 6) (by omega) (by omega) (by omega) (fun p q hpq => by
      rcases hpq with hpq | hpq
      · have := hS p q hpq; omega
      · omega) q2
    have eqS : ∀ p q, ((S p q ∨ p = m ∧ n0 - 2 ≤ q ∧ q ≤ n0 + 3) ∨ (m + 1 ≤ p ∧ p ≤ m0 + 3) ∧ n0 - 2 ≤ q ∧ q ≤ n0 + 3) ↔ (S p q ∨ (m ≤ p ∧ p ≤ m0 + 3) ∧ n0 - 2 ≤ q ∧ q ≤ n0 + 3) := fun p q => by
      constructor
      · rintro ((h | h) | h)
        · exact .inl h
        · exact .inr ⟨by omega, h.2⟩
        · exact .inr ⟨by omega, h.2⟩
      · rintro (h | h)
        · exact .inl (.inl h)
        · by_cases e : p = m
          · exact .inl (.inr ⟨e, h.2⟩)
          · exact .inr ⟨by omega, h.2⟩
    refine ⟨L2, s2, q3, by have := q4.len; omega, q4.srt, q4.ne, ?_, fun x => ?_⟩
    · rcases q4.cs with ⟨h1, h2, h3⟩ | ⟨h1, h2⟩
      · exact .inl ⟨h1, h2, fun p q hp => h3 p q ((eqS p q).2 hp)⟩
      · exact .inr ⟨h1, fun p q hp => h2 p q ((eqS p q).2 hp)⟩
    · rw [q4.mem]
      constructor
      · rintro ⟨p, q, h1, h2⟩; exact ⟨p, q, (eqS p q).1 h1, h2⟩
      · rintro ⟨p, q, h1, h2⟩; exact ⟨p, q, (eqS p q).2 h1, h2⟩
/-- The reference's list is the sorted list of all best choices. -/
theorem F65_eq {a b c d e f : Int} (h : Kit4 a b c d) (be : -10000 ≤ e ∧ e ≤ 10000) (bf : -10000 ≤ f ∧ f ≤ 10000) : ∃ L s, F65 a b c d e f = some (L, s) ∧ L.Pairwise plt ∧ (∀ p, p ∈ L ↔ Best a b c d e f p) := by
  obtain ⟨i, j, k, l, h62, hBun, hred⟩ := F62_eq h
  have hB : RB a b c d i j k l := ⟨h, hBun.det, hred, hBun⟩
  obtain ⟨b1, b2⟩ := hB.bds
  have nf := hB.nf
  have hdet := hB.det
  have h4 := fun {L : List (Int × Int)} => best_four (L := L) (e := e) (f := f) h.nf
  obtain ⟨pe, hpe⟩ := best_ex a b c d e f
  have win := fun m n m0 n0 => in_window (e := e) (f := f) (m := m) (n := n) (m0 := m0) (n0 := n0) hB
  have near := fun m n => near_win (e := e) (f := f) (m := m) (n := n) hB
  have loop := fun m0 n0 g1 g2 g3 => F65l0_eq (m0 := m0) (n0 := n0) (g1 := g1) (g2 := g2) (g3 := g3) hB be bf
  unfold F65
  rw [h62, bs]
  simp only
  rw [F57_eq h (by omega) (by omega), bs, F57_eq h (by omega) (by omega), bs]
  simp only
  generalize hx : i * a + j * c = x at *
  generalize hy : i * b + j * d = y at *
  generalize hu : k * a + l * c = u at *
  generalize hv : k * b + l * d = v at *
  have m1 := mul_le (a := e) (b := v) (m := 10000) (n := 1500) be b2.2.1 (by omega) (by omega)
  have m2 := mul_le (a := f) (b := u) (m := 10000) (n := 1500) bf b2.1 (by omega) (by omega)
  have m3 := mul_le (a := x) (b := f) (m := 1500) (n := 10000) b1.1 bf (by omega) (by omega)
  have m4 := mul_le (a := y) (b := e) (m := 1500) (n := 10000) b1.2.1 be (by omega) (by omega)
  have m5 := mul_le (a := x) (b := v) (m := 1500) (n := 1500) b1.1 b2.2.1 (by omega) (by omega)
  have m6 := mul_le (a := y) (b := u) (m := 1500) (n := 1500) b1.2.1 b2.1 (by omega) (by omega)
  rw [w64_id (x := x * v) (by omega) (by omega), w64_id (x := y * u) (by omega) (by omega), w64_id (x := x * v - y * u) (by omega) (by omega), w64_id (x := e * v) (by omega) (by omega), w64_id (x := f * u) (by omega) (by omega),
    w64_id (x := e * v - f * u) (by omega) (by omega), w64_id (x := x * f) (by omega) (by omega), w64_id (x := y * e) (by omega) (by omega), w64_id (x := x * f - y * e) (by omega) (by omega),
    w64_id (x := 0 - (e * v - f * u)) (by omega) (by omega), w64_id (x := 0 - (x * f - y * e)) (by omega) (by omega), w64_id (x := 0 - (x * v - y * u)) (by omega) (by omega),
    w64_id (x := 0 - (0 - (e * v - f * u))) (by omega) (by omega), w64_id (x := 0 - (0 - (x * f - y * e))) (by omega) (by omega)]
  obtain ⟨m0, hm0⟩ : ∃ m0, m0 = if 0 < x * v - y * u then (-(e * v - f * u)) / (x * v - y * u) else (e * v - f * u) / (-(x * v - y * u)) := ⟨_, rfl⟩
  obtain ⟨n0, hn0⟩ : ∃ n0, n0 = if 0 < x * v - y * u then (-(x * f - y * e)) / (x * v - y * u) else (x * f - y * e) / (-(x * v - y * u)) := ⟨_, rfl⟩
  have qb : ∀ {w n0 : Int}, (-30000000 ≤ w ∧ w ≤ 30000000) → n0 = (if 0 < x * v - y * u then (-w) / (x * v - y * u) else w / (-(x * v - y * u))) → -30000001 ≤ n0 ∧ n0 ≤ 30000001 := by
    intro w n0 hw h0
    split at h0
    · rename_i hp; rw [h0]; exact div_bd (m := 30000000) hp (by omega) (by omega)
    · rename_i hp; rw [h0]; exact div_bd (m := 30000000) (by omega) (by omega) (by omega)
  have bm := qb (by omega) hm0
  have bn := qb (by omega) hn0
  have nw : ∀ m n, m0 - 2 ≤ m → m ≤ m0 + 3 → n0 - 2 ≤ n → n ≤ n0 + 3 → (-12000 ≤ e + (m * i + n * k) * a + (m * j + n * l) * c ∧ e + (m * i + n * k) * a + (m * j + n * l) * c ≤ 12000) ∧ (-12000 ≤ f + (m * i + n * k) * b + (m * j + n * l) * d ∧ f + (m * i + n * k) * b + (m * j + n * l) * d ≤ 12000) :=
    fun m n h1 h2 h3 h4 => near m n (win_bd nf hm0 ⟨h1, h2⟩) (win_bd nf hn0 ⟨h3, h4⟩)
  have fin : ∀ g1 g2 g3, F74 g2 g1 = some m0 → F74 g3 g1 = some n0 → ∃ L s, (F74 g2 g1 >>= fun r20 => F65l0 a b c d e f (g1, g2, g3) ((i, j), (k, l)) [] (-1) (w64 (r20 - 2)) >>= fun r => some (r.1, r.2)) = some (L, s) ∧ L.Pairwise plt ∧ (∀ p, p ∈ L ↔ Best a b c d e f p) := by
    intro g1 g2 g3 k1 k2
    obtain ⟨L, s, q1, q2⟩ := loop m0 n0 g1 g2 g3 k1 k2 bm bn nw 6 (m0 - 2) (fun _ _ => False) [] (-1) 0 (by omega) (by omega) (by omega) (fun _ _ hp => hp.elim)
      ⟨by simp, by simp, fun h => by omega, .inl ⟨rfl, rfl, fun _ _ hp => hp⟩, fun x => by simp⟩
    rw [k1, bs, w64_id (by omega) (by omega), q1, bs]
    refine ⟨L, s, rfl, q2.srt, ?_⟩
    obtain ⟨me, ne, rfl⟩ := by_bundles hdet pe
    have inw : ∀ m n, Best a b c d e f (m * i + n * k, m * j + n * l) → False ∨ (m0 - 2 ≤ m ∧ m ≤ m0 + 3) ∧ n0 - 2 ≤ n ∧ n ≤ n0 + 3 := fun m n hb => by
      have := win m n m0 n0 hm0 hn0 hb
      exact .inr ⟨by omega, by omega, by omega⟩
    rcases q2.cs with ⟨_, _, h3⟩ | ⟨hs0, h3⟩
    · exact absurd (inw me ne hpe) (h3 me ne)
    · have hs : ∀ m n, Best a b c d e f (m * i + n * k, m * j + n * l) → lft a b c d e f (m * i + n * k, m * j + n * l) = s := by
        have he := h3 me ne (inw me ne hpe)
        -- the list has a member
        have hne : ∃ p, p ∈ L := by
          cases hL : L with
          | nil => exact absurd hL (q2.ne hs0)
          | cons p t => exact ⟨p, .head _⟩
        obtain ⟨p, hp⟩ := hne
        obtain ⟨m', n', h5, rfl, h6⟩ := (q2.mem _).1 hp
        intro m n hb
        have k1 := hb (m' * i + n' * k, m' * j + n' * l)
        have k2 := h3 m n (inw m n hb)
        omega
      intro p
      obtain ⟨m, n, rfl⟩ := by_bundles hdet p
      rw [q2.mem]
      constructor
      · rintro ⟨m', n', h5, h6, h7⟩ q
        rw [h6, h7]
        have := hs me ne hpe
        have := hpe q
        omega
      · intro hb
        exact ⟨m, n, inw m n hb, rfl, hs m n hb⟩
  by_cases hneg : x * v - y * u < 0
  · have hp : ¬ 0 < x * v - y * u := by omega
    rw [if_neg hp] at hm0 hn0
    simp only [hneg, decide_true, if_true, bs]
    refine fin _ _ _ ?_ ?_
    · rw [show 0 - (0 - (e * v - f * u)) = e * v - f * u by omega, show 0 - (x * v - y * u) = -(x * v - y * u) by omega, F74_eq (by omega) (by omega) (by omega), hm0]
    · rw [show 0 - (0 - (x * f - y * e)) = x * f - y * e by omega, show 0 - (x * v - y * u) = -(x * v - y * u) by omega, F74_eq (by omega) (by omega) (by omega), hn0]
  · have hp : 0 < x * v - y * u := by omega
    rw [if_pos hp] at hm0 hn0
    simp only [hneg, decide_false, Bool.false_eq_true, if_false, bs]
    refine fin _ _ _ ?_ ?_
    · rw [show 0 - (e * v - f * u) = -(e * v - f * u) by omega, F74_eq (by omega) (by omega) (by omega), hm0]
    · rw [show 0 - (x * f - y * e) = -(x * f - y * e) by omega, F74_eq (by omega) (by omega) (by omega), hn0]

end Go.Proofs.Ytenjelagfbceeaa
