/- What the functions of the laws without the reference compute. -/
import Derived.Test.YtenjelagfbceeaaLB4
import Derived.Test.YtenjelagfbceeaaG8
set_option linter.unusedVariables false
set_option linter.unusedSimpArgs false
set_option maxHeartbeats 4000000
namespace Go.Proofs.Ytenjelagfbceeaa
open Go Go.Cl
theorem F8l0_fix (r1 : (((Int × Int) × (Int × Int)) × (Int × Int))) (r3 : ((Int × Int) × (Int × Int) × Int)) (r5 : ((Int × Int) × (Int × Int) × Int)) (r7 : (((Int × Int) × (Int × Int)) × Bool)) (r15 : (Int × Int)) (r19 : (Int × Int)) (r30 : (Int × Int)) (v37 : Bool) (v38 : Int) : F8l0 r1 r3 r5 r7 r15 r19 r30 v37 v38 = (
    if decide (v38 < (3 : Int)) then
      if (0 : Int) ≤ v38 ∧ v38 < (3 : Int) then
        some (List.getD ([(r7.1.1.1, r7.1.1.2), (r7.1.2.1, r7.1.2.2), (r30.1, r30.2)]) (Int.toNat v38) (0, 0)) >>= fun o52 =>
        F41 r19.1 r19.2 o52.1 o52.2 >>= fun r54 =>
        (
          if v37 then
            F41 o52.1 o52.2 o52.1 o52.2 >>= fun r56 =>
            some (decide ((w64 (2 * (mx r54 (w64 (0 - r54))))) ≤ r56))
          else
            some (false)
        : Option Bool) >>= fun m58 =>
        F8l0 r1 r3 r5 r7 r15 r19 r30 m58 (w64 (v38 + 1))
      else none
    else
      some v37
    : Option Bool) := by
  delta F8l0
  conv => lhs; rw [Lean.Order.fix_eq]
instance (x y u v a b : Int) : Decidable (near6 x y u v a b) := by unfold near6; infer_instance
theorem F50_eq {x y u v : Int} (hx : -2000 ≤ x ∧ x ≤ 2000) (hy : -2000 ≤ y ∧ y ≤ 2000) (hu : -2000 ≤ u ∧ u ≤ 2000) (hv : -2000 ≤ v ∧ v ≤ 2000) : F50 x y u v = some (decide (red x y u v)) := by
  have h1 := mul_le (m := 2000) (n := 2000) hx hu (by omega) (by omega)
  have h2 := mul_le (m := 2000) (n := 2000) hy hv (by omega) (by omega)
  unfold F50
  rw [(F72_four (by omega) (by omega) (by omega) (by omega)).1, bs, F63_sq (by omega) (by omega), bs, F63_sq (by omega) (by omega), bs, bs]
  unfold red
  by_cases c1 : x * x + y * y ≤ u * u + v * v
  · simp only [c1, decide_true, if_true, true_and]
    rw [bs, w64_id (x := 0 - (x * u + y * v)) (by omega) (by omega)]
    have hm : mx (x * u + y * v) (0 - (x * u + y * v)) = if 0 - (x * u + y * v) > x * u + y * v then 0 - (x * u + y * v) else x * u + y * v := rfl
    rw [hm, w64_id (by split <;> omega) (by split <;> omega)]
    congr 1
    rw [decide_eq_decide]
    split <;> omega
  · simp [c1]
theorem F67_eq {x y u v X Y g0 g1 g2 g3 : Int} (hx : -2000 ≤ x ∧ x ≤ 2000) (hy : -2000 ≤ y ∧ y ≤ 2000) (hu : -2000 ≤ u ∧ u ≤ 2000) (hv : -2000 ≤ v ∧ v ≤ 2000) (hX : -1000000000000 ≤ X ∧ X ≤ 1000000000000) (hY : -1000000000000 ≤ Y ∧ Y ≤ 1000000000000) :
    F67 x y u v g0 g1 g2 g3 X Y = some (decide (near6 x y u v X Y)) := by
  have hs : sgn x y u v = 1 ∨ sgn x y u v = -1 := by rcases sgn_cases x y u v with h | h; exact .inl h.1; exact .inr h.1
  unfold F67
  rw [F80_eq hx hy hu hv, bs]
  simp only
  have bw : -4500 ≤ x + sgn x y u v * u ∧ x + sgn x y u v * u ≤ 4500 := by rcases hs with h | h <;> rw [h] <;> omega
  have bz : -4500 ≤ y + sgn x y u v * v ∧ y + sgn x y u v * v ≤ 4500 := by rcases hs with h | h <;> rw [h] <;> omega
  have hw2 : near6 x y u v X Y ↔
      (-(x * x + y * y) ≤ 2 * (X * x + Y * y) ∧ 2 * (X * x + Y * y) ≤ x * x + y * y) ∧
      (-(u * u + v * v) ≤ 2 * (X * u + Y * v) ∧ 2 * (X * u + Y * v) ≤ u * u + v * v) ∧
      (-((x + sgn x y u v * u) * (x + sgn x y u v * u) + (y + sgn x y u v * v) * (y + sgn x y u v * v)) ≤ 2 * (X * (x + sgn x y u v * u) + Y * (y + sgn x y u v * v)) ∧
        2 * (X * (x + sgn x y u v * u) + Y * (y + sgn x y u v * v)) ≤ (x + sgn x y u v * u) * (x + sgn x y u v * u) + (y + sgn x y u v * v) * (y + sgn x y u v * v)) := Iff.rfl
  generalize x + sgn x y u v * u = w at *
  generalize y + sgn x y u v * v = z at *
  have neg : ∀ p q : Int, X * -p + Y * -q = -(X * p + Y * q) := fun p q => by grind
  have neq : ∀ p q : Int, -p * -p + -q * -q = p * p + q * q := fun p q => by grind
  obtain ⟨t1, t1'⟩ := F72_four (c := x) (d := y) hX hY (by omega) (by omega)
  obtain ⟨t2, t2'⟩ := F72_four (c := -x) (d := -y) hX hY (by omega) (by omega)
  obtain ⟨t3, t3'⟩ := F72_four (c := u) (d := v) hX hY (by omega) (by omega)
  obtain ⟨t4, t4'⟩ := F72_four (c := -u) (d := -v) hX hY (by omega) (by omega)
  obtain ⟨t5, t5'⟩ := F72_four (c := w) (d := z) hX hY (by omega) (by omega)
  obtain ⟨t6, t6'⟩ := F72_four (c := -w) (d := -z) hX hY (by omega) (by omega)
  rw [neg] at t2 t2' t4 t4' t6 t6'
  have no : ¬ near6 x y u v X Y → some false = some (decide (near6 x y u v X Y)) := fun h => by rw [decide_eq_false h]
  rw [t1, bs, F63_sq (by omega) (by omega), bs, t1']
  by_cases c1 : 2 * (X * x + Y * y) > x * x + y * y
  · rw [if_pos (decide_eq_true c1)]
    exact no fun h => by have := hw2.1 h; omega
  rw [if_neg (by simpa using c1)]
  rw [t2, bs, F63_sq (by omega) (by omega), bs, t2', neq]
  by_cases c2 : 2 * -(X * x + Y * y) > x * x + y * y
  · rw [if_pos (decide_eq_true c2)]
    exact no fun h => by have := hw2.1 h; omega
  rw [if_neg (by simpa using c2)]
  rw [t3, bs, F63_sq (by omega) (by omega), bs, t3']
  by_cases c3 : 2 * (X * u + Y * v) > u * u + v * v
  · rw [if_pos (decide_eq_true c3)]
    exact no fun h => by have := hw2.1 h; omega
  rw [if_neg (by simpa using c3)]
  rw [t4, bs, F63_sq (by omega) (by omega), bs, t4', neq]
  by_cases c4 : 2 * -(X * u + Y * v) > u * u + v * v
  · rw [if_pos (decide_eq_true c4)]
    exact no fun h => by have := hw2.1 h; omega
  rw [if_neg (by simpa using c4)]
  rw [t5, bs, F63_sq (by omega) (by omega), bs, t5']
  by_cases c5 : 2 * (X * w + Y * z) > w * w + z * z
  · rw [if_pos (decide_eq_true c5)]
    exact no fun h => by have := hw2.1 h; omega
  rw [if_neg (by simpa using c5)]
  rw [t6, bs, F63_sq (by omega) (by omega), bs, t6', neq]
  by_cases c6 : 2 * -(X * w + Y * z) > w * w + z * z
  · rw [if_pos (decide_eq_true c6)]
    exact no fun h => by have := hw2.1 h; omega
  rw [if_neg (by simpa using c6)]
  rw [decide_eq_true]
  exact hw2.2 ⟨⟨by omega, by omega⟩, ⟨by omega, by omega⟩, ⟨by omega, by omega⟩⟩
/-- Verify of what is within the bounds. -/
theorem F32_eq {a b c d e f i j k l p q : Int} (h : Kit4 a b c d) (be : -10000 ≤ e ∧ e ≤ 10000) (bf : -10000 ≤ f ∧ f ≤ 10000) (hp : inb 100000000 p q = true) (hi : inb 100000000 i j = true) (hl : inb 100000000 k l = true) :
    F32 a b c d i j k l e f p q = some (if (i * l - j * k = 1 ∨ i * l - j * k = -1) ∧ inb 2000 (i * a + j * c) (i * b + j * d) = true ∧ inb 2000 (k * a + l * c) (k * b + l * d) = true ∧ red (i * a + j * c) (i * b + j * d) (k * a + l * c) (k * b + l * d) then
      if near6 (i * a + j * c) (i * b + j * d) (k * a + l * c) (k * b + l * d) (e + p * a + q * c) (f + p * b + q * d) then 0 else 12 else 5) := by
  obtain ⟨r, hr, h52⟩ := F52_eq a b c d e f [(p, q), (i, j), (k, l)] (by simp)
  rw [kit_F20 h] at hr
  obtain rfl := Option.some.inj hr
  have hib : inb 10000 e f = true := decide_eq_true ⟨be, bf⟩
  have bp := inb_of hp
  have bi := inb_of hi
  have bl := inb_of hl
  unfold F32
  rw [h52]
  simp only [ne_eq, not_true_eq_false, if_false, hib, List.all_cons, List.all_nil, hp, hi, hl, Bool.and_self, if_true]
  rw [bs]
  simp only [bne_self_eq_false, Bool.false_eq_true, if_false]
  have m1 := mul_le (a := i) (b := l) (m := 100000000) (n := 100000000) bi.1 bl.2 (by omega) (by omega)
  have m2 := mul_le (a := j) (b := k) (m := 100000000) (n := 100000000) bi.2 bl.1 (by omega) (by omega)
  rw [F54_eq h bi.1 bi.2, bs, F54_eq h bl.1 bl.2, bs, w64_id (x := i * l) (by omega) (by omega), w64_id (x := j * k) (by omega) (by omega), w64_id (by omega) (by omega), F54_eq h bp.1 bp.2]
  have p1 := mul_le (a := p) (b := a) (m := 100000000) (n := 1000) bp.1 h.b0 (by omega) (by omega)
  have p2 := mul_le (a := p) (b := b) (m := 100000000) (n := 1000) bp.1 h.b1 (by omega) (by omega)
  have p3 := mul_le (a := q) (b := c) (m := 100000000) (n := 1000) bp.2 h.b2 (by omega) (by omega)
  have p4 := mul_le (a := q) (b := d) (m := 100000000) (n := 1000) bp.2 h.b3 (by omega) (by omega)
  simp only
  rw [F58_eq _ _ _ (by omega) (by omega), F58_eq _ _ _ (by omega) (by omega)]
  have q1 : e + (p * a + q * c) = e + p * a + q * c := by omega
  have q2 : f + (p * b + q * d) = f + p * b + q * d := by omega
  generalize i * a + j * c = x
  generalize i * b + j * d = y
  generalize k * a + l * c = u
  generalize k * b + l * d = v
  generalize i * l - j * k = D
  by_cases hc : (D = 1 ∨ D = -1) ∧ inb 2000 x y = true ∧ inb 2000 u v = true ∧ red x y u v
  · rw [if_pos hc]
    obtain ⟨hD, hA, hB, hR⟩ := hc
    have bA := inb_of hA
    have bB := inb_of hB
    rw [hA, hB, F50_eq bA.1 bA.2 bB.1 bB.2]
    have h53 : F53 e f 1 (p * a + q * c) (p * b + q * d) = some (e + p * a + q * c, f + p * b + q * d) := by rw [F53_one (by omega) (by omega) (by omega) (by omega), q1, q2]
    have h67 := F67_eq (g0 := i) (g1 := j) (g2 := k) (g3 := l) bA.1 bA.2 bB.1 bB.2 (X := e + p * a + q * c) (Y := f + p * b + q * d) (by omega) (by omega)
    by_cases hn : near6 x y u v (e + p * a + q * c) (f + p * b + q * d)
    · rcases hD with hD | hD <;> subst hD <;> simp [hR, h53, h67, hn]
    · rcases hD with hD | hD <;> subst hD <;> simp [hR, h53, h67, hn]
  · rw [if_neg hc]
    by_cases hA : inb 2000 x y = true
    · by_cases hB : inb 2000 u v = true
      · have bA := inb_of hA
        have bB := inb_of hB
        rw [hA, hB, F50_eq bA.1 bA.2 bB.1 bB.2]
        by_cases hR : red x y u v
        · have hD : ¬ (D = 1 ∨ D = -1) := fun h => hc ⟨h, hA, hB, hR⟩
          have d1 : (D != 1) = true := by simp; omega
          have d2 : (D != -1) = true := by simp; omega
          simp [d1, d2]
        · by_cases d1 : D = 1 <;> by_cases d2 : D = -1 <;> simp [d1, d2, hR]
      · have hB' : inb 2000 u v = false := by simpa using hB
        rw [hB', hA]
        by_cases d1 : D = 1 <;> by_cases d2 : D = -1 <;> simp [d1, d2]
    · have hA' : inb 2000 x y = false := by simpa using hA
      rw [hA']
      by_cases d1 : D = 1 <;> by_cases d2 : D = -1 <;> simp [d1, d2]
theorem mx_abs (x : Int) : mx x (0 - x) = (x.natAbs : Int) := by
  unfold mx
  split <;> omega
theorem F43_eq (a b : Int) : F43 a b = some (a, b) := rfl
theorem F41_eq {a b c d : Int} (ha : -40000 ≤ a ∧ a ≤ 40000) (hb : -40000 ≤ b ∧ b ≤ 40000) (hc : -40000 ≤ c ∧ c ≤ 40000) (hd : -40000 ≤ d ∧ d ≤ 40000) : F41 a b c d = some (a * c + b * d) := by
  have h1 := mul_le (m := 40000) (n := 40000) ha hc (by omega) (by omega)
  have h2 := mul_le (m := 40000) (n := 40000) hb hd (by omega) (by omega)
  unfold F41
  rw [w64_id (x := a * c) (by omega) (by omega), w64_id (x := b * d) (by omega) (by omega), w64_id (by omega) (by omega)]
theorem F45_eq {a b c d : Int} (ha : -40000 ≤ a ∧ a ≤ 40000) (hb : -40000 ≤ b ∧ b ≤ 40000) (hc : -40000 ≤ c ∧ c ≤ 40000) (hd : -40000 ≤ d ∧ d ≤ 40000) : F45 a b c d = some ((a * d - b * c).natAbs : Int) := by
  have h1 := mul_le (m := 40000) (n := 40000) ha hd (by omega) (by omega)
  have h2 := mul_le (m := 40000) (n := 40000) hb hc (by omega) (by omega)
  unfold F45
  rw [w64_id (x := a * d) (by omega) (by omega), w64_id (x := b * c) (by omega) (by omega), w64_id (x := a * d - b * c) (by omega) (by omega), w64_id (by omega) (by omega), mx_abs]
  rfl
theorem tmod_lt (x : Int) {m : Int} (hm : 0 < m) : -m < Int.tmod x m ∧ Int.tmod x m < m := ⟨Int.lt_tmod_of_pos x hm, Int.tmod_lt_of_pos x hm⟩
/-- The kit of a ship by numbers: small, and not flat. -/
structure Kit12 (a b c d : Int) : Prop where
  b0 : -12 ≤ a ∧ a ≤ 12
  b1 : -12 ≤ b ∧ b ≤ 12
  b2 : -12 ≤ c ∧ c ≤ 12
  b3 : -12 ≤ d ∧ d ≤ 12
  nf : a * d - b * c ≠ 0
theorem Kit12.kit {a b c d : Int} (h : Kit12 a b c d) : Kit4 a b c d :=
  ⟨by have := h.b0; omega, by have := h.b1; omega, by have := h.b2; omega, by have := h.b3; omega, h.nf⟩
theorem F36_eq (p0 p1 p2 p3 p4 p5 : Int) : ∃ a b c d x y, F36 p0 p1 p2 p3 p4 p5 = some (((a, b), (c, d)), (x, y)) ∧ Kit12 a b c d ∧ (-199 ≤ x ∧ x ≤ 199) ∧ (-199 ≤ y ∧ y ≤ 199) := by
  have h0 := tmod_lt (w64 p0) (m := 13) (by omega)
  have h1 := tmod_lt (w64 p1) (m := 13) (by omega)
  have h2 := tmod_lt (w64 p2) (m := 13) (by omega)
  have h3 := tmod_lt (w64 p3) (m := 13) (by omega)
  have h4 := tmod_lt (w64 p4) (m := 200) (by omega)
  have h5 := tmod_lt (w64 p5) (m := 200) (by omega)
  unfold F36 F49
  simp only [F43_eq, Option.bind_eq_bind, Option.bind_some]
  generalize Int.tmod (w64 p0) 13 = a at *
  generalize Int.tmod (w64 p1) 13 = b at *
  generalize Int.tmod (w64 p2) 13 = c at *
  generalize Int.tmod (w64 p3) 13 = d at *
  generalize Int.tmod (w64 p4) 200 = x at *
  generalize Int.tmod (w64 p5) 200 = y at *
  rw [F45_eq (by omega) (by omega) (by omega) (by omega)]
  simp only [Option.bind_some]
  by_cases hz : a * d - b * c = 0
  · simp only [hz, Int.natAbs_zero, Int.ofNat_zero, beq_self_eq_true, if_true, Option.bind_some]
    exact ⟨3, 1, 1, 4, x, y, rfl, ⟨by omega, by omega, by omega, by omega, by omega⟩, by omega, by omega⟩
  · have : (((a * d - b * c).natAbs : Int) == 0) = false := by
      rw [beq_eq_false_iff_ne]
      omega
    simp only [this, Bool.false_eq_true, if_false, Option.bind_some]
    exact ⟨a, b, c, d, x, y, rfl, ⟨by omega, by omega, by omega, by omega, hz⟩, by omega, by omega⟩
/-- What is known of reduced bundles of a small kit. -/
structure Red12 (a b c d i j k l : Int) : Prop where
  bx : -333 ≤ i * a + j * c ∧ i * a + j * c ≤ 333
  by' : -333 ≤ i * b + j * d ∧ i * b + j * d ≤ 333
  bu : -333 ≤ k * a + l * c ∧ k * a + l * c ≤ 333
  bv : -333 ≤ k * b + l * d ∧ k * b + l * d ≤ 333
  bi : -8000 ≤ i ∧ i ≤ 8000
  bj : -8000 ≤ j ∧ j ≤ 8000
  bk : -8000 ≤ k ∧ k ≤ 8000
  bl : -8000 ≤ l ∧ l ≤ 8000
  area : 3 * ((i * a + j * c) * (i * a + j * c) + (i * b + j * d) * (i * b + j * d)) * ((k * a + l * c) * (k * a + l * c) + (k * b + l * d) * (k * b + l * d)) ≤ 4 * ((a * d - b * c) * (a * d - b * c))
theorem det_of {a b c d i j k l : Int} : (i * a + j * c) * (k * b + l * d) - (i * b + j * d) * (k * a + l * c) = (i * l - j * k) * (a * d - b * c) := by grind
theorem sq_of_det {D e : Int} (hd : e = 1 ∨ e = -1) : e * D * (e * D) = D * D := by
  rcases hd with h | h <;> subst h <;> grind
theorem coef {D x y p q i : Int} (hD : D ≠ 0) (hx : -333 ≤ x ∧ x ≤ 333) (hy : -333 ≤ y ∧ y ≤ 333) (hp : -12 ≤ p ∧ p ≤ 12) (hq : -12 ≤ q ∧ q ≤ 12) (h : i * D = x * p - y * q) : -8000 ≤ i ∧ i ≤ 8000 := by
  have a1 := mul_le (m := 333) (n := 12) hx hp (by omega) (by omega)
  have a2 := mul_le (m := 333) (n := 12) hy hq (by omega) (by omega)
  have h1 : i.natAbs * D.natAbs ≤ 8000 := by rw [← Int.natAbs_mul]; omega
  have h2 : i.natAbs * 1 ≤ i.natAbs * D.natAbs := Nat.mul_le_mul_left _ (by omega)
  omega
theorem red12_of {a b c d i j k l : Int} (h : Kit12 a b c d) (hB : Bun a b c d i j k l) (hr : red (i * a + j * c) (i * b + j * d) (k * a + l * c) (k * b + l * d)) : Red12 a b c d i j k l := by
  have ha := area_of hr
  have hp := pos_of h.kit hB.det
  rw [det_of, sq_of_det hB.det] at ha
  have m1 := mul_le (m := 12) (n := 12) h.b0 h.b3 (by omega) (by omega)
  have m2 := mul_le (m := 12) (n := 12) h.b1 h.b2 (by omega) (by omega)
  have hD2 : (a * d - b * c) * (a * d - b * c) ≤ 82944 := by
    have := mul_le (a := a * d - b * c) (b := a * d - b * c) (m := 288) (n := 288) (by omega) (by omega) (by omega) (by omega)
    omega
  have hle := hr.1
  have hnn : 0 ≤ (k * a + l * c) * (k * a + l * c) + (k * b + l * d) * (k * b + l * d) := by have := sq_nn (k * a + l * c); have := sq_nn (k * b + l * d); omega
  have hr1 : (k * a + l * c) * (k * a + l * c) + (k * b + l * d) * (k * b + l * d) ≤ 110592 := by
    have e : 3 * ((i * a + j * c) * (i * a + j * c) + (i * b + j * d) * (i * b + j * d)) * ((k * a + l * c) * (k * a + l * c) + (k * b + l * d) * (k * b + l * d)) = 3 * (((i * a + j * c) * (i * a + j * c) + (i * b + j * d) * (i * b + j * d)) * ((k * a + l * c) * (k * a + l * c) + (k * b + l * d) * (k * b + l * d))) := by grind
    have q := Int.mul_le_mul_of_nonneg_right (show (1 : Int) ≤ (i * a + j * c) * (i * a + j * c) + (i * b + j * d) * (i * b + j * d) by omega) hnn
    omega
  have n1 := sq_nn (i * a + j * c)
  have n2 := sq_nn (i * b + j * d)
  have n3 := sq_nn (k * a + l * c)
  have n4 := sq_nn (k * b + l * d)
  have bx := sq_bd (a := i * a + j * c) (m := 333) (by omega) (by omega)
  have by' := sq_bd (a := i * b + j * d) (m := 333) (by omega) (by omega)
  have bu := sq_bd (a := k * a + l * c) (m := 333) (by omega) (by omega)
  have bv := sq_bd (a := k * b + l * d) (m := 333) (by omega) (by omega)
  have e1 : i * (a * d - b * c) = (i * a + j * c) * d - (i * b + j * d) * c := by grind
  have e2 : j * (a * d - b * c) = (i * b + j * d) * a - (i * a + j * c) * b := by grind
  have e3 : k * (a * d - b * c) = (k * a + l * c) * d - (k * b + l * d) * c := by grind
  have e4 : l * (a * d - b * c) = (k * b + l * d) * a - (k * a + l * c) * b := by grind
  exact ⟨bx, by', bu, bv, coef h.nf bx by' h.b3 h.b2 e1, coef h.nf by' bx h.b0 h.b1 e2, coef h.nf bu bv h.b3 h.b2 e3, coef h.nf bv bu h.b0 h.b1 e4, ha⟩
theorem F38_eq {i j : Int} (hi : -8000 ≤ i ∧ i ≤ 8000) (hj : -8000 ≤ j ∧ j ≤ 8000) : F38 i j = some true := by
  unfold F38
  have h1 : i ≥ -1000000 := by omega
  have h2 : i ≤ 1000000 := by omega
  have h3 : j ≥ -1000000 := by omega
  have h4 : j ≤ 1000000 := by omega
  simp [h1, h2, h3, h4]
theorem F40_eq {a b c d i j : Int} (h : Kit12 a b c d) (hi : -8000 ≤ i ∧ i ≤ 8000) (hj : -8000 ≤ j ∧ j ≤ 8000) : F40 a b c d i j = some (i * a + j * c, i * b + j * d) := by
  have h0 := mul_le (m := 8000) (n := 12) hi h.b0 (by omega) (by omega)
  have h1 := mul_le (m := 8000) (n := 12) hi h.b1 (by omega) (by omega)
  have h2 := mul_le (m := 8000) (n := 12) hj h.b2 (by omega) (by omega)
  have h3 := mul_le (m := 8000) (n := 12) hj h.b3 (by omega) (by omega)
  unfold F40
  rw [w64_id (x := i * a) (by omega) (by omega), w64_id (x := i * b) (by omega) (by omega), w64_id (x := j * c) (by omega) (by omega), w64_id (x := j * d) (by omega) (by omega),
    w64_id (by omega) (by omega), w64_id (by omega) (by omega)]
  rfl
theorem F20_good {a b c d : Int} (h : Kit4 a b c d) : F20 a b c d = some 0 := by
  rw [F20_eq]
  have h1 : inb 1000 a b = true := decide_eq_true ⟨h.b0, h.b1⟩
  have h2 : inb 1000 c d = true := decide_eq_true ⟨h.b2, h.b3⟩
  have h3 := h.nf
  simp [h1, h2, h3]
theorem F37_eq {a b c d i j k l : Int} (h : Kit12 a b c d) (hB : Bun a b c d i j k l) (hr : red (i * a + j * c) (i * b + j * d) (k * a + l * c) (k * b + l * d)) (h23 : F23 a b c d = some ((i, j), (k, l), 0)) :
    F37 a b c d = some (((i * a + j * c, i * b + j * d), (k * a + l * c, k * b + l * d)), true) := by
  have R := red12_of h hB hr
  have b1 := mul_le (m := 8000) (n := 8000) R.bi R.bl (by omega) (by omega)
  have b2 := mul_le (m := 8000) (n := 8000) R.bj R.bk (by omega) (by omega)
  have bx := R.bx
  have by' := R.by'
  have bu := R.bu
  have bv := R.bv
  unfold F37
  simp only [h23, Option.bind_eq_bind, Option.bind_some, bne_self_eq_false, Bool.false_eq_true, if_false, F38_eq R.bi R.bj, F38_eq R.bk R.bl, if_true, F40_eq h R.bi R.bj, F40_eq h R.bk R.bl]
  rw [F41_eq (by omega) (by omega) (by omega) (by omega), Option.bind_some]
  rw [w64_id (x := i * l) (by omega) (by omega), w64_id (x := j * k) (by omega) (by omega), w64_id (x := i * l - j * k) (by omega) (by omega)]
  rw [F41_eq (by omega) (by omega) (by omega) (by omega), F41_eq (by omega) (by omega) (by omega) (by omega)]
  simp only [Option.bind_some]
  obtain ⟨r1, r2, r3⟩ := hr
  have t1 := mul_le (m := 333) (n := 333) bx bu (by omega) (by omega)
  have t2 := mul_le (m := 333) (n := 333) by' bv (by omega) (by omega)
  have hm : w64 (2 * mx ((i * a + j * c) * (k * a + l * c) + (i * b + j * d) * (k * b + l * d)) (w64 (0 - ((i * a + j * c) * (k * a + l * c) + (i * b + j * d) * (k * b + l * d))))) ≤ (i * a + j * c) * (i * a + j * c) + (i * b + j * d) * (i * b + j * d) := by
    generalize (i * a + j * c) * (k * a + l * c) = t1' at *
    generalize (i * b + j * d) * (k * b + l * d) = t2' at *
    generalize (i * a + j * c) * (i * a + j * c) + (i * b + j * d) * (i * b + j * d) = s at *
    rw [w64_id (x := 0 - (t1' + t2')) (by omega) (by omega), mx_abs, w64_id (by omega) (by omega)]
    omega
  rw [Int.zero_sub] at hm
  rcases hB.det with hd | hd <;> simp [hd, r1, hm]
/-- The least rest against a fundamental cell. -/
theorem cell_pos {x y u v e f S : Int} (hD : 0 < x * v - y * u) (h : ∀ m n : Int, S ≤ (e + m * x + n * u) * (e + m * x + n * u) + (f + m * y + n * v) * (f + m * y + n * v)) : 4 * S ≤ x * x + y * y + (u * u + v * v) := by
  generalize hDD : x * v - y * u = D at hD
  obtain ⟨m, hm1, hm2⟩ : ∃ m : Int, -D < (e * v - f * u) + m * D ∧ (e * v - f * u) + m * D ≤ 0 := by
    refine ⟨(-(e * v - f * u)) / D, ?_⟩
    obtain ⟨s1, s2⟩ := div_spec (n := -(e * v - f * u)) hD
    have e1 : ((-(e * v - f * u)) / D + 1) * D = (-(e * v - f * u)) / D * D + D := by grind
    omega
  obtain ⟨n, hn1, hn2⟩ : ∃ n : Int, -D < (x * f - y * e) + n * D ∧ (x * f - y * e) + n * D ≤ 0 := by
    refine ⟨(-(x * f - y * e)) / D, ?_⟩
    obtain ⟨s1, s2⟩ := div_spec (n := -(x * f - y * e)) hD
    have e1 : ((-(x * f - y * e)) / D + 1) * D = (-(x * f - y * e)) / D * D + D := by grind
    omega
  have h00 := h m n
  have h10 := h (m + 1) n
  have h01 := h m (n + 1)
  have h11 := h (m + 1) (n + 1)
  have e10 : e + (m + 1) * x + n * u = (e + m * x + n * u) + x := by grind
  have e10' : f + (m + 1) * y + n * v = (f + m * y + n * v) + y := by grind
  have e01 : e + m * x + (n + 1) * u = (e + m * x + n * u) + u := by grind
  have e01' : f + m * y + (n + 1) * v = (f + m * y + n * v) + v := by grind
  have e11 : e + (m + 1) * x + (n + 1) * u = (e + m * x + n * u) + x + u := by grind
  have e11' : f + (m + 1) * y + (n + 1) * v = (f + m * y + n * v) + y + v := by grind
  rw [e10, e10'] at h10
  rw [e01, e01'] at h01
  rw [e11, e11'] at h11
  generalize hX : e + m * x + n * u = X at *
  generalize hY : f + m * y + n * v = Y at *
  have hp : X * v - Y * u = (e * v - f * u) + m * D := by rw [← hX, ← hY, ← hDD]; grind
  have hq : x * Y - y * X = (x * f - y * e) + n * D := by rw [← hX, ← hY, ← hDD]; grind
  rw [← hp] at hm1 hm2
  rw [← hq] at hn1 hn2
  generalize hP : X * v - Y * u = p at *
  generalize hQ : x * Y - y * X = q at *
  have w0 : 0 ≤ D + p := by omega
  have w1 : 0 ≤ -p := by omega
  have z0 : 0 ≤ D + q := by omega
  have z1 : 0 ≤ -q := by omega
  have k00 := Int.mul_le_mul_of_nonneg_left h00 (Int.mul_nonneg w0 z0)
  have k10 := Int.mul_le_mul_of_nonneg_left h10 (Int.mul_nonneg w1 z0)
  have k01 := Int.mul_le_mul_of_nonneg_left h01 (Int.mul_nonneg w0 z1)
  have k11 := Int.mul_le_mul_of_nonneg_left h11 (Int.mul_nonneg w1 z1)
  have xD : X * D = p * x + q * u := by rw [← hP, ← hQ, ← hDD]; grind
  have yD : Y * D = p * y + q * v := by rw [← hP, ← hQ, ← hDD]; grind
  have sumS : (D + p) * (D + q) * S + -p * (D + q) * S + (D + p) * -q * S + -p * -q * S = D * D * S := by grind
  have sumR : (D + p) * (D + q) * (X * X + Y * Y) + -p * (D + q) * ((X + x) * (X + x) + (Y + y) * (Y + y)) + (D + p) * -q * ((X + u) * (X + u) + (Y + v) * (Y + v)) + -p * -q * ((X + x + u) * (X + x + u) + (Y + y + v) * (Y + y + v))
      = (X * D) * (X * D) + (Y * D) * (Y * D) - 2 * (X * D) * (p * x + q * u) - 2 * (Y * D) * (p * y + q * v) - p * D * (x * x + y * y) - q * D * (u * u + v * v) + 2 * (p * q) * (x * u + y * v) := by grind
  rw [xD, yD] at sumR
  have sumT : (p * x + q * u) * (p * x + q * u) + (p * y + q * v) * (p * y + q * v) - 2 * (p * x + q * u) * (p * x + q * u) - 2 * (p * y + q * v) * (p * y + q * v) - p * D * (x * x + y * y) - q * D * (u * u + v * v) + 2 * (p * q) * (x * u + y * v)
      = -(p * p + p * D) * (x * x + y * y) - (q * q + q * D) * (u * u + v * v) := by grind
  rw [sumT] at sumR
  have a1 : 0 ≤ x * x + y * y := by have := sq_nn x; have := sq_nn y; omega
  have a2 : 0 ≤ u * u + v * v := by have := sq_nn u; have := sq_nn v; omega
  have qd : ∀ t : Int, 0 ≤ D * D + 4 * (t * t + t * D) := fun t => by
    have : D * D + 4 * (t * t + t * D) = (D + 2 * t) * (D + 2 * t) := by grind
    rw [this]; exact sq_nn _
  have b1 := Int.mul_nonneg (qd p) a1
  have b2 := Int.mul_nonneg (qd q) a2
  have c1 : (D * D + 4 * (p * p + p * D)) * (x * x + y * y) = D * D * (x * x + y * y) + 4 * ((p * p + p * D) * (x * x + y * y)) := by grind
  have c2 : (D * D + 4 * (q * q + q * D)) * (u * u + v * v) = D * D * (u * u + v * v) + 4 * ((q * q + q * D) * (u * u + v * v)) := by grind
  have c3 : -(p * p + p * D) * (x * x + y * y) = -((p * p + p * D) * (x * x + y * y)) := by grind
  have fin : D * D * (4 * S) ≤ D * D * (x * x + y * y + (u * u + v * v)) := by
    have d1 : D * D * (4 * S) = 4 * (D * D * S) := by grind
    have d2 : D * D * (x * x + y * y + (u * u + v * v)) = D * D * (x * x + y * y) + D * D * (u * u + v * v) := by grind
    omega
  exact Int.le_of_mul_le_mul_left fin (Int.mul_pos hD hD)
theorem cell {x y u v e f S : Int} (hD : x * v - y * u ≠ 0) (h : ∀ m n : Int, S ≤ (e + m * x + n * u) * (e + m * x + n * u) + (f + m * y + n * v) * (f + m * y + n * v)) : 4 * S ≤ x * x + y * y + (u * u + v * v) := by
  by_cases hp : 0 < x * v - y * u
  · exact cell_pos hp h
  · have := cell_pos (x := x) (y := y) (u := -u) (v := -v) (e := e) (f := f) (S := S) (by
      have : x * -v - y * -u = -(x * v - y * u) := by grind
      omega) fun m n => by
        have := h m (-n)
        have e1 : n * -u = -n * u := by grind
        have e2 : n * -v = -n * v := by grind
        rw [e1, e2]; exact this
    have e1 : -u * -u + -v * -v = u * u + v * v := by grind
    omega
/-- A vector that the kit pulls. -/
def Lat2 (a b c d : Int) (v : Int × Int) : Prop := ∃ m n : Int, v.1 = m * a + n * c ∧ v.2 = m * b + n * d
theorem lat_of {a b c d x y : Int} (hD : a * d - b * c ≠ 0) : (Int.tmod ((x * d - y * c).natAbs : Int) ((a * d - b * c).natAbs : Int) = 0 ∧ Int.tmod ((a * y - b * x).natAbs : Int) ((a * d - b * c).natAbs : Int) = 0) ↔ Lat2 a b c d (x, y) := by
  constructor
  · rintro ⟨h1, h2⟩
    have d1 := Int.natAbs_dvd_natAbs.1 (Int.ofNat_dvd.1 (Int.dvd_of_tmod_eq_zero h1))
    have d2 := Int.natAbs_dvd_natAbs.1 (Int.ofNat_dvd.1 (Int.dvd_of_tmod_eq_zero h2))
    obtain ⟨m, hm⟩ := d1
    obtain ⟨n, hn⟩ := d2
    refine ⟨m, n, ?_, ?_⟩
    · refine Int.eq_of_mul_eq_mul_left hD ?_
      have : (a * d - b * c) * (m * a + n * c) = ((a * d - b * c) * m) * a + ((a * d - b * c) * n) * c := by grind
      rw [this, ← hm, ← hn]
      grind
    · refine Int.eq_of_mul_eq_mul_left hD ?_
      have : (a * d - b * c) * (m * b + n * d) = ((a * d - b * c) * m) * b + ((a * d - b * c) * n) * d := by grind
      rw [this, ← hm, ← hn]
      grind
  · rintro ⟨m, n, h1, h2⟩
    simp only at h1 h2
    have e1 : x * d - y * c = m * (a * d - b * c) := by rw [h1, h2]; grind
    have e2 : a * y - b * x = n * (a * d - b * c) := by rw [h1, h2]; grind
    rw [e1, e2, Int.natAbs_mul, Int.natAbs_mul, Int.natCast_mul, Int.natCast_mul]
    exact ⟨Int.mul_tmod_left _ _, Int.mul_tmod_left _ _⟩
/-- What pulls has listed so far. -/
structure Listed (a b c d : Int) (T : Int → Int → Prop) (n : Nat) (l : List (Int × Int)) : Prop where
  nd : l.Nodup
  len : l.length ≤ n
  mem : ∀ v, v ∈ l ↔ Lat2 a b c d v ∧ T v.1 v.2
theorem best12 {a b c d e f : Int} (h : Kit12 a b c d) (be : -199 ≤ e ∧ e ≤ 199) (bf : -199 ≤ f ∧ f ≤ 199) {p : Int × Int} (hp : Best a b c d e f p) :
    4 * lft a b c d e f p ≤ 576 ∧ ((-12 ≤ e + p.1 * a + p.2 * c ∧ e + p.1 * a + p.2 * c ≤ 12) ∧ (-12 ≤ f + p.1 * b + p.2 * d ∧ f + p.1 * b + p.2 * d ≤ 12)) ∧ (-8000 ≤ p.1 ∧ p.1 ≤ 8000) ∧ (-8000 ≤ p.2 ∧ p.2 ≤ 8000) := by
  have h1 := cell (x := a) (y := b) (u := c) (v := d) (e := e) (f := f) (S := lft a b c d e f p) h.nf fun m n => hp (m, n)
  have m0 := mul_le (m := 12) (n := 12) h.b0 h.b0 (by omega) (by omega)
  have m1 := mul_le (m := 12) (n := 12) h.b1 h.b1 (by omega) (by omega)
  have m2 := mul_le (m := 12) (n := 12) h.b2 h.b2 (by omega) (by omega)
  have m3 := mul_le (m := 12) (n := 12) h.b3 h.b3 (by omega) (by omega)
  have h2 : 4 * lft a b c d e f p ≤ 576 := by omega
  have h3 : lft a b c d e f p = (e + p.1 * a + p.2 * c) * (e + p.1 * a + p.2 * c) + (f + p.1 * b + p.2 * d) * (f + p.1 * b + p.2 * d) := rfl
  have n1 := sq_nn (e + p.1 * a + p.2 * c)
  have n2 := sq_nn (f + p.1 * b + p.2 * d)
  have b1 := sq_bd (a := e + p.1 * a + p.2 * c) (m := 12) (by omega) (by omega)
  have b2 := sq_bd (a := f + p.1 * b + p.2 * d) (m := 12) (by omega) (by omega)
  have b3 := best_small (A := 12) (E := 211) (by omega) (by omega) h.nf h.b0 h.b1 h.b2 h.b3 (p := p) (by omega) (by omega)
  exact ⟨h2, ⟨b1, b2⟩, by omega, by omega⟩
theorem best12s {a b c d e f : Int} (h : Kit12 a b c d) (be : -199 ≤ e ∧ e ≤ 199) (bf : -199 ≤ f ∧ f ≤ 199) {p : Int × Int} (hp : Best a b c d e f p) : (-6000 ≤ p.1 ∧ p.1 ≤ 6000) ∧ (-6000 ≤ p.2 ∧ p.2 ≤ 6000) := by
  obtain ⟨_, ⟨b1, b2⟩, _, _⟩ := best12 h be bf hp
  have b3 := best_small (A := 12) (E := 211) (by omega) (by omega) h.nf h.b0 h.b1 h.b2 h.b3 (p := p) (by omega) (by omega)
  exact ⟨by omega, by omega⟩
theorem F39_eq {a b c d : Int} (ha : -1000000 ≤ a ∧ a ≤ 1000000) (hb : -1000000 ≤ b ∧ b ≤ 1000000) (hc : -1000000 ≤ c ∧ c ≤ 1000000) (hd : -1000000 ≤ d ∧ d ≤ 1000000) : F39 a b c d = some (a + c, b + d) := by
  unfold F39
  rw [w64_id (by omega) (by omega), w64_id (by omega) (by omega), F43_eq]
  rfl
/-- A ship's bundles. -/
theorem bundled12 {a b c d : Int} (h : Kit12 a b c d) : ∃ i j k l, F23 a b c d = some ((i, j), (k, l), 0) ∧ RB a b c d i j k l ∧ Red12 a b c d i j k l ∧ F37 a b c d = some (((i * a + j * c, i * b + j * d), (k * a + l * c, k * b + l * d)), true) := by
  obtain ⟨i, j, k, l, h1, hB⟩ := F23_eq h.kit
  exact ⟨i, j, k, l, h1, hB, red12_of h hB.bun hB.red, F37_eq h hB.bun hB.red h1⟩

end Go.Proofs.Ytenjelagfbceeaa
