/- The plain law of ChartSides: what the functions compute, in plain Lean. -/
import Derived.Test.YtnhcgbcmnhdocaaG3
set_option linter.unusedVariables false
set_option linter.unusedSimpArgs false
set_option maxHeartbeats 4000000
namespace Go.Proofs.Ytnhcgbcmnhdocaa
open Go Go.Cl
theorem w64_id {x : Int} (h1 : -9223372036854775808 ≤ x) (h2 : x ≤ 9223372036854775807) : w64 x = x := by
  simp [w64, IntKind.wrap, IntKind.signed, IntKind.bits]
  omega
theorem mul_le {a b m n : Int} (ha : -m ≤ a ∧ a ≤ m) (hb : -n ≤ b ∧ b ≤ n) (hm : 0 ≤ m) (hn : 0 ≤ n) : -(m * n) ≤ a * b ∧ a * b ≤ m * n := by
  have h1 : a.natAbs ≤ m.natAbs := by omega
  have h2 : b.natAbs ≤ n.natAbs := by omega
  have h3 := Nat.mul_le_mul h1 h2
  rw [← Int.natAbs_mul, ← Int.natAbs_mul] at h3
  have h4 : 0 ≤ m * n := Int.mul_nonneg hm hn
  omega
theorem F12l0_fix (p0 : (List (Int × Int × (Int × Int)))) (v6 : (List (Int × Int × (Int × Int)))) (v5 : Int) : F12l0 p0 v6 v5 = (
    if decide (v5 < (List.length p0 : Int)) then
      if (0 : Int) ≤ v5 ∧ v5 < (List.length p0 : Int) then
        some (List.getD p0 (Int.toNat v5) (0, 0, (0, 0))) >>= fun o15 =>
        if List.length v6 ≤ 1000000000 then
          F12l0 p0 (v6 ++ [(o15.1, o15.2.1, (o15.2.2.1, o15.2.2.2))]) (w64 (v5 + 1))
        else none
      else none
    else
      some v6
    : Option (List (Int × Int × (Int × Int)))) := by
  delta F12l0
  conv => lhs; rw [Lean.Order.fix_eq]
theorem F49l0_fix (p0 : Int) (p1 : Int) (p2 : Int) (p3 : Int) (p4 : Int) (p5 : Int) (p6 : Int) (p7 : Int) (p8 : Int) (p9 : Int) (p10 : Int) (p11 : Int) (p12 : Int) (p13 : Int) (p14 : Int) (p15 : Int) (v5 : (List Int)) (v6 : (List Int)) (v7 : (List Int)) (v4 : Int) : F49l0 p0 p1 p2 p3 p4 p5 p6 p7 p8 p9 p10 p11 p12 p13 p14 p15 v5 v6 v7 v4 = (
    if decide (v4 < 3) then
      if (0 : Int) ≤ v4 ∧ v4 < (3 : Int) then
        some (List.getD ([(p0, p1, (p2, p3)), (p4, p5, (p6, p7)), (p8, p9, (p10, p11))]) (Int.toNat v4) (0, 0, (0, 0))) >>= fun o22 =>
        if List.length v5 ≤ 1000000000 then
          if List.length v6 ≤ 1000000000 then
            some (w64 ((w64 ((w64 (o22.1 - p12)) * (w64 (o22.1 - p12)))) + (w64 ((w64 (o22.2.1 - p13)) * (w64 (o22.2.1 - p13)))))) >>= fun o26 =>
            if List.length v7 ≤ 1000000000 then
              F49l0 p0 p1 p2 p3 p4 p5 p6 p7 p8 p9 p10 p11 p12 p13 p14 p15 (v5 ++ [w64 (o22.1 - p12)]) (v6 ++ [w64 (o22.2.1 - p13)]) (v7 ++ [o26]) (w64 (v4 + 1))
            else none
          else none
        else none
      else none
    else
      some (v5, v6, v7)
    : Option ((List Int) × (List Int) × (List Int))) := by
  delta F49l0
  conv => lhs; rw [Lean.Order.fix_eq]
theorem F59_eq (a b c : Int) : F59 a b c = some (decide (a ≤ b ∧ b ≤ c)) := by
  unfold F59
  by_cases h : a ≤ b <;> simp [h]
theorem F85_eq (a b c : Int) : F85 a b c = some (decide (b ≤ a ∧ a ≤ c)) := by
  unfold F85
  by_cases h : b ≤ a <;> simp [h]
/-- Both lie within 100. -/
def inb (a b : Int) : Bool := decide ((-100 ≤ a ∧ a ≤ 100) ∧ (-100 ≤ b ∧ b ≤ 100))
theorem inb_of {a b : Int} (h : inb a b = true) : (-100 ≤ a ∧ a ≤ 100) ∧ (-100 ≤ b ∧ b ≤ 100) := of_decide_eq_true h
theorem F42_eq (a b : Int) : F42 a b = some (inb a b) := by
  unfold inb F42
  rw [F59_eq, F59_eq]
  by_cases h1 : (-100 ≤ a ∧ a ≤ 100) <;> simp [h1]
theorem F45_eq (a b : Int) : F45 a b = some (inb a b) := by
  unfold inb F45 F67
  rw [F85_eq, F85_eq]
  by_cases h1 : (-100 ≤ a ∧ a ≤ 100) <;> simp [h1]
theorem F43_eq (a : Int) : F43 a = F46 a := by
  unfold F43 F46 mn mx
  by_cases h1 : a > 0
  · have h2 : a > -1 := by omega
    have h3 : (a < 1) = False := by simp; omega
    simp [h1, h2, h3]
  · by_cases h2 : a < 0
    · by_cases h3 : a > -1
      · omega
      · simp [h1, h2, h3]
    · have h3 : a = 0 := by omega
      subst h3
      simp
/-- On which side. -/
theorem F13_eq (a b c d e f g h i j k l : Int) : F13 a b c d e f g h i j k l = F14 a b c d e f g h i j k l := by
  unfold F13 F14 F44 F47 F65 F66 F41
  simp only [F42_eq, F45_eq, F43_eq, Option.bind_eq_bind, Option.bind_some]
theorem F14_err (a b c d e f g h i j k l : Int) : (∃ s, F14 a b c d e f g h i j k l = some (s, 0) ∧ inb a b = true ∧ inb e f = true ∧ inb i j = true) ∨ F14 a b c d e f g h i j k l = some (0, 1) := by
  unfold F14 F47 F46
  simp only [F45_eq, Option.bind_eq_bind, Option.bind_some]
  cases h1 : inb a b
  · simp
  · cases h2 : inb e f
    · simp
    · cases h3 : inb i j
      · simp
      · left
        simp only [if_true, Bool.false_eq_true, if_false, Option.bind_some, and_true]
        split
        · exact ⟨1, rfl⟩
        · split
          · exact ⟨-1, rfl⟩
          · exact ⟨0, rfl⟩
theorem F48_eq {a b c d e f g h : Int} (h1 : inb a b = true) (h2 : inb c d = true) (h3 : inb e f = true) (h4 : inb g h = true) :
    F48 a b c d e f g h = some (((a - g) * (a - g) + (b - h) * (b - h)) * ((c - g) * (f - h) - (d - h) * (e - g)) - ((c - g) * (c - g) + (d - h) * (d - h)) * ((a - g) * (f - h) - (b - h) * (e - g)) + ((e - g) * (e - g) + (f - h) * (f - h)) * ((a - g) * (d - h) - (b - h) * (c - g))) := by
  have h1 := inb_of h1
  have h2 := inb_of h2
  have h3 := inb_of h3
  have h4 := inb_of h4
  have sub : ∀ {p q : Int}, (-100 ≤ p ∧ p ≤ 100) → (-100 ≤ q ∧ q ≤ 100) → w64 (p - q) = p - q ∧ -200 ≤ p - q ∧ p - q ≤ 200 := fun hp hq => ⟨w64_id (by omega) (by omega), by omega, by omega⟩
  obtain ⟨e1, b1⟩ := sub h1.1 h4.1
  obtain ⟨e2, b2⟩ := sub h1.2 h4.2
  obtain ⟨e3, b3⟩ := sub h2.1 h4.1
  obtain ⟨e4, b4⟩ := sub h2.2 h4.2
  obtain ⟨e5, b5⟩ := sub h3.1 h4.1
  obtain ⟨e6, b6⟩ := sub h3.2 h4.2
  unfold F48 F65 F68 F66
  simp only [Option.bind_eq_bind, Option.bind_some, e1, e2, e3, e4, e5, e6]
  generalize a - g = x1 at *
  generalize b - h = y1 at *
  generalize c - g = x2 at *
  generalize d - h = y2 at *
  generalize e - g = x3 at *
  generalize f - h = y3 at *
  have sq : ∀ {p q : Int}, (-200 ≤ p ∧ p ≤ 200) → (-200 ≤ q ∧ q ≤ 200) → w64 (p * q) = p * q ∧ -40000 ≤ p * q ∧ p * q ≤ 40000 := fun {p q} hp hq => by
    have := mul_le (m := 200) (n := 200) hp hq (by omega) (by omega)
    exact ⟨w64_id (by omega) (by omega), by omega, by omega⟩
  obtain ⟨p1, q1⟩ := sq b1 b1
  obtain ⟨p2, q2⟩ := sq b2 b2
  obtain ⟨p3, q3⟩ := sq b3 b3
  obtain ⟨p4, q4⟩ := sq b4 b4
  obtain ⟨p5, q5⟩ := sq b5 b5
  obtain ⟨p6, q6⟩ := sq b6 b6
  obtain ⟨p7, q7⟩ := sq b3 b6
  obtain ⟨p8, q8⟩ := sq b4 b5
  obtain ⟨p9, q9⟩ := sq b1 b6
  obtain ⟨p10, q10⟩ := sq b2 b5
  obtain ⟨p11, q11⟩ := sq b1 b4
  obtain ⟨p12, q12⟩ := sq b2 b3
  simp only [p1, p2, p3, p4, p5, p6, p7, p8, p9, p10, p11, p12]
  rw [w64_id (x := x1 * x1 + y1 * y1) (by omega) (by omega), w64_id (x := x2 * x2 + y2 * y2) (by omega) (by omega), w64_id (x := x3 * x3 + y3 * y3) (by omega) (by omega),
    w64_id (x := x2 * y3 - y2 * x3) (by omega) (by omega), w64_id (x := x1 * y3 - y1 * x3) (by omega) (by omega), w64_id (x := x1 * y2 - y1 * x2) (by omega) (by omega)]
  have big : ∀ {p q : Int}, (-80000 ≤ p ∧ p ≤ 80000) → (-80000 ≤ q ∧ q ≤ 80000) → w64 (p * q) = p * q ∧ -6400000000 ≤ p * q ∧ p * q ≤ 6400000000 := fun {p q} hp hq => by
    have := mul_le (m := 80000) (n := 80000) hp hq (by omega) (by omega)
    exact ⟨w64_id (by omega) (by omega), by omega, by omega⟩
  obtain ⟨g1, r1⟩ := big (p := x1 * x1 + y1 * y1) (q := x2 * y3 - y2 * x3) (by omega) (by omega)
  obtain ⟨g2, r2⟩ := big (p := x2 * x2 + y2 * y2) (q := x1 * y3 - y1 * x3) (by omega) (by omega)
  obtain ⟨g3, r3⟩ := big (p := x3 * x3 + y3 * y3) (q := x1 * y2 - y1 * x2) (by omega) (by omega)
  rw [g1, g2, g3]
  generalize (x1 * x1 + y1 * y1) * (x2 * y3 - y2 * x3) = A at *
  generalize (x2 * x2 + y2 * y2) * (x1 * y3 - y1 * x3) = B at *
  generalize (x3 * x3 + y3 * y3) * (x1 * y2 - y1 * x2) = C at *
  rw [w64_id (x := A - B) (by omega) (by omega), w64_id (x := A - B + C) (by omega) (by omega)]
theorem F49_eq {a b a2 a3 c d c2 c3 e f e2' e3' g h g2 g3 : Int} (h1 : inb a b = true) (h2 : inb c d = true) (h3 : inb e f = true) (h4 : inb g h = true) :
    F49 a b a2 a3 c d c2 c3 e f e2' e3' g h g2 g3 = some ((a - g) * ((d - h) * ((e - g) * (e - g) + (f - h) * (f - h)) - ((c - g) * (c - g) + (d - h) * (d - h)) * (f - h)) - (b - h) * ((c - g) * ((e - g) * (e - g) + (f - h) * (f - h)) - ((c - g) * (c - g) + (d - h) * (d - h)) * (e - g))
      + ((a - g) * (a - g) + (b - h) * (b - h)) * ((c - g) * (f - h) - (d - h) * (e - g))) := by
  have h1 := inb_of h1
  have h2 := inb_of h2
  have h3 := inb_of h3
  have h4 := inb_of h4
  have sub : ∀ {p q : Int}, (-100 ≤ p ∧ p ≤ 100) → (-100 ≤ q ∧ q ≤ 100) → w64 (p - q) = p - q ∧ -200 ≤ p - q ∧ p - q ≤ 200 := fun hp hq => ⟨w64_id (by omega) (by omega), by omega, by omega⟩
  obtain ⟨e1, b1⟩ := sub h1.1 h4.1
  obtain ⟨e2, b2⟩ := sub h1.2 h4.2
  obtain ⟨e3, b3⟩ := sub h2.1 h4.1
  obtain ⟨e4, b4⟩ := sub h2.2 h4.2
  obtain ⟨e5, b5⟩ := sub h3.1 h4.1
  obtain ⟨e6, b6⟩ := sub h3.2 h4.2
  have sq : ∀ {p q : Int}, (-200 ≤ p ∧ p ≤ 200) → (-200 ≤ q ∧ q ≤ 200) → w64 (p * q) = p * q ∧ -40000 ≤ p * q ∧ p * q ≤ 40000 := fun {p q} hp hq => by
    have := mul_le (m := 200) (n := 200) hp hq (by omega) (by omega)
    exact ⟨w64_id (by omega) (by omega), by omega, by omega⟩
  have w1 : w64 1 = 1 := w64_id (by omega) (by omega)
  have w2 : w64 2 = 2 := w64_id (by omega) (by omega)
  have w3 : w64 3 = 3 := w64_id (by omega) (by omega)
  obtain ⟨p1, q1⟩ := sq b1 b1
  obtain ⟨p2, q2⟩ := sq b2 b2
  obtain ⟨p3, q3⟩ := sq b3 b3
  obtain ⟨p4, q4⟩ := sq b4 b4
  obtain ⟨p5, q5⟩ := sq b5 b5
  obtain ⟨p6, q6⟩ := sq b6 b6
  have z1 : w64 ((a - g) * (a - g) + (b - h) * (b - h)) = (a - g) * (a - g) + (b - h) * (b - h) := w64_id (by omega) (by omega)
  have z2 : w64 ((c - g) * (c - g) + (d - h) * (d - h)) = (c - g) * (c - g) + (d - h) * (d - h) := w64_id (by omega) (by omega)
  have z3 : w64 ((e - g) * (e - g) + (f - h) * (f - h)) = (e - g) * (e - g) + (f - h) * (f - h) := w64_id (by omega) (by omega)
  have hl : F49l0 a b a2 a3 c d c2 c3 e f e2' e3' g h g2 g3 [] [] [] 0 = some ([a - g, c - g, e - g], [b - h, d - h, f - h], [(a - g) * (a - g) + (b - h) * (b - h), (c - g) * (c - g) + (d - h) * (d - h), (e - g) * (e - g) + (f - h) * (f - h)]) := by
    rw [F49l0_fix]
    simp only [decide_true, if_true, Option.bind_eq_bind, List.length_nil, List.nil_append, List.getD_cons_zero, Option.bind_some, e1, e2, p1, p2, z1, w1, show (0 : Int) < 3 from by omega, show (0 : Int) ≤ 0 from by omega, and_self, show Int.toNat 0 = 0 from rfl, show (0 : Nat) ≤ 1000000000 from by omega, Int.zero_add]
    rw [F49l0_fix]
    simp only [decide_true, if_true, Option.bind_eq_bind, List.length_cons, List.length_nil, List.cons_append, List.nil_append, List.getD_cons_succ, List.getD_cons_zero, Option.bind_some, e3, e4, p3, p4, z2, w2, show (1 : Int) < 3 from by omega, show (0 : Int) ≤ 1 from by omega, and_self, show Int.toNat 1 = 1 from rfl, show (0 : Nat) + 1 ≤ 1000000000 from by omega, show (1 : Int) + 1 = 2 from rfl]
    rw [F49l0_fix]
    simp only [decide_true, if_true, Option.bind_eq_bind, List.length_cons, List.length_nil, List.cons_append, List.nil_append, List.getD_cons_succ, List.getD_cons_zero, Option.bind_some, e5, e6, p5, p6, z3, w3, show (2 : Int) < 3 from by omega, show (0 : Int) ≤ 2 from by omega, and_self, show Int.toNat 2 = 2 from rfl, show (0 : Nat) + 1 + 1 ≤ 1000000000 from by omega, show (2 : Int) + 1 = 3 from rfl]
    rw [F49l0_fix]
    simp
  unfold F49
  rw [hl]
  simp
  generalize a - g = x1 at *
  generalize b - h = y1 at *
  generalize c - g = x2 at *
  generalize d - h = y2 at *
  generalize e - g = x3 at *
  generalize f - h = y3 at *
  obtain ⟨p11, q11⟩ := sq b3 b6
  obtain ⟨p12, q12⟩ := sq b4 b5
  have big : ∀ {p q : Int}, (-200 ≤ p ∧ p ≤ 200) → (-80000 ≤ q ∧ q ≤ 80000) → w64 (p * q) = p * q ∧ w64 (q * p) = q * p ∧ -16000000 ≤ p * q ∧ p * q ≤ 16000000 ∧ p * q = q * p := fun {p q} hp hq => by
    have := mul_le (m := 200) (n := 80000) hp hq (by omega) (by omega)
    have e := Int.mul_comm p q
    exact ⟨w64_id (by omega) (by omega), by rw [← e]; exact w64_id (by omega) (by omega), by omega, by omega, e⟩
  obtain ⟨g1, g1', r1⟩ := big (p := y2) (q := x3 * x3 + y3 * y3) b4 (by omega)
  obtain ⟨g2, g2', r2⟩ := big (p := y3) (q := x2 * x2 + y2 * y2) b6 (by omega)
  obtain ⟨g3, g3', r3⟩ := big (p := x2) (q := x3 * x3 + y3 * y3) b3 (by omega)
  obtain ⟨g4, g4', r4⟩ := big (p := x3) (q := x2 * x2 + y2 * y2) b5 (by omega)
  rw [g1, g2', g3, g4', p11, p12]
  rw [w64_id (x := y2 * (x3 * x3 + y3 * y3) - (x2 * x2 + y2 * y2) * y3) (by omega) (by omega), w64_id (x := x2 * (x3 * x3 + y3 * y3) - (x2 * x2 + y2 * y2) * x3) (by omega) (by omega), w64_id (x := x2 * y3 - y2 * x3) (by omega) (by omega)]
  have hug : ∀ {p q : Int}, (-80000 ≤ p ∧ p ≤ 80000) → (-32000000 ≤ q ∧ q ≤ 32000000) → w64 (p * q) = p * q ∧ -2560000000000 ≤ p * q ∧ p * q ≤ 2560000000000 := fun {p q} hp hq => by
    have := mul_le (m := 80000) (n := 32000000) hp hq (by omega) (by omega)
    exact ⟨w64_id (by omega) (by omega), by omega, by omega⟩
  obtain ⟨k1, s1⟩ := hug (p := x1) (q := y2 * (x3 * x3 + y3 * y3) - (x2 * x2 + y2 * y2) * y3) (by omega) (by omega)
  obtain ⟨k2, s2⟩ := hug (p := y1) (q := x2 * (x3 * x3 + y3 * y3) - (x2 * x2 + y2 * y2) * x3) (by omega) (by omega)
  obtain ⟨k3, s3⟩ := hug (p := x1 * x1 + y1 * y1) (q := x2 * y3 - y2 * x3) (by omega) (by omega)
  rw [k1, k2, k3]
  generalize x1 * (y2 * (x3 * x3 + y3 * y3) - (x2 * x2 + y2 * y2) * y3) = A at *
  generalize y1 * (x2 * (x3 * x3 + y3 * y3) - (x2 * x2 + y2 * y2) * x3) = B at *
  generalize (x1 * x1 + y1 * y1) * (x2 * y3 - y2 * x3) = C at *
  rw [w64_id (x := A - B) (by omega) (by omega), w64_id (x := A - B + C) (by omega) (by omega)]
theorem same_in {a b a2 a3 c d c2 c3 e f e2' e3' g h g2 g3 : Int} (h1 : inb a b = true) (h2 : inb c d = true) (h3 : inb e f = true) (h4 : inb g h = true) :
    F48 a b c d e f g h = F49 a b a2 a3 c d c2 c3 e f e2' e3' g h g2 g3 := by
  rw [F48_eq h1 h2 h3 h4, F49_eq h1 h2 h3 h4]
  congr 1
  grind
theorem F15_eq (a b a2 a3 c d c2 c3 e f e2' e3' g h g2 g3 : Int) : F15 a b a2 a3 c d c2 c3 e f e2' e3' g h g2 g3 = F16 a b a2 a3 c d c2 c3 e f e2' e3' g h g2 g3 := by
  unfold F15 F16
  rw [F13_eq]
  rcases F14_err a b a2 a3 c d c2 c3 e f e2' e3' with ⟨s, hs, h1, h2, h3⟩ | hs
  · rw [hs]
    simp only [Option.bind_eq_bind, Option.bind_some, F41, F42_eq, F45_eq, F43_eq]
    cases h4 : inb g h
    · simp
    · have := same_in (a2 := a2) (a3 := a3) (c2 := c2) (c3 := c3) (e2' := e2') (e3' := e3') (g2 := g2) (g3 := g3) h1 h2 h3 h4
      by_cases h0 : s = 0
      · subst h0; simp
      · simp [h0, this]
  · rw [hs]
    simp
theorem F14_some (a b a2 a3 c d c2 c3 e f e2' e3' : Int) : ∃ r, F14 a b a2 a3 c d c2 c3 e f e2' e3' = some r := by
  rcases F14_err a b a2 a3 c d c2 c3 e f e2' e3' with ⟨s, hs, _⟩ | hs <;> exact ⟨_, hs⟩
theorem F16_some (a b a2 a3 c d c2 c3 e f e2' e3' g h g2 g3 : Int) : ∃ r, F16 a b a2 a3 c d c2 c3 e f e2' e3' g h g2 g3 = some r := by
  unfold F16
  rcases F14_err a b a2 a3 c d c2 c3 e f e2' e3' with ⟨s, hs, h1, h2, h3⟩ | hs
  · rw [hs]
    simp only [Option.bind_eq_bind, Option.bind_some, F45_eq]
    cases h4 : inb g h
    · exact ⟨_, rfl⟩
    · by_cases h0 : s = 0
      · subst h0; exact ⟨_, rfl⟩
      · have := F49_eq (a2 := a2) (a3 := a3) (c2 := c2) (c3 := c3) (e2' := e2') (e3' := e3') (g2 := g2) (g3 := g3) h1 h2 h3 h4
        simp only [h0, this, F46]
        simp only [beq_self_eq_true, if_true, Option.bind_some, Bool.false_eq_true, if_false, show (s == 0) = false from by simpa using h0, bne_self_eq_false]
        split
        · exact ⟨_, rfl⟩
        · split <;> exact ⟨_, rfl⟩
  · rw [hs]
    exact ⟨_, rfl⟩
theorem F12_four (a b c d : Int × Int × (Int × Int)) : F12 [a, b, c, d] = some [a, b, c, d] := by
  have w1 : w64 1 = 1 := w64_id (by omega) (by omega)
  have w2 : w64 2 = 2 := w64_id (by omega) (by omega)
  have w3 : w64 3 = 3 := w64_id (by omega) (by omega)
  have w4 : w64 4 = 4 := w64_id (by omega) (by omega)
  unfold F12
  rw [F12l0_fix]
  simp [w1]
  rw [F12l0_fix]
  simp [w2]
  rw [F12l0_fix]
  simp [w3]
  rw [F12l0_fix]
  simp [w4]
  rw [F12l0_fix]
  simp
end Go.Proofs.Ytnhcgbcmnhdocaa
namespace Go.Proofs.Ytnhcgbcmnhdocaa.chartSides
open Go Go.Cl
theorem plain (p0 p1 p2 p3 p4 p5 p6 p7 p8 p9 p10 p11 p12 p13 p14 p15 : Int) (w0 : (Lit.int .i64 p0).wf = true) (w1 : (Lit.int .i64 p1).wf = true) (w2 : (Lit.int .i64 p2).wf = true) (w3 : (Lit.int .i64 p3).wf = true)
    (w4 : (Lit.int .i64 p4).wf = true) (w5 : (Lit.int .i64 p5).wf = true) (w6 : (Lit.int .i64 p6).wf = true) (w7 : (Lit.int .i64 p7).wf = true) (w8 : (Lit.int .i64 p8).wf = true) (w9 : (Lit.int .i64 p9).wf = true) (w10 : (Lit.int .i64 p10).wf = true)
    (w11 : (Lit.int .i64 p11).wf = true) (w12 : (Lit.int .i64 p12).wf = true) (w13 : (Lit.int .i64 p13).wf = true) (w14 : (Lit.int .i64 p14).wf = true) (w15 : (Lit.int .i64 p15).wf = true) :
    F3 p0 p1 p2 p3 p4 p5 p6 p7 p8 p9 p10 p11 p12 p13 p14 p15 = some true := by
  unfold F3
  rw [F12_four, F13_eq]
  obtain ⟨r, hr⟩ := F14_some p0 p1 p2 p3 p4 p5 p6 p7 p8 p9 p10 p11
  obtain ⟨q, hq⟩ := F16_some p0 p1 p2 p3 p4 p5 p6 p7 p8 p9 p10 p11 p12 p13 p14 p15
  simp [hr, F15_eq, hq, F17]
end Go.Proofs.Ytnhcgbcmnhdocaa.chartSides
