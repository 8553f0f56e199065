/- The plain law of MagnetRests: what the functions compute, in plain Lean. -/
import Derived.Test.YtenjelagfbceeaaG3
set_option linter.unusedVariables false
set_option linter.unusedSimpArgs false
namespace Go.Proofs.Ytenjelagfbceeaa
open Go Go.Cl
theorem w64_id {x : Int} (h1 : -9223372036854775808 ≤ x) (h2 : x ≤ 9223372036854775807) : w64 x = x := by
  simp [w64, IntKind.wrap, IntKind.signed, IntKind.bits]
  omega
theorem F68_eq (a b c : Int) : F68 a b c = some (decide (a ≤ b ∧ b ≤ c)) := by
  unfold F68
  by_cases h : a ≤ b <;> simp [h]
theorem F73_eq (a b c : Int) : F73 a b c = some (decide (b ≤ a ∧ a ≤ c)) := by
  unfold F73
  by_cases h : b ≤ a <;> simp [h]
/-- Both lie within m. -/
def inb (m a b : Int) : Bool := decide ((-m ≤ a ∧ a ≤ m) ∧ (-m ≤ b ∧ b ≤ m))
theorem inb_of {m a b : Int} (h : inb m a b = true) : (-m ≤ a ∧ a ≤ m) ∧ (-m ≤ b ∧ b ≤ m) := of_decide_eq_true h
theorem F58_eq (a b m : Int) (h : 0 ≤ m) (hm : m ≤ 1000000) : F58 a b m = some (inb m a b) := by
  unfold inb
  unfold F58
  rw [w64_id (x := 0 - m) (by omega) (by omega), F68_eq, F68_eq]
  by_cases h1 : (0 - m ≤ a ∧ a ≤ m)
  · have : (-m ≤ a ∧ a ≤ m) := by omega
    simp [h1, this]
  · have : ¬ (-m ≤ a ∧ a ≤ m) := by omega
    simp [h1, this]
theorem F55_eq (a b m : Int) (h : 0 ≤ m) (hm : m ≤ 1000000) : F55 a b m = some (inb m a b) := by
  unfold inb
  unfold F55
  rw [w64_id (x := 0 - m) (by omega) (by omega), F73_eq, F73_eq]
  by_cases h1 : (0 - m ≤ a ∧ a ≤ m)
  · have : (-m ≤ a ∧ a ≤ m) := by omega
    simp [h1, this]
  · have : ¬ (-m ≤ a ∧ a ≤ m) := by omega
    simp [h1, this]

theorem mul_le {a b m n : Int} (ha : -m ≤ a ∧ a ≤ m) (hb : -n ≤ b ∧ b ≤ n) (hm : 0 ≤ m) (hn : 0 ≤ n) : -(m * n) ≤ a * b ∧ a * b ≤ m * n := by
  have h1 : a.natAbs ≤ m.natAbs := by omega
  have h2 : b.natAbs ≤ n.natAbs := by omega
  have h3 := Nat.mul_le_mul h1 h2
  rw [← Int.natAbs_mul, ← Int.natAbs_mul] at h3
  have h4 : 0 ≤ m * n := Int.mul_nonneg hm hn
  omega
theorem F20_eq (a b c d : Int) : F20 a b c d = some (if inb 1000 a b && inb 1000 c d then if a * d - b * c = 0 then 15 else 0 else 1) := by
  unfold F20 F59
  rw [F58_eq _ _ _ (by omega) (by omega), F58_eq _ _ _ (by omega) (by omega)]
  cases h1 : inb 1000 a b
  · simp
  · cases h2 : inb 1000 c d
    · simp
    · have h1 := inb_of h1
      have h2 := inb_of h2
      have h3 := mul_le (a := a) (b := d) (m := 1000) (n := 1000) (by omega) (by omega) (by omega) (by omega)
      have h4 := mul_le (a := b) (b := c) (m := 1000) (n := 1000) (by omega) (by omega) (by omega) (by omega)
      rw [w64_id (x := a * d) (by omega) (by omega), w64_id (x := b * c) (by omega) (by omega), w64_id (x := a * d - b * c) (by omega) (by omega)]
      by_cases h : a * d - b * c = 0 <;> simp [h]
theorem F21_eq (a b c d : Int) : F21 a b c d = F20 a b c d := by
  rw [F20_eq]
  unfold F21 F60
  rw [F55_eq _ _ _ (by omega) (by omega), F55_eq _ _ _ (by omega) (by omega)]
  cases h1 : inb 1000 a b
  · simp
  · cases h2 : inb 1000 c d
    · simp
    · have h1 := inb_of h1
      have h2 := inb_of h2
      have h3 := mul_le (a := a) (b := d) (m := 1000) (n := 1000) (by omega) (by omega) (by omega) (by omega)
      have h4 := mul_le (a := b) (b := c) (m := 1000) (n := 1000) (by omega) (by omega) (by omega) (by omega)
      rw [w64_id (x := a * d) (by omega) (by omega), w64_id (x := b * c) (by omega) (by omega), w64_id (x := a * d - b * c) (by omega) (by omega), w64_id (x := b * c - a * d) (by omega) (by omega)]
      generalize a * d = u at *
      generalize b * c = v at *
      by_cases h : u - v = 0
      · have : v - u = 0 := by omega
        simp [h, this]
      · have : ¬ (if v - u > u - v then v - u else u - v) = 0 := by split <;> omega
        simp only [Option.bind_eq_bind, Option.bind_some, h, Bool.and_true, beq_iff_eq]
        simp [this, h]
theorem mo (a b c d : Int) : F72 a b c d = F64 a b c d := rfl
theorem F51_eq (a b c d : Int) : F51 a b c d = F50 a b c d := rfl
theorem F15_eq (a b c d : Int) : F15 a b c d = F14 a b c d := by
  unfold F15 F14
  rw [F21_eq, ]
  rfl
theorem F77_eq (a b : Int) : F77 a b = some (inb 100000000 a b) := by
  unfold F77 inb
  rw [F68_eq, F68_eq]
  by_cases h1 : -100000000 ≤ a ∧ a ≤ 100000000 <;> simp [h1]
theorem F56_eq (a b : Int) : F56 a b = some (inb 100000000 a b) := by
  unfold F56 inb
  rw [F73_eq, F73_eq]
  by_cases h1 : -100000000 ≤ a ∧ a ≤ 100000000 <;> simp [h1]
theorem F76_eq (a b : Int) : F76 a b = some (!inb 100000000 a b) := by
  unfold F76
  rw [F77_eq]
  cases inb 100000000 a b <;> rfl
theorem F75_one (a b : Int) : F75 [(a, b)] = some (!inb 100000000 a b) := by
  unfold F75 F84
  rw [F84l0, F84l0]
  rw [w64_id (x := 0 + 1) (by omega) (by omega)]
  simp [F76_eq]
  cases inb 100000000 a b <;> simp

theorem F17_eq (a b c d x y i j : Int) : F17 a b c d x y i j = F16 a b c d x y i j := by
  unfold F17 F16 F52
  rw [F21_eq, F20_eq]
  simp only [Option.bind_eq_bind, Option.bind_some]
  by_cases h0 : (inb 1000 a b && inb 1000 c d) = true
  · rw [if_pos h0]
    by_cases h1 : a * d - b * c = 0
    · rw [if_pos h1]
      rfl
    · rw [if_neg h1]
      rw [F55_eq _ _ _ (by omega) (by omega), F58_eq _ _ _ (by omega) (by omega), F75_one, F56_eq]
      cases h2 : inb 10000 x y
      · rfl
      · cases h3 : inb 100000000 i j
        · rfl
        · simp only [Bool.and_eq_true] at h0
          have ha := inb_of h0.1
          have hc := inb_of h0.2
          have hx := inb_of h2
          have hi := inb_of h3
          have e1 := mul_le (a := i) (b := a) (m := 100000000) (n := 1000) (by omega) (by omega) (by omega) (by omega)
          have e2 := mul_le (a := i) (b := b) (m := 100000000) (n := 1000) (by omega) (by omega) (by omega) (by omega)
          have e3 := mul_le (a := j) (b := c) (m := 100000000) (n := 1000) (by omega) (by omega) (by omega) (by omega)
          have e4 := mul_le (a := j) (b := d) (m := 100000000) (n := 1000) (by omega) (by omega) (by omega) (by omega)
          simp only [F57, F54, F53, Option.bind_eq_bind, Option.bind_some]
          generalize i * a = u at *
          generalize i * b = v at *
          generalize j * c = s at *
          generalize j * d = t at *
          rw [w64_id (x := u) (by omega) (by omega), w64_id (x := v) (by omega) (by omega), w64_id (x := s) (by omega) (by omega), w64_id (x := t) (by omega) (by omega), w64_id (x := 0 + u) (by omega) (by omega),
            w64_id (x := 0 + v) (by omega) (by omega), w64_id (x := 0 + u + s) (by omega) (by omega), w64_id (x := 0 + v + t) (by omega) (by omega), w64_id (x := u + s) (by omega) (by omega), w64_id (x := v + t) (by omega) (by omega)]
          have q1 : 1 * (0 + u + s) = u + s := by omega
          have q2 : 1 * (0 + v + t) = v + t := by omega
          rw [q1, q2, w64_id (x := u + s) (by omega) (by omega), w64_id (x := v + t) (by omega) (by omega)]
          rfl
  · rw [if_neg h0]
    rfl
theorem F14_some (a b c d : Int) : ∃ r, F14 a b c d = some r := by
  unfold F14 F50 F72 F63 F72
  rw [F20_eq]
  generalize (if (inb 1000 a b && inb 1000 c d) = true then if a * d - b * c = 0 then (15 : Int) else 0 else 1) = z
  simp only [Option.bind_eq_bind, Option.bind_some]
  split
  · exact ⟨_, rfl⟩
  · split <;> exact ⟨_, rfl⟩
theorem F16_some (a b c d x y i j : Int) : ∃ r, F16 a b c d x y i j = some r := by
  unfold F16 F52 F54 F53
  rw [F20_eq, F58_eq _ _ _ (by omega) (by omega), F75_one]
  generalize (if (inb 1000 a b && inb 1000 c d) = true then if a * d - b * c = 0 then (15 : Int) else 0 else 1) = z
  simp only [Option.bind_eq_bind, Option.bind_some]
  by_cases hz : z = 0 <;> cases inb 10000 x y <;> cases inb 100000000 i j <;> simp [hz]
end Go.Proofs.Ytenjelagfbceeaa
namespace Go.Proofs.Ytenjelagfbceeaa.magnetRests
open Go Go.Cl
theorem plain (p0 p1 p2 p3 p4 p5 p6 p7 : Int) (w0 : (Lit.int .i64 p0).wf = true) (w1 : (Lit.int .i64 p1).wf = true) (w2 : (Lit.int .i64 p2).wf = true) (w3 : (Lit.int .i64 p3).wf = true)
    (w4 : (Lit.int .i64 p4).wf = true) (w5 : (Lit.int .i64 p5).wf = true) (w6 : (Lit.int .i64 p6).wf = true) (w7 : (Lit.int .i64 p7).wf = true) : F3 p0 p1 p2 p3 p4 p5 p6 p7 = some true := by
  unfold F3
  simp only [F13, F18, F19, Option.bind_eq_bind, Option.bind_some]
  obtain ⟨r, hr⟩ := F14_some p0 p1 p2 p3
  obtain ⟨s, hs⟩ := F16_some p0 p1 p2 p3 p4 p5 p6 p7
  rw [F15_eq, hr, F17_eq, hs, F21_eq, F20_eq]
  obtain ⟨rb, re⟩ := r
  obtain ⟨⟨sx, sy⟩, se⟩ := s
  cases rb <;> simp [F22]
end Go.Proofs.Ytenjelagfbceeaa.magnetRests
