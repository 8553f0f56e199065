/- The plain law of MagnetWithins: what the functions compute, in plain Lean (second part). -/
import Derived.Test.YtenjelagfbceeaaL6a
set_option linter.unusedVariables false
set_option linter.unusedSimpArgs false
set_option maxHeartbeats 4000000
namespace Go.Proofs.Ytenjelagfbceeaa
open Go Go.Cl
theorem F35_ok {a b c d e f q : Int} (h : Kit4 a b c d) (be : -10000 ≤ e ∧ e ≤ 10000) (bf : -10000 ≤ f ∧ f ≤ 10000) (bq : 0 ≤ q ∧ q ≤ 1000000000) {g : Int × Int} (h17 : F17 a b c d e f 0 0 = some (g, 0)) (hov : ¬ q > w64 (2000 * mx (w64 (w64 (a * d) - w64 (b * c))) (w64 (w64 (b * c) - w64 (a * d))))) :
    ∃ r, F35 a b c d e f q = some (r, 0) ∧ 0 ≤ r ∧ Counts (Small a b c d e f q) r.toNat := by
  obtain ⟨i, j, k, l, h62, hB, hr⟩ := F62_eq h
  obtain ⟨hx, hy, hi, hj⟩ := small_of h hB.sa
  obtain ⟨hu, hv, hk, hl⟩ := small_of h hB.sb
  have hpos := pos_of h hB.det
  have hnd : (i * a + j * c) * (k * b + l * d) - (i * b + j * d) * (k * a + l * c) ≠ 0 := by
    have e : (i * a + j * c) * (k * b + l * d) - (i * b + j * d) * (k * a + l * c) = (i * l - j * k) * (a * d - b * c) := by grind
    rw [e]
    exact Int.mul_ne_zero (by rcases hB.det with h | h <;> omega) h.nf
  have hmap := @small_near a b c d e f q i j k l
  have har := area_of hr
  have hle := hr.1
  have e57 := F57_eq h (i := i) (j := j) (by omega) (by omega)
  have e57' := F57_eq h (i := k) (j := l) (by omega) (by omega)
  unfold F35
  rw [h17]
  simp only [Option.bind_eq_bind, Option.bind_some, beq_self_eq_true, if_true, F73_eq, bq, and_self, decide_true, Bool.false_eq_true, if_false]
  simp only [F60, Option.bind_eq_bind, Option.bind_some, hov, decide_false, Bool.false_eq_true, if_false, bne_self_eq_false]
  simp only [h62, Option.bind_some, e57, e57']
  clear e57 e57'
  generalize i * a + j * c = x at *
  generalize i * b + j * d = y at *
  generalize k * a + l * c = u at *
  generalize k * b + l * d = v at *
  have C : Ctx x y u v e f q := ⟨hx, hy, hu, hv, be, bf, bq, hnd⟩
  have hdb := C.db
  have hsb : u * u + v * v ≤ 4500000 := by
    have h1 := mul_le (m := 1500) (n := 1500) hu hu (by omega) (by omega)
    have h2 := mul_le (m := 1500) (n := 1500) hv hv (by omega) (by omega)
    omega
  have m1 := mul_le (m := 1500) (n := 1500) hx hv (by omega) (by omega)
  have m2 := mul_le (m := 1500) (n := 1500) hy hu (by omega) (by omega)
  have m3 := mul_le (m := 1500) (n := 10000) hx bf (by omega) (by omega)
  have m4 := mul_le (m := 1500) (n := 10000) hy be (by omega) (by omega)
  have m5 := mul_le (m := 10000) (n := 1500) be hv (by omega) (by omega)
  have m6 := mul_le (m := 10000) (n := 1500) bf hu (by omega) (by omega)
  rw [w64_id (x := x * v) (by omega) (by omega), w64_id (x := y * u) (by omega) (by omega), w64_id (x := x * v - y * u) (by omega) (by omega), w64_id (x := e * v) (by omega) (by omega), w64_id (x := f * u) (by omega) (by omega), w64_id (x := e * v - f * u) (by omega) (by omega),
    w64_id (x := x * f) (by omega) (by omega), w64_id (x := y * e) (by omega) (by omega), w64_id (x := x * f - y * e) (by omega) (by omega), w64_id (x := 0 - (x * f - y * e)) (by omega) (by omega), w64_id (x := 0 - (e * v - f * u)) (by omega) (by omega), w64_id (x := 0 - (x * v - y * u)) (by omega) (by omega),
    w64_id (x := 0 - (0 - (x * f - y * e))) (by omega) (by omega), w64_id (x := 0 - (0 - (e * v - f * u))) (by omega) (by omega)]
  generalize hn0 : (if 0 < x * v - y * u then (-(x * f - y * e)) / (x * v - y * u) else (x * f - y * e) / (-(x * v - y * u))) = n0
  generalize hk0 : (if 0 < x * v - y * u then (-(e * v - f * u)) / (x * v - y * u) else (e * v - f * u) / (-(x * v - y * u))) = k0
  have hn0b := quot_bd hnd (by omega) hn0.symm
  have hk0b := quot_bd hnd (by omega) hk0.symm
  have hm36 : ∃ t0 t1, (if decide (x * v - y * u < 0) = true then some (0 - (x * v - y * u), 0 - (0 - (e * v - f * u)), 0 - (0 - (x * f - y * e))) else some (x * v - y * u, 0 - (e * v - f * u), 0 - (x * f - y * e))) = some (((x * v - y * u).natAbs : Int), t0, t1) ∧
      F74 t1 ((x * v - y * u).natAbs : Int) = some n0 ∧ F74 t0 ((x * v - y * u).natAbs : Int) = some k0 := by
    by_cases hn : x * v - y * u < 0
    · have hnp : ¬ 0 < x * v - y * u := by omega
      have ea : ((x * v - y * u).natAbs : Int) = -(x * v - y * u) := by omega
      rw [if_neg hnp] at hn0 hk0
      refine ⟨e * v - f * u, x * f - y * e, ?_, ?_, ?_⟩
      · rw [if_pos (decide_eq_true hn)]
        simp only [Option.some.injEq, Prod.mk.injEq]
        omega
      · rw [ea, F74_pos (by omega) (by omega) (by omega), hn0]
      · rw [ea, F74_pos (by omega) (by omega) (by omega), hk0]
    · have hnp : 0 < x * v - y * u := by omega
      have ea : ((x * v - y * u).natAbs : Int) = x * v - y * u := by omega
      rw [if_pos hnp] at hn0 hk0
      refine ⟨-(e * v - f * u), -(x * f - y * e), ?_, ?_, ?_⟩
      · rw [if_neg (by simpa using hn)]
        simp only [Option.some.injEq, Prod.mk.injEq]
        omega
      · rw [ea, F74_pos hnp (by omega) (by omega), hn0]
      · rw [ea, F74_pos hnp (by omega) (by omega), hk0]
  obtain ⟨t0, t1, hm, h74, h74'⟩ := hm36
  rw [hm, Option.bind_some]
  simp only
  have hd1 : ((1 : Nat) : Int) * ((x * v - y * u).natAbs : Int) ≤ 72000000 := by omega
  obtain ⟨N, hN, W⟩ := F35l0_eq C (t1 := t0) (t2 := t1) 72000000 1 (by omega) hd1
  obtain ⟨K, hK, W'⟩ := F35l1_eq C (t1 := t0) (t2 := t1) (N0 := N) ⟨by omega, hsb⟩ 72000000 1 (by omega) hd1
  rw [show ((1 : Nat) : Int) = 1 from rfl] at hN hK
  rw [hN, Option.bind_some, hK, Option.bind_some, h74', Option.bind_some]
  have hKn := W'.nn
  have hKb := (wide_w64 hnd hKn W'.sm).2
  rw [w64_id (x := k0 - K) (by omega) (by omega)]
  obtain ⟨r, r1, r2, r3⟩ := F35l2_eq C (by omega) har h74 hn0.symm hn0b W h74' hk0.symm hk0b W' (2 * K + 2).toNat (k0 - K) 0 (by omega) (by omega) (by omega) (by omega) (Counts.zero fun c hc => by have := hc.2.1; have := hc.2.2; omega)
  rw [r1, Option.bind_some]
  exact ⟨r, rfl, r2, Counts.map hB.det hmap r3⟩
theorem F75_nil : F75 [] = some false := by
  unfold F75 F84
  rw [F84l0_fix]
  simp
/-- The errors of a kit, an iron and no choices. -/
theorem F52_nil (a b c d e f : Int) : (F52 a b c d e f [] = some 0 ∧ Kit4 a b c d ∧ (-10000 ≤ e ∧ e ≤ 10000) ∧ (-10000 ≤ f ∧ f ≤ 10000) ∧ ∃ g, F17 a b c d e f 0 0 = some (g, 0)) ∨ ∃ r g, r ≠ 0 ∧ F52 a b c d e f [] = some r ∧ F17 a b c d e f 0 0 = some (g, r) := by
  unfold F52 F17
  rw [F21_eq]
  have h0 : inb 100000000 0 0 = true := rfl
  rcases F20_cases a b c d with ⟨h1, hk⟩ | ⟨r, hr, h1⟩
  · rw [F58_eq _ _ _ (by omega) (by omega), F55_eq _ _ _ (by omega) (by omega), F75_nil, F56_eq]
    cases h2 : inb 10000 e f
    · exact .inr ⟨1, (0, 0), by omega, by simp [h1], by simp [h1]⟩
    · have hb := inb_of h2
      refine .inl ⟨by simp [h1], hk, hb.1, hb.2, ?_⟩
      rw [F57_eq hk (by omega) (by omega)]
      exact ⟨_, by simp [h1, h0]; rfl⟩
  · exact .inr ⟨r, (0, 0), hr, by simp [h1, hr], by simp [h1, hr]⟩
theorem over_same (p q : Int) : mx (w64 (p - q)) (w64 (0 - w64 (p - q))) = mx (w64 (p - q)) (w64 (q - p)) := by
  have : w64 (0 - w64 (p - q)) = w64 (q - p) := by
    simp [w64, IntKind.wrap, IntKind.signed, IntKind.bits]
    omega
  rw [this]
end Go.Proofs.Ytenjelagfbceeaa
namespace Go.Proofs.Ytenjelagfbceeaa.magnetWithins
open Go Go.Cl
theorem plain (p0 p1 p2 p3 p4 p5 p6 : Int) (w0 : (Lit.int .i64 p0).wf = true) (w1 : (Lit.int .i64 p1).wf = true) (w2 : (Lit.int .i64 p2).wf = true) (w3 : (Lit.int .i64 p3).wf = true) (w4 : (Lit.int .i64 p4).wf = true) (w5 : (Lit.int .i64 p5).wf = true) (w6 : (Lit.int .i64 p6).wf = true) :
    F6 p0 p1 p2 p3 p4 p5 p6 = some true := by
  have key : ∃ r, F34 p0 p1 p2 p3 p4 p5 p6 = some r ∧ F35 p0 p1 p2 p3 p4 p5 p6 = some r := by
    rcases F52_nil p0 p1 p2 p3 p4 p5 with ⟨h52, hk, be, bf, g, h17⟩ | ⟨r, g, hr, h52, h17⟩
    · by_cases hq : 0 ≤ p6 ∧ p6 ≤ 1000000000
      · by_cases hov : p6 > w64 (2000 * mx (w64 (w64 (p0 * p3) - w64 (p1 * p2))) (w64 (w64 (p1 * p2) - w64 (p0 * p3))))
        · refine ⟨(0, 16), ?_, ?_⟩
          · unfold F34
            simp only [h52, Option.bind_eq_bind, Option.bind_some, bne_self_eq_false, Bool.false_eq_true, if_false, F68_eq, hq, and_self, decide_true, if_true, F59, over_same, hov]
          · unfold F35
            simp only [h17, Option.bind_eq_bind, Option.bind_some, beq_self_eq_true, if_true, F73_eq, hq, and_self, decide_true, Bool.false_eq_true, if_false, F60, hov]
            rfl
        · obtain ⟨r, r1, r2, r3⟩ := F34_ok hk be bf hq h52 (by rw [over_same]; exact hov)
          obtain ⟨s, s1, s2, s3⟩ := F35_ok hk be bf hq h17 hov
          have := Counts.unique r3 s3
          have e : r = s := by omega
          subst e
          exact ⟨_, r1, s1⟩
      · refine ⟨(0, 1), ?_, ?_⟩
        · unfold F34
          simp only [h52, Option.bind_eq_bind, Option.bind_some, bne_self_eq_false, Bool.false_eq_true, if_false, F68_eq, hq, decide_false, if_true, F59]
        · unfold F35
          simp only [h17, Option.bind_eq_bind, Option.bind_some, beq_self_eq_true, if_true, F73_eq, hq, decide_false, Bool.false_eq_true, if_false]
          rfl
    · refine ⟨(0, r), ?_, ?_⟩
      · unfold F34
        simp [h52, hr, F59]
      · unfold F35
        simp [h17, hr]
  obtain ⟨r, h1, h2⟩ := key
  unfold F6
  simp [h1, F13, F18, h2, F22]
end Go.Proofs.Ytenjelagfbceeaa.magnetWithins
