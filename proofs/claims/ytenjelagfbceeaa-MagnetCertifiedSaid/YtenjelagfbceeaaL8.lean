/- The plain law of MagnetCertified: all steps come to their ends, and each answer is as the law says. -/
import Derived.Test.YtenjelagfbceeaaL8o
set_option linter.unusedVariables false
set_option linter.unusedSimpArgs false
set_option maxHeartbeats 4000000
namespace Go.Proofs.Ytenjelagfbceeaa
open Go Go.Cl
theorem F41_small {a b c d : Int} (ha : -70 ≤ a ∧ a ≤ 70) (hb : -70 ≤ b ∧ b ≤ 70) (hc : -700 ≤ c ∧ c ≤ 700) (hd : -700 ≤ d ∧ d ≤ 700) :
    F41 a b c d = some (a * c + b * d) ∧ w64 (2 * mx (a * c + b * d) (w64 (0 - (a * c + b * d)))) = 2 * ((a * c + b * d).natAbs : Int) := by
  have h1 := mul_le (m := 70) (n := 700) ha hc (by omega) (by omega)
  have h2 := mul_le (m := 70) (n := 700) hb hd (by omega) (by omega)
  refine ⟨F41_eq (by omega) (by omega) (by omega) (by omega), ?_⟩
  rw [w64_id (x := 0 - (a * c + b * d)) (by omega) (by omega), mx_abs, w64_id (by omega) (by omega)]
theorem F8l0_eq {r1 : ((Int × Int) × Int × Int) × Int × Int} {r3 r5 : (Int × Int) × (Int × Int) × Int} {x y u v w z X Y : Int} {g : Bool} {r15 : Int × Int} (bx : -333 ≤ x ∧ x ≤ 333) (by' : -333 ≤ y ∧ y ≤ 333) (bu : -333 ≤ u ∧ u ≤ 333) (bv : -333 ≤ v ∧ v ≤ 333)
    (bw : -700 ≤ w ∧ w ≤ 700) (bz : -700 ≤ z ∧ z ≤ 700) (hX : -70 ≤ X ∧ X ≤ 70) (hY : -70 ≤ Y ∧ Y ≤ 70) :
    F8l0 r1 r3 r5 (((x, y), (u, v)), g) r15 (X, Y) (w, z) true 0 = some (decide (2 * ((X * x + Y * y).natAbs : Int) ≤ x * x + y * y) && (decide (2 * ((X * u + Y * v).natAbs : Int) ≤ u * u + v * v) && decide (2 * ((X * w + Y * z).natAbs : Int) ≤ w * w + z * z))) := by
  obtain ⟨t1, t1'⟩ := F41_small hX hY (c := x) (d := y) (by omega) (by omega)
  obtain ⟨t2, t2'⟩ := F41_small hX hY (c := u) (d := v) (by omega) (by omega)
  obtain ⟨t3, t3'⟩ := F41_small hX hY (c := w) (d := z) bw bz
  have s1 : F41 x y x y = some (x * x + y * y) := F41_eq (by omega) (by omega) (by omega) (by omega)
  have s2 : F41 u v u v = some (u * u + v * v) := F41_eq (by omega) (by omega) (by omega) (by omega)
  have s3 : F41 w z w z = some (w * w + z * z) := F41_eq (by omega) (by omega) (by omega) (by omega)
  have w1 : w64 (0 + 1) = 1 := rfl
  have w2 : w64 (1 + 1) = 2 := rfl
  have w3 : w64 (2 + 1) = 3 := rfl
  have g0 : List.getD [(x, y), (u, v), (w, z)] (Int.toNat 0) (0, 0) = (x, y) := rfl
  have g1 : List.getD [(x, y), (u, v), (w, z)] (Int.toNat 1) (0, 0) = (u, v) := rfl
  have g2 : List.getD [(x, y), (u, v), (w, z)] (Int.toNat 2) (0, 0) = (w, z) := rfl
  rw [F8l0_fix, if_pos (by decide), if_pos (by decide)]
  simp only [g0, bs, t1, s1, if_true, w1, t1']
  rw [F8l0_fix, if_pos (by decide), if_pos (by decide)]
  simp only [g1, bs, t2, s2, w2, t2']
  by_cases c1 : 2 * ((X * x + Y * y).natAbs : Int) ≤ x * x + y * y
  · simp only [c1, decide_true, if_true, bs, Bool.true_and]
    rw [F8l0_fix, if_pos (by decide), if_pos (by decide)]
    simp only [g2, bs, t3, s3, w3, t3']
    by_cases c2 : 2 * ((X * u + Y * v).natAbs : Int) ≤ u * u + v * v
    · simp only [c2, decide_true, if_true, bs, Bool.true_and]
      rw [F8l0_fix, if_neg (by decide)]
    · simp only [c2, decide_false, Bool.false_eq_true, if_false, bs, Bool.false_and]
      rw [F8l0_fix, if_neg (by decide)]
  · simp only [c1, decide_false, Bool.false_eq_true, if_false, bs, Bool.false_and]
    rw [F8l0_fix, if_pos (by decide), if_pos (by decide)]
    simp only [g2, bs, t3, s3, w3, Bool.false_eq_true, if_false]
    rw [F8l0_fix, if_neg (by decide)]
end Go.Proofs.Ytenjelagfbceeaa
namespace Go.Proofs.Ytenjelagfbceeaa.magnetCertified
open Go Go.Cl
theorem plain (p0 p1 p2 p3 p4 p5 p6 p7 : Int) (w0 : (Lit.int .i8 p0).wf = true) (w1 : (Lit.int .i8 p1).wf = true) (w2 : (Lit.int .i8 p2).wf = true) (w3 : (Lit.int .i8 p3).wf = true) (w4 : (Lit.int .i16 p4).wf = true) (w5 : (Lit.int .i16 p5).wf = true) (w6 : (Lit.int .i8 p6).wf = true) (w7 : (Lit.int .i8 p7).wf = true) :
    F8 p0 p1 p2 p3 p4 p5 p6 p7 = some true := by
  obtain ⟨a, b, c, d, e, f, h36, hk, be, bf⟩ := F36_eq p0 p1 p2 p3 p4 p5
  obtain ⟨p, L, h30, hs, hm, h4, h28, _⟩ := F28_eq (e := e) (f := f) hk.kit (by omega) (by omega)
  obtain ⟨i, j, k, l, h23, hB, hR, h37⟩ := bundled12 hk
  have hp := (hm p).1 (.head _)
  obtain ⟨s1, ⟨s2, s3⟩, s4, s5⟩ := best12 hk be bf hp
  obtain ⟨s6, s7⟩ := best12s hk be bf hp
  have d6 := tmod_lt (w64 p6) (m := 3) (by omega)
  have d7 := tmod_lt (w64 p7) (m := 3) (by omega)
  have lw : lft a b c d e f p = (e + p.1 * a + p.2 * c) * (e + p.1 * a + p.2 * c) + (f + p.1 * b + p.2 * d) * (f + p.1 * b + p.2 * d) := rfl
  have bx := hR.bx
  have by' := hR.by'
  have bu := hR.bu
  have bv := hR.bv
  have hdet := hB.det
  have hred := hB.red
  -- the other choice
  generalize ht6 : Int.tmod (w64 p6) 3 = t6 at *
  generalize ht7 : Int.tmod (w64 p7) 3 = t7 at *
  have lo : lft a b c d e f (p.1 + t6, p.2 + t7) = (e + (p.1 + t6) * a + (p.2 + t7) * c) * (e + (p.1 + t6) * a + (p.2 + t7) * c) + (f + (p.1 + t6) * b + (p.2 + t7) * d) * (f + (p.1 + t6) * b + (p.2 + t7) * d) := rfl
  have t0 := mul_le (a := t6) (b := a) (m := 2) (n := 12) (by omega) hk.b0 (by omega) (by omega)
  have t1 := mul_le (a := t6) (b := b) (m := 2) (n := 12) (by omega) hk.b1 (by omega) (by omega)
  have t2 := mul_le (a := t7) (b := c) (m := 2) (n := 12) (by omega) hk.b2 (by omega) (by omega)
  have t3 := mul_le (a := t7) (b := d) (m := 2) (n := 12) (by omega) hk.b3 (by omega) (by omega)
  have x1 : e + (p.1 + t6) * a + (p.2 + t7) * c = e + p.1 * a + p.2 * c + t6 * a + t7 * c := by grind
  have x2 : f + (p.1 + t6) * b + (p.2 + t7) * d = f + p.1 * b + p.2 * d + t6 * b + t7 * d := by grind
  have hX : -70 ≤ e + (p.1 + t6) * a + (p.2 + t7) * c ∧ e + (p.1 + t6) * a + (p.2 + t7) * c ≤ 70 := by omega
  have hY : -70 ≤ f + (p.1 + t6) * b + (p.2 + t7) * d ∧ f + (p.1 + t6) * b + (p.2 + t7) * d ≤ 70 := by omega
  have y1 : e + ((p.1 + t6) * a + (p.2 + t7) * c) = e + (p.1 + t6) * a + (p.2 + t7) * c := by omega
  have y2 : f + ((p.1 + t6) * b + (p.2 + t7) * d) = f + (p.1 + t6) * b + (p.2 + t7) * d := by omega
  -- best, or not
  have hbest : Best a b c d e f (p.1 + t6, p.2 + t7) ↔ lft a b c d e f (p.1 + t6, p.2 + t7) = lft a b c d e f p := by
    constructor
    · intro hq
      have := hq p
      have := hp (p.1 + t6, p.2 + t7)
      omega
    · intro he r
      rw [he]; exact hp r
  have near : ∀ q : Int × Int, Best a b c d e f q ↔ near6 (i * a + j * c) (i * b + j * d) (k * a + l * c) (k * b + l * d) (e + q.1 * a + q.2 * c) (f + q.1 * b + q.2 * d) := fun q => by
    obtain ⟨m, n, rfl⟩ := by_bundles hdet q
    rw [best_near6 hdet hred]
    have e1 : e + (m * i + n * k) * a + (m * j + n * l) * c = e + m * (i * a + j * c) + n * (k * a + l * c) := by grind
    have e2 : f + (m * i + n * k) * b + (m * j + n * l) * d = f + m * (i * b + j * d) + n * (k * b + l * d) := by grind
    simp only
    rw [e1, e2]
  have smA : inb 2000 (i * a + j * c) (i * b + j * d) = true := decide_eq_true ⟨by omega, by omega⟩
  have smB : inb 2000 (k * a + l * c) (k * b + l * d) = true := decide_eq_true ⟨by omega, by omega⟩
  have hi := hR.bi
  have hj := hR.bj
  have hkk := hR.bk
  have hl := hR.bl
  have i1 : inb 100000000 i j = true := decide_eq_true ⟨by omega, by omega⟩
  have i2 : inb 100000000 k l = true := decide_eq_true ⟨by omega, by omega⟩
  have ver : ∀ q : Int × Int, (-9000 ≤ q.1 ∧ q.1 ≤ 9000) → (-9000 ≤ q.2 ∧ q.2 ≤ 9000) → F32 a b c d i j k l e f q.1 q.2 = some (if near6 (i * a + j * c) (i * b + j * d) (k * a + l * c) (k * b + l * d) (e + q.1 * a + q.2 * c) (f + q.1 * b + q.2 * d) then 0 else 12) := fun q h1 h2 => by
    rw [F32_eq hk.kit (by omega) (by omega) (decide_eq_true ⟨by omega, by omega⟩) i1 i2, if_pos ⟨hdet, smA, smB, hred⟩]
  have v1 := ver (p.1 + t6, p.2 + t7) (by simp only; omega) (by simp only; omega)
  have v2 := ver p (by omega) (by omega)
  rw [if_pos ((near p).1 hp)] at v2
  have nearo := near (p.1 + t6, p.2 + t7)
  simp only at v1 nearo
  unfold F8
  rw [h36, bs]
  simp only [ht6, ht7]
  rw [h28, bs, h23, bs, h37, bs]
  simp only [bne_self_eq_false, Bool.false_eq_true, if_false, if_true]
  rw [F38_eq s4 s5, bs, if_pos rfl, bs, if_neg Bool.false_ne_true]
  rw [w64_id (x := p.1 + t6) (by omega) (by omega), w64_id (x := p.2 + t7) (by omega) (by omega), show F44 (p.1 + t6) (p.2 + t7) = some (p.1 + t6, p.2 + t7) from rfl, bs]
  try simp only
  rw [F40_eq hk (by omega) (by omega), bs]
  try simp only
  have z1 := mul_le (a := p.1 + t6) (b := a) (m := 8002) (n := 12) (by omega) hk.b0 (by omega) (by omega)
  have z2 := mul_le (a := p.1 + t6) (b := b) (m := 8002) (n := 12) (by omega) hk.b1 (by omega) (by omega)
  have z3 := mul_le (a := p.2 + t7) (b := c) (m := 8002) (n := 12) (by omega) hk.b2 (by omega) (by omega)
  have z4 := mul_le (a := p.2 + t7) (b := d) (m := 8002) (n := 12) (by omega) hk.b3 (by omega) (by omega)
  rw [F39_eq (by omega) (by omega) (by omega) (by omega), bs, y1, y2]
  try simp only
  rw [v1, v2]
  generalize hXX : e + (p.1 + t6) * a + (p.2 + t7) * c = X at *
  generalize hYY : f + (p.1 + t6) * b + (p.2 + t7) * d = Y at *
  generalize i * a + j * c = x at *
  generalize i * b + j * d = y at *
  generalize k * a + l * c = u at *
  generalize k * b + l * d = v at *
  rw [F41_eq (by omega) (by omega) (by omega) (by omega), bs, sg_eq, bs]
  have hsg : sgn x y u v = 1 ∨ sgn x y u v = -1 := by rcases sgn_cases x y u v with h | h; exact .inl h.1; exact .inr h.1
  have su : sgn x y u v * u = u ∨ sgn x y u v * u = -u := by rcases hsg with h | h <;> rw [h] <;> omega
  have sv : sgn x y u v * v = v ∨ sgn x y u v * v = -v := by rcases hsg with h | h <;> rw [h] <;> omega
  rw [w64_id (x := sgn x y u v * u) (by omega) (by omega), w64_id (x := sgn x y u v * v) (by omega) (by omega), F43_eq, bs]
  try simp only
  rw [F39_eq (by omega) (by omega) (by omega) (by omega), bs]
  try simp only
  rw [F8l0_eq bx by' bu bv (by omega) (by omega) hX hY, bs, F41_eq (by omega) (by omega) (by omega) (by omega)]
  have hn : near6 x y u v X Y ↔ (decide (2 * ((X * x + Y * y).natAbs : Int) ≤ x * x + y * y) && (decide (2 * ((X * u + Y * v).natAbs : Int) ≤ u * u + v * v) && decide (2 * ((X * (x + sgn x y u v * u) + Y * (y + sgn x y u v * v)).natAbs : Int) ≤ (x + sgn x y u v * u) * (x + sgn x y u v * u) + (y + sgn x y u v * v) * (y + sgn x y u v * v)))) = true := by
    unfold near6
    simp only [Bool.and_eq_true, decide_eq_true_eq]
    generalize X * x + Y * y = g1
    generalize X * u + Y * v = g2
    generalize X * (x + sgn x y u v * u) + Y * (y + sgn x y u v * v) = g3
    omega
  generalize hG : (decide (2 * ((X * x + Y * y).natAbs : Int) ≤ x * x + y * y) && (decide (2 * ((X * u + Y * v).natAbs : Int) ≤ u * u + v * v) && decide (2 * ((X * (x + sgn x y u v * u) + Y * (y + sgn x y u v * v)).natAbs : Int) ≤ (x + sgn x y u v * u) * (x + sgn x y u v * u) + (y + sgn x y u v * v) * (y + sgn x y u v * v)))) = G at *
  rw [F41_eq (by omega) (by omega) (by omega) (by omega), ← lw, ← lo]
  cases G with
  | true =>
    have hb := hbest.1 (nearo.2 (hn.2 rfl))
    simp only [if_true, bs, hb, beq_self_eq_true, hn.2 rfl]
    rfl
  | false =>
    have hnn : ¬ near6 x y u v X Y := fun h => by have := hn.1 h; cases this
    have hne : ¬ lft a b c d e f (p.1 + t6, p.2 + t7) = lft a b c d e f p := fun h => hnn (nearo.1 (hbest.2 h))
    have hne' : (lft a b c d e f (p.1 + t6, p.2 + t7) == lft a b c d e f p) = false := by simpa using hne
    simp only [Bool.false_eq_true, if_false, bs, hne', hnn, beq_self_eq_true, if_true]
    rfl
end Go.Proofs.Ytenjelagfbceeaa.magnetCertified
