/- What All, Best and Reduce answer. -/
import Derived.Test.YtenjelagfbceeaaLB3
set_option linter.unusedVariables false
set_option linter.unusedSimpArgs false
set_option maxHeartbeats 4000000
namespace Go.Proofs.Ytenjelagfbceeaa
open Go Go.Cl
theorem lft_nn (a b c d e f : Int) (p : Int × Int) : 0 ≤ lft a b c d e f p := by
  unfold lft
  have := sq_nn (e + p.1 * a + p.2 * c)
  have := sq_nn (f + p.1 * b + p.2 * d)
  omega
theorem best_ex (a b c d e f : Int) : ∃ p, Best a b c d e f p := by
  have : ∀ (n : Nat) (p : Int × Int), lft a b c d e f p ≤ n → ∃ p, Best a b c d e f p := by
    intro n
    induction n with
    | zero =>
      intro p hp
      exact ⟨p, fun q => by have := lft_nn a b c d e f q; omega⟩
    | succ n ih =>
      intro p hp
      by_cases h : ∃ q, lft a b c d e f q ≤ n
      · obtain ⟨q, hq⟩ := h
        exact ih q hq
      · refine ⟨p, fun q => ?_⟩
        have : ¬ lft a b c d e f q ≤ n := fun hq => h ⟨q, hq⟩
        omega
  exact this (lft a b c d e f (0, 0)).toNat (0, 0) (Int.self_le_toNat _)
theorem F59_eq {a b c d : Int} (ha : -1000000 ≤ a ∧ a ≤ 1000000) (hb : -1000000 ≤ b ∧ b ≤ 1000000) (hc : -1000000 ≤ c ∧ c ≤ 1000000) (hd : -1000000 ≤ d ∧ d ≤ 1000000) : F59 a b c d = some (a * d - b * c) := by
  have h1 := mul_le (m := 1000000) (n := 1000000) ha hd (by omega) (by omega)
  have h2 := mul_le (m := 1000000) (n := 1000000) hb hc (by omega) (by omega)
  unfold F59
  rw [w64_id (x := a * d) (by omega) (by omega), w64_id (x := b * c) (by omega) (by omega), w64_id (by omega) (by omega)]
/-- Each best choice lies in the window. -/
theorem in_window {a b c d e f i j k l m n m0 n0 : Int} (h : RB a b c d i j k l) (hm : m0 = if 0 < (i * a + j * c) * (k * b + l * d) - (i * b + j * d) * (k * a + l * c) then (-(e * (k * b + l * d) - f * (k * a + l * c))) / ((i * a + j * c) * (k * b + l * d) - (i * b + j * d) * (k * a + l * c)) else (e * (k * b + l * d) - f * (k * a + l * c)) / (-((i * a + j * c) * (k * b + l * d) - (i * b + j * d) * (k * a + l * c))))
    (hn : n0 = if 0 < (i * a + j * c) * (k * b + l * d) - (i * b + j * d) * (k * a + l * c) then (-((i * a + j * c) * f - (i * b + j * d) * e)) / ((i * a + j * c) * (k * b + l * d) - (i * b + j * d) * (k * a + l * c)) else ((i * a + j * c) * f - (i * b + j * d) * e) / (-((i * a + j * c) * (k * b + l * d) - (i * b + j * d) * (k * a + l * c))))
    (hb : Best a b c d e f (m * i + n * k, m * j + n * l)) : (m0 - 1 ≤ m ∧ m ≤ m0 + 1) ∧ n0 - 1 ≤ n ∧ n ≤ n0 + 1 := by
  obtain ⟨c1, c2⟩ := near6_cross h.red h.nf ((best_near6 h.det h.red).1 hb)
  have nf := h.nf
  generalize i * a + j * c = x at *
  generalize i * b + j * d = y at *
  generalize k * a + l * c = u at *
  generalize k * b + l * d = v at *
  refine ⟨window nf hm ?_, window nf hn ?_⟩
  · have e1 : (e + m * x + n * u) * v - (f + m * y + n * v) * u = e * v - f * u + m * (x * v - y * u) := by grind
    rw [← e1]; exact c1
  · have e1 : x * (f + m * y + n * v) - y * (e + m * x + n * u) = x * f - y * e + n * (x * v - y * u) := by grind
    rw [← e1]; exact c2
theorem F66_eq {a b c d e f i j k l q0 q1 q2 q3 : Int} (h : RB a b c d i j k l) (be : -10000 ≤ e ∧ e ≤ 10000) (bf : -10000 ≤ f ∧ f ≤ 10000) :
    ∃ L, F66 (i * a + j * c) (i * b + j * d) (k * a + l * c) (k * b + l * d) i j k l q0 q1 q2 q3 e f = some L ∧ L.Pairwise plt ∧ (∀ p, p ∈ L ↔ Best a b c d e f p) ∧ L.length ≤ 4 ∧ L ≠ [] := by
  obtain ⟨b1, b2⟩ := h.bds
  have nf := h.nf
  have win := fun m n m0 n0 => in_window (e := e) (f := f) (m := m) (n := n) (m0 := m0) (n0 := n0) h
  have loop := fun m0 n0 bm bn => F66l0_eq h be bf (m0 := m0) (n0 := n0) bm bn 4 (m0 - 1) (fun _ _ => False) [] (by omega) (by omega) ⟨List.nodup_nil, fun p hp => (by cases hp), fun _ _ hp => hp.elim⟩
  have hbun := fun p => by_bundles h.det p
  have h4 := fun {L : List (Int × Int)} => best_four (L := L) (e := e) (f := f) h.kit.nf
  obtain ⟨pe, hpe⟩ := best_ex a b c d e f
  unfold F66
  generalize i * a + j * c = x at *
  generalize i * b + j * d = y at *
  generalize k * a + l * c = u at *
  generalize k * b + l * d = v at *
  have m1 := mul_le (a := e) (b := v) (m := 10000) (n := 1500) be b2.2.1 (by omega) (by omega)
  have m2 := mul_le (a := f) (b := u) (m := 10000) (n := 1500) bf b2.1 (by omega) (by omega)
  have m3 := mul_le (a := x) (b := f) (m := 1500) (n := 10000) b1.1 bf (by omega) (by omega)
  have m4 := mul_le (a := y) (b := e) (m := 1500) (n := 10000) b1.2.1 be (by omega) (by omega)
  have m5 := mul_le (a := x) (b := v) (m := 1500) (n := 1500) b1.1 b2.2.1 (by omega) (by omega)
  have m6 := mul_le (a := y) (b := u) (m := 1500) (n := 1500) b1.2.1 b2.1 (by omega) (by omega)
  rw [F59_eq (by omega) (by omega) (by omega) (by omega), bs, F59_eq (by omega) (by omega) (by omega) (by omega), bs, w64_id (x := 0 - (e * v - f * u)) (by omega) (by omega),
    F69_any nf (by omega) (by omega), bs, F59_eq (by omega) (by omega) (by omega) (by omega), bs, w64_id (x := 0 - (x * f - y * e)) (by omega) (by omega), F69_any nf (by omega) (by omega), bs]
  generalize hm0 : (if 0 < x * v - y * u then (0 - (e * v - f * u)) / (x * v - y * u) else -(0 - (e * v - f * u)) / -(x * v - y * u)) = m0
  generalize hn0 : (if 0 < x * v - y * u then (0 - (x * f - y * e)) / (x * v - y * u) else -(0 - (x * f - y * e)) / -(x * v - y * u)) = n0
  have hm0' : m0 = if 0 < x * v - y * u then (-(e * v - f * u)) / (x * v - y * u) else (e * v - f * u) / (-(x * v - y * u)) := by
    rw [← hm0, show (0 - (e * v - f * u)) = -(e * v - f * u) by omega, Int.neg_neg]
  have hn0' : n0 = if 0 < x * v - y * u then (-(x * f - y * e)) / (x * v - y * u) else (x * f - y * e) / (-(x * v - y * u)) := by
    rw [← hn0, show (0 - (x * f - y * e)) = -(x * f - y * e) by omega, Int.neg_neg]
  have qb : ∀ {w n0 : Int}, (-30000000 ≤ w ∧ w ≤ 30000000) → n0 = (if 0 < x * v - y * u then (-w) / (x * v - y * u) else w / (-(x * v - y * u))) → -30000001 ≤ n0 ∧ n0 ≤ 30000001 := by
    intro w n0 hw h0
    split at h0
    · rename_i hp; rw [h0]; exact div_bd (m := 30000000) hp (by omega) (by omega)
    · rename_i hp; rw [h0]; exact div_bd (m := 30000000) (by omega) (by omega) (by omega)
  have bm := qb (by omega) hm0'
  have bn := qb (by omega) hn0'
  rw [w64_id (x := m0 - 1) (by omega) (by omega)]
  obtain ⟨L', h1, F'⟩ := loop m0 n0 bm bn
  rw [h1, bs]
  have hL4 := h4 F'.nd F'.best
  obtain ⟨R, hR, hD, hmem⟩ := sort82_eq (L := L') (by omega) F'.nd
  have hall : ∀ p, p ∈ R ↔ Best a b c d e f p := fun p => by
    rw [hmem]
    refine ⟨F'.best p, fun hb => ?_⟩
    obtain ⟨m, n, rfl⟩ := hbun p
    have := win m n m0 n0 hm0' hn0' hb
    exact F'.all m n (.inr ⟨by omega, by omega, by omega⟩) hb
  rw [hR, bs]
  have hRn : R.Nodup := List.Pairwise.imp (fun {p q} (hpq : plt q p) (e : p = q) => by subst e; unfold plt at hpq; omega) hD
  refine ⟨R.reverse, rfl, List.pairwise_reverse.2 hD, fun p => by rw [List.mem_reverse]; exact hall p, by rw [List.length_reverse]; exact h4 hRn fun p hp => (hall p).1 hp, fun e0 => ?_⟩
  have := (hall pe).2 hpe
  rw [List.reverse_eq_nil_iff] at e0
  rw [e0] at this
  cases this
/-- Which lists of choices are small. -/
theorem F84l0_eq : ∀ (m : Nat) (L : List (Int × Int)) (i : Nat), i + m = L.length → L.length < 1000000 → ∃ r, F84l0 L i = some r ∧ ((∃ k : Int, 0 ≤ k ∧ r = .inl k ∧ ∃ p ∈ L, inb 100000000 p.1 p.2 = false) ∨ (r = .inr () ∧ ∀ j, i ≤ j → ∀ h : j < L.length, inb 100000000 L[j].1 L[j].2 = true))
  | 0, L, i, h, hb => by
    rw [F84l0_fix]
    have : ¬ ((i : Int) < (L.length : Int)) := by omega
    simp only [this, decide_false, Bool.false_eq_true, if_false]
    exact ⟨_, rfl, .inr ⟨rfl, fun j h1 h2 => by omega⟩⟩
  | m + 1, L, i, h, hb => by
    rw [F84l0_fix]
    have hi : i < L.length := by omega
    have c1 : (i : Int) < (L.length : Int) := by omega
    have c2 : (0 : Int) ≤ (i : Int) ∧ (i : Int) < (L.length : Int) := by omega
    have g : L.getD (Int.toNat (i : Int)) (0, 0) = L[i] := by simp [List.getD, hi]
    rw [if_pos (decide_eq_true c1), if_pos c2, g]
    have e76 : F76 L[i].1 L[i].2 = some (!inb 100000000 L[i].1 L[i].2) := by
      unfold F76 F77 inb
      rw [F68_eq, F68_eq]
      by_cases h1 : -100000000 ≤ L[i].1 ∧ L[i].1 ≤ 100000000
      · by_cases h2 : -100000000 ≤ L[i].2 ∧ L[i].2 ≤ 100000000 <;> simp [h1, h2]
      · simp [h1]
    rw [bs, e76, bs]
    cases he : inb 100000000 L[i].1 L[i].2
    · exact ⟨_, rfl, .inl ⟨i, by omega, rfl, L[i], List.getElem_mem hi, he⟩⟩
    · rw [Bool.not_true, if_neg Bool.false_ne_true, w64_id (by omega) (by omega)]
      obtain ⟨r, h1, h2⟩ := F84l0_eq m L (i + 1) (by omega) hb
      refine ⟨r, h1, ?_⟩
      rcases h2 with h2 | ⟨h2, h3⟩
      · exact .inl h2
      · refine .inr ⟨h2, fun j hj hjl => ?_⟩
        by_cases e : j = i
        · subst e; exact he
        · exact h3 j (by omega) hjl
theorem F75_eq (L : List (Int × Int)) (hb : L.length < 1000000) : F75 L = some (L.any fun p => !inb 100000000 p.1 p.2) := by
  unfold F75 F84
  obtain ⟨r, h1, h2⟩ := F84l0_eq L.length L 0 (by omega) hb
  rw [show ((0 : Nat) : Int) = 0 from rfl] at h1
  rw [h1]
  rcases h2 with ⟨k, hk, rfl, p, hp, hs⟩ | ⟨rfl, hm⟩
  · have : L.any (fun p => !inb 100000000 p.1 p.2) = true := List.any_eq_true.2 ⟨p, hp, by rw [hs]; rfl⟩
    simp [this, hk]
  · have : L.any (fun p => !inb 100000000 p.1 p.2) = false := by
      rw [List.any_eq_false]
      intro p hp
      obtain ⟨j, hj, rfl⟩ := List.mem_iff_getElem.1 hp
      rw [hm j (by omega) hj]; simp
    rw [this]; simp
/-- The errors of a kit, an iron and choices. -/
theorem F52_eq (a b c d e f : Int) (L : List (Int × Int)) (hb : L.length < 1000000) : ∃ r, F20 a b c d = some r ∧ F52 a b c d e f L = some (if r ≠ 0 then r else if inb 10000 e f && L.all (fun p => inb 100000000 p.1 p.2) then 0 else 1) := by
  unfold F52
  rw [F20_eq, bs]
  refine ⟨_, rfl, ?_⟩
  generalize (if (inb 1000 a b && inb 1000 c d) = true then if a * d - b * c = 0 then (15 : Int) else 0 else 1) = r
  by_cases hr : r = 0
  · subst hr
    rw [F58_eq _ _ _ (by omega) (by omega), F75_eq L hb]
    have : (L.any fun p => !inb 100000000 p.1 p.2) = !(L.all fun p => inb 100000000 p.1 p.2) := by
      induction L with
      | nil => rfl
      | cons p L ih => simp only [List.any_cons, List.all_cons, ih (by simp only [List.length_cons] at hb; omega), Bool.not_and]
    rw [this]
    cases inb 10000 e f <;> cases (L.all fun p => inb 100000000 p.1 p.2) <;> simp
  · simp [hr]
theorem F20_kit {a b c d : Int} (h : F20 a b c d = some 0) : Kit4 a b c d := by
  rcases F20_cases a b c d with ⟨_, hk⟩ | ⟨e, he, h2⟩
  · exact hk
  · rw [h2] at h; exact absurd (Option.some.inj h) he
theorem kit_F20 {a b c d : Int} (h : Kit4 a b c d) : F20 a b c d = some 0 := by
  rw [F20_eq]
  have h1 : inb 1000 a b = true := decide_eq_true ⟨h.b0, h.b1⟩
  have h2 : inb 1000 c d = true := decide_eq_true ⟨h.b2, h.b3⟩
  simp [h1, h2, h.nf]
theorem RB_of {a b c d : Int} (h : Kit4 a b c d) : ∃ i j k l, F61 a b c d = some (((i * a + j * c, i * b + j * d), (k * a + l * c, k * b + l * d)), (i, j), (k, l)) ∧ RB a b c d i j k l := by
  obtain ⟨i, j, k, l, h1, h2, h3⟩ := F61_eq h
  exact ⟨i, j, k, l, h1, h, h2.det, h3, h2⟩
/-- All's answer. -/
theorem F30_eq {a b c d e f : Int} (h : Kit4 a b c d) (be : -10000 ≤ e ∧ e ≤ 10000) (bf : -10000 ≤ f ∧ f ≤ 10000) : ∃ L, F30 a b c d e f = some (L, 0) ∧ L.Pairwise plt ∧ (∀ p, p ∈ L ↔ Best a b c d e f p) ∧ L.length ≤ 4 ∧ L ≠ [] := by
  obtain ⟨i, j, k, l, h1, hB⟩ := RB_of h
  obtain ⟨L, h2, h3⟩ := F66_eq (q0 := a) (q1 := b) (q2 := c) (q3 := d) hB be bf
  obtain ⟨r, hr, h52⟩ := F52_eq a b c d e f [] (by simp)
  rw [kit_F20 h] at hr
  obtain rfl := Option.some.inj hr
  have hi : inb 10000 e f = true := decide_eq_true ⟨be, bf⟩
  refine ⟨L, ?_, h3⟩
  unfold F30
  rw [h52, hi, bs]
  simp only [ne_eq, not_true_eq_false, if_false, List.all_nil, Bool.and_self, if_true, bne_self_eq_false, Bool.false_eq_true]
  rw [h1, bs, h2, bs]
theorem F54_eq {a b c d i j : Int} (h : Kit4 a b c d) (hi : -100000000 ≤ i ∧ i ≤ 100000000) (hj : -100000000 ≤ j ∧ j ≤ 100000000) : F54 a b c d i j = some (i * a + j * c, i * b + j * d) := by
  have m1 := mul_le (a := i) (b := a) (m := 100000000) (n := 1000) hi h.b0 (by omega) (by omega)
  have m2 := mul_le (a := i) (b := b) (m := 100000000) (n := 1000) hi h.b1 (by omega) (by omega)
  have := h.b0; have := h.b1; have := h.b2; have := h.b3
  unfold F54
  rw [F53_big (by omega) (by omega) (by omega) (by omega) (by omega), bs, F53_big (by omega) (by omega) (by omega) (by omega) (by omega), bs]
  simp only [Int.zero_add]
theorem F53_one {u v x y : Int} (hu : -1000000000000000 ≤ u ∧ u ≤ 1000000000000000) (hv : -1000000000000000 ≤ v ∧ v ≤ 1000000000000000) (hx : -1000000000000000 ≤ x ∧ x ≤ 1000000000000000) (hy : -1000000000000000 ≤ y ∧ y ≤ 1000000000000000) : F53 u v 1 x y = some (u + x, v + y) := by
  unfold F53
  rw [Int.one_mul, Int.one_mul, w64_id (x := x) (by omega) (by omega), w64_id (x := y) (by omega) (by omega), w64_id (x := u + x) (by omega) (by omega), w64_id (x := v + y) (by omega) (by omega)]
/-- Best's answer. -/
theorem F28_eq {a b c d e f : Int} (h : Kit4 a b c d) (be : -10000 ≤ e ∧ e ≤ 10000) (bf : -10000 ≤ f ∧ f ≤ 10000) : ∃ p L, F30 a b c d e f = some (p :: L, 0) ∧ (p :: L).Pairwise plt ∧ (∀ q, q ∈ p :: L ↔ Best a b c d e f q) ∧ (p :: L).length ≤ 4 ∧
    F28 a b c d e f = some (p, (e + p.1 * a + p.2 * c, f + p.1 * b + p.2 * d), 0) ∧ ((-3000 ≤ e + p.1 * a + p.2 * c ∧ e + p.1 * a + p.2 * c ≤ 3000) ∧ (-3000 ≤ f + p.1 * b + p.2 * d ∧ f + p.1 * b + p.2 * d ≤ 3000)) := by
  obtain ⟨L, h1, h2, h3, h4, h5⟩ := F30_eq h be bf
  cases L with
  | nil => exact absurd rfl h5
  | cons p L =>
    obtain ⟨i, j, k, l, _, hB⟩ := RB_of h
    have hb := (h3 p).1 (.head _)
    have hr := hB.rest hb
    have hs := best_small (A := 1000) (E := 13000) (by omega) (by omega) h.nf h.b0 h.b1 h.b2 h.b3 (p := p) (by omega) (by omega)
    refine ⟨p, L, h1, h2, h3, h4, ?_, hr⟩
    unfold F28
    rw [h1, bs]
    have c2 : (0 : Int) ≤ 0 ∧ 0 < ((p :: L).length : Int) := by simp only [List.length_cons]; omega
    simp only [bne_self_eq_false, Bool.false_eq_true, if_false, if_pos c2, Int.toNat_zero, List.getD_cons_zero]
    rw [bs, F54_eq h (by omega) (by omega), bs, F53_one (by omega) (by omega) (by omega) (by omega), bs, ← Int.add_assoc, ← Int.add_assoc]
theorem F23_eq {a b c d : Int} (h : Kit4 a b c d) : ∃ i j k l, F23 a b c d = some ((i, j), (k, l), 0) ∧ RB a b c d i j k l := by
  obtain ⟨i, j, k, l, h1, hB⟩ := RB_of h
  refine ⟨i, j, k, l, ?_, hB⟩
  unfold F23
  rw [kit_F20 h, bs]
  simp only [bne_self_eq_false, Bool.false_eq_true, if_false]
  rw [h1, bs]
end Go.Proofs.Ytenjelagfbceeaa
