/- All and Best, whole. -/
import Derived.Test.YtenjelagfbceeaaLB2
set_option linter.unusedVariables false
set_option linter.unusedSimpArgs false
set_option maxHeartbeats 4000000
namespace Go.Proofs.Ytenjelagfbceeaa
open Go Go.Cl
theorem bs {α β : Type} {a : α} {f : α → Option β} : (some a >>= f) = f a := rfl
theorem F78_big {u v n x y : Int} (hu : -1000000000000000 ≤ u ∧ u ≤ 1000000000000000) (hv : -1000000000000000 ≤ v ∧ v ≤ 1000000000000000) (hn : -40000000 ≤ n ∧ n ≤ 40000000) (hx : -3000000 ≤ x ∧ x ≤ 3000000) (hy : -3000000 ≤ y ∧ y ≤ 3000000) :
    F78 u v n x y = some (u + n * x, v + n * y) := by
  have h1 := mul_le (m := 40000000) (n := 3000000) hn hx (by omega) (by omega)
  have h2 := mul_le (m := 40000000) (n := 3000000) hn hy (by omega) (by omega)
  unfold F78
  rw [w64_id (x := n * x) (by omega) (by omega), w64_id (x := n * y) (by omega) (by omega), w64_id (x := u + n * x) (by omega) (by omega), w64_id (x := v + n * y) (by omega) (by omega)]
theorem F84k1l0_eq (a b : Int) : ∀ (m : Nat) (L : List (Int × Int)) (i : Nat), i + m = L.length → L.length < 1000000 → ∃ r, F84k1l0 L a b i = some r ∧ ((∃ k : Int, 0 ≤ k ∧ r = .inl k ∧ (a, b) ∈ L) ∨ (r = .inr () ∧ ∀ j, i ≤ j → ∀ h : j < L.length, L[j] ≠ (a, b)))
  | 0, L, i, h, hb => by
    rw [F84k1l0_fix]
    have : ¬ ((i : Int) < (L.length : Int)) := by omega
    simp only [this, decide_false, Bool.false_eq_true, if_false]
    exact ⟨_, rfl, .inr ⟨rfl, fun j h1 h2 => by omega⟩⟩
  | m + 1, L, i, h, hb => by
    rw [F84k1l0_fix]
    have hi : i < L.length := by omega
    have c1 : (i : Int) < (L.length : Int) := by omega
    have c2 : (0 : Int) ≤ (i : Int) ∧ (i : Int) < (L.length : Int) := by omega
    have g : L.getD (Int.toNat (i : Int)) (0, 0) = L[i] := by simp [List.getD, hi]
    rw [if_pos (decide_eq_true c1), if_pos c2, g]
    simp only [bs, F81, Bool.and_true]
    by_cases he : L[i] = (a, b)
    · have : (L[i].1 == a && L[i].2 == b) = true := by rw [he]; simp
      rw [this, if_pos rfl]
      exact ⟨_, rfl, .inl ⟨i, by omega, rfl, he ▸ List.getElem_mem hi⟩⟩
    · have : (L[i].1 == a && L[i].2 == b) = false := by
        apply Bool.eq_false_iff.2
        intro hc
        simp only [Bool.and_eq_true, beq_iff_eq] at hc
        exact he (Prod.ext hc.1 hc.2)
      rw [this, if_neg Bool.false_ne_true, w64_id (by omega) (by omega)]
      obtain ⟨r, h1, h2⟩ := F84k1l0_eq a b m L (i + 1) (by omega) hb
      refine ⟨r, h1, ?_⟩
      rcases h2 with h2 | ⟨h2, h3⟩
      · exact .inl h2
      · refine .inr ⟨h2, fun j hj hjl => ?_⟩
        by_cases e : j = i
        · subst e; exact he
        · exact h3 j (by omega) hjl
theorem F75k1_eq (L : List (Int × Int)) (a b : Int) (hb : L.length < 1000000) : F75k1 L a b = some (decide ((a, b) ∈ L)) := by
  unfold F75k1 F84k1
  obtain ⟨r, h1, h2⟩ := F84k1l0_eq a b L.length L 0 (by omega) hb
  rw [show ((0 : Nat) : Int) = 0 from rfl] at h1
  rw [h1]
  rcases h2 with ⟨k, hk, rfl, hm⟩ | ⟨rfl, hm⟩
  · simp [hm, hk]
  · have : (a, b) ∉ L := fun hc => by
      obtain ⟨j, hj, e⟩ := List.mem_iff_getElem.1 hc
      exact hm j (by omega) hj e
    simp [this]
theorem F72_four {a b c d : Int} (ha : -1000000000000 ≤ a ∧ a ≤ 1000000000000) (hb : -1000000000000 ≤ b ∧ b ≤ 1000000000000) (hc : -4500 ≤ c ∧ c ≤ 4500) (hd : -4500 ≤ d ∧ d ≤ 4500) :
    F72 a b c d = some (a * c + b * d) ∧ w64 (2 * (a * c + b * d)) = 2 * (a * c + b * d) := by
  have h1 := mul_le (m := 1000000000000) (n := 4500) ha hc (by omega) (by omega)
  have h2 := mul_le (m := 1000000000000) (n := 4500) hb hd (by omega) (by omega)
  unfold F72
  rw [w64_id (x := a * c) (by omega) (by omega), w64_id (x := b * d) (by omega) (by omega), w64_id (by omega) (by omega)]
  exact ⟨rfl, w64_id (by omega) (by omega)⟩
theorem sg_eq (x y u v : Int) : (if decide (x * u + y * v > 0) = true then some (-1 : Int) else some 1) = some (sgn x y u v) := by
  unfold sgn
  by_cases h : x * u + y * v > 0 <;> simp [h]
theorem F80_eq {x y u v i j k l : Int} (bx : -2000 ≤ x ∧ x ≤ 2000) (by' : -2000 ≤ y ∧ y ≤ 2000) (bu : -2000 ≤ u ∧ u ≤ 2000) (bv : -2000 ≤ v ∧ v ≤ 2000) :
    F80 x y u v i j k l = some ((x, y), (-x, -y), (u, v), (-u, -v), (x + sgn x y u v * u, y + sgn x y u v * v), (-(x + sgn x y u v * u), -(y + sgn x y u v * v))) := by
  have hs : sgn x y u v = 1 ∨ sgn x y u v = -1 := by rcases sgn_cases x y u v with h | h; exact .inl h.1; exact .inr h.1
  have hm1 : -4500 ≤ x + sgn x y u v * u ∧ x + sgn x y u v * u ≤ 4500 := by rcases hs with h | h <;> rw [h] <;> omega
  have hm2 : -4500 ≤ y + sgn x y u v * v ∧ y + sgn x y u v * v ≤ 4500 := by rcases hs with h | h <;> rw [h] <;> omega
  unfold F80
  rw [(F72_four (by omega) (by omega) (by omega) (by omega)).1, bs, sg_eq, bs, F53_eq (by omega) (by omega) (by omega) (by omega) (by omega), bs,
    F53_eq (by omega) (by omega) (by omega) (by omega) (by omega), bs, F53_eq (by omega) (by omega) (by omega) (by omega) (by omega), bs,
    F53_eq (by omega) (by omega) (by omega) (by omega) (by omega), bs]
  have z : ∀ t : Int, 0 + -1 * t = -t := fun t => by omega
  simp only [z]
/-- What the loops of All have found. -/
structure Found (a b c d e f : Int) (i j k l : Int) (S : Int → Int → Prop) (L : List (Int × Int)) : Prop where
  nd : L.Nodup
  best : ∀ p ∈ L, Best a b c d e f p
  all : ∀ m n, S m n → Best a b c d e f (m * i + n * k, m * j + n * l) → (m * i + n * k, m * j + n * l) ∈ L
theorem F66l1_eq {a b c d e f i j k l : Int} (h : RB a b c d i j k l) (be : -10000 ≤ e ∧ e ≤ 10000) (bf : -10000 ≤ f ∧ f ≤ 10000) {m m0 n0 : Int} (bm : -30000010 ≤ m ∧ m ≤ 30000010) (bn : -30000001 ≤ n0 ∧ n0 ≤ 30000001) :
    ∀ (t : Nat) (n : Int) (S : Int → Int → Prop) (L : List (Int × Int)), n0 - 1 ≤ n → n + t = n0 + 3 → Found a b c d e f i j k l S L →
      ∃ L', F66l1 (i * a + j * c) (i * b + j * d) (k * a + l * c) (k * b + l * d) i j k l e f m0 n0 m n L = some L' ∧ Found a b c d e f i j k l (fun p q => S p q ∨ p = m ∧ n ≤ q ∧ q ≤ n0 + 2) L'
  | 0, n, S, L, hn, ht, F => by
    rw [F66l1_fix, w64_id (x := n0 + 2) (by omega) (by omega)]
    have : ¬ n ≤ n0 + 2 := by omega
    simp only [this, decide_false, Bool.false_eq_true, if_false]
    exact ⟨L, rfl, F.nd, F.best, fun p q hp => F.all p q (by rcases hp with hp | hp; exact hp; omega)⟩
  | t + 1, n, S, L, hn, ht, F => by
    obtain ⟨b1, b2⟩ := h.bds
    have hle : n ≤ n0 + 2 := by omega
    have hL4 := best_four h.kit.nf F.nd F.best
    have hs : sgn (i * a + j * c) (i * b + j * d) (k * a + l * c) (k * b + l * d) = 1 ∨ sgn (i * a + j * c) (i * b + j * d) (k * a + l * c) (k * b + l * d) = -1 := by rcases sgn_cases (i * a + j * c) (i * b + j * d) (k * a + l * c) (k * b + l * d) with h | h; exact .inl h.1; exact .inr h.1
    have step : ∀ L', Found a b c d e f i j k l (fun p q => S p q ∨ p = m ∧ q = n) L' →
        ∃ L'', F66l1 (i * a + j * c) (i * b + j * d) (k * a + l * c) (k * b + l * d) i j k l e f m0 n0 m (w64 (n + 1)) L' = some L'' ∧ Found a b c d e f i j k l (fun p q => S p q ∨ p = m ∧ n ≤ q ∧ q ≤ n0 + 2) L'' := by
      intro L' F'
      rw [w64_id (by omega) (by omega)]
      obtain ⟨L'', h1, h2⟩ := F66l1_eq h be bf bm bn t (n + 1) _ L' (by omega) (by omega) F'
      refine ⟨L'', h1, h2.nd, h2.best, fun p q hp => h2.all p q ?_⟩
      rcases hp with hp | ⟨rfl, hp⟩
      · exact .inl (.inl hp)
      · by_cases e : q = n
        · exact .inl (.inr ⟨rfl, e⟩)
        · exact .inr ⟨rfl, by omega, hp.2⟩
    have hbest := best_near6 (a := a) (b := b) (c := c) (d := d) (e := e) (f := f) (m := m) (n := n) h.det h.red
    have no : ¬ Best a b c d e f (m * i + n * k, m * j + n * l) → Found a b c d e f i j k l (fun p q => S p q ∨ p = m ∧ q = n) L := fun hb => ⟨F.nd, F.best, fun p q hp hB => by
      rcases hp with hp | ⟨rfl, rfl⟩
      · exact F.all p q hp hB
      · exact absurd hB hb⟩
    rw [F66l1_fix, w64_id (x := n0 + 2) (by omega) (by omega)]
    simp only [hle, decide_true, if_true]
    generalize i * a + j * c = x at *
    generalize i * b + j * d = y at *
    generalize k * a + l * c = u at *
    generalize k * b + l * d = v at *
    have mm1 := mul_le (a := m) (b := x) (m := 30000010) (n := 1500) bm b1.1 (by omega) (by omega)
    have mm2 := mul_le (a := m) (b := y) (m := 30000010) (n := 1500) bm b1.2.1 (by omega) (by omega)
    have nn1 := mul_le (a := n) (b := u) (m := 30000010) (n := 1500) (by omega) b2.1 (by omega) (by omega)
    have nn2 := mul_le (a := n) (b := v) (m := 30000010) (n := 1500) (by omega) b2.2.1 (by omega) (by omega)
    rw [F53_big (by omega) (by omega) (by omega) b1.1 b1.2.1, bs, F53_big (by omega) (by omega) (by omega) b2.1 b2.2.1, bs, F80_eq (by omega) (by omega) (by omega) (by omega), bs]
    simp only
    have hX : -1000000000000 ≤ e + m * x + n * u ∧ e + m * x + n * u ≤ 1000000000000 := by omega
    have hY : -1000000000000 ≤ f + m * y + n * v ∧ f + m * y + n * v ≤ 1000000000000 := by omega
    have bw : -4500 ≤ x + sgn x y u v * u ∧ x + sgn x y u v * u ≤ 4500 := by rcases hs with h | h <;> rw [h] <;> omega
    have bz : -4500 ≤ y + sgn x y u v * v ∧ y + sgn x y u v * v ≤ 4500 := by rcases hs with h | h <;> rw [h] <;> omega
    have hw2 : near6 x y u v (e + m * x + n * u) (f + m * y + n * v) ↔
      (-(x * x + y * y) ≤ 2 * ((e + m * x + n * u) * x + (f + m * y + n * v) * y) ∧ 2 * ((e + m * x + n * u) * x + (f + m * y + n * v) * y) ≤ x * x + y * y) ∧
      (-(u * u + v * v) ≤ 2 * ((e + m * x + n * u) * u + (f + m * y + n * v) * v) ∧ 2 * ((e + m * x + n * u) * u + (f + m * y + n * v) * v) ≤ u * u + v * v) ∧
      (-((x + sgn x y u v * u) * (x + sgn x y u v * u) + (y + sgn x y u v * v) * (y + sgn x y u v * v)) ≤ 2 * ((e + m * x + n * u) * (x + sgn x y u v * u) + (f + m * y + n * v) * (y + sgn x y u v * v)) ∧
        2 * ((e + m * x + n * u) * (x + sgn x y u v * u) + (f + m * y + n * v) * (y + sgn x y u v * v)) ≤ (x + sgn x y u v * u) * (x + sgn x y u v * u) + (y + sgn x y u v * v) * (y + sgn x y u v * v)) := Iff.rfl
    generalize x + sgn x y u v * u = w at *
    generalize y + sgn x y u v * v = z at *
    generalize e + m * x + n * u = X at *
    generalize f + m * y + n * v = Y at *
    have neg : ∀ p q : Int, X * -p + Y * -q = -(X * p + Y * q) := fun p q => by grind
    have neq : ∀ p q : Int, -p * -p + -q * -q = p * p + q * q := fun p q => by grind
    obtain ⟨t1, t1'⟩ := F72_four (c := x) (d := y) hX hY (by omega) (by omega)
    obtain ⟨t2, t2'⟩ := F72_four (c := -x) (d := -y) hX hY (by omega) (by omega)
    obtain ⟨t3, t3'⟩ := F72_four (c := u) (d := v) hX hY (by omega) (by omega)
    obtain ⟨t4, t4'⟩ := F72_four (c := -u) (d := -v) hX hY (by omega) (by omega)
    obtain ⟨t5, t5'⟩ := F72_four (c := w) (d := z) hX hY (by omega) (by omega)
    obtain ⟨t6, t6'⟩ := F72_four (c := -w) (d := -z) hX hY (by omega) (by omega)
    rw [neg] at t2 t2' t4 t4' t6 t6'
    rw [t1, bs, F63_sq (by omega) (by omega), bs, t1']
    by_cases c1 : 2 * (X * x + Y * y) > x * x + y * y
    · simp only [c1, decide_true, if_true]
      exact step _ (no fun hb => by have := hw2.1 (hbest.1 hb); omega)
    simp only [c1, decide_false, Bool.false_eq_true, if_false]
    rw [t2, bs, F63_sq (by omega) (by omega), bs, t2', neq]
    by_cases c2 : 2 * -(X * x + Y * y) > x * x + y * y
    · simp only [c2, decide_true, if_true]
      exact step _ (no fun hb => by have := hw2.1 (hbest.1 hb); omega)
    simp only [c2, decide_false, Bool.false_eq_true, if_false]
    rw [t3, bs, F63_sq (by omega) (by omega), bs, t3']
    by_cases c3 : 2 * (X * u + Y * v) > u * u + v * v
    · simp only [c3, decide_true, if_true]
      exact step _ (no fun hb => by have := hw2.1 (hbest.1 hb); omega)
    simp only [c3, decide_false, Bool.false_eq_true, if_false]
    rw [t4, bs, F63_sq (by omega) (by omega), bs, t4', neq]
    by_cases c4 : 2 * -(X * u + Y * v) > u * u + v * v
    · simp only [c4, decide_true, if_true]
      exact step _ (no fun hb => by have := hw2.1 (hbest.1 hb); omega)
    simp only [c4, decide_false, Bool.false_eq_true, if_false]
    rw [t5, bs, F63_sq (by omega) (by omega), bs, t5']
    by_cases c5 : 2 * (X * w + Y * z) > w * w + z * z
    · simp only [c5, decide_true, if_true]
      exact step _ (no fun hb => by have := hw2.1 (hbest.1 hb); omega)
    simp only [c5, decide_false, Bool.false_eq_true, if_false]
    rw [t6, bs, F63_sq (by omega) (by omega), bs, t6', neq]
    by_cases c6 : 2 * -(X * w + Y * z) > w * w + z * z
    · simp only [c6, decide_true, if_true]
      exact step _ (no fun hb => by have := hw2.1 (hbest.1 hb); omega)
    simp only [c6, decide_false, Bool.false_eq_true, if_false]
    have hB : Best a b c d e f (m * i + n * k, m * j + n * l) := hbest.2 (hw2.2 ⟨⟨by omega, by omega⟩, ⟨by omega, by omega⟩, ⟨by omega, by omega⟩⟩)
    have p1 := mul_le (a := m) (b := i) (m := 30000010) (n := 3000000) bm b1.2.2.1 (by omega) (by omega)
    have p2 := mul_le (a := m) (b := j) (m := 30000010) (n := 3000000) bm b1.2.2.2 (by omega) (by omega)
    rw [F78_big (by omega) (by omega) (by omega) b1.2.2.1 b1.2.2.2, bs, F78_big (by omega) (by omega) (by omega) b2.2.2.1 b2.2.2.2, bs]
    simp only [Int.zero_add]
    rw [F75k1_eq _ _ _ (by omega), bs]
    by_cases hm : (m * i + n * k, m * j + n * l) ∈ L
    · simp only [hm, decide_true, if_true, bs, Bool.false_eq_true, if_false]
      exact step _ ⟨F.nd, F.best, fun p q hp hB' => by
        rcases hp with hp | ⟨rfl, rfl⟩
        · exact F.all p q hp hB'
        · exact hm⟩
    · have hle9 : L.length ≤ 1000000000 := by omega
      simp only [hm, decide_false, Bool.false_eq_true, if_false, bs, if_true, hle9]
      refine step _ ⟨?_, fun p hp => ?_, fun p q hp hB' => ?_⟩
      · rw [List.nodup_append]
        exact ⟨F.nd, by simp, fun p hp q hq e => by rw [List.mem_singleton] at hq; subst hq; subst e; exact hm hp⟩
      · rcases List.mem_append.1 hp with hp | hp
        · exact F.best p hp
        · rw [List.mem_singleton] at hp; subst hp; exact hB
      · rw [List.mem_append]
        rcases hp with hp | ⟨rfl, rfl⟩
        · exact .inl (F.all p q hp hB')
        · exact .inr (by simp)
theorem F66l0_eq {a b c d e f i j k l : Int} (h : RB a b c d i j k l) (be : -10000 ≤ e ∧ e ≤ 10000) (bf : -10000 ≤ f ∧ f ≤ 10000) {m0 n0 : Int} (bm : -30000001 ≤ m0 ∧ m0 ≤ 30000001) (bn : -30000001 ≤ n0 ∧ n0 ≤ 30000001) :
    ∀ (t : Nat) (m : Int) (S : Int → Int → Prop) (L : List (Int × Int)), m0 - 1 ≤ m → m + t = m0 + 3 → Found a b c d e f i j k l S L →
      ∃ L', F66l0 (i * a + j * c) (i * b + j * d) (k * a + l * c) (k * b + l * d) i j k l e f m0 n0 L m = some L' ∧ Found a b c d e f i j k l (fun p q => S p q ∨ (m ≤ p ∧ p ≤ m0 + 2) ∧ n0 - 1 ≤ q ∧ q ≤ n0 + 2) L'
  | 0, m, S, L, hm, ht, F => by
    rw [F66l0_fix, w64_id (x := m0 + 2) (by omega) (by omega)]
    have : ¬ m ≤ m0 + 2 := by omega
    simp only [this, decide_false, Bool.false_eq_true, if_false]
    exact ⟨L, rfl, F.nd, F.best, fun p q hp => F.all p q (by rcases hp with hp | hp; exact hp; omega)⟩
  | t + 1, m, S, L, hm, ht, F => by
    rw [F66l0_fix, w64_id (x := m0 + 2) (by omega) (by omega), w64_id (x := n0 - 1) (by omega) (by omega), w64_id (x := m + 1) (by omega) (by omega)]
    have hle : m ≤ m0 + 2 := by omega
    simp only [hle, decide_true, if_true]
    obtain ⟨L', h1, F'⟩ := F66l1_eq (m0 := m0) h be bf (m := m) (n0 := n0) (by omega) bn 4 (n0 - 1) S L (by omega) (by omega) F
    rw [h1, bs]
    obtain ⟨L'', h2, F''⟩ := F66l0_eq h be bf bm bn t (m + 1) _ L' (by omega) (by omega) F'
    refine ⟨L'', h2, F''.nd, F''.best, fun p q hp => F''.all p q ?_⟩
    rcases hp with hp | ⟨hp, hq⟩
    · exact .inl (.inl hp)
    · by_cases e : p = m
      · exact .inl (.inr ⟨e, hq⟩)
      · exact .inr ⟨by omega, hq⟩
end Go.Proofs.Ytenjelagfbceeaa
