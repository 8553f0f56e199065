/- CardOnce: the plain law. -/
import Derived.Test.YthpfffijnkmdgaaLM
import Derived.Test.YthpfffijnkmdgaaG7
set_option linter.unusedVariables false
set_option linter.unusedSimpArgs false
set_option maxRecDepth 100000
namespace Go.Proofs.Ythpfffijnkmdgaa.plain
open Go Go.Cl
section
variable {c : Card} {i j : Nat} {m n k : Int} {x y : Rat}
theorem place_inj (hc : Ok c) (hi : i < c.length) (h : Hit (ca c i) (cb c i) n) (g : Hit (ca c i) (cb c i) k) (e : place c i n = place c i k) : n = k := by
 have s := hc.seg hi
 have hd : cb c i - ca c i ≠ 0 := by unfold Hit at h; omega
 unfold place at e
 have e2 : part c i n = part c i k := by grind
 unfold part at e2
 have e3 := (Rat.divInt_eq_divInt_iff hd hd).1 e2
 have e4 := Int.mul_eq_mul_right_iff hd |>.1 e3
 have e5 := Int.mul_eq_mul_right_iff (show (B c i).1 - (A c i).1 ≠ 0 by omega) |>.1 e4
 omega
theorem sAt_inj (hc : Ok c) (hi : i < c.length) (hj : j < c.length) (h : Hit (ca c i) (cb c i) n) (g : Hit (ca c j) (cb c j) k) (e : sAt c i n = sAt c j k) : i = j ∧ n = k := by
 have e1 : place c i n = place c j k := by rw [← norm_sAt hc hi h, ← norm_sAt hc hj g, e]
 have l1 := place_lies hc hi h
 have l2 := place_lies hc hj g
 rw [e1] at l1
 have ij := Lies.uniq hc l1 l2
 subst ij
 exact ⟨rfl, place_inj hc hi h g e1⟩
theorem tl_nodup : (tl m).Nodup := by
 unfold tl
 simp only [List.nodup_cons, List.mem_cons, List.not_mem_nil, or_false, List.nodup_nil, and_true, not_false_eq_true]
 omega
theorem als_nodup (hc : Ok c) : ∀ d v, v + d ≤ c.length → (als c m d v).Nodup := by
 intro d
 induction d with
 | zero => intro v _; exact List.nodup_nil
 | succ d ih =>
  intro v hv
  rw [als, List.nodup_append]
  refine ⟨?_, ih (v + 1) (by omega), fun a ha b hb e => ?_⟩
  · have hs : (sol c m v).Nodup := List.Pairwise.filter _ tl_nodup
    rw [List.nodup_iff_pairwise_ne, List.pairwise_map]
    refine List.Pairwise.imp_of_mem ?_ (List.nodup_iff_pairwise_ne.1 hs)
    intro a b ha hb hne e
    exact hne (sAt_inj hc (by omega) (by omega) (mem_sol.1 ha).2 (mem_sol.1 hb).2 e).2
  obtain ⟨p, hp, ea⟩ := List.mem_map.1 ha
  obtain ⟨i, q, h1, h2, hq, eb⟩ := mem_als.1 hb
  have := (sAt_inj hc (by omega : v < c.length) (by omega : i < c.length) (mem_sol.1 hp).2 (mem_sol.1 hq).2 (by rw [ea, e, eb])).1
  omega
theorem als_ge1 : ∀ d v, (∃ i, v ≤ i ∧ i < v + d ∧ sol c m i ≠ []) → 1 ≤ (als c m d v).length := by
 intro d v ⟨i, a, b, h⟩
 obtain ⟨n, hn⟩ := List.exists_mem_of_ne_nil _ h
 have : sAt c i n ∈ als c m d v := mem_als.2 ⟨i, n, a, b, hn, rfl⟩
 exact List.length_pos_of_mem this
theorem als_ge2 : ∀ d v, (∃ i j, v ≤ i ∧ i < j ∧ j < v + d ∧ sol c m i ≠ [] ∧ sol c m j ≠ []) → 2 ≤ (als c m d v).length := by
 intro d
 induction d with
 | zero => intro v ⟨i, j, a, b, e, _⟩; omega
 | succ d ih =>
  intro v ⟨i, j, a, b, e, h1, h2⟩
  rw [als, List.length_append, List.length_map]
  by_cases ev : i = v
  · subst ev
    have p1 := als_ge1 (c := c) (m := m) d (i + 1) ⟨j, by omega, by omega, h2⟩
    have p2 : 0 < (sol c m i).length := List.length_pos_iff.2 h1
    omega
  have := ih (v + 1) ⟨i, j, by omega, b, by omega, h1, h2⟩
  omega
theorem crossing (s : Nat → Int) (x : Int) : ∀ (d p : Nat), s p ≤ x → x < s (p + d) → ∃ j, p ≤ j ∧ j < p + d ∧ s j ≤ x ∧ x < s (j + 1) := by
 intro d
 induction d with
 | zero => intro p h g; rw [Nat.add_zero] at g; omega
 | succ d ih =>
  intro p h g
  by_cases k : x < s (p + 1)
  · exact ⟨p, Nat.le_refl _, by omega, h, k⟩
  obtain ⟨j, a, b, e⟩ := ih (p + 1) (by omega) (by rw [show p + 1 + d = p + (d + 1) by omega]; exact g)
  exact ⟨j, by omega, by omega, e⟩
theorem sol_ne (hn : (n - m) % 3600 = 0) (m0 : 0 ≤ m) (m1 : m < 3600) (n0 : -5000 ≤ n) (n1 : n < 9000) (h : Hit (ca c i) (cb c i) n) : sol c m i ≠ [] := by
 intro e
 have : n ∈ sol c m i := mem_sol.2 ⟨by unfold tl; simp; omega, h⟩
 rw [e] at this
 cases this
theorem again (hc : Ok c) {v : Nat} (hv : v < c.length) (hf : cb c v < ca c v) : 2 ≤ (als c (ca c v % 3600) c.length 0).length := by
 have e := hc.ends hv
 have q0 : 0 ≤ ca c v % 3600 := by omega
 have q1 : ca c v % 3600 < 3600 := by omega
 have s1 : sol c (ca c v % 3600) v ≠ [] := sol_ne (n := ca c v) (by omega) q0 q1 (by omega) (by omega) (by unfold Hit; omega)
 have hcb := cb_sq (c := c) hv
 by_cases h : ca c v < ca c 0 + 3600
 · have hlt : v + 1 < c.length := by
    refine Classical.byContradiction fun g => ?_
    have : sq c (v + 1) = ca c 0 + 3600 := if_pos (by omega)
    omega
   have hq : sq c (v + 1 + (c.length - (v + 1))) = ca c 0 + 3600 := if_pos (by omega)
   obtain ⟨j, a, b, g1, g2⟩ := crossing (sq c) (ca c v) (c.length - (v + 1)) (v + 1) (by omega) (by rw [hq]; exact h)
   have hj : j < c.length := by omega
   rw [sq_lt hj] at g1
   rw [← cb_sq hj] at g2
   exact als_ge2 _ _ ⟨v, j, by omega, by omega, by omega, s1, sol_ne (n := ca c v) (by omega) q0 q1 (by omega) (by omega) (.inl ⟨g1, g2⟩)⟩
 have h0 : sq c 0 = ca c 0 := sq_lt hc.pos
 have hv' : sq c (0 + v) = ca c v := by rw [Nat.zero_add]; exact sq_lt hv
 obtain ⟨j, a, b, g1, g2⟩ := crossing (sq c) (ca c v - 3600) v 0 (by rw [h0]; omega) (by rw [hv']; omega)
 have hj : j < c.length := by omega
 rw [sq_lt hj] at g1
 rw [← cb_sq hj] at g2
 exact als_ge2 _ _ ⟨j, v, by omega, by omega, by omega, sol_ne (n := ca c v - 3600) (by omega) q0 q1 (by omega) (by omega) (.inl ⟨g1, g2⟩), s1⟩
theorem flat_tl (hc : Ok c) (hi : i < c.length) (m0 : 0 ≤ m) (m1 : m < 3600) : Flat c m i ↔ (ca c i = cb c i ∧ (m - 7200 = ca c i ∨ m - 3600 = ca c i ∨ m = ca c i ∨ m + 3600 = ca c i ∨ m + 7200 = ca c i)) := by
 have e := hc.ends hi
 unfold Flat
 omega
theorem F7l1_step {p0 : List (Int × Int)} {p2 : Int} {r1 : Card} {r3 : List (Int × Int) × Int} {r5 : List Int × Int} {w1 w2 : Int} (hc : Ok c) (hi : i < c.length) (hm : Int.tmod (w64 p2) 3600 = m) (m0 : 0 ≤ m) (m1 : m < 3600) {u t : Int} {b : Bool} (hu : 0 ≤ u ∧ u ≤ 1000) (ht : -2 ≤ t ∧ t ≤ 2) :
 F7l1 p0 p2 r1 r3 r5 (A c i, B c i) w1 w2 u b t = F7l1 p0 p2 r1 r3 r5 (A c i, B c i) w1 w2 (u + (decide (Hit (ca c i) (cb c i) (m + t * 3600))).toNat) (b || decide (ca c i = cb c i ∧ m + t * 3600 = ca c i)) (t + 1) := by
 have e := hc.ends hi
 have r := hc.rng i hi
 have s := hc.seg hi
 rw [F7l1, if_pos (by simpa using ht.2), hm]
 dsimp only
 rw [w64_in (x := (A c i).1 + (A c i).2) (by omega) (by omega), w64_in (x := (B c i).1 + (B c i).2) (by omega) (by omega), w64_in (x := t * 3600) (by omega) (by omega), w64_in (x := m + t * 3600) (by omega) (by omega), w64_in (x := t + 1) (by omega) (by omega), w64_in (x := u + 1) (by omega) (by omega), show (A c i).1 + (A c i).2 = ca c i from rfl, show (B c i).1 + (B c i).2 = cb c i from rfl]
 have h1 : ((if b = true then some true else if (ca c i == cb c i) = true then some (m + t * 3600 == ca c i) else some false) : Option Bool) = some (b || decide (ca c i = cb c i ∧ m + t * 3600 = ca c i)) := by
  cases b
  · by_cases g : ca c i = cb c i
    · rw [if_neg (by decide), if_pos (by simpa using g)]
      congr 1
      rw [Bool.eq_iff_iff]
      simp [g]
    rw [if_neg (by decide), if_neg (by simpa using g)]
    simp [g]
  rfl
 have h2 : ((if decide (ca c i ≤ m + t * 3600) = true then if decide (m + t * 3600 < cb c i) = true then some true else if decide (ca c i ≥ m + t * 3600) = true then some (decide (m + t * 3600 > cb c i)) else some false else if decide (ca c i ≥ m + t * 3600) = true then some (decide (m + t * 3600 > cb c i)) else some false) : Option Bool) = some (decide (Hit (ca c i) (cb c i) (m + t * 3600))) := by
  generalize m + t * 3600 = n
  by_cases g1 : ca c i ≤ n
  · rw [if_pos (by simpa using g1)]
    by_cases g2 : n < cb c i
    · rw [if_pos (by simpa using g2), decide_eq_true (show Hit (ca c i) (cb c i) n from .inl ⟨g1, g2⟩)]
    rw [if_neg (by simpa using g2)]
    by_cases g3 : ca c i ≥ n
    · rw [if_pos (by simpa using g3)]
      congr 1
      rw [decide_eq_decide]
      unfold Hit
      omega
    rw [if_neg (by simpa using g3), decide_eq_false (show ¬ Hit (ca c i) (cb c i) n by unfold Hit; omega)]
  rw [if_neg (by simpa using g1)]
  by_cases g3 : ca c i ≥ n
  · rw [if_pos (by simpa using g3)]
    congr 1
    rw [decide_eq_decide]
    unfold Hit
    omega
  rw [if_neg (by simpa using g3), decide_eq_false (show ¬ Hit (ca c i) (cb c i) n by unfold Hit; omega)]
 rw [h1, h2]
 simp only [Option.bind_eq_bind, Option.bind_some]
 cases decide (Hit (ca c i) (cb c i) (m + t * 3600))
 · simp
 simp
theorem F7l1_eq {p0 : List (Int × Int)} {p2 : Int} {r1 : Card} {r3 : List (Int × Int) × Int} {r5 : List Int × Int} {w1 w2 : Int} (hc : Ok c) (hi : i < c.length) (hm : Int.tmod (w64 p2) 3600 = m) (m0 : 0 ≤ m) (m1 : m < 3600) {u : Int} {b : Bool} (hu : 0 ≤ u ∧ u ≤ 900) :
 F7l1 p0 p2 r1 r3 r5 (A c i, B c i) w1 w2 u b (-2) = some (u + (sol c m i).length, b || decide (Flat c m i)) := by
 have tb : ∀ p : Bool, (p.toNat : Int) ≤ 1 ∧ 0 ≤ (p.toNat : Int) := fun p => by cases p <;> decide
 have t1 := tb (decide (Hit (ca c i) (cb c i) (m + -2 * 3600)))
 have t2 := tb (decide (Hit (ca c i) (cb c i) (m + (-2 + 1) * 3600)))
 have t3 := tb (decide (Hit (ca c i) (cb c i) (m + (-2 + 1 + 1) * 3600)))
 have t4 := tb (decide (Hit (ca c i) (cb c i) (m + (-2 + 1 + 1 + 1) * 3600)))
 have t5 := tb (decide (Hit (ca c i) (cb c i) (m + (-2 + 1 + 1 + 1 + 1) * 3600)))
 rw [F7l1_step hc hi hm m0 m1 (by omega) (by omega), F7l1_step hc hi hm m0 m1 (by omega) (by omega), F7l1_step hc hi hm m0 m1 (by omega) (by omega), F7l1_step hc hi hm m0 m1 (by omega) (by omega), F7l1_step hc hi hm m0 m1 (by omega) (by omega), F7l1, if_neg (by decide)]
 unfold sol
 rw [len_filter_tl]
 have f1 : decide (Flat c m i) = (decide (ca c i = cb c i ∧ m + -2 * 3600 = ca c i) || decide (ca c i = cb c i ∧ m + (-2 + 1) * 3600 = ca c i) || decide (ca c i = cb c i ∧ m + (-2 + 1 + 1) * 3600 = ca c i) || decide (ca c i = cb c i ∧ m + (-2 + 1 + 1 + 1) * 3600 = ca c i) || decide (ca c i = cb c i ∧ m + (-2 + 1 + 1 + 1 + 1) * 3600 = ca c i)) := by
  rw [Bool.eq_iff_iff]
  simp only [Bool.or_eq_true, decide_eq_true_eq]
  rw [flat_tl hc hi m0 m1]
  omega
 rw [f1]
 congr 2
 · rw [show m + -2 * 3600 = m - 7200 by omega, show m + (-2 + 1) * 3600 = m - 3600 by omega, show m + (-2 + 1 + 1) * 3600 = m by omega, show m + (-2 + 1 + 1 + 1) * 3600 = m + 3600 by omega, show m + (-2 + 1 + 1 + 1 + 1) * 3600 = m + 7200 by omega]
   push_cast
   omega
 simp only [Bool.or_assoc]
theorem F7l2_step {p0 : List (Int × Int)} {p2 : Int} {r1 : Card} {r3 : List (Int × Int) × Int} {r5 : List Int × Int} {w1 w2 : Int} (hc : Ok c) (hi : i < c.length) (hm : Int.tmod (w64 p2) 3600 = m) (m0 : 0 ≤ m) (m1 : m < 3600) {u t : Int} {b : Bool} (hu : 0 ≤ u ∧ u ≤ 1000) (ht : -2 ≤ t ∧ t ≤ 2) :
 F7l2 p0 p2 r1 r3 r5 (A c i, B c i) w1 w2 u b t = F7l2 p0 p2 r1 r3 r5 (A c i, B c i) w1 w2 (u + (decide (Hit (ca c i) (cb c i) (m + t * 3600))).toNat) (b || decide (ca c i = cb c i ∧ m + t * 3600 = ca c i)) (t + 1) := by
 have e := hc.ends hi
 have r := hc.rng i hi
 have s := hc.seg hi
 rw [F7l2, if_pos (by simpa using ht.2), hm]
 dsimp only
 rw [w64_in (x := (A c i).1 + (A c i).2) (by omega) (by omega), w64_in (x := (B c i).1 + (B c i).2) (by omega) (by omega), w64_in (x := t * 3600) (by omega) (by omega), w64_in (x := m + t * 3600) (by omega) (by omega), w64_in (x := t + 1) (by omega) (by omega), w64_in (x := u + 1) (by omega) (by omega), show (A c i).1 + (A c i).2 = ca c i from rfl, show (B c i).1 + (B c i).2 = cb c i from rfl]
 have h1 : ((if b = true then some true else if (ca c i == cb c i) = true then some (m + t * 3600 == ca c i) else some false) : Option Bool) = some (b || decide (ca c i = cb c i ∧ m + t * 3600 = ca c i)) := by
  cases b
  · by_cases g : ca c i = cb c i
    · rw [if_neg (by decide), if_pos (by simpa using g)]
      congr 1
      rw [Bool.eq_iff_iff]
      simp [g]
    rw [if_neg (by decide), if_neg (by simpa using g)]
    simp [g]
  rfl
 have h2 : ((if decide (ca c i ≤ m + t * 3600) = true then if decide (m + t * 3600 < cb c i) = true then some true else if decide (ca c i ≥ m + t * 3600) = true then some (decide (m + t * 3600 > cb c i)) else some false else if decide (ca c i ≥ m + t * 3600) = true then some (decide (m + t * 3600 > cb c i)) else some false) : Option Bool) = some (decide (Hit (ca c i) (cb c i) (m + t * 3600))) := by
  generalize m + t * 3600 = n
  by_cases g1 : ca c i ≤ n
  · rw [if_pos (by simpa using g1)]
    by_cases g2 : n < cb c i
    · rw [if_pos (by simpa using g2), decide_eq_true (show Hit (ca c i) (cb c i) n from .inl ⟨g1, g2⟩)]
    rw [if_neg (by simpa using g2)]
    by_cases g3 : ca c i ≥ n
    · rw [if_pos (by simpa using g3)]
      congr 1
      rw [decide_eq_decide]
      unfold Hit
      omega
    rw [if_neg (by simpa using g3), decide_eq_false (show ¬ Hit (ca c i) (cb c i) n by unfold Hit; omega)]
  rw [if_neg (by simpa using g1)]
  by_cases g3 : ca c i ≥ n
  · rw [if_pos (by simpa using g3)]
    congr 1
    rw [decide_eq_decide]
    unfold Hit
    omega
  rw [if_neg (by simpa using g3), decide_eq_false (show ¬ Hit (ca c i) (cb c i) n by unfold Hit; omega)]
 rw [h1, h2]
 simp only [Option.bind_eq_bind, Option.bind_some]
 cases decide (Hit (ca c i) (cb c i) (m + t * 3600))
 · simp
 simp
theorem F7l2_eq {p0 : List (Int × Int)} {p2 : Int} {r1 : Card} {r3 : List (Int × Int) × Int} {r5 : List Int × Int} {w1 w2 : Int} (hc : Ok c) (hi : i < c.length) (hm : Int.tmod (w64 p2) 3600 = m) (m0 : 0 ≤ m) (m1 : m < 3600) {u : Int} {b : Bool} (hu : 0 ≤ u ∧ u ≤ 900) :
 F7l2 p0 p2 r1 r3 r5 (A c i, B c i) w1 w2 u b (-2) = some (u + (sol c m i).length, b || decide (Flat c m i)) := by
 have tb : ∀ p : Bool, (p.toNat : Int) ≤ 1 ∧ 0 ≤ (p.toNat : Int) := fun p => by cases p <;> decide
 have t1 := tb (decide (Hit (ca c i) (cb c i) (m + -2 * 3600)))
 have t2 := tb (decide (Hit (ca c i) (cb c i) (m + (-2 + 1) * 3600)))
 have t3 := tb (decide (Hit (ca c i) (cb c i) (m + (-2 + 1 + 1) * 3600)))
 have t4 := tb (decide (Hit (ca c i) (cb c i) (m + (-2 + 1 + 1 + 1) * 3600)))
 have t5 := tb (decide (Hit (ca c i) (cb c i) (m + (-2 + 1 + 1 + 1 + 1) * 3600)))
 rw [F7l2_step hc hi hm m0 m1 (by omega) (by omega), F7l2_step hc hi hm m0 m1 (by omega) (by omega), F7l2_step hc hi hm m0 m1 (by omega) (by omega), F7l2_step hc hi hm m0 m1 (by omega) (by omega), F7l2_step hc hi hm m0 m1 (by omega) (by omega), F7l2, if_neg (by decide)]
 unfold sol
 rw [len_filter_tl]
 have f1 : decide (Flat c m i) = (decide (ca c i = cb c i ∧ m + -2 * 3600 = ca c i) || decide (ca c i = cb c i ∧ m + (-2 + 1) * 3600 = ca c i) || decide (ca c i = cb c i ∧ m + (-2 + 1 + 1) * 3600 = ca c i) || decide (ca c i = cb c i ∧ m + (-2 + 1 + 1 + 1) * 3600 = ca c i) || decide (ca c i = cb c i ∧ m + (-2 + 1 + 1 + 1 + 1) * 3600 = ca c i)) := by
  rw [Bool.eq_iff_iff]
  simp only [Bool.or_eq_true, decide_eq_true_eq]
  rw [flat_tl hc hi m0 m1]
  omega
 rw [f1]
 congr 2
 · rw [show m + -2 * 3600 = m - 7200 by omega, show m + (-2 + 1) * 3600 = m - 3600 by omega, show m + (-2 + 1 + 1) * 3600 = m by omega, show m + (-2 + 1 + 1 + 1) * 3600 = m + 3600 by omega, show m + (-2 + 1 + 1 + 1 + 1) * 3600 = m + 7200 by omega]
   push_cast
   omega
 simp only [Bool.or_assoc]
theorem at_fold (hc : Ok c) (hr : c.length ≤ 5) {v : Nat} (hv : v < c.length) (hf : cb c v ≤ ca c v) : ∃ r, F24 c (ca c v % 3600) = some r ∧ (ca c v = cb c v → r.2 = 16) ∧ (cb c v < ca c v → r.2 = 16 ∨ (r.2 = 0 ∧ 2 ≤ r.1.length)) := by
 have q0 : 0 ≤ ca c v % 3600 := by omega
 have q1 : ca c v % 3600 < 3600 := by omega
 by_cases h : ∃ i, i < c.length ∧ Flat c (ca c v % 3600) i
 · exact ⟨_, F24_flat hc q0 q1 h, fun _ => rfl, fun _ => .inl rfl⟩
 obtain ⟨S, f, _, p, _⟩ := F24_eq hc q0 q1 (fun i hi g => h ⟨i, hi, g⟩) (by have := als_short hc q0 q1 c.length 0 (by omega); omega)
 refine ⟨_, f, fun e => absurd ⟨v, hv, e, by omega⟩ h, fun g => .inr ⟨rfl, ?_⟩⟩
 dsimp only
 rw [List.length_map, p.length_eq]
 exact again hc hv g
open Classical in
noncomputable def fla (c : Card) (m : Int) (v : Nat) : Bool := decide (∃ i, v ≤ i ∧ i < c.length ∧ Flat c m i)
theorem fla_iff {v : Nat} : fla c m v = true ↔ ∃ i, v ≤ i ∧ i < c.length ∧ Flat c m i := by unfold fla; simp
theorem seg_loop {p0 : List (Int × Int)} {p2 : Int} {r3 : List (Int × Int) × Int} {F : List Int} {e : Int} (hc : Ok c) (hr : c.length ≤ 5) (hm : Int.tmod (w64 p2) 3600 = m) (m0 : 0 ≤ m) (m1 : m < 3600) (hF : F.length ≤ 100) : ∀ (d v kf u : Nat) (b : Bool), v + d = c.length → F.drop kf = fol c d v → kf ≤ F.length → u ≤ 2 * v →
 F7l0 p0 p2 c r3 (F, e) u b kf v = some (.inr ((u : Int) + (als c m d v).length, b || fla c m v, (F.length : Int))) := by
 intro d
 induction d with
 | zero =>
  intro v kf u b hd h hk hu
  rw [fol, List.drop_eq_nil_iff] at h
  rw [F7l0, if_neg (by simp; omega), show kf = F.length by omega, als]
  have : fla c m v = false := Bool.eq_false_iff.2 (fun h => by obtain ⟨i, a, b, _⟩ := fla_iff.1 h; omega)
  rw [this]
  simp
 | succ d ih =>
  intro v kf u b hd h hk hu
  have hlt : v < c.length := by omega
  have en := hc.ends hlt
  have r := hc.rng v hlt
  have s := hc.seg hlt
  have sl := sol_len hc hlt m0 m1
  have fin : ∀ (kf' : Nat), F.drop kf' = fol c d (v + 1) → kf' ≤ F.length → F7l0 p0 p2 c r3 (F, e) ((u : Int) + (sol c m v).length) (b || decide (Flat c m v)) kf' ((v + 1 : Nat) : Int) = some (.inr ((u : Int) + (als c m (d + 1) v).length, b || fla c m v, (F.length : Int))) := by
   intro kf' h' hk'
   have := ih (v + 1) kf' (u + (sol c m v).length) (b || decide (Flat c m v)) (by omega) h' hk' (by omega)
   rw [Int.natCast_add] at this
   rw [this, als, List.length_append, List.length_map]
   have ed : (b || decide (Flat c m v) || fla c m (v + 1)) = (b || fla c m v) := by
    rw [Bool.or_assoc]
    congr 1
    rw [Bool.eq_iff_iff]
    simp only [Bool.or_eq_true, decide_eq_true_eq, fla_iff]
    constructor
    · rintro (g | ⟨i, a, b, g⟩)
      · exact ⟨v, Nat.le_refl _, hlt, g⟩
      exact ⟨i, by omega, b, g⟩
    rintro ⟨i, a, b, g⟩
    by_cases ei : i = v
    · rw [ei] at g; exact .inl g
    exact .inr ⟨i, by omega, b, g⟩
   rw [ed]
   congr 3
   push_cast
   omega
  rw [F7l0, if_pos (by simp; omega), F39_eq hc hlt]
  simp only [Option.bind_eq_bind, Option.bind_some]
  rw [w64_in (x := (A c v).1 + (A c v).2) (by omega) (by omega), w64_in (x := (B c v).1 + (B c v).2) (by omega) (by omega), show (A c v).1 + (A c v).2 = ca c v from rfl, show (B c v).1 + (B c v).2 = cb c v from rfl, w64_up (v := v) (by omega)]
  rw [fol] at h
  by_cases hf : cb c v ≤ ca c v
  · rw [if_pos hf] at h
    have hk2 : kf < F.length := by
     refine Classical.byContradiction fun hn => ?_
     rw [List.drop_eq_nil_of_le (by omega)] at h
     cases h
    rw [List.drop_eq_getElem_cons hk2] at h
    injection h with h1 h2
    obtain ⟨q, f24, a1, a2⟩ := at_fold hc hr hlt hf
    have hmod : Int.tmod (w64 (Int.tmod (ca c v) 3600 + 3600)) 3600 = ca c v % 3600 := by
     have ht : -3600 < Int.tmod (ca c v) 3600 ∧ Int.tmod (ca c v) 3600 < 3600 := ⟨Int.lt_tmod_of_pos _ (by decide), Int.tmod_lt_of_pos _ (by decide)⟩
     rw [w64_in (by omega) (by omega), Int.tmod_eq_emod_of_nonneg (by omega)]
     have hq := Int.tmod_add_mul_tdiv (ca c v) 3600
     omega
    rw [if_pos (by simpa using hf), if_neg (by simp; omega), if_pos ⟨by omega, by omega⟩, hmod]
    simp only [Option.bind_some, Int.toNat_natCast, cons_get _ hk2, h1, bne_self_eq_false, Bool.false_eq_true, if_false]
    rw [f24]
    simp only [Option.bind_some]
    have code : ((if (ca c v == cb c v) = true then if (q.2 != 16) = true then some true else if decide (ca c v > cb c v) = true then if (q.2 != 0) = true then if (q.2 == 0) = true then some (decide ((q.1.length : Int) < 2)) else some false else if (q.2 == 0) = true then some (decide ((q.1.length : Int) < 2)) else some false else some false else if decide (ca c v > cb c v) = true then if (q.2 != 0) = true then if (q.2 != 16) = true then some true else if (q.2 == 0) = true then some (decide ((q.1.length : Int) < 2)) else some false else if (q.2 == 0) = true then some (decide ((q.1.length : Int) < 2)) else some false else some false) : Option Bool) = some false := by
     by_cases g : ca c v = cb c v
     · rw [if_pos (by simpa using g), a1 g, if_neg (by decide), if_neg (by simp; omega)]
     rw [if_neg (by simpa using g), if_pos (by simp; omega)]
     rcases a2 (by omega) with e1 | ⟨e1, e2⟩
     · rw [e1]; rfl
     rw [e1]
     have : decide ((q.1.length : Int) < 2) = false := decide_eq_false (by omega)
     rw [this]; rfl
    rw [code]
    simp only [Option.bind_some, Bool.false_eq_true, if_false]
    rw [F7l1_eq hc hlt hm m0 m1 (by omega)]
    simp only [Option.bind_some]
    rw [w64_up (v := kf) (by omega)]
    exact fin (kf + 1) h2 (by omega)
  rw [if_neg hf] at h
  rw [if_neg (by simpa using hf), F7l2_eq hc hlt hm m0 m1 (by omega)]
  simp only [Option.bind_some]
  exact fin kf h hk
theorem each_loop {p0 : List (Int × Int)} {p2 : Int} {S : List Rat} {e : Int} (hc : Ok c) (hm : Int.tmod (w64 p2) 3600 = m) (m0 : 0 ≤ m) (m1 : m < 3600) (hS : S.length ≤ 12) (hall : ∀ x ∈ S, ∃ i n, i < c.length ∧ (n - m) % 3600 = 0 ∧ Hit (ca c i) (cb c i) n ∧ x = sAt c i n) (hlt : ∀ v (h : v + 1 < S.length), S[v] < S[v + 1]) : ∀ (d v : Nat), v + d = S.length → F7l3 p0 p2 c (S.map fr, e) v = some (.inr ()) := by
 intro d
 induction d with
 | zero => intro v hd; rw [F7l3, if_neg (by simp; omega)]
 | succ d ih =>
  intro v hd
  have hv : v < S.length := by omega
  obtain ⟨i, n, hi, hn, hh, ex⟩ := hall _ (List.getElem_mem hv)
  obtain ⟨q1, q2, q3⟩ := sAt_rng hc hi hh
  obtain ⟨N, D, f41, D0, D1, hN⟩ := F41_sAt hc hi hh
  have en := hc.ends hi
  have hget : ∀ k, k < S.length → List.getD (S.map fr) k (0, 0) = fr (S.getD k 0) := fun k hk => by rw [cons_get _ (by rw [List.length_map]; exact hk), List.getElem_map, cons_get _ hk]
  have hgv : S.getD v 0 = sAt c i n := by rw [cons_get _ hv, ex]
  rw [F7l3, if_pos (by simp; omega), if_pos ⟨by omega, by dsimp only; rw [List.length_map]; omega⟩, w64_up (by omega), hm]
  simp only [Option.bind_eq_bind, Option.bind_some, show ((v : Int)).toNat = v from rfl]
  rw [hget v hv, hgv, F40_fit q1 q2 (by omega)]
  simp only [Option.bind_some, Bool.not_true, Bool.false_eq_true, if_false]
  have f42 : F42 N D m = some true := F42_lead D0 hN hn (by omega) (by unfold Hit at hh; omega) (by omega)
  have code : ((if decide ((v : Int) > 0) = true then if (0 : Int) ≤ w64 ((v : Int) - 1) ∧ w64 ((v : Int) - 1) < ((S.map fr).length : Int) then (some (List.getD (S.map fr) (Int.toNat (w64 ((v : Int) - 1))) (0, 0))).bind fun o402 => some (decide (w64 (o402.1 * (fr (sAt c i n)).2) ≥ w64 ((fr (sAt c i n)).1 * o402.2))) else none else some false) : Option Bool) = some false := by
   by_cases h0 : v = 0
   · rw [h0]; rfl
   obtain ⟨i', n', hi', hn', hh', ex'⟩ := hall _ (List.getElem_mem (show v - 1 < S.length by omega))
   obtain ⟨q1', q2', q3'⟩ := sAt_rng hc hi' hh'
   have hl := hlt (v - 1) (by omega)
   have e1 : S[v - 1 + 1]'(by omega) = S[v] := by congr 1; omega
   rw [e1, ex, ex'] at hl
   have w0 : w64 ((v : Int) - 1) = ((v - 1 : Nat) : Int) := by rw [w64_in (by omega) (by omega)]; omega
   rw [if_pos (by simp; omega), w0, if_pos ⟨by omega, by rw [List.length_map]; omega⟩, Int.toNat_natCast, hget _ (by omega)]
   simp only [Option.bind_some]
   rw [show S.getD (v - 1) 0 = sAt c i' n' by rw [cons_get _ (by omega), ex']]
   have sx := sm_3600 q1 q2 q3
   have sy := sm_3600 q1' q2' q3'
   have b1 := b62 (a := (sAt c i' n').num) (b := ((sAt c i n).den : Int)) (3600 * 5400) 5400 sy.num (by have := sx.den; omega) (by decide)
   have b2 := b62 (a := (sAt c i n).num) (b := ((sAt c i' n').den : Int)) (3600 * 5400) 5400 sx.num (by have := sy.den; omega) (by decide)
   have h3 := (Rat.lt_iff _ _).1 hl
   show some (decide (w64 ((sAt c i' n').num * ((sAt c i n).den : Int)) ≥ w64 ((sAt c i n).num * ((sAt c i' n').den : Int)))) = some false
   rw [w64_in (by have := b1.1; omega) (by have := b1.2; omega), w64_in (by have := b2.1; omega) (by have := b2.2; omega), decide_eq_false (by omega)]
  simp only [Option.bind_some] at code
  rw [code]
  simp only [Option.bind_some, Bool.false_eq_true, if_false]
  rw [f41]
  simp only [Option.bind_some]
  rw [f42]
  simp only [Option.bind_some, Bool.not_true, Bool.false_eq_true, if_false]
  exact ih (v + 1) (by omega)
end
end Go.Proofs.Ythpfffijnkmdgaa.plain
namespace Go.Proofs.Ythpfffijnkmdgaa
open Go Go.Cl plain
theorem plain (p0 : List (Int × Int)) (p1 p2 : Int) (wp0 : ∀ x ∈ p0, (Lit.int .u16 x.1).wf = true ∧ (Lit.int .u16 x.2).wf = true) (wp1 : (Lit.int .u8 p1).wf = true) (wp2 : (Lit.int .u16 p2).wf = true) : F7 p0 p1 p2 = some true := by
 obtain ⟨c, f38, hr, hc⟩ := made (fun x hx => ⟨u16_of (wp0 x hx).1, u16_of (wp0 x hx).2⟩) (u8_of wp1)
 obtain ⟨u0, u1⟩ := u16_of wp2
 have hl := hr.le
 obtain ⟨t1, t2, t3⟩ := tmod_in (x := p2) (S := 3600) u0 (by decide)
 obtain ⟨m, hm⟩ : ∃ m, Int.tmod (w64 p2) 3600 = m := ⟨_, rfl⟩
 have hm' : m = p2 % 3600 := by rw [← hm, w64_in (by omega) (by omega), t1]
 have m0 : 0 ≤ m := by omega
 have m1 : m < 3600 := by omega
 have hfl := len_fol c c.length 0
 unfold F7
 rw [f38, hm]
 simp only [Option.bind_eq_bind, Option.bind_some]
 have main : ∀ r3 : List (Int × Int) × Int, F7l0 p0 p2 c r3 (fol c c.length 0, 0) 0 false 0 0 = some (.inr (((als c m c.length 0).length : Int), fla c m 0, ((fol c c.length 0).length : Int))) := by
  intro r3
  have := seg_loop (p0 := p0) (p2 := p2) (r3 := r3) (F := fol c c.length 0) (e := 0) hc hl hm m0 m1 (by omega) c.length 0 0 0 false (by omega) rfl (Nat.zero_le _) (Nat.zero_le _)
  have e1 : ((0 : Nat) : Int) + ((als c m c.length 0).length : Int) = ((als c m c.length 0).length : Int) := by omega
  rw [e1, Bool.false_or] at this
  exact this
 by_cases hfe : ∃ i, i < c.length ∧ Flat c m i
 · rw [F24_flat hc m0 m1 hfe]
   simp only [Option.bind_some]
   rw [F19_eq (by omega), ck_of hc]
   simp only [Option.bind_some, if_true]
   rw [main, show fla c m 0 = true from fla_iff.2 (by obtain ⟨i, h⟩ := hfe; exact ⟨i, Nat.zero_le _, h⟩)]
   simp only [Option.bind_some, bne_self_eq_false, Bool.false_eq_true, if_false, if_true]
   rfl
 have hsh := als_short hc m0 m1 c.length 0 (by omega)
 obtain ⟨S, f24, _, hperm, hsort⟩ := F24_eq hc m0 m1 (fun i hi hf => hfe ⟨i, hi, hf⟩) (by omega)
 have hlen := hperm.length_eq
 have hnd : S.Nodup := hperm.nodup_iff.2 (als_nodup hc c.length 0 (by omega))
 have f3 : ∀ e : Int, F7l3 p0 p2 c (S.map fr, e) 0 = some (.inr ()) := fun e => each_loop hc hm m0 m1 (by omega) (fun x hx => by
  obtain ⟨i, n, _, b, hn, e⟩ := mem_als.1 (hperm.mem_iff.1 hx)
  exact ⟨i, n, by omega, (mem_tl (mem_sol.1 hn).1).1, (mem_sol.1 hn).2, e⟩) (fun v h => by
  have h1 := List.pairwise_iff_getElem.1 hsort v (v + 1) (by omega) h (by omega)
  have h2 := List.pairwise_iff_getElem.1 (List.nodup_iff_pairwise_ne.1 hnd) v (v + 1) (by omega) h (by omega)
  exact Rat.lt_of_le_of_ne h1 h2) S.length 0 (by omega)
 rw [f24]
 simp only [Option.bind_some]
 rw [F19_eq (by omega), ck_of hc]
 simp only [Option.bind_some, if_true]
 rw [main, show fla c m 0 = false from Bool.eq_false_iff.2 (fun h => by obtain ⟨i, _, h⟩ := fla_iff.1 h; exact hfe ⟨i, h⟩)]
 simp only [Option.bind_some, bne_self_eq_false, Bool.false_eq_true, if_false]
 have e1 : (((S.map fr).length : Int) != ((als c m c.length 0).length : Int)) = false := by rw [List.length_map, hlen]; simp
 rw [e1]
 simp only [Bool.false_eq_true, if_false]
 have e2 : ((if (((fol c c.length 0).length : Int) == 0) = true then some (((als c m c.length 0).length : Int) != 1) else some false) : Option Bool) = some false := by
  by_cases hz : (fol c c.length 0).length = 0
  · have hs : Sound c := fun i hi => by
     refine Classical.byContradiction fun g => ?_
     exact fol_some (c := c) c.length 0 ⟨i, Nat.zero_le _, by omega, by omega⟩ (List.length_eq_zero_iff.1 hz)
    obtain ⟨i, n, _, _, _, ha⟩ := als_one hc hs m0 m1
    rw [ha, if_pos (by simp [hz])]
    rfl
  rw [if_neg (by simpa using hz)]
 rw [e2]
 simp only [Option.bind_some, Bool.false_eq_true, if_false]
 rw [f3]
 rfl
end Go.Proofs.Ythpfffijnkmdgaa
