/- The plain law of MagnetBests: all steps come to their ends, and each answer is as the reference's. -/
import Derived.Test.YtenjelagfbceeaaL5a
set_option linter.unusedVariables false
set_option linter.unusedSimpArgs false
set_option maxHeartbeats 4000000
namespace Go.Proofs.Ytenjelagfbceeaa
open Go Go.Cl
theorem sorted_eq {L M : List (Int × Int)} (hL : L.Pairwise plt) (hM : M.Pairwise plt) (h : ∀ x, x ∈ L ↔ x ∈ M) : L = M := by
  have := down_eq (R := L.reverse) (S := M.reverse) (List.pairwise_reverse.2 hL) (List.pairwise_reverse.2 hM) fun x => by rw [List.mem_reverse, List.mem_reverse]; exact h x
  exact List.reverse_inj.1 this
/-- The reference's errors of a kit, an iron and a choice. -/
theorem F17_eq (a b c d e f p q : Int) {r : Int} (hr : F20 a b c d = some r) : ∃ g, F17 a b c d e f p q = some (g, if r ≠ 0 then r else if inb 10000 e f && inb 100000000 p q then 0 else 1) := by
  unfold F17
  rw [F21_eq, hr, bs, F55_eq _ _ _ (by omega) (by omega), F56_eq]
  by_cases hr0 : r = 0
  · subst hr0
    cases h1 : inb 10000 e f
    · exact ⟨(0, 0), by simp⟩
    · cases h2 : inb 100000000 p q
      · exact ⟨(0, 0), by simp⟩
      · have hk := F20_kit hr
        have b2 := inb_of h2
        rw [F57_eq hk b2.1 b2.2]
        exact ⟨_, by simp; rfl⟩
  · exact ⟨(0, 0), by simp [hr0]⟩
theorem F27_eq {a b c d i j k l : Int} (h : Kit4 a b c d) (hi : inb 100000000 i j = true) (hl : inb 100000000 k l = true) :
    F27 a b c d i j k l = some (decide ((i * l - j * k = 1 ∨ i * l - j * k = -1) ∧ inb 2000 (i * a + j * c) (i * b + j * d) = true ∧ inb 2000 (k * a + l * c) (k * b + l * d) = true ∧ red (i * a + j * c) (i * b + j * d) (k * a + l * c) (k * b + l * d))) := by
  have bi := inb_of hi
  have bl := inb_of hl
  have m1 := mul_le (a := i) (b := l) (m := 100000000) (n := 100000000) bi.1 bl.2 (by omega) (by omega)
  have m2 := mul_le (a := j) (b := k) (m := 100000000) (n := 100000000) bi.2 bl.1 (by omega) (by omega)
  unfold F27
  rw [F57_eq h bi.1 bi.2, bs, F57_eq h bl.1 bl.2, bs, w64_id (x := i * l) (by omega) (by omega), w64_id (x := j * k) (by omega) (by omega), w64_id (by omega) (by omega)]
  simp only
  rw [F55_eq _ _ _ (by omega) (by omega), F55_eq _ _ _ (by omega) (by omega)]
  generalize i * a + j * c = x
  generalize i * b + j * d = y
  generalize k * a + l * c = u
  generalize k * b + l * d = v
  generalize i * l - j * k = D
  by_cases hA : inb 2000 x y = true
  · by_cases hB : inb 2000 u v = true
    · have bA := inb_of hA
      have bB := inb_of hB
      rw [hA, hB, F51_two bA.1 bA.2 bB.1 bB.2]
      by_cases d1 : D = 1
      · subst d1; by_cases hR : red x y u v <;> simp [hR]
      · by_cases d2 : D = -1
        · subst d2; by_cases hR : red x y u v <;> simp [hR]
        · simp [d1, d2]
    · have hB' : inb 2000 u v = false := by simpa using hB
      rw [hB', hA]
      by_cases d1 : D = 1
      · subst d1; simp
      · by_cases d2 : D = -1
        · subst d2; simp
        · simp [d1, d2]
  · have hA' : inb 2000 x y = false := by simpa using hA
    rw [hA']
    by_cases d1 : D = 1
    · subst d1; simp
    · by_cases d2 : D = -1
      · subst d2; simp
      · simp [d1, d2]
theorem F33l0_eq (p q g : Int) (L : List (Int × Int)) (hb : L.length < 1000000) : ∀ (m i : Nat), i + m = L.length → F33l0 p q (L, g) i = some (if (p, q) ∈ L.drop i then .inl () else .inr ()) := by
  intro m
  induction m with
  | zero =>
    intro i hi
    rw [F33l0_fix]
    have : ¬ ((i : Int) < (L.length : Int)) := by omega
    rw [if_neg (by simpa using this), List.drop_of_length_le (by omega)]
    simp
  | succ m ih =>
    intro i hi
    have hlt : i < L.length := by omega
    have c2 : (0 : Int) ≤ (i : Int) ∧ (i : Int) < (L.length : Int) := by omega
    have g0 : L.getD (Int.toNat (i : Int)) (0, 0) = L[i] := by simp [List.getD, hlt]
    have again := ih (i + 1) (by omega)
    rw [show ((i + 1 : Nat) : Int) = (i : Int) + 1 by omega] at again
    rw [F33l0_fix, if_pos (decide_eq_true c2.2), if_pos c2]
    simp only
    rw [g0, bs, w64_id (by omega) (by omega), List.drop_eq_getElem_cons hlt]
    by_cases he : L[i] = (p, q)
    · rw [he]; simp
    · have hne : ¬ ((L[i].1 == p) && ((L[i].2 == q) && true)) = true := fun hc => by
        simp only [Bool.and_true, Bool.and_eq_true, beq_iff_eq] at hc
        exact he (Prod.ext hc.1 hc.2)
      rw [if_neg hne, again]
      have : (p, q) ∈ L[i] :: L.drop (i + 1) ↔ (p, q) ∈ L.drop (i + 1) := by
        rw [List.mem_cons]
        exact ⟨fun h => h.resolve_left fun h => he h.symm, .inr⟩
      simp only [this]
theorem F5l0_same {p0 p1 p2 p3 p4 p5 p6 p7 p8 p9 p10 p11 g g' : Int} {r1 : (Int × Int) × Int × Int} {r3 : Int × Int} (L : List (Int × Int)) (hb : L.length < 1000000) : ∀ (m i : Nat), i + m = L.length → F5l0 p0 p1 p2 p3 p4 p5 p6 p7 p8 p9 p10 p11 r1 r3 (L, g) (L, g') i = some (.inr ()) := by
  intro m
  induction m with
  | zero =>
    intro i hi
    rw [F5l0_fix]
    have : ¬ ((i : Int) < (L.length : Int)) := by omega
    rw [if_neg (by simpa using this)]
  | succ m ih =>
    intro i hi
    have hlt : i < L.length := by omega
    have c2 : (0 : Int) ≤ (i : Int) ∧ (i : Int) < (L.length : Int) := by omega
    have again := ih (i + 1) (by omega)
    rw [show ((i + 1 : Nat) : Int) = (i : Int) + 1 by omega] at again
    rw [F5l0_fix, if_pos (decide_eq_true c2.2), if_pos c2]
    simp only
    rw [bs, show ∀ x y, F19 x y = some (x, y) from fun _ _ => rfl, bs, if_pos c2, bs, w64_id (by omega) (by omega)]
    simp only [beq_self_eq_true, Bool.and_self, Bool.not_true, Bool.false_eq_true, if_false]
    exact again
/-- Verify as the reference. -/
theorem F33_eq (a b c d e f i j k l p q : Int) : ∃ r, F32 a b c d i j k l e f p q = some r ∧ F33 a b c d i j k l e f p q = some r := by
  obtain ⟨r, hr, h52⟩ := F52_eq a b c d e f [(p, q), (i, j), (k, l)] (by simp)
  obtain ⟨g, h17⟩ := F17_eq a b c d e f p q hr
  by_cases hr0 : r = 0
  · subst hr0
    simp only [ne_eq, not_true_eq_false, if_false, List.all_cons, List.all_nil, Bool.and_true] at h52 h17
    have hk := F20_kit hr
    by_cases hin : inb 10000 e f = true ∧ inb 100000000 p q = true ∧ inb 100000000 i j = true ∧ inb 100000000 k l = true
    · obtain ⟨h1, h2, h3, h4⟩ := hin
      have be := inb_of h1
      obtain ⟨L, s, h65, hL1, hL2⟩ := F65_eq (e := e) (f := f) hk be.1 be.2
      have h32 := F32_eq hk be.1 be.2 h2 h3 h4
      refine ⟨_, h32, ?_⟩
      unfold F33
      rw [h17, F56_eq, F56_eq, F27_eq hk h3 h4, h1, h2, h3, h4]
      by_cases hc : (i * l - j * k = 1 ∨ i * l - j * k = -1) ∧ inb 2000 (i * a + j * c) (i * b + j * d) = true ∧ inb 2000 (k * a + l * c) (k * b + l * d) = true ∧ red (i * a + j * c) (i * b + j * d) (k * a + l * c) (k * b + l * d)
      · rw [if_pos hc, decide_eq_true hc, h65]
        have hlen : L.length < 1000000 := by
          have hn : L.Nodup := hL1.imp fun {p q} (hpq : plt p q) (e : p = q) => by subst e; unfold plt at hpq; omega
          have := best_four hk.nf hn fun p hp => (hL2 p).1 hp
          omega
        have hs := F33l0_eq p q s L hlen L.length 0 (by omega)
        rw [show ((0 : Nat) : Int) = 0 from rfl, List.drop_zero] at hs
        have hmem : (p, q) ∈ L ↔ near6 (i * a + j * c) (i * b + j * d) (k * a + l * c) (k * b + l * d) (e + p * a + q * c) (f + p * b + q * d) := by
          rw [hL2]
          obtain ⟨m, n, hpq⟩ := by_bundles hc.1 (p, q)
          rw [hpq, best_near6 hc.1 hc.2.2.2]
          simp only [Prod.mk.injEq] at hpq
          have e1 : e + p * a + q * c = e + m * (i * a + j * c) + n * (k * a + l * c) := by rw [hpq.1, hpq.2]; grind
          have e2 : f + p * b + q * d = f + m * (i * b + j * d) + n * (k * b + l * d) := by rw [hpq.1, hpq.2]; grind
          rw [e1, e2]
        by_cases hn : near6 (i * a + j * c) (i * b + j * d) (k * a + l * c) (k * b + l * d) (e + p * a + q * c) (f + p * b + q * d)
        · have hm := hmem.2 hn
          simp [hs, hm, hn]
        · have hm : ¬ (p, q) ∈ L := fun h => hn (hmem.1 h)
          simp [hs, hm, hn]
      · rw [if_neg hc, decide_eq_false hc]
        simp
    · have h1 : (inb 10000 e f && (inb 100000000 p q && (inb 100000000 i j && inb 100000000 k l))) = false := by
        apply Bool.eq_false_iff.2
        intro h
        simp only [Bool.and_eq_true] at h
        exact hin h
      rw [h1] at h52
      simp only [Bool.false_eq_true, if_false] at h52
      refine ⟨1, ?_, ?_⟩
      · unfold F32
        rw [h52, bs]
        rfl
      · unfold F33
        rw [h17, F56_eq, F56_eq]
        cases a1 : inb 10000 e f <;> cases a2 : inb 100000000 p q <;> cases a3 : inb 100000000 i j <;> cases a4 : inb 100000000 k l <;> first | (exfalso; apply hin; rw [a1, a2, a3, a4]; exact ⟨rfl, rfl, rfl, rfl⟩) | simp
  · refine ⟨r, ?_, ?_⟩
    · unfold F32
      rw [h52, bs]
      simp [hr0]
    · unfold F33
      rw [h17]
      simp [hr0]
end Go.Proofs.Ytenjelagfbceeaa
namespace Go.Proofs.Ytenjelagfbceeaa.magnetBests
open Go Go.Cl
theorem plain (p0 p1 p2 p3 p4 p5 p6 p7 p8 p9 p10 p11 : Int) (w0 : (Lit.int .i64 p0).wf = true) (w1 : (Lit.int .i64 p1).wf = true) (w2 : (Lit.int .i64 p2).wf = true) (w3 : (Lit.int .i64 p3).wf = true) (w4 : (Lit.int .i64 p4).wf = true) (w5 : (Lit.int .i64 p5).wf = true) (w6 : (Lit.int .i64 p6).wf = true) (w7 : (Lit.int .i64 p7).wf = true) (w8 : (Lit.int .i64 p8).wf = true) (w9 : (Lit.int .i64 p9).wf = true) (w10 : (Lit.int .i64 p10).wf = true) (w11 : (Lit.int .i64 p11).wf = true) :
    F5 p0 p1 p2 p3 p4 p5 p6 p7 p8 p9 p10 p11 = some true := by
  obtain ⟨v, hv1, hv2⟩ := F33_eq p0 p1 p2 p3 p4 p5 p6 p7 p8 p9 p10 p11
  have key : ∃ L x, L.length < 1000000 ∧ F28 p0 p1 p2 p3 p4 p5 = some x ∧ F29 p0 p1 p2 p3 p4 p5 = some x ∧ F30 p0 p1 p2 p3 p4 p5 = some (L, x.2.2) ∧ F31 p0 p1 p2 p3 p4 p5 = some (L, x.2.2) := by
    obtain ⟨r, hr, h52⟩ := F52_eq p0 p1 p2 p3 p4 p5 [] (by simp)
    obtain ⟨g, h17⟩ := F17_eq p0 p1 p2 p3 p4 p5 0 0 hr
    have h00 : inb 100000000 0 0 = true := rfl
    by_cases hok : r = 0 ∧ inb 10000 p4 p5 = true
    · obtain ⟨rfl, hi⟩ := hok
      have hk := F20_kit hr
      have be := inb_of hi
      obtain ⟨p, L, h30, hs, hm, h4, h28, hr1, hr2⟩ := F28_eq (e := p4) (f := p5) hk be.1 be.2
      obtain ⟨L2, s, h65, hL1, hL2⟩ := F65_eq (e := p4) (f := p5) hk be.1 be.2
      have hLL : L2 = p :: L := sorted_eq hL1 hs fun x => by rw [hL2, hm]
      subst hLL
      simp only [ne_eq, not_true_eq_false, if_false, hi, h00, Bool.and_self, if_true] at h17
      have hsm := best_small (A := 1000) (E := 13000) (by omega) (by omega) hk.nf hk.b0 hk.b1 hk.b2 hk.b3 (p := p) (by omega) (by omega)
      refine ⟨p :: L, _, by omega, h28, ?_, h30, ?_⟩
      · unfold F29
        rw [h17, bs]
        simp only [bne_self_eq_false, Bool.false_eq_true, if_false]
        have c2 : (0 : Int) ≤ 0 ∧ 0 < ((p :: L).length : Int) := by simp only [List.length_cons]; omega
        rw [h65, bs]
        simp only
        rw [if_pos c2, bs]
        simp only [Int.toNat_zero, List.getD_cons_zero]
        rw [F57_eq hk (by omega) (by omega), bs]
        simp only
        rw [w64_id (x := p4 + (p.1 * p0 + p.2 * p2)) (by omega) (by omega), w64_id (x := p5 + (p.1 * p1 + p.2 * p3)) (by omega) (by omega), ← Int.add_assoc, ← Int.add_assoc]
      · unfold F31
        rw [h17, bs]
        simp only [bne_self_eq_false, Bool.false_eq_true, if_false]
        rw [h65, bs]
    · have hE : ∃ E : Int, E ≠ 0 ∧ F52 p0 p1 p2 p3 p4 p5 [] = some E ∧ F17 p0 p1 p2 p3 p4 p5 0 0 = some (g, E) := by
        by_cases hr0 : r = 0
        · have hi : inb 10000 p4 p5 = false := by
            cases h : inb 10000 p4 p5
            · rfl
            · exact absurd ⟨hr0, h⟩ hok
          subst hr0
          exact ⟨1, by omega, by rw [h52]; simp [hi], by rw [h17]; simp [hi]⟩
        · exact ⟨r, hr0, by rw [h52]; simp [hr0], by rw [h17]; simp [hr0]⟩
      obtain ⟨E, hE0, e1, e2⟩ := hE
      have h30 : F30 p0 p1 p2 p3 p4 p5 = some ([], E) := by
        unfold F30
        rw [e1, bs]
        simp [hE0]
      refine ⟨[], ((0, 0), (0, 0), E), by simp, ?_, ?_, h30, ?_⟩
      · unfold F28
        rw [h30, bs]
        simp [hE0]
      · unfold F29
        rw [e2, bs]
        simp [hE0]
      · unfold F31
        rw [e2, bs]
        simp [hE0]
  obtain ⟨L, x, hL, h28, h29, h30, h31⟩ := key
  have h19 : ∀ x y, F19 x y = some (x, y) := fun _ _ => rfl
  have h18 : ∀ x y, F18 x y = some (x, y) := fun _ _ => rfl
  have loop := F5l0_same (p0 := p0) (p1 := p1) (p2 := p2) (p3 := p3) (p4 := p4) (p5 := p5) (p6 := p6) (p7 := p7) (p8 := p8) (p9 := p9) (p10 := p10) (p11 := p11) (g := x.2.2) (g' := x.2.2) (r1 := ((p0, p1), (p2, p3))) (r3 := (p4, p5)) L hL L.length 0 (by omega)
  rw [show ((0 : Nat) : Int) = 0 from rfl] at loop
  unfold F5
  rw [show F13 p0 p1 p2 p3 = some ((p0, p1), (p2, p3)) from rfl, bs, h18, bs]
  simp only
  rw [h28, bs, h29, bs, h30, bs, h31, bs, h19, bs]
  simp only [beq_self_eq_true, Bool.and_self, Bool.not_true, Bool.false_eq_true, if_false, h18, bs, bne_self_eq_false]
  rw [loop, bs]
  simp only
  rw [hv1, bs, h19, bs, h19, bs, h19, bs]
  simp only
  rw [hv2, bs]
  simp only [beq_self_eq_true, if_true]
  rfl
end Go.Proofs.Ytenjelagfbceeaa.magnetBests
