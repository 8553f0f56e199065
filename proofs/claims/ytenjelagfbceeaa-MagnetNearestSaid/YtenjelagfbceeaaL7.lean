/- The plain law of MagnetNearest: all steps come to their ends, and each answer is as the law says. -/
import Derived.Test.YtenjelagfbceeaaL7o
set_option linter.unusedVariables false
set_option linter.unusedSimpArgs false
set_option maxHeartbeats 4000000
namespace Go.Proofs.Ytenjelagfbceeaa
open Go Go.Cl
/-- How many of the vectors leave as much. -/
def eqs (e f S : Int) (l : List (Int × Int)) : Nat := (l.filter fun v => decide ((e + v.1) * (e + v.1) + (f + v.2) * (f + v.2) = S)).length
theorem eqs_cons (e f S : Int) (v : Int × Int) (l : List (Int × Int)) : eqs e f S (v :: l) = (if (e + v.1) * (e + v.1) + (f + v.2) * (f + v.2) = S then 1 else 0) + eqs e f S l := by
  unfold eqs
  rw [List.filter_cons]
  by_cases h : (e + v.1) * (e + v.1) + (f + v.2) * (f + v.2) = S
  · simp [h]; omega
  · simp [h]
theorem F7l0_eq {K : (Int × Int) × Int × Int} {e f S : Int} {r5 : List (Int × Int) × Int} {l : List (Int × Int)} (hl : l.length ≤ 10000)
    (hv : ∀ v ∈ l, (-12 ≤ e + v.1 ∧ e + v.1 ≤ 12) ∧ (-12 ≤ f + v.2 ∧ f + v.2 ≤ 12) ∧ S ≤ (e + v.1) * (e + v.1) + (f + v.2) * (f + v.2)) (be : -199 ≤ e ∧ e ≤ 199) (bf : -199 ≤ f ∧ f ≤ 199) :
    ∀ (m : Nat) (i : Nat) (c : Nat), i + m = l.length → c ≤ i → F7l0 (K, (e, f)) r5 S l c i = some (.inr ((c + eqs e f S (l.drop i) : Nat) : Int)) := by
  intro m
  induction m with
  | zero =>
    intro i c hi hc
    rw [F7l0_fix]
    have : ¬ ((i : Int) < (l.length : Int)) := by omega
    rw [if_neg (by simpa using this), List.drop_of_length_le (by omega)]
    simp [eqs]
  | succ m ih =>
    intro i c hi hc
    have hlt : i < l.length := by omega
    have c2 : (0 : Int) ≤ (i : Int) ∧ (i : Int) < (l.length : Int) := by omega
    have g : l.getD (Int.toNat (i : Int)) (0, 0) = l[i] := by simp [List.getD, hlt]
    obtain ⟨v1, v2, v3⟩ := hv l[i] (List.getElem_mem hlt)
    rw [F7l0_fix, if_pos (decide_eq_true c2.2), if_pos c2, g, bs]
    simp only
    rw [F39_eq (by omega) (by omega) (by omega) (by omega), bs, F41_eq (by omega) (by omega) (by omega) (by omega), bs]
    simp only
    have : ¬ ((e + l[i].1) * (e + l[i].1) + (f + l[i].2) * (f + l[i].2) < S) := by omega
    rw [if_neg (by simpa using this), bs, w64_id (x := (c : Int) + 1) (by omega) (by omega), w64_id (x := (i : Int) + 1) (by omega) (by omega)]
    rw [List.drop_eq_getElem_cons hlt, eqs_cons]
    by_cases h : (e + l[i].1) * (e + l[i].1) + (f + l[i].2) * (f + l[i].2) = S
    · simp only [h, beq_self_eq_true, if_true]
      rw [bs]
      have := ih (i + 1) (c + 1) (by omega) (by omega)
      rw [show ((c + 1 : Nat) : Int) = (c : Int) + 1 by omega, show ((i + 1 : Nat) : Int) = (i : Int) + 1 by omega] at this
      rw [this]
      congr 2
      omega
    · have hb : ((e + l[i].1) * (e + l[i].1) + (f + l[i].2) * (f + l[i].2) == S) = false := by simpa using h
      rw [hb, if_neg Bool.false_ne_true, bs]
      have := ih (i + 1) c (by omega) (by omega)
      rw [show ((i + 1 : Nat) : Int) = (i : Int) + 1 by omega] at this
      rw [this, if_neg h, Nat.zero_add]
theorem F7l1_eq {a b c d e f S o : Int} {l : List (Int × Int)} {g : Int} (h : Kit12 a b c d) (hl : l.length ≤ 4) (hs : l.Pairwise plt)
    (hv : ∀ p ∈ l, lft a b c d e f p = S ∧ ((-12 ≤ e + p.1 * a + p.2 * c ∧ e + p.1 * a + p.2 * c ≤ 12) ∧ (-12 ≤ f + p.1 * b + p.2 * d ∧ f + p.1 * b + p.2 * d ≤ 12)) ∧ (-8000 ≤ p.1 ∧ p.1 ≤ 8000) ∧ (-8000 ≤ p.2 ∧ p.2 ≤ 8000)) (be : -199 ≤ e ∧ e ≤ 199) (bf : -199 ≤ f ∧ f ≤ 199) :
    ∀ (m : Nat) (i : Nat), i + m = l.length → F7l1 o (((a, b), (c, d)), (e, f)) (l, g) S i = some (.inr ()) := by
  intro m
  induction m with
  | zero =>
    intro i hi
    rw [F7l1_fix]
    have : ¬ ((i : Int) < (l.length : Int)) := by omega
    rw [if_neg (by simpa using this)]
  | succ m ih =>
    intro i hi
    have hlt : i < l.length := by omega
    have c2 : (0 : Int) ≤ (i : Int) ∧ (i : Int) < (l.length : Int) := by omega
    have g1 : l.getD (Int.toNat (i : Int)) (0, 0) = l[i] := by simp [List.getD, hlt]
    obtain ⟨v1, v2, v3, v4⟩ := hv l[i] (List.getElem_mem hlt)
    have again := ih (i + 1) (by omega)
    rw [show ((i + 1 : Nat) : Int) = (i : Int) + 1 by omega] at again
    rw [F7l1_fix, if_pos (decide_eq_true c2.2), if_pos c2, g1, bs]
    simp only
    rw [F40_eq h v3 v4, bs]
    simp only
    have q1 : e + (l[i].1 * a + l[i].2 * c) = e + l[i].1 * a + l[i].2 * c := by omega
    have q2 : f + (l[i].1 * b + l[i].2 * d) = f + l[i].1 * b + l[i].2 * d := by omega
    rw [F39_eq (by omega) (by omega) (by omega) (by omega), bs, F38_eq v3 v4, bs]
    simp only [if_true, q1, q2]
    rw [F41_eq (by omega) (by omega) (by omega) (by omega), bs, w64_id (x := (i : Int) + 1) (by omega) (by omega)]
    unfold lft at v1
    rw [v1]
    simp only [bne_self_eq_false, Bool.false_eq_true, if_false]
    by_cases hi0 : i = 0
    · subst hi0
      simp only [Int.ofNat_zero, gt_iff_lt, Int.lt_irrefl, decide_false, Bool.false_eq_true, if_false]
      exact again
    · have hp : (i : Int) > 0 := by omega
      have hi1 : i - 1 < l.length := by omega
      have e1 : (i : Int) - 1 = ((i - 1 : Nat) : Int) := by omega
      have c3 : (0 : Int) ≤ ((i - 1 : Nat) : Int) ∧ ((i - 1 : Nat) : Int) < (l.length : Int) := by omega
      have g2 : l.getD (Int.toNat ((i - 1 : Nat) : Int)) (0, 0) = l[i - 1] := by simp [List.getD, hi1]
      have hlt2 := (List.pairwise_iff_getElem.1 hs) (i - 1) i hi1 hlt (by omega)
      rw [if_pos (decide_eq_true hp), w64_id (by omega) (by omega), e1, if_pos c3, g2, bs]
      have k1 : ¬ l[i].1 < l[i - 1].1 := by unfold plt at hlt2; omega
      rw [if_neg (by simpa using k1)]
      by_cases k2 : l[i].1 = l[i - 1].1
      · have k3 : ¬ l[i].2 ≤ l[i - 1].2 := by unfold plt at hlt2; omega
        simp only [k2, beq_self_eq_true, if_true, k3, decide_false]
        exact again
      · have k4 : (l[i].1 == l[i - 1].1) = false := by simpa using k2
        rw [k4, if_neg Bool.false_ne_true]
        exact again
/-- As many vectors leave as much as there are best choices. -/
theorem eqs_best {a b c d e f S : Int} (h : Kit12 a b c d) {l L : List (Int × Int)} (hn : l.Nodup) (hl : ∀ v, v ∈ l ↔ Lat2 a b c d v ∧ (-e - 12 ≤ v.1 ∧ v.1 ≤ -e + 12) ∧ -f - 12 ≤ v.2 ∧ v.2 ≤ -f + 12)
    (hLn : L.Nodup) (hL : ∀ p, p ∈ L ↔ Best a b c d e f p) (hS : ∀ p, Best a b c d e f p ↔ lft a b c d e f p = S) (hb : ∀ p, Best a b c d e f p → ((-12 ≤ e + p.1 * a + p.2 * c ∧ e + p.1 * a + p.2 * c ≤ 12) ∧ (-12 ≤ f + p.1 * b + p.2 * d ∧ f + p.1 * b + p.2 * d ≤ 12))) : eqs e f S l = L.length := by
  have hinj : ∀ p q : Int × Int, (p.1 * a + p.2 * c, p.1 * b + p.2 * d) = (q.1 * a + q.2 * c, q.1 * b + q.2 * d) → p = q := by
    rintro ⟨p1, p2⟩ ⟨q1, q2⟩ he
    simp only [Prod.mk.injEq] at he
    obtain ⟨e1, e2⟩ := he
    have f1 : (p1 - q1) * (a * d - b * c) = (p1 * a + p2 * c - (q1 * a + q2 * c)) * d - (p1 * b + p2 * d - (q1 * b + q2 * d)) * c := by grind
    have f2 : (p2 - q2) * (a * d - b * c) = (p1 * b + p2 * d - (q1 * b + q2 * d)) * a - (p1 * a + p2 * c - (q1 * a + q2 * c)) * b := by grind
    rw [e1, e2, Int.sub_self, Int.sub_self, Int.zero_mul, Int.zero_mul, Int.sub_self] at f1 f2
    have hD := h.nf
    have g1 := (Int.mul_eq_zero.1 f1).resolve_right hD
    have g2 := (Int.mul_eq_zero.1 f2).resolve_right hD
    ext <;> simp only <;> omega
  unfold eqs
  generalize hM : (l.filter fun v => decide ((e + v.1) * (e + v.1) + (f + v.2) * (f + v.2) = S)) = M
  have hMn : M.Nodup := hM ▸ hn.filter _
  have hN := nodup_map (f := fun p : Int × Int => (p.1 * a + p.2 * c, p.1 * b + p.2 * d)) hinj hLn
  have mem : ∀ v, v ∈ M ↔ v ∈ L.map fun p : Int × Int => (p.1 * a + p.2 * c, p.1 * b + p.2 * d) := by
    rintro ⟨x, y⟩
    rw [← hM, List.mem_filter, hl, List.mem_map]
    simp only [decide_eq_true_eq]
    constructor
    · rintro ⟨⟨⟨m, n, h1, h2⟩, _⟩, hs⟩
      simp only at h1 h2
      refine ⟨(m, n), (hL _).2 ((hS _).2 ?_), by simp only [h1, h2]⟩
      unfold lft
      simp only
      rw [← hs, h1, h2, Int.add_assoc, Int.add_assoc]
    · rintro ⟨⟨m, n⟩, hp, he⟩
      simp only [Prod.mk.injEq] at he
      have hB := (hL _).1 hp
      have hb' := hb _ hB
      have hs := (hS _).1 hB
      unfold lft at hs
      simp only at hb' hs
      rw [Int.add_assoc, Int.add_assoc, he.1, he.2] at hs
      rw [Int.add_assoc, Int.add_assoc, he.1, he.2] at hb'
      exact ⟨⟨⟨m, n, he.1.symm, he.2.symm⟩, by omega, by omega, by omega⟩, hs⟩
  have l1 := len_le hMn fun v hv => (mem v).1 hv
  have l2 := len_le hN fun v hv => (mem v).2 hv
  rw [List.length_map] at l1 l2
  omega
end Go.Proofs.Ytenjelagfbceeaa
namespace Go.Proofs.Ytenjelagfbceeaa.magnetNearest
open Go Go.Cl
theorem plain (p0 p1 p2 p3 p4 p5 : Int) (w0 : (Lit.int .i8 p0).wf = true) (w1 : (Lit.int .i8 p1).wf = true) (w2 : (Lit.int .i8 p2).wf = true) (w3 : (Lit.int .i8 p3).wf = true) (w4 : (Lit.int .i16 p4).wf = true) (w5 : (Lit.int .i16 p5).wf = true) :
    F7 p0 p1 p2 p3 p4 p5 = some true := by
  obtain ⟨a, b, c, d, e, f, h36, hk, be, bf⟩ := F36_eq p0 p1 p2 p3 p4 p5
  obtain ⟨p, L, h30, hs, hm, h4, h28, _⟩ := F28_eq (e := e) (f := f) hk.kit (by omega) (by omega)
  obtain ⟨i, j, k, l, h23, hB, hR, h37⟩ := bundled12 hk
  have hp := (hm p).1 (.head _)
  have hb := fun {q : Int × Int} (hq : Best a b c d e f q) => best12 hk be bf hq
  obtain ⟨s1, ⟨s2, s3⟩, s4, s5⟩ := hb hp
  have hcell : 4 * lft a b c d e f p ≤ (i * a + j * c) * (i * a + j * c) + (i * b + j * d) * (i * b + j * d) + ((k * a + l * c) * (k * a + l * c) + (k * b + l * d) * (k * b + l * d)) :=
    cell hB.nf fun m n => by
      have := hp (m * i + n * k, m * j + n * l)
      rw [lft_bundles] at this
      exact this
  have hS : ∀ q, Best a b c d e f q ↔ lft a b c d e f q = lft a b c d e f p := fun q => by
    constructor
    · intro hq
      have := hq p
      have := hp q
      omega
    · intro he r
      rw [he]; exact hp r
  obtain ⟨V, hV, hVn, hVl, hVm⟩ := F42_eq (X := -e) (Y := -f) (R := 12) hk (by omega) (by omega) (by omega)
  have hnd : (p :: L).Nodup := List.Pairwise.imp (fun {p q} (hpq : plt p q) (e : p = q) => by subst e; unfold plt at hpq; omega) hs
  have hcount := eqs_best hk hVn hVm hnd hm hS fun q hq => (hb hq).2.1
  have h0 := F7l0_eq (K := ((a, b), c, d)) (e := e) (f := f) (S := lft a b c d e f p) (r5 := (p :: L, 0)) hVl (fun v hv => by
    obtain ⟨⟨m, n, h1, h2⟩, h3⟩ := (hVm v).1 hv
    refine ⟨by omega, by omega, ?_⟩
    have := hp (m, n)
    rw [h1, h2, ← Int.add_assoc, ← Int.add_assoc]
    exact this) be bf V.length 0 0 (by omega) (by omega)
  have h1 := fun o => F7l1_eq (o := o) (g := 0) (e := e) (f := f) (S := lft a b c d e f p) hk h4 hs (fun q hq => by
    obtain ⟨_, t2, t3, t4⟩ := hb ((hm q).1 hq)
    exact ⟨(hS q).1 ((hm q).1 hq), t2, t3, t4⟩) be bf (p :: L).length 0 (by omega)
  have lw : lft a b c d e f p = (e + p.1 * a + p.2 * c) * (e + p.1 * a + p.2 * c) + (f + p.1 * b + p.2 * d) * (f + p.1 * b + p.2 * d) := rfl
  have q1 : e + (p.1 * a + p.2 * c) = e + p.1 * a + p.2 * c := by omega
  have q2 : f + (p.1 * b + p.2 * d) = f + p.1 * b + p.2 * d := by omega
  have n1 : ¬ (((p :: L).length : Nat) : Int) < 1 := by simp only [List.length_cons]; omega
  have n2 : ¬ (((p :: L).length : Nat) : Int) > 4 := by omega
  have n3 : (0 : Int) ≤ 0 ∧ 0 < (((p :: L).length : Nat) : Int) := by omega
  have bx := hR.bx
  have by' := hR.by'
  have bu := hR.bu
  have bv := hR.bv
  have nn := lft_nn a b c d e f p
  have a1 := mul_le (m := 333) (n := 333) bx bx (by omega) (by omega)
  have a2 := mul_le (m := 333) (n := 333) by' by' (by omega) (by omega)
  have a3 := mul_le (m := 333) (n := 333) bu bu (by omega) (by omega)
  have a4 := mul_le (m := 333) (n := 333) bv bv (by omega) (by omega)
  unfold F7
  rw [h36, bs]
  simp only
  rw [h28, bs, h30, bs, h37, bs]
  simp only [bne_self_eq_false, Bool.false_eq_true, if_false, if_true, n1, n2, decide_false, if_pos n3, Int.toNat_zero, List.getD_cons_zero]
  rw [F38_eq s4 s5, bs]
  simp only [if_true, bs, beq_self_eq_true, Bool.and_self, Bool.not_true, Bool.false_eq_true, if_false]
  rw [F40_eq hk s4 s5, bs]
  simp only
  rw [F39_eq (by omega) (by omega) (by omega) (by omega), bs]
  simp only [q1, q2, beq_self_eq_true, Bool.and_self, Bool.not_true, bs, Bool.false_eq_true, if_false]
  rw [F41_eq (by omega) (by omega) (by omega) (by omega), bs, F41_eq (by omega) (by omega) (by omega) (by omega), bs, F41_eq (by omega) (by omega) (by omega) (by omega), bs, ← lw]
  rw [w64_id (by omega) (by omega), w64_id (by omega) (by omega)]
  have n4 : ¬ 4 * lft a b c d e f p > (i * a + j * c) * (i * a + j * c) + (i * b + j * d) * (i * b + j * d) + ((k * a + l * c) * (k * a + l * c) + (k * b + l * d) * (k * b + l * d)) := by omega
  rw [if_neg (by simpa using n4), w64_id (by omega) (by omega), w64_id (by omega) (by omega), Int.zero_sub, Int.zero_sub, F43_eq, bs]
  simp only
  rw [hV, bs]
  rw [show ((0 : Nat) : Int) = 0 from rfl, List.drop_zero, Nat.zero_add, hcount] at h0
  rw [h0, bs]
  simp only
  have h1' := h1 (((p :: L).length : Nat) : Int)
  rw [show ((0 : Nat) : Int) = 0 from rfl] at h1'
  rw [h1', bs]
  simp only [beq_self_eq_true, if_true]
  rfl
end Go.Proofs.Ytenjelagfbceeaa.magnetNearest
