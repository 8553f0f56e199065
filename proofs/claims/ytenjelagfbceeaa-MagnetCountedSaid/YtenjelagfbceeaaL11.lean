/- The plain law of MagnetCounted: all steps come to their ends, and each answer is as the law says. -/
import Derived.Test.YtenjelagfbceeaaL11o
set_option linter.unusedVariables false
set_option linter.unusedSimpArgs false
set_option maxHeartbeats 4000000
namespace Go.Proofs.Ytenjelagfbceeaa
open Go Go.Cl
/-- How many of the vectors leave so little. -/
def les (e f S : Int) (l : List (Int × Int)) : Nat := (l.filter fun v => decide ((e + v.1) * (e + v.1) + (f + v.2) * (f + v.2) ≤ S)).length
theorem les_cons (e f S : Int) (v : Int × Int) (l : List (Int × Int)) : les e f S (v :: l) = (if (e + v.1) * (e + v.1) + (f + v.2) * (f + v.2) ≤ S then 1 else 0) + les e f S l := by
  unfold les
  rw [List.filter_cons]
  by_cases h : (e + v.1) * (e + v.1) + (f + v.2) * (f + v.2) ≤ S
  · simp [h]; omega
  · simp [h]
theorem F11l0_eq {K : (Int × Int) × Int × Int} {e f S : Int} {r3 : Int × Int} {l : List (Int × Int)} (hl : l.length ≤ 10000) (hS : 0 ≤ S ∧ S ≤ 255)
    (hv : ∀ v ∈ l, (-16 ≤ e + v.1 ∧ e + v.1 ≤ 16) ∧ (-16 ≤ f + v.2 ∧ f + v.2 ≤ 16)) (be : -199 ≤ e ∧ e ≤ 199) (bf : -199 ≤ f ∧ f ≤ 199) :
    ∀ (m : Nat) (i : Nat) (c : Nat), i + m = l.length → c ≤ i → F11l0 S (K, (e, f)) r3 l c i = some ((c + les e f S (l.drop i) : Nat) : Int) := by
  intro m
  induction m with
  | zero =>
    intro i c hi hc
    rw [F11l0_fix]
    have : ¬ ((i : Int) < (l.length : Int)) := by omega
    rw [if_neg (by simpa using this), List.drop_of_length_le (by omega)]
    simp [les]
  | succ m ih =>
    intro i c hi hc
    have hlt : i < l.length := by omega
    have c2 : (0 : Int) ≤ (i : Int) ∧ (i : Int) < (l.length : Int) := by omega
    have g : l.getD (Int.toNat (i : Int)) (0, 0) = l[i] := by simp [List.getD, hlt]
    obtain ⟨v1, v2⟩ := hv l[i] (List.getElem_mem hlt)
    rw [F11l0_fix, if_pos (decide_eq_true c2.2), if_pos c2, g, bs]
    simp only
    rw [F39_eq (by omega) (by omega) (by omega) (by omega), bs]
    simp only
    rw [F41_eq (by omega) (by omega) (by omega) (by omega), bs, w64_id (x := (c : Int) + 1) (by omega) (by omega), w64_id (x := (i : Int) + 1) (by omega) (by omega), w64_id (x := S) (by omega) (by omega)]
    rw [List.drop_eq_getElem_cons hlt, les_cons]
    by_cases h : (e + l[i].1) * (e + l[i].1) + (f + l[i].2) * (f + l[i].2) ≤ S
    · simp only [h, decide_true, if_true]
      rw [bs]
      have := ih (i + 1) (c + 1) (by omega) (by omega)
      rw [show ((c + 1 : Nat) : Int) = (c : Int) + 1 by omega, show ((i + 1 : Nat) : Int) = (i : Int) + 1 by omega] at this
      rw [this]
      congr 2
      omega
    · simp only [h, decide_false, Bool.false_eq_true, if_false]
      rw [bs]
      have := ih (i + 1) c (by omega) (by omega)
      rw [show ((i + 1 : Nat) : Int) = (i : Int) + 1 by omega] at this
      rw [this, Nat.zero_add]
theorem lat_inj {a b c d : Int} (hD : a * d - b * c ≠ 0) : ∀ p q : Int × Int, (p.1 * a + p.2 * c, p.1 * b + p.2 * d) = (q.1 * a + q.2 * c, q.1 * b + q.2 * d) → p = q := by
  rintro ⟨p1, p2⟩ ⟨q1, q2⟩ he
  simp only [Prod.mk.injEq] at he
  obtain ⟨e1, e2⟩ := he
  have f1 : (p1 - q1) * (a * d - b * c) = (p1 * a + p2 * c - (q1 * a + q2 * c)) * d - (p1 * b + p2 * d - (q1 * b + q2 * d)) * c := by grind
  have f2 : (p2 - q2) * (a * d - b * c) = (p1 * b + p2 * d - (q1 * b + q2 * d)) * a - (p1 * a + p2 * c - (q1 * a + q2 * c)) * b := by grind
  rw [e1, e2, Int.sub_self, Int.sub_self, Int.zero_mul, Int.zero_mul, Int.sub_self] at f1 f2
  have g1 := (Int.mul_eq_zero.1 f1).resolve_right hD
  have g2 := (Int.mul_eq_zero.1 f2).resolve_right hD
  ext <;> simp only <;> omega
/-- As many vectors leave so little as choices do. -/
theorem les_counts {a b c d e f S : Int} (h : Kit12 a b c d) (hS : 0 ≤ S ∧ S ≤ 255) {l : List (Int × Int)} (hn : l.Nodup) (hl : ∀ v, v ∈ l ↔ Lat2 a b c d v ∧ (-e - 16 ≤ v.1 ∧ v.1 ≤ -e + 16) ∧ -f - 16 ≤ v.2 ∧ v.2 ≤ -f + 16) {n : Nat} (hc : Counts (Small a b c d e f S) n) : les e f S l = n := by
  obtain ⟨L, hLn, hL, rfl⟩ := hc
  unfold les
  generalize hM : (l.filter fun v => decide ((e + v.1) * (e + v.1) + (f + v.2) * (f + v.2) ≤ S)) = M
  have hMn : M.Nodup := hM ▸ hn.filter _
  have hN := nodup_map (f := fun p : Int × Int => (p.1 * a + p.2 * c, p.1 * b + p.2 * d)) (lat_inj h.nf) hLn
  have mem : ∀ v, v ∈ M ↔ v ∈ L.map fun p : Int × Int => (p.1 * a + p.2 * c, p.1 * b + p.2 * d) := by
    rintro ⟨x, y⟩
    rw [← hM, List.mem_filter, hl, List.mem_map]
    simp only [decide_eq_true_eq]
    constructor
    · rintro ⟨⟨⟨m, n, h1, h2⟩, _⟩, hs⟩
      simp only at h1 h2
      refine ⟨(m, n), (hL _).2 ?_, by simp only [h1, h2]⟩
      unfold Small
      simp only
      rw [Int.add_assoc, ← h1, Int.add_assoc, ← h2]
      exact hs
    · rintro ⟨⟨m, n⟩, hp, he⟩
      simp only [Prod.mk.injEq] at he
      have hs := (hL _).1 hp
      unfold Small at hs
      simp only at hs
      rw [Int.add_assoc, Int.add_assoc, he.1, he.2] at hs
      have n1 := sq_nn (e + x)
      have n2 := sq_nn (f + y)
      have b1 := sq_bd (a := e + x) (m := 16) (by omega) (by omega)
      have b2 := sq_bd (a := f + y) (m := 16) (by omega) (by omega)
      exact ⟨⟨⟨m, n, he.1.symm, he.2.symm⟩, by omega, by omega, by omega⟩, hs⟩
  have l1 := len_le hMn fun v hv => (mem v).1 hv
  have l2 := len_le hN fun v hv => (mem v).2 hv
  rw [List.length_map] at l1 l2
  omega
theorem Counts.mono {S T : Int × Int → Prop} {n m : Nat} (h : Counts S n) (k : Counts T m) (hST : ∀ c, S c → T c) : n ≤ m := by
  obtain ⟨l, h1, h2, rfl⟩ := h
  obtain ⟨l', k1, k2, rfl⟩ := k
  exact len_le h1 fun x hx => (k2 x).2 (hST x ((h2 x).1 hx))
theorem F34_small {a b c d e f q : Int} (h : Kit4 a b c d) (be : -10000 ≤ e ∧ e ≤ 10000) (bf : -10000 ≤ f ∧ f ≤ 10000) (bq : 0 ≤ q ∧ q ≤ 1000) : ∃ r, F34 a b c d e f q = some (r, 0) ∧ 0 ≤ r ∧ Counts (Small a b c d e f q) r.toNat := by
  obtain ⟨r, hr, h52⟩ := F52_eq a b c d e f [] (by simp)
  rw [kit_F20 h] at hr
  obtain rfl := Option.some.inj hr
  have hib : inb 10000 e f = true := decide_eq_true ⟨be, bf⟩
  simp only [ne_eq, not_true_eq_false, if_false, hib, List.all_nil, Bool.and_self, if_true] at h52
  refine F34_ok h be bf ⟨bq.1, by omega⟩ h52 ?_
  have m1 := mul_le (m := 1000) (n := 1000) h.b0 h.b3 (by omega) (by omega)
  have m2 := mul_le (m := 1000) (n := 1000) h.b1 h.b2 (by omega) (by omega)
  have nf := h.nf
  rw [w64_id (x := a * d) (by omega) (by omega), w64_id (x := b * c) (by omega) (by omega), w64_id (x := a * d - b * c) (by omega) (by omega), w64_id (x := 0 - (a * d - b * c)) (by omega) (by omega), mx_abs, w64_id (by omega) (by omega)]
  omega
theorem u8_of {x : Int} (h : (Lit.int .u8 x).wf = true) : 0 ≤ x ∧ x ≤ 255 := by
  simp [Lit.wf, IntKind.signed, IntKind.bits, IntKind.min, IntKind.max] at h
  omega
end Go.Proofs.Ytenjelagfbceeaa
namespace Go.Proofs.Ytenjelagfbceeaa.magnetCounted
open Go Go.Cl
theorem plain (p0 p1 p2 p3 p4 p5 p6 p7 : Int) (w0 : (Lit.int .i8 p0).wf = true) (w1 : (Lit.int .i8 p1).wf = true) (w2 : (Lit.int .i8 p2).wf = true) (w3 : (Lit.int .i8 p3).wf = true) (w4 : (Lit.int .i16 p4).wf = true) (w5 : (Lit.int .i16 p5).wf = true) (w6 : (Lit.int .u8 p6).wf = true) (w7 : (Lit.int .u8 p7).wf = true) :
    F11 p0 p1 p2 p3 p4 p5 p6 p7 = some true := by
  obtain ⟨a, b, c, d, e, f, h36, hk, be, bf⟩ := F36_eq p0 p1 p2 p3 p4 p5
  obtain ⟨p, L, h30, hs, hm, h4, h28, _⟩ := F28_eq (e := e) (f := f) hk.kit (by omega) (by omega)
  obtain ⟨i, j, k, l, h23, hB, hR, h37⟩ := bundled12 hk
  have hp := (hm p).1 (.head _)
  obtain ⟨s1, ⟨s2, s3⟩, s4, s5⟩ := best12 hk be bf hp
  have b6 := u8_of w6
  have b7 := u8_of w7
  have lw : lft a b c d e f p = (e + p.1 * a + p.2 * c) * (e + p.1 * a + p.2 * c) + (f + p.1 * b + p.2 * d) * (f + p.1 * b + p.2 * d) := rfl
  have bx := hR.bx
  have by' := hR.by'
  have bu := hR.bu
  have bv := hR.bv
  obtain ⟨n, n1, n2, n3⟩ := F34_small (e := e) (f := f) (q := p6) hk.kit (by omega) (by omega) (by omega)
  obtain ⟨m, m1, m2, m3⟩ := F34_small (e := e) (f := f) (q := p6 + p7) hk.kit (by omega) (by omega) (by omega)
  obtain ⟨o, o1, o2, o3⟩ := F34_small (a := i * a + j * c) (b := i * b + j * d) (c := k * a + l * c) (d := k * b + l * d) (e := e) (f := f) (q := p6) ⟨by omega, by omega, by omega, by omega, hB.nf⟩ (by omega) (by omega) (by omega)
  have hno : o = n := by
    have := Counts.map (S := Small a b c d e f p6) hB.det (fun x y => by
      unfold Small
      have := lft_bundles a b c d e f i j k l x y
      unfold lft at this
      simp only at this ⊢
      rw [this]) o3
    have := Counts.unique this n3
    omega
  have hnm : ¬ m < n := by
    have := Counts.mono n3 m3 fun c hc => by unfold Small at *; omega
    omega
  have hz : n = 0 ↔ p6 < lft a b c d e f p := by
    constructor
    · intro h0
      apply Classical.byContradiction
      intro hc
      obtain ⟨M, _, hM, hl⟩ := n3
      have : p ∈ M := (hM p).2 (by unfold Small; rw [lw] at hc; omega)
      have : M = [] := List.eq_nil_of_length_eq_zero (by omega)
      subst this
      simp at *
    · intro hlt
      have : Counts (Small a b c d e f p6) 0 := Counts.zero fun q hq => by
        have := hp q
        unfold Small at hq
        have : lft a b c d e f q ≤ p6 := hq
        omega
      have := Counts.unique n3 this
      omega
  obtain ⟨V, hV, hVn, hVl, hVm⟩ := F42_eq (X := -e) (Y := -f) (R := 16) hk (by omega) (by omega) (by omega)
  have hcount := les_counts hk b6 hVn hVm n3
  have h0 := F11l0_eq (K := ((a, b), c, d)) (e := e) (f := f) (S := p6) (r3 := (n, 0)) hVl b6 (fun v hv => by
    obtain ⟨_, h3⟩ := (hVm v).1 hv
    exact ⟨by omega, by omega⟩) be bf V.length 0 0 (by omega) (by omega)
  rw [show ((0 : Nat) : Int) = 0 from rfl, List.drop_zero, Nat.zero_add, hcount] at h0
  have hnn : ((n.toNat : Nat) : Int) = n := by omega
  rw [hnn] at h0
  unfold F11
  rw [h36, bs]
  simp only
  rw [w64_id (x := p6) (by omega) (by omega), w64_id (x := p7) (by omega) (by omega), w64_id (x := p6 + p7) (by omega) (by omega), n1, bs, m1, bs, h28, bs, h37, bs]
  simp only
  rw [o1, bs]
  subst hno
  simp only [bne_self_eq_false, Bool.false_eq_true, if_false, if_true, hnm, decide_false]
  rw [F41_eq (by omega) (by omega) (by omega) (by omega), bs, ← lw]
  have hgo : (if o == 0 then if decide (p6 < lft a b c d e f p) then some false else some true else if decide (p6 < lft a b c d e f p) then some true else some false) = some false := by
    by_cases ho : o = 0
    · have := hz.1 ho
      simp [ho, this]
    · have : ¬ p6 < lft a b c d e f p := fun h => ho (hz.2 h)
      simp [ho, this]
  rw [hgo, bs, if_neg Bool.false_ne_true, w64_id (x := 0 - e) (by omega) (by omega), w64_id (x := 0 - f) (by omega) (by omega), Int.zero_sub, Int.zero_sub, F43_eq, bs]
  simp only
  rw [hV, bs, h0, bs]
  simp only [beq_self_eq_true, if_true]
  rfl
end Go.Proofs.Ytenjelagfbceeaa.magnetCounted
