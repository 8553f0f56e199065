/- The plain law of MagnetMoved: all steps come to their ends, and each answer is as the law says. -/
import Derived.Test.YtenjelagfbceeaaL10o
set_option linter.unusedVariables false
set_option linter.unusedSimpArgs false
set_option maxHeartbeats 4000000
namespace Go.Proofs.Ytenjelagfbceeaa
open Go Go.Cl
theorem sorted_eq {L M : List (Int × Int)} (hL : L.Pairwise plt) (hM : M.Pairwise plt) (h : ∀ x, x ∈ L ↔ x ∈ M) : L = M := by
  have := down_eq (R := L.reverse) (S := M.reverse) (List.pairwise_reverse.2 hL) (List.pairwise_reverse.2 hM) fun x => by rw [List.mem_reverse, List.mem_reverse]; exact h x
  exact List.reverse_inj.1 this
theorem F48l0_same (L : List (Int × Int)) (hb : L.length < 1000000) : ∀ (m i : Nat), i + m = L.length → F48l0 L L i = some (.inr ()) := by
  intro m
  induction m with
  | zero =>
    intro i hi
    rw [F48l0_fix]
    have : ¬ ((i : Int) < (L.length : Int)) := by omega
    rw [if_neg (by simpa using this)]
  | succ m ih =>
    intro i hi
    have hlt : i < L.length := by omega
    have c2 : (0 : Int) ≤ (i : Int) ∧ (i : Int) < (L.length : Int) := by omega
    rw [F48l0_fix, if_pos (decide_eq_true c2.2), if_pos c2, bs, if_pos c2, bs, w64_id (by omega) (by omega)]
    have := ih (i + 1) (by omega)
    rw [show ((i + 1 : Nat) : Int) = (i : Int) + 1 by omega] at this
    simp only [beq_self_eq_true, Bool.and_self, Bool.not_true, Bool.false_eq_true, if_false]
    exact this
theorem F48_same (L : List (Int × Int)) (hb : L.length < 1000000) : F48 L L = some true := by
  unfold F48
  have := F48l0_same L hb L.length 0 (by omega)
  rw [show ((0 : Nat) : Int) = 0 from rfl] at this
  simp only [bne_self_eq_false, Bool.false_eq_true, if_false]
  rw [this, bs]
theorem F10l0_eq {L : List (Int × Int)} {t6 t7 g1 g2 g3 : Int} (hl : L.length ≤ 4) (hv : ∀ p ∈ L, (-8000 ≤ p.1 ∧ p.1 ≤ 8000) ∧ (-8000 ≤ p.2 ∧ p.2 ≤ 8000)) (b6 : -20 ≤ t6 ∧ t6 ≤ 20) (b7 : -20 ≤ t7 ∧ t7 ≤ 20) :
    ∀ (m i : Nat), i + m = L.length → F10l0 (L, g1) (t6, t7) (L.map fun q => (q.1 - t6, q.2 - t7), g2) ((L.map fun q => (-q.1, -q.2)).reverse, g3) i = some (.inr ()) := by
  intro m
  induction m with
  | zero =>
    intro i hi
    rw [F10l0_fix]
    have : ¬ ((i : Int) < (L.length : Int)) := by omega
    rw [if_neg (by simpa using this)]
  | succ m ih =>
    intro i hi
    have hlt : i < L.length := by omega
    have c1 : (i : Int) < (L.length : Int) := by omega
    have c2 : (0 : Int) ≤ (i : Int) ∧ (i : Int) < (L.length : Int) := by omega
    have c3 : (0 : Int) ≤ (i : Int) ∧ (i : Int) < ((L.map fun q : Int × Int => (q.1 - t6, q.2 - t7)).length : Int) := by rw [List.length_map]; exact c2
    have e1 : (L.length : Int) - 1 - (i : Int) = ((L.length - 1 - i : Nat) : Int) := by omega
    have c4 : (0 : Int) ≤ ((L.length - 1 - i : Nat) : Int) ∧ ((L.length - 1 - i : Nat) : Int) < (L.length : Int) := by omega
    obtain ⟨v1, v2⟩ := hv L[i] (List.getElem_mem hlt)
    have g0 : L.getD (Int.toNat (i : Int)) (0, 0) = L[i] := by simp [List.getD, hlt]
    have g1 : (L.map fun q : Int × Int => (q.1 - t6, q.2 - t7)).getD (Int.toNat (i : Int)) (0, 0) = (L[i].1 - t6, L[i].2 - t7) := by simp [List.getD, hlt]
    have g2 : (L.map fun q : Int × Int => (-q.1, -q.2)).reverse.getD (Int.toNat ((L.length - 1 - i : Nat) : Int)) (0, 0) = (-L[i].1, -L[i].2) := by
      have hlt2 : L.length - 1 - i < (L.map fun q : Int × Int => (-q.1, -q.2)).reverse.length := by simp; omega
      rw [Int.toNat_natCast]
      simp only [List.getD, List.getElem?_eq_getElem hlt2, Option.getD_some]
      rw [List.getElem_reverse, List.getElem_map]
      have : (L.map fun q : Int × Int => (-q.1, -q.2)).length - 1 - (L.length - 1 - i) = i := by rw [List.length_map]; omega
      simp only [this]
    have again := ih (i + 1) (by omega)
    rw [show ((i + 1 : Nat) : Int) = (i : Int) + 1 by omega] at again
    rw [F10l0_fix, if_pos (decide_eq_true c1), if_pos c3]
    simp only
    rw [g1, bs, if_pos c2, g0, bs]
    simp only [List.length_reverse, List.length_map]
    rw [w64_id (x := L[i].1 - t6) (by omega) (by omega), w64_id (x := L[i].2 - t7) (by omega) (by omega), show F44 (L[i].1 - t6) (L[i].2 - t7) = some (L[i].1 - t6, L[i].2 - t7) from rfl, bs,
      w64_id (x := (L.length : Int) - 1) (by omega) (by omega), w64_id (x := (L.length : Int) - 1 - (i : Int)) (by omega) (by omega), e1, g2]
    simp only [beq_self_eq_true, Bool.and_self, Bool.not_true, Bool.false_eq_true, if_false]
    rw [if_pos c4, bs, w64_id (x := 0 - L[i].1) (by omega) (by omega), w64_id (x := 0 - L[i].2) (by omega) (by omega), show F44 (0 - L[i].1) (0 - L[i].2) = some (0 - L[i].1, 0 - L[i].2) from rfl, bs]
    simp only [Int.zero_sub, beq_self_eq_true, Bool.and_self, Bool.not_true, bs, Bool.false_eq_true, if_false]
    rw [w64_id (by omega) (by omega)]
    exact again
end Go.Proofs.Ytenjelagfbceeaa
namespace Go.Proofs.Ytenjelagfbceeaa.magnetMoved
open Go Go.Cl
theorem plain (p0 p1 p2 p3 p4 p5 p6 p7 : Int) (w0 : (Lit.int .i8 p0).wf = true) (w1 : (Lit.int .i8 p1).wf = true) (w2 : (Lit.int .i8 p2).wf = true) (w3 : (Lit.int .i8 p3).wf = true) (w4 : (Lit.int .i16 p4).wf = true) (w5 : (Lit.int .i16 p5).wf = true) (w6 : (Lit.int .i8 p6).wf = true) (w7 : (Lit.int .i8 p7).wf = true) :
    F10 p0 p1 p2 p3 p4 p5 p6 p7 = some true := by
  obtain ⟨a, b, c, d, e, f, h36, hk, be, bf⟩ := F36_eq p0 p1 p2 p3 p4 p5
  obtain ⟨p, L, h30, hs, hm, h4, h28, _⟩ := F28_eq (e := e) (f := f) hk.kit (by omega) (by omega)
  have hp := (hm p).1 (.head _)
  obtain ⟨s1, ⟨s2, s3⟩, s4, s5⟩ := best12 hk be bf hp
  have d6 := tmod_lt (w64 p6) (m := 20) (by omega)
  have d7 := tmod_lt (w64 p7) (m := 20) (by omega)
  have b0 := hk.b0
  have b1 := hk.b1
  have b2 := hk.b2
  have b3 := hk.b3
  have nf := hk.nf
  generalize ht6 : Int.tmod (w64 p6) 20 = t6 at *
  generalize ht7 : Int.tmod (w64 p7) 20 = t7 at *
  have t0 := mul_le (a := t6) (b := a) (m := 20) (n := 12) (by omega) hk.b0 (by omega) (by omega)
  have t1 := mul_le (a := t6) (b := b) (m := 20) (n := 12) (by omega) hk.b1 (by omega) (by omega)
  have t2 := mul_le (a := t7) (b := c) (m := 20) (n := 12) (by omega) hk.b2 (by omega) (by omega)
  have t3 := mul_le (a := t7) (b := d) (m := 20) (n := 12) (by omega) hk.b3 (by omega) (by omega)
  -- moved
  obtain ⟨La, ha1, ha2, ha3, _, _⟩ := F30_eq (e := e + (t6 * a + t7 * c)) (f := f + (t6 * b + t7 * d)) hk.kit (by omega) (by omega)
  have ma : ∀ q : Int × Int, lft a b c d (e + (t6 * a + t7 * c)) (f + (t6 * b + t7 * d)) q = lft a b c d e f (q.1 + t6, q.2 + t7) := fun q => by
    unfold lft
    simp only
    have e1 : e + (t6 * a + t7 * c) + q.1 * a + q.2 * c = e + (q.1 + t6) * a + (q.2 + t7) * c := by grind
    have e2 : f + (t6 * b + t7 * d) + q.1 * b + q.2 * d = f + (q.1 + t6) * b + (q.2 + t7) * d := by grind
    rw [e1, e2]
  have hLa : La = (p :: L).map fun q => (q.1 - t6, q.2 - t7) := by
    refine sorted_eq ha2 (List.pairwise_map.2 (hs.imp fun {x y} hxy => by unfold plt at *; simp only; omega)) fun x => ?_
    rw [ha3, List.mem_map]
    constructor
    · intro hx
      refine ⟨(x.1 + t6, x.2 + t7), (hm _).2 fun r => ?_, by simp⟩
      have := hx (r.1 - t6, r.2 - t7)
      rw [ma, ma] at this
      simp only [Int.sub_add_cancel] at this
      exact this
    · rintro ⟨q, hq, rfl⟩ r
      rw [ma, ma]
      simp only [Int.sub_add_cancel]
      exact (hm q).1 hq _
  -- turned
  have hk2 : Kit4 (-b) a (-d) c := ⟨by omega, by omega, by omega, by omega, by
    have : -b * c - a * -d = a * d - b * c := by grind
    omega⟩
  obtain ⟨pb, Lb, hb1, hb2, hb3, hb4, hb5, _⟩ := F28_eq (e := -f) (f := e) hk2 (by omega) (by omega)
  have mb : ∀ q : Int × Int, lft (-b) a (-d) c (-f) e q = lft a b c d e f q := fun q => by
    unfold lft
    grind
  have hLb : pb :: Lb = p :: L := sorted_eq hb2 hs fun x => by
    rw [hb3, hm]
    unfold Best
    simp only [mb]
  obtain ⟨rfl, rfl⟩ := List.cons.inj hLb
  -- mirrored
  have hk3 : Kit4 a (-b) c (-d) := ⟨by omega, by omega, by omega, by omega, by
    have : a * -d - -b * c = -(a * d - b * c) := by grind
    omega⟩
  obtain ⟨Lc, hc1, hc2, hc3, _, _⟩ := F30_eq (e := e) (f := -f) hk3 (by omega) (by omega)
  have mc : ∀ q : Int × Int, lft a (-b) c (-d) e (-f) q = lft a b c d e f q := fun q => by
    unfold lft
    grind
  have hLc : Lc = pb :: Lb := sorted_eq hc2 hs fun x => by
    rw [hc3, hm]
    unfold Best
    simp only [mc]
  -- negated
  obtain ⟨Ld, hd1, hd2, hd3, _, _⟩ := F30_eq (e := -e) (f := -f) hk.kit (by omega) (by omega)
  have md : ∀ q : Int × Int, lft a b c d (-e) (-f) q = lft a b c d e f (-q.1, -q.2) := fun q => by
    unfold lft
    grind
  have hLd : Ld = ((pb :: Lb).map fun q => (-q.1, -q.2)).reverse := by
    refine sorted_eq hd2 (List.pairwise_reverse.2 (List.pairwise_map.2 (hs.imp fun {x y} hxy => by unfold plt at *; simp only; omega))) fun x => ?_
    rw [hd3, List.mem_reverse, List.mem_map]
    constructor
    · intro hx
      refine ⟨(-x.1, -x.2), (hm _).2 fun r => ?_, by simp⟩
      have := hx (-r.1, -r.2)
      rw [md, md] at this
      simp only [Int.neg_neg] at this
      exact this
    · rintro ⟨q, hq, rfl⟩ r
      rw [md, md]
      simp only [Int.neg_neg]
      exact (hm q).1 hq _
  have e46 : ∀ x y : Int, (-100000 ≤ y ∧ y ≤ 100000) → F46 x y = some (-y, x) := fun x y hy => by
    unfold F46
    rw [w64_id (by omega) (by omega), Int.zero_sub]
    rfl
  have e47 : ∀ x y : Int, (-100000 ≤ y ∧ y ≤ 100000) → F47 x y = some (x, -y) := fun x y hy => by
    unfold F47
    rw [w64_id (by omega) (by omega), Int.zero_sub]
    rfl
  have loop := F10l0_eq (L := pb :: Lb) (t6 := t6) (t7 := t7) (g1 := 0) (g2 := 0) (g3 := 0) h4 (fun q hq => by
    obtain ⟨_, _, u1, u2⟩ := best12 hk be bf ((hm q).1 hq)
    exact ⟨u1, u2⟩) (by omega) (by omega) (pb :: Lb).length 0 (by omega)
  rw [show ((0 : Nat) : Int) = 0 from rfl, ← hLa, ← hLd] at loop
  have la : La.length = (pb :: Lb).length := by rw [hLa, List.length_map]
  have ld : Ld.length = (pb :: Lb).length := by rw [hLd, List.length_reverse, List.length_map]
  have hsame := F48_same (pb :: Lb) (by omega)
  have x1 : -f + pb.1 * -b + pb.2 * -d = -(f + pb.1 * b + pb.2 * d) := by grind
  unfold F10
  rw [h36, bs]
  simp only [ht6, ht7]
  rw [h30, bs, h28, bs]
  simp only [bne_self_eq_false, Bool.false_eq_true, if_false]
  rw [bs, if_neg Bool.false_ne_true, show F44 t6 t7 = some (t6, t7) from rfl, bs]
  simp only
  rw [F40_eq hk (by omega) (by omega), bs]
  simp only
  rw [F39_eq (by omega) (by omega) (by omega) (by omega), bs]
  simp only
  rw [ha1, bs, e46 _ _ (by omega), bs, e46 _ _ (by omega), bs, e46 _ _ (by omega), bs]
  simp only
  rw [hb1, bs, e47 _ _ (by omega), bs, e47 _ _ (by omega), bs, e47 _ _ (by omega), bs]
  simp only
  rw [hc1, bs, w64_id (x := 0 - e) (by omega) (by omega), w64_id (x := 0 - f) (by omega) (by omega), Int.zero_sub, Int.zero_sub, F43_eq, bs]
  simp only
  rw [hd1, bs]
  simp only [bs]
  rw [hb5, bs]
  simp only [bne_self_eq_false, Bool.false_eq_true, if_false, la, ld, hLc, hsame, bs, if_true]
  rw [e46 _ _ (by omega), bs]
  simp only [x1, beq_self_eq_true, Bool.and_self, Bool.not_true, bs, Bool.false_eq_true, if_false]
  rw [loop, bs]
  rfl
end Go.Proofs.Ytenjelagfbceeaa.magnetMoved
