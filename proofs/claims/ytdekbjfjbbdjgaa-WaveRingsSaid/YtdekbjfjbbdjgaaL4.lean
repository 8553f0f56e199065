/- The plain law of WaveRings: all steps come to their ends, and each answer is as the reference's. -/
import Derived.Test.YtdekbjfjbbdjgaaG4
import Derived.Test.YtdekbjfjbbdjgaaLWg
set_option linter.unusedVariables false
namespace Go.Proofs.Ytdekbjfjbbdjgaa.waveRings
open Go Go.Cl Go.Proofs.Ytdekbjfjbbdjgaa.plain
section
variable {S M : Int} {rd : List (Int × Int)}
theorem ref_fits (h : Rec0 S M rd) : ∃ b, F50 S M rd = some b ∧ (b = true ↔ ∃ w, plain.Good (edges S M rd) w) := by
  obtain ⟨P, W, fr, lp, lw, sr, br⟩ := refSol h
  rcases fitsOk h lw br fr with ⟨a, b⟩ | ⟨a, b⟩
  · exact ⟨true, a, fun _ => ⟨_, b⟩, fun _ => rfl⟩
  · exact ⟨false, a, fun x => (by cases x), fun ⟨w, hw⟩ => absurd (sr.good (edges_ends h) hw) b⟩
open Classical in
theorem ref_susp_loop (h : Rec0 S M rd) : ∀ (d : Nat) (v : Int) (acc : List Int), 0 ≤ v → v + d = rd.length → acc.length ≤ v.toNat →
    F26l0 S M rd acc v = some (acc ++ ((List.range' v.toNat d).filter fun i => decide (∃ w, plain.Good (edges S M (lessOf rd i)) w)).map fun i : Nat => (i : Int)) := by
  have hl := h.len
  intro d
  induction d with
  | zero => intro v acc h0 hd ha; rw [F26l0, if_neg (by simp; omega)]; simp
  | succ d ih =>
    intro v acc h0 hd ha
    rw [F26l0, if_pos (by simp; omega), if_pos ⟨h0, by omega⟩, if_pos (by rw [List.length_take]; omega), w64_in (by omega) (by omega), if_pos ⟨by omega, by omega⟩, if_pos (by rw [List.length_drop]; omega)]
    rw [show (v + 1).toNat = v.toNat + 1 by omega]
    obtain ⟨b, f1, f2⟩ := ref_fits (h.less v.toNat)
    have hless : rd.take v.toNat ++ rd.drop (v.toNat + 1) = lessOf rd v.toNat := rfl
    rw [hless, f1]
    simp only [Option.bind_eq_bind, Option.bind_some]
    rw [List.range'_succ]
    have e1 : v.toNat + 1 = (v + 1).toNat := by omega
    by_cases c : ∃ w, plain.Good (edges S M (lessOf rd v.toNat)) w
    · rw [if_pos (f2.2 c), if_pos (by omega)]
      simp only [Option.bind_some]
      rw [List.filter_cons_of_pos (by simpa using c), List.map_cons, ih (v + 1) _ (by omega) (by omega) (by simp; omega), e1, Int.toNat_of_nonneg h0]
      simp
    · rw [if_neg (fun x => c (f2.1 x))]
      simp only [Option.bind_some]
      rw [List.filter_cons_of_neg (by simpa using c), ih (v + 1) _ (by omega) (by omega) (by omega), e1]
theorem ref_susp (h : Rec0 S M rd) (hc : F24 S M rd = some 0) : F26 S M rd = some (suspects S M rd, 0) := by
  unfold F26
  rw [hc]
  simp only [Option.bind_eq_bind, Option.bind_some, bne_self_eq_false, Bool.false_eq_true, if_false]
  rw [ref_susp_loop h rd.length 0 [] (Int.le_refl _) (by omega) (by simp)]
  simp only [List.nil_append, Int.toNat_zero, Option.bind_some]
  rw [← List.range_eq_range']
  rfl
theorem vloop_in : ∀ (l : List Int) (prev : Option (Int × Int)) (odd : Bool) (z z' : Int), vloop S M rd prev odd z l = .inr z' → ∀ i ∈ l, 0 ≤ i ∧ i < (rd.length : Int)
  | [], _, _, _, _, _, i, hi => by cases hi
  | j :: l, prev, odd, z, z', h, i, hi => by
    simp only [vloop] at h
    split at h
    · rename_i c
      split at h
      · rcases List.mem_cons.1 hi with rfl | hi
        · exact c
        · exact vloop_in l _ _ _ _ h i hi
      · cases h
    · cases h
theorem tmod2 (j : Nat) : Int.tmod (j : Int) 2 = ((j % 2 : Nat) : Int) := by rw [Int.tmod_eq_emod_of_nonneg (by omega)]; rfl
theorem ref_loop (h : Rec0 S M rd) (r : List Int) (hr : r.length ≤ 80) : ∀ (l : List Int) (j : Nat) (prev : Option (Int × Int)) (odd : Bool) (z : Int), r.drop j = l → j ≤ r.length → (odd = true ↔ j % 2 = 1) →
    (prev = none ↔ j = 0) → (∀ p, prev = some p → p = rdAt rd r (j - 1) ∧ 0 ≤ r.getD (j - 1) 0 ∧ r.getD (j - 1) 0 < (rd.length : Int)) → -(1000000 * (j : Int)) ≤ z → z ≤ 1000000 * (j : Int) →
    F28l0 S M rd r z (j : Int) = some (vloop S M rd prev odd z l) := by
  have hs := h.s
  have hm := h.m
  have hlen := h.len
  intro l
  induction l with
  | nil =>
    intro j prev odd z hl hj ho hp hn z1 z2
    have hjr : r.length ≤ j := List.drop_eq_nil_iff.1 hl
    rw [F28l0, if_neg (by simp; omega)]
    rfl
  | cons i l ih =>
    intro j prev odd z hl hj ho hp hn z1 z2
    have hjl : j < r.length := by
      refine Classical.byContradiction fun hc => ?_
      rw [List.drop_eq_nil_iff.2 (by omega)] at hl
      cases hl
    have hri : r.getD j 0 = i := by
      have : r[j]? = some i := by
        have e : (r.drop j)[0]? = some i := by rw [hl]; rfl
        rw [List.getElem?_drop] at e
        simpa using e
      simp [List.getD, this]
    have hdrop : r.drop (j + 1) = l := by
      have : (r.drop j).drop 1 = l := by rw [hl]; rfl
      rw [List.drop_drop] at this
      exact this
    have hat : rd.getD i.toNat (0, 0) = rdAt rd r j := by unfold rdAt; rw [hri]
    have g1 : decide ((j : Int) < (r.length : Int)) = true := by simp; omega
    have g2 : (0 : Int) ≤ (j : Int) ∧ (j : Int) < (r.length : Int) := by omega
    have hw : w64 ((rd.length : Int) - 1) = (rd.length : Int) - 1 := w64_in (by omega) (by omega)
    simp only [vloop, hat]
    by_cases ci : 0 ≤ i ∧ i < (rd.length : Int)
    · have ci' : 0 ≤ i ∧ i ≤ (rd.length : Int) - 1 := by omega
      have hym : rdAt rd r j ∈ rd := by
        rw [← hat, List.getD_eq_getElem?_getD, List.getElem?_eq_getElem (by omega : i.toNat < rd.length), Option.getD_some]
        exact List.getElem_mem _
      have hyv := h.val _ hym
      have hwj : w64 ((j : Int) + 1) = ((j + 1 : Nat) : Int) := by rw [w64_in (by omega) (by omega)]; rfl
      have ho' : (!odd) = true ↔ (j + 1) % 2 = 1 := by
        cases odd with
        | true => have := ho.1 rfl; simp; omega
        | false =>
          have : ¬ j % 2 = 1 := fun e => by have := ho.2 e; cases this
          simp; omega
      have next := fun (z' : Int) (a : -(1000000 * ((j + 1 : Nat) : Int)) ≤ z') (b : z' ≤ 1000000 * ((j + 1 : Nat) : Int)) =>
        ih (j + 1) (some (rdAt rd r j)) (!odd) z' hdrop (by omega) ho' (by simp) (fun p hp => by cases hp; exact ⟨by simp, by rw [Nat.add_sub_cancel, hri]; exact ci.1, by rw [Nat.add_sub_cancel, hri]; exact ci.2⟩) a b
      rw [if_pos ci]
      have unfolded : F28l0 S M rd r z (j : Int) = if linkOk S M prev odd (rdAt rd r j) then F28l0 S M rd r (if odd then w64 (z - (rdAt rd r j).2) else w64 (z + (rdAt rd r j).2)) (w64 ((j : Int) + 1)) else some (.inl 5) := by
        rw [F28l0, if_pos g1, if_pos g2]
        simp only [Option.bind_eq_bind, Option.bind_some, Int.toNat_natCast, hri, F52_eq, hw]
        rw [decide_eq_true ci']
        simp only [if_true, Option.bind_some, Bool.false_eq_true, if_false]
        rw [if_pos ci, hat, tmod2]
        have prevOk : ∀ p, prev = some p → 1 ≤ j ∧ w64 ((j : Int) - 1) = ((j - 1 : Nat) : Int) := fun p hpp => by
          have hj0 : j ≠ 0 := fun e => by rw [hp.2 e] at hpp; cases hpp
          refine ⟨by omega, ?_⟩
          rw [w64_in (by omega) (by omega)]
          omega
        cases odd with
        | true =>
          have hjo := ho.1 rfl
          rw [if_pos (show (((j % 2 : Nat) : Int) == 1) = true by rw [hjo]; rfl), if_neg (by omega)]
          cases prev with
          | none => have := hp.1 rfl; omega
          | some p =>
            obtain ⟨q1, q2⟩ := prevOk p rfl
            obtain ⟨q3, q4, q5⟩ := hn p rfl
            rw [q2, if_pos ⟨by omega, by omega⟩]
            simp only [Int.toNat_natCast]
            rw [if_pos ⟨q4, q5⟩]
            have hpp : rd.getD (r.getD (j - 1) 0).toNat (0, 0) = p := by rw [q3]; rfl
            by_cases cl : linkOk S M (some p) true (rdAt rd r j)
            · have : Int.tmod p.1 S = Int.tmod (rdAt rd r j).1 S := cl
              rw [if_pos cl, if_neg (show ¬ (Int.tmod (rdAt rd r j).1 S != Int.tmod (rd.getD (r.getD (j - 1) 0).toNat (0, 0)).1 S) = true by rw [hpp, this]; simp)]
              rfl
            · have : ¬ Int.tmod p.1 S = Int.tmod (rdAt rd r j).1 S := cl
              rw [if_neg cl, if_pos (show (Int.tmod (rdAt rd r j).1 S != Int.tmod (rd.getD (r.getD (j - 1) 0).toNat (0, 0)).1 S) = true by rw [hpp]; simpa using fun e => this e.symm)]
        | false =>
          have hje : j % 2 = 0 := by
            have : ¬ j % 2 = 1 := fun e => by have := ho.2 e; cases this
            omega
          rw [if_neg (show ¬ (((j % 2 : Nat) : Int) == 1) = true by rw [hje]; decide)]
          cases prev with
          | none =>
            have hj0 := hp.1 rfl
            rw [if_neg (by simp; omega), if_pos (show linkOk S M none false (rdAt rd r j) from trivial)]
            rfl
          | some p =>
            obtain ⟨q1, q2⟩ := prevOk p rfl
            obtain ⟨q3, q4, q5⟩ := hn p rfl
            rw [if_pos (by simp; omega), if_neg (by omega), q2, if_pos ⟨by omega, by omega⟩]
            simp only [Int.toNat_natCast]
            rw [if_pos ⟨q4, q5⟩]
            have hpp : rd.getD (r.getD (j - 1) 0).toNat (0, 0) = p := by rw [q3]; rfl
            have e3 : (Int.tmod (rdAt rd r j).1 M != Int.tmod (rd.getD (r.getD (j - 1) 0).toNat (0, 0)).1 M) = (Int.tmod (rdAt rd r j).1 M != Int.tmod p.1 M) := by rw [hpp]
            simp only [e3, Option.bind_some]
            by_cases cl : linkOk S M (some p) false (rdAt rd r j)
            · have : Int.tmod p.1 M = Int.tmod (rdAt rd r j).1 M := cl
              rw [if_pos cl, if_neg (by rw [this]; simp)]
              rfl
            · have : ¬ Int.tmod p.1 M = Int.tmod (rdAt rd r j).1 M := cl
              rw [if_neg cl, if_pos (by simpa using fun e => this e.symm)]
      rw [unfolded, hwj]
      by_cases cl : linkOk S M prev odd (rdAt rd r j)
      · rw [if_pos cl, if_pos cl]
        cases odd with
        | true =>
          simp only [if_true]
          rw [w64_in (by omega) (by omega)]
          exact next _ (by omega) (by omega)
        | false =>
          simp only [Bool.false_eq_true, if_false]
          rw [w64_in (by omega) (by omega)]
          exact next _ (by omega) (by omega)
      · rw [if_neg cl, if_neg cl]
    · have ci' : ¬ (0 ≤ i ∧ i ≤ (rd.length : Int) - 1) := by omega
      rw [if_neg ci, F28l0, if_pos g1, if_pos g2]
      simp only [Option.bind_eq_bind, Option.bind_some, Int.toNat_natCast, hri, F52_eq, hw]
      rw [decide_eq_false ci']
      rfl
theorem ref_verify (h : Rec0 S M rd) (hc : F24 S M rd = some 0) (r : List Int) (hr : r.length ≤ 80) : F28 S M rd r = some (verdict S M rd r) := by
  have hm := h.m
  unfold F28 verdict
  rw [hc]
  simp only [Option.bind_eq_bind, Option.bind_some, bne_self_eq_false, Bool.false_eq_true, if_false, F52_eq]
  by_cases c1 : 2 ≤ r.length ∧ r.length ≤ 60
  · have c1' : 2 ≤ (r.length : Int) ∧ (r.length : Int) ≤ 60 := by omega
    rw [decide_eq_true c1']
    simp only [if_true, tmod2, Option.bind_some]
    by_cases c2 : r.length % 2 = 0
    · rw [if_neg (show ¬ (((r.length % 2 : Nat) : Int) == 1) = true by rw [c2]; decide), if_pos ⟨c1, c2⟩]
      have h1 : F28l0 S M rd r 0 0 = some (vloop S M rd none false 0 r) := ref_loop h r hr r 0 none false 0 (by simp) (by omega) (by simp) (by simp) (fun p hp => by cases hp) (by simp) (by simp)
      rw [h1]
      simp only [Option.bind_some]
      cases hv : vloop S M rd none false 0 r with
      | inl e => rfl
      | inr z =>
        have hin := vloop_in r none false 0 z hv
        have m0 : r.getD 0 0 ∈ r := by
          rw [List.getD_eq_getElem?_getD, List.getElem?_eq_getElem (by omega : 0 < r.length), Option.getD_some]; exact List.getElem_mem _
        have m1 : r.getD (r.length - 1) 0 ∈ r := by
          rw [List.getD_eq_getElem?_getD, List.getElem?_eq_getElem (by omega : r.length - 1 < r.length), Option.getD_some]; exact List.getElem_mem _
        have i0 := hin _ m0
        have i1 := hin _ m1
        have hw : w64 ((r.length : Int) - 1) = ((r.length - 1 : Nat) : Int) := by rw [w64_in (by omega) (by omega)]; omega
        dsimp only
        rw [if_pos ⟨by decide, by omega⟩, hw]
        simp only [Int.toNat_zero, Int.toNat_natCast]
        rw [if_pos i0, if_neg (by omega), if_pos ⟨by omega, by omega⟩, if_pos i1]
        have e3 : (Int.tmod (rd.getD (r.getD 0 0).toNat (0, 0)).1 M != Int.tmod (rd.getD (r.getD (r.length - 1) 0).toNat (0, 0)).1 M) = (Int.tmod (rdAt rd r 0).1 M != Int.tmod (rdAt rd r (r.length - 1)).1 M) := rfl
        simp only [e3]
        by_cases c3 : Int.tmod (rdAt rd r 0).1 M = Int.tmod (rdAt rd r (r.length - 1)).1 M
        · rw [if_neg (by rw [c3]; simp), if_pos c3]
          by_cases c4 : z = 0
          · simp [c4]
          · simp [c4]
        · rw [if_pos (by simpa using c3), if_neg c3]
    · rw [if_pos (show (((r.length % 2 : Nat) : Int) == 1) = true by rw [show r.length % 2 = 1 by omega]; rfl), if_neg (fun x => c2 x.2)]
  · have c1' : ¬ (2 ≤ (r.length : Int) ∧ (r.length : Int) ≤ 60) := by omega
    rw [decide_eq_false c1', if_neg (show ¬ ((2 ≤ r.length ∧ r.length ≤ 60) ∧ r.length % 2 = 0) from fun x => c1 x.1)]
    rfl
end
theorem plain (p0 : Int) (p1 : Int) (p2 : List (Int × Int)) (p3 : List Int) (wp0 : (Lit.int .i64 p0).wf = true) (wp1 : (Lit.int .i64 p1).wf = true)
    (wp2 : ∀ x ∈ p2, (Lit.int .i64 x.1).wf = true ∧ (Lit.int .i64 x.2).wf = true) (wp3 : ∀ x ∈ p3, (Lit.int .i64 x).wf = true) : F4 p0 p1 p2 p3 = some true := by
  unfold F4
  by_cases hl : (p2.length : Int) > 80
  · rw [if_pos (by simpa using hl)]; rfl
  rw [if_neg (by simpa using hl)]
  by_cases hl3 : (p3.length : Int) > 80
  · simp only [Option.bind_eq_bind, Option.bind_some]
    rw [if_pos (by simpa using hl3)]; rfl
  simp only [Option.bind_eq_bind, Option.bind_some]
  rw [if_neg (by simpa using hl3), F15_eq p0 p1 p2 (by omega)]
  simp only [Option.bind_some]
  obtain ⟨e, x, y, c⟩ := judge p0 p1 p2
  rcases c with ⟨e0, c⟩ | ⟨e0, out, P, W, B⟩
  · have hF25 : F25 p0 p1 p2 = some ([], e) := by
      unfold F25
      rw [x]
      simp only [Option.bind_eq_bind, Option.bind_some]
      rw [if_pos (by simpa using e0)]
    have hF26 : F26 p0 p1 p2 = some ([], e) := by
      unfold F26
      rw [y]
      simp only [Option.bind_eq_bind, Option.bind_some]
      rw [if_pos (by simpa using e0)]
    have hF27 : F27 p0 p1 p2 p3 = some e := by
      unfold F27
      rw [x]
      simp only [Option.bind_eq_bind, Option.bind_some]
      rw [if_pos (by simpa using e0)]
    have hF28 : F28 p0 p1 p2 p3 = some e := by
      unfold F28
      rw [y]
      simp only [Option.bind_eq_bind, Option.bind_some]
      rw [if_pos (by simpa using e0)]
    have hF29 : F29 p0 p1 p2 = some ([], e) := by
      unfold F29
      rw [x]
      simp only [Option.bind_eq_bind, Option.bind_some]
      rw [if_pos (by simpa using e0)]
    have codes := check_codes x
    rw [hF25, hF26]
    simp only [Option.bind_some]
    rw [cmp_same [] (by simp)]
    simp only [Option.bind_some, if_true, bne_self_eq_false, Bool.false_eq_true, if_false]
    rw [hF27, hF28]
    simp only [Option.bind_some, bne_self_eq_false, Bool.false_eq_true, if_false]
    rw [hF29, c]
    simp only [Option.bind_some]
    rw [if_neg (by simpa using e0), if_neg (by simp; omega)]
    simp only [beq_self_eq_true, if_true, List.length_nil, Int.natCast_zero]
    rfl
  · subst e0
    rw [susp_eq B.h B.co, ref_susp B.h B.cr]
    simp only [Option.bind_some]
    rw [cmp_same _ (by have := susp_len (S := p0) (M := p1) (rd := p2); omega)]
    simp only [Option.bind_some, if_true, bne_self_eq_false, Bool.false_eq_true, if_false]
    rw [prog_verify B.h B.co p3 (by omega), ref_verify B.h B.cr p3 (by omega)]
    simp only [Option.bind_some, bne_self_eq_false, Bool.false_eq_true, if_false]
    obtain ⟨k, f, g⟩ := B.fits
    rcases g with ⟨g1, g2, g3, g4, g5⟩ | ⟨g1, g2, g3, g4, g5, g6, _⟩
    · rw [B.good_clash g3, g5]
      rfl
    · obtain ⟨r, r1, r2, r3, m, Z, r4, r5, r6, _⟩ := B.bad_clash g4
      rw [r1, g6]
      simp only [Option.bind_some]
      rw [if_neg (by decide), if_pos (by decide), if_pos (by decide), ref_verify B.h B.cr r (by omega), trail_verdict r4 r5 r6 r2 r3]
      rfl
end Go.Proofs.Ytdekbjfjbbdjgaa.waveRings
