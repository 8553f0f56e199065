/- The plain law of WaveFits: all steps come to their ends, and each answer is as the reference's. -/
import Derived.Test.YtdekbjfjbbdjgaaG3
import Derived.Test.YtdekbjfjbbdjgaaLWb
set_option linter.unusedVariables false
namespace Go.Proofs.Ytdekbjfjbbdjgaa.waveFits
open Go Go.Cl Go.Proofs.Ytdekbjfjbbdjgaa.plain
theorem cmp_loop (l : List Int) (hl : l.length ≤ 100000) : ∀ (d : Nat) (v : Int), 0 ≤ v → v + d = l.length → F20l0 l l v = some (.inr ()) := by
  intro d
  induction d with
  | zero => intro v h0 hd; rw [F20l0, if_neg (by simp; omega)]
  | succ d ih =>
    intro v h0 hd
    have hg : (0 : Int) ≤ v ∧ v < (l.length : Int) := ⟨h0, by omega⟩
    rw [F20l0]
    simp only [if_pos (show decide (v < (l.length : Int)) = true by simp; omega), if_pos hg, Option.bind_eq_bind, Option.bind_some, bne_self_eq_false, Bool.false_eq_true, if_false]
    rw [w64_in (by omega) (by omega)]
    exact ih (v + 1) (by omega) (by omega)
theorem cmp_same (l : List Int) (hl : l.length ≤ 100000) : F20 l l = some true := by
  unfold F20
  simp only [bne_self_eq_false, Bool.false_eq_true, if_false, Option.bind_eq_bind]
  rw [cmp_loop l hl l.length 0 (Int.le_refl _) (by omega)]
  rfl

section
variable {S M : Int} {rd : List (Int × Int)} {out : Out} {P W : List Int} (B : Both S M rd out P W)
include B
theorem ref_loop : ∀ (d : Nat) (v z : Int), 0 ≤ v → v + d = S + M → 0 ≤ z → z ≤ v →
    F19l0 rd (P, W) z v = some (z + (((List.range' v.toNat d).countP fun i : Nat => decide (at0 P (i : Int) = (i : Int)) : Nat) : Int)) := by
  have hs := B.h.s
  have hm := B.h.m
  have lp := B.lp
  intro d
  induction d with
  | zero =>
    intro v z h0 hd hz hzv
    rw [F19l0, if_neg (by simp; omega)]
    simp
  | succ d ih =>
    intro v z h0 hd hz hzv
    have hg : (0 : Int) ≤ v ∧ v < (P.length : Int) := ⟨h0, by omega⟩
    rw [F19l0]
    simp only [if_pos (show decide (v < (P.length : Int)) = true by simp; omega), if_pos hg, Option.bind_eq_bind, Option.bind_some]
    rw [w64_in (x := z + 1) (by omega) (by omega), w64_in (x := v + 1) (by omega) (by omega), show P.getD v.toNat 0 = at0 P v from rfl, List.range'_succ]
    have e1 : v.toNat + 1 = (v + 1).toNat := by omega
    by_cases c : at0 P v = v
    · rw [if_pos (by simpa using c)]
      simp only [Option.bind_some]
      rw [ih (v + 1) (z + 1) (by omega) (by omega) (by omega) (by omega), List.countP_cons_of_pos (by rw [Int.toNat_of_nonneg h0]; simpa using c), e1]
      congr 1; omega
    · rw [if_neg (by simpa using c)]
      simp only [Option.bind_some]
      rw [ih (v + 1) z (by omega) (by omega) (by omega) (by omega), List.countP_cons_of_neg (by rw [Int.toNat_of_nonneg h0]; simpa using c), e1]
theorem ref_parts : F19 S M rd = some ((firsts (S + M).toNat P : Int), 0) := by
  have hs := B.h.s
  have hm := B.h.m
  unfold F19
  rw [B.cr]
  simp only [Option.bind_eq_bind, Option.bind_some, bne_self_eq_false, Bool.false_eq_true, if_false]
  rw [B.fr]
  simp only [Option.bind_some]
  rw [ref_loop B (S + M).toNat 0 0 (Int.le_refl _) (by omega) (Int.le_refl _) (Int.le_refl _)]
  simp only [Option.bind_some, Int.zero_add, Int.toNat_zero]
  rw [firsts, List.range_eq_range']
end

theorem waves_eq (S M : Int) (rd : List (Int × Int)) : ∃ a b e, F16 S M rd = some (a, b, e) ∧ F17 S M rd = some (a, b, e) ∧ a.length ≤ 100000 ∧ b.length ≤ 100000 := by
  obtain ⟨e, x, y, c⟩ := judge S M rd
  rcases c with ⟨e0, c⟩ | ⟨e0, out, P, W, B⟩
  · refine ⟨[], [], e, ?_, ?_, by simp, by simp⟩
    · unfold F16
      rw [x]
      simp only [Option.bind_eq_bind, Option.bind_some]
      rw [if_pos (by simpa using e0)]
    · unfold F17
      rw [c]
      simp only [Option.bind_eq_bind, Option.bind_some]
      rw [if_pos (by simpa using e0)]
  · have hs := B.h.s
    have hm := B.h.m
    have lw := B.lw
    obtain ⟨k, f, g⟩ := B.fits
    rcases g with ⟨g1, g2, g3, g4, g5⟩ | ⟨g1, g2, g3, g4, g5, g6, _⟩
    · refine ⟨_, _, _, B.waves.1 g3, ?_, by rw [List.length_take]; omega, by rw [List.length_drop]; omega⟩
      unfold F17
      rw [g5]
      simp only [Option.bind_eq_bind, Option.bind_some, bne_self_eq_false, Bool.false_eq_true, if_false]
      rw [B.fr]
      simp only [Option.bind_some]
      rw [if_pos ⟨by omega, by omega⟩, if_pos (by omega), if_pos (by rw [List.length_take]; omega), if_pos (by rw [List.length_drop]; omega)]
    · refine ⟨_, _, _, B.waves.2 g4, ?_, by simp, by simp⟩
      unfold F17
      rw [g6]
      rfl
theorem parts_eq (S M : Int) (rd : List (Int × Int)) : ∃ r, F18 S M rd = some r ∧ F19 S M rd = some r := by
  obtain ⟨e, x, y, c⟩ := judge S M rd
  rcases c with ⟨e0, c⟩ | ⟨e0, out, P, W, B⟩
  · refine ⟨(0, e), ?_, ?_⟩
    · unfold F18
      rw [x]
      simp only [Option.bind_eq_bind, Option.bind_some]
      rw [if_pos (by simpa using e0)]
    · unfold F19
      rw [y]
      simp only [Option.bind_eq_bind, Option.bind_some]
      rw [if_pos (by simpa using e0)]
  · exact ⟨_, B.parts, ref_parts B⟩
theorem fits_eq (S M : Int) (rd : List (Int × Int)) : ∃ r, F21 S M rd = some r ∧ F22 S M rd = some r := by
  obtain ⟨e, x, y, c⟩ := judge S M rd
  rcases c with ⟨e0, c⟩ | ⟨e0, out, P, W, B⟩
  · refine ⟨e, ?_, c⟩
    unfold F21
    rw [x]
    simp only [Option.bind_eq_bind, Option.bind_some]
    rw [if_pos (by simpa using e0)]
  · obtain ⟨k, f, g⟩ := B.fits
    rw [B.fitsE]
    rcases g with ⟨g1, g2, g3, g4, g5⟩ | ⟨g1, g2, g3, g4, g5, g6, _⟩
    · exact ⟨_, g5, g5⟩
    · exact ⟨_, g6, g6⟩

theorem plain (p0 : Int) (p1 : Int) (p2 : List (Int × Int)) (wp0 : (Lit.int .i64 p0).wf = true) (wp1 : (Lit.int .i64 p1).wf = true)
    (wp2 : ∀ x ∈ p2, (Lit.int .i64 x.1).wf = true ∧ (Lit.int .i64 x.2).wf = true) : F3 p0 p1 p2 = some true := by
  unfold F3
  by_cases hl : (p2.length : Int) > 80
  · rw [if_pos (by simpa using hl)]; rfl
  · rw [if_neg (by simpa using hl), F15_eq p0 p1 p2 (by omega)]
    obtain ⟨a, b, e, w1, w2, la, lb⟩ := waves_eq p0 p1 p2
    obtain ⟨r, q1, q2⟩ := parts_eq p0 p1 p2
    obtain ⟨f, f1, f2⟩ := fits_eq p0 p1 p2
    obtain ⟨c, c1, c2, _⟩ := checkEq p0 p1 p2
    simp only [Option.bind_eq_bind, Option.bind_some]
    rw [w1, w2, q1, q2]
    simp only [Option.bind_some]
    rw [cmp_same a la]
    simp only [Option.bind_some, if_true]
    rw [cmp_same b lb]
    simp only [Option.bind_some, if_true, beq_self_eq_true]
    rw [f1, f2]
    simp only [Option.bind_some, if_true, beq_self_eq_true]
    rw [c1, c2]
    simp only [Option.bind_some, if_true, beq_self_eq_true]
    rfl
end Go.Proofs.Ytdekbjfjbbdjgaa.waveFits
