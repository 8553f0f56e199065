/- The plain law of WaveValues: all steps come to their ends, and each answer is as the reference's. -/
import Derived.Test.YtdekbjfjbbdjgaaG12
import Derived.Test.YtdekbjfjbbdjgaaLWa
set_option linter.unusedVariables false
namespace Go.Proofs.Ytdekbjfjbbdjgaa.waveValues
open Go Go.Cl Go.Proofs.Ytdekbjfjbbdjgaa.plain
section
variable {S M : Int} {rd : List (Int × Int)}
theorem value_eq (S M : Int) (rd : List (Int × Int)) (hour : Int) : ∃ r, F37 S M rd hour = some r ∧ F41 S M rd hour = some r := by
  obtain ⟨e, a, b, c⟩ := judge S M rd
  unfold F37 F41
  rw [a]
  simp only [Option.bind_eq_bind, Option.bind_some, F51_eq, F52_eq]
  rcases c with ⟨e0, c⟩ | ⟨e0, out, P, W, B⟩
  · rw [c]
    refine ⟨(0, e), ?_, ?_⟩
    · rw [if_pos (by simpa using e0)]
    · simp [e0]
  · subst e0
    obtain ⟨k, f, g⟩ := B.fits
    rw [B.fo]
    simp only [bne_self_eq_false, Bool.false_eq_true, if_false, Option.bind_some]
    rw [f]
    simp only [Option.bind_some]
    rcases g with ⟨g1, g2, g3, g4, g5⟩ | ⟨g1, g2, g3, g4, g5, g6, _⟩
    · rw [g5, if_neg (by simp; omega)]
      by_cases hh : 0 ≤ hour ∧ hour ≤ 100000
      · simp only [hh, and_self, decide_true, if_true, Option.bind_some, Bool.false_eq_true, if_false, beq_self_eq_true, bne_self_eq_false]
        rw [B.F59_eq hh.1, B.fr]
        have hs := B.h.s
        have hm := B.h.m
        have en := B.ends hh.1
        obtain ⟨q1, q2, q3, q4⟩ := B.same hh.1 g3
        rw [q1, q2, q3, q4]
        have lp := B.lp
        have lw := B.lw
        have b1 := B.br _ en.1.1 en.1.2
        have b2 := B.br _ en.2.1 en.2.2
        simp only [Option.bind_some]
        rw [if_neg (show ¬ S = 0 by omega), if_neg (show ¬ M = 0 by omega), w64_in (x := S + Int.tmod hour M) (by omega) (by omega)]
        have gA : 0 ≤ Int.tmod hour S ∧ Int.tmod hour S < (P.length : Int) := ⟨en.1.1, by omega⟩
        have gB : 0 ≤ S + Int.tmod hour M ∧ S + Int.tmod hour M < (P.length : Int) := ⟨en.2.1, by omega⟩
        have gA' : 0 ≤ Int.tmod hour S ∧ Int.tmod hour S < (W.length : Int) := ⟨en.1.1, by omega⟩
        have gB' : 0 ≤ S + Int.tmod hour M ∧ S + Int.tmod hour M < (W.length : Int) := ⟨en.2.1, by omega⟩
        simp only [if_pos gA, if_pos gB, if_pos gA', if_pos gB']
        rw [show P.getD (Int.tmod hour S).toNat 0 = at0 P (Int.tmod hour S) from rfl, show P.getD (S + Int.tmod hour M).toNat 0 = at0 P (S + Int.tmod hour M) from rfl,
          show W.getD (Int.tmod hour S).toNat 0 = at0 W (Int.tmod hour S) from rfl, show W.getD (S + Int.tmod hour M).toNat 0 = at0 W (S + Int.tmod hour M) from rfl]
        rw [w64_in (x := at0 W (Int.tmod hour S) + at0 W (S + Int.tmod hour M)) (by omega) (by omega)]
        by_cases c : at0 P (Int.tmod hour S) = at0 P (S + Int.tmod hour M)
        · rw [if_pos (by simpa using c), if_neg (by simpa using c)]
          exact ⟨_, rfl, rfl⟩
        · rw [if_neg (by simpa using c), if_pos (by simpa using c)]
          exact ⟨_, rfl, rfl⟩
      · simp only [hh, decide_false, Option.bind_some, Bool.false_eq_true, if_false, beq_self_eq_true, if_true]
        exact ⟨_, rfl, rfl⟩
    · rw [g6, if_pos (by simp; omega)]
      exact ⟨_, rfl, rfl⟩

theorem follow_loop {out : Out} {P W : List Int} (B : Both S M rd out P W) (g : plain.Good (edges S M rd) (at0 W)) {to : Int} (ht : to ≤ 100000) : ∀ (d : Nat) (v : Int) (acc : List (Int × Int)), 0 ≤ v → v + d = to + 1 → acc.length ≤ v.toNat →
    ∃ l, F42l0 S M rd to out acc v = some l ∧ F43l0 S M rd to (P, W) acc v = some l ∧ l.length ≤ 100001 := by
  have hs := B.h.s
  have hm := B.h.m
  have lp := B.lp
  have lw := B.lw
  intro d
  induction d with
  | zero =>
    intro v acc h0 hd ha
    refine ⟨acc, ?_, ?_, by omega⟩
    · rw [F42l0, if_neg (by simp; omega)]
    · rw [F43l0, if_neg (by simp; omega)]
  | succ d ih =>
    intro v acc h0 hd ha
    have en := B.ends h0
    obtain ⟨q1, q2, q3, q4⟩ := B.same h0 g
    have b1 := B.br _ en.1.1 en.1.2
    have b2 := B.br _ en.2.1 en.2.2
    rw [F42l0, F43l0, if_pos (by simp; omega), if_pos (by simp; omega), B.F59_eq h0, q1, q2, q3, q4]
    simp only [Option.bind_eq_bind, Option.bind_some]
    rw [if_neg (show ¬ S = 0 by omega), if_neg (show ¬ M = 0 by omega), w64_in (x := S + Int.tmod v M) (by omega) (by omega)]
    have gA : 0 ≤ Int.tmod v S ∧ Int.tmod v S < (P.length : Int) := ⟨en.1.1, by omega⟩
    have gB : 0 ≤ S + Int.tmod v M ∧ S + Int.tmod v M < (P.length : Int) := ⟨en.2.1, by omega⟩
    have gA' : 0 ≤ Int.tmod v S ∧ Int.tmod v S < (W.length : Int) := ⟨en.1.1, by omega⟩
    have gB' : 0 ≤ S + Int.tmod v M ∧ S + Int.tmod v M < (W.length : Int) := ⟨en.2.1, by omega⟩
    simp only [if_pos gA, if_pos gB, if_pos gA', if_pos gB']
    rw [show P.getD (Int.tmod v S).toNat 0 = at0 P (Int.tmod v S) from rfl, show P.getD (S + Int.tmod v M).toNat 0 = at0 P (S + Int.tmod v M) from rfl,
      show W.getD (Int.tmod v S).toNat 0 = at0 W (Int.tmod v S) from rfl, show W.getD (S + Int.tmod v M).toNat 0 = at0 W (S + Int.tmod v M) from rfl]
    rw [w64_in (x := at0 W (Int.tmod v S) + at0 W (S + Int.tmod v M)) (by omega) (by omega), w64_in (x := v + 1) (by omega) (by omega), if_pos (show acc.length ≤ 1000000000 by omega)]
    by_cases c : at0 P (Int.tmod v S) = at0 P (S + Int.tmod v M)
    · rw [if_pos (by simpa using c), if_pos (by simpa using c)]
      simp only [Option.bind_some]
      exact ih (v + 1) _ (by omega) (by omega) (by simp; omega)
    · rw [if_neg (by simpa using c), if_neg (by simpa using c)]
      simp only [Option.bind_some]
      exact ih (v + 1) _ (by omega) (by omega) (by omega)

theorem follow_eq (S M : Int) (rd : List (Int × Int)) (a b : Int) : ∃ l e, F42 S M rd a b = some (l, e) ∧ F43 S M rd a b = some (l, e) ∧ l.length ≤ 100001 := by
  obtain ⟨e, x, y, c⟩ := judge S M rd
  unfold F42 F43
  rw [x]
  simp only [Option.bind_eq_bind, Option.bind_some, F51_eq, F52_eq]
  rcases c with ⟨e0, c⟩ | ⟨e0, out, P, W, B⟩
  · rw [c]
    refine ⟨[], e, ?_, ?_, by simp⟩
    · rw [if_pos (by simpa using e0)]
    · simp [e0]
  · subst e0
    obtain ⟨k, f, g⟩ := B.fits
    rw [B.fo]
    simp only [bne_self_eq_false, Bool.false_eq_true, if_false, Option.bind_some]
    rw [f]
    simp only [Option.bind_some]
    rcases g with ⟨g1, g2, g3, g4, g5⟩ | ⟨g1, g2, g3, g4, g5, g6, _⟩
    · rw [g5, if_neg (by simp; omega)]
      simp only [Option.bind_some, beq_self_eq_true, if_true]
      generalize hq : (if decide (0 ≤ a ∧ a ≤ b) = true then if decide (b > 100000) = true then some true else some (decide (w64 (b - a) > 1000)) else some true) = q
      have : ∃ t, q = some t ∧ (t = false → 0 ≤ a ∧ a ≤ b ∧ b ≤ 100000) := by
        subst hq
        by_cases c1 : 0 ≤ a ∧ a ≤ b
        · rw [if_pos (by simpa using c1)]
          by_cases c2 : b > 100000
          · rw [if_pos (by simpa using c2)]; exact ⟨_, rfl, fun h => by cases h⟩
          · rw [if_neg (by simpa using c2)]; exact ⟨_, rfl, fun _ => ⟨c1.1, c1.2, by omega⟩⟩
        · rw [if_neg (by simpa using c1)]; exact ⟨_, rfl, fun h => by cases h⟩
      obtain ⟨t, rfl, ht⟩ := this
      cases t with
      | true => exact ⟨[], 1, rfl, rfl, by simp⟩
      | false =>
        obtain ⟨h1, h2, h3⟩ := ht rfl
        obtain ⟨l, l1, l2, l3⟩ := follow_loop B g3 h3 (b + 1 - a).toNat a [] h1 (by omega) (by simp)
        refine ⟨l, 0, ?_, ?_, l3⟩
        · simp only [Option.bind_some, Bool.false_eq_true, if_false]; rw [l1]; rfl
        · simp only [Option.bind_some, Bool.false_eq_true, if_false, bne_self_eq_false]; rw [B.fr]; simp only [Option.bind_some]; rw [l2]; rfl
    · rw [g6, if_pos (by simp; omega)]
      exact ⟨[], 13, rfl, rfl, by simp⟩

theorem cmp_loop (p2 : List (Int × Int)) (l : List (Int × Int)) (e f : Int) (hl : l.length ≤ 100001) : ∀ (d : Nat) (v : Int), 0 ≤ v → v + d = l.length → F12l0 p2 (l, e) (l, f) v = some (.inr ()) := by
  intro d
  induction d with
  | zero => intro v h0 hd; rw [F12l0, if_neg (by simp; omega)]
  | succ d ih =>
    intro v h0 hd
    have hg : (0 : Int) ≤ v ∧ v < (l.length : Int) := ⟨h0, by omega⟩
    rw [F12l0]
    simp only [if_pos (show decide (v < (l.length : Int)) = true by simp; omega), if_pos hg, Option.bind_eq_bind, Option.bind_some, beq_self_eq_true, Bool.and_true, Bool.not_true, Bool.false_eq_true, if_false]
    rw [w64_in (by omega) (by omega)]
    exact ih (v + 1) (by omega) (by omega)
end

theorem plain (p0 : Int) (p1 : Int) (p2 : List (Int × Int)) (p3 : Int) (p4 : Int) (p5 : Int) (wp0 : (Lit.int .i64 p0).wf = true) (wp1 : (Lit.int .i64 p1).wf = true)
    (wp2 : ∀ x ∈ p2, (Lit.int .i64 x.1).wf = true ∧ (Lit.int .i64 x.2).wf = true) (wp3 : (Lit.int .i64 p3).wf = true) (wp4 : (Lit.int .i64 p4).wf = true) (wp5 : (Lit.int .i64 p5).wf = true) : F12 p0 p1 p2 p3 p4 p5 = some true := by
  unfold F12
  by_cases hl : (p2.length : Int) > 80
  · rw [if_pos (by simpa using hl)]; rfl
  · rw [if_neg (by simpa using hl), F15_eq p0 p1 p2 (by omega)]
    obtain ⟨r, a, b⟩ := value_eq p0 p1 p2 p3
    obtain ⟨l, e, c, d, h⟩ := follow_eq p0 p1 p2 p4 p5
    simp only [Option.bind_eq_bind, Option.bind_some]
    rw [a, b, c, d]
    simp only [Option.bind_some, bne_self_eq_false, Bool.false_eq_true, if_false]
    rw [cmp_loop p2 l e e h l.length 0 (Int.le_refl _) (by omega)]
    rfl
end Go.Proofs.Ytdekbjfjbbdjgaa.waveValues
