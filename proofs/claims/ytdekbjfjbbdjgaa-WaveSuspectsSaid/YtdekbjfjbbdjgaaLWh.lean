/- Lists compared, errors, and readings left out. -/
import Derived.Test.YtdekbjfjbbdjgaaGU
import Derived.Test.YtdekbjfjbbdjgaaLWf
set_option linter.unusedVariables false
namespace Go.Proofs.Ytdekbjfjbbdjgaa.plain
open Go Go.Cl
section
variable {S M : Int} {rd : List (Int × Int)}
theorem prog_fits (h : Rec0 S M rd) : ∃ out k, F49 S M rd = some out ∧ F54 S M rd out = some k ∧ (k < 0 ↔ ∃ w, Good (edges S M rd) w) := by
 obtain ⟨out, fo, so, bo, _⟩ := solveSol h
 obtain ⟨k, f, g⟩ := wrongOk h bo
 refine ⟨out, k, fo, f, ?_⟩
 rcases g with ⟨g1, g2⟩ | ⟨g1, g2, g3, _⟩
 · exact ⟨fun _ => ⟨_, g2⟩, fun _ => by omega⟩
 exact ⟨fun x => by omega, fun ⟨w, hw⟩ => absurd (so.good (edges_ends h) hw) g3⟩
def lessOf (rd : List (Int × Int)) (i : Nat) : List (Int × Int) := rd.take i ++ rd.drop (i + 1)
theorem Rec0.less (h : Rec0 S M rd) (i : Nat) : Rec0 S M (lessOf rd i) := by
 have hm : ∀ y ∈ lessOf rd i, y ∈ rd := fun y hy => by
  rcases List.mem_append.1 hy with hy | hy
  · exact List.mem_of_mem_take hy
  exact List.mem_of_mem_drop hy
 refine ⟨h.s, h.m, ?_, fun y hy => h.hour y (hm y hy), fun y hy => h.val y (hm y hy)⟩
 have := h.len
 simp only [lessOf, List.length_append, List.length_take, List.length_drop]
 omega
theorem concat2 (a b : List (Int × Int)) (ha : a.length ≤ 1000) (hb : b.length ≤ 1000) : F53 a b = some (a ++ b) := by
 unfold F53
 have w1 : w64 (0 + (a.length : Int)) = (a.length : Int) := by rw [Int.zero_add]; exact w64_in (by omega) (by omega)
 have w2 : w64 ((a.length : Int) + (b.length : Int)) = (a.length : Int) + (b.length : Int) := w64_in (by omega) (by omega)
 have w4 : w64 ((a.length : Int) + (b.length : Int) - 0) = (a.length : Int) + (b.length : Int) := by rw [Int.sub_zero]; exact w2
 simp only [w1, w2, Option.bind_eq_bind, Option.bind_some, w4]
 have n1 : ¬ decide ((a.length : Int) < 0) = true := by simp
 have n2 : ¬ decide ((a.length : Int) + (b.length : Int) < 0) = true := by simp; omega
 simp only [if_neg n1, if_neg n2, Option.bind_some]
 by_cases c0 : (a.length : Int) + (b.length : Int) > 0
 · rw [if_pos (by simpa using c0), if_pos ⟨by omega, by omega⟩, if_pos ⟨by decide, by omega⟩, if_pos (by simp), if_pos (by omega), if_pos (by simp; omega), if_pos (by omega)]
   simp
 rw [if_neg (by simpa using c0), if_pos (by omega), if_pos (by omega)]
open Classical in
noncomputable def suspects (S M : Int) (rd : List (Int × Int)) : List Int := ((List.range rd.length).filter fun i => decide (∃ w, Good (edges S M (lessOf rd i)) w)).map fun i : Nat => (i : Int)
open Classical in
theorem susp_loop (h : Rec0 S M rd) : ∀ (d : Nat) (v : Int) (acc : List Int), 0 ≤ v → v + d = rd.length → acc.length ≤ v.toNat →
 F25l0 S M rd acc v = some (acc ++ ((List.range' v.toNat d).filter fun i => decide (∃ w, Good (edges S M (lessOf rd i)) w)).map fun i : Nat => (i : Int)) := by
 have hl := h.len
 intro d
 induction d with
 | zero => intro v acc h0 hd ha; rw [F25l0, if_neg (by simp; omega)]; simp
 | succ d ih =>
  intro v acc h0 hd ha
  rw [F25l0, if_pos (by simp; omega), if_pos ⟨h0, by omega⟩, w64_in (by omega) (by omega), if_pos ⟨by omega, by omega⟩]
  rw [show (v + 1).toNat = v.toNat + 1 by omega, concat2 _ _ (by rw [List.length_take]; omega) (by rw [List.length_drop]; omega)]
  simp only [Option.bind_eq_bind, Option.bind_some]
  obtain ⟨out, k, f1, f2, f3⟩ := prog_fits (h.less v.toNat)
  have hless : rd.take v.toNat ++ rd.drop (v.toNat + 1) = lessOf rd v.toNat := rfl
  rw [hless, f1]
  simp only [Option.bind_some]
  rw [f2]
  simp only [Option.bind_some]
  rw [List.range'_succ]
  have e1 : v.toNat + 1 = (v + 1).toNat := by omega
  by_cases c : ∃ w, Good (edges S M (lessOf rd v.toNat)) w
  · rw [if_pos (by simpa using f3.2 c), if_pos (by omega)]
    simp only [Option.bind_some]
    rw [List.filter_cons_of_pos (by simpa using c), List.map_cons, ih (v + 1) _ (by omega) (by omega) (by simp; omega), e1, Int.toNat_of_nonneg h0]
    simp
  have : ¬ k < 0 := fun x => c (f3.1 x)
  rw [if_neg (by simpa using this)]
  simp only [Option.bind_some]
  rw [List.filter_cons_of_neg (by simpa using c), ih (v + 1) _ (by omega) (by omega) (by omega), e1]
theorem susp_eq (h : Rec0 S M rd) (hc : F23 S M rd = some 0) : F25 S M rd = some (suspects S M rd, 0) := by
 unfold F25
 rw [hc]
 simp only [Option.bind_eq_bind, Option.bind_some, bne_self_eq_false, Bool.false_eq_true, if_false]
 rw [susp_loop h rd.length 0 [] (Int.le_refl _) (by omega) (by simp)]
 simp only [List.nil_append, Int.toNat_zero, Option.bind_some]
 rw [← List.range_eq_range']
 rfl
theorem susp_len : (suspects S M rd).length ≤ rd.length := by
 unfold suspects
 rw [List.length_map]
 exact Nat.le_trans (List.length_filter_le _ _) (by simp)
end
end Go.Proofs.Ytdekbjfjbbdjgaa.plain
