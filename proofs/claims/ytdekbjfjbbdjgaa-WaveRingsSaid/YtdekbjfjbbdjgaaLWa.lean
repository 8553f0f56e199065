/- Values at an hour, on both sides. -/
import Derived.Test.YtdekbjfjbbdjgaaLW9
set_option linter.unusedVariables false
namespace Go.Proofs.Ytdekbjfjbbdjgaa.plain
open Go Go.Cl
theorem F15_loop (S M : Int) (rd : List (Int × Int)) (hl : rd.length ≤ 80) : ∀ (d : Nat) (v : Int) (acc : List (Int × Int)), 0 ≤ v → v + d = rd.length → acc.length ≤ v.toNat → F15l0 S M rd v acc = some (acc ++ rd.drop v.toNat) := by
  intro d
  induction d with
  | zero =>
    intro v acc h0 hd ha
    rw [F15l0, if_neg (by simp; omega), List.drop_of_length_le (by omega), List.append_nil]
  | succ d ih =>
    intro v acc h0 hd ha
    have hg : v.toNat < rd.length := by omega
    rw [F15l0, if_pos (by simp; omega), if_pos ⟨h0, by omega⟩]
    simp only [Option.bind_eq_bind, Option.bind_some]
    rw [if_pos (by omega), w64_in (by omega) (by omega), ih (v + 1) _ (by omega) (by omega) (by simp; omega)]
    have : rd.drop v.toNat = rd.getD v.toNat (0, 0) :: rd.drop (v.toNat + 1) := by
      rw [List.drop_eq_getElem_cons hg]; simp [List.getD, hg]
    rw [this, show (v + 1).toNat = v.toNat + 1 by omega]
    simp
theorem F15_eq (S M : Int) (rd : List (Int × Int)) (hl : rd.length ≤ 80) : F15 S M rd = some (S, M, rd) := by
  unfold F15
  rw [F15_loop S M rd hl rd.length 0 [] (Int.le_refl _) (by omega) (by simp)]
  rfl
section
variable {S M : Int} {rd : List (Int × Int)} {out : Out} {P W : List Int} (B : Both S M rd out P W) {hour : Int} (hh : 0 ≤ hour)
include B
theorem Both.root_eq {i j : Int} (hi : 0 ≤ i ∧ i < S + M) (hj : 0 ≤ j ∧ j < S + M) : (pl S out i).1 = (pl S out j).1 ↔ partOf S out i = partOf S out j := by
  obtain ⟨q, a, b⟩ := B.val i hi.1 hi.2
  obtain ⟨r, c, d⟩ := B.val j hj.1 hj.2
  have e1 : pl S out i = q := by unfold pl; rw [a]; rfl
  have e2 : pl S out j = r := by unfold pl; rw [c]; rfl
  have hs := B.h.s
  unfold partOf
  rw [e1, e2]
  constructor
  · intro h; rw [h]
  · intro h
    have x := nd_ix b (S := S) (by omega)
    have y := nd_ix d (S := S) (by omega)
    rw [← x, ← y, h]
include hh
end
end Go.Proofs.Ytdekbjfjbbdjgaa.plain
