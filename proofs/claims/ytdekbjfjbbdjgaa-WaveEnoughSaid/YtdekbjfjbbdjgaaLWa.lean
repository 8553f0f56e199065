/- Values at an hour, on both sides. -/
import Derived.Test.YtdekbjfjbbdjgaaLW9
set_option linter.unusedVariables false
namespace Go.Proofs.Ytdekbjfjbbdjgaa.plain
open Go Go.Cl
section
variable {S M : Int} {rd : List (Int × Int)} {out : Out} {P W : List Int} (B : Both S M rd out P W) {hour : Int} (hh : 0 ≤ hour)
include B
theorem Both.root_eq {i j : Int} (hi : 0 ≤ i ∧ i < S + M) (hj : 0 ≤ j ∧ j < S + M) : (pl S out i).1 = (pl S out j).1 ↔ partOf S out i = partOf S out j := by
 obtain ⟨q, a, b⟩ := B.val i hi.1 hi.2
 obtain ⟨r, c, d⟩ := B.val j hj.1 hj.2
 have e1 : pl S out i = q := by unfold pl; rw [a]; rfl
 have e2 : pl S out j = r := by unfold pl; rw [c]; rfl
 have hs := B.h.s
 unfold partOf
 rw [e1, e2]
 constructor
 · intro h; rw [h]
 intro h
 have x := nd_ix b (S := S) (by omega)
 have y := nd_ix d (S := S) (by omega)
 rw [← x, ← y, h]
include hh
theorem Both.ends : (0 ≤ Int.tmod hour S ∧ Int.tmod hour S < S + M) ∧ (0 ≤ S + Int.tmod hour M ∧ S + Int.tmod hour M < S + M) := by
 have hs := B.h.s
 have hm := B.h.m
 have a := tmod_in hh hs.1
 have b := tmod_in hh hm.1
 omega
theorem Both.F59_eq : F59 S M rd out hour = some (waveOf S out (Int.tmod hour S) + waveOf S out (S + Int.tmod hour M), decide (partOf S out (Int.tmod hour S) = partOf S out (S + Int.tmod hour M))) := by
 have hs := B.h.s
 have hm := B.h.m
 have e := B.ends hh
 unfold F59 F55
 rw [if_neg (by omega), if_neg (by omega)]
 simp only [Option.bind_eq_bind, Option.bind_some]
 rw [place_a _ _ _ hh hs.1, place_b _ S _ _ hh hm.1]
 have b1 := B.bo _ e.1.1 e.1.2
 have b2 := B.bo _ e.2.1 e.2.2
 unfold waveOf at b1 b2
 rw [w64_in (by omega) (by omega), eqN]
 have hr := B.root_eq e.1 e.2
 unfold waveOf
 refine congrArg some (Prod.ext rfl ?_)
 exact decide_eq_decide.2 hr
end
end Go.Proofs.Ytdekbjfjbbdjgaa.plain
