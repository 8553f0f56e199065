/- What is known of a card: both ends of its spans; when it is sure. -/
import Derived.Test.YthpfffijnkmdgaaLR
import Derived.Test.YthpfffijnkmdgaaCW
set_option linter.unusedVariables false
set_option linter.unusedSimpArgs false
set_option maxRecDepth 100000
namespace Go.Proofs.Ythpfffijnkmdgaa.plain
open Go Go.Cl
abbrev Mks := List (Int × (Int × Int))
section
variable {k : Mks} {l h c : Card} {m : Int} {i : Nat}
theorem sound_two (hc : Ok c) (hs : Sound c) (m0 : 0 ≤ m) (m1 : m < 3600) : ∃ i n, i < c.length ∧ n ∈ tl m ∧ Hit (ca c i) (cb c i) n ∧ als c m c.length 0 = [sAt c i n] ∧ F26 c m = some (fr ((n : Rat) - place c i n), 0) ∧ F71 c m = some (fr ((n : Rat) - place c i n)) := by
 have hcl := hc.le
 obtain ⟨i, n, hi, ht, hh, ha⟩ := als_one hc hs m0 m1
 obtain ⟨S, f, g, p, _⟩ := F24_eq hc m0 m1 (not_flat hs) (by rw [ha]; exact Nat.le_of_ble_eq_true rfl)
 rw [ha] at p
 have hS : S = [sAt c i n] := List.perm_singleton.1 p
 subst hS
 have q : F71 c m = some (fr ((n : Rat) - place c i n)) := by
  unfold F71
  rw [g]
  rw [Option.bind_eq_bind, Option.bind_some]
  dsimp only
  rw [if_pos ⟨by decide, by simp⟩, show List.getD ([sAt c i n].map fr) (Int.toNat 0) (0, 0) = fr (sAt c i n) from rfl]
  rw [Option.bind_eq_bind, Option.bind_some]
  rw [F54_sAt hc hi hh]
  rfl
 refine ⟨i, n, hi, ht, hh, ha, ?_, q⟩
 unfold F26
 rw [F22_eq (by omega), ck_of hc]
 simp only [Option.bind_eq_bind, Option.bind_some, bne_self_eq_false, Bool.false_eq_true, if_false]
 rw [F53_eq, decide_eq_true ⟨m0, m1⟩]
 simp only [Option.bind_some, Bool.not_true, Bool.false_eq_true, if_false]
 rw [F60_eq hc, fol_none hs _ _ (by omega)]
 simp only [Option.bind_some]
 rw [if_neg (by simp), q]
 rfl
end
end Go.Proofs.Ythpfffijnkmdgaa.plain
