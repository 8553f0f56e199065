/- Folds; the compass courses of a magnetic heading. -/
import Derived.Test.YthpfffijnkmdgaaLS
import Derived.Test.YthpfffijnkmdgaaCE
set_option linter.unusedVariables false
set_option linter.unusedSimpArgs false
set_option maxRecDepth 100000
namespace Go.Proofs.Ythpfffijnkmdgaa.plain
open Go Go.Cl
section
variable {c : Card} {i : Nat} {m : Int}
def ca (c : Card) (i : Nat) : Int := (A c i).1 + (A c i).2
def cb (c : Card) (i : Nat) : Int := (B c i).1 + (B c i).2
theorem F72_eq (a b : Int) (h1 : -1000000 ≤ a ∧ a ≤ 1000000) (h2 : -1000000 ≤ b ∧ b ≤ 1000000) : F72 a b = some (a + b) := by
 unfold F72; rw [w64_in (by omega) (by omega)]
def fol (c : Card) : Nat → Nat → List Int
 | 0, _ => []
 | d + 1, v => if cb c v ≤ ca c v then (v : Int) :: fol c d (v + 1) else fol c d (v + 1)
theorem len_fol (c : Card) : ∀ d v, (fol c d v).length ≤ d := by
 intro d
 induction d with
 | zero => intro v; exact Nat.le_refl _
 | succ d ih => intro v; have := ih (v + 1); rw [fol]; split
                · rw [List.length_cons]; omega
                omega
theorem fold_loop (hc : Ok c) : ∀ (d v : Nat) (out : List Int), v + d = c.length → out.length ≤ v → F60l0 c v out v = some (out ++ fol c d v, (c.length : Int)) := by
 have hcl := hc.le
 intro d
 induction d with
 | zero => intro v out hd ho; rw [F60l0, if_neg (by simp; omega), fol, List.append_nil, show v = c.length by omega]
 | succ d ih =>
  intro v out hd ho
  have hlt : v < c.length := by omega
  have r := hc.rng v hlt
  have r0 := hc.rng 0 hc.pos
  obtain ⟨s1, s2, s3, s4, s5⟩ := hc.seg hlt
  rw [F60l0, if_pos (by simp; omega), if_pos ⟨by omega, by omega⟩]
  simp only [Option.bind_eq_bind, show ((v : Int)).toNat = v from rfl]
  rw [show c.getD v (0, 0) = A c v from rfl, Option.bind_some]
  refine (seg_code (by omega) (by omega) hlt (fun o71 m76 => (F72 m76 o71.2).bind fun r78 => (F72 (A c v).1 (A c v).2).bind fun r80 => (if decide (r78 ≤ r80) = true then if List.length out ≤ 1000000000 then some (out ++ [(v : Int)]) else none else some out).bind fun m85 => F60l0 c (w64 ((v : Int) + 1)) m85 (w64 ((v : Int) + 1)))).trans ?_
  rw [next_snd hlt, F72_eq _ _ (by omega) (by omega), F72_eq _ _ (by omega) (by omega)]
  simp only [Option.bind_some]
  rw [show (B c v).1 + (B c v).2 = cb c v from rfl, show (A c v).1 + (A c v).2 = ca c v from rfl, w64_up (by omega), fol]
  by_cases h : cb c v ≤ ca c v
  · rw [if_pos (by simpa using h), if_pos (by omega), if_pos h]
    simp only [Option.bind_some]
    rw [ih (v + 1) _ (by omega) (by simp; omega), List.append_assoc]
    rfl
  rw [if_neg (by simpa using h), if_neg h]
  simp only [Option.bind_some]
  exact ih (v + 1) out (by omega) (by omega)
theorem F60_eq (hc : Ok c) : F60 c = some (fol c c.length 0) := by
 unfold F60
 have f : F60l0 c 0 [] 0 = some ([] ++ fol c c.length 0, (c.length : Int)) := fold_loop hc c.length 0 [] (by omega) (Nat.zero_le _)
 rw [f]
 rfl
theorem F19_eq (hc : c.length ≤ 1000) : F19 c = some (if ck c = 0 then fol c c.length 0 else [], ck c) := by
 unfold F19
 rw [F22_eq hc]
 simp only [Option.bind_eq_bind, Option.bind_some]
 by_cases h : ck c = 0
 · rw [if_neg (by simp [h]), F60_eq (ck_ok h), if_pos h, h]; rfl
 rw [if_pos (by simpa using h), if_neg h]
end
end Go.Proofs.Ythpfffijnkmdgaa.plain
