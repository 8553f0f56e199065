/- CardReads: the plain law. -/
import Derived.Test.YthpfffijnkmdgaaLF3
set_option linter.unusedVariables false
set_option linter.unusedSimpArgs false
set_option maxRecDepth 100000
namespace Go.Proofs.Ythpfffijnkmdgaa.plain
open Go Go.Cl
section
variable {c : Card} {x y : Rat} {i : Nat} {m n : Int}
theorem F16_eq (hc : c.length ≤ 1000) : F16 c = some c := by
 have go : ∀ (d v : Nat) (out : Card), v + d = c.length → out.length ≤ v → F16l0 c out v = some (out ++ c.drop v) := by
  intro d
  induction d with
  | zero => intro v out hd ho; rw [F16l0, if_neg (by simp; omega), List.drop_eq_nil_of_le (by omega), List.append_nil]
  | succ d ih =>
   intro v out hd ho
   have hlt : v < c.length := by omega
   have hdr : c.drop v = c[v] :: c.drop (v + 1) := List.drop_eq_getElem_cons hlt
   rw [F16l0, if_pos (by simp; omega), if_pos ⟨by omega, by omega⟩, w64_up (by omega)]
   simp only [Option.bind_eq_bind, Option.bind_some, show ((v : Int)).toNat = v from rfl, cons_get _ hlt]
   rw [if_pos (by omega), ih (v + 1) _ (by omega) (by simp; omega), hdr, List.append_assoc]
   rfl
 have f : F16l0 c [] 0 = some ([] ++ c.drop 0) := go c.length 0 [] (by omega) (Nat.zero_le _)
 unfold F16
 rw [f]
 rfl
theorem F21_eq {a : List Int} (ha : a.length ≤ 1000) : F21 a a = some true := by
 have go : ∀ (d v : Nat), v + d = a.length → F21l0 a a v = some (.inr ()) := by
  intro d
  induction d with
  | zero => intro v hd; rw [F21l0, if_neg (by simp; omega)]
  | succ d ih =>
   intro v hd
   have hlt : v < a.length := by omega
   rw [F21l0, if_pos (by simp; omega), if_pos ⟨by omega, by omega⟩, w64_up (by omega)]
   simp only [Option.bind_eq_bind, Option.bind_some]
   rw [if_pos ⟨by omega, by omega⟩]
   simp only [bne_self_eq_false, Bool.false_eq_true, if_false]
   exact ih (v + 1) (by omega)
 have f : F21l0 a a 0 = some (.inr ()) := go a.length 0 (by omega)
 unfold F21
 rw [if_neg (by simp), f]
 rfl
theorem Lies.one (hc : Ok c) {i j : Nat} (h : Lies c i x) (g : Lies c j x) : i = j := by
 have le : ∀ {i j : Nat}, Lies c i x → Lies c j x → ¬ i < j := fun {i j} h g e => by
  have m := hc.mono (k := j - (i + 1)) (i := i + 1) (by have := g.1; omega)
  rw [show i + 1 + (j - (i + 1)) = j by omega] at m
  have hb : (B c i).1 = (A c (i + 1)).1 := by unfold B; rw [if_neg (by have := g.1; omega)]
  have := Rat.intCast_le_intCast.2 (show (B c i).1 ≤ (A c j).1 by omega)
  have h3 := h.2.2
  have g2 := g.2.1
  grind
 have := le h g
 have := le g h
 omega
theorem both_dev (hl : c.length ≤ 1000) (n : Int) : ∃ r, F17 c n = some r ∧ F18 c n = some r := by
 unfold F17 F18
 rw [F22_eq hl, F23_eq hl]
 simp only [Option.bind_eq_bind, Option.bind_some]
 by_cases h : ck c = 0
 · have hc := ck_ok h
   rw [h, if_neg (by decide), F53_eq, if_pos (by decide), F57_eq]
   simp only [Option.bind_some]
   by_cases g : 0 ≤ n ∧ n < 3600
   · have h0 : (0 : Rat) ≤ ((n : Int) : Rat) := Rat.intCast_nonneg.2 g.1
     have h1 : ((n : Int) : Rat) < ((3600 : Int) : Rat) := Rat.intCast_lt_intCast.2 g.2
     obtain ⟨i, l1, f1⟩ := F54_eq hc (x := (n : Rat)) (M := 1) (Nat.le_refl _) (by omega) h0 h1
     obtain ⟨j, l2, f2⟩ := F58_eq hc (x := (n : Rat)) (M := 1) (Nat.le_refl _) (by omega) h0 h1
     have e := Lies.one hc l1 l2
     subst e
     rw [decide_eq_true g]
     simp only [Bool.not_true, Bool.false_eq_true, if_false, bne_self_eq_false, Option.bind_some]
     rw [F55_eq, show F59 n = some (n, 1) from rfl]
     simp only [Option.bind_some]
     rw [show F54 c n 1 = some (fr (devAt c i (norm c (n : Rat)))) from f1, show F58 c n 1 = some (fr (devAt c i (norm c (n : Rat)))) from f2]
     exact ⟨_, rfl, rfl⟩
   rw [decide_eq_false g]
   exact ⟨_, rfl, rfl⟩
 rw [if_pos (by simpa using h), if_neg (by simpa using h)]
 simp only [Option.bind_some, Bool.false_eq_true, if_false]
 rw [if_pos (by simpa using h)]
 exact ⟨_, rfl, rfl⟩
end
end Go.Proofs.Ythpfffijnkmdgaa.plain
namespace Go.Proofs.Ythpfffijnkmdgaa
open Go Go.Cl plain
theorem plain (p0 : List (Int × Int)) (p1 : Int) (wp0 : ∀ x ∈ p0, (Lit.int .i64 x.1).wf = true ∧ (Lit.int .i64 x.2).wf = true) (wp1 : (Lit.int .i64 p1).wf = true) : F3 p0 p1 = some true := by
 unfold F3
 by_cases h : (p0.length : Int) > 60
 · rw [if_pos (by simpa using h)]; rfl
 rw [if_neg (by simpa using h)]
 have hl : p0.length ≤ 1000 := by omega
 obtain ⟨r, f17, f18⟩ := both_dev hl p1
 simp only [Option.bind_eq_bind]
 rw [F16_eq hl]
 simp only [Option.bind_some]
 rw [f17, f18, F19_eq hl, F20_eq hl]
 simp only [Option.bind_some, beq_self_eq_true, Bool.and_self, if_true]
 rw [F21_eq (by
  split
  · have := len_fol p0 p0.length 0; omega
  simp)]
 simp only [Option.bind_some, if_true]
 rw [F22_eq hl, F23_eq hl]
 simp only [Option.bind_some, beq_self_eq_true, if_true]
 rfl
end Go.Proofs.Ythpfffijnkmdgaa
