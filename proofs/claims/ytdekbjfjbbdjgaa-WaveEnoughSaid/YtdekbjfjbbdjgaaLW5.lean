/- The reference's parts and waves: one reading. -/
import Derived.Test.YtdekbjfjbbdjgaaLW4
set_option linter.unusedVariables false
namespace Go.Proofs.Ytdekbjfjbbdjgaa.plain
open Go Go.Cl
section
variable {S M : Int} {rd : List (Int × Int)}
def at0 (l : List Int) (i : Int) : Int := l.getD i.toNat 0
theorem at0_set {l : List Int} {i j v : Int} (hi : 0 ≤ i) (hl : i < l.length) (hj : 0 ≤ j) : at0 (l.set i.toNat v) j = if j = i then v else at0 l j := by
 unfold at0
 simp only [List.getD_eq_getElem?_getD, List.getElem?_set]
 by_cases e : j = i
 · subst e
   rw [if_pos rfl, if_pos rfl, if_pos (by omega)]; rfl
 rw [if_neg e, if_neg (by omega)]
def relax (i : Int) (e : Int × Int × Int) (P W : List Int) : List Int × List Int :=
 let r : List Int × List Int := if at0 P e.1 = i ∧ at0 P e.2.1 < 0 then (P.set e.2.1.toNat i, W.set e.2.1.toNat (w64 (e.2.2 - at0 W e.1))) else (P, W)
 if at0 r.1 e.2.1 = i ∧ at0 r.1 e.1 < 0 then (r.1.set e.1.toNat i, r.2.set e.1.toNat (w64 (e.2.2 - at0 r.2 e.2.1))) else r
theorem l3_end {i v k : Int} {P W : List Int} (h : (rd.length : Int) ≤ k) : F48l3 S M rd i v k P W = some (P, W) := by
 rw [F48l3, if_neg (by simpa using h)]
theorem l3_step (h : Rec0 S M rd) {i v k : Int} {P W : List Int} (h0 : 0 ≤ k) (hk : k < (rd.length : Int)) (hP : (P.length : Int) = S + M) (hW : (W.length : Int) = S + M) {y : Int × Int} (hy : rd[k.toNat]? = some y) :
 F48l3 S M rd i v k P W = F48l3 S M rd i v (k + 1) (relax i (Int.tmod y.1 S, S + Int.tmod y.1 M, y.2) P W).1 (relax i (Int.tmod y.1 S, S + Int.tmod y.1 M, y.2) P W).2 := by
 have hs := h.s
 have hm := h.m
 have hym : y ∈ rd := List.mem_of_getElem? hy
 have a := tmod_in (h.hour y hym).1 hs.1
 have b := tmod_in (h.hour y hym).1 hm.1
 have hl := h.len
 have hyd : rd.getD k.toNat (0, 0) = y := by simp [List.getD, hy]
 have hw : w64 (S + Int.tmod y.1 M) = S + Int.tmod y.1 M := w64_in (by omega) (by omega)
 rw [F48l3, if_pos (by simpa using hk), if_pos ⟨h0, hk⟩]
 simp only [Option.bind_eq_bind, Option.bind_some]
 rw [hyd]
 have fold : ∀ (l : List Int) (j : Int), l.getD j.toNat 0 = at0 l j := fun _ _ => rfl
 simp only [fold]
 generalize Int.tmod y.1 S = A at *
 generalize Int.tmod y.1 M = B at *
 have hw2 : w64 (k + 1) = k + 1 := w64_in (by omega) (by omega)
 simp only [hw, hw2, if_neg (show ¬ S = 0 by omega), if_neg (show ¬ M = 0 by omega)]
 have half : ∀ P1 W1 : List Int, (P1.length : Int) = S + M → (W1.length : Int) = S + M →
  (if 0 ≤ S + B ∧ S + B < (P1.length : Int) then
   (if (at0 P1 (S + B) == i) = true then if 0 ≤ A ∧ A < (P1.length : Int) then some (decide (at0 P1 A < 0)) else none else some false).bind fun m1304 =>
    (if m1304 = true then if 0 ≤ S + B ∧ S + B < (W1.length : Int) then if 0 ≤ A ∧ A < (P1.length : Int) then if 0 ≤ A ∧ A < (W1.length : Int) then
     some (P1.set A.toNat i, W1.set A.toNat (w64 (y.snd - at0 W1 (S + B)))) else none else none else none else some (P1, W1)).bind
     fun m1314 => F48l3 S M rd i v (k + 1) m1314.fst m1314.snd
   else none) = F48l3 S M rd i v (k + 1) (if at0 P1 (S + B) = i ∧ at0 P1 A < 0 then (P1.set A.toNat i, W1.set A.toNat (w64 (y.snd - at0 W1 (S + B)))) else (P1, W1)).1
    (if at0 P1 (S + B) = i ∧ at0 P1 A < 0 then (P1.set A.toNat i, W1.set A.toNat (w64 (y.snd - at0 W1 (S + B)))) else (P1, W1)).2 := by
  intro P1 W1 h1 h2
  have g1 : 0 ≤ A ∧ A < (P1.length : Int) := by omega
  have g2 : 0 ≤ S + B ∧ S + B < (P1.length : Int) := by omega
  have g3 : 0 ≤ A ∧ A < (W1.length : Int) := by omega
  have g4 : 0 ≤ S + B ∧ S + B < (W1.length : Int) := by omega
  simp only [if_pos g1, if_pos g2, if_pos g3, if_pos g4]
  by_cases d1 : at0 P1 (S + B) = i
  · by_cases d2 : at0 P1 A < 0
    · simp only [d1, d2, beq_self_eq_true, if_true, Option.bind_some, decide_true, and_self]
    simp only [d1, d2, beq_self_eq_true, if_true, Option.bind_some, decide_false, and_false, if_false, Bool.false_eq_true]
  simp only [beq_iff_eq, d1, if_false, Option.bind_some, false_and, Bool.false_eq_true]
 have gA : (0 : Int) ≤ A ∧ A < (P.length : Int) := by omega
 have gB : (0 : Int) ≤ S + B ∧ S + B < (P.length : Int) := by omega
 have gA' : (0 : Int) ≤ A ∧ A < (W.length : Int) := by omega
 have gB' : (0 : Int) ≤ S + B ∧ S + B < (W.length : Int) := by omega
 unfold relax
 dsimp only
 simp only [if_pos gA, if_pos gB, if_pos gA', if_pos gB']
 by_cases c1 : at0 P A = i
 · by_cases c2 : at0 P (S + B) < 0
   · rw [show (if at0 P A = i ∧ at0 P (S + B) < 0 then (P.set (S + B).toNat i, W.set (S + B).toNat (w64 (y.2 - at0 W A))) else (P, W)) = (P.set (S + B).toNat i, W.set (S + B).toNat (w64 (y.2 - at0 W A))) from if_pos ⟨c1, c2⟩]
     simp only [if_pos (show (at0 P A == i) = true by simpa using c1), Option.bind_some, if_pos (show decide (at0 P (S + B) < 0) = true by simpa using c2)]
     have hh := half (P.set (S + B).toNat i) (W.set (S + B).toNat (w64 (y.2 - at0 W A))) (by rw [List.length_set]; exact hP) (by rw [List.length_set]; exact hW)
     simp only [List.length_set, if_pos gA, if_pos gB, if_pos gA', if_pos gB'] at hh ⊢
     exact hh
   rw [show (if at0 P A = i ∧ at0 P (S + B) < 0 then (P.set (S + B).toNat i, W.set (S + B).toNat (w64 (y.2 - at0 W A))) else (P, W)) = (P, W) from if_neg (fun e => c2 e.2)]
   simp only [if_pos (show (at0 P A == i) = true by simpa using c1), Option.bind_some, if_neg (show ¬ decide (at0 P (S + B) < 0) = true by simpa using c2)]
   have hh := half P W hP hW
   simp only [if_pos gA, if_pos gB, if_pos gA', if_pos gB'] at hh ⊢
   exact hh
 rw [show (if at0 P A = i ∧ at0 P (S + B) < 0 then (P.set (S + B).toNat i, W.set (S + B).toNat (w64 (y.2 - at0 W A))) else (P, W)) = (P, W) from if_neg (fun e => c1 e.1)]
 simp only [if_neg (show ¬ (at0 P A == i) = true by simpa using c1), Option.bind_some, Bool.false_eq_true, if_false]
 have hh := half P W hP hW
 simp only [if_pos gA, if_pos gB, if_pos gA', if_pos gB'] at hh ⊢
 exact hh
end
end Go.Proofs.Ytdekbjfjbbdjgaa.plain
