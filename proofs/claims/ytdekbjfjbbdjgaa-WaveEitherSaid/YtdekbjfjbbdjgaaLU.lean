/- Clashes says what a ring's verdict says. -/
import Derived.Test.YtdekbjfjbbdjgaaLR
set_option linter.unusedVariables false
namespace Go.Proofs.Ytdekbjfjbbdjgaa.plain
open Go Go.Cl
section
variable {S M : Int} {rd : List (Int × Int)}
theorem tmod2 (j : Nat) : Int.tmod (j : Int) 2 = ((j % 2 : Nat) : Int) := by rw [Int.tmod_eq_emod_of_nonneg (by omega)]; rfl
def endOf : Int ⊕ Int → Unit ⊕ Int
 | .inl _ => .inl ()
 | .inr z => .inr z
theorem clash_loop (h : Rec0 S M rd) (r : List Int) (hr : r.length ≤ 60) (hi : ∀ i ∈ r, 0 ≤ i ∧ i < (rd.length : Int)) : ∀ (l : List Int) (j : Nat) (p : Int × Int) (odd : Bool) (z : Int), r.drop j = l → j ≤ r.length → (odd = true ↔ j % 2 = 1) →
 p = rdAt rd r ((j + r.length - 1) % r.length) → -(1000000 * (j : Int)) ≤ z → z ≤ 1000000 * (j : Int) →
 F34l0 S M rd r z (j : Int) = some (endOf (vloop S M rd (some p) odd z l)) := by
 have hs := h.s
 have hm := h.m
 have hlen := h.len
 intro l
 induction l with
 | nil =>
  intro j p odd z hl hj ho hp z1 z2
  have hjr : r.length ≤ j := List.drop_eq_nil_iff.1 hl
  rw [F34l0, if_neg (by simp; omega)]
  rfl
 | cons i l ih =>
  intro j p odd z hl hj ho hp z1 z2
  have hjl : j < r.length := by
   refine Classical.byContradiction fun hc => ?_
   rw [List.drop_eq_nil_iff.2 (by omega)] at hl
   cases hl
  have hri : r.getD j 0 = i := by
   have : r[j]? = some i := by
    have e : (r.drop j)[0]? = some i := by rw [hl]; rfl
    rw [List.getElem?_drop] at e
    simpa using e
   simp [List.getD, this]
  have hdrop : r.drop (j + 1) = l := by
   have : (r.drop j).drop 1 = l := by rw [hl]; rfl
   rw [List.drop_drop] at this
   exact this
  have hat : rd.getD i.toNat (0, 0) = rdAt rd r j := by unfold rdAt; rw [hri]
  have ci : 0 ≤ i ∧ i < (rd.length : Int) := by rw [← hri]; exact getD_all (d := 0) hi hjl
  have hq : Int.tmod (w64 (w64 ((j : Int) + (r.length : Int)) - 1)) (r.length : Int) = (((j + r.length - 1) % r.length : Nat) : Int) := by
   have e1 : w64 ((j : Int) + (r.length : Int)) = (j : Int) + (r.length : Int) := w64_in (by omega) (by omega)
   have e2 : w64 ((j : Int) + (r.length : Int) - 1) = (j : Int) + (r.length : Int) - 1 := w64_in (by omega) (by omega)
   rw [e1, e2, Int.tmod_eq_emod_of_nonneg (by omega), show (j : Int) + (r.length : Int) - 1 = ((j + r.length - 1 : Nat) : Int) by omega]
   rfl
  have hql : (j + r.length - 1) % r.length < r.length := Nat.mod_lt _ (by omega)
  have hnext : j = ((j + 1) + r.length - 1) % r.length := by
   rw [show j + 1 + r.length - 1 = j + r.length by omega, Nat.add_mod_right, Nat.mod_eq_of_lt hjl]
  have hpv : rd.getD (r.getD ((j + r.length - 1) % r.length) 0).toNat (0, 0) = p := by rw [hp]; rfl
  generalize (j + r.length - 1) % r.length = q at hq hql hpv
  have cq := getD_all (d := 0) hi hql
  have hym : rdAt rd r j ∈ rd := by rw [← hat]; exact getD_mem (by omega)
  have hyv := h.val _ hym
  have hwj : w64 ((j : Int) + 1) = ((j + 1 : Nat) : Int) := by rw [w64_in (by omega) (by omega)]; rfl
  have ho' : (!odd) = true ↔ (j + 1) % 2 = 1 := by
   cases odd with
   | true => have := ho.1 rfl; simp; omega
   | false =>
    have : ¬ j % 2 = 1 := fun e => by have := ho.2 e; cases this
    simp; omega
  have next := fun (z' : Int) (a : -(1000000 * ((j + 1 : Nat) : Int)) ≤ z') (b : z' ≤ 1000000 * ((j + 1 : Nat) : Int)) =>
   ih (j + 1) (rdAt rd r j) (!odd) z' hdrop (by omega) ho' (by rw [← hnext]) a b
  simp only [vloop, hat]
  rw [if_pos ci, F34l0, if_pos (by simp; omega), if_pos ⟨by omega, by omega⟩]
  simp only [Option.bind_eq_bind, Option.bind_some, Int.toNat_natCast, hri]
  rw [if_neg (by omega), hq, if_pos ⟨by omega, by omega⟩]
  simp only [Int.toNat_natCast]
  rw [if_neg (show ¬ decide (i < 0) = true by simp; omega), if_neg (show ¬ decide (i ≥ (rd.length : Int)) = true by simp; omega), if_neg (show ¬ decide (r.getD q 0 < 0) = true by simp only [decide_eq_true_eq]; omega),
   decide_eq_false (show ¬ r.getD q 0 ≥ (rd.length : Int) by omega)]
  simp only [Option.bind_some, Bool.false_eq_true, if_false]
  rw [if_pos ci, if_pos cq]
  simp only [hat, hpv, tmod2, hwj]
  cases odd with
  | true =>
   have hjo := ho.1 rfl
   rw [if_neg (show ¬ (((j % 2 : Nat) : Int) == 0) = true by rw [hjo]; decide), if_neg (by omega)]
   by_cases cl : linkOk S M (some p) true (rdAt rd r j)
   · have e : Int.tmod p.1 S = Int.tmod (rdAt rd r j).1 S := cl
     rw [if_pos cl, if_neg (by rw [e]; simp), if_pos rfl, w64_in (by omega) (by omega)]
     exact next _ (by omega) (by omega)
   have e : ¬ Int.tmod p.1 S = Int.tmod (rdAt rd r j).1 S := cl
   rw [if_neg cl, if_pos (by simpa using fun x => e x.symm)]
   rfl
  | false =>
   have hje : j % 2 = 0 := by
    have : ¬ j % 2 = 1 := fun e => by have := ho.2 e; cases this
    omega
   rw [if_pos (show (((j % 2 : Nat) : Int) == 0) = true by rw [hje]; rfl), if_neg (by omega)]
   by_cases cl : linkOk S M (some p) false (rdAt rd r j)
   · have e : Int.tmod p.1 M = Int.tmod (rdAt rd r j).1 M := cl
     rw [if_pos cl, if_neg (by rw [e]; simp), if_neg (by decide), w64_in (by omega) (by omega)]
     exact next _ (by omega) (by omega)
   have e : ¬ Int.tmod p.1 M = Int.tmod (rdAt rd r j).1 M := cl
   rw [if_neg cl, if_pos (by simpa using fun x => e x.symm)]
   rfl
theorem vloop_ne : ∀ (l : List Int) (prev : Option (Int × Int)) (odd : Bool) (z e : Int), vloop S M rd prev odd z l = .inl e → e ≠ 0
 | [], _, _, _, _, h => by cases h
 | i :: l, prev, odd, z, e, h => by
  simp only [vloop] at h
  split at h
  · split at h
    · exact vloop_ne l _ _ _ _ h
    cases h; decide
  cases h; decide
theorem clashes2 (h : Rec0 S M rd) (r : List Int) (hr : r.length ≤ 60) (hi : ∀ i ∈ r, 0 ≤ i ∧ i < (rd.length : Int)) : (F34 S M rd r = some true ∧ verdict S M rd r = 0) ∨ (F34 S M rd r = some false ∧ verdict S M rd r ≠ 0) := by
 by_cases c1 : r.length < 2
 · right
   refine ⟨?_, ?_⟩
   · unfold F34
     rw [if_pos (by simp; omega)]
     rfl
   unfold verdict
   rw [if_neg (by omega)]
   decide
 by_cases c2 : r.length % 2 = 0
 · obtain ⟨i, l, rfl⟩ : ∃ i l, r = i :: l := by
    cases r with
    | nil => simp at c1
    | cons i l => exact ⟨i, l, rfl⟩
   have ci := hi i (List.mem_cons_self)
   have hc := clash_loop h (i :: l) hr hi (i :: l) 0 _ false 0 rfl (by omega) ⟨fun e => (by cases e), fun e => (by omega)⟩ rfl (by omega) (by omega)
   rw [show ((0 : Nat) : Int) = 0 from rfl, show (0 + (i :: l).length - 1) % (i :: l).length = (i :: l).length - 1 by rw [Nat.mod_eq_of_lt (by omega)]; omega] at hc
   have e1 : F34 S M rd (i :: l) = match endOf (vloop S M rd (some (rdAt rd (i :: l) ((i :: l).length - 1))) false 0 (i :: l)) with | .inl _ => some false | .inr z => some (z != 0) := by
    unfold F34
    rw [if_neg (by simp only [decide_eq_true_eq]; omega), tmod2]
    simp only [Option.bind_eq_bind, Option.bind_some]
    rw [if_neg (show ¬ (((((i :: l).length) % 2 : Nat) : Int) == 1) = true by rw [c2]; decide), hc]
    rfl
   have e2 : verdict S M rd (i :: l) = match vloop S M rd none false 0 (i :: l) with | .inl e => e | .inr z => if Int.tmod (rd.getD i.toNat (0, 0)).1 M = Int.tmod (rdAt rd (i :: l) ((i :: l).length - 1)).1 M then (if z = 0 then 12 else 0) else 5 := by
    unfold verdict
    rw [if_pos ⟨⟨by omega, hr⟩, c2⟩]
    rfl
   rw [e1, e2]
   generalize rdAt rd (i :: l) ((i :: l).length - 1) = p
   have v1 : vloop S M rd none false 0 (i :: l) = vloop S M rd (some (rd.getD i.toNat (0, 0))) true (0 + (rd.getD i.toNat (0, 0)).2) l := by
    simp only [vloop]
    rw [if_pos ci, if_pos (show linkOk S M none false (rd.getD i.toNat (0, 0)) from trivial)]
    rfl
   have v2 : vloop S M rd (some p) false 0 (i :: l) = if Int.tmod (rd.getD i.toNat (0, 0)).1 M = Int.tmod p.1 M then vloop S M rd (some (rd.getD i.toNat (0, 0))) true (0 + (rd.getD i.toNat (0, 0)).2) l else .inl 5 := by
    simp only [vloop]
    rw [if_pos ci]
    by_cases cl : Int.tmod (rd.getD i.toNat (0, 0)).1 M = Int.tmod p.1 M
    · rw [if_pos (show linkOk S M (some p) false (rd.getD i.toNat (0, 0)) from cl.symm), if_pos cl]
      rfl
    rw [if_neg (show ¬ linkOk S M (some p) false (rd.getD i.toNat (0, 0)) from fun e => cl e.symm), if_neg cl]
   have hn := fun e => vloop_ne (S := S) (M := M) (rd := rd) l (some (rd.getD i.toNat (0, 0))) true (0 + (rd.getD i.toNat (0, 0)).2) e
   rw [v1, v2]
   generalize vloop S M rd (some (rd.getD i.toNat (0, 0))) true (0 + (rd.getD i.toNat (0, 0)).2) l = X at hn ⊢
   cases X with
   | inl e =>
    right
    refine ⟨?_, hn e rfl⟩
    by_cases cl : Int.tmod (rd.getD i.toNat (0, 0)).1 M = Int.tmod p.1 M
    · rw [if_pos cl]; rfl
    rw [if_neg cl]; rfl
   | inr z =>
    by_cases cl : Int.tmod (rd.getD i.toNat (0, 0)).1 M = Int.tmod p.1 M
    · simp only [if_pos cl, endOf]
      by_cases cz : z = 0
      · right; rw [cz]; exact ⟨rfl, by decide⟩
      left; exact ⟨by rw [bne_iff_ne.2 cz], if_neg cz⟩
    simp only [if_neg cl, endOf]
    right; exact ⟨trivial, by decide⟩
 right
 have : r.length % 2 = 1 := by omega
 refine ⟨?_, ?_⟩
 · unfold F34
   rw [if_neg (by simp only [decide_eq_true_eq]; omega), tmod2]
   simp only [Option.bind_eq_bind, Option.bind_some]
   rw [if_pos (show (((r.length % 2 : Nat) : Int) == 1) = true by rw [this]; rfl)]
 unfold verdict
 rw [if_neg (by omega)]
 decide
theorem clashes (h : Rec0 S M rd) (r : List Int) (hr : r.length ≤ 60) (hi : ∀ i ∈ r, 0 ≤ i ∧ i < (rd.length : Int)) : F34 S M rd r = some (decide (verdict S M rd r = 0)) := by
 rcases clashes2 h r hr hi with ⟨a, b⟩ | ⟨a, b⟩
 · rw [a, decide_eq_true b]
 rw [a, decide_eq_false b]
end
end Go.Proofs.Ytdekbjfjbbdjgaa.plain
