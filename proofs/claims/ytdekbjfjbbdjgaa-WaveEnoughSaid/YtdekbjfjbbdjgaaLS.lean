/- The records of the statements without the reference: what is made of numbers. -/
import Derived.Test.YtdekbjfjbbdjgaaGS
import Derived.Test.YtdekbjfjbbdjgaaLWf
set_option linter.unusedVariables false
namespace Go.Proofs.Ytdekbjfjbbdjgaa.plain
open Go Go.Cl
def B8 (x : Int) : Prop := 0 ≤ x ∧ x ≤ 255
theorem b8_of {x : Int} (h : (Lit.int .u8 x).wf = true) : B8 x := by
 simp [Lit.wf, IntKind.min, IntKind.max, IntKind.signed, IntKind.bits] at h
 exact ⟨by omega, by omega⟩
section
variable {S M : Int} {rd : List (Int × Int)}
theorem asc_at {v : Int} (ha : Asc rd) (h0 : 0 < v) (hv : v < rd.length) : (rd.getD (v - 1).toNat (0, 0)).1 < (rd.getD v.toNat (0, 0)).1 := by
 have hy : rd[v.toNat]? = some (rd.getD v.toNat (0, 0)) := by
  rw [List.getD_eq_getElem?_getD, List.getElem?_eq_getElem (by omega)]; rfl
 have := ha v.toNat _ hy
 rcases this with e | e
 · omega
 rwa [show v.toNat - 1 = (v - 1).toNat by omega] at e
theorem check_ok (h : Rec0 S M rd) (ha : Asc rd) : F23 S M rd = some 0 := by
 have hl := h.len
 have loop : ∀ (d : Nat) (v last : Int), 0 ≤ v → v + d = rd.length → (last = if v = 0 then -1 else (rd.getD (v - 1).toNat (0, 0)).1) → F23l0 rd last v = some (.inr ()) := by
  intro d
  induction d with
  | zero => intro v last h0 hd hlast; rw [F23l0, if_neg (by simp; omega)]
  | succ d ih =>
   intro v last h0 hd hlast
   have hym : rd.getD v.toNat (0, 0) ∈ rd := by
    rw [List.getD_eq_getElem?_getD, List.getElem?_eq_getElem (by omega)]; exact List.getElem_mem _
   have q1 := h.hour _ hym
   have q2 := h.val _ hym
   have hgt : last < (rd.getD v.toNat (0, 0)).1 := by
    by_cases e : v = 0
    · rw [if_pos e] at hlast; omega
    rw [if_neg e] at hlast
    rw [hlast]
    exact asc_at ha (by omega) (by omega)
   rw [F23l0, if_pos (by simp; omega), if_pos ⟨h0, by omega⟩]
   simp only [F51_eq, Option.bind_eq_bind, Option.bind_some]
   rw [decide_eq_true q1]
   simp only [if_true]
   rw [decide_eq_true q2]
   simp only [if_true, Option.bind_some, Bool.false_eq_true, if_false]
   rw [if_neg (by simp only [decide_eq_true_eq]; omega), w64_in (by omega) (by omega)]
   exact ih (v + 1) _ (by omega) (by omega) (by rw [if_neg (by omega), show v + 1 - 1 = v by omega])
 unfold F23
 simp only [F51_eq, Option.bind_eq_bind, Option.bind_some]
 rw [decide_eq_true h.s, decide_eq_true h.m]
 simp only [if_true, Option.bind_some, Bool.false_eq_true, if_false]
 rw [if_neg (by simp; omega), loop rd.length 0 (-1) (Int.le_refl _) (by omega) (by rw [if_pos rfl])]
 rfl
theorem both_of (h : Rec0 S M rd) (ha : Asc rd) : ∃ out P W, Both S M rd out P W := by
 obtain ⟨e, a, b, c⟩ := judge S M rd
 rw [check_ok h ha] at a
 cases a
 rcases c with ⟨e0, _⟩ | ⟨_, c⟩
 · exact absurd rfl e0
 exact c
end
end Go.Proofs.Ytdekbjfjbbdjgaa.plain
