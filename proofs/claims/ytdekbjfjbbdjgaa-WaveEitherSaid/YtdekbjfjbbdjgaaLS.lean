/- The records of the statements without the reference: what is made of numbers. -/
import Derived.Test.YtdekbjfjbbdjgaaGS
import Derived.Test.YtdekbjfjbbdjgaaLWf
set_option linter.unusedVariables false
namespace Go.Proofs.Ytdekbjfjbbdjgaa.plain
open Go Go.Cl
def B8 (x : Int) : Prop := 0 ≤ x ∧ x ≤ 255
theorem b8_of {x : Int} (h : (Lit.int .u8 x).wf = true) : B8 x := by
 simp [Lit.wf, IntKind.min, IntKind.max, IntKind.signed, IntKind.bits] at h
 exact ⟨by omega, by omega⟩
section
variable {S M : Int} {rd : List (Int × Int)}
theorem asc_at {v : Int} (ha : Asc rd) (h0 : 0 < v) (hv : v < rd.length) : (rd.getD (v - 1).toNat (0, 0)).1 < (rd.getD v.toNat (0, 0)).1 := by
 have hy : rd[v.toNat]? = some (rd.getD v.toNat (0, 0)) := by
  rw [List.getD_eq_getElem?_getD, List.getElem?_eq_getElem (by omega)]; rfl
 have := ha v.toNat _ hy
 rcases this with e | e
 · omega
 rwa [show v.toNat - 1 = (v - 1).toNat by omega] at e
theorem check_ok (h : Rec0 S M rd) (ha : Asc rd) : F23 S M rd = some 0 := by
 have hl := h.len
 have loop : ∀ (d : Nat) (v last : Int), 0 ≤ v → v + d = rd.length → (last = if v = 0 then -1 else (rd.getD (v - 1).toNat (0, 0)).1) → F23l0 rd last v = some (.inr ()) := by
  intro d
  induction d with
  | zero => intro v last h0 hd hlast; rw [F23l0, if_neg (by simp; omega)]
  | succ d ih =>
   intro v last h0 hd hlast
   have hym : rd.getD v.toNat (0, 0) ∈ rd := by
    rw [List.getD_eq_getElem?_getD, List.getElem?_eq_getElem (by omega)]; exact List.getElem_mem _
   have q1 := h.hour _ hym
   have q2 := h.val _ hym
   have hgt : last < (rd.getD v.toNat (0, 0)).1 := by
    by_cases e : v = 0
    · rw [if_pos e] at hlast; omega
    rw [if_neg e] at hlast
    rw [hlast]
    exact asc_at ha (by omega) (by omega)
   rw [F23l0, if_pos (by simp; omega), if_pos ⟨h0, by omega⟩]
   simp only [F51_eq, Option.bind_eq_bind, Option.bind_some]
   rw [decide_eq_true q1]
   simp only [if_true]
   rw [decide_eq_true q2]
   simp only [if_true, Option.bind_some, Bool.false_eq_true, if_false]
   rw [if_neg (by simp only [decide_eq_true_eq]; omega), w64_in (by omega) (by omega)]
   exact ih (v + 1) _ (by omega) (by omega) (by rw [if_neg (by omega), show v + 1 - 1 = v by omega])
 unfold F23
 simp only [F51_eq, Option.bind_eq_bind, Option.bind_some]
 rw [decide_eq_true h.s, decide_eq_true h.m]
 simp only [if_true, Option.bind_some, Bool.false_eq_true, if_false]
 rw [if_neg (by simp; omega), loop rd.length 0 (-1) (Int.le_refl _) (by omega) (by rw [if_pos rfl])]
 rfl
theorem both_of (h : Rec0 S M rd) (ha : Asc rd) : ∃ out P W, Both S M rd out P W := both_from h ha (check_ok h ha)
theorem ring_good {w : Int → Int} (hg : ∀ y ∈ rd, goodR S M w y) : ∀ (l : List Int) (prev : Option (Int × Int)) (odd : Bool) (z z' C : Int), vloop S M rd prev odd z l = .inr z' →
 (∀ p, prev = some p → z = if odd then C + w (Int.tmod p.1 S) else C - w (S + Int.tmod p.1 M)) → (prev = none → odd = false ∧ z = 0 ∧ ∀ i l', l = i :: l' → C = w (S + Int.tmod (rd.getD i.toNat (0, 0)).1 M)) →
 ∀ (p : Int × Int), (match l.getLast? with | some i => some (rd.getD i.toNat (0, 0)) | none => prev) = some p → z' = if (odd != decide (l.length % 2 = 1)) then C + w (Int.tmod p.1 S) else C - w (S + Int.tmod p.1 M) := by
 intro l
 induction l with
 | nil =>
  intro prev odd z z' C h h1 h2 p hp
  simp only [vloop, Sum.inr.injEq] at h
  simp only [List.getLast?_nil] at hp
  rw [← h, h1 p hp]
  cases odd <;> rfl
 | cons i l ih =>
  intro prev odd z z' C h h1 h2 p hp
  simp only [vloop] at h
  split at h
  · rename_i ci
    split at h
    · rename_i cl
      have hym : rd.getD i.toNat (0, 0) ∈ rd := by
       rw [List.getD_eq_getElem?_getD, List.getElem?_eq_getElem (by omega)]; exact List.getElem_mem _
      have hgy := hg _ hym
      unfold goodR at hgy
      have := ih (some (rd.getD i.toNat (0, 0))) (!odd) _ z' C h (fun q hq => ?_) (fun hq => by cases hq) p ?_
      · rw [this]
        congr 1
        simp only [List.length_cons]
        have e : decide ((l.length + 1) % 2 = 1) = !decide (l.length % 2 = 1) := by
         by_cases c : l.length % 2 = 1
         · rw [decide_eq_true c, decide_eq_false (by omega)]; rfl
         rw [decide_eq_false c, decide_eq_true (by omega)]; rfl
        rw [e]
        cases odd <;> cases decide (l.length % 2 = 1) <;> rfl
      · cases hq
        cases prev with
        | none =>
         obtain ⟨a, b, c⟩ := h2 rfl
         subst a b
         have := c i l rfl
         simp only [Bool.false_eq_true, if_false, Bool.not_false, if_true]
         omega
        | some q =>
         have hz := h1 q rfl
         cases odd with
         | true =>
          have : Int.tmod q.1 S = Int.tmod (rd.getD i.toNat (0, 0)).1 S := cl
          simp only [if_true, Bool.not_true, Bool.false_eq_true, if_false] at hz ⊢
          rw [this] at hz
          omega
         | false =>
          have : Int.tmod q.1 M = Int.tmod (rd.getD i.toNat (0, 0)).1 M := cl
          simp only [Bool.false_eq_true, if_false, Bool.not_false, if_true] at hz ⊢
          rw [this] at hz
          omega
      cases l with
      | nil => simpa using hp
      | cons a l => rw [List.getLast?_cons_cons] at hp; exact hp
    cases h
  cases h
theorem verdict_good {w : Int → Int} (hg : ∀ y ∈ rd, goodR S M w y) (r : List Int) : verdict S M rd r ≠ 0 := by
 unfold verdict
 split
 · rename_i c
   cases hv : vloop S M rd none false 0 r with
   | inl e =>
    dsimp only
    have : ∀ (l : List Int) (prev : Option (Int × Int)) (odd : Bool) (z e : Int), vloop S M rd prev odd z l = .inl e → e ≠ 0 := by
     intro l
     induction l with
     | nil => intro prev odd z e h; cases h
     | cons i l ih =>
      intro prev odd z e h
      simp only [vloop] at h
      split at h
      · split at h
        · exact ih _ _ _ _ h
        cases h; decide
      cases h; decide
    exact this _ _ _ _ _ hv
   | inr z =>
    dsimp only
    obtain ⟨i, l, rfl⟩ : ∃ i l, r = i :: l := by cases r with | nil => simp at c | cons i l => exact ⟨i, l, rfl⟩
    obtain ⟨j, hj⟩ : ∃ j, (i :: l).getLast? = some j := ⟨_, List.getLast?_cons⟩
    have := ring_good hg (i :: l) none false 0 z _ hv (fun p hp => by cases hp) (fun _ => ⟨rfl, rfl, fun i' l' e => by cases e; rfl⟩) (rd.getD j.toNat (0, 0)) (by rw [hj])
    have hodd : decide ((i :: l).length % 2 = 1) = false := decide_eq_false (by omega)
    rw [hodd] at this
    simp only [bne_self_eq_false, Bool.false_eq_true, if_false] at this
    have h0 : rdAt rd (i :: l) 0 = rd.getD i.toNat (0, 0) := rfl
    have h1 : rdAt rd (i :: l) ((i :: l).length - 1) = rd.getD j.toNat (0, 0) := by
     rw [List.getLast?_eq_getElem?] at hj
     have e : (i :: l).getD ((i :: l).length - 1) 0 = j := by rw [List.getD_eq_getElem?_getD, hj]; rfl
     unfold rdAt
     rw [e]
    rw [h0, h1]
    split
    · rename_i e
      rw [e] at this
      rw [if_pos (by omega)]; decide
    decide
 decide
end
end Go.Proofs.Ytdekbjfjbbdjgaa.plain
