/- Verify, in plain words. -/
import Derived.Test.YtdekbjfjbbdjgaaLWe
set_option linter.unusedVariables false
namespace Go.Proofs.Ytdekbjfjbbdjgaa.plain
open Go Go.Cl
section
variable {S M : Int} {rd : List (Int × Int)}
def linkOk (S M : Int) (prev : Option (Int × Int)) (odd : Bool) (y : Int × Int) : Prop :=
 match prev with
 | none => True
 | some p => if odd then Int.tmod p.1 S = Int.tmod y.1 S else Int.tmod p.1 M = Int.tmod y.1 M
instance (S M : Int) (prev : Option (Int × Int)) (odd : Bool) (y : Int × Int) : Decidable (linkOk S M prev odd y) := by
 unfold linkOk
 cases prev with
 | none => exact isTrue trivial
 | some p => cases odd <;> exact inferInstanceAs (Decidable (_ = _))
def vloop (S M : Int) (rd : List (Int × Int)) : Option (Int × Int) → Bool → Int → List Int → Int ⊕ Int
 | _, _, z, [] => .inr z
 | prev, odd, z, i :: l =>
  if 0 ≤ i ∧ i < (rd.length : Int) then
   if linkOk S M prev odd (rd.getD i.toNat (0, 0)) then vloop S M rd (some (rd.getD i.toNat (0, 0))) (!odd) (if odd then z - (rd.getD i.toNat (0, 0)).2 else z + (rd.getD i.toNat (0, 0)).2) l
   else .inl 5
  else .inl 6
def rdAt (rd : List (Int × Int)) (r : List Int) (j : Nat) : Int × Int := rd.getD (r.getD j 0).toNat (0, 0)
def verdict (S M : Int) (rd : List (Int × Int)) (r : List Int) : Int :=
 if (2 ≤ r.length ∧ r.length ≤ 60) ∧ r.length % 2 = 0 then
  match vloop S M rd none false 0 r with
  | .inl e => e
  | .inr z => if Int.tmod (rdAt rd r 0).1 M = Int.tmod (rdAt rd r (r.length - 1)).1 M then (if z = 0 then 12 else 0) else 5
 else 4
def after (S M : Int) (odd : Bool) (p : Int × Int) : Nd := if odd then nda S p else ndb M p
theorem after_link (odd : Bool) (p y : Int × Int) : (after S M odd p = nda S y ∨ after S M odd p = ndb M y) ↔ linkOk S M (some p) odd y := by
 unfold after linkOk
 cases odd with
 | true =>
  simp only [if_true]
  constructor
  · rintro (e | e)
    · exact (Prod.mk.inj e).2
    exact absurd e nda_ne
  intro e; left; exact Prod.ext rfl e
 | false =>
  simp only [Bool.false_eq_true, if_false]
  constructor
  · rintro (e | e)
    · exact absurd e.symm nda_ne
    exact (Prod.mk.inj e).2
  intro e; right; exact Prod.ext rfl e
theorem trail_loop {x t : Nd} {l : List Int} {Z : Int} (h : Trail S M rd x l t Z) : ∀ (prev : Option (Int × Int)) (z : Int), (∀ p, prev = some p → x = after S M (decide (sp x = 1)) p) → vloop S M rd prev (decide (sp x = 1)) z l = .inr (z + Z) := by
 induction h with
 | nil x => intro prev z hp; simp [vloop]
 | @cons x x' t i Z y l h0 hy hj _ ih =>
  intro prev z hp
  have hyd : rd.getD i.toNat (0, 0) = y := by simp [List.getD, hy]
  have hlt := (List.getElem?_eq_some_iff.1 hy).1
  simp only [vloop]
  rw [if_pos ⟨h0, by omega⟩, hyd]
  have hlink : linkOk S M prev (decide (sp x = 1)) y := by
   cases prev with
   | none => trivial
   | some p =>
    have := hp p rfl
    refine (after_link _ p y).1 ?_
    rw [← this]
    exact hj.elim (fun a => .inl a.1) (fun a => .inr a.1)
  rw [if_pos hlink]
  have hs := hj.sp
  have e : (!decide (sp x = 1)) = decide (sp x' = 1) := by
   rw [hs]
   rcases hj with ⟨a, b⟩ | ⟨a, b⟩
   · rw [a]; rfl
   rw [a]; rfl
  rw [e]
  have hx' : ∀ p, some y = some p → x' = after S M (decide (sp x' = 1)) p := fun p hp => by
   cases hp
   rcases hj with ⟨a, b⟩ | ⟨a, b⟩
   · rw [b]; rfl
   rw [b]; rfl
  have := ih (some y) (if decide (sp x = 1) = true then z - y.2 else z + y.2) hx'
  rw [this]
  congr 1
  rcases hj with ⟨a, b⟩ | ⟨a, b⟩
  · rw [a, sp_a]; simp; omega
  rw [a, sp_b]; simp; omega
theorem Trail.ends {x t : Nd} {l : List Int} {Z : Int} (h : Trail S M rd x l t Z) (hne : l ≠ []) : (∃ y x', rdAt rd l 0 = y ∧ Joins S M y x x') ∧ (∃ y x', rdAt rd l (l.length - 1) = y ∧ Joins S M y x' t) := by
 induction h with
 | nil x => exact absurd rfl hne
 | @cons x x' t i Z y l h0 hy hj ht ih =>
  have hyd : rd.getD i.toNat (0, 0) = y := by simp [List.getD, hy]
  refine ⟨⟨y, x', hyd, hj⟩, ?_⟩
  cases l with
  | nil => cases ht; exact ⟨y, x, hyd, hj⟩
  | cons a l =>
   obtain ⟨_, y2, x2, e, j⟩ := ih (by simp)
   refine ⟨y2, x2, ?_, j⟩
   rw [← e]
   simp [rdAt, List.getD]
theorem trail_verdict {m : Nd} {r : List Int} {Z : Int} (h : Trail S M rd m r m Z) (hm : sp m = -1) (hZ : Z ≠ 0) (h2 : 2 ≤ r.length) (h60 : r.length ≤ 60) : verdict S M rd r = 0 := by
 have hk := h.kind
 have hev : r.length % 2 = 0 := by
  refine Classical.byContradiction fun hc => ?_
  rw [if_neg hc] at hk
  omega
 have hl := trail_loop h none 0 (fun p hp => by cases hp)
 have e : decide (sp m = 1) = false := by rw [hm]; rfl
 rw [e, Int.zero_add] at hl
 unfold verdict
 rw [if_pos ⟨⟨h2, h60⟩, hev⟩, hl]
 obtain ⟨⟨y, x, e1, j1⟩, y', x', e2, j2⟩ := h.ends (by intro h; rw [h] at h2; simp at h2)
 have a1 : ∀ {y : Int × Int} {x : Nd}, Joins S M y m x → m = ndb M y := fun {y x} j => by
  rcases j with ⟨a, _⟩ | ⟨a, _⟩
  · rw [a, sp_a] at hm; omega
  exact a
 have b1 := a1 j1
 have b2 := a1 j2.symm
 have : Int.tmod y.1 M = Int.tmod y'.1 M := (Prod.mk.inj (b1.symm.trans b2)).2
 dsimp only
 rw [e1, e2, if_pos this, if_neg hZ]
end
end Go.Proofs.Ytdekbjfjbbdjgaa.plain
