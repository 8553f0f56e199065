/- Verify, in plain words. -/
import Derived.Test.YtdekbjfjbbdjgaaLWe
set_option linter.unusedVariables false
namespace Go.Proofs.Ytdekbjfjbbdjgaa.plain
open Go Go.Cl
section
variable {S M : Int} {rd : List (Int × Int)}
def linkOk (S M : Int) (prev : Option (Int × Int)) (odd : Bool) (y : Int × Int) : Prop :=
 match prev with
 | none => True
 | some p => if odd then Int.tmod p.1 S = Int.tmod y.1 S else Int.tmod p.1 M = Int.tmod y.1 M
instance (S M : Int) (prev : Option (Int × Int)) (odd : Bool) (y : Int × Int) : Decidable (linkOk S M prev odd y) := by
 unfold linkOk
 cases prev with
 | none => exact isTrue trivial
 | some p => cases odd <;> exact inferInstanceAs (Decidable (_ = _))
def vloop (S M : Int) (rd : List (Int × Int)) : Option (Int × Int) → Bool → Int → List Int → Int ⊕ Int
 | _, _, z, [] => .inr z
 | prev, odd, z, i :: l =>
  if 0 ≤ i ∧ i < (rd.length : Int) then
   if linkOk S M prev odd (rd.getD i.toNat (0, 0)) then vloop S M rd (some (rd.getD i.toNat (0, 0))) (!odd) (if odd then z - (rd.getD i.toNat (0, 0)).2 else z + (rd.getD i.toNat (0, 0)).2) l
   else .inl 5
  else .inl 6
def rdAt (rd : List (Int × Int)) (r : List Int) (j : Nat) : Int × Int := rd.getD (r.getD j 0).toNat (0, 0)
def verdict (S M : Int) (rd : List (Int × Int)) (r : List Int) : Int :=
 if (2 ≤ r.length ∧ r.length ≤ 60) ∧ r.length % 2 = 0 then
  match vloop S M rd none false 0 r with
  | .inl e => e
  | .inr z => if Int.tmod (rdAt rd r 0).1 M = Int.tmod (rdAt rd r (r.length - 1)).1 M then (if z = 0 then 12 else 0) else 5
 else 4
theorem F55_eq (hS : S ≠ 0) (hM : M ≠ 0) (y : Int × Int) : F55 S M rd y.1 = some (nda S y, ndb M y) := by
 unfold F55
 rw [if_neg hS, if_neg hM]
 rfl
def after (S M : Int) (odd : Bool) (p : Int × Int) : Nd := if odd then nda S p else ndb M p
theorem after_link (odd : Bool) (p y : Int × Int) : (after S M odd p = nda S y ∨ after S M odd p = ndb M y) ↔ linkOk S M (some p) odd y := by
 unfold after linkOk
 cases odd with
 | true =>
  simp only [if_true]
  constructor
  · rintro (e | e)
    · exact (Prod.mk.inj e).2
    exact absurd e nda_ne
  intro e; left; exact Prod.ext rfl e
 | false =>
  simp only [Bool.false_eq_true, if_false]
  constructor
  · rintro (e | e)
    · exact absurd e.symm nda_ne
    exact (Prod.mk.inj e).2
  intro e; right; exact Prod.ext rfl e
theorem prog_step (h : Rec0 S M rd) (r : List Int) (hr : r.length ≤ 80) {j : Nat} (hj : j < r.length) {prev : Option (Int × Int)} {odd : Bool} {z : Int} {first next : Nd} (ho : odd = true ↔ j % 2 = 1)
 (hp : prev = none ↔ j = 0) (hn : ∀ p, prev = some p → next = after S M odd p) :
 F27l0 S M rd r (z, (if odd then -1 else 1), (j : Int), first.1, first.2, next.1, next.2) =
  if 0 ≤ r.getD j 0 ∧ r.getD j 0 < (rd.length : Int) then
   if linkOk S M prev odd (rdAt rd r j) then
    F27l0 S M rd r (w64 (z + w64 ((if odd then -1 else 1) * (rdAt rd r j).2)), w64 (0 - (if odd then -1 else 1)), w64 ((j : Int) + 1), (if j = 0 then ndb M (rdAt rd r j) else first).1, (if j = 0 then ndb M (rdAt rd r j) else first).2,
     (if odd then ndb M (rdAt rd r j) else nda S (rdAt rd r j)).1, (if odd then ndb M (rdAt rd r j) else nda S (rdAt rd r j)).2)
   else some (.inl 5)
  else some (.inl 6) := by
 have hs := h.s
 have hm := h.m
 have hl := h.len
 have g1 : decide ((j : Int) < (r.length : Int)) = true := by simp; omega
 have g2 : (0 : Int) ≤ (j : Int) ∧ (j : Int) < (r.length : Int) := by omega
 have hw : w64 ((rd.length : Int) - 1) = (rd.length : Int) - 1 := w64_in (by omega) (by omega)
 by_cases ci : 0 ≤ r.getD j 0 ∧ r.getD j 0 < (rd.length : Int)
 · rw [if_pos ci]
   have ci' : 0 ≤ r.getD j 0 ∧ r.getD j 0 ≤ (rd.length : Int) - 1 := by omega
   have unfolded : ∀ R, (F27l0 S M rd r (z, (if odd then -1 else 1), (j : Int), first.1, first.2, next.1, next.2) = R) =
    ((if ((j : Int) == 0) = true then
     (if decide ((if odd then (-1 : Int) else 1) < 0) = true then some (ndb M (rdAt rd r j)) else some (nda S (rdAt rd r j))).bind fun m => F27l0 S M rd r (w64 (z + w64 ((if odd then -1 else 1) * (rdAt rd r j).2)), w64 (0 - (if odd then -1 else 1)), w64 ((j : Int) + 1), (ndb M (rdAt rd r j)).1, (ndb M (rdAt rd r j)).2, m.1, m.2)
     else
      (if (!decide (next = nda S (rdAt rd r j))) = true then some (!decide (next = ndb M (rdAt rd r j))) else some false).bind fun m75 =>
       if m75 = true then some (.inl 5)
       else (if decide ((if odd then (-1 : Int) else 1) < 0) = true then some (ndb M (rdAt rd r j)) else some (nda S (rdAt rd r j))).bind fun m => F27l0 S M rd r (w64 (z + w64 ((if odd then -1 else 1) * (rdAt rd r j).2)), w64 (0 - (if odd then -1 else 1)), w64 ((j : Int) + 1), first.1, first.2, m.1, m.2)) = R) := by
    intro R
    conv => lhs; lhs; rw [F27l0]
    dsimp only
    rw [if_pos g1, if_pos g2]
    simp only [Option.bind_eq_bind, Option.bind_some, Int.toNat_natCast, F51_eq, hw]
    rw [decide_eq_true ci']
    simp only [if_true, Option.bind_some, Bool.false_eq_true, if_false]
    rw [if_pos ci]
    have hat : rd.getD (r.getD j 0).toNat (0, 0) = rdAt rd r j := rfl
    rw [hat, F55_eq (by omega) (by omega)]
    simp only [Option.bind_some]
    have eN1 : ((next.1 == (nda S (rdAt rd r j)).1) && ((next.2 == (nda S (rdAt rd r j)).2) && true)) = decide (next = nda S (rdAt rd r j)) := by rw [eqN]
    have eN2 : ((next.1 == (ndb M (rdAt rd r j)).1) && ((next.2 == (ndb M (rdAt rd r j)).2) && true)) = decide (next = ndb M (rdAt rd r j)) := by rw [eqN]
    rw [eN1, eN2]
   rw [unfolded]
   have fin : ∀ f : Nd, ((if decide ((if odd then (-1 : Int) else 1) < 0) = true then some (ndb M (rdAt rd r j)) else some (nda S (rdAt rd r j))).bind fun m => F27l0 S M rd r (w64 (z + w64 ((if odd then -1 else 1) * (rdAt rd r j).2)), w64 (0 - (if odd then -1 else 1)), w64 ((j : Int) + 1), f.1, f.2, m.1, m.2)) =
    F27l0 S M rd r (w64 (z + w64 ((if odd then -1 else 1) * (rdAt rd r j).2)), w64 (0 - (if odd then -1 else 1)), w64 ((j : Int) + 1), f.1, f.2, (if odd then ndb M (rdAt rd r j) else nda S (rdAt rd r j)).1, (if odd then ndb M (rdAt rd r j) else nda S (rdAt rd r j)).2) := fun f => by
    cases odd <;> rfl
   by_cases c0 : j = 0
   · have hpn := hp.2 c0
     rw [if_pos (show ((j : Int) == 0) = true by rw [c0]; rfl), fin, if_pos c0, if_pos (show linkOk S M prev odd (rdAt rd r j) by rw [hpn]; trivial)]
   rw [if_neg (show ¬ ((j : Int) == 0) = true by simp; omega), fin, if_neg c0]
   cases prev with
   | none => exact absurd (hp.1 rfl) c0
   | some p =>
    have hnx := hn p rfl
    have hl2 := after_link (S := S) (M := M) odd p (rdAt rd r j)
    rw [← hnx] at hl2
    by_cases cl : linkOk S M (some p) odd (rdAt rd r j)
    · rw [if_pos cl]
      rcases hl2.2 cl with q | q
      · rw [decide_eq_true q]; rfl
      rw [decide_eq_true q]
      cases decide (next = nda S (rdAt rd r j)) <;> rfl
    rw [if_neg cl]
    have q1 : ¬ next = nda S (rdAt rd r j) := fun e => cl (hl2.1 (.inl e))
    have q2 : ¬ next = ndb M (rdAt rd r j) := fun e => cl (hl2.1 (.inr e))
    rw [decide_eq_false q1, decide_eq_false q2]
    rfl
 rw [if_neg ci]
 have ci' : ¬ (0 ≤ r.getD j 0 ∧ r.getD j 0 ≤ (rd.length : Int) - 1) := by omega
 rw [F27l0]
 dsimp only
 rw [if_pos g1, if_pos g2]
 simp only [Option.bind_eq_bind, Option.bind_some, Int.toNat_natCast, F51_eq, hw]
 rw [decide_eq_false ci']
 rfl
theorem prog_loop (h : Rec0 S M rd) (r : List Int) (hr : r.length ≤ 80) : ∀ (l : List Int) (j : Nat) (prev : Option (Int × Int)) (odd : Bool) (z : Int) (first next : Nd), r.drop j = l → j ≤ r.length → (odd = true ↔ j % 2 = 1) →
 (prev = none ↔ j = 0) → (∀ p, prev = some p → next = after S M odd p) → -(1000000 * (j : Int)) ≤ z → z ≤ 1000000 * (j : Int) →
 (∀ e, vloop S M rd prev odd z l = .inl e → F27l0 S M rd r (z, (if odd then -1 else 1), (j : Int), first.1, first.2, next.1, next.2) = some (.inl e)) ∧
 (∀ z', vloop S M rd prev odd z l = .inr z' → ∃ f n : Nd, F27l0 S M rd r (z, (if odd then -1 else 1), (j : Int), first.1, first.2, next.1, next.2) = some (.inr (z', f.1, f.2, n.1, n.2)) ∧ (f = if j = 0 ∧ r ≠ [] then ndb M (rdAt rd r 0) else first) ∧
  (n = if l = [] then next else after S M (decide (r.length % 2 = 1)) (rdAt rd r (r.length - 1)))) := by
 have hs := h.s
 have hm := h.m
 intro l
 induction l with
 | nil =>
  intro j prev odd z first next hl hj ho hp hn z1 z2
  have hjr : r.length ≤ j := List.drop_eq_nil_iff.1 hl
  refine ⟨fun e he => by simp [vloop] at he, fun z' hz' => ?_⟩
  simp only [vloop, Sum.inr.injEq] at hz'
  subst hz'
  refine ⟨first, next, ?_, ?_, by rw [if_pos rfl]⟩
  · rw [F27l0]
    dsimp only
    rw [if_neg (by simp; omega)]
  by_cases c : j = 0 ∧ r ≠ []
  · exfalso
    have : r.length = 0 := by omega
    exact c.2 (List.length_eq_zero_iff.1 this)
  rw [if_neg c]
 | cons i l ih =>
  intro j prev odd z first next hl hj ho hp hn z1 z2
  have hjl : j < r.length := by
   refine Classical.byContradiction fun hc => ?_
   rw [List.drop_eq_nil_iff.2 (by omega)] at hl
   cases hl
  have hri : r.getD j 0 = i := by
   have : r[j]? = some i := by
    have e : (r.drop j)[0]? = some i := by rw [hl]; rfl
    rw [List.getElem?_drop] at e
    simpa using e
   simp [List.getD, this]
  have hdrop : r.drop (j + 1) = l := by
   have : (r.drop j).drop 1 = l := by rw [hl]; rfl
   rw [List.drop_drop] at this
   exact this
  have hat : rd.getD i.toNat (0, 0) = rdAt rd r j := by unfold rdAt; rw [hri]
  rw [prog_step h r hr hjl ho hp hn, hri]
  simp only [vloop, hat]
  by_cases ci : 0 ≤ i ∧ i < (rd.length : Int)
  · rw [if_pos ci, if_pos ci]
    by_cases cl : linkOk S M prev odd (rdAt rd r j)
    · rw [if_pos cl, if_pos cl]
      have hym : rdAt rd r j ∈ rd := by
       rw [← hat, List.getD_eq_getElem?_getD, List.getElem?_eq_getElem (by omega : i.toNat < rd.length), Option.getD_some]
       exact List.getElem_mem _
      have hyv := h.val _ hym
      generalize hyj : rdAt rd r j = y at *
      have e1 : w64 ((j : Int) + 1) = ((j + 1 : Nat) : Int) := by rw [w64_in (by omega) (by omega)]; rfl
      have e2 : w64 (0 - (if odd then (-1 : Int) else 1)) = (if (!odd) then -1 else 1) := by cases odd <;> rfl
      have e3 : w64 (z + w64 ((if odd then (-1 : Int) else 1) * y.2)) = if odd then z - y.2 else z + y.2 := by
       cases odd with
       | true =>
        simp only [if_true]
        rw [w64_in (x := -1 * y.2) (by omega) (by omega), w64_in (by omega) (by omega)]
        omega
       | false =>
        simp only [Bool.false_eq_true, if_false]
        rw [w64_in (x := 1 * y.2) (by omega) (by omega), w64_in (by omega) (by omega)]
        omega
      have e4 : (if odd then ndb M y else nda S y) = after S M (!odd) y := by cases odd <;> rfl
      rw [e1, e2, e3, e4]
      have ho' : (!odd) = true ↔ (j + 1) % 2 = 1 := by
       cases odd with
       | true => have := ho.1 rfl; simp; omega
       | false =>
        have : ¬ j % 2 = 1 := fun e => by have := ho.2 e; cases this
        simp; omega
      obtain ⟨k1, k2⟩ := ih (j + 1) (some y) (!odd) (if odd then z - y.2 else z + y.2) (if j = 0 then ndb M y else first) (after S M (!odd) y) hdrop (by omega) ho' (by simp) (fun p hp => by cases hp; rfl) (by cases odd <;> simp <;> omega) (by cases odd <;> simp <;> omega)
      refine ⟨k1, fun z' hz' => ?_⟩
      obtain ⟨f, n, g1, g2, g3⟩ := k2 z' hz'
      refine ⟨f, n, g1, ?_, ?_⟩
      · rw [if_neg (by omega)] at g2
        rw [g2]
        by_cases c : j = 0
        · subst c
          rw [if_pos rfl, if_pos ⟨rfl, fun e => by rw [e] at hjl; simp at hjl⟩, hyj]
        rw [if_neg c, if_neg (fun x => c x.1)]
      rw [g3, if_neg (show ¬ i :: l = [] by simp)]
      by_cases c : l = []
      · rw [if_pos c]
        have hjr : r.length = j + 1 := by
         have := List.drop_eq_nil_iff.1 (hdrop.trans c)
         omega
        have : r.length - 1 = j := by omega
        rw [this, hyj]
        congr 1
        cases odd with
        | true => have := ho.1 rfl; simp; omega
        | false =>
         have : ¬ j % 2 = 1 := fun e => by have := ho.2 e; cases this
         simp; omega
      rw [if_neg c]
    rw [if_neg cl, if_neg cl]
    exact ⟨fun e he => by cases he; rfl, fun z' hz' => by cases hz'⟩
  rw [if_neg ci, if_neg ci]
  exact ⟨fun e he => by cases he; rfl, fun z' hz' => by cases hz'⟩
theorem prog_verify (h : Rec0 S M rd) (hc : F23 S M rd = some 0) (r : List Int) (hr : r.length ≤ 80) : F27 S M rd r = some (verdict S M rd r) := by
 unfold F27 verdict
 rw [hc]
 simp only [Option.bind_eq_bind, Option.bind_some, bne_self_eq_false, Bool.false_eq_true, if_false, F51_eq]
 by_cases c1 : 2 ≤ r.length ∧ r.length ≤ 60
 · have c1' : 2 ≤ (r.length : Int) ∧ (r.length : Int) ≤ 60 := by omega
   have hmod : Int.tmod (r.length : Int) 2 = ((r.length % 2 : Nat) : Int) := by rw [Int.tmod_eq_emod_of_nonneg (by omega)]; rfl
   simp only [c1', and_self, decide_true, if_true, hmod, Option.bind_some]
   by_cases c2 : r.length % 2 = 0
   · have : ¬ (((r.length % 2 : Nat) : Int) != 0) = true := by rw [c2]; decide
     rw [if_neg this, if_pos ⟨c1, c2⟩]
     have hrn : r ≠ [] := fun e => by rw [e] at c1; simp at c1
     obtain ⟨k1, k2⟩ := prog_loop h r hr r 0 none false 0 (0, 0) (0, 0) (by simp) (by omega) (by simp) (by simp) (fun p hp => by cases hp) (by simp) (by simp)
     cases hv : vloop S M rd none false 0 r with
     | inl e =>
      have h1' : F27l0 S M rd r (0, 1, 0, 0, 0, 0, 0) = some (.inl e) := k1 e hv
      rw [h1']
      rfl
     | inr z =>
      obtain ⟨f, n, h1, h2, h3⟩ := k2 z hv
      have h1' : F27l0 S M rd r (0, 1, 0, 0, 0, 0, 0) = some (.inr (z, f.1, f.2, n.1, n.2)) := h1
      rw [h1']
      simp only [Option.bind_some]
      rw [if_neg hrn] at h3
      rw [if_pos ⟨rfl, hrn⟩] at h2
      have e : ((n.1 == f.1) && ((n.2 == f.2) && true)) = decide (Int.tmod (rdAt rd r 0).1 M = Int.tmod (rdAt rd r (r.length - 1)).1 M) := by
       rw [eqN, h2, h3]
       unfold after
       rw [if_neg (by simp; omega)]
       refine decide_eq_decide.2 ⟨fun e => (Prod.mk.inj e).2.symm, fun e => Prod.ext rfl e.symm⟩
      rw [e]
      by_cases c3 : Int.tmod (rdAt rd r 0).1 M = Int.tmod (rdAt rd r (r.length - 1)).1 M
      · simp only [c3, decide_true, Bool.not_true, Bool.false_eq_true, if_false, if_true]
        by_cases c4 : z = 0
        · simp [c4]
        simp [c4]
      simp only [c3, decide_false, Bool.not_false, if_true, if_false]
   have : (((r.length % 2 : Nat) : Int) != 0) = true := by
    have : r.length % 2 = 1 := by omega
    rw [this]; decide
   rw [if_pos this, if_neg (fun x => c2 x.2)]
 have c1' : ¬ (2 ≤ (r.length : Int) ∧ (r.length : Int) ≤ 60) := by omega
 simp only [c1', decide_false, Bool.false_eq_true, if_false, Option.bind_some, if_true]
 rw [if_neg (fun x => c1 x.1)]
theorem trail_loop {x t : Nd} {l : List Int} {Z : Int} (h : Trail S M rd x l t Z) : ∀ (prev : Option (Int × Int)) (z : Int), (∀ p, prev = some p → x = after S M (decide (sp x = 1)) p) → vloop S M rd prev (decide (sp x = 1)) z l = .inr (z + Z) := by
 induction h with
 | nil x => intro prev z hp; simp [vloop]
 | @cons x x' t i Z y l h0 hy hj _ ih =>
  intro prev z hp
  have hyd : rd.getD i.toNat (0, 0) = y := by simp [List.getD, hy]
  have hlt := (List.getElem?_eq_some_iff.1 hy).1
  simp only [vloop]
  rw [if_pos ⟨h0, by omega⟩, hyd]
  have hlink : linkOk S M prev (decide (sp x = 1)) y := by
   cases prev with
   | none => trivial
   | some p =>
    have := hp p rfl
    refine (after_link _ p y).1 ?_
    rw [← this]
    exact hj.elim (fun a => .inl a.1) (fun a => .inr a.1)
  rw [if_pos hlink]
  have hs := hj.sp
  have e : (!decide (sp x = 1)) = decide (sp x' = 1) := by
   rw [hs]
   rcases hj with ⟨a, b⟩ | ⟨a, b⟩
   · rw [a]; rfl
   rw [a]; rfl
  rw [e]
  have hx' : ∀ p, some y = some p → x' = after S M (decide (sp x' = 1)) p := fun p hp => by
   cases hp
   rcases hj with ⟨a, b⟩ | ⟨a, b⟩
   · rw [b]; rfl
   rw [b]; rfl
  have := ih (some y) (if decide (sp x = 1) = true then z - y.2 else z + y.2) hx'
  rw [this]
  congr 1
  rcases hj with ⟨a, b⟩ | ⟨a, b⟩
  · rw [a, sp_a]; simp; omega
  rw [a, sp_b]; simp; omega
theorem Trail.ends {x t : Nd} {l : List Int} {Z : Int} (h : Trail S M rd x l t Z) (hne : l ≠ []) : (∃ y x', rdAt rd l 0 = y ∧ Joins S M y x x') ∧ (∃ y x', rdAt rd l (l.length - 1) = y ∧ Joins S M y x' t) := by
 induction h with
 | nil x => exact absurd rfl hne
 | @cons x x' t i Z y l h0 hy hj ht ih =>
  have hyd : rd.getD i.toNat (0, 0) = y := by simp [List.getD, hy]
  refine ⟨⟨y, x', hyd, hj⟩, ?_⟩
  cases l with
  | nil => cases ht; exact ⟨y, x, hyd, hj⟩
  | cons a l =>
   obtain ⟨_, y2, x2, e, j⟩ := ih (by simp)
   refine ⟨y2, x2, ?_, j⟩
   rw [← e]
   simp [rdAt, List.getD]
theorem trail_verdict {m : Nd} {r : List Int} {Z : Int} (h : Trail S M rd m r m Z) (hm : sp m = -1) (hZ : Z ≠ 0) (h2 : 2 ≤ r.length) (h60 : r.length ≤ 60) : verdict S M rd r = 0 := by
 have hk := h.kind
 have hev : r.length % 2 = 0 := by
  refine Classical.byContradiction fun hc => ?_
  rw [if_neg hc] at hk
  omega
 have hl := trail_loop h none 0 (fun p hp => by cases hp)
 have e : decide (sp m = 1) = false := by rw [hm]; rfl
 rw [e, Int.zero_add] at hl
 unfold verdict
 rw [if_pos ⟨⟨h2, h60⟩, hev⟩, hl]
 obtain ⟨⟨y, x, e1, j1⟩, y', x', e2, j2⟩ := h.ends (by intro h; rw [h] at h2; simp at h2)
 have a1 : ∀ {y : Int × Int} {x : Nd}, Joins S M y m x → m = ndb M y := fun {y x} j => by
  rcases j with ⟨a, _⟩ | ⟨a, _⟩
  · rw [a, sp_a] at hm; omega
  exact a
 have b1 := a1 j1
 have b2 := a1 j2.symm
 have : Int.tmod y.1 M = Int.tmod y'.1 M := (Prod.mk.inj (b1.symm.trans b2)).2
 dsimp only
 rw [e1, e2, if_pos this, if_neg hZ]
end
end Go.Proofs.Ytdekbjfjbbdjgaa.plain
