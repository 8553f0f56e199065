/- The state that a set of operations leaves, whatever their order. -/
import Derived.Test.YtiaippkjgmccoaaCl21
set_option linter.unusedSimpArgs false
set_option linter.unusedVariables false
namespace Go.Cl
open Go Go.RowKit

def stepJ (S : Nat → QSt) (R : Nat → Option QRes) (j : Nat) (H : Nat → Blk) : Nat → Blk :=
  match R j with
  | some q => stepF (S j).heap.length q H
  | none => H

/-- The heap behind those of the first j operations that are in K. -/
def HK (h0 : List Blk) (S : Nat → QSt) (R : Nat → Option QRes) (K : Nat → Bool) : Nat → Nat → Blk
  | 0 => toF h0
  | j + 1 => if K j then stepJ S R j (HK h0 S R K j) else HK h0 S R K j

def putJ (ops : Array Oper) (R : Nat → Option QRes) (j : Nat) (l : List Value) : List Value :=
  match dstOf ops j with
  | some d => l.set d (valOf R j)
  | none => l

def TK (ops : Array Oper) (a0 : CAct) (R : Nat → Option QRes) (K : Nat → Bool) : Nat → List Value
  | 0 => a0.tmps
  | j + 1 => if K j then putJ ops R j (TK ops a0 R K j) else TK ops a0 R K j

/-- Does the operation make or write this block? -/
def touches (S : Nat → QSt) (R : Nat → Option QRes) (z id : Nat) : Prop := InNew (S z).heap.length (newOf R z).length id ∨ ∃ b, updOf R z = some (id, b)

section
variable {S : Nat → QSt} {R : Nat → Option QRes} {h0 : List Blk} {ops : Array Oper} {a0 : CAct}

theorem stepJ_some {z : Nat} {q : QRes} {H : Nat → Blk} (h : R z = some q) : stepJ S R z H = stepF (S z).heap.length q H := by
  unfold stepJ; rw [h]
theorem stepJ_none {z : Nat} {H : Nat → Blk} (h : R z = none) : stepJ S R z H = H := by
  unfold stepJ; rw [h]

theorem stepJ_not {z id : Nat} {H : Nat → Blk} (h : ¬ touches S R z id) : stepJ S R z H id = H id := by
  cases hq : R z with
  | some q =>
    rw [stepJ_some hq]
    have h1 : ¬ InNew (S z).heap.length q.new.length id := fun hn => h (.inl (by unfold newOf; rw [hq]; exact hn))
    rcases stepF_old (H := H) h1 with ⟨b, hu, _⟩ | ⟨_, e⟩
    · exact absurd (.inr ⟨b, by unfold updOf; rw [hq]; exact hu⟩) h
    · exact e
  | none => rw [stepJ_none hq]
theorem stepJ_touch {z id : Nat} {H H' : Nat → Blk} (h : touches S R z id) : stepJ S R z H id = stepJ S R z H' id := by
  cases hq : R z with
  | some q =>
    rw [stepJ_some hq, stepJ_some hq]
    by_cases h1 : InNew (S z).heap.length q.new.length id
    · unfold stepF
      have h1' : (S z).heap.length ≤ id ∧ id < (S z).heap.length + q.new.length := h1
      rw [if_pos h1', if_pos h1']
    · rcases h with h | ⟨b, h⟩
      · unfold newOf at h; rw [hq] at h; exact absurd h h1
      · unfold updOf at h
        rw [hq] at h
        simp only [Option.bind_some] at h
        unfold stepF
        have h1' : ¬ ((S z).heap.length ≤ id ∧ id < (S z).heap.length + q.new.length) := h1
        rw [if_neg h1', if_neg h1', h]
        simp
  | none =>
    rcases h with h | ⟨b, h⟩
    · unfold newOf at h; rw [hq] at h; have h2 := h.1; have h3 := h.2; simp at h3; omega
    · unfold updOf at h; rw [hq] at h; cases h

theorem HK_skip {K : Nat → Bool} {id j : Nat} : ∀ {j' : Nat}, j ≤ j' → (∀ z, j ≤ z → z < j' → K z = true → ¬ touches S R z id) → HK h0 S R K j' id = HK h0 S R K j id := by
  intro j'
  induction j' with
  | zero => intro hj _; have : j = 0 := by omega
            subst this; rfl
  | succ j' ih =>
    intro hj h
    by_cases he : j = j' + 1
    · subst he; rfl
    · show (if K j' then stepJ S R j' (HK h0 S R K j') else HK h0 S R K j') id = _
      have := ih (by omega) (fun z h1 h2 => h z h1 (by omega))
      split
      · rename_i hk
        rw [stepJ_not (h j' (by omega) (by omega) hk)]; exact this
      · exact this

theorem HK_congr {K K' : Nat → Bool} {id : Nat} : ∀ {j : Nat}, (∀ z, z < j → touches S R z id → K z = K' z) → HK h0 S R K j id = HK h0 S R K' j id := by
  intro j
  induction j with
  | zero => intro _; rfl
  | succ j ih =>
    intro h
    have h1 := ih fun z hz => h z (by omega)
    show (if K j then stepJ S R j (HK h0 S R K j) else HK h0 S R K j) id = (if K' j then stepJ S R j (HK h0 S R K' j) else HK h0 S R K' j) id
    by_cases ht : touches S R j id
    · rw [h j (by omega) ht]
      split
      · exact stepJ_touch ht
      · exact h1
    · have e1 : ∀ (c : Bool) (H : Nat → Blk), (if c then stepJ S R j H else H) id = H id := fun c H => by
        split
        · exact stepJ_not ht
        · rfl
      rw [e1, e1]; exact h1

theorem putJ_not {z t : Nat} {l : List Value} (h : dstOf ops z ≠ some t) : (putJ ops R z l)[t]? = l[t]? := by
  unfold putJ
  split
  · rename_i d hd
    rw [List.getElem?_set_ne]
    rintro rfl
    exact h hd
  · rfl
theorem putJ_touch {z t : Nat} {l l' : List Value} (h : dstOf ops z = some t) (hl : l.length = l'.length) : (putJ ops R z l)[t]? = (putJ ops R z l')[t]? := by
  unfold putJ
  rw [h]
  simp only [List.getElem?_set, hl, if_true]
theorem putJ_length {z : Nat} {l : List Value} : (putJ ops R z l).length = l.length := by
  unfold putJ; split <;> simp
theorem TK_length {K : Nat → Bool} : ∀ {j : Nat}, (TK ops a0 R K j).length = a0.tmps.length := by
  intro j
  induction j with
  | zero => rfl
  | succ j ih =>
    show (if K j then putJ ops R j (TK ops a0 R K j) else TK ops a0 R K j).length = _
    split
    · rw [putJ_length]; exact ih
    · exact ih

theorem TK_skip {K : Nat → Bool} {t j : Nat} : ∀ {j' : Nat}, j ≤ j' → (∀ z, j ≤ z → z < j' → K z = true → dstOf ops z ≠ some t) → (TK ops a0 R K j')[t]? = (TK ops a0 R K j)[t]? := by
  intro j'
  induction j' with
  | zero => intro hj _; have : j = 0 := by omega
            subst this; rfl
  | succ j' ih =>
    intro hj h
    by_cases he : j = j' + 1
    · subst he; rfl
    · show (if K j' then putJ ops R j' (TK ops a0 R K j') else TK ops a0 R K j')[t]? = _
      have := ih (by omega) (fun z h1 h2 => h z h1 (by omega))
      split
      · rename_i hk
        rw [putJ_not (h j' (by omega) (by omega) hk)]; exact this
      · exact this

theorem TK_congr {K K' : Nat → Bool} {t : Nat} : ∀ {j : Nat}, (∀ z, z < j → dstOf ops z = some t → K z = K' z) → (TK ops a0 R K j)[t]? = (TK ops a0 R K' j)[t]? := by
  intro j
  induction j with
  | zero => intro _; rfl
  | succ j ih =>
    intro h
    have h1 := ih fun z hz => h z (by omega)
    show (if K j then putJ ops R j (TK ops a0 R K j) else TK ops a0 R K j)[t]? = (if K' j then putJ ops R j (TK ops a0 R K' j) else TK ops a0 R K' j)[t]?
    by_cases ht : dstOf ops j = some t
    · rw [h j (by omega) ht]
      split
      · exact putJ_touch ht (by rw [TK_length, TK_length])
      · exact h1
    · have e1 : ∀ (c : Bool) (l : List Value), (if c then putJ ops R j l else l)[t]? = l[t]? := fun c l => by
        split
        · exact putJ_not ht
        · rfl
      rw [e1, e1]; exact h1
end

section
variable {E : Env} {r : Rec} {base : Nat} {ops : Array Oper} {s : Nat} {us : List (Nat × Nat)} {a0 : CAct} {h0 : List Blk} {S : Nat → QSt} {R : Nat → Option QRes}

theorem Run.HK_all (X : Run E r base ops s us a0 h0 S R) : ∀ {j : Nat}, j ≤ s → ∀ {K : Nat → Bool}, (∀ z, z < j → K z = true) → HK h0 S R K j = toF (S j).heap := by
  intro j
  induction j with
  | zero => intro _ K _; show toF h0 = _; rw [X.s0]
  | succ j ih =>
    intro hj K hK
    show (if K j then stepJ S R j (HK h0 S R K j) else HK h0 S R K j) = _
    rw [if_pos (hK j (by omega)), ih (by omega) (fun z hz => hK z (by omega))]
    obtain ⟨o, _, hst⟩ := X.op (show j < s by omega)
    have hual := fun k b => X.upd_alive (k := k) (b := b) (show j < s by omega)
    unfold StepOk at hst
    unfold updOf at hual
    split at hst
    · rename_i q hq
      rw [hq] at hual
      rw [hst.2.2, stepJ_some hq]
      exact (toF_heap fun k b hu => (hual k b hu).2).symm
    · rename_i hq
      rw [hst.2, stepJ_none hq]

theorem Run.TK_all (X : Run E r base ops s us a0 h0 S R) : ∀ {j : Nat}, j ≤ s → ∀ {K : Nat → Bool}, (∀ z, z < j → K z = true) → TK ops a0 R K j = (S j).act.tmps := by
  intro j
  induction j with
  | zero => intro _ K _; show a0.tmps = _; rw [X.s0]
  | succ j ih =>
    intro hj K hK
    show (if K j then putJ ops R j (TK ops a0 R K j) else TK ops a0 R K j) = _
    rw [if_pos (hK j (by omega)), ih (by omega) (fun z hz => hK z (by omega))]
    obtain ⟨o, ho, hst⟩ := X.op (show j < s by omega)
    have hd : dstOf ops j = o.dst := by unfold dstOf; rw [ho]; rfl
    unfold StepOk at hst
    unfold putJ valOf
    rw [hd]
    split at hst
    · rename_i q hq
      rw [hst.2.2]
      cases o.dst <;> rfl
    · rename_i hq
      rw [hst.2]
      cases o.dst <;> rfl

theorem Run.marks_all (X : Run E r base ops s us a0 h0 S R) : ∀ {j : Nat}, j ≤ s → (S j).act.marks = a0.marks := by
  intro j
  induction j with
  | zero => intro _; rw [X.s0]
  | succ j ih =>
    intro hj
    obtain ⟨o, ho, hst⟩ := X.op (show j < s by omega)
    have := ih (by omega)
    unfold StepOk at hst
    split at hst
    · rw [hst.2.2]; simp only; unfold CAct.put; split <;> exact this
    · rw [hst.2]; simp only; unfold CAct.put; split <;> exact this

/-- Two operations of which neither stands before the other meet in no block. -/
theorem Run.apart_blocks (X : Run E r base ops s us a0 h0 S R) {y z id : Nat} (hy : y < s) (hz : z < s) (hap : apart ops y z) : touches S R y id → ¬ touches S R z id := by
  have gen : ∀ {y z : Nat}, y < s → z < s → apart ops y z → y < z → touches S R y id → ¬ touches S R z id := by
    intro y z hy hz hap hyz h1 h2
    have hlt := X.new_lt hyz (by omega)
    rcases h1 with h1 | ⟨b1, h1⟩
    · rcases h2 with h2 | ⟨b2, h2⟩
      · have := h1.2; have := h2.1; omega
      · obtain ⟨ha, _⟩ := X.upd_alive hz h2
        exact hap.2.2 ((X.sees hz ha).2.1 y hyz h1)
    · obtain ⟨ha1, hl1⟩ := X.upd_alive hy h1
      rcases h2 with h2 | ⟨b2, h2⟩
      · have := h2.1; omega
      · obtain ⟨ha, _⟩ := X.upd_alive hz h2
        rcases (X.sees hz ha).2.2 y b1 hy h1 with h | h | h
        · exact hap.1 h
        · exact hap.2.1 h
        · exact hap.2.2 h
  intro h1 h2
  rcases Nat.lt_or_gt_of_ne hap.1 with h | h
  · exact gen hy hz hap h h1 h2
  · exact gen hz hy hap.symm h h2 h1

/-- An operation more. -/
theorem Run.HK_insert (X : Run E r base ops s us a0 h0 S R) {y : Nat} (hy : y < s) {K : Nat → Bool} (hKy : K y = false) : ∀ {j : Nat}, y < j → j ≤ s → (∀ z, y < z → z < j → K z = true → apart ops y z) →
    HK h0 S R (fun z => K z || z == y) j = stepJ S R y (HK h0 S R K j) := by
  intro j hyj hj hap
  funext id
  by_cases ht : touches S R y id
  · -- made or written by y: by no later one of K
    have later : ∀ z, y + 1 ≤ z → z < j → (K z || z == y) = true → ¬ touches S R z id := by
      intro z h1 h2 hk
      have hk' : K z = true := by
        have : (z == y) = false := by simp; omega
        simpa [this] using hk
      exact X.apart_blocks hy (by omega) (hap z (by omega) h2 hk') ht
    rw [HK_skip (show y + 1 ≤ j by omega) later]
    show (if (K y || y == y) = true then stepJ S R y (HK h0 S R (fun z => K z || z == y) y) else _) id = _
    rw [if_pos (by simp)]
    exact stepJ_touch ht
  · rw [stepJ_not ht]
    exact HK_congr fun z hz hzt => by
      by_cases he : z = y
      · subst he; exact absurd hzt ht
      · simp [he]

theorem Run.TK_insert (X : Run E r base ops s us a0 h0 S R) {y : Nat} (hy : y < s) {K : Nat → Bool} (hKy : K y = false) {j : Nat} (hyj : y < j) (hj : j ≤ s) (hap : ∀ z, y < z → z < j → K z = true → apart ops y z) (t : Nat) :
    (TK ops a0 R (fun z => K z || z == y) j)[t]? = (putJ ops R y (TK ops a0 R K j))[t]? := by
  by_cases ht : dstOf ops y = some t
  · have later : ∀ z, y + 1 ≤ z → z < j → (K z || z == y) = true → dstOf ops z ≠ some t := by
      intro z h1 h2 hk
      have hk' : K z = true := by
        have : (z == y) = false := by simp; omega
        simpa [this] using hk
      obtain ⟨oy, hoy, _⟩ := X.op hy
      obtain ⟨oz, hoz, _⟩ := X.op (show z < s by omega)
      have hdy : oy.dst = some t := by unfold dstOf at ht; rw [hoy] at ht; exact ht
      have := (X.quiet_spec hy (show z < s by omega) (hap z (by omega) h2 hk') hoy hoz hdy).1
      unfold dstOf
      rw [hoz]
      exact this
    rw [TK_skip (show y + 1 ≤ j by omega) later]
    show (if (K y || y == y) = true then putJ ops R y (TK ops a0 R (fun z => K z || z == y) y) else _)[t]? = _
    rw [if_pos (by simp)]
    exact putJ_touch ht (by rw [TK_length, TK_length])
  · rw [putJ_not ht]
    exact TK_congr fun z hz hzt => by
      by_cases he : z = y
      · subst he; exact absurd hzt ht
      · simp [he]
end
end Go.Cl
