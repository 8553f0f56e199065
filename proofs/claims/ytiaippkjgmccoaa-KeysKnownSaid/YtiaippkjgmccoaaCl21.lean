/- A region that draws its order: the clean run of its first part, operation by operation. -/
import Derived.Test.YtiaippkjgmccoaaCl20
set_option linter.unusedSimpArgs false
set_option linter.unusedVariables false
namespace Go.Cl
open Go Go.RowKit

def StepOk (E : Env) (r : Rec) (base : Nat) (ops : List Oper) (bf : List Nat) (us : List (Nat × Nat)) (j : Nat) (o : Oper) (S S' : QSt) (R : Option QRes) : Prop :=
  match R with
  | some q => cWanted ops S.act o = some true ∧ qOp E r base (masked bf S.own us j S.heap) S.heap.length S.act.eval o = some q ∧
      S' = { act := S.act.put o.dst q.val, heap := q.heap S.heap, own := if q.new.isEmpty then S.own else (j, S.heap.length, S.heap.length + q.new.length) :: S.own, upds := match q.upd with | some (k, _) => (j, k) :: S.upds | none => S.upds }
  | none => cWanted ops S.act o = some false ∧ S' = { S with act := S.act.put o.dst undef }

theorem trace {E : Env} {r : Rec} {base : Nat} {ops : List Oper} {bf : List Nat} {us : List (Nat × Nat)} : ∀ (rest : List Oper) (j : Nat) (s fin : QSt), quietOps E r base ops bf us rest j s = some fin →
    ∃ (S : Nat → QSt) (R : Nat → Option QRes), S 0 = s ∧ S rest.length = fin ∧ ∀ i o, rest[i]? = some o → StepOk E r base ops bf us (j + i) o (S i) (S (i + 1)) (R i)
  | [], j, s, fin, h => by
    cases h
    exact ⟨fun _ => s, fun _ => none, rfl, rfl, fun i o h => by simp at h⟩
  | o :: rest, j, s, fin, h => by
    have go : ∀ (s' : QSt) (R0 : Option QRes), StepOk E r base ops bf us j o s s' R0 → quietOps E r base ops bf us rest (j + 1) s' = some fin →
        ∃ (S : Nat → QSt) (R : Nat → Option QRes), S 0 = s ∧ S (o :: rest).length = fin ∧ ∀ i o', (o :: rest)[i]? = some o' → StepOk E r base ops bf us (j + i) o' (S i) (S (i + 1)) (R i) := by
      intro s' R0 h0 h1
      obtain ⟨S, R, g1, g2, g3⟩ := trace rest (j + 1) s' fin h1
      refine ⟨fun i => match i with | 0 => s | i + 1 => S i, fun i => match i with | 0 => R0 | i + 1 => R i, rfl, g2, fun i o' ho => ?_⟩
      cases i with
      | zero =>
        simp at ho
        subst ho
        show StepOk E r base ops bf us j o s (S 0) R0
        rw [g1]; exact h0
      | succ i =>
        have := g3 i o' (by simpa using ho)
        have e : j + 1 + i = j + (i + 1) := by omega
        rw [e] at this
        exact this
    unfold quietOps at h
    split at h
    · rename_i hw
      split at h
      · rename_i q hq
        rw [applyK_eq, putK_eq] at h
        exact go _ (some q) ⟨hw, hq, rfl⟩ h
      · cases h
    · rename_i hw
      rw [putK_eq] at h
      exact go _ none ⟨hw, rfl⟩ h
    · cases h

/-- The clean run of a region's first part. -/
structure Run (E : Env) (r : Rec) (base : Nat) (ops : Array Oper) (s : Nat) (us : List (Nat × Nat)) (a0 : CAct) (h0 : List Blk) (S : Nat → QSt) (R : Nat → Option QRes) : Prop where
  hs : s ≤ ops.size
  s0 : S 0 = { act := a0, heap := h0 }
  step : ∀ j o, j < s → ops[j]? = some o → StepOk E r base ops.toList (Region.before ops).toList us j o (S j) (S (j + 1)) (R j)
  upds : (S s).upds = us
  back : edgesBack ops.toList 0 = true
  quiet : quietOk ops.toList (Region.before ops).toList s = true
  baseLe : base ≤ h0.length

section
variable {E : Env} {r : Rec} {base : Nat} {ops : Array Oper} {s : Nat} {us : List (Nat × Nat)} {a0 : CAct} {h0 : List Blk} {S : Nat → QSt} {R : Nat → Option QRes}

def newOf (R : Nat → Option QRes) (j : Nat) : List Blk := match R j with | some q => q.new | none => []
def updOf (R : Nat → Option QRes) (j : Nat) : Option (Nat × Blk) := (R j).bind (·.upd)
def valOf (R : Nat → Option QRes) (j : Nat) : Value := match R j with | some q => q.val | none => undef
def dstOf (ops : Array Oper) (j : Nat) : Option Tmp := (ops[j]?).bind (·.dst)

theorem heap_length (q : QRes) (h : List Blk) : (q.heap h).length = h.length + q.new.length := by
  unfold QRes.heap
  split <;> simp


theorem Run.op (X : Run E r base ops s us a0 h0 S R) {j : Nat} (hj : j < s) : ∃ o, ops[j]? = some o ∧ StepOk E r base ops.toList (Region.before ops).toList us j o (S j) (S (j + 1)) (R j) := by
  have hl : j < ops.size := by have := X.hs; omega
  exact ⟨ops[j], Array.getElem?_eq_getElem hl, X.step j _ hj (Array.getElem?_eq_getElem hl)⟩

theorem Run.len (X : Run E r base ops s us a0 h0 S R) {j : Nat} (hj : j < s) : (S (j + 1)).heap.length = (S j).heap.length + (newOf R j).length := by
  obtain ⟨o, _, h⟩ := X.op hj
  unfold StepOk at h
  unfold newOf
  split at h
  · rename_i q hq; rw [h.2.2]; exact heap_length q _
  · rename_i hq; rw [h.2]; rfl

theorem Run.len_le (X : Run E r base ops s us a0 h0 S R) {i : Nat} : ∀ {j : Nat}, i ≤ j → j ≤ s → (S i).heap.length ≤ (S j).heap.length := by
  intro j
  induction j with
  | zero => intro h _; have : i = 0 := by omega
            subst this; exact Nat.le_refl _
  | succ j ih =>
    intro h hj
    by_cases he : i = j + 1
    · subst he; exact Nat.le_refl _
    · have := ih (by omega) (by omega)
      have := X.len (show j < s by omega)
      omega

/-- An operation's blocks lie below a later one's. -/
theorem Run.new_lt (X : Run E r base ops s us a0 h0 S R) {i j : Nat} (hij : i < j) (hj : j ≤ s) : (S i).heap.length + (newOf R i).length ≤ (S j).heap.length := by
  have h1 := X.len (show i < s by omega)
  have h2 := X.len_le (show i + 1 ≤ j by omega) hj
  omega

theorem Run.own_mem (X : Run E r base ops s us a0 h0 S R) {i : Nat} (hi : i < s) (hn : newOf R i ≠ []) : ∀ {j : Nat}, i < j → j ≤ s → (i, (S i).heap.length, (S i).heap.length + (newOf R i).length) ∈ (S j).own := by
  intro j
  induction j with
  | zero => intro h _; omega
  | succ j ih =>
    intro h hj
    obtain ⟨o, _, hst⟩ := X.op (show j < s by omega)
    unfold StepOk at hst
    split at hst
    · rename_i q hq
      rw [hst.2.2]
      simp only
      by_cases he : i = j
      · subst he
        have e : newOf R i = q.new := by unfold newOf; rw [hq]
        rw [e] at hn ⊢
        have : q.new.isEmpty = false := by cases hq2 : q.new with | nil => exact absurd hq2 hn | cons => rfl
        rw [this]
        simp
      · have := ih (by omega) (by omega)
        split
        · exact this
        · exact List.mem_cons_of_mem _ this
    · rename_i hq
      rw [hst.2]
      have : i ≠ j := by
        rintro rfl
        apply hn
        unfold newOf; rw [hq]
      exact ih (by omega) (by omega)

theorem Run.upd_mem (X : Run E r base ops s us a0 h0 S R) {i k : Nat} {b : Blk} (hi : i < s) (hu : updOf R i = some (k, b)) : (i, k) ∈ us := by
  have gen : ∀ {j : Nat}, i < j → j ≤ s → (i, k) ∈ (S j).upds := by
    intro j
    induction j with
    | zero => intro h _; omega
    | succ j ih =>
      intro h hj
      obtain ⟨o, _, hst⟩ := X.op (show j < s by omega)
      unfold StepOk at hst
      split at hst
      · rename_i q hq
        rw [hst.2.2]
        simp only
        by_cases he : i = j
        · subst he
          unfold updOf at hu
          rw [hq] at hu
          simp only [Option.bind_some] at hu
          rw [hu]
          simp
        · have := ih (by omega) (by omega)
          split
          · exact List.mem_cons_of_mem _ this
          · exact this
      · rename_i hq
        rw [hst.2]
        have : i ≠ j := by
          rintro rfl
          unfold updOf at hu
          rw [hq] at hu
          cases hu
        exact ih (by omega) (by omega)
  rw [← X.upds]
  exact gen hi (Nat.le_refl _)

theorem masked_length {bf : List Nat} {own : List (Nat × Nat × Nat)} {j : Nat} {h : List Blk} : (masked bf own us j h).length = h.length := by
  unfold masked
  split
  · rfl
  · simp

theorem masked_alive {bf : List Nat} {own : List (Nat × Nat × Nat)} {j id : Nat} {h : List Blk} (ha : toF (masked bf own us j h) id ≠ .dead) :
    toF (masked bf own us j h) id = toF h id ∧ (∀ i f t, (i, f, t) ∈ own → f ≤ id → id < t → (bf.getD j 0).testBit i = true) ∧
      (∀ i, (i, id) ∈ us → i = j ∨ (bf.getD i 0).testBit j = true ∨ (bf.getD j 0).testBit i = true) := by
  unfold masked at ha ⊢
  split at ha
  · rename_i he
    rw [if_pos he]
    simp only [Bool.and_eq_true, List.isEmpty_iff] at he
    refine ⟨rfl, fun i f t hm => ?_, fun i hm => ?_⟩
    · rw [he.1] at hm; cases hm
    · rw [he.2] at hm; cases hm
  · rename_i he
    rw [if_neg he]
    have hat : ∀ (x : List Blk), toF (h.zipIdx.map fun (b, id) => if hidden bf own us j id then .dead else b) id = if hidden bf own us j id then .dead else toF h id := by
      intro _
      unfold toF
      simp only [List.getD, List.getElem?_map, List.getElem?_zipIdx]
      cases h[id]? with
      | none => simp
      | some b => simp
    rw [hat h] at ha ⊢
    by_cases hh : hidden bf own us j id = true
    · rw [if_pos hh] at ha; exact absurd rfl ha
    · rw [if_neg hh]
      unfold hidden at hh
      simp only [Bool.or_eq_true, List.any_eq_true, not_or, not_exists, not_and] at hh
      refine ⟨rfl, fun i f t hm h1 h2 => ?_, fun i hm => ?_⟩
      · have := hh.1 (i, f, t) hm
        simp only [Bool.and_eq_true, decide_eq_true_eq, Bool.not_eq_true', not_and, Bool.not_eq_false] at this
        exact this ⟨h1, h2⟩
      · have := hh.2 (i, id) hm
        simp only [Bool.and_eq_true, beq_iff_eq, beq_self_eq_true, true_and, Bool.not_eq_true', not_and, Bool.not_eq_false, beq_eq_false_iff_ne, ne_eq] at this
        by_cases h1 : i = j
        · exact .inl h1
        · by_cases h2 : (bf.getD i 0).testBit j = true
          · exact .inr (.inl h2)
          · exact .inr (.inr (this ⟨h1, by simpa using h2⟩))

/-- What an operation of the first part sees. -/
theorem Run.sees (X : Run E r base ops s us a0 h0 S R) {y id : Nat} (hy : y < s) (ha : toF (masked (Region.before ops).toList (S y).own us y (S y).heap) id ≠ .dead) :
    toF (masked (Region.before ops).toList (S y).own us y (S y).heap) id = toF (S y).heap id ∧
    (∀ j, j < y → InNew (S j).heap.length (newOf R j).length id → anc ops y j = true) ∧ (∀ z b, z < s → updOf R z = some (id, b) → z = y ∨ anc ops z y = true ∨ anc ops y z = true) := by
  obtain ⟨h1, h2, h3⟩ := masked_alive ha
  refine ⟨h1, fun j hj hn => ?_, fun z b hz hu => ?_⟩
  · have hne : newOf R j ≠ [] := by
      intro he
      rw [he] at hn
      have h4 := hn.1; have h5 := hn.2
      simp at h5
      omega
    exact h2 j _ _ (X.own_mem (by omega) hne hj (by omega)) hn.1 hn.2
  · exact h3 z (X.upd_mem hz hu)

theorem Run.upd_alive (X : Run E r base ops s us a0 h0 S R) {y k : Nat} {b : Blk} (hy : y < s) (hu : updOf R y = some (k, b)) : toF (masked (Region.before ops).toList (S y).own us y (S y).heap) k ≠ .dead ∧ k < (S y).heap.length := by
  obtain ⟨o, _, hst⟩ := X.op hy
  unfold StepOk at hst
  unfold updOf at hu
  split at hst
  · rename_i q hq
    rw [hq] at hu
    have ha := qOp_alive hst.2.1 hu
    refine ⟨ha, ?_⟩
    apply Classical.byContradiction
    intro hn
    apply ha
    unfold toF
    simp only [List.getD]
    rw [List.getElem?_eq_none (by rw [masked_length]; omega)]
    rfl
  · rename_i hq
    rw [hq] at hu
    cases hu

/-- Neither stands before the other. -/
def apart (ops : Array Oper) (y z : Nat) : Prop := y ≠ z ∧ anc ops y z ≠ true ∧ anc ops z y ≠ true

theorem apart.symm {y z : Nat} (h : apart ops y z) : apart ops z y := ⟨h.1.symm, h.2.2, h.2.1⟩

theorem Run.quiet_spec (X : Run E r base ops s us a0 h0 S R) {i j : Nat} (hi : i < s) (hj : j < s) (hap : apart ops i j) {oi oj : Oper} (hoi : ops[i]? = some oi) (hoj : ops[j]? = some oj) {d : Tmp} (hd : oi.dst = some d) : oj.dst ≠ some d ∧ d ∉ opNames ops.toList oj := by
  have h := X.quiet
  unfold quietOk at h
  rw [List.all_eq_true] at h
  have h1 := h j (List.mem_range.2 hj)
  rw [Array.getElem?_toList, hoj] at h1
  simp only at h1
  rw [List.all_eq_true] at h1
  have h2 := h1 i (List.mem_range.2 hi)
  rw [Array.getElem?_toList, hoi] at h2
  simp only [hd, Bool.or_eq_true, beq_iff_eq, Bool.and_eq_true, Bool.not_eq_true', beq_eq_false_iff_ne, ne_eq] at h2
  rcases h2 with ((h2 | h2) | h2) | h2
  · exact absurd h2 hap.1
  · exact absurd h2 hap.2.2
  · exact absurd h2 hap.2.1
  · exact ⟨h2.1, by simpa using h2.2⟩
end
end Go.Cl
