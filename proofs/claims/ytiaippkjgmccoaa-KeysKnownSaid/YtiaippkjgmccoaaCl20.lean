/- The order of a region's operations: what stands before what. -/
import Derived.Test.YtiaippkjgmccoaaCl19
import Derived.OrdersIn
set_option linter.unusedSimpArgs false
set_option linter.unusedVariables false
namespace Go.Cl
open Go Go.RowKit

theorem array_reverse {α : Type} {motive : List α → Prop} (l : List α) (nil : motive []) (app : ∀ l x, motive l → motive (l ++ [x])) : motive l := by
  rw [← List.reverse_reverse l]
  induction l.reverse with
  | nil => exact nil
  | cons x l ih => rw [List.reverse_cons]; exact app _ _ ih

/-- One operation's predecessors. -/
def oneBefore (get : Nat → Nat) (o : Oper) : Nat := o.after.foldl (fun s e => if Region.binds .any e then s ||| 2 ^ e.on ||| get e.on else s) 0

theorem oneBefore_bit (get : Nat → Nat) (o : Oper) (i : Nat) : (oneBefore get o).testBit i = true ↔ ∃ e ∈ o.after.toList, Region.binds .any e = true ∧ (e.on = i ∨ (get e.on).testBit i = true) := by
  unfold oneBefore
  rw [← Array.foldl_toList]
  have gen : ∀ (l : List Edge) (s : Nat), (l.foldl (fun s e => if Region.binds .any e then s ||| 2 ^ e.on ||| get e.on else s) s).testBit i = true ↔
      (s.testBit i = true ∨ ∃ e ∈ l, Region.binds .any e = true ∧ (e.on = i ∨ (get e.on).testBit i = true)) := by
    intro l
    induction l with
    | nil => intro s; simp
    | cons e l ih =>
      intro s
      rw [List.foldl_cons, ih]
      by_cases hb : Region.binds .any e = true
      · rw [if_pos hb]
        simp only [Nat.testBit_or, Bool.or_eq_true, Nat.testBit_two_pow, decide_eq_true_eq, List.mem_cons, exists_eq_or_imp, hb, true_and]
        constructor
        · rintro (((h | h) | h) | h)
          · exact .inl h
          · exact .inr (.inl (.inl h))
          · exact .inr (.inl (.inr h))
          · exact .inr (.inr h)
        · rintro (h | (h | h) | h)
          · exact .inl (.inl (.inl h))
          · exact .inl (.inl (.inr h))
          · exact .inl (.inr h)
          · exact .inr h
      · rw [if_neg hb]
        simp only [List.mem_cons, exists_eq_or_imp, hb, Bool.false_eq_true, false_and, false_or]
  rw [gen]
  simp

theorem before_spec (l : List Oper) : (l.foldl (init := #[]) fun acc o => acc.push (oneBefore (fun i => acc.getD i 0) o)).size = l.length ∧
    ∀ j o, l[j]? = some o → (l.foldl (init := #[]) fun acc o => acc.push (oneBefore (fun i => acc.getD i 0) o)).getD j 0 =
      oneBefore (fun i => if i < j then (l.foldl (init := #[]) fun acc o => acc.push (oneBefore (fun i => acc.getD i 0) o)).getD i 0 else 0) o := by
  refine array_reverse (motive := fun l => (l.foldl (init := #[]) fun acc o => acc.push (oneBefore (fun i => acc.getD i 0) o)).size = l.length ∧
    ∀ j o, l[j]? = some o → (l.foldl (init := #[]) fun acc o => acc.push (oneBefore (fun i => acc.getD i 0) o)).getD j 0 =
      oneBefore (fun i => if i < j then (l.foldl (init := #[]) fun acc o => acc.push (oneBefore (fun i => acc.getD i 0) o)).getD i 0 else 0) o) l ⟨rfl, fun j o h => by simp at h⟩ ?_
  intro l x ⟨h1, h2⟩
  rw [List.foldl_append]
  generalize l.foldl (init := #[]) (fun acc o => acc.push (oneBefore (fun i => acc.getD i 0) o)) = B at h1 h2
  simp only [List.foldl_cons, List.foldl_nil]
  have getpush : ∀ i v, i < l.length → (B.push v).getD i 0 = B.getD i 0 := fun i v hi => by
    simp only [Array.getD_eq_getD_getElem?]
    rw [Array.getElem?_push_lt (by omega), Array.getElem?_eq_getElem (by omega)]
  refine ⟨by simp [h1], fun j o hj => ?_⟩
  by_cases hl : j < l.length
  · rw [List.getElem?_append_left hl] at hj
    rw [getpush j _ hl, h2 j o hj]
    congr 1
    funext i
    split
    · rw [getpush i _ (by omega)]
    · rfl
  · have hjl : j < l.length + 1 := by simpa using (List.getElem?_eq_some_iff.1 hj).1
    have : j = l.length := by omega
    subst this
    simp at hj
    subst hj
    have e1 : (B.push (oneBefore (fun i => B.getD i 0) x)).getD l.length 0 = oneBefore (fun i => B.getD i 0) x := by
      simp only [Array.getD_eq_getD_getElem?, ← h1, Array.getElem?_push_size, Option.getD_some]
    rw [e1]
    congr 1
    funext i
    split
    · rename_i hi; rw [getpush i _ hi]
    · rename_i hi; simp [Array.getD_eq_getD_getElem?, Array.getElem?_eq_none (show B.size ≤ i by omega)]

/-- Operation i stands before operation j. -/
def anc (ops : Array Oper) (j i : Nat) : Bool := ((Region.before ops).toList.getD j 0).testBit i

section
variable {ops : Array Oper}

theorem anc_iff {j i : Nat} {o : Oper} (ho : ops[j]? = some o) : anc ops j i = true ↔ ∃ e ∈ o.after.toList, Region.binds .any e = true ∧ (e.on = i ∨ (e.on < j ∧ anc ops e.on i = true)) := by
  obtain ⟨h1, h2⟩ := before_spec ops.toList
  have e : Region.before ops = ops.toList.foldl (init := #[]) fun acc o => acc.push (oneBefore (fun i => acc.getD i 0) o) := by
    unfold Region.before oneBefore
    rw [← Array.foldl_toList]
  have h3 := h2 j o (by simpa using ho)
  rw [← e] at h3
  have e2 : ∀ k, (Region.before ops).toList.getD k 0 = (Region.before ops).getD k 0 := fun k => by simp [List.getD, Array.getD_eq_getD_getElem?]
  unfold anc
  rw [e2, h3, oneBefore_bit]
  constructor
  · rintro ⟨e, he, hb, h | h⟩
    · exact ⟨e, he, hb, .inl h⟩
    · by_cases hl : e.on < j
      · rw [if_pos hl] at h
        exact ⟨e, he, hb, .inr ⟨hl, by rw [e2]; exact h⟩⟩
      · rw [if_neg hl] at h
        simp at h
  · rintro ⟨e, he, hb, h | ⟨hl, h⟩⟩
    · exact ⟨e, he, hb, .inl h⟩
    · refine ⟨e, he, hb, .inr ?_⟩
      simp only [if_pos hl]
      rw [e2] at h
      exact h

theorem back_spec : ∀ (l : List Oper) (k : Nat), edgesBack l k = true → ∀ (j : Nat) (o : Oper), l[j]? = some o → ∀ e ∈ o.after.toList, Region.binds .any e = true → e.on < k + j
  | [], _, _, j, o, ho => by simp at ho
  | x :: l, k, h, 0, o, ho => by
    simp only [edgesBack, Bool.and_eq_true, List.all_eq_true, Bool.or_eq_true, Bool.not_eq_true', decide_eq_true_eq] at h
    simp at ho
    subst ho
    intro e he hb
    rcases h.1 e he with h1 | h1
    · rw [hb] at h1; cases h1
    · omega
  | x :: l, k, h, j + 1, o, ho => by
    simp only [edgesBack, Bool.and_eq_true] at h
    intro e he hb
    have := back_spec l (k + 1) h.2 j o (by simpa using ho) e he hb
    omega


theorem edge_lt (hback : edgesBack ops.toList 0 = true) {j : Nat} {o : Oper} (ho : ops[j]? = some o) {e : Edge} (he : e ∈ o.after.toList) (hb : Region.binds .any e = true) : e.on < j := by
  have := back_spec ops.toList 0 hback j o (by simpa using ho) e he hb
  omega

theorem anc_lt (hback : edgesBack ops.toList 0 = true) : ∀ (j i : Nat), j < ops.size → anc ops j i = true → i < j := by
  intro j
  induction j using Nat.strongRecOn with
  | _ j ih =>
    intro i hj h
    obtain ⟨e, he, hb, h | ⟨hl, h⟩⟩ := (anc_iff (Array.getElem?_eq_getElem hj)).1 h
    · subst h; exact edge_lt hback (Array.getElem?_eq_getElem hj) he hb
    · have := ih e.on hl i (by omega) h
      omega

theorem anc_trans (hback : edgesBack ops.toList 0 = true) : ∀ (j i k : Nat), j < ops.size → anc ops j i = true → anc ops i k = true → anc ops j k = true := by
  intro j
  induction j using Nat.strongRecOn with
  | _ j ih =>
    intro i k hj h hk
    have ho : ops[j]? = some ops[j] := Array.getElem?_eq_getElem hj
    obtain ⟨e, he, hb, h | ⟨hl, h⟩⟩ := (anc_iff ho).1 h
    · subst h
      exact (anc_iff ho).2 ⟨e, he, hb, .inr ⟨edge_lt hback ho he hb, hk⟩⟩
    · exact (anc_iff ho).2 ⟨e, he, hb, .inr ⟨hl, ih e.on hl i k (by omega) h hk⟩⟩

/-- All that stands before an operation that is ready has been done. -/
theorem ready_anc (hback : edgesBack ops.toList 0 = true) {listed : Array Bool} {j : Nat} (hclosed : ∀ z i, z < ops.size → listed.getD z false = true → anc ops z i = true → listed.getD i false = true) (hj : j ∈ Region.ready .any ops listed) :
    ∀ i, anc ops j i = true → listed.getD i false = true := by
  intro i hi
  obtain ⟨_, o, ho, hall⟩ := mem_ready.1 hj
  have hjl : j < ops.size := (Array.getElem?_eq_some_iff.1 ho).1
  obtain ⟨e, he, hb, h | ⟨hl, h⟩⟩ := (anc_iff ho).1 hi
  · subst h; exact hall e (by simpa using he) hb
  · exact hclosed e.on i (by omega) (hall e (by simpa using he) hb) h

/-- While an operation is left, one is ready. -/
theorem ready_some (hback : edgesBack ops.toList 0 = true) {listed : Array Bool} {j : Nat} (hsz : listed.size = ops.size) (hj : j < ops.size) (hl : listed.getD j true = false) : Region.ready .any ops listed ≠ [] := by
  induction j using Nat.strongRecOn with
  | _ j ih =>
    by_cases hx : ∃ i, i < j ∧ listed.getD i true = false
    · obtain ⟨i, hi, hil⟩ := hx
      exact ih i hi (by omega) hil
    · intro hnil
      have ho : ops[j]? = some ops[j] := Array.getElem?_eq_getElem hj
      have : j ∈ Region.ready .any ops listed := mem_ready.2 ⟨hl, _, ho, fun e he hb => by
        have hlt := edge_lt hback ho (by simpa using he) hb
        cases hv : listed.getD e.on true with
        | false => exact absurd ⟨e.on, hlt, hv⟩ hx
        | true =>
          have hes : e.on < listed.size := by omega
          simp only [Array.getD_eq_getD_getElem?, Array.getElem?_eq_getElem hes, Option.getD_some] at hv ⊢
          exact hv⟩
      rw [hnil] at this
      cases this
end

theorem tail_spec (bf : List Nat) : ∀ (n j i : Nat), tailFrom bf n ≤ j → j < n → i < j → (bf.getD j 0).testBit i = true
  | 0, j, i, _, h, _ => by omega
  | n + 1, j, i, hs, hj, hi => by
    unfold tailFrom at hs
    split at hs
    · rename_i hall
      rw [List.all_eq_true] at hall
      by_cases hjn : j = n
      · subst hjn; exact hall i (List.mem_range.2 hi)
      · exact tail_spec bf n j i hs (by omega) hi
    · omega
theorem tail_le (bf : List Nat) : ∀ n, tailFrom bf n ≤ n
  | 0 => Nat.le_refl _
  | n + 1 => by
    unfold tailFrom
    split
    · have := tail_le bf n; omega
    · exact Nat.le_refl _

section
variable {F : Fence} {n : Nat} {P : Program} {ops : Array Oper} {Q : Exit → Act → World → Prop}

/-- The tail of a region, where each operation stands behind all before it. -/
theorem tail_wp (hback : edgesBack ops.toList 0 = true) {s : Nat} (htail : ∀ j i, s ≤ j → j < ops.size → i < j → anc ops j i = true) : ∀ (fuel k : Nat) (listed : Array Bool) (a : Act) (w : World), s ≤ k → k ≤ ops.size → ops.size - k ≤ fuel →
    listed.size = ops.size → (∀ i, i < k → listed.getD i false = true) → (∀ i, k ≤ i → i < ops.size → listed.getD i true = false) → wpListIn F n P ops Q (ops.toList.drop k) a w → wpAnyIn F n P .any ops Q fuel listed a w := by
  intro fuel
  induction fuel with
  | zero =>
    intro k listed a w hsk hk hf hsz h1 h2 h
    have : k = ops.size := by omega
    subst this
    rw [List.drop_of_length_le (by simp)] at h
    refine ⟨?_, h⟩
    apply List.eq_nil_iff_forall_not_mem.2
    intro j hj
    obtain ⟨h3, o, ho, _⟩ := mem_ready.1 hj
    have hjl := (Array.getElem?_eq_some_iff.1 ho).1
    have := h1 j hjl
    simp only [Array.getD_eq_getD_getElem?, Array.getElem?_eq_getElem (show j < listed.size by omega), Option.getD_some] at this h3
    rw [this] at h3
    cases h3
  | succ fuel ih =>
    intro k listed a w hsk hk hf hsz h1 h2 h
    have only : ∀ j ∈ Region.ready .any ops listed, j = k := by
      intro j hj
      obtain ⟨h3, o, ho, _⟩ := mem_ready.1 hj
      have hjl := (Array.getElem?_eq_some_iff.1 ho).1
      have hkj : k ≤ j := by
        apply Classical.byContradiction
        intro hn
        have := h1 j (by omega)
        simp only [Array.getD_eq_getD_getElem?, Array.getElem?_eq_getElem (show j < listed.size by omega), Option.getD_some] at this h3
        rw [this] at h3
        cases h3
      apply Classical.byContradiction
      intro hne
      have hkl : k < ops.size := by omega
      have hcl : ∀ z i, z < ops.size → listed.getD z false = true → anc ops z i = true → listed.getD i false = true := by
        intro z i hz hlz hanc
        have hzk : z < k := by
          apply Classical.byContradiction
          intro hn
          have := h2 z (by omega) hz
          simp only [Array.getD_eq_getD_getElem?, Array.getElem?_eq_getElem (show z < listed.size by omega), Option.getD_some] at this hlz
          rw [hlz] at this
          cases this
        have := anc_lt hback z i hz hanc
        exact h1 i (by omega)
      have := ready_anc hback hcl hj k (htail j k (by omega) hjl (by omega))
      have h4 := h2 k (Nat.le_refl _) hkl
      simp only [Array.getD_eq_getD_getElem?, Array.getElem?_eq_getElem (show k < listed.size by omega), Option.getD_some] at this h4
      rw [this] at h4
      cases h4
    by_cases hke : k = ops.size
    · subst hke
      rw [List.drop_of_length_le (by simp)] at h
      refine ⟨fun _ => h, fun j hj => ?_⟩
      obtain ⟨_, o, ho, _⟩ := mem_ready.1 hj
      have := only j hj
      have hjl := (Array.getElem?_eq_some_iff.1 ho).1
      omega
    · have hkl : k < ops.size := by omega
      refine ⟨fun hnil => absurd hnil (ready_some hback hsz hkl (h2 k (Nat.le_refl _) hkl)), fun j hj => ?_⟩
      have hjk := only j hj
      subst hjk
      have hd : ops.toList.drop j = ops[j] :: ops.toList.drop (j + 1) := by
        rw [List.drop_eq_getElem_cons (by simpa using hkl)]
        simp
      rw [hd] at h
      have hset : ∀ i, i ≠ j → ∀ d, (listed.setIfInBounds j true).getD i d = listed.getD i d := fun i hi d => by
        simp only [Array.getD_eq_getD_getElem?, Array.getElem?_setIfInBounds_ne (fun e => hi e.symm)]
      have hsame : (listed.setIfInBounds j true).getD j false = true := by
        simp [show j < listed.size by omega]
      have next : ∀ a w, wpListIn F n P ops Q (ops.toList.drop (j + 1)) a w → wpAnyIn F n P .any ops Q fuel (listed.setIfInBounds j true) a w := fun a w hl =>
        ih (j + 1) (listed.setIfInBounds j true) a w (by omega) (by omega) (by omega) (by simpa using hsz) (fun i hi => by
            by_cases e : i = j
            · subst e; exact hsame
            · rw [hset i e]; exact h1 i (by omega))
          (fun i hi hil => by rw [hset i (by omega)]; exact h2 i (by omega) hil) hl
      unfold wpOpIn
      simp only [Array.getElem?_eq_getElem hkl]
      unfold wpListIn at h
      split
      · rename_i hw
        rw [if_pos hw] at h
        exact Oper.wpIn_mono next h
      · rename_i hw
        rw [if_neg hw] at h
        exact ⟨h.1, next _ _ h.2⟩
end
end Go.Cl
