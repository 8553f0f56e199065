/- The state behind an operation; activations; how parts are joined. -/
import Derived.Test.YtiaippkjgmccoaaCl12
import Derived.RangeFuncRecord
set_option linter.unusedSimpArgs false
set_option linter.unusedVariables false
namespace Go.Cl
open Go Go.RowKit

/-! ### The strict forms are what they stand for -/
section
variable {α γ : Type}
theorem forceN_eq (n : Nat) (k : Nat → α) : forceN n k = k n := by cases n <;> rfl
theorem forceI_eq (n : Int) (k : Int → α) : forceI n k = k n := by cases n <;> simp [forceI, forceN_eq]
theorem forceLeaf_eq (v : Value) (k : Value → α) : forceLeaf v k = k v := by
  unfold forceLeaf
  split <;> simp [forceI_eq, forceN_eq]
theorem forceList_eq {f : Value → (Value → α) → α} (hf : ∀ v k, f v k = k v) (l : List Value) (k : List Value → α) : forceList f l k = k l := by
  unfold forceList
  induction l generalizing k with
  | nil => rfl
  | cons v l ih => show f v _ = _; rw [hf, ih]
theorem force1_eq (v : Value) (k : Value → α) : force1 v k = k v := by
  unfold force1
  split
  · rw [forceList_eq forceLeaf_eq]
  · exact forceLeaf_eq _ _
theorem forceV_eq (v : Value) (k : Value → α) : forceV v k = k v := by
  unfold forceV
  split
  · rw [forceList_eq force1_eq]
  · rw [forceList_eq force1_eq, forceList_eq force1_eq]
  · exact force1_eq _ _
theorem forcePairs_eq : ∀ (l : List (Value × Value)) (k : List (Value × Value) → α), forcePairs l k = k l
  | [], k => rfl
  | (x, y) :: l, k => by rw [forcePairs, force1_eq, force1_eq, forcePairs_eq l]
theorem forceB_eq (b : Blk) (k : Blk → α) : forceB b k = k b := by
  unfold forceB
  split
  · rw [forceList_eq forceV_eq]
  · rw [forcePairs_eq]
  · rfl
theorem forceBs_eq (l : List Blk) (k : List Blk → α) : forceBs l k = k l := by
  unfold forceBs
  induction l generalizing k with
  | nil => rfl
  | cons v l ih => show forceB v _ = _; rw [forceB_eq, ih]
theorem setK_eq : ∀ (l : List γ) (n : Nat) (v : γ) (k : List γ → α), setK l n v k = k (l.set n v)
  | [], n, v, k => rfl
  | x :: l, 0, v, k => rfl
  | x :: l, n + 1, v, k => setK_eq l n v fun l => k (x :: l)
theorem appK_eq : ∀ (l m : List γ) (k : List γ → α), appK l m k = k (l ++ m)
  | [], m, k => rfl
  | x :: l, m, k => appK_eq l m fun l => k (x :: l)
theorem getT_eq : ∀ (l : List Value) (n : Nat), getT l n = l.getD n undef
  | [], n => rfl
  | x :: l, 0 => rfl
  | x :: l, n + 1 => by
    show getT l n = _
    rw [getT_eq l n]
    rfl

def QRes.heap (q : QRes) (h : List Blk) : List Blk := (match q.upd with | some (i, b) => h.set i b | none => h) ++ q.new

theorem applyK_eq {E : Env} {h : List Blk} {q : QRes} (k : Value → List Blk → α) : applyK E h q k = k q.val (q.heap h) := by
  unfold applyK QRes.heap
  split
  · rw [forceV_eq]
    split
    · rename_i hu; rw [forceBs_eq, appK_eq]; simp [hu]
    · rename_i i b hu; rw [forceB_eq, setK_eq, forceBs_eq, appK_eq]; simp [hu]
  · rfl
def CAct.put (a : CAct) (dst : Option Tmp) (v : Value) : CAct :=
  match dst with
  | none => a
  | some d => { a with tmps := a.tmps.set d v }
theorem putK_eq {E : Env} {a : CAct} {dst : Option Tmp} {v : Value} (k : CAct → α) : putK E a dst v k = k (a.put dst v) := by
  unfold putK CAct.put
  split
  · rfl
  · split
    · rw [setK_eq]
    · rfl
end

theorem toF_heap {h : List Blk} {q : QRes} (hu : ∀ k b, q.upd = some (k, b) → k < h.length) : toF (q.heap h) = stepF h.length q (toF h) := by
  obtain ⟨val, new, upd⟩ := q
  funext i
  unfold QRes.heap stepF toF
  simp only [List.getD]
  cases upd with
  | none =>
    simp only
    by_cases hn : h.length ≤ i ∧ i < h.length + new.length
    · rw [if_pos hn, List.getElem?_append_right hn.1]
    · rw [if_neg hn]
      by_cases hi : i < h.length
      · rw [List.getElem?_append_left hi]
      · rw [List.getElem?_eq_none (by rw [List.length_append]; omega), List.getElem?_eq_none (by omega)]
  | some p =>
    obtain ⟨k, b⟩ := p
    have hk := hu k b rfl
    simp only
    by_cases hn : h.length ≤ i ∧ i < h.length + new.length
    · rw [if_pos hn, List.getElem?_append_right (by simpa using hn.1), List.length_set]
    · rw [if_neg hn]
      by_cases hi : i < h.length
      · rw [List.getElem?_append_left (by simpa using hi), List.getElem?_set]
        by_cases he : k = i
        · subst he; simp [hi]
        · rw [if_neg he, if_neg (fun e => he e.symm)]
      · rw [List.getElem?_eq_none (by rw [List.length_append, List.length_set]; omega), List.getElem?_eq_none (by omega), if_neg (by omega)]

/-! ### Only blocks that are there are written -/

theorem cStoreAt_alive {base : Nat} {h : List Blk} {a : Addr} {xs : List Value} {k : Nat} {b : Blk} (hs : cStoreAt base h a xs = some (some (k, b))) : toF h k ≠ .dead := by
  unfold cStoreAt at hs
  split at hs
  · cases hs
  · split at hs
    · cases hs
    · split at hs
      · rename_i t vs hi
        split at hs
        · cases hs; rw [toF_some hi]; simp
        · cases hs
      · cases hs

theorem cStore_alive {P : Program} {base : Nat} {h : List Blk} {t : TypeId} {a x : Value} {q : QRes} {k : Nat} {b : Blk} (hs : cStore P base h t a x = some q) (hu : q.upd = some (k, b)) : toF h k ≠ .dead := by
  unfold cStore at hs
  split at hs
  · split at hs
    · rename_i a _ _ _ _ _
      revert hs
      generalize hst : cStoreAt base h _ _ = st
      intro hs
      cases st with
      | none => cases hs
      | some u => cases hs; simp only at hu; subst hu; exact cStoreAt_alive hst
    · cases hs
  · cases hs

theorem cMapUpdate_alive {P : Program} {base : Nat} {h : List Blk} {t : TypeId} {m k x : Value} {q : QRes} {i : Nat} {b : Blk} (hs : cMapUpdate P base h t m k x = some q) (hu : q.upd = some (i, b)) : toF h i ≠ .dead := by
  unfold cMapUpdate at hs
  split at hs
  · split at hs
    · rename_i kt' es hr
      split at hs
      · split at hs <;> (cases hs; cases hu; rw [toF_some hr]; simp)
      · cases hs
    · cases hs
  · cases hs

theorem cDelete_alive {P : Program} {base : Nat} {h : List Blk} {t : TypeId} {m k : Value} {q : QRes} {i : Nat} {b : Blk} (hs : cDelete P base h t m k = some q) (hu : q.upd = some (i, b)) : toF h i ≠ .dead := by
  unfold cDelete at hs
  split at hs
  · split at hs
    · rename_i kt' es hr
      split at hs
      · split at hs <;> (cases hs; cases hu; rw [toF_some hr]; simp)
      · cases hs
    · cases hs
  · cases hs

theorem cAppend_alive {P : Program} {base : Nat} {h : List Blk} {n : Nat} {ts : Array TypeId} {s x : Value} {q : QRes} {i : Nat} {b : Blk} (hs : cAppend P base h n ts s x = some q) (hu : q.upd = some (i, b)) : toF h i ≠ .dead := by
  unfold cAppend at hs
  split at hs
  · split at hs
    · split at hs
      · split at hs
        · cases hs
        · split at hs
          · cases hs; cases hu
          · split at hs
            · unfold appIn at hs
              split at hs
              · revert hs
                generalize hst : cStoreAt base h _ _ = st
                intro hs
                cases st with
                | none => cases hs
                | some u => cases hs; simp only at hu; subst hu; exact cStoreAt_alive hst
              · cases hs
            · split at hs
              · cases hs
              · split at hs
                · unfold appCopy at hs
                  split at hs
                  · cases hs; cases hu
                  · cases hs
                · unfold appOn at hs
                  split at hs
                  · split at hs
                    · rename_i t vs hk
                      split at hs
                      · cases hs; cases hu; rw [toF_some hk]; simp
                      · cases hs
                    · cases hs
                  · cases hs
      · cases hs
    · cases hs
  · cases hs

theorem flatRun_upd {P : Program} {vs : List Value} {s : Sem Value} {q : QRes} (h : flatRun P vs s = some q) : q.upd = none := by
  obtain ⟨_, v, rfl, _⟩ := flatRun_spec h; rfl
theorem qv_upd {x : Option Value} {q : QRes} (h : qv x = some q) : q.upd = none := by
  cases x with
  | none => cases h
  | some v => cases h; rfl

theorem qBuiltin_alive {E : Env} {base : Nat} {h : List Blk} {n : Nat} {b : Builtin} {ts : Array TypeId} {ty : TypeId} {args : List Value} {q : QRes} {i : Nat} {bl : Blk} (hs : qBuiltin E base h n b ts ty args = some q) (hu : q.upd = some (i, bl)) : toF h i ≠ .dead := by
  unfold qBuiltin at hs
  split at hs
  · exact cAppend_alive hs hu
  · split at hs
    · cases hs; cases hu
    · cases hs; cases hu
    · revert hs
      generalize cEntries h _ = st
      intro hs
      cases st with
      | none => cases hs
      | some u => cases hs; cases hu
    · cases hs; cases hu
    · cases hs
  · split at hs
    · split at hs
      · cases hs; cases hu
      · cases hs
    · cases hs
  · rw [flatRun_upd hs] at hu; cases hu
  · rw [flatRun_upd hs] at hu; cases hu
  · revert hs
    generalize ts[0]? = t
    intro hs
    cases t with
    | none => cases hs
    | some t => exact cDelete_alive hs hu
  · split at hs
    · rename_i hk
      split at hs
      · cases hs; cases hu; rw [toF_some hk]; simp
      · cases hs
    · cases hs
  · split at hs
    · split at hs
      · split at hs
        · revert hs
          generalize hst : cStoreAt base h _ _ = st
          intro hs
          cases st with
          | none => cases hs
          | some u => cases hs; simp only at hu; subst hu; exact cStoreAt_alive hst
        · cases hs
      · cases hs
    · cases hs
  · cases hs

theorem qOp_alive {E : Env} {r : Rec} {base : Nat} {h : List Blk} {n : Nat} {ρ : Operand → Value} {o : Oper} {q : QRes} {i : Nat} {b : Blk} (hs : qOp E r base h n ρ o = some q) (hu : q.upd = some (i, b)) : toF h i ≠ .dead := by
  unfold qOp at hs
  split at hs
  all_goals first
    | (cases hs; cases hu; done)
    | exact cStore_alive hs hu
    | exact cMapUpdate_alive hs hu
    | exact qBuiltin_alive hs hu
    | (rw [flatRun_upd hs] at hu; cases hu; done)
    | (rw [qv_upd hs] at hu; cases hu; done)
    | skip
  · unfold qPick at hs; split at hs <;> cases hs; cases hu
  · unfold qAlloc at hs; split at hs
    · split at hs <;> cases hs; cases hu
    · cases hs
  · unfold qBox at hs; split at hs <;> cases hs; cases hu
  · unfold cBuildSlice at hs
    repeat' (split at hs)
    all_goals (first | (cases hs; done) | (cases hs; cases hu; done))
  · unfold qNilCheck at hs; split at hs <;> cases hs <;> cases hu
  · unfold qBin at hs
    split at hs
    · split at hs
      · cases hs; cases hu
      · rw [flatRun_upd hs] at hu; cases hu
    · split at hs <;> first | (rw [qv_upd hs] at hu; cases hu; done) | cases hs
    · split at hs
      · cases hs; cases hu
      · rw [flatRun_upd hs] at hu; cases hu
    · split at hs
      · split at hs <;> cases hs <;> cases hu
      · cases hs
    · rw [flatRun_upd hs] at hu; cases hu
  · unfold qUn at hs
    split at hs
    · cases hs; cases hu
    · cases hs; cases hu
    · rw [flatRun_upd hs] at hu; cases hu
  · unfold qMakeMap at hs; split at hs <;> cases hs; cases hu
  · unfold cMakeSlice at hs
    repeat' (split at hs)
    all_goals (first | (cases hs; done) | (cases hs; cases hu; done))
  · unfold qExtract at hs; split at hs
    · rw [qv_upd hs] at hu; cases hu
    · cases hs
  · unfold qCall at hs
    split at hs
    · revert hs
      generalize callQ E r _ _ _ = st
      intro hs
      cases st with
      | none => cases hs
      | some u => cases hs; cases hu
    · cases hs
  · cases hs
end Go.Cl
