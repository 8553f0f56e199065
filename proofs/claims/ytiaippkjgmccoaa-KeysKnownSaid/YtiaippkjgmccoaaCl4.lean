/- Operations, one by one: values, new blocks, reads. -/
import Derived.Test.YtiaippkjgmccoaaCl3
import Derived.Laws.CopyRow
import Derived.ChangeKeysEq
namespace Go.Cl
open Go Go.RowKit

section
variable {P : Program} {w : World}

theorem pureRun_run {α : Type} {s : Sem α} {a : α} (h : pureRun P s = some a) (w : World) : s.run P w = .ok a w := by
  induction s with
  | pure b => simp [pureRun] at h; subst h; rfl
  | program k ih => simp only [pureRun] at h; simp only [Sem.run]; exact ih _ h
  | mark m k ih => simp only [pureRun] at h; simp only [Sem.run]; exact ih h
  | _ => simp [pureRun] at h

theorem run_size {t : TypeId} {s : Nat} (h : sizeT P t = some s) (w : World) : (sizeOf t).run P w = .ok s w := by
  unfold sizeT at h
  cases hi : P.info? t with
  | none => rw [hi] at h; cases h
  | some i => rw [hi] at h; cases h; simp [sizeOf, typeInfo, hi]
theorem run_info {t : TypeId} {b : Nat} (h : bytesT P t = some b) (w : World) : ∃ i, (typeInfo t).run P w = .ok i w ∧ i.bytes = b := by
  unfold bytesT at h
  cases hi : P.info? t with
  | none => rw [hi] at h; cases h
  | some i => rw [hi] at h; cases h; exact ⟨i, by simp [typeInfo, hi], rfl⟩
theorem run_zero {t : TypeId} {z : Value} (h : zeroT P t = some z) (w : World) : (zeroValue t).run P w = .ok z w := by
  unfold zeroT at h
  cases hi : P.info? t with
  | none => rw [hi] at h; cases h
  | some i => rw [hi] at h; simp at h; simp [zeroValue, typeInfo, hi, h]
theorem run_und {t : TypeId} {d : TypeDesc} (h : P.underlying t = some d) (w : World) : (underlying t).run P w = .ok d w := run_underlying h w
theorem run_isAgg {t : TypeId} {b : Bool} (h : aggT P t = some b) (w : World) : (isAgg t).run P w = .ok b w := by
  unfold aggT at h
  cases hd : P.underlying t with
  | none => rw [hd] at h; cases h
  | some d =>
    rw [hd] at h
    unfold isAgg
    rw [Sem.run_bind, run_und hd]
    cases d <;> simp at h <;> subst h <;> simp

variable {D : Nat → Prop} {β : Nat → Nat × Nat} {κ : Nat → Nat} {base N n : Nat}

/-- Nothing turns. -/
theorem QOut.same {v v' : Value} (h : VR D β κ v v') : QOut P D β κ base N n w { val := v } v' w β κ where
  ext := fun _ _ => ⟨rfl, rfl⟩
  val := h.mono (fun _ h => .inl h) Ext.refl
  below := Below.refl _ _
  keep := fun _ _ _ => rfl
  new := fun j b h => by simp at h
  inj := fun i j b c h => by simp at h
  upd := fun k b h => by simp at h

theorem inNew_one {i : Nat} : InNew n 1 i ↔ i = n := by unfold InNew; omega

theorem heap_alloc_old {o : Obj} {k : Nat} (h : k < w.heap.size) : (w.alloc o).heap[k]? = w.heap[k]? := Below.heap_alloc w o k h
theorem heap_alloc_new {o : Obj} : (w.alloc o).heap[w.heap.size]? = some o := by
  show (w.heap.push o)[w.heap.size]? = _
  simp

/-- One new block. -/
theorem QOut.one {b : Blk} {o : Obj} {v v' : Value} (hN : N ≤ w.heap.size) (hn : ∀ i, D i → i ≠ n)
    (hb : ∀ β' κ', β' n = (w.heap.size, 0) → κ' n = 0 → (∀ i, i ≠ n → β' i = β i ∧ κ' i = κ i) → BR P (fun i => D i ∨ InNew n 1 i) β' κ' n b (w.alloc o) ∧ OwnB P β' κ' n b (w.alloc o) ∧ VR (fun i => D i ∨ InNew n 1 i) β' κ' v v') :
    ∃ β' κ', QOut P D β κ base N n w { val := v, new := [b] } v' (w.alloc o) β' κ' := by
  refine ⟨fun i => if i = n then (w.heap.size, 0) else β i, fun i => if i = n then 0 else κ i, ?_⟩
  obtain ⟨h1, h2, h3⟩ := hb (fun i => if i = n then (w.heap.size, 0) else β i) (fun i => if i = n then 0 else κ i) (by simp) (by simp) (fun i hi => by simp [hi])
  exact {
    ext := fun i hi => by have : i ≠ n := fun e => hi (by subst e; exact ⟨Nat.le_refl _, by simp⟩); simp [this]
    val := h3
    below := (Below.refl _ _).alloc hN _
    keep := fun B hB _ => heap_alloc_old hB
    new := fun j c hc _ => by
      cases j with
      | zero => simp at hc; subst hc; exact ⟨h1, h2, by simpa using hN, .inl (by simp)⟩
      | succ j => simp at hc
    inj := fun i j b c hi hj _ _ _ => by
      cases i with
      | zero => cases j with | zero => rfl | succ j => simp at hj
      | succ i => simp at hi
    upd := fun k c h => by simp at h }

/-- A new row of cells. -/
theorem QOut.cells {t : TypeId} {vs vs' : List Value} {v v' : Value} (hN : N ≤ w.heap.size) (hn : ∀ i, D i → i ≠ n) (h : LR D β κ vs vs')
    (hv : ∀ β' κ', β' n = (w.heap.size, 0) → κ' n = 0 → VR (fun i => D i ∨ InNew n 1 i) β' κ' v v') :
    ∃ β' κ', QOut P D β κ base N n w { val := v, new := [.cells t vs] } v' (w.alloc (.cells ⟨vs'⟩ t)) β' κ' := by
  refine QOut.one hN hn fun β' κ' hβ hκ he => ⟨?_, ?_, hv β' κ' hβ hκ⟩
  · refine ⟨⟨vs'⟩, t, (0, 0), by rw [hβ]; exact heap_alloc_new, fun k x hx => ?_⟩
    obtain ⟨x', hx', hr⟩ := h.get hx
    exact ⟨x', by rw [hβ]; simpa using hx', hr.mono (fun _ h => .inl h) (fun i hi => he i (hn i hi))⟩
  · exact ⟨⟨vs'⟩, t, by rw [hβ]; exact heap_alloc_new, fun s _ => by rw [hβ, hκ]; simp⟩

theorem vr_newptr {β' : Nat → Nat × Nat} {κ' : Nat → Nat} (hβ : β' n = (w.heap.size, 0)) : VR (fun i => D i ∨ InNew n 1 i) β' κ' (.pointer (some ⟨n, 0, none⟩)) (.pointer (some ⟨w.heap.size, 0, none⟩)) := by
  have := VR.ptr (D := fun i => D i ∨ InNew n 1 i) (β := β') (κ := κ') n 0 (.inr (inNew_one.2 rfl))
  rwa [hβ] at this
theorem vr_newslice {β' : Nat → Nat × Nat} {κ' : Nat → Nat} (l c : Nat) (hlc : l ≤ c) (hc : c ≤ INF) (hβ : β' n = (w.heap.size, 0)) : VR (fun i => D i ∨ InNew n 1 i) β' κ' (.slice (some ⟨n, 0, none⟩) l c) (.slice (some ⟨w.heap.size, 0, none⟩) l c) := by
  have := VR.slice (D := fun i => D i ∨ InNew n 1 i) (β := β') (κ := κ') n 0 l c (.inr (inNew_one.2 rfl)) hlc hc
  rwa [hβ] at this

theorem run_alloc {t : TypeId} {z : Value} (h : zeroT P t = some z) (w : World) : (Instr.alloc t true (.tuple #[])).run P w = .ok (.pointer (some ⟨w.heap.size, 0, none⟩)) (w.alloc (.cells z.cells t)) := by
  simp [Instr.alloc, run_zero h, newVar, newRow]
theorem run_box (t : TypeId) (v : Value) (w : World) : (Instr.box t v).run P w = .ok (.pointer (some ⟨w.heap.size, 0, none⟩)) (w.alloc (.cells v.cells t)) := by
  simp [Instr.box, newVar, newRow]

theorem flat_cells {v : Value} (h : isFlat v = true) (ht : ∀ vs, v ≠ .tuple vs) : v.cells.toList.all leafFlat = true := by
  cases v with
  | tuple vs => exact absurd rfl (ht vs)
  | agg cs => simpa [isFlat, flat1, Value.cells] using h
  | _ => simpa [isFlat, flat1, Value.cells] using h

/-! Cells of a block. -/

theorem cell_of {b o : Nat} {arr : Array Value} {T : TypeId} {fz : Nat × Nat} (h : w.heap[b]? = some (.cells arr T fz)) : w.cell? ⟨b, o, none⟩ = arr[o]? := by
  simp [World.cell?, h]

/-- The cells that a slice or a variable leads to, in the model. -/
theorem cells_at {vs : List Value} {i o k : Nat} {t : TypeId} (h : BR P D β κ i (.cells t vs) w) (hl : o + k ≤ vs.length) :
    ∃ rs, LR D β κ ((vs.drop o).take k) rs ∧ rs.length = k ∧ ∀ (j : Nat) (v : Value), rs[j]? = some v → w.cell? (Addr.add ⟨(β i).1, (β i).2 + o, none⟩ j) = some v := by
  obtain ⟨arr, T, fz, h1, h2⟩ := h
  refine ⟨(arr.toList.drop ((β i).2 + o)).take k, ⟨?_, fun j v v' hv hv' => ?_⟩, ?_, fun j v hv => ?_⟩
  · -- lengths
    have : (β i).2 + o + k ≤ arr.size ∨ k = 0 := by
      by_cases hk : k = 0
      · exact .inr hk
      · obtain ⟨v', hv', _⟩ := h2 (o + (k - 1)) _ (List.getElem?_eq_getElem (show o + (k - 1) < vs.length by omega))
        obtain ⟨hlt, _⟩ := Array.getElem?_eq_some_iff.1 hv'
        exact .inl (by omega)
    rcases this with h | h <;> simp <;> omega
  · rw [List.getElem?_take] at hv hv'
    split at hv
    · rename_i hj
      rw [if_pos hj] at hv'
      simp at hv hv'
      obtain ⟨u, hu, hr⟩ := h2 _ _ hv
      rw [← Nat.add_assoc] at hu
      rw [hu] at hv'
      cases hv'
      exact hr
    · cases hv
  · have : (β i).2 + o + k ≤ arr.size ∨ k = 0 := by
      by_cases hk : k = 0
      · exact .inr hk
      · obtain ⟨v', hv', _⟩ := h2 (o + (k - 1)) _ (List.getElem?_eq_getElem (show o + (k - 1) < vs.length by omega))
        obtain ⟨hlt, _⟩ := Array.getElem?_eq_some_iff.1 hv'
        exact .inl (by omega)
    rcases this with h | h <;> simp <;> omega
  · rw [List.getElem?_take] at hv
    split at hv
    · simp at hv
      have e : (Addr.add ⟨(β i).1, (β i).2 + o, none⟩ j) = ⟨(β i).1, (β i).2 + o + j, none⟩ := by unfold Addr.add; split <;> simp_all
      rw [e, cell_of h1]
      exact hv
    · cases hv

theorem toF_some {h : List Blk} {i : Nat} {b : Blk} (e : h[i]? = some b) : toF h i = b := by simp [toF, List.getD, e]

/-- A load. -/
theorem load_sim {h : List Blk} {t : TypeId} {a a' v : Value} {N : Nat} (hl : cLoad P h t a = some v) (hR : Rel P D β κ base N (toF h) w) (ha : VR D β κ a a') :
    ∃ v', (Instr.loadAt t a').run P w = .ok v' w ∧ VR D β κ v v' := by
  unfold cLoad at hl
  split at hl
  · rename_i i o
    cases ha with
    | ptr _ _ hi =>
    split at hl
    · rename_i t' vs hb
      have hB := hR.blk i
      rw [toF_some hb] at hB
      split at hl
      · rename_i k hagg hsz
        split at hl
        · rename_i hle
          cases hl
          obtain ⟨rs, h1, h2, h3⟩ := cells_at hB hle
          refine ⟨.agg ⟨rs⟩, ?_, .agg _ _ h1.len h1.at_⟩
          have hrun := run_loadCells_list (P := P) (w := w) ⟨(β i).1, (β i).2 + o, none⟩ rs h3
          rw [h2] at hrun
          simp [Instr.loadAt, Instr.sureAddr, loadVar, run_isAgg hagg, run_size hsz, hrun]
        · cases hl
      · rename_i hagg
        obtain ⟨arr, T, fz, h1, h2⟩ := hB
        obtain ⟨v', h3, h4⟩ := h2 o v hl
        refine ⟨v', ?_, h4⟩
        simp [Instr.loadAt, Instr.sureAddr, loadVar, run_isAgg hagg, cell_of h1, h3]
      · cases hl
    · cases hl
  · cases hl

/-- Cells that are read as a row's: in every world with this heap. -/
theorem readCells_sim {h : List Blk} {b b' : Option Addr} {k l c l' c' : Nat} {xs : List Value} {N : Nat} (hr : readCells h b k = some xs) (hR : Rel P D β κ base N (toF h) w)
    (hb : VR D β κ (.slice b l c) (.slice b' l' c')) (hl : l = 0 → k = 0) :
    ∃ rs, LR D β κ xs rs ∧ rs.length = k ∧ (∀ a, b' = some a → ∀ w' : World, w'.heap = w.heap → (loadCells a k).run P w' = .ok rs.toArray w') ∧ (b' = none → k = 0) := by
  unfold readCells at hr
  split at hr
  · rename_i hk
    cases hr
    subst hk
    exact ⟨[], .nil, rfl, fun a _ w' _ => by simp [loadCells, loadCellsFrom], fun _ => rfl⟩
  · rename_i hk
    split at hr
    · rename_i i o
      split at hr
      · rename_i t vs hi
        split at hr
        · rename_i hle
          cases hr
          have hB := hR.blk i
          rw [toF_some hi] at hB
          obtain ⟨rs, h1, h2, h3⟩ := cells_at hB hle
          have hrun : ∀ w' : World, w'.heap = w.heap → (loadCells ⟨(β i).1, (β i).2 + o, none⟩ k).run P w' = .ok rs.toArray w' := fun w' hw => by
            have := run_loadCells_list (P := P) (w := w') ⟨(β i).1, (β i).2 + o, none⟩ rs (fun j v hv => by have := h3 j v hv; simpa [World.cell?, hw] using this)
            rwa [h2] at this
          refine ⟨rs, h1, h2, fun a ha => ?_, fun hn => ?_⟩
          · cases hb with
            | slice => cases ha; exact hrun
            | sliceU => cases ha; exact hrun
            | sliceE => exact absurd (hl rfl) hk
            | sliceZ => exact absurd (hl rfl) hk
            | sliceA => cases ha; exact hrun
            | sliceAN => exact absurd (hl rfl) hk
          · cases hb with
            | slice => cases hn
            | sliceU => cases hn
            | sliceE => cases hn
            | sliceZ => exact absurd (hl rfl) hk
            | sliceA => cases hn
            | sliceAN => exact absurd (hl rfl) hk
        · cases hr
      · cases hr
    · cases hr
end
end Go.Cl
