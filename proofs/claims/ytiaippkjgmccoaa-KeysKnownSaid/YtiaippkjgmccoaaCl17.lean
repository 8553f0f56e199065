/- What is kept of a pure call's blocks. -/
import Derived.Test.YtiaippkjgmccoaaCl16
set_option linter.unusedSimpArgs false
set_option linter.unusedVariables false
namespace Go.Cl
open Go Go.RowKit

theorem nodup_dups : ∀ (n : Nat) (l : List Nat), l.length ≤ n → l.eraseDups.Nodup
  | _, [], _ => by simp
  | 0, _ :: _, h => by simp at h
  | n + 1, a :: l, h => by
    rw [List.eraseDups_cons, List.nodup_cons]
    refine ⟨fun hm => ?_, nodup_dups n _ (Nat.le_trans (List.length_filter_le _ _) (by simpa using h))⟩
    rw [List.mem_eraseDups, List.mem_filter] at hm
    simp at hm

section
variable {D D2 : Nat → Prop} {β β2 : Nat → Nat × Nat} {κ κ2 : Nat → Nat} {n : Nat} {f : Nat → Nat} {ok : Nat → Prop}

/-- Blocks are called by other numbers. -/
def Ren (D : Nat → Prop) (β : Nat → Nat × Nat) (κ : Nat → Nat) (D2 : Nat → Prop) (β2 : Nat → Nat × Nat) (κ2 : Nat → Nat) (f : Nat → Nat) (ok : Nat → Prop) : Prop :=
  ∀ i, D i → ok i → D2 (f i) ∧ β2 (f i) = β i ∧ κ2 (f i) = κ i

theorem ren_leaf (hf : Ren D β κ D2 β2 κ2 f ok) {v v' : Value} (h : VR D β κ v v') (hp : plainLeaf v = true) (hr : ∀ i, (i < n ∨ i ∈ refsLeaf n v) → ok i) : VR D2 β2 κ2 (renLeaf f v) v' := by
  have okb : ∀ i, (n ≤ i → i ∈ refsLeaf n v) → ok i := fun i hi => by
    by_cases hl : i < n
    · exact hr i (.inl hl)
    · exact hr i (.inr (hi (by omega)))
  cases h with
  | ptr i o hi =>
    obtain ⟨h1, h2, h3⟩ := hf i hi (okb i fun hn => by simp [refsLeaf, hn])
    have := VR.ptr (β := β2) (κ := κ2) (f i) o h1
    rw [h2] at this
    exact this
  | slice i o l c hi hlc hc =>
    obtain ⟨h1, h2, h3⟩ := hf i hi (okb i fun hn => by simp [refsLeaf, hn])
    have := VR.slice (β := β2) (κ := κ2) (f i) o l c h1 hlc hc
    rw [h2] at this
    exact this
  | sliceU i o l q hi hq hk =>
    obtain ⟨h1, h2, h3⟩ := hf i hi (okb i fun hn => by simp [refsLeaf, hn])
    have := VR.sliceU (β := β2) (κ := κ2) (f i) o l q h1 (by rw [h3]; exact hq) (by rw [h3]; exact hk)
    rw [h2, h3] at this
    exact this
  | sliceE i o q a hq => exact .sliceE (f i) o q a hq
  | sliceZ i o a => exact .sliceZ (f i) o a
  | sliceA i o l C c hi hC hlc hc =>
    obtain ⟨h1, h2, h3⟩ := hf i hi (okb i fun hn => by simp [refsLeaf, hn])
    have := VR.sliceA (β := β2) (κ := κ2) (f i) o l C c h1 hC hlc hc
    rw [h2] at this
    exact this
  | sliceAN i o C a hC => exact .sliceAN (f i) o C a hC
  | map i hi =>
    obtain ⟨h1, h2, h3⟩ := hf i hi (okb i fun hn => by simp [refsLeaf, hn])
    have := VR.map (β := β2) (κ := κ2) (f i) h1
    rw [h2] at this
    exact this
  | _ => first | (simp [plainLeaf] at hp; done) | (simp only [renLeaf]; constructor)

theorem ren_one (hf : Ren D β κ D2 β2 κ2 f ok) {v v' : Value} (h : VR D β κ v v') (hp : plain1 v = true) (hr : ∀ i, (i < n ∨ i ∈ refs1 n v) → ok i) : VR D2 β2 κ2 (ren1 f v) v' := by
  have h0 := h
  cases h with
  | agg l l' hl hl' =>
    refine .agg _ l' (by simpa using hl) fun j x x' hx hx' => ?_
    simp only [List.getElem?_map] at hx
    cases hy : l[j]? with
    | none => rw [hy] at hx; cases hx
    | some y =>
      rw [hy] at hx
      cases hx
      have hm := List.mem_of_getElem? hy
      refine ren_leaf (n := n) hf (hl' j y x' hy hx') (List.all_eq_true.1 hp y hm) fun i hi => hr i ?_
      rcases hi with hi | hi
      · exact .inl hi
      · exact .inr (List.mem_flatMap.2 ⟨y, hm, hi⟩)
  | _ => exact ren_leaf hf h0 (by simpa [plain1] using hp) (fun i hi => hr i hi)

theorem ren_val (hf : Ren D β κ D2 β2 κ2 f ok) {v v' : Value} (h : VR D β κ v v') (hp : plainV v = true) (hr : ∀ i, (i < n ∨ i ∈ refs n v) → ok i) : VR D2 β2 κ2 (renV f v) v' := by
  have h0 := h
  cases h with
  | tuple l l' hl hl' =>
    refine .tuple _ l' (by simpa using hl) fun j x x' hx hx' => ?_
    simp only [List.getElem?_map] at hx
    cases hy : l[j]? with
    | none => rw [hy] at hx; cases hx
    | some y =>
      rw [hy] at hx
      cases hx
      have hm := List.mem_of_getElem? hy
      refine ren_one (n := n) hf (hl' j y x' hy hx') (List.all_eq_true.1 hp y hm) fun i hi => hr i ?_
      rcases hi with hi | hi
      · exact .inl hi
      · exact .inr (List.mem_flatMap.2 ⟨y, hm, hi⟩)
  | agg l l' hl hl' => exact ren_one hf h0 (by simpa [plainV] using hp) (fun i hi => hr i hi)
  | _ => exact ren_one hf h0 (by simpa [plainV] using hp) (fun i hi => hr i hi)

end

section
variable {P : Program} {w w' : World} {D : Nat → Prop} {β β1 : Nat → Nat × Nat} {κ κ1 : Nat → Nat} {h h1 : List Blk} {v v' : Value}

theorem refs_ge {n : Nat} : ∀ (v : Value), ∀ i ∈ refs n v, n ≤ i := by
  have leaf : ∀ (v : Value), ∀ i ∈ refsLeaf n v, n ≤ i := by
    intro v i hi
    unfold refsLeaf at hi
    split at hi
    · split at hi
      · simp at hi; omega
      · simp at hi
    · split at hi
      · simp at hi; omega
      · simp at hi
    · split at hi
      · simp at hi; omega
      · simp at hi
    · simp at hi
  have one : ∀ (v : Value), ∀ i ∈ refs1 n v, n ≤ i := by
    intro v i hi
    unfold refs1 at hi
    split at hi
    · obtain ⟨x, _, hx⟩ := List.mem_flatMap.1 hi; exact leaf x i hx
    · exact leaf _ i hi
  intro v i hi
  unfold refs at hi
  split at hi
  · obtain ⟨x, _, hx⟩ := List.mem_flatMap.1 hi; exact one x i hx
  · exact one _ i hi

/-- A block that speaks of no other. -/
theorem BR.flat {D2 : Nat → Prop} {β2 : Nat → Nat × Nat} {κ2 : Nat → Nat} {i j : Nat} {b : Blk} (hb : blkFlat b = true) (hB : BR P D β κ i b w) (hj : β2 j = β i) : BR P D2 β2 κ2 j b w := by
  cases b with
  | cells t vs =>
    obtain ⟨arr, T, fz, g1, g2⟩ := hB
    refine ⟨arr, T, fz, by rw [hj]; exact g1, fun k x hx => ?_⟩
    obtain ⟨x', g3, g4⟩ := g2 k x hx
    have hxf : isFlat x = true := List.all_eq_true.1 hb x (List.mem_of_getElem? hx)
    rw [g4.flat hxf] at g3
    exact ⟨x, by rw [hj]; exact g3, .of_flat hxf⟩
  | map kt es => obtain ⟨arr, clock, g1, g2⟩ := hB; exact ⟨arr, clock, by rw [hj]; exact g1, g2⟩
  | _ => simp [blkFlat] at hb
theorem OwnB.flat {β2 : Nat → Nat × Nat} {κ2 : Nat → Nat} {i j : Nat} {b : Blk} (hB : OwnB P β κ i b w) (hj : β2 j = β i ∧ κ2 j = κ i) : OwnB P β2 κ2 j b w := by
  cases b with
  | cells t vs => obtain ⟨arr, T, g1, g2⟩ := hB; exact ⟨arr, T, by rw [hj.1]; exact g1, by rw [hj.1, hj.2]; exact g2⟩
  | _ => trivial

theorem tidy_sound (hD : ∀ i, D i → i < h.length) (hO : Out P D β κ h.length w.heap.size h w h1 w' β1 κ1) (hv : VR (Up D h h1) β1 κ1 v v') :
    ∃ β2 κ2, QOut P D β κ h.length w.heap.size h.length w { val := (tidy h.length v h1).1, new := (tidy h.length v h1).2 } v' w' β2 κ2 := by
  unfold tidy
  split
  · rename_i hf
    refine ⟨β, κ, { ext := fun _ _ => ⟨rfl, rfl⟩, val := ?_, below := hO.below, keep := fun B hB _ => hO.below.block B hB, new := fun j b hj => by simp at hj, inj := fun i j b c hi => by simp at hi, upd := fun k b hk => by cases hk }⟩
    rw [hv.flat hf]; exact .of_flat hf
  · simp only
    split
    · -- what the value leads to
      rename_i hc
      simp only [Bool.and_eq_true, List.all_eq_true] at hc
      obtain ⟨hp, hall⟩ := hc
      generalize hids : (refs h.length v).eraseDups = ids at hall
      have hnd : ids.Nodup := by rw [← hids]; exact nodup_dups _ _ (Nat.le_refl _)
      have hge : ∀ i ∈ ids, h.length ≤ i := fun i hi => refs_ge v i (by rw [← hids, List.mem_eraseDups] at hi; exact hi)
      have hblk : ∀ i ∈ ids, ∃ b, h1[i]? = some b ∧ blkFlat b = true := fun i hi => by
        have := hall i hi
        split at this
        · exact ⟨_, ‹_›, this⟩
        · cases this
      have hlen : (ids.map fun i => h1.getD i .dead).length = ids.length := by simp
      refine ⟨fun i => if h.length ≤ i ∧ i < h.length + ids.length then β1 (ids.getD (i - h.length) 0) else β i, fun i => if h.length ≤ i ∧ i < h.length + ids.length then κ1 (ids.getD (i - h.length) 0) else κ i, ?_⟩
      have hnew : ∀ (j i : Nat), ids[j]? = some i → (if h.length ≤ h.length + j ∧ h.length + j < h.length + ids.length then β1 (ids.getD (h.length + j - h.length) 0) else β (h.length + j)) = β1 i ∧
          (if h.length ≤ h.length + j ∧ h.length + j < h.length + ids.length then κ1 (ids.getD (h.length + j - h.length) 0) else κ (h.length + j)) = κ1 i := by
        intro j i hj
        have hjl := (List.getElem?_eq_some_iff.1 hj).1
        have e : h.length + j - h.length = j := by omega
        rw [if_pos ⟨by omega, by omega⟩, if_pos ⟨by omega, by omega⟩, e]
        simp [List.getD, hj]
      have hmapat : ∀ (j : Nat) (b : Blk), (ids.map fun i => h1.getD i .dead)[j]? = some b → ∃ i, ids[j]? = some i ∧ h1[i]? = some b ∧ blkFlat b = true ∧ h.length ≤ i := by
        intro j b hj
        rw [List.getElem?_map] at hj
        cases hi : ids[j]? with
        | none => rw [hi] at hj; cases hj
        | some i =>
          rw [hi] at hj
          cases hj
          obtain ⟨b, hb, hbf⟩ := hblk i (List.mem_of_getElem? hi)
          exact ⟨i, rfl, by simp [List.getD, hb], by simp only [List.getD, hb]; exact hbf, hge i (List.mem_of_getElem? hi)⟩
      refine { ext := fun i hi => ?_, val := ?_, below := hO.below, keep := fun B hB _ => hO.below.block B hB, new := fun j b hj hb => ?_, inj := fun i j b c hi hj hb hc he => ?_, upd := fun k b hk => by cases hk }
      · have : ¬ (h.length ≤ i ∧ i < h.length + ids.length) := fun hn => hi ⟨hn.1, by simpa using hn.2⟩
        simp only [if_neg this, and_self]
      · refine ren_val (n := h.length) (ok := fun i => i < h.length ∨ i ∈ ids) (fun i hi hok => ?_) hv hp (fun i hi => hi.imp id fun hi => by rw [← hids, List.mem_eraseDups]; exact hi)
        by_cases hil : i < h.length
        · have hDi : D i := by
            rcases hi with hi | hi
            · exact hi
            · omega
          have hx := hO.ext i hil
          have : ¬ (h.length ≤ i ∧ i < h.length + ids.length) := by omega
          simp only [if_pos hil, if_neg this]
          exact ⟨.inl hDi, hx.1.symm, hx.2.symm⟩
        · have him : i ∈ ids := hok.resolve_left hil
          have hidx : ids.idxOf i < ids.length := List.idxOf_lt_length_iff.2 him
          have hat : ids[ids.idxOf i]? = some i := by rw [List.getElem?_eq_getElem hidx, List.getElem_idxOf]
          simp only [if_neg hil]
          exact ⟨.inr ⟨by omega, by rw [hlen]; omega⟩, hnew _ _ hat⟩
      · obtain ⟨i, hi, hbi, hbf, hge⟩ := hmapat j b hj
        obtain ⟨e1, e2⟩ := hnew j i hi
        have hB := hO.rel.blk i
        have hOw := hO.rel.own i (by rw [toF_some hbi]; exact hb) hge
        rw [toF_some hbi] at hB hOw
        refine ⟨hB.flat hbf e1, hOw.2.flat ⟨e1, e2⟩, ?_, .inl ?_⟩
        · simp only [e1]; exact hOw.1
        · simp only [e1]; exact hOw.1
      · obtain ⟨i1, h11, h12, h13, h14⟩ := hmapat i b hi
        obtain ⟨j1, h21, h22, h23, h24⟩ := hmapat j c hj
        simp only [(hnew i i1 h11).1, (hnew j j1 h21).1] at he
        have := hO.rel.inj i1 j1 (by rw [toF_some h12]; exact hb) (by rw [toF_some h22]; exact hc) h14 h24 he
        subst this
        exact (List.getElem?_inj (List.getElem?_eq_some_iff.1 h11).1 hnd).1 (h11.trans h21.symm)
    · -- all
      have hle := hO.le
      have hlen : (h1.drop h.length).length = h1.length - h.length := by simp
      have hU : ∀ i, Up D h h1 i → (D i ∨ InNew h.length (h1.drop h.length).length i) := by
        rintro i (hi | hi)
        · exact .inl hi
        · exact .inr ⟨hi.1, by rw [hlen]; omega⟩
      have hlt : ∀ i, Up D h h1 i → i < h1.length := hO.known hD
      refine ⟨fun i => if i < h1.length then β1 i else β i, fun i => if i < h1.length then κ1 i else κ i, ?_⟩
      have hE : Ext (Up D h h1) β1 κ1 (fun i => if i < h1.length then β1 i else β i) (fun i => if i < h1.length then κ1 i else κ i) := fun i hi => by simp [hlt i hi]
      refine { ext := fun i hi => ?_, val := hv.mono hU hE, below := hO.below, keep := fun B hB _ => hO.below.block B hB, new := fun j b hj hb => ?_, inj := fun i j b c hi hj hb hc he => ?_, upd := fun k b hk => by cases hk }
      · by_cases hil : i < h1.length
        · have : i < h.length := by
            apply Classical.byContradiction
            intro hn
            exact hi ⟨by omega, by rw [hlen]; omega⟩
          simp only [if_pos hil]
          exact hO.ext i this
        · simp [hil]
      · rw [List.getElem?_drop] at hj
        have hjl := (List.getElem?_eq_some_iff.1 hj).1
        have hB := hO.rel.blk (h.length + j)
        have hOw := hO.rel.own (h.length + j) (by rw [toF_some hj]; exact hb) (by omega)
        rw [toF_some hj] at hB hOw
        have e1 : (if h.length + j < h1.length then β1 (h.length + j) else β (h.length + j)) = β1 (h.length + j) := by simp [hjl]
        have e2 : (if h.length + j < h1.length then κ1 (h.length + j) else κ (h.length + j)) = κ1 (h.length + j) := by simp [hjl]
        refine ⟨hB.move hU hE e1 rfl, hOw.2.move ⟨e1, e2⟩ rfl, ?_, .inl ?_⟩
        · simp only [e1]; exact hOw.1
        · simp only [e1]; exact hOw.1
      · rw [List.getElem?_drop] at hi hj
        have hil := (List.getElem?_eq_some_iff.1 hi).1
        have hjl := (List.getElem?_eq_some_iff.1 hj).1
        simp only [if_pos hil, if_pos hjl] at he
        have := hO.rel.inj (h.length + i) (h.length + j) (by rw [toF_some hi]; exact hb) (by rw [toF_some hj]; exact hc) (by omega) (by omega) he
        omega

/-- A PURE CALL. -/
theorem pure_of_imp {E : Env} {g : FuncId} {args : List Value} (hs : ImpSim E.P g args h.length h v h1) : PureSim E.P g args h (tidy h.length v h1).1 (tidy h.length v h1).2 := by
  refine ⟨hs.1, fun D β κ w args' hD hR ha => Calls.mono (hs.2 D β κ w.heap.size w args' hD (Nat.le_refl _) hR ha) ?_⟩
  rintro e w' ⟨v', β1, κ1, rfl, hO, hv⟩
  obtain ⟨β2, κ2, hQ⟩ := tidy_sound hD hO hv
  exact ⟨v', β2, κ2, rfl, hQ⟩
end
end Go.Cl
