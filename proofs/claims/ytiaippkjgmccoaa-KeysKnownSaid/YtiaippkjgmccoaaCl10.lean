/- Operations, one by one: maps, make. -/
import Derived.Test.YtiaippkjgmccoaaCl9
namespace Go.Cl
open Go Go.RowKit
set_option linter.unusedSimpArgs false
set_option linter.unusedVariables false

section
variable {P : Program} {w : World} {D : Nat → Prop} {β : Nat → Nat × Nat} {κ : Nat → Nat} {base N n : Nat} {H : Nat → Blk}

def kvOf (e : MapEntry) : Value × Value := (e.key, e.val)

theorem findNow_spec {kt : TypeId} {k : Value} {d : TypeDesc} (hu : P.underlying kt = some d) (hp : isPlainKey (some d) = true) (hk : keyFits P kt k = true) :
    ∀ (es : List MapEntry) (i : Nat), (∀ e ∈ es, keyFits P kt e.key = true) → Instr.findNow d k es i = some (findEntry k (es.map kvOf) i) := by
  intro es
  obtain ⟨hk1, hk2⟩ := fits_leaf (by rw [hu]; exact hp) hk
  induction es with
  | nil => intro i _; rfl
  | cons e es ih =>
    intro i he
    obtain ⟨he1, he2⟩ := fits_leaf (by rw [hu]; exact hp) (he e (by simp))
    have hs : Instr.sameNow d k e.key = some (eqKey k e.key) := by
      rw [eqKey_leaf hk2]
      rw [hu] at hk1 he1
      generalize e.key = z at *
      cases d <;> simp [isPlainKey] at hp <;> cases k <;> simp [fitLeaf] at hk1 <;> cases z <;> simp [fitLeaf] at he1
      · simp [Instr.sameNow, eqLeaf]
      · have e1 := beq_kind (show (_ == _) = true by simpa using hk1)
        have e2 := beq_kind (show (_ == _) = true by simpa using he1)
        subst e1 e2
        simp [Instr.sameNow, eqLeaf]
    simp only [Instr.findNow, hs, List.map_cons, kvOf, findEntry]
    cases eqKey k e.key with
    | true => simp
    | false => simpa [kvOf] using ih (i + 1) (fun e' h => he e' (by simp [h]))

theorem findAsking_spec {kt : TypeId} {k : Value} (hT : keyT P kt = true) (hk : keyFits P kt k = true) (w : World) :
    ∀ (es : List MapEntry) (i : Nat), (∀ e ∈ es, keyFits P kt e.key = true) → (Instr.findAsking kt k es i).run P w = .ok (findEntry k (es.map kvOf) i) w := by
  intro es
  induction es with
  | nil => intro i _; simp [Instr.findAsking, findEntry]
  | cons e es ih =>
    intro i he
    have hq : (Op.equal kt k e.key).run P w = .ok (eqKey k e.key) w := key_equal (d := 9998) hT hk (he e (by simp)) w
    simp only [Instr.findAsking, Sem.run_bind, hq, Result.andThen_ok, List.map_cons, findEntry, kvOf]
    cases eqKey k e.key with
    | true => simp
    | false => simpa [kvOf] using ih (i + 1) (fun e' h => he e' (by simp [h]))

theorem find_sim {kt : TypeId} {k : Value} (hT : keyT P kt = true) (hk : keyFits P kt k = true) (es : List MapEntry) (he : ∀ e ∈ es, keyFits P kt e.key = true) (w : World) :
    (Instr.findKey kt k es).run P w = .ok (findEntry k (es.map kvOf) 0) w := by
  rcases keyT_spec hT with hp | ⟨fields, hu, _, _⟩
  · cases hu : P.underlying kt with
    | none => rw [hu] at hp; cases hp
    | some d =>
      rw [hu] at hp
      simp [Instr.findKey, run_und hu, findNow_spec hu hp hk es 0 he]
  · have hA := findAsking_spec hT hk w es 0 he
    cases es with
    | nil => simp [Instr.findKey, run_und hu, Instr.findNow, findEntry]
    | cons e es =>
      have : Instr.sameNow (.struct fields) k e.key = none := by unfold Instr.sameNow; split <;> simp_all
      simp only [Instr.findKey, Sem.run_bind, run_und hu, Result.andThen_ok, Instr.findNow, this]
      exact hA

theorem findEntry_spec {k : Value} : ∀ (es : List (Value × Value)) (i j : Nat) (v : Value), findEntry k es i = some (j, v) → i ≤ j ∧ ∃ x, es[j - i]? = some (x, v) ∧ eqKey k x = true := by
  intro es
  induction es with
  | nil => intro i j v h; cases h
  | cons p es ih =>
    intro i j v h
    obtain ⟨x, u⟩ := p
    simp only [findEntry] at h
    split at h
    · rename_i he
      cases h
      exact ⟨Nat.le_refl _, x, by simp, he⟩
    · obtain ⟨h1, y, h2, h3⟩ := ih (i + 1) j v h
      refine ⟨by omega, y, ?_, h3⟩
      have : j - i = (j - (i + 1)) + 1 := by omega
      rw [this]
      simpa using h2

theorem sameBits_leaf {d : Nat} {t : Option TypeDesc} {a b : Value} (ha : fitLeaf t a = true) (hb : fitLeaf t b = true) (h : eqLeaf a b = true) : Instr.sameBits (d + 1) b a = true := by
  cases t with
  | none => simp [fitLeaf] at ha
  | some t =>
    cases t <;> simp [fitLeaf] at ha <;> cases a <;> simp [fitLeaf] at ha <;> cases b <;> simp [fitLeaf] at hb <;> simp [eqLeaf] at h
    · simp [Instr.sameBits, h]
    · have e1 := beq_kind (show (_ == _) = true by simpa using ha)
      have e2 := beq_kind (show (_ == _) = true by simpa using hb)
      subst e1 e2
      simp [Instr.sameBits, h]

theorem sameBits_key {d : Nat} {kt : TypeId} {a b : Value} (hT : keyT P kt = true) (ha : keyFits P kt a = true) (hb : keyFits P kt b = true) (h : eqKey a b = true) : Instr.sameBits (d + 2) b a = true := by
  rcases keyT_spec hT with hp | ⟨fields, hu, _, _⟩
  · obtain ⟨a1, a2⟩ := fits_leaf hp ha
    obtain ⟨b1, _⟩ := fits_leaf hp hb
    rw [eqKey_leaf a2] at h
    exact sameBits_leaf a1 b1 h
  · obtain ⟨l, rfl, h1⟩ := fits_struct hu ha
    obtain ⟨m, rfl, h2⟩ := fits_struct hu hb
    simp only [eqKey] at h
    have key : ∀ (fs : List Field) (l m : List Value), fitLeaves P fs l = true → fitLeaves P fs m = true → eqLeaves l m = true → m.length = l.length ∧ (m.zip l).all (fun p => Instr.sameBits (d + 1) p.1 p.2) = true := by
      intro fs
      induction fs with
      | nil => intro l m h1 h2 _; cases l with | nil => (cases m with | nil => exact ⟨rfl, rfl⟩ | cons => cases h2) | cons => cases h1
      | cons f fs ih =>
        intro l m h1 h2 h
        cases l with
        | nil => cases h1
        | cons x l =>
          cases m with
          | nil => cases h2
          | cons y m =>
            simp only [fitLeaves, Bool.and_eq_true] at h1 h2
            simp only [eqLeaves, Bool.and_eq_true] at h
            obtain ⟨i1, i2⟩ := ih l m h1.2 h2.2 h.2
            exact ⟨by simp [i1], by simp only [List.zip_cons_cons, List.all_cons, Bool.and_eq_true]; exact ⟨sameBits_leaf h1.1 h2.1 h.1, i2⟩⟩
    obtain ⟨k1, k2⟩ := key _ l m h1 h2 h
    simp [Instr.sameBits, k1]
    intro a b hab
    exact List.all_eq_true.1 k2 (a, b) hab

/-- The real map behind a clean one. -/
theorem map_at {h : List Blk} {r : Nat} {kt : TypeId} {es : List (Value × Value)} {N : Nat} (hr : h[r]? = some (.map kt es)) (hR : Rel P D β κ base N (toF h) w) :
    ∃ arr clock, w.heap[(β r).1]? = some (.map arr clock) ∧ arr.toList.map kvOf = es ∧ (∀ e ∈ arr.toList, keyFits P kt e.key = true) ∧ (∀ p ∈ es, keyFits P kt p.1 = true ∧ flat1 p.2 = true) ∧ Stamped arr clock := by
  have hB := hR.blk r
  rw [toF_some hr] at hB
  obtain ⟨arr, clock, h1, h2, h3, h4⟩ := hB
  refine ⟨arr, clock, h1, h2, fun e he => ?_, h3, h4⟩
  exact (h3 (kvOf e) (by rw [← h2]; exact List.mem_map.2 ⟨e, he, rfl⟩)).1

theorem flat_of_flat1 {v : Value} (h : flat1 v = true) : isFlat v = true := by
  cases v <;> simp_all [flat1, isFlat, leafFlat]

theorem lookup_sim {h : List Blk} {t : TypeId} {m m' k k' v : Value} {ok : Bool} {N : Nat} (hl : cLookup P h t m k ok = some v) (hR : Rel P D β κ base N (toF h) w) (hm : VR D β κ m m') (hk : VR D β κ k k') (hkf : ∀ kt, keyFits P kt k = true → k' = k) :
    ∃ v', (Instr.lookup t m' k' ok).run P w = .ok v' w ∧ VR D β κ v v' := by
  unfold cLookup at hl
  split at hl
  · rename_i kt et r hu
    cases hm with
    | map _ hi =>
    split at hl
    · rename_i kt' es hr
      split at hl
      · rename_i hc
        obtain ⟨rfl, hT, hf⟩ := hc
        rw [hkf _ hf]
        obtain ⟨arr, clock, h1, h2, h3, h4, _⟩ := map_at hr hR
        have hfind := find_sim hT hf arr.toList h3 w
        rw [h2] at hfind
        have hchk : ∀ b, (Instr.checkKey b 10000 kt' k).run P w = .ok () w := fun b => key_check (d := 9998) hT hf w
        have hget : (getObj (β r).1).run P w = .ok (.map arr clock) w := by simp [getObj, Sem.run, h1]
        split at hl
        · rename_i i u hfe
          cases hl
          rw [hfe] at hfind
          obtain ⟨_, x, hx, _⟩ := findEntry_spec es 0 i u hfe
          have hfl := flat_of_flat1 (h4 (x, u) (List.mem_of_getElem? hx)).2
          refine ⟨if ok then .tuple #[u, .bool true] else u, ?_, ?_⟩
          · simp [Instr.lookup, run_und hu, hget, hchk, hfind]
          · split
            · exact .tuple [u, .bool true] [u, .bool true] rfl (LR.cons (.of_flat hfl) (LR.cons (.bool _) .nil)).at_
            · exact .of_flat hfl
        · rename_i hfe
          rw [hfe] at hfind
          split at hl
          · rename_i z hz
            split at hl
            · rename_i hzf
              cases hl
              refine ⟨if ok then .tuple #[z, .bool false] else z, ?_, ?_⟩
              · simp [Instr.lookup, run_und hu, hget, hchk, hfind, run_zero hz]
              · split
                · exact .tuple [z, .bool false] [z, .bool false] rfl (LR.cons (.of_flat hzf) (LR.cons (.bool _) .nil)).at_
                · exact .of_flat hzf
            · cases hl
          · cases hl
      · cases hl
    · cases hl
  · cases hl

/-- A map's block is written. -/
theorem QOut.put {r : Nat} {b : Blk} {o o0 : Obj} {v v' : Value} (hR : Rel P D β κ base N H w) (hb : base ≤ r) (hrn : r < n) (ha : H r ≠ .dead) (h0 : w.heap[(β r).1]? = some o0)
    (hB : ∀ w' : World, w'.heap[(β r).1]? = some o → BR P (fun i => D i ∨ InNew n 0 i) β κ r b w' ∧ OwnB P β κ r b w') (hv : VR D β κ v v') :
    QOut P D β κ base N n w { val := v, upd := some (r, b) } v' { w with heap := w.heap.setIfInBounds (β r).1 o } β κ := by
  have hlt : (β r).1 < w.heap.size := (Array.getElem?_eq_some_iff.1 h0).1
  have hnew : (w.heap.setIfInBounds (β r).1 o)[(β r).1]? = some o := by simp [hlt]
  have hother : ∀ k, k ≠ (β r).1 → (w.heap.setIfInBounds (β r).1 o)[k]? = w.heap[k]? := fun k hk => by
    rw [Array.getElem?_setIfInBounds, if_neg (fun e => hk e.symm)]
  exact {
    ext := fun _ _ => ⟨rfl, rfl⟩
    val := hv.mono (fun _ h => .inl h) Ext.refl
    below := ⟨rfl, rfl, rfl, by simp, fun k hk => hother k (by have := (hR.own r ha hb).1; omega)⟩
    keep := fun B _ hu => hother B (hu r b rfl)
    new := fun j b h => by simp at h
    inj := fun i j b c h => by simp at h
    upd := fun k c h => by
      simp only [Option.some.injEq, Prod.mk.injEq] at h
      obtain ⟨rfl, rfl⟩ := h
      exact ⟨hb, hrn, hB _ hnew⟩ }

theorem mapUpdate_sim {h : List Blk} {t : TypeId} {m m' k k' x x' : Value} {q : QRes} (hs : cMapUpdate P base h t m k x = some q) (hR : Rel P D β κ base N (toF h) w)
    (hm : VR D β κ m m') (hkf : ∀ kt, keyFits P kt k = true → k' = k) (hx : VR D β κ x x') (hn : h.length ≤ n) :
    ∃ w', (Instr.mapUpdate t m' k' x').run P w = .ok () w' ∧ QOut P D β κ base N n w q undef w' β κ := by
  unfold cMapUpdate at hs
  split at hs
  · rename_i kt et r hu
    cases hm with
    | map _ hi =>
    split at hs
    · rename_i kt' es hr
      split at hs
      · rename_i hc
        obtain ⟨hb, hxf, rfl, hT, hf⟩ := hc
        rw [hkf _ hf, hx.flat1 hxf]
        obtain ⟨arr, clock, h1, h2, h3, h4, h5⟩ := map_at hr hR
        have hfind := find_sim hT hf arr.toList h3 w
        rw [h2] at hfind
        have hchk : (Instr.checkKey false 10000 kt' k).run P w = .ok () w := key_check (d := 9998) hT hf w
        have hget : (getObj (β r).1).run P w = .ok (.map arr clock) w := by simp [getObj, Sem.run, h1]
        have hset : ∀ o, (setObj (β r).1 o).run P w = .ok () { w with heap := w.heap.setIfInBounds (β r).1 o } := fun o => by simp [setObj, Sem.run, h1]
        have hrl : r < h.length := (List.getElem?_eq_some_iff.1 hr).1
        have halive : toF h r ≠ .dead := by rw [toF_some hr]; simp
        split at hs
        · rename_i i u hfe
          cases hs
          rw [hfe] at hfind
          obtain ⟨_, y, hy, hyk⟩ := findEntry_spec es 0 i u hfe
          simp only [Nat.sub_zero] at hy
          have hil : i < arr.size := by
            have := (List.getElem?_eq_some_iff.1 hy).1
            rw [← h2] at this
            simpa using this
          have hkey : arr[i].key = y := by
            rw [← h2, List.getElem?_map] at hy
            simp [hil] at hy
            exact (congrArg Prod.fst hy)
          have hstay : (Instr.keyThatStays arr[i].key k).run P w = .ok k w := by
            have := sameBits_key (d := 9998) hT hf (h4 (y, u) (List.mem_of_getElem? hy)).1 hyk
            rw [← hkey] at this
            simp [Instr.keyThatStays, this]
          refine ⟨_, ?_, QOut.put (o := .map (arr.modify i fun e => { e with key := k, val := x }) clock) hR hb (by omega) halive h1 (fun w' hw' => ⟨⟨_, clock, hw', ?_, ?_, ?_⟩, trivial⟩) VR.undef⟩
          · simp [Instr.mapUpdate, run_und hu, hget, hchk, hfind, hil, hstay, hset]
          · rw [← h2]
            apply List.ext_getElem?
            intro j
            simp only [Array.toList_modify, List.getElem?_map, List.getElem?_modify, List.getElem?_set]
            by_cases hj : i = j
            · subst hj
              simp [hil]
            · simp only [hj, if_false]
              cases arr.toList[j]? <;> rfl
          · intro p hp
            rcases List.mem_or_eq_of_mem_set hp with hp | rfl
            · exact h4 p hp
            · exact ⟨hf, hxf⟩
          · refine ⟨fun e he => ?_, ?_⟩
            · obtain ⟨j, hj⟩ := List.mem_iff_getElem?.1 he
              simp only [Array.toList_modify, List.getElem?_modify] at hj
              cases hj2 : arr.toList[j]? with
              | none => rw [hj2] at hj; simp at hj
              | some e2 =>
                rw [hj2] at hj
                simp at hj
                have := h5.1 e2 (List.mem_of_getElem? hj2)
                rw [← hj]
                split <;> simpa using this
            · have : (arr.modify i fun e => { e with key := k, val := x }).toList.map (·.born) = arr.toList.map (·.born) := by
                apply List.ext_getElem?
                intro j
                simp only [Array.toList_modify, List.getElem?_map, List.getElem?_modify]
                cases arr.toList[j]? with
                | none => simp
                | some e => simp; split <;> rfl
              rw [this]
              exact h5.2
        · rename_i hfe
          cases hs
          rw [hfe] at hfind
          refine ⟨_, ?_, QOut.put (o := .map (arr.push { key := k, val := x, born := clock }) (clock + 1)) hR hb (by omega) halive h1 (fun w' hw' => ⟨⟨_, clock + 1, hw', ?_, ?_, ?_⟩, trivial⟩) VR.undef⟩
          · simp [Instr.mapUpdate, run_und hu, hget, hchk, hfind, hset]
          · simp [← h2, kvOf]
          · intro p hp
            rcases List.mem_append.1 hp with hp | hp
            · exact h4 p hp
            · simp at hp; subst hp; exact ⟨hf, hxf⟩
          · refine ⟨fun e he => ?_, ?_⟩
            · simp at he
              rcases he with he | rfl
              · have := h5.1 e (by simpa using he); omega
              · simp
            · simp only [Array.toList_push, List.map_append, List.map_cons, List.map_nil]
              rw [List.nodup_append]
              refine ⟨h5.2, by simp, fun a ha b hb e => ?_⟩
              simp at hb
              obtain ⟨z, hz, rfl⟩ := List.mem_map.1 ha
              have := h5.1 z hz
              omega
      · cases hs
    · cases hs
  · cases hs
end
end Go.Cl
