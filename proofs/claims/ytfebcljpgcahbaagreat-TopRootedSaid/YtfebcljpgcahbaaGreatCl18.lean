/- The framework, Cl10 to Cl18. -/
import Derived.Test.YtfebcljpgcahbaaGreatCl9
import Derived.RangeFuncRecord
import Derived.TacticsIn
import Derived.LoopNIn
/- Operations, one by one: maps, make. -/
namespace Go.Cl
open Go Go.RowKit
set_option linter.unusedSimpArgs false
set_option linter.unusedVariables false

section
variable {P : Program} {w : World} {D : Nat → Prop} {β : Nat → Nat × Nat} {κ : Nat → Nat} {base n : Nat} {N : Kp} {H : Nat → Blk}

def kvOf (e : MapEntry) : Value × Value := (e.key, e.val)

theorem findNow_spec {kt : TypeId} {k : Value} {d : TypeDesc} (hu : P.underlying kt = some d) (hp : isPlainKey (some d) = true) (hk : keyFits P kt k = true) :
    ∀ (es : List MapEntry) (i : Nat), (∀ e ∈ es, keyFits P kt e.key = true) → Instr.findNow d k es i = some (findEntry k (es.map kvOf) i) := by
  intro es
  obtain ⟨hk1, hk2⟩ := fits_leaf (by rw [hu]; exact hp) hk
  induction es with
  | nil => intro i _; rfl
  | cons e es ih =>
    intro i he
    obtain ⟨he1, he2⟩ := fits_leaf (by rw [hu]; exact hp) (he e (by simp))
    have hs : Instr.sameNow d k e.key = some (eqKey k e.key) := by
      rw [eqKey_leaf hk2]
      rw [hu] at hk1 he1
      generalize e.key = z at *
      cases d <;> simp [isPlainKey] at hp <;> cases k <;> simp [fitLeaf] at hk1 <;> cases z <;> simp [fitLeaf] at he1
      · simp [Instr.sameNow, eqLeaf]
      · have e1 := beq_kind (show (_ == _) = true by simpa using hk1)
        have e2 := beq_kind (show (_ == _) = true by simpa using he1)
        subst e1 e2
        simp [Instr.sameNow, eqLeaf]
    simp only [Instr.findNow, hs, List.map_cons, kvOf, findEntry]
    cases eqKey k e.key with
    | true => simp
    | false => simpa [kvOf] using ih (i + 1) (fun e' h => he e' (by simp [h]))

theorem findAsking_spec {kt : TypeId} {k : Value} (hT : keyT P kt = true) (hk : keyFits P kt k = true) (w : World) :
    ∀ (es : List MapEntry) (i : Nat), (∀ e ∈ es, keyFits P kt e.key = true) → (Instr.findAsking kt k es i).run P w = .ok (findEntry k (es.map kvOf) i) w := by
  intro es
  induction es with
  | nil => intro i _; simp [Instr.findAsking, findEntry]
  | cons e es ih =>
    intro i he
    have hq : (Op.equal kt k e.key).run P w = .ok (eqKey k e.key) w := key_equal (d := 9998) hT hk (he e (by simp)) w
    simp only [Instr.findAsking, Sem.run_bind, hq, Result.andThen_ok, List.map_cons, findEntry, kvOf]
    cases eqKey k e.key with
    | true => simp
    | false => simpa [kvOf] using ih (i + 1) (fun e' h => he e' (by simp [h]))

theorem find_sim {kt : TypeId} {k : Value} (hT : keyT P kt = true) (hk : keyFits P kt k = true) (es : List MapEntry) (he : ∀ e ∈ es, keyFits P kt e.key = true) (w : World) :
    (Instr.findKey kt k es).run P w = .ok (findEntry k (es.map kvOf) 0) w := by
  rcases keyT_spec hT with hp | ⟨fields, hu, _, _⟩
  · cases hu : P.underlying kt with
    | none => rw [hu] at hp; cases hp
    | some d =>
      rw [hu] at hp
      simp [Instr.findKey, run_und hu, findNow_spec hu hp hk es 0 he]
  · have hA := findAsking_spec hT hk w es 0 he
    cases es with
    | nil => simp [Instr.findKey, run_und hu, Instr.findNow, findEntry]
    | cons e es =>
      have : Instr.sameNow (.struct fields) k e.key = none := by unfold Instr.sameNow; split <;> simp_all
      simp only [Instr.findKey, Sem.run_bind, run_und hu, Result.andThen_ok, Instr.findNow, this]
      exact hA

theorem findEntry_spec {k : Value} : ∀ (es : List (Value × Value)) (i j : Nat) (v : Value), findEntry k es i = some (j, v) → i ≤ j ∧ ∃ x, es[j - i]? = some (x, v) ∧ eqKey k x = true := by
  intro es
  induction es with
  | nil => intro i j v h; cases h
  | cons p es ih =>
    intro i j v h
    obtain ⟨x, u⟩ := p
    simp only [findEntry] at h
    split at h
    · rename_i he
      cases h
      exact ⟨Nat.le_refl _, x, by simp, he⟩
    · obtain ⟨h1, y, h2, h3⟩ := ih (i + 1) j v h
      refine ⟨by omega, y, ?_, h3⟩
      have : j - i = (j - (i + 1)) + 1 := by omega
      rw [this]
      simpa using h2

theorem sameBits_leaf {d : Nat} {t : Option TypeDesc} {a b : Value} (ha : fitLeaf t a = true) (hb : fitLeaf t b = true) (h : eqLeaf a b = true) : Instr.sameBits (d + 1) b a = true := by
  cases t with
  | none => simp [fitLeaf] at ha
  | some t =>
    cases t <;> simp [fitLeaf] at ha <;> cases a <;> simp [fitLeaf] at ha <;> cases b <;> simp [fitLeaf] at hb <;> simp [eqLeaf] at h
    · simp [Instr.sameBits, h]
    · have e1 := beq_kind (show (_ == _) = true by simpa using ha)
      have e2 := beq_kind (show (_ == _) = true by simpa using hb)
      subst e1 e2
      simp [Instr.sameBits, h]

theorem sameBits_key {d : Nat} {kt : TypeId} {a b : Value} (hT : keyT P kt = true) (ha : keyFits P kt a = true) (hb : keyFits P kt b = true) (h : eqKey a b = true) : Instr.sameBits (d + 2) b a = true := by
  rcases keyT_spec hT with hp | ⟨fields, hu, _, _⟩
  · obtain ⟨a1, a2⟩ := fits_leaf hp ha
    obtain ⟨b1, _⟩ := fits_leaf hp hb
    rw [eqKey_leaf a2] at h
    exact sameBits_leaf a1 b1 h
  · obtain ⟨l, rfl, h1⟩ := fits_struct hu ha
    obtain ⟨m, rfl, h2⟩ := fits_struct hu hb
    simp only [eqKey] at h
    have key : ∀ (fs : List Field) (l m : List Value), fitLeaves P fs l = true → fitLeaves P fs m = true → eqLeaves l m = true → m.length = l.length ∧ (m.zip l).all (fun p => Instr.sameBits (d + 1) p.1 p.2) = true := by
      intro fs
      induction fs with
      | nil => intro l m h1 h2 _; cases l with | nil => (cases m with | nil => exact ⟨rfl, rfl⟩ | cons => cases h2) | cons => cases h1
      | cons f fs ih =>
        intro l m h1 h2 h
        cases l with
        | nil => cases h1
        | cons x l =>
          cases m with
          | nil => cases h2
          | cons y m =>
            simp only [fitLeaves, Bool.and_eq_true] at h1 h2
            simp only [eqLeaves, Bool.and_eq_true] at h
            obtain ⟨i1, i2⟩ := ih l m h1.2 h2.2 h.2
            exact ⟨by simp [i1], by simp only [List.zip_cons_cons, List.all_cons, Bool.and_eq_true]; exact ⟨sameBits_leaf h1.1 h2.1 h.1, i2⟩⟩
    obtain ⟨k1, k2⟩ := key _ l m h1 h2 h
    simp [Instr.sameBits, k1]
    intro a b hab
    exact List.all_eq_true.1 k2 (a, b) hab

/-- The real map behind a clean one. -/
theorem map_at {h : List Blk} {r : Nat} {kt : TypeId} {es : List (Value × Value)} {N : Kp} (hr : h[r]? = some (.map kt es)) (hR : Rel P D β κ base N (toF h) w) :
    ∃ arr clock, w.heap[(β r).1]? = some (.map arr clock) ∧ arr.toList.map kvOf = es ∧ (∀ e ∈ arr.toList, keyFits P kt e.key = true) ∧ (∀ p ∈ es, keyFits P kt p.1 = true ∧ flat1 p.2 = true) ∧ Stamped arr clock := by
  have hB := hR.blk r
  rw [toF_some hr] at hB
  obtain ⟨arr, clock, h1, h2, h3, h4⟩ := hB
  refine ⟨arr, clock, h1, h2, fun e he => ?_, h3, h4⟩
  exact (h3 (kvOf e) (by rw [← h2]; exact List.mem_map.2 ⟨e, he, rfl⟩)).1

theorem flat_of_flat1 {v : Value} (h : flat1 v = true) : isFlat v = true := by
  cases v <;> simp_all [flat1, isFlat, leafFlat]

theorem lookup_sim {h : List Blk} {t : TypeId} {m m' k k' v : Value} {ok : Bool} {N : Kp} (hl : cLookup P h t m k ok = some v) (hR : Rel P D β κ base N (toF h) w) (hm : VR D β κ m m') (hk : VR D β κ k k') (hkf : ∀ kt, keyFits P kt k = true → k' = k) :
    ∃ v', (Instr.lookup t m' k' ok).run P w = .ok v' w ∧ VR D β κ v v' := by
  unfold cLookup at hl
  split at hl
  · rename_i kt et r hu
    cases hm with
    | map _ hi =>
    split at hl
    · rename_i kt' es hr
      split at hl
      · rename_i hc
        obtain ⟨rfl, hT, hf⟩ := hc
        rw [hkf _ hf]
        obtain ⟨arr, clock, h1, h2, h3, h4, _⟩ := map_at hr hR
        have hfind := find_sim hT hf arr.toList h3 w
        rw [h2] at hfind
        have hchk : ∀ b, (Instr.checkKey b 10000 kt' k).run P w = .ok () w := fun b => key_check (d := 9998) hT hf w
        have hget : (getObj (β r).1).run P w = .ok (.map arr clock) w := by simp [getObj, Sem.run, h1]
        split at hl
        · rename_i i u hfe
          cases hl
          rw [hfe] at hfind
          obtain ⟨_, x, hx, _⟩ := findEntry_spec es 0 i u hfe
          have hfl := flat_of_flat1 (h4 (x, u) (List.mem_of_getElem? hx)).2
          refine ⟨if ok then .tuple #[u, .bool true] else u, ?_, ?_⟩
          · simp [Instr.lookup, run_und hu, hget, hchk, hfind]
          · split
            · exact .tuple [u, .bool true] [u, .bool true] rfl (LR.cons (.of_flat hfl) (LR.cons (.bool _) .nil)).at_
            · exact .of_flat hfl
        · rename_i hfe
          rw [hfe] at hfind
          split at hl
          · rename_i z hz
            split at hl
            · rename_i hzf
              cases hl
              refine ⟨if ok then .tuple #[z, .bool false] else z, ?_, ?_⟩
              · simp [Instr.lookup, run_und hu, hget, hchk, hfind, run_zero hz]
              · split
                · exact .tuple [z, .bool false] [z, .bool false] rfl (LR.cons (.of_flat hzf) (LR.cons (.bool _) .nil)).at_
                · exact .of_flat hzf
            · cases hl
          · cases hl
      · cases hl
    · cases hl
  · cases hl

/-- A map's block is written. -/
theorem QOut.put {r : Nat} {b : Blk} {o o0 : Obj} {v v' : Value} (hR : Rel P D β κ base N H w) (hb : base ≤ r) (hrn : r < n) (ha : H r ≠ .dead) (h0 : w.heap[(β r).1]? = some o0)
    (hB : ∀ w' : World, w'.heap[(β r).1]? = some o → BR P (fun i => D i ∨ InNew n 0 i) β κ r b w' ∧ OwnB P β κ r b w') (hv : VR D β κ v v') :
    QOut P D β κ base N n w { val := v, upd := some (r, b) } v' { w with heap := w.heap.setIfInBounds (β r).1 o } β κ := by
  have hlt : (β r).1 < w.heap.size := (Array.getElem?_eq_some_iff.1 h0).1
  have hnew : (w.heap.setIfInBounds (β r).1 o)[(β r).1]? = some o := by simp [hlt]
  have hother : ∀ k, k ≠ (β r).1 → (w.heap.setIfInBounds (β r).1 o)[k]? = w.heap[k]? := fun k hk => by
    rw [Array.getElem?_setIfInBounds, if_neg (fun e => hk e.symm)]
  exact {
    ext := fun _ _ => ⟨rfl, rfl⟩
    val := hv.mono (fun _ h => .inl h) Ext.refl
    below := ⟨rfl, rfl, rfl, by simp, fun k hk => hother k (Kp.ne hk (hR.own r ha hb).1)⟩
    keep := fun B _ hu => hother B (hu r b rfl)
    new := fun j b h => by simp at h
    inj := fun i j b c h => by simp at h
    upd := fun k c h => by
      simp only [Option.some.injEq, Prod.mk.injEq] at h
      obtain ⟨rfl, rfl⟩ := h
      exact ⟨hb, hrn, hB _ hnew⟩ }

theorem mapUpdate_sim {h : List Blk} {t : TypeId} {m m' k k' x x' : Value} {q : QRes} (hs : cMapUpdate P base h t m k x = some q) (hR : Rel P D β κ base N (toF h) w)
    (hm : VR D β κ m m') (hkf : ∀ kt, keyFits P kt k = true → k' = k) (hx : VR D β κ x x') (hn : h.length ≤ n) :
    ∃ w', (Instr.mapUpdate t m' k' x').run P w = .ok () w' ∧ QOut P D β κ base N n w q undef w' β κ := by
  unfold cMapUpdate at hs
  split at hs
  · rename_i kt et r hu
    cases hm with
    | map _ hi =>
    split at hs
    · rename_i kt' es hr
      split at hs
      · rename_i hc
        obtain ⟨hb, hxf, rfl, hT, hf⟩ := hc
        rw [hkf _ hf, hx.flat1 hxf]
        obtain ⟨arr, clock, h1, h2, h3, h4, h5⟩ := map_at hr hR
        have hfind := find_sim hT hf arr.toList h3 w
        rw [h2] at hfind
        have hchk : (Instr.checkKey false 10000 kt' k).run P w = .ok () w := key_check (d := 9998) hT hf w
        have hget : (getObj (β r).1).run P w = .ok (.map arr clock) w := by simp [getObj, Sem.run, h1]
        have hset : ∀ o, (setObj (β r).1 o).run P w = .ok () { w with heap := w.heap.setIfInBounds (β r).1 o } := fun o => by simp [setObj, Sem.run, h1]
        have hrl : r < h.length := (List.getElem?_eq_some_iff.1 hr).1
        have halive : toF h r ≠ .dead := by rw [toF_some hr]; simp
        split at hs
        · rename_i i u hfe
          cases hs
          rw [hfe] at hfind
          obtain ⟨_, y, hy, hyk⟩ := findEntry_spec es 0 i u hfe
          simp only [Nat.sub_zero] at hy
          have hil : i < arr.size := by
            have := (List.getElem?_eq_some_iff.1 hy).1
            rw [← h2] at this
            simpa using this
          have hkey : arr[i].key = y := by
            rw [← h2, List.getElem?_map] at hy
            simp [hil] at hy
            exact (congrArg Prod.fst hy)
          have hstay : (Instr.keyThatStays arr[i].key k).run P w = .ok k w := by
            have := sameBits_key (d := 9998) hT hf (h4 (y, u) (List.mem_of_getElem? hy)).1 hyk
            rw [← hkey] at this
            simp [Instr.keyThatStays, this]
          refine ⟨_, ?_, QOut.put (o := .map (arr.modify i fun e => { e with key := k, val := x }) clock) hR hb (by omega) halive h1 (fun w' hw' => ⟨⟨_, clock, hw', ?_, ?_, ?_⟩, trivial⟩) VR.undef⟩
          · simp [Instr.mapUpdate, run_und hu, hget, hchk, hfind, hil, hstay, hset]
          · rw [← h2]
            apply List.ext_getElem?
            intro j
            simp only [Array.toList_modify, List.getElem?_map, List.getElem?_modify, List.getElem?_set]
            by_cases hj : i = j
            · subst hj
              simp [hil]
            · simp only [hj, if_false]
              cases arr.toList[j]? <;> rfl
          · intro p hp
            rcases List.mem_or_eq_of_mem_set hp with hp | rfl
            · exact h4 p hp
            · exact ⟨hf, hxf⟩
          · refine ⟨fun e he => ?_, ?_⟩
            · obtain ⟨j, hj⟩ := List.mem_iff_getElem?.1 he
              simp only [Array.toList_modify, List.getElem?_modify] at hj
              cases hj2 : arr.toList[j]? with
              | none => rw [hj2] at hj; simp at hj
              | some e2 =>
                rw [hj2] at hj
                simp at hj
                have := h5.1 e2 (List.mem_of_getElem? hj2)
                rw [← hj]
                split <;> simpa using this
            · have : (arr.modify i fun e => { e with key := k, val := x }).toList.map (·.born) = arr.toList.map (·.born) := by
                apply List.ext_getElem?
                intro j
                simp only [Array.toList_modify, List.getElem?_map, List.getElem?_modify]
                cases arr.toList[j]? with
                | none => simp
                | some e => simp; split <;> rfl
              rw [this]
              exact h5.2
        · rename_i hfe
          cases hs
          rw [hfe] at hfind
          refine ⟨_, ?_, QOut.put (o := .map (arr.push { key := k, val := x, born := clock }) (clock + 1)) hR hb (by omega) halive h1 (fun w' hw' => ⟨⟨_, clock + 1, hw', ?_, ?_, ?_⟩, trivial⟩) VR.undef⟩
          · simp [Instr.mapUpdate, run_und hu, hget, hchk, hfind, hset]
          · simp [← h2, kvOf]
          · intro p hp
            rcases List.mem_append.1 hp with hp | hp
            · exact h4 p hp
            · simp at hp; subst hp; exact ⟨hf, hxf⟩
          · refine ⟨fun e he => ?_, ?_⟩
            · simp at he
              rcases he with he | rfl
              · have := h5.1 e (by simpa using he); omega
              · simp
            · simp only [Array.toList_push, List.map_append, List.map_cons, List.map_nil]
              rw [List.nodup_append]
              refine ⟨h5.2, by simp, fun a ha b hb e => ?_⟩
              simp at hb
              obtain ⟨z, hz, rfl⟩ := List.mem_map.1 ha
              have := h5.1 z hz
              omega
      · cases hs
    · cases hs
  · cases hs
end
end Go.Cl
/- Operations, one by one: the rest of the quiet ones. -/
set_option linter.unusedSimpArgs false
set_option linter.unusedVariables false
namespace Go.Cl
open Go Go.RowKit

section
variable {P : Program} {w : World} {D : Nat → Prop} {β : Nat → Nat × Nat} {κ : Nat → Nat} {base n : Nat} {N : Kp} {H : Nat → Blk}

theorem leaf_of_fit {d : Option TypeDesc} {v : Value} (h : fitLeaf d v = true) : leafFlat v = true := by
  unfold fitLeaf at h
  split at h <;> first | rfl | cases h
theorem leaves_of_fit : ∀ (fs : List Field) (l : List Value), fitLeaves P fs l = true → l.all leafFlat = true
  | [], [], _ => rfl
  | [], _ :: _, h => by simp [fitLeaves] at h
  | _ :: _, [], h => by simp [fitLeaves] at h
  | f :: fs, v :: vs, h => by
    simp only [fitLeaves, Bool.and_eq_true] at h
    simp only [List.all_cons, leaf_of_fit h.1, leaves_of_fit fs vs h.2, Bool.and_true]
theorem flat_of_fits {kt : TypeId} {k : Value} (h : keyFits P kt k = true) : flat1 k = true := by
  unfold keyFits at h
  split at h
  · exact leaves_of_fit _ _ h
  · cases h
  · have := leaf_of_fit h
    unfold flat1
    split
    · simp [leafFlat] at this
    · exact this
theorem key_same {k k' : Value} (hk : VR D β κ k k') (kt : TypeId) (h : keyFits P kt k = true) : k' = k := hk.flat1 (flat_of_fits h)

theorem map_eraseIdx {α γ : Type} (f : α → γ) : ∀ (l : List α) (i : Nat), (l.eraseIdx i).map f = (l.map f).eraseIdx i
  | [], _ => rfl
  | x :: l, 0 => rfl
  | x :: l, i + 1 => by simp [map_eraseIdx f l i]

theorem delete_sim {h : List Blk} {ts : Array TypeId} {ty : TypeId} {m m' k k' : Value} {q : QRes} (hs : ((ts[0]?).bind fun t => cDelete P base h t m k) = some q) (hR : Rel P D β κ base N (toF h) w)
    (hm : VR D β κ m m') (hk : VR D β κ k k') (hn : h.length ≤ n) :
    ∃ v' w', (Builtin.delete_ ts ty #[m', k']).run P w = .ok v' w' ∧ QOut P D β κ base N n w q v' w' β κ := by
  cases hts : ts[0]? with
  | none => rw [hts] at hs; cases hs
  | some t =>
  rw [hts] at hs
  simp only [Option.bind_some] at hs
  unfold cDelete at hs
  split at hs
  · rename_i kt et r hu
    cases hm with
    | map _ hi =>
    split at hs
    · rename_i kt' es hr
      split at hs
      · rename_i hc
        obtain ⟨hb, rfl, hT, hf⟩ := hc
        rw [key_same hk _ hf]
        obtain ⟨arr, clock, h1, h2, h3, h4, h5⟩ := map_at hr hR
        have hfind := find_sim hT hf arr.toList h3 w
        rw [h2] at hfind
        have hchk : ∀ b, (Instr.checkKey b 10000 kt' k).run P w = .ok () w := fun b => key_check (d := 9998) hT hf w
        have hget : (getObj (β r).1).run P w = .ok (.map arr clock) w := by simp [getObj, Sem.run, h1]
        have hset : ∀ o, (setObj (β r).1 o).run P w = .ok () { w with heap := w.heap.setIfInBounds (β r).1 o } := fun o => by simp [setObj, Sem.run, h1]
        have hrl : r < h.length := (List.getElem?_eq_some_iff.1 hr).1
        have halive : toF h r ≠ .dead := by rw [toF_some hr]; simp
        split at hs
        · rename_i i u hfe
          cases hs
          rw [hfe] at hfind
          have hl : (arr.eraseIdxIfInBounds i).toList = arr.toList.eraseIdx i := by
            unfold Array.eraseIdxIfInBounds
            split
            · simp
            · rename_i hi
              rw [List.eraseIdx_of_length_le]
              simpa using hi
          refine ⟨_, _, ?_, QOut.put (o := .map (arr.eraseIdxIfInBounds i) clock) hR hb (by omega) halive h1 (fun w' hw' => ⟨⟨_, clock, hw', ?_, ?_, ?_⟩, trivial⟩) VR.undef⟩
          · simp [Builtin.delete_, hts, run_und hu, hget, hchk, hfind, hset, undef]
          · rw [hl, ← h2]
            exact map_eraseIdx _ _ _
          · intro p hp
            exact h4 p (List.mem_of_mem_eraseIdx hp)
          · refine ⟨fun e he => ?_, ?_⟩
            · rw [hl] at he; exact h5.1 e (List.mem_of_mem_eraseIdx he)
            · rw [hl, map_eraseIdx]
              exact List.Nodup.sublist (List.eraseIdx_sublist ..) h5.2
        · rename_i hfe
          cases hs
          rw [hfe] at hfind
          refine ⟨_, _, ?_, QOut.put (o := .map arr clock) hR hb (by omega) halive h1 (fun w' hw' => ⟨⟨_, clock, hw', h2, h4, h5⟩, trivial⟩) VR.undef⟩
          simp [Builtin.delete_, hts, run_und hu, hget, hchk, hfind, hset, undef]
      · cases hs
    · cases hs
  · cases hs

theorem len_sim {E : Env} {h : List Blk} {ts : Array TypeId} {ty : TypeId} {x x' : Value} {q : QRes} {N : Kp} (hP : E.P = P) (hs : qBuiltin E base h n .len ts ty [x] = some q) (hR : Rel P D β κ base N (toF h) w)
    (hx : VR D β κ x x') : ∃ v', (Builtin.len_ ts ty #[x']).run P w = .ok v' w ∧ VR D β κ q.val v' ∧ q = { val := q.val } := by
  unfold qBuiltin at hs
  subst hP
  cases hts : ts[0]? with
  | none => simp [hts] at hs
  | some t =>
  simp only [hts, Option.bind_some] at hs
  split at hs
  · rename_i e a k c hu
    cases hs
    have go : ∀ a' c', x' = .slice a' k c' → ∃ v', (Builtin.len_ ts ty #[x']).run E.P w = .ok v' w ∧ VR D β κ (.int .i64 k) v' ∧ (⟨.int .i64 k, [], none⟩ : QRes) = { val := .int .i64 k } := by
      rintro a' c' rfl
      exact ⟨_, by simp [Builtin.len_, hts, run_und hu, goInt], .int _ _, rfl⟩
    cases hx <;> exact go _ _ rfl
  · rename_i k e hu
    cases hs
    exact ⟨_, by simp [Builtin.len_, hts, run_und hu, goInt], .int _ _, rfl⟩
  · rename_i m0 _ _ kt et hu
    cases hm : cEntries h m0 with
    | none => rw [hm] at hs; cases hs
    | some es =>
      rw [hm] at hs
      cases hs
      unfold cEntries at hm
      split at hm
      · cases hm
        cases hx
        exact ⟨_, by simp [Builtin.len_, hts, run_und hu, goInt], .int _ _, rfl⟩
      · rename_i r
        cases hx
        split at hm
        · rename_i kt' es' hr
          cases hm
          obtain ⟨arr, clock, h1, h2, _⟩ := map_at hr hR
          have hget : (getObj (β r).1).run E.P w = .ok (.map arr clock) w := by simp [getObj, Sem.run, h1]
          have : es.length = arr.size := by rw [← h2]; simp
          refine ⟨.int .i64 arr.size, by simp [Builtin.len_, hts, run_und hu, hget, goInt], ?_, rfl⟩
          show VR D β κ (.int .i64 es.length) _
          rw [this]
          exact .int _ _
        · cases hm
      · cases hm
  · rename_i s hu
    cases hs
    cases hx
    exact ⟨_, by simp [Builtin.len_, hts, run_und hu, goInt], .int _ _, rfl⟩
  · cases hs

theorem cap_sim {E : Env} {h : List Blk} {ts : Array TypeId} {ty : TypeId} {x x' : Value} {q : QRes} (hP : E.P = P) (hs : qBuiltin E base h n .cap ts ty [x] = some q)
    (hx : VR D β κ x x') : ∃ v', (Builtin.cap_ ts ty #[x']).run P w = .ok v' w ∧ VR D β κ q.val v' ∧ q = { val := q.val } := by
  unfold qBuiltin at hs
  subst hP
  cases hts : ts[0]? with
  | none => simp [hts] at hs
  | some t =>
  simp only [hts, Option.bind_some] at hs
  split at hs
  · rename_i e a l k hu
    split at hs
    · rename_i hk
      cases hs
      cases hx with
      | snil => exact ⟨_, by simp [Builtin.cap_, hts, run_und hu, goInt], .int _ _, rfl⟩
      | slice => exact ⟨_, by simp [Builtin.cap_, hts, run_und hu, goInt], .int _ _, rfl⟩
      | sliceZ => exact ⟨_, by simp [Builtin.cap_, hts, run_und hu, goInt], .int _ _, rfl⟩
      | sliceU i o l q hi hq hk2 => simp only [UNK, INF] at *; omega
      | sliceE i o q a hq => simp only [UNK, INF] at *; omega
      | sliceA i o l C c hi hC hlc hc => simp only [UNK, INF] at *; omega
      | sliceAN i o C a hC => simp only [UNK, INF] at *; omega
    · cases hs
  · cases hs

theorem list_flat {xs xs' : List Value} (h : LR D β κ xs xs') (hf : ∀ v ∈ xs, isFlat v = true) : xs' = xs := by
  refine List.ext_getElem? fun j => ?_
  cases hv : xs[j]? with
  | none => exact List.getElem?_eq_none (h.len ▸ List.getElem?_eq_none_iff.1 hv)
  | some v =>
    obtain ⟨v', hv', hr⟩ := h.get hv
    rw [hv', hr.flat (hf v (List.mem_of_getElem? hv))]

theorem flatRun_sim {xs xs' : List Value} {s : List Value → Sem Value} {q : QRes} (h : flatRun P xs (s xs) = some q) (hx : LR D β κ xs xs') :
    ∃ v', (s xs').run P w = .ok v' w ∧ VR D β κ q.val v' ∧ q = { val := q.val } := by
  obtain ⟨hf, v, rfl, h1, h2⟩ := flatRun_spec h
  rw [list_flat hx hf]
  exact ⟨v, pureRun_run h1 w, .of_flat h2, rfl⟩

theorem clear_sim {E : Env} {h : List Blk} {ts : Array TypeId} {ty : TypeId} {x x' : Value} {q : QRes} (hP : E.P = P) (hs : qBuiltin E base h n .clear ts ty [x] = some q) (hR : Rel P D β κ base N (toF h) w)
    (hx : VR D β κ x x') (hn : h.length ≤ n) : ∃ v' w', (Builtin.clear_ ts ty #[x']).run P w = .ok v' w' ∧ QOut P D β κ base N n w q v' w' β κ := by
  unfold qBuiltin at hs
  subst hP
  split at hs <;> try (exact absurd ‹_› (by simp))
  all_goals try (rename_i heq; cases heq)
  all_goals try (rename_i heq2; cases heq2)
  · rename_i r
    cases hx with
    | map _ hi =>
    cases hts : ts[0]? with
    | none => simp [hts] at hs
    | some t =>
    simp only [hts, Option.bind_some] at hs
    split at hs
    · rename_i d kt es hu hr
      split at hs
      · rename_i hb
        cases hs
        obtain ⟨arr, clock, h1, h2, h3, h4, h5⟩ := map_at hr hR
        have hget : (getObj (β r).1).run E.P w = .ok (.map arr clock) w := by simp [getObj, Sem.run, h1]
        have hset : ∀ o, (setObj (β r).1 o).run E.P w = .ok () { w with heap := w.heap.setIfInBounds (β r).1 o } := fun o => by simp [setObj, Sem.run, h1]
        have hrl : r < h.length := (List.getElem?_eq_some_iff.1 hr).1
        have halive : toF h r ≠ .dead := by rw [toF_some hr]; simp
        refine ⟨_, _, ?_, QOut.put (o := .map #[] clock) hR hb (by omega) halive h1 (fun w' hw' => ⟨⟨#[], clock, hw', rfl, by simp, by simp [Stamped]⟩, trivial⟩) VR.undef⟩
        simp [Builtin.clear_, hts, run_und hu, hget, hset, undef]
      · cases hs
    · cases hs
  all_goals cases hs

theorem copy_sim {E : Env} {h : List Blk} {ts : Array TypeId} {ty : TypeId} {x x' y y' : Value} {q : QRes} (hP : E.P = P) (hs : qBuiltin E base h n .copy ts ty [x, y] = some q) (hR : Rel P D β κ base N (toF h) w)
    (hx : VR D β κ x x') (hy : VR D β κ y y') (hn : h.length ≤ n) : ∃ v' w', (Builtin.copy_ ts ty #[x', y']).run P w = .ok v' w' ∧ QOut P D β κ base N n w q v' w' β κ := by
  unfold qBuiltin at hs
  subst hP
  split at hs <;> try (exact absurd ‹_› (by simp))
  all_goals try (rename_i heq; cases heq)
  all_goals try (rename_i heq2; cases heq2)
  · rename_i a dn dc xb xn xc
    cases hts : ts[0]? with
    | none => simp [hts] at hs
    | some t =>
    simp only [hts, Option.bind_some] at hs
    split at hs
    · rename_i e hu
      split at hs
      · rename_i size hsz
        split at hs
        · rename_i xs hrd
          cases hst : cStoreAt base h a xs with
          | none => rw [hst] at hs; cases hs
          | some u =>
            rw [hst] at hs
            cases hs
            -- what is read
            have hsrc : ∃ b' c', y' = .slice b' xn c' := by cases hy <;> exact ⟨_, _, rfl⟩
            obtain ⟨b', c', rfl⟩ := hsrc
            obtain ⟨rs, h1, h2, h3, h4⟩ := readCells_sim hrd hR hy (fun h0 => by simp [h0])
            have hmin : Nat.min xn dn = min xn dn := rfl
            have hfc : (Builtin.firstCells size (min xn dn) (.slice b' xn c')).run E.P w = .ok rs.toArray w := by
              cases b' with
              | some a => simp [Builtin.firstCells, h3 a rfl w rfl]
              | none =>
                have : rs = [] := List.length_eq_zero_iff.1 (h2.trans (h4 rfl))
                subst this
                simp [Builtin.firstCells]
            have hlen : (Builtin.lenOf (.slice b' xn c')).run E.P w = .ok xn w := by simp [Builtin.lenOf]
            have go : ∀ (i o : Nat) (k : Nat), a = ⟨i, o, none⟩ → x' = .slice (some ⟨(β i).1, (β i).2 + o, none⟩) dn k → ∃ v' w', (Builtin.copy_ ts ty #[x', .slice b' xn c']).run E.P w = .ok v' w' ∧
                QOut E.P D β κ base N n w { val := .int .i64 (min xn dn : Nat), upd := u } v' w' β κ := by
              rintro i o k rfl rfl
              obtain ⟨w', hrun, hq⟩ := storeAt_sim hst hR h1 hn
              refine ⟨_, w', ?_, hq _ _ (.int _ _)⟩
              simp [Builtin.copy_, hts, run_und hu, hlen, hmin, run_size hsz, hfc, hrun, goInt]
            have zero : ∀ (a' : Option Addr) (k : Nat), dn = 0 → x' = .slice a' dn k → ∃ v' w', (Builtin.copy_ ts ty #[x', .slice b' xn c']).run E.P w = .ok v' w' ∧
                QOut E.P D β κ base N n w { val := .int .i64 (min xn dn : Nat), upd := u } v' w' β κ := by
              rintro a' k rfl rfl
              have : rs = [] := List.length_eq_zero_iff.1 (h2.trans (by simp))
              subst this
              have hxs : xs = [] := List.length_eq_zero_iff.1 (h1.len.trans rfl)
              subst hxs
              have hu0 : u = none := by
                unfold cStoreAt at hst
                split at hst
                · cases hst
                · simp at hst; exact hst.symm
              subst hu0
              refine ⟨_, w, ?_, QOut.same (.int _ _)⟩
              rw [Nat.min_zero] at hfc
              have hl0 : ∀ a' : Option Addr, (Builtin.lenOf (.slice a' 0 k)).run E.P w = .ok 0 w := fun a' => by simp [Builtin.lenOf]
              cases a' <;> simp [Builtin.copy_, hfc, hts, run_und hu, hlen, hl0, hmin, run_size hsz, goInt, storeCells]
            cases hx with
            | slice i o l c hi hlc hc => exact go i o _ rfl rfl
            | sliceU i o l q hi hq hk => exact go i o _ rfl rfl
            | sliceE i o q a' hq => exact zero _ _ rfl rfl
            | sliceZ i o a' => exact zero _ _ rfl rfl
            | sliceA i o l C c hi hC hlc hc => exact go i o _ rfl rfl
            | sliceAN i o C a' hC => exact zero _ _ rfl rfl
        · cases hs
      · cases hs
    · cases hs
  all_goals cases hs

theorem makeSlice_sim {t : TypeId} {l l' c c' : Value} {q : QRes} (hs : cMakeSlice P n t l c = some q) (hl : VR D β κ l l') (hc : VR D β κ c c')
    (hN : N.upto w.heap.size) (hn : ∀ i, D i → i ≠ n) :
    ∃ v' w' β' κ', (Instr.makeSlice t l' c').run P w = .ok v' w' ∧ QOut P D β κ base N n w q v' w' β' κ' := by
  unfold cMakeSlice at hs
  split at hs
  · rename_i e ln cn hu hl0 hc0
    obtain ⟨k1, rfl, rfl⟩ := cInt_sim hl0 hl
    obtain ⟨k2, rfl, rfl⟩ := cInt_sim hc0 hc
    split at hs
    · rename_i size bytes zero hsz hby hz
      split at hs
      · cases hs
      · rename_i hzf
        have hzf : flat1 zero = true := by simpa using hzf
        split at hs
        · rename_i hcond
          obtain ⟨g1, g2, g3, g4, g5⟩ := hcond
          cases hs
          have hI : INF = 9223372036854775808 := rfl
          have wl : IntKind.i64.wrap ln = ln := wrap_small g1 (by omega)
          have wc : IntKind.i64.wrap cn = cn := wrap_small (by omega) (by omega)
          have hbc : (bytes : Int) * cn ≤ (2 : Int) ^ 48 := by
            have : ((bytes : Int) + 1) * cn = bytes * cn + cn := by rw [Int.add_mul, Int.one_mul]
            omega
          have hlist : ((Array.range (cn.toNat * size)).map (zero.cells[· % zero.cells.size]!)).toList = (List.replicate cn.toNat zero.cells.toList).flatten := by
            by_cases hz0 : 0 < zero.cells.size
            · have := zeroCells_toList zero.cells cn.toNat hz0
              rw [← this, ← g5]
              rfl
            · have h0 : zero.cells.size = 0 := by omega
              have hc0 : zero.cells = #[] := Array.size_eq_zero_iff.1 h0
              rw [← g5, h0]
              simp [hc0]
          have hrow : LR D β κ (List.replicate cn.toNat zero.cells.toList).flatten (List.replicate cn.toNat zero.cells.toList).flatten := by
            refine .of_leaves ?_
            rw [List.all_eq_true]
            intro x hx
            simp only [List.mem_flatten, List.mem_replicate] at hx
            obtain ⟨l, ⟨_, rfl⟩, hx⟩ := hx
            exact List.all_eq_true.1 (flat1_cells hzf) _ hx
          obtain ⟨β', κ', hq⟩ := QOut.cells (P := P) (base := base) (t := e) (v := .slice (some ⟨n, 0, none⟩) ln.toNat cn.toNat) (v' := .slice (some ⟨w.heap.size, 0, none⟩) ln.toNat cn.toNat) hN hn hrow
            (fun β' κ' hβ _ => vr_newslice _ _ (by omega) (by omega) hβ)
          refine ⟨_, _, β', κ', ?_, hq⟩
          obtain ⟨ti, hti, hbe⟩ := run_info hby w
          have i1 : (asInt (.int k1 ln)).run P w = .ok ln w := rfl
          have i2 : (asInt (.int k2 cn)).run P w = .ok cn w := rfl
          have z1 : (2 : Int) ^ 48 = 281474976710656 := rfl
          have n1 : ¬ cn < 0 := by omega
          have n2 : ¬ (2 : Int) ^ 48 < (bytes : Int) * cn := by omega
          have n3 : ¬ ln < 0 := by omega
          have n4 : ¬ ln > cn := by omega
          simp only [Int.reducePow] at n2
          by_cases h0 : cn.toNat * size = 0
          · have hl0 : (List.replicate cn.toNat zero.cells.toList).flatten = [] := by
              rw [← hlist]; rw [h0]; simp
            rw [hl0] at hq ⊢
            simp [Instr.makeSlice, i1, i2, run_und hu, hti, hbe, wl, wc, n1, n2, n3, n4, run_size hsz, h0, newRow]
            congr 2
            apply Array.ext'
            simp
          · rw [← hlist]
            simp [Instr.makeSlice, i1, i2, run_und hu, hti, hbe, wl, wc, n1, n2, n3, n4, run_size hsz, h0, newRow, run_zero hz]
            congr 2
            apply Array.ext'
            simp
        · cases hs
    · cases hs
  · cases hs

theorem makeMap_sim {t : TypeId} {q : QRes} (hs : qMakeMap P n t = some q) (hN : N.upto w.heap.size) (hn : ∀ i, D i → i ≠ n) :
    ∃ v' w' β' κ', (Instr.makeMap t none).run P w = .ok v' w' ∧ QOut P D β κ base N n w q v' w' β' κ' := by
  unfold qMakeMap at hs
  split at hs
  · rename_i kt et hu
    cases hs
    obtain ⟨β', κ', hq⟩ := QOut.one (P := P) (D := D) (β := β) (κ := κ) (base := base) (b := .map kt []) (o := .map #[] 0) (v := .map (some n)) (v' := .map (some w.heap.size)) hN hn
      (fun β' κ' hβ hκ he => ⟨⟨#[], 0, by rw [hβ]; exact heap_alloc_new, rfl, by simp, by simp [Stamped]⟩, trivial, by
        have := VR.map (D := fun i => D i ∨ InNew n 1 i) (β := β') (κ := κ') n (.inr (inNew_one.2 rfl))
        rwa [hβ] at this⟩)
    exact ⟨_, _, β', κ', by simp [Instr.makeMap, newObj, Sem.run], hq⟩
  · cases hs
end
end Go.Cl
/- A quiet operation, whichever: the model does what the clean interpreter does. -/
set_option linter.unusedSimpArgs false
set_option linter.unusedVariables false
namespace Go.Cl
open Go Go.RowKit

/-- The fence of activations in which nothing is asked; ro: within which round. -/
def FW (ro : Option Nat) : Fence := { fn := fun _ => True, depth := none, alive := false, round := ro }

theorem callsIn_FW {ro : Option Nat} {n : Nat} {P : Program} {f : FuncId} {args : Array Value} {w : World} {R : Ending → World → Prop} : CallsIn (FW ro) n P f args w R ↔ Calls P f args w R :=
  (callsIn_wide (n := n))

/-- A function with a body. -/
def Enters (P : Program) (g : FuncId) : Prop := ∃ fn c, P.funcs[g]? = some fn ∧ fn.body = some c ∧ (fn.name == "runtime.NumGoroutine") = false

theorem run_callFunc {P : Program} {g : FuncId} (h : Enters P g) (args : Array Value) (w : World) : (callFunc g args).run P w = .ok (.enter g args) w := by
  obtain ⟨fn, c, h1, h2, h3⟩ := h
  simp only [beq_eq_false_iff_ne, ne_eq] at h3
  simp [callFunc, Sem.run_bind, h1, h2, h3]

/-- The answer of a function that writes nothing that came in. -/
def PureSim (P : Program) (g : FuncId) (args : List Value) (h : List Blk) (v : Value) (new : List Blk) : Prop :=
  Enters P g ∧ ∀ (D : Nat → Prop) (β : Nat → Nat × Nat) (κ : Nat → Nat) (w : World) (args' : List Value), (∀ i, D i → i < h.length) → Rel P D β κ h.length (Kp.under w.heap.size) (toF h) w →
    LR D β κ args args' → Calls P g ⟨args'⟩ w fun e w' => ∃ v' β' κ', e = .returned v' ∧ QOut P D β κ h.length (Kp.under w.heap.size) h.length w { val := v, new := new } v' w' β' κ'

section
variable {P : Program} {w : World} {D : Nat → Prop} {β : Nat → Nat × Nat} {κ : Nat → Nat} {base n : Nat} {N : Kp} {H : Nat → Blk}


theorem Rel.outer {h : List Blk} (hR : Rel P D β κ base N (toF h) w) : Rel P D β κ h.length (Kp.under w.heap.size) (toF h) w where
  blk := hR.blk
  ro := fun i hi _ => (hR.blk i).valid hi
  own := fun i hi hb => absurd (by simp [toF, List.getD, List.getElem?_eq_none hb]) hi
  inj := fun i j hi hj hb _ _ => absurd (by simp [toF, List.getD, List.getElem?_eq_none hb]) hi
  size := Kp.under.upto _

theorem QOut.inner {m : Nat} {M : Kp} {v v' : Value} {new : List Blk} {w' : World} {β' : Nat → Nat × Nat} {κ' : Nat → Nat} (h : QOut P D β κ m M n w { val := v, new := new } v' w' β' κ') (hN : N.sub M) :
    QOut P D β κ base N n w { val := v, new := new } v' w' β' κ' where
  ext := h.ext
  val := h.val
  below := h.below.mono hN
  keep := h.keep
  new := fun j b hj hb => let ⟨a, b, c, d⟩ := h.new j b hj hb; ⟨a, b, fun x => c (hN _ x), d⟩
  inj := h.inj
  upd := fun k b h => by cases h

theorem PureSim.use {g : FuncId} {args args' : List Value} {h new : List Blk} {v : Value} (hs : PureSim P g args h v new) (hD : ∀ i, D i → i < h.length) (hR : Rel P D β κ base N (toF h) w)
    (ha : LR D β κ args args') : Calls P g ⟨args'⟩ w fun e w' => ∃ v' β' κ', e = .returned v' ∧ QOut P D β κ base N h.length w { val := v, new := new } v' w' β' κ' :=
  Calls.mono (hs.2 D β κ w args' hD hR.outer ha) fun e w' ⟨v', β', κ', he, hq⟩ => ⟨v', β', κ', he, hq.inner hR.size⟩

theorem wp_of_val {ro : Option Nat} {o : Oper} {a' : Act} {next : Act → World → Prop} {Q : Exit → Act → World → Prop} {v : Value} {w' : World} (hnd : ∀ c, o.op ≠ .defer c)
    (hrun : (execOp a'.eval o).run P w = .ok (.value v) w') (h : next (a'.put o.dst v) w') : o.wpIn (FW ro) 0 P a' w next Q :=
  ⟨fun _ _ => trivial, by rw [Oper.semAt_eq _ _ _ hnd, hrun]; exact h⟩
theorem wp_of_skip {ro : Option Nat} {o : Oper} {a' : Act} {next : Act → World → Prop} {Q : Exit → Act → World → Prop} {w' : World} (hnd : ∀ c, o.op ≠ .defer c)
    (hrun : (execOp a'.eval o).run P w = .ok .skip w') (h : next (a'.put o.dst undef) w') : o.wpIn (FW ro) 0 P a' w next Q :=
  ⟨fun _ _ => trivial, by rw [Oper.semAt_eq _ _ _ hnd, hrun]; exact h⟩
theorem wp_of_enter {ro : Option Nat} {o : Oper} {a' : Act} {next : Act → World → Prop} {Q : Exit → Act → World → Prop} {f : FuncId} {args : Array Value} {w' : World} (hnd : ∀ c, o.op ≠ .defer c)
    (hrun : (execOp a'.eval o).run P w = .ok (.enter f args) w') (h : Calls P f args w' fun e w'' => ∃ v, e = .returned v ∧ next (a'.put o.dst v) w'') : o.wpIn (FW ro) 0 P a' w next Q := by
  refine ⟨fun _ _ => trivial, ?_⟩
  rw [Oper.semAt_eq _ _ _ hnd, hrun, Oper.uponIn_enter]
  refine ⟨fun h => by simp [FW] at h, callsIn_FW.2 (Calls.mono h ?_)⟩
  rintro e w'' ⟨v, rfl, hn⟩
  exact hn

theorem LR.args {ρ ρ' : Operand → Value} (hρ : ∀ x, VR D β κ (ρ x) (ρ' x)) (l : List Operand) : LR D β κ (l.map ρ) (l.map ρ') := LR.map fun x _ => hρ x

theorem mapO {ρ' : Operand → Value} (args : Array Operand) : args.map ρ' = ⟨args.toList.map ρ'⟩ := by
  apply Array.ext'; simp

/-- A QUIET OPERATION. -/
theorem qOp_wp {E : Env} {r : Rec} {ro : Option Nat} {h : List Blk} {ρ : Operand → Value} {o : Oper} {q : QRes} {a' : Act} {next : Act → World → Prop} {Q : Exit → Act → World → Prop}
    (hcall : ∀ g args v new, callQ E r g args h = some (v, new) → PureSim E.P g args h v new)
    (hq : qOp E r base h h.length ρ o = some q) (hR : Rel E.P D β κ base N (toF h) w) (hD : ∀ i, D i → i < h.length)
    (hρ : ∀ x, VR D β κ (ρ x) (a'.eval x))
    (hnext : ∀ v' w' β' κ', QOut E.P D β κ base N h.length w q v' w' β' κ' → next (a'.put o.dst v') w') : o.wpIn (FW ro) 0 E.P a' w next Q := by
  have hn : ∀ i, D i → i ≠ h.length := fun i hi e => by have := hD i hi; omega
  have qvs : ∀ {x : Option Value}, qv x = some q → ∃ v, x = some v ∧ q = { val := v } := by
    intro x hx
    cases x with
    | none => cases hx
    | some v => exact ⟨v, rfl, (Option.some.inj hx).symm⟩
  -- three ways in which an operation runs
  have makes : ∀ {s : Sem Value}, (∀ c, o.op ≠ .defer c) → (execOp a'.eval o = do pure (.value (← s))) → (∃ v' w' β' κ', s.run E.P w = .ok v' w' ∧ QOut E.P D β κ base N h.length w q v' w' β' κ') → o.wpIn (FW ro) 0 E.P a' w next Q := by
    intro s hnd he ⟨v', w', β', κ', hs, hQ⟩
    exact wp_of_val hnd (by rw [he]; simp [Sem.run_bind, hs]) (hnext _ _ _ _ hQ)
  have skips : ∀ {s : Sem Unit}, (∀ c, o.op ≠ .defer c) → (execOp a'.eval o = do s; pure .skip) → (∃ w', s.run E.P w = .ok () w' ∧ QOut E.P D β κ base N h.length w q undef w' β κ) → o.wpIn (FW ro) 0 E.P a' w next Q := by
    intro s hnd he ⟨w', hs, hQ⟩
    exact wp_of_skip hnd (by rw [he]; simp [Sem.run_bind, hs]) (hnext _ _ _ _ hQ)
  have same : ∀ {s : Sem Value}, (∀ c, o.op ≠ .defer c) → (execOp a'.eval o = do pure (.value (← s))) → (∃ v', s.run E.P w = .ok v' w ∧ VR D β κ q.val v' ∧ q = { val := q.val }) → o.wpIn (FW ro) 0 E.P a' w next Q :=
    fun hnd he ⟨v', hs, hv, hqv⟩ => makes hnd he ⟨v', w, β, κ, hs, by rw [hqv]; exact QOut.same hv⟩
  have sameV : ∀ {s : Sem Value} {x : Option Value}, (∀ c, o.op ≠ .defer c) → (execOp a'.eval o = do pure (.value (← s))) → qv x = some q → (∀ v, x = some v → ∃ v', s.run E.P w = .ok v' w ∧ VR D β κ v v') → o.wpIn (FW ro) 0 E.P a' w next Q := by
    intro s x hnd he hx hs
    obtain ⟨v, hv, rfl⟩ := qvs hx
    obtain ⟨v', h1, h2⟩ := hs v hv
    exact same hnd he ⟨v', h1, h2, rfl⟩
  have hsize := hR.size
  cases ho : o.op
  all_goals (have hnd : ∀ c, o.op ≠ .defer c := fun c e => by rw [ho] at e; first | (cases e; done) | (cases e; simp [qOp, ho] at hq))
  all_goals (simp only [qOp, ho] at hq)
  case move x =>
    cases hq
    exact wp_of_val hnd (by simp only [execOp, ho]; rfl) (hnext _ _ _ _ (QOut.same (hρ _)))
  case assign x =>
    cases hq
    exact wp_of_val hnd (by simp only [execOp, ho]; rfl) (hnext _ _ _ _ (QOut.same (hρ _)))
  case pick c a b =>
    unfold qPick at hq
    split at hq
    · rename_i t hc
      cases hq
      have hcr := hρ c
      rw [hc] at hcr
      have hce : a'.eval c = .bool t := by
        generalize a'.eval c = cv at hcr
        cases hcr
        rfl
      refine wp_of_val (v := if t then a'.eval a else a'.eval b) hnd (by simp [execOp, ho, hce, Sem.run_bind, asBool]) (hnext _ _ _ _ (QOut.same ?_))
      cases t
      · exact hρ b
      · exact hρ a
    · cases hq
  case alloc t =>
    unfold qAlloc at hq
    split at hq
    · rename_i z hz
      split at hq
      · rename_i hf
        cases hq
        obtain ⟨β', κ', hQ⟩ := QOut.cells (P := E.P) (base := base) (t := t) (v := .pointer (some ⟨h.length, 0, none⟩)) (v' := .pointer (some ⟨w.heap.size, 0, none⟩)) hsize hn (LR.of_leaves (D := D) (β := β) (κ := κ) (flat1_cells hf))
          (fun β' κ' hβ _ => vr_newptr hβ)
        exact makes hnd (by simp only [execOp, ho]) ⟨_, _, β', κ', run_alloc hz w, hQ⟩
      · cases hq
    · cases hq
  case box t x =>
    unfold qBox at hq
    split at hq
    · rename_i hf
      cases hq
      have hp : ρ x ≠ .chan (some 0) := fun e => by rw [e] at hf; cases hf
      obtain ⟨β', κ', hQ⟩ := QOut.cells (P := E.P) (base := base) (t := t) (v := .pointer (some ⟨h.length, 0, none⟩)) (v' := .pointer (some ⟨w.heap.size, 0, none⟩)) hsize hn ((hρ x).cells hp)
        (fun β' κ' hβ _ => vr_newptr hβ)
      exact makes hnd (by simp only [execOp, ho]) ⟨_, _, β', κ', run_box t _ w, hQ⟩
    · cases hq
  case build t parts => exact sameV hnd (by simp only [execOp, ho]) hq fun v hv => build_sim hv hρ
  case buildSlice t len parts => exact makes hnd (by simp only [execOp, ho]) (buildSlice_sim hq hρ hsize hn)
  case load t a => exact sameV hnd (by simp only [execOp, ho]) hq fun v hv => load_sim hv hR (hρ a)
  case store t a x => exact skips hnd (by simp only [execOp, ho]) (store_sim hq hR (hρ a) (hρ x) (Nat.le_refl _))
  case nilCheck x =>
    have hx := hρ x
    unfold qNilCheck at hq
    split at hq
    · rename_i a hxv
      rw [hxv] at hx
      cases hq
      generalize hx' : a'.eval x = xv at hx
      cases hx with
      | ptr i o' hi => exact wp_of_val hnd (by simp [execOp, ho, hx']) (hnext _ _ _ _ (QOut.same (.ptr i o' hi)))
    · rename_i g f c hxv
      rw [hxv] at hx
      cases hq
      generalize hx' : a'.eval x = xv at hx
      have h0 := hx
      cases hx with
      | func _ f f' c c' h1 h2 h3 h4 => exact wp_of_val hnd (by simp [execOp, ho, hx']) (hnext _ _ _ _ (QOut.same h0))
    · cases hq
  case binOp op t x y z => exact same hnd (by simp only [execOp, ho]) (bin_sim hq (hρ x) (hρ y))
  case unOp op z x => exact same hnd (by simp only [execOp, ho]) (un_sim hq (hρ x))
  case convert s d x => exact same hnd (by simp only [execOp, ho]) (convert_sim hq (hρ x))
  case makeFunc fn first captured =>
    cases fn with
    | func g =>
      simp only at hq
      cases hq
      refine wp_of_val (v := .func (.func g) ⟨first.toList.map a'.eval⟩ ⟨captured.toList.map a'.eval⟩) hnd (by rw [← mapO, ← mapO]; simp [execOp, ho, Instr.makeFunc]) (hnext _ _ _ _ (QOut.same ?_))
      have h1 := LR.args hρ first.toList
      have h2 := LR.args hρ captured.toList
      exact .func g _ _ _ _ h1.len h1.at_ h2.len h2.at_
    | _ => simp at hq
  case makeMap t r =>
    cases r with
    | none => exact makes hnd (by simp only [execOp, ho, Option.map_none]) (makeMap_sim hq hsize hn)
    | some r => simp at hq
  case makeSlice t l c => exact makes hnd (by simp only [execOp, ho]) (makeSlice_sim hq (hρ l) (hρ c) hsize hn)
  case slice t x lo hi mx => exact sameV hnd (by simp only [execOp, ho]) hq fun v hv => slice_sim hv (hρ x) (OR.map hρ lo) (OR.map hρ hi) (OR.map hρ mx)
  case fieldAddr s x f => exact sameV hnd (by simp only [execOp, ho]) hq fun v hv => fieldAddr_sim hv (hρ x)
  case field t x f => exact sameV hnd (by simp only [execOp, ho]) hq fun v hv => field_sim hv (hρ x)
  case indexAddr t x ix => exact sameV hnd (by simp only [execOp, ho]) hq fun v hv => indexAddr_sim hv (hρ x) (hρ ix)
  case index t x ix => exact sameV hnd (by simp only [execOp, ho]) hq fun v hv => index_sim hv (hρ x) (hρ ix)
  case lookup t m k ok => exact sameV hnd (by simp only [execOp, ho]) hq fun v hv => lookup_sim hv hR (hρ m) (hρ k) (key_same (hρ k))
  case mapUpdate t m k x => exact skips hnd (by simp only [execOp, ho]) (mapUpdate_sim hq hR (hρ m) (key_same (hρ k)) (hρ x) (Nat.le_refl _))
  case insert t m k x => exact skips hnd (by simp only [execOp, ho]) (mapUpdate_sim hq hR (hρ m) (key_same (hρ k)) (hρ x) (Nat.le_refl _))
  case extract t ix => exact same hnd (by simp only [execOp, ho]) (extract_sim hq (hρ t))
  case call c =>
    obtain ⟨callee, cargs, ts⟩ := c
    cases callee with
    | value f =>
      simp only at hq
      have hf := hρ f
      unfold qCall at hq
      split at hq
      · rename_i g first captured hfv
        rw [hfv] at hf
        cases hcq : callQ E r g (first.toList ++ cargs.toList.map ρ ++ captured.toList) h with
        | none => rw [hcq] at hq; cases hq
        | some p =>
          obtain ⟨v, new⟩ := p
          rw [hcq] at hq
          cases hq
          have hP := hcall g _ v new hcq
          generalize hf' : a'.eval f = fv at hf
          cases hf with
          | func _ f1 f1' c1 c1' h1 h2 h3 h4 =>
            have hargs : LR D β κ (f1 ++ cargs.toList.map ρ ++ c1) (f1' ++ cargs.toList.map a'.eval ++ c1') := (LR.app ⟨h1, h2⟩ (LR.args hρ _)).app ⟨h3, h4⟩
            have hrun : (execOp a'.eval o).run E.P w = .ok (.enter g (⟨f1' ++ cargs.toList.map a'.eval ++ c1'⟩ : Array Value)) w := by
              have e1 : (⟨f1'⟩ : Array Value) ++ Array.map a'.eval cargs ++ (⟨c1'⟩ : Array Value) = ⟨f1' ++ cargs.toList.map a'.eval ++ c1'⟩ := by
                apply Array.ext'; simp
              have e2 := run_callFunc hP.1 ((⟨f1'⟩ : Array Value) ++ Array.map a'.eval cargs ++ (⟨c1'⟩ : Array Value)) w
              rw [e1] at e2
              simp only [execOp, ho, resolve, hf', Deferred.ofValue, Sem.run_bind, Sem.run_pure, Result.andThen_ok, invoke]
              rw [e1]
              exact e2
            refine wp_of_enter hnd hrun (Calls.mono (hP.use hD hR hargs) ?_)
            rintro e w'' ⟨v', β', κ', rfl, hQ⟩
            exact ⟨v', rfl, hnext _ _ _ _ hQ⟩
      · cases hq
    | builtin b =>
      simp only at hq
      have hargs := LR.args hρ cargs.toList
      have hex : ∀ s : Array Value → Sem Value, (∀ (cs : Array Bool), builtin b ts o.type cs (cargs.map a'.eval) = (do pure (.value (← s (cargs.map a'.eval))))) →
          execOp a'.eval o = (do pure (.value (← s ⟨cargs.toList.map a'.eval⟩))) := by
        intro s hs
        rw [← mapO]
        simp only [execOp, ho, resolve, invoke]
        exact hs _
      generalize hL : cargs.toList.map ρ = L at hq hargs
      generalize hL' : cargs.toList.map a'.eval = L' at hargs hex
      have hlen := hargs.len
      cases b
      case append =>
        rcases L with _ | ⟨x, _ | ⟨y, _ | ⟨z, L⟩⟩⟩ <;> try (simp [qBuiltin] at hq; done)
        obtain ⟨x', l1, rfl, hx, hl1⟩ := hargs.uncons
        obtain ⟨y', l2, rfl, hy, hl2⟩ := hl1.uncons
        cases hl2.unnil
        exact makes hnd (hex (Builtin.append_ ts o.type) fun _ => rfl) (append_sim (by simpa [qBuiltin] using hq) hR hx hy (Nat.le_refl _) hD)
      case len =>
        rcases L with _ | ⟨x, _ | ⟨y, L⟩⟩ <;> try (simp [qBuiltin] at hq; done)
        obtain ⟨x', l1, rfl, hx, hl1⟩ := hargs.uncons
        cases hl1.unnil
        exact same hnd (hex (Builtin.len_ ts o.type) fun _ => rfl) (len_sim rfl hq hR hx)
      case cap =>
        rcases L with _ | ⟨x, _ | ⟨y, L⟩⟩ <;> try (simp [qBuiltin] at hq; done)
        obtain ⟨x', l1, rfl, hx, hl1⟩ := hargs.uncons
        cases hl1.unnil
        exact same hnd (hex (Builtin.cap_ ts o.type) fun _ => rfl) (cap_sim rfl hq hx)
      case min =>
        have hq' : flatRun E.P L (Builtin.min_ ts o.type L.toArray) = some q := by simpa [qBuiltin] using hq
        exact same hnd (hex (Builtin.min_ ts o.type) fun _ => rfl) (flatRun_sim (s := fun l => Builtin.min_ ts o.type ⟨l⟩) hq' hargs)
      case max =>
        have hq' : flatRun E.P L (Builtin.max_ ts o.type L.toArray) = some q := by simpa [qBuiltin] using hq
        exact same hnd (hex (Builtin.max_ ts o.type) fun _ => rfl) (flatRun_sim (s := fun l => Builtin.max_ ts o.type ⟨l⟩) hq' hargs)
      case delete =>
        rcases L with _ | ⟨x, _ | ⟨y, _ | ⟨z, L⟩⟩⟩ <;> try (simp [qBuiltin] at hq; done)
        obtain ⟨x', l1, rfl, hx, hl1⟩ := hargs.uncons
        obtain ⟨y', l2, rfl, hy, hl2⟩ := hl1.uncons
        cases hl2.unnil
        obtain ⟨v', w', h1, h2⟩ := delete_sim (ty := o.type) (by simpa [qBuiltin] using hq) hR hx hy (Nat.le_refl _)
        exact makes hnd (hex (Builtin.delete_ ts o.type) fun _ => rfl) ⟨v', w', β, κ, h1, h2⟩
      case clear =>
        rcases L with _ | ⟨x, _ | ⟨y, L⟩⟩ <;> try (simp [qBuiltin] at hq; done)
        obtain ⟨x', l1, rfl, hx, hl1⟩ := hargs.uncons
        cases hl1.unnil
        obtain ⟨v', w', h1, h2⟩ := clear_sim (ty := o.type) rfl hq hR hx (Nat.le_refl _)
        exact makes hnd (hex (Builtin.clear_ ts o.type) fun _ => rfl) ⟨v', w', β, κ, h1, h2⟩
      case copy =>
        rcases L with _ | ⟨x, _ | ⟨y, _ | ⟨z, L⟩⟩⟩ <;> try (simp [qBuiltin] at hq; done)
        obtain ⟨x', l1, rfl, hx, hl1⟩ := hargs.uncons
        obtain ⟨y', l2, rfl, hy, hl2⟩ := hl1.uncons
        cases hl2.unnil
        obtain ⟨v', w', h1, h2⟩ := copy_sim (ty := o.type) rfl hq hR hx hy (Nat.le_refl _)
        exact makes hnd (hex (Builtin.copy_ ts o.type) fun _ => rfl) ⟨v', w', β, κ, h1, h2⟩
      all_goals (simp [qBuiltin] at hq)
    | invoke => simp at hq
  all_goals cases hq
end
end Go.Cl
/- The state behind an operation; activations; how parts are joined. -/
set_option linter.unusedSimpArgs false
set_option linter.unusedVariables false
namespace Go.Cl
open Go Go.RowKit

/-! ### The strict forms are what they stand for -/
section
variable {α γ : Type}
theorem forceN_eq (n : Nat) (k : Nat → α) : forceN n k = k n := by cases n <;> rfl
theorem forceI_eq (n : Int) (k : Int → α) : forceI n k = k n := by cases n <;> simp [forceI, forceN_eq]
theorem forceLeaf_eq (v : Value) (k : Value → α) : forceLeaf v k = k v := by
  unfold forceLeaf
  split <;> simp [forceI_eq, forceN_eq]
theorem forceList_eq {f : Value → (Value → α) → α} (hf : ∀ v k, f v k = k v) (l : List Value) (k : List Value → α) : forceList f l k = k l := by
  unfold forceList
  induction l generalizing k with
  | nil => rfl
  | cons v l ih => show f v _ = _; rw [hf, ih]
theorem force1_eq (v : Value) (k : Value → α) : force1 v k = k v := by
  unfold force1
  split
  · rw [forceList_eq forceLeaf_eq]
  · exact forceLeaf_eq _ _
theorem forceV_eq (v : Value) (k : Value → α) : forceV v k = k v := by
  unfold forceV
  split
  · rw [forceList_eq force1_eq]
  · rw [forceList_eq force1_eq, forceList_eq force1_eq]
  · exact force1_eq _ _
theorem forcePairs_eq : ∀ (l : List (Value × Value)) (k : List (Value × Value) → α), forcePairs l k = k l
  | [], k => rfl
  | (x, y) :: l, k => by rw [forcePairs, force1_eq, force1_eq, forcePairs_eq l]
theorem forceB_eq (b : Blk) (k : Blk → α) : forceB b k = k b := by
  unfold forceB
  split
  · rw [forceList_eq forceV_eq]
  · rw [forcePairs_eq]
  · rfl
theorem forceBs_eq (l : List Blk) (k : List Blk → α) : forceBs l k = k l := by
  unfold forceBs
  induction l generalizing k with
  | nil => rfl
  | cons v l ih => show forceB v _ = _; rw [forceB_eq, ih]
theorem setK_eq : ∀ (l : List γ) (n : Nat) (v : γ) (k : List γ → α), setK l n v k = k (l.set n v)
  | [], n, v, k => rfl
  | x :: l, 0, v, k => rfl
  | x :: l, n + 1, v, k => setK_eq l n v fun l => k (x :: l)
theorem appK_eq : ∀ (l m : List γ) (k : List γ → α), appK l m k = k (l ++ m)
  | [], m, k => rfl
  | x :: l, m, k => appK_eq l m fun l => k (x :: l)
theorem getT_eq : ∀ (l : List Value) (n : Nat), getT l n = l.getD n undef
  | [], n => rfl
  | x :: l, 0 => rfl
  | x :: l, n + 1 => by
    show getT l n = _
    rw [getT_eq l n]
    rfl

def QRes.heap (q : QRes) (h : List Blk) : List Blk := (match q.upd with | some (i, b) => h.set i b | none => h) ++ q.new

theorem applyK_eq {E : Env} {h : List Blk} {q : QRes} (k : Value → List Blk → α) : applyK E h q k = k q.val (q.heap h) := by
  unfold applyK QRes.heap
  split
  · rw [forceV_eq]
    split
    · rename_i hu; rw [forceBs_eq, appK_eq]; simp [hu]
    · rename_i i b hu; rw [forceB_eq, setK_eq, forceBs_eq, appK_eq]; simp [hu]
  · rfl
def CAct.put (a : CAct) (dst : Option Tmp) (v : Value) : CAct :=
  match dst with
  | none => a
  | some d => { a with tmps := a.tmps.set d v }
theorem putK_eq {E : Env} {a : CAct} {dst : Option Tmp} {v : Value} (k : CAct → α) : putK E a dst v k = k (a.put dst v) := by
  unfold putK CAct.put
  split
  · rfl
  · split
    · rw [setK_eq]
    · rfl
end

theorem toF_heap {h : List Blk} {q : QRes} (hu : ∀ k b, q.upd = some (k, b) → k < h.length) : toF (q.heap h) = stepF h.length q (toF h) := by
  obtain ⟨val, new, upd⟩ := q
  funext i
  unfold QRes.heap stepF toF
  simp only [List.getD]
  cases upd with
  | none =>
    simp only
    by_cases hn : h.length ≤ i ∧ i < h.length + new.length
    · rw [if_pos hn, List.getElem?_append_right hn.1]
    · rw [if_neg hn]
      by_cases hi : i < h.length
      · rw [List.getElem?_append_left hi]
      · rw [List.getElem?_eq_none (by rw [List.length_append]; omega), List.getElem?_eq_none (by omega)]
  | some p =>
    obtain ⟨k, b⟩ := p
    have hk := hu k b rfl
    simp only
    by_cases hn : h.length ≤ i ∧ i < h.length + new.length
    · rw [if_pos hn, List.getElem?_append_right (by simpa using hn.1), List.length_set]
    · rw [if_neg hn]
      by_cases hi : i < h.length
      · rw [List.getElem?_append_left (by simpa using hi), List.getElem?_set]
        by_cases he : k = i
        · subst he; simp [hi]
        · rw [if_neg he, if_neg (fun e => he e.symm)]
      · rw [List.getElem?_eq_none (by rw [List.length_append, List.length_set]; omega), List.getElem?_eq_none (by omega), if_neg (by omega)]

/-! ### Only blocks that are there are written -/

theorem cStoreAt_alive {base : Nat} {h : List Blk} {a : Addr} {xs : List Value} {k : Nat} {b : Blk} (hs : cStoreAt base h a xs = some (some (k, b))) : toF h k ≠ .dead := by
  unfold cStoreAt at hs
  split at hs
  · cases hs
  · split at hs
    · cases hs
    · split at hs
      · rename_i t vs hi
        split at hs
        · cases hs; rw [toF_some hi]; simp
        · cases hs
      · cases hs

theorem cStore_alive {P : Program} {base : Nat} {h : List Blk} {t : TypeId} {a x : Value} {q : QRes} {k : Nat} {b : Blk} (hs : cStore P base h t a x = some q) (hu : q.upd = some (k, b)) : toF h k ≠ .dead := by
  unfold cStore at hs
  split at hs
  · split at hs
    · rename_i a _ _ _ _ _
      revert hs
      generalize hst : cStoreAt base h _ _ = st
      intro hs
      cases st with
      | none => cases hs
      | some u => cases hs; simp only at hu; subst hu; exact cStoreAt_alive hst
    · cases hs
  · cases hs

theorem cMapUpdate_alive {P : Program} {base : Nat} {h : List Blk} {t : TypeId} {m k x : Value} {q : QRes} {i : Nat} {b : Blk} (hs : cMapUpdate P base h t m k x = some q) (hu : q.upd = some (i, b)) : toF h i ≠ .dead := by
  unfold cMapUpdate at hs
  split at hs
  · split at hs
    · rename_i kt' es hr
      split at hs
      · split at hs <;> (cases hs; cases hu; rw [toF_some hr]; simp)
      · cases hs
    · cases hs
  · cases hs

theorem cDelete_alive {P : Program} {base : Nat} {h : List Blk} {t : TypeId} {m k : Value} {q : QRes} {i : Nat} {b : Blk} (hs : cDelete P base h t m k = some q) (hu : q.upd = some (i, b)) : toF h i ≠ .dead := by
  unfold cDelete at hs
  split at hs
  · split at hs
    · rename_i kt' es hr
      split at hs
      · split at hs <;> (cases hs; cases hu; rw [toF_some hr]; simp)
      · cases hs
    · cases hs
  · cases hs

theorem cAppend_alive {P : Program} {base : Nat} {h : List Blk} {n : Nat} {ts : Array TypeId} {s x : Value} {q : QRes} {i : Nat} {b : Blk} (hs : cAppend P base h n ts s x = some q) (hu : q.upd = some (i, b)) : toF h i ≠ .dead := by
  unfold cAppend at hs
  split at hs
  · split at hs
    · split at hs
      · split at hs
        · cases hs
        · split at hs
          · split at hs
            · cases hs
            · rename_i k hl _
              cases hs
              simp only [Option.some.injEq, Prod.mk.injEq] at hu
              obtain ⟨rfl, rfl⟩ := hu
              obtain ⟨_, _, _, _, t, hk, _⟩ := litK_spec hl
              rw [toF_some hk]; simp
          rename_i hlitn
          clear hlitn
          split at hs
          · cases hs; cases hu
          · split at hs
            · unfold appIn at hs
              split at hs
              · revert hs
                generalize hst : cStoreAt base h _ _ = st
                intro hs
                cases st with
                | none => cases hs
                | some u => cases hs; simp only at hu; subst hu; exact cStoreAt_alive hst
              · cases hs
            · split at hs
              · cases hs
              · split at hs
                · unfold appCopy at hs
                  split at hs
                  · cases hs; cases hu
                  · cases hs
                · unfold appOn at hs
                  split at hs
                  · split at hs
                    · rename_i t vs hk
                      split at hs
                      · cases hs; cases hu; rw [toF_some hk]; simp
                      · cases hs
                    · cases hs
                  · cases hs
      · cases hs
    · cases hs
  · cases hs

theorem flatRun_upd {P : Program} {vs : List Value} {s : Sem Value} {q : QRes} (h : flatRun P vs s = some q) : q.upd = none := by
  obtain ⟨_, v, rfl, _⟩ := flatRun_spec h; rfl
theorem qv_upd {x : Option Value} {q : QRes} (h : qv x = some q) : q.upd = none := by
  cases x with
  | none => cases h
  | some v => cases h; rfl

theorem qBuiltin_alive {E : Env} {base : Nat} {h : List Blk} {n : Nat} {b : Builtin} {ts : Array TypeId} {ty : TypeId} {args : List Value} {q : QRes} {i : Nat} {bl : Blk} (hs : qBuiltin E base h n b ts ty args = some q) (hu : q.upd = some (i, bl)) : toF h i ≠ .dead := by
  unfold qBuiltin at hs
  split at hs
  · exact cAppend_alive hs hu
  · split at hs
    · cases hs; cases hu
    · cases hs; cases hu
    · revert hs
      generalize cEntries h _ = st
      intro hs
      cases st with
      | none => cases hs
      | some u => cases hs; cases hu
    · cases hs; cases hu
    · cases hs
  · split at hs
    · split at hs
      · cases hs; cases hu
      · cases hs
    · cases hs
  · rw [flatRun_upd hs] at hu; cases hu
  · rw [flatRun_upd hs] at hu; cases hu
  · revert hs
    generalize ts[0]? = t
    intro hs
    cases t with
    | none => cases hs
    | some t => exact cDelete_alive hs hu
  · split at hs
    · rename_i hk
      split at hs
      · cases hs; cases hu; rw [toF_some hk]; simp
      · cases hs
    · cases hs
  · split at hs
    · split at hs
      · split at hs
        · revert hs
          generalize hst : cStoreAt base h _ _ = st
          intro hs
          cases st with
          | none => cases hs
          | some u => cases hs; simp only at hu; subst hu; exact cStoreAt_alive hst
        · cases hs
      · cases hs
    · cases hs
  · cases hs

theorem qOp_alive {E : Env} {r : Rec} {base : Nat} {h : List Blk} {n : Nat} {ρ : Operand → Value} {o : Oper} {q : QRes} {i : Nat} {b : Blk} (hs : qOp E r base h n ρ o = some q) (hu : q.upd = some (i, b)) : toF h i ≠ .dead := by
  unfold qOp at hs
  split at hs
  all_goals first
    | (cases hs; cases hu; done)
    | exact cStore_alive hs hu
    | exact cMapUpdate_alive hs hu
    | exact qBuiltin_alive hs hu
    | (rw [flatRun_upd hs] at hu; cases hu; done)
    | (rw [qv_upd hs] at hu; cases hu; done)
    | skip
  · unfold qPick at hs; split at hs <;> cases hs; cases hu
  · unfold qAlloc at hs; split at hs
    · split at hs <;> cases hs; cases hu
    · cases hs
  · unfold qBox at hs; split at hs <;> cases hs; cases hu
  · unfold cBuildSlice at hs
    repeat' (split at hs)
    all_goals (first | (cases hs; done) | (cases hs; cases hu; done))
  · unfold qNilCheck at hs; split at hs <;> cases hs <;> cases hu
  · unfold qBin at hs
    split at hs
    · split at hs
      · cases hs; cases hu
      · rw [flatRun_upd hs] at hu; cases hu
    · split at hs <;> first | (rw [qv_upd hs] at hu; cases hu; done) | cases hs
    · split at hs
      · cases hs; cases hu
      · rw [flatRun_upd hs] at hu; cases hu
    · split at hs
      · split at hs <;> cases hs <;> cases hu
      · cases hs
    · rw [flatRun_upd hs] at hu; cases hu
  · unfold qUn at hs
    split at hs
    · cases hs; cases hu
    · cases hs; cases hu
    · rw [flatRun_upd hs] at hu; cases hu
  · unfold qMakeMap at hs; split at hs <;> cases hs; cases hu
  · unfold cMakeSlice at hs
    repeat' (split at hs)
    all_goals (first | (cases hs; done) | (cases hs; cases hu; done))
  · unfold qExtract at hs; split at hs
    · rw [qv_upd hs] at hu; cases hu
    · cases hs
  · unfold qCall at hs
    split at hs
    · revert hs
      generalize callQ E r _ _ _ = st
      intro hs
      cases st with
      | none => cases hs
      | some u => cases hs; cases hu
    · cases hs
  · cases hs
end Go.Cl
/- Activations; what a piece of code leaves; the operations of a region one after the other. -/
set_option linter.unusedSimpArgs false
set_option linter.unusedVariables false
namespace Go.Cl
open Go Go.RowKit

/-- The blocks that are known behind a piece of code. -/
def Up (D : Nat → Prop) (h h' : List Blk) (i : Nat) : Prop := D i ∨ (h.length ≤ i ∧ i < h'.length)

theorem Up.trans {D : Nat → Prop} {h h1 h2 : List Blk} (l1 : h.length ≤ h1.length) (l2 : h1.length ≤ h2.length) : Up (Up D h h1) h1 h2 = Up D h h2 := by
  funext i
  unfold Up
  apply propext
  constructor
  · rintro ((h | h) | h)
    · exact .inl h
    · exact .inr ⟨h.1, by omega⟩
    · exact .inr ⟨by omega, h.2⟩
  · rintro (h | h)
    · exact .inl (.inl h)
    · by_cases hi : i < h1.length
      · exact .inl (.inr ⟨h.1, hi⟩)
      · exact .inr ⟨by omega, h.2⟩

theorem Up.self {D : Nat → Prop} {h : List Blk} : Up D h h = D := by
  funext i; unfold Up; apply propext
  constructor
  · rintro (h | h)
    · exact h
    · omega
  · exact .inl

structure ActR (D : Nat → Prop) (β : Nat → Nat × Nat) (κ : Nat → Nat) (a : CAct) (a' : Act) : Prop where
  tmps : LR D β κ a.tmps a'.tmps.toList
  marks : a'.defers = a.marks.map fun m => { target := .collected (β m).1, args := #[] }
  known : ∀ m ∈ a.marks, D m

/-- What a piece of code leaves. -/
structure Out (P : Program) (D : Nat → Prop) (β : Nat → Nat × Nat) (κ : Nat → Nat) (base : Nat) (N : Kp) (h : List Blk) (w : World) (h' : List Blk) (w' : World) (β' : Nat → Nat × Nat) (κ' : Nat → Nat) : Prop where
  le : h.length ≤ h'.length
  ext : ∀ i, i < h.length → β' i = β i ∧ κ' i = κ i
  rel : Rel P (Up D h h') β' κ' base N (toF h') w'
  below : Held N w w'

section
variable {P : Program} {w : World} {D : Nat → Prop} {β : Nat → Nat × Nat} {κ : Nat → Nat} {base n : Nat} {N : Kp} {H : Nat → Blk}

theorem Out.refl {h : List Blk} (hR : Rel P D β κ base N (toF h) w) : Out P D β κ base N h w h w β κ :=
  ⟨Nat.le_refl _, fun _ _ => ⟨rfl, rfl⟩, by rw [Up.self]; exact hR, Held.refl _ _⟩

theorem Out.known {h h' : List Blk} {w' : World} {β' : Nat → Nat × Nat} {κ' : Nat → Nat} (o : Out P D β κ base N h w h' w' β' κ') (hD : ∀ i, D i → i < h.length) : ∀ i, Up D h h' i → i < h'.length := by
  rintro i (hi | hi)
  · have := hD i hi; have := o.le; omega
  · exact hi.2

theorem Out.trans {h h1 h2 : List Blk} {w1 w2 : World} {β1 β2 : Nat → Nat × Nat} {κ1 κ2 : Nat → Nat} (o1 : Out P D β κ base N h w h1 w1 β1 κ1) (o2 : Out P (Up D h h1) β1 κ1 base N h1 w1 h2 w2 β2 κ2) :
    Out P D β κ base N h w h2 w2 β2 κ2 := by
  refine ⟨Nat.le_trans o1.le o2.le, fun i hi => ?_, ?_, o1.below.trans o2.below⟩
  · have a := o1.ext i hi
    have b := o2.ext i (by have := o1.le; omega)
    exact ⟨b.1.trans a.1, b.2.trans a.2⟩
  · rw [← Up.trans o1.le o2.le]; exact o2.rel

theorem ActR.eval {a : CAct} {a' : Act} (h : ActR D β κ a a') (x : Operand) : VR D β κ (a.eval x) (a'.eval x) := by
  cases x with
  | tmp t =>
    show VR D β κ (getT a.tmps t) (a'.tmps.getD t undef)
    have e1 : a'.tmps.getD t undef = (a'.tmps.toList[t]?).getD undef := by simp [Array.getD_eq_getD_getElem?]
    rw [getT_eq, e1]
    simp only [List.getD]
    cases hx : a.tmps[t]? with
    | none =>
      have : a'.tmps.toList[t]? = none := List.getElem?_eq_none (h.tmps.len ▸ List.getElem?_eq_none_iff.1 hx)
      rw [this]; exact VR.undef
    | some v =>
      obtain ⟨v', hv, hr⟩ := h.tmps.get hx
      rw [hv]; exact hr
  | const v =>
    show VR D β κ (match isFlat v with | true => v | false => poison) v
    cases hf : isFlat v with
    | true => exact .of_flat hf
    | false => exact .poison v
  | global g => exact .poison _
  | func f => exact .func f [] [] [] [] rfl (fun j v v' h => by simp at h) rfl (fun j v v' h => by simp at h)

theorem ActR.mono {D' : Nat → Prop} {β' : Nat → Nat × Nat} {κ' : Nat → Nat} {a : CAct} {a' : Act} (h : ActR D β κ a a') (hD : ∀ i, D i → D' i) (hE : Ext D β κ β' κ') : ActR D' β' κ' a a' := by
  refine ⟨h.tmps.mono hD hE, ?_, fun m hm => hD m (h.known m hm)⟩
  rw [h.marks]
  apply List.map_congr_left
  intro m hm
  rw [(hE m (h.known m hm)).1]

theorem ActR.put {a : CAct} {a' : Act} (h : ActR D β κ a a') (dst : Option Tmp) {v v' : Value} (hv : VR D β κ v v') : ActR D β κ (a.put dst v) (a'.put dst v') := by
  cases dst with
  | none => exact h
  | some d =>
    refine ⟨?_, h.marks, h.known⟩
    show LR D β κ (a.tmps.set d v) (a'.tmps.setIfInBounds d v').toList
    rw [Array.toList_setIfInBounds]
    exact h.tmps.set d hv

theorem Out.ext' {h h' : List Blk} {w' : World} {β' : Nat → Nat × Nat} {κ' : Nat → Nat} (o : Out P D β κ base N h w h' w' β' κ') (hD : ∀ i, D i → i < h.length) : Ext D β κ β' κ' := fun i hi => o.ext i (hD i hi)

theorem ActR.out {h h' : List Blk} {w' : World} {β' : Nat → Nat × Nat} {κ' : Nat → Nat} {a : CAct} {a' : Act} (hA : ActR D β κ a a') (o : Out P D β κ base N h w h' w' β' κ') (hD : ∀ i, D i → i < h.length) :
    ActR (Up D h h') β' κ' a a' := hA.mono (fun _ h => .inl h) (o.ext' hD)

/-- A quiet operation's outcome. -/
theorem Out.of_q {h : List Blk} {q : QRes} {v' : Value} {w' : World} {β' : Nat → Nat × Nat} {κ' : Nat → Nat} (hR : Rel P D β κ base N (toF h) w) (hD : ∀ i, D i → i < h.length) (hb : base ≤ h.length)
    (hQ : QOut P D β κ base N h.length w q v' w' β' κ') (halive : ∀ k b, q.upd = some (k, b) → toF h k ≠ .dead) :
    Out P D β κ base N h w (q.heap h) w' β' κ' ∧ VR (Up D h (q.heap h)) β' κ' q.val v' := by
  have hlen : (q.heap h).length = h.length + q.new.length := by
    unfold QRes.heap
    split <;> simp
  have hU : Up D h (q.heap h) = fun i => D i ∨ InNew h.length q.new.length i := by
    funext i; unfold Up InNew; rw [hlen]
  refine ⟨⟨by omega, fun i hi => hQ.ext i (fun hn => by have := hn.1; omega), ?_, hQ.below⟩, by rw [hU]; exact hQ.val⟩
  rw [hU, toF_heap (fun k b h => (hQ.upd k b h).2.1)]
  exact hR.step hQ (fun _ h => h) (fun i hi hn => by have := hD i hi; have := hn.1; omega) hb halive

theorem wanted_sim {ops : Array Oper} {a : CAct} {a' : Act} {o : Oper} {b : Bool} (h : cWanted ops.toList a o = some b) (hA : ActR D β κ a a') : Region.wanted o (yielded ops a'.tmps) = b := by
  unfold cWanted at h
  unfold Region.wanted
  split at h
  · rename_i hg
    cases h
    rw [hg]
  · rename_i j want hg
    rw [hg]
    simp only
    unfold yielded
    simp only [Array.getElem?_toList] at h
    split at h
    · rename_i d hd
      rw [hd]
      simp only [Option.bind_some]
      rw [getT_eq] at h
      simp only [List.getD] at h
      cases hx : a.tmps[d]? with
      | none =>
        have : a'.tmps[d]? = none := by
          rw [← Array.getElem?_toList]
          exact List.getElem?_eq_none (hA.tmps.len ▸ List.getElem?_eq_none_iff.1 hx)
        rw [hx] at h
        simp [undef] at h
        rw [this, h]
        rfl
      | some v =>
        obtain ⟨v', hv, hr⟩ := hA.tmps.get hx
        rw [hx] at h
        rw [← Array.getElem?_toList, hv]
        simp only [Option.getD_some] at h
        split at h
        · cases h
          cases hr
          simp
        · cases h
        · rename_i h1 h2
          cases h
          cases hr <;> first | rfl | exact absurd rfl (h1 _) | exact absurd rfl (h2 _)
    · rename_i hd
      cases h
      rw [hd]
      rfl

/-- A region's operations in the text's order. hi: the calls that may write. -/
theorem seqOps_wp {E : Env} {r : Rec} {ro : Option Nat} {ops : Array Oper} {Q : Exit → Act → World → Prop}
    (hcall : ∀ h g args v new, callQ E r g args h = some (v, new) → PureSim E.P g args h v new)
    (himp : ∀ (h h' : List Blk) (ρ : Operand → Value) (o : Oper) (v : Value), iOp E r base h ρ o = some (v, h') →
      ∀ (D : Nat → Prop) β κ (w : World) (a' : Act) (next : Act → World → Prop), (∀ i, D i → i < h.length) → base ≤ h.length → Rel E.P D β κ base N (toF h) w → (∀ x, VR D β κ (ρ x) (a'.eval x)) →
      (∀ l, ro = some l → ∃ l0, D l0 ∧ (β l0).1 = l) →
      (∀ v' w' β' κ', Out E.P D β κ base N h w h' w' β' κ' → VR (Up D h h') β' κ' v v' → next (a'.put o.dst v') w') → o.wpIn (FW ro) 0 E.P a' w next Q) :
    ∀ (rest : List Oper) (a : CAct) (h : List Blk) (a1 : CAct) (h1 : List Blk), seqOps E r base ops.toList rest a h = some (a1, h1) →
    ∀ (D : Nat → Prop) β κ (w : World) (a' : Act), (∀ i, D i → i < h.length) → base ≤ h.length → Rel E.P D β κ base N (toF h) w → ActR D β κ a a' → (∀ l, ro = some l → ∃ l0, D l0 ∧ (β l0).1 = l) →
    (∀ β' κ' w' a1', Out E.P D β κ base N h w h1 w' β' κ' → ActR (Up D h h1) β' κ' a1 a1' → Q .normal a1' w') → wpListIn (FW ro) 0 E.P ops Q rest a' w := by
  intro rest
  induction rest with
  | nil =>
    intro a h a1 h1 hs D β κ w a' hD hb hR hA hro hQ
    cases hs
    exact hQ β κ w a' (Out.refl hR) (by rw [Up.self]; exact hA)
  | cons o rest ih =>
    intro a h a1 h1 hs D β κ w a' hD hb hR hA hro hQ
    have key : ∀ (v : Value) (h2 : List Blk) (v' : Value) (w' : World) β' κ', Out E.P D β κ base N h w h2 w' β' κ' → VR (Up D h h2) β' κ' v v' → seqOps E r base ops.toList rest (a.put o.dst v) h2 = some (a1, h1) →
        wpListIn (FW ro) 0 E.P ops Q rest (a'.put o.dst v') w' := by
      intro v h2 v' w' β' κ' hO hv hs2
      refine ih _ _ _ _ hs2 (Up D h h2) β' κ' w' _ (hO.known hD) (Nat.le_trans hb hO.le) hO.rel ((hA.out hO hD).put o.dst hv) ?_ ?_
      · intro l hl
        obtain ⟨l0, h0, e0⟩ := hro l hl
        exact ⟨l0, .inl h0, by rw [(hO.ext l0 (hD l0 h0)).1]; exact e0⟩
      · intro β2 κ2 w2 a2 hO2 hA2
        refine hQ β2 κ2 w2 a2 (hO.trans hO2) ?_
        rw [← Up.trans hO.le hO2.le]; exact hA2
    unfold seqOps at hs
    split at hs
    · rename_i hw
      have hw' := wanted_sim hw hA
      simp only [wpListIn, hw', if_true]
      split at hs
      · split at hs
        · rename_i v h2 hio
          rw [putK_eq] at hs
          exact himp h h2 a.eval o v hio D β κ w a' _ hD hb hR hA.eval hro fun v' w' β' κ' hO hv => key v h2 v' w' β' κ' hO hv hs
        · cases hs
      · split at hs
        · rename_i q hq
          rw [applyK_eq, putK_eq] at hs
          refine qOp_wp (fun g args v new hc => hcall h g args v new hc) hq hR hD hA.eval fun v' w' β' κ' hQo => ?_
          obtain ⟨hO, hv⟩ := Out.of_q hR hD hb hQo (fun k b hu => qOp_alive hq hu)
          exact key q.val _ v' w' β' κ' hO hv hs
        · cases hs
    · rename_i hw
      have hw' := wanted_sim hw hA
      simp only [wpListIn, hw', Bool.false_eq_true, if_false]
      rw [putK_eq] at hs
      exact ⟨fun _ _ => trivial, key undef h undef w β κ (Out.refl hR) (by rw [Up.self]; exact VR.undef) hs⟩
    · cases hs
end
end Go.Cl
/- Calls and rounds: a function from its body; a function that was called; a round of a loop over a function. -/
set_option linter.unusedSimpArgs false
set_option linter.unusedVariables false
namespace Go.Cl
open Go Go.RowKit

/-- What a piece of code must achieve; a loop: within m rounds. -/
def CodeWp (F : Fence) (P : Program) (m : Nat) (Q : Exit → Act → World → Prop) (c : Code) (a : Act) (w : World) : Prop :=
  match c with
  | .loop c => Code.roundsIn F 0 P c Q m a w
  | c => c.wpIn F 0 P Q a w

theorem CodeWp.wp {F : Fence} {P : Program} {m : Nat} {Q : Exit → Act → World → Prop} {c : Code} {a : Act} {w : World} (h : CodeWp F P m Q c a w) : c.wpIn F 0 P Q a w := by
  unfold CodeWp at h
  split at h
  · exact wpIn_loop_rounds m h
  · exact h

/-- The round in which the code stands, clean and real. -/
def RoR (D : Nat → Prop) (β : Nat → Nat × Nat) (ro R : Option Nat) : Prop := (ro = none ∧ R = none) ∨ ∃ l0, ro = some l0 ∧ D l0 ∧ R = some (β l0).1

def CodeSim (P : Program) (m : Nat) (ro : Option Nat) (base : Nat) (c : Code) (a : CAct) (h : List Blk) (e : Exit) (a1 : CAct) (h1 : List Blk) : Prop :=
  ∀ (D : Nat → Prop) β κ (N : Kp) (w : World) (a' : Act) (R : Option Nat) (Q : Exit → Act → World → Prop), (∀ i, D i → i < h.length) → base ≤ h.length → Rel P D β κ base N (toF h) w → ActR D β κ a a' → RoR D β ro R →
    (∀ β' κ' w' a1', Out P D β κ base N h w h1 w' β' κ' → ActR (Up D h h1) β' κ' a1 a1' → Q e a1' w') → CodeWp (FW R) P m Q c a' w

def ImpSim (P : Program) (g : FuncId) (args : List Value) (base : Nat) (h : List Blk) (v : Value) (h1 : List Blk) : Prop :=
  Enters P g ∧ ∀ (D : Nat → Prop) β κ (N : Kp) (w : World) (args' : List Value), (∀ i, D i → i < h.length) → base ≤ h.length → Rel P D β κ base N (toF h) w → LR D β κ args args' →
    Calls P g ⟨args'⟩ w fun e w' => ∃ v' β' κ', e = .returned v' ∧ Out P D β κ base N h w h1 w' β' κ' ∧ VR (Up D h h1) β' κ' v v'

structure Sound (E : Env) (m : Nat) (r : Rec) : Prop where
  pcall : ∀ g args h v new, r.pcall g args h = some (v, new) → PureSim E.P g args h v new
  icall : ∀ g args base h v h1, r.icall g args base h = some (v, h1) → ImpSim E.P g args base h v h1
  code : ∀ ro base c a h e a1 h1, r.code ro base c a h = some (e, a1, h1) → CodeSim E.P m ro base c a h e a1 h1

/-- What is told of functions is true. -/
structure SumOk (E : Env) : Prop where
  pure : ∀ g s args h v new, E.sum g = some s → s args h = some (v, new) → PureSim E.P g args h v new
  imp : ∀ g s args base h v h1, E.isum g = some s → s args base h = some (v, h1) → ImpSim E.P g args base h v h1
theorem SumOk.of {E : Env} (hI : E.isum = fun _ => none) (hp : ∀ g s args h v new, E.sum g = some s → s args h = some (v, new) → PureSim E.P g args h v new) : SumOk E :=
  ⟨hp, fun g s args base h v h1 hs => by rw [hI] at hs; cases hs⟩

theorem callQ_sound {E : Env} {m : Nat} {r : Rec} (hS : SumOk E) (hr : Sound E m r) (h : List Blk) (g : FuncId) (args : List Value) (v : Value) (new : List Blk) (hc : callQ E r g args h = some (v, new)) :
    PureSim E.P g args h v new := by
  unfold callQ at hc
  split at hc
  · rename_i p hp
    cases hc
    split at hp
    · rename_i s hs; exact hS.pure g s args h v new hs hp
    · cases hp
  · split at hc
    · cases hc
    · exact hr.pcall g args h v new hc

section
variable {P : Program} {w : World} {D : Nat → Prop} {β : Nat → Nat × Nat} {κ : Nat → Nat} {base n : Nat} {N : Kp} {H : Nat → Blk}

theorem slot_sim {a : CAct} {a' : Act} {h : List Blk} {t : TypeId} {x : Tmp} {v : Value} (hR : Rel P D β κ base N (toF h) w) (hA : ActR D β κ a a') (hl : cLoad P h t (getT a.tmps x) = some v) :
    ∃ v', (do loadVar t (← asAddr (a'.tmps.getD x undef))).run P w = .ok v' w ∧ VR D β κ v v' := by
  have hx : VR D β κ (getT a.tmps x) (a'.tmps.getD x undef) := hA.eval (.tmp x)
  obtain ⟨v', h1, h2⟩ := load_sim hl hR hx
  refine ⟨v', ?_, h2⟩
  generalize a'.tmps.getD x undef = av at h1 hx
  generalize getT a.tmps x = cv at hl hx
  unfold cLoad at hl
  split at hl
  · cases hx with
    | ptr i o hi => simpa [Instr.loadAt, Instr.sureAddr, asAddr] using h1
  · cases hl

def slotRun (tmps : Array Value) : ResultVar → Sem Value
  | .tmp t => pure (tmps.getD t undef)
  | .cell x t => do loadVar t (← asAddr (tmps.getD x undef))
theorem results_eq (fn : Func) (tmps : Array Value) : results fn tmps = (do let vs ← fn.results.mapM (slotRun tmps); pure (if h : vs.size = 1 then vs[0] else .tuple vs)) := rfl

theorem results_list {a : CAct} {a' : Act} {h : List Blk} (hR : Rel P D β κ base N (toF h) w) (hA : ActR D β κ a a') : ∀ (l : List ResultVar) (vs : List Value),
    l.mapM (fun | .tmp t => some (getT a.tmps t) | .cell x t => cLoad P h t (getT a.tmps x)) = some vs →
    ∃ vs', (l.mapM (slotRun a'.tmps)).run P w = .ok vs' w ∧ LR D β κ vs vs'
  | [], vs, h => by simp at h; subst h; exact ⟨[], by simp, .nil⟩
  | s :: l, vs, hm => by
    rw [List.mapM_cons] at hm
    cases s with
    | tmp t =>
      simp only [Option.pure_def, Option.bind_eq_bind, Option.bind_some] at hm
      cases hrest : l.mapM (fun | .tmp t => some (getT a.tmps t) | .cell x t => cLoad P h t (getT a.tmps x)) with
      | none => rw [hrest] at hm; cases hm
      | some us =>
        rw [hrest] at hm
        cases hm
        obtain ⟨us', h1, h2⟩ := results_list hR hA l us hrest
        refine ⟨a'.tmps.getD t undef :: us', ?_, LR.cons (hA.eval (.tmp t)) h2⟩
        rw [List.mapM_cons]
        simp only [slotRun, Sem.run_bind, Sem.run_pure, Result.andThen_ok, h1]
    | cell x t =>
      simp only [Option.pure_def, Option.bind_eq_bind] at hm
      cases hl : cLoad P h t (getT a.tmps x) with
      | none => rw [hl] at hm; cases hm
      | some v =>
        rw [hl] at hm
        simp only [Option.bind_some] at hm
        cases hrest : l.mapM (fun | .tmp t => some (getT a.tmps t) | .cell x t => cLoad P h t (getT a.tmps x)) with
        | none => rw [hrest] at hm; cases hm
        | some us =>
          rw [hrest] at hm
          cases hm
          obtain ⟨us', h1, h2⟩ := results_list hR hA l us hrest
          obtain ⟨v', h3, h4⟩ := slot_sim hR hA hl
          refine ⟨v' :: us', ?_, LR.cons h4 h2⟩
          rw [List.mapM_cons, Sem.run_bind, show (slotRun a'.tmps (.cell x t)).run P w = _ from h3]
          simp only [Sem.run_bind, Sem.run_pure, Result.andThen_ok, h1]

theorem results_sim {fn : Func} {a : CAct} {a' : Act} {h : List Blk} {v : Value} (hR : Rel P D β κ base N (toF h) w) (hA : ActR D β κ a a') (hc : cResults P fn a h = some v) :
    ∃ v', (results fn a'.tmps).run P w = .ok v' w ∧ VR D β κ v v' := by
  unfold cResults at hc
  generalize hm : fn.results.toList.mapM (m := Option) _ = m at hc
  cases m with
  | none => cases hc
  | some vs =>
    obtain ⟨vs', h1, h2⟩ := results_list hR hA _ _ hm
    have hrun2 : (results fn a'.tmps).run P w = (pure (if h : (⟨vs'⟩ : Array Value).size = 1 then (⟨vs'⟩ : Array Value)[0] else .tuple ⟨vs'⟩) : Sem Value).run P w := by
      rw [results_eq, Array.mapM_eq_mapM_toList, Sem.run_bind, Sem.run_map, h1]
      rfl
    rw [hrun2]
    split at hc
    · rename_i v1 heq
      cases hc
      cases heq
      obtain ⟨v', l', rfl, hv, hl⟩ := h2.uncons
      cases hl.unnil
      exact ⟨v', by simp, hv⟩
    · rename_i us hne heq
      cases hc
      cases heq
      have hne' : ¬ vs'.length = 1 := by
        rw [← h2.len]
        intro h1
        obtain ⟨x, hx⟩ := List.length_eq_one_iff.1 h1
        exact hne x (by rw [hx])
      exact ⟨.tuple ⟨vs'⟩, by simp [hne'], .tuple _ _ h2.len h2.at_⟩
    · rename_i heq; cases heq
end
end Go.Cl
/- Functions that end; what is kept of a pure call's blocks. -/
set_option linter.unusedSimpArgs false
set_option linter.unusedVariables false
namespace Go.Cl
open Go Go.RowKit

section
variable {P : Program} {w : World} {D : Nat → Prop} {β : Nat → Nat × Nat} {κ : Nat → Nat} {base n : Nat} {N : Kp} {H : Nat → Blk}

/-- A block is written. -/
theorem Out.put {h : List Blk} {r : Nat} {b b0 : Blk} {o o0 : Obj} (hR : Rel P D β κ base N (toF h) w) (hD : ∀ i, D i → i < h.length) (hb : base ≤ h.length) (hbr : base ≤ r) (hr : h[r]? = some b0) (ha : b0 ≠ .dead)
    (h0 : w.heap[(β r).1]? = some o0) (hB : ∀ w' : World, w'.heap[(β r).1]? = some o → BR P D β κ r b w' ∧ OwnB P β κ r b w') :
    Out P D β κ base N h w (h.set r b) (w.putObj (β r).1 o) β κ := by
  have hrl : r < h.length := (List.getElem?_eq_some_iff.1 hr).1
  have halive : toF h r ≠ .dead := by rw [toF_some hr]; exact ha
  have hq := QOut.put (P := P) (D := D) (β := β) (κ := κ) (n := h.length) (v := undef) (v' := undef) (b := b) (o := o) hR hbr hrl halive h0
    (fun w' hw' => ⟨(hB w' hw').1.move (fun _ h => .inl h) Ext.refl rfl rfl, (hB w' hw').2⟩) VR.undef
  have := (Out.of_q hR hD hb hq (fun k b' e => by cases e; exact halive)).1
  have e : (QRes.heap { val := undef, upd := some (r, b) } h) = h.set r b := by simp [QRes.heap]
  rw [e] at this
  exact this

theorem Out.up_same {h h1 : List Blk} (hl : h1.length = h.length) : Up D h h1 = D := by
  funext i; unfold Up; apply propext
  constructor
  · rintro (h | h)
    · exact h
    · omega
  · exact .inl

/-- The blocks for rounds' deferred calls are shut. -/
theorem leave_marks {fn : Func} {tmps : Array Value} {R : Ending → World → Prop} : ∀ (ms : List Nat) (h h2 : List Blk), shutMarks base ms h = some h2 →
    ∀ (w : World), (∀ i, D i → i < h.length) → base ≤ h.length → Rel P D β κ base N (toF h) w →
    (∀ w', Out P D β κ base N h w h2 w' β κ → h2.length = h.length → ∃ v, (results fn tmps).run P w' = .ok v w' ∧ R (.returned v) w') →
    LeavesInM (FW none) 0 P fn tmps R (ms.map fun m => { target := .collected (β m).1, args := #[] }) .returning w
  | [], h, h2, hs, w, hD, hb, hR, hK => by
    cases hs
    exact hK w (Out.refl hR) rfl
  | m :: ms, h, h2, hs, w, hD, hb, hR, hK => by
    unfold shutMarks at hs
    split at hs
    · rename_i hm
      split at hs
      · rename_i hbm
        have hB := hR.blk m
        rw [toF_some hm] at hB
        have hB : w.heap[(β m).1]? = some (.deferred (some [])) := hB
        have hO := Out.put (b := .dead) (o := .deferred none) hR hD hb hbm hm (by simp) hB (fun w' _ => ⟨trivial, trivial⟩)
        have hU : Up D h (h.set m .dead) = D := Out.up_same (by simp)
        have hR2 := hO.rel
        rw [hU] at hR2
        refine ⟨by simp, .inl ⟨(β m).1, _, rfl, run_takeDeferred hB, ?_⟩⟩
        refine leave_marks ms _ h2 hs _ (by simpa using hD) (by simpa using hb) hR2 fun w' hO2 hl => ?_
        refine hK w' (hO.trans (by rw [hU]; exact hO2)) (by simpa using hl)
      · cases hs
    · cases hs

/-- A function, out of its body. -/
theorem runBody_sound {E : Env} {m : Nat} {r : Rec} (hr : Sound E m r) {base : Nat} {g : FuncId} {args : List Value} {h : List Blk} {v : Value} {h1 : List Blk} (hs : runBody E r base g args h = some (v, h1)) :
    ImpSim E.P g args base h v h1 := by
  unfold runBody at hs
  split at hs
  · rename_i fn hfn
    split at hs
    · rename_i c hc
      split at hs
      · cases hs
      · rename_i hname
        have hname : (fn.name == "runtime.NumGoroutine") = false := by simpa using hname
        have hcode : (if E.strict then forceList forceV args fun args => appK args (List.replicate (fn.ntmps - args.length) undef) fun l => r.code none base c { tmps := l } h
            else r.code none base c { tmps := args ++ List.replicate (fn.ntmps - args.length) undef } h) = r.code none base c { tmps := args ++ List.replicate (fn.ntmps - args.length) undef } h := by
          split
          · rw [forceList_eq forceV_eq, appK_eq]
          · rfl
        rw [hcode] at hs
        refine ⟨⟨fn, c, hfn, hc, hname⟩, fun D β κ N w args' hD hb hR hargs => ?_⟩
        have start : ActR D β κ { tmps := args ++ List.replicate (fn.ntmps - args.length) undef } { tmps := (⟨args'⟩ : Array Value) ++ Array.replicate (fn.ntmps - (⟨args'⟩ : Array Value).size) undef, defers := [] } := by
          refine ⟨?_, rfl, fun m hm => by simp at hm⟩
          have := hargs.app (LR.rep (fn.ntmps - args.length) (VR.undef (D := D) (β := β) (κ := κ)))
          rw [hargs.len] at this ⊢
          simpa using this
        have go : ∀ e a hx, r.code none base c { tmps := args ++ List.replicate (fn.ntmps - args.length) undef } h = some (e, a, hx) → (e = .normal ∨ e = .ret) →
            (match shutMarks base a.marks hx with | some h2 => (cResults E.P fn a h2).map fun v => (v, h2) | none => none) = some (v, h1) →
            Calls E.P g ⟨args'⟩ w fun e w' => ∃ v' β' κ', e = .returned v' ∧ Out E.P D β κ base N h w h1 w' β' κ' ∧ VR (Up D h h1) β' κ' v v' := by
          intro e a hx hco he hs
          refine callsIn_FW.1 (callsIn_of_wp_marks (F := FW none) (n := 0) hfn hc trivial (CodeWp.wp (m := m) ?_))
          refine hr.code none base c _ h e a hx hco D β κ N w _ none _ hD hb hR start (.inl ⟨rfl, rfl⟩) fun β' κ' w' a1' hO hA => ?_
          have leaves : LeavesInM (FW none) 0 E.P fn a1'.tmps (fun e w' => ∃ v' β' κ', e = .returned v' ∧ Out E.P D β κ base N h w h1 w' β' κ' ∧ VR (Up D h h1) β' κ' v v') a1'.defers .returning w' := by
            split at hs
            · rename_i h2 hsh
              cases hres : cResults E.P fn a h2 with
              | none => rw [hres] at hs; cases hs
              | some v0 =>
                rw [hres] at hs
                cases hs
                rw [hA.marks]
                refine leave_marks a.marks hx h1 hsh w' (hO.known hD) (Nat.le_trans hb hO.le) hO.rel fun w2 hO2 hl => ?_
                have hU : Up (Up D h hx) hx h1 = Up D h hx := Out.up_same hl
                have hR2 := hO2.rel
                rw [hU] at hR2
                obtain ⟨v', h3, h4⟩ := results_sim hR2 hA hres
                refine ⟨v', h3, v', β', κ', rfl, hO.trans hO2, ?_⟩
                have : Up D h h1 = Up D h hx := by rw [← hU, Up.trans hO.le hO2.le]
                rw [this]; exact h4
            · cases hs
          rcases he with rfl | rfl <;> exact leaves
        split at hs
        · rename_i a hx hco; exact go _ _ _ hco (.inl rfl) hs
        · rename_i a hx hco; exact go _ _ _ hco (.inr rfl) hs
        · cases hs
    · cases hs
  · cases hs
end
end Go.Cl
/- What is kept of a pure call's blocks. -/
set_option linter.unusedSimpArgs false
set_option linter.unusedVariables false
namespace Go.Cl
open Go Go.RowKit

theorem nodup_dups : ∀ (n : Nat) (l : List Nat), l.length ≤ n → l.eraseDups.Nodup
  | _, [], _ => by simp
  | 0, _ :: _, h => by simp at h
  | n + 1, a :: l, h => by
    rw [List.eraseDups_cons, List.nodup_cons]
    refine ⟨fun hm => ?_, nodup_dups n _ (Nat.le_trans (List.length_filter_le _ _) (by simpa using h))⟩
    rw [List.mem_eraseDups, List.mem_filter] at hm
    simp at hm

section
variable {D D2 : Nat → Prop} {β β2 : Nat → Nat × Nat} {κ κ2 : Nat → Nat} {n : Nat} {f : Nat → Nat} {ok : Nat → Prop}

/-- Blocks are called by other numbers. -/
def Ren (D : Nat → Prop) (β : Nat → Nat × Nat) (κ : Nat → Nat) (D2 : Nat → Prop) (β2 : Nat → Nat × Nat) (κ2 : Nat → Nat) (f : Nat → Nat) (ok : Nat → Prop) : Prop :=
  ∀ i, D i → ok i → D2 (f i) ∧ β2 (f i) = β i ∧ κ2 (f i) = κ i

theorem ren_leaf (hf : Ren D β κ D2 β2 κ2 f ok) {v v' : Value} (h : VR D β κ v v') (hp : plainLeaf v = true) (hr : ∀ i, (i < n ∨ i ∈ refsLeaf n v) → ok i) : VR D2 β2 κ2 (renLeaf f v) v' := by
  have okb : ∀ i, (n ≤ i → i ∈ refsLeaf n v) → ok i := fun i hi => by
    by_cases hl : i < n
    · exact hr i (.inl hl)
    · exact hr i (.inr (hi (by omega)))
  cases h with
  | ptr i o hi =>
    obtain ⟨h1, h2, h3⟩ := hf i hi (okb i fun hn => by simp [refsLeaf, hn])
    have := VR.ptr (β := β2) (κ := κ2) (f i) o h1
    rw [h2] at this
    exact this
  | slice i o l c hi hlc hc =>
    obtain ⟨h1, h2, h3⟩ := hf i hi (okb i fun hn => by simp [refsLeaf, hn])
    have := VR.slice (β := β2) (κ := κ2) (f i) o l c h1 hlc hc
    rw [h2] at this
    exact this
  | sliceU i o l q hi hq hk =>
    obtain ⟨h1, h2, h3⟩ := hf i hi (okb i fun hn => by simp [refsLeaf, hn])
    have := VR.sliceU (β := β2) (κ := κ2) (f i) o l q h1 (by rw [h3]; exact hq) (by rw [h3]; exact hk)
    rw [h2, h3] at this
    exact this
  | sliceE i o q a hq => exact .sliceE (f i) o q a hq
  | sliceZ i o a => exact .sliceZ (f i) o a
  | sliceA i o l C c hi hC hlc hc =>
    obtain ⟨h1, h2, h3⟩ := hf i hi (okb i fun hn => by simp [refsLeaf, hn])
    have := VR.sliceA (β := β2) (κ := κ2) (f i) o l C c h1 hC hlc hc
    rw [h2] at this
    exact this
  | sliceAN i o C a hC => exact .sliceAN (f i) o C a hC
  | map i hi =>
    obtain ⟨h1, h2, h3⟩ := hf i hi (okb i fun hn => by simp [refsLeaf, hn])
    have := VR.map (β := β2) (κ := κ2) (f i) h1
    rw [h2] at this
    exact this
  | _ => first | (simp [plainLeaf] at hp; done) | (simp only [renLeaf]; constructor)

theorem ren_one (hf : Ren D β κ D2 β2 κ2 f ok) {v v' : Value} (h : VR D β κ v v') (hp : plain1 v = true) (hr : ∀ i, (i < n ∨ i ∈ refs1 n v) → ok i) : VR D2 β2 κ2 (ren1 f v) v' := by
  have h0 := h
  cases h with
  | agg l l' hl hl' =>
    refine .agg _ l' (by simpa using hl) fun j x x' hx hx' => ?_
    simp only [List.getElem?_map] at hx
    cases hy : l[j]? with
    | none => rw [hy] at hx; cases hx
    | some y =>
      rw [hy] at hx
      cases hx
      have hm := List.mem_of_getElem? hy
      refine ren_leaf (n := n) hf (hl' j y x' hy hx') (List.all_eq_true.1 hp y hm) fun i hi => hr i ?_
      rcases hi with hi | hi
      · exact .inl hi
      · exact .inr (List.mem_flatMap.2 ⟨y, hm, hi⟩)
  | _ => exact ren_leaf hf h0 (by simpa [plain1] using hp) (fun i hi => hr i hi)

theorem ren_val (hf : Ren D β κ D2 β2 κ2 f ok) {v v' : Value} (h : VR D β κ v v') (hp : plainV v = true) (hr : ∀ i, (i < n ∨ i ∈ refs n v) → ok i) : VR D2 β2 κ2 (renV f v) v' := by
  have h0 := h
  cases h with
  | tuple l l' hl hl' =>
    refine .tuple _ l' (by simpa using hl) fun j x x' hx hx' => ?_
    simp only [List.getElem?_map] at hx
    cases hy : l[j]? with
    | none => rw [hy] at hx; cases hx
    | some y =>
      rw [hy] at hx
      cases hx
      have hm := List.mem_of_getElem? hy
      refine ren_one (n := n) hf (hl' j y x' hy hx') (List.all_eq_true.1 hp y hm) fun i hi => hr i ?_
      rcases hi with hi | hi
      · exact .inl hi
      · exact .inr (List.mem_flatMap.2 ⟨y, hm, hi⟩)
  | agg l l' hl hl' => exact ren_one hf h0 (by simpa [plainV] using hp) (fun i hi => hr i hi)
  | _ => exact ren_one hf h0 (by simpa [plainV] using hp) (fun i hi => hr i hi)

end

section
variable {P : Program} {w w' : World} {D : Nat → Prop} {β β1 : Nat → Nat × Nat} {κ κ1 : Nat → Nat} {h h1 : List Blk} {v v' : Value}

theorem refs_ge {n : Nat} : ∀ (v : Value), ∀ i ∈ refs n v, n ≤ i := by
  have leaf : ∀ (v : Value), ∀ i ∈ refsLeaf n v, n ≤ i := by
    intro v i hi
    unfold refsLeaf at hi
    split at hi
    · split at hi
      · simp at hi; omega
      · simp at hi
    · split at hi
      · simp at hi; omega
      · simp at hi
    · split at hi
      · simp at hi; omega
      · simp at hi
    · simp at hi
  have one : ∀ (v : Value), ∀ i ∈ refs1 n v, n ≤ i := by
    intro v i hi
    unfold refs1 at hi
    split at hi
    · obtain ⟨x, _, hx⟩ := List.mem_flatMap.1 hi; exact leaf x i hx
    · exact leaf _ i hi
  intro v i hi
  unfold refs at hi
  split at hi
  · obtain ⟨x, _, hx⟩ := List.mem_flatMap.1 hi; exact one x i hx
  · exact one _ i hi

/-- A block that speaks of no other. -/
theorem BR.flat {D2 : Nat → Prop} {β2 : Nat → Nat × Nat} {κ2 : Nat → Nat} {i j : Nat} {b : Blk} (hb : blkFlat b = true) (hB : BR P D β κ i b w) (hj : β2 j = β i) : BR P D2 β2 κ2 j b w := by
  cases b with
  | cells t vs =>
    obtain ⟨arr, T, fz, g1, g2⟩ := hB
    refine ⟨arr, T, fz, by rw [hj]; exact g1, fun k x hx => ?_⟩
    obtain ⟨x', g3, g4⟩ := g2 k x hx
    have hxf : isFlat x = true := List.all_eq_true.1 hb x (List.mem_of_getElem? hx)
    rw [g4.flat hxf] at g3
    exact ⟨x, by rw [hj]; exact g3, .of_flat hxf⟩
  | map kt es => obtain ⟨arr, clock, g1, g2⟩ := hB; exact ⟨arr, clock, by rw [hj]; exact g1, g2⟩
  | _ => simp [blkFlat] at hb
theorem OwnB.flat {β2 : Nat → Nat × Nat} {κ2 : Nat → Nat} {i j : Nat} {b : Blk} (hB : OwnB P β κ i b w) (hj : β2 j = β i ∧ κ2 j = κ i) : OwnB P β2 κ2 j b w := by
  cases b with
  | cells t vs => obtain ⟨arr, T, g1, g2⟩ := hB; exact ⟨arr, T, by rw [hj.1]; exact g1, by rw [hj.1, hj.2]; exact g2⟩
  | _ => trivial

theorem tidy_sound (hD : ∀ i, D i → i < h.length) (hO : Out P D β κ h.length (Kp.under w.heap.size) h w h1 w' β1 κ1) (hv : VR (Up D h h1) β1 κ1 v v') :
    ∃ β2 κ2, QOut P D β κ h.length (Kp.under w.heap.size) h.length w { val := (tidy h.length v h1).1, new := (tidy h.length v h1).2 } v' w' β2 κ2 := by
  unfold tidy
  split
  · rename_i hf
    refine ⟨β, κ, { ext := fun _ _ => ⟨rfl, rfl⟩, val := ?_, below := hO.below, keep := fun B hB _ => hO.below.block B hB, new := fun j b hj => by simp at hj, inj := fun i j b c hi => by simp at hi, upd := fun k b hk => by cases hk }⟩
    rw [hv.flat hf]; exact .of_flat hf
  · simp only
    split
    · -- what the value leads to
      rename_i hc
      simp only [Bool.and_eq_true, List.all_eq_true] at hc
      obtain ⟨hp, hall⟩ := hc
      generalize hids : (refs h.length v).eraseDups = ids at hall
      have hnd : ids.Nodup := by rw [← hids]; exact nodup_dups _ _ (Nat.le_refl _)
      have hge : ∀ i ∈ ids, h.length ≤ i := fun i hi => refs_ge v i (by rw [← hids, List.mem_eraseDups] at hi; exact hi)
      have hblk : ∀ i ∈ ids, ∃ b, h1[i]? = some b ∧ blkFlat b = true := fun i hi => by
        have := hall i hi
        split at this
        · exact ⟨_, ‹_›, this⟩
        · cases this
      have hlen : (ids.map fun i => h1.getD i .dead).length = ids.length := by simp
      refine ⟨fun i => if h.length ≤ i ∧ i < h.length + ids.length then β1 (ids.getD (i - h.length) 0) else β i, fun i => if h.length ≤ i ∧ i < h.length + ids.length then κ1 (ids.getD (i - h.length) 0) else κ i, ?_⟩
      have hnew : ∀ (j i : Nat), ids[j]? = some i → (if h.length ≤ h.length + j ∧ h.length + j < h.length + ids.length then β1 (ids.getD (h.length + j - h.length) 0) else β (h.length + j)) = β1 i ∧
          (if h.length ≤ h.length + j ∧ h.length + j < h.length + ids.length then κ1 (ids.getD (h.length + j - h.length) 0) else κ (h.length + j)) = κ1 i := by
        intro j i hj
        have hjl := (List.getElem?_eq_some_iff.1 hj).1
        have e : h.length + j - h.length = j := by omega
        rw [if_pos ⟨by omega, by omega⟩, if_pos ⟨by omega, by omega⟩, e]
        simp [List.getD, hj]
      have hmapat : ∀ (j : Nat) (b : Blk), (ids.map fun i => h1.getD i .dead)[j]? = some b → ∃ i, ids[j]? = some i ∧ h1[i]? = some b ∧ blkFlat b = true ∧ h.length ≤ i := by
        intro j b hj
        rw [List.getElem?_map] at hj
        cases hi : ids[j]? with
        | none => rw [hi] at hj; cases hj
        | some i =>
          rw [hi] at hj
          cases hj
          obtain ⟨b, hb, hbf⟩ := hblk i (List.mem_of_getElem? hi)
          exact ⟨i, rfl, by simp [List.getD, hb], by simp only [List.getD, hb]; exact hbf, hge i (List.mem_of_getElem? hi)⟩
      refine { ext := fun i hi => ?_, val := ?_, below := hO.below, keep := fun B hB _ => hO.below.block B hB, new := fun j b hj hb => ?_, inj := fun i j b c hi hj hb hc he => ?_, upd := fun k b hk => by cases hk }
      · have : ¬ (h.length ≤ i ∧ i < h.length + ids.length) := fun hn => hi ⟨hn.1, by simpa using hn.2⟩
        simp only [if_neg this, and_self]
      · refine ren_val (n := h.length) (ok := fun i => i < h.length ∨ i ∈ ids) (fun i hi hok => ?_) hv hp (fun i hi => hi.imp id fun hi => by rw [← hids, List.mem_eraseDups]; exact hi)
        by_cases hil : i < h.length
        · have hDi : D i := by
            rcases hi with hi | hi
            · exact hi
            · omega
          have hx := hO.ext i hil
          have : ¬ (h.length ≤ i ∧ i < h.length + ids.length) := by omega
          simp only [if_pos hil, if_neg this]
          exact ⟨.inl hDi, hx.1.symm, hx.2.symm⟩
        · have him : i ∈ ids := hok.resolve_left hil
          have hidx : ids.idxOf i < ids.length := List.idxOf_lt_length_iff.2 him
          have hat : ids[ids.idxOf i]? = some i := by rw [List.getElem?_eq_getElem hidx, List.getElem_idxOf]
          simp only [if_neg hil]
          exact ⟨.inr ⟨by omega, by rw [hlen]; omega⟩, hnew _ _ hat⟩
      · obtain ⟨i, hi, hbi, hbf, hge⟩ := hmapat j b hj
        obtain ⟨e1, e2⟩ := hnew j i hi
        have hB := hO.rel.blk i
        have hOw := hO.rel.own i (by rw [toF_some hbi]; exact hb) hge
        rw [toF_some hbi] at hB hOw
        refine ⟨hB.flat hbf e1, hOw.2.flat ⟨e1, e2⟩, ?_, .inl ?_⟩
        · simp only [e1]; exact hOw.1
        · simp only [e1]; exact (Kp.under.le hOw.1)
      · obtain ⟨i1, h11, h12, h13, h14⟩ := hmapat i b hi
        obtain ⟨j1, h21, h22, h23, h24⟩ := hmapat j c hj
        simp only [(hnew i i1 h11).1, (hnew j j1 h21).1] at he
        have := hO.rel.inj i1 j1 (by rw [toF_some h12]; exact hb) (by rw [toF_some h22]; exact hc) h14 h24 he
        subst this
        exact (List.getElem?_inj (List.getElem?_eq_some_iff.1 h11).1 hnd).1 (h11.trans h21.symm)
    · -- all
      have hle := hO.le
      have hlen : (h1.drop h.length).length = h1.length - h.length := by simp
      have hU : ∀ i, Up D h h1 i → (D i ∨ InNew h.length (h1.drop h.length).length i) := by
        rintro i (hi | hi)
        · exact .inl hi
        · exact .inr ⟨hi.1, by rw [hlen]; omega⟩
      have hlt : ∀ i, Up D h h1 i → i < h1.length := hO.known hD
      refine ⟨fun i => if i < h1.length then β1 i else β i, fun i => if i < h1.length then κ1 i else κ i, ?_⟩
      have hE : Ext (Up D h h1) β1 κ1 (fun i => if i < h1.length then β1 i else β i) (fun i => if i < h1.length then κ1 i else κ i) := fun i hi => by simp [hlt i hi]
      refine { ext := fun i hi => ?_, val := hv.mono hU hE, below := hO.below, keep := fun B hB _ => hO.below.block B hB, new := fun j b hj hb => ?_, inj := fun i j b c hi hj hb hc he => ?_, upd := fun k b hk => by cases hk }
      · by_cases hil : i < h1.length
        · have : i < h.length := by
            apply Classical.byContradiction
            intro hn
            exact hi ⟨by omega, by rw [hlen]; omega⟩
          simp only [if_pos hil]
          exact hO.ext i this
        · simp [hil]
      · rw [List.getElem?_drop] at hj
        have hjl := (List.getElem?_eq_some_iff.1 hj).1
        have hB := hO.rel.blk (h.length + j)
        have hOw := hO.rel.own (h.length + j) (by rw [toF_some hj]; exact hb) (by omega)
        rw [toF_some hj] at hB hOw
        have e1 : (if h.length + j < h1.length then β1 (h.length + j) else β (h.length + j)) = β1 (h.length + j) := by simp [hjl]
        have e2 : (if h.length + j < h1.length then κ1 (h.length + j) else κ (h.length + j)) = κ1 (h.length + j) := by simp [hjl]
        refine ⟨hB.move hU hE e1 rfl, hOw.2.move ⟨e1, e2⟩ rfl, ?_, .inl ?_⟩
        · simp only [e1]; exact hOw.1
        · simp only [e1]; exact (Kp.under.le hOw.1)
      · rw [List.getElem?_drop] at hi hj
        have hil := (List.getElem?_eq_some_iff.1 hi).1
        have hjl := (List.getElem?_eq_some_iff.1 hj).1
        simp only [if_pos hil, if_pos hjl] at he
        have := hO.rel.inj (h.length + i) (h.length + j) (by rw [toF_some hi]; exact hb) (by rw [toF_some hj]; exact hc) (by omega) (by omega) he
        omega

/-- A PURE CALL. -/
theorem pure_of_imp {E : Env} {g : FuncId} {args : List Value} (hs : ImpSim E.P g args h.length h v h1) : PureSim E.P g args h (tidy h.length v h1).1 (tidy h.length v h1).2 := by
  refine ⟨hs.1, fun D β κ w args' hD hR ha => Calls.mono (hs.2 D β κ (Kp.under w.heap.size) w args' hD (Nat.le_refl _) hR ha) ?_⟩
  rintro e w' ⟨v', β1, κ1, rfl, hO, hv⟩
  obtain ⟨β2, κ2, hQ⟩ := tidy_sound hD hO hv
  exact ⟨v', β2, κ2, rfl, hQ⟩
end
end Go.Cl
/- Calls that may write; rounds of a loop over a function. -/
set_option linter.unusedSimpArgs false
set_option linter.unusedVariables false
namespace Go.Cl
open Go Go.RowKit

section
variable {P : Program} {w : World} {D : Nat → Prop} {β : Nat → Nat × Nat} {κ : Nat → Nat} {base n : Nat} {N : Kp} {H : Nat → Blk}

theorem setAll_sim : ∀ (params : List Tmp) (args args' tmps : List Value) (t' : Array Value), LR D β κ args args' → LR D β κ tmps t'.toList → args.length = params.length →
    LR D β κ (setAll params args tmps) ((params.zip args').foldl (fun tmps (x : Tmp × Value) => tmps.setIfInBounds x.1 x.2) t').toList
  | [], args, args', tmps, t', ha, ht, hl => by
    have : args = [] := List.length_eq_zero_iff.1 hl
    subst this
    simpa [setAll] using ht
  | p :: ps, [], args', tmps, t', ha, ht, hl => by simp at hl
  | p :: ps, v :: vs, args', tmps, t', ha, ht, hl => by
    obtain ⟨v', l', rfl, hv, hl'⟩ := ha.uncons
    simp only [setAll, List.zip_cons_cons, List.foldl_cons]
    refine setAll_sim ps vs l' _ _ hl' ?_ (by simpa using hl)
    rw [Array.toList_setIfInBounds]
    exact ht.set p hv

/-- The record of a loop over a function is written. -/
theorem Out.loop {h : List Blk} {l : Nat} {t : List Value} {ps : List Tmp} {as body : Code} {st st2 : LoopState} {pend pend2 : Option Code} (hR : Rel P D β κ base N (toF h) w) (hD : ∀ i, D i → i < h.length) (hb : base ≤ h.length)
    (hbl : base ≤ l) (hl : h[l]? = some (.loop t ps as body st pend)) :
    ∃ r : Loop, w.heap[(β l).1]? = some (.loop r) ∧ r.state = st ∧ r.pending = pend ∧ r.params.toList = ps ∧ r.assign = as ∧ r.body = body ∧ LR D β κ t r.tmps.toList ∧
      Out P D β κ base N h w (h.set l (.loop t ps as body st2 pend2)) (w.putObj (β l).1 (.loop { r with state := st2, pending := pend2 })) β κ ∧
      ∀ o, Out P D β κ base N h w (h.set l .dead) (w.putObj (β l).1 o) β κ := by
  have hB := hR.blk l
  rw [toF_some hl] at hB
  obtain ⟨r, h1, h2, h3, h4, h5, h6, h7⟩ := hB
  refine ⟨r, h1, h2, h3, h4, h5, h6, h7, Out.put hR hD hb hbl hl (by simp) h1 fun w' hw' => ⟨⟨_, hw', rfl, rfl, h4, h5, h6, h7⟩, trivial⟩, fun o => Out.put hR hD hb hbl hl (by simp) h1 fun w' hw' => ⟨trivial, trivial⟩⟩

theorem RoR.out {ro R : Option Nat} {h h1 : List Blk} {w1 : World} {β1 : Nat → Nat × Nat} {κ1 : Nat → Nat} (hr : RoR D β ro R) (hO : Out P D β κ base N h w h1 w1 β1 κ1) (hD : ∀ i, D i → i < h.length) : RoR (Up D h h1) β1 ro R := by
  rcases hr with hr | ⟨l0, h1, h2, h3⟩
  · exact .inl hr
  · exact .inr ⟨l0, h1, .inl h2, by rw [(hO.ext l0 (hD l0 h2)).1]; exact h3⟩

theorem wp_of_round {ro : Option Nat} {o : Oper} {a' : Act} {next : Act → World → Prop} {Q : Exit → Act → World → Prop} {l : Nat} {f : FuncId} {tmps : Array Value} {assign body : Code} {w' : World} (hnd : ∀ c, o.op ≠ .defer c)
    (hrun : (execOp a'.eval o).run P w = .ok (.round l f tmps assign body) w') (h : RoundIn (FW ro) 0 P l f tmps assign body w' fun e w'' => ∃ v, e = .returned v ∧ next (a'.put o.dst v) w'') : o.wpIn (FW ro) 0 P a' w next Q := by
  refine ⟨fun _ _ => trivial, ?_⟩
  rw [Oper.semAt_eq _ _ _ hnd, hrun, Oper.uponIn_round]
  refine ⟨fun h => by simp [FW] at h, RoundIn.mono h ?_⟩
  rintro e w'' ⟨v, rfl, hn⟩
  exact hn

/-- A ROUND. -/
theorem yield_sound {E : Env} {m : Nat} {r : Rec} (hr : Sound E m r) {h h3 : List Blk} {l : Nat} {args args' : List Value} {v : Value} {ro : Option Nat} {R : Ending → World → Prop} (hs : cYield r base h l args = some (v, h3))
    (hD : ∀ i, D i → i < h.length) (hb : base ≤ h.length) (hR : Rel E.P D β κ base N (toF h) w) (hDl : D l) (ha : LR D β κ args args')
    (hK : ∀ v' w' β' κ', Out E.P D β κ base N h w h3 w' β' κ' → VR (Up D h h3) β' κ' v v' → R (.returned v') w') :
    ∃ f tmps assign body, (Instr.yield (β l).1 ⟨args'⟩).run E.P w = .ok (.round (β l).1 f tmps assign body) w ∧ RoundIn (FW ro) 0 E.P (β l).1 f tmps assign body w R := by
  unfold cYield at hs
  split at hs
  · rename_i tmps params assign body hl
    split at hs
    · rename_i hc
      obtain ⟨hbl, hal⟩ := hc
      split at hs
      · rename_i a1 h1 hassign
        obtain ⟨rec, g1, g2, g3, g4, g5, g6, g7, _, _⟩ := Out.loop (st2 := .ready) (pend2 := none) hR hD hb hbl hl
        have hsz : (⟨args'⟩ : Array Value).size = rec.params.size := by
          have : rec.params.size = params.length := by rw [← g4]; simp
          rw [this, ← hal, ha.len]
          rfl
        refine ⟨rec.fn, _, rec.assign, rec.body, run_yield g1 hsz, roundIn_of_wpIn (F := FW ro) trivial ?_⟩
        rw [g5, g6]
        have ht := setAll_sim params args args' tmps rec.tmps ha g7 hal
        have e1 : (rec.params.zip (⟨args'⟩ : Array Value)).foldl (fun tmps (x : Tmp × Value) => tmps.setIfInBounds x.1 x.2) rec.tmps = (params.zip args').foldl (fun tmps (x : Tmp × Value) => tmps.setIfInBounds x.1 x.2) rec.tmps := by
          rw [← Array.foldl_toList, Array.toList_zip, g4]
        have act0 : ActR D β κ { tmps := setAll params args tmps } { tmps := (rec.params.zip (⟨args'⟩ : Array Value)).foldl (fun tmps (x : Tmp × Value) => tmps.setIfInBounds x.1 x.2) rec.tmps, defers := [] } :=
          ⟨by rw [e1]; exact ht, rfl, fun m hm => by simp at hm⟩
        refine CodeWp.wp (m := m) (hr.code (some l) base assign _ h .normal a1 h1 hassign D β κ N w _ (some (β l).1) _ hD hb hR act0 (.inr ⟨l, rfl, hDl, rfl⟩) fun β1 κ1 w1 a1' hO1 hA1 => ?_)
        have hβl : (β1 l) = β l := (hO1.ext l (hD l hDl)).1
        show ∃ w₂, _
        unfold cRound at hs
        split at hs
        · rename_i t2 p2 as2 b2 hl1
          split at hs
          · rename_i e a2 h2 hbody
            obtain ⟨rec1, k1, k2, k3, k4, k5, k6, k7, k8, _⟩ := Out.loop (st2 := .busy) (pend2 := none) hO1.rel (hO1.known hD) (Nat.le_trans hb hO1.le) hbl hl1
            rw [hβl] at k1 k8
            have hrec : ({ rec1 with state := .busy, pending := none } : Loop) = { rec1 with state := .busy } := by rw [← k3]
            rw [hrec] at k8
            refine ⟨_, run_beginRound k1 k2, ?_⟩
            have hO12 := hO1.trans k8
            have hUeq : Up (Up D h h1) h1 (h1.set l (.loop t2 p2 as2 b2 .busy none)) = Up D h h1 := Out.up_same (by simp)
            have hRel2 := k8.rel
            rw [hUeq] at hRel2
            have hD1 : ∀ i, Up D h h1 i → i < (h1.set l (.loop t2 p2 as2 b2 .busy none)).length := by simpa using hO1.known hD
            refine CodeWp.wp (m := m) (hr.code (some l) base body a1 _ e a2 h2 hbody (Up D h h1) β1 κ1 N _ _ (some (β l).1) _ hD1 (by simpa using Nat.le_trans hb hO1.le) hRel2 hA1 (.inr ⟨l, rfl, .inl hDl, by rw [hβl]⟩) fun β2 κ2 w2 a2' hO2 hA2 => ?_)
            have hO2' : Out E.P D β κ base N h w h2 w2 β2 κ2 := hO12.trans (by
              have : Up D h (h1.set l (.loop t2 p2 as2 b2 .busy none)) = Up D h h1 := by rw [← Up.trans hO1.le (by simp), hUeq]
              rw [this]; exact hO2)
            have hβ2 : β2 l = β l := (hO2'.ext l (hD l hDl)).1
            unfold endRound at hs
            split at hs
            · rename_i t3 p3 as3 b3 hl2
              have fin : ∀ (jump : Option Code) (st3 : LoopState), st3 = (if jump.isNone then .ready else .done) → (v, h3) = (.bool jump.isNone, h2.set l (.loop t3 p3 as3 b3 st3 jump)) →
                  ∃ v' w', (Instr.endRound (β l).1 jump).run E.P w2 = .ok v' w' ∧ R (.returned v') w' := by
                intro jump st3 hst he
                cases he
                obtain ⟨rec2, m1, m2, m3, m4, m5, m6, m7, m8, _⟩ := Out.loop (st2 := st3) (pend2 := jump) hO2'.rel (hO2'.known hD) (Nat.le_trans hb hO2'.le) hbl hl2
                rw [hβ2] at m1 m8
                refine ⟨_, _, run_endRound jump m1, hK _ _ β2 κ2 (hO2'.trans (by rw [hst] at m8 ⊢; exact m8)) (.bool _)⟩
              split at hs
              · exact fin none .ready rfl (Option.some.inj hs).symm
              · rename_i id
                exact fin (some (.exit id)) .done rfl (Option.some.inj hs).symm
              · exact fin (some .ret) .done rfl (Option.some.inj hs).symm
              · cases hs
            · cases hs
          · cases hs
        · cases hs
      · cases hs
    · cases hs
  · cases hs

/-- A CALL THAT MAY WRITE. -/
theorem iOp_wp {E : Env} {m : Nat} {r : Rec} (hr : Sound E m r) {ro : Option Nat} {h h' : List Blk} {ρ : Operand → Value} {o : Oper} {v : Value} {Q : Exit → Act → World → Prop} (hs : iOp E r base h ρ o = some (v, h'))
    {a' : Act} {next : Act → World → Prop} (hD : ∀ i, D i → i < h.length) (hb : base ≤ h.length) (hR : Rel E.P D β κ base N (toF h) w) (hρ : ∀ x, VR D β κ (ρ x) (a'.eval x))
    (hK : ∀ v' w' β' κ', Out E.P D β κ base N h w h' w' β' κ' → VR (Up D h h') β' κ' v v' → next (a'.put o.dst v') w') : o.wpIn (FW ro) 0 E.P a' w next Q := by
  unfold iOp at hs
  split at hs
  · rename_i f cargs ts ho
    have hnd : ∀ c, o.op ≠ .defer c := fun c e => by rw [ho] at e; cases e
    have hf := hρ f
    unfold iCall at hs
    split at hs
    · rename_i g first captured hfv
      rw [hfv] at hf
      split at hs
      · have hP := hr.icall _ _ _ _ _ _ hs
        generalize hf' : a'.eval f = fv at hf
        cases hf with
        | func _ f1 f1' c1 c1' h1 h2 h3 h4 =>
          have hargs : LR D β κ (f1 ++ cargs.toList.map ρ ++ c1) (f1' ++ cargs.toList.map a'.eval ++ c1') := (LR.app ⟨h1, h2⟩ (LR.args hρ _)).app ⟨h3, h4⟩
          have hrun : (execOp a'.eval o).run E.P w = .ok (.enter g (⟨f1' ++ cargs.toList.map a'.eval ++ c1'⟩ : Array Value)) w := by
            have e1 : (⟨f1'⟩ : Array Value) ++ Array.map a'.eval cargs ++ (⟨c1'⟩ : Array Value) = ⟨f1' ++ cargs.toList.map a'.eval ++ c1'⟩ := by
              apply Array.ext'; simp
            have e2 := run_callFunc hP.1 ((⟨f1'⟩ : Array Value) ++ Array.map a'.eval cargs ++ (⟨c1'⟩ : Array Value)) w
            rw [e1] at e2
            simp only [execOp, ho, resolve, hf', Deferred.ofValue, Sem.run_bind, Sem.run_pure, Result.andThen_ok, invoke]
            rw [e1]
            exact e2
          refine wp_of_enter hnd hrun (Calls.mono (hP.2 D β κ N w _ hD hb hR hargs) ?_)
          rintro e w'' ⟨v', β', κ', rfl, hO, hv⟩
          exact ⟨v', rfl, hK _ _ _ _ hO hv⟩
      · cases hs
    · rename_i l first captured hfv
      rw [hfv] at hf
      split at hs
      · rename_i hc
        generalize hf' : a'.eval f = fv at hf
        cases hf with
        | yield _ hl =>
          have hargs := LR.args hρ cargs.toList
          obtain ⟨f, tmps, assign, body, h1, h2⟩ := yield_sound (ro := ro) (R := fun e w'' => ∃ v, e = .returned v ∧ next (a'.put o.dst v) w'') hr hs hD hb hR hl hargs (fun v' w' β' κ' hO hv => ⟨v', rfl, hK _ _ _ _ hO hv⟩)
          refine wp_of_round hnd ?_ h2
          rw [← mapO] at h1
          simp only [execOp, ho, resolve, hf', Deferred.ofValue, Sem.run_bind, Sem.run_pure, Result.andThen_ok, invoke, Array.empty_append]
          exact h1
      · cases hs
    · cases hs
  · cases hs
end
end Go.Cl
