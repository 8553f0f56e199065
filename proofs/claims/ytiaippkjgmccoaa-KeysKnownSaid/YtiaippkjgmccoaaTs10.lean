/- A loop over a map: the map's entries with their stamps, the iterator, its steps in whatever order. -/
import Derived.Test.YtiaippkjgmccoaaTs9
import Derived.Laws.IdiomRangeMap
set_option linter.unusedVariables false
namespace Go.Cl
open Go Go.RowKit

/-- What a step of an iterator comes to, wherever the iterator lies. -/
theorem run_next_at {P : Program} {w : World} {ty : TypeId} {r bm since c0 : Nat} {seen : Array Nat} {es : Array MapEntry} {clock : Nat} (hr : w.heap[r]? = some (.mapIter (some bm) since seen c0)) (hb : w.heap[bm]? = some (.map es clock))
    (hold : ∀ x ∈ es.toList, x.born < since) (hsc : since ≤ c0) :
    ((leftOf es seen).size = 0 ∧ (Instr.next (.pointer (some ⟨r, 0, none⟩)) false ty).run P w = .ok (.tuple #[.bool false]) w) ∨
    ∃ e ∈ (leftOf es seen).toList, ∃ w1 : World, (w1 = w ∨ w1 = w.drew) ∧ (Instr.next (.pointer (some ⟨r, 0, none⟩)) false ty).run P w = .ok (.tuple #[.bool true, e.key, e.val]) { w1 with heap := w1.heap.setIfInBounds r (.mapIter (some bm) since (seen.push e.born) clock) } := by
  have hg1 : (getObj r).run P w = .ok (.mapIter (some bm) since seen c0) w := by simp [getObj, Sem.run, hr]
  have hg2 : (getObj bm).run P w = .ok (.map es clock) w := by simp [getObj, Sem.run, hb]
  simp only [Instr.next, Sem.run_bind, hg1, hg2, Result.andThen_ok, next_test_false seen es since c0 hold hsc, Bool.false_eq_true, if_false]
  unfold leftOf
  have hmem : ∀ x ∈ Array.filter (fun e => !seen.contains e.born) es, x.born < since := fun x hx => hold x (by simp at hx ⊢; exact hx.1)
  generalize Array.filter (fun e => !seen.contains e.born) es = L at hmem ⊢
  have e1 : L.filter (fun x => decide (x.born < since)) = L := Array.filter_eq_self.2 fun x hx => by simpa using hmem x hx
  have e2 : L.filter (fun x => decide (x.born ≥ since)) = #[] := by
    rw [Array.filter_eq_empty_iff]
    intro x hx
    have := hmem x hx
    simp
    omega
  simp only [e1, e2, Array.append_empty]
  by_cases h0 : L.size = 0
  · left
    have : L = #[] := Array.eq_empty_of_size_eq_zero h0
    subst this
    exact ⟨rfl, by simp [choose, Sem.run, Question.forced]⟩
  · right
    have hne : L.isEmpty = false := by simp [Array.isEmpty, h0]
    simp only [hne, Bool.false_eq_true, if_false, Array.empty_append, Array.size_map]
    have hch : ∃ (j : Nat) (w1 : World), j < L.size ∧ (w1 = w ∨ w1 = w.drew) ∧ (choose (Question.mapNext L.size)).run P w = .ok j w1 := by
      by_cases hf : L.size ≤ 1
      · exact ⟨0, w, by omega, .inl rfl, by simp [choose, Sem.run, Question.forced, hf]⟩
      · exact ⟨_, w.drew, Nat.mod_lt _ (by omega), .inr rfl, by
          simp only [choose, Sem.run, Question.forced, decide_eq_true_eq, hf, if_false, Question.cut]
          rfl⟩
    obtain ⟨j, w1, hj, hal, hrun⟩ := hch
    refine ⟨L[j], by simp, w1, hal, ?_⟩
    have hh : w1.heap[r]? = some (.mapIter (some bm) since seen c0) := by rcases hal with rfl | rfl <;> exact hr
    have hset : ∀ o, (setObj r o).run P w1 = .ok () { w1 with heap := w1.heap.setIfInBounds r o } := fun o => by simp [setObj, Sem.run, hh]
    rw [hrun]
    simp [hj, hset]

section
variable {P : Program} {base L N : Nat} {ops : Array Oper} {rest : List Oper} {o : Oper} {a a1 a2 : CAct} {h h1 h2 : List Blk} {Ψ : CAct → List Blk → Prop}
variable {D : Nat → Prop} {β : Nat → Nat × Nat} {κ : Nat → Nat} {w : World}

/-- A world with the same heap. -/
theorem Rel.heap {H : Nat → Blk} {w1 : World} (h : Rel P D β κ base N H w) (hh : w1.heap = w.heap) : Rel P D β κ base N H w1 where
  blk i := (h.blk i).move (fun _ x => x) Ext.refl rfl (by rw [hh])
  ro := h.ro
  own i hi hb := ⟨(h.own i hi hb).1, (h.own i hi hb).2.move ⟨rfl, rfl⟩ (by rw [hh])⟩
  inj := h.inj
  size := by rw [hh]; exact h.size

/-- One block is looked at in another way. -/
theorem Rel.swap {k : Nat} {b b0 : Blk} (hk : h[k]? = some b0) (h0 : b0 ≠ .dead) (hR : Rel P D β κ base N (toF h) w) (hB : BR P D β κ k b w) (hO : base ≤ k → OwnB P β κ k b w) : Rel P D β κ base N (toF (h.set k b)) w := by
  have hkl : k < h.length := (List.getElem?_eq_some_iff.1 hk).1
  have hs : ∀ i, toF (h.set k b) i = if i = k then b else toF h i := fun i => by
    unfold toF
    by_cases hi : i = k
    · subst hi; simp [List.getD, hkl]
    · rw [if_neg hi]; simp only [List.getD, List.getElem?_set, if_neg (fun e : k = i => hi e.symm)]
  have al : ∀ i, toF (h.set k b) i ≠ .dead → toF h i ≠ .dead := fun i hi => by
    rw [hs] at hi
    by_cases he : i = k
    · subst he; rw [toF_some hk]; exact h0
    · rwa [if_neg he] at hi
  refine ⟨fun i => ?_, fun i hi => hR.ro i (al i hi), fun i hi hb => ?_, fun i j hi hj => hR.inj i j (al i hi) (al j hj), hR.size⟩
  · rw [hs]
    split
    · rename_i he; subst he; exact hB
    · exact hR.blk i
  · have h3 := hR.own i (al i hi) hb
    rw [hs]
    split
    · rename_i he; subst he; exact ⟨h3.1, hO hb⟩
    · exact h3

theorem Fits.swap {D0 : Nat → Prop} {β0 : Nat → Nat × Nat} {κ0 : Nat → Nat} {a' : Act} {k : Nat} {b b0 : Blk} (hk : h[k]? = some b0) (h0 : b0 ≠ .dead) (hf : Fit P base N L D0 β0 κ0 a h a' w D β κ) (hB : BR P D β κ k b w) (hO : OwnB P β κ k b w) :
    Fits P base N L D0 β0 κ0 a (h.set k b) a' w :=
  ⟨D, β, κ, fun i hi => by rw [List.length_set]; exact hf.dom i hi, by rw [List.length_set]; exact hf.bl, by rw [List.length_set]; exact hf.ll, Rel.swap hk h0 hf.rel hB (fun _ => hO), hf.act, hf.ext⟩

/-- The stamps of a map's entries are told. -/
theorem stamp_of {D0 : Nat → Prop} {β0 : Nat → Nat × Nat} {κ0 : Nat → Nat} {a' : Act} {k : Nat} {kt : TypeId} {es : List (Value × Value)} (hk : h[k]? = some (.map kt es)) (hf : Fits P base N L D0 β0 κ0 a h a' w) :
    ∃ arr clock, arr.toList.map (fun e => (e.key, e.val)) = es ∧ (∀ e ∈ arr.toList, keyFits P kt e.key = true ∧ flat1 e.val = true) ∧ Stamped arr clock ∧ Fits P base N L D0 β0 κ0 a (h.set k (.mapS kt arr clock)) a' w := by
  obtain ⟨D, β, κ, hf⟩ := hf
  have hB := hf.rel.blk k
  rw [toF_some hk] at hB
  obtain ⟨arr, clock, h1, h2, h3, h4⟩ := hB
  have h5 : ∀ e ∈ arr.toList, keyFits P kt e.key = true ∧ flat1 e.val = true := fun e he => h3 (e.key, e.val) (by rw [← h2]; exact List.mem_map.2 ⟨e, he, rfl⟩)
  exact ⟨arr, clock, h2, h5, h4, Fits.swap hk (by simp) hf ⟨h1, h5, h4⟩ trivial⟩

theorem TO.stamp {k : Nat} {kt : TypeId} {es : List (Value × Value)} (hk : h[k]? = some (.map kt es))
    (ht : ∀ arr clock, arr.toList.map (fun e => (e.key, e.val)) = es → (∀ e ∈ arr.toList, keyFits P kt e.key = true ∧ flat1 e.val = true) → Stamped arr clock → TO P base L ops rest a (h.set k (.mapS kt arr clock)) Ψ) : TO P base L ops rest a h Ψ := by
  intro N D0 β0 κ0 w0 w a' Q hf hb hq
  obtain ⟨arr, clock, h1, h2, h3, h4⟩ := stamp_of hk hf
  exact ht arr clock h1 h2 h3 N D0 β0 κ0 w0 w a' Q h4 hb hq
theorem TS.stamp {c : Code} {Φ : Post} {k : Nat} {kt : TypeId} {es : List (Value × Value)} (hk : h[k]? = some (.map kt es))
    (ht : ∀ arr clock, arr.toList.map (fun e => (e.key, e.val)) = es → (∀ e ∈ arr.toList, keyFits P kt e.key = true ∧ flat1 e.val = true) → Stamped arr clock → TS P base L c a (h.set k (.mapS kt arr clock)) Φ) : TS P base L c a h Φ := by
  intro N D0 β0 κ0 w0 w a' Q hf hb hq
  obtain ⟨arr, clock, h1, h2, h3, h4⟩ := stamp_of hk hf
  exact ht arr clock h1 h2 h3 N D0 β0 κ0 w0 w a' Q h4 hb hq

theorem vr_mapTmp {x x' : Value} {m : Nat} (h : VR D β κ x x') (hx : x = .map (some m)) : D m ∧ x' = .map (some (β m).1) := by
  subst hx
  cases h with
  | map _ hi => exact ⟨hi, rfl⟩
theorem vr_ptrTmp {x x' : Value} {i : Nat} (h : VR D β κ x x') (hx : x = .pointer (some ⟨i, 0, none⟩)) : D i ∧ x' = .pointer (some ⟨(β i).1, (β i).2, none⟩) := by
  subst hx
  cases h with
  | ptr _ _ hi => exact ⟨hi, rfl⟩

/-- The loop begins: an iterator is laid. -/
theorem TO.range {t k e m kt : Nat} {x : Operand} {arr : Array MapEntry} {clock : Nat} (hw : cWanted ops.toList a o = some true) (ho : o.op = .range t x) (hx : a.eval x = .map (some m)) (ht : P.underlying t = some (.map k e))
    (hm : h[m]? = some (.mapS kt arr clock)) (h' : TO P base L ops rest (a.put o.dst (.pointer (some ⟨h.length, 0, none⟩))) (h ++ [.iter m clock #[] clock]) Ψ) : TO P base L ops (o :: rest) a h Ψ := by
  rintro N D0 β0 κ0 w0 w a' Q ⟨D, β, κ, hf⟩ hb hQ
  have hw' := wanted_sim hw hf.act
  simp only [wpListIn, hw', if_true]
  obtain ⟨hDm, hxv⟩ := vr_mapTmp (hf.act.eval x) hx
  have hB := hf.rel.blk m
  rw [toF_some hm] at hB
  have hml : m < h.length := (List.getElem?_eq_some_iff.1 hm).1
  obtain ⟨β', κ', hO, hβ⟩ := Out.one (b := .iter m clock #[] clock) (o := .mapIter (some (β m).1) clock #[] clock) hf.rel hf.dom hf.bl (fun β' κ' hβ he => ⟨⟨.inl hDm, by rw [hβ], by rw [hβ, (he m (by omega)).1]; exact heap_alloc_new⟩, trivial⟩)
  have hnd : ∀ c, o.op ≠ .defer c := fun c e => by rw [ho] at e; cases e
  refine wp_of_val (w' := w.alloc (.mapIter (some (β m).1) clock #[] clock)) (v := .pointer (some ⟨w.heap.size, 0, none⟩)) hnd ?_ ?_
  · simp only [execOp, ho, hxv]
    simp [Sem.run_bind, run_range_map w t k e (β m).1 arr clock ht hB.1]
  · have hv : VR (Up D h (h ++ [.iter m clock #[] clock])) β' κ' (.pointer (some ⟨h.length, 0, none⟩)) (.pointer (some ⟨w.heap.size, 0, none⟩)) := by
      have := VR.ptr (D := Up D h (h ++ [.iter m clock #[] clock])) (β := β') (κ := κ') h.length 0 (.inr ⟨Nat.le_refl _, by simp⟩)
      rwa [hβ] at this
    exact h' N D0 β0 κ0 w0 _ _ Q (Fits.out hf hO ((hf.act.out hO hf.dom).put o.dst hv)) (hb.trans hO.below) hQ

theorem vr_entry {v : Value} {e : MapEntry} {kt : TypeId} (h : keyFits P kt e.key = true ∧ flat1 e.val = true) : VR D β κ (.tuple #[e.key, e.val]) (.tuple #[e.key, e.val]) :=
  .tuple [e.key, e.val] [e.key, e.val] rfl fun j v v' hv hv' => by
    rw [hv] at hv'
    cases hv'
    rcases j with _ | _ | j
    · cases hv; exact .of_flat1 (flat_of_fits h.1)
    · cases hv; exact .of_flat1 h.2
    · simp at hv
theorem vr_entry3 {e : MapEntry} {kt : TypeId} (h : keyFits P kt e.key = true ∧ flat1 e.val = true) : VR D β κ (.tuple #[.bool true, e.key, e.val]) (.tuple #[.bool true, e.key, e.val]) :=
  .tuple [.bool true, e.key, e.val] [.bool true, e.key, e.val] rfl fun j v v' hv hv' => by
    rw [hv] at hv'
    cases hv'
    rcases j with _ | _ | _ | j
    · cases hv; exact .bool _
    · cases hv; exact .of_flat1 (flat_of_fits h.1)
    · cases hv; exact .of_flat1 h.2
    · simp at hv

theorem Below.drew {N : Nat} {w w1 : World} (h : w1 = w ∨ w1 = w.drew) : Below N w w1 := by
  rcases h with rfl | rfl
  · exact Below.refl _ _
  · exact ⟨rfl, rfl, rfl, Nat.le_refl _, fun _ _ => rfl⟩

/-- A step: an entry that is left, whichever; or none is left. -/
theorem TO.next {it : Operand} {i m since last kt : Nat} {seen : Array Nat} {arr : Array MapEntry} {clock : Nat} (hw : cWanted ops.toList a o = some true) (ho : o.op = .next it false) (hi : a.eval it = .pointer (some ⟨i, 0, none⟩))
    (hib : base ≤ i) (hh : h[i]? = some (.iter m since seen last)) (hm : h[m]? = some (.mapS kt arr clock)) (hold : ∀ e ∈ arr.toList, e.born < since) (hsc : since ≤ last)
    (hend : (leftOf arr seen).size = 0 → TO P base L ops rest (a.put o.dst (.tuple #[.bool false])) h Ψ)
    (hgo : ∀ e ∈ (leftOf arr seen).toList, TO P base L ops rest (a.put o.dst (.tuple #[.bool true, e.key, e.val])) (h.set i (.iter m since (seen.push e.born) clock)) Ψ) : TO P base L ops (o :: rest) a h Ψ := by
  rintro N D0 β0 κ0 w0 w a' Q ⟨D, β, κ, hf⟩ hb hQ
  have hw' := wanted_sim hw hf.act
  simp only [wpListIn, hw', if_true]
  obtain ⟨hDi, hiv⟩ := vr_ptrTmp (hf.act.eval it) hi
  have hI := hf.rel.blk i
  have hM := hf.rel.blk m
  rw [toF_some hh] at hI
  rw [toF_some hm] at hM
  obtain ⟨hDm, hz, hI⟩ := hI
  obtain ⟨hM, hfit, hst⟩ := hM
  rw [hz] at hiv
  have hil : i < h.length := (List.getElem?_eq_some_iff.1 hh).1
  have hnd : ∀ c, o.op ≠ .defer c := fun c e => by rw [ho] at e; cases e
  rcases run_next_at (P := P) (ty := o.type) hI hM hold hsc with ⟨hl, hrun⟩ | ⟨e, he, w1, hw1, hrun⟩
  · refine wp_of_val (w' := w) (v := .tuple #[.bool false]) hnd ?_ ?_
    · simp only [execOp, ho, hiv]
      simp [Sem.run_bind, hrun]
    · have hv : VR D β κ (.tuple #[.bool false]) (.tuple #[.bool false]) := .of_flat rfl
      exact hend hl N D0 β0 κ0 w0 w _ Q ⟨D, β, κ, hf.dom, hf.bl, hf.ll, hf.rel, hf.act.put o.dst hv, hf.ext⟩ hb hQ
  · refine wp_of_val (w' := { w1 with heap := w1.heap.setIfInBounds (β i).1 (.mapIter (some (β m).1) since (seen.push e.born) clock) }) (v := .tuple #[.bool true, e.key, e.val]) hnd ?_ ?_
    · simp only [execOp, ho, hiv]
      simp [Sem.run_bind, hrun]
    · have hheap : w1.heap = w.heap := by rcases hw1 with rfl | rfl <;> rfl
      have hR1 : Rel P D β κ base N (toF h) w1 := hf.rel.heap hheap
      have hem : e ∈ arr.toList := by simp [leftOf] at he; simpa using he.1
      have hv := vr_entry3 (P := P) (D := D) (β := β) (κ := κ) (hfit e hem)
      have hQo := QOut.put (b := .iter m since (seen.push e.born) clock) (o := .mapIter (some (β m).1) since (seen.push e.born) clock) (o0 := .mapIter (some (β m).1) since seen last) hR1 hib hil (by rw [toF_some hh]; simp) (by rw [hheap]; exact hI)
        (fun w' hw' => ⟨⟨.inl hDm, hz, hw'⟩, trivial⟩) hv
      obtain ⟨hO, hv'⟩ := Out.of_q hR1 hf.dom hf.bl hQo (fun k b hu => by cases hu; rw [toF_some hh]; simp)
      have hF := Fits.out (a1 := a.put o.dst (.tuple #[.bool true, e.key, e.val])) ⟨hf.dom, hf.bl, hf.ll, hR1, hf.act, hf.ext⟩ hO ((hf.act.out hO hf.dom).put o.dst hv')
      have e1 : QRes.heap { val := .tuple #[.bool true, e.key, e.val], upd := some (i, .iter m since (seen.push e.born) clock) } h = h.set i (.iter m since (seen.push e.born) clock) := by simp [QRes.heap]
      rw [e1] at hF
      exact hgo e he N D0 β0 κ0 w0 _ _ Q hF (hb.trans ((Below.drew hw1).trans hO.below)) hQ

/-- The entry that the last step has handed out. -/
theorem TO.entry {it : Operand} {i m since kt : Nat} {seen : Array Nat} {arr : Array MapEntry} {clock : Nat} {e : MapEntry} (hw : cWanted ops.toList a o = some true) (ho : o.op = .entry it) (hi : a.eval it = .pointer (some ⟨i, 0, none⟩))
    (hh : h[i]? = some (.iter m since (seen.push e.born) clock)) (hm : h[m]? = some (.mapS kt arr clock)) (he : e ∈ arr.toList) (hn : (arr.toList.map (·.born)).Nodup)
    (h' : TO P base L ops rest (a.put o.dst (.tuple #[e.key, e.val])) h Ψ) : TO P base L ops (o :: rest) a h Ψ := by
  rintro N D0 β0 κ0 w0 w a' Q ⟨D, β, κ, hf⟩ hb hQ
  have hw' := wanted_sim hw hf.act
  simp only [wpListIn, hw', if_true]
  obtain ⟨hDi, hiv⟩ := vr_ptrTmp (hf.act.eval it) hi
  have hI := hf.rel.blk i
  have hM := hf.rel.blk m
  rw [toF_some hh] at hI
  rw [toF_some hm] at hM
  obtain ⟨hDm, hz, hI⟩ := hI
  obtain ⟨hM, hfit, hst⟩ := hM
  rw [hz] at hiv
  have hnd : ∀ c, o.op ≠ .defer c := fun c e => by rw [ho] at e; cases e
  have hg1 : (getObj (β i).1).run P w = .ok (.mapIter (some (β m).1) since (seen.push e.born) clock) w := by simp [getObj, Sem.run, hI]
  have hg2 : (getObj (β m).1).run P w = .ok (.map arr clock) w := by simp [getObj, Sem.run, hM]
  have hfd : arr.find? (·.born == e.born) = some e := by rw [← Array.find?_toList]; exact find_born e arr.toList hn he
  refine wp_of_val (w' := w) (v := .tuple #[e.key, e.val]) hnd ?_ ?_
  · simp only [execOp, ho, hiv]
    simp [Instr.entry, Sem.run_bind, hg1, hg2, hfd]
  · have hv : VR D β κ (.tuple #[e.key, e.val]) (.tuple #[e.key, e.val]) := vr_entry (P := P) (kt := kt) (v := undef) (hfit e he)
    exact h' N D0 β0 κ0 w0 w _ Q ⟨D, β, κ, hf.dom, hf.bl, hf.ll, hf.rel, hf.act.put o.dst hv, hf.ext⟩ hb hQ

/-! ### The same, by places -/
noncomputable def opAt (ops : Array Oper) (j : Nat) (a : CAct) : Option Op :=
  match ops.toList[j]? with
  | some o => match cWanted ops.toList a o with
    | some true => some o.op
    | _ => none
  | none => none
theorem opAt_spec {j : Nat} {p : Op} (h : opAt ops j a = some p) : ∃ o, ops.toList[j]? = some o ∧ cWanted ops.toList a o = some true ∧ o.op = p ∧ ∀ v, putAt ops j a v = a.put o.dst v := by
  unfold opAt at h
  split at h
  · rename_i o ho
    split at h
    · rename_i hw
      exact ⟨o, ho, hw, Option.some.inj h, fun v => by simp only [putAt, ho]⟩
    · cases h
  · cases h

theorem TI.range {j t k e m kt : Nat} {x : Operand} {arr : Array MapEntry} {clock : Nat} (hp : opAt ops j a = some (.range t x)) (hx : a.eval x = .map (some m)) (ht : P.underlying t = some (.map k e))
    (hm : h[m]? = some (.mapS kt arr clock)) (ha : putAt ops j a (.pointer (some ⟨h.length, 0, none⟩)) = a1) (hh : h ++ [.iter m clock #[] clock] = h1) (h' : TI P base L ops (j + 1) a1 h1 Ψ) : TI P base L ops j a h Ψ := by
  obtain ⟨o, ho, hw, hop, hput⟩ := opAt_spec hp
  unfold TI at h' ⊢
  rw [drop_at ho]
  refine TO.range hw hop hx ht hm ?_
  rw [← hput, ha, hh]
  exact h'

theorem TI.next {j : Nat} {it : Operand} {i m since last kt : Nat} {seen : Array Nat} {arr : Array MapEntry} {clock : Nat} (hp : opAt ops j a = some (.next it false)) (hi : a.eval it = .pointer (some ⟨i, 0, none⟩))
    (hib : base ≤ i) (hh : h[i]? = some (.iter m since seen last)) (hm : h[m]? = some (.mapS kt arr clock)) (hold : ∀ e ∈ arr.toList, e.born < since) (hsc : since ≤ last)
    (hend : (leftOf arr seen).size = 0 → TI P base L ops (j + 1) (putAt ops j a (.tuple #[.bool false])) h Ψ)
    (hgo : ∀ e ∈ (leftOf arr seen).toList, TI P base L ops (j + 1) (putAt ops j a (.tuple #[.bool true, e.key, e.val])) (h.set i (.iter m since (seen.push e.born) clock)) Ψ) : TI P base L ops j a h Ψ := by
  obtain ⟨o, ho, hw, hop, hput⟩ := opAt_spec hp
  unfold TI at hend hgo ⊢
  rw [drop_at ho]
  refine TO.next hw hop hi hib hh hm hold hsc (fun h0 => ?_) (fun e he => ?_)
  · rw [← hput]; exact hend h0
  · rw [← hput]; exact hgo e he

theorem TI.entry {j : Nat} {it : Operand} {i m since kt : Nat} {seen : Array Nat} {arr : Array MapEntry} {clock : Nat} {e : MapEntry} (hp : opAt ops j a = some (.entry it)) (hi : a.eval it = .pointer (some ⟨i, 0, none⟩))
    (hh : h[i]? = some (.iter m since (seen.push e.born) clock)) (hm : h[m]? = some (.mapS kt arr clock)) (he : e ∈ arr.toList) (hn : (arr.toList.map (·.born)).Nodup)
    (ha : putAt ops j a (.tuple #[e.key, e.val]) = a1) (h' : TI P base L ops (j + 1) a1 h Ψ) : TI P base L ops j a h Ψ := by
  obtain ⟨o, ho, hw, hop, hput⟩ := opAt_spec hp
  unfold TI at h' ⊢
  rw [drop_at ho]
  refine TO.entry hw hop hi hh hm he hn ?_
  rw [← hput, ha]
  exact h'

/-- What is left becomes less. -/
theorem left_less {arr : Array MapEntry} {seen : Array Nat} {e : MapEntry} (he : e ∈ (leftOf arr seen).toList) : (leftOf arr (seen.push e.born)).size < (leftOf arr seen).size := by
  have h1 : e ∈ arr.toList ∧ seen.contains e.born = false := by simpa [leftOf] using he
  have := filter_lt (fun x : MapEntry => !seen.contains x.born) (fun x : MapEntry => !(seen.push e.born).contains x.born) (fun x hx => by simp at hx ⊢; exact hx.1) e (by rw [h1.2]; rfl) (by simp) arr.toList h1.1
  simpa [leftOf, ← Array.length_toList] using this
end
end Go.Cl
namespace Go.Cl
open Go
/-- How many entries of a list are such. -/
theorem count_less {p : MapEntry → Bool} {q : MapEntry → Bool} {e : MapEntry} : ∀ {l : List MapEntry}, (l.map (·.born)).Nodup → e ∈ l → q e = true →
    (l.filter (fun x => q x && x.born != e.born)).countP p + (if p e then 1 else 0) = (l.filter q).countP p
  | [], _, h, _ => by cases h
  | x :: l, hn, hm, hq => by
    have hn' : x.born ∉ l.map (·.born) ∧ (l.map (·.born)).Nodup := List.nodup_cons.1 hn
    rcases List.mem_cons.1 hm with rfl | hm
    · have hno : l.filter (fun x => q x && x.born != e.born) = l.filter q := by
        apply List.filter_congr
        intro y hy
        have : (y.born != e.born) = true := by
          rw [bne_iff_ne]
          intro h
          exact hn'.1 (by rw [← h]; exact List.mem_map.2 ⟨y, hy, rfl⟩)
        rw [this, Bool.and_true]
      rw [List.filter_cons, List.filter_cons, hno]
      simp only [hq, bne_self_eq_false, Bool.and_false, Bool.false_eq_true, if_false, if_true, List.countP_cons]
    · have ih := count_less (p := p) hn'.2 hm hq
      have hxe : (x.born != e.born) = true := by
        rw [bne_iff_ne]
        intro h
        exact hn'.1 (by rw [h]; exact List.mem_map.2 ⟨e, hm, rfl⟩)
      rw [List.filter_cons, List.filter_cons]
      cases hqx : q x
      · simp only [Bool.false_and, Bool.false_eq_true, if_false]
        exact ih
      · simp only [hxe, Bool.and_self, if_true, List.countP_cons]
        omega
theorem left_count {arr : Array MapEntry} {seen : Array Nat} {e : MapEntry} {p : MapEntry → Bool} (hn : (arr.toList.map (·.born)).Nodup) (he : e ∈ (leftOf arr seen).toList) :
    (leftOf arr (seen.push e.born)).toList.countP p + (if p e then 1 else 0) = (leftOf arr seen).toList.countP p := by
  have h1 : e ∈ arr.toList ∧ seen.contains e.born = false := by simpa [leftOf] using he
  have := count_less (p := p) (q := fun x => !seen.contains x.born) hn h1.1 (by rw [h1.2]; rfl)
  have e1 : (leftOf arr (seen.push e.born)).toList = arr.toList.filter (fun x => !seen.contains x.born && x.born != e.born) := by
    unfold leftOf
    rw [Array.toList_filter]
    apply List.filter_congr
    intro x hx
    rw [Array.contains_push]
    cases seen.contains x.born <;> simp [Bool.beq_comm, bne]
  have e2 : (leftOf arr seen).toList = arr.toList.filter (fun x => !seen.contains x.born) := by
    unfold leftOf
    rw [Array.toList_filter]
  rw [e1, e2]
  exact this
theorem left_mem {arr : Array MapEntry} {seen : Array Nat} {e : MapEntry} (he : e ∈ (leftOf arr seen).toList) : e ∈ arr.toList := by
  have h1 : e ∈ arr.toList ∧ seen.contains e.born = false := by simpa [leftOf] using he
  exact h1.1
theorem left_all (arr : Array MapEntry) : leftOf arr #[] = arr := by
  unfold leftOf
  apply Array.filter_eq_self.2
  intro x hx
  simp
theorem w64_in {x : Int} (h1 : -9223372036854775808 ≤ x) (h2 : x ≤ 9223372036854775807) : w64 x = x := by
  simp [w64, IntKind.wrap, IntKind.signed, IntKind.bits]
  omega
end Go.Cl
