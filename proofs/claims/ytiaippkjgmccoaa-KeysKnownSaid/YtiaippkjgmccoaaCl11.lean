/- Operations, one by one: the rest of the quiet ones. -/
import Derived.Test.YtiaippkjgmccoaaCl10
set_option linter.unusedSimpArgs false
set_option linter.unusedVariables false
namespace Go.Cl
open Go Go.RowKit

section
variable {P : Program} {w : World} {D : Nat → Prop} {β : Nat → Nat × Nat} {κ : Nat → Nat} {base N n : Nat} {H : Nat → Blk}

theorem leaf_of_fit {d : Option TypeDesc} {v : Value} (h : fitLeaf d v = true) : leafFlat v = true := by
  unfold fitLeaf at h
  split at h <;> first | rfl | cases h
theorem leaves_of_fit : ∀ (fs : List Field) (l : List Value), fitLeaves P fs l = true → l.all leafFlat = true
  | [], [], _ => rfl
  | [], _ :: _, h => by simp [fitLeaves] at h
  | _ :: _, [], h => by simp [fitLeaves] at h
  | f :: fs, v :: vs, h => by
    simp only [fitLeaves, Bool.and_eq_true] at h
    simp only [List.all_cons, leaf_of_fit h.1, leaves_of_fit fs vs h.2, Bool.and_true]
theorem flat_of_fits {kt : TypeId} {k : Value} (h : keyFits P kt k = true) : flat1 k = true := by
  unfold keyFits at h
  split at h
  · exact leaves_of_fit _ _ h
  · cases h
  · have := leaf_of_fit h
    unfold flat1
    split
    · simp [leafFlat] at this
    · exact this
theorem key_same {k k' : Value} (hk : VR D β κ k k') (kt : TypeId) (h : keyFits P kt k = true) : k' = k := hk.flat1 (flat_of_fits h)

theorem map_eraseIdx {α γ : Type} (f : α → γ) : ∀ (l : List α) (i : Nat), (l.eraseIdx i).map f = (l.map f).eraseIdx i
  | [], _ => rfl
  | x :: l, 0 => rfl
  | x :: l, i + 1 => by simp [map_eraseIdx f l i]

theorem delete_sim {h : List Blk} {ts : Array TypeId} {ty : TypeId} {m m' k k' : Value} {q : QRes} (hs : ((ts[0]?).bind fun t => cDelete P base h t m k) = some q) (hR : Rel P D β κ base N (toF h) w)
    (hm : VR D β κ m m') (hk : VR D β κ k k') (hn : h.length ≤ n) :
    ∃ v' w', (Builtin.delete_ ts ty #[m', k']).run P w = .ok v' w' ∧ QOut P D β κ base N n w q v' w' β κ := by
  cases hts : ts[0]? with
  | none => rw [hts] at hs; cases hs
  | some t =>
  rw [hts] at hs
  simp only [Option.bind_some] at hs
  unfold cDelete at hs
  split at hs
  · rename_i kt et r hu
    cases hm with
    | map _ hi =>
    split at hs
    · rename_i kt' es hr
      split at hs
      · rename_i hc
        obtain ⟨hb, rfl, hT, hf⟩ := hc
        rw [key_same hk _ hf]
        obtain ⟨arr, clock, h1, h2, h3, h4, h5⟩ := map_at hr hR
        have hfind := find_sim hT hf arr.toList h3 w
        rw [h2] at hfind
        have hchk : ∀ b, (Instr.checkKey b 10000 kt' k).run P w = .ok () w := fun b => key_check (d := 9998) hT hf w
        have hget : (getObj (β r).1).run P w = .ok (.map arr clock) w := by simp [getObj, Sem.run, h1]
        have hset : ∀ o, (setObj (β r).1 o).run P w = .ok () { w with heap := w.heap.setIfInBounds (β r).1 o } := fun o => by simp [setObj, Sem.run, h1]
        have hrl : r < h.length := (List.getElem?_eq_some_iff.1 hr).1
        have halive : toF h r ≠ .dead := by rw [toF_some hr]; simp
        split at hs
        · rename_i i u hfe
          cases hs
          rw [hfe] at hfind
          have hl : (arr.eraseIdxIfInBounds i).toList = arr.toList.eraseIdx i := by
            unfold Array.eraseIdxIfInBounds
            split
            · simp
            · rename_i hi
              rw [List.eraseIdx_of_length_le]
              simpa using hi
          refine ⟨_, _, ?_, QOut.put (o := .map (arr.eraseIdxIfInBounds i) clock) hR hb (by omega) halive h1 (fun w' hw' => ⟨⟨_, clock, hw', ?_, ?_, ?_⟩, trivial⟩) VR.undef⟩
          · simp [Builtin.delete_, hts, run_und hu, hget, hchk, hfind, hset, undef]
          · rw [hl, ← h2]
            exact map_eraseIdx _ _ _
          · intro p hp
            exact h4 p (List.mem_of_mem_eraseIdx hp)
          · refine ⟨fun e he => ?_, ?_⟩
            · rw [hl] at he; exact h5.1 e (List.mem_of_mem_eraseIdx he)
            · rw [hl, map_eraseIdx]
              exact List.Nodup.sublist (List.eraseIdx_sublist ..) h5.2
        · rename_i hfe
          cases hs
          rw [hfe] at hfind
          refine ⟨_, _, ?_, QOut.put (o := .map arr clock) hR hb (by omega) halive h1 (fun w' hw' => ⟨⟨_, clock, hw', h2, h4, h5⟩, trivial⟩) VR.undef⟩
          simp [Builtin.delete_, hts, run_und hu, hget, hchk, hfind, hset, undef]
      · cases hs
    · cases hs
  · cases hs

theorem len_sim {E : Env} {h : List Blk} {ts : Array TypeId} {ty : TypeId} {x x' : Value} {q : QRes} {N : Nat} (hP : E.P = P) (hs : qBuiltin E base h n .len ts ty [x] = some q) (hR : Rel P D β κ base N (toF h) w)
    (hx : VR D β κ x x') : ∃ v', (Builtin.len_ ts ty #[x']).run P w = .ok v' w ∧ VR D β κ q.val v' ∧ q = { val := q.val } := by
  unfold qBuiltin at hs
  subst hP
  cases hts : ts[0]? with
  | none => simp [hts] at hs
  | some t =>
  simp only [hts, Option.bind_some] at hs
  split at hs
  · rename_i e a k c hu
    cases hs
    have go : ∀ a' c', x' = .slice a' k c' → ∃ v', (Builtin.len_ ts ty #[x']).run E.P w = .ok v' w ∧ VR D β κ (.int .i64 k) v' ∧ (⟨.int .i64 k, [], none⟩ : QRes) = { val := .int .i64 k } := by
      rintro a' c' rfl
      exact ⟨_, by simp [Builtin.len_, hts, run_und hu, goInt], .int _ _, rfl⟩
    cases hx <;> exact go _ _ rfl
  · rename_i k e hu
    cases hs
    exact ⟨_, by simp [Builtin.len_, hts, run_und hu, goInt], .int _ _, rfl⟩
  · rename_i m0 _ _ kt et hu
    cases hm : cEntries h m0 with
    | none => rw [hm] at hs; cases hs
    | some es =>
      rw [hm] at hs
      cases hs
      unfold cEntries at hm
      split at hm
      · cases hm
        cases hx
        exact ⟨_, by simp [Builtin.len_, hts, run_und hu, goInt], .int _ _, rfl⟩
      · rename_i r
        cases hx
        split at hm
        · rename_i kt' es' hr
          cases hm
          obtain ⟨arr, clock, h1, h2, _⟩ := map_at hr hR
          have hget : (getObj (β r).1).run E.P w = .ok (.map arr clock) w := by simp [getObj, Sem.run, h1]
          have : es.length = arr.size := by rw [← h2]; simp
          refine ⟨.int .i64 arr.size, by simp [Builtin.len_, hts, run_und hu, hget, goInt], ?_, rfl⟩
          show VR D β κ (.int .i64 es.length) _
          rw [this]
          exact .int _ _
        · cases hm
      · cases hm
  · rename_i s hu
    cases hs
    cases hx
    exact ⟨_, by simp [Builtin.len_, hts, run_und hu, goInt], .int _ _, rfl⟩
  · cases hs

theorem cap_sim {E : Env} {h : List Blk} {ts : Array TypeId} {ty : TypeId} {x x' : Value} {q : QRes} (hP : E.P = P) (hs : qBuiltin E base h n .cap ts ty [x] = some q)
    (hx : VR D β κ x x') : ∃ v', (Builtin.cap_ ts ty #[x']).run P w = .ok v' w ∧ VR D β κ q.val v' ∧ q = { val := q.val } := by
  unfold qBuiltin at hs
  subst hP
  cases hts : ts[0]? with
  | none => simp [hts] at hs
  | some t =>
  simp only [hts, Option.bind_some] at hs
  split at hs
  · rename_i e a l k hu
    split at hs
    · rename_i hk
      cases hs
      cases hx with
      | snil => exact ⟨_, by simp [Builtin.cap_, hts, run_und hu, goInt], .int _ _, rfl⟩
      | slice => exact ⟨_, by simp [Builtin.cap_, hts, run_und hu, goInt], .int _ _, rfl⟩
      | sliceZ => exact ⟨_, by simp [Builtin.cap_, hts, run_und hu, goInt], .int _ _, rfl⟩
      | sliceU i o l q hi hq hk2 => simp only [UNK, INF] at *; omega
      | sliceE i o q a hq => simp only [UNK, INF] at *; omega
      | sliceA i o l C c hi hC hlc hc => simp only [UNK, INF] at *; omega
      | sliceAN i o C a hC => simp only [UNK, INF] at *; omega
    · cases hs
  · cases hs

theorem list_flat {xs xs' : List Value} (h : LR D β κ xs xs') (hf : ∀ v ∈ xs, isFlat v = true) : xs' = xs := by
  refine List.ext_getElem? fun j => ?_
  cases hv : xs[j]? with
  | none => exact List.getElem?_eq_none (h.len ▸ List.getElem?_eq_none_iff.1 hv)
  | some v =>
    obtain ⟨v', hv', hr⟩ := h.get hv
    rw [hv', hr.flat (hf v (List.mem_of_getElem? hv))]

theorem flatRun_sim {xs xs' : List Value} {s : List Value → Sem Value} {q : QRes} (h : flatRun P xs (s xs) = some q) (hx : LR D β κ xs xs') :
    ∃ v', (s xs').run P w = .ok v' w ∧ VR D β κ q.val v' ∧ q = { val := q.val } := by
  obtain ⟨hf, v, rfl, h1, h2⟩ := flatRun_spec h
  rw [list_flat hx hf]
  exact ⟨v, pureRun_run h1 w, .of_flat h2, rfl⟩

theorem clear_sim {E : Env} {h : List Blk} {ts : Array TypeId} {ty : TypeId} {x x' : Value} {q : QRes} (hP : E.P = P) (hs : qBuiltin E base h n .clear ts ty [x] = some q) (hR : Rel P D β κ base N (toF h) w)
    (hx : VR D β κ x x') (hn : h.length ≤ n) : ∃ v' w', (Builtin.clear_ ts ty #[x']).run P w = .ok v' w' ∧ QOut P D β κ base N n w q v' w' β κ := by
  unfold qBuiltin at hs
  subst hP
  split at hs <;> try (exact absurd ‹_› (by simp))
  all_goals try (rename_i heq; cases heq)
  all_goals try (rename_i heq2; cases heq2)
  · rename_i r
    cases hx with
    | map _ hi =>
    cases hts : ts[0]? with
    | none => simp [hts] at hs
    | some t =>
    simp only [hts, Option.bind_some] at hs
    split at hs
    · rename_i d kt es hu hr
      split at hs
      · rename_i hb
        cases hs
        obtain ⟨arr, clock, h1, h2, h3, h4, h5⟩ := map_at hr hR
        have hget : (getObj (β r).1).run E.P w = .ok (.map arr clock) w := by simp [getObj, Sem.run, h1]
        have hset : ∀ o, (setObj (β r).1 o).run E.P w = .ok () { w with heap := w.heap.setIfInBounds (β r).1 o } := fun o => by simp [setObj, Sem.run, h1]
        have hrl : r < h.length := (List.getElem?_eq_some_iff.1 hr).1
        have halive : toF h r ≠ .dead := by rw [toF_some hr]; simp
        refine ⟨_, _, ?_, QOut.put (o := .map #[] clock) hR hb (by omega) halive h1 (fun w' hw' => ⟨⟨#[], clock, hw', rfl, by simp, by simp [Stamped]⟩, trivial⟩) VR.undef⟩
        simp [Builtin.clear_, hts, run_und hu, hget, hset, undef]
      · cases hs
    · cases hs
  all_goals cases hs

theorem copy_sim {E : Env} {h : List Blk} {ts : Array TypeId} {ty : TypeId} {x x' y y' : Value} {q : QRes} (hP : E.P = P) (hs : qBuiltin E base h n .copy ts ty [x, y] = some q) (hR : Rel P D β κ base N (toF h) w)
    (hx : VR D β κ x x') (hy : VR D β κ y y') (hn : h.length ≤ n) : ∃ v' w', (Builtin.copy_ ts ty #[x', y']).run P w = .ok v' w' ∧ QOut P D β κ base N n w q v' w' β κ := by
  unfold qBuiltin at hs
  subst hP
  split at hs <;> try (exact absurd ‹_› (by simp))
  all_goals try (rename_i heq; cases heq)
  all_goals try (rename_i heq2; cases heq2)
  · rename_i a dn dc xb xn xc
    cases hts : ts[0]? with
    | none => simp [hts] at hs
    | some t =>
    simp only [hts, Option.bind_some] at hs
    split at hs
    · rename_i e hu
      split at hs
      · rename_i size hsz
        split at hs
        · rename_i xs hrd
          cases hst : cStoreAt base h a xs with
          | none => rw [hst] at hs; cases hs
          | some u =>
            rw [hst] at hs
            cases hs
            -- what is read
            have hsrc : ∃ b' c', y' = .slice b' xn c' := by cases hy <;> exact ⟨_, _, rfl⟩
            obtain ⟨b', c', rfl⟩ := hsrc
            obtain ⟨rs, h1, h2, h3, h4⟩ := readCells_sim hrd hR hy (fun h0 => by simp [h0])
            have hmin : Nat.min xn dn = min xn dn := rfl
            have hfc : (Builtin.firstCells size (min xn dn) (.slice b' xn c')).run E.P w = .ok rs.toArray w := by
              cases b' with
              | some a => simp [Builtin.firstCells, h3 a rfl w rfl]
              | none =>
                have : rs = [] := List.length_eq_zero_iff.1 (h2.trans (h4 rfl))
                subst this
                simp [Builtin.firstCells]
            have hlen : (Builtin.lenOf (.slice b' xn c')).run E.P w = .ok xn w := by simp [Builtin.lenOf]
            have go : ∀ (i o : Nat) (k : Nat), a = ⟨i, o, none⟩ → x' = .slice (some ⟨(β i).1, (β i).2 + o, none⟩) dn k → ∃ v' w', (Builtin.copy_ ts ty #[x', .slice b' xn c']).run E.P w = .ok v' w' ∧
                QOut E.P D β κ base N n w { val := .int .i64 (min xn dn : Nat), upd := u } v' w' β κ := by
              rintro i o k rfl rfl
              obtain ⟨w', hrun, hq⟩ := storeAt_sim hst hR h1 hn
              refine ⟨_, w', ?_, hq _ _ (.int _ _)⟩
              simp [Builtin.copy_, hts, run_und hu, hlen, hmin, run_size hsz, hfc, hrun, goInt]
            have zero : ∀ (a' : Option Addr) (k : Nat), dn = 0 → x' = .slice a' dn k → ∃ v' w', (Builtin.copy_ ts ty #[x', .slice b' xn c']).run E.P w = .ok v' w' ∧
                QOut E.P D β κ base N n w { val := .int .i64 (min xn dn : Nat), upd := u } v' w' β κ := by
              rintro a' k rfl rfl
              have : rs = [] := List.length_eq_zero_iff.1 (h2.trans (by simp))
              subst this
              have hxs : xs = [] := List.length_eq_zero_iff.1 (h1.len.trans rfl)
              subst hxs
              have hu0 : u = none := by
                unfold cStoreAt at hst
                split at hst
                · cases hst
                · simp at hst; exact hst.symm
              subst hu0
              refine ⟨_, w, ?_, QOut.same (.int _ _)⟩
              rw [Nat.min_zero] at hfc
              have hl0 : ∀ a' : Option Addr, (Builtin.lenOf (.slice a' 0 k)).run E.P w = .ok 0 w := fun a' => by simp [Builtin.lenOf]
              cases a' <;> simp [Builtin.copy_, hfc, hts, run_und hu, hlen, hl0, hmin, run_size hsz, goInt, storeCells]
            cases hx with
            | slice i o l c hi hlc hc => exact go i o _ rfl rfl
            | sliceU i o l q hi hq hk => exact go i o _ rfl rfl
            | sliceE i o q a' hq => exact zero _ _ rfl rfl
            | sliceZ i o a' => exact zero _ _ rfl rfl
            | sliceA i o l C c hi hC hlc hc => exact go i o _ rfl rfl
            | sliceAN i o C a' hC => exact zero _ _ rfl rfl
        · cases hs
      · cases hs
    · cases hs
  all_goals cases hs

theorem makeSlice_sim {t : TypeId} {l l' c c' : Value} {q : QRes} (hs : cMakeSlice P n t l c = some q) (hl : VR D β κ l l') (hc : VR D β κ c c')
    (hN : N ≤ w.heap.size) (hn : ∀ i, D i → i ≠ n) :
    ∃ v' w' β' κ', (Instr.makeSlice t l' c').run P w = .ok v' w' ∧ QOut P D β κ base N n w q v' w' β' κ' := by
  unfold cMakeSlice at hs
  split at hs
  · rename_i e ln cn hu hl0 hc0
    obtain ⟨k1, rfl, rfl⟩ := cInt_sim hl0 hl
    obtain ⟨k2, rfl, rfl⟩ := cInt_sim hc0 hc
    split at hs
    · rename_i size bytes zero hsz hby hz
      split at hs
      · cases hs
      · rename_i hzf
        have hzf : flat1 zero = true := by simpa using hzf
        split at hs
        · rename_i hcond
          obtain ⟨g1, g2, g3, g4, g5⟩ := hcond
          cases hs
          have hI : INF = 9223372036854775808 := rfl
          have wl : IntKind.i64.wrap ln = ln := wrap_small g1 (by omega)
          have wc : IntKind.i64.wrap cn = cn := wrap_small (by omega) (by omega)
          have hbc : (bytes : Int) * cn ≤ (2 : Int) ^ 48 := by
            have : ((bytes : Int) + 1) * cn = bytes * cn + cn := by rw [Int.add_mul, Int.one_mul]
            omega
          have hlist : ((Array.range (cn.toNat * size)).map (zero.cells[· % zero.cells.size]!)).toList = (List.replicate cn.toNat zero.cells.toList).flatten := by
            by_cases hz0 : 0 < zero.cells.size
            · have := zeroCells_toList zero.cells cn.toNat hz0
              rw [← this, ← g5]
              rfl
            · have h0 : zero.cells.size = 0 := by omega
              have hc0 : zero.cells = #[] := Array.size_eq_zero_iff.1 h0
              rw [← g5, h0]
              simp [hc0]
          have hrow : LR D β κ (List.replicate cn.toNat zero.cells.toList).flatten (List.replicate cn.toNat zero.cells.toList).flatten := by
            refine .of_leaves ?_
            rw [List.all_eq_true]
            intro x hx
            simp only [List.mem_flatten, List.mem_replicate] at hx
            obtain ⟨l, ⟨_, rfl⟩, hx⟩ := hx
            exact List.all_eq_true.1 (flat1_cells hzf) _ hx
          obtain ⟨β', κ', hq⟩ := QOut.cells (P := P) (base := base) (t := e) (v := .slice (some ⟨n, 0, none⟩) ln.toNat cn.toNat) (v' := .slice (some ⟨w.heap.size, 0, none⟩) ln.toNat cn.toNat) hN hn hrow
            (fun β' κ' hβ _ => vr_newslice _ _ (by omega) (by omega) hβ)
          refine ⟨_, _, β', κ', ?_, hq⟩
          obtain ⟨ti, hti, hbe⟩ := run_info hby w
          have i1 : (asInt (.int k1 ln)).run P w = .ok ln w := rfl
          have i2 : (asInt (.int k2 cn)).run P w = .ok cn w := rfl
          have z1 : (2 : Int) ^ 48 = 281474976710656 := rfl
          have n1 : ¬ cn < 0 := by omega
          have n2 : ¬ (2 : Int) ^ 48 < (bytes : Int) * cn := by omega
          have n3 : ¬ ln < 0 := by omega
          have n4 : ¬ ln > cn := by omega
          simp only [Int.reducePow] at n2
          by_cases h0 : cn.toNat * size = 0
          · have hl0 : (List.replicate cn.toNat zero.cells.toList).flatten = [] := by
              rw [← hlist]; rw [h0]; simp
            rw [hl0] at hq ⊢
            simp [Instr.makeSlice, i1, i2, run_und hu, hti, hbe, wl, wc, n1, n2, n3, n4, run_size hsz, h0, newRow]
            congr 2
            apply Array.ext'
            simp
          · rw [← hlist]
            simp [Instr.makeSlice, i1, i2, run_und hu, hti, hbe, wl, wc, n1, n2, n3, n4, run_size hsz, h0, newRow, run_zero hz]
            congr 2
            apply Array.ext'
            simp
        · cases hs
    · cases hs
  · cases hs

theorem makeMap_sim {t : TypeId} {q : QRes} (hs : qMakeMap P n t = some q) (hN : N ≤ w.heap.size) (hn : ∀ i, D i → i ≠ n) :
    ∃ v' w' β' κ', (Instr.makeMap t none).run P w = .ok v' w' ∧ QOut P D β κ base N n w q v' w' β' κ' := by
  unfold qMakeMap at hs
  split at hs
  · rename_i kt et hu
    cases hs
    obtain ⟨β', κ', hq⟩ := QOut.one (P := P) (D := D) (β := β) (κ := κ) (base := base) (b := .map kt []) (o := .map #[] 0) (v := .map (some n)) (v' := .map (some w.heap.size)) hN hn
      (fun β' κ' hβ hκ he => ⟨⟨#[], 0, by rw [hβ]; exact heap_alloc_new, rfl, by simp, by simp [Stamped]⟩, trivial, by
        have := VR.map (D := fun i => D i ∨ InNew n 1 i) (β := β') (κ := κ') n (.inr (inNew_one.2 rfl))
        rwa [hβ] at this⟩)
    exact ⟨_, _, β', κ', by simp [Instr.makeMap, newObj, Sem.run], hq⟩
  · cases hs
end
end Go.Cl
