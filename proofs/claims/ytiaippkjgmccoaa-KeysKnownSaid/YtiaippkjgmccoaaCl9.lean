/- Operations, one by one: append and make, on the clean heap. -/
import Derived.Test.YtiaippkjgmccoaaCl8
namespace Go.Cl
open Go Go.RowKit
set_option linter.unusedSimpArgs false
set_option linter.unusedVariables false

section
variable {P : Program} {w : World} {D : Nat → Prop} {β : Nat → Nat × Nat} {κ : Nat → Nat} {base N n : Nat} {H : Nat → Blk}

/-- A slice that an append has made in new memory. -/
theorem QOut.grown {e : TypeId} {vs vs' rest : List Value} {need nc size : Nat} {u : Option (Nat × Blk)} (hR : Rel P D β κ base N H w) (hDn : ∀ i, D i → i < n)
    (hu : ∀ k b, u = some (k, b) → b = .dead ∧ base ≤ k ∧ k < n ∧ H k ≠ .dead)
    (h : LR D β κ vs vs') (hneed : need ≤ nc) (hnc : nc < INF) (hsz : sizeT P e = some size) (hlen : vs'.length + rest.length = nc * size) :
    ∃ β' κ', QOut P D β κ base N n w { val := .slice (some ⟨n, 0, none⟩) need UNK, new := [.cells e vs], upd := u } (.slice (some ⟨w.heap.size, 0, none⟩) need nc) (w.drew.alloc (.cells (vs' ++ rest).toArray e)) β' κ' := by
  refine ⟨fun i => if i = n then (w.heap.size, 0) else β i, fun i => if i = n then nc else κ i, ?_⟩
  have hold : ∀ {B : Nat}, B < w.heap.size → (w.drew.alloc (.cells (vs' ++ rest).toArray e)).heap[B]? = w.heap[B]? := fun hB => heap_alloc_old (w := w.drew) hB
  have hnew : (w.drew.alloc (.cells (vs' ++ rest).toArray e)).heap[w.heap.size]? = some (.cells (vs' ++ rest).toArray e) := heap_alloc_new (w := w.drew)
  have hDne : ∀ i, D i → i ≠ n := fun i hi => Nat.ne_of_lt (hDn i hi)
  exact {
    ext := fun i hi => by have : i ≠ n := fun e => hi (by subst e; exact ⟨Nat.le_refl _, by simp⟩); simp [this]
    val := by
      have := VR.sliceU (D := fun i => D i ∨ InNew n 1 i) (β := fun i => if i = n then (w.heap.size, 0) else β i) (κ := fun i => if i = n then nc else κ i) n 0 need 0 (.inr (inNew_one.2 rfl)) (by simpa using hneed) (by simpa using hnc)
      simpa using this
    below := ((Below.refl _ _).drew).alloc hR.size _
    keep := fun B hB _ => hold hB
    new := fun j c hc _ => by
      cases j with
      | zero =>
        simp at hc
        subst hc
        simp only [Nat.add_zero]
        refine ⟨⟨(vs' ++ rest).toArray, e, (0, 0), by simpa using hnew, fun k x hx => ?_⟩, ⟨(vs' ++ rest).toArray, e, by simpa using hnew, fun s hs => ?_⟩, by simpa using hR.size, .inl (by simp)⟩
        · obtain ⟨x', hx', hr⟩ := h.get hx
          refine ⟨x', ?_, hr.mono (fun _ h => .inl h) (fun i hi => by simp [hDne i hi])⟩
          have hk : k < vs'.length := (List.getElem?_eq_some_iff.1 hx').1
          simp only [if_true, Nat.zero_add, List.getElem?_toArray]
          rw [List.getElem?_append_left hk]
          exact hx'
        · rw [hsz] at hs
          cases hs
          simp [hlen]
      | succ j => simp at hc
    inj := fun i j b c hi hj _ _ _ => by
      cases i with
      | zero => cases j with | zero => rfl | succ j => simp at hj
      | succ i => simp at hi
    upd := fun k c h => by
      obtain ⟨rfl, h2, h3, _⟩ := hu k c h
      exact ⟨h2, h3, trivial, trivial⟩ }

theorem append_sim {h : List Blk} {ts : Array TypeId} {ty : TypeId} {s s' x x' : Value} {q : QRes} (ha : cAppend P base h n ts s x = some q) (hR : Rel P D β κ base N (toF h) w)
    (hs : VR D β κ s s') (hx : VR D β κ x x') (hn : h.length ≤ n) (hDn : ∀ i, D i → i < n) :
    ∃ v' w' β' κ', (Builtin.append_ ts ty #[s', x']).run P w = .ok v' w' ∧ QOut P D β κ base N n w q v' w' β' κ' := by
  unfold cAppend at ha
  split at ha
  · rename_i e sb sLen sCap hu0
    split at ha
    · rename_i size bytes zero hsz hby hz
      split at ha
      · rename_i hc
        obtain ⟨hzf, hzs, hpos⟩ := hc
        cases hts0 : ts[0]? with
        | none => rw [hts0] at hu0; cases hu0
        | some sT =>
        rw [hts0] at hu0
        have hu : P.underlying sT = some (.slice e) := hu0
        cases hts1 : ts[1]? with
        | none => rw [hts1] at ha; simp [appArg] at ha
        | some xT =>
        rw [hts1] at ha
        cases hd : P.underlying xT with
        | none => simp only [Option.bind_some, hd, appArg] at ha; cases ha
        | some d =>
        simp only [Option.bind_some, hd] at ha
        split at ha
        · cases ha
        · rename_i xn xs harg
          obtain ⟨xs', hxl, hA⟩ := arg_sim harg hR hx hzf hzs hpos
          split at ha
          · -- nothing is appended
            rename_i hxn
            cases ha
            subst hxn
            have hx0 : xs' = [] := List.length_eq_zero_iff.1 (by rw [hA.len]; simp)
            subst hx0
            have go : ∀ (b' : Option Addr) (c' : Nat), s' = .slice b' sLen c' → sLen ≤ c' → ∃ v' w' β' κ', (Builtin.append_ ts ty #[s', x']).run P w = .ok v' w' ∧ QOut P D β κ base N n w { val := .slice sb sLen sCap } v' w' β' κ' := by
              rintro b' c' rfl hle
              exact ⟨_, w, β, κ, append_in hts0 hts1 hu hd hsz hby hz hzs hpos hA (by omega) (fun a _ => by simp [storeCells]) (fun _ => rfl), QOut.same hs⟩
            cases hs with
            | snil => exact go _ _ rfl (by omega)
            | slice i o l c hi hlc hc => exact go _ _ rfl hlc
            | sliceU i o l q hi hq hk => exact go _ _ rfl (by omega)
            | sliceE i o q a hq => exact go _ _ rfl (by omega)
            | sliceZ i o a => exact go _ _ rfl (by omega)
            | sliceA i o l C c hi hC hlc hc => exact go _ _ rfl hlc
            | sliceAN i o C a hC => exact go _ _ rfl (by omega)
          · rename_i hxn
            split at ha
            · -- in place, over a known capacity
              rename_i hfit
              obtain ⟨hcap, hfit⟩ := hfit
              unfold appIn at ha
              split at ha
              · rename_i a
                cases hs with
                | slice i o l c hi hlc hc =>
                  cases hst : cStoreAt base h ((⟨i, o, none⟩ : Addr).add (sLen * size)) xs with
                  | none => rw [hst] at ha; cases ha
                  | some u =>
                    rw [hst] at ha
                    cases ha
                    rw [add_eq] at hst
                    obtain ⟨w1, hrun, hq⟩ := storeAt_sim hst hR hxl hn
                    refine ⟨_, w1, β, κ, append_in hts0 hts1 hu hd hsz hby hz hzs hpos hA hfit (fun a ha => ?_) (fun h => by cases h), hq _ _ (.slice i o _ _ hi hfit hc)⟩
                    cases ha
                    rw [add_eq, Nat.add_assoc]
                    exact hrun
                | sliceU i o l q hi hq hk => simp only [UNK, INF] at *; omega
                | sliceE i o q a hq => simp only [UNK, INF] at *; omega
                | sliceZ i o a => omega
                | sliceA i o l C c hi hC hlc hc => simp only [UNK, INF] at *; omega
                | sliceAN i o C a hC => simp only [UNK, INF] at *; omega
              · cases ha
            · rename_i hnf
              split at ha
              · cases ha
              · rename_i hbig
                split at ha
                · -- a copy
                  rename_i hcap
                  have hnofit : ¬ sLen + xn ≤ sCap := fun h => hnf ⟨hcap, h⟩
                  unfold appCopy at ha
                  split at ha
                  · rename_i old hrd
                    cases ha
                    have go : ∀ (b' : Option Addr), s' = .slice b' sLen sCap → VR D β κ (.slice sb sLen sCap) (.slice b' sLen sCap) → ∃ v' w' β' κ', (Builtin.append_ ts ty #[s', x']).run P w = .ok v' w' ∧ QOut P D β κ base N n w { val := .slice (some ⟨n, 0, none⟩) (sLen + xn) UNK, new := [.cells e (old ++ xs)] } v' w' β' κ' := by
                      rintro b' rfl hv
                      obtain ⟨rs, h1, h2, h3, h4⟩ := readCells_sim hrd hR hv (fun h0 => by rw [h0]; simp)
                      have hold : (Builtin.firstCells size sLen (.slice b' sLen sCap)).run P w.drew = .ok rs.toArray w.drew := by
                        cases b' with
                        | some a => simp [Builtin.firstCells, h3 a rfl w.drew rfl]
                        | none =>
                          have : rs = [] := List.length_eq_zero_iff.1 (h2.trans (h4 rfl))
                          subst this
                          simp [Builtin.firstCells]
                      obtain ⟨nc, g1, g2, g3⟩ := append_new (ty := ty) hts0 hts1 hu hd hsz hby hz hzs hpos hA hnofit hbig hold
                      obtain ⟨β', κ', hq⟩ := QOut.grown (P := P) (e := e) (need := sLen + xn) (nc := nc) (u := none) (rest := (List.replicate (nc - (sLen + xn)) zero.cells.toList).flatten) hR hDn (fun k b h => by cases h) (h1.app hxl) g1 g2 hsz (by
                        simp only [List.length_append, List.length_flatten, List.map_replicate, List.sum_replicate_nat, Array.length_toList, h2, hA.len, hzs]
                        rw [← Nat.add_mul, ← Nat.add_mul]; congr 1; omega)
                      exact ⟨_, _, β', κ', g3, hq⟩
                    cases hs with
                    | snil => exact go _ rfl .snil
                    | slice i o l c hi hlc hc => exact go _ rfl (.slice i o _ _ hi hlc hc)
                    | sliceU i o l q hi hq hk => simp only [UNK, INF] at *; omega
                    | sliceE i o q a hq => simp only [UNK, INF] at *; omega
                    | sliceZ i o a => exact go _ rfl (.sliceZ i o a)
                    | sliceA i o l C c hi hC hlc hc => simp only [UNK, INF] at *; omega
                    | sliceAN i o C a hC => simp only [UNK, INF] at *; omega
                  · cases ha
                · -- on a slice that an append has made
                  rename_i hcap
                  unfold appOn at ha
                  split at ha
                  · rename_i k o
                    split at ha
                    · rename_i t vs hk
                      split at ha
                      · rename_i hcond
                        obtain ⟨hbk, htsz, ho, hcu, hov, hok⟩ := hcond
                        cases ha
                        have halive : toF h k ≠ .dead := by rw [toF_some hk]; simp
                        have hkl : k < h.length := (List.getElem?_eq_some_iff.1 hk).1
                        have hB := hR.blk k
                        rw [toF_some hk] at hB
                        cases hs with
                        | slice i o l c hi hlc hc => exact absurd hc hcap
                        | sliceZ => exact absurd (Nat.zero_le _) hcap
                        | sliceA i o l C c hi hC hlc hc => omega
                        | sliceAN i o C a hC => omega
                        | sliceE i o q a hq =>
                          -- nothing is there yet
                          have hold : (Builtin.firstCells size 0 (.slice (some a) 0 0)).run P w.drew = .ok ([] : List Value).toArray w.drew := by simp [Builtin.firstCells, loadCells, loadCellsFrom]
                          obtain ⟨nc, g1, g2, g3⟩ := append_new (ty := ty) hts0 hts1 hu hd hsz hby hz hzs hpos hA (by omega) hbig hold
                          obtain ⟨β', κ', hq⟩ := QOut.grown (P := P) (e := e) (need := 0 + xn) (nc := nc) (u := some (k, .dead)) (rest := (List.replicate (nc - (0 + xn)) zero.cells.toList).flatten) hR hDn (fun k' b h => by cases h; exact ⟨rfl, hbk, by omega, halive⟩) (LR.app (.nil) hxl) g1 g2 hsz (by
                            simp only [List.length_append, List.length_nil, List.length_flatten, List.map_replicate, List.sum_replicate_nat, Array.length_toList, hA.len, hzs]
                            rw [Nat.zero_add, Nat.zero_add, ← Nat.add_mul]; congr 1; omega)
                          refine ⟨_, _, β', κ', g3, ?_⟩
                          simpa using hq
                        | sliceU i o l q hi hq hk2 =>
                          have hq' : UNK - (UNK - q) = q := by simp only [UNK, INF] at *; omega
                          rw [hq'] at ho
                          obtain ⟨rs, h1, h2, h3⟩ := cells_at hB hov
                          by_cases hfit : sLen + xn ≤ κ k - q
                          · -- in place
                            obtain ⟨hNk, hO⟩ := hR.own k halive hbk
                            rw [toF_some hk] at hO
                            obtain ⟨arr, T, hg, hroom⟩ := hO
                            obtain ⟨arr2, T2, fz2, hg2, hcells⟩ := hB
                            rw [hg] at hg2
                            cases hg2
                            have hro := hroom size htsz
                            have hmul : q * size + (κ k - q) * size = κ k * size := by rw [← Nat.add_mul]; congr 1; omega
                            have hmul2 : sLen * size + xn * size ≤ (κ k - q) * size := by rw [← Nat.add_mul]; exact Nat.mul_le_mul_right _ hfit
                            have hone : ∀ v ∈ xs', v.oneCell' = true := fun v hv => by
                              obtain ⟨j, hj⟩ := List.mem_iff_getElem?.1 hv
                              have hj' : j < xs.length := by rw [hxl.len]; exact (List.getElem?_eq_some_iff.1 hj).1
                              exact oneCell_of (hxl.at_ j _ _ (List.getElem?_eq_getElem hj') hj) (List.all_eq_true.1 hok _ (List.getElem_mem hj'))
                            have hlen' := hA.len
                            have hrun := run_storeCells_at P (β k).1 ((β k).2 + o + sLen * size) T xs' 0 arr w hg (by omega) hone
                            simp only [Nat.add_zero] at hrun
                            have hnew := setRow_heap w (β k).1 arr (arr.toList.take ((β k).2 + o + sLen * size) ++ xs' ++ arr.toList.drop ((β k).2 + o + sLen * size + xs'.length)).toArray T (0, 0) hg
                            generalize hna : (arr.toList.take ((β k).2 + o + sLen * size) ++ xs' ++ arr.toList.drop ((β k).2 + o + sLen * size + xs'.length)).toArray = na at hrun hnew
                            have hDne : ∀ i, D i → i ≠ n := fun i hi => Nat.ne_of_lt (hDn i hi)
                            refine ⟨_, _, fun i => if i = n then ((β k).1, (β k).2 + o) else β i, fun i => if i = n then κ k - q else κ i,
                              append_in (w1 := w.setRow (β k).1 na) hts0 hts1 hu hd hsz hby hz hzs hpos hA hfit (fun a ha => by cases ha; rw [add_eq]; exact hrun) (fun h => by cases h), ?_⟩
                            exact {
                              ext := fun i hi => by have : i ≠ n := fun e => hi (by subst e; exact ⟨Nat.le_refl _, by simp⟩); simp [this]
                              val := by
                                have := VR.sliceU (D := fun i => D i ∨ InNew n 1 i) (β := fun i => if i = n then ((β k).1, (β k).2 + o) else β i) (κ := fun i => if i = n then κ k - q else κ i) n 0 (sLen + xn) 0 (.inr (inNew_one.2 rfl)) (by simpa using hfit) (by simp; omega)
                                simpa using this
                              below := below_setRow (Below.refl _ _) hNk _
                              keep := fun B _ hu => setRow_other w _ _ _ (hu k _ rfl)
                              new := fun j c hc _ => by
                                cases j with
                                | succ j => simp at hc
                                | zero =>
                                  simp at hc
                                  subst hc
                                  simp only [Nat.add_zero]
                                  refine ⟨⟨na, T, (0, 0), by simpa using hnew, fun j x hx => ?_⟩, ⟨na, T, by simpa using hnew, fun s hs => ?_⟩, by simpa using hNk, .inr ⟨k, rfl, by simp⟩⟩
                                  · have up : ∀ (z z' : Value), VR D β κ z z' → VR (fun i => D i ∨ InNew n 1 i) (fun i => if i = n then ((β k).1, (β k).2 + o) else β i) (fun i => if i = n then κ k - q else κ i) z z' := fun z z' hz => hz.mono (fun _ h => .inl h) (fun i hi => by simp [hDne i hi])
                                    have la : (arr.toList.take ((β k).2 + o + sLen * size)).length = (β k).2 + o + sLen * size := by simp; omega
                                    have lb : ((vs.drop o).take (sLen * size)).length = sLen * size := by simp; omega
                                    rw [List.getElem?_append, lb] at hx
                                    simp only [if_true, ← hna, List.getElem?_toArray]
                                    rw [List.append_assoc, List.getElem?_append, la]
                                    split at hx
                                    · rename_i hj
                                      rw [if_pos (by omega)]
                                      rw [List.getElem?_take, if_pos hj, List.getElem?_drop] at hx
                                      obtain ⟨v', h1', h2'⟩ := hcells _ _ hx
                                      refine ⟨v', ?_, up _ _ h2'⟩
                                      rw [List.getElem?_take, if_pos (by omega), Nat.add_assoc]
                                      simpa using h1'
                                    · rename_i hj
                                      rw [if_neg (by omega)]
                                      obtain ⟨v', h1', h2'⟩ := hxl.get hx
                                      refine ⟨v', ?_, up _ _ h2'⟩
                                      have hj2 : j - sLen * size < xs'.length := (List.getElem?_eq_some_iff.1 h1').1
                                      have e1 : (β k).2 + o + j - ((β k).2 + o + sLen * size) = j - sLen * size := by omega
                                      rw [e1, List.getElem?_append_left hj2]
                                      exact h1'
                                  · rw [hsz] at hs
                                    cases hs
                                    simp only [if_true, ← hna, List.size_toArray, List.length_append, List.length_take, List.length_drop, Array.length_toList]
                                    omega
                              inj := fun i j b c hi hj _ _ _ => by
                                cases i with
                                | zero => cases j with | zero => rfl | succ j => simp at hj
                                | succ i => simp at hi
                              upd := fun k' c h => by
                                simp only [Option.some.injEq, Prod.mk.injEq] at h
                                obtain ⟨rfl, rfl⟩ := h
                                exact ⟨hbk, by omega, trivial, trivial⟩ }
                          · have hold : (Builtin.firstCells size sLen (.slice (some ⟨(β k).1, (β k).2 + o, none⟩) sLen (κ k - q))).run P w.drew = .ok rs.toArray w.drew := by
                              have := run_loadCells_list (P := P) (w := w.drew) ⟨(β k).1, (β k).2 + o, none⟩ rs (fun j v hv => by simpa using h3 j v hv)
                              rw [h2] at this
                              simpa [Builtin.firstCells] using this
                            obtain ⟨nc, g1, g2, g3⟩ := append_new (ty := ty) hts0 hts1 hu hd hsz hby hz hzs hpos hA hfit hbig hold
                            obtain ⟨β', κ', hq⟩ := QOut.grown (P := P) (e := e) (need := sLen + xn) (nc := nc) (u := some (k, .dead)) (rest := (List.replicate (nc - (sLen + xn)) zero.cells.toList).flatten) hR hDn (fun k' b h => by cases h; exact ⟨rfl, hbk, by omega, halive⟩) (h1.app hxl) g1 g2 hsz (by
                              simp only [List.length_append, List.length_flatten, List.map_replicate, List.sum_replicate_nat, Array.length_toList, h2, hA.len, hzs]
                              rw [← Nat.add_mul, ← Nat.add_mul]; congr 1; omega)
                            exact ⟨_, _, β', κ', g3, hq⟩
                      · cases ha
                    · cases ha
                  · cases ha
      · cases ha
    · cases ha
  · cases ha
end
end Go.Cl
