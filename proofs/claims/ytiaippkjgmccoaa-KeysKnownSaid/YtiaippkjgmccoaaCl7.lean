/- Operations, one by one: stores, comparisons, arithmetic. -/
import Derived.Test.YtiaippkjgmccoaaCl6
import Derived.Laws.CopyOwn
import Derived.Laws.Rows
namespace Go.Cl
open Go Go.RowKit

section
variable {P : Program} {w : World} {D : Nat → Prop} {β : Nat → Nat × Nat} {κ : Nat → Nat} {base N n : Nat}

theorem oneCell_of {v v' : Value} (h : VR D β κ v v') (hc : cellOk v = true) : v'.oneCell' = true := by
  cases h <;> simp_all [cellOk, Value.oneCell']

theorem not_inNew_zero {i : Nat} : ¬ InNew n 0 i := by unfold InNew; omega

/-- Cells written into a block of the call's own. -/
theorem storeAt_sim {h : List Blk} {i o : Nat} {xs xs' : List Value} {u : Option (Nat × Blk)} (hs : cStoreAt base h ⟨i, o, none⟩ xs = some u)
    (hR : Rel P D β κ base N (toF h) w) (hx : LR D β κ xs xs') (hn : h.length ≤ n) :
    ∃ w', (storeCells ⟨(β i).1, (β i).2 + o, none⟩ xs').run P w = .ok () w' ∧ ∀ v v', VR D β κ v v' → QOut P D β κ base N n w { val := v, upd := u } v' w' β κ := by
  unfold cStoreAt at hs
  simp only [Option.isSome_none, Bool.false_eq_true, if_false] at hs
  split at hs
  · rename_i he
    cases hs
    have : xs = [] := by simpa using he
    subst this
    rw [hx.unnil]
    exact ⟨w, by simp [storeCells], fun v v' hv => QOut.same hv⟩
  · split at hs
    · rename_i t vs hi
      split at hs
      · rename_i hc
        obtain ⟨hb, hl, hok⟩ := hc
        cases hs
        have hB := hR.blk i
        obtain ⟨hNi, hO⟩ := hR.own i (by rw [toF_some hi]; simp) hb
        rw [toF_some hi] at hB hO
        obtain ⟨arr, T, hg, hroom⟩ := hO
        obtain ⟨arr2, T2, fz2, hg2, hcells⟩ := hB
        rw [hg] at hg2
        cases hg2
        have hil : i < h.length := (List.getElem?_eq_some_iff.1 hi).1
        have hfit : (β i).2 + o + 0 + xs'.length ≤ arr.size := by
          rw [← hx.len]
          by_cases h0 : xs.length = 0
          · -- nothing is written
            have : xs = [] := List.length_eq_zero_iff.1 h0
            simp_all
          · obtain ⟨v', hv', _⟩ := hcells (o + xs.length - 1) _ (List.getElem?_eq_getElem (show o + xs.length - 1 < vs.length by omega))
            obtain ⟨hlt, _⟩ := Array.getElem?_eq_some_iff.1 hv'
            omega
        have hone : ∀ v ∈ xs', v.oneCell' = true := fun v hv => by
          obtain ⟨j, hj⟩ := List.mem_iff_getElem?.1 hv
          have hj' : j < xs.length := by rw [hx.len]; exact (List.getElem?_eq_some_iff.1 hj).1
          exact oneCell_of (hx.at_ j _ _ (List.getElem?_eq_getElem hj') hj) (List.all_eq_true.1 hok _ (List.getElem_mem hj'))
        have hrun := run_storeCells_at P (β i).1 ((β i).2 + o) T xs' 0 arr w hg hfit hone
        simp only [Nat.add_zero] at hrun hfit
        refine ⟨_, hrun, fun v v' hv => ?_⟩
        have hnew := setRow_heap w (β i).1 arr (arr.toList.take ((β i).2 + o) ++ xs' ++ arr.toList.drop ((β i).2 + o + xs'.length)).toArray T (0, 0) hg
        exact {
          ext := fun _ _ => ⟨rfl, rfl⟩
          val := hv.mono (fun _ h => .inl h) Ext.refl
          below := below_setRow (Below.refl _ _) hNi _
          keep := fun B _ hu => setRow_other w _ _ _ (hu i _ rfl)
          new := fun j b h => by simp at h
          inj := fun i j b c h => by simp at h
          upd := fun k b hkb => by
            simp only [Option.some.injEq, Prod.mk.injEq] at hkb
            obtain ⟨rfl, rfl⟩ := hkb
            refine ⟨hb, by omega, ⟨_, T, (0, 0), hnew, fun k x hk => ?_⟩, ⟨_, T, hnew, fun s hs => ?_⟩⟩
            · have up : ∀ (z : Value) (z' : Value), VR D β κ z z' → VR (fun i => D i ∨ InNew n ([] : List Blk).length i) β κ z z' := fun z z' hz => hz.mono (fun _ h => .inl h) Ext.refl
              have la : (arr.toList.take ((β i).2 + o)).length = (β i).2 + o := by simp; omega
              have lb : (vs.take o).length = o := by simp; omega
              simp only [List.getElem?_toArray]
              rw [List.append_assoc] at hk ⊢
              rw [List.getElem?_append, lb] at hk
              rw [List.getElem?_append, la]
              split at hk
              · rename_i hko
                rw [if_pos (by omega)]
                rw [List.getElem?_take, if_pos hko] at hk
                obtain ⟨v', h1, h2⟩ := hcells k x hk
                exact ⟨v', by rw [List.getElem?_take, if_pos (by omega)]; simpa using h1, up _ _ h2⟩
              · rename_i hko
                rw [if_neg (by omega)]
                have e1 : (β i).2 + k - ((β i).2 + o) = k - o := by omega
                rw [e1, List.getElem?_append]
                rw [List.getElem?_append] at hk
                rw [← hx.len]
                split at hk
                · rename_i hk2
                  rw [if_pos hk2]
                  obtain ⟨v', h1, h2⟩ := hx.get hk
                  exact ⟨v', h1, up _ _ h2⟩
                · rename_i hk2
                  rw [if_neg hk2]
                  rw [List.getElem?_drop] at hk ⊢
                  have e2 : o + xs.length + (k - o - xs.length) = k := by omega
                  rw [e2] at hk
                  obtain ⟨v', h1, h2⟩ := hcells k x hk
                  refine ⟨v', ?_, up _ _ h2⟩
                  have e3 : (β i).2 + o + xs.length + (k - o - xs.length) = (β i).2 + k := by omega
                  rw [e3]
                  simpa using h1
            · have := hroom s hs
              simp only [List.size_toArray, List.length_append, List.length_take, List.length_drop, Array.length_toList]
              omega }
      · cases hs
    · cases hs

theorem store_sim {h : List Blk} {t : TypeId} {a a' x x' : Value} {q : QRes} (hs : cStore P base h t a x = some q) (hR : Rel P D β κ base N (toF h) w)
    (ha : VR D β κ a a') (hx : VR D β κ x x') (hn : h.length ≤ n) :
    ∃ w', (Instr.storeAt t a' x').run P w = .ok () w' ∧ QOut P D β κ base N n w q undef w' β κ := by
  unfold cStore at hs
  split at hs
  · rename_i a s hsz
    split at hs
    · rename_i hc
      cases ha with
      | ptr i o hi =>
      obtain ⟨hc, hop⟩ := hc
      have hp : x ≠ .chan (some 0) := fun e => by rw [e] at hop; cases hop
      · have hxc := hx.cells hp
        cases hst : cStoreAt base h ⟨i, o, none⟩ x.cells.toList with
        | none => rw [hst] at hs; cases hs
        | some u =>
          rw [hst] at hs
          cases hs
          obtain ⟨w', h1, h2⟩ := storeAt_sim hst hR hxc hn
          refine ⟨w', ?_, h2 _ _ VR.undef⟩
          have hsize : x'.cells.size = s := by
            have := hxc.len
            simp only [Array.length_toList] at this
            omega
          simp [Instr.storeAt, Instr.sureAddr, storeVar, run_size hsz, hsize, h1]
    · cases hs
  · cases hs

/-! ### Comparisons of keys -/

theorem beq_kind {q q' : IntKind} (h : (q == q') = true) : q = q' := by cases q <;> cases q' <;> first | rfl | cases h

theorem leaf_equal {d : Nat} {t : TypeId} {a b : Value} (ht : isPlainKey (P.underlying t) = true) (ha : fitLeaf (P.underlying t) a = true) (hb : fitLeaf (P.underlying t) b = true) (w : World) :
    (Op.equalIn (d + 1) t a b).run P w = .ok (eqLeaf a b) w := by
  cases hu : P.underlying t with
  | none => rw [hu] at ht; cases ht
  | some dd =>
    rw [hu] at ht ha hb
    cases dd with
    | bool =>
      cases a <;> simp [fitLeaf] at ha
      cases b <;> simp [fitLeaf] at hb
      simp [Op.equalIn, run_und hu, eqLeaf]
    | int q =>
      cases a <;> simp [fitLeaf] at ha
      cases b <;> simp [fitLeaf] at hb
      have e1 := beq_kind (show (q == _) = true by simpa using ha)
      have e2 := beq_kind (show (q == _) = true by simpa using hb)
      subst e1 e2
      simp [Op.equalIn, run_und hu, eqLeaf]
    | _ => simp [isPlainKey] at ht

theorem plainKey_agg {t : TypeId} (ht : isPlainKey (P.underlying t) = true) : aggT P t = some false := by
  unfold aggT
  cases hu : P.underlying t with
  | none => rw [hu] at ht; cases ht
  | some d => rw [hu] at ht; cases d <;> simp_all [isPlainKey]

/-- A field's test, as `keyT` has it. -/
def fieldOk (P : Program) (f : Field) (i : Nat) : Bool := f.name != "_" && f.offset == i && sizeT P f.type == some 1 && isPlainKey (P.underlying f.type)

theorem fieldOk_spec {f : Field} {i : Nat} (h : fieldOk P f i = true) : f.name ≠ "_" ∧ f.offset = i ∧ isPlainKey (P.underlying f.type) = true := by
  simp only [fieldOk, Bool.and_eq_true, bne_iff_ne, beq_iff_eq] at h
  exact ⟨h.1.1.1, h.1.1.2, h.2⟩

theorem part_leaf {t : TypeId} {l : List Value} {k : Nat} {v : Value} (ht : isPlainKey (P.underlying t) = true) (h : l[k]? = some v) (w : World) : (part t ⟨l⟩ k).run P w = .ok v w := by
  simp [part, run_isAgg (plainKey_agg ht), h]

theorem drop_cons {l : List Value} {k : Nat} {v : Value} {r : List Value} (h : l.drop k = v :: r) : l[k]? = some v ∧ l.drop (k + 1) = r := by
  constructor
  · have := congrArg (fun x => x[0]?) h
    simpa using this
  · have := congrArg List.tail h
    simpa [List.tail_drop] using this

theorem fit_cons {f : Field} {fs : List Field} {l : List Value} {k : Nat} (h : fitLeaves P (f :: fs) (l.drop k) = true) :
    ∃ v, l[k]? = some v ∧ fitLeaf (P.underlying f.type) v = true ∧ fitLeaves P fs (l.drop (k + 1)) = true ∧ l.drop k = v :: l.drop (k + 1) := by
  cases hd : l.drop k with
  | nil => rw [hd] at h; cases h
  | cons v r =>
    rw [hd] at h
    obtain ⟨h1, h2⟩ := drop_cons hd
    simp only [fitLeaves, Bool.and_eq_true] at h
    exact ⟨v, h1, h.1, by rw [h2]; exact h.2, by rw [h2]⟩

theorem eq_loop {d : Nat} {L M : List Value} (w : World) : ∀ (fs : List Field) (k : Nat), (fs.zipIdx k).all (fun p => fieldOk P p.1 p.2) = true → fitLeaves P fs (L.drop k) = true → fitLeaves P fs (M.drop k) = true →
    (forIn fs ((none, ()) : Option Bool × Unit) fun f _ =>
            if f.name = "_" then pure (ForInStep.yield (none, ()))
            else do
              let __do_lift ← part f.type ⟨L⟩ f.offset
              let __do_lift_1 ← part f.type ⟨M⟩ f.offset
              let __do_lift ← Op.equalIn (d + 1) f.type __do_lift __do_lift_1
              if __do_lift = false then pure (ForInStep.done (some false, ())) else pure (ForInStep.yield (none, ())) : Sem (Option Bool × Unit)).run P w =
      .ok (if eqLeaves (L.drop k) (M.drop k) then (none, ()) else (some false, ())) w := by
  intro fs
  induction fs with
  | nil =>
    intro k _ h1 h2
    have e1 : L.drop k = [] := by cases hd : L.drop k with | nil => rfl | cons v r => rw [hd] at h1; cases h1
    have e2 : M.drop k = [] := by cases hd : M.drop k with | nil => rfl | cons v r => rw [hd] at h2; cases h2
    simp [e1, e2, eqLeaves]
  | cons f fs ih =>
    intro k hf h1 h2
    simp only [List.zipIdx_cons, List.all_cons, Bool.and_eq_true] at hf
    obtain ⟨g1, g2, g3⟩ := fieldOk_spec hf.1
    obtain ⟨v, a1, a2, a3, a4⟩ := fit_cons h1
    obtain ⟨u, b1, b2, b3, b4⟩ := fit_cons h2
    rw [List.forIn_cons]
    simp only [g1, if_false, g2, Sem.run_bind, part_leaf g3 a1, part_leaf g3 b1, Result.andThen_ok, leaf_equal g3 a2 b2]
    rw [a4, b4]
    simp only [eqLeaves]
    by_cases he : eqLeaf v u = true
    · have := ih (k + 1) hf.2 a3 b3
      simp [he, this]
    · simp only [Bool.not_eq_true] at he
      simp [he]

theorem check_loop {d : Nat} {e : Bool} {L : List Value} (w : World) : ∀ (fs : List Field) (k : Nat), (fs.zipIdx k).all (fun p => fieldOk P p.1 p.2) = true → fitLeaves P fs (L.drop k) = true →
    (forIn fs PUnit.unit fun f _ =>
            if f.name = "_" then pure (ForInStep.yield PUnit.unit)
            else do
              let __do_lift ← part f.type ⟨L⟩ f.offset
              (fun _ => ForInStep.yield PUnit.unit) <$> Instr.checkKey e (d + 1) f.type __do_lift : Sem PUnit).run P w = .ok () w := by
  intro fs
  induction fs with
  | nil => intro k _ _; simp
  | cons f fs ih =>
    intro k hf h1
    simp only [List.zipIdx_cons, List.all_cons, Bool.and_eq_true] at hf
    obtain ⟨g1, g2, g3⟩ := fieldOk_spec hf.1
    obtain ⟨v, a1, a2, a3, a4⟩ := fit_cons h1
    rw [List.forIn_cons]
    have hc : (Instr.checkKey e (d + 1) f.type v).run P w = .ok () w := by
      cases hu : P.underlying f.type with
      | none => rw [hu] at g3; cases g3
      | some dd =>
        rw [hu] at g3 a2
        cases dd <;> simp [isPlainKey] at g3 <;> cases v <;> simp [fitLeaf] at a2 <;> simp [Instr.checkKey, run_und hu]
    have := ih (k + 1) hf.2 a3
    simp only [g1, if_false, g2, Sem.run_bind, part_leaf g3 a1, Result.andThen_ok, Sem.run_map, hc]
    exact this

theorem keyT_spec {kt : TypeId} (h : keyT P kt = true) : isPlainKey (P.underlying kt) = true ∨ ∃ fields, P.underlying kt = some (.struct fields) ∧ P.stoodInHeld kt = false ∧ (fields.toList.zipIdx 0).all (fun p => fieldOk P p.1 p.2) = true := by
  unfold keyT at h
  split at h
  · rename_i fields hu
    simp only [Bool.and_eq_true, Bool.not_eq_true'] at h
    exact .inr ⟨fields, hu, h.1, h.2⟩
  · exact .inl h

theorem fits_struct {kt : TypeId} {fields : Array Field} {k : Value} (hu : P.underlying kt = some (.struct fields)) (h : keyFits P kt k = true) : ∃ l, k = .agg ⟨l⟩ ∧ fitLeaves P fields.toList l = true := by
  unfold keyFits at h
  rw [hu] at h
  cases k with
  | agg cs => obtain ⟨l⟩ := cs; exact ⟨l, rfl, h⟩
  | _ => simp at h
theorem fits_leaf {kt : TypeId} {k : Value} (hp : isPlainKey (P.underlying kt) = true) (h : keyFits P kt k = true) : fitLeaf (P.underlying kt) k = true ∧ ∀ cs, k ≠ .agg cs := by
  unfold keyFits at h
  cases hu : P.underlying kt with
  | none => rw [hu] at hp; cases hp
  | some d =>
    rw [hu] at hp h
    cases d <;> simp [isPlainKey] at hp <;> cases k <;> simp_all [fitLeaf]

theorem eqKey_leaf {a b : Value} (ha : ∀ cs, a ≠ .agg cs) : eqKey a b = eqLeaf a b := by
  unfold eqKey
  split
  · exact absurd rfl (ha _)
  · rfl

theorem equal_struct {d : Nat} {t : TypeId} {fields : Array Field} {xs ys : Array Value} (hu : P.underlying t = some (.struct fields)) (hs : P.stoodInHeld t = false) (w : World) :
    (Op.equalIn (d + 1) t (.agg xs) (.agg ys)).run P w = ((forIn fields ((none, ()) : Option Bool × Unit) fun f _ =>
            if f.name = "_" then pure (ForInStep.yield (none, ()))
            else do
              let __do_lift ← part f.type xs f.offset
              let __do_lift_1 ← part f.type ys f.offset
              let __do_lift ← Op.equalIn d f.type __do_lift __do_lift_1
              if __do_lift = false then pure (ForInStep.done (some false, ())) else pure (ForInStep.yield (none, ())) : Sem (Option Bool × Unit)).run P w).andThen fun a w' => .ok (a.1.getD true) w' := by
  simp only [Op.equalIn, Sem.run_bind, run_und hu, Result.andThen_ok, run_program, hs]
  simp
  congr 1
  funext a w'
  cases a.fst <;> simp

theorem check_struct {d : Nat} {e : Bool} {t : TypeId} {fields : Array Field} {xs : Array Value} (hu : P.underlying t = some (.struct fields)) (w : World) :
    (Instr.checkKey e (d + 1) t (.agg xs)).run P w = ((forIn fields PUnit.unit fun f _ =>
            if f.name = "_" then pure (ForInStep.yield PUnit.unit)
            else do
              let __do_lift ← part f.type xs f.offset
              (fun _ => ForInStep.yield PUnit.unit) <$> Instr.checkKey e d f.type __do_lift : Sem PUnit).run P w).andThen fun _ w' => .ok () w' := by
  simp only [Instr.checkKey, Sem.run_bind, run_und hu, Result.andThen_ok]
  simp

/-- Keys are compared as `eqKey` says. -/
theorem key_equal {d : Nat} {kt : TypeId} {a b : Value} (hk : keyT P kt = true) (ha : keyFits P kt a = true) (hb : keyFits P kt b = true) (w : World) :
    (Op.equalIn (d + 2) kt a b).run P w = .ok (eqKey a b) w := by
  rcases keyT_spec hk with hp | ⟨fields, hu, hst, hf⟩
  · obtain ⟨a1, a2⟩ := fits_leaf hp ha
    obtain ⟨b1, _⟩ := fits_leaf hp hb
    rw [eqKey_leaf a2]
    exact leaf_equal hp a1 b1 w
  · obtain ⟨l, rfl, h1⟩ := fits_struct hu ha
    obtain ⟨m, rfl, h2⟩ := fits_struct hu hb
    have := eq_loop (d := d) (L := l) (M := m) w fields.toList 0 hf (by simpa using h1) (by simpa using h2)
    simp only [List.drop_zero, Array.forIn_toList] at this
    rw [equal_struct hu hst, this]
    simp only [Result.andThen_ok, eqKey]
    by_cases he : eqLeaves l m = true
    · simp [he]
    · simp only [Bool.not_eq_true] at he; simp [he]

theorem key_check {d : Nat} {e : Bool} {kt : TypeId} {a : Value} (hk : keyT P kt = true) (ha : keyFits P kt a = true) (w : World) :
    (Instr.checkKey e (d + 2) kt a).run P w = .ok () w := by
  rcases keyT_spec hk with hp | ⟨fields, hu, hst, hf⟩
  · obtain ⟨a1, a2⟩ := fits_leaf hp ha
    cases hu : P.underlying kt with
    | none => rw [hu] at hp; cases hp
    | some dd =>
      rw [hu] at hp a1
      cases dd <;> simp [isPlainKey] at hp <;> cases a <;> simp [fitLeaf] at a1 <;> simp [Instr.checkKey, run_und hu]
  · obtain ⟨l, rfl, h1⟩ := fits_struct hu ha
    have := check_loop (d := d) (e := e) (L := l) w fields.toList 0 hf (by simpa using h1)
    simp only [Array.forIn_toList] at this
    rw [check_struct hu, this]
    rfl

/-! The guard ahead of `==`: keys hold no interface. -/

theorem guard_type {d : Nat} {t : TypeId} (hk : keyT P t = true) : P.eqGuardType (d + 2) t = false := by
  rcases keyT_spec hk with hp | ⟨fields, hu, _, hf⟩
  · unfold Program.eqGuardType
    cases hu : P.underlying t with
    | none => rfl
    | some dd => rw [hu] at hp; cases dd <;> simp_all [isPlainKey]
  · unfold Program.eqGuardType
    rw [hu]
    simp only
    rw [← Array.any_toList, List.any_eq_false]
    intro f hfm
    obtain ⟨i, hi⟩ := List.mem_iff_getElem?.1 hfm
    have : (f, i) ∈ fields.toList.zipIdx 0 := by
      rw [List.mem_iff_getElem?]
      exact ⟨i, by simp [List.getElem?_zipIdx, hi]⟩
    obtain ⟨_, _, g3⟩ := fieldOk_spec (List.all_eq_true.1 hf _ this)
    have : P.eqGuardType (d + 1) f.type = false := by
      unfold Program.eqGuardType
      cases hu : P.underlying f.type with
      | none => rfl
      | some dd => rw [hu] at g3; cases dd <;> simp_all [isPlainKey]
    simp [this]

theorem cmpKeys_sim {op : BinOp} {t : TypeId} {x y : Operand} {a b v : Value} (h : cmpKeys P op t a b = some v) (w : World) (hab : (∃ p q, a = .bool p ∧ b = .bool q) ∨ ∃ p q, a = .agg p ∧ b = .agg q) :
    (do eqGuard op t x y a b; binOp op t a b).run P w = .ok v w := by
  unfold cmpKeys at h
  split at h
  · rename_i hc
    obtain ⟨hk, ha, hb⟩ := hc
    have heq := key_equal (d := 9998) hk ha hb w
    have hg : P.eqGuardType P.depth t = false := by
      have : P.depth = (P.depth - 2) + 2 := by unfold Program.depth; omega
      rw [this]; exact guard_type hk
    split at h
    · cases h
      rcases hab with ⟨p, q, rfl, rfl⟩ | ⟨p, q, rfl, rfl⟩
      · simp [eqGuard, binOp, Op.equal, Op.maxDepth, heq]
      · simp [eqGuard, binOp, Op.equal, Op.maxDepth, heq, hg]
    · cases h
      rcases hab with ⟨p, q, rfl, rfl⟩ | ⟨p, q, rfl, rfl⟩
      · simp [eqGuard, binOp, Op.equal, Op.maxDepth, heq]
      · simp [eqGuard, binOp, Op.equal, Op.maxDepth, heq, hg]
    · cases h
  · cases h
end
end Go.Cl
