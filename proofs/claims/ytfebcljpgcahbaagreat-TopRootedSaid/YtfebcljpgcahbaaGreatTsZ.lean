/- The framework, Ts15 to Ts31. -/
import Derived.Test.YtfebcljpgcahbaaGreatTs14
import Derived.Test.YtfebcljpgcahbaaGreatTs8
import Derived.Test.YtfebcljpgcahbaaGreatTs10
/- Loops over functions, gone through as if the iterator's code stood in the function: the loop's beginning, its rounds. -/
set_option linter.unusedVariables false
namespace Go.Cl
open Go Go.RowKit

section
variable {P : Program} {base L : Nat} {ops : Array Oper} {rest : List Oper} {o : Oper} {a a1 a2 : CAct} {h h1 h2 : List Blk} {Ψ : CAct → List Blk → Prop}

theorem ActR.keep {D D2 : Nat → Prop} {β β2 : Nat → Nat × Nat} {κ κ2 : Nat → Nat} {a' : Act} {n : Nat} (hA : ActR D β κ a a') (hD : ∀ i, D i → i < n) (he : ∀ i, i < n → (D2 i ↔ D i) ∧ β2 i = β i ∧ κ2 i = κ i) : ActR D2 β2 κ2 a a' :=
  hA.mono (fun i hi => (he i (hD i hi)).1.2 hi) (fun i hi => (he i (hD i hi)).2)

/-- A round of a loop over a function, called from the iterator. -/
theorem TO.yield {l : Nat} {t : List Value} {p : List Tmp} {as bd : Code} {f : Operand} {args : Array Operand} {ts : Array TypeId} {fr cp : Array Value} (hw : cWanted ops.toList a o = some true)
    (ho : o.op = .call ⟨.value f, args, ts⟩) (hf : a.eval f = .func (.yield l) fr cp) (hl : h[l]? = some (.loop t p as bd .ready none)) (hbl : base ≤ l) (hal : args.size = p.length)
    (hbody : TS P base h.length as { tmps := setAll p (args.toList.map a.eval) t } h fun e a1 h1 => e = .normal ∧ ∃ t2 p2 as2 b2, h1[l]? = some (.loop t2 p2 as2 b2 .ready none) ∧
      TS P base h.length bd a1 (h1.set l (.loop t2 p2 as2 b2 .busy none)) fun e2 a2 h2 => ∃ v h3, endRound h2 l e2 = some (v, h3) ∧ TO P base L ops rest (a.put o.dst v) h3 Ψ) :
    TO P base L ops (o :: rest) a h Ψ := by
  rintro N D0 β0 κ0 R hR w0 w a' Q ⟨D, β, κ, hfit⟩ hb hQ
  have hw' := wanted_sim hw hfit.act
  simp only [wpListIn, hw', if_true]
  have hnd : ∀ c, o.op ≠ .defer c := fun c e => by rw [ho] at e; cases e
  have hfv := hfit.act.eval f
  rw [hf] at hfv
  generalize hf' : a'.eval f = fv at hfv
  cases hfv with
  | yield _ hDl =>
    have hargs := LR.args hfit.act.eval args.toList
    obtain ⟨rec, g1, g2, g3, g4, g5, g6, g7, _, _⟩ := Out.loop (st2 := .ready) (pend2 := none) hfit.rel hfit.dom hfit.bl hbl hl
    have hlen : (args.toList.map a'.eval).length = p.length := by rw [List.length_map, Array.length_toList]; exact hal
    have hsz : (⟨args.toList.map a'.eval⟩ : Array Value).size = rec.params.size := by
      have : rec.params.size = p.length := by rw [← g4]; simp
      rw [this, ← hlen]
      rfl
    obtain ⟨tm, h1, htm⟩ : ∃ tm, (Instr.yield (β l).1 (⟨args.toList.map a'.eval⟩ : Array Value)).run P w = .ok (.round (β l).1 rec.fn tm rec.assign rec.body) w ∧
        tm = (rec.params.zip (⟨args.toList.map a'.eval⟩ : Array Value)).foldl (fun tmps (x : Tmp × Value) => tmps.setIfInBounds x.1 x.2) rec.tmps := ⟨_, run_yield (P := P) g1 hsz, rfl⟩
    rw [← mapO] at h1
    have hrun : (execOp a'.eval o).run P w = .ok (.round (β l).1 rec.fn tm rec.assign rec.body) w := by
      simp only [execOp, ho, resolve, hf', Deferred.ofValue, Sem.run_bind, Sem.run_pure, Result.andThen_ok, invoke, Array.empty_append]
      exact h1
    refine wp_of_round hnd hrun (roundIn_of_wpIn (F := FW R) trivial ?_)
    rw [g5, g6]
    have ht := setAll_sim p (args.toList.map a.eval) (args.toList.map a'.eval) t rec.tmps hargs g7 (by rw [List.length_map, Array.length_toList]; exact hal)
    have e1 : (rec.params.zip (⟨args.toList.map a'.eval⟩ : Array Value)).foldl (fun tmps (x : Tmp × Value) => tmps.setIfInBounds x.1 x.2) rec.tmps = (p.zip (args.toList.map a'.eval)).foldl (fun tmps (x : Tmp × Value) => tmps.setIfInBounds x.1 x.2) rec.tmps := by
      rw [← Array.foldl_toList, Array.toList_zip, g4]
    have act0 : ActR D β κ { tmps := setAll p (args.toList.map a.eval) t } { tmps := tm, defers := [] } :=
      ⟨by rw [htm, e1]; exact ht, rfl, fun m hm => by simp at hm⟩
    have hll : l < h.length := hfit.dom l hDl
    refine hbody N D β κ (some (β l).1) (.inr ⟨l, hll, hDl, rfl⟩) w0 w _ _ ⟨D, β, κ, hfit.dom, hfit.bl, Nat.le_refl _, hfit.rel, act0, fun i _ => ⟨Iff.rfl, rfl, rfl⟩⟩ hb ?_
    rintro e a1 h1 a1' w1 ⟨rfl, t2, p2, as2, b2, hl1, hbd⟩ ⟨D1, β1, κ1, f1⟩ hb1
    obtain ⟨rec1, k1, k2, k3, k4, k5, k6, k7, k8, _⟩ := Out.loop (st2 := .busy) (pend2 := none) f1.rel f1.dom f1.bl hbl hl1
    have hβl : β1 l = β l := (f1.ext l hll).2.1
    rw [hβl] at k1 k8
    have hrec : ({ rec1 with state := .busy, pending := none } : Loop) = { rec1 with state := .busy } := by rw [← k3]
    rw [hrec] at k8
    refine ⟨_, run_beginRound k1 k2, ?_⟩
    have hUeq : Up D1 h1 (h1.set l (.loop t2 p2 as2 b2 .busy none)) = D1 := Out.up_same (by simp)
    have hRel2 := k8.rel
    rw [hUeq] at hRel2
    refine hbd N D β κ (some (β l).1) (.inr ⟨l, hll, hDl, rfl⟩) w0 _ _ _ ⟨D1, β1, κ1, by simpa using f1.dom, by simpa using f1.bl, by simpa using f1.ll, hRel2, f1.act, f1.ext⟩ (hb1.trans k8.below) ?_
    rintro e2 a2 h2 a2' w2 ⟨v, h3, hend, hnext⟩ ⟨D2, β2, κ2, f2⟩ hb2
    have hβl2 : β2 l = β l := (f2.ext l hll).2.1
    unfold endRound at hend
    split at hend
    · rename_i t3 p3 as3 b3 hl2
      have fin : ∀ (jump : Option Code) (st3 : LoopState), st3 = (if jump.isNone then .ready else .done) → (v, h3) = (.bool jump.isNone, h2.set l (.loop t3 p3 as3 b3 st3 jump)) →
          ∃ v' w', (Instr.endRound (β l).1 jump).run P w2 = .ok v' w' ∧ ∃ v2, (Ending.returned v') = .returned v2 ∧ wpListIn (FW R) 0 P ops Q rest (a'.put o.dst v2) w' := by
        intro jump st3 hst he
        cases he
        obtain ⟨rec2, m1, m2, m3, m4, m5, m6, m7, m8, _⟩ := Out.loop (st2 := st3) (pend2 := jump) f2.rel f2.dom f2.bl hbl hl2
        rw [hβl2] at m1 m8
        have hU2 : Up D2 h2 (h2.set l (.loop t3 p3 as3 b3 st3 jump)) = D2 := Out.up_same (by simp)
        have hRel3 := m8.rel
        rw [hU2] at hRel3
        refine ⟨_, _, run_endRound jump m1, _, rfl, ?_⟩
        rw [hst] at hRel3 m8
        refine hnext N D0 β0 κ0 R hR w0 _ _ Q ⟨D2, β2, κ2, by simpa using f2.dom, by simpa using f2.bl, by simpa using Nat.le_trans hfit.ll f2.ll, ?_, (ActR.keep hfit.act hfit.dom f2.ext).put o.dst (.bool _), fun i hi => ?_⟩ (hb2.trans m8.below) hQ
        · rw [hst]; exact hRel3
        · have x := f2.ext i (Nat.lt_of_lt_of_le hi hfit.ll)
          have y := hfit.ext i hi
          exact ⟨x.1.trans y.1, x.2.1.trans y.2.1, x.2.2.trans y.2.2⟩
      split at hend
      · exact fin none .ready rfl (Option.some.inj hend).symm
      · rename_i id
        exact fin (some (.exit id)) .done rfl (Option.some.inj hend).symm
      · exact fin (some .ret) .done rfl (Option.some.inj hend).symm
      · cases hend
    · cases hend
end
end Go.Cl
/- Where a function ends behind loops over functions; loops over functions as pieces of code. -/
set_option linter.unusedVariables false
namespace Go.Cl
open Go Go.RowKit

theorem qout_of_fitV {P : Program} {v v' : Value} {h new : List Blk} {D D2 : Nat → Prop} {β β2 : Nat → Nat × Nat} {κ κ2 : Nat → Nat} {w w1 : World} (hb : Held (Kp.under w.heap.size) w w1)
    (hf2 : FitV P h.length (Kp.under w.heap.size) h.length D β κ v (List.replicate h.length Blk.dead ++ new) v' w1 D2 β2 κ2) : QOut P D β κ h.length (Kp.under w.heap.size) h.length w { val := v, new := new } v' w1 (fun i => if i < h.length + new.length then β2 i else β i) (fun i => if i < h.length + new.length then κ2 i else κ i) := by
  have hlen : (List.replicate h.length Blk.dead ++ new).length = h.length + new.length := by simp
  have hdom : ∀ i, D2 i → i < h.length + new.length := fun i hi => by rw [← hlen]; exact hf2.dom i hi
  have hsub : ∀ i, D2 i → (D i ∨ InNew h.length new.length i) := fun i hi => by
    by_cases hl : i < h.length
    · exact .inl ((hf2.ext i hl).1.1 hi)
    · exact .inr ⟨by omega, hdom i hi⟩
  have hE : Ext D2 β2 κ2 (fun i => if i < h.length + new.length then β2 i else β i) (fun i => if i < h.length + new.length then κ2 i else κ i) := fun i hi => by simp [hdom i hi]
  refine { ext := fun i hi => ?_, val := hf2.val.mono hsub hE, below := hb, keep := fun B hB _ => hb.block B hB, new := fun j b hj hbd => ?_, inj := fun i j b c hi hj hbd hcd he => ?_, upd := fun k b hk => by cases hk }
  · by_cases hl : i < h.length + new.length
    · have : i < h.length := by
        apply Classical.byContradiction
        intro hn
        exact hi ⟨by omega, hl⟩
      have e := hf2.ext i this
      simp only [if_pos hl]
      exact ⟨e.2.1, e.2.2⟩
    · simp [hl]
  · have hjl := (List.getElem?_eq_some_iff.1 hj).1
    have hj : new[j]? = some b := hj
    have hjl : j < new.length := hjl
    have hat : (List.replicate h.length Blk.dead ++ new)[h.length + j]? = some b := by rw [List.getElem?_append_right (by simp)]; simpa using hj
    have hB := hf2.rel.blk (h.length + j)
    have hOw := hf2.rel.own (h.length + j) (by rw [toF_some hat]; exact hbd) (by omega)
    rw [toF_some hat] at hB hOw
    have e1 : (if h.length + j < h.length + new.length then β2 (h.length + j) else β (h.length + j)) = β2 (h.length + j) := by rw [if_pos (by omega)]
    have e2 : (if h.length + j < h.length + new.length then κ2 (h.length + j) else κ (h.length + j)) = κ2 (h.length + j) := by rw [if_pos (by omega)]
    refine ⟨hB.move hsub hE e1 rfl, hOw.2.move ⟨e1, e2⟩ rfl, ?_, .inl ?_⟩
    · simp only [e1]; exact hOw.1
    · simp only [e1]; exact (Kp.under.le hOw.1)
  · have hi : new[i]? = some b := hi
    have hj : new[j]? = some c := hj
    have hil : i < new.length := (List.getElem?_eq_some_iff.1 hi).1
    have hjl : j < new.length := (List.getElem?_eq_some_iff.1 hj).1
    have hati : (List.replicate h.length Blk.dead ++ new)[h.length + i]? = some b := by rw [List.getElem?_append_right (by simp)]; simpa using hi
    have hatj : (List.replicate h.length Blk.dead ++ new)[h.length + j]? = some c := by rw [List.getElem?_append_right (by simp)]; simpa using hj
    have he : (if h.length + i < h.length + new.length then β2 (h.length + i) else β (h.length + i)).1 = (if h.length + j < h.length + new.length then β2 (h.length + j) else β (h.length + j)).1 := he
    rw [if_pos (by omega), if_pos (by omega)] at he
    have := hf2.rel.inj (h.length + i) (h.length + j) (by rw [toF_some hati]; exact hbd) (by rw [toF_some hatj]; exact hcd) (by omega) (by omega) he
    omega

/-- Whatever state of the model the clean state stands for, outside of all rounds. -/
def TS0 (P : Program) (base L : Nat) (c : Code) (a : CAct) (h : List Blk) (Φ : Post) : Prop :=
  ∀ (N : Kp) (D0 : Nat → Prop) (β0 : Nat → Nat × Nat) (κ0 : Nat → Nat) (w0 w : World) (a' : Act) (Q : Exit → Act → World → Prop),
    Fits P base N L D0 β0 κ0 a h a' w → Held N w0 w →
    (∀ e a1 h1 a1' w1, Φ e a1 h1 → Fits P base N L D0 β0 κ0 a1 h1 a1' w1 → Held N w0 w1 → Q e a1' w1) →
    c.wpIn (FW none) 0 P Q a' w

section
variable {P : Program} {base L : Nat} {c x y : Code} {a a1 a2 : CAct} {h h1 h2 : List Blk} {Φ Ψ : Post} {e : Exit}

theorem TS0.of (ht : TS P base L c a h Φ) : TS0 P base L c a h Φ := fun N D0 β0 κ0 w0 w a' Q hf hb hq => ht N D0 β0 κ0 none (.inl rfl) w0 w a' Q hf hb hq
theorem TS0.weak (hw : Wk P base L a h a2 h2) (ht : TS0 P base L c a2 h2 Φ) : TS0 P base L c a h Φ :=
  fun N D0 β0 κ0 w0 w a' Q hf hb hq => ht N D0 β0 κ0 w0 w a' Q (hw _ _ _ _ _ _ hf) hb hq

def NX0 (P : Program) (base L : Nat) : List Fr → Post → Post
  | [], Φ, e, a, h => Φ e a h
  | .sq y :: K, Φ, .normal, a, h => TS0 P base L y a h (NX0 P base L K Φ)
  | .sq _ :: K, Φ, e, a, h => NX0 P base L K Φ e a h
  | .bk id :: K, Φ, .exit i, a, h => if i = id then NX0 P base L K Φ .normal a h else NX0 P base L K Φ (.exit i) a h
  | .bk _ :: K, Φ, e, a, h => NX0 P base L K Φ e a h
  | .sc :: _, _, .goto _, _, _ => False
  | .sc :: K, Φ, e, a, h => NX0 P base L K Φ e a h
variable {K : List Fr}
theorem TS0.start (ht : TS0 P base L c a h (NX0 P base L [] Φ)) : TS0 P base L c a h Φ := ht
theorem TS0.seq (ht : TS0 P base L x a h (NX0 P base L (.sq y :: K) Φ)) : TS0 P base L (.seq x y) a h (NX0 P base L K Φ) := by
  intro N D0 β0 κ0 w0 w a' Q hf hb hq
  refine wpIn_seq (ht N D0 β0 κ0 w0 w a' _ hf hb fun e a1 h1 a1' w1 hp hf1 hb1 => ?_)
  cases e with
  | normal => exact (show TS0 P base L y a1 h1 (NX0 P base L K Φ) from hp) N D0 β0 κ0 w0 w1 a1' Q hf1 hb1 hq
  | _ => exact hq _ _ _ _ _ (show NX0 P base L K Φ _ a1 h1 from hp) hf1 hb1
theorem TS0.block {id : Nat} (ht : TS0 P base L c a h (NX0 P base L (.bk id :: K) Φ)) : TS0 P base L (.block id c) a h (NX0 P base L K Φ) := by
  intro N D0 β0 κ0 w0 w a' Q hf hb hq
  refine wpIn_block (ht N D0 β0 κ0 w0 w a' _ hf hb fun e a1 h1 a1' w1 hp hf1 hb1 => ?_)
  cases e with
  | exit i =>
    have hp : (if i = id then NX0 P base L K Φ .normal a1 h1 else NX0 P base L K Φ (.exit i) a1 h1) := hp
    simp only [Exit.inBlock]
    split
    · rename_i hi; rw [if_pos hi] at hp; exact hq _ _ _ _ _ hp hf1 hb1
    · rename_i hi; rw [if_neg hi] at hp; exact hq _ _ _ _ _ hp hf1 hb1
  | _ => exact hq _ _ _ _ _ (show NX0 P base L K Φ _ a1 h1 from hp) hf1 hb1
theorem TS0.scope (ht : TS0 P base L c a h (NX0 P base L (.sc :: K) Φ)) : TS0 P base L (.scope c) a h (NX0 P base L K Φ) := by
  intro N D0 β0 κ0 w0 w a' Q hf hb hq
  refine wpIn_scope (ht N D0 β0 κ0 w0 w a' _ hf hb fun e a1 h1 a1' w1 hp hf1 hb1 => ?_)
  cases e with
  | goto l => exact (show False from hp).elim
  | _ => exact hq _ _ _ _ _ (show NX0 P base L K Φ _ a1 h1 from hp) hf1 hb1
theorem TS0.cond {o : Operand} {b : Bool} (hc : a.eval o = .bool b) (ht : b = true → TS0 P base L x a h Φ) (hf : b = false → TS0 P base L y a h Φ) : TS0 P base L (.cond o x y) a h Φ := by
  rintro N D0 β0 κ0 w0 w a' Q ⟨D, β, κ, hfit⟩ hb hq
  have hv := hfit.act.eval o
  rw [hc] at hv
  have : a'.eval o = .bool b := by
    generalize a'.eval o = z at hv
    cases hv; rfl
  exact wpIn_cond_split this (fun e => ht e N D0 β0 κ0 w0 w a' Q ⟨D, β, κ, hfit⟩ hb hq) (fun e => hf e N D0 β0 κ0 w0 w a' Q ⟨D, β, κ, hfit⟩ hb hq)

/-- A LOOP OVER A FUNCTION: the iterator's code, with the loop's record; then, where a round has left the loop, on from there. -/
theorem TS0.range {g : Operand} {params : Array Tmp} {as bd ci : Code} {f : FuncId} {first captured : Array Value} {fn : Func} (hg : a.eval g = .func (.func f) first captured) (hfn : P.funcs[f]? = some fn) (hci : fn.body = some ci)
    (hname : (fn.name == "runtime.NumGoroutine") = false)
    (ht : TS P base (h.length + 2) ci { tmps := (first.toList ++ [Value.func (.yield (h.length + 1)) #[] #[]] ++ captured.toList) ++ List.replicate (fn.ntmps - (first.toList ++ [Value.func (.yield (h.length + 1)) #[] #[]] ++ captured.toList).length) undef }
      (h ++ [.mark, .loop a.tmps params.toList as bd .ready none]) fun e a1 h1 => (e = .normal ∨ e = .ret) ∧ a1.marks = [] ∧ (∃ v, cResults P fn a1 h1 = some v) ∧
        ((∃ t p s b, h1[h.length + 1]? = some (.loop t p s b .ready none) ∧ Φ .normal { a with marks := h.length :: a.marks } (h1.set (h.length + 1) .dead)) ∨
         ∃ t p s b c2, h1[h.length + 1]? = some (.loop t p s b .done (some c2)) ∧ TS0 P base L c2 { a with marks := h.length :: a.marks } (h1.set (h.length + 1) .dead) Φ)) :
    TS0 P base L (.rangeFunc g params as bd) a h Φ := by
  rintro N D0 β0 κ0 w0 w a' Q ⟨D, β, κ, hfit⟩ hb hQ
  refine wpIn_rangeFunc fun fn0 _ => ?_
  have hgv := hfit.act.eval g
  rw [hg] at hgv
  have hmark : rangeMark base none a h = some ({ a with marks := h.length :: a.marks }, h ++ [Blk.mark]) := rfl
  obtain ⟨β1, κ1, w1, mk, dfs, hO1, hA1, htm, henter⟩ := mark_sound (R := none) hmark hfit.dom hfit.bl hfit.rel hfit.act (.inl ⟨rfl, rfl⟩)
  have hD1 := hO1.known hfit.dom
  have hb1 : base ≤ (h ++ [Blk.mark]).length := by have := hfit.bl; simp; omega
  obtain ⟨β2, κ2, hO2, hβ2⟩ := Out.one (b := .loop a.tmps params.toList as bd .ready none)
    (o := .loop { state := .ready, pending := none, fn := fn0, tmps := a'.tmps, params := params, assign := as, body := bd, defers := dfs }) hO1.rel hD1 hb1
    (fun β' κ' hβ he => ⟨⟨_, by rw [hβ]; exact heap_alloc_new, rfl, rfl, rfl, rfl, rfl, by
      have := hA1.tmps
      exact this.mono (fun _ h => .inl h) (fun i hi => he i (fun e => by have := hD1 i hi; omega))⟩, trivial⟩)
  have hO12 := hO1.trans hO2
  have hD2 := hO2.known hD1
  have hhl : (h ++ [Blk.mark] ++ [Blk.loop a.tmps params.toList as bd .ready none]) = h ++ [.mark, .loop a.tmps params.toList as bd .ready none] := by simp
  have hml : (h ++ [Blk.mark]).length = h.length + 1 := by simp
  have hl : Up (Up D h (h ++ [Blk.mark])) (h ++ [Blk.mark]) (h ++ [Blk.mark] ++ [Blk.loop a.tmps params.toList as bd .ready none]) (h ++ [Blk.mark]).length := .inr ⟨Nat.le_refl _, by simp⟩
  have hI : Enters P f := ⟨fn, ci, hfn, hci, hname⟩
  generalize hg' : a'.eval g = gv at hgv
  cases hgv with
  | func _ f1 f1' c1 c1' k1 k2 k3 k4 =>
    have up2 : ∀ {x y : List Value}, LR D β κ x y → LR (Up (Up D h (h ++ [Blk.mark])) (h ++ [Blk.mark]) (h ++ [Blk.mark] ++ [Blk.loop a.tmps params.toList as bd .ready none])) β2 κ2 x y := fun hxy =>
      (hxy.mono (fun _ h => .inl h) (hO1.ext' hfit.dom)).mono (fun _ h => .inl h) (hO2.ext' hD1)
    have hyield : VR (Up (Up D h (h ++ [Blk.mark])) (h ++ [Blk.mark]) (h ++ [Blk.mark] ++ [Blk.loop a.tmps params.toList as bd .ready none])) β2 κ2 (.func (.yield (h ++ [Blk.mark]).length) #[] #[]) (.func (.yield w1.heap.size) #[] #[]) := by
      have := VR.yield (β := β2) (κ := κ2) (h ++ [Blk.mark]).length hl
      rw [hβ2] at this
      exact this
    have hargs := ((up2 ⟨k1, k2⟩).app (LR.cons hyield LR.nil)).app (up2 ⟨k3, k4⟩)
    refine ⟨w1.heap.size, mk, _, { target := .fn (.func f) ⟨c1'⟩, args := ⟨f1'⟩ ++ #[.func (.yield w1.heap.size) #[] #[]] }, w1.alloc (.loop { state := .ready, pending := none, fn := fn0, tmps := a'.tmps, params := params, assign := as, body := bd, defers := dfs }), f, ⟨f1' ++ [.func (.yield w1.heap.size) #[] #[]] ++ c1'⟩, w1.alloc (.loop { state := .ready, pending := none, fn := fn0, tmps := a'.tmps, params := params, assign := as, body := bd, defers := dfs }), henter fn0 params as bd, ?_, fun _ _ => trivial, ?_, fun h => by simp [FW] at h, callsIn_of_wp_marks (F := FW none) (n := 0) hfn hci trivial ?_⟩
    · have e1 : (#[Operand.const (Value.func (.yield w1.heap.size) #[] #[])] : Array Operand).map a'.eval = #[Value.func (.yield w1.heap.size) #[] #[]] := by simp [Act.eval]
      simp only [resolve]
      rw [e1, hg']
      rfl
    · have e2 := run_callFunc hI (⟨f1' ++ [Value.func (.yield w1.heap.size) #[] #[]] ++ c1'⟩ : Array Value) (w1.alloc (.loop { state := .ready, pending := none, fn := fn0, tmps := a'.tmps, params := params, assign := as, body := bd, defers := dfs }))
      have e1 : (⟨f1'⟩ : Array Value) ++ #[Value.func (.yield w1.heap.size) #[] #[]] ++ (⟨c1'⟩ : Array Value) = ⟨f1' ++ [Value.func (.yield w1.heap.size) #[] #[]] ++ c1'⟩ := by
        apply Array.ext'; simp
      rw [← e1] at e2 ⊢
      exact e2
    · -- the iterator's code
      have start : ActR (Up (Up D h (h ++ [Blk.mark])) (h ++ [Blk.mark]) (h ++ [Blk.mark] ++ [Blk.loop a.tmps params.toList as bd .ready none])) β2 κ2
          { tmps := (f1 ++ [Value.func (.yield (h ++ [Blk.mark]).length) #[] #[]] ++ c1) ++ List.replicate (fn.ntmps - (f1 ++ [Value.func (.yield (h ++ [Blk.mark]).length) #[] #[]] ++ c1).length) undef }
          { tmps := (⟨f1' ++ [Value.func (.yield w1.heap.size) #[] #[]] ++ c1'⟩ : Array Value) ++ Array.replicate (fn.ntmps - (⟨f1' ++ [Value.func (.yield w1.heap.size) #[] #[]] ++ c1'⟩ : Array Value).size) undef, defers := [] } := by
        refine ⟨?_, rfl, fun m hm => by simp at hm⟩
        have h3 := hargs.app (LR.rep (fn.ntmps - (f1 ++ [Value.func (.yield (h ++ [Blk.mark]).length) #[] #[]] ++ c1).length) (VR.undef (D := _) (β := β2) (κ := κ2)))
        have h4 : (f1 ++ [Value.func (.yield (h ++ [Blk.mark]).length) #[] #[]] ++ c1).length = (f1' ++ [Value.func (.yield w1.heap.size) #[] #[]] ++ c1').length := hargs.len
        rw [h4] at h3 ⊢
        simpa using h3
      rw [hml] at start
      have hw : w1.heap.size = w1.heap.size := rfl
      refine ht N (Up (Up D h (h ++ [Blk.mark])) (h ++ [Blk.mark]) (h ++ [Blk.mark] ++ [Blk.loop a.tmps params.toList as bd .ready none])) β2 κ2 none (.inl rfl) w0 _ _ _
        ⟨_, β2, κ2, by rw [← hhl]; exact hD2, by have := hfit.bl; simp; omega, by simp, by rw [← hhl]; exact hO2.rel, start, fun i _ => ⟨Iff.rfl, rfl, rfl⟩⟩ (hb.trans hO12.below) ?_
      rintro e a1 h1 a1' w3 ⟨he, hm, ⟨vr, hres⟩, hend⟩ ⟨D3, β3, κ3, f3⟩ hb3
      obtain ⟨v', r3, r4⟩ := results_sim f3.rel f3.act hres
      have hlt : h.length + 1 < h.length + 2 := Nat.lt_succ_self _
      have hβ3 : (β3 (h.length + 1)).1 = w1.heap.size := by
        have := (f3.ext _ hlt).2.1
        rw [this, ← hml, hβ2]
      have ext3 : ∀ i, i < h.length → (D3 i ↔ D i) ∧ β3 i = β i ∧ κ3 i = κ i := fun i hi => by
        have x := f3.ext i (by omega)
        have e1 := hO1.ext i hi
        have e2 := hO2.ext i (by simp; omega)
        refine ⟨x.1.trans ⟨fun hd => ?_, fun hd => .inl (.inl hd)⟩, x.2.1.trans (e2.1.trans e1.1), x.2.2.trans (e2.2.trans e1.2)⟩
        rcases hd with (hd | hd) | hd
        · exact hd
        · have := hd.1; omega
        · have := hd.1; simp at this; omega
      have act3 : ActR D3 β3 κ3 { a with marks := h.length :: a.marks } { a' with defers := mk ++ a'.defers } := by
        refine ActR.keep (n := h.length + 1) (hA1.mono (fun _ h => h) (fun i _ => ⟨rfl, rfl⟩)) (fun i hi => by have := hD1 i hi; rw [hml] at this; exact this) fun i hi => ?_
        have x := f3.ext i (by omega)
        have e2 := hO2.ext i (by rw [hml]; exact hi)
        refine ⟨x.1.trans ⟨fun hd => ?_, fun hd => .inl hd⟩, x.2.1.trans e2.1, x.2.2.trans e2.2⟩
        rcases hd with hd | hd
        · exact hd
        · have := hd.1; rw [hml] at this; omega
      have behind : ∀ (t : List Value) (p : List Tmp) (s b : Code) (st : LoopState) (pend : Option Code), h1[h.length + 1]? = some (.loop t p s b st pend) → st ≠ .busy →
          (match pend with | none => Φ .normal { a with marks := h.length :: a.marks } (h1.set (h.length + 1) .dead) | some c2 => TS0 P base L c2 { a with marks := h.length :: a.marks } (h1.set (h.length + 1) .dead) Φ) →
          rangePost (FW none) 0 P w1.heap.size Q { a' with defers := mk ++ a'.defers } (.returned v') w3 := by
        intro t p s b st pend hl2 hst hc
        obtain ⟨rec, m1, m2, m3, _, _, _, _, _, m8⟩ := Out.loop (st2 := .ready) (pend2 := none) f3.rel f3.dom f3.bl (by have := hfit.bl; omega) hl2
        rw [hβ3] at m1
        have hOx := m8 (.loop { rec with state := .exhausted })
        rw [hβ3] at hOx
        have hU : Up D3 h1 (h1.set (h.length + 1) .dead) = D3 := Out.up_same (by simp)
        have hRel := hOx.rel
        rw [hU] at hRel
        have hfits : Fits P base N L D0 β0 κ0 { a with marks := h.length :: a.marks } (h1.set (h.length + 1) .dead) { a' with defers := mk ++ a'.defers } (w3.putObj w1.heap.size (.loop { rec with state := .exhausted })) :=
          ⟨D3, β3, κ3, by simpa using f3.dom, by simpa using f3.bl, by have := hfit.ll; have := f3.ll; simp; omega, hRel, act3, fun i hi => by
            have x := ext3 i (Nat.lt_of_lt_of_le hi hfit.ll)
            have y := hfit.ext i hi
            exact ⟨x.1.trans y.1, x.2.1.trans y.2.1, x.2.2.trans y.2.2⟩⟩
        refine ⟨pend, _, by rw [← m3]; exact run_endLoop m1 (by rw [m2]; exact hst), ?_⟩
        cases pend with
        | none => exact hQ _ _ _ _ _ hc hfits (hb3.trans hOx.below)
        | some c2 => exact hc N D0 β0 κ0 w0 _ _ Q hfits (hb3.trans hOx.below) hQ
      have leaves : LeavesInM (FW none) 0 P fn a1'.tmps (rangePost (FW none) 0 P w1.heap.size Q { a' with defers := mk ++ a'.defers }) a1'.defers .returning w3 := by
        rw [f3.act.marks, hm]
        refine ⟨v', r3, ?_⟩
        rcases hend with ⟨t, p, s, b, hl2, hphi⟩ | ⟨t, p, s, b, c2, hl2, hphi⟩
        · exact behind t p s b .ready none hl2 (by simp) hphi
        · exact behind t p s b .done (some c2) hl2 (by simp) hphi
      rcases he with rfl | rfl <;> exact leaves
end

/-- A PURE FUNCTION, out of its body, in which there may be loops over functions. -/
theorem PureSim.of_TS0 {P : Program} {g : FuncId} {args : List Value} {h : List Blk} {v : Value} {new : List Blk} {fn : Func} {c : Code} (hfn : P.funcs[g]? = some fn) (hc : fn.body = some c)
    (hname : (fn.name == "runtime.NumGoroutine") = false)
    (ht : TS0 P h.length h.length c { tmps := args ++ List.replicate (fn.ntmps - args.length) undef } h
      fun e a1 h1 => (e = .normal ∨ e = .ret) ∧ ∃ h2, shutMarks h.length a1.marks h1 = some h2 ∧ ∃ v1, cResults P fn a1 h2 = some v1 ∧ WkV P h.length h.length v1 h2 v (List.replicate h.length Blk.dead ++ new)) : PureSim P g args h v new := by
  refine ⟨⟨fn, c, hfn, hc, hname⟩, fun D β κ w args' hD hR hargs => ?_⟩
  have start : ActR D β κ { tmps := args ++ List.replicate (fn.ntmps - args.length) undef } { tmps := (⟨args'⟩ : Array Value) ++ Array.replicate (fn.ntmps - (⟨args'⟩ : Array Value).size) undef, defers := [] } := by
    refine ⟨?_, rfl, fun m hm => by simp at hm⟩
    have := hargs.app (LR.rep (fn.ntmps - args.length) (VR.undef (D := D) (β := β) (κ := κ)))
    rw [hargs.len] at this ⊢
    simpa using this
  refine callsIn_FW.1 (callsIn_of_wp_marks (F := FW none) (n := 0) hfn hc trivial ?_)
  refine ht (Kp.under w.heap.size) D β κ w w _ _ ⟨D, β, κ, hD, Nat.le_refl _, Nat.le_refl _, hR, start, fun i _ => ⟨Iff.rfl, rfl, rfl⟩⟩ (Held.refl _ _) fun e a1 h1 a1' w1 hp hf hb => ?_
  obtain ⟨he, h2, hsh, v1, hres, hwk⟩ := hp
  obtain ⟨D1, β1, κ1, hf⟩ := hf
  have leaves : LeavesInM (FW none) 0 P fn a1'.tmps (fun e w' => ∃ v' β' κ', e = .returned v' ∧ QOut P D β κ h.length (Kp.under w.heap.size) h.length w { val := v, new := new } v' w' β' κ') a1'.defers .returning w1 := by
    rw [hf.act.marks]
    refine leave_marks a1.marks h1 h2 hsh w1 hf.dom hf.bl hf.rel fun w2 hO hl => ?_
    have hU : Up D1 h1 h2 = D1 := Out.up_same hl
    have hRel := hO.rel
    rw [hU] at hRel
    obtain ⟨v', h3, h4⟩ := results_sim hRel hf.act hres
    obtain ⟨D2, β2, κ2, hf2⟩ := hwk (Kp.under w.heap.size) D β κ v' w2 ⟨D1, β1, κ1, by rw [hl]; exact hf.dom, by rw [hl]; exact hf.bl, by rw [hl]; exact hf.ll, hRel, h4, hf.ext⟩
    exact ⟨v', h3, v', _, _, rfl, qout_of_fitV (hb.trans hO.below) hf2⟩
  rcases he with rfl | rfl <;> exact leaves

/-- A state with marks. -/
def stm (n : Nat) (ms : List Nat) (l : List (Nat × Value)) : CAct := { tmps := (st n l).tmps, marks := ms }
def FinM (P : Program) (fn : Func) (L : Nat) (v : Value) (new : List Blk) : Post := fun e a1 h1 =>
  (e = .normal ∨ e = .ret) ∧ ∃ h2, shutMarks L a1.marks h1 = some h2 ∧ ∃ v1, cResults P fn a1 h2 = some v1 ∧ WkV P L L v1 h2 v (List.replicate L Blk.dead ++ new)
end Go.Cl
/- A function that writes some of the blocks that it is given leaves all others as they are, wherever they lie. -/
set_option linter.unusedVariables false
namespace Go.Cl
open Go Go.RowKit

/-- Blocks put into their places: block i and those behind it. -/
def putF (f : Nat → Nat × Nat) : Nat → List Blk → List Blk → List Blk
  | _, [], h => h
  | i, b :: l, h => putF f (i + 1) l (h.set (f i).1 b)

theorem putF_len {f : Nat → Nat × Nat} : ∀ (l : List Blk) (i : Nat) (h : List Blk), (putF f i l h).length = h.length
  | [], _, _ => rfl
  | b :: l, i, h => (putF_len l (i + 1) _).trans (by simp)

theorem putF_other {f : Nat → Nat × Nat} : ∀ (l : List Blk) (i : Nat) (h : List Blk) (k : Nat), (∀ j, j < l.length → k ≠ (f (i + j)).1) → (putF f i l h)[k]? = h[k]?
  | [], _, _, _, _ => rfl
  | b :: l, i, h, k, hk => by
    refine (putF_other l (i + 1) _ k fun j hj => ?_).trans ?_
    · have := hk (j + 1) (by simpa using hj)
      rwa [show i + 1 + j = i + (j + 1) by omega]
    · have := hk 0 (by simp)
      rw [List.getElem?_set, if_neg (fun e => this (by simpa using e.symm))]

theorem putF_at {f : Nat → Nat × Nat} : ∀ (l : List Blk) (i : Nat) (h : List Blk), (∀ j k, j < l.length → k < l.length → (f (i + j)).1 = (f (i + k)).1 → j = k) → (∀ j, j < l.length → (f (i + j)).1 < h.length) →
    ∀ (j : Nat) (b : Blk), l[j]? = some b → (putF f i l h)[(f (i + j)).1]? = some b
  | [], _, _, _, _, j, b, hj => by simp at hj
  | c :: l, i, h, hi, hh, j, b, hj => by
    cases j with
    | zero =>
      simp only [List.getElem?_cons_zero, Option.some.injEq] at hj
      subst hj
      refine (putF_other l (i + 1) _ _ fun k hk e => ?_).trans ?_
      · have := hi 0 (k + 1) (by simp) (by simpa using hk) (by rw [show i + (k + 1) = i + 1 + k by omega]; exact e)
        omega
      · have := hh 0 (by simp)
        simp only [Nat.add_zero] at this ⊢
        simp [this]
    | succ j =>
      have := putF_at l (i + 1) (h.set (f i).1 c) (fun a b ha hb e => by
        have := hi (a + 1) (b + 1) (by simpa using ha) (by simpa using hb) (by rw [show i + (a + 1) = i + 1 + a by omega, show i + (b + 1) = i + 1 + b by omega]; exact e)
        omega) (fun a ha => by
        have := hh (a + 1) (by simpa using ha)
        rw [show i + (a + 1) = i + 1 + a by omega] at this
        simpa using this) j b (by simpa using hj)
      rwa [show i + (j + 1) = i + 1 + j by omega]

/-- THE FRAME. ro: what is only read; wr: what is written (lists or maps of flat values). All else in h stays. -/
theorem ImpSim.frame {P : Program} {g : FuncId} {argsc args : List Value} {base n : Nat} {h ro wr wr' : List Blk} {v : Value} (f : Nat → Nat × Nat)
    (hP : ImpSim P g argsc ro.length (ro ++ wr) v (ro ++ wr')) (hl : wr'.length = wr.length) (hnn : n = (ro ++ wr).length) (hb : Ats true f n h 0 (ro ++ wr))
    (hw : ∀ j, ro.length ≤ j → j < n → base ≤ (f j).1 ∧ (f j).2 = 0 ∧ ∀ i, i < n → (f i).1 = (f j).1 → i = j)
    (hf : wr.all blkFlat = true) (hf' : wr'.all blkFlat = true) (ha : LRn true f n argsc args) (hv : isFlat v = true) : ImpSim P g args base h v (putF f ro.length wr' h) := by
  have hnl : n = ro.length + wr.length := by rw [hnn]; simp
  have hal : ∀ {c : Blk}, blkFlat c = true → c ≠ .dead := fun hc e => by rw [e] at hc; cases hc
  have at_ : ∀ i, toF (ro ++ wr) i ≠ .dead → i < n ∧ ∃ b, h[(f i).1]? = some b ∧ b ≠ .dead ∧ RnB true f n (toF (ro ++ wr) i) b (f i).2 := by
    intro i hi
    by_cases hil : i < n
    · have hx := List.getElem?_eq_getElem (l := ro ++ wr) (by rw [hnn] at hil; exact hil)
      have hA := hb.get hx
      rw [Nat.zero_add] at hA
      rw [toF_some hx] at hi ⊢
      rcases hA with e | ⟨b, h1, h3⟩
      · exact absurd e hi
      · refine ⟨hil, b, h1, ?_, h3⟩
        intro e
        subst e
        exact RnB.nd h3
    · exact absurd (by simp only [toF, List.getD, List.getElem?_eq_none (show (ro ++ wr).length ≤ i by omega), Option.getD_none]) hi
  have wal : ∀ j, ro.length ≤ j → j < n → toF (ro ++ wr) j ≠ .dead := fun j h1 h2 => by
    have hx : (ro ++ wr)[j]? = some (wr[j - ro.length]'(by omega)) := by rw [List.getElem?_append_right h1]; exact List.getElem?_eq_getElem _
    rw [toF_some hx]
    exact hal (List.all_eq_true.1 hf _ (List.getElem_mem _))
  have wlt : ∀ j, ro.length ≤ j → j < n → (f j).1 < h.length := fun j h1 h2 => by
    obtain ⟨_, b, h3, _⟩ := at_ j (wal j h1 h2)
    exact (List.getElem?_eq_some_iff.1 h3).1
  have put_at : ∀ j b, wr'[j]? = some b → (putF f ro.length wr' h)[(f (ro.length + j)).1]? = some b := fun j b hj =>
    putF_at wr' ro.length h (fun a c ha' hc e => by
      have := (hw (ro.length + c) (by omega) (by omega)).2.2 (ro.length + a) (by omega) e
      omega) (fun a ha' => wlt _ (by omega) (by omega)) j b hj
  -- is block i written?
  have which : ∀ i, (∃ j b, ro.length ≤ j ∧ j < n ∧ i = (f j).1 ∧ (ro ++ wr')[j]? = some b ∧ b ∈ wr' ∧ toF (putF f ro.length wr' h) i = b) ∨
      ((∀ j, ro.length ≤ j → j < n → i ≠ (f j).1) ∧ toF (putF f ro.length wr' h) i = toF h i) := fun i => by
    by_cases hx : ∃ j, ro.length ≤ j ∧ j < n ∧ i = (f j).1
    · obtain ⟨j, h1, h2, rfl⟩ := hx
      have hj : j - ro.length < wr'.length := by omega
      refine .inl ⟨j, wr'[j - ro.length], h1, h2, rfl, ?_, List.getElem_mem _, ?_⟩
      · rw [List.getElem?_append_right h1]; exact List.getElem?_eq_getElem _
      · have := put_at (j - ro.length) _ (List.getElem?_eq_getElem hj)
        rw [show ro.length + (j - ro.length) = j by omega] at this
        exact toF_some this
    · refine .inr ⟨fun j h1 h2 e => hx ⟨j, h1, h2, e⟩, ?_⟩
      have := putF_other (f := f) wr' ro.length h i (fun j hj e => hx ⟨ro.length + j, by omega, by omega, e⟩)
      simp only [toF, List.getD, this]
  refine ⟨hP.1, fun D β κ N w args' hD hbl hR hargs => ?_⟩
  have hn : Num f n D β κ (fun i => i < n ∧ D (f i).1) (fun i => ((β (f i).1).1, (β (f i).1).2 + (f i).2)) (fun i => κ (f i).1) :=
    ⟨fun i hi => ⟨fun x => x.2, fun x => ⟨hi, x⟩⟩, fun i hi => rfl, fun i hi _ => rfl⟩
  have br_ : ∀ i, toF (ro ++ wr) i ≠ .dead → toF h (f i).1 ≠ .dead ∧ BR P (fun i => i < n ∧ D (f i).1) (fun i => ((β (f i).1).1, (β (f i).1).2 + (f i).2)) (fun i => κ (f i).1) i (toF (ro ++ wr) i) w := fun i hi => by
    obtain ⟨hil, b, h1, h2', h3⟩ := at_ i hi
    have hB := hR.blk (f i).1
    rw [toF_some h1] at hB
    exact ⟨by rw [toF_some h1]; exact h2', h3.br hn hil hB⟩
  -- all is kept but what is written
  let K : Kp := ⟨fun b => b < w.heap.size ∧ ∀ j, ro.length ≤ j → j < n → b ≠ (β (f j).1).1⟩
  have hNK : N.sub K := fun b hN => ⟨hR.size b hN, fun j h1 h2 e => by
    have := (hR.own (f j).1 (br_ j (wal j h1 h2)).1 (hw j h1 h2).1).1
    exact this (e ▸ hN)⟩
  have old : ∀ i, toF h i ≠ .dead → (∀ j, ro.length ≤ j → j < n → i ≠ (f j).1) → K.has (β i).1 := fun i hi hno => ⟨(hR.blk i).valid hi, fun j h1 h2 e => by
    obtain ⟨h3, _⟩ := br_ j (wal j h1 h2)
    by_cases hib : base ≤ i
    · exact hno j h1 h2 (hR.inj i (f j).1 hi h3 hib (hw j h1 h2).1 e)
    · exact Kp.ne (hR.ro i hi (by omega)) (hR.own (f j).1 h3 (hw j h1 h2).1).1 e⟩
  have hRc : Rel P (fun i => i < n ∧ D (f i).1) (fun i => ((β (f i).1).1, (β (f i).1).2 + (f i).2)) (fun i => κ (f i).1) ro.length K (toF (ro ++ wr)) w := by
    refine ⟨fun i => ?_, fun i hi hib => ?_, fun i hi hib => ?_, fun i j hi hj hib hjb he => ?_, fun b hb => hb.1⟩
    · by_cases hd : toF (ro ++ wr) i = .dead
      · rw [hd]; trivial
      · exact (br_ i hd).2
    · obtain ⟨hil, _⟩ := at_ i hi
      exact old _ (br_ i hi).1 fun j h1 h2 e => by
        have := (hw j h1 h2).2.2 i hil e
        omega
    · obtain ⟨hil, b, h1, h2', h3⟩ := at_ i hi
      have hO := hR.own (f i).1 (by rw [toF_some h1]; exact h2') (hw i hib hil).1
      rw [toF_some h1] at hO
      exact ⟨fun hK => hK.2 i hib hil rfl, h3.own hn hil (hw i hib hil).2.1 hO.2⟩
    · obtain ⟨hil, _⟩ := at_ i hi
      obtain ⟨hjl, _⟩ := at_ j hj
      exact (hw j hjb hjl).2.2 i hil (hR.inj _ _ (br_ i hi).1 (br_ j hj).1 (hw i hib hil).1 (hw j hjb hjl).1 he)
  refine Calls.mono (hP.2 _ _ _ K w args' (fun i hi => by rw [← hnn]; exact hi.1) (by simp) hRc (ha.lr hn hargs)) ?_
  rintro e w' ⟨v', β', κ', rfl, hO, hvr⟩
  have hU : Up D h (putF f ro.length wr' h) = D := Out.up_same (putF_len _ _ _)
  have hext : ∀ j, ro.length ≤ j → j < n → β (f j).1 = β' j ∧ κ (f j).1 = κ' j := fun j h1 h2 => by
    have he := hO.ext j (by rw [← hnn]; exact h2)
    refine ⟨?_, he.2.symm⟩
    rw [he.1]
    simp [(hw j h1 h2).2.1]
  rw [hvr.flat hv]
  refine ⟨v, β, κ, rfl, ⟨by rw [putF_len]; exact Nat.le_refl _, fun i _ => ⟨rfl, rfl⟩, ?_, hO.below.mono hNK⟩, .of_flat hv⟩
  rw [hU]
  refine ⟨fun i => ?_, fun i hi hib => ?_, fun i hi hib => ?_, fun i j hi hj hib hjb he => ?_, hR.size.le hO.below.size⟩
  · rcases which i with ⟨j, b, h1, h2, rfl, h3, h4, h5⟩ | ⟨hno, h5⟩
    · rw [h5]
      have := hO.rel.blk j
      rw [toF_some h3] at this
      exact BR.any (List.all_eq_true.1 hf' b h4) (hext j h1 h2).1 this
    · rw [h5]
      by_cases hd : toF h i = .dead
      · rw [hd]; trivial
      · exact (hR.blk i).move (fun _ x => x) Ext.refl rfl (hO.below.block _ (old i hd hno))
  · rcases which i with ⟨j, b, h1, h2, rfl, h3, h4, h5⟩ | ⟨hno, h5⟩
    · exact absurd (hw j h1 h2).1 (by omega)
    · rw [h5] at hi; exact hR.ro i hi hib
  · rcases which i with ⟨j, b, h1, h2, rfl, h3, h4, h5⟩ | ⟨hno, h5⟩
    · rw [h5]
      have hOw := hO.rel.own j (by rw [toF_some h3]; exact hal (List.all_eq_true.1 hf' b h4)) h1
      rw [toF_some h3] at hOw
      exact ⟨(hR.own (f j).1 (br_ j (wal j h1 h2)).1 hib).1, OwnB.any (hext j h1 h2).1 (hext j h1 h2).2 hOw.2⟩
    · rw [h5] at hi ⊢
      have := hR.own i hi hib
      exact ⟨this.1, this.2.move ⟨rfl, rfl⟩ (hO.below.block _ (old i hi hno))⟩
  · have alive : ∀ i, toF (putF f ro.length wr' h) i ≠ .dead → toF h i ≠ .dead := fun i hi => by
      rcases which i with ⟨j, b, h1, h2, rfl, h3, h4, h5⟩ | ⟨hno, h5⟩
      · exact (br_ j (wal j h1 h2)).1
      · rwa [h5] at hi
    exact hR.inj i j (alive i hi) (alive j hj) hib hjb he
end Go.Cl
/- Maps as lists of pairs. -/
set_option linter.unusedVariables false
namespace Go.Cl
open Go Go.RowKit

section
variable {α β : Type} [DecidableEq α]

/-- What is found under a key. -/
def mget : List (α × β) → α → Option β
  | [], _ => none
  | (a, b) :: l, k => if k = a then some b else mget l k
/-- With a value under a key. -/
def mput : List (α × β) → α → β → List (α × β)
  | [], k, x => [(k, x)]
  | (a, b) :: l, k, x => if k = a then (k, x) :: l else (a, b) :: mput l k x
/-- Without a key. -/
def mdel : List (α × β) → α → List (α × β)
  | [], _ => []
  | (a, b) :: l, k => if k = a then l else (a, b) :: mdel l k

def mEnc (kv : α → Value) (vv : β → Value) (x : α × β) : Value × Value := (kv x.1, vv x.2)

variable {kv : α → Value} {vv : β → Value}

theorem find_enc (he : ∀ a b, eqKey (kv a) (kv b) = decide (a = b)) (k : α) : ∀ (l : List (α × β)) (i : Nat),
    (∃ x j, mget l k = some x ∧ findEntry (kv k) (l.map (mEnc kv vv)) i = some (i + j, vv x) ∧ (∀ y, (l.map (mEnc kv vv)).set j (kv k, vv y) = (mput l k y).map (mEnc kv vv)) ∧ (l.map (mEnc kv vv)).eraseIdx j = (mdel l k).map (mEnc kv vv)) ∨
    (mget l k = none ∧ findEntry (kv k) (l.map (mEnc kv vv)) i = none ∧ (∀ y, l.map (mEnc kv vv) ++ [(kv k, vv y)] = (mput l k y).map (mEnc kv vv)) ∧ l.map (mEnc kv vv) = (mdel l k).map (mEnc kv vv))
  | [], i => .inr ⟨rfl, rfl, fun y => rfl, rfl⟩
  | (a, b) :: l, i => by
    by_cases h : k = a
    · subst h
      refine .inl ⟨b, 0, by simp [mget], ?_, fun y => by simp [mput, mEnc], by simp [mdel]⟩
      simp [findEntry, mEnc, he]
    · have hd : eqKey (kv k) (kv a) = false := by rw [he]; simpa using h
      rcases find_enc he k l (i + 1) with ⟨x, j, h1, h2, h3, h4⟩ | ⟨h1, h2, h3, h4⟩
      · refine .inl ⟨x, j + 1, by simpa [mget, h] using h1, ?_, fun y => ?_, ?_⟩
        · simp only [List.map_cons, mEnc, findEntry, hd, Bool.false_eq_true, if_false]
          rw [show i + (j + 1) = i + 1 + j by omega]
          exact h2
        · simp only [List.map_cons, List.set_cons_succ, mput, if_neg h, h3]
        · simp only [List.map_cons, List.eraseIdx_cons_succ, mdel, if_neg h, h4]
      · refine .inr ⟨by simpa [mget, h] using h1, ?_, fun y => ?_, ?_⟩
        · simp only [List.map_cons, mEnc, findEntry, hd, Bool.false_eq_true, if_false]
          exact h2
        · simp only [List.map_cons, List.cons_append, mput, if_neg h, h3]
        · simp only [List.map_cons, mdel, if_neg h, ← h4]

variable {P : Program} {hp : List Blk} {t kt et : TypeId} {r base : Nat} {l : List (α × β)} {k : α} {key val : Value} {x : Option QRes}

/-- A lookup. -/
theorem q_get (h : x = qv (cLookup P hp t (.map (some r)) key false)) (hk : key = kv k) (hb : hp[r]? = some (.map kt (l.map (mEnc kv vv)))) (hu : P.underlying t = some (.map kt et)) (hkt : keyT P kt = true)
    (hf : ∀ a, keyFits P kt (kv a) = true) (he : ∀ a b, eqKey (kv a) (kv b) = decide (a = b)) (d : β) (hz : zeroT P et = some (vv d)) (hzf : isFlat (vv d) = true) : x = some { val := vv ((mget l k).getD d) } := by
  rw [h, hk]
  simp only [cLookup, hu, hb]
  rw [if_pos ⟨trivial, hkt, hf k⟩]
  rcases find_enc (vv := vv) he k l 0 with ⟨y, j, h1, h2, _⟩ | ⟨h1, h2, _⟩
  · rw [h2, h1]; rfl
  · rw [h2, h1]; simp only [hz]; rw [if_pos hzf]; rfl
/-- A lookup that tells whether it is there. -/
theorem q_get2 (h : x = qv (cLookup P hp t (.map (some r)) key true)) (hk : key = kv k) (hb : hp[r]? = some (.map kt (l.map (mEnc kv vv)))) (hu : P.underlying t = some (.map kt et)) (hkt : keyT P kt = true)
    (hf : ∀ a, keyFits P kt (kv a) = true) (he : ∀ a b, eqKey (kv a) (kv b) = decide (a = b)) (d : β) (hz : zeroT P et = some (vv d)) (hzf : isFlat (vv d) = true) :
    x = some { val := .tuple ⟨[vv ((mget l k).getD d), .bool (mget l k).isSome]⟩ } := by
  rw [h, hk]
  simp only [cLookup, hu, hb]
  rw [if_pos ⟨trivial, hkt, hf k⟩]
  rcases find_enc (vv := vv) he k l 0 with ⟨y, j, h1, h2, _⟩ | ⟨h1, h2, _⟩
  · rw [h2, h1]; rfl
  · rw [h2, h1]; simp only [hz]; rw [if_pos hzf]; rfl
/-- A value is put under a key. -/
theorem q_put {y : β} (h : x = cMapUpdate P base hp t (.map (some r)) key val) (hk : key = kv k) (hv : val = vv y) (hbr : base ≤ r) (hb : hp[r]? = some (.map kt (l.map (mEnc kv vv)))) (hu : P.underlying t = some (.map kt et))
    (hkt : keyT P kt = true) (hf : ∀ a, keyFits P kt (kv a) = true) (he : ∀ a b, eqKey (kv a) (kv b) = decide (a = b)) (hvf : ∀ b, flat1 (vv b) = true) :
    x = some { val := undef, upd := some (r, .map kt ((mput l k y).map (mEnc kv vv))) } := by
  rw [h, hk, hv]
  simp only [cMapUpdate, hu, hb]
  rw [if_pos ⟨hbr, hvf y, trivial, hkt, hf k⟩]
  rcases find_enc (vv := vv) he k l 0 with ⟨z, j, h1, h2, h3, _⟩ | ⟨h1, h2, h3, _⟩
  · rw [h2, ← h3 y]; simp only [Nat.zero_add]
  · rw [h2, ← h3 y]
/-- A key is taken out. -/
theorem q_del (h : x = cDelete P base hp t (.map (some r)) key) (hk : key = kv k) (hbr : base ≤ r) (hb : hp[r]? = some (.map kt (l.map (mEnc kv vv)))) (hu : P.underlying t = some (.map kt et))
    (hkt : keyT P kt = true) (hf : ∀ a, keyFits P kt (kv a) = true) (he : ∀ a b, eqKey (kv a) (kv b) = decide (a = b)) :
    x = some { val := .tuple #[], upd := some (r, .map kt ((mdel l k).map (mEnc kv vv))) } := by
  rw [h, hk]
  simp only [cDelete, hu, hb]
  rw [if_pos ⟨hbr, trivial, hkt, hf k⟩]
  rcases find_enc (vv := vv) he k l 0 with ⟨z, j, h1, h2, _, h4⟩ | ⟨h1, h2, _, h4⟩
  · rw [h2, ← h4]; simp only [Nat.zero_add]
  · rw [h2, ← h4]
end
/-- How many. -/
theorem q_mlen {α β : Type} {kv : α → Value} {vv : β → Value} {hp : List Blk} {kt et : TypeId} {r base : Nat} {l : List (α × β)} {x : Option QRes} {E : Env} {n : Nat} {ts : Array TypeId} {ty : TypeId} (h : x = qBuiltin E base hp n .len ts ty [.map (some r)]) (hb : hp[r]? = some (.map kt (l.map (mEnc kv vv)))) (hu : (ts[0]?).bind E.P.underlying = some (.map kt et)) :
    x = some { val := .int .i64 (l.length : Int) } := by
  rw [h]
  simp only [qBuiltin, hu, cEntries, hb, Option.map_some, List.length_map]
end Go.Cl
/- Functions that write what they are given: out of their bodies, and their calls. -/
set_option linter.unusedVariables false
namespace Go.Cl
open Go Go.RowKit

/-- Where the body of a function that writes is to end: h': what has become of the blocks that came in. -/
def ImpFin (h' : List Blk) : Post := fun e a h => (e = .normal ∨ e = .ret) ∧ a.marks = [] ∧ ∃ x, h = h' ++ x

/-- A block that leads to blocks below n alone. -/
def SelfOk (n : Nat) (b : Blk) : Prop := ∀ n', n ≤ n' → b = .dead ∨ RnB true (fun i => (i, 0)) n' b b 0
theorem selfOk_of {n : Nat} {b : Blk} (h : selfB n b = true) : SelfOk n b := fun n' hn => selfB_at hn h
theorem selfOk_flat {n : Nat} {b : Blk} (h : b = .dead ∨ blkFlat b = true) : SelfOk n b := fun n' hn => by
  rcases h with h | h
  · exact .inl h
  · cases b with
    | cells t vs =>
      have hv : ∀ v ∈ vs, isFlat v = true := fun v hv => List.all_eq_true.1 (show vs.all isFlat = true from h) v hv
      refine .inr (.cells t vs vs 0 ?_)
      have : (vs.drop 0).take vs.length = vs := by simp
      rw [this]
      exact LRn.flat hv
    | map kt es => exact .inr (.map kt es)
    | _ => cases h
theorem selfOk_nil {n : Nat} : ∀ b ∈ ([] : List Blk), SelfOk n b := fun b hb => by cases hb
theorem selfOk_cons {n : Nat} {b : Blk} {l : List Blk} (h : SelfOk n b) (hl : ∀ b ∈ l, SelfOk n b) : ∀ x ∈ b :: l, SelfOk n x := fun x hx => by
  rcases List.mem_cons.1 hx with rfl | hx
  · exact h
  · exact hl x hx

theorem ImpSim.of_Fin {P : Program} {g : FuncId} {args : List Value} {h h' : List Blk} {fn : Func} {c : Code} (hfn : P.funcs[g]? = some fn) (hc : fn.body = some c) (hname : (fn.name == "runtime.NumGoroutine") = false)
    (hres : fn.results.toList = []) (base L : Nat) (hL : h.length = L) (hl : h'.length = L) (hbl : base ≤ L) (hself : ∀ b ∈ h', SelfOk L b) (keep : List Nat) {a2 : CAct}
    (hs : maskA keep { tmps := args ++ List.replicate (fn.ntmps - args.length) undef } = a2) (ht : TS P base L c a2 h (NX P base L [] (ImpFin h'))) : ImpSim P g args base h (.tuple ⟨[]⟩) h' := by
  subst hL
  refine ImpSim.of_TS hfn hc hname (Nat.le_of_eq hl.symm) (TS.weak (Wk.tm keep) ?_)
  rw [hs]
  refine TS.post ht ?_
  rintro e a1 h1 ⟨he, hm, x, rfl⟩
  refine ⟨{ tmps := List.replicate a1.tmps.length poison }, h', ⟨he, rfl, rfl, ?_⟩, Wk.cut (by omega) (by omega) (fun i b hb => ?_) ⟨by simp, fun j v v' hv hv' => ?_⟩ hm rfl⟩
  · simp only [cResults, hres, List.mapM_nil]
    rfl
  · rcases hself b (List.mem_of_getElem? hb) h'.length (by omega) with e | hr
    · exact .inl e
    · refine .inr ⟨b, ?_, hr⟩
      have := (List.getElem?_eq_some_iff.1 hb).1
      show (h' ++ x)[i]? = some b
      rw [List.getElem?_append_left this]
      exact hb
  · rw [List.getElem?_replicate] at hv
    split at hv
    · cases hv; exact .poison _ rfl
    · cases hv

/-- Do the blocks that are written lie apart, from base on? -/
def frameOk (f : Nat → Nat × Nat) (base r n : Nat) : Bool :=
  (List.range n).all fun j => Nat.blt j r || (Nat.ble base (f j).1 && Nat.beq (f j).2 0 && (List.range n).all fun i => !(Nat.beq (f i).1 (f j).1) || Nat.beq i j)

theorem frameOk_spec {f : Nat → Nat × Nat} {base r n : Nat} (h : frameOk f base r n = true) : ∀ j, r ≤ j → j < n → base ≤ (f j).1 ∧ (f j).2 = 0 ∧ ∀ i, i < n → (f i).1 = (f j).1 → i = j := by
  intro j h1 h2
  have h3 := List.all_eq_true.1 h j (List.mem_range.2 h2)
  rw [Bool.or_eq_true] at h3
  rcases h3 with h3 | h3
  · have := Nat.le_of_ble_eq_true (show Nat.ble (j + 1) r = true from h3); omega
  · rw [Bool.and_eq_true, Bool.and_eq_true] at h3
    refine ⟨Nat.le_of_ble_eq_true h3.1.1, Nat.eq_of_beq_eq_true h3.1.2, fun i hi he => ?_⟩
    have h4 := List.all_eq_true.1 h3.2 i (List.mem_range.2 hi)
    rw [Bool.or_eq_true] at h4
    rcases h4 with h4 | h4
    · rw [he] at h4
      have : Nat.beq (f j).1 (f j).1 = true := Nat.beq_refl _
      rw [this] at h4
      cases h4
    · exact Nat.eq_of_beq_eq_true h4

theorem ImpSim.frameB {P : Program} {g : FuncId} {argsc args : List Value} {base n : Nat} {h ro wr wr' : List Blk} {v : Value} (f : Nat → Nat × Nat)
    (hP : ImpSim P g argsc ro.length (ro ++ wr) v (ro ++ wr')) (hl : wr'.length = wr.length) (hnn : n = (ro ++ wr).length) (hb : Ats true f n h 0 (ro ++ wr))
    (hw : frameOk f base ro.length n = true) (hf : wr.all blkFlat = true) (hf' : wr'.all blkFlat = true) (ha : LRn true f n argsc args) (hv : isFlat v = true) : ImpSim P g args base h v (putF f ro.length wr' h) :=
  ImpSim.frame f hP hl hnn hb (frameOk_spec hw) hf hf' ha hv
end Go.Cl
/- Functions that are called in line; loops over functions by places. -/
set_option linter.unusedVariables false
namespace Go
def Code.ras : Code → Code | .rangeFunc _ _ as _ => as | c => c
def Code.rbd : Code → Code | .rangeFunc _ _ _ bd => bd | c => c
end Go
namespace Go.Cl
open Go Go.RowKit

section
variable {P : Program} {base L : Nat} {ops : Array Oper} {rest : List Oper} {o : Oper} {a a1 a2 : CAct} {h h1 h2 : List Blk} {Ψ : CAct → List Blk → Prop} {j : Nat}

/-- A call, gone through as if the function's code stood there. -/
theorem TO.inline {f : Operand} {args : Array Operand} {ts : Array TypeId} {g : FuncId} {first captured : Array Value} {fn : Func} {c : Code} (hw : cWanted ops.toList a o = some true)
    (ho : o.op = .call ⟨.value f, args, ts⟩) (hf : a.eval f = .func (.func g) first captured) (hfn : P.funcs[g]? = some fn) (hc : fn.body = some c) (hname : (fn.name == "runtime.NumGoroutine") = false)
    (ht : TS P base h.length c { tmps := (first.toList ++ args.toList.map a.eval ++ captured.toList) ++ List.replicate (fn.ntmps - (first.toList ++ args.toList.map a.eval ++ captured.toList).length) undef } h
      fun e a1 h1 => (e = .normal ∨ e = .ret) ∧ a1.marks = [] ∧ ∃ v a2 h2, cResults P fn a1 h1 = some v ∧
        (∀ N D0 β0 κ0 v' w, (∃ D β κ, FitV P base N h.length D0 β0 κ0 v h1 v' w D β κ) → ∃ D β κ, FitV P base N h.length D0 β0 κ0 a2 h2 v' w D β κ) ∧ TO P base L ops rest (a.put o.dst a2) h2 Ψ) :
    TO P base L ops (o :: rest) a h Ψ := by
  rintro N D0 β0 κ0 R hR w0 w a' Q ⟨D, β, κ, hfit⟩ hb hQ
  have hw' := wanted_sim hw hfit.act
  simp only [wpListIn, hw', if_true]
  have hnd : ∀ c, o.op ≠ .defer c := fun c e => by rw [ho] at e; cases e
  have hfv := hfit.act.eval f
  rw [hf] at hfv
  have hI : Enters P g := ⟨fn, c, hfn, hc, hname⟩
  generalize hf' : a'.eval f = fv at hfv
  cases hfv with
  | func _ f1 f1' c1 c1' k1 k2 k3 k4 =>
    have hargs0 := LR.args hfit.act.eval args.toList
    have hargs := ((⟨k1, k2⟩ : LR D β κ f1 f1').app hargs0).app (⟨k3, k4⟩ : LR D β κ c1 c1')
    have hrun : (execOp a'.eval o).run P w = .ok (.enter g (⟨f1' ++ args.toList.map a'.eval ++ c1'⟩ : Array Value)) w := by
      have e2 := run_callFunc hI (⟨f1' ++ args.toList.map a'.eval ++ c1'⟩ : Array Value) w
      have e1 : (⟨f1'⟩ : Array Value) ++ (args.map a'.eval) ++ (⟨c1'⟩ : Array Value) = ⟨f1' ++ args.toList.map a'.eval ++ c1'⟩ := by
        apply Array.ext'; simp
      rw [← e1] at e2 ⊢
      simp only [execOp, ho, resolve, hf', Deferred.ofValue, Sem.run_bind, Sem.run_pure, Result.andThen_ok, invoke]
      simpa using e2
    refine wp_of_enter hnd hrun ?_
    have start : ActR D β κ { tmps := (f1 ++ args.toList.map a.eval ++ c1) ++ List.replicate (fn.ntmps - (f1 ++ args.toList.map a.eval ++ c1).length) undef }
        { tmps := (⟨f1' ++ args.toList.map a'.eval ++ c1'⟩ : Array Value) ++ Array.replicate (fn.ntmps - (⟨f1' ++ args.toList.map a'.eval ++ c1'⟩ : Array Value).size) undef, defers := [] } := by
      refine ⟨?_, rfl, fun m hm => by simp at hm⟩
      have h3 := hargs.app (LR.rep (fn.ntmps - (f1 ++ args.toList.map a.eval ++ c1).length) (VR.undef (D := D) (β := β) (κ := κ)))
      have h4 : (f1 ++ args.toList.map a.eval ++ c1).length = (f1' ++ args.toList.map a'.eval ++ c1').length := hargs.len
      rw [h4] at h3 ⊢
      simpa using h3
    refine callsIn_FW.1 (callsIn_of_wp_marks (F := FW none) (n := 0) hfn hc trivial ?_)
    refine ht N D β κ none (.inl rfl) w0 w _ _ ⟨D, β, κ, hfit.dom, hfit.bl, Nat.le_refl _, hfit.rel, start, fun i _ => ⟨Iff.rfl, rfl, rfl⟩⟩ hb ?_
    rintro e a1 h1 a1' w1 ⟨he, hm, v, v2, h2, hres, hwk, hnext⟩ ⟨D1, β1, κ1, f1⟩ hb1
    obtain ⟨v', r3, r4⟩ := results_sim f1.rel f1.act hres
    obtain ⟨D2, β2, κ2, f2⟩ := hwk N D β κ v' w1 ⟨D1, β1, κ1, f1.dom, f1.bl, f1.ll, f1.rel, r4, f1.ext⟩
    have leaves : LeavesInM (FW none) 0 P fn a1'.tmps (fun e w'' => ∃ v, e = .returned v ∧ wpListIn (FW R) 0 P ops Q rest (a'.put o.dst v) w'') a1'.defers .returning w1 := by
      rw [f1.act.marks, hm]
      refine ⟨v', r3, v', rfl, ?_⟩
      refine hnext N D0 β0 κ0 R hR w0 _ _ Q ⟨D2, β2, κ2, f2.dom, f2.bl, Nat.le_trans hfit.ll f2.ll, f2.rel, (ActR.keep hfit.act hfit.dom f2.ext).put o.dst f2.val, fun i hi => ?_⟩ hb1 hQ
      have x := f2.ext i (Nat.lt_of_lt_of_le hi hfit.ll)
      have y := hfit.ext i hi
      exact ⟨x.1.trans y.1, x.2.1.trans y.2.1, x.2.2.trans y.2.2⟩
    rcases he with rfl | rfl <;> exact leaves

/-- Where a function that is called in line is to end. -/
def InlP (P : Program) (base n : Nat) (fn : Func) (Θ : Value → List Blk → Prop) : Post := fun e a1 h1 =>
  (e = .normal ∨ e = .ret) ∧ a1.marks = [] ∧ ∃ v v2 h2, cResults P fn a1 h1 = some v ∧ WkV P base n v h1 v2 h2 ∧ Θ v2 h2

theorem TI.inline {g : FuncId} {args : List Value} {fn : Func} {c : Code} {a2 : CAct} {n : Nat} (hc : callAt ops j a = some (g, args)) (hfn : P.funcs[g]? = some fn) (hcb : fn.body = some c) (hname : (fn.name == "runtime.NumGoroutine") = false)
    (hn : h.length = n) (keep : List Nat) (hs : maskA keep { tmps := args ++ List.replicate (fn.ntmps - args.length) undef } = a2)
    (ht : TS P base n c a2 h (NX P base n [] (InlP P base n fn fun v2 h2 => TI P base L ops (j + 1) (putAt ops j a v2) h2 Ψ))) : TI P base L ops j a h Ψ := by
  subst hn
  unfold callAt at hc
  split at hc
  · rename_i o ho
    split at hc
    · rename_i hw
      split at hc
      · rename_i f cargs ts hop
        split at hc
        · rename_i g' first captured hf
          cases hc
          unfold TI
          rw [drop_at ho]
          refine TO.inline hw hop hf hfn hcb hname ?_
          refine TS.weak (Wk.tm keep) ?_
          rw [hs]
          refine TS.mono ht ?_
          rintro e a1 h1 ⟨he, hm, v, v2, h2, h3, h4, h5⟩
          refine ⟨he, hm, v, v2, h2, h3, h4, ?_⟩
          have e1 : putAt ops j a v2 = a.put o.dst v2 := by simp only [putAt, ho]
          rw [← e1]
          exact h5
        · cases hc
      · cases hc
    · cases hc
  · cases hc

/-- Which loop's round the j-th operation calls. -/
noncomputable def yieldAt (ops : Array Oper) (j : Nat) (a : CAct) : Option (Nat × List Value) :=
  match ops.toList[j]? with
  | some o => match cWanted ops.toList a o with
    | some true => match o.op with
      | .call ⟨.value f, args, _⟩ => match a.eval f with
        | .func (.yield l) _ _ => some (l, args.toList.map a.eval)
        | _ => none
      | _ => none
    | _ => none
  | none => none

/-- Where a round is to end; where what comes before it is to end. -/
def YB (l : Nat) (Θ : Value → List Blk → Prop) : Post := fun e2 a2 h2 => ∃ v h3, endRound h2 l e2 = some (v, h3) ∧ Θ v h3
def YA (P : Program) (base n l : Nat) (bd : Code) (Φ : Post) : Post := fun e a1 h1 =>
  e = .normal ∧ ∃ t2 p2 as2 b2, h1[l]? = some (.loop t2 p2 as2 b2 .ready none) ∧ TS P base n bd a1 (h1.set l (.loop t2 p2 as2 b2 .busy none)) Φ

theorem TI.yield {l n : Nat} {args t : List Value} {p : List Tmp} {as bd : Code} {a2 : CAct} (hy : yieldAt ops j a = some (l, args)) (hl : h[l]? = some (.loop t p as bd .ready none)) (hbl : base ≤ l) (hal : args.length = p.length)
    (hn : h.length = n) (hs : { tmps := setAll p args t } = a2) (hbody : TS P base n as a2 h (NX P base n [] (YA P base n l bd (NX P base n [] (YB l fun v h3 => TI P base L ops (j + 1) (putAt ops j a v) h3 Ψ))))) : TI P base L ops j a h Ψ := by
  subst hn hs
  unfold yieldAt at hy
  split at hy
  · rename_i o ho
    split at hy
    · rename_i hw
      split at hy
      · rename_i f cargs ts hop
        split at hy
        · rename_i l' fr cp hf
          cases hy
          unfold TI
          rw [drop_at ho]
          refine TO.yield hw hop hf hl hbl (by simpa using hal) ?_
          refine TS.mono hbody ?_
          rintro e a1 h1 ⟨he, t2, p2, as2, b2, h3, h4⟩
          refine ⟨he, t2, p2, as2, b2, h3, TS.mono h4 ?_⟩
          rintro e2 a2 h2 ⟨v, h5, h6, h7⟩
          refine ⟨v, h5, h6, ?_⟩
          have e1 : putAt ops j a v = a.put o.dst v := by simp only [putAt, ho]
          rw [← e1]
          exact h7
        · cases hy
      · cases hy
    · cases hy
  · cases hy
end

section
variable {P : Program} {base L : Nat} {c x y : Code} {a a1 a2 : CAct} {h h1 h2 : List Blk} {Φ Ψ : Post} {e : Exit} {K : List Fr}
theorem TS0.sqP (hc : c = .seq c.s1 c.s2) (ht : TS0 P base L c.s1 a h (NX0 P base L (.sq c.s2 :: K) Φ)) : TS0 P base L c a h (NX0 P base L K Φ) := by
  generalize c.s1 = x at hc ht; generalize c.s2 = y at hc ht; subst hc; exact TS0.seq ht
theorem TS0.bkP {id : Nat} (hc : c = .block id c.bd) (ht : TS0 P base L c.bd a h (NX0 P base L (.bk id :: K) Φ)) : TS0 P base L c a h (NX0 P base L K Φ) := by
  generalize c.bd = x at hc ht; subst hc; exact TS0.block ht
theorem TS0.scP (hc : c = .scope c.bd) (ht : TS0 P base L c.bd a h (NX0 P base L (.sc :: K) Φ)) : TS0 P base L c a h (NX0 P base L K Φ) := by
  generalize c.bd = x at hc ht; subst hc; exact TS0.scope ht
theorem TS0.piece (ht : TS P base L c a h (NX P base L [] Φ)) : TS0 P base L c a h Φ := TS0.of (TS.start ht)
theorem TS0.startM (keep keepH : List Nat) (hs : mk2 keep keepH (a, h) = (a2, h2)) (ht : TS0 P base L c a2 h2 Φ) : TS0 P base L c a h Φ := by
  refine TS0.weak (Wk.mask keep keepH) ?_
  have e1 : maskA keep a = a2 := congrArg Prod.fst hs
  have e2 : maskH keepH 0 h = h2 := congrArg Prod.snd hs
  rw [e1, e2]
  exact ht
theorem NX.z (ht : Φ e a h) : NX P base L [] Φ e a h := ht
theorem NXz.weak {y : Code} (hw : Wk P base L a h a2 h2) (ht : NX P base L [] (NX0 P base L (.sq y :: K) Φ) .normal a2 h2) : NX P base L [] (NX0 P base L (.sq y :: K) Φ) .normal a h :=
  TS0.weak hw ht
theorem NX0.z (ht : Φ e a h) : NX0 P base L [] Φ e a h := ht
theorem NX0.scN (ht : NX0 P base L K Φ .normal a h) : NX0 P base L (.sc :: K) Φ .normal a h := ht
theorem NX0.scR (ht : NX0 P base L K Φ .ret a h) : NX0 P base L (.sc :: K) Φ .ret a h := ht
theorem NX0.scX {i : Nat} (ht : NX0 P base L K Φ (.exit i) a h) : NX0 P base L (.sc :: K) Φ (.exit i) a h := ht
theorem NX0.sq (ht : TS0 P base L y a h (NX0 P base L K Φ)) : NX0 P base L (.sq y :: K) Φ .normal a h := ht
theorem NX0.bk {id : Nat} (ht : NX0 P base L K Φ .normal a h) : NX0 P base L (.bk id :: K) Φ .normal a h := ht
theorem NX0.sqR (ht : NX0 P base L K Φ .ret a h) : NX0 P base L (.sq y :: K) Φ .ret a h := ht
theorem NX0.bkR {id : Nat} (ht : NX0 P base L K Φ .ret a h) : NX0 P base L (.bk id :: K) Φ .ret a h := ht
theorem NX0.sqX {i : Nat} (ht : NX0 P base L K Φ (.exit i) a h) : NX0 P base L (.sq y :: K) Φ (.exit i) a h := ht
theorem NX0.bkX {i : Nat} (ht : NX0 P base L K Φ .normal a h) : NX0 P base L (.bk i :: K) Φ (.exit i) a h := by
  show (if i = i then _ else _); rw [if_pos rfl]; exact ht
theorem NX0.bkY {i id : Nat} (hi : (i == id) = false) (ht : NX0 P base L K Φ (.exit i) a h) : NX0 P base L (.bk id :: K) Φ (.exit i) a h := by
  show (if i = id then _ else _); rw [if_neg (by simpa using hi)]; exact ht

/-- Where an iterator's code is to end. -/
def RgP (P : Program) (base L : Nat) (fn : Func) (n : Nat) (a : CAct) (Φ : Post) : Post := fun e a1 h1 => (e = .normal ∨ e = .ret) ∧ a1.marks = [] ∧ (∃ v, cResults P fn a1 h1 = some v) ∧
  ((∃ t p s b, h1[n + 1]? = some (.loop t p s b .ready none) ∧ Φ .normal { a with marks := n :: a.marks } (h1.set (n + 1) .dead)) ∨
   ∃ t p s b c2, h1[n + 1]? = some (.loop t p s b .done (some c2)) ∧ TS0 P base L c2 { a with marks := n :: a.marks } (h1.set (n + 1) .dead) Φ)

theorem TS0.rgP {g : Operand} {ps : Array Tmp} {ci : Code} {f : FuncId} {first captured : Array Value} {fn : Func} {n : Nat} (hc : c = .rangeFunc g ps c.ras c.rbd) (hg : a.eval g = .func (.func f) first captured) (hfn : P.funcs[f]? = some fn)
    (hci : fn.body = some ci) (hname : (fn.name == "runtime.NumGoroutine") = false) (hn : h.length = n) (keep : List Nat)
    (hs : maskA keep { tmps := (first.toList ++ [Value.func (.yield (n + 1)) #[] #[]] ++ captured.toList) ++ List.replicate (fn.ntmps - (first.toList ++ [Value.func (.yield (n + 1)) #[] #[]] ++ captured.toList).length) undef } = a2)
    (hh : h ++ [.mark, .loop a.tmps ps.toList c.ras c.rbd .ready none] = h2)
    (ht : TS P base (n + 2) ci a2 h2 (NX P base (n + 2) [] (RgP P base L fn n a Φ))) : TS0 P base L c a h Φ := by
  subst hn hh
  generalize c.ras = as at hc ht
  generalize c.rbd = bd at hc ht
  subst hc
  refine TS0.range hg hfn hci hname (TS.weak (Wk.tm keep) ?_)
  rw [hs]
  exact ht

theorem PureSim.of_FinM {P : Program} {g : FuncId} {args : List Value} {h : List Blk} {v : Value} {new : List Blk} {fn : Func} {c : Code} (hfn : P.funcs[g]? = some fn) (hc : fn.body = some c)
    (hname : (fn.name == "runtime.NumGoroutine") = false) (L : Nat) (hL : h.length = L) (keep keepH : List Nat) {a2 : CAct} {h2 : List Blk}
    (hs : mk2 keep keepH ({ tmps := args ++ List.replicate (fn.ntmps - args.length) undef }, h) = (a2, h2)) (ht : TS0 P L L c a2 h2 (NX0 P L L [] (FinM P fn L v new))) : PureSim P g args h v new := by
  subst hL
  exact PureSim.of_TS0 hfn hc hname (TS0.startM keep keepH hs ht)
end
end Go.Cl
/- Parts of lists, and lists that are appended to lists. -/
set_option linter.unusedVariables false
namespace Go.Cl
open Go Go.RowKit

/-- A list of the function's own, with a block of its own even if nothing is in it. -/
def ownV (b n : Nat) : Value := .slice (some ⟨b, 0, none⟩) n UNK

section
variable {α : Type} {enc : α → List Value} {s : Nat} {L ys : List α} {off k : Nat}

/-- ys is what lies at off in a block that holds L (s cells for each element). -/
def winAt (off s : Nat) (L ys : List α) : Prop := ys = [] ∨ ∃ st, off = st * s ∧ ys = (L.drop st).take ys.length ∧ st + ys.length ≤ L.length

theorem win_all : winAt 0 s L L := .inr ⟨0, by simp, by simp, by simp⟩
theorem win_take (h : winAt off s L ys) (k : Nat) : winAt off s L (ys.take k) := by
  rcases h with rfl | ⟨st, h1, h2, h3⟩
  · exact .inl (by simp)
  · have e : ys.take k = (L.drop st).take (min k ys.length) := by
      conv => lhs; rw [h2]
      rw [List.take_take]
    refine .inr ⟨st, h1, ?_, by simp only [List.length_take]; omega⟩
    rw [e]
    congr 1
    simp only [List.length_take, List.length_drop]
    omega
theorem win_drop (h : winAt off s L ys) (k : Nat) : winAt (off + k * s) s L (ys.drop k) := by
  rcases h with rfl | ⟨st, h1, h2, h3⟩
  · exact .inl (by simp)
  · by_cases hk : ys.length ≤ k
    · exact .inl (List.drop_eq_nil_of_le hk)
    · have e : ys.drop k = (L.drop (st + k)).take (ys.length - k) := by
        conv => lhs; rw [h2]
        rw [List.drop_take, List.drop_drop]
      refine .inr ⟨st + k, by rw [h1, Nat.add_mul], ?_, by simp only [List.length_drop]; omega⟩
      rw [e]
      congr 1
      simp only [List.length_take, List.length_drop]
      omega
theorem win_dropif (h : winAt off s L ys) (k : Nat) : winAt (if ys.length = k then off else off + k * s) s L (ys.drop k) := by
  split
  · exact .inl (List.drop_eq_nil_of_le (by omega))
  · exact win_drop h k

/-- A block that holds a list: what is written out, or what appends have made. -/
def Holds (hp : List Blk) (b : Nat) (T : TypeId) (enc : α → List Value) (L : List α) : Prop := L = [] ∨ hp[b]? = some (.cells T (L.flatMap enc))
theorem holds_lst {hp : List Blk} {b : Nat} {T : TypeId} (h : hp[b]? = some (.cells T (L.flatMap enc))) : Holds hp b T enc L := .inr h
theorem holds_acc {hp : List Blk} {b : Nat} {T : TypeId} (h : hp[b]? = some (accB T L.length (L.flatMap enc))) : Holds hp b T enc L := by
  by_cases h0 : L.length = 0
  · exact .inl (List.length_eq_zero_iff.1 h0)
  · rw [accB, if_neg h0] at h; exact .inr h

variable {hp : List Blk} {b : Nat} {T : TypeId} {P : Program} {x : Option QRes}
theorem win_cells (hw : winAt off s L ys) (hb : Holds hp b T enc L) (hy : ¬ ys.length = 0) : ∃ st, off = st * s ∧ ys = (L.drop st).take ys.length ∧ st + ys.length ≤ L.length ∧ hp[b]? = some (.cells T (L.flatMap enc)) := by
  rcases hw with rfl | ⟨st, h1, h2, h3⟩
  · exact absurd rfl hy
  · refine ⟨st, h1, h2, h3, hb.resolve_left fun h => ?_⟩
    subst h
    simp only [List.length_nil] at h3
    omega

/-- What is read for an append. -/
theorem arg_win {bytes : Nat} {zr : Value} {d : Option TypeDesc} {e : TypeId} {c : Nat} (hw : winAt off s L ys) (hb : Holds hp b T enc L) (hl : ∀ y, (enc y).length = s) (hd : d = some (.slice e)) :
    appArg hp s bytes zr d (.slice (some ⟨b, off, none⟩) ys.length c) = some (ys.length, ys.flatMap enc) := by
  by_cases hy : ys.length = 0
  · have : ys = [] := List.length_eq_zero_iff.1 hy
    subst this
    subst hd
    simp [appArg, readCells]
  · obtain ⟨st, h1, h2, h3, h4⟩ := win_cells hw hb hy
    have := appArg_win (bytes := bytes) (zr := zr) (c := c) hd h4 hl h1 h3
    rw [this, ← h2]
theorem arg_acc {bytes : Nat} {zr : Value} {d : Option TypeDesc} {e : TypeId} (hb : Holds hp b T enc L) (hl : ∀ y, (enc y).length = s) (hd : d = some (.slice e)) :
    appArg hp s bytes zr d (accV b L.length) = some (L.length, L.flatMap enc) := by
  rw [accV_eq]
  split
  · rename_i h
    have : L = [] := List.length_eq_zero_iff.1 h
    subst this
    subst hd
    simp [appArg, readCells]
  · exact arg_win win_all hb hl hd

/-- Cells of an element of a part. -/
theorem win_elem (hw : winAt off s L ys) (hb : Holds hp b T enc L) {i : Nat} (hi : i < ys.length) (d : α) : ∃ j, off + i * s = j * s ∧ j < L.length ∧ L.getD j d = ys.getD i d ∧ hp[b]? = some (.cells T (L.flatMap enc)) := by
  obtain ⟨st, h1, h2, h3, h4⟩ := win_cells hw hb (by omega)
  refine ⟨st + i, by rw [h1, Nat.add_mul], by omega, ?_, h4⟩
  rw [h2]
  simp only [List.getD_eq_getElem?_getD, List.getElem?_take, List.getElem?_drop, if_pos hi]
theorem q_ldAW {t : TypeId} {o i : Nat} (hw : winAt off s L ys) (hb : Holds hp b T enc L) (h : x = qv (cLoad P hp t (.pointer (some ⟨b, o, none⟩)))) (ha : aggT P t = some true) (hs : sizeT P t = some s) (hl : ∀ y, (enc y).length = s)
    (ho : o = off + i * s) (hi : i < ys.length) (d : α) : x = some { val := .agg ⟨enc (ys.getD i d)⟩ } := by
  obtain ⟨j, h1, h2, h3, h4⟩ := win_elem hw hb hi d
  rw [← h3]
  exact q_ldA h h4 ha hs hl (ho.trans h1) h2 d
theorem q_ld1W {t : TypeId} {o i k : Nat} (hw : winAt off s L ys) (hb : Holds hp b T enc L) (h : x = qv (cLoad P hp t (.pointer (some ⟨b, o, none⟩)))) (ha : aggT P t = some false) (hl : ∀ y, (enc y).length = s)
    (ho : o = off + i * s + k) (hk : k < s) (hi : i < ys.length) (d : α) : x = some { val := (enc (ys.getD i d)).getD k undef } := by
  obtain ⟨j, h1, h2, h3, h4⟩ := win_elem hw hb hi d
  rw [← h3]
  exact q_ld1 h h4 ha hl (by rw [ho, h1]) hk h2 d

/-- A part as an argument. -/
theorem At.win {f : Nat → Nat × Nat} {n i : Nat} (hf : f i = (b, off)) (hw : winAt off s L ys) (hb : Holds hp b T enc L) (hl : ∀ y, (enc y).length = s) (hq : ∀ y, (enc y).all isFlat = true) :
    At true f n hp i (accB T ys.length (ys.flatMap enc)) := by
  by_cases hy : ys.length = 0
  · exact .inl (by rw [accB, if_pos hy])
  · obtain ⟨st, h1, h2, h3, h4⟩ := win_cells hw hb hy
    refine .inr ⟨_, by rw [hf]; exact h4, ?_⟩
    rw [accB, if_neg hy, hf]
    refine .cells T _ _ off ?_
    have : ((L.flatMap enc).drop off).take (ys.flatMap enc).length = ys.flatMap enc := by
      rw [flatMap_len hl, h1, win_read hl, ← h2]
    rw [this]
    refine LRn.flat fun v hv => ?_
    obtain ⟨y, _, hy⟩ := List.mem_flatMap.1 hv
    exact List.all_eq_true.1 (hq y) v hy
end

section
variable {P : Program} {x : Option QRes} {t e : TypeId} {s b off n : Nat} {k k' : IntKind} {y z : Int} {α : Type} {ys : List α}
/-- Parts of a slice that is only read. -/
theorem q_slAlo (h : x = qv (cSlice P t (.slice (some ⟨b, off, none⟩) ys.length ANY) (some (.int k y)) none none)) (he : P.underlying t = some (.slice e)) (hs : sizeT P e = some s) (hy : 0 ≤ y ∧ y ≤ (ys.length : Int)) :
    x = some { val := .slice (some ⟨b, off + Int.toNat y * s, none⟩) (ys.drop (Int.toNat y)).length ANY } := by
  rw [q_slA h he hs (cb_lo hy), List.length_drop]
theorem q_slAhi (h : x = qv (cSlice P t (.slice (some ⟨b, off, none⟩) ys.length ANY) none (some (.int k y)) none)) (he : P.underlying t = some (.slice e)) (hs : sizeT P e = some s) (hy : 0 ≤ y ∧ y ≤ (ys.length : Int)) :
    x = some { val := .slice (some ⟨b, off, none⟩) (ys.take (Int.toNat y)).length ANY } := by
  rw [q_slA h he hs (cb_hi hy), List.length_take]
  simp only [Nat.zero_mul, Nat.add_zero, Nat.sub_zero]
  rw [Nat.min_eq_left (by omega)]
theorem q_slAmid (h : x = qv (cSlice P t (.slice (some ⟨b, off, none⟩) ys.length ANY) (some (.int k y)) (some (.int k z)) none)) (he : P.underlying t = some (.slice e)) (hs : sizeT P e = some s) (hy : 0 ≤ y ∧ y ≤ z) (hz : z ≤ (ys.length : Int)) :
    x = some { val := .slice (some ⟨b, off + Int.toNat y * s, none⟩) ((ys.take (Int.toNat z)).drop (Int.toNat y)).length ANY } := by
  rw [q_slA h he hs (cb_both hy hz), List.length_drop, List.length_take]
  rw [Nat.min_eq_left (by omega)]
/-- Parts of a slice whose capacity is its length. -/
theorem q_slKhi (h : x = qv (cSlice P t (.slice (some ⟨b, off, none⟩) ys.length ys.length) none (some (.int k y)) none)) (he : P.underlying t = some (.slice e)) (hs : sizeT P e = some s) (hn : ys.length ≤ INF) (hy : 0 ≤ y ∧ y ≤ (ys.length : Int)) :
    x = some { val := .slice (some ⟨b, off, none⟩) (ys.take (Int.toNat y)).length ys.length } := by
  rw [h]
  simp only [cSlice, he, hs]
  rw [if_pos hn, cb_hi hy]
  simp only [Option.map_some, add_eq, Nat.zero_mul, Nat.add_zero, Nat.sub_zero, ite_self, List.length_take]
  rw [Nat.min_eq_left (by omega)]
  rfl
theorem q_slKlo (h : x = qv (cSlice P t (.slice (some ⟨b, off, none⟩) ys.length ys.length) (some (.int k y)) none none)) (he : P.underlying t = some (.slice e)) (hs : sizeT P e = some s) (hn : ys.length ≤ INF) (hy : 0 ≤ y ∧ y ≤ (ys.length : Int)) :
    x = some { val := .slice (some ⟨b, if ys.length = Int.toNat y then off else off + Int.toNat y * s, none⟩) (ys.drop (Int.toNat y)).length (ys.length - Int.toNat y) } := by
  rw [h]
  simp only [cSlice, he, hs]
  rw [if_pos hn, cb_lo hy]
  simp only [Option.map_some, add_eq, List.length_drop]
  split
  · simp [qv]
  · simp [qv]
end

section
variable {P : Program} {base n m s b off : Nat} {x : Option QRes} {hp : List Blk} {α : Type} {enc : α → List Value} {L l ys : List α} {ts : Array TypeId} {e t : TypeId} {bytes : Nat} {z y : Value}
/-- A list is appended to an empty list of the function's own. -/
theorem q_appL (h : x = cAppend P base hp n ts (.slice (some ⟨b, 0, none⟩) 0 0) y) (hb : hp[b]? = some (.cells t [])) (hbase : base ≤ b) (ht : sizeT P t = some s) (he : (ts[0]?).bind P.underlying = some (.slice e)) (hs : sizeT P e = some s)
    (hby : bytesT P e = some bytes) (hz : zeroT P e = some z) (hzf : (flat1 z && (z.cells.size == s) && decide (0 < s)) = true) (harg : appArg hp s bytes z ((ts[1]?).bind P.underlying) y = some (ys.length, ys.flatMap enc))
    (hbig : ¬ (2 * ys.length + 1000) * (bytes + 1) > 2 ^ 48) : x = some { val := ownV n ys.length, new := [.cells e (ys.flatMap enc)], upd := some (b, .dead) } := by
  simp only [Bool.and_eq_true, beq_iff_eq, decide_eq_true_eq] at hzf
  rw [h]
  simp only [cAppend, he, hs, hby, hz]
  rw [if_pos ⟨hzf.1.1, hzf.1.2, hzf.2⟩]
  simp only [harg]
  have : litK P base hp s (some ⟨b, 0, none⟩) 0 0 = some b := by
    simp only [litK, and_self, if_true, hb]
    rw [if_pos ⟨hbase, ht⟩]
  rw [this]
  dsimp only
  rw [if_neg hbig]
  rfl
/-- A list is appended to a part of a list of the function's own. -/
theorem q_appW {st : Nat} (h : x = cAppend P base hp n ts (.slice (some ⟨b, off, none⟩) l.length (UNK - st)) y) (ho : off = st * s) (hst : st ≤ 1000000000) (hl2 : l = (L.drop st).take l.length) (hl3 : st + l.length ≤ L.length)
    (hb : hp[b]? = some (.cells e (L.flatMap enc))) (hbase : base ≤ b) (he : (ts[0]?).bind P.underlying = some (.slice e)) (hs : sizeT P e = some s)
    (hby : bytesT P e = some bytes) (hz : zeroT P e = some z) (hzf : (flat1 z && (z.cells.size == s) && decide (0 < s)) = true) (harg : appArg hp s bytes z ((ts[1]?).bind P.underlying) y = some (ys.length, ys.flatMap enc))
    (hok : (ys.flatMap enc).all cellOk = true) (hl : ∀ y, (enc y).length = s) (hbig : ¬ (2 * (l.length + ys.length) + 1000) * (bytes + 1) > 2 ^ 48) :
    x = some { val := ownV n (l ++ ys).length, new := [.cells e ((l ++ ys).flatMap enc)], upd := some (b, .dead) } := by
  simp only [Bool.and_eq_true, beq_iff_eq, decide_eq_true_eq] at hzf
  rw [h]
  simp only [cAppend, he, hs, hby, hz]
  rw [if_pos ⟨hzf.1.1, hzf.1.2, hzf.2⟩]
  simp only [harg]
  rw [litK_unk (by simp only [UNK]; omega)]
  dsimp only
  rw [if_neg (by simp only [UNK, INF]; omega), if_neg (by simp only [UNK, INF]; omega), if_neg hbig, if_neg (by simp only [UNK, INF]; omega)]
  simp only [appOn, hb]
  have hlen := flatMap_len (l := L) hl
  rw [if_pos ⟨hbase, hs, by rw [ho]; congr 1; simp only [UNK]; omega, by omega, by rw [ho, hlen, ← Nat.add_mul]; exact Nat.mul_le_mul_right _ hl3, hok⟩, ho, win_read hl, ← hl2, List.flatMap_append, List.length_append]
  rfl
theorem q_appO (h : x = cAppend P base hp n ts (ownV b l.length) y)
    (hb : hp[b]? = some (.cells e (l.flatMap enc))) (hbase : base ≤ b) (he : (ts[0]?).bind P.underlying = some (.slice e)) (hs : sizeT P e = some s)
    (hby : bytesT P e = some bytes) (hz : zeroT P e = some z) (hzf : (flat1 z && (z.cells.size == s) && decide (0 < s)) = true) (harg : appArg hp s bytes z ((ts[1]?).bind P.underlying) y = some (ys.length, ys.flatMap enc))
    (hok : (ys.flatMap enc).all cellOk = true) (hl : ∀ y, (enc y).length = s) (hbig : ¬ (2 * (l.length + ys.length) + 1000) * (bytes + 1) > 2 ^ 48) :
    x = some { val := ownV n (l ++ ys).length, new := [.cells e ((l ++ ys).flatMap enc)], upd := some (b, .dead) } :=
  q_appW (st := 0) (off := 0) (L := l) h (by simp) (by omega) (by simp) (by simp) hb hbase he hs hby hz hzf harg hok hl hbig
theorem cells_ok (hq : ∀ y, (enc y).all cellOk = true) : (ys.flatMap enc).all cellOk = true := by
  refine List.all_eq_true.2 fun v hv => ?_
  obtain ⟨y, _, hy⟩ := List.mem_flatMap.1 hv
  exact List.all_eq_true.1 (hq y) v hy
end

section
variable {p : Bool} {f : Nat → Nat × Nat} {n i i' c c' : Nat}
theorem Rn.own (hi : i < n) (hf : f i = (i', 0)) (hc : c = c') : Rn p f n (ownV i c) (ownV i' c') := by
  subst hc
  have := Rn.slice0 (p := p) (f := f) (n := n) i 0 c UNK hi (by rw [hf])
  rw [hf] at this
  exact this
theorem Rn.ownU (hi : i < n) (hf : f i = (i', 0)) (hc : c = c') : Rn p f n (ownV i c) (.slice (some ⟨i', 0, none⟩) c' UNK) := Rn.own hi hf hc
theorem Rn.ownA (hi : i < n) (hf : f i = (i', 0)) (hc : c = c') : Rn true f n (.slice (some ⟨i, 0, none⟩) c ANY) (ownV i' c') := by
  subst hc
  have := Rn.any (p := true) (f := f) (n := n) i 0 0 c UNK ANY hi (by rw [hf]) rfl (by decide)
  rw [hf] at this
  exact this
theorem Rn.win {off : Nat} (hi : i < n) (hf : f i = (i', off)) (hc : c = c') {C : Nat} : Rn true f n (.slice (some ⟨i, 0, none⟩) c ANY) (.slice (some ⟨i', off, none⟩) c' C) := by
  subst hc
  have := Rn.any (p := true) (f := f) (n := n) i 0 off c C ANY hi (by rw [hf]; rfl) rfl (by decide)
  rw [hf] at this
  exact this
end
end Go.Cl
namespace Go.Cl
section
variable {p : Bool} {f : Nat → Nat × Nat} {n i i' c c' : Nat}
theorem Rn.anyS (hi : i < n) (hf : f i = (i', 0)) (hc : c = c') : Rn p f n (.slice (some ⟨i, 0, none⟩) c ANY) (.slice (some ⟨i', 0, none⟩) c' ANY) := by
  subst hc
  have := Rn.slice0 (p := p) (f := f) (n := n) i 0 c ANY hi (by rw [hf])
  rw [hf] at this
  exact this
end
end Go.Cl
/- Loops over maps, whatever the order. -/
set_option linter.unusedVariables false
namespace Go.Cl
open Go Go.RowKit
section
variable {α β γ : Type} {kv : α → Value} {vv : β → Value} {arr : Array MapEntry} {clock : Nat} {seen : Array Nat} {es : List (α × β)}

/-- The entries that are left. -/
def Ents (kv : α → Value) (vv : β → Value) (arr : Array MapEntry) (seen : Array Nat) (es : List (α × β)) : Prop :=
  (leftOf arr seen).toList.map (fun e => (e.key, e.val)) = es.map (mEnc kv vv)

theorem ents_all (h : arr.toList.map (fun e => (e.key, e.val)) = es.map (mEnc kv vv)) : Ents kv vv arr #[] es := by
  unfold Ents; rw [left_all]; exact h
theorem ents_none (h : Ents kv vv arr seen es) (h0 : (leftOf arr seen).size = 0) : es = [] := by
  unfold Ents at h
  have : (leftOf arr seen).toList = [] := List.length_eq_zero_iff.1 (by rw [Array.length_toList]; exact h0)
  rw [this] at h
  exact List.map_eq_nil_iff.1 h.symm

theorem take_one {e : MapEntry} : ∀ {l : List MapEntry} {es : List (α × β)}, (l.map (·.born)).Nodup → e ∈ l → l.map (fun e => (e.key, e.val)) = es.map (mEnc kv vv) →
    ∃ q es2, e.key = kv q.1 ∧ e.val = vv q.2 ∧ es.Perm (q :: es2) ∧ (l.filter (fun x => x.born != e.born)).map (fun e => (e.key, e.val)) = es2.map (mEnc kv vv)
  | [], es, _, he, _ => by cases he
  | x :: l, [], _, _, h => by simp at h
  | x :: l, y :: es, hn, he, h => by
    simp only [List.map_cons, List.nodup_cons] at hn
    simp only [List.map_cons, List.cons.injEq] at h
    obtain ⟨h1, h2⟩ := h
    by_cases hx : x.born = e.born
    · have hxe : x = e := by
        rcases List.mem_cons.1 he with rfl | h'
        · rfl
        · exact absurd (List.mem_map.2 ⟨e, h', hx.symm⟩) hn.1
      subst hxe
      refine ⟨y, es, congrArg Prod.fst h1, congrArg Prod.snd h1, List.Perm.refl _, ?_⟩
      rw [List.filter_cons_of_neg (by simp), List.filter_eq_self.2 (fun z hz => ?_)]
      · exact h2
      · simp only [bne_iff_ne, ne_eq]
        intro hb
        exact hn.1 (List.mem_map.2 ⟨z, hz, hb⟩)
    · have h' : e ∈ l := by
        rcases List.mem_cons.1 he with rfl | h'
        · exact absurd rfl hx
        · exact h'
      obtain ⟨q, es2, g1, g2, g3, g4⟩ := take_one hn.2 h' h2
      refine ⟨q, y :: es2, g1, g2, (List.Perm.cons y g3).trans (List.Perm.swap q y es2), ?_⟩
      rw [List.filter_cons_of_pos (by simpa using hx), List.map_cons, g4, List.map_cons, h1]

theorem ents_take (h : Ents kv vv arr seen es) (hst : Stamped arr clock) {e : MapEntry} (he : e ∈ (leftOf arr seen).toList) :
    ∃ q es2, e.key = kv q.1 ∧ e.val = vv q.2 ∧ es.Perm (q :: es2) ∧ Ents kv vv arr (seen.push e.born) es2 := by
  have hn : ((leftOf arr seen).toList.map (·.born)).Nodup := by
    unfold leftOf
    rw [Array.toList_filter]
    exact List.Sublist.nodup (List.Sublist.map _ List.filter_sublist) hst.2
  obtain ⟨q, es2, g1, g2, g3, g4⟩ := take_one hn he h
  refine ⟨q, es2, g1, g2, g3, ?_⟩
  unfold Ents
  rw [← g4]
  congr 1
  unfold leftOf
  rw [Array.toList_filter, Array.toList_filter, List.filter_filter]
  apply List.filter_congr
  intro x hx
  rw [Array.contains_push]
  cases (seen.contains x.born) <;> simp [bne, Bool.beq_comm]

open Classical in
/-- What comes out of all orders of a list, if it is the same. -/
noncomputable def permAll (f : List γ → Option α) (l : List γ) : Option α := if ∀ es, List.Perm es l → f es = f l then f l else none
theorem permAll_some {f : List γ → Option α} {l : List γ} {r : α} (h : permAll f l = some r) : ∀ es, List.Perm es l → f es = some r := by
  unfold permAll at h
  split at h
  · rename_i hp; intro es he; rw [hp es he, h]
  · cases h
theorem permAll_of {f : List γ → Option α} {l : List γ} {r : α} (h : ∀ es, List.Perm es l → f es = some r) : permAll f l = some r := by
  unfold permAll
  rw [if_pos (fun es he => by rw [h es he, h l (List.Perm.refl _)])]
  exact h l (List.Perm.refl _)
/-- A round, and what is left: go on, or leave. -/
def mapNext (f : α → List γ → Option β) (es : List γ) (w : α ⊕ β) : Option β := match w with | .inl z => f z es | .inr r => some r
theorem perm_next {f : List γ → Option β} {es es2 : List γ} {q : γ} {r : β} (h : ∀ es', List.Perm es' es → f es' = some r) (hp : List.Perm es (q :: es2)) : ∀ es', List.Perm es' es2 → f (q :: es') = some r :=
  fun es' he => h _ ((List.Perm.cons q he).trans hp.symm)
end
end Go.Cl
/- Lists that are appended to what appends have made, or to nothing. -/
set_option linter.unusedVariables false
namespace Go.Cl
open Go Go.RowKit
theorem toF_dead (h : List Blk) : toF (h ++ [.dead]) = toF h := by
  funext i
  unfold toF
  simp only [List.getD_eq_getElem?_getD, List.getElem?_append]
  split
  · rfl
  · rename_i hi
    rw [List.getElem?_eq_none (l := h) (by omega)]
    cases hj : i - h.length with
    | zero => rfl
    | succ j => simp
/-- One more block of which nothing is known. -/
theorem Wk.more {P : Program} {base L : Nat} {a : CAct} {h : List Blk} : Wk P base L a h a (h ++ [.dead]) := by
  rintro N D0 β0 κ0 a' w ⟨D, β, κ, hf⟩
  exact ⟨D, β, κ, ⟨fun i hi => by rw [List.length_append]; exact Nat.lt_of_lt_of_le (hf.dom i hi) (Nat.le_add_right _ _), by rw [List.length_append]; exact Nat.le_trans hf.bl (Nat.le_add_right _ _), by rw [List.length_append]; exact Nat.le_trans hf.ll (Nat.le_add_right _ _), by rw [toF_dead]; exact hf.rel, hf.act, hf.ext⟩⟩

section
variable {P : Program} {base L : Nat} {ops : Array Oper} {j : Nat} {a a2 : CAct} {h h2 : List Blk} {Ψ : CAct → List Blk → Prop} {α : Type} {enc : α → List Value} {l ys : List α} {b s : Nat} {ts : Array TypeId} {e : TypeId} {bytes : Nat} {z y : Value}
/-- A list is appended to nil. -/
theorem TI.accN (h0 : qAt P base ops j a h = cAppend P base h h.length ts (.slice none 0 0) y)
    (he : (ts[0]?).bind P.underlying = some (.slice e)) (hs : sizeT P e = some s) (hby : bytesT P e = some bytes) (hz : zeroT P e = some z)
    (hzf : (flat1 z && (z.cells.size == s) && decide (0 < s)) = true) (harg : appArg h s bytes z ((ts[1]?).bind P.underlying) y = some (ys.length, ys.flatMap enc))
    (hbig : ¬ (2 * ys.length + 1000) * (bytes + 1) > 2 ^ 48)
    (keep keepH : List Nat) (hst : mk2 keep keepH (putAt ops j a (accV h.length ys.length), h ++ [accB e ys.length (ys.flatMap enc)]) = (a2, h2))
    (ht : TI P base L ops (j + 1) a2 h2 Ψ) : TI P base L ops j a h Ψ := by
  by_cases hy : ys.length = 0
  · have hyn : ys = [] := List.length_eq_zero_iff.1 hy
    subst hyn
    have hq : qAt P base ops j a h = some { val := .slice none 0 0 } := by
      rw [h0]
      simp only [Bool.and_eq_true, beq_iff_eq, decide_eq_true_eq] at hzf
      simp only [cAppend, he, hs, hby, hz]
      rw [if_pos ⟨hzf.1.1, hzf.1.2, hzf.2⟩]
      simp only [harg]
      rw [litK_nil]
      dsimp only
      rw [if_pos ⟨rfl, Nat.zero_le _⟩]
    refine TI.one hq rfl rfl (TI.weak Wk.more (TI.weak (Wk.mask keep keepH) ?_))
    have e1 : maskA keep (putAt ops j a (.slice none 0 0)) = a2 := congrArg Prod.fst hst
    have e2 : maskH keepH 0 (h ++ [.dead]) = h2 := congrArg Prod.snd hst
    have e3 : ({ val := .slice none 0 0 } : QRes).heap h = h := by simp [QRes.heap]
    rw [e3]
    show TI P base L ops (j + 1) (maskA keep (putAt ops j a (.slice none 0 0))) _ Ψ
    rw [e1, e2]
    exact ht
  · have hq := q_appN (x := qAt P base ops j a h) (enc := enc) (ys := ys) h0 he hs hby hz hzf harg (by simpa using hy) rfl rfl (by simpa using hbig)
    refine TI.op hq keep keepH ?_ ht
    rw [accV_pos hy, accB, if_neg hy] at hst
    simpa [QRes.heap] using hst
/-- A list is appended to what appends have made, or to nil. -/
theorem TI.accL (h0 : qAt P base ops j a h = cAppend P base h h.length ts (accV b l.length) y)
    (hb : h[b]? = some (accB e l.length (l.flatMap enc))) (hbase : base ≤ b) (he : (ts[0]?).bind P.underlying = some (.slice e)) (hs : sizeT P e = some s) (hby : bytesT P e = some bytes) (hz : zeroT P e = some z)
    (hzf : (flat1 z && (z.cells.size == s) && decide (0 < s)) = true) (harg : appArg h s bytes z ((ts[1]?).bind P.underlying) y = some (ys.length, ys.flatMap enc)) (hok : (ys.flatMap enc).all cellOk = true)
    (hl : ∀ y, (enc y).length = s) (hbig : ¬ (2 * (l.length + ys.length) + 1000) * (bytes + 1) > 2 ^ 48)
    (keep keepH : List Nat) (hst : mk2 keep keepH (putAt ops j a (accV h.length (l ++ ys).length), h.set b .dead ++ [accB e (l ++ ys).length ((l ++ ys).flatMap enc)]) = (a2, h2))
    (ht : TI P base L ops (j + 1) a2 h2 Ψ) : TI P base L ops j a h Ψ := by
  by_cases hl0 : l.length = 0
  · have hln : l = [] := List.length_eq_zero_iff.1 hl0
    subst hln
    have hb' : h[b]? = some .dead := by simpa [accB] using hb
    rw [set_dead hb'] at hst
    exact TI.accN (by simpa [accV] using h0) he hs hby hz hzf harg (by simpa using hbig) keep keepH (by simpa using hst) ht
  · have hn : ¬ (l ++ ys).length = 0 := by rw [List.length_append]; omega
    have hq := q_appO (x := qAt P base ops j a h) (enc := enc) (l := l) (ys := ys) (b := b) (by rw [h0, accV_pos hl0]; rfl) (by rw [hb, accB, if_neg hl0]) hbase he hs hby hz hzf harg hok hl hbig
    rw [accV_pos hn, accB, if_neg hn] at hst
    exact TI.op hq keep keepH (by simpa [QRes.heap, ownV] using hst) ht
end

section
variable {P : Program} {base n s b off : Nat} {x : Option QRes} {hp : List Blk} {α : Type} {enc : α → List Value} {L l ys : List α} {ts : Array TypeId} {e t : TypeId} {bytes : Nat} {z y : Value} {k : IntKind} {v w : Int}
/-- A list is appended to a first part of a list of the function's own. -/
theorem q_appP (hw : winAt 0 s L l) (h : x = cAppend P base hp n ts (.slice (some ⟨b, 0, none⟩) l.length UNK) y)
    (hb : hp[b]? = some (.cells e (L.flatMap enc))) (hbase : base ≤ b) (he : (ts[0]?).bind P.underlying = some (.slice e)) (hs : sizeT P e = some s)
    (hby : bytesT P e = some bytes) (hz : zeroT P e = some z) (hzf : (flat1 z && (z.cells.size == s) && decide (0 < s)) = true) (harg : appArg hp s bytes z ((ts[1]?).bind P.underlying) y = some (ys.length, ys.flatMap enc))
    (hok : (ys.flatMap enc).all cellOk = true) (hl : ∀ y, (enc y).length = s) (hbig : ¬ (2 * (l.length + ys.length) + 1000) * (bytes + 1) > 2 ^ 48) :
    x = some { val := ownV n (l ++ ys).length, new := [.cells e ((l ++ ys).flatMap enc)], upd := some (b, .dead) } := by
  have hs0 : 0 < s := by
    simp only [Bool.and_eq_true, beq_iff_eq, decide_eq_true_eq] at hzf
    exact hzf.2
  have : l = (L.drop 0).take l.length ∧ 0 + l.length ≤ L.length := by
    rcases hw with rfl | ⟨st, h1, h2, h3⟩
    · simp
    · have : st = 0 := by
        rcases Nat.mul_eq_zero.1 h1.symm with h | h
        · exact h
        · omega
      subst this
      exact ⟨h2, h3⟩
  exact q_appW (st := 0) h (by simp) (by omega) this.1 this.2 hb hbase he hs hby hz hzf harg hok hl hbig
/-- Zeros are appended to nil. -/
theorem q_appZ (d : α) (h : x = cAppend P base hp n ts (.slice none 0 0) (.int .i64 v)) (he : (ts[0]?).bind P.underlying = some (.slice e)) (he2 : (ts[1]?).bind P.underlying = some (.int .i64)) (hs : sizeT P e = some s)
    (hby : bytesT P e = some bytes) (hz : zeroT P e = some z) (hzf : (flat1 z && (z.cells.size == s) && decide (0 < s)) = true) (hd : z.cells.toList = enc d) (hv : 0 < v) (hv2 : v ≤ 1000000000) (hbb : bytes ≤ 1000) :
    x = some { val := .slice (some ⟨n, 0, none⟩) (List.replicate (Int.toNat v) d).length UNK, new := [.cells e ((List.replicate (Int.toNat v) d).flatMap enc)] } := by
  have hm : ((List.replicate (Int.toNat v) d).length == 0) = false := by simp; omega
  have hbig : (bytes + 1) * (2 * (0 + (List.replicate (Int.toNat v) d).length) + 1000) ≤ 1001 * (2 * (0 + (List.replicate (Int.toNat v) d).length) + 1000) := Nat.mul_le_mul_right _ (by omega)
  refine q_appN (enc := enc) (ys := List.replicate (Int.toNat v) d) h he hs hby hz hzf ?_ hm rfl rfl ?_
  · have h1 : Int.toNat v * bytes ≤ 1000000000 * 1000 := Nat.mul_le_mul (by omega) hbb
    simp only [appArg, he2]
    have h2 : v * (bytes : Int) ≤ 2 ^ 48 := by
      have : v * (bytes : Int) = ((Int.toNat v * bytes : Nat) : Int) := by rw [Int.natCast_mul, Int.toNat_of_nonneg (by omega)]
      rw [this]
      have : ((Int.toNat v * bytes : Nat) : Int) ≤ ((1000000000 * 1000 : Nat) : Int) := Int.ofNat_le.2 h1
      omega
    rw [if_pos ⟨by omega, by simp only [INF]; omega, h2⟩, List.length_replicate, hd]
    congr 2
    rw [List.flatMap_replicate]
  · rw [Nat.mul_comm]
    rw [List.length_replicate] at *
    omega
/-- The first part of a list that an append has made. -/
theorem q_slUhi (h : x = qv (cSlice P t (.slice (some ⟨b, off, none⟩) ys.length UNK) none (some (.int k v)) none)) (he : P.underlying t = some (.slice e)) (hs : sizeT P e = some s) (hy : 0 ≤ v ∧ v ≤ (ys.length : Int)) :
    x = some { val := .slice (some ⟨b, off, none⟩) (ys.take (Int.toNat v)).length UNK } := by
  rw [h]
  simp only [cSlice, he, hs]
  rw [if_neg (by decide), cb_hi hy]
  simp only [Option.map_some, add_eq, Nat.zero_mul, Nat.add_zero, Nat.sub_zero, List.length_take]
  rw [Nat.min_eq_left (by omega), if_neg (by decide)]
  rfl
end
end Go.Cl
namespace Go.Cl
theorem Wk.eq {P : Program} {base L : Nat} {a a2 : CAct} {h : List Blk} (e : a = a2) : Wk P base L a h a2 h := e ▸ Wk.refl
theorem Wk.eq2 {P : Program} {base L : Nat} {a a2 : CAct} {h h2 : List Blk} (e : a = a2) (eh : h = h2) : Wk P base L a h a2 h2 := by subst e eh; exact Wk.refl
theorem NX.nil {P : Program} {base L : Nat} {Φ : Post} {e : Exit} {a : CAct} {h : List Blk} (H : Φ e a h) : NX P base L [] Φ e a h := H
theorem accB_pos {t : TypeId} {n : Nat} {vs : List Value} (h : ¬ n = 0) : accB t n vs = .cells t vs := if_neg h
end Go.Cl
namespace Go.Cl
open Go.WideShapes in
/-- An argument that is a slice. -/
theorem open_sl {P : Program} {w : World} {r : Reach} {b0 : Nat} {t e : TypeId} {v : Value} {a : List Leaf} (hu : P.underlying t = some (.slice e)) (hval : Value.okWide P w r b0 t v) (h : lfits2 w [.list a] v.cells.toList) :
    ∃ rows, SlOk w rows v ∧ ∀ r ∈ rows, lfits a r := by
  obtain ⟨a0, len, cap, rfl⟩ := okWide_slice hu hval
  exact h.1
end Go.Cl
/- Short words for what printed texts say often. -/
set_option linter.unusedVariables false
namespace Go.Cl
abbrev sv (b n c : Nat) : Value := .slice (some ⟨b, 0, none⟩) n c
section
variable {p : Bool} {f : Nat → Nat × Nat} {n i o o' c len : Nat} {l l' : List Value} {v : Value} {h m : List Blk}
theorem LRn.fl (hl : LRn p f n l l') (h : isFlat v = true := by kernel_rfl) : LRn p f n (v :: l) (v :: l') := .cons (.flat h) hl
theorem LRn.pp (hl : LRn p f n l l') (hi : Nat.ble (i + 1) n = true := by rfl) (ho : o' = (f i).2 + o := by rfl) : LRn p f n (.pointer (some ⟨i, o, none⟩) :: l) (.pointer (some ⟨(f i).1, o', none⟩) :: l') := .cons (.ptr i o o' (Nat.le_of_ble_eq_true hi) ho) hl
theorem LRn.sl (hl : LRn p f n l l') (hi : Nat.ble (i + 1) n = true := by rfl) (h0 : (f i).2 = 0 := by rfl) : LRn p f n (.slice (some ⟨i, o, none⟩) len c :: l) (.slice (some ⟨(f i).1, o, none⟩) len c :: l') := .cons (.slice0 i o len c (Nat.le_of_ble_eq_true hi) h0) hl
theorem Ats.ac {α : Type} {t : TypeId} {enc : α → List Value} {q : List α} (hl : Ats p f n h (i + 1) m) (hb : h[(f i).1]? = some (accB t c (q.flatMap enc)) := by kernel_rfl) (h0 : (f i).2 = 0 := by rfl) (hf : ∀ y, (enc y).all isFlat = true := by exact fun _ => rfl) :
    Ats p f n h i (accB t c (q.flatMap enc) :: m) := .cons (At.acc hb h0 hf) hl
theorem Ats.lt {t : TypeId} (hr : LRn p f n l l') (hl : Ats p f n h (i + 1) m) (hb : h[(f i).1]? = some (.cells t l') := by kernel_rfl) (h0 : (f i).2 = 0 := by rfl) : Ats p f n h i (.cells t l :: m) :=
  .cons (At.blk hb (by rw [h0]; exact RnB.lit hr)) hl
end
abbrev ab {α : Type} (t : TypeId) (e : α → List Value) (l : List α) : Blk := accB t l.length (l.flatMap e)
abbrev mb {α β : Type} (k : TypeId) (kv : α → Value) (vv : β → Value) (l : List (α × β)) : Blk := .map k (l.map (mEnc kv vv))
theorem zip_fst_snd {l : List (Nat × Value)} : (l.map (·.1)).zip (l.map (·.2)) = l := by
  induction l with
  | nil => rfl
  | cons x l ih => simp [ih]
theorem Wk.an {P : Program} {base L m : Nat} {l : List (Nat × Value)} {a : CAct} {h h2 : List Blk} (f : List Nat) (hb : Ats true (fun i => (if i < L then i else f.getD (i - L) 0, 0)) h2.length h 0 h2) (avs : List Value)
    (hr : LRn true (fun i => (if i < L then i else f.getD (i - L) 0, 0)) h2.length (l.map (·.2)) avs) (hf : f.Nodup := by decide) (hge : ∀ i ∈ f, L ≤ i := by decide) (hL : Nat.ble base L = true := by rfl) (hl : h2.length = L + f.length := by rfl)
    (ha : (l.map (·.1)).map (fun i => a.tmps.getD i undef) = avs := by kernel_rfl) (hlen : a.tmps.length = m := by kernel_rfl) (hm : a.marks = [] := by rfl) : Wk P base L a h (Cl.st m l) h2 := by
  refine Wk.anew hf hge (Nat.le_of_ble_eq_true hL) hl hb ?_ hm rfl
  have := LRn.stx (m := m) (l' := a.tmps) (l.map (·.1)) (l.map (·.2)) avs hr ha hlen rfl
  rw [zip_fst_snd] at this
  exact this
end Go.Cl
namespace Go.Cl
section
variable {P : Program} {x : Option QRes} {hp : List Blk} {t T : TypeId} {b o o' i n s k : Nat} {vs : List Value} {α : Type} {enc : α → List Value} {ys : List α}
/-- An element of an array that lies in a block. -/
theorem q_ldC (h : x = qv (cLoad P hp t (.pointer (some ⟨b, o', none⟩)))) (hb : hp[b]? = some (.cells T vs)) (ha : aggT P t = some false) (hv : (vs.drop o).take n = ys.flatMap enc) (hl : ∀ y, (enc y).length = s)
    (ho : o' = o + i * s + k) (hk : k < s) (hi : i < ys.length) (hn : n = ys.length * s) (d : α) : x = some { val := (enc (ys.getD i d)).getD k undef } := by
  have h1 := flatMap_get (enc := enc) hl d hi hk
  rw [← hv, List.getElem?_take, List.getElem?_drop, if_pos ?_] at h1
  · rw [h, ho]
    simp only [cLoad, hb, ha]
    rw [Nat.add_assoc, h1]
    cases sizeT P t <;> rfl
  · rw [hn]
    have : (i + 1) * s ≤ ys.length * s := Nat.mul_le_mul_right _ hi
    rw [Nat.add_mul] at this
    omega
end
end Go.Cl
namespace Go.Cl
section
variable {x : Option QRes} {α β : Type} [DecidableEq α]
theorem q_n1 {α : Type} (P : Program) (hp : List Blk) (t b off : Nat) (l : List α) (enc : α → List Value) (s T i k : Nat) (d : α) {z : α} (hz : l.getD i d = z) (h : x = qv (cLoad P hp t (.pointer (some ⟨b, off, none⟩))) := by kernel_rfl)
    (hb : hp[b]? = some (.cells T (l.flatMap enc)) := by kernel_rfl) (ha : aggT P t = some false := by kernel_rfl) (hl : ∀ y, (enc y).length = s := by exact fun _ => rfl) (ho : off = i * s + k := by omega) (hk : k < s := by decide)
    (hi : i < l.length := by first | omega | (simp <;> omega)) : x = some { val := (enc z).getD k undef } := hz ▸ q_ld1 h hb ha hl ho hk hi d
theorem q_n1a {α : Type} (P : Program) (hp : List Blk) (t b off : Nat) (l : List α) (enc : α → List Value) (s T i k : Nat) (d : α) {z : α} (hz : l.getD i d = z) (h : x = qv (cLoad P hp t (.pointer (some ⟨b, off, none⟩))) := by kernel_rfl)
    (hb : hp[b]? = some (accB T l.length (l.flatMap enc)) := by kernel_rfl) (ha : aggT P t = some false := by kernel_rfl) (hl : ∀ y, (enc y).length = s := by exact fun _ => rfl) (ho : off = i * s + k := by omega) (hk : k < s := by decide)
    (hi : i < l.length := by first | omega | (simp <;> omega)) : x = some { val := (enc z).getD k undef } := hz ▸ q_ld1 h (accB_at hb hi) ha hl ho hk hi d
theorem q_nA {α : Type} (P : Program) (hp : List Blk) (t b off : Nat) (l : List α) (enc : α → List Value) (s T i : Nat) (d : α) {z : α} (hz : l.getD i d = z) (h : x = qv (cLoad P hp t (.pointer (some ⟨b, off, none⟩))) := by kernel_rfl)
    (hb : hp[b]? = some (.cells T (l.flatMap enc)) := by kernel_rfl) (ha : aggT P t = some true := by kernel_rfl) (hs : sizeT P t = some s := by kernel_rfl) (hl : ∀ y, (enc y).length = s := by exact fun _ => rfl) (ho : off = i * s := by omega)
    (hi : i < l.length := by first | omega | (simp <;> omega)) : x = some { val := .agg ⟨enc z⟩ } := hz ▸ q_ldA h hb ha hs hl ho hi d
theorem q_nAa {α : Type} (P : Program) (hp : List Blk) (t b off : Nat) (l : List α) (enc : α → List Value) (s T i : Nat) (d : α) {z : α} (hz : l.getD i d = z) (h : x = qv (cLoad P hp t (.pointer (some ⟨b, off, none⟩))) := by kernel_rfl)
    (hb : hp[b]? = some (accB T l.length (l.flatMap enc)) := by kernel_rfl) (ha : aggT P t = some true := by kernel_rfl) (hs : sizeT P t = some s := by kernel_rfl) (hl : ∀ y, (enc y).length = s := by exact fun _ => rfl) (ho : off = i * s := by omega)
    (hi : i < l.length := by first | omega | (simp <;> omega)) : x = some { val := .agg ⟨enc z⟩ } := hz ▸ q_ldA h (accB_at hb hi) ha hs hl ho hi d
theorem q_gN (P : Program) (hp : List Blk) (t r : Nat) (l : List (α × β)) (k : α) (kt et : Nat) (kv : α → Value) (vv : β → Value) (key : Value) (d : β) (hf : ∀ a, keyFits P kt (kv a) = true) (he : ∀ a b, eqKey (kv a) (kv b) = decide (a = b)) {z : β} (hz : (mget l k).getD d = z)
    (h : x = qv (cLookup P hp t (.map (some r)) key false) := by kernel_rfl) (hk : key = kv k := by rfl) (hb : hp[r]? = some (.map kt (l.map (mEnc kv vv))) := by kernel_rfl) (hu : P.underlying t = some (.map kt et) := by kernel_rfl) (hkt : keyT P kt = true := by kernel_rfl)
    (hzr : zeroT P et = some (vv d) := by kernel_rfl) (hzf : isFlat (vv d) = true := by kernel_rfl) : x = some { val := vv z } := hz ▸ q_get h hk hb hu hkt hf he d hzr hzf
theorem q_stP {α : Type} (P : Program) (base : Nat) (hp : List Blk) (t b off : Nat) (l : List α) (enc : α → List Value) (s T i k n : Nat) (y : Value) (xs : List Value) (d z : α) (hi : i < l.length) (h : x = cStore P base hp t (.pointer (some ⟨b, off, none⟩)) y := by kernel_rfl)
    (hb : hp[b]? = some (.cells T (l.flatMap enc)) := by kernel_rfl) (hbase : Nat.ble base b = true := by rfl) (hs : sizeT P t = some n := by kernel_rfl)
    (hy : ((y.cells.size == n) && okPart y) = true := by kernel_rfl) (hxs : y.cells.toList = xs := by rfl) (hok : (xs.all cellOk && !xs.isEmpty) = true := by kernel_rfl) (hl : ∀ y, (enc y).length = s := by exact fun _ => rfl) (ho : off = i * s + k := by omega) (hk : Nat.ble (k + xs.length) s = true := by rfl)
    (hz : enc z = (enc (l.getD i d)).take k ++ xs ++ (enc (l.getD i d)).drop (k + xs.length) := by rfl) : x = some { val := undef, upd := some (b, .cells T ((l.set i z).flatMap enc)) } :=
  q_st d z h hb (Nat.le_of_ble_eq_true hbase) hs hy hxs hok hl ho (Nat.le_of_ble_eq_true hk) hi hz
end
end Go.Cl
/- A slice that is only read, compared with nil. -/
set_option linter.unusedVariables false
namespace Go.Cl
open Go
section
variable {P : Program} {base L : Nat} {a : CAct} {h : List Blk} {ops : Array Oper} {rest : List Oper} {o : Oper} {Ψ : CAct → List Blk → Prop}
theorem vr_slice {D : Nat → Prop} {β : Nat → Nat × Nat} {κ : Nat → Nat} {x x' : Value} {ad : Addr} {l c : Nat} (h : VR D β κ x x') (hx : x = .slice (some ad) l c) : ∃ a1 c1, x' = .slice a1 l c1 ∧ (a1 = none → l = 0) := by
  subst hx
  cases h with
  | sliceZ i o a => exact ⟨_, _, rfl, fun _ => rfl⟩
  | slice i o l c hi hlc hc => exact ⟨_, _, rfl, fun e => by cases e⟩
  | sliceU i o l q hi hq hk => exact ⟨_, _, rfl, fun e => by cases e⟩
  | sliceE i o q a hq => exact ⟨_, _, rfl, fun _ => rfl⟩
  | sliceA i o l C c hi hC hlc hc => exact ⟨_, _, rfl, fun e => by cases e⟩
  | sliceAN i o C a hC => exact ⟨_, _, rfl, fun _ => rfl⟩
theorem vr_nil {D : Nat → Prop} {β : Nat → Nat × Nat} {κ : Nat → Nat} {x x' : Value} (h : VR D β κ x x') (hx : x = .slice none 0 0) : x' = .slice none 0 0 := by
  subst hx
  cases h with
  | snil => rfl
theorem eqSliceNil2 {t e : TypeId} {a : Option Addr} {l c n c2 : Nat} (hu : P.underlying t = some (.slice e)) (w : World) (d : Nat) : (Op.equalIn (d + 1) t (.slice a l c) (.slice none n c2)).run P w = .ok a.isNone w := by
  cases a <;> simp [Op.equalIn, run_underlying hu]
/-- Is a slice nil? Nobody knows, if it is empty. -/
theorem TO.cmpNil {t e z : TypeId} {x y : Operand} {ad : Addr} {l c : Nat} (hw : cWanted ops.toList a o = some true) (ho : o.op = .binOp .eql t x y z) (hx : a.eval x = .slice (some ad) l c) (hy : a.eval y = .slice none 0 0) (hu : P.underlying t = some (.slice e))
    (ht : ∀ b : Bool, (b = true → l = 0) → TO P base L ops rest (a.put o.dst (.bool b)) h Ψ) : TO P base L ops (o :: rest) a h Ψ := by
  rintro N D0 β0 κ0 R hR w0 w a' Q ⟨D, β, κ, hf⟩ hb hQ
  have hw' := wanted_sim hw hf.act
  simp only [wpListIn, hw', if_true]
  obtain ⟨a1, c1, e1, hz⟩ := vr_slice (hf.act.eval x) hx
  have e2 := vr_nil (hf.act.eval y) hy
  have hnd : ∀ c, o.op ≠ .defer c := fun c e => by rw [ho] at e; cases e
  refine wp_of_val (v := .bool a1.isNone) (w' := w) hnd ?_ ?_
  · simp only [execOp, ho, e1, e2, eqGuard, binOp]
    simp [Op.equal, Op.maxDepth, eqSliceNil2 hu w 9999]
  · exact ht _ (fun e => hz (by cases a1 with | none => rfl | some _ => cases e)) N D0 β0 κ0 R hR w0 w _ Q ⟨D, β, κ, hf.dom, hf.bl, hf.ll, hf.rel, hf.act.put o.dst (VR.bool _), hf.ext⟩ hb hQ
theorem TI.cmpNil {j : Nat} {t e z : TypeId} (x y : Operand) {ad : Addr} {l c : Nat} (hd : ops.toList.drop j = o :: ops.toList.drop (j + 1)) (hw : cWanted ops.toList a o = some true) (ho : o.op = .binOp .eql t x y z) (hx : a.eval x = .slice (some ad) l c) (hy : a.eval y = .slice none 0 0) (hu : P.underlying t = some (.slice e))
    (ht : ∀ b : Bool, (b = true → l = 0) → TI P base L ops (j + 1) (a.put o.dst (.bool b)) h Ψ) : TI P base L ops j a h Ψ := by
  unfold TI
  rw [hd]
  exact TO.cmpNil hw ho hx hy hu ht
end
end Go.Cl
/- A function that writes what came in, and answers with what leads nowhere. -/
set_option linter.unusedVariables false
namespace Go.Cl
open Go
/-- As ImpFin, with an answer. -/
def ImpFinV (P : Program) (fn : Func) (v : Value) (h' : List Blk) : Post := fun e a h => (e = .normal ∨ e = .ret) ∧ a.marks = [] ∧ cResults P fn a h = some v ∧ ∃ x, h = h' ++ x
theorem ImpSim.of_FinV {P : Program} {g : FuncId} {args : List Value} {h h' : List Blk} {fn : Func} {c : Code} {v : Value} (hfn : P.funcs[g]? = some fn) (hc : fn.body = some c) (hname : (fn.name == "runtime.NumGoroutine") = false)
    (hv : isFlat v = true) (base L : Nat) (hL : h.length = L) (hl : h'.length = L) (hbl : base ≤ L) (hself : ∀ b ∈ h', SelfOk L b) (keep : List Nat) {a2 : CAct}
    (hs : maskA keep { tmps := args ++ List.replicate (fn.ntmps - args.length) undef } = a2) (ht : TS P base L c a2 h (NX P base L [] (ImpFinV P fn v h'))) : ImpSim P g args base h v h' := by
  subst hL
  refine ⟨⟨fn, c, hfn, hc, hname⟩, fun D β κ N w args' hD hb hR hargs => ?_⟩
  have start : ActR D β κ { tmps := args ++ List.replicate (fn.ntmps - args.length) undef } { tmps := (⟨args'⟩ : Array Value) ++ Array.replicate (fn.ntmps - (⟨args'⟩ : Array Value).size) undef, defers := [] } := by
    refine ⟨?_, rfl, fun m hm => by simp at hm⟩
    have := hargs.app (LR.rep (fn.ntmps - args.length) (VR.undef (D := D) (β := β) (κ := κ)))
    rw [hargs.len] at this ⊢
    simpa using this
  refine callsIn_FW.1 (callsIn_of_wp_marks (F := FW none) (n := 0) hfn hc trivial ?_)
  have ht2 : TS P base h.length c { tmps := args ++ List.replicate (fn.ntmps - args.length) undef } h (NX P base h.length [] (ImpFinV P fn v h')) := TS.weak (Wk.tm keep) (by rw [hs]; exact ht)
  refine ht2 N D β κ none (.inl rfl) w w _ _ ⟨D, β, κ, hD, hb, Nat.le_refl _, hR, start, fun i _ => ⟨Iff.rfl, rfl, rfl⟩⟩ (Held.refl _ _) fun e a1 h2 a1' w1 hp hf hbl => ?_
  obtain ⟨he, hm, hres, x, rfl⟩ : ImpFinV P fn v h' e a1 h2 := hp
  have hf0 := hf
  obtain ⟨D1, β1, κ1, hf⟩ := hf
  obtain ⟨v', h3, h4⟩ := results_sim hf.rel hf.act hres
  have e1 := h4.flat hv
  subst e1
  have hw : Wk P base h.length a1 (h' ++ x) { tmps := List.replicate a1.tmps.length poison } h' := Wk.cut (by omega) (by omega) (fun i b hb => by
    rcases hself b (List.mem_of_getElem? hb) h'.length (by omega) with e | hr
    · exact .inl e
    · refine .inr ⟨b, ?_, hr⟩
      have := (List.getElem?_eq_some_iff.1 hb).1
      show (h' ++ x)[i]? = some b
      rw [List.getElem?_append_left this]
      exact hb) ⟨by simp, fun j v v' hv hv' => by
    rw [List.getElem?_replicate] at hv
    split at hv
    · cases hv; exact .poison _ rfl
    · cases hv⟩ hm rfl
  obtain ⟨D2, β2, κ2, hf2⟩ := hw _ _ _ _ _ _ hf0
  have hsub : ∀ i, D2 i → Up D h h' i := fun i hi => by
    by_cases hil : i < h.length
    · exact .inl ((hf2.ext i hil).1.1 hi)
    · exact .inr ⟨by omega, hf2.dom i hi⟩
  have hO : Out P D β κ base N h w h' w1 β2 κ2 := {
    le := by omega
    ext := fun i hi => (hf2.ext i hi).2
    rel := { blk := fun i => (hf2.rel.blk i).move hsub Ext.refl rfl rfl, ro := hf2.rel.ro, own := hf2.rel.own, inj := hf2.rel.inj, size := hf2.rel.size }
    below := hbl }
  have leaves : LeavesInM (FW none) 0 P fn a1'.tmps (fun e w' => ∃ v'' β' κ', e = .returned v'' ∧ Out P D β κ base N h w h' w' β' κ' ∧ VR (Up D h h') β' κ' v' v'') a1'.defers .returning w1 := by
    rw [hf.act.marks, hm]
    exact ⟨v', h3, v', _, _, rfl, hO, .of_flat hv⟩
  rcases he with rfl | rfl <;> exact leaves
end Go.Cl
/- Lists of the function's own, from an element on, that may be nil or not if they are empty; slices that are full. -/
set_option linter.unusedVariables false
namespace Go.Cl
open Go Go.RowKit
/-- From the q-th element on of a list in block b; an empty list may be nil. -/
abbrev zq {α : Type} (s b q : Nat) (L : List α) : Value := .slice (some ⟨b, 0 + q * s, none⟩) (L.drop q).length (if L.length = 0 then 0 else UNK - q)
/-- A slice without room behind it. -/
abbrev fl {α : Type} (b off : Nat) (l : List α) : Value := .slice (some ⟨b, off, none⟩) l.length l.length
section
variable {α : Type} {enc : α → List Value} {s q b n bytes off : Nat} {L ys l : List α} {P : Program} {base : Nat} {hp : List Blk} {x : Option QRes} {t e : TypeId} {k : IntKind} {y : Int} {ts : Array TypeId} {z w : Value}
theorem zq_pos (h : ¬ L.length = 0) : zq s b q L = .slice (some ⟨b, 0 + q * s, none⟩) (L.drop q).length (UNK - q) := by unfold zq; rw [if_neg h]
theorem zq_lo (hq : q ≤ 1000000000) (h : x = qv (cSlice P t (zq s b q L) (some (.int k y)) none none)) (he : P.underlying t = some (.slice e)) (hs : sizeT P e = some s) (hy : 0 ≤ y ∧ y ≤ ((L.drop q).length : Int)) :
    x = some { val := zq s b (q + Int.toNat y) L } := by
  rw [h]
  by_cases hL : L.length = 0
  · have hl : L = [] := List.length_eq_zero_iff.1 hL
    subst hl
    have hy0 : y = 0 := by simp at hy; omega
    subst hy0
    simp only [zq, cSlice, he, hs, List.length_nil, if_true, List.drop_nil]
    rw [if_pos (by decide), cb_lo (by simp)]
    rfl
  · rw [zq_pos hL, zq_pos hL]
    simp only [cSlice, he, hs]
    rw [if_neg (by simp only [UNK, INF]; omega), cb_lo hy]
    simp only [Option.map_some, add_eq]
    rw [if_neg (by simp only [UNK]; omega), show 0 + q * s + Int.toNat y * s = 0 + (q + Int.toNat y) * s by rw [Nat.add_mul]; omega, show (L.drop q).length - Int.toNat y = (L.drop (q + Int.toNat y)).length by simp only [List.length_drop]; omega, Nat.sub_sub]
    rfl
theorem zq_win (h : q ≤ L.length) : winAt (0 + q * s) s L (L.drop q) := win_drop win_all q
/-- What is appended to. -/
theorem q_app0 {o : Option Addr} {xs : List Value} {m : Nat} (h : x = cAppend P base hp n ts (.slice o 0 0) w) (hk : litK P base hp s o 0 0 = none)
    (he : (ts[0]?).bind P.underlying = some (.slice e)) (hs : sizeT P e = some s) (hby : bytesT P e = some bytes) (hz : zeroT P e = some z)
    (hzf : (flat1 z && (z.cells.size == s) && decide (0 < s)) = true) (harg : appArg hp s bytes z ((ts[1]?).bind P.underlying) w = some (m, xs)) (hm : (m == 0) = false)
    (hx : xs = ys.flatMap enc) (hym : ys.length = m) (hbig : ¬ (2 * (0 + m) + 1000) * (bytes + 1) > 2 ^ 48) :
    x = some { val := .slice (some ⟨n, 0, none⟩) ys.length UNK, new := [.cells e (ys.flatMap enc)] } := by
  simp only [Bool.and_eq_true, beq_iff_eq, decide_eq_true_eq] at hzf
  have hm' : ¬ m = 0 := by simpa using hm
  rw [h]
  simp only [cAppend, he, hs, hby, hz]
  rw [if_pos ⟨hzf.1.1, hzf.1.2, hzf.2⟩]
  simp only [harg, hk]
  rw [if_neg (fun c => hm' c.1), if_neg (fun c => hm' (by omega)), if_neg hbig, if_pos (by decide)]
  simp only [appCopy, readCells, Nat.zero_mul, if_true, hx, List.nil_append, Nat.zero_add, hym]
/-- A full slice is copied. -/
theorem q_appF {ys2 : List α} (hw : winAt off s L ys) (hb : Holds hp b t enc L) (h : x = cAppend P base hp n ts (fl b off ys) w) (hk : litK P base hp s (some ⟨b, off, none⟩) ys.length ys.length = none)
    (he : (ts[0]?).bind P.underlying = some (.slice e)) (hs : sizeT P e = some s) (hby : bytesT P e = some bytes) (hz : zeroT P e = some z)
    (hzf : (flat1 z && (z.cells.size == s) && decide (0 < s)) = true) (harg : appArg hp s bytes z ((ts[1]?).bind P.underlying) w = some (ys2.length, ys2.flatMap enc)) (hm : (ys2.length == 0) = false) (hI : ys.length ≤ 1000000000) (hl : ∀ y, (enc y).length = s)
    (hbig : ¬ (2 * (ys.length + ys2.length) + 1000) * (bytes + 1) > 2 ^ 48) :
    x = some { val := .slice (some ⟨n, 0, none⟩) (ys ++ ys2).length UNK, new := [.cells e ((ys ++ ys2).flatMap enc)] } := by
  simp only [Bool.and_eq_true, beq_iff_eq, decide_eq_true_eq] at hzf
  have hm' : ¬ ys2.length = 0 := by simpa using hm
  rw [h]
  simp only [cAppend, he, hs, hby, hz]
  rw [if_pos ⟨hzf.1.1, hzf.1.2, hzf.2⟩]
  simp only [harg, hk]
  rw [if_neg (fun c => hm' c.1), if_neg (fun c => hm' (by omega)), if_neg hbig, if_pos (by simp only [INF]; omega)]
  have hr : readCells hp (some ⟨b, off, none⟩) (ys.length * s) = some (ys.flatMap enc) := by
    by_cases hy : ys.length = 0
    · have : ys = [] := List.length_eq_zero_iff.1 hy
      subst this
      simp [readCells]
    · obtain ⟨st, h1, h2, h3, h4⟩ := win_cells hw hb hy
      have hlen := flatMap_len (l := L) hl
      unfold readCells
      rw [if_neg (Nat.mul_ne_zero hy (by omega))]
      simp only [h4]
      rw [if_pos (by rw [hlen, h1, ← Nat.add_mul]; exact Nat.mul_le_mul_right _ h3), h1, win_read hl, ← h2]
  simp only [appCopy, hr, List.flatMap_append, List.length_append]
/-- A slice is made full. -/
theorem q_clip {c : Nat} {k' : IntKind} (hc : INF < c ∨ l.length ≤ c) (h : x = qv (cSlice P t (.slice (some ⟨b, off, none⟩) l.length c) none (some (.int k (l.length : Int))) (some (.int k' (l.length : Int))))) (he : P.underlying t = some (.slice e)) (hs : sizeT P e = some s) :
    x = some { val := fl b off l } := by
  have cb : ∀ m : Nat, l.length ≤ m → cBounds l.length m none (some (.int k (l.length : Int))) (some (.int k' (l.length : Int))) = some (0, l.length, l.length) := fun m hm => by
    delta cBounds
    simp only [cInt, Option.bind_some]
    rw [if_pos ⟨by omega, by omega⟩]
    simp
  rw [h]
  simp only [cSlice, he, hs]
  by_cases hi : c ≤ INF
  · rw [if_pos hi, cb c (by omega)]
    simp [add_eq, fl, qv]
  · rw [if_neg hi, cb l.length (Nat.le_refl _)]
    simp [add_eq, fl, qv]
end
section
variable {α : Type} {enc : α → List Value} {s q b bytes : Nat} {L ys : List α} {P : Program} {base L0 : Nat} {ops : Array Oper} {j : Nat} {a a2 : CAct} {h h2 : List Blk} {Ψ : CAct → List Blk → Prop} {ts : Array TypeId} {e : TypeId} {z y : Value} {xs : List Value} {m : Nat}
theorem TI.zapp (hq : q ≤ L.length) (hq2 : q ≤ 1000000000) (h0 : qAt P base ops j a h = cAppend P base h h.length ts (zq s b q L) y)
    (hb : h[b]? = some (accB e L.length (L.flatMap enc))) (hbase : base ≤ b) (he : (ts[0]?).bind P.underlying = some (.slice e)) (hs : sizeT P e = some s) (hby : bytesT P e = some bytes) (hz : zeroT P e = some z)
    (hzf : (flat1 z && (z.cells.size == s) && decide (0 < s)) = true) (harg : appArg h s bytes z ((ts[1]?).bind P.underlying) y = some (ys.length, ys.flatMap enc)) (hm : (ys.length == 0) = false) (hok : (ys.flatMap enc).all cellOk = true)
    (hl : ∀ y, (enc y).length = s) (hbig : ¬ (2 * ((L.drop q).length + ys.length) + 1000) * (bytes + 1) > 2 ^ 48)
    (keep keepH : List Nat) (hst : mk2 keep keepH (putAt ops j a (.slice (some ⟨h.length, 0, none⟩) (L.drop q ++ ys).length UNK), h.set b .dead ++ [.cells e ((L.drop q ++ ys).flatMap enc)]) = (a2, h2))
    (ht : TI P base L0 ops (j + 1) a2 h2 Ψ) : TI P base L0 ops j a h Ψ := by
  by_cases hl0 : L.length = 0
  · have hln : L = [] := List.length_eq_zero_iff.1 hl0
    subst hln
    have hb' : h[b]? = some .dead := by simpa [accB] using hb
    have q0 : q = 0 := by simpa using hq
    subst q0
    have hk : litK P base h s (some ⟨b, 0 + 0 * s, none⟩) 0 0 = none := by
      rw [show (0 + 0 * s) = 0 by omega]
      simp [litK, hb']
    have hq := q_app0 (x := qAt P base ops j a h) (enc := enc) (ys := ys) (by simpa [zq] using h0) hk he hs hby hz hzf harg hm rfl rfl (by simpa using hbig)
    refine TI.op hq keep keepH ?_ ht
    rw [set_dead hb'] at hst
    simpa [QRes.heap] using hst
  · rw [zq_pos hl0] at h0
    have hq := q_appW (x := qAt P base ops j a h) (enc := enc) (ys := ys) (l := L.drop q) (L := L) (st := q) h0 (by omega) hq2 (by rw [List.take_of_length_le (Nat.le_refl _)]) (by simp; omega) (by simpa [accB, hl0] using hb) hbase he hs hby hz hzf harg hok hl hbig
    exact TI.op hq keep keepH (by simpa [QRes.heap, ownV] using hst) ht
end
section
variable {α : Type} {enc : α → List Value} {s q b off m c : Nat} {L : List α} {P : Program} {base : Nat} {hp : List Blk} {T : TypeId}
theorem zq_cap (hq : q ≤ 1000000000) : INF < (if L.length = 0 then 0 else UNK - q) ∨ (L.drop q).length ≤ (if L.length = 0 then 0 else UNK - q) := by
  by_cases h : L.length = 0
  · rw [if_pos h]; right; simp [h]
  · rw [if_neg h]; left; simp only [UNK, INF]; omega
theorem litK_ne {c' : Nat} (h : ¬ m = 0) : litK P base hp s (some ⟨b, off, none⟩) m c' = none := by
  unfold litK
  rw [if_neg (fun x => h x.1)]
theorem litK_old (h : ¬ base ≤ b) : litK P base hp s (some ⟨b, off, none⟩) m c = none := by
  unfold litK
  split
  · cases off with
    | zero =>
      simp only
      split
      · rw [if_neg (fun x => h x.1)]
      · rfl
    | succ off => rfl
  · rfl
theorem litK_acc (hb : hp[b]? = some (accB T L.length (L.flatMap enc))) (hl : ∀ y, (enc y).length = s) (hs : 0 < s) : litK P base hp s (some ⟨b, off, none⟩) m c = none := by
  unfold litK
  split
  · cases off with
    | succ off => rfl
    | zero =>
      simp only [hb]
      cases L with
      | nil => simp [accB]
      | cons y l =>
        have := hl y
        cases he : enc y with
        | nil => rw [he] at this; simp at this; omega
        | cons v vs => simp [accB, he]
  · rfl
end
section
variable {α : Type} {p : Bool} {f : Nat → Nat × Nat} {n i i' s q : Nat} {L : List α}
theorem Rn.zq (hi : i < n) (hf : f i = (i', 0)) : Rn p f n (Cl.zq s i q L) (Cl.zq s i' q L) := by
  have := Rn.slice0 (p := p) (f := f) (n := n) i (0 + q * s) (L.drop q).length (if L.length = 0 then 0 else UNK - q) hi (by rw [hf])
  rw [hf] at this
  exact this
theorem Rn.zU (hi : i < n) (hf : f i = (i', 0)) (hL : ¬ L.length = 0) : Rn p f n (Cl.zq s i 0 L) (.slice (some ⟨i', 0, none⟩) L.length UNK) := by
  rw [zq_pos hL]
  have := Rn.slice0 (p := p) (f := f) (n := n) i 0 L.length UNK hi (by rw [hf])
  rw [hf] at this
  simpa using this
theorem Rn.zE : Rn true f n (Cl.zq s i 0 ([] : List α)) (.slice none 0 0) := .zN i _ rfl
theorem Rn.zacc (hi : i < n) (hf : f i = (i', 0)) : Rn true f n (Cl.zq s i 0 L) (accV i' L.length) := by
  cases L with
  | nil => exact Rn.zE
  | cons y l => rw [accV_pos (by simp)]; exact Rn.zU hi hf (by simp)
end
end Go.Cl
/- Parts of elements; a slice that is full, or that appends have made. -/
set_option linter.unusedVariables false
namespace Go.Cl
open Go Go.RowKit
section
variable {α : Type} {enc : α → List Value} {s off b : Nat} {L ys l : List α} {P : Program} {hp : List Blk} {x : Option QRes} {T : TypeId}
/-- A struct in an element. -/
theorem q_ldPW {t : TypeId} {o i k m : Nat} (hw : winAt off s L ys) (hb : Holds hp b T enc L) (h : x = qv (cLoad P hp t (.pointer (some ⟨b, o, none⟩)))) (ha : aggT P t = some true) (hs : sizeT P t = some m) (hl : ∀ y, (enc y).length = s)
    (ho : o = off + i * s + k) (hk : k + m ≤ s) (hi : i < ys.length) (d : α) : x = some { val := .agg ⟨((enc (ys.getD i d)).drop k).take m⟩ } := by
  obtain ⟨j, h1, h2, h3, h4⟩ := win_elem hw hb hi d
  have hle : j * s + k + m ≤ (L.flatMap enc).length := by
    rw [flatMap_len hl]
    have := Nat.mul_le_mul_right s (show j + 1 ≤ L.length by omega)
    rw [Nat.add_mul] at this
    omega
  have e : ((L.flatMap enc).drop (j * s + k)).take m = ((enc (L.getD j d)).drop k).take m := by
    rw [← flatMap_at hl d h2, List.drop_take, List.take_take, List.drop_drop, Nat.min_eq_left (by omega)]
  rw [h, ho, h1, ← h3]
  simp only [cLoad, h4, ha, hs]
  rw [if_pos hle, e]
  rfl
end
/-- A slice of n elements from the begin of its block: full, or of unknown capacity. -/
abbrev fo (b : Nat) (f : Bool) (n : Nat) : Value := .slice (some ⟨b, 0, none⟩) n (if f = true then n else UNK)
section
variable {α : Type} {enc : α → List Value} {s b bytes : Nat} {l ys : List α} {f : Bool} {P : Program} {base L0 : Nat} {ops : Array Oper} {j : Nat} {a a2 : CAct} {h h2 : List Blk} {Ψ : CAct → List Blk → Prop} {ts : Array TypeId} {e : TypeId} {z y : Value}
theorem maskH_set {keep : List Nat} {b : Nat} (hb : keep.contains b = false) : ∀ (h x : List Blk) (k : Nat), maskH keep k (h.set (b - k) .dead ++ x) = maskH keep k (h ++ x) ∨ b < k := by
  intro h
  induction h with
  | nil => intro x k; exact .inl (by simp)
  | cons c h ih =>
    intro x k
    by_cases hk : b < k
    · exact .inr hk
    · left
      cases hd : b - k with
      | zero =>
        have : k = b := by omega
        subst this
        simp only [List.set_cons_zero, List.cons_append, maskH, hb]
        rfl
      | succ d =>
        simp only [List.set_cons_succ, List.cons_append, maskH]
        rcases ih x (k + 1) with e | e
        · rw [show b - (k + 1) = d by omega] at e
          rw [e]
        · omega
theorem TI.fapp (h0 : qAt P base ops j a h = cAppend P base h h.length ts (fo b f l.length) y)
    (hb : h[b]? = some (.cells e (l.flatMap enc))) (hbase : base ≤ b) (he : (ts[0]?).bind P.underlying = some (.slice e)) (hs : sizeT P e = some s) (hby : bytesT P e = some bytes) (hz : zeroT P e = some z)
    (hzf : (flat1 z && (z.cells.size == s) && decide (0 < s)) = true) (harg : appArg h s bytes z ((ts[1]?).bind P.underlying) y = some (ys.length, ys.flatMap enc)) (hm : (ys.length == 0) = false) (hok : (ys.flatMap enc).all cellOk = true)
    (hl : ∀ y, (enc y).length = s) (hbig : ¬ (2 * (l.length + ys.length) + 1000) * (bytes + 1) > 2 ^ 48) (hI : l.length ≤ 1000000000)
    (keep keepH : List Nat) (hk : keepH.contains b = false) (hst : mk2 keep keepH (putAt ops j a (.slice (some ⟨h.length, 0, none⟩) (l ++ ys).length UNK), h.set b .dead ++ [.cells e ((l ++ ys).flatMap enc)]) = (a2, h2))
    (ht : TI P base L0 ops (j + 1) a2 h2 Ψ) : TI P base L0 ops j a h Ψ := by
  have hs0 : 0 < s := by
    simp only [Bool.and_eq_true, beq_iff_eq, decide_eq_true_eq] at hzf
    exact hzf.2
  cases f with
  | false =>
    have hq := q_appO (x := qAt P base ops j a h) (enc := enc) (ys := ys) (l := l) h0 hb hbase he hs hby hz hzf harg hok hl hbig
    exact TI.op hq keep keepH (by simpa [QRes.heap, ownV] using hst) ht
  | true =>
    by_cases hn : l.length = 0
    · have hln : l = [] := List.length_eq_zero_iff.1 hn
      subst hln
      have h0' : qAt P base ops j a h = cAppend P base h h.length ts (.slice (some ⟨b, 0, none⟩) 0 0) y := by simpa [fo] using h0
      have hq := q_appL (x := qAt P base ops j a h) (enc := enc) (ys := ys) (b := b) (t := e) h0' (by simpa using hb) hbase hs he hs hby hz hzf harg (by simpa using hbig)
      exact TI.op hq keep keepH (by simpa [QRes.heap, ownV] using hst) ht
    · have hlit : litK P base h s (some ⟨b, 0, none⟩) l.length l.length = none := by
        unfold litK
        rw [if_neg (fun c => hn c.1)]
      have hq := q_appF (x := qAt P base ops j a h) (enc := enc) (ys := l) (ys2 := ys) (L := l) (off := 0) (b := b) (t := e) win_all (holds_lst hb) (by simpa [fo, fl] using h0) hlit he hs hby hz hzf harg hm hI hl hbig
      refine TI.op hq keep keepH ?_ ht
      have hset := maskH_set hk h [.cells e ((l ++ ys).flatMap enc)] 0
      rw [Nat.sub_zero] at hset
      rcases hset with e1 | e1
      · rw [← hst]
        simp only [mk2, QRes.heap, e1]
      · omega
end
section
variable {p : Bool} {f : Nat → Nat × Nat} {n i i' c c' : Nat} {g : Bool}
theorem Rn.fo (hi : i < n) (hf : f i = (i', 0)) (hc : c = c') : Rn p f n (Cl.fo i g c) (Cl.fo i' g c') := by
  subst hc
  have := Rn.slice0 (p := p) (f := f) (n := n) i 0 c (if g = true then c else UNK) hi (by rw [hf])
  rw [hf] at this
  exact this
theorem Rn.flr {α : Type} {off : Nat} {ys : List α} (hi : i < n) (hf : f i = (i', off)) (hI : ys.length ≤ 1000000000) : Rn p f n (fl i 0 ys) (fl i' off ys) := by
  have := Rn.slice (p := p) (f := f) (n := n) i 0 off ys.length ys.length hi (by rw [hf]; rfl) (by simp only [INF]; omega)
  rw [hf] at this
  exact this
theorem Rn.foT (hi : i < n) (hf : f i = (i', 0)) (hc : c = c') : Rn p f n (Cl.fo i true c) (.slice (some ⟨i', 0, none⟩) c' c') := Rn.fo (g := true) hi hf hc
theorem Rn.foF (hi : i < n) (hf : f i = (i', 0)) (hc : c = c') : Rn p f n (Cl.fo i false c) (.slice (some ⟨i', 0, none⟩) c' UNK) := Rn.fo (g := false) hi hf hc
end
end Go.Cl
/- Regions that draw their order: the tail, which has but one order, by itself. -/
set_option linter.unusedVariables false
namespace Go.Cl
open Go Go.RowKit
section
variable {P : Program} {base L : Nat} {c y : Code} {a a1 a2 : CAct} {h h1 h2 new : List Blk} {Φ : Post} {K : List Fr} {ops : Array Oper} {T : List Entry} {fin : QSt} {us : List (Nat × Nat)}
theorem TS.drawT0 (T : List Entry) (hT : ∀ e ∈ T, PureSim P e.g e.args e.h e.v e.new) (hmix : P.follows .mixedOrders = true) {id : Nat} (n : Nat)
    (hn : (edgesBack ops.toList 0 && quietOk ops.toList (Region.before ops).toList n && (tailFrom (Region.before ops).toList ops.size == n)) = true)
    (us : List (Nat × Nat)) (hq : QI P T base ops us n 0 { act := a, heap := h } fin) (hu : fin.upds = us)
    (ht : TI P base L ops n fin.act fin.heap (NX P base L K Φ .normal)) : TS P base L (.region id ops true) a h (NX P base L K Φ) := by
  rintro N D0 β0 κ0 R hR0 w0 w a' Q ⟨D, β, κ, hf⟩ hb0 hQ
  simp only [Bool.and_eq_true, beq_iff_eq] at hn
  obtain ⟨⟨hback, hquiet⟩, hsdef⟩ := hn
  have hD := hf.dom
  have hb := hf.bl
  have hR := hf.rel
  have hA := hf.act
  have hsle : n ≤ ops.size := by rw [← hsdef]; exact tail_le _ _
  have htail : ∀ j i, n ≤ j → j < ops.size → i < j → anc ops j i = true := fun j i h1 h2 h3 => tail_spec _ ops.size j i (by rw [hsdef]; exact h1) h2 h3
  have hq' : quietOps (orc P T) Rec.none base ops.toList (Region.before ops).toList us (ops.toList.take n) 0 { act := a, heap := h } = some fin := hq
  obtain ⟨S, R', g1, g2, g3⟩ := trace _ _ _ _ hq'
  have hlen : (ops.toList.take n).length = n := by simp; omega
  rw [hlen] at g2
  have X : Run (orc P T) Rec.none base ops n us a h S R' := {
    hs := hsle
    s0 := g1
    step := fun j o hj ho => by
      have := g3 j o (by rw [List.getElem?_take, if_pos hj]; simpa using ho)
      rwa [Nat.zero_add] at this
    upds := by rw [g2]; exact hu
    back := hback
    quiet := hquiet
    baseLe := hb }
  refine wpIn_region_any hmix (X.phase1 (D := D) (β0 := β) (κ0 := κ) (N := N) (w0 := w) (a0' := a') (ro := R) (fun h g args v new hc => callQ_sound (orc_ok hT) (none_sound (orc P T) 0) h g args v new hc) hD hA htail ?_ ops.size _ (fun _ => false) β κ a' _ (Inv.start X hD hR hA rfl) (by simp) (fun i hi => ?_) (fun i hi hil => ?_) ?_)
  · intro L' β1 κ1 a2 w2 I hall
    obtain ⟨hO, hA2⟩ := X.outcome hD hA I hall
    rw [g2] at hO hA2
    exact ht N D0 β0 κ0 R hR0 w0 w2 a2 Q (Fits.out hf hO hA2) (hb0.trans hO.below) fun a1 h1 a1' w1 hp hf1 hb1 => hQ _ a1 h1 a1' w1 hp hf1 hb1
  · simp [show i < ops.size by omega]
  · simp [hil]
  · have h1 := List.length_filter_le (fun i => !(fun _ => false : Nat → Bool) i) (List.range n)
    rw [List.length_range] at h1
    exact Nat.le_trans (Nat.add_le_add_right h1 _) (by omega)
theorem TS.drawT (T : List Entry) (hT : ∀ e ∈ T, PureSim P e.g e.args e.h e.v e.new) (hmix : P.follows .mixedOrders = true) (n : Nat) (us : List (Nat × Nat)) (a1 : CAct) (h1 : List Blk)
    (hq : QJ P T base c.rops us n 0 { act := a, heap := h } fun fin => fin.upds = us ∧ fin.act = a1 ∧ fin.heap = h1)
    (ht : TI P base L c.rops n a1 h1 (NX P base L K Φ .normal)) (hc : Code.isReg true c = true := by kernel_rfl)
    (hn : (edgesBack c.rops.toList 0 && quietOk c.rops.toList (Region.before c.rops).toList n && (tailFrom (Region.before c.rops).toList c.rops.size == n)) = true := by kernel_rfl) : TS P base L c a h (NX P base L K Φ) := by
  obtain ⟨id, hc⟩ := Code.isReg_spec hc
  obtain ⟨fin, hq, hu, ha, hh⟩ := hq
  rw [hc]
  exact TS.drawT0 T hT hmix n hn us hq hu (by rw [ha, hh]; exact ht)
theorem toF_pad (h : List Blk) (k : Nat) : toF (h ++ List.replicate k .dead) = toF h := by
  funext i
  unfold toF
  rw [List.getD_eq_getElem?_getD, List.getD_eq_getElem?_getD]
  by_cases c : i < h.length
  · rw [List.getElem?_append_left c]
  · rw [List.getElem?_append_right (by omega), List.getElem?_eq_none (by omega : h.length ≤ i), List.getElem?_replicate]
    split <;> rfl
theorem Wk.pad (k : Nat) : Wk P base L a h a (h ++ List.replicate k .dead) := by
  rintro N D0 β0 κ0 a' w ⟨D, β, κ, hf⟩
  have hl : (h ++ List.replicate k Blk.dead).length = h.length + k := by simp
  exact ⟨D, β, κ, fun i hi => by have := hf.dom i hi; omega, by have := hf.bl; omega, by have := hf.ll; omega, by rw [toF_pad]; exact hf.rel, hf.act, hf.ext⟩
end
end Go.Cl
/- Renamings that take a block that is pinned, and dead behind it. -/
set_option linter.unusedVariables false
namespace Go.Cl
open Go Go.RowKit

theorem Wk.renD {P : Program} {base L : Nat} {a a2 : CAct} {h h2 : List Blk} (f : Nat → Nat) (hL : ∀ i, i < L → f i = i) (hl : L ≤ h2.length) (hbl : base ≤ h2.length)
    (hinj : ∀ i j, i < h2.length → j < h2.length → toF h2 i ≠ .dead → toF h2 j ≠ .dead → f i = f j → i = j) (hbase : ∀ i, i < h2.length → (base ≤ i ↔ base ≤ f i))
    (hb : Ats true (fun i => (f i, 0)) h2.length h 0 h2) (ht : LRn true (fun i => (f i, 0)) h2.length a2.tmps a.tmps) (hm : a.marks = []) (hm2 : a2.marks = []) : Wk P base L a h a2 h2 := by
  rintro N D0 β0 κ0 a' w ⟨D, β, κ, hf⟩
  have hn : Num (fun i => (f i, 0)) h2.length D β κ (fun i => i < h2.length ∧ D (f i)) (fun i => β (f i)) (fun i => κ (f i)) :=
    ⟨fun i hi => ⟨fun x => x.2, fun x => ⟨hi, x⟩⟩, fun i hi => rfl, fun i hi _ => rfl⟩
  have at_ : ∀ i, toF h2 i ≠ .dead → i < h2.length ∧ ∃ b, h[f i]? = some b ∧ b ≠ .dead ∧ RnB true (fun i => (f i, 0)) h2.length (toF h2 i) b 0 := by
    intro i hi
    by_cases hil : i < h2.length
    · have hx := List.getElem?_eq_getElem hil
      have hA := hb.get hx
      rw [Nat.zero_add] at hA
      rw [toF_some hx] at hi ⊢
      rcases hA with e | ⟨b, h1, h3⟩
      · exact absurd e hi
      · refine ⟨hil, b, h1, ?_, h3⟩
        intro e
        subst e
        exact RnB.nd h3
    · exact absurd (by simp [toF, List.getD, List.getElem?_eq_none (Nat.le_of_not_lt hil)]) hi
  refine ⟨fun i => i < h2.length ∧ D (f i), fun i => β (f i), fun i => κ (f i), fun i hi => hi.1, hbl, hl, ⟨fun i => ?_, fun i hi hib => ?_, fun i hi hib => ?_, fun i j hi hj hib hjb he => ?_, hf.rel.size⟩, ⟨ht.lr hn hf.act.tmps, ?_, fun m hmm => by rw [hm2] at hmm; cases hmm⟩, fun i hi => ?_⟩
  · by_cases hd : toF h2 i = .dead
    · rw [hd]; trivial
    · obtain ⟨hil, b, h1, h2', h3⟩ := at_ i hd
      have hB := hf.rel.blk (f i)
      rw [toF_some h1] at hB
      exact h3.br hn hil hB
  · obtain ⟨hil, b, h1, h2', h3⟩ := at_ i hi
    refine hf.rel.ro (f i) (by rw [toF_some h1]; exact h2') ?_
    have := hbase i hil
    omega
  · obtain ⟨hil, b, h1, h2', h3⟩ := at_ i hi
    have hO := hf.rel.own (f i) (by rw [toF_some h1]; exact h2') ((hbase i hil).1 hib)
    rw [toF_some h1] at hO
    exact ⟨hO.1, h3.own hn hil rfl hO.2⟩
  · obtain ⟨hil, b, h1, h2', h3⟩ := at_ i hi
    obtain ⟨hjl, c, k1, k2', k3⟩ := at_ j hj
    exact hinj i j hil hjl hi hj (hf.rel.inj (f i) (f j) (by rw [toF_some h1]; exact h2') (by rw [toF_some k1]; exact k2') ((hbase i hil).1 hib) ((hbase j hjl).1 hjb) he)
  · rw [hf.act.marks, hm, hm2]
    simp
  · have e := hf.ext i hi
    rw [hL i hi]
    exact ⟨⟨fun x => e.1.1 x.2, fun x => ⟨by omega, e.1.2 x⟩⟩, e.2⟩
/-- Blocks that are taken, and lie among the pinned ones, are dead behind it. -/
def takenOk (f : List Nat) (base L : Nat) (h2 : List Blk) : Bool := f.all fun i => Nat.ble base i && (Nat.ble L i || (match h2[i]? with | some .dead => true | _ => false))
theorem Wk.anD {P : Program} {base L m : Nat} {l : List (Nat × Value)} {a : CAct} {h h2 : List Blk} (f : List Nat) (hb : Ats true (fun i => (if i < L then i else f.getD (i - L) 0, 0)) h2.length h 0 h2) (avs : List Value)
    (hr : LRn true (fun i => (if i < L then i else f.getD (i - L) 0, 0)) h2.length (l.map (·.2)) avs) (hf : f.Nodup := by decide) (hge : takenOk f base L h2 = true := by kernel_rfl) (hL : Nat.ble base L = true := by rfl) (hl : h2.length = L + f.length := by rfl)
    (ha : (l.map (·.1)).map (fun i => a.tmps.getD i undef) = avs := by kernel_rfl) (hlen : a.tmps.length = m := by kernel_rfl) (hm : a.marks = [] := by rfl) : Wk P base L a h (Cl.st m l) h2 := by
  have ht := LRn.stx (m := m) (l' := a.tmps) (l.map (·.1)) (l.map (·.2)) avs hr ha hlen rfl
  rw [zip_fst_snd] at ht
  have hL := Nat.le_of_ble_eq_true hL
  have at_ : ∀ i, L ≤ i → i < h2.length → ∃ x, f[i - L]? = some x ∧ f.getD (i - L) 0 = x ∧ base ≤ x ∧ (x < L → toF h2 x = .dead) := fun i h1 h2' => by
    have hx : i - L < f.length := by omega
    have hk := List.all_eq_true.1 hge _ (List.getElem_mem hx)
    rw [Bool.and_eq_true, Bool.or_eq_true] at hk
    refine ⟨f[i - L], List.getElem?_eq_getElem hx, by simp [List.getD, hx], Nat.le_of_ble_eq_true hk.1, fun hlt => ?_⟩
    rcases hk.2 with h | h
    · have := Nat.le_of_ble_eq_true h; omega
    · split at h
      · rename_i e; exact toF_some e
      · cases h
  refine Wk.renD (fun i => if i < L then i else f.getD (i - L) 0) (fun i hi => if_pos hi) (by omega) (by omega) (fun i j hi hj hdi hdj e => ?_) (fun i hi => ?_) hb ht hm rfl
  · by_cases h1 : i < L <;> by_cases h2' : j < L
    · simpa [h1, h2'] using e
    · obtain ⟨x, _, e1, e2, e3⟩ := at_ j (by omega) hj
      simp only [if_pos h1, if_neg h2', e1] at e
      subst e
      exact absurd (e3 h1) hdi
    · obtain ⟨x, _, e1, e2, e3⟩ := at_ i (by omega) hi
      simp only [if_neg h1, if_pos h2', e1] at e
      subst e
      exact absurd (e3 h2') hdj
    · obtain ⟨x, g1, e1, e2⟩ := at_ i (by omega) hi
      obtain ⟨y, g2, k1, k2⟩ := at_ j (by omega) hj
      simp only [if_neg h1, if_neg h2', e1, k1] at e
      subst e
      have := (List.getElem?_inj (List.getElem?_eq_some_iff.1 g1).1 hf).1 (g1.trans g2.symm)
      omega
  · by_cases h1 : i < L
    · simp only [if_pos h1]
    · obtain ⟨x, _, e1, e2, _⟩ := at_ i (by omega) hi
      simp only [if_neg h1, e1]
      omega
end Go.Cl
/- Blocks that are only read may bear another type; a list that appends have made. -/
set_option linter.unusedVariables false
namespace Go.Cl
open Go Go.RowKit
theorem fo_neg {b n : Nat} {f : Bool} (h : ¬ f = true) : fo b f n = ownV b n := by
  unfold fo ownV
  rw [if_neg h]
/-- The same blocks, but for the types of cells. -/
def SameB : List Blk → List Blk → Prop
  | [], [] => True
  | b :: l, b' :: l' => (b = b' ∨ ∃ t t' vs, b = .cells t vs ∧ b' = .cells t' vs) ∧ SameB l l'
  | _, _ => False
theorem SameB.len : ∀ {h h' : List Blk}, SameB h h' → h'.length = h.length
  | [], [], _ => rfl
  | b :: l, b' :: l', hs => by rw [List.length_cons, List.length_cons, SameB.len hs.2]
  | [], _ :: _, hs => hs.elim
  | _ :: _, [], hs => hs.elim
theorem SameB.at_ : ∀ {h h' : List Blk}, SameB h h' → ∀ i, toF h i = toF h' i ∨ ∃ t t' vs, toF h i = .cells t vs ∧ toF h' i = .cells t' vs
  | [], [], _, i => .inl rfl
  | b :: l, b' :: l', hs, 0 => hs.1
  | b :: l, b' :: l', hs, i + 1 => SameB.at_ hs.2 i
  | [], _ :: _, hs, _ => hs.elim
  | _ :: _, [], hs, _ => hs.elim
theorem PureSim.retype {P : Program} {g : FuncId} {args : List Value} {h h' : List Blk} {v : Value} {new : List Blk} (hs : SameB h h') (hP : PureSim P g args h v new) : PureSim P g args h' v new := by
  have hl := hs.len
  refine ⟨hP.1, fun D β κ w args' hD hR ha => ?_⟩
  rw [hl] at hD hR ⊢
  refine hP.2 D β κ w args' hD ⟨fun i => ?_, fun i hi hb => ?_, fun i hi hb => ?_, fun i j hi hj hb => ?_, hR.size⟩ ha
  · have hB := hR.blk i
    rcases hs.at_ i with e | ⟨t, t', vs, e, e'⟩
    · rw [e]; exact hB
    · rw [e']at hB; rw [e]; exact hB
  · refine hR.ro i ?_ hb
    rcases hs.at_ i with e | ⟨t, t', vs, e, e'⟩
    · rw [← e]; exact hi
    · rw [e']; intro z; cases z
  · exact absurd (by simp [toF, List.getD, List.getElem?_eq_none hb]) hi
  · exact absurd (by simp [toF, List.getD, List.getElem?_eq_none hb]) hi
section
variable {α : Type} {ys : List α} {off s b : Nat} {P : Program} {t e : TypeId} {k : IntKind} {v : Int} {x : Option QRes}
theorem q_slUlo (h : x = qv (cSlice P t (.slice (some ⟨b, off, none⟩) ys.length UNK) (some (.int k v)) none none)) (he : P.underlying t = some (.slice e)) (hs : sizeT P e = some s) (hy : 0 ≤ v ∧ v ≤ (ys.length : Int)) :
    x = some { val := .slice (some ⟨b, off + Int.toNat v * s, none⟩) (ys.drop (Int.toNat v)).length (UNK - Int.toNat v) } := by
  rw [h]
  simp only [cSlice, he, hs]
  rw [if_neg (by decide), cb_lo hy]
  simp only [Option.map_some, add_eq, List.length_drop]
  rw [if_neg (by decide)]
  rfl
end
/-- A list that is seen up to an element alone is as short as that. -/
theorem Wk.shr {P : Program} {base L0 : Nat} {a : CAct} {h : List Blk} {b t : Nat} (k : Nat) {α : Type} {enc : α → List Value} {l : List α} (hb : h[b]? = some (.cells t (l.flatMap enc))) : Wk P base L0 a h a (h.set b (.cells t ((l.take k).flatMap enc))) := by
  rintro N D0 β0 κ0 a' w ⟨D, β, κ, hf⟩
  have hbl : b < h.length := (List.getElem?_eq_some_iff.1 hb).1
  have at_ : ∀ i, toF (h.set b (.cells t ((l.take k).flatMap enc))) i = toF h i ∨ (i = b ∧ toF h i = .cells t (l.flatMap enc) ∧ toF (h.set b (.cells t ((l.take k).flatMap enc))) i = .cells t ((l.take k).flatMap enc)) := by
    intro i
    by_cases e : i = b
    · subst e
      refine .inr ⟨rfl, toF_some hb, toF_some ?_⟩
      rw [List.getElem?_set_self hbl]
    · refine .inl ?_
      unfold toF
      simp only [List.getD_eq_getElem?_getD]
      rw [List.getElem?_set_ne (fun x => e x.symm)]
  refine ⟨D, β, κ, fun i hi => by rw [List.length_set]; exact hf.dom i hi, by rw [List.length_set]; exact hf.bl, by rw [List.length_set]; exact hf.ll, ⟨fun i => ?_, fun i hi hb' => ?_, fun i hi hb' => ?_, fun i j hi hj => ?_, hf.rel.size⟩, hf.act, hf.ext⟩
  · rcases at_ i with e | ⟨_, e1, e2⟩
    · rw [e]; exact hf.rel.blk i
    · have hB := hf.rel.blk i
      rw [e1] at hB
      rw [e2]
      obtain ⟨arr, T, fz, h1, h2⟩ := hB
      refine ⟨arr, T, fz, h1, fun q v hv => h2 q v ?_⟩
      have : l.flatMap enc = (l.take k).flatMap enc ++ (l.drop k).flatMap enc := by rw [← List.flatMap_append, List.take_append_drop]
      rw [this, List.getElem?_append_left (List.getElem?_eq_some_iff.1 hv).1]
      exact hv
  · refine hf.rel.ro i ?_ hb'
    rcases at_ i with e | ⟨_, e1, e2⟩
    · rw [← e]; exact hi
    · rw [e1]; intro z; cases z
  · rcases at_ i with e | ⟨_, e1, e2⟩
    · rw [e] at hi ⊢; exact hf.rel.own i hi hb'
    · have := hf.rel.own i (by rw [e1]; intro z; cases z) hb'
      rw [e1] at this
      rw [e2]
      exact this
  · have nd : ∀ i, toF (h.set b (.cells t ((l.take k).flatMap enc))) i ≠ .dead → toF h i ≠ .dead := fun i hi => by
      rcases at_ i with e | ⟨_, e1, e2⟩
      · rw [← e]; exact hi
      · rw [e1]; intro z; cases z
    exact hf.rel.inj i j (nd i hi) (nd j hj)
end Go.Cl
