/- Calls that may write; rounds of a loop over a function. -/
import Derived.Test.YtiaippkjgmccoaaCl17
set_option linter.unusedSimpArgs false
set_option linter.unusedVariables false
namespace Go.Cl
open Go Go.RowKit

section
variable {P : Program} {w : World} {D : Nat → Prop} {β : Nat → Nat × Nat} {κ : Nat → Nat} {base N n : Nat} {H : Nat → Blk}

theorem setAll_sim : ∀ (params : List Tmp) (args args' tmps : List Value) (t' : Array Value), LR D β κ args args' → LR D β κ tmps t'.toList → args.length = params.length →
    LR D β κ (setAll params args tmps) ((params.zip args').foldl (fun tmps (x : Tmp × Value) => tmps.setIfInBounds x.1 x.2) t').toList
  | [], args, args', tmps, t', ha, ht, hl => by
    have : args = [] := List.length_eq_zero_iff.1 hl
    subst this
    simpa [setAll] using ht
  | p :: ps, [], args', tmps, t', ha, ht, hl => by simp at hl
  | p :: ps, v :: vs, args', tmps, t', ha, ht, hl => by
    obtain ⟨v', l', rfl, hv, hl'⟩ := ha.uncons
    simp only [setAll, List.zip_cons_cons, List.foldl_cons]
    refine setAll_sim ps vs l' _ _ hl' ?_ (by simpa using hl)
    rw [Array.toList_setIfInBounds]
    exact ht.set p hv

/-- The record of a loop over a function is written. -/
theorem Out.loop {h : List Blk} {l : Nat} {t : List Value} {ps : List Tmp} {as body : Code} {st st2 : LoopState} {pend pend2 : Option Code} (hR : Rel P D β κ base N (toF h) w) (hD : ∀ i, D i → i < h.length) (hb : base ≤ h.length)
    (hbl : base ≤ l) (hl : h[l]? = some (.loop t ps as body st pend)) :
    ∃ r : Loop, w.heap[(β l).1]? = some (.loop r) ∧ r.state = st ∧ r.pending = pend ∧ r.params.toList = ps ∧ r.assign = as ∧ r.body = body ∧ LR D β κ t r.tmps.toList ∧
      Out P D β κ base N h w (h.set l (.loop t ps as body st2 pend2)) (w.putObj (β l).1 (.loop { r with state := st2, pending := pend2 })) β κ ∧
      ∀ o, Out P D β κ base N h w (h.set l .dead) (w.putObj (β l).1 o) β κ := by
  have hB := hR.blk l
  rw [toF_some hl] at hB
  obtain ⟨r, h1, h2, h3, h4, h5, h6, h7⟩ := hB
  refine ⟨r, h1, h2, h3, h4, h5, h6, h7, Out.put hR hD hb hbl hl (by simp) h1 fun w' hw' => ⟨⟨_, hw', rfl, rfl, h4, h5, h6, h7⟩, trivial⟩, fun o => Out.put hR hD hb hbl hl (by simp) h1 fun w' hw' => ⟨trivial, trivial⟩⟩

theorem RoR.out {ro R : Option Nat} {h h1 : List Blk} {w1 : World} {β1 : Nat → Nat × Nat} {κ1 : Nat → Nat} (hr : RoR D β ro R) (hO : Out P D β κ base N h w h1 w1 β1 κ1) (hD : ∀ i, D i → i < h.length) : RoR (Up D h h1) β1 ro R := by
  rcases hr with hr | ⟨l0, h1, h2, h3⟩
  · exact .inl hr
  · exact .inr ⟨l0, h1, .inl h2, by rw [(hO.ext l0 (hD l0 h2)).1]; exact h3⟩

theorem wp_of_round {ro : Option Nat} {o : Oper} {a' : Act} {next : Act → World → Prop} {Q : Exit → Act → World → Prop} {l : Nat} {f : FuncId} {tmps : Array Value} {assign body : Code} {w' : World} (hnd : ∀ c, o.op ≠ .defer c)
    (hrun : (execOp a'.eval o).run P w = .ok (.round l f tmps assign body) w') (h : RoundIn (FW ro) 0 P l f tmps assign body w' fun e w'' => ∃ v, e = .returned v ∧ next (a'.put o.dst v) w'') : o.wpIn (FW ro) 0 P a' w next Q := by
  refine ⟨fun _ _ => trivial, ?_⟩
  rw [Oper.semAt_eq _ _ _ hnd, hrun, Oper.uponIn_round]
  refine ⟨fun h => by simp [FW] at h, RoundIn.mono h ?_⟩
  rintro e w'' ⟨v, rfl, hn⟩
  exact hn

/-- A ROUND. -/
theorem yield_sound {E : Env} {m : Nat} {r : Rec} (hr : Sound E m r) {h h3 : List Blk} {l : Nat} {args args' : List Value} {v : Value} {ro : Option Nat} {R : Ending → World → Prop} (hs : cYield r base h l args = some (v, h3))
    (hD : ∀ i, D i → i < h.length) (hb : base ≤ h.length) (hR : Rel E.P D β κ base N (toF h) w) (hDl : D l) (ha : LR D β κ args args')
    (hK : ∀ v' w' β' κ', Out E.P D β κ base N h w h3 w' β' κ' → VR (Up D h h3) β' κ' v v' → R (.returned v') w') :
    ∃ f tmps assign body, (Instr.yield (β l).1 ⟨args'⟩).run E.P w = .ok (.round (β l).1 f tmps assign body) w ∧ RoundIn (FW ro) 0 E.P (β l).1 f tmps assign body w R := by
  unfold cYield at hs
  split at hs
  · rename_i tmps params assign body hl
    split at hs
    · rename_i hc
      obtain ⟨hbl, hal⟩ := hc
      split at hs
      · rename_i a1 h1 hassign
        obtain ⟨rec, g1, g2, g3, g4, g5, g6, g7, _, _⟩ := Out.loop (st2 := .ready) (pend2 := none) hR hD hb hbl hl
        have hsz : (⟨args'⟩ : Array Value).size = rec.params.size := by
          have : rec.params.size = params.length := by rw [← g4]; simp
          rw [this, ← hal, ha.len]
          rfl
        refine ⟨rec.fn, _, rec.assign, rec.body, run_yield g1 hsz, roundIn_of_wpIn (F := FW ro) trivial ?_⟩
        rw [g5, g6]
        have ht := setAll_sim params args args' tmps rec.tmps ha g7 hal
        have e1 : (rec.params.zip (⟨args'⟩ : Array Value)).foldl (fun tmps (x : Tmp × Value) => tmps.setIfInBounds x.1 x.2) rec.tmps = (params.zip args').foldl (fun tmps (x : Tmp × Value) => tmps.setIfInBounds x.1 x.2) rec.tmps := by
          rw [← Array.foldl_toList, Array.toList_zip, g4]
        have act0 : ActR D β κ { tmps := setAll params args tmps } { tmps := (rec.params.zip (⟨args'⟩ : Array Value)).foldl (fun tmps (x : Tmp × Value) => tmps.setIfInBounds x.1 x.2) rec.tmps, defers := [] } :=
          ⟨by rw [e1]; exact ht, rfl, fun m hm => by simp at hm⟩
        refine CodeWp.wp (m := m) (hr.code (some l) base assign _ h .normal a1 h1 hassign D β κ N w _ (some (β l).1) _ hD hb hR act0 (.inr ⟨l, rfl, hDl, rfl⟩) fun β1 κ1 w1 a1' hO1 hA1 => ?_)
        have hβl : (β1 l) = β l := (hO1.ext l (hD l hDl)).1
        show ∃ w₂, _
        unfold cRound at hs
        split at hs
        · rename_i t2 p2 as2 b2 hl1
          split at hs
          · rename_i e a2 h2 hbody
            obtain ⟨rec1, k1, k2, k3, k4, k5, k6, k7, k8, _⟩ := Out.loop (st2 := .busy) (pend2 := none) hO1.rel (hO1.known hD) (Nat.le_trans hb hO1.le) hbl hl1
            rw [hβl] at k1 k8
            have hrec : ({ rec1 with state := .busy, pending := none } : Loop) = { rec1 with state := .busy } := by rw [← k3]
            rw [hrec] at k8
            refine ⟨_, run_beginRound k1 k2, ?_⟩
            have hO12 := hO1.trans k8
            have hUeq : Up (Up D h h1) h1 (h1.set l (.loop t2 p2 as2 b2 .busy none)) = Up D h h1 := Out.up_same (by simp)
            have hRel2 := k8.rel
            rw [hUeq] at hRel2
            have hD1 : ∀ i, Up D h h1 i → i < (h1.set l (.loop t2 p2 as2 b2 .busy none)).length := by simpa using hO1.known hD
            refine CodeWp.wp (m := m) (hr.code (some l) base body a1 _ e a2 h2 hbody (Up D h h1) β1 κ1 N _ _ (some (β l).1) _ hD1 (by simpa using Nat.le_trans hb hO1.le) hRel2 hA1 (.inr ⟨l, rfl, .inl hDl, by rw [hβl]⟩) fun β2 κ2 w2 a2' hO2 hA2 => ?_)
            have hO2' : Out E.P D β κ base N h w h2 w2 β2 κ2 := hO12.trans (by
              have : Up D h (h1.set l (.loop t2 p2 as2 b2 .busy none)) = Up D h h1 := by rw [← Up.trans hO1.le (by simp), hUeq]
              rw [this]; exact hO2)
            have hβ2 : β2 l = β l := (hO2'.ext l (hD l hDl)).1
            unfold endRound at hs
            split at hs
            · rename_i t3 p3 as3 b3 hl2
              have fin : ∀ (jump : Option Code) (st3 : LoopState), st3 = (if jump.isNone then .ready else .done) → (v, h3) = (.bool jump.isNone, h2.set l (.loop t3 p3 as3 b3 st3 jump)) →
                  ∃ v' w', (Instr.endRound (β l).1 jump).run E.P w2 = .ok v' w' ∧ R (.returned v') w' := by
                intro jump st3 hst he
                cases he
                obtain ⟨rec2, m1, m2, m3, m4, m5, m6, m7, m8, _⟩ := Out.loop (st2 := st3) (pend2 := jump) hO2'.rel (hO2'.known hD) (Nat.le_trans hb hO2'.le) hbl hl2
                rw [hβ2] at m1 m8
                refine ⟨_, _, run_endRound jump m1, hK _ _ β2 κ2 (hO2'.trans (by rw [hst] at m8 ⊢; exact m8)) (.bool _)⟩
              split at hs
              · exact fin none .ready rfl (Option.some.inj hs).symm
              · rename_i id
                exact fin (some (.exit id)) .done rfl (Option.some.inj hs).symm
              · exact fin (some .ret) .done rfl (Option.some.inj hs).symm
              · cases hs
            · cases hs
          · cases hs
        · cases hs
      · cases hs
    · cases hs
  · cases hs

/-- A CALL THAT MAY WRITE. -/
theorem iOp_wp {E : Env} {m : Nat} {r : Rec} (hr : Sound E m r) {ro : Option Nat} {h h' : List Blk} {ρ : Operand → Value} {o : Oper} {v : Value} {Q : Exit → Act → World → Prop} (hs : iOp E r base h ρ o = some (v, h'))
    {a' : Act} {next : Act → World → Prop} (hD : ∀ i, D i → i < h.length) (hb : base ≤ h.length) (hR : Rel E.P D β κ base N (toF h) w) (hρ : ∀ x, VR D β κ (ρ x) (a'.eval x))
    (hK : ∀ v' w' β' κ', Out E.P D β κ base N h w h' w' β' κ' → VR (Up D h h') β' κ' v v' → next (a'.put o.dst v') w') : o.wpIn (FW ro) 0 E.P a' w next Q := by
  unfold iOp at hs
  split at hs
  · rename_i f cargs ts ho
    have hnd : ∀ c, o.op ≠ .defer c := fun c e => by rw [ho] at e; cases e
    have hf := hρ f
    unfold iCall at hs
    split at hs
    · rename_i g first captured hfv
      rw [hfv] at hf
      split at hs
      · have hP := hr.icall _ _ _ _ _ _ hs
        generalize hf' : a'.eval f = fv at hf
        cases hf with
        | func _ f1 f1' c1 c1' h1 h2 h3 h4 =>
          have hargs : LR D β κ (f1 ++ cargs.toList.map ρ ++ c1) (f1' ++ cargs.toList.map a'.eval ++ c1') := (LR.app ⟨h1, h2⟩ (LR.args hρ _)).app ⟨h3, h4⟩
          have hrun : (execOp a'.eval o).run E.P w = .ok (.enter g (⟨f1' ++ cargs.toList.map a'.eval ++ c1'⟩ : Array Value)) w := by
            have e1 : (⟨f1'⟩ : Array Value) ++ Array.map a'.eval cargs ++ (⟨c1'⟩ : Array Value) = ⟨f1' ++ cargs.toList.map a'.eval ++ c1'⟩ := by
              apply Array.ext'; simp
            have e2 := run_callFunc hP.1 ((⟨f1'⟩ : Array Value) ++ Array.map a'.eval cargs ++ (⟨c1'⟩ : Array Value)) w
            rw [e1] at e2
            simp only [execOp, ho, resolve, hf', Deferred.ofValue, Sem.run_bind, Sem.run_pure, Result.andThen_ok, invoke]
            rw [e1]
            exact e2
          refine wp_of_enter hnd hrun (Calls.mono (hP.2 D β κ N w _ hD hb hR hargs) ?_)
          rintro e w'' ⟨v', β', κ', rfl, hO, hv⟩
          exact ⟨v', rfl, hK _ _ _ _ hO hv⟩
      · cases hs
    · rename_i l first captured hfv
      rw [hfv] at hf
      split at hs
      · rename_i hc
        generalize hf' : a'.eval f = fv at hf
        cases hf with
        | yield _ hl =>
          have hargs := LR.args hρ cargs.toList
          obtain ⟨f, tmps, assign, body, h1, h2⟩ := yield_sound (ro := ro) (R := fun e w'' => ∃ v, e = .returned v ∧ next (a'.put o.dst v) w'') hr hs hD hb hR hl hargs (fun v' w' β' κ' hO hv => ⟨v', rfl, hK _ _ _ _ hO hv⟩)
          refine wp_of_round hnd ?_ h2
          rw [← mapO] at h1
          simp only [execOp, ho, resolve, hf', Deferred.ofValue, Sem.run_bind, Sem.run_pure, Result.andThen_ok, invoke, Array.empty_append]
          exact h1
      · cases hs
    · cases hs
  · cases hs
end
end Go.Cl
