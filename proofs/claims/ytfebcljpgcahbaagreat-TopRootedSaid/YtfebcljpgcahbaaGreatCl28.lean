/- The framework, Cl19 to Cl28. -/
import Derived.Test.YtfebcljpgcahbaaGreatCl18
import Derived.OrdersIn
/- Code: the clean interpreter is right. (A region that draws its order: as a premise.) -/
set_option linter.unusedSimpArgs false
set_option linter.unusedVariables false
namespace Go.Cl
open Go Go.RowKit

section
variable {P : Program} {w : World} {D : Nat → Prop} {β : Nat → Nat × Nat} {κ : Nat → Nat} {base n : Nat} {N : Kp} {H : Nat → Blk}

/-- A block is laid. -/
theorem Out.one {h : List Blk} {b : Blk} {o : Obj} (hR : Rel P D β κ base N (toF h) w) (hD : ∀ i, D i → i < h.length) (hb : base ≤ h.length)
    (hB : ∀ β' κ', β' h.length = (w.heap.size, 0) → (∀ i, i ≠ h.length → β' i = β i ∧ κ' i = κ i) → BR P (fun i => D i ∨ InNew h.length 1 i) β' κ' h.length b (w.alloc o) ∧ OwnB P β' κ' h.length b (w.alloc o)) :
    ∃ β' κ', Out P D β κ base N h w (h ++ [b]) (w.alloc o) β' κ' ∧ β' h.length = (w.heap.size, 0) := by
  have hn : ∀ i, D i → i ≠ h.length := fun i hi e => by have := hD i hi; omega
  obtain ⟨β', κ', hq⟩ := QOut.one (P := P) (D := D) (β := β) (κ := κ) (base := base) (v := .pointer (some ⟨h.length, 0, none⟩)) (v' := .pointer (some ⟨w.heap.size, 0, none⟩)) (b := b) (o := o) hR.size hn
    (fun β' κ' hβ hκ he => ⟨(hB β' κ' hβ he).1, (hB β' κ' hβ he).2, vr_newptr hβ⟩)
  have h1 := (Out.of_q hR hD hb hq (fun k b' e => by cases e)).1
  have e : (QRes.heap { val := .pointer (some ⟨h.length, 0, none⟩), new := [b] } h) = h ++ [b] := by simp [QRes.heap]
  rw [e] at h1
  refine ⟨β', κ', h1, ?_⟩
  have hv := hq.val
  generalize hx : (Value.pointer (some ⟨w.heap.size, 0, none⟩)) = x at hv
  cases hv with
  | ptr i o hi =>
    simp only [Value.pointer.injEq, Option.some.injEq, Addr.mk.injEq] at hx
    obtain ⟨h1, h2, _⟩ := hx
    have h2' : (β' h.length).2 = 0 := by simpa using h2.symm
    exact Prod.ext h1.symm h2'

/-- What lies around a loop over a function: laid, or found. -/
theorem mark_sound {ro R : Option Nat} {a a1 : CAct} {a' : Act} {h h1 : List Blk} (hs : rangeMark base ro a h = some (a1, h1)) (hD : ∀ i, D i → i < h.length) (hb : base ≤ h.length) (hR : Rel P D β κ base N (toF h) w)
    (hA : ActR D β κ a a') (hr : RoR D β ro R) :
    ∃ (β1 : Nat → Nat × Nat) (κ1 : Nat → Nat) (w1 : World) (mk : List Deferred) (dfs : Nat), Out P D β κ base N h w h1 w1 β1 κ1 ∧ ActR (Up D h h1) β1 κ1 a1 { a' with defers := mk ++ a'.defers } ∧ a1.tmps = a.tmps ∧
      ∀ fn ps as body, (Instr.enterLoop fn a'.tmps ps as body R).run P w = .ok (w1.heap.size, mk) (w1.alloc (.loop { state := .ready, pending := none, fn, tmps := a'.tmps, params := ps, assign := as, body, defers := dfs })) := by
  unfold rangeMark at hs
  split at hs
  · cases hs
    rcases hr with ⟨_, rfl⟩ | ⟨l0, h0, _⟩
    · obtain ⟨β1, κ1, hO, hβ⟩ := Out.one (b := .mark) (o := .deferred (some [])) hR hD hb (fun β' κ' hβ he => ⟨by show _ = _; rw [hβ]; exact heap_alloc_new, trivial⟩)
      refine ⟨β1, κ1, _, [{ target := .collected w.heap.size, args := #[] }], w.heap.size, hO, ?_, rfl, fun fn ps as body => ?_⟩
      · have hA1 := hA.out hO hD
        refine ⟨hA1.tmps, ?_, ?_⟩
        · show [_] ++ a'.defers = _
          rw [hA1.marks]
          simp [hβ]
        · intro m hm
          simp only [List.mem_cons] at hm
          rcases hm with rfl | hm
          · exact .inr ⟨Nat.le_refl _, by simp⟩
          · exact hA1.known m hm
      · rw [run_enterLoop_outer]
        simp
    · cases h0
  · rename_i l0
    split at hs
    · rename_i t p as0 b0 st pend hl
      split at hs
      · cases hs
        rcases hr with ⟨h0, _⟩ | ⟨l1, h0, hDl, rfl⟩
        · cases h0
        · cases h0
          have hB := hR.blk l0
          rw [toF_some hl] at hB
          obtain ⟨rec, g1, _⟩ := hB
          refine ⟨β, κ, w, [], rec.defers, Out.refl hR, by rw [Up.self]; exact hA, rfl, fun fn ps as body => ?_⟩
          simp [Instr.enterLoop, Sem.run_bind, run_getLoop g1]
      · cases hs
    · cases hs

/-- A LOOP OVER A FUNCTION. -/
theorem range_sound {E : Env} {m : Nat} {r : Rec} (hr : Sound E m r) {ro : Option Nat} {g : Operand} {params : Array Tmp} {assign body : Code} {a a1 : CAct} {h h1 : List Blk} {e : Exit}
    (hs : codeRange E r ro base params assign body a h (a.eval g) = some (e, a1, h1)) (m' : Nat) : CodeSim E.P m' ro base (.rangeFunc g params assign body) a h e a1 h1 := by
  intro D β κ N w a' R Q hD hb hR hA hro hQ
  show (Code.rangeFunc g params assign body).wpIn (FW R) 0 E.P Q a' w
  unfold codeRange at hs
  have hg := hA.eval g
  split at hs
  · rename_i f first captured hgv
    rw [hgv] at hg
    split at hs
    · rename_i am hm hmark
      split at hs
      · -- the function is called
        split at hs
        · rename_i v2 h2 hcall
          have hI := hr.icall _ _ _ _ _ _ hcall
          refine wpIn_rangeFunc fun fn _ => ?_
          obtain ⟨β1, κ1, w1, mk, dfs, hO1, hA1, htm, henter⟩ := mark_sound hmark hD hb hR hA hro
          have hD1 := hO1.known hD
          have hb1 := Nat.le_trans hb hO1.le
          -- the loop's record
          obtain ⟨β2, κ2, hO2, hβ2⟩ := Out.one (b := .loop a.tmps params.toList assign body .ready none)
            (o := .loop { state := .ready, pending := none, fn := fn, tmps := a'.tmps, params := params, assign := assign, body := body, defers := dfs }) hO1.rel hD1 hb1
            (fun β' κ' hβ he => ⟨⟨_, by rw [hβ]; exact heap_alloc_new, rfl, rfl, rfl, rfl, rfl, by
              have := hA1.tmps
              rw [htm] at this
              exact this.mono (fun _ h => .inl h) (fun i hi => he i (fun e => by have := hD1 i hi; omega))⟩, trivial⟩)
          have hO12 := hO1.trans hO2
          have hD2 := hO2.known hD1
          have hb2 : base ≤ (hm ++ [Blk.loop a.tmps params.toList assign body .ready none]).length := by simp; omega
          have hl : Up (Up D h hm) hm (hm ++ [Blk.loop a.tmps params.toList assign body .ready none]) hm.length := .inr ⟨Nat.le_refl _, by simp⟩
          generalize hg' : a'.eval g = gv at hg
          cases hg with
          | func _ f1 f1' c1 c1' k1 k2 k3 k4 =>
            -- the arguments
            have up2 : ∀ {x y : List Value}, LR D β κ x y → LR (Up (Up D h hm) hm (hm ++ [Blk.loop a.tmps params.toList assign body .ready none])) β2 κ2 x y := fun hxy =>
              (hxy.mono (fun _ h => .inl h) (hO1.ext' hD)).mono (fun _ h => .inl h) (hO2.ext' hD1)
            have hyield : VR (Up (Up D h hm) hm (hm ++ [Blk.loop a.tmps params.toList assign body .ready none])) β2 κ2 (.func (.yield hm.length) #[] #[]) (.func (.yield w1.heap.size) #[] #[]) := by
              have := VR.yield (β := β2) (κ := κ2) hm.length hl
              rw [hβ2] at this
              exact this
            have hargs := ((up2 ⟨k1, k2⟩).app (LR.cons hyield LR.nil)).app (up2 ⟨k3, k4⟩)
            refine ⟨w1.heap.size, mk, _, { target := .fn (.func f) ⟨c1'⟩, args := ⟨f1'⟩ ++ #[.func (.yield w1.heap.size) #[] #[]] }, w1.alloc (.loop { state := .ready, pending := none, fn := fn, tmps := a'.tmps, params := params, assign := assign, body := body, defers := dfs }), f, ⟨f1' ++ [.func (.yield w1.heap.size) #[] #[]] ++ c1'⟩, _, henter fn params assign body, ?_, fun _ _ => trivial, ?_, fun h => by simp [FW] at h, callsIn_FW.2 (Calls.mono (hI.2 _ β2 κ2 N _ _ hD2 hb2 hO2.rel hargs) ?_)⟩
            · have e1 : (#[Operand.const (Value.func (.yield w1.heap.size) #[] #[])] : Array Operand).map a'.eval = #[Value.func (.yield w1.heap.size) #[] #[]] := by simp [Act.eval]
              simp only [resolve, rangeCall]
              rw [e1, hg']
              rfl
            · have e2 := run_callFunc hI.1 (⟨f1' ++ [Value.func (.yield w1.heap.size) #[] #[]] ++ c1'⟩ : Array Value) (w1.alloc (.loop { state := .ready, pending := none, fn := fn, tmps := a'.tmps, params := params, assign := assign, body := body, defers := dfs }))
              have e1 : (⟨f1'⟩ : Array Value) ++ #[Value.func (.yield w1.heap.size) #[] #[]] ++ (⟨c1'⟩ : Array Value) = ⟨f1' ++ [Value.func (.yield w1.heap.size) #[] #[]] ++ c1'⟩ := by
                apply Array.ext'; simp
              rw [← e1] at e2 ⊢
              exact e2
            · -- behind the call
              rintro e' w3 ⟨v', β3, κ3, rfl, hO3, _⟩
              have hO13 : Out E.P (Up D h hm) β1 κ1 base N hm w1 h2 w3 β3 κ3 := hO2.trans hO3
              have hO03 : Out E.P D β κ base N h w h2 w3 β3 κ3 := hO1.trans hO13
              have hβ3 : β3 hm.length = (w1.heap.size, 0) := by rw [(hO3.ext hm.length (by simp)).1, hβ2]
              have hD3 := hO03.known hD
              have hb3 := Nat.le_trans hb hO03.le
              have hbl : base ≤ hm.length := hb1
              have hA3 : ActR (Up D h h2) β3 κ3 am { a' with defers := mk ++ a'.defers } := by
                have := hA1.out hO13 hD1
                rw [Up.trans hO1.le hO13.le] at this
                exact this
              have hro3 : RoR (Up D h h2) β3 ro R := hro.out hO03 hD
              have fin : ∀ (t : List Value) (p : List Tmp) (as bd : Code) (st : LoopState) (pend : Option Code), h2[hm.length]? = some (.loop t p as bd st pend) → st ≠ .busy →
                  (match pend with | none => (e, a1, h1) = (.normal, am, h2.set hm.length .dead) | some c => r.code ro base c am (h2.set hm.length .dead) = some (e, a1, h1)) →
                  rangePost (FW R) 0 E.P w1.heap.size Q { a' with defers := mk ++ a'.defers } (.returned v') w3 := by
                intro t p as bd st pend hl2 hst hc
                obtain ⟨rec, m1, m2, m3, _, _, _, _, _, m8⟩ := Out.loop (st2 := .ready) (pend2 := none) hO03.rel hD3 hb3 hbl hl2
                rw [hβ3] at m1
                have hU : Up (Up D h h2) h2 (h2.set hm.length .dead) = Up D h h2 := Out.up_same (by simp)
                have hOx := m8 (.loop { rec with state := .exhausted })
                rw [hβ3] at hOx
                have hO4 := hO03.trans hOx
                refine ⟨pend, w3.putObj w1.heap.size (.loop { rec with state := .exhausted }), by rw [← m3]; exact run_endLoop m1 (by rw [m2]; exact hst), ?_⟩
                cases pend with
                | none =>
                  simp only at hc
                  cases hc
                  refine hQ β3 κ3 _ _ hO4 ?_
                  rw [← Up.trans hO03.le (by simp), hU]
                  exact hA3
                | some c =>
                  have hRel := hOx.rel
                  rw [hU] at hRel
                  refine CodeWp.wp (m := m) (hr.code ro base c am _ e a1 h1 hc (Up D h h2) β3 κ3 N _ _ R Q (by simpa using hD3) (by simpa using hb3) hRel hA3 hro3 fun β4 κ4 w4 a4 hO5 hA5 => ?_)
                  have hU2 : Up D h (h2.set hm.length .dead) = Up D h h2 := by rw [← Up.trans hO03.le (by simp), hU]
                  have hO6 := hO4.trans (by rw [hU2]; exact hO5)
                  refine hQ β4 κ4 w4 a4 hO6 ?_
                  rw [← Up.trans hO4.le hO5.le, hU2]
                  exact hA5
              split at hs
              · rename_i t p as bd hl2
                exact fin t p as bd .ready none hl2 (by simp) (Option.some.inj hs).symm
              · rename_i t p as bd c hl2
                exact fin t p as bd .done (some c) hl2 (by simp) hs
              · cases hs
        · cases hs
      · cases hs
    · cases hs
  · cases hs

/-- What is asked of regions that draw their order. -/
def DrawOk (E : Env) (r : Rec) : Prop := ∀ (base : Nat) (ops : Array Oper) (id : Nat) (a : CAct) (h : List Blk) (e : Exit) (a1 : CAct) (h1 : List Blk) (m : Nat) (ro : Option Nat),
  codeDraw E r base ops a h = some (e, a1, h1) → CodeSim E.P m ro base (.region id ops true) a h e a1 h1

theorem stepR_scope {P : Program} {b : Frame} {a : Act} {k : List Item} {cs : List Frame} {w : World} {c : Code} : step P (lone (b.atR a (.code (.scope c) :: k)) cs w) = .next (lone (b.atR a (.code c :: .inScope c :: k)) cs w) :=
  step_lone_go (by simp [stepG, stepG.exec, Frame.atR])
theorem stepR_inScope {P : Program} {b : Frame} {a : Act} {k : List Item} {cs : List Frame} {w : World} {c : Code} : step P (lone (b.atR a (.inScope c :: k)) cs w) = .next (lone (b.atR a k) cs w) :=
  step_lone_go (by simp [stepG, stepG.exec, Frame.atR])
def noGoto (Q : Exit → Act → World → Prop) : Exit → Act → World → Prop
  | .goto _, _, _ => False
  | e, a, w => Q e a w
theorem wpIn_scope {F : Fence} {n : Nat} {P : Program} {Q : Exit → Act → World → Prop} {a : Act} {w : World} {c : Code} (h : c.wpIn F n P (noGoto Q) a w) : (Code.scope c).wpIn F n P Q a w := by
  intro b k cs hro hb hr
  have h0 : (lone (b.atR a (.code (.scope c) :: k)) cs w).fenced P F := fenced_calm hb hr rfl
  obtain ⟨e, a₁, w₁, hq, harr⟩ := h b (.inScope c :: k) cs hro hb hr
  cases e with
  | normal => exact ⟨.normal, a₁, w₁, hq, .head h0 stepR_scope (StepsIn.trans harr (.one (fenced_calm hb hr rfl) stepR_inScope))⟩
  | exit id =>
    have hx : exitTo id (.inScope c :: k) = exitTo id k := by simp [exitTo]
    exact ⟨.exit id, a₁, w₁, hq, fun k' hk => .head h0 stepR_scope (harr.1 k' (by rw [hx]; exact hk)),
      fun hr' hk => let ⟨k₁, h1, h2⟩ := harr.2 hr' (by rw [hx]; exact hk); ⟨k₁, h1, .head h0 stepR_scope h2⟩⟩
  | goto l => exact hq.elim
  | ret => exact ⟨_, a₁, w₁, hq, .of_steps (.one h0 stepR_scope) harr⟩
  | panic ch => exact ⟨_, a₁, w₁, hq, .of_steps (.one h0 stepR_scope) harr⟩
  | outgrown => exact ⟨_, a₁, w₁, hq, .of_steps (.one h0 stepR_scope) harr⟩

/-- ONE MORE LAYER. -/
theorem step_sound {E : Env} {m : Nat} {r : Rec} (hS : SumOk E) (hr : Sound E m r) (hdraw : DrawOk E r) {ro : Option Nat} {base : Nat} {c : Code} {a : CAct} {h : List Blk} {e : Exit} {a1 : CAct} {h1 : List Blk}
    (hs : stepCode E r ro base c a h = some (e, a1, h1)) : CodeSim E.P (m + 1) ro base c a h e a1 h1 := by
  -- one behind the other
  have seq : ∀ (x : Option (Exit × CAct × List Blk)) (y : Code), codeSeq r ro base y x = some (e, a1, h1) →
      ∃ ex ax hx, x = some (ex, ax, hx) ∧ ((ex = .normal ∧ r.code ro base y ax hx = some (e, a1, h1)) ∨ (ex ≠ .normal ∧ (ex, ax, hx) = (e, a1, h1))) := by
    intro x y hx
    unfold codeSeq at hx
    split at hx
    · rename_i ax hx2; exact ⟨_, _, _, rfl, .inl ⟨rfl, hx⟩⟩
    · rename_i hne
      subst hx
      exact ⟨_, _, _, rfl, .inr ⟨fun he => by subst he; exact hne a1 h1 rfl, rfl⟩⟩
  unfold stepCode at hs
  split at hs
  · -- skip
    cases hs
    intro D β κ N w a' R Q hD hb hR hA hro hQ
    exact wpIn_skip (hQ β κ w a' (Out.refl hR) (by rw [Up.self]; exact hA))
  · -- a region in order
    rename_i id ops
    cases hso : seqOps E r base ops.toList ops.toList a h with
    | none => rw [hso] at hs; cases hs
    | some p =>
      rw [hso] at hs
      cases hs
      intro D β κ N w a' R Q hD hb hR hA hro hQ
      refine wpIn_region_list (seqOps_wp (N := N) (fun h g args v new hc => callQ_sound hS hr h g args v new hc) (fun h h' ρ o v hio D β κ w a' next hD hb hR hρ _ hK => iOp_wp hr hio hD hb hR hρ hK)
        ops.toList a h p.1 p.2 hso D β κ w a' hD hb hR hA (fun l hl => ?_) fun β' κ' w' a1' hO hA' => hQ β' κ' w' a1' hO hA')
      rcases hro with ⟨_, rfl⟩ | ⟨l0, _, h0, rfl⟩
      · cases hl
      · cases hl; exact ⟨l0, h0, rfl⟩
  · rename_i id ops
    exact hdraw base ops id a h e a1 h1 (m + 1) ro hs
  · -- seq
    rename_i x y
    obtain ⟨ex, ax, hx, h1x, hc⟩ := seq _ _ hs
    intro D β κ N w a' R Q hD hb hR hA hro hQ
    refine wpIn_seq (CodeWp.wp (m := m) (hr.code ro base x a h ex ax hx h1x D β κ N w a' R _ hD hb hR hA hro fun β1 κ1 w1 a2 hO1 hA1 => ?_))
    rcases hc with ⟨rfl, hy⟩ | ⟨hne, he⟩
    · refine CodeWp.wp (m := m) (hr.code ro base y ax hx e a1 h1 hy (Up D h hx) β1 κ1 N w1 a2 R Q (hO1.known hD) (Nat.le_trans hb hO1.le) hO1.rel hA1 (hro.out hO1 hD) fun β2 κ2 w2 a3 hO2 hA2 => ?_)
      refine hQ β2 κ2 w2 a3 (hO1.trans hO2) ?_
      rw [← Up.trans hO1.le hO2.le]; exact hA2
    · cases he
      cases e with
      | normal => exact absurd rfl hne
      | _ => exact hQ β1 κ1 w1 a2 hO1 hA1
  · -- cond
    rename_i cv x y
    intro D β κ N w a' R Q hD hb hR hA hro hQ
    have hcv := hA.eval cv
    unfold codeCond at hs
    split at hs
    · rename_i hv
      rw [hv] at hcv
      have : a'.eval cv = .bool true := by
        generalize a'.eval cv = z at hcv
        cases hcv; rfl
      exact wpIn_cond_true this (CodeWp.wp (m := m) (hr.code ro base x a h e a1 h1 hs D β κ N w a' R Q hD hb hR hA hro hQ))
    · rename_i hv
      rw [hv] at hcv
      have : a'.eval cv = .bool false := by
        generalize a'.eval cv = z at hcv
        cases hcv; rfl
      exact wpIn_cond_false this (CodeWp.wp (m := m) (hr.code ro base y a h e a1 h1 hs D β κ N w a' R Q hD hb hR hA hro hQ))
    · cases hs
  · -- block
    rename_i id c
    unfold codeBlock at hs
    intro D β κ N w a' R Q hD hb hR hA hro hQ
    split at hs
    · rename_i i ax hx hcx
      cases hs
      refine wpIn_block (CodeWp.wp (m := m) (hr.code ro base c a h _ a1 h1 hcx D β κ N w a' R _ hD hb hR hA hro fun β1 κ1 w1 a2 hO1 hA1 => ?_))
      have := hQ β1 κ1 w1 a2 hO1 hA1
      simp only [Exit.inBlock]
      split
      · rename_i hi; rw [if_pos hi] at this; exact this
      · rename_i hi; rw [if_neg hi] at this; exact this
    · rename_i hne
      refine wpIn_block (CodeWp.wp (m := m) (hr.code ro base c a h e a1 h1 hs D β κ N w a' R _ hD hb hR hA hro fun β1 κ1 w1 a2 hO1 hA1 => ?_))
      have := hQ β1 κ1 w1 a2 hO1 hA1
      cases e with
      | exit i => exact absurd hs (hne i a1 h1)
      | _ => exact this
  · -- loop
    rename_i c
    obtain ⟨ex, ax, hx, h1x, hc⟩ := seq _ _ hs
    intro D β κ N w a' R Q hD hb hR hA hro hQ
    show Code.roundsIn (FW R) 0 E.P c Q (m + 1) a' w
    rw [roundsIn_succ]
    refine CodeWp.wp (m := m) (hr.code ro base c a h ex ax hx h1x D β κ N w a' R _ hD hb hR hA hro fun β1 κ1 w1 a2 hO1 hA1 => ?_)
    rcases hc with ⟨rfl, hy⟩ | ⟨hne, he⟩
    · refine hr.code ro base (.loop c) ax hx e a1 h1 hy (Up D h hx) β1 κ1 N w1 a2 R Q (hO1.known hD) (Nat.le_trans hb hO1.le) hO1.rel hA1 (hro.out hO1 hD) fun β2 κ2 w2 a3 hO2 hA2 => ?_
      refine hQ β2 κ2 w2 a3 (hO1.trans hO2) ?_
      rw [← Up.trans hO1.le hO2.le]; exact hA2
    · cases he
      cases e with
      | normal => exact absurd rfl hne
      | _ => exact hQ β1 κ1 w1 a2 hO1 hA1
  · -- scope
    rename_i c
    unfold codeScope at hs
    intro D β κ N w a' R Q hD hb hR hA hro hQ
    split at hs
    · cases hs
    · rename_i hne
      refine wpIn_scope (CodeWp.wp (m := m) (hr.code ro base c a h e a1 h1 hs D β κ N w a' R _ hD hb hR hA hro fun β1 κ1 w1 a2 hO1 hA1 => ?_))
      have := hQ β1 κ1 w1 a2 hO1 hA1
      cases e with
      | goto l => exact absurd hs (hne l a1 h1)
      | _ => exact this
  · cases hs
    intro D β κ N w a' R Q hD hb hR hA hro hQ
    exact wpIn_label (hQ β κ w a' (Out.refl hR) (by rw [Up.self]; exact hA))
  · cases hs
    intro D β κ N w a' R Q hD hb hR hA hro hQ
    exact wpIn_exit (hQ β κ w a' (Out.refl hR) (by rw [Up.self]; exact hA))
  · cases hs
    intro D β κ N w a' R Q hD hb hR hA hro hQ
    exact wpIn_ret (hQ β κ w a' (Out.refl hR) (by rw [Up.self]; exact hA))
  · rename_i g params assign body
    exact range_sound hr hs (m + 1)
  · cases hs

theorem layer_sound {E : Env} {m : Nat} {r : Rec} (hS : SumOk E) (hr : Sound E m r) (hdraw : DrawOk E r) : Sound E (m + 1) (layer E r) where
  pcall := fun g args h v new hs => by
    have hs : ((runBody E r h.length g args h).map fun (v, h') => tidy h.length v h') = some (v, new) := hs
    cases hb : runBody E r h.length g args h with
    | none => rw [hb] at hs; cases hs
    | some p =>
      rw [hb] at hs
      have e := Option.some.inj hs
      have := pure_of_imp (runBody_sound hr hb)
      have e1 : tidy h.length p.1 p.2 = (v, new) := e
      rw [e1] at this
      exact this
  icall := fun g args base h v h1 hs => by
    have hs : (match (match E.isum g with | some s => s args base h | none => none) with | some p => some p | none => runBody E r base g args h) = some (v, h1) := hs
    split at hs
    · rename_i p hp
      cases hs
      split at hp
      · rename_i s hs; exact hS.imp g s args base h v h1 hs hp
      · cases hp
    · exact runBody_sound hr hs
  code := fun ro base c a h e a1 h1 hs => step_sound hS hr hdraw hs

theorem none_sound (E : Env) (m : Nat) : Sound E m Rec.none where
  pcall := fun g args h v new hs => by cases hs
  icall := fun g args base h v h1 hs => by cases hs
  code := fun ro base c a h e a1 h1 hs => by cases hs
end
end Go.Cl
/- The order of a region's operations: what stands before what. -/
set_option linter.unusedSimpArgs false
set_option linter.unusedVariables false
namespace Go.Cl
open Go Go.RowKit

theorem array_reverse {α : Type} {motive : List α → Prop} (l : List α) (nil : motive []) (app : ∀ l x, motive l → motive (l ++ [x])) : motive l := by
  rw [← List.reverse_reverse l]
  induction l.reverse with
  | nil => exact nil
  | cons x l ih => rw [List.reverse_cons]; exact app _ _ ih

/-- One operation's predecessors. -/
def oneBefore (get : Nat → Nat) (o : Oper) : Nat := o.after.foldl (fun s e => if Region.binds .any e then s ||| 2 ^ e.on ||| get e.on else s) 0

theorem oneBefore_bit (get : Nat → Nat) (o : Oper) (i : Nat) : (oneBefore get o).testBit i = true ↔ ∃ e ∈ o.after.toList, Region.binds .any e = true ∧ (e.on = i ∨ (get e.on).testBit i = true) := by
  unfold oneBefore
  rw [← Array.foldl_toList]
  have gen : ∀ (l : List Edge) (s : Nat), (l.foldl (fun s e => if Region.binds .any e then s ||| 2 ^ e.on ||| get e.on else s) s).testBit i = true ↔
      (s.testBit i = true ∨ ∃ e ∈ l, Region.binds .any e = true ∧ (e.on = i ∨ (get e.on).testBit i = true)) := by
    intro l
    induction l with
    | nil => intro s; simp
    | cons e l ih =>
      intro s
      rw [List.foldl_cons, ih]
      by_cases hb : Region.binds .any e = true
      · rw [if_pos hb]
        simp only [Nat.testBit_or, Bool.or_eq_true, Nat.testBit_two_pow, decide_eq_true_eq, List.mem_cons, exists_eq_or_imp, hb, true_and]
        constructor
        · rintro (((h | h) | h) | h)
          · exact .inl h
          · exact .inr (.inl (.inl h))
          · exact .inr (.inl (.inr h))
          · exact .inr (.inr h)
        · rintro (h | (h | h) | h)
          · exact .inl (.inl (.inl h))
          · exact .inl (.inl (.inr h))
          · exact .inl (.inr h)
          · exact .inr h
      · rw [if_neg hb]
        simp only [List.mem_cons, exists_eq_or_imp, hb, Bool.false_eq_true, false_and, false_or]
  rw [gen]
  simp

theorem before_spec (l : List Oper) : (l.foldl (init := #[]) fun acc o => acc.push (oneBefore (fun i => acc.getD i 0) o)).size = l.length ∧
    ∀ j o, l[j]? = some o → (l.foldl (init := #[]) fun acc o => acc.push (oneBefore (fun i => acc.getD i 0) o)).getD j 0 =
      oneBefore (fun i => if i < j then (l.foldl (init := #[]) fun acc o => acc.push (oneBefore (fun i => acc.getD i 0) o)).getD i 0 else 0) o := by
  refine array_reverse (motive := fun l => (l.foldl (init := #[]) fun acc o => acc.push (oneBefore (fun i => acc.getD i 0) o)).size = l.length ∧
    ∀ j o, l[j]? = some o → (l.foldl (init := #[]) fun acc o => acc.push (oneBefore (fun i => acc.getD i 0) o)).getD j 0 =
      oneBefore (fun i => if i < j then (l.foldl (init := #[]) fun acc o => acc.push (oneBefore (fun i => acc.getD i 0) o)).getD i 0 else 0) o) l ⟨rfl, fun j o h => by simp at h⟩ ?_
  intro l x ⟨h1, h2⟩
  rw [List.foldl_append]
  generalize l.foldl (init := #[]) (fun acc o => acc.push (oneBefore (fun i => acc.getD i 0) o)) = B at h1 h2
  simp only [List.foldl_cons, List.foldl_nil]
  have getpush : ∀ i v, i < l.length → (B.push v).getD i 0 = B.getD i 0 := fun i v hi => by
    simp only [Array.getD_eq_getD_getElem?]
    rw [Array.getElem?_push_lt (by omega), Array.getElem?_eq_getElem (by omega)]
  refine ⟨by simp [h1], fun j o hj => ?_⟩
  by_cases hl : j < l.length
  · rw [List.getElem?_append_left hl] at hj
    rw [getpush j _ hl, h2 j o hj]
    congr 1
    funext i
    split
    · rw [getpush i _ (by omega)]
    · rfl
  · have hjl : j < l.length + 1 := by simpa using (List.getElem?_eq_some_iff.1 hj).1
    have : j = l.length := by omega
    subst this
    simp at hj
    subst hj
    have e1 : (B.push (oneBefore (fun i => B.getD i 0) x)).getD l.length 0 = oneBefore (fun i => B.getD i 0) x := by
      simp only [Array.getD_eq_getD_getElem?, ← h1, Array.getElem?_push_size, Option.getD_some]
    rw [e1]
    congr 1
    funext i
    split
    · rename_i hi; rw [getpush i _ hi]
    · rename_i hi; simp [Array.getD_eq_getD_getElem?, Array.getElem?_eq_none (show B.size ≤ i by omega)]

/-- Operation i stands before operation j. -/
def anc (ops : Array Oper) (j i : Nat) : Bool := ((Region.before ops).toList.getD j 0).testBit i

section
variable {ops : Array Oper}

theorem anc_iff {j i : Nat} {o : Oper} (ho : ops[j]? = some o) : anc ops j i = true ↔ ∃ e ∈ o.after.toList, Region.binds .any e = true ∧ (e.on = i ∨ (e.on < j ∧ anc ops e.on i = true)) := by
  obtain ⟨h1, h2⟩ := before_spec ops.toList
  have e : Region.before ops = ops.toList.foldl (init := #[]) fun acc o => acc.push (oneBefore (fun i => acc.getD i 0) o) := by
    unfold Region.before oneBefore
    rw [← Array.foldl_toList]
  have h3 := h2 j o (by simpa using ho)
  rw [← e] at h3
  have e2 : ∀ k, (Region.before ops).toList.getD k 0 = (Region.before ops).getD k 0 := fun k => by simp [List.getD, Array.getD_eq_getD_getElem?]
  unfold anc
  rw [e2, h3, oneBefore_bit]
  constructor
  · rintro ⟨e, he, hb, h | h⟩
    · exact ⟨e, he, hb, .inl h⟩
    · by_cases hl : e.on < j
      · rw [if_pos hl] at h
        exact ⟨e, he, hb, .inr ⟨hl, by rw [e2]; exact h⟩⟩
      · rw [if_neg hl] at h
        simp at h
  · rintro ⟨e, he, hb, h | ⟨hl, h⟩⟩
    · exact ⟨e, he, hb, .inl h⟩
    · refine ⟨e, he, hb, .inr ?_⟩
      simp only [if_pos hl]
      rw [e2] at h
      exact h

theorem back_spec : ∀ (l : List Oper) (k : Nat), edgesBack l k = true → ∀ (j : Nat) (o : Oper), l[j]? = some o → ∀ e ∈ o.after.toList, Region.binds .any e = true → e.on < k + j
  | [], _, _, j, o, ho => by simp at ho
  | x :: l, k, h, 0, o, ho => by
    simp only [edgesBack, Bool.and_eq_true, List.all_eq_true, Bool.or_eq_true, Bool.not_eq_true', decide_eq_true_eq] at h
    simp at ho
    subst ho
    intro e he hb
    rcases h.1 e he with h1 | h1
    · rw [hb] at h1; cases h1
    · omega
  | x :: l, k, h, j + 1, o, ho => by
    simp only [edgesBack, Bool.and_eq_true] at h
    intro e he hb
    have := back_spec l (k + 1) h.2 j o (by simpa using ho) e he hb
    omega


theorem edge_lt (hback : edgesBack ops.toList 0 = true) {j : Nat} {o : Oper} (ho : ops[j]? = some o) {e : Edge} (he : e ∈ o.after.toList) (hb : Region.binds .any e = true) : e.on < j := by
  have := back_spec ops.toList 0 hback j o (by simpa using ho) e he hb
  omega

theorem anc_lt (hback : edgesBack ops.toList 0 = true) : ∀ (j i : Nat), j < ops.size → anc ops j i = true → i < j := by
  intro j
  induction j using Nat.strongRecOn with
  | _ j ih =>
    intro i hj h
    obtain ⟨e, he, hb, h | ⟨hl, h⟩⟩ := (anc_iff (Array.getElem?_eq_getElem hj)).1 h
    · subst h; exact edge_lt hback (Array.getElem?_eq_getElem hj) he hb
    · have := ih e.on hl i (by omega) h
      omega

theorem anc_trans (hback : edgesBack ops.toList 0 = true) : ∀ (j i k : Nat), j < ops.size → anc ops j i = true → anc ops i k = true → anc ops j k = true := by
  intro j
  induction j using Nat.strongRecOn with
  | _ j ih =>
    intro i k hj h hk
    have ho : ops[j]? = some ops[j] := Array.getElem?_eq_getElem hj
    obtain ⟨e, he, hb, h | ⟨hl, h⟩⟩ := (anc_iff ho).1 h
    · subst h
      exact (anc_iff ho).2 ⟨e, he, hb, .inr ⟨edge_lt hback ho he hb, hk⟩⟩
    · exact (anc_iff ho).2 ⟨e, he, hb, .inr ⟨hl, ih e.on hl i k (by omega) h hk⟩⟩

/-- All that stands before an operation that is ready has been done. -/
theorem ready_anc (hback : edgesBack ops.toList 0 = true) {listed : Array Bool} {j : Nat} (hclosed : ∀ z i, z < ops.size → listed.getD z false = true → anc ops z i = true → listed.getD i false = true) (hj : j ∈ Region.ready .any ops listed) :
    ∀ i, anc ops j i = true → listed.getD i false = true := by
  intro i hi
  obtain ⟨_, o, ho, hall⟩ := mem_ready.1 hj
  have hjl : j < ops.size := (Array.getElem?_eq_some_iff.1 ho).1
  obtain ⟨e, he, hb, h | ⟨hl, h⟩⟩ := (anc_iff ho).1 hi
  · subst h; exact hall e (by simpa using he) hb
  · exact hclosed e.on i (by omega) (hall e (by simpa using he) hb) h

/-- While an operation is left, one is ready. -/
theorem ready_some (hback : edgesBack ops.toList 0 = true) {listed : Array Bool} {j : Nat} (hsz : listed.size = ops.size) (hj : j < ops.size) (hl : listed.getD j true = false) : Region.ready .any ops listed ≠ [] := by
  induction j using Nat.strongRecOn with
  | _ j ih =>
    by_cases hx : ∃ i, i < j ∧ listed.getD i true = false
    · obtain ⟨i, hi, hil⟩ := hx
      exact ih i hi (by omega) hil
    · intro hnil
      have ho : ops[j]? = some ops[j] := Array.getElem?_eq_getElem hj
      have : j ∈ Region.ready .any ops listed := mem_ready.2 ⟨hl, _, ho, fun e he hb => by
        have hlt := edge_lt hback ho (by simpa using he) hb
        cases hv : listed.getD e.on true with
        | false => exact absurd ⟨e.on, hlt, hv⟩ hx
        | true =>
          have hes : e.on < listed.size := by omega
          simp only [Array.getD_eq_getD_getElem?, Array.getElem?_eq_getElem hes, Option.getD_some] at hv ⊢
          exact hv⟩
      rw [hnil] at this
      cases this
end

theorem tail_spec (bf : List Nat) : ∀ (n j i : Nat), tailFrom bf n ≤ j → j < n → i < j → (bf.getD j 0).testBit i = true
  | 0, j, i, _, h, _ => by omega
  | n + 1, j, i, hs, hj, hi => by
    unfold tailFrom at hs
    split at hs
    · rename_i hall
      rw [List.all_eq_true] at hall
      by_cases hjn : j = n
      · subst hjn; exact hall i (List.mem_range.2 hi)
      · exact tail_spec bf n j i hs (by omega) hi
    · omega
theorem tail_le (bf : List Nat) : ∀ n, tailFrom bf n ≤ n
  | 0 => Nat.le_refl _
  | n + 1 => by
    unfold tailFrom
    split
    · have := tail_le bf n; omega
    · exact Nat.le_refl _

section
variable {F : Fence} {n : Nat} {P : Program} {ops : Array Oper} {Q : Exit → Act → World → Prop}

/-- The tail of a region, where each operation stands behind all before it. -/
theorem tail_wp (hback : edgesBack ops.toList 0 = true) {s : Nat} (htail : ∀ j i, s ≤ j → j < ops.size → i < j → anc ops j i = true) : ∀ (fuel k : Nat) (listed : Array Bool) (a : Act) (w : World), s ≤ k → k ≤ ops.size → ops.size - k ≤ fuel →
    listed.size = ops.size → (∀ i, i < k → listed.getD i false = true) → (∀ i, k ≤ i → i < ops.size → listed.getD i true = false) → wpListIn F n P ops Q (ops.toList.drop k) a w → wpAnyIn F n P .any ops Q fuel listed a w := by
  intro fuel
  induction fuel with
  | zero =>
    intro k listed a w hsk hk hf hsz h1 h2 h
    have : k = ops.size := by omega
    subst this
    rw [List.drop_of_length_le (by simp)] at h
    refine ⟨?_, h⟩
    apply List.eq_nil_iff_forall_not_mem.2
    intro j hj
    obtain ⟨h3, o, ho, _⟩ := mem_ready.1 hj
    have hjl := (Array.getElem?_eq_some_iff.1 ho).1
    have := h1 j hjl
    simp only [Array.getD_eq_getD_getElem?, Array.getElem?_eq_getElem (show j < listed.size by omega), Option.getD_some] at this h3
    rw [this] at h3
    cases h3
  | succ fuel ih =>
    intro k listed a w hsk hk hf hsz h1 h2 h
    have only : ∀ j ∈ Region.ready .any ops listed, j = k := by
      intro j hj
      obtain ⟨h3, o, ho, _⟩ := mem_ready.1 hj
      have hjl := (Array.getElem?_eq_some_iff.1 ho).1
      have hkj : k ≤ j := by
        apply Classical.byContradiction
        intro hn
        have := h1 j (by omega)
        simp only [Array.getD_eq_getD_getElem?, Array.getElem?_eq_getElem (show j < listed.size by omega), Option.getD_some] at this h3
        rw [this] at h3
        cases h3
      apply Classical.byContradiction
      intro hne
      have hkl : k < ops.size := by omega
      have hcl : ∀ z i, z < ops.size → listed.getD z false = true → anc ops z i = true → listed.getD i false = true := by
        intro z i hz hlz hanc
        have hzk : z < k := by
          apply Classical.byContradiction
          intro hn
          have := h2 z (by omega) hz
          simp only [Array.getD_eq_getD_getElem?, Array.getElem?_eq_getElem (show z < listed.size by omega), Option.getD_some] at this hlz
          rw [hlz] at this
          cases this
        have := anc_lt hback z i hz hanc
        exact h1 i (by omega)
      have := ready_anc hback hcl hj k (htail j k (by omega) hjl (by omega))
      have h4 := h2 k (Nat.le_refl _) hkl
      simp only [Array.getD_eq_getD_getElem?, Array.getElem?_eq_getElem (show k < listed.size by omega), Option.getD_some] at this h4
      rw [this] at h4
      cases h4
    by_cases hke : k = ops.size
    · subst hke
      rw [List.drop_of_length_le (by simp)] at h
      refine ⟨fun _ => h, fun j hj => ?_⟩
      obtain ⟨_, o, ho, _⟩ := mem_ready.1 hj
      have := only j hj
      have hjl := (Array.getElem?_eq_some_iff.1 ho).1
      omega
    · have hkl : k < ops.size := by omega
      refine ⟨fun hnil => absurd hnil (ready_some hback hsz hkl (h2 k (Nat.le_refl _) hkl)), fun j hj => ?_⟩
      have hjk := only j hj
      subst hjk
      have hd : ops.toList.drop j = ops[j] :: ops.toList.drop (j + 1) := by
        rw [List.drop_eq_getElem_cons (by simpa using hkl)]
        simp
      rw [hd] at h
      have hset : ∀ i, i ≠ j → ∀ d, (listed.setIfInBounds j true).getD i d = listed.getD i d := fun i hi d => by
        simp only [Array.getD_eq_getD_getElem?, Array.getElem?_setIfInBounds_ne (fun e => hi e.symm)]
      have hsame : (listed.setIfInBounds j true).getD j false = true := by
        simp [show j < listed.size by omega]
      have next : ∀ a w, wpListIn F n P ops Q (ops.toList.drop (j + 1)) a w → wpAnyIn F n P .any ops Q fuel (listed.setIfInBounds j true) a w := fun a w hl =>
        ih (j + 1) (listed.setIfInBounds j true) a w (by omega) (by omega) (by omega) (by simpa using hsz) (fun i hi => by
            by_cases e : i = j
            · subst e; exact hsame
            · rw [hset i e]; exact h1 i (by omega))
          (fun i hi hil => by rw [hset i (by omega)]; exact h2 i (by omega) hil) hl
      unfold wpOpIn
      simp only [Array.getElem?_eq_getElem hkl]
      unfold wpListIn at h
      split
      · rename_i hw
        rw [if_pos hw] at h
        exact Oper.wpIn_mono next h
      · rename_i hw
        rw [if_neg hw] at h
        exact ⟨h.1, next _ _ h.2⟩
end
end Go.Cl
/- A region that draws its order: the clean run of its first part, operation by operation. -/
set_option linter.unusedSimpArgs false
set_option linter.unusedVariables false
namespace Go.Cl
open Go Go.RowKit

def StepOk (E : Env) (r : Rec) (base : Nat) (ops : List Oper) (bf : List Nat) (us : List (Nat × Nat)) (j : Nat) (o : Oper) (S S' : QSt) (R : Option QRes) : Prop :=
  match R with
  | some q => cWanted ops S.act o = some true ∧ qOp E r base (masked bf S.own us j S.heap) S.heap.length S.act.eval o = some q ∧
      S' = { act := S.act.put o.dst q.val, heap := q.heap S.heap, own := if q.new.isEmpty then S.own else (j, S.heap.length, S.heap.length + q.new.length) :: S.own, upds := match q.upd with | some (k, _) => (j, k) :: S.upds | none => S.upds }
  | none => cWanted ops S.act o = some false ∧ S' = { S with act := S.act.put o.dst undef }

theorem trace {E : Env} {r : Rec} {base : Nat} {ops : List Oper} {bf : List Nat} {us : List (Nat × Nat)} : ∀ (rest : List Oper) (j : Nat) (s fin : QSt), quietOps E r base ops bf us rest j s = some fin →
    ∃ (S : Nat → QSt) (R : Nat → Option QRes), S 0 = s ∧ S rest.length = fin ∧ ∀ i o, rest[i]? = some o → StepOk E r base ops bf us (j + i) o (S i) (S (i + 1)) (R i)
  | [], j, s, fin, h => by
    cases h
    exact ⟨fun _ => s, fun _ => none, rfl, rfl, fun i o h => by simp at h⟩
  | o :: rest, j, s, fin, h => by
    have go : ∀ (s' : QSt) (R0 : Option QRes), StepOk E r base ops bf us j o s s' R0 → quietOps E r base ops bf us rest (j + 1) s' = some fin →
        ∃ (S : Nat → QSt) (R : Nat → Option QRes), S 0 = s ∧ S (o :: rest).length = fin ∧ ∀ i o', (o :: rest)[i]? = some o' → StepOk E r base ops bf us (j + i) o' (S i) (S (i + 1)) (R i) := by
      intro s' R0 h0 h1
      obtain ⟨S, R, g1, g2, g3⟩ := trace rest (j + 1) s' fin h1
      refine ⟨fun i => match i with | 0 => s | i + 1 => S i, fun i => match i with | 0 => R0 | i + 1 => R i, rfl, g2, fun i o' ho => ?_⟩
      cases i with
      | zero =>
        simp at ho
        subst ho
        show StepOk E r base ops bf us j o s (S 0) R0
        rw [g1]; exact h0
      | succ i =>
        have := g3 i o' (by simpa using ho)
        have e : j + 1 + i = j + (i + 1) := by omega
        rw [e] at this
        exact this
    unfold quietOps at h
    split at h
    · rename_i hw
      split at h
      · rename_i q hq
        rw [applyK_eq, putK_eq] at h
        exact go _ (some q) ⟨hw, hq, rfl⟩ h
      · cases h
    · rename_i hw
      rw [putK_eq] at h
      exact go _ none ⟨hw, rfl⟩ h
    · cases h

/-- The clean run of a region's first part. -/
structure Run (E : Env) (r : Rec) (base : Nat) (ops : Array Oper) (s : Nat) (us : List (Nat × Nat)) (a0 : CAct) (h0 : List Blk) (S : Nat → QSt) (R : Nat → Option QRes) : Prop where
  hs : s ≤ ops.size
  s0 : S 0 = { act := a0, heap := h0 }
  step : ∀ j o, j < s → ops[j]? = some o → StepOk E r base ops.toList (Region.before ops).toList us j o (S j) (S (j + 1)) (R j)
  upds : (S s).upds = us
  back : edgesBack ops.toList 0 = true
  quiet : quietOk ops.toList (Region.before ops).toList s = true
  baseLe : base ≤ h0.length

section
variable {E : Env} {r : Rec} {base : Nat} {ops : Array Oper} {s : Nat} {us : List (Nat × Nat)} {a0 : CAct} {h0 : List Blk} {S : Nat → QSt} {R : Nat → Option QRes}

def newOf (R : Nat → Option QRes) (j : Nat) : List Blk := match R j with | some q => q.new | none => []
def updOf (R : Nat → Option QRes) (j : Nat) : Option (Nat × Blk) := (R j).bind (·.upd)
def valOf (R : Nat → Option QRes) (j : Nat) : Value := match R j with | some q => q.val | none => undef
def dstOf (ops : Array Oper) (j : Nat) : Option Tmp := (ops[j]?).bind (·.dst)

theorem heap_length (q : QRes) (h : List Blk) : (q.heap h).length = h.length + q.new.length := by
  unfold QRes.heap
  split <;> simp


theorem Run.op (X : Run E r base ops s us a0 h0 S R) {j : Nat} (hj : j < s) : ∃ o, ops[j]? = some o ∧ StepOk E r base ops.toList (Region.before ops).toList us j o (S j) (S (j + 1)) (R j) := by
  have hl : j < ops.size := by have := X.hs; omega
  exact ⟨ops[j], Array.getElem?_eq_getElem hl, X.step j _ hj (Array.getElem?_eq_getElem hl)⟩

theorem Run.len (X : Run E r base ops s us a0 h0 S R) {j : Nat} (hj : j < s) : (S (j + 1)).heap.length = (S j).heap.length + (newOf R j).length := by
  obtain ⟨o, _, h⟩ := X.op hj
  unfold StepOk at h
  unfold newOf
  split at h
  · rename_i q hq; rw [h.2.2]; exact heap_length q _
  · rename_i hq; rw [h.2]; rfl

theorem Run.len_le (X : Run E r base ops s us a0 h0 S R) {i : Nat} : ∀ {j : Nat}, i ≤ j → j ≤ s → (S i).heap.length ≤ (S j).heap.length := by
  intro j
  induction j with
  | zero => intro h _; have : i = 0 := by omega
            subst this; exact Nat.le_refl _
  | succ j ih =>
    intro h hj
    by_cases he : i = j + 1
    · subst he; exact Nat.le_refl _
    · have := ih (by omega) (by omega)
      have := X.len (show j < s by omega)
      omega

/-- An operation's blocks lie below a later one's. -/
theorem Run.new_lt (X : Run E r base ops s us a0 h0 S R) {i j : Nat} (hij : i < j) (hj : j ≤ s) : (S i).heap.length + (newOf R i).length ≤ (S j).heap.length := by
  have h1 := X.len (show i < s by omega)
  have h2 := X.len_le (show i + 1 ≤ j by omega) hj
  omega

theorem Run.own_mem (X : Run E r base ops s us a0 h0 S R) {i : Nat} (hi : i < s) (hn : newOf R i ≠ []) : ∀ {j : Nat}, i < j → j ≤ s → (i, (S i).heap.length, (S i).heap.length + (newOf R i).length) ∈ (S j).own := by
  intro j
  induction j with
  | zero => intro h _; omega
  | succ j ih =>
    intro h hj
    obtain ⟨o, _, hst⟩ := X.op (show j < s by omega)
    unfold StepOk at hst
    split at hst
    · rename_i q hq
      rw [hst.2.2]
      simp only
      by_cases he : i = j
      · subst he
        have e : newOf R i = q.new := by unfold newOf; rw [hq]
        rw [e] at hn ⊢
        have : q.new.isEmpty = false := by cases hq2 : q.new with | nil => exact absurd hq2 hn | cons => rfl
        rw [this]
        simp
      · have := ih (by omega) (by omega)
        split
        · exact this
        · exact List.mem_cons_of_mem _ this
    · rename_i hq
      rw [hst.2]
      have : i ≠ j := by
        rintro rfl
        apply hn
        unfold newOf; rw [hq]
      exact ih (by omega) (by omega)

theorem Run.upd_mem (X : Run E r base ops s us a0 h0 S R) {i k : Nat} {b : Blk} (hi : i < s) (hu : updOf R i = some (k, b)) : (i, k) ∈ us := by
  have gen : ∀ {j : Nat}, i < j → j ≤ s → (i, k) ∈ (S j).upds := by
    intro j
    induction j with
    | zero => intro h _; omega
    | succ j ih =>
      intro h hj
      obtain ⟨o, _, hst⟩ := X.op (show j < s by omega)
      unfold StepOk at hst
      split at hst
      · rename_i q hq
        rw [hst.2.2]
        simp only
        by_cases he : i = j
        · subst he
          unfold updOf at hu
          rw [hq] at hu
          simp only [Option.bind_some] at hu
          rw [hu]
          simp
        · have := ih (by omega) (by omega)
          split
          · exact List.mem_cons_of_mem _ this
          · exact this
      · rename_i hq
        rw [hst.2]
        have : i ≠ j := by
          rintro rfl
          unfold updOf at hu
          rw [hq] at hu
          cases hu
        exact ih (by omega) (by omega)
  rw [← X.upds]
  exact gen hi (Nat.le_refl _)

theorem masked_length {bf : List Nat} {own : List (Nat × Nat × Nat)} {j : Nat} {h : List Blk} : (masked bf own us j h).length = h.length := by
  unfold masked
  split
  · rfl
  · simp

theorem masked_alive {bf : List Nat} {own : List (Nat × Nat × Nat)} {j id : Nat} {h : List Blk} (ha : toF (masked bf own us j h) id ≠ .dead) :
    toF (masked bf own us j h) id = toF h id ∧ (∀ i f t, (i, f, t) ∈ own → f ≤ id → id < t → (bf.getD j 0).testBit i = true) ∧
      (∀ i, (i, id) ∈ us → i = j ∨ (bf.getD i 0).testBit j = true ∨ (bf.getD j 0).testBit i = true) := by
  unfold masked at ha ⊢
  split at ha
  · rename_i he
    rw [if_pos he]
    simp only [Bool.and_eq_true, List.isEmpty_iff] at he
    refine ⟨rfl, fun i f t hm => ?_, fun i hm => ?_⟩
    · rw [he.1] at hm; cases hm
    · rw [he.2] at hm; cases hm
  · rename_i he
    rw [if_neg he]
    have hat : ∀ (x : List Blk), toF (h.zipIdx.map fun (b, id) => if hidden bf own us j id then .dead else b) id = if hidden bf own us j id then .dead else toF h id := by
      intro _
      unfold toF
      simp only [List.getD, List.getElem?_map, List.getElem?_zipIdx]
      cases h[id]? with
      | none => simp
      | some b => simp
    rw [hat h] at ha ⊢
    by_cases hh : hidden bf own us j id = true
    · rw [if_pos hh] at ha; exact absurd rfl ha
    · rw [if_neg hh]
      unfold hidden at hh
      simp only [Bool.or_eq_true, List.any_eq_true, not_or, not_exists, not_and] at hh
      refine ⟨rfl, fun i f t hm h1 h2 => ?_, fun i hm => ?_⟩
      · have := hh.1 (i, f, t) hm
        simp only [Bool.and_eq_true, decide_eq_true_eq, Bool.not_eq_true', not_and, Bool.not_eq_false] at this
        exact this ⟨h1, h2⟩
      · have := hh.2 (i, id) hm
        simp only [Bool.and_eq_true, beq_iff_eq, beq_self_eq_true, true_and, Bool.not_eq_true', not_and, Bool.not_eq_false, beq_eq_false_iff_ne, ne_eq] at this
        by_cases h1 : i = j
        · exact .inl h1
        · by_cases h2 : (bf.getD i 0).testBit j = true
          · exact .inr (.inl h2)
          · exact .inr (.inr (this ⟨h1, by simpa using h2⟩))

/-- What an operation of the first part sees. -/
theorem Run.sees (X : Run E r base ops s us a0 h0 S R) {y id : Nat} (hy : y < s) (ha : toF (masked (Region.before ops).toList (S y).own us y (S y).heap) id ≠ .dead) :
    toF (masked (Region.before ops).toList (S y).own us y (S y).heap) id = toF (S y).heap id ∧
    (∀ j, j < y → InNew (S j).heap.length (newOf R j).length id → anc ops y j = true) ∧ (∀ z b, z < s → updOf R z = some (id, b) → z = y ∨ anc ops z y = true ∨ anc ops y z = true) := by
  obtain ⟨h1, h2, h3⟩ := masked_alive ha
  refine ⟨h1, fun j hj hn => ?_, fun z b hz hu => ?_⟩
  · have hne : newOf R j ≠ [] := by
      intro he
      rw [he] at hn
      have h4 := hn.1; have h5 := hn.2
      simp at h5
      omega
    exact h2 j _ _ (X.own_mem (by omega) hne hj (by omega)) hn.1 hn.2
  · exact h3 z (X.upd_mem hz hu)

theorem Run.upd_alive (X : Run E r base ops s us a0 h0 S R) {y k : Nat} {b : Blk} (hy : y < s) (hu : updOf R y = some (k, b)) : toF (masked (Region.before ops).toList (S y).own us y (S y).heap) k ≠ .dead ∧ k < (S y).heap.length := by
  obtain ⟨o, _, hst⟩ := X.op hy
  unfold StepOk at hst
  unfold updOf at hu
  split at hst
  · rename_i q hq
    rw [hq] at hu
    have ha := qOp_alive hst.2.1 hu
    refine ⟨ha, ?_⟩
    apply Classical.byContradiction
    intro hn
    apply ha
    unfold toF
    simp only [List.getD]
    rw [List.getElem?_eq_none (by rw [masked_length]; omega)]
    rfl
  · rename_i hq
    rw [hq] at hu
    cases hu

/-- Neither stands before the other. -/
def apart (ops : Array Oper) (y z : Nat) : Prop := y ≠ z ∧ anc ops y z ≠ true ∧ anc ops z y ≠ true

theorem apart.symm {y z : Nat} (h : apart ops y z) : apart ops z y := ⟨h.1.symm, h.2.2, h.2.1⟩

theorem Run.quiet_spec (X : Run E r base ops s us a0 h0 S R) {i j : Nat} (hi : i < s) (hj : j < s) (hap : apart ops i j) {oi oj : Oper} (hoi : ops[i]? = some oi) (hoj : ops[j]? = some oj) {d : Tmp} (hd : oi.dst = some d) : oj.dst ≠ some d ∧ d ∉ opNames ops.toList oj := by
  have h := X.quiet
  unfold quietOk at h
  rw [List.all_eq_true] at h
  have h1 := h j (List.mem_range.2 hj)
  rw [Array.getElem?_toList, hoj] at h1
  simp only at h1
  rw [List.all_eq_true] at h1
  have h2 := h1 i (List.mem_range.2 hi)
  rw [Array.getElem?_toList, hoi] at h2
  simp only [hd, Bool.or_eq_true, beq_iff_eq, Bool.and_eq_true, Bool.not_eq_true', beq_eq_false_iff_ne, ne_eq] at h2
  rcases h2 with ((h2 | h2) | h2) | h2
  · exact absurd h2 hap.1
  · exact absurd h2 hap.2.2
  · exact absurd h2 hap.2.1
  · exact ⟨h2.1, by simpa using h2.2⟩
end
end Go.Cl
/- The state that a set of operations leaves, whatever their order. -/
set_option linter.unusedSimpArgs false
set_option linter.unusedVariables false
namespace Go.Cl
open Go Go.RowKit

def stepJ (S : Nat → QSt) (R : Nat → Option QRes) (j : Nat) (H : Nat → Blk) : Nat → Blk :=
  match R j with
  | some q => stepF (S j).heap.length q H
  | none => H

/-- The heap behind those of the first j operations that are in K. -/
def HK (h0 : List Blk) (S : Nat → QSt) (R : Nat → Option QRes) (K : Nat → Bool) : Nat → Nat → Blk
  | 0 => toF h0
  | j + 1 => if K j then stepJ S R j (HK h0 S R K j) else HK h0 S R K j

def putJ (ops : Array Oper) (R : Nat → Option QRes) (j : Nat) (l : List Value) : List Value :=
  match dstOf ops j with
  | some d => l.set d (valOf R j)
  | none => l

def TK (ops : Array Oper) (a0 : CAct) (R : Nat → Option QRes) (K : Nat → Bool) : Nat → List Value
  | 0 => a0.tmps
  | j + 1 => if K j then putJ ops R j (TK ops a0 R K j) else TK ops a0 R K j

/-- Does the operation make or write this block? -/
def touches (S : Nat → QSt) (R : Nat → Option QRes) (z id : Nat) : Prop := InNew (S z).heap.length (newOf R z).length id ∨ ∃ b, updOf R z = some (id, b)

section
variable {S : Nat → QSt} {R : Nat → Option QRes} {h0 : List Blk} {ops : Array Oper} {a0 : CAct}

theorem stepJ_some {z : Nat} {q : QRes} {H : Nat → Blk} (h : R z = some q) : stepJ S R z H = stepF (S z).heap.length q H := by
  unfold stepJ; rw [h]
theorem stepJ_none {z : Nat} {H : Nat → Blk} (h : R z = none) : stepJ S R z H = H := by
  unfold stepJ; rw [h]

theorem stepJ_not {z id : Nat} {H : Nat → Blk} (h : ¬ touches S R z id) : stepJ S R z H id = H id := by
  cases hq : R z with
  | some q =>
    rw [stepJ_some hq]
    have h1 : ¬ InNew (S z).heap.length q.new.length id := fun hn => h (.inl (by unfold newOf; rw [hq]; exact hn))
    rcases stepF_old (H := H) h1 with ⟨b, hu, _⟩ | ⟨_, e⟩
    · exact absurd (.inr ⟨b, by unfold updOf; rw [hq]; exact hu⟩) h
    · exact e
  | none => rw [stepJ_none hq]
theorem stepJ_touch {z id : Nat} {H H' : Nat → Blk} (h : touches S R z id) : stepJ S R z H id = stepJ S R z H' id := by
  cases hq : R z with
  | some q =>
    rw [stepJ_some hq, stepJ_some hq]
    by_cases h1 : InNew (S z).heap.length q.new.length id
    · unfold stepF
      have h1' : (S z).heap.length ≤ id ∧ id < (S z).heap.length + q.new.length := h1
      rw [if_pos h1', if_pos h1']
    · rcases h with h | ⟨b, h⟩
      · unfold newOf at h; rw [hq] at h; exact absurd h h1
      · unfold updOf at h
        rw [hq] at h
        simp only [Option.bind_some] at h
        unfold stepF
        have h1' : ¬ ((S z).heap.length ≤ id ∧ id < (S z).heap.length + q.new.length) := h1
        rw [if_neg h1', if_neg h1', h]
        simp
  | none =>
    rcases h with h | ⟨b, h⟩
    · unfold newOf at h; rw [hq] at h; have h2 := h.1; have h3 := h.2; simp at h3; omega
    · unfold updOf at h; rw [hq] at h; cases h

theorem HK_skip {K : Nat → Bool} {id j : Nat} : ∀ {j' : Nat}, j ≤ j' → (∀ z, j ≤ z → z < j' → K z = true → ¬ touches S R z id) → HK h0 S R K j' id = HK h0 S R K j id := by
  intro j'
  induction j' with
  | zero => intro hj _; have : j = 0 := by omega
            subst this; rfl
  | succ j' ih =>
    intro hj h
    by_cases he : j = j' + 1
    · subst he; rfl
    · show (if K j' then stepJ S R j' (HK h0 S R K j') else HK h0 S R K j') id = _
      have := ih (by omega) (fun z h1 h2 => h z h1 (by omega))
      split
      · rename_i hk
        rw [stepJ_not (h j' (by omega) (by omega) hk)]; exact this
      · exact this

theorem HK_congr {K K' : Nat → Bool} {id : Nat} : ∀ {j : Nat}, (∀ z, z < j → touches S R z id → K z = K' z) → HK h0 S R K j id = HK h0 S R K' j id := by
  intro j
  induction j with
  | zero => intro _; rfl
  | succ j ih =>
    intro h
    have h1 := ih fun z hz => h z (by omega)
    show (if K j then stepJ S R j (HK h0 S R K j) else HK h0 S R K j) id = (if K' j then stepJ S R j (HK h0 S R K' j) else HK h0 S R K' j) id
    by_cases ht : touches S R j id
    · rw [h j (by omega) ht]
      split
      · exact stepJ_touch ht
      · exact h1
    · have e1 : ∀ (c : Bool) (H : Nat → Blk), (if c then stepJ S R j H else H) id = H id := fun c H => by
        split
        · exact stepJ_not ht
        · rfl
      rw [e1, e1]; exact h1

theorem putJ_not {z t : Nat} {l : List Value} (h : dstOf ops z ≠ some t) : (putJ ops R z l)[t]? = l[t]? := by
  unfold putJ
  split
  · rename_i d hd
    rw [List.getElem?_set_ne]
    rintro rfl
    exact h hd
  · rfl
theorem putJ_touch {z t : Nat} {l l' : List Value} (h : dstOf ops z = some t) (hl : l.length = l'.length) : (putJ ops R z l)[t]? = (putJ ops R z l')[t]? := by
  unfold putJ
  rw [h]
  simp only [List.getElem?_set, hl, if_true]
theorem putJ_length {z : Nat} {l : List Value} : (putJ ops R z l).length = l.length := by
  unfold putJ; split <;> simp
theorem TK_length {K : Nat → Bool} : ∀ {j : Nat}, (TK ops a0 R K j).length = a0.tmps.length := by
  intro j
  induction j with
  | zero => rfl
  | succ j ih =>
    show (if K j then putJ ops R j (TK ops a0 R K j) else TK ops a0 R K j).length = _
    split
    · rw [putJ_length]; exact ih
    · exact ih

theorem TK_skip {K : Nat → Bool} {t j : Nat} : ∀ {j' : Nat}, j ≤ j' → (∀ z, j ≤ z → z < j' → K z = true → dstOf ops z ≠ some t) → (TK ops a0 R K j')[t]? = (TK ops a0 R K j)[t]? := by
  intro j'
  induction j' with
  | zero => intro hj _; have : j = 0 := by omega
            subst this; rfl
  | succ j' ih =>
    intro hj h
    by_cases he : j = j' + 1
    · subst he; rfl
    · show (if K j' then putJ ops R j' (TK ops a0 R K j') else TK ops a0 R K j')[t]? = _
      have := ih (by omega) (fun z h1 h2 => h z h1 (by omega))
      split
      · rename_i hk
        rw [putJ_not (h j' (by omega) (by omega) hk)]; exact this
      · exact this

theorem TK_congr {K K' : Nat → Bool} {t : Nat} : ∀ {j : Nat}, (∀ z, z < j → dstOf ops z = some t → K z = K' z) → (TK ops a0 R K j)[t]? = (TK ops a0 R K' j)[t]? := by
  intro j
  induction j with
  | zero => intro _; rfl
  | succ j ih =>
    intro h
    have h1 := ih fun z hz => h z (by omega)
    show (if K j then putJ ops R j (TK ops a0 R K j) else TK ops a0 R K j)[t]? = (if K' j then putJ ops R j (TK ops a0 R K' j) else TK ops a0 R K' j)[t]?
    by_cases ht : dstOf ops j = some t
    · rw [h j (by omega) ht]
      split
      · exact putJ_touch ht (by rw [TK_length, TK_length])
      · exact h1
    · have e1 : ∀ (c : Bool) (l : List Value), (if c then putJ ops R j l else l)[t]? = l[t]? := fun c l => by
        split
        · exact putJ_not ht
        · rfl
      rw [e1, e1]; exact h1
end

section
variable {E : Env} {r : Rec} {base : Nat} {ops : Array Oper} {s : Nat} {us : List (Nat × Nat)} {a0 : CAct} {h0 : List Blk} {S : Nat → QSt} {R : Nat → Option QRes}

theorem Run.HK_all (X : Run E r base ops s us a0 h0 S R) : ∀ {j : Nat}, j ≤ s → ∀ {K : Nat → Bool}, (∀ z, z < j → K z = true) → HK h0 S R K j = toF (S j).heap := by
  intro j
  induction j with
  | zero => intro _ K _; show toF h0 = _; rw [X.s0]
  | succ j ih =>
    intro hj K hK
    show (if K j then stepJ S R j (HK h0 S R K j) else HK h0 S R K j) = _
    rw [if_pos (hK j (by omega)), ih (by omega) (fun z hz => hK z (by omega))]
    obtain ⟨o, _, hst⟩ := X.op (show j < s by omega)
    have hual := fun k b => X.upd_alive (k := k) (b := b) (show j < s by omega)
    unfold StepOk at hst
    unfold updOf at hual
    split at hst
    · rename_i q hq
      rw [hq] at hual
      rw [hst.2.2, stepJ_some hq]
      exact (toF_heap fun k b hu => (hual k b hu).2).symm
    · rename_i hq
      rw [hst.2, stepJ_none hq]

theorem Run.TK_all (X : Run E r base ops s us a0 h0 S R) : ∀ {j : Nat}, j ≤ s → ∀ {K : Nat → Bool}, (∀ z, z < j → K z = true) → TK ops a0 R K j = (S j).act.tmps := by
  intro j
  induction j with
  | zero => intro _ K _; show a0.tmps = _; rw [X.s0]
  | succ j ih =>
    intro hj K hK
    show (if K j then putJ ops R j (TK ops a0 R K j) else TK ops a0 R K j) = _
    rw [if_pos (hK j (by omega)), ih (by omega) (fun z hz => hK z (by omega))]
    obtain ⟨o, ho, hst⟩ := X.op (show j < s by omega)
    have hd : dstOf ops j = o.dst := by unfold dstOf; rw [ho]; rfl
    unfold StepOk at hst
    unfold putJ valOf
    rw [hd]
    split at hst
    · rename_i q hq
      rw [hst.2.2]
      cases o.dst <;> rfl
    · rename_i hq
      rw [hst.2]
      cases o.dst <;> rfl

theorem Run.marks_all (X : Run E r base ops s us a0 h0 S R) : ∀ {j : Nat}, j ≤ s → (S j).act.marks = a0.marks := by
  intro j
  induction j with
  | zero => intro _; rw [X.s0]
  | succ j ih =>
    intro hj
    obtain ⟨o, ho, hst⟩ := X.op (show j < s by omega)
    have := ih (by omega)
    unfold StepOk at hst
    split at hst
    · rw [hst.2.2]; simp only; unfold CAct.put; split <;> exact this
    · rw [hst.2]; simp only; unfold CAct.put; split <;> exact this

/-- Two operations of which neither stands before the other meet in no block. -/
theorem Run.apart_blocks (X : Run E r base ops s us a0 h0 S R) {y z id : Nat} (hy : y < s) (hz : z < s) (hap : apart ops y z) : touches S R y id → ¬ touches S R z id := by
  have gen : ∀ {y z : Nat}, y < s → z < s → apart ops y z → y < z → touches S R y id → ¬ touches S R z id := by
    intro y z hy hz hap hyz h1 h2
    have hlt := X.new_lt hyz (by omega)
    rcases h1 with h1 | ⟨b1, h1⟩
    · rcases h2 with h2 | ⟨b2, h2⟩
      · have := h1.2; have := h2.1; omega
      · obtain ⟨ha, _⟩ := X.upd_alive hz h2
        exact hap.2.2 ((X.sees hz ha).2.1 y hyz h1)
    · obtain ⟨ha1, hl1⟩ := X.upd_alive hy h1
      rcases h2 with h2 | ⟨b2, h2⟩
      · have := h2.1; omega
      · obtain ⟨ha, _⟩ := X.upd_alive hz h2
        rcases (X.sees hz ha).2.2 y b1 hy h1 with h | h | h
        · exact hap.1 h
        · exact hap.2.1 h
        · exact hap.2.2 h
  intro h1 h2
  rcases Nat.lt_or_gt_of_ne hap.1 with h | h
  · exact gen hy hz hap h h1 h2
  · exact gen hz hy hap.symm h h2 h1

/-- An operation more. -/
theorem Run.HK_insert (X : Run E r base ops s us a0 h0 S R) {y : Nat} (hy : y < s) {K : Nat → Bool} (hKy : K y = false) : ∀ {j : Nat}, y < j → j ≤ s → (∀ z, y < z → z < j → K z = true → apart ops y z) →
    HK h0 S R (fun z => K z || z == y) j = stepJ S R y (HK h0 S R K j) := by
  intro j hyj hj hap
  funext id
  by_cases ht : touches S R y id
  · -- made or written by y: by no later one of K
    have later : ∀ z, y + 1 ≤ z → z < j → (K z || z == y) = true → ¬ touches S R z id := by
      intro z h1 h2 hk
      have hk' : K z = true := by
        have : (z == y) = false := by simp; omega
        simpa [this] using hk
      exact X.apart_blocks hy (by omega) (hap z (by omega) h2 hk') ht
    rw [HK_skip (show y + 1 ≤ j by omega) later]
    show (if (K y || y == y) = true then stepJ S R y (HK h0 S R (fun z => K z || z == y) y) else _) id = _
    rw [if_pos (by simp)]
    exact stepJ_touch ht
  · rw [stepJ_not ht]
    exact HK_congr fun z hz hzt => by
      by_cases he : z = y
      · subst he; exact absurd hzt ht
      · simp [he]

theorem Run.TK_insert (X : Run E r base ops s us a0 h0 S R) {y : Nat} (hy : y < s) {K : Nat → Bool} (hKy : K y = false) {j : Nat} (hyj : y < j) (hj : j ≤ s) (hap : ∀ z, y < z → z < j → K z = true → apart ops y z) (t : Nat) :
    (TK ops a0 R (fun z => K z || z == y) j)[t]? = (putJ ops R y (TK ops a0 R K j))[t]? := by
  by_cases ht : dstOf ops y = some t
  · have later : ∀ z, y + 1 ≤ z → z < j → (K z || z == y) = true → dstOf ops z ≠ some t := by
      intro z h1 h2 hk
      have hk' : K z = true := by
        have : (z == y) = false := by simp; omega
        simpa [this] using hk
      obtain ⟨oy, hoy, _⟩ := X.op hy
      obtain ⟨oz, hoz, _⟩ := X.op (show z < s by omega)
      have hdy : oy.dst = some t := by unfold dstOf at ht; rw [hoy] at ht; exact ht
      have := (X.quiet_spec hy (show z < s by omega) (hap z (by omega) h2 hk') hoy hoz hdy).1
      unfold dstOf
      rw [hoz]
      exact this
    rw [TK_skip (show y + 1 ≤ j by omega) later]
    show (if (K y || y == y) = true then putJ ops R y (TK ops a0 R (fun z => K z || z == y) y) else _)[t]? = _
    rw [if_pos (by simp)]
    exact putJ_touch ht (by rw [TK_length, TK_length])
  · rw [putJ_not ht]
    exact TK_congr fun z hz hzt => by
      by_cases he : z = y
      · subst he; exact absurd hzt ht
      · simp [he]
end
end Go.Cl
/- What an operation looks at; small matters before the draw. -/
set_option linter.unusedSimpArgs false
set_option linter.unusedVariables false
namespace Go.Cl
open Go Go.RowKit

theorem map_congr' {α : Type} {ρ ρ' : α → Value} {l : List α} (h : ∀ x ∈ l, ρ x = ρ' x) : l.map ρ = l.map ρ' := List.map_congr_left h

theorem parts_congr {ρ ρ' : Operand → Value} {parts : Array (Nat × Operand)} (h : ∀ x ∈ (parts.toList.map (·.2)), ρ x = ρ' x) : partsOf ρ parts = partsOf ρ' parts := by
  unfold partsOf
  apply List.map_congr_left
  intro p hp
  rw [h p.2 (List.mem_map.2 ⟨p, hp, rfl⟩)]

/-- An operation asks for its operands alone. -/
theorem qOp_congr {E : Env} {r : Rec} {base : Nat} {h : List Blk} {n : Nat} {ρ ρ' : Operand → Value} {o : Oper} (hρ : ∀ x ∈ o.op.operands.toList, ρ x = ρ' x) : qOp E r base h n ρ o = qOp E r base h n ρ' o := by
  cases ho : o.op <;> rw [ho] at hρ <;> (try simp only [Op.operands] at hρ) <;> (try simp only [qOp, ho])
  case move x => rw [hρ x (by simp)]
  case assign x => rw [hρ x (by simp)]
  case pick c a b => rw [hρ c (by simp), hρ a (by simp), hρ b (by simp)]
  case box t x => rw [hρ x (by simp)]
  case build t parts => rw [parts_congr (by simpa using hρ)]
  case buildSlice t len parts => rw [parts_congr (by simpa using hρ)]
  case load t a => rw [hρ a (by simp)]
  case store t a x => rw [hρ a (by simp), hρ x (by simp)]
  case nilCheck x => rw [hρ x (by simp)]
  case binOp op t x y z => rw [hρ x (by simp), hρ y (by simp)]
  case unOp op z x => rw [hρ x (by simp)]
  case convert s d x => rw [hρ x (by simp)]
  case makeFunc fn first captured =>
    cases fn with
    | func g =>
      simp only [qOp, ho]
      rw [map_congr' (l := first.toList) (fun x hx => hρ x (by simp; exact .inl (by simpa using hx))), map_congr' (l := captured.toList) (fun x hx => hρ x (by simp; exact .inr (by simpa using hx)))]
    | _ => simp only [qOp, ho]
  case makeMap t r => cases r <;> simp only [qOp, ho]
  case makeSlice t l c => rw [hρ l (by simp), hρ c (by simp)]
  case slice t x lo hi mx =>
    have e : ∀ y : Option Operand, (∀ z, y = some z → ρ z = ρ' z) → y.map ρ = y.map ρ' := by
      intro y hy
      cases y with
      | none => rfl
      | some z => simp [hy z rfl]
    rw [hρ x (by simp), e lo (fun z hz => hρ z (by simp [hz])), e hi (fun z hz => hρ z (by simp [hz])), e mx (fun z hz => hρ z (by simp [hz]))]
  case fieldAddr s x f => rw [hρ x (by simp)]
  case field t x f => rw [hρ x (by simp)]
  case indexAddr t x ix => rw [hρ x (by simp), hρ ix (by simp)]
  case index t x ix => rw [hρ x (by simp), hρ ix (by simp)]
  case lookup t m k ok => rw [hρ m (by simp), hρ k (by simp)]
  case mapUpdate t m k x => rw [hρ m (by simp), hρ k (by simp), hρ x (by simp)]
  case insert t m k x => rw [hρ m (by simp), hρ k (by simp), hρ x (by simp)]
  case extract t ix => rw [hρ t (by simp)]
  case call c =>
    obtain ⟨callee, cargs, ts⟩ := c
    cases callee with
    | value f =>
      simp only [Call.operands] at hρ
      simp only [qOp, ho]
      rw [hρ f (by simp), map_congr' (l := cargs.toList) (fun x hx => hρ x (by simp; exact .inr (by simpa using hx)))]
    | builtin b =>
      simp only [Call.operands] at hρ
      simp only [qOp, ho]
      rw [map_congr' (l := cargs.toList) (fun x hx => hρ x (by simpa using hx))]
    | invoke => simp only [qOp, ho]

section
variable {P : Program} {w w' : World} {D D' : Nat → Prop} {β β' : Nat → Nat × Nat} {κ κ' : Nat → Nat} {base n : Nat} {N : Kp} {H H' : Nat → Blk}

/-- Less is known, elsewhere something was written. -/
theorem Rel.frame (hR : Rel P D β κ base N H w) (hD : ∀ i, D i → D' i) (hE : Ext D β κ β' κ') (hH : ∀ i, H' i ≠ .dead → H' i = H i ∧ β' i = β i ∧ κ' i = κ i ∧ w'.heap[(β i).1]? = w.heap[(β i).1]?) (hs : w.heap.size ≤ w'.heap.size) :
    Rel P D' β' κ' base N H' w' where
  blk := fun i => by
    by_cases h : H' i = .dead
    · rw [h]; trivial
    · obtain ⟨h1, h2, h3, h4⟩ := hH i h
      rw [h1]; exact (hR.blk i).move hD hE h2 h4
  ro := fun i hi hb => by
    obtain ⟨h1, h2, h3, h4⟩ := hH i hi
    rw [h2]; exact hR.ro i (h1 ▸ hi) hb
  own := fun i hi hb => by
    obtain ⟨h1, h2, h3, h4⟩ := hH i hi
    have := hR.own i (h1 ▸ hi) hb
    rw [h1]
    exact ⟨by rw [h2]; exact this.1, this.2.move ⟨h2, h3⟩ h4⟩
  inj := fun i j hi hj hb hb' he => by
    obtain ⟨h1, h2, _⟩ := hH i hi
    obtain ⟨k1, k2, _⟩ := hH j hj
    rw [h2, k2] at he
    exact hR.inj i j (h1 ▸ hi) (k1 ▸ hj) hb hb' he
  size := hR.size.le hs

end

section
variable {E : Env} {r : Rec} {base : Nat} {ops : Array Oper} {s : Nat} {us : List (Nat × Nat)} {a0 : CAct} {h0 : List Blk} {S : Nat → QSt} {R : Nat → Option QRes}

/-- A set of operations of the first part, with all that stand before them. -/
structure Closed (ops : Array Oper) (s : Nat) (K : Nat → Bool) : Prop where
  lt : ∀ z, K z = true → z < s
  anc : ∀ z i, K z = true → anc ops z i = true → K i = true


/-- A block that lives was made by one of them, if it was made. -/
theorem Run.made (X : Run E r base ops s us a0 h0 S R) {K : Nat → Bool} (hK : Closed ops s K) {i z : Nat} (hz : z < s) (hn : InNew (S z).heap.length (newOf R z).length i) (ha : HK h0 S R K s i ≠ .dead) : K z = true := by
  apply Classical.byContradiction
  intro hKz
  apply ha
  have : ∀ z', 0 ≤ z' → z' < s → K z' = true → ¬ touches S R z' i := by
    intro z' _ hz' hk ht
    rcases ht with ht | ⟨b, ht⟩
    · by_cases he : z' = z
      · subst he; exact hKz hk
      · rcases Nat.lt_or_gt_of_ne he with h | h
        · have := X.new_lt h (by omega); have := ht.2; have := hn.1; omega
        · have := X.new_lt h (by omega); have := hn.2; have := ht.1; omega
    · obtain ⟨hal, hl⟩ := X.upd_alive hz' ht
      by_cases h : z < z'
      · exact hKz (hK.anc z' z hk ((X.sees hz' hal).2.1 z h hn))
      · have := X.len_le (show z' ≤ z by omega) (by omega)
        have := hn.1
        omega
  rw [HK_skip (Nat.zero_le s) this]
  show toF h0 i = _
  have h1 := X.len_le (Nat.zero_le z) (by omega)
  rw [X.s0] at h1
  have h1 : h0.length ≤ (S z).heap.length := h1
  have := hn.1
  unfold toF
  simp only [List.getD]
  rw [List.getElem?_eq_none (by omega)]
  rfl
end
end Go.Cl
/- A region that draws its order: whatever is drawn, the state is what the clean run says. -/
set_option linter.unusedSimpArgs false
set_option linter.unusedVariables false
namespace Go.Cl
open Go Go.RowKit

section
variable {E : Env} {r : Rec} {base : Nat} {ops : Array Oper} {s : Nat} {us : List (Nat × Nat)} {a0 : CAct} {h0 : List Blk} {S : Nat → QSt} {R : Nat → Option QRes}

/-- The blocks that are known behind the operations of K. -/
def DK (S : Nat → QSt) (R : Nat → Option QRes) (D : Nat → Prop) (K : Nat → Bool) (i : Nat) : Prop := D i ∨ ∃ j, K j = true ∧ InNew (S j).heap.length (newOf R j).length i

open Classical in
/-- The heap behind the operations of K, where those of L have been done: what others have written is not seen. -/
noncomputable def HM (h0 : List Blk) (S : Nat → QSt) (R : Nat → Option QRes) (s : Nat) (K L : Nat → Bool) (i : Nat) : Blk :=
  if ∃ z b, L z = true ∧ K z = false ∧ updOf R z = some (i, b) then .dead else HK h0 S R K s i

theorem HM_dead {K L : Nat → Bool} {i : Nat} (h : ∃ z b, L z = true ∧ K z = false ∧ updOf R z = some (i, b)) : HM h0 S R s K L i = .dead := by unfold HM; rw [if_pos h]
theorem HM_live {K L : Nat → Bool} {i : Nat} (h : ¬ ∃ z b, L z = true ∧ K z = false ∧ updOf R z = some (i, b)) : HM h0 S R s K L i = HK h0 S R K s i := by unfold HM; rw [if_neg h]
theorem HM_alive {K L : Nat → Bool} {i : Nat} (h : HM h0 S R s K L i ≠ .dead) : (¬ ∃ z b, L z = true ∧ K z = false ∧ updOf R z = some (i, b)) ∧ HM h0 S R s K L i = HK h0 S R K s i := by
  by_cases hc : ∃ z b, L z = true ∧ K z = false ∧ updOf R z = some (i, b)
  · exact absurd (HM_dead hc) h
  · exact ⟨hc, HM_live hc⟩

structure Inv (E : Env) (base : Nat) (ops : Array Oper) (s : Nat) (a0 : CAct) (h0 : List Blk) (S : Nat → QSt) (R : Nat → Option QRes) (D : Nat → Prop) (β0 : Nat → Nat × Nat) (κ0 : Nat → Nat) (N : Kp) (w0 : World) (a0' : Act)
    (L : Nat → Bool) (β : Nat → Nat × Nat) (κ : Nat → Nat) (a' : Act) (w : World) : Prop where
  closed : Closed ops s L
  rel : ∀ K, Closed ops s K → (∀ z, K z = true → L z = true) → Rel E.P (DK S R D K) β κ base N (HM h0 S R s K L) w
  tmp : ∀ K, Closed ops s K → (∀ z, K z = true → L z = true) → ∀ (t : Nat) (v : Value), (TK ops a0 R K s)[t]? = some v → (∀ z, L z = true → K z = false → dstOf ops z ≠ some t) →
    ∃ v', a'.tmps.toList[t]? = some v' ∧ VR (DK S R D K) β κ v v'
  len : a'.tmps.size = a0.tmps.length
  defers : a'.defers = a0'.defers
  ext : ∀ i, i < h0.length → β i = β0 i ∧ κ i = κ0 i
  below : Held N w0 w

variable {D : Nat → Prop} {β0 β : Nat → Nat × Nat} {κ0 κ : Nat → Nat} {N : Kp} {w0 w : World} {a0' a' : Act} {L : Nat → Bool}

theorem DK_congr {K K' : Nat → Bool} (h : ∀ z, K z = K' z) : DK S R D K = DK S R D K' := by
  have : K = K' := funext h
  rw [this]


theorem Inv.start (X : Run E r base ops s us a0 h0 S R) (hD : ∀ i, D i → i < h0.length) (hR : Rel E.P D β0 κ0 base N (toF h0) w0) (hA : ActR D β0 κ0 a0 a0') {w : World} (hw : w = w0.drew) :
    Inv E base ops s a0 h0 S R D β0 κ0 N w0 a0' (fun _ => false) β0 κ0 a0' w := by
  have none_of : ∀ K : Nat → Bool, (∀ z, K z = true → (fun _ => false) z = true) → ∀ z, K z = false := fun K h z => by
    cases hk : K z with
    | false => rfl
    | true => have := h z hk; cases this
  refine ⟨⟨fun z h => absurd h (by simp), fun z i h => absurd h (by simp)⟩, fun K hK hKL => ?_, fun K hK hKL t v hv _ => ?_, ?_, rfl, fun i _ => ⟨rfl, rfl⟩, ?_⟩
  · have hk := none_of K hKL
    have e1 : DK S R D K = D := by
      funext i
      unfold DK
      apply propext
      constructor
      · rintro (h | ⟨j, h, _⟩)
        · exact h
        · rw [hk j] at h; cases h
      · exact .inl
    have e2 : HM h0 S R s K (fun _ => false) = toF h0 := by
      funext i
      rw [HM_live (by rintro ⟨z, b, h, _⟩; cases h)]
      exact HK_skip (Nat.zero_le s) fun z _ _ h => by rw [hk z] at h; cases h
    rw [e1, e2, hw]
    exact ⟨hR.blk, hR.ro, hR.own, hR.inj, hR.size⟩
  · have hk := none_of K hKL
    have e1 : (TK ops a0 R K s)[t]? = (TK ops a0 R K 0)[t]? := TK_skip (Nat.zero_le s) fun z _ _ h => by rw [hk z] at h; cases h
    rw [e1] at hv
    obtain ⟨v', h1, h2⟩ := hA.tmps.get hv
    exact ⟨v', h1, h2.mono (fun _ h => .inl h) Ext.refl⟩
  · have := hA.tmps.len
    simpa using this.symm
  · rw [hw]; exact (Held.refl _ _).drew

/-- What stands before an operation, as a set. -/
theorem Run.before_closed (X : Run E r base ops s us a0 h0 S R) {y : Nat} (hy : y < s) : Closed ops s (fun z => anc ops y z) := by
  have hs := X.hs
  refine ⟨fun z h => ?_, fun z i h hi => anc_trans X.back y z i (by omega) h hi⟩
  have := anc_lt X.back y z (by omega) h
  omega

/-- WHAT AN OPERATION SEES IS WHAT THOSE BEFORE IT HAVE LEFT. -/
theorem Run.view (X : Run E r base ops s us a0 h0 S R) (I : Inv E base ops s a0 h0 S R D β0 κ0 N w0 a0' L β κ a' w) {y : Nat} (hy : y < s) (hyL : L y = false) (hanc : ∀ z, anc ops y z = true → L z = true) (i : Nat) :
    toF (masked (Region.before ops).toList (S y).own us y (S y).heap) i = HM h0 S R s (fun z => anc ops y z) L i ∨ toF (masked (Region.before ops).toList (S y).own us y (S y).heap) i = .dead := by
  have hs := X.hs
  by_cases ha : toF (masked (Region.before ops).toList (S y).own us y (S y).heap) i = .dead
  · exact .inr ha
  · left
    obtain ⟨h1, h2, h3⟩ := X.sees hy ha
    have notyet : ∀ z, L z = true → z ≠ y ∧ anc ops z y ≠ true := fun z hz => ⟨fun e => absurd hz (by rw [e, hyL]; simp), fun h => absurd (I.closed.anc z y hz h) (by rw [hyL]; simp)⟩
    rw [HM_live (by
      rintro ⟨z, b, g1, g2, g3⟩
      rcases h3 z b (I.closed.lt z g1) g3 with h | h | h
      · exact (notyet z g1).1 h
      · exact (notyet z g1).2 h
      · simp only [h] at g2; cases g2)]
    rw [h1, HK_skip (show y ≤ s by omega) (fun z g1 _ g3 => by have := anc_lt X.back y z (by omega) g3; omega),
      ← X.HK_all (show y ≤ s by omega) (K := fun _ => true) (fun _ _ => rfl)]
    refine (HK_congr fun z hz ht => ?_).symm
    rcases ht with ht | ⟨b, ht⟩
    · exact h2 z hz ht
    · rcases h3 z b (by omega) ht with h | h | h
      · omega
      · have := anc_lt X.back z y (by omega) h; omega
      · exact h

theorem Run.view_lt (X : Run E r base ops s us a0 h0 S R) {y : Nat} (hy : y < s) (hD : ∀ i, D i → i < h0.length) (i : Nat) (hi : DK S R D (fun z => anc ops y z) i) : i < (S y).heap.length := by
  have hs := X.hs
  rcases hi with h | ⟨j, h1, h2⟩
  · have h3 := X.len_le (Nat.zero_le y) (by omega)
    rw [X.s0] at h3
    have h3 : h0.length ≤ (S y).heap.length := h3
    have := hD i h
    omega
  · have := X.new_lt (anc_lt X.back y j (by omega) h1) (by omega)
    have := h2.2
    omega

/-- The clean activation that an operation needs: the rest is not asked for. -/
noncomputable def lookAct (ops : Array Oper) (o : Oper) (a : CAct) : CAct :=
  { a with tmps := a.tmps.zipIdx.map fun p => if p.2 ∈ opNames ops.toList o then p.1 else poison }

theorem look_at {o : Oper} {a : CAct} {t : Nat} : (lookAct ops o a).tmps[t]? = (a.tmps[t]?).map fun v => if t ∈ opNames ops.toList o then v else poison := by
  unfold lookAct
  simp only [List.getElem?_map, List.getElem?_zipIdx]
  cases a.tmps[t]? <;> simp

theorem look_get {o : Oper} {a : CAct} {t : Nat} (h : t ∈ opNames ops.toList o) : getT (lookAct ops o a).tmps t = getT a.tmps t := by
  rw [getT_eq, getT_eq]
  simp only [List.getD]
  rw [look_at]
  cases a.tmps[t]? <;> simp [h]

theorem look_wanted {o : Oper} {a : CAct} : cWanted ops.toList (lookAct ops o a) o = cWanted ops.toList a o := by
  unfold cWanted
  cases hg : o.guard with
  | none => rfl
  | some p =>
    obtain ⟨j, want⟩ := p
    simp only
    cases hd : (ops.toList[j]?).bind (·.dst) with
    | none => rfl
    | some d =>
      simp only
      rw [look_get (by unfold opNames; rw [hg]; simp only; rw [hd]; simp)]

theorem look_op {o : Oper} {a : CAct} {h : List Blk} {n : Nat} : qOp E r base h n (lookAct ops o a).eval o = qOp E r base h n a.eval o := by
  refine qOp_congr fun x hx => ?_
  cases x with
  | tmp t => exact look_get (by unfold opNames; exact List.mem_append_right _ (List.mem_filterMap.2 ⟨.tmp t, hx, rfl⟩))
  | _ => rfl

/-- The activation, as far as the operation looks at it. -/
theorem Run.look (X : Run E r base ops s us a0 h0 S R) (I : Inv E base ops s a0 h0 S R D β0 κ0 N w0 a0' L β κ a' w) (hD : ∀ i, D i → i < h0.length) (hA : ActR D β0 κ0 a0 a0') {y : Nat} (hy : y < s) (hyL : L y = false) (hanc : ∀ z, anc ops y z = true → L z = true) {o : Oper} (ho : ops[y]? = some o) :
    ActR (DK S R D (fun z => anc ops y z)) β κ (lookAct ops o (S y).act) a' := by
  have hs := X.hs
  have htk : TK ops a0 R (fun _ => true) y = (S y).act.tmps := X.TK_all (show y ≤ s by omega) fun _ _ => rfl
  have hlen : (S y).act.tmps.length = a0.tmps.length := by rw [← htk, TK_length]
  have apartOf : ∀ z, z < s → z ≠ y → anc ops y z ≠ true → anc ops z y ≠ true → ∀ t, dstOf ops z = some t → t ∉ opNames ops.toList o := by
    intro z hz h1 h2 h3 t ht
    obtain ⟨oz, hoz, _⟩ := X.op hz
    exact (X.quiet_spec hz hy ⟨h1, h3, h2⟩ hoz ho (by unfold dstOf at ht; rw [hoz] at ht; exact ht)).2
  refine ⟨⟨?_, fun t v v' hv hv' => ?_⟩, ?_, fun m hm => ?_⟩
  · have := I.len
    unfold lookAct
    simp only [List.length_map, List.length_zipIdx, Array.length_toList]
    omega
  · rw [look_at] at hv
    cases hx : (S y).act.tmps[t]? with
    | none => rw [hx] at hv; cases hv
    | some x =>
      rw [hx] at hv
      simp only [Option.map_some, Option.some.injEq] at hv
      by_cases hn : t ∈ opNames ops.toList o
      · rw [if_pos hn] at hv
        subst hv
        have e1 : (TK ops a0 R (fun z => anc ops y z) s)[t]? = some x := by
          rw [TK_skip (show y ≤ s by omega) (fun z g1 _ g3 => by have := anc_lt X.back y z (by omega) g3; omega), ← hx, ← htk]
          refine TK_congr fun z hz hd => ?_
          cases hb : anc ops y z with
          | true => rfl
          | false => exact absurd hn (apartOf z (by omega) (by omega) (by simp [hb]) (fun h => by have := anc_lt X.back z y (by omega) h; omega) t hd)
        obtain ⟨v2, g1, g2⟩ := I.tmp _ (X.before_closed hy) hanc t x e1 (fun z hz hb hd => by
          refine apartOf z (I.closed.lt z hz) (fun e => by rw [e, hyL] at hz; cases hz) (by simp [hb]) (fun h => by have := I.closed.anc z y hz h; rw [hyL] at this; cases this) t hd hn)
        rw [hv'] at g1
        cases g1
        exact g2
      · rw [if_neg hn] at hv
        subst hv
        exact .poison _
  · rw [I.defers, hA.marks]
    have e : (lookAct ops o (S y).act).marks = a0.marks := X.marks_all (show y ≤ s by omega)
    rw [e]
    apply List.map_congr_left
    intro m hm
    rw [(I.ext m (hD m (hA.known m hm))).1]
  · have e : (lookAct ops o (S y).act).marks = a0.marks := X.marks_all (show y ≤ s by omega)
    rw [e] at hm
    exact .inl (hA.known m hm)
end
end Go.Cl
/- A region that draws its order: one operation more. -/
set_option linter.unusedSimpArgs false
set_option linter.unusedVariables false
namespace Go.Cl
open Go Go.RowKit

section
variable {E : Env} {r : Rec} {base : Nat} {ops : Array Oper} {s : Nat} {us : List (Nat × Nat)} {a0 : CAct} {h0 : List Blk} {S : Nat → QSt} {R : Nat → Option QRes}
variable {D : Nat → Prop} {β0 β β' : Nat → Nat × Nat} {κ0 κ κ' : Nat → Nat} {N : Kp} {w0 w w' : World} {a0' a' : Act} {L : Nat → Bool}

/-- What an operation of the first part comes to. -/
def resOf (R : Nat → Option QRes) (y : Nat) : QRes := match R y with | some q => q | none => { val := undef }
theorem resOf_new (y : Nat) : newOf R y = (resOf R y).new := by unfold newOf resOf; cases R y <;> rfl
theorem resOf_upd (y : Nat) : updOf R y = (resOf R y).upd := by unfold updOf resOf; cases R y <;> rfl
theorem resOf_val (y : Nat) : valOf R y = (resOf R y).val := by unfold valOf resOf; cases R y <;> rfl
theorem stepJ_res (y : Nat) (H : Nat → Blk) : stepJ S R y H = stepF (S y).heap.length (resOf R y) H := by
  cases hq : R y with
  | some q => rw [stepJ_some hq]; unfold resOf; rw [hq]
  | none =>
    rw [stepJ_none hq]
    unfold resOf
    rw [hq]
    funext i
    unfold stepF
    have : ¬ ((S y).heap.length ≤ i ∧ i < (S y).heap.length + ([] : List Blk).length) := by simp
    rw [if_neg this]


/-- What touches a block that an operation writes stands before it, if it has been done. -/
theorem Run.writers (X : Run E r base ops s us a0 h0 S R) {y k : Nat} {b : Blk} (hy : y < s) (hu : updOf R y = some (k, b)) {z : Nat} (hz : z < s) (hzy : z ≠ y) (hza : anc ops z y ≠ true) (ht : touches S R z k) : anc ops y z = true := by
  obtain ⟨hal, hl⟩ := X.upd_alive hy hu
  obtain ⟨_, h2, h3⟩ := X.sees hy hal
  rcases ht with ht | ⟨c, ht⟩
  · by_cases h : z < y
    · exact h2 z h ht
    · have := X.len_le (show y ≤ z by omega) (by omega)
      have := ht.1
      omega
  · rcases h3 z c hz ht with h | h | h
    · exact absurd h hzy
    · exact absurd h hza
    · exact h

theorem Inv.step (X : Run E r base ops s us a0 h0 S R) (I : Inv E base ops s a0 h0 S R D β0 κ0 N w0 a0' L β κ a' w) (hD : ∀ i, D i → i < h0.length) {y : Nat} (hy : y < s) (hyL : L y = false) (hanc : ∀ z, anc ops y z = true → L z = true)
    {o : Oper} (ho : ops[y]? = some o) {v' : Value} (hQ : QOut E.P (DK S R D (fun z => anc ops y z)) β κ base N (S y).heap.length w (resOf R y) v' w' β' κ') :
    Inv E base ops s a0 h0 S R D β0 κ0 N w0 a0' (fun z => L z || z == y) β' κ' (a'.put o.dst v') w' := by
  have hs := X.hs
  have hq := resOf_new (R := R) y
  have hu := resOf_upd (R := R) y
  have notyet : ∀ z, L z = true → z ≠ y ∧ anc ops z y ≠ true := fun z hz => ⟨fun e => absurd hz (by rw [e, hyL]; simp), fun h => absurd (I.closed.anc z y hz h) (by rw [hyL]; simp)⟩
  have h0y : h0.length ≤ (S y).heap.length := by
    have h3 := X.len_le (Nat.zero_le y) (by omega)
    rw [X.s0] at h3
    exact h3
  -- the view
  have hview : ∀ k b, updOf R y = some (k, b) → HK h0 S R (fun z => anc ops y z) s k ≠ .dead := by
    intro k b hk
    obtain ⟨hal, _⟩ := X.upd_alive hy hk
    rcases X.view I hy hyL hanc k with h | h
    · rw [h] at hal
      rw [← (HM_alive hal).2]; exact hal
    · exact absurd h hal
  -- a set of done operations with all that stands before y sees the block that y writes
  have hkeepK : ∀ K : Nat → Bool, Closed ops s K → (∀ z, K z = true → L z = true) → (∀ z, anc ops y z = true → K z = true) → ∀ k b, updOf R y = some (k, b) → HK h0 S R K s k ≠ .dead := by
    intro K hK hKL hKa k b hk
    have e : HK h0 S R K s k = HK h0 S R (fun z => anc ops y z) s k := HK_congr fun z hz ht => by
      cases hkz : K z with
      | true =>
        obtain ⟨g1, g2⟩ := notyet z (hKL z hkz)
        exact (X.writers hy hk hz g1 g2 ht).symm
      | false =>
        cases hb : anc ops y z with
        | false => rfl
        | true => exact absurd (hKa z hb) (by rw [hkz]; simp)
    rw [e]; exact hview k b hk
  have hdk : ∀ K : Nat → Bool, Closed ops s K → K y = false → ∀ i, DK S R D K i → ¬ InNew (S y).heap.length (resOf R y).new.length i := by
    intro K hK hKy i hi hn
    rcases hi with h | ⟨j, h1, h2⟩
    · have := hD i h; have := hn.1; omega
    · rw [← hq] at hn
      have hj := hK.lt j h1
      have hjy : j ≠ y := fun e => absurd h1 (by rw [e, hKy]; simp)
      rcases Nat.lt_or_gt_of_ne hjy with h | h
      · have := X.new_lt h (by omega); have := h2.2; have := hn.1; omega
      · have := X.new_lt h (by omega); have := h2.1; have := hn.2; omega
  have hRL := I.rel L I.closed fun _ h => h
  have hLL : ∀ i, HM h0 S R s L L i = HK h0 S R L s i := fun i => HM_live (by rintro ⟨z, b, h1, h2, _⟩; rw [h1] at h2; cases h2)
  -- sets with y
  have without : ∀ K' : Nat → Bool, Closed ops s K' → (∀ z, K' z = true → (L z || z == y) = true) → K' y = true →
      Closed ops s (fun z => K' z && !(z == y)) ∧ (∀ z, (K' z && !(z == y)) = true → L z = true) ∧ (∀ z, anc ops y z = true → (K' z && !(z == y)) = true) ∧ (∀ z, K' z = ((K' z && !(z == y)) || z == y)) := by
    intro K' hK' hKL' hKy
    have hsub : ∀ z, (K' z && !(z == y)) = true → L z = true := fun z hz => by
      simp only [Bool.and_eq_true, Bool.not_eq_true', beq_eq_false_iff_ne, ne_eq] at hz
      have := hKL' z hz.1
      simpa [hz.2] using this
    refine ⟨⟨fun z hz => hK'.lt z (by simp only [Bool.and_eq_true] at hz; exact hz.1), fun z i hz hi => ?_⟩, hsub, fun z hz => ?_, fun z => ?_⟩
    · have hzL := hsub z hz
      simp only [Bool.and_eq_true, Bool.not_eq_true', beq_eq_false_iff_ne, ne_eq] at hz ⊢
      refine ⟨hK'.anc z i hz.1 hi, fun e => ?_⟩
      subst e
      exact (notyet z hzL).2 hi
    · simp only [Bool.and_eq_true, Bool.not_eq_true', beq_eq_false_iff_ne, ne_eq]
      refine ⟨hK'.anc y z hKy hz, fun e => ?_⟩
      subst e
      have := anc_lt X.back z z (by omega) hz
      omega
    · by_cases e : z = y
      · rw [e, hKy]; simp
      · have e' : (z == y) = false := by simpa using e
        rw [e']; simp
  have apartK : ∀ K : Nat → Bool, (∀ z, K z = true → L z = true) → ∀ z, y < z → z < s → K z = true → apart ops y z := by
    intro K hKL z h1 h2 h3
    refine ⟨by omega, fun h => ?_, (notyet z (hKL z h3)).2⟩
    have := anc_lt X.back y z (by omega) h
    omega
  refine ⟨⟨fun z hz => ?_, fun z i hz hi => ?_⟩, fun K' hK' hKL' => ?_, fun K' hK' hKL' t v hv hside => ?_, ?_, ?_, fun i hi => ?_, I.below.trans hQ.below⟩
  · simp only [Bool.or_eq_true, beq_iff_eq] at hz
    rcases hz with hz | hz
    · exact I.closed.lt z hz
    · omega
  · simp only [Bool.or_eq_true, beq_iff_eq] at hz ⊢
    rcases hz with hz | hz
    · exact .inl (I.closed.anc z i hz hi)
    · subst hz; exact .inl (hanc i hi)
  · -- the heap
    cases hKy : K' y with
    | false =>
      have hKL : ∀ z, K' z = true → L z = true := fun z hz => by
        have := hKL' z hz
        have hne : z ≠ y := fun e => absurd hz (by rw [e, hKy]; simp)
        simpa [hne] using this
      have hR := I.rel K' hK' hKL
      refine hR.frame (fun _ h => h) (fun i hi => hQ.ext i (hdk K' hK' hKy i hi)) (fun i hi => ?_) hQ.below.size
      obtain ⟨hm, he⟩ := HM_alive hi
      have hm' : ¬ ∃ z b, L z = true ∧ K' z = false ∧ updOf R z = some (i, b) := by
        rintro ⟨z, b, g1, g2, g3⟩
        exact hm ⟨z, b, by simp [g1], g2, g3⟩
      have hKa : HK h0 S R K' s i ≠ .dead := by rw [← he]; exact hi
      have hni : ¬ InNew (S y).heap.length (resOf R y).new.length i := fun hn => by
        have := X.made hK' hy (by rw [hq]; exact hn) hKa
        rw [hKy] at this
        cases this
      have hx := hQ.ext i hni
      refine ⟨by rw [he, HM_live hm'], hx.1, hx.2, hQ.keep _ ?_ fun k b hk heq => ?_⟩
      · have := hR.blk i
        rw [HM_live hm'] at this
        exact this.valid hKa
      · -- y writes elsewhere
        rw [← hu] at hk
        have hki : k ≠ i := fun e => hm ⟨y, b, by simp, hKy, by rw [← e]; exact hk⟩
        have hbk : base ≤ k := (hQ.upd k b (by rw [← hu]; exact hk)).1
        have hLk : HM h0 S R s L L k ≠ .dead := by rw [hLL]; exact hkeepK L I.closed (fun _ h => h) hanc k b hk
        have hLi : HM h0 S R s L L i ≠ .dead := by
          rw [hLL]
          have e : HK h0 S R L s i = HK h0 S R K' s i := HK_congr fun z hz ht => by
            cases hkz : K' z with
            | true => exact hKL z hkz
            | false =>
              cases hlz : L z with
              | false => rfl
              | true =>
                rcases ht with ht | ⟨c, ht⟩
                · have := X.made hK' hz ht hKa
                  rw [hkz] at this
                  cases this
                · exact absurd ⟨z, c, hlz, hkz, ht⟩ hm'
          rw [e]; exact hKa
        by_cases hbi : base ≤ i
        · exact hki (hRL.inj i k hLi hLk hbi hbk heq).symm
        · have h1 := hRL.ro i hLi (by omega)
          exact Kp.ne h1 (hRL.own k hLk hbk).1 heq
    | true =>
      obtain ⟨hK, hKL, hKa, hKeq⟩ := without K' hK' hKL' hKy
      generalize hKdef : (fun z => K' z && !(z == y)) = K at hK
      have hKL : ∀ z, K z = true → L z = true := fun z hz => hKL z (by rw [← hKdef] at hz; exact hz)
      have hKa : ∀ z, anc ops y z = true → K z = true := fun z hz => by rw [← hKdef]; exact hKa z hz
      have hKeq : ∀ z, K' z = (K z || z == y) := fun z => by rw [← hKdef]; exact hKeq z
      have hKyf : K y = false := by rw [← hKdef]; simp
      have hR := I.rel K hK hKL
      have nomask : ∀ k b, updOf R y = some (k, b) → ¬ ∃ z c, L z = true ∧ K z = false ∧ updOf R z = some (k, c) := by
        rintro k b hk ⟨z, c, g1, g2, g3⟩
        obtain ⟨e1, e2⟩ := notyet z g1
        have := hKa z (X.writers hy hk (I.closed.lt z g1) e1 e2 (.inr ⟨c, g3⟩))
        rw [g2] at this
        cases this
      have hstep := hR.step hQ (fun i hi => hi.imp id fun ⟨j, h1, h2⟩ => ⟨j, hKa j h1, h2⟩) (hdk K hK hKyf) (by have := X.baseLe; omega) (fun k b hk => by
        rw [← hu] at hk
        rw [HM_live (nomask k b hk)]
        exact hkeepK K hK hKL hKa k b hk)
      have e1 : (fun i => DK S R D K i ∨ InNew (S y).heap.length (resOf R y).new.length i) = DK S R D K' := by
        funext i
        apply propext
        constructor
        · rintro ((h | ⟨j, h1, h2⟩) | h)
          · exact .inl h
          · exact .inr ⟨j, by rw [hKeq, h1]; rfl, h2⟩
          · exact .inr ⟨y, hKy, by rw [hq]; exact h⟩
        · rintro (h | ⟨j, h1, h2⟩)
          · exact .inl (.inl h)
          · by_cases e : j = y
            · subst e; rw [hq] at h2; exact .inr h2
            · rw [hKeq] at h1
              exact .inl (.inr ⟨j, by simpa [e] using h1, h2⟩)
      have e2 : stepF (S y).heap.length (resOf R y) (HM h0 S R s K L) = HM h0 S R s K' (fun z => L z || z == y) := by
        funext i
        have masks : (∃ z b, (L z || z == y) = true ∧ K' z = false ∧ updOf R z = some (i, b)) ↔ ∃ z b, L z = true ∧ K z = false ∧ updOf R z = some (i, b) := by
          constructor
          · rintro ⟨z, b, g1, g2, g3⟩
            have hne : z ≠ y := fun e => by rw [e, hKy] at g2; cases g2
            refine ⟨z, b, by simpa [hne] using g1, ?_, g3⟩
            rw [hKeq] at g2
            simp only [Bool.or_eq_false_iff] at g2
            exact g2.1
          · rintro ⟨z, b, g1, g2, g3⟩
            refine ⟨z, b, by simp [g1], ?_, g3⟩
            rw [hKeq, g2]
            simpa using (notyet z g1).1
        by_cases hm : ∃ z b, L z = true ∧ K z = false ∧ updOf R z = some (i, b)
        · rw [HM_dead (masks.2 hm)]
          have hnt : ¬ touches S R y i := by
            rintro (ht | ⟨c, ht⟩)
            · obtain ⟨z, b, g1, g2, g3⟩ := hm
              have hz := I.closed.lt z g1
              obtain ⟨hal, hl⟩ := X.upd_alive hz g3
              rcases Nat.lt_or_gt_of_ne (notyet z g1).1 with h | h
              · have := X.len_le (show z ≤ y by omega) (by omega)
                have := ht.1
                omega
              · exact (notyet z g1).2 ((X.sees hz hal).2.1 y h ht)
            · exact nomask i c ht hm
          rw [← stepJ_res, stepJ_not hnt, HM_dead hm]
        · rw [HM_live (fun h => hm (masks.1 h))]
          have e3 : HK h0 S R K' s = HK h0 S R (fun z => K z || z == y) s := by
            have : K' = fun z => K z || z == y := funext hKeq
            rw [this]
          rw [e3, X.HK_insert hy hKyf hy (Nat.le_refl _) (apartK K hKL), ← stepJ_res]
          by_cases ht : touches S R y i
          · exact stepJ_touch ht
          · rw [stepJ_not ht, stepJ_not ht, HM_live hm]
      rw [e1, e2] at hstep
      exact hstep
  · -- the temporaries
    have hput : ∀ t', (a'.put o.dst v').tmps.toList[t']? = if o.dst = some t' then (if t' < a'.tmps.size then some v' else none) else a'.tmps.toList[t']? := by
      intro t'
      cases hd : o.dst with
      | none => simp [Act.put]
      | some d =>
        simp only [Act.put, Array.toList_setIfInBounds, List.getElem?_set, Option.some.injEq, Array.length_toList]
        by_cases he : d = t'
        · subst he; rfl
        · rw [if_neg he, if_neg he]
    have hdy : dstOf ops y = o.dst := by unfold dstOf; rw [ho]; rfl
    cases hKy : K' y with
    | false =>
      have hKL : ∀ z, K' z = true → L z = true := fun z hz => by
        have := hKL' z hz
        have hne : z ≠ y := fun e => absurd hz (by rw [e, hKy]; simp)
        simpa [hne] using this
      obtain ⟨v2, g1, g2⟩ := I.tmp K' hK' hKL t v hv fun z hz hk => hside z (by simp [hz]) hk
      refine ⟨v2, ?_, g2.mono (fun _ h => h) (fun i hi => hQ.ext i (hdk K' hK' hKy i hi))⟩
      rw [hput, if_neg (by rw [← hdy]; exact hside y (by simp) hKy)]
      exact g1
    | true =>
      obtain ⟨hK, hKL, hKa, hKeq⟩ := without K' hK' hKL' hKy
      generalize hKdef : (fun z => K' z && !(z == y)) = K at hK
      have hKL : ∀ z, K z = true → L z = true := fun z hz => hKL z (by rw [← hKdef] at hz; exact hz)
      have hKa : ∀ z, anc ops y z = true → K z = true := fun z hz => by rw [← hKdef]; exact hKa z hz
      have hKeq : ∀ z, K' z = (K z || z == y) := fun z => by rw [← hKdef]; exact hKeq z
      have hKyf : K y = false := by rw [← hKdef]; simp
      have e3 : TK ops a0 R K' s = TK ops a0 R (fun z => K z || z == y) s := by
        have : K' = fun z => K z || z == y := funext hKeq
        rw [this]
      rw [e3, X.TK_insert hy hKyf hy (Nat.le_refl _) (apartK K hKL)] at hv
      by_cases hdt : o.dst = some t
      · have hlt : t < a0.tmps.length := by
          have := (List.getElem?_eq_some_iff.1 hv).1
          rw [putJ_length, TK_length] at this
          exact this
        have hvv : v = (resOf R y).val := by
          unfold putJ at hv
          rw [hdy, hdt] at hv
          simp only [List.getElem?_set, TK_length, hlt, if_true] at hv
          rw [← resOf_val]
          exact (Option.some.inj hv).symm
        refine ⟨v', by rw [hput, if_pos hdt, if_pos (by rw [I.len]; exact hlt)], ?_⟩
        rw [hvv]
        refine hQ.val.mono (fun i hi => ?_) Ext.refl
        rcases hi with (h | ⟨j, h1, h2⟩) | h
        · exact .inl h
        · exact .inr ⟨j, by rw [hKeq, hKa j h1]; rfl, h2⟩
        · exact .inr ⟨y, hKy, by rw [hq]; exact h⟩
      · rw [putJ_not (by rw [hdy]; exact hdt)] at hv
        obtain ⟨v2, g1, g2⟩ := I.tmp K hK hKL t v hv fun z hz hk => hside z (by simp [hz]) (by rw [hKeq, hk]; simpa using (notyet z hz).1)
        refine ⟨v2, by rw [hput, if_neg hdt]; exact g1, g2.mono (fun i hi => ?_) (fun i hi => hQ.ext i (hdk K hK hKyf i hi))⟩
        rcases hi with h | ⟨j, h1, h2⟩
        · exact .inl h
        · exact .inr ⟨j, by rw [hKeq, h1]; rfl, h2⟩
  · rw [← I.len]
    cases o.dst with
    | none => rfl
    | some d => simp [Act.put]
  · rw [← I.defers]
    cases o.dst <;> rfl
  · have := hQ.ext i (fun hn => by have := hn.1; omega)
    have h2 := I.ext i hi
    exact ⟨this.1.trans h2.1, this.2.trans h2.2⟩
end
end Go.Cl
/- The clean interpreter is right. -/
set_option linter.unusedSimpArgs false
set_option linter.unusedVariables false
namespace Go.Cl
open Go Go.RowKit

theorem filter_less {α : Type} {p q : α → Bool} : ∀ {l : List α}, (∀ x ∈ l, q x = true → p x = true) → (∃ y ∈ l, p y = true ∧ q y = false) → (l.filter q).length + 1 ≤ (l.filter p).length
  | [], _, h => by obtain ⟨y, hy, _⟩ := h; cases hy
  | x :: l, h1, h2 => by
    have sub : ∀ x ∈ l, q x = true → p x = true := fun z hz => h1 z (List.mem_cons_of_mem _ hz)
    have le : (l.filter q).length ≤ (l.filter p).length := by
      clear h2
      induction l with
      | nil => simp
      | cons z l ih =>
        have ih := ih (fun w hw => h1 w (by simp at hw ⊢; rcases hw with h | h <;> simp [h])) (fun w hw => sub w (List.mem_cons_of_mem _ hw))
        have hz := sub z (by simp)
        simp only [List.filter_cons]
        cases hq : q z with
        | true => rw [hz hq]; simpa using ih
        | false =>
          cases hp : p z with
          | true => simp; omega
          | false => simpa using ih
    simp only [List.filter_cons]
    cases hq : q x with
    | true =>
      have hp := h1 x (by simp) hq
      rw [hp]
      have : ∃ y ∈ l, p y = true ∧ q y = false := by
        obtain ⟨y, hy, g1, g2⟩ := h2
        rcases List.mem_cons.1 hy with e | e
        · subst e; rw [hq] at g2; cases g2
        · exact ⟨y, e, g1, g2⟩
      have := filter_less sub this
      simpa using this
    | false =>
      cases hp : p x with
      | true => simpa using le
      | false =>
        have : ∃ y ∈ l, p y = true ∧ q y = false := by
          obtain ⟨y, hy, g1, g2⟩ := h2
          rcases List.mem_cons.1 hy with e | e
          · subst e; rw [hp] at g1; cases g1
          · exact ⟨y, e, g1, g2⟩
        have := filter_less sub this
        simpa using this

section
variable {E : Env} {r : Rec} {base : Nat} {ops : Array Oper} {s : Nat} {us : List (Nat × Nat)} {a0 : CAct} {h0 : List Blk} {S : Nat → QSt} {R : Nat → Option QRes}
variable {D : Nat → Prop} {β0 : Nat → Nat × Nat} {κ0 : Nat → Nat} {N : Kp} {w0 : World} {a0' : Act}


/-- The first part, in whatever order. -/
theorem Run.phase1 (X : Run E r base ops s us a0 h0 S R) {Q : Exit → Act → World → Prop} {ro : Option Nat} (hcall : ∀ h g args v new, callQ E r g args h = some (v, new) → PureSim E.P g args h v new)
    (hD : ∀ i, D i → i < h0.length) (hA : ActR D β0 κ0 a0 a0') (htail : ∀ j i, s ≤ j → j < ops.size → i < j → anc ops j i = true)
    (hK : ∀ L β κ a' w, Inv E base ops s a0 h0 S R D β0 κ0 N w0 a0' L β κ a' w → (∀ i, i < s → L i = true) → wpListIn (FW ro) 0 E.P ops Q (ops.toList.drop s) a' w) :
    ∀ (fuel : Nat) (listed : Array Bool) (L : Nat → Bool) β κ (a' : Act) (w : World), Inv E base ops s a0 h0 S R D β0 κ0 N w0 a0' L β κ a' w → listed.size = ops.size → (∀ i, i < s → listed.getD i false = L i) →
      (∀ i, s ≤ i → i < ops.size → listed.getD i false = false) → ((List.range s).filter fun i => !L i).length + (ops.size - s) ≤ fuel → wpAnyIn (FW ro) 0 E.P .any ops Q fuel listed a' w := by
  have hs := X.hs
  intro fuel
  have toTrue : ∀ {listed : Array Bool} {i : Nat}, listed.size = ops.size → i < ops.size → listed.getD i true = listed.getD i false := by
    intro listed i hsz hi
    have hil : i < listed.size := by omega
    simp only [Array.getD_eq_getD_getElem?, Array.getElem?_eq_getElem hil, Option.getD_some]
  have done : ∀ (fuel : Nat) (listed : Array Bool) (L : Nat → Bool) β κ (a' : Act) (w : World), Inv E base ops s a0 h0 S R D β0 κ0 N w0 a0' L β κ a' w → listed.size = ops.size → (∀ i, i < s → listed.getD i false = L i) →
      (∀ i, s ≤ i → i < ops.size → listed.getD i false = false) → (ops.size - s) ≤ fuel → (∀ i, i < s → L i = true) → wpAnyIn (FW ro) 0 E.P .any ops Q fuel listed a' w := by
    intro fuel listed L β κ a' w I hsz h1 h2 hf hall
    exact tail_wp X.back htail fuel s listed a' w (Nat.le_refl _) hs hf hsz (fun i hi => by rw [h1 i hi]; exact hall i hi) (fun i hi hil => by rw [toTrue hsz hil]; exact h2 i hi hil) (hK L β κ a' w I hall)
  induction fuel with
  | zero =>
    intro listed L β κ a' w I hsz h1 h2 hf
    refine done 0 listed L β κ a' w I hsz h1 h2 (by omega) fun i hi => ?_
    cases hL : L i with
    | true => rfl
    | false =>
      have : i ∈ (List.range s).filter fun i => !L i := List.mem_filter.2 ⟨List.mem_range.2 hi, by simp [hL]⟩
      have := List.length_pos_of_mem this
      omega
  | succ fuel ih =>
    intro listed L β κ a' w I hsz h1 h2 hf
    by_cases hall : ∀ i, i < s → L i = true
    · exact done _ listed L β κ a' w I hsz h1 h2 (by omega) hall
    · have hex : ∃ i, i < s ∧ L i = false := by
        apply Classical.byContradiction
        intro hn
        apply hall
        intro i hi
        cases hL : L i with
        | true => rfl
        | false => exact absurd ⟨i, hi, hL⟩ hn
      obtain ⟨i0, hi0, hL0⟩ := hex
      have hcl : ∀ z i, z < ops.size → listed.getD z false = true → anc ops z i = true → listed.getD i false = true := by
        intro z i hz hlz hi
        by_cases hzs : z < s
        · rw [h1 z hzs] at hlz
          have := I.closed.anc z i hlz hi
          rw [h1 i (I.closed.lt i this)]
          exact this
        · rw [h2 z (by omega) hz] at hlz
          cases hlz
      refine ⟨fun hnil => absurd hnil (ready_some X.back hsz (show i0 < ops.size by omega) (by rw [toTrue hsz (by omega), h1 i0 hi0]; exact hL0)), fun y hy => ?_⟩
      obtain ⟨hyl, o, ho, _⟩ := mem_ready.1 hy
      have hysz : y < ops.size := (Array.getElem?_eq_some_iff.1 ho).1
      have hya := ready_anc X.back hcl hy
      have hys : y < s := by
        apply Classical.byContradiction
        intro hn
        have := hya i0 (htail y i0 (by omega) hysz (by omega))
        rw [h1 i0 hi0, hL0] at this
        cases this
      have hyL : L y = false := by rw [← h1 y hys, ← toTrue hsz hysz]; exact hyl
      have hanc : ∀ z, anc ops y z = true → L z = true := fun z hz => by
        have := hya z hz
        rw [h1 z (by have := anc_lt X.back y z hysz hz; omega)] at this
        exact this
      have next : ∀ (v' : Value) (w' : World) (β' : Nat → Nat × Nat) (κ' : Nat → Nat), QOut E.P (DK S R D (fun z => anc ops y z)) β κ base N (S y).heap.length w (resOf R y) v' w' β' κ' →
          wpAnyIn (FW ro) 0 E.P .any ops Q fuel (listed.setIfInBounds y true) (a'.put o.dst v') w' := by
        intro v' w' β' κ' hQ
        have hget : ∀ i, i ≠ y → ∀ d, (listed.setIfInBounds y true).getD i d = listed.getD i d := fun i hi d => by
          simp only [Array.getD_eq_getD_getElem?, Array.getElem?_setIfInBounds_ne (fun e => hi e.symm)]
        refine ih _ (fun z => L z || z == y) β' κ' _ w' (Inv.step X I hD hys hyL hanc ho hQ) (by simpa using hsz) (fun i hi => ?_) (fun i hi hil => ?_) ?_
        · by_cases e : i = y
          · subst e
            simp [show i < listed.size by omega]
          · rw [hget i e, h1 i hi]
            simp [e]
        · rw [hget i (by omega)]; exact h2 i hi hil
        · have := filter_less (p := fun i => !L i) (q := fun i => !(L i || i == y)) (l := List.range s) (fun x _ hx => by simp at hx ⊢; exact hx.1) ⟨y, List.mem_range.2 hys, by simp [hyL], by simp⟩
          omega
      obtain ⟨o', ho', hst⟩ := X.op hys
      rw [ho] at ho'
      cases ho'
      have hlook := X.look I hD hA hys hyL hanc ho
      have hmlen : (masked (Region.before ops).toList (S y).own us y (S y).heap).length = (S y).heap.length := masked_length
      unfold StepOk at hst
      unfold wpOpIn
      simp only [ho]
      split at hst
      · rename_i q hRy
        obtain ⟨hw, hq, _⟩ := hst
        have hw' : Region.wanted o (yielded ops a'.tmps) = true := wanted_sim (by rw [look_wanted]; exact hw) hlook
        rw [if_pos hw']
        have hres : resOf R y = q := by unfold resOf; rw [hRy]
        have hRel : Rel E.P (DK S R D (fun z => anc ops y z)) β κ base N (toF (masked (Region.before ops).toList (S y).own us y (S y).heap)) w :=
          (I.rel _ (X.before_closed hys) hanc).weaken fun i => X.view I hys hyL hanc i
        refine qOp_wp (h := masked (Region.before ops).toList (S y).own us y (S y).heap) (ρ := (lookAct ops o (S y).act).eval) (q := q) (fun g args v new hc => hcall _ g args v new hc) ?_ hRel (fun i hi => ?_) hlook.eval fun v' w' β' κ' hQ => ?_
        · rw [look_op, hmlen]; exact hq
        · rw [hmlen]; exact X.view_lt hys hD i hi
        · rw [hmlen] at hQ
          exact next v' w' β' κ' (by rw [hres]; exact hQ)
      · rename_i hRy
        obtain ⟨hw, _⟩ := hst
        have hw' : Region.wanted o (yielded ops a'.tmps) = false := wanted_sim (by rw [look_wanted]; exact hw) hlook
        rw [if_neg (by rw [hw']; simp)]
        have hres : resOf R y = { val := undef } := by unfold resOf; rw [hRy]
        exact ⟨fun _ _ => trivial, next undef w β κ (by rw [hres]; exact QOut.same VR.undef)⟩

/-- What the first part leaves. -/
theorem Run.outcome (X : Run E r base ops s us a0 h0 S R) (hD : ∀ i, D i → i < h0.length) (hA : ActR D β0 κ0 a0 a0') {L : Nat → Bool} {β : Nat → Nat × Nat} {κ : Nat → Nat} {a' : Act} {w : World}
    (I : Inv E base ops s a0 h0 S R D β0 κ0 N w0 a0' L β κ a' w) (hall : ∀ i, i < s → L i = true) :
    Out E.P D β0 κ0 base N h0 w0 (S s).heap w β κ ∧ ActR (Up D h0 (S s).heap) β κ (S s).act a' := by
  have hle : h0.length ≤ (S s).heap.length := by
    have := X.len_le (Nat.zero_le s) (Nat.le_refl _)
    rw [X.s0] at this
    exact this
  have hR := I.rel L I.closed fun _ h => h
  have e2 : HM h0 S R s L L = toF (S s).heap := by
    rw [← X.HK_all (Nat.le_refl s) hall]
    funext i
    exact HM_live (by rintro ⟨z, b, g1, g2, _⟩; rw [g1] at g2; cases g2)
  have hsub : ∀ i, DK S R D L i → Up D h0 (S s).heap i := by
    rintro i (h | ⟨j, h1, h2⟩)
    · exact .inl h
    · have hj := I.closed.lt j h1
      have h3 := X.new_lt hj (Nat.le_refl _)
      have h4 := X.len_le (Nat.zero_le j) (by omega)
      rw [X.s0] at h4
      have h4 : h0.length ≤ (S j).heap.length := h4
      have := h2.1; have := h2.2
      exact .inr ⟨by omega, by omega⟩
  refine ⟨⟨hle, I.ext, ?_, I.below⟩, ⟨⟨?_, fun t v v' hv hv' => ?_⟩, ?_, fun m hm => ?_⟩⟩
  · rw [e2] at hR
    exact hR.frame hsub Ext.refl (fun i _ => ⟨rfl, rfl, rfl, rfl⟩) (Nat.le_refl _)
  · rw [← X.TK_all (Nat.le_refl s) hall, TK_length]
    have := I.len
    simp only [Array.length_toList]
    omega
  · rw [← X.TK_all (Nat.le_refl s) hall] at hv
    obtain ⟨v2, g1, g2⟩ := I.tmp L I.closed (fun _ h => h) t v hv fun z h1 h2 => by rw [h1] at h2; cases h2
    rw [hv'] at g1
    cases g1
    exact g2.mono hsub Ext.refl
  · rw [I.defers, hA.marks, X.marks_all (Nat.le_refl s)]
    apply List.map_congr_left
    intro m hm
    rw [(I.ext m (hD m (hA.known m hm))).1]
  · rw [X.marks_all (Nat.le_refl s)] at hm
    exact .inl (hA.known m hm)
end

def hushOp (o : Oper) : Oper := { o with op := .move (match o.dst with | some d => .tmp d | none => .const (.bool true)), guard := none }
/-- The same region, its first p operations quieted: each gives its own temporary what it has. -/
def hush (p : Nat) (ops : Array Oper) : Array Oper := ops.mapIdx fun j o => if j < p then hushOp o else o

section
variable {p : Nat} {ops : Array Oper}
theorem hush_get (j : Nat) : (hush p ops)[j]? = (ops[j]?).map fun o => if j < p then hushOp o else o := by
  unfold hush; simp [Array.getElem?_mapIdx]
theorem hush_size : (hush p ops).size = ops.size := by unfold hush; simp
theorem hush_dst (j : Nat) : ((hush p ops)[j]?).bind (·.dst) = (ops[j]?).bind (·.dst) := by
  rw [hush_get]
  cases ops[j]? with
  | none => rfl
  | some o =>
    simp only [Option.map_some, Option.bind_some]
    split <;> rfl
theorem hush_dst' (j : Nat) : ((hush p ops).toList[j]?).bind (·.dst) = (ops.toList[j]?).bind (·.dst) := by
  rw [Array.getElem?_toList, Array.getElem?_toList]; exact hush_dst j
theorem hush_map : (hush p ops).toList.map (·.after) = ops.toList.map (·.after) := by
  apply List.ext_getElem?
  intro j
  rw [List.getElem?_map, List.getElem?_map, Array.getElem?_toList, Array.getElem?_toList, hush_get]
  cases ops[j]? with
  | none => rfl
  | some o =>
    simp only [Option.map_some]
    split <;> rfl
theorem fold_after : ∀ (l l' : List Oper) (B : Array Nat), l.map (·.after) = l'.map (·.after) →
    l.foldl (init := B) (fun acc o => acc.push (oneBefore (fun i => acc.getD i 0) o)) = l'.foldl (init := B) (fun acc o => acc.push (oneBefore (fun i => acc.getD i 0) o))
  | [], [], B, _ => rfl
  | [], _ :: _, B, h => by simp at h
  | _ :: _, [], B, h => by simp at h
  | o :: l, o' :: l', B, h => by
    simp only [List.map_cons, List.cons.injEq] at h
    have e : ∀ g, oneBefore g o = oneBefore g o' := fun g => by unfold oneBefore; rw [h.1]
    rw [List.foldl_cons, List.foldl_cons, e]
    exact fold_after l l' _ h.2
theorem before_eq (ops : Array Oper) : Region.before ops = ops.toList.foldl (init := #[]) fun acc o => acc.push (oneBefore (fun i => acc.getD i 0) o) := by
  unfold Region.before oneBefore
  rw [← Array.foldl_toList]
theorem hush_before : Region.before (hush p ops) = Region.before ops := by
  rw [before_eq, before_eq]
  exact fold_after _ _ _ hush_map
theorem hush_anc (j i : Nat) : anc (hush p ops) j i = anc ops j i := by unfold anc; rw [hush_before]
theorem back_after : ∀ (l l' : List Oper) (k : Nat), l.map (·.after) = l'.map (·.after) → edgesBack l k = edgesBack l' k
  | [], [], _, _ => rfl
  | [], _ :: _, _, h => by simp at h
  | _ :: _, [], _, h => by simp at h
  | o :: l, o' :: l', k, h => by
    simp only [List.map_cons, List.cons.injEq] at h
    simp only [edgesBack]
    rw [h.1, back_after l l' (k + 1) h.2]
theorem hush_wanted {a : CAct} {o : Oper} : cWanted (hush p ops).toList a o = cWanted ops.toList a o := by
  unfold cWanted
  cases o.guard with
  | none => rfl
  | some g => simp only [hush_dst']
theorem hush_names {o : Oper} : opNames (hush p ops).toList o = opNames ops.toList o := by
  unfold opNames
  cases o.guard with
  | none => rfl
  | some g => simp only [hush_dst']
theorem hush_yielded {l : Array Value} : yielded (hush p ops) l = yielded ops l := by
  funext j
  unfold yielded
  rw [hush_dst]
theorem hush_ready {listed : Array Bool} : Region.ready .any (hush p ops) listed = Region.ready .any ops listed := by
  unfold Region.ready
  rw [hush_size]
  congr 1
  funext i
  rw [hush_get]
  cases ops[i]? with
  | none => rfl
  | some o =>
    simp only [Option.map_some]
    congr 2
    split <;> rfl
theorem wpOpIn_mono' {F : Fence} {n : Nat} {P : Program} {Q : Exit → Act → World → Prop} {i : Nat} {K K' : Act → World → Prop} {a : Act} {w : World} (h : ∀ a w, K a w → K' a w) (hh : wpOpIn F n P ops Q i K a w) : wpOpIn F n P ops Q i K' a w := by
  unfold wpOpIn at *
  split
  · rename_i ho; rw [ho] at hh; exact h _ _ hh
  · rename_i o ho
    rw [ho] at hh
    simp only at hh
    split
    · rename_i hw; rw [if_pos hw] at hh; exact Oper.wpIn_mono h hh
    · rename_i hw; rw [if_neg hw] at hh; exact ⟨hh.1, h _ _ hh.2⟩
theorem hush_wp {F : Fence} {n : Nat} {P : Program} {Q : Exit → Act → World → Prop} : ∀ (fuel : Nat) (listed : Array Bool) (a : Act) (w : World), (∀ i, i < p → listed.getD i true = true) →
    wpAnyIn F n P .any (hush p ops) Q fuel listed a w → wpAnyIn F n P .any ops Q fuel listed a w
  | 0, listed, a, w, _, h => ⟨by rw [← hush_ready (p := p)]; exact h.1, h.2⟩
  | fuel + 1, listed, a, w, hl, h => by
    refine ⟨fun e => h.1 (by rw [hush_ready]; exact e), fun y hy => ?_⟩
    have hyp : p ≤ y := by
      apply Classical.byContradiction
      intro hn
      have h1 := hl y (by omega)
      rw [(mem_ready.1 hy).1] at h1
      cases h1
    have h2 := h.2 y (by rw [hush_ready]; exact hy)
    have h3 := wpOpIn_mono' (K' := wpAnyIn F n P .any ops Q fuel (listed.setIfInBounds y true)) (fun a w hh => hush_wp fuel _ a w (fun i hi => by
      simp only [Array.getD_eq_getD_getElem?, Array.getElem?_setIfInBounds_ne (show y ≠ i by omega)]
      have := hl i hi
      simpa only [Array.getD_eq_getD_getElem?] using this) hh) h2
    unfold wpOpIn at *
    rw [hush_get, hush_yielded] at h3
    cases ho : ops[y]? with
    | none => rw [ho] at h3; exact h3
    | some o =>
      rw [ho] at h3
      simp only [Option.map_some, if_neg (show ¬ y < p by omega)] at h3
      exact h3
theorem hush_wp' {F : Fence} {n : Nat} {P : Program} {Q : Exit → Act → World → Prop} : ∀ (fuel : Nat) (listed : Array Bool) (a : Act) (w : World), (∀ i, i < p → listed.getD i true = true) →
    wpAnyIn F n P .any ops Q fuel listed a w → wpAnyIn F n P .any (hush p ops) Q fuel listed a w
  | 0, listed, a, w, _, h => ⟨by rw [hush_ready]; exact h.1, h.2⟩
  | fuel + 1, listed, a, w, hl, h => by
    refine ⟨fun e => h.1 (by rw [← hush_ready (p := p)]; exact e), fun y hy => ?_⟩
    rw [hush_ready] at hy
    have hyp : p ≤ y := by
      apply Classical.byContradiction
      intro hn
      have h1 := hl y (by omega)
      rw [(mem_ready.1 hy).1] at h1
      cases h1
    have h2 := h.2 y hy
    have h3 := wpOpIn_mono' (K' := wpAnyIn F n P .any (hush p ops) Q fuel (listed.setIfInBounds y true)) (fun a w hh => hush_wp' fuel _ a w (fun i hi => by
      simp only [Array.getD_eq_getD_getElem?, Array.getElem?_setIfInBounds_ne (show y ≠ i by omega)]
      have := hl i hi
      simpa only [Array.getD_eq_getD_getElem?] using this) hh) h2
    unfold wpOpIn at *
    rw [hush_get, hush_yielded]
    cases ho : ops[y]? with
    | none => rw [ho] at h3; exact h3
    | some o =>
      rw [ho] at h3
      simp only [Option.map_some, if_neg (show ¬ y < p by omega)]
      exact h3
end

section
variable {E : Env} {r : Rec} {base : Nat} {ops : Array Oper} {us : List (Nat × Nat)} {p q : Nat} {a : CAct} {h : List Blk}

theorem StepOk.hush {bf : List Nat} {j : Nat} {o : Oper} {S S' : QSt} {R : Option QRes} (g : StepOk E r base ops.toList bf us j o S S' R) : StepOk E r base (hush p ops).toList bf us j o S S' R := by
  unfold StepOk at *
  split
  · simp only at g; rw [hush_wanted]; exact g
  · simp only at g; rw [hush_wanted]; exact g

noncomputable def hushVal (ops : Array Oper) (a : CAct) (j : Nat) : Value := match dstOf ops j with | some d => getT a.tmps d | none => .bool true

theorem set_getT (l : List Value) (d : Nat) : l.set d (getT l d) = l := by
  rw [getT_eq]
  apply List.ext_getElem?
  intro i
  rw [List.getElem?_set]
  split
  · rename_i e
    subst e
    split
    · rename_i hl
      simp [List.getD, List.getElem?_eq_getElem hl]
    · rename_i hl
      rw [List.getElem?_eq_none (by omega)]
  · rfl

/-- The clean run of a part, the operations before it quieted. -/
theorem Run.part (hpq : p ≤ q) (hq : q ≤ ops.size) (hback : edgesBack ops.toList 0 = true) (hb : base ≤ h.length) {fin : QSt}
    (hr : quietOps E r base ops.toList (Region.before ops).toList us ((ops.toList.take q).drop p) p { act := a, heap := h } = some fin) (hus : fin.upds = us)
    (hcut : ∀ j i, p ≤ j → j < ops.size → i < p → anc ops j i = true) (hdst : ∀ i j, i < p → j < p → apart ops i j → ∀ d, dstOf ops i = some d → dstOf ops j ≠ some d)
    (hin : quietIn ops.toList (Region.before ops).toList p q = true) :
    ∃ S R, Run E r base (hush p ops) q us a h S R ∧ S q = fin ∧ ∀ j, j < p → R j = some { val := hushVal ops a j } := by
  obtain ⟨S, R, g1, g2, g3⟩ := trace _ _ _ _ hr
  have hlen : ((ops.toList.take q).drop p).length = q - p := by simp; omega
  rw [hlen] at g2
  refine ⟨fun j => S (j - p), fun j => if j < p then some { val := hushVal ops a j } else R (j - p), { hs := by rw [hush_size]; exact hq, s0 := by simpa using g1, step := ?_, upds := by show (S (q - p)).upds = us; rw [g2]; exact hus, back := by rw [back_after _ _ 0 hush_map]; exact hback, quiet := ?_, baseLe := hb }, g2, fun j hj => if_pos hj⟩
  · intro j o hj ho
    rw [hush_get] at ho
    rw [hush_before]
    by_cases hjp : j < p
    · cases ho2 : ops[j]? with
      | none => rw [ho2] at ho; cases ho
      | some o2 =>
        rw [ho2] at ho
        simp only [Option.map_some, if_pos hjp, Option.some.injEq] at ho
        subst ho
        simp only [if_pos hjp]
        have e0 : S (j - p) = { act := a, heap := h } := by rw [show j - p = 0 by omega]; exact g1
        have e1 : S (j + 1 - p) = { act := a, heap := h } := by rw [show j + 1 - p = 0 by omega]; exact g1
        have hd : dstOf ops j = o2.dst := by unfold dstOf; rw [ho2]; rfl
        rw [e0, e1]
        refine ⟨rfl, ?_, ?_⟩
        · unfold hushVal
          rw [hd]
          unfold hushOp
          cases o2.dst <;> rfl
        · unfold hushVal
          rw [hd]
          have : (hushOp o2).dst = o2.dst := rfl
          rw [this]
          cases o2.dst with
          | none => simp [CAct.put, QRes.heap]
          | some d => simp [CAct.put, QRes.heap, set_getT]
    · simp only [if_neg hjp]
      cases ho2 : ops[j]? with
      | none => rw [ho2] at ho; cases ho
      | some o2 =>
        rw [ho2] at ho
        simp only [Option.map_some, if_neg hjp, Option.some.injEq] at ho
        subst ho
        have := g3 (j - p) o2 (by rw [List.getElem?_drop, List.getElem?_take, if_pos (by omega), show p + (j - p) = j by omega]; simpa using ho2)
        rw [show p + (j - p) = j by omega, show j - p + 1 = j + 1 - p by omega] at this
        exact this.hush
  · rw [hush_before]
    unfold quietOk
    rw [List.all_eq_true]
    intro j hj
    have hj := List.mem_range.1 hj
    have hjs : j < ops.size := by omega
    rw [Array.getElem?_toList, hush_get, Array.getElem?_eq_getElem hjs]
    simp only [Option.map_some]
    rw [List.all_eq_true]
    intro i hi
    have hi := List.mem_range.1 hi
    have his : i < ops.size := by omega
    rw [Array.getElem?_toList, hush_get, Array.getElem?_eq_getElem his]
    simp only [Option.map_some]
    by_cases hji : anc ops j i = true
    · have : ((Region.before ops).toList.getD j 0).testBit i = true := hji
      rw [this]
      simp only [Bool.or_true, Bool.true_or]
    by_cases hij : anc ops i j = true
    · have : ((Region.before ops).toList.getD i 0).testBit j = true := hij
      rw [this]
      simp only [Bool.or_true, Bool.true_or]
    by_cases hne : i = j
    · simp [hne]
    have hji' : ((Region.before ops).toList.getD j 0).testBit i = false := by simpa [anc] using hji
    have hij' : ((Region.before ops).toList.getD i 0).testBit j = false := by simpa [anc] using hij
    have hne' : (i == j) = false := by simpa using hne
    rw [hji', hij', hne', hush_names]
    simp only [Bool.false_or]
    by_cases hip : i < p
    · by_cases hjp : j < p
      · rw [if_pos hip, if_pos hjp]
        have hap : apart ops i j := ⟨hne, hij, hji⟩
        have h1 := hdst i j hip hjp hap
        unfold dstOf at h1
        rw [Array.getElem?_eq_getElem his, Array.getElem?_eq_getElem hjs] at h1
        simp only [Option.bind_some] at h1
        show (match (ops[i]).dst with | none => true | some d => !((ops[j]).dst == some d) && !(opNames ops.toList (hushOp ops[j])).contains d) = true
        cases hdi : (ops[i]).dst with
        | none => rfl
        | some d =>
          have h2 := h1 d hdi
          simp only [Bool.and_eq_true, Bool.not_eq_true', beq_eq_false_iff_ne, ne_eq]
          refine ⟨h2, ?_⟩
          unfold opNames hushOp
          simp only
          cases hdj : (ops[j]).dst with
          | none => simp [Op.operands]
          | some d' =>
            rw [hdj] at h2
            have : d ≠ d' := fun e => h2 (by rw [e])
            simp [Op.operands, this]
      · exact absurd (hcut j i (by omega) hjs hip) hji
    · by_cases hjp : j < p
      · exact absurd (hcut i j (by omega) his hjp) hij
      · rw [if_neg hip, if_neg hjp]
        unfold quietIn at hin
        rw [List.all_eq_true] at hin
        have h1 := hin j (List.mem_range.2 hj)
        rw [Array.getElem?_toList, Array.getElem?_eq_getElem hjs] at h1
        simp only [Bool.or_eq_true, decide_eq_true_eq, if_neg hjp] at h1
        rcases h1 with h1 | h1
        · exact absurd h1 hjp
        rw [List.all_eq_true] at h1
        have h2 := h1 i (List.mem_range.2 hi)
        rw [Array.getElem?_toList, Array.getElem?_eq_getElem his] at h2
        simp only [Bool.or_eq_true, decide_eq_true_eq] at h2
        rcases h2 with h2 | h2
        · exact absurd h2 hip
        rw [hji', hij', hne'] at h2
        cases hdi : (ops[i]).dst with
        | none => rfl
        | some d => rw [hdi] at h2; simpa using h2
end
section
variable {E : Env} {r : Rec} {base : Nat} {ops : Array Oper} {us : List (Nat × Nat)} {p q : Nat} {a : CAct} {h : List Blk} {S : Nat → QSt} {R : Nat → Option QRes}
variable {D : Nat → Prop} {β : Nat → Nat × Nat} {κ : Nat → Nat} {N : Kp} {w : World} {a' : Act}

/-- Before a part: what stands before it has been done, and shows no trace. -/
theorem Run.startAt (X : Run E r base (hush p ops) q us a h S R) (hpq : p ≤ q) (hR0 : ∀ j, j < p → R j = some { val := hushVal ops a j })
    (hR : Rel E.P D β κ base N (toF h) w) (hA : ActR D β κ a a') : Inv E base (hush p ops) q a h S R D β κ N w a' (fun z => decide (z < p)) β κ a' w := by
  have hs := X.hs
  have lt_of : ∀ K : Nat → Bool, (∀ z, K z = true → decide (z < p) = true) → ∀ z, K z = true → z < p := fun K h z hz => by simpa using h z hz
  have hnew : ∀ z, z < p → newOf R z = [] := fun z hz => by unfold newOf; rw [hR0 z hz]
  have hupd : ∀ z, z < p → updOf R z = none := fun z hz => by unfold updOf; rw [hR0 z hz]; rfl
  have hnt : ∀ z, z < p → ∀ i, ¬ touches S R z i := fun z hz i ht => by
    rcases ht with ht | ⟨b, ht⟩
    · rw [hnew z hz] at ht
      have h1 := ht.1; have h2 := ht.2
      simp at h2
      omega
    · rw [hupd z hz] at ht; cases ht
  refine ⟨⟨fun z hz => by have : z < p := by simpa using hz
                          omega, fun z i hz hi => ?_⟩, fun K hK hKL => ?_, fun K hK hKL t v hv _ => ?_, ?_, rfl, fun i _ => ⟨rfl, rfl⟩, Held.refl _ _⟩
  · have hz : z < p := by simpa using hz
    have := anc_lt X.back z i (by omega) hi
    simpa using (show i < p by omega)
  · have hk := lt_of K hKL
    have e1 : DK S R D K = D := by
      funext i
      unfold DK
      apply propext
      constructor
      · rintro (g | ⟨j, g1, g2⟩)
        · exact g
        · exact absurd (.inl g2) (hnt j (hk j g1) i)
      · exact .inl
    have e2 : HM h S R q K (fun z => decide (z < p)) = toF h := by
      funext i
      rw [HM_live (by
        rintro ⟨z, b, g1, _, g3⟩
        rw [hupd z (by simpa using g1)] at g3
        cases g3)]
      exact HK_skip (Nat.zero_le q) fun z _ _ g => hnt z (hk z g) i
    rw [e1, e2]
    exact hR
  · have hk := lt_of K hKL
    have e1 : ∀ j, TK (hush p ops) a R K j = a.tmps := by
      intro j
      induction j with
      | zero => rfl
      | succ j ih =>
        show (if K j then putJ (hush p ops) R j (TK (hush p ops) a R K j) else TK (hush p ops) a R K j) = _
        rw [ih]
        split
        · rename_i hj
          have hjp := hk j hj
          have hd : dstOf (hush p ops) j = dstOf ops j := hush_dst j
          unfold putJ valOf
          rw [hR0 j hjp, hd]
          unfold hushVal
          cases dstOf ops j with
          | none => rfl
          | some d => exact set_getT _ _
        · rfl
    rw [e1] at hv
    obtain ⟨v', g1, g2⟩ := hA.tmps.get hv
    exact ⟨v', g1, g2.mono (fun _ g => .inl g) Ext.refl⟩
  · have := hA.tmps.len
    simpa using this.symm

variable {s : Nat} {a0 : CAct} {h0 : List Blk} {β0 : Nat → Nat × Nat} {κ0 : Nat → Nat} {w0 : World} {a0' : Act}
/-- A part's operations in whatever order; what comes behind the part stands behind all of it. -/
theorem Run.phase (X : Run E r base ops s us a0 h0 S R) {Q : Exit → Act → World → Prop} {ro : Option Nat} (hcall : ∀ h g args v new, callQ E r g args h = some (v, new) → PureSim E.P g args h v new)
    (hD : ∀ i, D i → i < h0.length) (hA : ActR D β0 κ0 a0 a0') (hcut : ∀ j i, s ≤ j → j < ops.size → i < s → anc ops j i = true)
    (hK : ∀ L β κ a' w, Inv E base ops s a0 h0 S R D β0 κ0 N w0 a0' L β κ a' w → (∀ i, i < s → L i = true) →
      ∀ (fuel : Nat) (listed : Array Bool), listed.size = ops.size → (∀ i, i < s → listed.getD i false = true) → (∀ i, s ≤ i → i < ops.size → listed.getD i false = false) → ops.size - s ≤ fuel → wpAnyIn (FW ro) 0 E.P .any ops Q fuel listed a' w) :
    ∀ (fuel : Nat) (listed : Array Bool) (L : Nat → Bool) β κ (a' : Act) (w : World), Inv E base ops s a0 h0 S R D β0 κ0 N w0 a0' L β κ a' w → listed.size = ops.size → (∀ i, i < s → listed.getD i false = L i) →
      (∀ i, s ≤ i → i < ops.size → listed.getD i false = false) → ((List.range s).filter fun i => !L i).length + (ops.size - s) ≤ fuel → wpAnyIn (FW ro) 0 E.P .any ops Q fuel listed a' w := by
  have hs := X.hs
  intro fuel
  have toTrue : ∀ {listed : Array Bool} {i : Nat}, listed.size = ops.size → i < ops.size → listed.getD i true = listed.getD i false := by
    intro listed i hsz hi
    have hil : i < listed.size := by omega
    simp only [Array.getD_eq_getD_getElem?, Array.getElem?_eq_getElem hil, Option.getD_some]
  induction fuel with
  | zero =>
    intro listed L β κ a' w I hsz h1 h2 hf
    have hall : ∀ i, i < s → L i = true := fun i hi => by
      cases hL : L i with
      | true => rfl
      | false =>
        have : i ∈ (List.range s).filter fun i => !L i := List.mem_filter.2 ⟨List.mem_range.2 hi, by simp [hL]⟩
        have := List.length_pos_of_mem this
        omega
    exact hK L β κ a' w I hall 0 listed hsz (fun i hi => by rw [h1 i hi]; exact hall i hi) h2 (by omega)
  | succ fuel ih =>
    intro listed L β κ a' w I hsz h1 h2 hf
    by_cases hall : ∀ i, i < s → L i = true
    · exact hK L β κ a' w I hall _ listed hsz (fun i hi => by rw [h1 i hi]; exact hall i hi) h2 (by omega)
    · have hex : ∃ i, i < s ∧ L i = false := by
        apply Classical.byContradiction
        intro hn
        apply hall
        intro i hi
        cases hL : L i with
        | true => rfl
        | false => exact absurd ⟨i, hi, hL⟩ hn
      obtain ⟨i0, hi0, hL0⟩ := hex
      have hcl : ∀ z i, z < ops.size → listed.getD z false = true → anc ops z i = true → listed.getD i false = true := by
        intro z i hz hlz hi
        by_cases hzs : z < s
        · rw [h1 z hzs] at hlz
          have := I.closed.anc z i hlz hi
          rw [h1 i (I.closed.lt i this)]
          exact this
        · rw [h2 z (by omega) hz] at hlz
          cases hlz
      refine ⟨fun hnil => absurd hnil (ready_some X.back hsz (show i0 < ops.size by omega) (by rw [toTrue hsz (by omega), h1 i0 hi0]; exact hL0)), fun y hy => ?_⟩
      obtain ⟨hyl, o, ho, _⟩ := mem_ready.1 hy
      have hysz : y < ops.size := (Array.getElem?_eq_some_iff.1 ho).1
      have hya := ready_anc X.back hcl hy
      have hys : y < s := by
        apply Classical.byContradiction
        intro hn
        have := hya i0 (hcut y i0 (by omega) hysz hi0)
        rw [h1 i0 hi0, hL0] at this
        cases this
      have hyL : L y = false := by rw [← h1 y hys, ← toTrue hsz hysz]; exact hyl
      have hanc : ∀ z, anc ops y z = true → L z = true := fun z hz => by
        have := hya z hz
        rw [h1 z (by have := anc_lt X.back y z hysz hz; omega)] at this
        exact this
      have next : ∀ (v' : Value) (w' : World) (β' : Nat → Nat × Nat) (κ' : Nat → Nat), QOut E.P (DK S R D (fun z => anc ops y z)) β κ base N (S y).heap.length w (resOf R y) v' w' β' κ' →
          wpAnyIn (FW ro) 0 E.P .any ops Q fuel (listed.setIfInBounds y true) (a'.put o.dst v') w' := by
        intro v' w' β' κ' hQ
        have hget : ∀ i, i ≠ y → ∀ d, (listed.setIfInBounds y true).getD i d = listed.getD i d := fun i hi d => by
          simp only [Array.getD_eq_getD_getElem?, Array.getElem?_setIfInBounds_ne (fun e => hi e.symm)]
        refine ih _ (fun z => L z || z == y) β' κ' _ w' (Inv.step X I hD hys hyL hanc ho hQ) (by simpa using hsz) (fun i hi => ?_) (fun i hi hil => ?_) ?_
        · by_cases e : i = y
          · subst e
            simp [show i < listed.size by omega]
          · rw [hget i e, h1 i hi]
            simp [e]
        · rw [hget i (by omega)]; exact h2 i hi hil
        · have := filter_less (p := fun i => !L i) (q := fun i => !(L i || i == y)) (l := List.range s) (fun x _ hx => by simp at hx ⊢; exact hx.1) ⟨y, List.mem_range.2 hys, by simp [hyL], by simp⟩
          omega
      obtain ⟨o', ho', hst⟩ := X.op hys
      rw [ho] at ho'
      cases ho'
      have hlook := X.look I hD hA hys hyL hanc ho
      have hmlen : (masked (Region.before ops).toList (S y).own us y (S y).heap).length = (S y).heap.length := masked_length
      unfold StepOk at hst
      unfold wpOpIn
      simp only [ho]
      split at hst
      · rename_i q hRy
        obtain ⟨hw, hq, _⟩ := hst
        have hw' : Region.wanted o (yielded ops a'.tmps) = true := wanted_sim (by rw [look_wanted]; exact hw) hlook
        rw [if_pos hw']
        have hres : resOf R y = q := by unfold resOf; rw [hRy]
        have hRel : Rel E.P (DK S R D (fun z => anc ops y z)) β κ base N (toF (masked (Region.before ops).toList (S y).own us y (S y).heap)) w :=
          (I.rel _ (X.before_closed hys) hanc).weaken fun i => X.view I hys hyL hanc i
        refine qOp_wp (h := masked (Region.before ops).toList (S y).own us y (S y).heap) (ρ := (lookAct ops o (S y).act).eval) (q := q) (fun g args v new hc => hcall _ g args v new hc) ?_ hRel (fun i hi => ?_) hlook.eval fun v' w' β' κ' hQ => ?_
        · rw [look_op, hmlen]; exact hq
        · rw [hmlen]; exact X.view_lt hys hD i hi
        · rw [hmlen] at hQ
          exact next v' w' β' κ' (by rw [hres]; exact hQ)
      · rename_i hRy
        obtain ⟨hw, _⟩ := hst
        have hw' : Region.wanted o (yielded ops a'.tmps) = false := wanted_sim (by rw [look_wanted]; exact hw) hlook
        rw [if_neg (by rw [hw']; simp)]
        have hres : resOf R y = { val := undef } := by unfold resOf; rw [hRy]
        exact ⟨fun _ _ => trivial, next undef w β κ (by rw [hres]; exact QOut.same VR.undef)⟩
end
/-- The places that part a region. -/
def CutAt (ops : Array Oper) (q : Nat) : Prop := ∀ j i, q ≤ j → j < ops.size → i < q → anc ops j i = true
def Cuts (ops : Array Oper) : Nat → List Nat → Prop
  | p, [] => p = ops.size
  | p, q :: rest => p ≤ q ∧ q ≤ ops.size ∧ CutAt ops q ∧ Cuts ops q rest

theorem land_full {m b p : Nat} (h : Nat.land m b = m) : ∀ i, m.testBit i = true → b.testBit i = true := by
  intro i hi
  have e : (m &&& b) = m := h
  have := congrArg (fun x => x.testBit i) e
  simp only [Nat.testBit_and, hi, Bool.true_and] at this
  exact this

theorem cutsAux_spec (ops : Array Oper) : ∀ (bs : List Nat) (p : Nat), (∀ i, bs[i]? = (Region.before ops).toList[p + i]?) → p + bs.length = ops.size →
    (∀ j i, p ≤ j → j < ops.size → i < ops.size → (cutsAux bs p).1.testBit i = true → anc ops j i = true) ∧ ∀ p0, p0 ≤ p → Cuts ops p0 (cutsAux bs p).2
  | [], p, _, hl => by
    have hl : p = ops.size := by simpa using hl
    refine ⟨fun j i h1 h2 => by omega, fun p0 h0 => ?_⟩
    exact ⟨by omega, by omega, fun j i h1 h2 => by omega, hl⟩
  | b :: bs, p, hb, hl => by
    have hl : p + (bs.length + 1) = ops.size := by simpa using hl
    obtain ⟨g1, g2⟩ := cutsAux_spec ops bs (p + 1) (fun i => by rw [show p + 1 + i = p + (i + 1) by omega, ← hb (i + 1)]; rfl) (by omega)
    have hb0 : (Region.before ops).toList.getD p 0 = b := by
      have := hb 0
      simp at this
      simp [List.getD, ← this]
    unfold cutsAux
    generalize cutsAux bs (p + 1) = c at g1 g2
    obtain ⟨m, cs⟩ := c
    simp only at g1 g2 ⊢
    have hm : ∀ j i, p ≤ j → j < ops.size → i < ops.size → (Nat.land m b).testBit i = true → anc ops j i = true := by
      intro j i h1 h2 h3 h4
      have h4 : (m &&& b).testBit i = true := h4
      rw [Nat.testBit_and, Bool.and_eq_true] at h4
      by_cases he : j = p
      · subst he
        unfold anc
        rw [hb0]
        exact h4.2
      · exact g1 j i (by omega) h2 h3 h4.1
    refine ⟨hm, fun p0 h0 => ?_⟩
    split
    · exact g2 p0 (by omega)
    · split
      · rename_i hz hc
        have hcut : CutAt ops p := fun j i h1 h2 h3 => by
          refine hm j i h1 h2 (by omega) ?_
          have e : ((Nat.land m b) &&& (2 ^ p - 1)) = 2 ^ p - 1 := hc
          have := congrArg (fun x => x.testBit i) e
          simp only [Nat.testBit_and, Nat.testBit_two_pow_sub_one, show i < p from h3, decide_true, Bool.and_true] at this
          exact this
        exact ⟨h0, by omega, hcut, g2 p (by omega)⟩
      · exact g2 p0 (by omega)

section
variable {E : Env} {r : Rec} {base : Nat} {ops : Array Oper} {N : Kp} {Q : Exit → Act → World → Prop} {ro : Option Nat}

/-- One operation by itself. -/
theorem one_wp {m0 : Nat} (hr : Sound E m0 r) (hcall : ∀ h g args v new, callQ E r g args h = some (v, new) → PureSim E.P g args h v new) {p : Nat} {o : Oper} (ho : ops[p]? = some o) {a a1 : CAct} {h h1 : List Blk}
    (hs : seqOps E r base ops.toList [o] a h = some (a1, h1)) {D : Nat → Prop} {β κ} {w : World} {a' : Act} (hD : ∀ i, D i → i < h.length) (hb : base ≤ h.length) (hR : Rel E.P D β κ base N (toF h) w) (hA : ActR D β κ a a')
    {K : Act → World → Prop} (hK : ∀ β' κ' w' a1', Out E.P D β κ base N h w h1 w' β' κ' → ActR (Up D h h1) β' κ' a1 a1' → K a1' w') : wpOpIn (FW ro) 0 E.P ops Q p K a' w := by
  unfold wpOpIn
  simp only [ho]
  have key : ∀ (v : Value) (h2 : List Blk) (v' : Value) (w' : World) β' κ', Out E.P D β κ base N h w h2 w' β' κ' → VR (Up D h h2) β' κ' v v' → seqOps E r base ops.toList [] (a.put o.dst v) h2 = some (a1, h1) → K (a'.put o.dst v') w' := by
    intro v h2 v' w' β' κ' hO hv hs2
    cases hs2
    exact hK β' κ' w' _ hO ((hA.out hO hD).put o.dst hv)
  unfold seqOps at hs
  split at hs
  · rename_i hw
    have hw' := wanted_sim hw hA
    rw [if_pos hw']
    split at hs
    · split at hs
      · rename_i v h2 hio
        rw [putK_eq] at hs
        exact iOp_wp hr hio hD hb hR hA.eval fun v' w' β' κ' hO hv => key v h2 v' w' β' κ' hO hv hs
      · cases hs
    · split at hs
      · rename_i q hq
        rw [applyK_eq, putK_eq] at hs
        refine qOp_wp (fun g args v new hc => hcall h g args v new hc) hq hR hD hA.eval fun v' w' β' κ' hQo => ?_
        obtain ⟨hO, hv⟩ := Out.of_q hR hD hb hQo (fun k b hu => qOp_alive hq hu)
        exact key q.val _ v' w' β' κ' hO hv hs
      · cases hs
  · rename_i hw
    have hw' := wanted_sim hw hA
    rw [if_neg (by rw [hw']; simp)]
    rw [putK_eq] at hs
    exact ⟨fun _ _ => trivial, key undef h undef w β κ (Out.refl hR) (by rw [Up.self]; exact VR.undef) hs⟩
  · cases hs

theorem parts_wp {m0 : Nat} (hr : Sound E m0 r) (hcall : ∀ h g args v new, callQ E r g args h = some (v, new) → PureSim E.P g args h v new) (hback : edgesBack ops.toList 0 = true) :
    ∀ (cuts : List Nat) (p : Nat) (a : CAct) (h : List Blk) (a1 : CAct) (h1 : List Blk), p ≤ ops.size → Cuts ops p cuts → CutAt ops p → (∀ i j, i < p → j < p → apart ops i j → ∀ d, dstOf ops i = some d → dstOf ops j ≠ some d) →
    drawParts E r base ops.toList (Region.before ops).toList cuts p a h = some (a1, h1) →
    ∀ (D : Nat → Prop) β κ (w : World) (a' : Act), (∀ i, D i → i < h.length) → base ≤ h.length → Rel E.P D β κ base N (toF h) w → ActR D β κ a a' →
    (∀ β' κ' w' a1', Out E.P D β κ base N h w h1 w' β' κ' → ActR (Up D h h1) β' κ' a1 a1' → Q .normal a1' w') →
    ∀ (fuel : Nat) (listed : Array Bool), listed.size = ops.size → (∀ i, i < p → listed.getD i false = true) → (∀ i, p ≤ i → i < ops.size → listed.getD i false = false) → ops.size - p ≤ fuel → wpAnyIn (FW ro) 0 E.P .any ops Q fuel listed a' w
  | [], p, a, h, a1, h1, hp, hc, hcp, hdst, hs, D, β, κ, w, a', hD, hb, hR, hA, hQ, fuel, listed, hsz, h3, h4, hf => by
    have hp : p = ops.size := hc
    subst hp
    cases hs
    refine tail_wp hback (s := ops.size) (fun j i g1 g2 => by omega) fuel ops.size listed a' w (Nat.le_refl _) (Nat.le_refl _) hf hsz h3 (fun i g1 g2 => by omega) ?_
    rw [List.drop_of_length_le (by simp)]
    exact hQ β κ w a' (Out.refl hR) (by rw [Up.self]; exact hA)
  | q :: rest, p, a, h, a1, h1, hp, hc, hcp, hdst, hs, D, β, κ, w, a', hD, hb, hR, hA, hQ, fuel, listed, hsz, h3, h4, hf => by
    obtain ⟨hpq, hqs, hcq, hc⟩ := hc
    have toTrue : ∀ {listed : Array Bool} {i : Nat}, listed.size = ops.size → i < ops.size → listed.getD i true = listed.getD i false := by
      intro listed i hsz hi
      have hil : i < listed.size := by omega
      simp only [Array.getD_eq_getD_getElem?, Array.getElem?_eq_getElem hil, Option.getD_some]
    unfold drawParts at hs
    split at hs
    · rename_i a2 h2 h5
      -- what comes behind the part
      have rec_ : ∀ β' κ' w' a2', (∀ i j, i < q → j < q → apart ops i j → ∀ d, dstOf ops i = some d → dstOf ops j ≠ some d) → Out E.P D β κ base N h w h2 w' β' κ' → ActR (Up D h h2) β' κ' a2 a2' →
          ∀ (fuel : Nat) (listed : Array Bool), listed.size = ops.size → (∀ i, i < q → listed.getD i false = true) → (∀ i, q ≤ i → i < ops.size → listed.getD i false = false) → ops.size - q ≤ fuel → wpAnyIn (FW ro) 0 E.P .any ops Q fuel listed a2' w' := by
        intro β' κ' w' a2' hdst' hO hA2
        refine parts_wp hr hcall hback rest q a2 h2 a1 h1 hqs hc hcq hdst' hs (Up D h h2) β' κ' w' a2' (hO.known hD) (Nat.le_trans hb hO.le) hO.rel hA2 ?_
        intro β2 κ2 w2 a3 hO2 hA3
        refine hQ β2 κ2 w2 a3 (hO.trans hO2) ?_
        rw [← Up.trans hO.le hO2.le]; exact hA3
      split at h5
      · rename_i hq1
        subst hq1
        have hpl : p < ops.size := by omega
        obtain ⟨o, ho⟩ : ∃ o, ops[p]? = some o := ⟨ops[p], Array.getElem?_eq_getElem hpl⟩
        have hone : (ops.toList.take (p + 1)).drop p = [o] := by
          apply List.ext_getElem?
          intro i
          rw [List.getElem?_drop, List.getElem?_take]
          cases i with
          | zero => simp [ho]
          | succ i => simp
        rw [hone] at h5
        have hdst' : ∀ i j, i < p + 1 → j < p + 1 → apart ops i j → ∀ d, dstOf ops i = some d → dstOf ops j ≠ some d := by
          intro i j hi hj hap
          by_cases e1 : i = p
          · have : j < p := by have := hap.1; omega
            exact absurd (by subst e1; exact hcp i j (Nat.le_refl _) hpl this) hap.2.1
          · by_cases e2 : j = p
            · have : i < p := by omega
              exact absurd (by subst e2; exact hcp j i (Nat.le_refl _) hpl this) hap.2.2
            · exact hdst i j (by omega) (by omega) hap
        cases fuel with
        | zero => omega
        | succ fuel =>
          have hcl : ∀ z i, z < ops.size → listed.getD z false = true → anc ops z i = true → listed.getD i false = true := by
            intro z i hz hlz hanc
            have hzk : z < p := by
              apply Classical.byContradiction
              intro hn
              have := h4 z (by omega) hz
              rw [hlz] at this
              cases this
            have := anc_lt hback z i hz hanc
            exact h3 i (by omega)
          have only : ∀ j ∈ Region.ready .any ops listed, j = p := by
            intro j hj
            obtain ⟨g1, o', ho', _⟩ := mem_ready.1 hj
            have hjl := (Array.getElem?_eq_some_iff.1 ho').1
            rw [toTrue hsz hjl] at g1
            have hpj : p ≤ j := by
              apply Classical.byContradiction
              intro hn
              rw [h3 j (by omega)] at g1
              cases g1
            apply Classical.byContradiction
            intro hne
            have := ready_anc hback hcl hj p (hcq j p (by omega) hjl (by omega))
            rw [h4 p (Nat.le_refl _) hpl] at this
            cases this
          refine ⟨fun hnil => absurd hnil (ready_some hback hsz hpl (by rw [toTrue hsz hpl]; exact h4 p (Nat.le_refl _) hpl)), fun j hj => ?_⟩
          have hjp := only j hj
          subst hjp
          refine one_wp hr hcall ho h5 hD hb hR hA fun β' κ' w' a2' hO hA2 => ?_
          refine rec_ β' κ' w' a2' hdst' hO hA2 fuel _ (by simpa using hsz) (fun i hi => ?_) (fun i hi hil => ?_) (by omega)
          · by_cases e : i = j
            · subst e; simp [show i < listed.size by omega]
            · simp only [Array.getD_eq_getD_getElem?, Array.getElem?_setIfInBounds_ne (show j ≠ i by omega)]
              have := h3 i (by omega)
              simpa only [Array.getD_eq_getD_getElem?] using this
          · simp only [Array.getD_eq_getD_getElem?, Array.getElem?_setIfInBounds_ne (show j ≠ i by omega)]
            have := h4 i (by omega) hil
            simpa only [Array.getD_eq_getD_getElem?] using this
      · unfold quietPart at h5
        split at h5
        · rename_i hin
          have pass : ∃ us fin, quietOps E r base ops.toList (Region.before ops).toList us ((ops.toList.take q).drop p) p { act := a, heap := h } = some fin ∧ fin.upds = us ∧ fin.act = a2 ∧ fin.heap = h2 := by
            split at h5
            · cases h5
            · rename_i s hq1
              by_cases he : s.upds.isEmpty = true
              · rw [if_pos he] at h5
                cases h5
                exact ⟨[], s, hq1, by simpa using he, rfl, rfl⟩
              · rw [if_neg he] at h5
                cases hq2 : quietOps E r base ops.toList (Region.before ops).toList s.upds ((ops.toList.take q).drop p) p { act := a, heap := h } with
                | none => rw [hq2] at h5; cases h5
                | some s' =>
                  rw [hq2] at h5
                  simp only [Option.bind_some] at h5
                  by_cases hu : (s'.upds == s.upds) = true
                  · rw [if_pos hu] at h5
                    cases h5
                    exact ⟨s.upds, s', hq2, by simpa using hu, rfl, rfl⟩
                  · rw [if_neg hu] at h5
                    cases h5
          obtain ⟨us, fin, hq, hus, e1, e2⟩ := pass
          obtain ⟨S, R, X, g2, g3⟩ := Run.part hpq hqs hback hb hq hus hcp hdst hin
          have hdst' : ∀ i j, i < q → j < q → apart ops i j → ∀ d, dstOf ops i = some d → dstOf ops j ≠ some d := by
            intro i j hi hj hap d hd
            have hap' : apart (hush p ops) i j := ⟨hap.1, by rw [hush_anc]; exact hap.2.1, by rw [hush_anc]; exact hap.2.2⟩
            obtain ⟨oi, hoi, _⟩ := X.op hi
            obtain ⟨oj, hoj, _⟩ := X.op hj
            have hdi : oi.dst = some d := by
              have := hush_dst (p := p) (ops := ops) i
              rw [hoi] at this
              exact this.trans hd
            have := (X.quiet_spec hi hj hap' hoi hoj hdi).1
            intro hdj
            apply this
            have := hush_dst (p := p) (ops := ops) j
            rw [hoj] at this
            exact this.trans hdj
          refine hush_wp (p := p) fuel listed a' w (fun i hi => by rw [toTrue hsz (by omega)]; exact h3 i hi) ?_
          refine X.phase (N := N) (Q := Q) (ro := ro) hcall hD hA (fun j i c1 c2 c3 => by rw [hush_size] at c2; rw [hush_anc]; exact hcq j i c1 c2 c3) ?_ fuel listed (fun z => decide (z < p)) β κ a' w (X.startAt hpq g3 hR hA) (by rw [hush_size]; exact hsz) (fun i hi => ?_) (fun i hi hil => ?_) ?_
          · intro L β' κ' a2' w' I hall fuel' listed' c1 c2 c3 c4
            obtain ⟨hO, hA2⟩ := X.outcome hD hA I hall
            rw [g2, e2] at hO
            rw [g2, e1, e2] at hA2
            rw [hush_size] at c1 c3 c4
            exact hush_wp' (p := p) fuel' listed' a2' w' (fun i hi => by rw [toTrue c1 (by omega)]; exact c2 i (by omega)) (rec_ β' κ' w' a2' hdst' hO hA2 fuel' listed' c1 c2 c3 c4)
          · by_cases hip : i < p
            · rw [h3 i hip]; simp [hip]
            · rw [h4 i (by omega) (by omega)]; simp [hip]
          · rw [hush_size] at hil
            exact h4 i (by omega) hil
          · rw [hush_size]
            have : ((List.range q).filter fun i => !decide (i < p)).length ≤ q - p := by
              have e : ∀ n, ((List.range n).filter fun i => !decide (i < p)).length = n - p := by
                intro n
                induction n with
                | zero => simp
                | succ n ih =>
                  rw [List.range_succ, List.filter_append, List.length_append, ih]
                  by_cases c : n < p
                  · simp [c]; omega
                  · simp [c]; omega
              rw [e]
              exact Nat.le_refl _
            omega
        · cases h5
    · cases hs
end

theorem codeParts_ok {E : Env} {m0 : Nat} {r : Rec} (hS : SumOk E) (hr : Sound E m0 r) (hmix : E.P.follows .mixedOrders = true) (base : Nat) (ops : Array Oper) (id : Nat) (a : CAct) (h : List Blk) (e : Exit) (a1 : CAct) (h1 : List Blk) (m : Nat) (ro : Option Nat)
    (hs : codeParts E r base ops a h = some (e, a1, h1)) : CodeSim E.P m ro base (.region id ops true) a h e a1 h1 := by
  intro D β κ N w a' Ro Q hD hb hR hA hro hQ
  show (Code.region id ops true).wpIn (FW Ro) 0 E.P Q a' w
  unfold codeParts at hs
  split at hs
  · rename_i hback
    cases hdo : drawParts E r base ops.toList (Region.before ops).toList (cutsAux (Region.before ops).toList 0).2 0 a h with
    | none => rw [hdo] at hs; cases hs
    | some p =>
      rw [hdo] at hs
      cases hs
      have hlen : 0 + (Region.before ops).toList.length = ops.size := by
        rw [Nat.zero_add, before_eq, Array.length_toList]
        have := (before_spec ops.toList).1
        rw [this]
        simp
      have hcuts := (cutsAux_spec ops (Region.before ops).toList 0 (fun i => by rw [Nat.zero_add]) hlen).2 0 (Nat.le_refl _)
      refine wpIn_region_any hmix (parts_wp (N := N) hr (fun h g args v new hc => callQ_sound hS hr h g args v new hc) hback _ 0 a h p.1 p.2 (Nat.zero_le _) hcuts (fun j i _ _ hi => by omega) (fun i j hi => by omega) hdo D β κ _ a' hD hb ?_ hA ?_ ops.size _ (by simp) (fun i hi => by omega) (fun i _ hi => by simp [hi]) (by omega))
      · exact ⟨hR.blk, hR.ro, hR.own, hR.inj, hR.size⟩
      · intro β' κ' w' a1' hO hA2
        exact hQ β' κ' w' a1' ⟨hO.le, hO.ext, hO.rel, (Held.refl N w).drew.trans hO.below⟩ hA2
  · cases hs

/-- A REGION THAT DRAWS ITS ORDER. -/
theorem draw0_ok {E : Env} {m0 : Nat} {r : Rec} (hS : SumOk E) (hr : Sound E m0 r) (hmix : E.P.follows .mixedOrders = true) (base : Nat) (ops : Array Oper) (id : Nat) (a : CAct) (h : List Blk) (e : Exit) (a1 : CAct) (h1 : List Blk) (m : Nat) (ro : Option Nat)
    (hs : codeDraw0 E r base ops a h = some (e, a1, h1)) : CodeSim E.P m ro base (.region id ops true) a h e a1 h1 := by
  intro D β κ N w a' Ro Q hD hb hR hA hro hQ
  show (Code.region id ops true).wpIn (FW Ro) 0 E.P Q a' w
  unfold codeDraw0 at hs
  split at hs
  · rename_i hc
    simp only [Bool.and_eq_true] at hc
    obtain ⟨hback, hquiet⟩ := hc
    cases hdo : drawOps E r base ops.toList (Region.before ops).toList (tailFrom (Region.before ops).toList ops.size) a h with
    | none => rw [hdo] at hs; cases hs
    | some p =>
      rw [hdo] at hs
      cases hs
      generalize hsdef : tailFrom (Region.before ops).toList ops.size = s at hquiet hdo
      have hsle : s ≤ ops.size := by rw [← hsdef]; exact tail_le _ _
      have htail : ∀ j i, s ≤ j → j < ops.size → i < j → anc ops j i = true := fun j i h1 h2 h3 => tail_spec _ ops.size j i (by rw [hsdef]; exact h1) h2 h3
      -- the pass that counts
      have pass : ∃ us fin, quietOps E r base ops.toList (Region.before ops).toList us (ops.toList.take s) 0 { act := a, heap := h } = some fin ∧ fin.upds = us ∧ seqOps E r base ops.toList (ops.toList.drop s) fin.act fin.heap = some p := by
        unfold drawOps at hdo
        split at hdo
        · cases hdo
        · rename_i q hq1
          by_cases he : q.upds.isEmpty = true
          · rw [if_pos he] at hdo
            exact ⟨[], q, hq1, by simpa using he, hdo⟩
          · rw [if_neg he] at hdo
            cases hq2 : quietOps E r base ops.toList (Region.before ops).toList q.upds (ops.toList.take s) 0 { act := a, heap := h } with
            | none => rw [hq2] at hdo; cases hdo
            | some q' =>
              rw [hq2] at hdo
              simp only [Option.bind_some] at hdo
              by_cases hu : (q'.upds == q.upds) = true
              · rw [if_pos hu] at hdo
                exact ⟨q.upds, q', hq2, by simpa using hu, hdo⟩
              · rw [if_neg hu] at hdo
                cases hdo
      obtain ⟨us, fin, hq, hus, hseq⟩ := pass
      obtain ⟨S, R, g1, g2, g3⟩ := trace _ _ _ _ hq
      have hlen : (ops.toList.take s).length = s := by simp; omega
      rw [hlen] at g2
      have X : Run E r base ops s us a h S R := {
        hs := hsle
        s0 := g1
        step := fun j o hj ho => by
          have := g3 j o (by rw [List.getElem?_take, if_pos hj]; simpa using ho)
          rwa [Nat.zero_add] at this
        upds := by rw [g2]; exact hus
        back := hback
        quiet := hquiet
        baseLe := hb }
      refine wpIn_region_any hmix (X.phase1 (D := D) (β0 := β) (κ0 := κ) (N := N) (w0 := w) (a0' := a') (ro := Ro) (fun h g args v new hc => callQ_sound hS hr h g args v new hc) hD hA htail ?_ ops.size _ (fun _ => false) β κ a' _ (Inv.start X hD hR hA rfl) (by simp) (fun i hi => ?_) (fun i hi hil => ?_) ?_)
      · intro L β1 κ1 a2 w2 I hall
        obtain ⟨hO, hA2⟩ := X.outcome hD hA I hall
        rw [g2] at hO hA2
        refine seqOps_wp (N := N) (fun h g args v new hc => callQ_sound hS hr h g args v new hc) (fun h h' ρ o v hio D β κ w a' next hD hb hR hρ _ hK => iOp_wp hr hio hD hb hR hρ hK)
          (ops.toList.drop s) fin.act fin.heap p.1 p.2 hseq (Up D h fin.heap) β1 κ1 w2 a2 (hO.known hD) (Nat.le_trans hb hO.le) hO.rel hA2 (fun l hl => ?_) fun β' κ' w' a1' hO2 hA3 => ?_
        · rcases hro.out hO hD with ⟨_, h0⟩ | ⟨l0, _, h0, h1⟩
          · rw [h0] at hl; cases hl
          · rw [h1] at hl; cases hl; exact ⟨l0, h0, rfl⟩
        · refine hQ β' κ' w' a1' (hO.trans hO2) ?_
          rw [← Up.trans hO.le hO2.le]; exact hA3
      · simp [show i < ops.size by omega]
      · simp [hil]
      · have h1 := List.length_filter_le (fun i => !(fun _ => false : Nat → Bool) i) (List.range s)
        rw [List.length_range] at h1
        exact Nat.le_trans (Nat.add_le_add_right h1 _) (by omega)
  · cases hs

theorem draw_ok {E : Env} {m0 : Nat} {r : Rec} (hS : SumOk E) (hr : Sound E m0 r) (hmix : E.P.follows .mixedOrders = true) : DrawOk E r := by
  intro base ops id a h e a1 h1 m ro hs
  unfold codeDraw at hs
  split at hs
  · rename_i x hx
    cases hs
    exact draw0_ok hS hr hmix base ops id a h e a1 h1 m ro hx
  · exact codeParts_ok hS hr hmix base ops id a h e a1 h1 m ro hs

/-- THE CLEAN INTERPRETER IS RIGHT. -/
theorem run_sound {E : Env} (hS : SumOk E) (hmix : E.P.follows .mixedOrders = true) : ∀ n, Sound E n (run E n)
  | 0 => none_sound E 0
  | n + 1 => layer_sound hS (run_sound hS hmix n) (draw_ok hS (run_sound hS hmix n) hmix)

/-- A FUNCTION'S ANSWER. -/
theorem answer {E : Env} (hS : SumOk E) (hmix : E.P.follows .mixedOrders = true) {n : Nat} {g : FuncId} {args : List Value} {h new : List Blk} {v : Value} (hv : (run E n).pcall g args h = some (v, new)) : PureSim E.P g args h v new :=
  (run_sound hS hmix n).pcall g args h v new hv
end Go.Cl
/- What a law's row asks of its function, out of a run of the clean interpreter. -/
set_option linter.unusedVariables false
namespace Go.Cl
open Go Go.RowKit

/-- The answer is true. -/
def saysTrue (x : Option (Value × List Blk)) : Bool :=
  match x with
  | some (.bool true, _) => true
  | _ => false

theorem saysTrue_spec {x : Option (Value × List Blk)} (h : saysTrue x = true) : ∃ new, x = some (.bool true, new) := by
  unfold saysTrue at h
  split at h
  · exact ⟨_, rfl⟩
  · cases h

theorem sumOk_none {E : Env} (h : ∀ g, E.sum g = none) (hI : E.isum = fun _ => none := by rfl) : SumOk E := SumOk.of hI fun g s args hp v new hs => by rw [h g] at hs; cases hs

/-- Nothing is known of any world: the empty heap. -/
theorem Rel.empty (P : Program) (w : World) : Rel P (fun _ => False) (fun _ => (0, 0)) (fun _ => 0) 0 (Kp.under w.heap.size) (toF []) w where
  blk := fun i => trivial
  ro := fun i hi => absurd rfl hi
  own := fun i hi => absurd rfl hi
  inj := fun i j hi => absurd rfl hi
  size := Kp.under.upto _

/-- A law without arguments. -/
theorem law0 {E : Env} (hS : SumOk E) (hmix : E.P.follows .mixedOrders = true) {n : Nat} {g : FuncId} (h : saysTrue ((run E n).pcall g [] []) = true) (W : World) :
    Calls E.P g #[] W fun e W' => e = .returned (.bool true) ∧ Below W.heap.size W W' := by
  obtain ⟨new, hr⟩ := saysTrue_spec h
  have hP := answer hS hmix hr
  refine Calls.mono (hP.2 (fun _ => False) (fun _ => (0, 0)) (fun _ => 0) W [] (fun i hi => hi.elim) (Rel.empty _ W) .nil) ?_
  rintro e W' ⟨v', β', κ', rfl, hQ⟩
  have hv := hQ.val
  cases hv
  exact ⟨rfl, hQ.below.below⟩
end Go.Cl
/- A table of answers that were reckoned apart. -/
set_option linter.unusedSimpArgs false
set_option linter.unusedVariables false
namespace Go.Cl
open Go Go.RowKit

def eqLeafV : Value → Value → Bool
  | .bool a, .bool b => a == b
  | .int k a, .int j b => k == j && a == b
  | .string a, .string b => a.data.toList == b.data.toList
  | .nilFunc, .nilFunc => true
  | .nilIface, .nilIface => true
  | .pointer none, .pointer none => true
  | .pointer (some ⟨b, o, none⟩), .pointer (some ⟨b', o', none⟩) => b == b' && o == o'
  | .slice none l c, .slice none l' c' => l == l' && c == c'
  | .slice (some ⟨b, o, none⟩) l c, .slice (some ⟨b', o', none⟩) l' c' => b == b' && o == o' && l == l' && c == c'
  | .map none, .map none => true
  | .map (some a), .map (some b) => a == b
  | .chan none, .chan none => true
  | .chan (some a), .chan (some b) => a == b
  | _, _ => false

def eqList {α : Type} (f : α → α → Bool) : List α → List α → Bool
  | [], [] => true
  | a :: l, b :: m => f a b && eqList f l m
  | _, _ => false

def eqOneV : Value → Value → Bool
  | .agg a, .agg b => eqList eqLeafV a.toList b.toList
  | a, b => eqLeafV a b

def eqV : Value → Value → Bool
  | .tuple a, .tuple b => eqList eqOneV a.toList b.toList
  | .func (.func g) a c, .func (.func g') a' c' => g == g' && eqList eqOneV a.toList a'.toList && eqList eqOneV c.toList c'.toList
  | a, b => eqOneV a b

def eqB : Blk → Blk → Bool
  | .dead, .dead => true
  | .cells t vs, .cells t' vs' => t == t' && eqList eqOneV vs vs'
  | .map t es, .map t' es' => t == t' && eqList (fun p q => eqOneV p.1 q.1 && eqOneV p.2 q.2) es es'
  | _, _ => false

theorem kind_eq {q q' : IntKind} (h : (q == q') = true) : q = q' := beq_kind h

theorem eqLeafV_sound : ∀ {a b : Value}, eqLeafV a b = true → a = b := by
  intro a b h
  unfold eqLeafV at h
  split at h
  all_goals first
    | rfl
    | (cases h; done)
    | skip
  · simp at h; subst h; rfl
  · simp only [Bool.and_eq_true] at h
    obtain ⟨h1, h2⟩ := h
    have := kind_eq h1
    subst this
    simp at h2; subst h2; rfl
  · rename_i a b
    simp only [beq_iff_eq] at h
    obtain ⟨⟨a⟩⟩ := a
    obtain ⟨⟨b⟩⟩ := b
    simp only at h
    subst h; rfl
  · simp at h; obtain ⟨rfl, rfl⟩ := h; rfl
  · simp at h; obtain ⟨rfl, rfl⟩ := h; rfl
  · simp at h; obtain ⟨⟨⟨rfl, rfl⟩, rfl⟩, rfl⟩ := h; rfl
  · simp at h; subst h; rfl
  · simp at h; subst h; rfl

theorem eqList_sound {α : Type} {f : α → α → Bool} (hf : ∀ a b, f a b = true → a = b) : ∀ {l m : List α}, eqList f l m = true → l = m
  | [], [], _ => rfl
  | [], _ :: _, h => by cases h
  | _ :: _, [], h => by cases h
  | a :: l, b :: m, h => by
    simp only [eqList, Bool.and_eq_true] at h
    rw [hf a b h.1, eqList_sound hf h.2]

theorem eqOneV_sound {a b : Value} (h : eqOneV a b = true) : a = b := by
  unfold eqOneV at h
  split at h
  · rename_i a b
    have := eqList_sound (fun _ _ => eqLeafV_sound) h
    obtain ⟨a⟩ := a
    obtain ⟨b⟩ := b
    simp only at this
    rw [this]
  · exact eqLeafV_sound h

theorem eqV_sound {a b : Value} (h : eqV a b = true) : a = b := by
  unfold eqV at h
  split at h
  · rename_i a b
    have := eqList_sound (fun _ _ => eqOneV_sound) h
    obtain ⟨a⟩ := a
    obtain ⟨b⟩ := b
    simp only at this
    rw [this]
  · rename_i g a c g' a' c'
    simp only [Bool.and_eq_true, beq_iff_eq] at h
    obtain ⟨⟨rfl, h1⟩, h2⟩ := h
    have h1 := eqList_sound (fun _ _ => eqOneV_sound) h1
    have h2 := eqList_sound (fun _ _ => eqOneV_sound) h2
    obtain ⟨a⟩ := a
    obtain ⟨a'⟩ := a'
    obtain ⟨c⟩ := c
    obtain ⟨c'⟩ := c'
    simp only at h1 h2
    rw [h1, h2]
  · exact eqOneV_sound h

theorem eqB_sound {a b : Blk} (h : eqB a b = true) : a = b := by
  unfold eqB at h
  split at h
  · rfl
  · simp only [Bool.and_eq_true, beq_iff_eq] at h
    obtain ⟨rfl, h⟩ := h
    rw [eqList_sound (fun _ _ => eqOneV_sound) h]
  · simp only [Bool.and_eq_true, beq_iff_eq] at h
    obtain ⟨rfl, h⟩ := h
    rw [eqList_sound (fun p q hpq => by
      simp only [Bool.and_eq_true] at hpq
      exact Prod.ext (eqOneV_sound hpq.1) (eqOneV_sound hpq.2)) h]
  · cases h

/-- What a call comes to. -/
structure Entry where
  g : FuncId
  args : List Value
  h : List Blk
  v : Value
  new : List Blk

def look (T : List Entry) (g : FuncId) (args : List Value) (h : List Blk) : Option (Value × List Blk) :=
  match T with
  | [] => none
  | e :: T => if e.g == g && (eqList eqV e.args args && eqList eqB e.h h) then some (e.v, e.new) else look T g args h

/-- The functions of the table are asked of it alone. -/
def tableSum (T : List Entry) (g : FuncId) : Option (List Value → List Blk → Option (Value × List Blk)) :=
  if T.any fun e => e.g == g then some (look T g) else none

theorem look_sound {P : Program} : ∀ {T : List Entry} {g : FuncId} {args : List Value} {h new : List Blk} {v : Value}, (∀ e ∈ T, PureSim P e.g e.args e.h e.v e.new) → look T g args h = some (v, new) → PureSim P g args h v new
  | [], _, _, _, _, _, _, h => by cases h
  | e :: T, g, args, h, new, v, hT, hl => by
    unfold look at hl
    split at hl
    · rename_i hc
      simp only [Bool.and_eq_true, beq_iff_eq] at hc
      obtain ⟨h1, h2, h3⟩ := hc
      cases hl
      have := hT e (by simp)
      rw [h1, eqList_sound (fun _ _ => eqV_sound) h2, eqList_sound (fun _ _ => eqB_sound) h3] at this
      exact this
    · exact look_sound (fun e he => hT e (List.mem_cons_of_mem _ he)) hl

theorem table_ok {E : Env} {T : List Entry} (hE : E.sum = tableSum T) (hT : ∀ e ∈ T, PureSim E.P e.g e.args e.h e.v e.new) (hI : E.isum = fun _ => none := by rfl) : SumOk E := by
  refine SumOk.of hI fun g s args h v new hs hv => ?_
  rw [hE] at hs
  unfold tableSum at hs
  split at hs
  · cases hs; exact look_sound hT hv
  · cases hs

/-- Is this the answer? -/
def gives (x : Option (Value × List Blk)) (v : Value) (new : List Blk) : Bool :=
  match x with
  | some (v', new') => eqV v' v && eqList eqB new' new
  | none => false

theorem gives_sound {x : Option (Value × List Blk)} {v : Value} {new : List Blk} (h : gives x v new = true) : x = some (v, new) := by
  unfold gives at h
  split at h
  · simp only [Bool.and_eq_true] at h
    rw [eqV_sound h.1, eqList_sound (fun _ _ => eqB_sound) h.2]
  · cases h

theorem entry_ok {E : Env} (hS : SumOk E) (hmix : E.P.follows .mixedOrders = true) {n : Nat} {e : Entry} (h : gives ((run E n).pcall e.g e.args e.h) e.v e.new = true) : PureSim E.P e.g e.args e.h e.v e.new :=
  answer hS hmix (gives_sound h)
end Go.Cl
