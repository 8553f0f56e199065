/- Code: the clean interpreter is right. (A region that draws its order: as a premise.) -/
import Derived.Test.YtiaippkjgmccoaaCl18
set_option linter.unusedSimpArgs false
set_option linter.unusedVariables false
namespace Go.Cl
open Go Go.RowKit

section
variable {P : Program} {w : World} {D : Nat → Prop} {β : Nat → Nat × Nat} {κ : Nat → Nat} {base N n : Nat} {H : Nat → Blk}

/-- A block is laid. -/
theorem Out.one {h : List Blk} {b : Blk} {o : Obj} (hR : Rel P D β κ base N (toF h) w) (hD : ∀ i, D i → i < h.length) (hb : base ≤ h.length)
    (hB : ∀ β' κ', β' h.length = (w.heap.size, 0) → (∀ i, i ≠ h.length → β' i = β i ∧ κ' i = κ i) → BR P (fun i => D i ∨ InNew h.length 1 i) β' κ' h.length b (w.alloc o) ∧ OwnB P β' κ' h.length b (w.alloc o)) :
    ∃ β' κ', Out P D β κ base N h w (h ++ [b]) (w.alloc o) β' κ' ∧ β' h.length = (w.heap.size, 0) := by
  have hn : ∀ i, D i → i ≠ h.length := fun i hi e => by have := hD i hi; omega
  obtain ⟨β', κ', hq⟩ := QOut.one (P := P) (D := D) (β := β) (κ := κ) (base := base) (v := .pointer (some ⟨h.length, 0, none⟩)) (v' := .pointer (some ⟨w.heap.size, 0, none⟩)) (b := b) (o := o) hR.size hn
    (fun β' κ' hβ hκ he => ⟨(hB β' κ' hβ he).1, (hB β' κ' hβ he).2, vr_newptr hβ⟩)
  have h1 := (Out.of_q hR hD hb hq (fun k b' e => by cases e)).1
  have e : (QRes.heap { val := .pointer (some ⟨h.length, 0, none⟩), new := [b] } h) = h ++ [b] := by simp [QRes.heap]
  rw [e] at h1
  refine ⟨β', κ', h1, ?_⟩
  have hv := hq.val
  generalize hx : (Value.pointer (some ⟨w.heap.size, 0, none⟩)) = x at hv
  cases hv with
  | ptr i o hi =>
    simp only [Value.pointer.injEq, Option.some.injEq, Addr.mk.injEq] at hx
    obtain ⟨h1, h2, _⟩ := hx
    have h2' : (β' h.length).2 = 0 := by simpa using h2.symm
    exact Prod.ext h1.symm h2'

/-- What lies around a loop over a function: laid, or found. -/
theorem mark_sound {ro R : Option Nat} {a a1 : CAct} {a' : Act} {h h1 : List Blk} (hs : rangeMark base ro a h = some (a1, h1)) (hD : ∀ i, D i → i < h.length) (hb : base ≤ h.length) (hR : Rel P D β κ base N (toF h) w)
    (hA : ActR D β κ a a') (hr : RoR D β ro R) :
    ∃ (β1 : Nat → Nat × Nat) (κ1 : Nat → Nat) (w1 : World) (mk : List Deferred) (dfs : Nat), Out P D β κ base N h w h1 w1 β1 κ1 ∧ ActR (Up D h h1) β1 κ1 a1 { a' with defers := mk ++ a'.defers } ∧ a1.tmps = a.tmps ∧
      ∀ fn ps as body, (Instr.enterLoop fn a'.tmps ps as body R).run P w = .ok (w1.heap.size, mk) (w1.alloc (.loop { state := .ready, pending := none, fn, tmps := a'.tmps, params := ps, assign := as, body, defers := dfs })) := by
  unfold rangeMark at hs
  split at hs
  · cases hs
    rcases hr with ⟨_, rfl⟩ | ⟨l0, h0, _⟩
    · obtain ⟨β1, κ1, hO, hβ⟩ := Out.one (b := .mark) (o := .deferred (some [])) hR hD hb (fun β' κ' hβ he => ⟨by show _ = _; rw [hβ]; exact heap_alloc_new, trivial⟩)
      refine ⟨β1, κ1, _, [{ target := .collected w.heap.size, args := #[] }], w.heap.size, hO, ?_, rfl, fun fn ps as body => ?_⟩
      · have hA1 := hA.out hO hD
        refine ⟨hA1.tmps, ?_, ?_⟩
        · show [_] ++ a'.defers = _
          rw [hA1.marks]
          simp [hβ]
        · intro m hm
          simp only [List.mem_cons] at hm
          rcases hm with rfl | hm
          · exact .inr ⟨Nat.le_refl _, by simp⟩
          · exact hA1.known m hm
      · rw [run_enterLoop_outer]
        simp
    · cases h0
  · rename_i l0
    split at hs
    · rename_i t p as0 b0 st pend hl
      split at hs
      · cases hs
        rcases hr with ⟨h0, _⟩ | ⟨l1, h0, hDl, rfl⟩
        · cases h0
        · cases h0
          have hB := hR.blk l0
          rw [toF_some hl] at hB
          obtain ⟨rec, g1, _⟩ := hB
          refine ⟨β, κ, w, [], rec.defers, Out.refl hR, by rw [Up.self]; exact hA, rfl, fun fn ps as body => ?_⟩
          simp [Instr.enterLoop, Sem.run_bind, run_getLoop g1]
      · cases hs
    · cases hs

/-- A LOOP OVER A FUNCTION. -/
theorem range_sound {E : Env} {m : Nat} {r : Rec} (hr : Sound E m r) {ro : Option Nat} {g : Operand} {params : Array Tmp} {assign body : Code} {a a1 : CAct} {h h1 : List Blk} {e : Exit}
    (hs : codeRange E r ro base params assign body a h (a.eval g) = some (e, a1, h1)) (m' : Nat) : CodeSim E.P m' ro base (.rangeFunc g params assign body) a h e a1 h1 := by
  intro D β κ N w a' R Q hD hb hR hA hro hQ
  show (Code.rangeFunc g params assign body).wpIn (FW R) 0 E.P Q a' w
  unfold codeRange at hs
  have hg := hA.eval g
  split at hs
  · rename_i f first captured hgv
    rw [hgv] at hg
    split at hs
    · rename_i am hm hmark
      split at hs
      · -- the function is called
        split at hs
        · rename_i v2 h2 hcall
          have hI := hr.icall _ _ _ _ _ _ hcall
          refine wpIn_rangeFunc fun fn _ => ?_
          obtain ⟨β1, κ1, w1, mk, dfs, hO1, hA1, htm, henter⟩ := mark_sound hmark hD hb hR hA hro
          have hD1 := hO1.known hD
          have hb1 := Nat.le_trans hb hO1.le
          -- the loop's record
          obtain ⟨β2, κ2, hO2, hβ2⟩ := Out.one (b := .loop a.tmps params.toList assign body .ready none)
            (o := .loop { state := .ready, pending := none, fn := fn, tmps := a'.tmps, params := params, assign := assign, body := body, defers := dfs }) hO1.rel hD1 hb1
            (fun β' κ' hβ he => ⟨⟨_, by rw [hβ]; exact heap_alloc_new, rfl, rfl, rfl, rfl, rfl, by
              have := hA1.tmps
              rw [htm] at this
              exact this.mono (fun _ h => .inl h) (fun i hi => he i (fun e => by have := hD1 i hi; omega))⟩, trivial⟩)
          have hO12 := hO1.trans hO2
          have hD2 := hO2.known hD1
          have hb2 : base ≤ (hm ++ [Blk.loop a.tmps params.toList assign body .ready none]).length := by simp; omega
          have hl : Up (Up D h hm) hm (hm ++ [Blk.loop a.tmps params.toList assign body .ready none]) hm.length := .inr ⟨Nat.le_refl _, by simp⟩
          generalize hg' : a'.eval g = gv at hg
          cases hg with
          | func _ f1 f1' c1 c1' k1 k2 k3 k4 =>
            -- the arguments
            have up2 : ∀ {x y : List Value}, LR D β κ x y → LR (Up (Up D h hm) hm (hm ++ [Blk.loop a.tmps params.toList assign body .ready none])) β2 κ2 x y := fun hxy =>
              (hxy.mono (fun _ h => .inl h) (hO1.ext' hD)).mono (fun _ h => .inl h) (hO2.ext' hD1)
            have hyield : VR (Up (Up D h hm) hm (hm ++ [Blk.loop a.tmps params.toList assign body .ready none])) β2 κ2 (.func (.yield hm.length) #[] #[]) (.func (.yield w1.heap.size) #[] #[]) := by
              have := VR.yield (β := β2) (κ := κ2) hm.length hl
              rw [hβ2] at this
              exact this
            have hargs := ((up2 ⟨k1, k2⟩).app (LR.cons hyield LR.nil)).app (up2 ⟨k3, k4⟩)
            refine ⟨w1.heap.size, mk, _, { target := .fn (.func f) ⟨c1'⟩, args := ⟨f1'⟩ ++ #[.func (.yield w1.heap.size) #[] #[]] }, w1.alloc (.loop { state := .ready, pending := none, fn := fn, tmps := a'.tmps, params := params, assign := assign, body := body, defers := dfs }), f, ⟨f1' ++ [.func (.yield w1.heap.size) #[] #[]] ++ c1'⟩, _, henter fn params assign body, ?_, fun _ _ => trivial, ?_, fun h => by simp [FW] at h, callsIn_FW.2 (Calls.mono (hI.2 _ β2 κ2 N _ _ hD2 hb2 hO2.rel hargs) ?_)⟩
            · have e1 : (#[Operand.const (Value.func (.yield w1.heap.size) #[] #[])] : Array Operand).map a'.eval = #[Value.func (.yield w1.heap.size) #[] #[]] := by simp [Act.eval]
              simp only [resolve, rangeCall]
              rw [e1, hg']
              rfl
            · have e2 := run_callFunc hI.1 (⟨f1' ++ [Value.func (.yield w1.heap.size) #[] #[]] ++ c1'⟩ : Array Value) (w1.alloc (.loop { state := .ready, pending := none, fn := fn, tmps := a'.tmps, params := params, assign := assign, body := body, defers := dfs }))
              have e1 : (⟨f1'⟩ : Array Value) ++ #[Value.func (.yield w1.heap.size) #[] #[]] ++ (⟨c1'⟩ : Array Value) = ⟨f1' ++ [Value.func (.yield w1.heap.size) #[] #[]] ++ c1'⟩ := by
                apply Array.ext'; simp
              rw [← e1] at e2 ⊢
              exact e2
            · -- behind the call
              rintro e' w3 ⟨v', β3, κ3, rfl, hO3, _⟩
              have hO13 : Out E.P (Up D h hm) β1 κ1 base N hm w1 h2 w3 β3 κ3 := hO2.trans hO3
              have hO03 : Out E.P D β κ base N h w h2 w3 β3 κ3 := hO1.trans hO13
              have hβ3 : β3 hm.length = (w1.heap.size, 0) := by rw [(hO3.ext hm.length (by simp)).1, hβ2]
              have hD3 := hO03.known hD
              have hb3 := Nat.le_trans hb hO03.le
              have hbl : base ≤ hm.length := hb1
              have hA3 : ActR (Up D h h2) β3 κ3 am { a' with defers := mk ++ a'.defers } := by
                have := hA1.out hO13 hD1
                rw [Up.trans hO1.le hO13.le] at this
                exact this
              have hro3 : RoR (Up D h h2) β3 ro R := hro.out hO03 hD
              have fin : ∀ (t : List Value) (p : List Tmp) (as bd : Code) (st : LoopState) (pend : Option Code), h2[hm.length]? = some (.loop t p as bd st pend) → st ≠ .busy →
                  (match pend with | none => (e, a1, h1) = (.normal, am, h2.set hm.length .dead) | some c => r.code ro base c am (h2.set hm.length .dead) = some (e, a1, h1)) →
                  rangePost (FW R) 0 E.P w1.heap.size Q { a' with defers := mk ++ a'.defers } (.returned v') w3 := by
                intro t p as bd st pend hl2 hst hc
                obtain ⟨rec, m1, m2, m3, _, _, _, _, _, m8⟩ := Out.loop (st2 := .ready) (pend2 := none) hO03.rel hD3 hb3 hbl hl2
                rw [hβ3] at m1
                have hU : Up (Up D h h2) h2 (h2.set hm.length .dead) = Up D h h2 := Out.up_same (by simp)
                have hOx := m8 (.loop { rec with state := .exhausted })
                rw [hβ3] at hOx
                have hO4 := hO03.trans hOx
                refine ⟨pend, w3.putObj w1.heap.size (.loop { rec with state := .exhausted }), by rw [← m3]; exact run_endLoop m1 (by rw [m2]; exact hst), ?_⟩
                cases pend with
                | none =>
                  simp only at hc
                  cases hc
                  refine hQ β3 κ3 _ _ hO4 ?_
                  rw [← Up.trans hO03.le (by simp), hU]
                  exact hA3
                | some c =>
                  have hRel := hOx.rel
                  rw [hU] at hRel
                  refine CodeWp.wp (m := m) (hr.code ro base c am _ e a1 h1 hc (Up D h h2) β3 κ3 N _ _ R Q (by simpa using hD3) (by simpa using hb3) hRel hA3 hro3 fun β4 κ4 w4 a4 hO5 hA5 => ?_)
                  have hU2 : Up D h (h2.set hm.length .dead) = Up D h h2 := by rw [← Up.trans hO03.le (by simp), hU]
                  have hO6 := hO4.trans (by rw [hU2]; exact hO5)
                  refine hQ β4 κ4 w4 a4 hO6 ?_
                  rw [← Up.trans hO4.le hO5.le, hU2]
                  exact hA5
              split at hs
              · rename_i t p as bd hl2
                exact fin t p as bd .ready none hl2 (by simp) (Option.some.inj hs).symm
              · rename_i t p as bd c hl2
                exact fin t p as bd .done (some c) hl2 (by simp) hs
              · cases hs
        · cases hs
      · cases hs
    · cases hs
  · cases hs

/-- What is asked of regions that draw their order. -/
def DrawOk (E : Env) (r : Rec) : Prop := ∀ (base : Nat) (ops : Array Oper) (id : Nat) (a : CAct) (h : List Blk) (e : Exit) (a1 : CAct) (h1 : List Blk) (m : Nat) (ro : Option Nat),
  codeDraw E r base ops a h = some (e, a1, h1) → CodeSim E.P m ro base (.region id ops true) a h e a1 h1

theorem stepR_scope {P : Program} {b : Frame} {a : Act} {k : List Item} {cs : List Frame} {w : World} {c : Code} : step P (lone (b.atR a (.code (.scope c) :: k)) cs w) = .next (lone (b.atR a (.code c :: .inScope c :: k)) cs w) :=
  step_lone_go (by simp [stepG, stepG.exec, Frame.atR])
theorem stepR_inScope {P : Program} {b : Frame} {a : Act} {k : List Item} {cs : List Frame} {w : World} {c : Code} : step P (lone (b.atR a (.inScope c :: k)) cs w) = .next (lone (b.atR a k) cs w) :=
  step_lone_go (by simp [stepG, stepG.exec, Frame.atR])
def noGoto (Q : Exit → Act → World → Prop) : Exit → Act → World → Prop
  | .goto _, _, _ => False
  | e, a, w => Q e a w
theorem wpIn_scope {F : Fence} {n : Nat} {P : Program} {Q : Exit → Act → World → Prop} {a : Act} {w : World} {c : Code} (h : c.wpIn F n P (noGoto Q) a w) : (Code.scope c).wpIn F n P Q a w := by
  intro b k cs hro hb hr
  have h0 : (lone (b.atR a (.code (.scope c) :: k)) cs w).fenced P F := fenced_calm hb hr rfl
  obtain ⟨e, a₁, w₁, hq, harr⟩ := h b (.inScope c :: k) cs hro hb hr
  cases e with
  | normal => exact ⟨.normal, a₁, w₁, hq, .head h0 stepR_scope (StepsIn.trans harr (.one (fenced_calm hb hr rfl) stepR_inScope))⟩
  | exit id =>
    have hx : exitTo id (.inScope c :: k) = exitTo id k := by simp [exitTo]
    exact ⟨.exit id, a₁, w₁, hq, fun k' hk => .head h0 stepR_scope (harr.1 k' (by rw [hx]; exact hk)),
      fun hr' hk => let ⟨k₁, h1, h2⟩ := harr.2 hr' (by rw [hx]; exact hk); ⟨k₁, h1, .head h0 stepR_scope h2⟩⟩
  | goto l => exact hq.elim
  | ret => exact ⟨_, a₁, w₁, hq, .of_steps (.one h0 stepR_scope) harr⟩
  | panic ch => exact ⟨_, a₁, w₁, hq, .of_steps (.one h0 stepR_scope) harr⟩
  | outgrown => exact ⟨_, a₁, w₁, hq, .of_steps (.one h0 stepR_scope) harr⟩

/-- ONE MORE LAYER. -/
theorem step_sound {E : Env} {m : Nat} {r : Rec} (hS : SumOk E) (hr : Sound E m r) (hdraw : DrawOk E r) {ro : Option Nat} {base : Nat} {c : Code} {a : CAct} {h : List Blk} {e : Exit} {a1 : CAct} {h1 : List Blk}
    (hs : stepCode E r ro base c a h = some (e, a1, h1)) : CodeSim E.P (m + 1) ro base c a h e a1 h1 := by
  -- one behind the other
  have seq : ∀ (x : Option (Exit × CAct × List Blk)) (y : Code), codeSeq r ro base y x = some (e, a1, h1) →
      ∃ ex ax hx, x = some (ex, ax, hx) ∧ ((ex = .normal ∧ r.code ro base y ax hx = some (e, a1, h1)) ∨ (ex ≠ .normal ∧ (ex, ax, hx) = (e, a1, h1))) := by
    intro x y hx
    unfold codeSeq at hx
    split at hx
    · rename_i ax hx2; exact ⟨_, _, _, rfl, .inl ⟨rfl, hx⟩⟩
    · rename_i hne
      subst hx
      exact ⟨_, _, _, rfl, .inr ⟨fun he => by subst he; exact hne a1 h1 rfl, rfl⟩⟩
  unfold stepCode at hs
  split at hs
  · -- skip
    cases hs
    intro D β κ N w a' R Q hD hb hR hA hro hQ
    exact wpIn_skip (hQ β κ w a' (Out.refl hR) (by rw [Up.self]; exact hA))
  · -- a region in order
    rename_i id ops
    cases hso : seqOps E r base ops.toList ops.toList a h with
    | none => rw [hso] at hs; cases hs
    | some p =>
      rw [hso] at hs
      cases hs
      intro D β κ N w a' R Q hD hb hR hA hro hQ
      refine wpIn_region_list (seqOps_wp (N := N) (fun h g args v new hc => callQ_sound hS hr h g args v new hc) (fun h h' ρ o v hio D β κ w a' next hD hb hR hρ _ hK => iOp_wp hr hio hD hb hR hρ hK)
        ops.toList a h p.1 p.2 hso D β κ w a' hD hb hR hA (fun l hl => ?_) fun β' κ' w' a1' hO hA' => hQ β' κ' w' a1' hO hA')
      rcases hro with ⟨_, rfl⟩ | ⟨l0, _, h0, rfl⟩
      · cases hl
      · cases hl; exact ⟨l0, h0, rfl⟩
  · rename_i id ops
    exact hdraw base ops id a h e a1 h1 (m + 1) ro hs
  · -- seq
    rename_i x y
    obtain ⟨ex, ax, hx, h1x, hc⟩ := seq _ _ hs
    intro D β κ N w a' R Q hD hb hR hA hro hQ
    refine wpIn_seq (CodeWp.wp (m := m) (hr.code ro base x a h ex ax hx h1x D β κ N w a' R _ hD hb hR hA hro fun β1 κ1 w1 a2 hO1 hA1 => ?_))
    rcases hc with ⟨rfl, hy⟩ | ⟨hne, he⟩
    · refine CodeWp.wp (m := m) (hr.code ro base y ax hx e a1 h1 hy (Up D h hx) β1 κ1 N w1 a2 R Q (hO1.known hD) (Nat.le_trans hb hO1.le) hO1.rel hA1 (hro.out hO1 hD) fun β2 κ2 w2 a3 hO2 hA2 => ?_)
      refine hQ β2 κ2 w2 a3 (hO1.trans hO2) ?_
      rw [← Up.trans hO1.le hO2.le]; exact hA2
    · cases he
      cases e with
      | normal => exact absurd rfl hne
      | _ => exact hQ β1 κ1 w1 a2 hO1 hA1
  · -- cond
    rename_i cv x y
    intro D β κ N w a' R Q hD hb hR hA hro hQ
    have hcv := hA.eval cv
    unfold codeCond at hs
    split at hs
    · rename_i hv
      rw [hv] at hcv
      have : a'.eval cv = .bool true := by
        generalize a'.eval cv = z at hcv
        cases hcv; rfl
      exact wpIn_cond_true this (CodeWp.wp (m := m) (hr.code ro base x a h e a1 h1 hs D β κ N w a' R Q hD hb hR hA hro hQ))
    · rename_i hv
      rw [hv] at hcv
      have : a'.eval cv = .bool false := by
        generalize a'.eval cv = z at hcv
        cases hcv; rfl
      exact wpIn_cond_false this (CodeWp.wp (m := m) (hr.code ro base y a h e a1 h1 hs D β κ N w a' R Q hD hb hR hA hro hQ))
    · cases hs
  · -- block
    rename_i id c
    unfold codeBlock at hs
    intro D β κ N w a' R Q hD hb hR hA hro hQ
    split at hs
    · rename_i i ax hx hcx
      cases hs
      refine wpIn_block (CodeWp.wp (m := m) (hr.code ro base c a h _ a1 h1 hcx D β κ N w a' R _ hD hb hR hA hro fun β1 κ1 w1 a2 hO1 hA1 => ?_))
      have := hQ β1 κ1 w1 a2 hO1 hA1
      simp only [Exit.inBlock]
      split
      · rename_i hi; rw [if_pos hi] at this; exact this
      · rename_i hi; rw [if_neg hi] at this; exact this
    · rename_i hne
      refine wpIn_block (CodeWp.wp (m := m) (hr.code ro base c a h e a1 h1 hs D β κ N w a' R _ hD hb hR hA hro fun β1 κ1 w1 a2 hO1 hA1 => ?_))
      have := hQ β1 κ1 w1 a2 hO1 hA1
      cases e with
      | exit i => exact absurd hs (hne i a1 h1)
      | _ => exact this
  · -- loop
    rename_i c
    obtain ⟨ex, ax, hx, h1x, hc⟩ := seq _ _ hs
    intro D β κ N w a' R Q hD hb hR hA hro hQ
    show Code.roundsIn (FW R) 0 E.P c Q (m + 1) a' w
    rw [roundsIn_succ]
    refine CodeWp.wp (m := m) (hr.code ro base c a h ex ax hx h1x D β κ N w a' R _ hD hb hR hA hro fun β1 κ1 w1 a2 hO1 hA1 => ?_)
    rcases hc with ⟨rfl, hy⟩ | ⟨hne, he⟩
    · refine hr.code ro base (.loop c) ax hx e a1 h1 hy (Up D h hx) β1 κ1 N w1 a2 R Q (hO1.known hD) (Nat.le_trans hb hO1.le) hO1.rel hA1 (hro.out hO1 hD) fun β2 κ2 w2 a3 hO2 hA2 => ?_
      refine hQ β2 κ2 w2 a3 (hO1.trans hO2) ?_
      rw [← Up.trans hO1.le hO2.le]; exact hA2
    · cases he
      cases e with
      | normal => exact absurd rfl hne
      | _ => exact hQ β1 κ1 w1 a2 hO1 hA1
  · -- scope
    rename_i c
    unfold codeScope at hs
    intro D β κ N w a' R Q hD hb hR hA hro hQ
    split at hs
    · cases hs
    · rename_i hne
      refine wpIn_scope (CodeWp.wp (m := m) (hr.code ro base c a h e a1 h1 hs D β κ N w a' R _ hD hb hR hA hro fun β1 κ1 w1 a2 hO1 hA1 => ?_))
      have := hQ β1 κ1 w1 a2 hO1 hA1
      cases e with
      | goto l => exact absurd hs (hne l a1 h1)
      | _ => exact this
  · cases hs
    intro D β κ N w a' R Q hD hb hR hA hro hQ
    exact wpIn_label (hQ β κ w a' (Out.refl hR) (by rw [Up.self]; exact hA))
  · cases hs
    intro D β κ N w a' R Q hD hb hR hA hro hQ
    exact wpIn_exit (hQ β κ w a' (Out.refl hR) (by rw [Up.self]; exact hA))
  · cases hs
    intro D β κ N w a' R Q hD hb hR hA hro hQ
    exact wpIn_ret (hQ β κ w a' (Out.refl hR) (by rw [Up.self]; exact hA))
  · rename_i g params assign body
    exact range_sound hr hs (m + 1)
  · cases hs

theorem layer_sound {E : Env} {m : Nat} {r : Rec} (hS : SumOk E) (hr : Sound E m r) (hdraw : DrawOk E r) : Sound E (m + 1) (layer E r) where
  pcall := fun g args h v new hs => by
    have hs : ((runBody E r h.length g args h).map fun (v, h') => tidy h.length v h') = some (v, new) := hs
    cases hb : runBody E r h.length g args h with
    | none => rw [hb] at hs; cases hs
    | some p =>
      rw [hb] at hs
      have e := Option.some.inj hs
      have := pure_of_imp (runBody_sound hr hb)
      have e1 : tidy h.length p.1 p.2 = (v, new) := e
      rw [e1] at this
      exact this
  icall := fun g args base h v h1 hs => by
    have hs : (match (match E.isum g with | some s => s args base h | none => none) with | some p => some p | none => runBody E r base g args h) = some (v, h1) := hs
    split at hs
    · rename_i p hp
      cases hs
      split at hp
      · rename_i s hs; exact hS.imp g s args base h v h1 hs hp
      · cases hp
    · exact runBody_sound hr hs
  code := fun ro base c a h e a1 h1 hs => step_sound hS hr hdraw hs

theorem none_sound (E : Env) (m : Nat) : Sound E m Rec.none where
  pcall := fun g args h v new hs => by cases hs
  icall := fun g args base h v h1 hs => by cases hs
  code := fun ro base c a h e a1 h1 hs => by cases hs
end
end Go.Cl
