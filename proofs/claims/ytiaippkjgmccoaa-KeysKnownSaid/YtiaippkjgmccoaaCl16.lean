/- Functions that end; what is kept of a pure call's blocks. -/
import Derived.Test.YtiaippkjgmccoaaCl15
set_option linter.unusedSimpArgs false
set_option linter.unusedVariables false
namespace Go.Cl
open Go Go.RowKit

section
variable {P : Program} {w : World} {D : Nat → Prop} {β : Nat → Nat × Nat} {κ : Nat → Nat} {base N n : Nat} {H : Nat → Blk}

/-- A block is written. -/
theorem Out.put {h : List Blk} {r : Nat} {b b0 : Blk} {o o0 : Obj} (hR : Rel P D β κ base N (toF h) w) (hD : ∀ i, D i → i < h.length) (hb : base ≤ h.length) (hbr : base ≤ r) (hr : h[r]? = some b0) (ha : b0 ≠ .dead)
    (h0 : w.heap[(β r).1]? = some o0) (hB : ∀ w' : World, w'.heap[(β r).1]? = some o → BR P D β κ r b w' ∧ OwnB P β κ r b w') :
    Out P D β κ base N h w (h.set r b) (w.putObj (β r).1 o) β κ := by
  have hrl : r < h.length := (List.getElem?_eq_some_iff.1 hr).1
  have halive : toF h r ≠ .dead := by rw [toF_some hr]; exact ha
  have hq := QOut.put (P := P) (D := D) (β := β) (κ := κ) (n := h.length) (v := undef) (v' := undef) (b := b) (o := o) hR hbr hrl halive h0
    (fun w' hw' => ⟨(hB w' hw').1.move (fun _ h => .inl h) Ext.refl rfl rfl, (hB w' hw').2⟩) VR.undef
  have := (Out.of_q hR hD hb hq (fun k b' e => by cases e; exact halive)).1
  have e : (QRes.heap { val := undef, upd := some (r, b) } h) = h.set r b := by simp [QRes.heap]
  rw [e] at this
  exact this

theorem Out.up_same {h h1 : List Blk} (hl : h1.length = h.length) : Up D h h1 = D := by
  funext i; unfold Up; apply propext
  constructor
  · rintro (h | h)
    · exact h
    · omega
  · exact .inl

/-- The blocks for rounds' deferred calls are shut. -/
theorem leave_marks {fn : Func} {tmps : Array Value} {R : Ending → World → Prop} : ∀ (ms : List Nat) (h h2 : List Blk), shutMarks base ms h = some h2 →
    ∀ (w : World), (∀ i, D i → i < h.length) → base ≤ h.length → Rel P D β κ base N (toF h) w →
    (∀ w', Out P D β κ base N h w h2 w' β κ → h2.length = h.length → ∃ v, (results fn tmps).run P w' = .ok v w' ∧ R (.returned v) w') →
    LeavesInM (FW none) 0 P fn tmps R (ms.map fun m => { target := .collected (β m).1, args := #[] }) .returning w
  | [], h, h2, hs, w, hD, hb, hR, hK => by
    cases hs
    exact hK w (Out.refl hR) rfl
  | m :: ms, h, h2, hs, w, hD, hb, hR, hK => by
    unfold shutMarks at hs
    split at hs
    · rename_i hm
      split at hs
      · rename_i hbm
        have hB := hR.blk m
        rw [toF_some hm] at hB
        have hB : w.heap[(β m).1]? = some (.deferred (some [])) := hB
        have hO := Out.put (b := .dead) (o := .deferred none) hR hD hb hbm hm (by simp) hB (fun w' _ => ⟨trivial, trivial⟩)
        have hU : Up D h (h.set m .dead) = D := Out.up_same (by simp)
        have hR2 := hO.rel
        rw [hU] at hR2
        refine ⟨by simp, .inl ⟨(β m).1, _, rfl, run_takeDeferred hB, ?_⟩⟩
        refine leave_marks ms _ h2 hs _ (by simpa using hD) (by simpa using hb) hR2 fun w' hO2 hl => ?_
        refine hK w' (hO.trans (by rw [hU]; exact hO2)) (by simpa using hl)
      · cases hs
    · cases hs

/-- A function, out of its body. -/
theorem runBody_sound {E : Env} {m : Nat} {r : Rec} (hr : Sound E m r) {base : Nat} {g : FuncId} {args : List Value} {h : List Blk} {v : Value} {h1 : List Blk} (hs : runBody E r base g args h = some (v, h1)) :
    ImpSim E.P g args base h v h1 := by
  unfold runBody at hs
  split at hs
  · rename_i fn hfn
    split at hs
    · rename_i c hc
      split at hs
      · cases hs
      · rename_i hname
        have hname : (fn.name == "runtime.NumGoroutine") = false := by simpa using hname
        have hcode : (if E.strict then forceList forceV args fun args => appK args (List.replicate (fn.ntmps - args.length) undef) fun l => r.code none base c { tmps := l } h
            else r.code none base c { tmps := args ++ List.replicate (fn.ntmps - args.length) undef } h) = r.code none base c { tmps := args ++ List.replicate (fn.ntmps - args.length) undef } h := by
          split
          · rw [forceList_eq forceV_eq, appK_eq]
          · rfl
        rw [hcode] at hs
        refine ⟨⟨fn, c, hfn, hc, hname⟩, fun D β κ N w args' hD hb hR hargs => ?_⟩
        have start : ActR D β κ { tmps := args ++ List.replicate (fn.ntmps - args.length) undef } { tmps := (⟨args'⟩ : Array Value) ++ Array.replicate (fn.ntmps - (⟨args'⟩ : Array Value).size) undef, defers := [] } := by
          refine ⟨?_, rfl, fun m hm => by simp at hm⟩
          have := hargs.app (LR.rep (fn.ntmps - args.length) (VR.undef (D := D) (β := β) (κ := κ)))
          rw [hargs.len] at this ⊢
          simpa using this
        have go : ∀ e a hx, r.code none base c { tmps := args ++ List.replicate (fn.ntmps - args.length) undef } h = some (e, a, hx) → (e = .normal ∨ e = .ret) →
            (match shutMarks base a.marks hx with | some h2 => (cResults E.P fn a h2).map fun v => (v, h2) | none => none) = some (v, h1) →
            Calls E.P g ⟨args'⟩ w fun e w' => ∃ v' β' κ', e = .returned v' ∧ Out E.P D β κ base N h w h1 w' β' κ' ∧ VR (Up D h h1) β' κ' v v' := by
          intro e a hx hco he hs
          refine callsIn_FW.1 (callsIn_of_wp_marks (F := FW none) (n := 0) hfn hc trivial (CodeWp.wp (m := m) ?_))
          refine hr.code none base c _ h e a hx hco D β κ N w _ none _ hD hb hR start (.inl ⟨rfl, rfl⟩) fun β' κ' w' a1' hO hA => ?_
          have leaves : LeavesInM (FW none) 0 E.P fn a1'.tmps (fun e w' => ∃ v' β' κ', e = .returned v' ∧ Out E.P D β κ base N h w h1 w' β' κ' ∧ VR (Up D h h1) β' κ' v v') a1'.defers .returning w' := by
            split at hs
            · rename_i h2 hsh
              cases hres : cResults E.P fn a h2 with
              | none => rw [hres] at hs; cases hs
              | some v0 =>
                rw [hres] at hs
                cases hs
                rw [hA.marks]
                refine leave_marks a.marks hx h1 hsh w' (hO.known hD) (Nat.le_trans hb hO.le) hO.rel fun w2 hO2 hl => ?_
                have hU : Up (Up D h hx) hx h1 = Up D h hx := Out.up_same hl
                have hR2 := hO2.rel
                rw [hU] at hR2
                obtain ⟨v', h3, h4⟩ := results_sim hR2 hA hres
                refine ⟨v', h3, v', β', κ', rfl, hO.trans hO2, ?_⟩
                have : Up D h h1 = Up D h hx := by rw [← hU, Up.trans hO.le hO2.le]
                rw [this]; exact h4
            · cases hs
          rcases he with rfl | rfl <;> exact leaves
        split at hs
        · rename_i a hx hco; exact go _ _ _ hco (.inl rfl) hs
        · rename_i a hx hco; exact go _ _ _ hco (.inr rfl) hs
        · cases hs
    · cases hs
  · cases hs
end
end Go.Cl
