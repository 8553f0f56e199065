/- Activations; what a piece of code leaves; the operations of a region one after the other. -/
import Derived.Test.YtiaippkjgmccoaaCl13
import Derived.TacticsIn
set_option linter.unusedSimpArgs false
set_option linter.unusedVariables false
namespace Go.Cl
open Go Go.RowKit

/-- The blocks that are known behind a piece of code. -/
def Up (D : Nat → Prop) (h h' : List Blk) (i : Nat) : Prop := D i ∨ (h.length ≤ i ∧ i < h'.length)

theorem Up.trans {D : Nat → Prop} {h h1 h2 : List Blk} (l1 : h.length ≤ h1.length) (l2 : h1.length ≤ h2.length) : Up (Up D h h1) h1 h2 = Up D h h2 := by
  funext i
  unfold Up
  apply propext
  constructor
  · rintro ((h | h) | h)
    · exact .inl h
    · exact .inr ⟨h.1, by omega⟩
    · exact .inr ⟨by omega, h.2⟩
  · rintro (h | h)
    · exact .inl (.inl h)
    · by_cases hi : i < h1.length
      · exact .inl (.inr ⟨h.1, hi⟩)
      · exact .inr ⟨by omega, h.2⟩

theorem Up.self {D : Nat → Prop} {h : List Blk} : Up D h h = D := by
  funext i; unfold Up; apply propext
  constructor
  · rintro (h | h)
    · exact h
    · omega
  · exact .inl

structure ActR (D : Nat → Prop) (β : Nat → Nat × Nat) (κ : Nat → Nat) (a : CAct) (a' : Act) : Prop where
  tmps : LR D β κ a.tmps a'.tmps.toList
  marks : a'.defers = a.marks.map fun m => { target := .collected (β m).1, args := #[] }
  known : ∀ m ∈ a.marks, D m

/-- What a piece of code leaves. -/
structure Out (P : Program) (D : Nat → Prop) (β : Nat → Nat × Nat) (κ : Nat → Nat) (base N : Nat) (h : List Blk) (w : World) (h' : List Blk) (w' : World) (β' : Nat → Nat × Nat) (κ' : Nat → Nat) : Prop where
  le : h.length ≤ h'.length
  ext : ∀ i, i < h.length → β' i = β i ∧ κ' i = κ i
  rel : Rel P (Up D h h') β' κ' base N (toF h') w'
  below : Below N w w'

section
variable {P : Program} {w : World} {D : Nat → Prop} {β : Nat → Nat × Nat} {κ : Nat → Nat} {base N n : Nat} {H : Nat → Blk}

theorem Out.refl {h : List Blk} (hR : Rel P D β κ base N (toF h) w) : Out P D β κ base N h w h w β κ :=
  ⟨Nat.le_refl _, fun _ _ => ⟨rfl, rfl⟩, by rw [Up.self]; exact hR, Below.refl _ _⟩

theorem Out.known {h h' : List Blk} {w' : World} {β' : Nat → Nat × Nat} {κ' : Nat → Nat} (o : Out P D β κ base N h w h' w' β' κ') (hD : ∀ i, D i → i < h.length) : ∀ i, Up D h h' i → i < h'.length := by
  rintro i (hi | hi)
  · have := hD i hi; have := o.le; omega
  · exact hi.2

theorem Out.trans {h h1 h2 : List Blk} {w1 w2 : World} {β1 β2 : Nat → Nat × Nat} {κ1 κ2 : Nat → Nat} (o1 : Out P D β κ base N h w h1 w1 β1 κ1) (o2 : Out P (Up D h h1) β1 κ1 base N h1 w1 h2 w2 β2 κ2) :
    Out P D β κ base N h w h2 w2 β2 κ2 := by
  refine ⟨Nat.le_trans o1.le o2.le, fun i hi => ?_, ?_, o1.below.trans o2.below⟩
  · have a := o1.ext i hi
    have b := o2.ext i (by have := o1.le; omega)
    exact ⟨b.1.trans a.1, b.2.trans a.2⟩
  · rw [← Up.trans o1.le o2.le]; exact o2.rel

theorem ActR.eval {a : CAct} {a' : Act} (h : ActR D β κ a a') (x : Operand) : VR D β κ (a.eval x) (a'.eval x) := by
  cases x with
  | tmp t =>
    show VR D β κ (getT a.tmps t) (a'.tmps.getD t undef)
    have e1 : a'.tmps.getD t undef = (a'.tmps.toList[t]?).getD undef := by simp [Array.getD_eq_getD_getElem?]
    rw [getT_eq, e1]
    simp only [List.getD]
    cases hx : a.tmps[t]? with
    | none =>
      have : a'.tmps.toList[t]? = none := List.getElem?_eq_none (h.tmps.len ▸ List.getElem?_eq_none_iff.1 hx)
      rw [this]; exact VR.undef
    | some v =>
      obtain ⟨v', hv, hr⟩ := h.tmps.get hx
      rw [hv]; exact hr
  | const v =>
    show VR D β κ (match isFlat v with | true => v | false => poison) v
    cases hf : isFlat v with
    | true => exact .of_flat hf
    | false => exact .poison v
  | global g => exact .poison _
  | func f => exact .func f [] [] [] [] rfl (fun j v v' h => by simp at h) rfl (fun j v v' h => by simp at h)

theorem ActR.mono {D' : Nat → Prop} {β' : Nat → Nat × Nat} {κ' : Nat → Nat} {a : CAct} {a' : Act} (h : ActR D β κ a a') (hD : ∀ i, D i → D' i) (hE : Ext D β κ β' κ') : ActR D' β' κ' a a' := by
  refine ⟨h.tmps.mono hD hE, ?_, fun m hm => hD m (h.known m hm)⟩
  rw [h.marks]
  apply List.map_congr_left
  intro m hm
  rw [(hE m (h.known m hm)).1]

theorem ActR.put {a : CAct} {a' : Act} (h : ActR D β κ a a') (dst : Option Tmp) {v v' : Value} (hv : VR D β κ v v') : ActR D β κ (a.put dst v) (a'.put dst v') := by
  cases dst with
  | none => exact h
  | some d =>
    refine ⟨?_, h.marks, h.known⟩
    show LR D β κ (a.tmps.set d v) (a'.tmps.setIfInBounds d v').toList
    rw [Array.toList_setIfInBounds]
    exact h.tmps.set d hv

theorem Out.ext' {h h' : List Blk} {w' : World} {β' : Nat → Nat × Nat} {κ' : Nat → Nat} (o : Out P D β κ base N h w h' w' β' κ') (hD : ∀ i, D i → i < h.length) : Ext D β κ β' κ' := fun i hi => o.ext i (hD i hi)

theorem ActR.out {h h' : List Blk} {w' : World} {β' : Nat → Nat × Nat} {κ' : Nat → Nat} {a : CAct} {a' : Act} (hA : ActR D β κ a a') (o : Out P D β κ base N h w h' w' β' κ') (hD : ∀ i, D i → i < h.length) :
    ActR (Up D h h') β' κ' a a' := hA.mono (fun _ h => .inl h) (o.ext' hD)

/-- A quiet operation's outcome. -/
theorem Out.of_q {h : List Blk} {q : QRes} {v' : Value} {w' : World} {β' : Nat → Nat × Nat} {κ' : Nat → Nat} (hR : Rel P D β κ base N (toF h) w) (hD : ∀ i, D i → i < h.length) (hb : base ≤ h.length)
    (hQ : QOut P D β κ base N h.length w q v' w' β' κ') (halive : ∀ k b, q.upd = some (k, b) → toF h k ≠ .dead) :
    Out P D β κ base N h w (q.heap h) w' β' κ' ∧ VR (Up D h (q.heap h)) β' κ' q.val v' := by
  have hlen : (q.heap h).length = h.length + q.new.length := by
    unfold QRes.heap
    split <;> simp
  have hU : Up D h (q.heap h) = fun i => D i ∨ InNew h.length q.new.length i := by
    funext i; unfold Up InNew; rw [hlen]
  refine ⟨⟨by omega, fun i hi => hQ.ext i (fun hn => by have := hn.1; omega), ?_, hQ.below⟩, by rw [hU]; exact hQ.val⟩
  rw [hU, toF_heap (fun k b h => (hQ.upd k b h).2.1)]
  exact hR.step hQ (fun _ h => h) (fun i hi hn => by have := hD i hi; have := hn.1; omega) hb halive

theorem wanted_sim {ops : Array Oper} {a : CAct} {a' : Act} {o : Oper} {b : Bool} (h : cWanted ops.toList a o = some b) (hA : ActR D β κ a a') : Region.wanted o (yielded ops a'.tmps) = b := by
  unfold cWanted at h
  unfold Region.wanted
  split at h
  · rename_i hg
    cases h
    rw [hg]
  · rename_i j want hg
    rw [hg]
    simp only
    unfold yielded
    simp only [Array.getElem?_toList] at h
    split at h
    · rename_i d hd
      rw [hd]
      simp only [Option.bind_some]
      rw [getT_eq] at h
      simp only [List.getD] at h
      cases hx : a.tmps[d]? with
      | none =>
        have : a'.tmps[d]? = none := by
          rw [← Array.getElem?_toList]
          exact List.getElem?_eq_none (hA.tmps.len ▸ List.getElem?_eq_none_iff.1 hx)
        rw [hx] at h
        simp [undef] at h
        rw [this, h]
        rfl
      | some v =>
        obtain ⟨v', hv, hr⟩ := hA.tmps.get hx
        rw [hx] at h
        rw [← Array.getElem?_toList, hv]
        simp only [Option.getD_some] at h
        split at h
        · cases h
          cases hr
          simp
        · cases h
        · rename_i h1 h2
          cases h
          cases hr <;> first | rfl | exact absurd rfl (h1 _) | exact absurd rfl (h2 _)
    · rename_i hd
      cases h
      rw [hd]
      rfl

/-- A region's operations in the text's order. hi: the calls that may write. -/
theorem seqOps_wp {E : Env} {r : Rec} {ro : Option Nat} {ops : Array Oper} {Q : Exit → Act → World → Prop}
    (hcall : ∀ h g args v new, callQ E r g args h = some (v, new) → PureSim E.P g args h v new)
    (himp : ∀ (h h' : List Blk) (ρ : Operand → Value) (o : Oper) (v : Value), iOp E r base h ρ o = some (v, h') →
      ∀ (D : Nat → Prop) β κ (w : World) (a' : Act) (next : Act → World → Prop), (∀ i, D i → i < h.length) → base ≤ h.length → Rel E.P D β κ base N (toF h) w → (∀ x, VR D β κ (ρ x) (a'.eval x)) →
      (∀ l, ro = some l → ∃ l0, D l0 ∧ (β l0).1 = l) →
      (∀ v' w' β' κ', Out E.P D β κ base N h w h' w' β' κ' → VR (Up D h h') β' κ' v v' → next (a'.put o.dst v') w') → o.wpIn (FW ro) 0 E.P a' w next Q) :
    ∀ (rest : List Oper) (a : CAct) (h : List Blk) (a1 : CAct) (h1 : List Blk), seqOps E r base ops.toList rest a h = some (a1, h1) →
    ∀ (D : Nat → Prop) β κ (w : World) (a' : Act), (∀ i, D i → i < h.length) → base ≤ h.length → Rel E.P D β κ base N (toF h) w → ActR D β κ a a' → (∀ l, ro = some l → ∃ l0, D l0 ∧ (β l0).1 = l) →
    (∀ β' κ' w' a1', Out E.P D β κ base N h w h1 w' β' κ' → ActR (Up D h h1) β' κ' a1 a1' → Q .normal a1' w') → wpListIn (FW ro) 0 E.P ops Q rest a' w := by
  intro rest
  induction rest with
  | nil =>
    intro a h a1 h1 hs D β κ w a' hD hb hR hA hro hQ
    cases hs
    exact hQ β κ w a' (Out.refl hR) (by rw [Up.self]; exact hA)
  | cons o rest ih =>
    intro a h a1 h1 hs D β κ w a' hD hb hR hA hro hQ
    have key : ∀ (v : Value) (h2 : List Blk) (v' : Value) (w' : World) β' κ', Out E.P D β κ base N h w h2 w' β' κ' → VR (Up D h h2) β' κ' v v' → seqOps E r base ops.toList rest (a.put o.dst v) h2 = some (a1, h1) →
        wpListIn (FW ro) 0 E.P ops Q rest (a'.put o.dst v') w' := by
      intro v h2 v' w' β' κ' hO hv hs2
      refine ih _ _ _ _ hs2 (Up D h h2) β' κ' w' _ (hO.known hD) (Nat.le_trans hb hO.le) hO.rel ((hA.out hO hD).put o.dst hv) ?_ ?_
      · intro l hl
        obtain ⟨l0, h0, e0⟩ := hro l hl
        exact ⟨l0, .inl h0, by rw [(hO.ext l0 (hD l0 h0)).1]; exact e0⟩
      · intro β2 κ2 w2 a2 hO2 hA2
        refine hQ β2 κ2 w2 a2 (hO.trans hO2) ?_
        rw [← Up.trans hO.le hO2.le]; exact hA2
    unfold seqOps at hs
    split at hs
    · rename_i hw
      have hw' := wanted_sim hw hA
      simp only [wpListIn, hw', if_true]
      split at hs
      · split at hs
        · rename_i v h2 hio
          rw [putK_eq] at hs
          exact himp h h2 a.eval o v hio D β κ w a' _ hD hb hR hA.eval hro fun v' w' β' κ' hO hv => key v h2 v' w' β' κ' hO hv hs
        · cases hs
      · split at hs
        · rename_i q hq
          rw [applyK_eq, putK_eq] at hs
          refine qOp_wp (fun g args v new hc => hcall h g args v new hc) hq hR hD hA.eval fun v' w' β' κ' hQo => ?_
          obtain ⟨hO, hv⟩ := Out.of_q hR hD hb hQo (fun k b hu => qOp_alive hq hu)
          exact key q.val _ v' w' β' κ' hO hv hs
        · cases hs
    · rename_i hw
      have hw' := wanted_sim hw hA
      simp only [wpListIn, hw', Bool.false_eq_true, if_false]
      rw [putK_eq] at hs
      exact ⟨fun _ _ => trivial, key undef h undef w β κ (Out.refl hR) (by rw [Up.self]; exact VR.undef) hs⟩
    · cases hs
end
end Go.Cl
