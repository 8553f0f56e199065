/- The clean interpreter is right. -/
import Derived.Test.YtiaippkjgmccoaaCl25
set_option linter.unusedSimpArgs false
set_option linter.unusedVariables false
namespace Go.Cl
open Go Go.RowKit

theorem filter_less {α : Type} {p q : α → Bool} : ∀ {l : List α}, (∀ x ∈ l, q x = true → p x = true) → (∃ y ∈ l, p y = true ∧ q y = false) → (l.filter q).length + 1 ≤ (l.filter p).length
  | [], _, h => by obtain ⟨y, hy, _⟩ := h; cases hy
  | x :: l, h1, h2 => by
    have sub : ∀ x ∈ l, q x = true → p x = true := fun z hz => h1 z (List.mem_cons_of_mem _ hz)
    have le : (l.filter q).length ≤ (l.filter p).length := by
      clear h2
      induction l with
      | nil => simp
      | cons z l ih =>
        have ih := ih (fun w hw => h1 w (by simp at hw ⊢; rcases hw with h | h <;> simp [h])) (fun w hw => sub w (List.mem_cons_of_mem _ hw))
        have hz := sub z (by simp)
        simp only [List.filter_cons]
        cases hq : q z with
        | true => rw [hz hq]; simpa using ih
        | false =>
          cases hp : p z with
          | true => simp; omega
          | false => simpa using ih
    simp only [List.filter_cons]
    cases hq : q x with
    | true =>
      have hp := h1 x (by simp) hq
      rw [hp]
      have : ∃ y ∈ l, p y = true ∧ q y = false := by
        obtain ⟨y, hy, g1, g2⟩ := h2
        rcases List.mem_cons.1 hy with e | e
        · subst e; rw [hq] at g2; cases g2
        · exact ⟨y, e, g1, g2⟩
      have := filter_less sub this
      simpa using this
    | false =>
      cases hp : p x with
      | true => simpa using le
      | false =>
        have : ∃ y ∈ l, p y = true ∧ q y = false := by
          obtain ⟨y, hy, g1, g2⟩ := h2
          rcases List.mem_cons.1 hy with e | e
          · subst e; rw [hp] at g1; cases g1
          · exact ⟨y, e, g1, g2⟩
        have := filter_less sub this
        simpa using this

section
variable {E : Env} {r : Rec} {base : Nat} {ops : Array Oper} {s : Nat} {us : List (Nat × Nat)} {a0 : CAct} {h0 : List Blk} {S : Nat → QSt} {R : Nat → Option QRes}
variable {D : Nat → Prop} {β0 : Nat → Nat × Nat} {κ0 : Nat → Nat} {N : Nat} {w0 : World} {a0' : Act}


/-- The first part, in whatever order. -/
theorem Run.phase1 (X : Run E r base ops s us a0 h0 S R) {Q : Exit → Act → World → Prop} {ro : Option Nat} (hcall : ∀ h g args v new, callQ E r g args h = some (v, new) → PureSim E.P g args h v new)
    (hD : ∀ i, D i → i < h0.length) (hA : ActR D β0 κ0 a0 a0') (htail : ∀ j i, s ≤ j → j < ops.size → i < j → anc ops j i = true)
    (hK : ∀ L β κ a' w, Inv E base ops s a0 h0 S R D β0 κ0 N w0 a0' L β κ a' w → (∀ i, i < s → L i = true) → wpListIn (FW ro) 0 E.P ops Q (ops.toList.drop s) a' w) :
    ∀ (fuel : Nat) (listed : Array Bool) (L : Nat → Bool) β κ (a' : Act) (w : World), Inv E base ops s a0 h0 S R D β0 κ0 N w0 a0' L β κ a' w → listed.size = ops.size → (∀ i, i < s → listed.getD i false = L i) →
      (∀ i, s ≤ i → i < ops.size → listed.getD i false = false) → ((List.range s).filter fun i => !L i).length + (ops.size - s) ≤ fuel → wpAnyIn (FW ro) 0 E.P .any ops Q fuel listed a' w := by
  have hs := X.hs
  intro fuel
  have toTrue : ∀ {listed : Array Bool} {i : Nat}, listed.size = ops.size → i < ops.size → listed.getD i true = listed.getD i false := by
    intro listed i hsz hi
    have hil : i < listed.size := by omega
    simp only [Array.getD_eq_getD_getElem?, Array.getElem?_eq_getElem hil, Option.getD_some]
  have done : ∀ (fuel : Nat) (listed : Array Bool) (L : Nat → Bool) β κ (a' : Act) (w : World), Inv E base ops s a0 h0 S R D β0 κ0 N w0 a0' L β κ a' w → listed.size = ops.size → (∀ i, i < s → listed.getD i false = L i) →
      (∀ i, s ≤ i → i < ops.size → listed.getD i false = false) → (ops.size - s) ≤ fuel → (∀ i, i < s → L i = true) → wpAnyIn (FW ro) 0 E.P .any ops Q fuel listed a' w := by
    intro fuel listed L β κ a' w I hsz h1 h2 hf hall
    exact tail_wp X.back htail fuel s listed a' w (Nat.le_refl _) hs hf hsz (fun i hi => by rw [h1 i hi]; exact hall i hi) (fun i hi hil => by rw [toTrue hsz hil]; exact h2 i hi hil) (hK L β κ a' w I hall)
  induction fuel with
  | zero =>
    intro listed L β κ a' w I hsz h1 h2 hf
    refine done 0 listed L β κ a' w I hsz h1 h2 (by omega) fun i hi => ?_
    cases hL : L i with
    | true => rfl
    | false =>
      have : i ∈ (List.range s).filter fun i => !L i := List.mem_filter.2 ⟨List.mem_range.2 hi, by simp [hL]⟩
      have := List.length_pos_of_mem this
      omega
  | succ fuel ih =>
    intro listed L β κ a' w I hsz h1 h2 hf
    by_cases hall : ∀ i, i < s → L i = true
    · exact done _ listed L β κ a' w I hsz h1 h2 (by omega) hall
    · have hex : ∃ i, i < s ∧ L i = false := by
        apply Classical.byContradiction
        intro hn
        apply hall
        intro i hi
        cases hL : L i with
        | true => rfl
        | false => exact absurd ⟨i, hi, hL⟩ hn
      obtain ⟨i0, hi0, hL0⟩ := hex
      have hcl : ∀ z i, z < ops.size → listed.getD z false = true → anc ops z i = true → listed.getD i false = true := by
        intro z i hz hlz hi
        by_cases hzs : z < s
        · rw [h1 z hzs] at hlz
          have := I.closed.anc z i hlz hi
          rw [h1 i (I.closed.lt i this)]
          exact this
        · rw [h2 z (by omega) hz] at hlz
          cases hlz
      refine ⟨fun hnil => absurd hnil (ready_some X.back hsz (show i0 < ops.size by omega) (by rw [toTrue hsz (by omega), h1 i0 hi0]; exact hL0)), fun y hy => ?_⟩
      obtain ⟨hyl, o, ho, _⟩ := mem_ready.1 hy
      have hysz : y < ops.size := (Array.getElem?_eq_some_iff.1 ho).1
      have hya := ready_anc X.back hcl hy
      have hys : y < s := by
        apply Classical.byContradiction
        intro hn
        have := hya i0 (htail y i0 (by omega) hysz (by omega))
        rw [h1 i0 hi0, hL0] at this
        cases this
      have hyL : L y = false := by rw [← h1 y hys, ← toTrue hsz hysz]; exact hyl
      have hanc : ∀ z, anc ops y z = true → L z = true := fun z hz => by
        have := hya z hz
        rw [h1 z (by have := anc_lt X.back y z hysz hz; omega)] at this
        exact this
      have next : ∀ (v' : Value) (w' : World) (β' : Nat → Nat × Nat) (κ' : Nat → Nat), QOut E.P (DK S R D (fun z => anc ops y z)) β κ base N (S y).heap.length w (resOf R y) v' w' β' κ' →
          wpAnyIn (FW ro) 0 E.P .any ops Q fuel (listed.setIfInBounds y true) (a'.put o.dst v') w' := by
        intro v' w' β' κ' hQ
        have hget : ∀ i, i ≠ y → ∀ d, (listed.setIfInBounds y true).getD i d = listed.getD i d := fun i hi d => by
          simp only [Array.getD_eq_getD_getElem?, Array.getElem?_setIfInBounds_ne (fun e => hi e.symm)]
        refine ih _ (fun z => L z || z == y) β' κ' _ w' (Inv.step X I hD hys hyL hanc ho hQ) (by simpa using hsz) (fun i hi => ?_) (fun i hi hil => ?_) ?_
        · by_cases e : i = y
          · subst e
            simp [show i < listed.size by omega]
          · rw [hget i e, h1 i hi]
            simp [e]
        · rw [hget i (by omega)]; exact h2 i hi hil
        · have := filter_less (p := fun i => !L i) (q := fun i => !(L i || i == y)) (l := List.range s) (fun x _ hx => by simp at hx ⊢; exact hx.1) ⟨y, List.mem_range.2 hys, by simp [hyL], by simp⟩
          omega
      obtain ⟨o', ho', hst⟩ := X.op hys
      rw [ho] at ho'
      cases ho'
      have hlook := X.look I hD hA hys hyL hanc ho
      have hmlen : (masked (Region.before ops).toList (S y).own us y (S y).heap).length = (S y).heap.length := masked_length
      unfold StepOk at hst
      unfold wpOpIn
      simp only [ho]
      split at hst
      · rename_i q hRy
        obtain ⟨hw, hq, _⟩ := hst
        have hw' : Region.wanted o (yielded ops a'.tmps) = true := wanted_sim (by rw [look_wanted]; exact hw) hlook
        rw [if_pos hw']
        have hres : resOf R y = q := by unfold resOf; rw [hRy]
        have hRel : Rel E.P (DK S R D (fun z => anc ops y z)) β κ base N (toF (masked (Region.before ops).toList (S y).own us y (S y).heap)) w :=
          (I.rel _ (X.before_closed hys) hanc).weaken fun i => X.view I hys hyL hanc i
        refine qOp_wp (h := masked (Region.before ops).toList (S y).own us y (S y).heap) (ρ := (lookAct ops o (S y).act).eval) (q := q) (fun g args v new hc => hcall _ g args v new hc) ?_ hRel (fun i hi => ?_) hlook.eval fun v' w' β' κ' hQ => ?_
        · rw [look_op, hmlen]; exact hq
        · rw [hmlen]; exact X.view_lt hys hD i hi
        · rw [hmlen] at hQ
          exact next v' w' β' κ' (by rw [hres]; exact hQ)
      · rename_i hRy
        obtain ⟨hw, _⟩ := hst
        have hw' : Region.wanted o (yielded ops a'.tmps) = false := wanted_sim (by rw [look_wanted]; exact hw) hlook
        rw [if_neg (by rw [hw']; simp)]
        have hres : resOf R y = { val := undef } := by unfold resOf; rw [hRy]
        exact ⟨fun _ _ => trivial, next undef w β κ (by rw [hres]; exact QOut.same VR.undef)⟩

/-- What the first part leaves. -/
theorem Run.outcome (X : Run E r base ops s us a0 h0 S R) (hD : ∀ i, D i → i < h0.length) (hA : ActR D β0 κ0 a0 a0') {L : Nat → Bool} {β : Nat → Nat × Nat} {κ : Nat → Nat} {a' : Act} {w : World}
    (I : Inv E base ops s a0 h0 S R D β0 κ0 N w0 a0' L β κ a' w) (hall : ∀ i, i < s → L i = true) :
    Out E.P D β0 κ0 base N h0 w0 (S s).heap w β κ ∧ ActR (Up D h0 (S s).heap) β κ (S s).act a' := by
  have hle : h0.length ≤ (S s).heap.length := by
    have := X.len_le (Nat.zero_le s) (Nat.le_refl _)
    rw [X.s0] at this
    exact this
  have hR := I.rel L I.closed fun _ h => h
  have e2 : HM h0 S R s L L = toF (S s).heap := by
    rw [← X.HK_all (Nat.le_refl s) hall]
    funext i
    exact HM_live (by rintro ⟨z, b, g1, g2, _⟩; rw [g1] at g2; cases g2)
  have hsub : ∀ i, DK S R D L i → Up D h0 (S s).heap i := by
    rintro i (h | ⟨j, h1, h2⟩)
    · exact .inl h
    · have hj := I.closed.lt j h1
      have h3 := X.new_lt hj (Nat.le_refl _)
      have h4 := X.len_le (Nat.zero_le j) (by omega)
      rw [X.s0] at h4
      have h4 : h0.length ≤ (S j).heap.length := h4
      have := h2.1; have := h2.2
      exact .inr ⟨by omega, by omega⟩
  refine ⟨⟨hle, I.ext, ?_, I.below⟩, ⟨⟨?_, fun t v v' hv hv' => ?_⟩, ?_, fun m hm => ?_⟩⟩
  · rw [e2] at hR
    exact hR.frame hsub Ext.refl (fun i _ => ⟨rfl, rfl, rfl, rfl⟩) (Nat.le_refl _)
  · rw [← X.TK_all (Nat.le_refl s) hall, TK_length]
    have := I.len
    simp only [Array.length_toList]
    omega
  · rw [← X.TK_all (Nat.le_refl s) hall] at hv
    obtain ⟨v2, g1, g2⟩ := I.tmp L I.closed (fun _ h => h) t v hv fun z h1 h2 => by rw [h1] at h2; cases h2
    rw [hv'] at g1
    cases g1
    exact g2.mono hsub Ext.refl
  · rw [I.defers, hA.marks, X.marks_all (Nat.le_refl s)]
    apply List.map_congr_left
    intro m hm
    rw [(I.ext m (hD m (hA.known m hm))).1]
  · rw [X.marks_all (Nat.le_refl s)] at hm
    exact .inl (hA.known m hm)
end

/-- A REGION THAT DRAWS ITS ORDER. -/
theorem draw_ok {E : Env} {m0 : Nat} {r : Rec} (hS : SumOk E) (hr : Sound E m0 r) (hmix : E.P.follows .mixedOrders = true) : DrawOk E r := by
  intro base ops id a h e a1 h1 m ro hs D β κ N w a' Ro Q hD hb hR hA hro hQ
  show (Code.region id ops true).wpIn (FW Ro) 0 E.P Q a' w
  unfold codeDraw at hs
  split at hs
  · rename_i hc
    simp only [Bool.and_eq_true] at hc
    obtain ⟨hback, hquiet⟩ := hc
    cases hdo : drawOps E r base ops.toList (Region.before ops).toList (tailFrom (Region.before ops).toList ops.size) a h with
    | none => rw [hdo] at hs; cases hs
    | some p =>
      rw [hdo] at hs
      cases hs
      generalize hsdef : tailFrom (Region.before ops).toList ops.size = s at hquiet hdo
      have hsle : s ≤ ops.size := by rw [← hsdef]; exact tail_le _ _
      have htail : ∀ j i, s ≤ j → j < ops.size → i < j → anc ops j i = true := fun j i h1 h2 h3 => tail_spec _ ops.size j i (by rw [hsdef]; exact h1) h2 h3
      -- the pass that counts
      have pass : ∃ us fin, quietOps E r base ops.toList (Region.before ops).toList us (ops.toList.take s) 0 { act := a, heap := h } = some fin ∧ fin.upds = us ∧ seqOps E r base ops.toList (ops.toList.drop s) fin.act fin.heap = some p := by
        unfold drawOps at hdo
        split at hdo
        · cases hdo
        · rename_i q hq1
          by_cases he : q.upds.isEmpty = true
          · rw [if_pos he] at hdo
            exact ⟨[], q, hq1, by simpa using he, hdo⟩
          · rw [if_neg he] at hdo
            cases hq2 : quietOps E r base ops.toList (Region.before ops).toList q.upds (ops.toList.take s) 0 { act := a, heap := h } with
            | none => rw [hq2] at hdo; cases hdo
            | some q' =>
              rw [hq2] at hdo
              simp only [Option.bind_some] at hdo
              by_cases hu : (q'.upds == q.upds) = true
              · rw [if_pos hu] at hdo
                exact ⟨q.upds, q', hq2, by simpa using hu, hdo⟩
              · rw [if_neg hu] at hdo
                cases hdo
      obtain ⟨us, fin, hq, hus, hseq⟩ := pass
      obtain ⟨S, R, g1, g2, g3⟩ := trace _ _ _ _ hq
      have hlen : (ops.toList.take s).length = s := by simp; omega
      rw [hlen] at g2
      have X : Run E r base ops s us a h S R := {
        hs := hsle
        s0 := g1
        step := fun j o hj ho => by
          have := g3 j o (by rw [List.getElem?_take, if_pos hj]; simpa using ho)
          rwa [Nat.zero_add] at this
        upds := by rw [g2]; exact hus
        back := hback
        quiet := hquiet
        baseLe := hb }
      refine wpIn_region_any hmix (X.phase1 (D := D) (β0 := β) (κ0 := κ) (N := N) (w0 := w) (a0' := a') (ro := Ro) (fun h g args v new hc => callQ_sound hS hr h g args v new hc) hD hA htail ?_ ops.size _ (fun _ => false) β κ a' _ (Inv.start X hD hR hA rfl) (by simp) (fun i hi => ?_) (fun i hi hil => ?_) ?_)
      · intro L β1 κ1 a2 w2 I hall
        obtain ⟨hO, hA2⟩ := X.outcome hD hA I hall
        rw [g2] at hO hA2
        refine seqOps_wp (N := N) (fun h g args v new hc => callQ_sound hS hr h g args v new hc) (fun h h' ρ o v hio D β κ w a' next hD hb hR hρ _ hK => iOp_wp hr hio hD hb hR hρ hK)
          (ops.toList.drop s) fin.act fin.heap p.1 p.2 hseq (Up D h fin.heap) β1 κ1 w2 a2 (hO.known hD) (Nat.le_trans hb hO.le) hO.rel hA2 (fun l hl => ?_) fun β' κ' w' a1' hO2 hA3 => ?_
        · rcases hro.out hO hD with ⟨_, h0⟩ | ⟨l0, _, h0, h1⟩
          · rw [h0] at hl; cases hl
          · rw [h1] at hl; cases hl; exact ⟨l0, h0, rfl⟩
        · refine hQ β' κ' w' a1' (hO.trans hO2) ?_
          rw [← Up.trans hO.le hO2.le]; exact hA3
      · simp [show i < ops.size by omega]
      · simp [hil]
      · have h1 := List.length_filter_le (fun i => !(fun _ => false : Nat → Bool) i) (List.range s)
        rw [List.length_range] at h1
        exact Nat.le_trans (Nat.add_le_add_right h1 _) (by omega)
  · cases hs

/-- THE CLEAN INTERPRETER IS RIGHT. -/
theorem run_sound {E : Env} (hS : SumOk E) (hmix : E.P.follows .mixedOrders = true) : ∀ n, Sound E n (run E n)
  | 0 => none_sound E 0
  | n + 1 => layer_sound hS (run_sound hS hmix n) (draw_ok hS (run_sound hS hmix n) hmix)

/-- A FUNCTION'S ANSWER. -/
theorem answer {E : Env} (hS : SumOk E) (hmix : E.P.follows .mixedOrders = true) {n : Nat} {g : FuncId} {args : List Value} {h new : List Blk} {v : Value} (hv : (run E n).pcall g args h = some (v, new)) : PureSim E.P g args h v new :=
  (run_sound hS hmix n).pcall g args h v new hv
end Go.Cl
