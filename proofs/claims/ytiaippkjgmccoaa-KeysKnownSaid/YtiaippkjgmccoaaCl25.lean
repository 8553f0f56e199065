/- A region that draws its order: one operation more. -/
import Derived.Test.YtiaippkjgmccoaaCl24
set_option linter.unusedSimpArgs false
set_option linter.unusedVariables false
namespace Go.Cl
open Go Go.RowKit

section
variable {E : Env} {r : Rec} {base : Nat} {ops : Array Oper} {s : Nat} {us : List (Nat × Nat)} {a0 : CAct} {h0 : List Blk} {S : Nat → QSt} {R : Nat → Option QRes}
variable {D : Nat → Prop} {β0 β β' : Nat → Nat × Nat} {κ0 κ κ' : Nat → Nat} {N : Nat} {w0 w w' : World} {a0' a' : Act} {L : Nat → Bool}

/-- What an operation of the first part comes to. -/
def resOf (R : Nat → Option QRes) (y : Nat) : QRes := match R y with | some q => q | none => { val := undef }
theorem resOf_new (y : Nat) : newOf R y = (resOf R y).new := by unfold newOf resOf; cases R y <;> rfl
theorem resOf_upd (y : Nat) : updOf R y = (resOf R y).upd := by unfold updOf resOf; cases R y <;> rfl
theorem resOf_val (y : Nat) : valOf R y = (resOf R y).val := by unfold valOf resOf; cases R y <;> rfl
theorem stepJ_res (y : Nat) (H : Nat → Blk) : stepJ S R y H = stepF (S y).heap.length (resOf R y) H := by
  cases hq : R y with
  | some q => rw [stepJ_some hq]; unfold resOf; rw [hq]
  | none =>
    rw [stepJ_none hq]
    unfold resOf
    rw [hq]
    funext i
    unfold stepF
    have : ¬ ((S y).heap.length ≤ i ∧ i < (S y).heap.length + ([] : List Blk).length) := by simp
    rw [if_neg this]


/-- What touches a block that an operation writes stands before it, if it has been done. -/
theorem Run.writers (X : Run E r base ops s us a0 h0 S R) {y k : Nat} {b : Blk} (hy : y < s) (hu : updOf R y = some (k, b)) {z : Nat} (hz : z < s) (hzy : z ≠ y) (hza : anc ops z y ≠ true) (ht : touches S R z k) : anc ops y z = true := by
  obtain ⟨hal, hl⟩ := X.upd_alive hy hu
  obtain ⟨_, h2, h3⟩ := X.sees hy hal
  rcases ht with ht | ⟨c, ht⟩
  · by_cases h : z < y
    · exact h2 z h ht
    · have := X.len_le (show y ≤ z by omega) (by omega)
      have := ht.1
      omega
  · rcases h3 z c hz ht with h | h | h
    · exact absurd h hzy
    · exact absurd h hza
    · exact h

theorem Inv.step (X : Run E r base ops s us a0 h0 S R) (I : Inv E base ops s a0 h0 S R D β0 κ0 N w0 a0' L β κ a' w) (hD : ∀ i, D i → i < h0.length) {y : Nat} (hy : y < s) (hyL : L y = false) (hanc : ∀ z, anc ops y z = true → L z = true)
    {o : Oper} (ho : ops[y]? = some o) {v' : Value} (hQ : QOut E.P (DK S R D (fun z => anc ops y z)) β κ base N (S y).heap.length w (resOf R y) v' w' β' κ') :
    Inv E base ops s a0 h0 S R D β0 κ0 N w0 a0' (fun z => L z || z == y) β' κ' (a'.put o.dst v') w' := by
  have hs := X.hs
  have hq := resOf_new (R := R) y
  have hu := resOf_upd (R := R) y
  have notyet : ∀ z, L z = true → z ≠ y ∧ anc ops z y ≠ true := fun z hz => ⟨fun e => absurd hz (by rw [e, hyL]; simp), fun h => absurd (I.closed.anc z y hz h) (by rw [hyL]; simp)⟩
  have h0y : h0.length ≤ (S y).heap.length := by
    have h3 := X.len_le (Nat.zero_le y) (by omega)
    rw [X.s0] at h3
    exact h3
  -- the view
  have hview : ∀ k b, updOf R y = some (k, b) → HK h0 S R (fun z => anc ops y z) s k ≠ .dead := by
    intro k b hk
    obtain ⟨hal, _⟩ := X.upd_alive hy hk
    rcases X.view I hy hyL hanc k with h | h
    · rw [h] at hal
      rw [← (HM_alive hal).2]; exact hal
    · exact absurd h hal
  -- a set of done operations with all that stands before y sees the block that y writes
  have hkeepK : ∀ K : Nat → Bool, Closed ops s K → (∀ z, K z = true → L z = true) → (∀ z, anc ops y z = true → K z = true) → ∀ k b, updOf R y = some (k, b) → HK h0 S R K s k ≠ .dead := by
    intro K hK hKL hKa k b hk
    have e : HK h0 S R K s k = HK h0 S R (fun z => anc ops y z) s k := HK_congr fun z hz ht => by
      cases hkz : K z with
      | true =>
        obtain ⟨g1, g2⟩ := notyet z (hKL z hkz)
        exact (X.writers hy hk hz g1 g2 ht).symm
      | false =>
        cases hb : anc ops y z with
        | false => rfl
        | true => exact absurd (hKa z hb) (by rw [hkz]; simp)
    rw [e]; exact hview k b hk
  have hdk : ∀ K : Nat → Bool, Closed ops s K → K y = false → ∀ i, DK S R D K i → ¬ InNew (S y).heap.length (resOf R y).new.length i := by
    intro K hK hKy i hi hn
    rcases hi with h | ⟨j, h1, h2⟩
    · have := hD i h; have := hn.1; omega
    · rw [← hq] at hn
      have hj := hK.lt j h1
      have hjy : j ≠ y := fun e => absurd h1 (by rw [e, hKy]; simp)
      rcases Nat.lt_or_gt_of_ne hjy with h | h
      · have := X.new_lt h (by omega); have := h2.2; have := hn.1; omega
      · have := X.new_lt h (by omega); have := h2.1; have := hn.2; omega
  have hRL := I.rel L I.closed fun _ h => h
  have hLL : ∀ i, HM h0 S R s L L i = HK h0 S R L s i := fun i => HM_live (by rintro ⟨z, b, h1, h2, _⟩; rw [h1] at h2; cases h2)
  -- sets with y
  have without : ∀ K' : Nat → Bool, Closed ops s K' → (∀ z, K' z = true → (L z || z == y) = true) → K' y = true →
      Closed ops s (fun z => K' z && !(z == y)) ∧ (∀ z, (K' z && !(z == y)) = true → L z = true) ∧ (∀ z, anc ops y z = true → (K' z && !(z == y)) = true) ∧ (∀ z, K' z = ((K' z && !(z == y)) || z == y)) := by
    intro K' hK' hKL' hKy
    have hsub : ∀ z, (K' z && !(z == y)) = true → L z = true := fun z hz => by
      simp only [Bool.and_eq_true, Bool.not_eq_true', beq_eq_false_iff_ne, ne_eq] at hz
      have := hKL' z hz.1
      simpa [hz.2] using this
    refine ⟨⟨fun z hz => hK'.lt z (by simp only [Bool.and_eq_true] at hz; exact hz.1), fun z i hz hi => ?_⟩, hsub, fun z hz => ?_, fun z => ?_⟩
    · have hzL := hsub z hz
      simp only [Bool.and_eq_true, Bool.not_eq_true', beq_eq_false_iff_ne, ne_eq] at hz ⊢
      refine ⟨hK'.anc z i hz.1 hi, fun e => ?_⟩
      subst e
      exact (notyet z hzL).2 hi
    · simp only [Bool.and_eq_true, Bool.not_eq_true', beq_eq_false_iff_ne, ne_eq]
      refine ⟨hK'.anc y z hKy hz, fun e => ?_⟩
      subst e
      have := anc_lt X.back z z (by omega) hz
      omega
    · by_cases e : z = y
      · rw [e, hKy]; simp
      · have e' : (z == y) = false := by simpa using e
        rw [e']; simp
  have apartK : ∀ K : Nat → Bool, (∀ z, K z = true → L z = true) → ∀ z, y < z → z < s → K z = true → apart ops y z := by
    intro K hKL z h1 h2 h3
    refine ⟨by omega, fun h => ?_, (notyet z (hKL z h3)).2⟩
    have := anc_lt X.back y z (by omega) h
    omega
  refine ⟨⟨fun z hz => ?_, fun z i hz hi => ?_⟩, fun K' hK' hKL' => ?_, fun K' hK' hKL' t v hv hside => ?_, ?_, ?_, fun i hi => ?_, I.below.trans hQ.below⟩
  · simp only [Bool.or_eq_true, beq_iff_eq] at hz
    rcases hz with hz | hz
    · exact I.closed.lt z hz
    · omega
  · simp only [Bool.or_eq_true, beq_iff_eq] at hz ⊢
    rcases hz with hz | hz
    · exact .inl (I.closed.anc z i hz hi)
    · subst hz; exact .inl (hanc i hi)
  · -- the heap
    cases hKy : K' y with
    | false =>
      have hKL : ∀ z, K' z = true → L z = true := fun z hz => by
        have := hKL' z hz
        have hne : z ≠ y := fun e => absurd hz (by rw [e, hKy]; simp)
        simpa [hne] using this
      have hR := I.rel K' hK' hKL
      refine hR.frame (fun _ h => h) (fun i hi => hQ.ext i (hdk K' hK' hKy i hi)) (fun i hi => ?_) hQ.below.size
      obtain ⟨hm, he⟩ := HM_alive hi
      have hm' : ¬ ∃ z b, L z = true ∧ K' z = false ∧ updOf R z = some (i, b) := by
        rintro ⟨z, b, g1, g2, g3⟩
        exact hm ⟨z, b, by simp [g1], g2, g3⟩
      have hKa : HK h0 S R K' s i ≠ .dead := by rw [← he]; exact hi
      have hni : ¬ InNew (S y).heap.length (resOf R y).new.length i := fun hn => by
        have := X.made hK' hy (by rw [hq]; exact hn) hKa
        rw [hKy] at this
        cases this
      have hx := hQ.ext i hni
      refine ⟨by rw [he, HM_live hm'], hx.1, hx.2, hQ.keep _ ?_ fun k b hk heq => ?_⟩
      · have := hR.blk i
        rw [HM_live hm'] at this
        exact this.valid hKa
      · -- y writes elsewhere
        rw [← hu] at hk
        have hki : k ≠ i := fun e => hm ⟨y, b, by simp, hKy, by rw [← e]; exact hk⟩
        have hbk : base ≤ k := (hQ.upd k b (by rw [← hu]; exact hk)).1
        have hLk : HM h0 S R s L L k ≠ .dead := by rw [hLL]; exact hkeepK L I.closed (fun _ h => h) hanc k b hk
        have hLi : HM h0 S R s L L i ≠ .dead := by
          rw [hLL]
          have e : HK h0 S R L s i = HK h0 S R K' s i := HK_congr fun z hz ht => by
            cases hkz : K' z with
            | true => exact hKL z hkz
            | false =>
              cases hlz : L z with
              | false => rfl
              | true =>
                rcases ht with ht | ⟨c, ht⟩
                · have := X.made hK' hz ht hKa
                  rw [hkz] at this
                  cases this
                · exact absurd ⟨z, c, hlz, hkz, ht⟩ hm'
          rw [e]; exact hKa
        by_cases hbi : base ≤ i
        · exact hki (hRL.inj i k hLi hLk hbi hbk heq).symm
        · have h1 := hRL.ro i hLi (by omega)
          have h2 := (hRL.own k hLk hbk).1
          omega
    | true =>
      obtain ⟨hK, hKL, hKa, hKeq⟩ := without K' hK' hKL' hKy
      generalize hKdef : (fun z => K' z && !(z == y)) = K at hK
      have hKL : ∀ z, K z = true → L z = true := fun z hz => hKL z (by rw [← hKdef] at hz; exact hz)
      have hKa : ∀ z, anc ops y z = true → K z = true := fun z hz => by rw [← hKdef]; exact hKa z hz
      have hKeq : ∀ z, K' z = (K z || z == y) := fun z => by rw [← hKdef]; exact hKeq z
      have hKyf : K y = false := by rw [← hKdef]; simp
      have hR := I.rel K hK hKL
      have nomask : ∀ k b, updOf R y = some (k, b) → ¬ ∃ z c, L z = true ∧ K z = false ∧ updOf R z = some (k, c) := by
        rintro k b hk ⟨z, c, g1, g2, g3⟩
        obtain ⟨e1, e2⟩ := notyet z g1
        have := hKa z (X.writers hy hk (I.closed.lt z g1) e1 e2 (.inr ⟨c, g3⟩))
        rw [g2] at this
        cases this
      have hstep := hR.step hQ (fun i hi => hi.imp id fun ⟨j, h1, h2⟩ => ⟨j, hKa j h1, h2⟩) (hdk K hK hKyf) (by have := X.baseLe; omega) (fun k b hk => by
        rw [← hu] at hk
        rw [HM_live (nomask k b hk)]
        exact hkeepK K hK hKL hKa k b hk)
      have e1 : (fun i => DK S R D K i ∨ InNew (S y).heap.length (resOf R y).new.length i) = DK S R D K' := by
        funext i
        apply propext
        constructor
        · rintro ((h | ⟨j, h1, h2⟩) | h)
          · exact .inl h
          · exact .inr ⟨j, by rw [hKeq, h1]; rfl, h2⟩
          · exact .inr ⟨y, hKy, by rw [hq]; exact h⟩
        · rintro (h | ⟨j, h1, h2⟩)
          · exact .inl (.inl h)
          · by_cases e : j = y
            · subst e; rw [hq] at h2; exact .inr h2
            · rw [hKeq] at h1
              exact .inl (.inr ⟨j, by simpa [e] using h1, h2⟩)
      have e2 : stepF (S y).heap.length (resOf R y) (HM h0 S R s K L) = HM h0 S R s K' (fun z => L z || z == y) := by
        funext i
        have masks : (∃ z b, (L z || z == y) = true ∧ K' z = false ∧ updOf R z = some (i, b)) ↔ ∃ z b, L z = true ∧ K z = false ∧ updOf R z = some (i, b) := by
          constructor
          · rintro ⟨z, b, g1, g2, g3⟩
            have hne : z ≠ y := fun e => by rw [e, hKy] at g2; cases g2
            refine ⟨z, b, by simpa [hne] using g1, ?_, g3⟩
            rw [hKeq] at g2
            simp only [Bool.or_eq_false_iff] at g2
            exact g2.1
          · rintro ⟨z, b, g1, g2, g3⟩
            refine ⟨z, b, by simp [g1], ?_, g3⟩
            rw [hKeq, g2]
            simpa using (notyet z g1).1
        by_cases hm : ∃ z b, L z = true ∧ K z = false ∧ updOf R z = some (i, b)
        · rw [HM_dead (masks.2 hm)]
          have hnt : ¬ touches S R y i := by
            rintro (ht | ⟨c, ht⟩)
            · obtain ⟨z, b, g1, g2, g3⟩ := hm
              have hz := I.closed.lt z g1
              obtain ⟨hal, hl⟩ := X.upd_alive hz g3
              rcases Nat.lt_or_gt_of_ne (notyet z g1).1 with h | h
              · have := X.len_le (show z ≤ y by omega) (by omega)
                have := ht.1
                omega
              · exact (notyet z g1).2 ((X.sees hz hal).2.1 y h ht)
            · exact nomask i c ht hm
          rw [← stepJ_res, stepJ_not hnt, HM_dead hm]
        · rw [HM_live (fun h => hm (masks.1 h))]
          have e3 : HK h0 S R K' s = HK h0 S R (fun z => K z || z == y) s := by
            have : K' = fun z => K z || z == y := funext hKeq
            rw [this]
          rw [e3, X.HK_insert hy hKyf hy (Nat.le_refl _) (apartK K hKL), ← stepJ_res]
          by_cases ht : touches S R y i
          · exact stepJ_touch ht
          · rw [stepJ_not ht, stepJ_not ht, HM_live hm]
      rw [e1, e2] at hstep
      exact hstep
  · -- the temporaries
    have hput : ∀ t', (a'.put o.dst v').tmps.toList[t']? = if o.dst = some t' then (if t' < a'.tmps.size then some v' else none) else a'.tmps.toList[t']? := by
      intro t'
      cases hd : o.dst with
      | none => simp [Act.put]
      | some d =>
        simp only [Act.put, Array.toList_setIfInBounds, List.getElem?_set, Option.some.injEq, Array.length_toList]
        by_cases he : d = t'
        · subst he; rfl
        · rw [if_neg he, if_neg he]
    have hdy : dstOf ops y = o.dst := by unfold dstOf; rw [ho]; rfl
    cases hKy : K' y with
    | false =>
      have hKL : ∀ z, K' z = true → L z = true := fun z hz => by
        have := hKL' z hz
        have hne : z ≠ y := fun e => absurd hz (by rw [e, hKy]; simp)
        simpa [hne] using this
      obtain ⟨v2, g1, g2⟩ := I.tmp K' hK' hKL t v hv fun z hz hk => hside z (by simp [hz]) hk
      refine ⟨v2, ?_, g2.mono (fun _ h => h) (fun i hi => hQ.ext i (hdk K' hK' hKy i hi))⟩
      rw [hput, if_neg (by rw [← hdy]; exact hside y (by simp) hKy)]
      exact g1
    | true =>
      obtain ⟨hK, hKL, hKa, hKeq⟩ := without K' hK' hKL' hKy
      generalize hKdef : (fun z => K' z && !(z == y)) = K at hK
      have hKL : ∀ z, K z = true → L z = true := fun z hz => hKL z (by rw [← hKdef] at hz; exact hz)
      have hKa : ∀ z, anc ops y z = true → K z = true := fun z hz => by rw [← hKdef]; exact hKa z hz
      have hKeq : ∀ z, K' z = (K z || z == y) := fun z => by rw [← hKdef]; exact hKeq z
      have hKyf : K y = false := by rw [← hKdef]; simp
      have e3 : TK ops a0 R K' s = TK ops a0 R (fun z => K z || z == y) s := by
        have : K' = fun z => K z || z == y := funext hKeq
        rw [this]
      rw [e3, X.TK_insert hy hKyf hy (Nat.le_refl _) (apartK K hKL)] at hv
      by_cases hdt : o.dst = some t
      · have hlt : t < a0.tmps.length := by
          have := (List.getElem?_eq_some_iff.1 hv).1
          rw [putJ_length, TK_length] at this
          exact this
        have hvv : v = (resOf R y).val := by
          unfold putJ at hv
          rw [hdy, hdt] at hv
          simp only [List.getElem?_set, TK_length, hlt, if_true] at hv
          rw [← resOf_val]
          exact (Option.some.inj hv).symm
        refine ⟨v', by rw [hput, if_pos hdt, if_pos (by rw [I.len]; exact hlt)], ?_⟩
        rw [hvv]
        refine hQ.val.mono (fun i hi => ?_) Ext.refl
        rcases hi with (h | ⟨j, h1, h2⟩) | h
        · exact .inl h
        · exact .inr ⟨j, by rw [hKeq, hKa j h1]; rfl, h2⟩
        · exact .inr ⟨y, hKy, by rw [hq]; exact h⟩
      · rw [putJ_not (by rw [hdy]; exact hdt)] at hv
        obtain ⟨v2, g1, g2⟩ := I.tmp K hK hKL t v hv fun z hz hk => hside z (by simp [hz]) (by rw [hKeq, hk]; simpa using (notyet z hz).1)
        refine ⟨v2, by rw [hput, if_neg hdt]; exact g1, g2.mono (fun i hi => ?_) (fun i hi => hQ.ext i (hdk K hK hKyf i hi))⟩
        rcases hi with h | ⟨j, h1, h2⟩
        · exact .inl h
        · exact .inr ⟨j, by rw [hKeq, h1]; rfl, h2⟩
  · rw [← I.len]
    cases o.dst with
    | none => rfl
    | some d => simp [Act.put]
  · rw [← I.defers]
    cases o.dst <;> rfl
  · have := hQ.ext i (fun hn => by have := hn.1; omega)
    have h2 := I.ext i hi
    exact ⟨this.1.trans h2.1, this.2.trans h2.2⟩
end
end Go.Cl
