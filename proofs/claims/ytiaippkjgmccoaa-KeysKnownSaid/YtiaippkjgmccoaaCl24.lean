/- A region that draws its order: whatever is drawn, the state is what the clean run says. -/
import Derived.Test.YtiaippkjgmccoaaCl23
set_option linter.unusedSimpArgs false
set_option linter.unusedVariables false
namespace Go.Cl
open Go Go.RowKit

section
variable {E : Env} {r : Rec} {base : Nat} {ops : Array Oper} {s : Nat} {us : List (Nat × Nat)} {a0 : CAct} {h0 : List Blk} {S : Nat → QSt} {R : Nat → Option QRes}

/-- The blocks that are known behind the operations of K. -/
def DK (S : Nat → QSt) (R : Nat → Option QRes) (D : Nat → Prop) (K : Nat → Bool) (i : Nat) : Prop := D i ∨ ∃ j, K j = true ∧ InNew (S j).heap.length (newOf R j).length i

open Classical in
/-- The heap behind the operations of K, where those of L have been done: what others have written is not seen. -/
noncomputable def HM (h0 : List Blk) (S : Nat → QSt) (R : Nat → Option QRes) (s : Nat) (K L : Nat → Bool) (i : Nat) : Blk :=
  if ∃ z b, L z = true ∧ K z = false ∧ updOf R z = some (i, b) then .dead else HK h0 S R K s i

theorem HM_dead {K L : Nat → Bool} {i : Nat} (h : ∃ z b, L z = true ∧ K z = false ∧ updOf R z = some (i, b)) : HM h0 S R s K L i = .dead := by unfold HM; rw [if_pos h]
theorem HM_live {K L : Nat → Bool} {i : Nat} (h : ¬ ∃ z b, L z = true ∧ K z = false ∧ updOf R z = some (i, b)) : HM h0 S R s K L i = HK h0 S R K s i := by unfold HM; rw [if_neg h]
theorem HM_alive {K L : Nat → Bool} {i : Nat} (h : HM h0 S R s K L i ≠ .dead) : (¬ ∃ z b, L z = true ∧ K z = false ∧ updOf R z = some (i, b)) ∧ HM h0 S R s K L i = HK h0 S R K s i := by
  by_cases hc : ∃ z b, L z = true ∧ K z = false ∧ updOf R z = some (i, b)
  · exact absurd (HM_dead hc) h
  · exact ⟨hc, HM_live hc⟩

structure Inv (E : Env) (base : Nat) (ops : Array Oper) (s : Nat) (a0 : CAct) (h0 : List Blk) (S : Nat → QSt) (R : Nat → Option QRes) (D : Nat → Prop) (β0 : Nat → Nat × Nat) (κ0 : Nat → Nat) (N : Nat) (w0 : World) (a0' : Act)
    (L : Nat → Bool) (β : Nat → Nat × Nat) (κ : Nat → Nat) (a' : Act) (w : World) : Prop where
  closed : Closed ops s L
  rel : ∀ K, Closed ops s K → (∀ z, K z = true → L z = true) → Rel E.P (DK S R D K) β κ base N (HM h0 S R s K L) w
  tmp : ∀ K, Closed ops s K → (∀ z, K z = true → L z = true) → ∀ (t : Nat) (v : Value), (TK ops a0 R K s)[t]? = some v → (∀ z, L z = true → K z = false → dstOf ops z ≠ some t) →
    ∃ v', a'.tmps.toList[t]? = some v' ∧ VR (DK S R D K) β κ v v'
  len : a'.tmps.size = a0.tmps.length
  defers : a'.defers = a0'.defers
  ext : ∀ i, i < h0.length → β i = β0 i ∧ κ i = κ0 i
  below : Below N w0 w

variable {D : Nat → Prop} {β0 β : Nat → Nat × Nat} {κ0 κ : Nat → Nat} {N : Nat} {w0 w : World} {a0' a' : Act} {L : Nat → Bool}

theorem DK_congr {K K' : Nat → Bool} (h : ∀ z, K z = K' z) : DK S R D K = DK S R D K' := by
  have : K = K' := funext h
  rw [this]


theorem Inv.start (X : Run E r base ops s us a0 h0 S R) (hD : ∀ i, D i → i < h0.length) (hR : Rel E.P D β0 κ0 base N (toF h0) w0) (hA : ActR D β0 κ0 a0 a0') {w : World} (hw : w = w0.drew) :
    Inv E base ops s a0 h0 S R D β0 κ0 N w0 a0' (fun _ => false) β0 κ0 a0' w := by
  have none_of : ∀ K : Nat → Bool, (∀ z, K z = true → (fun _ => false) z = true) → ∀ z, K z = false := fun K h z => by
    cases hk : K z with
    | false => rfl
    | true => have := h z hk; cases this
  refine ⟨⟨fun z h => absurd h (by simp), fun z i h => absurd h (by simp)⟩, fun K hK hKL => ?_, fun K hK hKL t v hv _ => ?_, ?_, rfl, fun i _ => ⟨rfl, rfl⟩, ?_⟩
  · have hk := none_of K hKL
    have e1 : DK S R D K = D := by
      funext i
      unfold DK
      apply propext
      constructor
      · rintro (h | ⟨j, h, _⟩)
        · exact h
        · rw [hk j] at h; cases h
      · exact .inl
    have e2 : HM h0 S R s K (fun _ => false) = toF h0 := by
      funext i
      rw [HM_live (by rintro ⟨z, b, h, _⟩; cases h)]
      exact HK_skip (Nat.zero_le s) fun z _ _ h => by rw [hk z] at h; cases h
    rw [e1, e2, hw]
    exact ⟨hR.blk, hR.ro, hR.own, hR.inj, hR.size⟩
  · have hk := none_of K hKL
    have e1 : (TK ops a0 R K s)[t]? = (TK ops a0 R K 0)[t]? := TK_skip (Nat.zero_le s) fun z _ _ h => by rw [hk z] at h; cases h
    rw [e1] at hv
    obtain ⟨v', h1, h2⟩ := hA.tmps.get hv
    exact ⟨v', h1, h2.mono (fun _ h => .inl h) Ext.refl⟩
  · have := hA.tmps.len
    simpa using this.symm
  · rw [hw]; exact (Below.refl _ _).drew

/-- What stands before an operation, as a set. -/
theorem Run.before_closed (X : Run E r base ops s us a0 h0 S R) {y : Nat} (hy : y < s) : Closed ops s (fun z => anc ops y z) := by
  have hs := X.hs
  refine ⟨fun z h => ?_, fun z i h hi => anc_trans X.back y z i (by omega) h hi⟩
  have := anc_lt X.back y z (by omega) h
  omega

/-- WHAT AN OPERATION SEES IS WHAT THOSE BEFORE IT HAVE LEFT. -/
theorem Run.view (X : Run E r base ops s us a0 h0 S R) (I : Inv E base ops s a0 h0 S R D β0 κ0 N w0 a0' L β κ a' w) {y : Nat} (hy : y < s) (hyL : L y = false) (hanc : ∀ z, anc ops y z = true → L z = true) (i : Nat) :
    toF (masked (Region.before ops).toList (S y).own us y (S y).heap) i = HM h0 S R s (fun z => anc ops y z) L i ∨ toF (masked (Region.before ops).toList (S y).own us y (S y).heap) i = .dead := by
  have hs := X.hs
  by_cases ha : toF (masked (Region.before ops).toList (S y).own us y (S y).heap) i = .dead
  · exact .inr ha
  · left
    obtain ⟨h1, h2, h3⟩ := X.sees hy ha
    have notyet : ∀ z, L z = true → z ≠ y ∧ anc ops z y ≠ true := fun z hz => ⟨fun e => absurd hz (by rw [e, hyL]; simp), fun h => absurd (I.closed.anc z y hz h) (by rw [hyL]; simp)⟩
    rw [HM_live (by
      rintro ⟨z, b, g1, g2, g3⟩
      rcases h3 z b (I.closed.lt z g1) g3 with h | h | h
      · exact (notyet z g1).1 h
      · exact (notyet z g1).2 h
      · simp only [h] at g2; cases g2)]
    rw [h1, HK_skip (show y ≤ s by omega) (fun z g1 _ g3 => by have := anc_lt X.back y z (by omega) g3; omega),
      ← X.HK_all (show y ≤ s by omega) (K := fun _ => true) (fun _ _ => rfl)]
    refine (HK_congr fun z hz ht => ?_).symm
    rcases ht with ht | ⟨b, ht⟩
    · exact h2 z hz ht
    · rcases h3 z b (by omega) ht with h | h | h
      · omega
      · have := anc_lt X.back z y (by omega) h; omega
      · exact h

theorem Run.view_lt (X : Run E r base ops s us a0 h0 S R) {y : Nat} (hy : y < s) (hD : ∀ i, D i → i < h0.length) (i : Nat) (hi : DK S R D (fun z => anc ops y z) i) : i < (S y).heap.length := by
  have hs := X.hs
  rcases hi with h | ⟨j, h1, h2⟩
  · have h3 := X.len_le (Nat.zero_le y) (by omega)
    rw [X.s0] at h3
    have h3 : h0.length ≤ (S y).heap.length := h3
    have := hD i h
    omega
  · have := X.new_lt (anc_lt X.back y j (by omega) h1) (by omega)
    have := h2.2
    omega

/-- The clean activation that an operation needs: the rest is not asked for. -/
noncomputable def lookAct (ops : Array Oper) (o : Oper) (a : CAct) : CAct :=
  { a with tmps := a.tmps.zipIdx.map fun p => if p.2 ∈ opNames ops.toList o then p.1 else poison }

theorem look_at {o : Oper} {a : CAct} {t : Nat} : (lookAct ops o a).tmps[t]? = (a.tmps[t]?).map fun v => if t ∈ opNames ops.toList o then v else poison := by
  unfold lookAct
  simp only [List.getElem?_map, List.getElem?_zipIdx]
  cases a.tmps[t]? <;> simp

theorem look_get {o : Oper} {a : CAct} {t : Nat} (h : t ∈ opNames ops.toList o) : getT (lookAct ops o a).tmps t = getT a.tmps t := by
  rw [getT_eq, getT_eq]
  simp only [List.getD]
  rw [look_at]
  cases a.tmps[t]? <;> simp [h]

theorem look_wanted {o : Oper} {a : CAct} : cWanted ops.toList (lookAct ops o a) o = cWanted ops.toList a o := by
  unfold cWanted
  cases hg : o.guard with
  | none => rfl
  | some p =>
    obtain ⟨j, want⟩ := p
    simp only
    cases hd : (ops.toList[j]?).bind (·.dst) with
    | none => rfl
    | some d =>
      simp only
      rw [look_get (by unfold opNames; rw [hg]; simp only; rw [hd]; simp)]

theorem look_op {o : Oper} {a : CAct} {h : List Blk} {n : Nat} : qOp E r base h n (lookAct ops o a).eval o = qOp E r base h n a.eval o := by
  refine qOp_congr fun x hx => ?_
  cases x with
  | tmp t => exact look_get (by unfold opNames; exact List.mem_append_right _ (List.mem_filterMap.2 ⟨.tmp t, hx, rfl⟩))
  | _ => rfl

/-- The activation, as far as the operation looks at it. -/
theorem Run.look (X : Run E r base ops s us a0 h0 S R) (I : Inv E base ops s a0 h0 S R D β0 κ0 N w0 a0' L β κ a' w) (hD : ∀ i, D i → i < h0.length) (hA : ActR D β0 κ0 a0 a0') {y : Nat} (hy : y < s) (hyL : L y = false) (hanc : ∀ z, anc ops y z = true → L z = true) {o : Oper} (ho : ops[y]? = some o) :
    ActR (DK S R D (fun z => anc ops y z)) β κ (lookAct ops o (S y).act) a' := by
  have hs := X.hs
  have htk : TK ops a0 R (fun _ => true) y = (S y).act.tmps := X.TK_all (show y ≤ s by omega) fun _ _ => rfl
  have hlen : (S y).act.tmps.length = a0.tmps.length := by rw [← htk, TK_length]
  have apartOf : ∀ z, z < s → z ≠ y → anc ops y z ≠ true → anc ops z y ≠ true → ∀ t, dstOf ops z = some t → t ∉ opNames ops.toList o := by
    intro z hz h1 h2 h3 t ht
    obtain ⟨oz, hoz, _⟩ := X.op hz
    exact (X.quiet_spec hz hy ⟨h1, h3, h2⟩ hoz ho (by unfold dstOf at ht; rw [hoz] at ht; exact ht)).2
  refine ⟨⟨?_, fun t v v' hv hv' => ?_⟩, ?_, fun m hm => ?_⟩
  · have := I.len
    unfold lookAct
    simp only [List.length_map, List.length_zipIdx, Array.length_toList]
    omega
  · rw [look_at] at hv
    cases hx : (S y).act.tmps[t]? with
    | none => rw [hx] at hv; cases hv
    | some x =>
      rw [hx] at hv
      simp only [Option.map_some, Option.some.injEq] at hv
      by_cases hn : t ∈ opNames ops.toList o
      · rw [if_pos hn] at hv
        subst hv
        have e1 : (TK ops a0 R (fun z => anc ops y z) s)[t]? = some x := by
          rw [TK_skip (show y ≤ s by omega) (fun z g1 _ g3 => by have := anc_lt X.back y z (by omega) g3; omega), ← hx, ← htk]
          refine TK_congr fun z hz hd => ?_
          cases hb : anc ops y z with
          | true => rfl
          | false => exact absurd hn (apartOf z (by omega) (by omega) (by simp [hb]) (fun h => by have := anc_lt X.back z y (by omega) h; omega) t hd)
        obtain ⟨v2, g1, g2⟩ := I.tmp _ (X.before_closed hy) hanc t x e1 (fun z hz hb hd => by
          refine apartOf z (I.closed.lt z hz) (fun e => by rw [e, hyL] at hz; cases hz) (by simp [hb]) (fun h => by have := I.closed.anc z y hz h; rw [hyL] at this; cases this) t hd hn)
        rw [hv'] at g1
        cases g1
        exact g2
      · rw [if_neg hn] at hv
        subst hv
        exact .poison _
  · rw [I.defers, hA.marks]
    have e : (lookAct ops o (S y).act).marks = a0.marks := X.marks_all (show y ≤ s by omega)
    rw [e]
    apply List.map_congr_left
    intro m hm
    rw [(I.ext m (hD m (hA.known m hm))).1]
  · have e : (lookAct ops o (S y).act).marks = a0.marks := X.marks_all (show y ≤ s by omega)
    rw [e] at hm
    exact .inl (hA.known m hm)
end
end Go.Cl
