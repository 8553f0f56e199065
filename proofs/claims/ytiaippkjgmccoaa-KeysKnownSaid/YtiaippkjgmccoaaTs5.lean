/- States written down by what is wanted of them. -/
import Derived.Test.YtiaippkjgmccoaaTs4
set_option linter.unusedVariables false
namespace Go.Cl
open Go Go.RowKit

/-- The temporaries that are wanted; of all others nothing is said. -/
def st (n : Nat) (l : List (Nat × Value)) : CAct := { tmps := l.foldl (fun t p => t.set p.1 p.2) (List.replicate n poison) }

def maskL (keep : List Nat) : Nat → List Value → List Value
  | _, [] => []
  | i, v :: l => (if keep.contains i then v else poison) :: maskL keep (i + 1) l
def maskA (keep : List Nat) (a : CAct) : CAct := { a with tmps := maskL keep 0 a.tmps }
def maskH (keep : List Nat) : Nat → List Blk → List Blk
  | _, [] => []
  | i, b :: l => (if keep.contains i then b else .dead) :: maskH keep (i + 1) l

theorem maskL_lr {D : Nat → Prop} {β : Nat → Nat × Nat} {κ : Nat → Nat} {keep : List Nat} : ∀ {l l' : List Value} {i : Nat}, LR D β κ l l' → LR D β κ (maskL keep i l) l'
  | [], l', i, h => h
  | v :: l, l', i, h => by
    obtain ⟨v', m, rfl, hv, hl⟩ := h.uncons
    show LR D β κ ((if keep.contains i then v else poison) :: maskL keep (i + 1) l) (v' :: m)
    refine LR.cons ?_ (maskL_lr hl)
    split
    · exact hv
    · exact .poison _

theorem maskH_length {keep : List Nat} : ∀ {l : List Blk} {i : Nat}, (maskH keep i l).length = l.length
  | [], _ => rfl
  | b :: l, i => by simp [maskH, maskH_length]

theorem maskH_get {keep : List Nat} : ∀ {l : List Blk} {i j : Nat}, toF (maskH keep i l) j = toF l j ∨ toF (maskH keep i l) j = .dead
  | [], _, _ => .inl rfl
  | b :: l, i, 0 => by
    simp only [maskH, toF, List.getD_cons_zero]
    split
    · exact .inl rfl
    · exact .inr rfl
  | b :: l, i, j + 1 => by
    simp only [maskH, toF, List.getD_cons_succ]
    exact maskH_get (l := l) (i := i + 1) (j := j)

theorem Wk.mask {P : Program} {base L : Nat} {a : CAct} {h : List Blk} (keep keepH : List Nat) : Wk P base L a h (maskA keep a) (maskH keepH 0 h) := by
  rintro N D0 β0 κ0 a' w ⟨D, β, κ, hf⟩
  refine ⟨D, β, κ, fun i hi => by rw [maskH_length]; exact hf.dom i hi, by rw [maskH_length]; exact hf.bl, by rw [maskH_length]; exact hf.ll, hf.rel.weaken fun i => maskH_get, ⟨maskL_lr hf.act.tmps, hf.act.marks, hf.act.known⟩, hf.ext⟩

/-- A state, masked. -/
def mk2 (keep keepH : List Nat) (p : CAct × List Blk) : CAct × List Blk := (maskA keep p.1, maskH keepH 0 p.2)

section
variable {P : Program} {base L : Nat} {c x y : Code} {a a1 a2 : CAct} {h h1 h2 new : List Blk} {Φ : Post} {K : List Fr} {ops : Array Oper} {j : Nat} {Ψ : CAct → List Blk → Prop} {q : QRes} {v : Value}

/-- k operations, none of which calls a function; then what is not wanted is forgotten. -/
theorem TI.run (k : Nat) (keep keepH : List Nat) (hs : (runK P base ops j k a h).map (mk2 keep keepH) = some (a2, h2)) (ht : TI P base L ops (j + k) a2 h2 Ψ) : TI P base L ops j a h Ψ := by
  cases hr : runK P base ops j k a h with
  | none => rw [hr] at hs; cases hs
  | some p =>
    rw [hr] at hs
    have e := Option.some.inj hs
    refine TI.bulk k (a1 := p.1) (h1 := p.2) hr (TI.weak (Wk.mask keep keepH) ?_)
    have e1 : maskA keep p.1 = a2 := congrArg Prod.fst e
    have e2 : maskH keepH 0 p.2 = h2 := congrArg Prod.snd e
    rw [e1, e2]
    exact ht

/-- One operation of which it is known what it comes to. -/
theorem TI.op (hq : qAt P base ops j a h = some q) (keep keepH : List Nat) (hs : mk2 keep keepH (putAt ops j a q.val, q.heap h) = (a2, h2)) (ht : TI P base L ops (j + 1) a2 h2 Ψ) : TI P base L ops j a h Ψ := by
  refine TI.one hq rfl rfl (TI.weak (Wk.mask keep keepH) ?_)
  have e1 : maskA keep (putAt ops j a q.val) = a2 := congrArg Prod.fst hs
  have e2 : maskH keepH 0 (q.heap h) = h2 := congrArg Prod.snd hs
  rw [e1, e2]
  exact ht

theorem TI.callM {g : FuncId} {args : List Value} (hc : callAt ops j a = some (g, args)) (hP : PureSim P g args h v new) (keep keepH : List Nat) (hs : mk2 keep keepH (putAt ops j a v, h ++ new) = (a2, h2))
    (ht : TI P base L ops (j + 1) a2 h2 Ψ) : TI P base L ops j a h Ψ := by
  refine TI.call hc hP rfl rfl (TI.weak (Wk.mask keep keepH) ?_)
  have e1 : maskA keep (putAt ops j a v) = a2 := congrArg Prod.fst hs
  have e2 : maskH keepH 0 (h ++ new) = h2 := congrArg Prod.snd hs
  rw [e1, e2]
  exact ht

theorem TI.icallM {g : FuncId} {args : List Value} (hc : callAt ops j a = some (g, args)) (hP : ImpSim P g args base h v h1) (keep keepH : List Nat) (hs : mk2 keep keepH (putAt ops j a v, h1) = (a2, h2))
    (ht : TI P base L ops (j + 1) a2 h2 Ψ) : TI P base L ops j a h Ψ := by
  refine TI.icall hc hP rfl (TI.weak (Wk.mask keep keepH) ?_)
  have e1 : maskA keep (putAt ops j a v) = a2 := congrArg Prod.fst hs
  have e2 : maskH keepH 0 h1 = h2 := congrArg Prod.snd hs
  rw [e1, e2]
  exact ht

theorem TS.startM (keep keepH : List Nat) (hs : mk2 keep keepH (a, h) = (a2, h2)) (ht : TS P base L c a2 h2 (NX P base L [] Φ)) : TS P base L c a h Φ := by
  refine TS.weak (Wk.mask keep keepH) ?_
  have e1 : maskA keep a = a2 := congrArg Prod.fst hs
  have e2 : maskH keepH 0 h = h2 := congrArg Prod.snd hs
  rw [e1, e2]
  exact ht

/-- Both ways of a Bool. -/
theorem splitB (m : Bool → Prop) (b : Bool) (ht : b = true → m true) (hf : b = false → m false) : m b := by
  cases b
  · exact hf rfl
  · exact ht rfl

theorem Ats.dead {p : Bool} {f : Nat → Nat × Nat} {n : Nat} : ∀ (k i : Nat), Ats p f n h i (List.replicate k .dead)
  | 0, i => .nil i
  | k + 1, i => .cons (.inl rfl) (Ats.dead k (i + 1))

theorem Ats.app {p : Bool} {f : Nat → Nat × Nat} {n : Nat} {l m : List Blk} : ∀ {i : Nat}, Ats p f n h i l → Ats p f n h (i + l.length) m → Ats p f n h i (l ++ m) := by
  intro i hl
  induction hl with
  | nil i => intro hm; simpa using hm
  | cons hb _ ih => intro hm; exact .cons hb (ih (by simpa [Nat.add_assoc, Nat.add_comm 1] using hm))

/-- An answer without blocks. -/
theorem WkV.flat0 (hv : isFlat v = true) (hl : L ≤ h.length) : WkV P L L v h v (List.replicate L Blk.dead ++ []) := by
  refine WkV.ren (fun i => i) (fun i _ => rfl) (by simp) (by simp) (fun i j _ _ e => e) (fun i _ => Iff.rfl) ?_ (.flat hv)
  rw [List.append_nil]
  exact Ats.dead L 0

/-- An answer with blocks: block L + j of the answer is block f j. -/
theorem WkV.made {f : List Nat} {v2 : Value} (hf : f.Nodup) (hge : ∀ i ∈ f, L ≤ i) (hl : new.length = f.length)
    (hb : Ats true (fun i => (if i < L then i else f.getD (i - L) 0, 0)) (L + new.length) h L new) (ht : Rn true (fun i => (if i < L then i else f.getD (i - L) 0, 0)) (L + new.length) v2 v) :
    WkV P L L v h v2 (List.replicate L Blk.dead ++ new) := by
  have hlen : (List.replicate L Blk.dead ++ new).length = L + new.length := by simp
  have at_ : ∀ i, L ≤ i → i < L + new.length → ∃ x, f[i - L]? = some x ∧ f.getD (i - L) 0 = x ∧ L ≤ x := fun i h1 h2 => by
    have hx : i - L < f.length := by omega
    exact ⟨f[i - L], List.getElem?_eq_getElem hx, by simp [List.getD, hx], hge _ (List.getElem_mem hx)⟩
  refine WkV.ren (fun i => if i < L then i else f.getD (i - L) 0) (fun i hi => if_pos hi) (by omega) (by omega) (fun i j hi hj e => ?_) (fun i hi => ?_) ?_ ?_
  · rw [hlen] at hi hj
    by_cases h1 : i < L <;> by_cases h2 : j < L
    · simpa [h1, h2] using e
    · obtain ⟨x, _, e1, e2⟩ := at_ j (by omega) hj
      simp only [if_pos h1, if_neg h2, e1] at e
      omega
    · obtain ⟨x, _, e1, e2⟩ := at_ i (by omega) hi
      simp only [if_neg h1, if_pos h2, e1] at e
      omega
    · obtain ⟨x, g1, e1, e2⟩ := at_ i (by omega) hi
      obtain ⟨y, g2, k1, k2⟩ := at_ j (by omega) hj
      simp only [if_neg h1, if_neg h2, e1, k1] at e
      subst e
      have := (List.getElem?_inj (List.getElem?_eq_some_iff.1 g1).1 hf).1 (g1.trans g2.symm)
      omega
  · rw [hlen] at hi
    by_cases h1 : i < L
    · simp only [if_pos h1]
    · obtain ⟨x, _, e1, e2⟩ := at_ i (by omega) hi
      simp only [if_neg h1, e1]
      omega
  · rw [hlen]
    refine Ats.app (Ats.dead L 0) ?_
    rw [List.length_replicate, Nat.zero_add]
    exact hb
  · rw [hlen]
    exact ht

/-- A loop's state by other numbers: block L + j was block f j. -/
theorem Wk.anew {f : List Nat} (hf : f.Nodup) (hge : ∀ i ∈ f, L ≤ i) (hL : base ≤ L) (hl : h2.length = L + f.length)
    (hb : Ats true (fun i => (if i < L then i else f.getD (i - L) 0, 0)) h2.length h 0 h2) (ht : LRn true (fun i => (if i < L then i else f.getD (i - L) 0, 0)) h2.length a2.tmps a.tmps)
    (hm : a.marks = []) (hm2 : a2.marks = []) : Wk P base L a h a2 h2 := by
  have at_ : ∀ i, L ≤ i → i < h2.length → ∃ x, f[i - L]? = some x ∧ f.getD (i - L) 0 = x ∧ L ≤ x := fun i h1 h2 => by
    have hx : i - L < f.length := by omega
    exact ⟨f[i - L], List.getElem?_eq_getElem hx, by simp [List.getD, hx], hge _ (List.getElem_mem hx)⟩
  refine Wk.ren (fun i => if i < L then i else f.getD (i - L) 0) (fun i hi => if_pos hi) (by omega) (by omega) (fun i j hi hj e => ?_) (fun i hi => ?_) hb ht (by rw [hm, hm2]; rfl) (by rw [hm2]; intro m hm; cases hm)
  · by_cases h1 : i < L <;> by_cases h2 : j < L
    · simpa [h1, h2] using e
    · obtain ⟨x, _, e1, e2⟩ := at_ j (by omega) hj
      simp only [if_pos h1, if_neg h2, e1] at e
      omega
    · obtain ⟨x, _, e1, e2⟩ := at_ i (by omega) hi
      simp only [if_neg h1, if_pos h2, e1] at e
      omega
    · obtain ⟨x, g1, e1, e2⟩ := at_ i (by omega) hi
      obtain ⟨y, g2, k1, k2⟩ := at_ j (by omega) hj
      simp only [if_neg h1, if_neg h2, e1, k1] at e
      subst e
      have := (List.getElem?_inj (List.getElem?_eq_some_iff.1 g1).1 hf).1 (g1.trans g2.symm)
      omega
  · by_cases h1 : i < L
    · simp only [if_pos h1]
    · obtain ⟨x, _, e1, e2⟩ := at_ i (by omega) hi
      simp only [if_neg h1, e1]
      omega

/-! ### Proofs of renamings -/
theorem LRn.st {p : Bool} {f : Nat → Nat × Nat} {n : Nat} {m : Nat} {l : List (Nat × Value)} {l' : List Value} (hlen : l'.length = m) (hp : p = true) (hall : ∀ x ∈ l, ∀ v', l'[x.1]? = some v' → Rn p f n x.2 v') :
    LRn p f n (Cl.st m l).tmps l' := by
  have key : ∀ (l : List (Nat × Value)) (t : List Value), (∀ x ∈ l, ∀ v', l'[x.1]? = some v' → Rn p f n x.2 v') → LRn p f n t l' → LRn p f n (l.foldl (fun t p => t.set p.1 p.2) t) l' := by
    intro l
    induction l with
    | nil => intro t _ ht; exact ht
    | cons x l ih =>
      intro t hx ht
      refine ih _ (fun y hy => hx y (List.mem_cons_of_mem _ hy)) ⟨by simp [ht.len], fun j v v' hv hv' => ?_⟩
      rw [List.getElem?_set] at hv
      split at hv
      · rename_i hj
        split at hv
        · cases hv
          exact hx x List.mem_cons_self v' (by rw [hj]; exact hv')
        · cases hv
      · exact ht.at_ j v v' hv hv'
  refine key l _ hall ⟨by simp [hlen], fun j v v' hv hv' => ?_⟩
  rw [List.getElem?_replicate] at hv
  split at hv
  · cases hv; exact .poison _ hp
  · cases hv
end
end Go.Cl
