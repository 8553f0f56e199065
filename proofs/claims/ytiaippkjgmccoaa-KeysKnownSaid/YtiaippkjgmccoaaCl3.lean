/- The relation between the clean heap and the model's world: blocks, worlds, one step. -/
import Derived.Test.YtiaippkjgmccoaaCl2
namespace Go.Cl
open Go Go.RowKit

/-- The clean heap as a function. -/
def toF (h : List Blk) (i : Nat) : Blk := h.getD i .dead

def Stamped (arr : Array MapEntry) (clock : Nat) : Prop := (∀ e ∈ arr.toList, e.born < clock) ∧ (arr.toList.map (·.born)).Nodup

/-- What a clean block says of the world. -/
def BR (P : Program) (D : Nat → Prop) (β : Nat → Nat × Nat) (κ : Nat → Nat) (i : Nat) (b : Blk) (w : World) : Prop :=
  match b with
  | .dead => True
  | .cells _ vs => ∃ arr T fz, w.heap[(β i).1]? = some (.cells arr T fz) ∧ ∀ (k : Nat) (v : Value), vs[k]? = some v → ∃ v', arr[(β i).2 + k]? = some v' ∧ VR D β κ v v'
  | .map kt es => ∃ arr clock, w.heap[(β i).1]? = some (.map arr clock) ∧ arr.toList.map (fun e => (e.key, e.val)) = es ∧ (∀ p ∈ es, keyFits P kt p.1 = true ∧ flat1 p.2 = true) ∧ Stamped arr clock
  | .loop tmps params assign body st pend => ∃ r : Loop, w.heap[(β i).1]? = some (.loop r) ∧ r.state = st ∧ r.pending = pend ∧ r.params.toList = params ∧ r.assign = assign ∧ r.body = body ∧ LR D β κ tmps r.tmps.toList
  | .mark => w.heap[(β i).1]? = some (.deferred (some []))
  | .mapS kt arr clock => w.heap[(β i).1]? = some (.map arr clock) ∧ (∀ e ∈ arr.toList, keyFits P kt e.key = true ∧ flat1 e.val = true) ∧ Stamped arr clock
  | .iter m since seen last => D m ∧ (β i).2 = 0 ∧ w.heap[(β i).1]? = some (.mapIter (some (β m).1) since seen last)

/-- What a block of the call's own says besides: it may be written; what an append has made has room. -/
def OwnB (P : Program) (β : Nat → Nat × Nat) (κ : Nat → Nat) (i : Nat) (b : Blk) (w : World) : Prop :=
  match b with
  | .cells t _ => ∃ arr T, w.heap[(β i).1]? = some (.cells arr T (0, 0)) ∧ ∀ s, sizeT P t = some s → (β i).2 + κ i * s ≤ arr.size
  | _ => True

structure Rel (P : Program) (D : Nat → Prop) (β : Nat → Nat × Nat) (κ : Nat → Nat) (base N : Nat) (H : Nat → Blk) (w : World) : Prop where
  blk : ∀ i, BR P D β κ i (H i) w
  ro : ∀ i, H i ≠ .dead → i < base → (β i).1 < N
  own : ∀ i, H i ≠ .dead → base ≤ i → N ≤ (β i).1 ∧ OwnB P β κ i (H i) w
  inj : ∀ i j, H i ≠ .dead → H j ≠ .dead → base ≤ i → base ≤ j → (β i).1 = (β j).1 → i = j
  size : N ≤ w.heap.size

section
variable {P : Program} {D D' : Nat → Prop} {β β' : Nat → Nat × Nat} {κ κ' : Nat → Nat} {base N n : Nat} {H H' : Nat → Blk} {w w' : World}

theorem BR.move {i : Nat} {b : Blk} (h : BR P D β κ i b w) (hD : ∀ i, D i → D' i) (hE : Ext D β κ β' κ') (hi : β' i = β i)
    (hw : w'.heap[(β i).1]? = w.heap[(β i).1]?) : BR P D' β' κ' i b w' := by
  cases b with
  | dead => trivial
  | cells t vs =>
    obtain ⟨arr, T, fz, h1, h2⟩ := h
    refine ⟨arr, T, fz, by rw [hi, hw]; exact h1, fun k v hv => ?_⟩
    obtain ⟨v', h3, h4⟩ := h2 k v hv
    exact ⟨v', by rw [hi]; exact h3, h4.mono hD hE⟩
  | map kt es => obtain ⟨arr, clock, h1, h2⟩ := h; exact ⟨arr, clock, by rw [hi, hw]; exact h1, h2⟩
  | loop tmps params assign body st pend =>
    obtain ⟨r, h1, h2, h3, h4, h5, h6, h7⟩ := h
    exact ⟨r, by rw [hi, hw]; exact h1, h2, h3, h4, h5, h6, h7.mono hD hE⟩
  | mark => show _ = _; rw [hi, hw]; exact h
  | mapS kt arr clock => exact ⟨by rw [hi, hw]; exact h.1, h.2⟩
  | iter m since seen last => exact ⟨hD m h.1, by rw [hi]; exact h.2.1, by rw [hi, hw, (hE m h.1).1]; exact h.2.2⟩
theorem BR.valid {i : Nat} {b : Blk} (h : BR P D β κ i b w) (hb : b ≠ .dead) : (β i).1 < w.heap.size := by
  have : ∀ o : Obj, w.heap[(β i).1]? = some o → (β i).1 < w.heap.size := fun o ho => (Array.getElem?_eq_some_iff.1 ho).1
  cases b with
  | dead => exact absurd rfl hb
  | cells t vs => obtain ⟨arr, T, fz, h1, _⟩ := h; exact this _ h1
  | map kt es => obtain ⟨arr, clock, h1, _⟩ := h; exact this _ h1
  | loop tmps params assign body st pend => obtain ⟨r, h1, _⟩ := h; exact this _ h1
  | mark => exact this _ h
  | mapS kt arr clock => exact this _ h.1
  | iter m since seen last => exact this _ h.2.2
theorem OwnB.move {i : Nat} {b : Blk} (h : OwnB P β κ i b w) (hi : β' i = β i ∧ κ' i = κ i) (hw : w'.heap[(β i).1]? = w.heap[(β i).1]?) : OwnB P β' κ' i b w' := by
  cases b with
  | cells t vs => obtain ⟨arr, T, h1, h2⟩ := h; exact ⟨arr, T, by rw [hi.1, hw]; exact h1, by rw [hi.1, hi.2]; exact h2⟩
  | _ => trivial

theorem Rel.weaken (h : Rel P D β κ base N H w) (hH : ∀ i, H' i = H i ∨ H' i = .dead) : Rel P D β κ base N H' w := by
  have al : ∀ i, H' i ≠ .dead → H' i = H i ∧ H i ≠ .dead := fun i hi => by
    rcases hH i with e | e
    · exact ⟨e, e ▸ hi⟩
    · exact absurd e hi
  refine ⟨fun i => ?_, fun i hi => h.ro i (al i hi).2, fun i hi hb => ?_, fun i j hi hj => h.inj i j (al i hi).2 (al j hj).2, h.size⟩
  · rcases hH i with e | e
    · rw [e]; exact h.blk i
    · rw [e]; trivial
  · rw [(al i hi).1]; exact h.own i (al i hi).2 hb

/-- Is this block written by the operation? -/
def isUpd (u : Option (Nat × Blk)) (i : Nat) : Prop := ∃ b, u = some (i, b)

def InNew (n len i : Nat) : Prop := n ≤ i ∧ i < n + len

/-- What a quiet operation leaves, in the model. -/
structure QOut (P : Program) (D : Nat → Prop) (β : Nat → Nat × Nat) (κ : Nat → Nat) (base N n : Nat) (w : World) (q : QRes) (v' : Value) (w' : World) (β' : Nat → Nat × Nat) (κ' : Nat → Nat) : Prop where
  ext : ∀ i, ¬ InNew n q.new.length i → β' i = β i ∧ κ' i = κ i
  val : VR (fun i => D i ∨ InNew n q.new.length i) β' κ' q.val v'
  below : Below N w w'
  keep : ∀ B, B < w.heap.size → (∀ k b, q.upd = some (k, b) → B ≠ (β k).1) → w'.heap[B]? = w.heap[B]?
  new : ∀ j b, q.new[j]? = some b → b ≠ .dead → BR P (fun i => D i ∨ InNew n q.new.length i) β' κ' (n + j) b w' ∧ OwnB P β' κ' (n + j) b w' ∧ N ≤ (β' (n + j)).1 ∧
    (w.heap.size ≤ (β' (n + j)).1 ∨ ∃ k, q.upd = some (k, .dead) ∧ (β' (n + j)).1 = (β k).1)
  inj : ∀ i j b c, q.new[i]? = some b → q.new[j]? = some c → b ≠ .dead → c ≠ .dead → (β' (n + i)).1 = (β' (n + j)).1 → i = j
  upd : ∀ k b, q.upd = some (k, b) → base ≤ k ∧ k < n ∧ BR P (fun i => D i ∨ InNew n q.new.length i) β' κ' k b w' ∧ OwnB P β' κ' k b w'

/-- The heap behind an operation. -/
def stepF (n : Nat) (q : QRes) (H : Nat → Blk) (i : Nat) : Blk :=
  if n ≤ i ∧ i < n + q.new.length then q.new.getD (i - n) .dead else
  match q.upd with
  | some (k, b) => if i = k then b else H i
  | none => H i

theorem stepF_new {q : QRes} {i : Nat} (h : InNew n q.new.length i) : ∃ b, q.new[i - n]? = some b ∧ stepF n q H i = b ∧ i = n + (i - n) := by
  obtain ⟨h1, h2⟩ := h
  have : i - n < q.new.length := by omega
  refine ⟨q.new[i - n], List.getElem?_eq_getElem this, ?_, by omega⟩
  unfold stepF
  rw [if_pos ⟨h1, h2⟩]
  simp [this]
theorem stepF_old {q : QRes} {i : Nat} (h : ¬ InNew n q.new.length i) : (∃ b, q.upd = some (i, b) ∧ stepF n q H i = b) ∨ ((∀ b, q.upd ≠ some (i, b)) ∧ stepF n q H i = H i) := by
  unfold stepF
  rw [if_neg (show ¬ (n ≤ i ∧ i < n + q.new.length) from h)]
  cases hu : q.upd with
  | none => exact .inr ⟨fun b e => (by cases e), rfl⟩
  | some p =>
    obtain ⟨k, b⟩ := p
    by_cases hk : i = k
    · subst hk; exact .inl ⟨b, rfl, by simp⟩
    · exact .inr ⟨fun b e => by cases e; exact hk rfl, by simp [hk]⟩

/-- ONE STEP. D0, H: the state at hand; D: what the operation was told (a part of it). -/
theorem Rel.step {D0 : Nat → Prop} {q : QRes} {v' : Value} (hR : Rel P D0 β κ base N H w) (hQ : QOut P D β κ base N n w q v' w' β' κ')
    (hDD : ∀ i, D i → D0 i) (hfresh : ∀ i, D0 i → ¬ InNew n q.new.length i) (hbase : base ≤ n)
    (halive : ∀ k b, q.upd = some (k, b) → H k ≠ .dead) :
    Rel P (fun i => D0 i ∨ InNew n q.new.length i) β' κ' base N (stepF n q H) w' := by
  have hE : Ext D0 β κ β' κ' := fun i hi => hQ.ext i (hfresh i hi)
  have hvalid : ∀ i, H i ≠ .dead → (β i).1 < w.heap.size := fun i hi => (hR.blk i).valid hi
  -- an old block that is not written: its place in the world is as it was
  have hkeep : ∀ i, H i ≠ .dead → ¬ InNew n q.new.length i → (∀ b, q.upd ≠ some (i, b)) → w'.heap[(β i).1]? = w.heap[(β i).1]? := fun i hi hni hu => by
    refine hQ.keep _ (hvalid i hi) fun k b e heq => ?_
    obtain ⟨hbk, _, _, _⟩ := hQ.upd k b e
    by_cases hib : base ≤ i
    · have := hR.inj i k hi (halive k b e) hib hbk heq
      subst this
      exact hu b e
    · have h1 := hR.ro i hi (by omega)
      have h2 := (hR.own k (halive k b e) hbk).1
      omega
  have hmono : ∀ i, (D i ∨ InNew n q.new.length i) → (D0 i ∨ InNew n q.new.length i) := fun i h => h.imp (hDD i) id
  refine ⟨fun i => ?_, fun i hi hib => ?_, fun i hi hib => ?_, fun i j hi hj hib hjb he => ?_, Nat.le_trans hR.size hQ.below.size⟩
  · by_cases hn : InNew n q.new.length i
    · obtain ⟨b, hb, e, ei⟩ := stepF_new (H := H) hn
      rw [e]
      by_cases hd : b = .dead
      · subst hd; trivial
      · have := (hQ.new _ b hb hd).1
        rw [← ei] at this
        exact this.move hmono Ext.refl rfl rfl
    · rcases stepF_old (H := H) hn with ⟨b, hu, e⟩ | ⟨hu, e⟩
      · rw [e]; exact (hQ.upd i b hu).2.2.1.move hmono Ext.refl rfl rfl
      · rw [e]
        by_cases hd : H i = .dead
        · rw [hd]; trivial
        · exact (hR.blk i).move (fun _ h => .inl h) hE (hQ.ext i hn).1 (hkeep i hd hn hu)
  · have hn : ¬ InNew n q.new.length i := fun hn => by have := hn.1; omega
    rw [(hQ.ext i hn).1]
    rcases stepF_old (H := H) hn with ⟨b, hu, e⟩ | ⟨hu, e⟩
    · have := (hQ.upd i b hu).1; omega
    · rw [e] at hi; exact hR.ro i hi hib
  · by_cases hn : InNew n q.new.length i
    · obtain ⟨b, hb, e, ei⟩ := stepF_new (H := H) hn
      rw [e] at hi ⊢
      obtain ⟨_, h2, h3, _⟩ := hQ.new _ b hb hi
      rw [← ei] at h2 h3
      exact ⟨h3, h2⟩
    · rcases stepF_old (H := H) hn with ⟨b, hu, e⟩ | ⟨hu, e⟩
      · rw [e]
        refine ⟨?_, (hQ.upd i b hu).2.2.2⟩
        rw [(hQ.ext i hn).1]
        exact (hR.own i (halive i b hu) hib).1
      · rw [e] at hi ⊢
        obtain ⟨h1, h2⟩ := hR.own i hi hib
        exact ⟨by rw [(hQ.ext i hn).1]; exact h1, h2.move (hQ.ext i hn) (hkeep i hi hn hu)⟩
  · -- no two of the call's own blocks lie in one
    have old : ∀ i, ¬ InNew n q.new.length i → stepF n q H i ≠ .dead → H i ≠ .dead ∧ (β' i).1 = (β i).1 := fun i hn hi => by
      refine ⟨?_, by rw [(hQ.ext i hn).1]⟩
      rcases stepF_old (H := H) hn with ⟨b, hu, e⟩ | ⟨hu, e⟩
      · exact halive i b hu
      · rw [e] at hi; exact hi
    have mixed : ∀ i j, InNew n q.new.length i → ¬ InNew n q.new.length j → stepF n q H i ≠ .dead → stepF n q H j ≠ .dead → base ≤ j → (β' i).1 ≠ (β' j).1 := fun i j hi hj ai aj hjb he => by
      obtain ⟨b, hb, e, ei⟩ := stepF_new (H := H) hi
      rw [e] at ai
      obtain ⟨_, _, _, h4⟩ := hQ.new _ b hb ai
      rw [← ei] at h4
      obtain ⟨a1, a2⟩ := old j hj aj
      rw [a2] at he
      rcases h4 with h4 | ⟨k, hk, h4⟩
      · have := hvalid j a1; omega
      · have hkj := hR.inj k j (halive k _ hk) a1 (hQ.upd k _ hk).1 hjb (h4 ▸ he)
        subst hkj
        rcases stepF_old (H := H) hj with ⟨b', hu, e'⟩ | ⟨hu, _⟩
        · rw [hk] at hu; cases hu; exact aj e'
        · exact hu _ hk
    by_cases hni : InNew n q.new.length i <;> by_cases hnj : InNew n q.new.length j
    · obtain ⟨b, hb, e, ei⟩ := stepF_new (H := H) hni
      obtain ⟨c, hc, e', ej⟩ := stepF_new (H := H) hnj
      rw [e] at hi
      rw [e'] at hj
      rw [ei, ej] at he
      have := hQ.inj _ _ b c hb hc hi hj he
      omega
    · exact absurd he (mixed i j hni hnj hi hj hjb)
    · exact absurd he.symm (mixed j i hnj hni hj hi hib)
    · obtain ⟨a1, a2⟩ := old i hni hi
      obtain ⟨b1, b2⟩ := old j hnj hj
      rw [a2, b2] at he
      exact hR.inj i j a1 b1 hib hjb he
end
end Go.Cl
