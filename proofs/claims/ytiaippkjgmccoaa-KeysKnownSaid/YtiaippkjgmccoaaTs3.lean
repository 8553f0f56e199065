/- Blocks are called anew, and what is no longer wanted is forgotten. -/
import Derived.Test.YtiaippkjgmccoaaTs2
set_option linter.unusedVariables false
namespace Go.Cl
open Go Go.RowKit

/-- The first value is the second one, its blocks called by other numbers: block i is block (f i).1 from cell (f i).2 on. p: something may be forgotten. -/
inductive Rn (p : Bool) (f : Nat → Nat × Nat) (n : Nat) : Value → Value → Prop where
  | flat {v} (h : isFlat v = true) : Rn p f n v v
  | poison (v) (h : p = true) : Rn p f n poison v
  | ptr (i o o') (hi : i < n) (ho : o' = (f i).2 + o) : Rn p f n (.pointer (some ⟨i, o, none⟩)) (.pointer (some ⟨(f i).1, o', none⟩))
  | slice (i o o' l c) (hi : i < n) (ho : o' = (f i).2 + o) (hc : c ≤ INF) : Rn p f n (.slice (some ⟨i, o, none⟩) l c) (.slice (some ⟨(f i).1, o', none⟩) l c)
  | slice0 (i o l c) (hi : i < n) (h0 : (f i).2 = 0) : Rn p f n (.slice (some ⟨i, o, none⟩) l c) (.slice (some ⟨(f i).1, o, none⟩) l c)
  | any (i o o' l c C) (hi : i < n) (ho : o' = (f i).2 + o) (hp : p = true) (hC : UNK < C) : Rn p f n (.slice (some ⟨i, o, none⟩) l C) (.slice (some ⟨(f i).1, o', none⟩) l c)
  | anyN (i o C) (hp : p = true) (hC : UNK < C) : Rn p f n (.slice (some ⟨i, o, none⟩) 0 C) (.slice none 0 0)
  | map (i) (hi : i < n) : Rn p f n (.map (some i)) (.map (some (f i).1))
  | yield (i) (hi : i < n) : Rn p f n (.func (.yield i) #[] #[]) (.func (.yield (f i).1) #[] #[])
  | func (g) (a a' c c' : List Value) (ha : a.length = a'.length) (ha' : ∀ (j : Nat) (v v' : Value), a[j]? = some v → a'[j]? = some v' → Rn p f n v v')
      (hc : c.length = c'.length) (hc' : ∀ (j : Nat) (v v' : Value), c[j]? = some v → c'[j]? = some v' → Rn p f n v v') : Rn p f n (.func (.func g) ⟨a⟩ ⟨c⟩) (.func (.func g) ⟨a'⟩ ⟨c'⟩)
  | agg (l l' : List Value) (hl : l.length = l'.length) (hl' : ∀ (j : Nat) (v v' : Value), l[j]? = some v → l'[j]? = some v' → Rn p f n v v') : Rn p f n (.agg ⟨l⟩) (.agg ⟨l'⟩)
  | tuple (l l' : List Value) (hl : l.length = l'.length) (hl' : ∀ (j : Nat) (v v' : Value), l[j]? = some v → l'[j]? = some v' → Rn p f n v v') : Rn p f n (.tuple ⟨l⟩) (.tuple ⟨l'⟩)

structure LRn (p : Bool) (f : Nat → Nat × Nat) (n : Nat) (l l' : List Value) : Prop where
  len : l.length = l'.length
  at_ : ∀ (j : Nat) (v v' : Value), l[j]? = some v → l'[j]? = some v' → Rn p f n v v'

theorem LRn.nil {p : Bool} {f : Nat → Nat × Nat} {n : Nat} : LRn p f n [] [] := ⟨rfl, fun j v v' h => by simp at h⟩
theorem LRn.cons {p : Bool} {f : Nat → Nat × Nat} {n : Nat} {v v' : Value} {l l' : List Value} (h : Rn p f n v v') (hl : LRn p f n l l') : LRn p f n (v :: l) (v' :: l') :=
  ⟨by simp [hl.len], fun j x x' hx hx' => by
    cases j with
    | zero => simp at hx hx'; subst hx hx'; exact h
    | succ j => exact hl.at_ j _ _ (by simpa using hx) (by simpa using hx')⟩
theorem LRn.flat {p : Bool} {f : Nat → Nat × Nat} {n : Nat} {l : List Value} (h : ∀ v ∈ l, isFlat v = true) : LRn p f n l l :=
  ⟨rfl, fun j v v' hv hv' => by rw [hv] at hv'; cases hv'; exact .flat (h v (List.mem_of_getElem? hv))⟩
theorem LRn.app {p : Bool} {f : Nat → Nat × Nat} {n : Nat} {l l' m m' : List Value} (h : LRn p f n l l') (k : LRn p f n m m') : LRn p f n (l ++ m) (l' ++ m') :=
  ⟨by simp [h.len, k.len], fun j v v' hv hv' => by
    rw [List.getElem?_append] at hv hv'
    rw [← h.len] at hv'
    split at hv <;> rename_i hj
    · rw [if_pos hj] at hv'; exact h.at_ _ _ _ hv hv'
    · rw [if_neg hj] at hv'; exact k.at_ _ _ _ hv hv'⟩
theorem Rn.agg' {p : Bool} {f : Nat → Nat × Nat} {n : Nat} {l l' : List Value} (h : LRn p f n l l') : Rn p f n (.agg ⟨l⟩) (.agg ⟨l'⟩) := .agg _ _ h.len h.at_
theorem Rn.tuple' {p : Bool} {f : Nat → Nat × Nat} {n : Nat} {l l' : List Value} (h : LRn p f n l l') : Rn p f n (.tuple ⟨l⟩) (.tuple ⟨l'⟩) := .tuple _ _ h.len h.at_
theorem Rn.func' {p : Bool} {f : Nat → Nat × Nat} {n : Nat} {g : FuncId} {a a' c c' : List Value} (h : LRn p f n a a') (k : LRn p f n c c') : Rn p f n (.func (.func g) ⟨a⟩ ⟨c⟩) (.func (.func g) ⟨a'⟩ ⟨c'⟩) :=
  .func _ _ _ _ _ h.len h.at_ k.len k.at_

/-- D2, β2, κ2 are D, β, κ by the new numbers. -/
structure Num (f : Nat → Nat × Nat) (n : Nat) (D : Nat → Prop) (β : Nat → Nat × Nat) (κ : Nat → Nat) (D2 : Nat → Prop) (β2 : Nat → Nat × Nat) (κ2 : Nat → Nat) : Prop where
  dom : ∀ i, i < n → (D2 i ↔ D (f i).1)
  β : ∀ i, i < n → β2 i = ((β (f i).1).1, (β (f i).1).2 + (f i).2)
  κ : ∀ i, i < n → (f i).2 = 0 → κ2 i = κ (f i).1

section
variable {p : Bool} {f : Nat → Nat × Nat} {n : Nat} {D D2 : Nat → Prop} {β β2 : Nat → Nat × Nat} {κ κ2 : Nat → Nat}

theorem Rn.vr (hn : Num f n D β κ D2 β2 κ2) {v2 v v' : Value} (hr : Rn p f n v2 v) : VR D β κ v v' → VR D2 β2 κ2 v2 v' := by
  intro h
  induction hr generalizing v' with
  | flat hf => rw [h.flat hf]; exact .of_flat hf
  | poison v _ => exact .poison _
  | ptr i o o' hi ho =>
    subst ho
    cases h with
    | ptr _ _ hd =>
      have := VR.ptr (D := D2) (β := β2) (κ := κ2) i o ((hn.dom i hi).2 hd)
      rw [hn.β i hi] at this
      simpa [Nat.add_assoc] using this
  | slice i o o' l c hi ho hc =>
    subst ho
    cases h with
    | slice _ _ _ _ hd hlc _ =>
      have := VR.slice (D := D2) (β := β2) (κ := κ2) i o l c ((hn.dom i hi).2 hd) hlc hc
      rw [hn.β i hi] at this
      simpa [Nat.add_assoc] using this
    | sliceU _ _ _ q hd hq hk => exfalso; simp only [UNK, INF] at hc hk; omega
    | sliceE _ _ q a hq => exfalso; simp only [UNK, INF] at hc hq; omega
    | sliceZ _ _ a => exact .sliceZ i o a
    | sliceA _ _ _ _ c hd hC => exfalso; simp only [UNK, INF] at hc hC; omega
    | sliceAN _ _ _ a hC => exfalso; simp only [UNK, INF] at hc hC; omega
  | any i o o' l c C hi ho hp hC =>
    subst ho
    have go : ∀ c', l ≤ c' → c' ≤ INF → D (f i).1 → VR D2 β2 κ2 (.slice (some ⟨i, o, none⟩) l C) (.slice (some ⟨(β (f i).1).1, (β (f i).1).2 + ((f i).2 + o), none⟩) l c') := fun c' h1 h2 hd => by
      have := VR.sliceA (D := D2) (β := β2) (κ := κ2) i o l C c' ((hn.dom i hi).2 hd) hC h1 h2
      rw [hn.β i hi] at this
      simpa [Nat.add_assoc] using this
    cases h with
    | slice _ _ _ _ hd hlc hc => exact go _ hlc hc hd
    | sliceU _ _ _ q hd hq hk => exact go _ (by omega) (by omega) hd
    | sliceE _ _ q a hq => exact .sliceAN i o C _ hC
    | sliceZ _ _ a => exact .sliceAN i o C a hC
    | sliceA _ _ _ _ c hd _ hlc hc => exact go _ hlc hc hd
    | sliceAN _ _ _ a _ => exact .sliceAN i o C a hC
  | anyN i o C hp hC =>
    cases h with
    | snil => exact .sliceAN i o C none hC
  | slice0 i o l c hi h0 =>
    cases h with
    | slice _ _ _ _ hd hlc hc =>
      have := VR.slice (D := D2) (β := β2) (κ := κ2) i o l c ((hn.dom i hi).2 hd) hlc hc
      rw [hn.β i hi, h0] at this
      simpa using this
    | sliceU _ _ _ q hd hq hk =>
      have := VR.sliceU (D := D2) (β := β2) (κ := κ2) i o l q ((hn.dom i hi).2 hd) (by rw [hn.κ i hi h0]; exact hq) (by rw [hn.κ i hi h0]; exact hk)
      rw [hn.β i hi, hn.κ i hi h0, h0] at this
      simpa using this
    | sliceE _ _ q a hq => exact .sliceE i o q a hq
    | sliceZ _ _ a => exact .sliceZ i o a
    | sliceA _ _ _ _ c hd hC hlc hc =>
      have := VR.sliceA (D := D2) (β := β2) (κ := κ2) i o l _ c ((hn.dom i hi).2 hd) hC hlc hc
      rw [hn.β i hi, h0] at this
      simpa using this
    | sliceAN _ _ _ a hC => exact .sliceAN i o _ a hC
  | map i hi =>
    cases h with
    | map _ hd =>
      have := VR.map (D := D2) (β := β2) (κ := κ2) i ((hn.dom i hi).2 hd)
      rw [hn.β i hi] at this
      exact this
  | yield i hi =>
    generalize hz : (#[] : Array Value) = z at h
    cases h with
    | yield _ hd =>
      have := VR.yield (D := D2) (β := β2) (κ := κ2) i ((hn.dom i hi).2 hd)
      rw [hn.β i hi] at this
      exact this
  | func g a a' c c' ha _ hc _ iha ihc =>
    cases h with
    | func _ _ b _ d hb hb' hd hd' =>
      refine .func g a b c d (ha.trans hb) (fun j v v' hv hv' => ?_) (hc.trans hd) (fun j v v' hv hv' => ?_)
      · have hj : j < a'.length := ha ▸ (List.getElem?_eq_some_iff.1 hv).1
        exact iha j v _ hv (List.getElem?_eq_getElem hj) (hb' j _ _ (List.getElem?_eq_getElem hj) hv')
      · have hj : j < c'.length := hc ▸ (List.getElem?_eq_some_iff.1 hv).1
        exact ihc j v _ hv (List.getElem?_eq_getElem hj) (hd' j _ _ (List.getElem?_eq_getElem hj) hv')
  | agg l l' hl _ ih =>
    cases h with
    | agg _ m hm hm' =>
      refine .agg l m (hl.trans hm) fun j v v' hv hv' => ?_
      have hj : j < l'.length := hl ▸ (List.getElem?_eq_some_iff.1 hv).1
      exact ih j v _ hv (List.getElem?_eq_getElem hj) (hm' j _ _ (List.getElem?_eq_getElem hj) hv')
  | tuple l l' hl _ ih =>
    cases h with
    | tuple _ m hm hm' =>
      refine .tuple l m (hl.trans hm) fun j v v' hv hv' => ?_
      have hj : j < l'.length := hl ▸ (List.getElem?_eq_some_iff.1 hv).1
      exact ih j v _ hv (List.getElem?_eq_getElem hj) (hm' j _ _ (List.getElem?_eq_getElem hj) hv')

/-- And back, where nothing is forgotten. -/
theorem Rn.vr' (hn : Num f n D β κ D2 β2 κ2) {v2 v v' : Value} (hr : Rn false f n v2 v) : VR D2 β2 κ2 v2 v' → VR D β κ v v' := by
  intro h
  induction hr generalizing v' with
  | flat hf => rw [h.flat hf]; exact .of_flat hf
  | poison v hp => cases hp
  | ptr i o o' hi ho =>
    subst ho
    cases h with
    | ptr _ _ hd =>
      have := VR.ptr (D := D) (β := β) (κ := κ) (f i).1 ((f i).2 + o) ((hn.dom i hi).1 hd)
      rw [hn.β i hi]
      simpa [Nat.add_assoc] using this
  | slice i o o' l c hi ho hc =>
    subst ho
    cases h with
    | slice _ _ _ _ hd hlc _ =>
      have := VR.slice (D := D) (β := β) (κ := κ) (f i).1 ((f i).2 + o) l c ((hn.dom i hi).1 hd) hlc hc
      rw [hn.β i hi]
      simpa [Nat.add_assoc] using this
    | sliceU _ _ _ q hd hq hk => exfalso; simp only [UNK, INF] at hc hk; omega
    | sliceE _ _ q a hq => exfalso; simp only [UNK, INF] at hc hq; omega
    | sliceZ _ _ a => exact .sliceZ _ _ a
    | sliceA _ _ _ _ c hd hC => exfalso; simp only [UNK, INF] at hc hC; omega
    | sliceAN _ _ _ a hC => exfalso; simp only [UNK, INF] at hc hC; omega
  | any i o o' l c C hi ho hp hC => cases hp
  | anyN i o C hp hC => cases hp
  | slice0 i o l c hi h0 =>
    cases h with
    | slice _ _ _ _ hd hlc hc =>
      have := VR.slice (D := D) (β := β) (κ := κ) (f i).1 o l c ((hn.dom i hi).1 hd) hlc hc
      rw [hn.β i hi, h0]
      simpa using this
    | sliceU _ _ _ q hd hq hk =>
      have := VR.sliceU (D := D) (β := β) (κ := κ) (f i).1 o l q ((hn.dom i hi).1 hd) (by rw [← hn.κ i hi h0]; exact hq) (by rw [← hn.κ i hi h0]; exact hk)
      rw [hn.β i hi, hn.κ i hi h0, h0]
      simpa using this
    | sliceE _ _ q a hq => exact .sliceE _ _ q a hq
    | sliceZ _ _ a => exact .sliceZ _ _ a
    | sliceA _ _ _ _ c hd hC hlc hc =>
      have := VR.sliceA (D := D) (β := β) (κ := κ) (f i).1 o l _ c ((hn.dom i hi).1 hd) hC hlc hc
      rw [hn.β i hi, h0]
      simpa using this
    | sliceAN _ _ _ a hC => exact .sliceAN _ _ _ a hC
  | map i hi =>
    cases h with
    | map _ hd =>
      have := VR.map (D := D) (β := β) (κ := κ) (f i).1 ((hn.dom i hi).1 hd)
      rw [hn.β i hi]
      exact this
  | yield i hi =>
    generalize hz : (#[] : Array Value) = z at h
    cases h with
    | yield _ hd =>
      have := VR.yield (D := D) (β := β) (κ := κ) (f i).1 ((hn.dom i hi).1 hd)
      rw [hn.β i hi]
      exact this
  | func g a a' c c' ha _ hc _ iha ihc =>
    cases h with
    | func _ _ b _ d hb hb' hd hd' =>
      refine .func g a' b c' d (ha.symm.trans hb) (fun j v v' hv hv' => ?_) (hc.symm.trans hd) (fun j v v' hv hv' => ?_)
      · have hj : j < a.length := ha ▸ (List.getElem?_eq_some_iff.1 hv).1
        exact iha j _ v (List.getElem?_eq_getElem hj) hv (hb' j _ _ (List.getElem?_eq_getElem hj) hv')
      · have hj : j < c.length := hc ▸ (List.getElem?_eq_some_iff.1 hv).1
        exact ihc j _ v (List.getElem?_eq_getElem hj) hv (hd' j _ _ (List.getElem?_eq_getElem hj) hv')
  | agg l l' hl _ ih =>
    cases h with
    | agg _ m hm hm' =>
      refine .agg l' m (hl.symm.trans hm) fun j v v' hv hv' => ?_
      have hj : j < l.length := hl ▸ (List.getElem?_eq_some_iff.1 hv).1
      exact ih j _ v (List.getElem?_eq_getElem hj) hv (hm' j _ _ (List.getElem?_eq_getElem hj) hv')
  | tuple l l' hl _ ih =>
    cases h with
    | tuple _ m hm hm' =>
      refine .tuple l' m (hl.symm.trans hm) fun j v v' hv hv' => ?_
      have hj : j < l.length := hl ▸ (List.getElem?_eq_some_iff.1 hv).1
      exact ih j _ v (List.getElem?_eq_getElem hj) hv (hm' j _ _ (List.getElem?_eq_getElem hj) hv')

theorem LRn.lr (hn : Num f n D β κ D2 β2 κ2) {l2 l l' : List Value} (hr : LRn p f n l2 l) (h : LR D β κ l l') : LR D2 β2 κ2 l2 l' :=
  ⟨hr.len.trans h.len, fun j v v' hv hv' => by
    have hj : j < l.length := hr.len ▸ (List.getElem?_eq_some_iff.1 hv).1
    exact (hr.at_ j v _ hv (List.getElem?_eq_getElem hj)).vr hn (h.at_ j _ _ (List.getElem?_eq_getElem hj) hv')⟩
end

/-- The first block is the second one from cell o on, or a part of that. -/
inductive RnB (p : Bool) (f : Nat → Nat × Nat) (n : Nat) : Blk → Blk → Nat → Prop where
  | cells (t vs2 vs o) (h : LRn p f n vs2 ((vs.drop o).take vs2.length)) : RnB p f n (.cells t vs2) (.cells t vs) o
  | map (kt es) : RnB p f n (.map kt es) (.map kt es) 0
  | mark : RnB p f n .mark .mark 0
  | mapS (kt arr clock) : RnB p f n (.mapS kt arr clock) (.mapS kt arr clock) 0
  | mapW (kt arr clock es) (h : arr.toList.map (fun e => (e.key, e.val)) = es) : RnB p f n (.map kt es) (.mapS kt arr clock) 0
  | iter (m since seen last) (hm : m < n) : RnB p f n (.iter m since seen last) (.iter (f m).1 since seen last) 0

theorem RnB.nd {p : Bool} {f : Nat → Nat × Nat} {n o : Nat} {b2 : Blk} (h : RnB p f n b2 .dead o) : False := by
  generalize hx : Blk.dead = x at h
  cases h <;> cases hx

/-- Block i by the new numbers. -/
def At (p : Bool) (f : Nat → Nat × Nat) (n : Nat) (h : List Blk) (i : Nat) (b2 : Blk) : Prop := b2 = .dead ∨ ∃ b, h[(f i).1]? = some b ∧ RnB p f n b2 b (f i).2

/-- All blocks from i on. -/
inductive Ats (p : Bool) (f : Nat → Nat × Nat) (n : Nat) (h : List Blk) : Nat → List Blk → Prop where
  | nil (i) : Ats p f n h i []
  | cons {i b2 l} (hb : At p f n h i b2) (hl : Ats p f n h (i + 1) l) : Ats p f n h i (b2 :: l)

theorem Ats.get {p : Bool} {f : Nat → Nat × Nat} {n : Nat} {h : List Blk} {i : Nat} {l : List Blk} (ha : Ats p f n h i l) : ∀ {j : Nat} {b2 : Blk}, l[j]? = some b2 → At p f n h (i + j) b2 := by
  induction ha with
  | nil i => intro j b2 hj; simp at hj
  | cons hb hl ih =>
    intro j b2 hj
    cases j with
    | zero => simp at hj; subst hj; exact hb
    | succ j => have := ih (j := j) (b2 := b2) (by simpa using hj); rw [Nat.add_assoc, Nat.add_comm 1 j] at this; exact this

section
variable {P : Program} {p : Bool} {f : Nat → Nat × Nat} {n : Nat} {D D2 : Nat → Prop} {β β2 : Nat → Nat × Nat} {κ κ2 : Nat → Nat} {w : World}

theorem RnB.br (hn : Num f n D β κ D2 β2 κ2) {i : Nat} (hi : i < n) {b2 b : Blk} (hr : RnB p f n b2 b (f i).2) (h : BR P D β κ (f i).1 b w) : BR P D2 β2 κ2 i b2 w := by
  generalize ho : (f i).2 = o at hr
  cases hr with
  | cells t vs2 vs _ hl =>
    obtain ⟨arr, T, fz, h1, h2⟩ := h
    refine ⟨arr, T, fz, by rw [hn.β i hi]; exact h1, fun k v hv => ?_⟩
    have hk : k < ((vs.drop o).take vs2.length).length := hl.len ▸ (List.getElem?_eq_some_iff.1 hv).1
    have hx := List.getElem?_eq_getElem hk
    have hr := hl.at_ k v _ hv hx
    have hx' : vs[o + k]? = some ((vs.drop o).take vs2.length)[k] := by
      rw [← hx, List.getElem?_take, List.getElem?_drop, if_pos (List.getElem?_eq_some_iff.1 hv).1]
    obtain ⟨v', h3, h4⟩ := h2 (o + k) _ hx'
    refine ⟨v', ?_, hr.vr hn h4⟩
    rw [hn.β i hi, ho]
    simpa [Nat.add_assoc] using h3
  | map kt es =>
    obtain ⟨arr, clock, h1, h2⟩ := h
    exact ⟨arr, clock, by rw [hn.β i hi]; exact h1, h2⟩
  | mark =>
    show w.heap[(β2 i).1]? = _
    rw [hn.β i hi]; exact h
  | mapS kt arr clock => exact ⟨by rw [hn.β i hi]; exact h.1, h.2⟩
  | mapW kt arr clock es he =>
    refine ⟨arr, clock, by rw [hn.β i hi]; exact h.1, he, fun q hq => ?_, h.2.2⟩
    rw [← he] at hq
    obtain ⟨e, h1, rfl⟩ := List.mem_map.1 hq
    exact h.2.1 e h1
  | iter m since seen last hm => exact ⟨(hn.dom m hm).2 h.1, by rw [hn.β i hi, ho]; exact h.2.1, by rw [hn.β i hi, hn.β m hm]; exact h.2.2⟩

theorem RnB.own (hn : Num f n D β κ D2 β2 κ2) {i : Nat} (hi : i < n) (h0 : (f i).2 = 0) {b2 b : Blk} (hr : RnB p f n b2 b (f i).2) (h : OwnB P β κ (f i).1 b w) : OwnB P β2 κ2 i b2 w := by
  rw [h0] at hr
  cases hr with
  | cells t vs2 vs _ hl =>
    obtain ⟨arr, T, h1, h2⟩ := h
    refine ⟨arr, T, by rw [hn.β i hi]; exact h1, fun s hs => ?_⟩
    rw [hn.β i hi, hn.κ i hi h0, h0]
    exact h2 s hs
  | map kt es => trivial
  | mark => trivial
  | mapS => trivial
  | mapW => trivial
  | iter => trivial
end

/-- The state by the new numbers; below L nothing is called anew. -/
theorem Wk.ren {P : Program} {base L : Nat} {a a2 : CAct} {h h2 : List Blk} (f : Nat → Nat) (hL : ∀ i, i < L → f i = i) (hl : L ≤ h2.length) (hbl : base ≤ h2.length)
    (hinj : ∀ i j, i < h2.length → j < h2.length → f i = f j → i = j) (hbase : ∀ i, i < h2.length → (base ≤ i ↔ base ≤ f i))
    (hb : Ats true (fun i => (f i, 0)) h2.length h 0 h2) (ht : LRn true (fun i => (f i, 0)) h2.length a2.tmps a.tmps) (hm : a.marks = a2.marks.map f) (hm2 : ∀ m ∈ a2.marks, m < h2.length) : Wk P base L a h a2 h2 := by
  rintro N D0 β0 κ0 a' w ⟨D, β, κ, hf⟩
  have hn : Num (fun i => (f i, 0)) h2.length D β κ (fun i => i < h2.length ∧ D (f i)) (fun i => β (f i)) (fun i => κ (f i)) :=
    ⟨fun i hi => ⟨fun x => x.2, fun x => ⟨hi, x⟩⟩, fun i hi => rfl, fun i hi _ => rfl⟩
  have at_ : ∀ i, toF h2 i ≠ .dead → i < h2.length ∧ ∃ b, h[f i]? = some b ∧ b ≠ .dead ∧ RnB true (fun i => (f i, 0)) h2.length (toF h2 i) b 0 := by
    intro i hi
    by_cases hil : i < h2.length
    · have hx := List.getElem?_eq_getElem hil
      have hA := hb.get hx
      rw [Nat.zero_add] at hA
      rw [toF_some hx] at hi ⊢
      rcases hA with e | ⟨b, h1, h3⟩
      · exact absurd e hi
      · refine ⟨hil, b, h1, ?_, h3⟩
        intro e
        subst e
        exact RnB.nd h3
    · exact absurd (by simp [toF, List.getD, List.getElem?_eq_none (Nat.le_of_not_lt hil)]) hi
  refine ⟨fun i => i < h2.length ∧ D (f i), fun i => β (f i), fun i => κ (f i), fun i hi => hi.1, hbl, hl, ⟨fun i => ?_, fun i hi hib => ?_, fun i hi hib => ?_, fun i j hi hj hib hjb he => ?_, hf.rel.size⟩, ⟨ht.lr hn hf.act.tmps, ?_, fun m hmm => ⟨hm2 m hmm, hf.act.known _ (by rw [hm]; exact List.mem_map_of_mem hmm)⟩⟩, fun i hi => ?_⟩
  · by_cases hd : toF h2 i = .dead
    · rw [hd]; trivial
    · obtain ⟨hil, b, h1, h2', h3⟩ := at_ i hd
      have hB := hf.rel.blk (f i)
      rw [toF_some h1] at hB
      exact h3.br hn hil hB
  · obtain ⟨hil, b, h1, h2', h3⟩ := at_ i hi
    refine hf.rel.ro (f i) (by rw [toF_some h1]; exact h2') ?_
    have := hbase i hil
    omega
  · obtain ⟨hil, b, h1, h2', h3⟩ := at_ i hi
    have hO := hf.rel.own (f i) (by rw [toF_some h1]; exact h2') ((hbase i hil).1 hib)
    rw [toF_some h1] at hO
    exact ⟨hO.1, h3.own hn hil rfl hO.2⟩
  · obtain ⟨hil, b, h1, h2', h3⟩ := at_ i hi
    obtain ⟨hjl, c, k1, k2', k3⟩ := at_ j hj
    exact hinj i j hil hjl (hf.rel.inj (f i) (f j) (by rw [toF_some h1]; exact h2') (by rw [toF_some k1]; exact k2') ((hbase i hil).1 hib) ((hbase j hjl).1 hjb) he)
  · rw [hf.act.marks, hm]
    simp
  · have e := hf.ext i hi
    rw [hL i hi]
    exact ⟨⟨fun x => e.1.1 x.2, fun x => ⟨by omega, e.1.2 x⟩⟩, e.2⟩

theorem WkV.ren {P : Program} {base L : Nat} {v v2 : Value} {h h2 : List Blk} (f : Nat → Nat) (hL : ∀ i, i < L → f i = i) (hl : L ≤ h2.length) (hbl : base ≤ h2.length)
    (hinj : ∀ i j, i < h2.length → j < h2.length → f i = f j → i = j) (hbase : ∀ i, i < h2.length → (base ≤ i ↔ base ≤ f i))
    (hb : Ats true (fun i => (f i, 0)) h2.length h 0 h2) (ht : Rn true (fun i => (f i, 0)) h2.length v2 v) : WkV P base L v h v2 h2 := by
  rintro N D0 β0 κ0 v' w ⟨D, β, κ, hf⟩
  obtain ⟨D2, β2, κ2, g⟩ := Wk.ren (P := P) (base := base) (L := L) (a := { tmps := [v] }) (a2 := { tmps := [v2] }) f hL hl hbl hinj hbase hb (.cons ht .nil) rfl (fun m hm => by cases hm) N D0 β0 κ0 { tmps := #[v'], defers := [] } w
    ⟨D, β, κ, hf.dom, hf.bl, hf.ll, hf.rel, ⟨LR.cons hf.val .nil, rfl, fun m hm => by cases hm⟩, hf.ext⟩
  exact ⟨D2, β2, κ2, g.dom, g.bl, g.ll, g.rel, g.act.tmps.at_ 0 _ _ rfl rfl, g.ext⟩

/-- A pure function's answer where the blocks that it is given have other numbers. -/
theorem PureSim.ren {P : Program} {g : FuncId} {argsc args : List Value} {hc h : List Blk} {vc v : Value} {new : List Blk} (f : Nat → Nat × Nat) (hP : PureSim P g argsc hc vc new)
    (hb : Ats true f hc.length h 0 hc) (ha : LRn true f hc.length argsc args)
    (hv : Rn false (fun i => if i < hc.length then f i else (h.length + (i - hc.length), 0)) (hc.length + new.length) vc v)
    (hnew : ∀ b ∈ new, b = .dead ∨ blkFlat b = true) : PureSim P g args h v new := by
  refine ⟨hP.1, fun D β κ w args' hD hR hargs => ?_⟩
  have hn : Num f hc.length D β κ (fun i => i < hc.length ∧ D (f i).1) (fun i => ((β (f i).1).1, (β (f i).1).2 + (f i).2)) (fun i => κ (f i).1) :=
    ⟨fun i hi => ⟨fun x => x.2, fun x => ⟨hi, x⟩⟩, fun i hi => rfl, fun i hi _ => rfl⟩
  have at_ : ∀ i, toF hc i ≠ .dead → i < hc.length ∧ ∃ b, h[(f i).1]? = some b ∧ b ≠ .dead ∧ RnB true f hc.length (toF hc i) b (f i).2 := by
    intro i hi
    by_cases hil : i < hc.length
    · have hx := List.getElem?_eq_getElem hil
      have hA := hb.get hx
      rw [Nat.zero_add] at hA
      rw [toF_some hx] at hi ⊢
      rcases hA with e | ⟨b, h1, h3⟩
      · exact absurd e hi
      · refine ⟨hil, b, h1, ?_, h3⟩
        intro e
        subst e
        exact RnB.nd h3
    · exact absurd (by simp [toF, List.getD, List.getElem?_eq_none (Nat.le_of_not_lt hil)]) hi
  have hRc : Rel P (fun i => i < hc.length ∧ D (f i).1) (fun i => ((β (f i).1).1, (β (f i).1).2 + (f i).2)) (fun i => κ (f i).1) hc.length w.heap.size (toF hc) w := by
    refine ⟨fun i => ?_, fun i hi hib => ?_, fun i hi hib => ?_, fun i j hi hj hib => ?_, Nat.le_refl _⟩
    · by_cases hd : toF hc i = .dead
      · rw [hd]; trivial
      · obtain ⟨hil, b, h1, h2', h3⟩ := at_ i hd
        have hB := hR.blk (f i).1
        rw [toF_some h1] at hB
        exact h3.br hn hil hB
    · obtain ⟨hil, b, h1, h2', h3⟩ := at_ i hi
      have hB := hR.blk (f i).1
      rw [toF_some h1] at hB
      exact hB.valid h2'
    · have := (at_ i hi).1; omega
    · have := (at_ i hi).1; omega
  refine Calls.mono (hP.2 _ _ _ w args' (fun i hi => hi.1) hRc (ha.lr hn hargs)) ?_
  rintro e w' ⟨v', β', κ', rfl, hQ⟩
  refine ⟨v', fun i => if h.length ≤ i ∧ i < h.length + new.length then β' (hc.length + (i - h.length)) else β i, fun i => if h.length ≤ i ∧ i < h.length + new.length then κ' (hc.length + (i - h.length)) else κ i, rfl, ?_⟩
  have e1 : ∀ j, j < new.length → (if h.length ≤ h.length + j ∧ h.length + j < h.length + new.length then β' (hc.length + (h.length + j - h.length)) else β (h.length + j)) = β' (hc.length + j) := fun j hj => by
    rw [if_pos ⟨by omega, by omega⟩]; congr 2; omega
  have e2 : ∀ j, j < new.length → (if h.length ≤ h.length + j ∧ h.length + j < h.length + new.length then κ' (hc.length + (h.length + j - h.length)) else κ (h.length + j)) = κ' (hc.length + j) := fun j hj => by
    rw [if_pos ⟨by omega, by omega⟩]; congr 2; omega
  have hn2 : Num (fun i => if i < hc.length then f i else (h.length + (i - hc.length), 0)) (hc.length + new.length) (fun i => D i ∨ InNew h.length new.length i)
      (fun i => if h.length ≤ i ∧ i < h.length + new.length then β' (hc.length + (i - h.length)) else β i) (fun i => if h.length ≤ i ∧ i < h.length + new.length then κ' (hc.length + (i - h.length)) else κ i)
      (fun i => (i < hc.length ∧ (D (f i).1 ∨ InNew h.length new.length (f i).1)) ∨ InNew hc.length new.length i)
      (fun i => if i < hc.length then ((if h.length ≤ (f i).1 ∧ (f i).1 < h.length + new.length then β' (hc.length + ((f i).1 - h.length)) else β (f i).1).1, (if h.length ≤ (f i).1 ∧ (f i).1 < h.length + new.length then β' (hc.length + ((f i).1 - h.length)) else β (f i).1).2 + (f i).2) else β' i)
      (fun i => if i < hc.length then (if h.length ≤ (f i).1 ∧ (f i).1 < h.length + new.length then κ' (hc.length + ((f i).1 - h.length)) else κ (f i).1) else κ' i) := by
    refine ⟨fun i hi => ?_, fun i hi => ?_, fun i hi h0 => ?_⟩
    · by_cases hl : i < hc.length
      · simp only [if_pos hl]
        exact ⟨fun x => x.elim (·.2) (fun y => by have := y.1; omega), fun x => .inl ⟨hl, x⟩⟩
      · simp only [if_neg hl]
        exact ⟨fun x => .inr ⟨by omega, by omega⟩, fun x => .inr ⟨by omega, hi⟩⟩
    · by_cases hl : i < hc.length
      · simp only [if_pos hl]
      · simp only [if_neg hl]
        have : i - hc.length < new.length := by omega
        rw [e1 _ this]
        rw [show hc.length + (i - hc.length) = i by omega]
        rfl
    · by_cases hl : i < hc.length
      · simp only [if_pos hl]
      · simp only [if_neg hl]
        have : i - hc.length < new.length := by omega
        rw [e2 _ this]
        congr 1; omega
  have hE : Ext (fun i => (i < hc.length ∧ D (f i).1) ∨ InNew hc.length new.length i) β' κ'
      (fun i => if i < hc.length then ((if h.length ≤ (f i).1 ∧ (f i).1 < h.length + new.length then β' (hc.length + ((f i).1 - h.length)) else β (f i).1).1, (if h.length ≤ (f i).1 ∧ (f i).1 < h.length + new.length then β' (hc.length + ((f i).1 - h.length)) else β (f i).1).2 + (f i).2) else β' i)
      (fun i => if i < hc.length then (if h.length ≤ (f i).1 ∧ (f i).1 < h.length + new.length then κ' (hc.length + ((f i).1 - h.length)) else κ (f i).1) else κ' i) := by
    intro i hi
    by_cases hl : i < hc.length
    · have hd : D (f i).1 := hi.elim (·.2) (fun y => by have := y.1; omega)
      have hfl := hD _ hd
      have hx := hQ.ext i (fun y => by have := y.1; omega)
      simp only [if_pos hl]
      rw [if_neg (by omega), if_neg (by omega), hx.1, hx.2]
      exact ⟨rfl, rfl⟩
    · simp [hl]
  have hval := hQ.val.mono (D' := fun i => (i < hc.length ∧ (D (f i).1 ∨ InNew h.length new.length (f i).1)) ∨ InNew hc.length new.length i) (fun i hi => hi.imp (fun x => ⟨x.1, .inl x.2⟩) id) hE
  refine { ext := fun i hi => ?_, val := hv.vr' hn2 hval, below := hQ.below, keep := fun B hB _ => hQ.keep B hB (fun k b e => by cases e), new := fun j b hj hbd => ?_, inj := fun i j b c hi hj hbd hcd he => ?_, upd := fun k b hk => by cases hk }
  · have : ¬ (h.length ≤ i ∧ i < h.length + new.length) := hi
    simp [this]
  · have hj : new[j]? = some b := hj
    have hjl : j < new.length := (List.getElem?_eq_some_iff.1 hj).1
    have hfl := (hnew b (List.mem_of_getElem? hj)).resolve_left hbd
    obtain ⟨q1, q2, q3, q4⟩ := hQ.new j _ hj hbd
    simp only at q1 q2 q3 q4
    refine ⟨q1.flat hfl (e1 j hjl), q2.flat ⟨e1 j hjl, e2 j hjl⟩, by simp only [e1 j hjl]; exact q3, ?_⟩
    rcases q4 with q4 | ⟨k, hk, _⟩
    · exact .inl (by simp only [e1 j hjl]; exact q4)
    · cases hk
  · have hi : new[i]? = some b := hi
    have hj : new[j]? = some c := hj
    have hil : i < new.length := (List.getElem?_eq_some_iff.1 hi).1
    have hjl : j < new.length := (List.getElem?_eq_some_iff.1 hj).1
    simp only [e1 i hil, e1 j hjl] at he
    exact hQ.inj i j _ _ hi hj hbd hcd he
end Go.Cl
