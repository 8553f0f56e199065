/- The relation between the clean heap and the model's world. -/
import Derived.Test.YtiaippkjgmccoaaCl1
import Derived.Laws.World
import Derived.Laws.Cells
namespace Go.Cl
open Go Go.RowKit

/-! ### Values -/

/-- A clean value (its blocks among D) stands for a value of the model: β: where a block lies, from which cell on; κ: how many elements fit from there on, where an append has made it. -/
inductive VR (D : Nat → Prop) (β : Nat → Nat × Nat) (κ : Nat → Nat) : Value → Value → Prop where
  | bool (b) : VR D β κ (.bool b) (.bool b)
  | int (k x) : VR D β κ (.int k x) (.int k x)
  | float (k x) : VR D β κ (.float k x) (.float k x)
  | complex (k x y) : VR D β κ (.complex k x y) (.complex k x y)
  | string (s) : VR D β κ (.string s) (.string s)
  | nilFunc : VR D β κ .nilFunc .nilFunc
  | nilIface : VR D β κ .nilIface .nilIface
  | pnil : VR D β κ (.pointer none) (.pointer none)
  | ptr (i o) (hi : D i) : VR D β κ (.pointer (some ⟨i, o, none⟩)) (.pointer (some ⟨(β i).1, (β i).2 + o, none⟩))
  | snil : VR D β κ (.slice none 0 0) (.slice none 0 0)
  | sliceZ (i o) (a : Option Addr) : VR D β κ (.slice (some ⟨i, o, none⟩) 0 0) (.slice a 0 0)
  | slice (i o l c) (hi : D i) (hlc : l ≤ c) (hc : c ≤ INF) : VR D β κ (.slice (some ⟨i, o, none⟩) l c) (.slice (some ⟨(β i).1, (β i).2 + o, none⟩) l c)
  | sliceU (i o l q) (hi : D i) (hq : q + l ≤ κ i) (hk : κ i < INF) : VR D β κ (.slice (some ⟨i, o, none⟩) l (UNK - q)) (.slice (some ⟨(β i).1, (β i).2 + o, none⟩) l (κ i - q))
  | sliceE (i o q a) (hq : q < INF) : VR D β κ (.slice (some ⟨i, o, none⟩) 0 (UNK - q)) (.slice (some a) 0 0)
  | sliceA (i o l C c) (hi : D i) (hC : UNK < C) (hlc : l ≤ c) (hc : c ≤ INF) : VR D β κ (.slice (some ⟨i, o, none⟩) l C) (.slice (some ⟨(β i).1, (β i).2 + o, none⟩) l c)
  | sliceAN (i o C a) (hC : UNK < C) : VR D β κ (.slice (some ⟨i, o, none⟩) 0 C) (.slice a 0 0)
  | mnil : VR D β κ (.map none) (.map none)
  | map (i) (hi : D i) : VR D β κ (.map (some i)) (.map (some (β i).1))
  | cnil : VR D β κ (.chan none) (.chan none)
  | poison (v) : VR D β κ (.chan (some 0)) v
  | func (g) (f f' c c' : List Value) (hf : f.length = f'.length) (hf' : ∀ (j : Nat) (v v' : Value), f[j]? = some v → f'[j]? = some v' → VR D β κ v v')
      (hc : c.length = c'.length) (hc' : ∀ (j : Nat) (v v' : Value), c[j]? = some v → c'[j]? = some v' → VR D β κ v v') : VR D β κ (.func (.func g) ⟨f⟩ ⟨c⟩) (.func (.func g) ⟨f'⟩ ⟨c'⟩)
  | yield (l) (hl : D l) : VR D β κ (.func (.yield l) #[] #[]) (.func (.yield (β l).1) #[] #[])
  | agg (l l' : List Value) (hl : l.length = l'.length) (hl' : ∀ (j : Nat) (v v' : Value), l[j]? = some v → l'[j]? = some v' → VR D β κ v v') : VR D β κ (.agg ⟨l⟩) (.agg ⟨l'⟩)
  | tuple (l l' : List Value) (hl : l.length = l'.length) (hl' : ∀ (j : Nat) (v v' : Value), l[j]? = some v → l'[j]? = some v' → VR D β κ v v') : VR D β κ (.tuple ⟨l⟩) (.tuple ⟨l'⟩)

/-- Lists, cell by cell. -/
structure LR (D : Nat → Prop) (β : Nat → Nat × Nat) (κ : Nat → Nat) (l l' : List Value) : Prop where
  len : l.length = l'.length
  at_ : ∀ (j : Nat) (v v' : Value), l[j]? = some v → l'[j]? = some v' → VR D β κ v v'

def Ext (D : Nat → Prop) (β : Nat → Nat × Nat) (κ : Nat → Nat) (β' : Nat → Nat × Nat) (κ' : Nat → Nat) : Prop := ∀ i, D i → β' i = β i ∧ κ' i = κ i

section
variable {D D' : Nat → Prop} {β β' : Nat → Nat × Nat} {κ κ' : Nat → Nat}

theorem VR.mono {v v' : Value} (h : VR D β κ v v') (hD : ∀ i, D i → D' i) (hE : Ext D β κ β' κ') : VR D' β' κ' v v' := by
  induction h with
  | bool => constructor
  | int => constructor
  | float => constructor
  | complex => constructor
  | string => constructor
  | nilFunc => constructor
  | nilIface => constructor
  | pnil => constructor
  | ptr i o hi => rw [← (hE i hi).1]; exact .ptr i o (hD i hi)
  | snil => constructor
  | slice i o l c hi hlc hc => rw [← (hE i hi).1]; exact .slice i o l c (hD i hi) hlc hc
  | sliceU i o l q hi hq hk => rw [← (hE i hi).1, ← (hE i hi).2] at *; exact .sliceU i o l q (hD i hi) hq hk
  | sliceE i o q a hq => exact .sliceE i o q a hq
  | sliceZ i o a => exact .sliceZ i o a
  | sliceA i o l C c hi hC hlc hc => rw [← (hE i hi).1]; exact .sliceA i o l C c (hD i hi) hC hlc hc
  | sliceAN i o C a hC => exact .sliceAN i o C a hC
  | mnil => constructor
  | map i hi => rw [← (hE i hi).1]; exact .map i (hD i hi)
  | cnil => constructor
  | poison => constructor
  | func g f f' c c' hf _ hc _ ih1 ih2 => exact .func g f f' c c' hf ih1 hc ih2
  | yield l hl => rw [← (hE l hl).1]; exact .yield l (hD l hl)
  | agg l l' hl _ ih => exact .agg l l' hl ih
  | tuple l l' hl _ ih => exact .tuple l l' hl ih

theorem LR.mono {l l' : List Value} (h : LR D β κ l l') (hD : ∀ i, D i → D' i) (hE : Ext D β κ β' κ') : LR D' β' κ' l l' :=
  ⟨h.len, fun j v v' a b => (h.at_ j v v' a b).mono hD hE⟩

theorem Ext.refl : Ext D β κ β κ := fun _ _ => ⟨rfl, rfl⟩
theorem Ext.trans {β'' : Nat → Nat × Nat} {κ'' : Nat → Nat} (h : Ext D β κ β' κ') (h' : Ext D' β' κ' β'' κ'') (hD : ∀ i, D i → D' i) : Ext D β κ β'' κ'' :=
  fun i hi => ⟨(h' i (hD i hi)).1.trans (h i hi).1, (h' i (hD i hi)).2.trans (h i hi).2⟩

theorem LR.get {l l' : List Value} (h : LR D β κ l l') {j : Nat} {v : Value} (hv : l[j]? = some v) : ∃ v', l'[j]? = some v' ∧ VR D β κ v v' := by
  obtain ⟨hj, _⟩ := List.getElem?_eq_some_iff.1 hv
  have hj' : j < l'.length := h.len ▸ hj
  exact ⟨l'[j], List.getElem?_eq_getElem hj', h.at_ _ _ _ hv (List.getElem?_eq_getElem hj')⟩
theorem LR.nil : LR D β κ [] [] := ⟨rfl, fun j v v' h => by simp at h⟩
theorem LR.cons {v v' : Value} {l l' : List Value} (h : VR D β κ v v') (hl : LR D β κ l l') : LR D β κ (v :: l) (v' :: l') :=
  ⟨by simp [hl.len], fun j x x' hx hx' => by
    cases j with
    | zero => simp at hx hx'; subst hx hx'; exact h
    | succ j => exact hl.at_ j _ _ (by simpa using hx) (by simpa using hx')⟩
theorem LR.uncons {v : Value} {l m : List Value} (h : LR D β κ (v :: l) m) : ∃ v' l', m = v' :: l' ∧ VR D β κ v v' ∧ LR D β κ l l' := by
  cases m with
  | nil => exact absurd h.len (by simp)
  | cons v' l' => exact ⟨v', l', rfl, h.at_ 0 _ _ rfl rfl, ⟨by simpa using h.len, fun j x x' hx hx' => h.at_ (j + 1) _ _ (by simpa using hx) (by simpa using hx')⟩⟩
theorem LR.unnil {m : List Value} (h : LR D β κ [] m) : m = [] := by cases m with | nil => rfl | cons => exact absurd h.len (by simp)
theorem LR.app {l l' m m' : List Value} (h : LR D β κ l l') (k : LR D β κ m m') : LR D β κ (l ++ m) (l' ++ m') :=
  ⟨by simp [h.len, k.len], fun j v v' hv hv' => by
    rw [List.getElem?_append] at hv hv'
    rw [← h.len] at hv'
    split at hv <;> rename_i hj
    · rw [if_pos hj] at hv'; exact h.at_ _ _ _ hv hv'
    · rw [if_neg hj] at hv'; exact k.at_ _ _ _ hv hv'⟩
theorem LR.drop {l l' : List Value} (h : LR D β κ l l') (n : Nat) : LR D β κ (l.drop n) (l'.drop n) :=
  ⟨by simp [h.len], fun j v v' hv hv' => h.at_ (n + j) _ _ (by simpa using hv) (by simpa using hv')⟩
theorem LR.take {l l' : List Value} (h : LR D β κ l l') (n : Nat) : LR D β κ (l.take n) (l'.take n) :=
  ⟨by simp [h.len], fun j v v' hv hv' => by
    rw [List.getElem?_take] at hv hv'
    split at hv
    · rename_i hj; rw [if_pos hj] at hv'; exact h.at_ _ _ _ hv hv'
    · cases hv⟩
theorem LR.set {l l' : List Value} (h : LR D β κ l l') (n : Nat) {v v' : Value} (hv : VR D β κ v v') : LR D β κ (l.set n v) (l'.set n v') :=
  ⟨by simp [h.len], fun j x x' hx hx' => by
    rw [List.getElem?_set] at hx hx'
    rw [← h.len] at hx'
    split at hx
    · rename_i hj; rw [if_pos hj] at hx'
      split at hx
      · rename_i hl; rw [if_pos hl] at hx'; cases hx; cases hx'; exact hv
      · cases hx
    · rename_i hj; rw [if_neg hj] at hx'; exact h.at_ _ _ _ hx hx'⟩
theorem LR.map {γ : Type} {l : List γ} {f f' : γ → Value} (h : ∀ x ∈ l, VR D β κ (f x) (f' x)) : LR D β κ (l.map f) (l.map f') :=
  ⟨by simp, fun j v v' hv hv' => by
    rw [List.getElem?_map] at hv hv'
    cases hx : l[j]? with
    | none => rw [hx] at hv; cases hv
    | some x => rw [hx] at hv hv'; cases hv; cases hv'; exact h x (List.mem_of_getElem? hx)⟩
theorem LR.rep (n : Nat) {v v' : Value} (h : VR D β κ v v') : LR D β κ (List.replicate n v) (List.replicate n v') :=
  ⟨by simp, fun j x x' hx hx' => by
    rw [List.getElem?_replicate] at hx hx'
    split at hx
    · rename_i hj; rw [if_pos hj] at hx'; cases hx; cases hx'; exact h
    · cases hx⟩
theorem VR.undef : VR D β κ undef undef := .tuple [] [] rfl (fun j v v' h => by simp at h)

/-! ### Flat values stand for themselves -/

theorem VR.leaf {v v' : Value} (h : VR D β κ v v') (hf : leafFlat v = true) : v' = v := by
  cases h <;> simp_all [leafFlat]
theorem VR.of_leaf {v : Value} (hf : leafFlat v = true) : VR D β κ v v := by
  cases v with
  | pointer a => cases a with | none => constructor | some a => simp [leafFlat] at hf
  | slice a l c =>
    cases a with
    | some a => simp [leafFlat] at hf
    | none =>
      cases l with
      | succ l => simp [leafFlat] at hf
      | zero => cases c with | zero => constructor | succ c => simp [leafFlat] at hf
  | map a => cases a with | none => constructor | some a => simp [leafFlat] at hf
  | chan a => cases a with | none => constructor | some a => simp [leafFlat] at hf
  | agg cs => simp [leafFlat] at hf
  | tuple cs => simp [leafFlat] at hf
  | _ => first | constructor | simp [leafFlat] at hf
theorem LR.leaves {l l' : List Value} (h : LR D β κ l l') (hf : l.all leafFlat = true) : l' = l := by
  refine List.ext_getElem? fun j => ?_
  cases hv : l[j]? with
  | none =>
    have : l.length ≤ j := List.getElem?_eq_none_iff.1 hv
    exact List.getElem?_eq_none (h.len ▸ this)
  | some v =>
    obtain ⟨v', hv', hr⟩ := h.get hv
    rw [hv', hr.leaf (List.all_eq_true.1 hf v (List.mem_of_getElem? hv))]
theorem LR.of_leaves {l : List Value} (hf : l.all leafFlat = true) : LR D β κ l l :=
  ⟨rfl, fun j v v' hv hv' => by rw [hv] at hv'; cases hv'; exact .of_leaf (List.all_eq_true.1 hf v (List.mem_of_getElem? hv))⟩
theorem VR.flat1 {v v' : Value} (h : VR D β κ v v') (hf : flat1 v = true) : v' = v := by
  have h0 := h
  cases h with
  | agg l l' hl hl' => rw [LR.leaves ⟨hl, hl'⟩ (by simpa [Cl.flat1] using hf)]
  | _ => exact h0.leaf (by simpa [Cl.flat1] using hf)
theorem VR.of_flat1 {v : Value} (hf : Cl.flat1 v = true) : VR D β κ v v := by
  cases v with
  | agg cs => obtain ⟨l⟩ := cs; have h : LR D β κ l l := .of_leaves (by simpa [Cl.flat1] using hf); exact .agg l l h.len h.at_
  | _ => exact VR.of_leaf (by simpa [Cl.flat1] using hf)
theorem VR.flat {v v' : Value} (h : VR D β κ v v') (hf : isFlat v = true) : v' = v := by
  have h0 := h
  cases h with
  | tuple l l' hl hl' =>
    have hall : ∀ x ∈ l, Cl.flat1 x = true := by simpa [isFlat] using hf
    have : l' = l := by
      refine List.ext_getElem? fun j => ?_
      cases hv : l[j]? with
      | none => exact List.getElem?_eq_none (hl ▸ List.getElem?_eq_none_iff.1 hv)
      | some v =>
        obtain ⟨v', hv', hr⟩ := LR.get ⟨hl, hl'⟩ hv
        rw [hv', hr.flat1 (hall v (List.mem_of_getElem? hv))]
    rw [this]
  | agg l l' hl hl' => exact h0.flat1 (by simpa [isFlat] using hf)
  | _ => exact h0.leaf (by simpa [isFlat, Cl.flat1] using hf)
theorem VR.of_flat {v : Value} (hf : isFlat v = true) : VR D β κ v v := by
  cases v with
  | tuple cs =>
    obtain ⟨l⟩ := cs
    have hall : ∀ x ∈ l, Cl.flat1 x = true := by simpa [isFlat] using hf
    exact .tuple l l rfl fun j v v' hv hv' => by rw [hv] at hv'; cases hv'; exact .of_flat1 (hall v (List.mem_of_getElem? hv))
  | agg cs => exact VR.of_flat1 (by simpa [isFlat] using hf)
  | _ => exact VR.of_leaf (by simpa [isFlat, Cl.flat1] using hf)
theorem flat_of_leaf {v : Value} (h : leafFlat v = true) : isFlat v = true := by cases v <;> simp_all [leafFlat, isFlat, Cl.flat1]

theorem VR.cells {v v' : Value} (h : VR D β κ v v') (hp : v ≠ .chan (some 0)) : LR D β κ v.cells.toList v'.cells.toList := by
  cases h with
  | agg l l' hl hl' => exact ⟨hl, hl'⟩
  | poison => exact absurd rfl hp
  | _ => exact LR.cons (by constructor <;> assumption) .nil
end
end Go.Cl
