/- A table of answers that were reckoned apart. -/
import Derived.Test.YtiaippkjgmccoaaCl27
set_option linter.unusedSimpArgs false
set_option linter.unusedVariables false
namespace Go.Cl
open Go Go.RowKit

def eqLeafV : Value → Value → Bool
  | .bool a, .bool b => a == b
  | .int k a, .int j b => k == j && a == b
  | .string a, .string b => a.data.toList == b.data.toList
  | .nilFunc, .nilFunc => true
  | .nilIface, .nilIface => true
  | .pointer none, .pointer none => true
  | .pointer (some ⟨b, o, none⟩), .pointer (some ⟨b', o', none⟩) => b == b' && o == o'
  | .slice none l c, .slice none l' c' => l == l' && c == c'
  | .slice (some ⟨b, o, none⟩) l c, .slice (some ⟨b', o', none⟩) l' c' => b == b' && o == o' && l == l' && c == c'
  | .map none, .map none => true
  | .map (some a), .map (some b) => a == b
  | .chan none, .chan none => true
  | .chan (some a), .chan (some b) => a == b
  | _, _ => false

def eqList {α : Type} (f : α → α → Bool) : List α → List α → Bool
  | [], [] => true
  | a :: l, b :: m => f a b && eqList f l m
  | _, _ => false

def eqOneV : Value → Value → Bool
  | .agg a, .agg b => eqList eqLeafV a.toList b.toList
  | a, b => eqLeafV a b

def eqV : Value → Value → Bool
  | .tuple a, .tuple b => eqList eqOneV a.toList b.toList
  | .func (.func g) a c, .func (.func g') a' c' => g == g' && eqList eqOneV a.toList a'.toList && eqList eqOneV c.toList c'.toList
  | a, b => eqOneV a b

def eqB : Blk → Blk → Bool
  | .dead, .dead => true
  | .cells t vs, .cells t' vs' => t == t' && eqList eqOneV vs vs'
  | .map t es, .map t' es' => t == t' && eqList (fun p q => eqOneV p.1 q.1 && eqOneV p.2 q.2) es es'
  | _, _ => false

theorem kind_eq {q q' : IntKind} (h : (q == q') = true) : q = q' := beq_kind h

theorem eqLeafV_sound : ∀ {a b : Value}, eqLeafV a b = true → a = b := by
  intro a b h
  unfold eqLeafV at h
  split at h
  all_goals first
    | rfl
    | (cases h; done)
    | skip
  · simp at h; subst h; rfl
  · simp only [Bool.and_eq_true] at h
    obtain ⟨h1, h2⟩ := h
    have := kind_eq h1
    subst this
    simp at h2; subst h2; rfl
  · rename_i a b
    simp only [beq_iff_eq] at h
    obtain ⟨⟨a⟩⟩ := a
    obtain ⟨⟨b⟩⟩ := b
    simp only at h
    subst h; rfl
  · simp at h; obtain ⟨rfl, rfl⟩ := h; rfl
  · simp at h; obtain ⟨rfl, rfl⟩ := h; rfl
  · simp at h; obtain ⟨⟨⟨rfl, rfl⟩, rfl⟩, rfl⟩ := h; rfl
  · simp at h; subst h; rfl
  · simp at h; subst h; rfl

theorem eqList_sound {α : Type} {f : α → α → Bool} (hf : ∀ a b, f a b = true → a = b) : ∀ {l m : List α}, eqList f l m = true → l = m
  | [], [], _ => rfl
  | [], _ :: _, h => by cases h
  | _ :: _, [], h => by cases h
  | a :: l, b :: m, h => by
    simp only [eqList, Bool.and_eq_true] at h
    rw [hf a b h.1, eqList_sound hf h.2]

theorem eqOneV_sound {a b : Value} (h : eqOneV a b = true) : a = b := by
  unfold eqOneV at h
  split at h
  · rename_i a b
    have := eqList_sound (fun _ _ => eqLeafV_sound) h
    obtain ⟨a⟩ := a
    obtain ⟨b⟩ := b
    simp only at this
    rw [this]
  · exact eqLeafV_sound h

theorem eqV_sound {a b : Value} (h : eqV a b = true) : a = b := by
  unfold eqV at h
  split at h
  · rename_i a b
    have := eqList_sound (fun _ _ => eqOneV_sound) h
    obtain ⟨a⟩ := a
    obtain ⟨b⟩ := b
    simp only at this
    rw [this]
  · rename_i g a c g' a' c'
    simp only [Bool.and_eq_true, beq_iff_eq] at h
    obtain ⟨⟨rfl, h1⟩, h2⟩ := h
    have h1 := eqList_sound (fun _ _ => eqOneV_sound) h1
    have h2 := eqList_sound (fun _ _ => eqOneV_sound) h2
    obtain ⟨a⟩ := a
    obtain ⟨a'⟩ := a'
    obtain ⟨c⟩ := c
    obtain ⟨c'⟩ := c'
    simp only at h1 h2
    rw [h1, h2]
  · exact eqOneV_sound h

theorem eqB_sound {a b : Blk} (h : eqB a b = true) : a = b := by
  unfold eqB at h
  split at h
  · rfl
  · simp only [Bool.and_eq_true, beq_iff_eq] at h
    obtain ⟨rfl, h⟩ := h
    rw [eqList_sound (fun _ _ => eqOneV_sound) h]
  · simp only [Bool.and_eq_true, beq_iff_eq] at h
    obtain ⟨rfl, h⟩ := h
    rw [eqList_sound (fun p q hpq => by
      simp only [Bool.and_eq_true] at hpq
      exact Prod.ext (eqOneV_sound hpq.1) (eqOneV_sound hpq.2)) h]
  · cases h

/-- What a call comes to. -/
structure Entry where
  g : FuncId
  args : List Value
  h : List Blk
  v : Value
  new : List Blk

def look (T : List Entry) (g : FuncId) (args : List Value) (h : List Blk) : Option (Value × List Blk) :=
  match T with
  | [] => none
  | e :: T => if e.g == g && (eqList eqV e.args args && eqList eqB e.h h) then some (e.v, e.new) else look T g args h

/-- The functions of the table are asked of it alone. -/
def tableSum (T : List Entry) (g : FuncId) : Option (List Value → List Blk → Option (Value × List Blk)) :=
  if T.any fun e => e.g == g then some (look T g) else none

theorem look_sound {P : Program} : ∀ {T : List Entry} {g : FuncId} {args : List Value} {h new : List Blk} {v : Value}, (∀ e ∈ T, PureSim P e.g e.args e.h e.v e.new) → look T g args h = some (v, new) → PureSim P g args h v new
  | [], _, _, _, _, _, _, h => by cases h
  | e :: T, g, args, h, new, v, hT, hl => by
    unfold look at hl
    split at hl
    · rename_i hc
      simp only [Bool.and_eq_true, beq_iff_eq] at hc
      obtain ⟨h1, h2, h3⟩ := hc
      cases hl
      have := hT e (by simp)
      rw [h1, eqList_sound (fun _ _ => eqV_sound) h2, eqList_sound (fun _ _ => eqB_sound) h3] at this
      exact this
    · exact look_sound (fun e he => hT e (List.mem_cons_of_mem _ he)) hl

theorem table_ok {E : Env} {T : List Entry} (hE : E.sum = tableSum T) (hT : ∀ e ∈ T, PureSim E.P e.g e.args e.h e.v e.new) (hI : E.isum = fun _ => none := by rfl) : SumOk E := by
  refine SumOk.of hI fun g s args h v new hs hv => ?_
  rw [hE] at hs
  unfold tableSum at hs
  split at hs
  · cases hs; exact look_sound hT hv
  · cases hs

/-- Is this the answer? -/
def gives (x : Option (Value × List Blk)) (v : Value) (new : List Blk) : Bool :=
  match x with
  | some (v', new') => eqV v' v && eqList eqB new' new
  | none => false

theorem gives_sound {x : Option (Value × List Blk)} {v : Value} {new : List Blk} (h : gives x v new = true) : x = some (v, new) := by
  unfold gives at h
  split at h
  · simp only [Bool.and_eq_true] at h
    rw [eqV_sound h.1, eqList_sound (fun _ _ => eqB_sound) h.2]
  · cases h

theorem entry_ok {E : Env} (hS : SumOk E) (hmix : E.P.follows .mixedOrders = true) {n : Nat} {e : Entry} (h : gives ((run E n).pcall e.g e.args e.h) e.v e.new = true) : PureSim E.P e.g e.args e.h e.v e.new :=
  answer hS hmix (gives_sound h)
end Go.Cl
