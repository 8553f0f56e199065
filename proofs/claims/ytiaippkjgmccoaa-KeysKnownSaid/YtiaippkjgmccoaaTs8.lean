/- Arguments of a row, opened: flat values (integers, bools, structs of these). -/
import Derived.Test.YtiaippkjgmccoaaTs7
import Derived.Test.YtiaippkjgmccoaaCl27
import Derived.OpenShut
set_option linter.unusedVariables false
namespace Go.Cl
open Go Go.RowKit

inductive Leaf where
  | int (k : IntKind)
  | bool

def Leaf.ok : Leaf → Value → Prop
  | .int k, v => ∃ n, v = .int k n ∧ (Lit.int k n).wf = true
  | .bool, v => ∃ b, v = .bool b

def lfits : List Leaf → List Value → Prop
  | [], [] => True
  | k :: ks, v :: vs => k.ok v ∧ lfits ks vs
  | _, _ => False

theorem lfits.append : ∀ {a b : List Leaf} {x y : List Value}, lfits a x → lfits b y → lfits (a ++ b) (x ++ y)
  | [], b, [], y, _, h => h
  | k :: a, b, v :: x, y, h, h' => ⟨h.1, lfits.append h.2 h'⟩
  | [], _, _ :: _, _, h, _ => h.elim
  | _ :: _, _, [], _, h, _ => h.elim

theorem lfits.nil {x : List Value} (h : lfits [] x) : x = [] := by cases x with | nil => rfl | cons => exact h.elim
theorem lfits.consI {k : IntKind} {ks : List Leaf} {x : List Value} (h : lfits (.int k :: ks) x) : ∃ n vs, x = .int k n :: vs ∧ (Lit.int k n).wf = true ∧ lfits ks vs := by
  cases x with
  | nil => exact h.elim
  | cons v vs => obtain ⟨⟨n, rfl, hw⟩, h2⟩ := h; exact ⟨n, vs, rfl, hw, h2⟩
theorem lfits.consB {ks : List Leaf} {x : List Value} (h : lfits (.bool :: ks) x) : ∃ b vs, x = .bool b :: vs ∧ lfits ks vs := by
  cases x with
  | nil => exact h.elim
  | cons v vs => obtain ⟨⟨n, rfl⟩, h2⟩ := h; exact ⟨n, vs, rfl, h2⟩

def leavesF (P : Program) (lv : TypeId → Option (List Leaf)) : Nat → List Field → Option (List Leaf)
  | _, [] => some []
  | off, f :: fs =>
    if f.offset = off then
      match lv f.type, leavesF P lv (off + P.cellsOf f.type) fs with
      | some a, some b => if a.length = P.cellsOf f.type then some (a ++ b) else none
      | _, _ => none
    else none

def leaves (P : Program) : Nat → TypeId → Option (List Leaf)
  | 0, _ => none
  | n + 1, t =>
    match P.underlying t with
    | some .bool => some [.bool]
    | some (.int k) => some [.int k]
    | some (.struct fs) =>
      match leavesF P (leaves P n) 0 fs.toList with
      | some l => if l.length = P.cellsOf t then some l else none
      | none => none
    | some (.array m e) =>
      match leaves P n e with
      | some a => if a.length = P.cellsOf e ∧ m * P.cellsOf e = P.cellsOf t then some (List.replicate m a).flatten else none
      | none => none
    | _ => none

section
variable {H : Type} {enc : TypeId × Value → H} {P : Program} {w : World} {base : Nat} {sp : Nat → Bool} {held : Bool}

theorem leavesF_fit {lv : TypeId → Option (List Leaf)} {tr : TypeId → List Value → Option (DataW H × List MemPlace)} (hlv : ∀ t l cs x, lv t = some l → tr t cs = some x → lfits l cs) {cs : List Value} :
    ∀ (fs : List Field) (off : Nat) (l : List Leaf), leavesF P lv off fs = some l →
      (∀ f ∈ fs, ∃ x, tr f.type ((cs.drop f.offset).take (P.cellsOf f.type)) = some x) → l.length + off = cs.length → lfits l (cs.drop off)
  | [], off, l, h, _, hl => by
    simp only [leavesF, Option.some.injEq] at h
    subst h
    simp at hl
    subst hl
    simp [lfits]
  | f :: fs, off, l, h, hm, hl => by
    simp only [leavesF] at h
    split at h
    · rename_i ho
      split at h
      · rename_i a b ha hb
        split at h
        · rename_i hal
          simp only [Option.some.injEq] at h
          subst h
          obtain ⟨x, hx⟩ := hm f (.head _)
          have h1 := hlv _ _ _ _ ha hx
          have h2 := leavesF_fit hlv fs _ b hb (fun g hg => hm g (.tail _ hg)) (by simp at hl; omega)
          have := h1.append h2
          rw [ho, ← List.drop_drop, List.take_append_drop] at this
          exact this
        · cases h
      · cases h
    · cases h

theorem leavesA_fit {tr : List Value → Option (DataW H × List MemPlace)} {a : List Leaf} (hlv : ∀ cs x, tr cs = some x → lfits a cs) {cs : List Value} {s : Nat} :
    ∀ (m i : Nat), (∀ j, i ≤ j → j < i + m → ∃ x, tr ((cs.drop (j * s)).take s) = some x) → cs.length = (i + m) * s → lfits (List.replicate m a).flatten (cs.drop (i * s))
  | 0, i, _, hl => by
    have : cs.drop (i * s) = [] := List.drop_eq_nil_of_le (by simpa using Nat.le_of_eq hl)
    rw [this]; simp [lfits]
  | m + 1, i, h, hl => by
    obtain ⟨x, hx⟩ := h i (Nat.le_refl _) (by omega)
    have h1 := hlv _ _ hx
    have h2 := leavesA_fit hlv (cs := cs) (s := s) m (i + 1) (fun j h1 h2 => h j (by omega) (by omega)) (by rw [hl]; congr 1; omega)
    have := h1.append h2
    rw [Nat.add_mul, Nat.one_mul, ← List.drop_drop, List.take_append_drop] at this
    rw [List.replicate_succ, List.flatten_cons]
    exact this

theorem leaves_fit : ∀ (n : Nat) (t : TypeId) (l : List Leaf) (fuel : Nat) (cs : List Value) (x : DataW H × List MemPlace), leaves P n t = some l → DataW.trod enc P w base sp held fuel t cs = some x → lfits l cs
  | 0, _, _, _, _, _, h, _ => by cases h
  | n + 1, t, l, fuel, cs, x, h, ht => by
    unfold leaves at h
    split at h
    · rename_i hu
      obtain ⟨b, h1, _⟩ := DataW.trod_bool hu ht
      cases h
      subst h1
      exact ⟨⟨_, rfl⟩, trivial⟩
    · rename_i k hu
      obtain ⟨b, h1, _, hw⟩ := DataW.trod_int hu ht
      cases h
      subst h1
      exact ⟨⟨_, rfl, hw⟩, trivial⟩
    · rename_i fs hu
      split at h
      · rename_i l' hl
        split at h
        · rename_i hlen
          cases h
          obtain ⟨xs, m, rfl, _, hcl, hxl, hx⟩ := DataW.trod_struct hu ht
          refine leavesF_fit (tr := DataW.trod enc P w base sp held m) (fun t l cs x h1 h2 => leaves_fit n t l m cs x h1 h2) fs.toList 0 l hl (fun f hf => ?_) (by omega)
          obtain ⟨i, hi, rfl⟩ := List.getElem_of_mem hf
          have hi' : i < fs.size := by simpa using hi
          refine ⟨xs[i]'(by omega), ?_⟩
          have := hx i (fs.toList[i]) (by simp [hi'])
          rw [this, List.getElem?_eq_getElem]
        · cases h
      · cases h
    · rename_i m e hu
      split at h
      · rename_i a ha
        split at h
        · rename_i hc
          cases h
          obtain ⟨xs, f, rfl, _, hcl, hxl, hx⟩ := DataW.trod_array hu ht
          have := leavesA_fit (tr := DataW.trod enc P w base sp held f e) (a := a) (fun cs x h => leaves_fit n e a f cs x ha h) (cs := cs) (s := P.cellsOf e) m 0 (fun j _ hj => by
            have hj' : j < m := by omega
            refine ⟨xs[j]'(by omega), ?_⟩
            rw [hx j hj', List.getElem?_eq_getElem]) (by rw [hcl, ← hc.2]; simp)
          simpa using this
        · cases h
      · cases h
    · cases h

/-- A flat argument, opened. -/
theorem open_leaves {n : Nat} {t : TypeId} {l : List Leaf} {v : Value} {d : DataW H} {ps : List MemPlace} (hl : leaves P n t = some l) (hd : DataW.Trod enc P w base sp held t v d ps) : lfits l v.cells.toList := by
  obtain ⟨fuel, hf⟩ := hd
  exact leaves_fit n t l fuel _ _ hl hf
theorem open_agg {r : Reach} {b0 : Nat} {t : TypeId} {v : Value} (hs : (match P.underlying t with | some (.struct _) => true | some (.array _ _) => true | _ => false) = true) (hval : Value.okWide P w r b0 t v) : v = .agg ⟨v.cells.toList⟩ := by
  unfold Value.okWide at hval
  split at hval
  · obtain ⟨cs, rfl, _⟩ := hval; rfl
  · obtain ⟨cs, rfl, _⟩ := hval; rfl
  · rename_i h1 h2; split at hs
    · rename_i h; exact absurd h (h1 _)
    · rename_i h; exact absurd h (h2 _ _)
    · cases hs
end

/-- A law whose arguments are flat. -/
theorem lawF {P : Program} {g : FuncId} {args : List Value} {new : List Blk} (ha : args.all isFlat = true) (h : PureSim P g args [] (.bool true) new) (W : World) :
    Calls P g ⟨args⟩ W fun e W' => e = .returned (.bool true) ∧ Below W.heap.size W W' := by
  refine Calls.mono (h.2 (fun _ => False) (fun _ => (0, 0)) (fun _ => 0) W args (fun i hi => hi.elim) (Rel.empty _ W) ⟨rfl, fun j v v' h1 h2 => ?_⟩) ?_
  · rw [h1] at h2
    cases h2
    exact VR.of_flat (List.all_eq_true.1 ha v (List.mem_of_getElem? h1))
  · rintro e W' ⟨v', β', κ', rfl, hQ⟩
    have hv := hQ.val
    cases hv
    exact ⟨rfl, hQ.below⟩
end Go.Cl
