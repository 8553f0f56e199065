/- The framework, Ts9 to Ts10. -/
import Derived.Test.YtfebcljpgcahbaaGreatTs8
import Derived.Laws.IdiomRangeMap
/- Arguments of a row with slices of flat elements, opened. -/
set_option linter.unusedVariables false
namespace Go.Cl
open Go Go.RowKit

/-- A slice of the model, and its elements' cells. -/
structure SlOk (w : World) (rows : List (List Value)) (v : Value) : Prop where
  fl : ∀ c ∈ rows.flatten, leafFlat c = true
  is : (rows = [] ∧ ∃ a, v = .slice a 0 0) ∨
    ∃ b off cap arr T fz, v = .slice (some ⟨b, off, none⟩) rows.length cap ∧ rows.length ≤ cap ∧ cap ≤ INF ∧ w.heap[b]? = some (.cells arr T fz) ∧
      ∀ (k : Nat) (x : Value), rows.flatten[k]? = some x → arr[off + k]? = some x
  ln : rows.length < INF

inductive Leaf2 where
  | flat (l : Leaf)
  | list (a : List Leaf)

def Leaf2.ok (w : World) : Leaf2 → Value → Prop
  | .flat l, v => l.ok v
  | .list a, v => ∃ rows, SlOk w rows v ∧ ∀ r ∈ rows, lfits a r

def lfits2 (w : World) : List Leaf2 → List Value → Prop
  | [], [] => True
  | k :: ks, v :: vs => k.ok w v ∧ lfits2 w ks vs
  | _, _ => False

section
variable {w : World}
theorem lfits2.append : ∀ {a b : List Leaf2} {x y : List Value}, lfits2 w a x → lfits2 w b y → lfits2 w (a ++ b) (x ++ y)
  | [], b, [], y, _, h => h
  | k :: a, b, v :: x, y, h, h' => ⟨h.1, lfits2.append h.2 h'⟩
  | [], _, _ :: _, _, h, _ => h.elim
  | _ :: _, _, [], _, h, _ => h.elim
theorem lfits2.of_flat : ∀ {l : List Leaf} {x : List Value}, lfits l x → lfits2 w (l.map .flat) x
  | [], [], _ => trivial
  | k :: l, v :: x, h => ⟨h.1, lfits2.of_flat h.2⟩
  | [], _ :: _, h => h.elim
  | _ :: _, [], h => h.elim
theorem lfits2.nil {x : List Value} (h : lfits2 w [] x) : x = [] := by cases x with | nil => rfl | cons => exact h.elim
theorem lfits2.consI {k : IntKind} {ks : List Leaf2} {x : List Value} (h : lfits2 w (.flat (.int k) :: ks) x) : ∃ n vs, x = .int k n :: vs ∧ (Lit.int k n).wf = true ∧ lfits2 w ks vs := by
  cases x with
  | nil => exact h.elim
  | cons v vs => obtain ⟨⟨n, rfl, hw⟩, h2⟩ := h; exact ⟨n, vs, rfl, hw, h2⟩
theorem lfits2.consB {ks : List Leaf2} {x : List Value} (h : lfits2 w (.flat .bool :: ks) x) : ∃ b vs, x = .bool b :: vs ∧ lfits2 w ks vs := by
  cases x with
  | nil => exact h.elim
  | cons v vs => obtain ⟨⟨n, rfl⟩, h2⟩ := h; exact ⟨n, vs, rfl, h2⟩
theorem lfits2.consS {a : List Leaf} {ks : List Leaf2} {x : List Value} (h : lfits2 w (.list a :: ks) x) : ∃ v vs rows, x = v :: vs ∧ SlOk w rows v ∧ (∀ r ∈ rows, lfits a r) ∧ lfits2 w ks vs := by
  cases x with
  | nil => exact h.elim
  | cons v vs => obtain ⟨⟨rows, h1, h2⟩, h3⟩ := h; exact ⟨v, vs, rows, rfl, h1, h2, h3⟩
theorem lfits.leafFlat : ∀ {l : List Leaf} {x : List Value}, lfits l x → ∀ c ∈ x, Cl.leafFlat c = true
  | [], [], _, c, hc => by cases hc
  | k :: l, v :: x, h, c, hc => by
    rcases List.mem_cons.1 hc with rfl | hc
    · have := h.1
      cases k with
      | int k => obtain ⟨n, rfl, _⟩ := this; rfl
      | bool => obtain ⟨b, rfl⟩ := this; rfl
    · exact lfits.leafFlat h.2 c hc
  | [], _ :: _, h, _, _ => h.elim
  | _ :: _, [], h, _, _ => h.elim
theorem lfits.len : ∀ {l : List Leaf} {x : List Value}, lfits l x → x.length = l.length
  | [], [], _ => rfl
  | k :: l, v :: x, h => by simp [lfits.len h.2]
  | [], _ :: _, h => h.elim
  | _ :: _, [], h => h.elim

/-- Rows of cells, as a list of a type. -/
theorem rows_typed {α : Type} {enc : α → List Value} {wf : α → Prop} {a : List Leaf} (h : ∀ r, lfits a r → ∃ x, r = enc x ∧ wf x) : ∀ {rows : List (List Value)}, (∀ r ∈ rows, lfits a r) → ∃ l : List α, rows = l.map enc ∧ ∀ x ∈ l, wf x
  | [], _ => ⟨[], rfl, fun x hx => by cases hx⟩
  | r :: rows, hr => by
    obtain ⟨x, hx, hw⟩ := h r (hr r (.head _))
    obtain ⟨l, hl, hlw⟩ := rows_typed h (rows := rows) fun r' h' => hr r' (.tail _ h')
    refine ⟨x :: l, by simp [hx, hl], fun y hy => ?_⟩
    rcases List.mem_cons.1 hy with rfl | hy
    · exact hw
    · exact hlw y hy

theorem flatten_get {s : Nat} : ∀ (rows : List (List Value)), (∀ r ∈ rows, r.length = s) → ∀ (k : Nat) (x : Value), rows.flatten[k]? = some x → ∃ i j r, k = i * s + j ∧ j < s ∧ rows[i]? = some r ∧ r[j]? = some x
  | [], _, k, x, h => by simp at h
  | r :: rows, hr, k, x, h => by
    have hl := hr r (.head _)
    rw [List.flatten_cons, List.getElem?_append] at h
    split at h
    · rename_i hk
      exact ⟨0, k, r, by simp, by omega, rfl, h⟩
    · rename_i hk
      obtain ⟨i, j, r', h1, h2, h3, h4⟩ := flatten_get rows (fun r' h' => hr r' (.tail _ h')) _ x h
      refine ⟨i + 1, j, r', ?_, h2, by simpa using h3, h4⟩
      rw [Nat.add_mul]
      omega
end

def leavesF2 (P : Program) (lv : TypeId → Option (List Leaf2)) : Nat → List Field → Option (List Leaf2)
  | _, [] => some []
  | off, f :: fs =>
    if f.offset = off then
      match lv f.type, leavesF2 P lv (off + P.cellsOf f.type) fs with
      | some a, some b => if a.length = P.cellsOf f.type then some (a ++ b) else none
      | _, _ => none
    else none

def leaves2 (P : Program) : Nat → TypeId → Option (List Leaf2)
  | 0, _ => none
  | n + 1, t =>
    match leaves P (n + 1) t with
    | some l => some (l.map .flat)
    | none =>
      match P.underlying t with
      | some (.struct fs) =>
        match leavesF2 P (leaves2 P n) 0 fs.toList with
        | some l => if l.length = P.cellsOf t then some l else none
        | none => none
      | some (.slice e) =>
        match leaves P n e with
        | some a => if a.length = P.cellsOf e ∧ 0 < a.length then some [.list a] else none
        | none => none
      | _ => none

section
variable {H : Type} {enc : TypeId × Value → H} {P : Program} {w : World} {base : Nat} {sp : Nat → Bool} {held : Bool}

theorem leavesF2_fit {lv : TypeId → Option (List Leaf2)} {tr : TypeId → List Value → Option (DataW H × List MemPlace)} (hlv : ∀ t l cs x, lv t = some l → tr t cs = some x → lfits2 w l cs) {cs : List Value} :
    ∀ (fs : List Field) (off : Nat) (l : List Leaf2), leavesF2 P lv off fs = some l →
      (∀ f ∈ fs, ∃ x, tr f.type ((cs.drop f.offset).take (P.cellsOf f.type)) = some x) → l.length + off = cs.length → lfits2 w l (cs.drop off)
  | [], off, l, h, _, hl => by
    simp only [leavesF2, Option.some.injEq] at h
    subst h
    simp at hl
    subst hl
    simp [lfits2]
  | f :: fs, off, l, h, hm, hl => by
    simp only [leavesF2] at h
    split at h
    · rename_i ho
      split at h
      · rename_i a b ha hb
        split at h
        · rename_i hal
          simp only [Option.some.injEq] at h
          subst h
          obtain ⟨x, hx⟩ := hm f (.head _)
          have h1 := hlv _ _ _ _ ha hx
          have h2 := leavesF2_fit hlv fs _ b hb (fun g hg => hm g (.tail _ hg)) (by simp at hl; omega)
          have := h1.append h2
          rw [ho, ← List.drop_drop, List.take_append_drop] at this
          exact this
        · cases h
      · cases h
    · cases h

theorem cell_add {b o p q : Nat} : w.cell? ((Addr.add ⟨b, o, none⟩ p).add q) = w.cell? ⟨b, o + (p + q), none⟩ := by
  rw [add_eq, add_eq, Nat.add_assoc]

theorem slice_fit {t e : TypeId} {a : List Leaf} {n fuel : Nat} {cs : List Value} {x : DataW H × List MemPlace} (hsp : ∀ b, sp b = true) (ht : P.underlying t = some (.slice e)) (ha : leaves P n e = some a) (hl : a.length = P.cellsOf e) (h0 : 0 < a.length)
    (h : DataW.trod enc P w base sp held fuel t cs = some x) : lfits2 w [.list a] cs := by
  rcases DataW.trod_slice ht h with ⟨rfl, _⟩ | ⟨ad, len, cap, elems, rest, m, _, rfl, _, hb, hlc, hc, hel, hE, hR, _⟩
  · exact ⟨⟨[], ⟨by simp, .inl ⟨rfl, _, rfl⟩, by simp [INF]⟩, by simp⟩, trivial⟩
  · refine ⟨?_, trivial⟩
    show ∃ rows, _
    by_cases hcap : cap = 0
    · subst hcap
      obtain rfl : len = 0 := by omega
      exact ⟨[], ⟨by simp, .inl ⟨rfl, _, rfl⟩, by simp [INF]⟩, by simp⟩
    · -- the first element tells where the block is
      have hfirst : ∃ r, w.cells? base (ad.add (0 * P.cellsOf e)) (P.cellsOf e) = some r := by
        by_cases hlen : 0 < len
        · have := hE 0 hlen
          rw [List.getElem?_eq_getElem (by omega)] at this
          obtain ⟨r, hr, _⟩ := Option.bind_eq_some_iff.1 this
          exact ⟨r, hr⟩
        · obtain rfl : len = 0 := by omega
          obtain ⟨h1, h2⟩ := hR (hsp _)
          have := h2 0 (by omega)
          rw [List.getElem?_eq_getElem (by omega)] at this
          obtain ⟨r, hr, _⟩ := Option.bind_eq_some_iff.1 this
          exact ⟨r, by simpa using hr⟩
      obtain ⟨r0, hr0⟩ := hfirst
      obtain ⟨_, hr0l, hr0c⟩ := World.cells?_some hr0
      have hc0 := hr0c 0 (by omega)
      have e0 : (ad.add (0 * P.cellsOf e)).add 0 = ad := by simp [Addr.add]
      rw [e0, List.getElem?_eq_getElem (by omega)] at hc0
      unfold World.cell? at hc0
      split at hc0
      · rename_i arr T fz hheap
        split at hc0
        · cases hc0
        · rename_i hspot
          obtain ⟨b, off, spot⟩ := ad
          have : spot = none := by simpa using hspot
          subst this
          have hrow : ∀ i, i < len → ∃ r, w.cells? base (Addr.add ⟨b, off, none⟩ (i * P.cellsOf e)) (P.cellsOf e) = some r ∧ lfits a r := fun i hi => by
            have := hE i hi
            rw [List.getElem?_eq_getElem (by omega)] at this
            obtain ⟨r, hr, ht⟩ := Option.bind_eq_some_iff.1 this
            exact ⟨r, hr, leaves_fit n e a m r _ ha ht⟩
          let rows := (List.range len).map fun i => (w.cells? base (Addr.add ⟨b, off, none⟩ (i * P.cellsOf e)) (P.cellsOf e)).getD []
          have hrl : rows.length = len := by simp [rows]
          have hmem : ∀ r ∈ rows, lfits a r := fun r hr => by
            obtain ⟨i, hi, rfl⟩ := List.mem_map.1 hr
            obtain ⟨r, h1, h2⟩ := hrow i (List.mem_range.1 hi)
            rw [h1]; exact h2
          refine ⟨rows, ⟨fun c hcm => ?_, .inr ⟨b, off, cap, arr, T, fz, by rw [hrl], by omega, ?_, hheap, fun k y hk => ?_⟩, by rw [hrl]; unfold INF; have : cap ≤ 2 ^ 63 - 1 := hc; omega⟩, hmem⟩
          · obtain ⟨r, hr, hcr⟩ := List.mem_flatten.1 hcm
            exact lfits.leafFlat (hmem r hr) c hcr
          · have : cap ≤ 2 ^ 63 - 1 := hc
            unfold INF
            omega
          · obtain ⟨i, j, r, h1, h2, h3, h4⟩ := flatten_get (s := P.cellsOf e) rows (fun r hr => by rw [lfits.len (hmem r hr), hl]) k y hk
            have hi : i < len := by rw [← hrl]; exact (List.getElem?_eq_some_iff.1 h3).1
            have h3' : rows[i]? = some ((w.cells? base (Addr.add ⟨b, off, none⟩ (i * P.cellsOf e)) (P.cellsOf e)).getD []) := by simp [rows, hi]
            rw [h3'] at h3
            obtain ⟨r', h5, _⟩ := hrow i hi
            rw [h5] at h3
            cases h3
            have := (World.cells?_some h5).2.2 j h2
            rw [cell_add] at this
            unfold World.cell? at this
            simp only [hheap] at this
            simp only [Option.isSome_none, Bool.false_eq_true, if_false] at this
            rw [h1, this]
            exact h4
      · cases hc0

theorem leaves2_fit (hsp : ∀ b, sp b = true) : ∀ (n : Nat) (t : TypeId) (l : List Leaf2) (fuel : Nat) (cs : List Value) (x : DataW H × List MemPlace), leaves2 P n t = some l → DataW.trod enc P w base sp held fuel t cs = some x → lfits2 w l cs
  | 0, _, _, _, _, _, h, _ => by cases h
  | n + 1, t, l, fuel, cs, x, h, ht => by
    unfold leaves2 at h
    split at h
    · rename_i l' hl
      cases h
      exact .of_flat (leaves_fit (n + 1) t l' fuel cs x hl ht)
    · split at h
      · rename_i fs hu
        split at h
        · rename_i l' hl
          split at h
          · rename_i hlen
            cases h
            obtain ⟨xs, m, rfl, _, hcl, hxl, hx⟩ := DataW.trod_struct hu ht
            refine leavesF2_fit (tr := DataW.trod enc P w base sp held m) (fun t l cs x h1 h2 => leaves2_fit hsp n t l m cs x h1 h2) fs.toList 0 l hl (fun f hf => ?_) (by omega)
            obtain ⟨i, hi, rfl⟩ := List.getElem_of_mem hf
            have hi' : i < fs.size := by simpa using hi
            refine ⟨xs[i]'(by omega), ?_⟩
            have := hx i (fs.toList[i]) (by simp [hi'])
            rw [this, List.getElem?_eq_getElem]
          · cases h
        · cases h
      · rename_i e hu
        split at h
        · rename_i a ha
          split at h
          · rename_i hc
            cases h
            exact slice_fit hsp hu ha hc.1 hc.2 ht
          · cases h
        · cases h
      · cases h

/-- An argument with slices, opened. -/
theorem open_leaves2 {n : Nat} {t : TypeId} {l : List Leaf2} {v : Value} {d : DataW H} {ps : List MemPlace} (hl : leaves2 P n t = some l) (hd : DataW.Trod enc P w base (fun _ => true) held t v d ps) : lfits2 w l v.cells.toList := by
  obtain ⟨fuel, hf⟩ := hd
  exact leaves2_fit (fun _ => rfl) n t l fuel _ _ hl hf
end

/-! ### The blocks of slices that came in -/

abbrev SlArg := TypeId × List (List Value) × Value
def slBlk (x : SlArg) : Blk := accB x.1 x.2.1.length x.2.1.flatten
def slAdr (v : Value) : Nat × Nat := match v with | .slice (some a) _ _ => (a.block, a.off) | _ => (0, 0)
def slB (sl : List SlArg) (i : Nat) : Nat × Nat := match sl[i]? with | some x => slAdr x.2.2 | none => (0, 0)

theorem slices_rel {P : Program} {W : World} {sl : List SlArg} (hok : ∀ x ∈ sl, SlOk W x.2.1 x.2.2) :
    Rel P (fun i => i < sl.length) (slB sl) (fun _ => 0) (sl.map slBlk).length (Kp.under W.heap.size) (toF (sl.map slBlk)) W ∧
    ∀ (i : Nat) (x : SlArg), sl[i]? = some x → VR (fun i => i < sl.length) (slB sl) (fun _ => 0) (.slice (some ⟨i, 0, none⟩) x.2.1.length ANY) x.2.2 := by
  have hat : ∀ i x, sl[i]? = some x → toF (sl.map slBlk) i = slBlk x := fun i x hx => by simp [toF, hx]
  have hno : ∀ i, sl.length ≤ i → toF (sl.map slBlk) i = .dead := fun i hi => by simp [toF, List.getElem?_eq_none hi]
  have hcase : ∀ i, (∃ x, sl[i]? = some x) ∨ sl.length ≤ i := fun i => by
    by_cases hi : i < sl.length
    · exact .inl ⟨sl[i], List.getElem?_eq_getElem hi⟩
    · exact .inr (by omega)
  have hblk : ∀ i x, sl[i]? = some x → slBlk x ≠ .dead → ∃ b off cap arr T fz, slB sl i = (b, off) ∧ W.heap[b]? = some (.cells arr T fz) ∧ slBlk x = .cells x.1 x.2.1.flatten ∧ ∀ (k : Nat) (y : Value), x.2.1.flatten[k]? = some y → arr[off + k]? = some y := fun i x hx hd => by
    rcases (hok x (List.mem_of_getElem? hx)).is with ⟨h1, _⟩ | ⟨b, off, cap, arr, T, fz, h1, h2, h3, h4, h5⟩
    · exfalso; apply hd; simp [slBlk, accB, h1]
    · refine ⟨b, off, cap, arr, T, fz, by simp [slB, hx, h1, slAdr], h4, ?_, h5⟩
      unfold slBlk accB
      rw [if_neg]
      intro hz
      apply hd
      simp [slBlk, accB, hz]
  refine ⟨⟨fun i => ?_, fun i hi hb => ?_, fun i hi hb => ?_, fun i j hi hj hb => ?_, Kp.under.upto _⟩, fun i x hx => ?_⟩
  · rcases hcase i with ⟨x, hx⟩ | hi
    · rw [hat i x hx]
      by_cases hd : slBlk x = .dead
      · rw [hd]; trivial
      · obtain ⟨b, off, cap, arr, T, fz, h1, h2, h3, h4⟩ := hblk i x hx hd
        rw [h3]
        refine ⟨arr, T, fz, by rw [h1]; exact h2, fun k v hv => ⟨v, by rw [h1]; exact h4 k v hv, ?_⟩⟩
        exact .of_leaf ((hok x (List.mem_of_getElem? hx)).fl v (List.mem_of_getElem? hv))
    · rw [hno i hi]; trivial
  · rcases hcase i with ⟨x, hx⟩ | hi'
    · rw [hat i x hx] at hi
      obtain ⟨b, off, cap, arr, T, fz, h1, h2, _, _⟩ := hblk i x hx hi
      rw [h1]
      exact (Array.getElem?_eq_some_iff.1 h2).1
    · exact absurd (hno i hi') hi
  · exact absurd (hno i (by simpa using hb)) hi
  · exact absurd (hno i (by simpa using hb)) hi
  · have hi : i < sl.length := (List.getElem?_eq_some_iff.1 hx).1
    rcases (hok x (List.mem_of_getElem? hx)).is with ⟨h1, a, h2⟩ | ⟨b, off, cap, arr, T, fz, h1, h2, h3, h4, h5⟩
    · rw [h1, h2]
      exact .sliceAN i 0 ANY a (by decide)
    · rw [h1]
      have hB : slB sl i = (b, off) := by simp [slB, hx, h1, slAdr]
      have := VR.sliceA (D := fun i => i < sl.length) (β := slB sl) (κ := fun _ => 0) i 0 x.2.1.length ANY cap hi (by decide) h2 h3
      rw [hB] at this
      exact this

/-- A law whose arguments hold slices of flat elements. -/
theorem lawS {P : Program} {g : FuncId} {args args' : List Value} {new : List Blk} {W : World} (sl : List SlArg) (hok : ∀ x ∈ sl, SlOk W x.2.1 x.2.2)
    (hargs : ∀ (D : Nat → Prop) (β : Nat → Nat × Nat) (κ : Nat → Nat), (∀ (i : Nat) (x : SlArg), sl[i]? = some x → VR D β κ (.slice (some ⟨i, 0, none⟩) x.2.1.length ANY) x.2.2) → LR D β κ args args')
    (h : PureSim P g args (sl.map slBlk) (.bool true) new) :
    Calls P g ⟨args'⟩ W fun e W' => e = .returned (.bool true) ∧ Below W.heap.size W W' := by
  obtain ⟨hR, hV⟩ := slices_rel (P := P) hok
  refine Calls.mono (h.2 _ _ _ W args' (fun i hi => by simpa using hi) hR (hargs _ _ _ hV)) ?_
  rintro e W' ⟨v', β', κ', rfl, hQ⟩
  have hv := hQ.val
  cases hv
  exact ⟨rfl, hQ.below.below⟩
end Go.Cl
/- A loop over a map: the map's entries with their stamps, the iterator, its steps in whatever order. -/
set_option linter.unusedVariables false
namespace Go.Cl
open Go Go.RowKit

/-- What a step of an iterator comes to, wherever the iterator lies. -/
theorem run_next_at {P : Program} {w : World} {ty : TypeId} {r bm since c0 : Nat} {seen : Array Nat} {es : Array MapEntry} {clock : Nat} (hr : w.heap[r]? = some (.mapIter (some bm) since seen c0)) (hb : w.heap[bm]? = some (.map es clock))
    (hold : ∀ x ∈ es.toList, x.born < since) (hsc : since ≤ c0) :
    ((leftOf es seen).size = 0 ∧ (Instr.next (.pointer (some ⟨r, 0, none⟩)) false ty).run P w = .ok (.tuple #[.bool false]) w) ∨
    ∃ e ∈ (leftOf es seen).toList, ∃ w1 : World, (w1 = w ∨ w1 = w.drew) ∧ (Instr.next (.pointer (some ⟨r, 0, none⟩)) false ty).run P w = .ok (.tuple #[.bool true, e.key, e.val]) { w1 with heap := w1.heap.setIfInBounds r (.mapIter (some bm) since (seen.push e.born) clock) } := by
  have hg1 : (getObj r).run P w = .ok (.mapIter (some bm) since seen c0) w := by simp [getObj, Sem.run, hr]
  have hg2 : (getObj bm).run P w = .ok (.map es clock) w := by simp [getObj, Sem.run, hb]
  simp only [Instr.next, Sem.run_bind, hg1, hg2, Result.andThen_ok, next_test_false seen es since c0 hold hsc, Bool.false_eq_true, if_false]
  unfold leftOf
  have hmem : ∀ x ∈ Array.filter (fun e => !seen.contains e.born) es, x.born < since := fun x hx => hold x (by simp at hx ⊢; exact hx.1)
  generalize Array.filter (fun e => !seen.contains e.born) es = L at hmem ⊢
  have e1 : L.filter (fun x => decide (x.born < since)) = L := Array.filter_eq_self.2 fun x hx => by simpa using hmem x hx
  have e2 : L.filter (fun x => decide (x.born ≥ since)) = #[] := by
    rw [Array.filter_eq_empty_iff]
    intro x hx
    have := hmem x hx
    simp
    omega
  simp only [e1, e2, Array.append_empty]
  by_cases h0 : L.size = 0
  · left
    have : L = #[] := Array.eq_empty_of_size_eq_zero h0
    subst this
    exact ⟨rfl, by simp [choose, Sem.run, Question.forced]⟩
  · right
    have hne : L.isEmpty = false := by simp [Array.isEmpty, h0]
    simp only [hne, Bool.false_eq_true, if_false, Array.empty_append, Array.size_map]
    have hch : ∃ (j : Nat) (w1 : World), j < L.size ∧ (w1 = w ∨ w1 = w.drew) ∧ (choose (Question.mapNext L.size)).run P w = .ok j w1 := by
      by_cases hf : L.size ≤ 1
      · exact ⟨0, w, by omega, .inl rfl, by simp [choose, Sem.run, Question.forced, hf]⟩
      · exact ⟨_, w.drew, Nat.mod_lt _ (by omega), .inr rfl, by
          simp only [choose, Sem.run, Question.forced, decide_eq_true_eq, hf, if_false, Question.cut]
          rfl⟩
    obtain ⟨j, w1, hj, hal, hrun⟩ := hch
    refine ⟨L[j], by simp, w1, hal, ?_⟩
    have hh : w1.heap[r]? = some (.mapIter (some bm) since seen c0) := by rcases hal with rfl | rfl <;> exact hr
    have hset : ∀ o, (setObj r o).run P w1 = .ok () { w1 with heap := w1.heap.setIfInBounds r o } := fun o => by simp [setObj, Sem.run, hh]
    rw [hrun]
    simp [hj, hset]

section
variable {P : Program} {base L : Nat} {N : Kp} {ops : Array Oper} {rest : List Oper} {o : Oper} {a a1 a2 : CAct} {h h1 h2 : List Blk} {Ψ : CAct → List Blk → Prop}
variable {D : Nat → Prop} {β : Nat → Nat × Nat} {κ : Nat → Nat} {w : World}

/-- A world with the same heap. -/
theorem Rel.heap {H : Nat → Blk} {w1 : World} (h : Rel P D β κ base N H w) (hh : w1.heap = w.heap) : Rel P D β κ base N H w1 where
  blk i := (h.blk i).move (fun _ x => x) Ext.refl rfl (by rw [hh])
  ro := h.ro
  own i hi hb := ⟨(h.own i hi hb).1, (h.own i hi hb).2.move ⟨rfl, rfl⟩ (by rw [hh])⟩
  inj := h.inj
  size := by rw [hh]; exact h.size

/-- One block is looked at in another way. -/
theorem Rel.swap {k : Nat} {b b0 : Blk} (hk : h[k]? = some b0) (h0 : b0 ≠ .dead) (hR : Rel P D β κ base N (toF h) w) (hB : BR P D β κ k b w) (hO : base ≤ k → OwnB P β κ k b w) : Rel P D β κ base N (toF (h.set k b)) w := by
  have hkl : k < h.length := (List.getElem?_eq_some_iff.1 hk).1
  have hs : ∀ i, toF (h.set k b) i = if i = k then b else toF h i := fun i => by
    unfold toF
    by_cases hi : i = k
    · subst hi; simp [List.getD, hkl]
    · rw [if_neg hi]; simp only [List.getD, List.getElem?_set, if_neg (fun e : k = i => hi e.symm)]
  have al : ∀ i, toF (h.set k b) i ≠ .dead → toF h i ≠ .dead := fun i hi => by
    rw [hs] at hi
    by_cases he : i = k
    · subst he; rw [toF_some hk]; exact h0
    · rwa [if_neg he] at hi
  refine ⟨fun i => ?_, fun i hi => hR.ro i (al i hi), fun i hi hb => ?_, fun i j hi hj => hR.inj i j (al i hi) (al j hj), hR.size⟩
  · rw [hs]
    split
    · rename_i he; subst he; exact hB
    · exact hR.blk i
  · have h3 := hR.own i (al i hi) hb
    rw [hs]
    split
    · rename_i he; subst he; exact ⟨h3.1, hO hb⟩
    · exact h3

theorem Fits.swap {D0 : Nat → Prop} {β0 : Nat → Nat × Nat} {κ0 : Nat → Nat} {a' : Act} {k : Nat} {b b0 : Blk} (hk : h[k]? = some b0) (h0 : b0 ≠ .dead) (hf : Fit P base N L D0 β0 κ0 a h a' w D β κ) (hB : BR P D β κ k b w) (hO : OwnB P β κ k b w) :
    Fits P base N L D0 β0 κ0 a (h.set k b) a' w :=
  ⟨D, β, κ, fun i hi => by rw [List.length_set]; exact hf.dom i hi, by rw [List.length_set]; exact hf.bl, by rw [List.length_set]; exact hf.ll, Rel.swap hk h0 hf.rel hB (fun _ => hO), hf.act, hf.ext⟩

/-- The stamps of a map's entries are told. -/
theorem stamp_of {D0 : Nat → Prop} {β0 : Nat → Nat × Nat} {κ0 : Nat → Nat} {a' : Act} {k : Nat} {kt : TypeId} {es : List (Value × Value)} (hk : h[k]? = some (.map kt es)) (hf : Fits P base N L D0 β0 κ0 a h a' w) :
    ∃ arr clock, arr.toList.map (fun e => (e.key, e.val)) = es ∧ (∀ e ∈ arr.toList, keyFits P kt e.key = true ∧ flat1 e.val = true) ∧ Stamped arr clock ∧ Fits P base N L D0 β0 κ0 a (h.set k (.mapS kt arr clock)) a' w := by
  obtain ⟨D, β, κ, hf⟩ := hf
  have hB := hf.rel.blk k
  rw [toF_some hk] at hB
  obtain ⟨arr, clock, h1, h2, h3, h4⟩ := hB
  have h5 : ∀ e ∈ arr.toList, keyFits P kt e.key = true ∧ flat1 e.val = true := fun e he => h3 (e.key, e.val) (by rw [← h2]; exact List.mem_map.2 ⟨e, he, rfl⟩)
  exact ⟨arr, clock, h2, h5, h4, Fits.swap hk (by simp) hf ⟨h1, h5, h4⟩ trivial⟩

theorem TO.stamp {k : Nat} {kt : TypeId} {es : List (Value × Value)} (hk : h[k]? = some (.map kt es))
    (ht : ∀ arr clock, arr.toList.map (fun e => (e.key, e.val)) = es → (∀ e ∈ arr.toList, keyFits P kt e.key = true ∧ flat1 e.val = true) → Stamped arr clock → TO P base L ops rest a (h.set k (.mapS kt arr clock)) Ψ) : TO P base L ops rest a h Ψ := by
  intro N D0 β0 κ0 R hR w0 w a' Q hf hb hq
  obtain ⟨arr, clock, h1, h2, h3, h4⟩ := stamp_of hk hf
  exact ht arr clock h1 h2 h3 N D0 β0 κ0 R hR w0 w a' Q h4 hb hq
theorem TS.stamp {c : Code} {Φ : Post} {k : Nat} {kt : TypeId} {es : List (Value × Value)} (hk : h[k]? = some (.map kt es))
    (ht : ∀ arr clock, arr.toList.map (fun e => (e.key, e.val)) = es → (∀ e ∈ arr.toList, keyFits P kt e.key = true ∧ flat1 e.val = true) → Stamped arr clock → TS P base L c a (h.set k (.mapS kt arr clock)) Φ) : TS P base L c a h Φ := by
  intro N D0 β0 κ0 R hR w0 w a' Q hf hb hq
  obtain ⟨arr, clock, h1, h2, h3, h4⟩ := stamp_of hk hf
  exact ht arr clock h1 h2 h3 N D0 β0 κ0 R hR w0 w a' Q h4 hb hq

theorem vr_mapTmp {x x' : Value} {m : Nat} (h : VR D β κ x x') (hx : x = .map (some m)) : D m ∧ x' = .map (some (β m).1) := by
  subst hx
  cases h with
  | map _ hi => exact ⟨hi, rfl⟩
theorem vr_ptrTmp {x x' : Value} {i : Nat} (h : VR D β κ x x') (hx : x = .pointer (some ⟨i, 0, none⟩)) : D i ∧ x' = .pointer (some ⟨(β i).1, (β i).2, none⟩) := by
  subst hx
  cases h with
  | ptr _ _ hi => exact ⟨hi, rfl⟩

/-- The loop begins: an iterator is laid. -/
theorem TO.range {t k e m kt : Nat} {x : Operand} {arr : Array MapEntry} {clock : Nat} (hw : cWanted ops.toList a o = some true) (ho : o.op = .range t x) (hx : a.eval x = .map (some m)) (ht : P.underlying t = some (.map k e))
    (hm : h[m]? = some (.mapS kt arr clock)) (h' : TO P base L ops rest (a.put o.dst (.pointer (some ⟨h.length, 0, none⟩))) (h ++ [.iter m clock #[] clock]) Ψ) : TO P base L ops (o :: rest) a h Ψ := by
  rintro N D0 β0 κ0 R hR w0 w a' Q ⟨D, β, κ, hf⟩ hb hQ
  have hw' := wanted_sim hw hf.act
  simp only [wpListIn, hw', if_true]
  obtain ⟨hDm, hxv⟩ := vr_mapTmp (hf.act.eval x) hx
  have hB := hf.rel.blk m
  rw [toF_some hm] at hB
  have hml : m < h.length := (List.getElem?_eq_some_iff.1 hm).1
  obtain ⟨β', κ', hO, hβ⟩ := Out.one (b := .iter m clock #[] clock) (o := .mapIter (some (β m).1) clock #[] clock) hf.rel hf.dom hf.bl (fun β' κ' hβ he => ⟨⟨.inl hDm, by rw [hβ], by rw [hβ, (he m (by omega)).1]; exact heap_alloc_new⟩, trivial⟩)
  have hnd : ∀ c, o.op ≠ .defer c := fun c e => by rw [ho] at e; cases e
  refine wp_of_val (w' := w.alloc (.mapIter (some (β m).1) clock #[] clock)) (v := .pointer (some ⟨w.heap.size, 0, none⟩)) hnd ?_ ?_
  · simp only [execOp, ho, hxv]
    simp [run_range_map w t k e (β m).1 arr clock ht hB.1]
  · have hv : VR (Up D h (h ++ [.iter m clock #[] clock])) β' κ' (.pointer (some ⟨h.length, 0, none⟩)) (.pointer (some ⟨w.heap.size, 0, none⟩)) := by
      have := VR.ptr (D := Up D h (h ++ [.iter m clock #[] clock])) (β := β') (κ := κ') h.length 0 (.inr ⟨Nat.le_refl _, by simp⟩)
      rwa [hβ] at this
    exact h' N D0 β0 κ0 R hR w0 _ _ Q (Fits.out hf hO ((hf.act.out hO hf.dom).put o.dst hv)) (hb.trans hO.below) hQ

theorem vr_entry {v : Value} {e : MapEntry} {kt : TypeId} (h : keyFits P kt e.key = true ∧ flat1 e.val = true) : VR D β κ (.tuple #[e.key, e.val]) (.tuple #[e.key, e.val]) :=
  .tuple [e.key, e.val] [e.key, e.val] rfl fun j v v' hv hv' => by
    rw [hv] at hv'
    cases hv'
    rcases j with _ | _ | j
    · cases hv; exact .of_flat1 (flat_of_fits h.1)
    · cases hv; exact .of_flat1 h.2
    · simp at hv
theorem vr_entry3 {e : MapEntry} {kt : TypeId} (h : keyFits P kt e.key = true ∧ flat1 e.val = true) : VR D β κ (.tuple #[.bool true, e.key, e.val]) (.tuple #[.bool true, e.key, e.val]) :=
  .tuple [.bool true, e.key, e.val] [.bool true, e.key, e.val] rfl fun j v v' hv hv' => by
    rw [hv] at hv'
    cases hv'
    rcases j with _ | _ | _ | j
    · cases hv; exact .bool _
    · cases hv; exact .of_flat1 (flat_of_fits h.1)
    · cases hv; exact .of_flat1 h.2
    · simp at hv

theorem Held.drewOr {N : Kp} {w w1 : World} (h : w1 = w ∨ w1 = w.drew) : Held N w w1 := by
  rcases h with rfl | rfl
  · exact Held.refl _ _
  · exact ⟨rfl, rfl, rfl, Nat.le_refl _, fun _ _ => rfl⟩

/-- A step: an entry that is left, whichever; or none is left. -/
theorem TO.next {it : Operand} {i m since last kt : Nat} {seen : Array Nat} {arr : Array MapEntry} {clock : Nat} (hw : cWanted ops.toList a o = some true) (ho : o.op = .next it false) (hi : a.eval it = .pointer (some ⟨i, 0, none⟩))
    (hib : base ≤ i) (hh : h[i]? = some (.iter m since seen last)) (hm : h[m]? = some (.mapS kt arr clock)) (hold : ∀ e ∈ arr.toList, e.born < since) (hsc : since ≤ last)
    (hend : (leftOf arr seen).size = 0 → TO P base L ops rest (a.put o.dst (.tuple #[.bool false])) h Ψ)
    (hgo : ∀ e ∈ (leftOf arr seen).toList, TO P base L ops rest (a.put o.dst (.tuple #[.bool true, e.key, e.val])) (h.set i (.iter m since (seen.push e.born) clock)) Ψ) : TO P base L ops (o :: rest) a h Ψ := by
  rintro N D0 β0 κ0 R hR w0 w a' Q ⟨D, β, κ, hf⟩ hb hQ
  have hw' := wanted_sim hw hf.act
  simp only [wpListIn, hw', if_true]
  obtain ⟨hDi, hiv⟩ := vr_ptrTmp (hf.act.eval it) hi
  have hI := hf.rel.blk i
  have hM := hf.rel.blk m
  rw [toF_some hh] at hI
  rw [toF_some hm] at hM
  obtain ⟨hDm, hz, hI⟩ := hI
  obtain ⟨hM, hfit, hst⟩ := hM
  rw [hz] at hiv
  have hil : i < h.length := (List.getElem?_eq_some_iff.1 hh).1
  have hnd : ∀ c, o.op ≠ .defer c := fun c e => by rw [ho] at e; cases e
  rcases run_next_at (P := P) (ty := o.type) hI hM hold hsc with ⟨hl, hrun⟩ | ⟨e, he, w1, hw1, hrun⟩
  · refine wp_of_val (w' := w) (v := .tuple #[.bool false]) hnd ?_ ?_
    · simp only [execOp, ho, hiv]
      simp [hrun]
    · have hv : VR D β κ (.tuple #[.bool false]) (.tuple #[.bool false]) := .of_flat rfl
      exact hend hl N D0 β0 κ0 R hR w0 w _ Q ⟨D, β, κ, hf.dom, hf.bl, hf.ll, hf.rel, hf.act.put o.dst hv, hf.ext⟩ hb hQ
  · refine wp_of_val (w' := { w1 with heap := w1.heap.setIfInBounds (β i).1 (.mapIter (some (β m).1) since (seen.push e.born) clock) }) (v := .tuple #[.bool true, e.key, e.val]) hnd ?_ ?_
    · simp only [execOp, ho, hiv]
      simp [hrun]
    · have hheap : w1.heap = w.heap := by rcases hw1 with rfl | rfl <;> rfl
      have hR1 : Rel P D β κ base N (toF h) w1 := hf.rel.heap hheap
      have hem : e ∈ arr.toList := by simp [leftOf] at he; simpa using he.1
      have hv := vr_entry3 (P := P) (D := D) (β := β) (κ := κ) (hfit e hem)
      have hQo := QOut.put (b := .iter m since (seen.push e.born) clock) (o := .mapIter (some (β m).1) since (seen.push e.born) clock) (o0 := .mapIter (some (β m).1) since seen last) hR1 hib hil (by rw [toF_some hh]; simp) (by rw [hheap]; exact hI)
        (fun w' hw' => ⟨⟨.inl hDm, hz, hw'⟩, trivial⟩) hv
      obtain ⟨hO, hv'⟩ := Out.of_q hR1 hf.dom hf.bl hQo (fun k b hu => by cases hu; rw [toF_some hh]; simp)
      have hF := Fits.out (a1 := a.put o.dst (.tuple #[.bool true, e.key, e.val])) ⟨hf.dom, hf.bl, hf.ll, hR1, hf.act, hf.ext⟩ hO ((hf.act.out hO hf.dom).put o.dst hv')
      have e1 : QRes.heap { val := .tuple #[.bool true, e.key, e.val], upd := some (i, .iter m since (seen.push e.born) clock) } h = h.set i (.iter m since (seen.push e.born) clock) := by simp [QRes.heap]
      rw [e1] at hF
      exact hgo e he N D0 β0 κ0 R hR w0 _ _ Q hF (hb.trans ((Held.drewOr hw1).trans hO.below)) hQ

/-- The entry that the last step has handed out. -/
theorem TO.entry {it : Operand} {i m since kt : Nat} {seen : Array Nat} {arr : Array MapEntry} {clock : Nat} {e : MapEntry} (hw : cWanted ops.toList a o = some true) (ho : o.op = .entry it) (hi : a.eval it = .pointer (some ⟨i, 0, none⟩))
    (hh : h[i]? = some (.iter m since (seen.push e.born) clock)) (hm : h[m]? = some (.mapS kt arr clock)) (he : e ∈ arr.toList) (hn : (arr.toList.map (·.born)).Nodup)
    (h' : TO P base L ops rest (a.put o.dst (.tuple #[e.key, e.val])) h Ψ) : TO P base L ops (o :: rest) a h Ψ := by
  rintro N D0 β0 κ0 R hR w0 w a' Q ⟨D, β, κ, hf⟩ hb hQ
  have hw' := wanted_sim hw hf.act
  simp only [wpListIn, hw', if_true]
  obtain ⟨hDi, hiv⟩ := vr_ptrTmp (hf.act.eval it) hi
  have hI := hf.rel.blk i
  have hM := hf.rel.blk m
  rw [toF_some hh] at hI
  rw [toF_some hm] at hM
  obtain ⟨hDm, hz, hI⟩ := hI
  obtain ⟨hM, hfit, hst⟩ := hM
  rw [hz] at hiv
  have hnd : ∀ c, o.op ≠ .defer c := fun c e => by rw [ho] at e; cases e
  have hg1 : (getObj (β i).1).run P w = .ok (.mapIter (some (β m).1) since (seen.push e.born) clock) w := by simp [getObj, Sem.run, hI]
  have hg2 : (getObj (β m).1).run P w = .ok (.map arr clock) w := by simp [getObj, Sem.run, hM]
  have hfd : arr.find? (·.born == e.born) = some e := by rw [← Array.find?_toList]; exact find_born e arr.toList hn he
  refine wp_of_val (w' := w) (v := .tuple #[e.key, e.val]) hnd ?_ ?_
  · simp only [execOp, ho, hiv]
    simp [Instr.entry, Sem.run_bind, hg1, hg2, hfd]
  · have hv : VR D β κ (.tuple #[e.key, e.val]) (.tuple #[e.key, e.val]) := vr_entry (P := P) (kt := kt) (v := undef) (hfit e he)
    exact h' N D0 β0 κ0 R hR w0 w _ Q ⟨D, β, κ, hf.dom, hf.bl, hf.ll, hf.rel, hf.act.put o.dst hv, hf.ext⟩ hb hQ

/-! ### The same, by places -/
noncomputable def opAt (ops : Array Oper) (j : Nat) (a : CAct) : Option Op :=
  match ops.toList[j]? with
  | some o => match cWanted ops.toList a o with
    | some true => some o.op
    | _ => none
  | none => none
theorem opAt_spec {j : Nat} {p : Op} (h : opAt ops j a = some p) : ∃ o, ops.toList[j]? = some o ∧ cWanted ops.toList a o = some true ∧ o.op = p ∧ ∀ v, putAt ops j a v = a.put o.dst v := by
  unfold opAt at h
  split at h
  · rename_i o ho
    split at h
    · rename_i hw
      exact ⟨o, ho, hw, Option.some.inj h, fun v => by simp only [putAt, ho]⟩
    · cases h
  · cases h

theorem TI.range {j t k e m kt : Nat} {x : Operand} {arr : Array MapEntry} {clock : Nat} (hp : opAt ops j a = some (.range t x)) (hx : a.eval x = .map (some m)) (ht : P.underlying t = some (.map k e))
    (hm : h[m]? = some (.mapS kt arr clock)) (ha : putAt ops j a (.pointer (some ⟨h.length, 0, none⟩)) = a1) (hh : h ++ [.iter m clock #[] clock] = h1) (h' : TI P base L ops (j + 1) a1 h1 Ψ) : TI P base L ops j a h Ψ := by
  obtain ⟨o, ho, hw, hop, hput⟩ := opAt_spec hp
  unfold TI at h' ⊢
  rw [drop_at ho]
  refine TO.range hw hop hx ht hm ?_
  rw [← hput, ha, hh]
  exact h'

theorem TI.next {j : Nat} {it : Operand} {i m since last kt : Nat} {seen : Array Nat} {arr : Array MapEntry} {clock : Nat} (hp : opAt ops j a = some (.next it false)) (hi : a.eval it = .pointer (some ⟨i, 0, none⟩))
    (hib : base ≤ i) (hh : h[i]? = some (.iter m since seen last)) (hm : h[m]? = some (.mapS kt arr clock)) (hold : ∀ e ∈ arr.toList, e.born < since) (hsc : since ≤ last)
    (hend : (leftOf arr seen).size = 0 → TI P base L ops (j + 1) (putAt ops j a (.tuple #[.bool false])) h Ψ)
    (hgo : ∀ e ∈ (leftOf arr seen).toList, TI P base L ops (j + 1) (putAt ops j a (.tuple #[.bool true, e.key, e.val])) (h.set i (.iter m since (seen.push e.born) clock)) Ψ) : TI P base L ops j a h Ψ := by
  obtain ⟨o, ho, hw, hop, hput⟩ := opAt_spec hp
  unfold TI at hend hgo ⊢
  rw [drop_at ho]
  refine TO.next hw hop hi hib hh hm hold hsc (fun h0 => ?_) (fun e he => ?_)
  · rw [← hput]; exact hend h0
  · rw [← hput]; exact hgo e he

theorem TI.entry {j : Nat} {it : Operand} {i m since kt : Nat} {seen : Array Nat} {arr : Array MapEntry} {clock : Nat} {e : MapEntry} (hp : opAt ops j a = some (.entry it)) (hi : a.eval it = .pointer (some ⟨i, 0, none⟩))
    (hh : h[i]? = some (.iter m since (seen.push e.born) clock)) (hm : h[m]? = some (.mapS kt arr clock)) (he : e ∈ arr.toList) (hn : (arr.toList.map (·.born)).Nodup)
    (ha : putAt ops j a (.tuple #[e.key, e.val]) = a1) (h' : TI P base L ops (j + 1) a1 h Ψ) : TI P base L ops j a h Ψ := by
  obtain ⟨o, ho, hw, hop, hput⟩ := opAt_spec hp
  unfold TI at h' ⊢
  rw [drop_at ho]
  refine TO.entry hw hop hi hh hm he hn ?_
  rw [← hput, ha]
  exact h'

/-- What is left becomes less. -/
theorem left_less {arr : Array MapEntry} {seen : Array Nat} {e : MapEntry} (he : e ∈ (leftOf arr seen).toList) : (leftOf arr (seen.push e.born)).size < (leftOf arr seen).size := by
  have h1 : e ∈ arr.toList ∧ seen.contains e.born = false := by simpa [leftOf] using he
  have := filter_lt (fun x : MapEntry => !seen.contains x.born) (fun x : MapEntry => !(seen.push e.born).contains x.born) (fun x hx => by simp at hx ⊢; exact hx.1) e (by rw [h1.2]; rfl) (by simp) arr.toList h1.1
  simpa [leftOf, ← Array.length_toList] using this
end
end Go.Cl
namespace Go.Cl
open Go
/-- How many entries of a list are such. -/
theorem count_less {p : MapEntry → Bool} {q : MapEntry → Bool} {e : MapEntry} : ∀ {l : List MapEntry}, (l.map (·.born)).Nodup → e ∈ l → q e = true →
    (l.filter (fun x => q x && x.born != e.born)).countP p + (if p e then 1 else 0) = (l.filter q).countP p
  | [], _, h, _ => by cases h
  | x :: l, hn, hm, hq => by
    have hn' : x.born ∉ l.map (·.born) ∧ (l.map (·.born)).Nodup := List.nodup_cons.1 hn
    rcases List.mem_cons.1 hm with rfl | hm
    · have hno : l.filter (fun x => q x && x.born != e.born) = l.filter q := by
        apply List.filter_congr
        intro y hy
        have : (y.born != e.born) = true := by
          rw [bne_iff_ne]
          intro h
          exact hn'.1 (by rw [← h]; exact List.mem_map.2 ⟨y, hy, rfl⟩)
        rw [this, Bool.and_true]
      rw [List.filter_cons, List.filter_cons, hno]
      simp only [hq, bne_self_eq_false, Bool.and_false, Bool.false_eq_true, if_false, if_true, List.countP_cons]
    · have ih := count_less (p := p) hn'.2 hm hq
      have hxe : (x.born != e.born) = true := by
        rw [bne_iff_ne]
        intro h
        exact hn'.1 (by rw [h]; exact List.mem_map.2 ⟨e, hm, rfl⟩)
      rw [List.filter_cons, List.filter_cons]
      cases hqx : q x
      · simp only [Bool.false_and, Bool.false_eq_true, if_false]
        exact ih
      · simp only [hxe, Bool.and_self, if_true, List.countP_cons]
        omega
theorem left_count {arr : Array MapEntry} {seen : Array Nat} {e : MapEntry} {p : MapEntry → Bool} (hn : (arr.toList.map (·.born)).Nodup) (he : e ∈ (leftOf arr seen).toList) :
    (leftOf arr (seen.push e.born)).toList.countP p + (if p e then 1 else 0) = (leftOf arr seen).toList.countP p := by
  have h1 : e ∈ arr.toList ∧ seen.contains e.born = false := by simpa [leftOf] using he
  have := count_less (p := p) (q := fun x => !seen.contains x.born) hn h1.1 (by rw [h1.2]; rfl)
  have e1 : (leftOf arr (seen.push e.born)).toList = arr.toList.filter (fun x => !seen.contains x.born && x.born != e.born) := by
    unfold leftOf
    rw [Array.toList_filter]
    apply List.filter_congr
    intro x hx
    rw [Array.contains_push]
    cases seen.contains x.born <;> simp [Bool.beq_comm, bne]
  have e2 : (leftOf arr seen).toList = arr.toList.filter (fun x => !seen.contains x.born) := by
    unfold leftOf
    rw [Array.toList_filter]
  rw [e1, e2]
  exact this
theorem left_mem {arr : Array MapEntry} {seen : Array Nat} {e : MapEntry} (he : e ∈ (leftOf arr seen).toList) : e ∈ arr.toList := by
  have h1 : e ∈ arr.toList ∧ seen.contains e.born = false := by simpa [leftOf] using he
  exact h1.1
theorem left_all (arr : Array MapEntry) : leftOf arr #[] = arr := by
  unfold leftOf
  apply Array.filter_eq_self.2
  intro x hx
  simp
end Go.Cl
