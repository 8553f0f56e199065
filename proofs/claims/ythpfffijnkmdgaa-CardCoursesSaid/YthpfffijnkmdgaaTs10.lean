/- The framework, Ts9 to Ts10. -/
import Derived.Test.YthpfffijnkmdgaaTs8
import Derived.Laws.IdiomRangeMap
set_option linter.unusedVariables false
namespace Go.Cl
open Go Go.RowKit
structure SlOk (w : World) (rows : List (List Value)) (v : Value) : Prop where
 fl : ∀ c ∈ rows.flatten, leafFlat c = true
 is : (rows = [] ∧ ∃ a, v = .slice a 0 0) ∨
  ∃ b off cap arr T fz, v = .slice (some ⟨b, off, none⟩) rows.length cap ∧ rows.length ≤ cap ∧ cap ≤ INF ∧ w.heap[b]? = some (.cells arr T fz) ∧
   ∀ (k : Nat) (x : Value), rows.flatten[k]? = some x → arr[off + k]? = some x
 ln : rows.length < INF
inductive Leaf2 where
 | flat (l : Leaf)
 | list (a : List Leaf)
def Leaf2.ok (w : World) : Leaf2 → Value → Prop
 | .flat l, v => l.ok v
 | .list a, v => ∃ rows, SlOk w rows v ∧ ∀ r ∈ rows, lfits a r
def lfits2 (w : World) : List Leaf2 → List Value → Prop
 | [], [] => True
 | k :: ks, v :: vs => k.ok w v ∧ lfits2 w ks vs
 | _, _ => False
section
variable {w : World}
theorem lfits2.append : ∀ {a b : List Leaf2} {x y : List Value}, lfits2 w a x → lfits2 w b y → lfits2 w (a ++ b) (x ++ y)
 | [], b, [], y, _, h => h
 | k :: a, b, v :: x, y, h, h' => ⟨h.1, lfits2.append h.2 h'⟩
 | [], _, _ :: _, _, h, _ => h.elim
 | _ :: _, _, [], _, h, _ => h.elim
theorem lfits2.of_flat : ∀ {l : List Leaf} {x : List Value}, lfits l x → lfits2 w (l.map .flat) x
 | [], [], _ => trivial
 | k :: l, v :: x, h => ⟨h.1, lfits2.of_flat h.2⟩
 | [], _ :: _, h => h.elim
 | _ :: _, [], h => h.elim
theorem lfits.leafFlat : ∀ {l : List Leaf} {x : List Value}, lfits l x → ∀ c ∈ x, Cl.leafFlat c = true
 | [], [], _, c, hc => by cases hc
 | k :: l, v :: x, h, c, hc => by
  rcases List.mem_cons.1 hc with rfl | hc
  · have := h.1
    cases k with
    | int k => obtain ⟨n, rfl, _⟩ := this; rfl
    | bool => obtain ⟨b, rfl⟩ := this; rfl
  exact lfits.leafFlat h.2 c hc
 | [], _ :: _, h, _, _ => h.elim
 | _ :: _, [], h, _, _ => h.elim
theorem lfits.len : ∀ {l : List Leaf} {x : List Value}, lfits l x → x.length = l.length
 | [], [], _ => rfl
 | k :: l, v :: x, h => by simp [lfits.len h.2]
 | [], _ :: _, h => h.elim
 | _ :: _, [], h => h.elim
theorem rows_typed {α : Type} {enc : α → List Value} {wf : α → Prop} {a : List Leaf} (h : ∀ r, lfits a r → ∃ x, r = enc x ∧ wf x) : ∀ {rows : List (List Value)}, (∀ r ∈ rows, lfits a r) → ∃ l : List α, rows = l.map enc ∧ ∀ x ∈ l, wf x
 | [], _ => ⟨[], rfl, fun x hx => by cases hx⟩
 | r :: rows, hr => by
  obtain ⟨x, hx, hw⟩ := h r (hr r (.head _))
  obtain ⟨l, hl, hlw⟩ := rows_typed h (rows := rows) fun r' h' => hr r' (.tail _ h')
  refine ⟨x :: l, by simp [hx, hl], fun y hy => ?_⟩
  rcases List.mem_cons.1 hy with rfl | hy
  · exact hw
  exact hlw y hy
theorem flatten_get {s : Nat} : ∀ (rows : List (List Value)), (∀ r ∈ rows, r.length = s) → ∀ (k : Nat) (x : Value), rows.flatten[k]? = some x → ∃ i j r, k = i * s + j ∧ j < s ∧ rows[i]? = some r ∧ r[j]? = some x
 | [], _, k, x, h => by simp at h
 | r :: rows, hr, k, x, h => by
  have hl := hr r (.head _)
  rw [List.flatten_cons, List.getElem?_append] at h
  split at h
  · rename_i hk
    exact ⟨0, k, r, by simp, by omega, rfl, h⟩
  rename_i hk
  obtain ⟨i, j, r', h1, h2, h3, h4⟩ := flatten_get rows (fun r' h' => hr r' (.tail _ h')) _ x h
  refine ⟨i + 1, j, r', ?_, h2, by simpa using h3, h4⟩
  rw [Nat.add_mul]
  omega
end
def leavesF2 (P : Program) (lv : TypeId → Option (List Leaf2)) : Nat → List Field → Option (List Leaf2)
 | _, [] => some []
 | off, f :: fs =>
  if f.offset = off then
   match lv f.type, leavesF2 P lv (off + P.cellsOf f.type) fs with
   | some a, some b => if a.length = P.cellsOf f.type then some (a ++ b) else none
   | _, _ => none
  else none
def leaves2 (P : Program) : Nat → TypeId → Option (List Leaf2)
 | 0, _ => none
 | n + 1, t =>
  match leaves P (n + 1) t with
  | some l => some (l.map .flat)
  | none =>
   match P.underlying t with
   | some (.struct fs) =>
    match leavesF2 P (leaves2 P n) 0 fs.toList with
    | some l => if l.length = P.cellsOf t then some l else none
    | none => none
   | some (.slice e) =>
    match leaves P n e with
    | some a => if a.length = P.cellsOf e ∧ 0 < a.length then some [.list a] else none
    | none => none
   | _ => none
section
variable {H : Type} {enc : TypeId × Value → H} {P : Program} {w : World} {base : Nat} {sp : Nat → Bool} {held : Bool}
theorem leavesF2_fit {lv : TypeId → Option (List Leaf2)} {tr : TypeId → List Value → Option (DataW H × List MemPlace)} (hlv : ∀ t l cs x, lv t = some l → tr t cs = some x → lfits2 w l cs) {cs : List Value} :
 ∀ (fs : List Field) (off : Nat) (l : List Leaf2), leavesF2 P lv off fs = some l →
  (∀ f ∈ fs, ∃ x, tr f.type ((cs.drop f.offset).take (P.cellsOf f.type)) = some x) → l.length + off = cs.length → lfits2 w l (cs.drop off)
 | [], off, l, h, _, hl => by
  simp only [leavesF2, Option.some.injEq] at h
  subst h
  simp at hl
  subst hl
  simp [lfits2]
 | f :: fs, off, l, h, hm, hl => by
  simp only [leavesF2] at h
  split at h
  · rename_i ho
    split at h
    · rename_i a b ha hb
      split at h
      · rename_i hal
        simp only [Option.some.injEq] at h
        subst h
        obtain ⟨x, hx⟩ := hm f (.head _)
        have h1 := hlv _ _ _ _ ha hx
        have h2 := leavesF2_fit hlv fs _ b hb (fun g hg => hm g (.tail _ hg)) (by simp at hl; omega)
        have := h1.append h2
        rw [ho, ← List.drop_drop, List.take_append_drop] at this
        exact this
      cases h
    cases h
  cases h
theorem cell_add {b o p q : Nat} : w.cell? ((Addr.add ⟨b, o, none⟩ p).add q) = w.cell? ⟨b, o + (p + q), none⟩ := by
 rw [add_eq, add_eq, Nat.add_assoc]
theorem slice_fit {t e : TypeId} {a : List Leaf} {n fuel : Nat} {cs : List Value} {x : DataW H × List MemPlace} (hsp : ∀ b, sp b = true) (ht : P.underlying t = some (.slice e)) (ha : leaves P n e = some a) (hl : a.length = P.cellsOf e) (h0 : 0 < a.length)
 (h : DataW.trod enc P w base sp held fuel t cs = some x) : lfits2 w [.list a] cs := by
 rcases DataW.trod_slice ht h with ⟨rfl, _⟩ | ⟨ad, len, cap, elems, rest, m, _, rfl, _, hb, hlc, hc, hel, hE, hR, _⟩
 · exact ⟨⟨[], ⟨by simp, .inl ⟨rfl, _, rfl⟩, by simp [INF]⟩, by simp⟩, trivial⟩
 refine ⟨?_, trivial⟩
 show ∃ rows, _
 by_cases hcap : cap = 0
 · subst hcap
   obtain rfl : len = 0 := by omega
   exact ⟨[], ⟨by simp, .inl ⟨rfl, _, rfl⟩, by simp [INF]⟩, by simp⟩
 -- the first element tells where the block is
 have hfirst : ∃ r, w.cells? base (ad.add (0 * P.cellsOf e)) (P.cellsOf e) = some r := by
  by_cases hlen : 0 < len
  · have := hE 0 hlen
    rw [List.getElem?_eq_getElem (by omega)] at this
    obtain ⟨r, hr, _⟩ := Option.bind_eq_some_iff.1 this
    exact ⟨r, hr⟩
  obtain rfl : len = 0 := by omega
  obtain ⟨h1, h2⟩ := hR (hsp _)
  have := h2 0 (by omega)
  rw [List.getElem?_eq_getElem (by omega)] at this
  obtain ⟨r, hr, _⟩ := Option.bind_eq_some_iff.1 this
  exact ⟨r, by simpa using hr⟩
 obtain ⟨r0, hr0⟩ := hfirst
 obtain ⟨_, hr0l, hr0c⟩ := World.cells?_some hr0
 have hc0 := hr0c 0 (by omega)
 have e0 : (ad.add (0 * P.cellsOf e)).add 0 = ad := by simp [Addr.add]
 rw [e0, List.getElem?_eq_getElem (by omega)] at hc0
 unfold World.cell? at hc0
 split at hc0
 · rename_i arr T fz hheap
   split at hc0
   · cases hc0
   rename_i hspot
   obtain ⟨b, off, spot⟩ := ad
   have : spot = none := by simpa using hspot
   subst this
   have hrow : ∀ i, i < len → ∃ r, w.cells? base (Addr.add ⟨b, off, none⟩ (i * P.cellsOf e)) (P.cellsOf e) = some r ∧ lfits a r := fun i hi => by
    have := hE i hi
    rw [List.getElem?_eq_getElem (by omega)] at this
    obtain ⟨r, hr, ht⟩ := Option.bind_eq_some_iff.1 this
    exact ⟨r, hr, leaves_fit n e a m r _ ha ht⟩
   let rows := (List.range len).map fun i => (w.cells? base (Addr.add ⟨b, off, none⟩ (i * P.cellsOf e)) (P.cellsOf e)).getD []
   have hrl : rows.length = len := by simp [rows]
   have hmem : ∀ r ∈ rows, lfits a r := fun r hr => by
    obtain ⟨i, hi, rfl⟩ := List.mem_map.1 hr
    obtain ⟨r, h1, h2⟩ := hrow i (List.mem_range.1 hi)
    rw [h1]; exact h2
   refine ⟨rows, ⟨fun c hcm => ?_, .inr ⟨b, off, cap, arr, T, fz, by rw [hrl], by omega, ?_, hheap, fun k y hk => ?_⟩, by rw [hrl]; unfold INF; have : cap ≤ 2 ^ 63 - 1 := hc; omega⟩, hmem⟩
   · obtain ⟨r, hr, hcr⟩ := List.mem_flatten.1 hcm
     exact lfits.leafFlat (hmem r hr) c hcr
   · have : cap ≤ 2 ^ 63 - 1 := hc
     unfold INF
     omega
   obtain ⟨i, j, r, h1, h2, h3, h4⟩ := flatten_get (s := P.cellsOf e) rows (fun r hr => by rw [lfits.len (hmem r hr), hl]) k y hk
   have hi : i < len := by rw [← hrl]; exact (List.getElem?_eq_some_iff.1 h3).1
   have h3' : rows[i]? = some ((w.cells? base (Addr.add ⟨b, off, none⟩ (i * P.cellsOf e)) (P.cellsOf e)).getD []) := by simp [rows, hi]
   rw [h3'] at h3
   obtain ⟨r', h5, _⟩ := hrow i hi
   rw [h5] at h3
   cases h3
   have := (World.cells?_some h5).2.2 j h2
   rw [cell_add] at this
   unfold World.cell? at this
   simp only [hheap] at this
   simp only [Option.isSome_none, Bool.false_eq_true, if_false] at this
   rw [h1, this]
   exact h4
 cases hc0
theorem leaves2_fit (hsp : ∀ b, sp b = true) : ∀ (n : Nat) (t : TypeId) (l : List Leaf2) (fuel : Nat) (cs : List Value) (x : DataW H × List MemPlace), leaves2 P n t = some l → DataW.trod enc P w base sp held fuel t cs = some x → lfits2 w l cs
 | 0, _, _, _, _, _, h, _ => by cases h
 | n + 1, t, l, fuel, cs, x, h, ht => by
  unfold leaves2 at h
  split at h
  · rename_i l' hl
    cases h
    exact .of_flat (leaves_fit (n + 1) t l' fuel cs x hl ht)
  split at h
  · rename_i fs hu
    split at h
    · rename_i l' hl
      split at h
      · rename_i hlen
        cases h
        obtain ⟨xs, m, rfl, _, hcl, hxl, hx⟩ := DataW.trod_struct hu ht
        refine leavesF2_fit (tr := DataW.trod enc P w base sp held m) (fun t l cs x h1 h2 => leaves2_fit hsp n t l m cs x h1 h2) fs.toList 0 l hl (fun f hf => ?_) (by omega)
        obtain ⟨i, hi, rfl⟩ := List.getElem_of_mem hf
        have hi' : i < fs.size := by simpa using hi
        refine ⟨xs[i]'(by omega), ?_⟩
        have := hx i (fs.toList[i]) (by simp [hi'])
        rw [this, List.getElem?_eq_getElem]
      cases h
    cases h
  · rename_i e hu
    split at h
    · rename_i a ha
      split at h
      · rename_i hc
        cases h
        exact slice_fit hsp hu ha hc.1 hc.2 ht
      cases h
    cases h
  cases h
theorem open_leaves2 {n : Nat} {t : TypeId} {l : List Leaf2} {v : Value} {d : DataW H} {ps : List MemPlace} (hl : leaves2 P n t = some l) (hd : DataW.Trod enc P w base (fun _ => true) held t v d ps) : lfits2 w l v.cells.toList := by
 obtain ⟨fuel, hf⟩ := hd
 exact leaves2_fit (fun _ => rfl) n t l fuel _ _ hl hf
end
abbrev SlArg := TypeId × List (List Value) × Value
def slBlk (x : SlArg) : Blk := accB x.1 x.2.1.length x.2.1.flatten
def slAdr (v : Value) : Nat × Nat := match v with | .slice (some a) _ _ => (a.block, a.off) | _ => (0, 0)
def slB (sl : List SlArg) (i : Nat) : Nat × Nat := match sl[i]? with | some x => slAdr x.2.2 | none => (0, 0)
theorem slices_rel {P : Program} {W : World} {sl : List SlArg} (hok : ∀ x ∈ sl, SlOk W x.2.1 x.2.2) :
 Rel P (fun i => i < sl.length) (slB sl) (fun _ => 0) (sl.map slBlk).length (Kp.under W.heap.size) (toF (sl.map slBlk)) W ∧
 ∀ (i : Nat) (x : SlArg), sl[i]? = some x → VR (fun i => i < sl.length) (slB sl) (fun _ => 0) (.slice (some ⟨i, 0, none⟩) x.2.1.length ANY) x.2.2 := by
 have hat : ∀ i x, sl[i]? = some x → toF (sl.map slBlk) i = slBlk x := fun i x hx => by simp [toF, hx]
 have hno : ∀ i, sl.length ≤ i → toF (sl.map slBlk) i = .dead := fun i hi => by simp [toF, List.getElem?_eq_none hi]
 have hcase : ∀ i, (∃ x, sl[i]? = some x) ∨ sl.length ≤ i := fun i => by
  by_cases hi : i < sl.length
  · exact .inl ⟨sl[i], List.getElem?_eq_getElem hi⟩
  exact .inr (by omega)
 have hblk : ∀ i x, sl[i]? = some x → slBlk x ≠ .dead → ∃ b off cap arr T fz, slB sl i = (b, off) ∧ W.heap[b]? = some (.cells arr T fz) ∧ slBlk x = .cells x.1 x.2.1.flatten ∧ ∀ (k : Nat) (y : Value), x.2.1.flatten[k]? = some y → arr[off + k]? = some y := fun i x hx hd => by
  rcases (hok x (List.mem_of_getElem? hx)).is with ⟨h1, _⟩ | ⟨b, off, cap, arr, T, fz, h1, h2, h3, h4, h5⟩
  · exfalso; apply hd; simp [slBlk, accB, h1]
  refine ⟨b, off, cap, arr, T, fz, by simp [slB, hx, h1, slAdr], h4, ?_, h5⟩
  unfold slBlk accB
  rw [if_neg]
  intro hz
  apply hd
  simp [slBlk, accB, hz]
 refine ⟨⟨fun i => ?_, fun i hi hb => ?_, fun i hi hb => ?_, fun i j hi hj hb => ?_, Kp.under.upto _⟩, fun i x hx => ?_⟩
 · rcases hcase i with ⟨x, hx⟩ | hi
   · rw [hat i x hx]
     by_cases hd : slBlk x = .dead
     · rw [hd]; trivial
     obtain ⟨b, off, cap, arr, T, fz, h1, h2, h3, h4⟩ := hblk i x hx hd
     rw [h3]
     refine ⟨arr, T, fz, by rw [h1]; exact h2, fun k v hv => ⟨v, by rw [h1]; exact h4 k v hv, ?_⟩⟩
     exact .of_leaf ((hok x (List.mem_of_getElem? hx)).fl v (List.mem_of_getElem? hv))
   rw [hno i hi]; trivial
 · rcases hcase i with ⟨x, hx⟩ | hi'
   · rw [hat i x hx] at hi
     obtain ⟨b, off, cap, arr, T, fz, h1, h2, _, _⟩ := hblk i x hx hi
     rw [h1]
     exact (Array.getElem?_eq_some_iff.1 h2).1
   exact absurd (hno i hi') hi
 · exact absurd (hno i (by simpa using hb)) hi
 · exact absurd (hno i (by simpa using hb)) hi
 have hi : i < sl.length := (List.getElem?_eq_some_iff.1 hx).1
 rcases (hok x (List.mem_of_getElem? hx)).is with ⟨h1, a, h2⟩ | ⟨b, off, cap, arr, T, fz, h1, h2, h3, h4, h5⟩
 · rw [h1, h2]
   exact .sliceAN i 0 ANY a (by decide)
 rw [h1]
 have hB : slB sl i = (b, off) := by simp [slB, hx, h1, slAdr]
 have := VR.sliceA (D := fun i => i < sl.length) (β := slB sl) (κ := fun _ => 0) i 0 x.2.1.length ANY cap hi (by decide) h2 h3
 rw [hB] at this
 exact this
theorem lawS {P : Program} {g : FuncId} {args args' : List Value} {new : List Blk} {W : World} (sl : List SlArg) (hok : ∀ x ∈ sl, SlOk W x.2.1 x.2.2)
 (hargs : ∀ (D : Nat → Prop) (β : Nat → Nat × Nat) (κ : Nat → Nat), (∀ (i : Nat) (x : SlArg), sl[i]? = some x → VR D β κ (.slice (some ⟨i, 0, none⟩) x.2.1.length ANY) x.2.2) → LR D β κ args args')
 (h : PureSim P g args (sl.map slBlk) (.bool true) new) :
 Calls P g ⟨args'⟩ W fun e W' => e = .returned (.bool true) ∧ Below W.heap.size W W' := by
 obtain ⟨hR, hV⟩ := slices_rel (P := P) hok
 refine Calls.mono (h.2 _ _ _ W args' (fun i hi => by simpa using hi) hR (hargs _ _ _ hV)) ?_
 rintro e W' ⟨v', β', κ', rfl, hQ⟩
 have hv := hQ.val
 cases hv
 exact ⟨rfl, hQ.below.below⟩
end Go.Cl
set_option linter.unusedVariables false
namespace Go.Cl
open Go Go.RowKit
section
variable {P : Program} {base L : Nat} {N : Kp} {ops : Array Oper} {rest : List Oper} {o : Oper} {a a1 a2 : CAct} {h h1 h2 : List Blk} {Ψ : CAct → List Blk → Prop}
variable {D : Nat → Prop} {β : Nat → Nat × Nat} {κ : Nat → Nat} {w : World}
end
end Go.Cl
namespace Go.Cl
open Go
end Go.Cl
