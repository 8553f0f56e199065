/- Regions over a heap that is not written out; states cut back to their first blocks. -/
import Derived.Test.YtiaippkjgmccoaaTs11
set_option linter.unusedVariables false
namespace Go.Cl
open Go Go.RowKit

section
variable {P : Program} {base L : Nat} {c : Code} {a a1 a2 : CAct} {h h1 h2 : List Blk} {Φ : Post} {ops : Array Oper} {j : Nat} {Ψ : CAct → List Blk → Prop} {v : Value}

theorem Wk.tm (keep : List Nat) : Wk P base L a h (maskA keep a) h := by
  rintro N D0 β0 κ0 a' w ⟨D, β, κ, hf⟩
  exact ⟨D, β, κ, hf.dom, hf.bl, hf.ll, hf.rel, ⟨maskL_lr hf.act.tmps, hf.act.marks, hf.act.known⟩, hf.ext⟩
theorem TI.val (keep : List Nat) (hq : qAt P base ops j a h = some { val := v }) (hs : maskA keep (putAt ops j a v) = a2) (ht : TI P base L ops (j + 1) a2 h Ψ) : TI P base L ops j a h Ψ :=
  TI.one (h1 := h) hq rfl (by simp [QRes.heap]) (TI.weak (Wk.tm keep) (by rw [hs]; exact ht))
theorem TI.new1 {b : Blk} (keep : List Nat) (hq : qAt P base ops j a h = some { val := v, new := [b] }) (hs : maskA keep (putAt ops j a v) = a2) (ht : TI P base L ops (j + 1) a2 (h ++ [b]) Ψ) : TI P base L ops j a h Ψ :=
  TI.one (h1 := h ++ [b]) hq rfl (by simp [QRes.heap]) (TI.weak (Wk.tm keep) (by rw [hs]; exact ht))
theorem TI.upd1 {k : Nat} {b : Blk} (keep : List Nat) (hq : qAt P base ops j a h = some { val := v, upd := some (k, b) }) (hs : maskA keep (putAt ops j a v) = a2) (ht : TI P base L ops (j + 1) a2 (h.set k b) Ψ) : TI P base L ops j a h Ψ :=
  TI.one (h1 := h.set k b) hq rfl (by simp [QRes.heap]) (TI.weak (Wk.tm keep) (by rw [hs]; exact ht))
theorem TI.pcall {g : FuncId} {args : List Value} (keep : List Nat) (hc : callAt ops j a = some (g, args)) (hP : PureSim P g args h v []) (hs : maskA keep (putAt ops j a v) = a2) (ht : TI P base L ops (j + 1) a2 h Ψ) : TI P base L ops j a h Ψ :=
  TI.call hc hP rfl (List.append_nil h) (TI.weak (Wk.tm keep) (by rw [hs]; exact ht))
theorem TI.icallT {g : FuncId} {args : List Value} (keep : List Nat) (hc : callAt ops j a = some (g, args)) (hP : ImpSim P g args base h v h1) (hs : maskA keep (putAt ops j a v) = a2) (ht : TI P base L ops (j + 1) a2 h1 Ψ) : TI P base L ops j a h Ψ :=
  TI.icall hc hP rfl (TI.weak (Wk.tm keep) (by rw [hs]; exact ht))

theorem cLoad_one {t : TypeId} {i o : Nat} {T : TypeId} {vs : List Value} (hb : h[i]? = some (.cells T vs)) (ha : aggT P t = some false) (hv : vs[o]? = some v) : cLoad P h t (.pointer (some ⟨i, o, none⟩)) = some v := by
  simp [cLoad, hb, ha, hv]
theorem cLoad_agg {t : TypeId} {i n : Nat} {T : TypeId} {vs : List Value} (hb : h[i]? = some (.cells T vs)) (ha : aggT P t = some true) (hn : sizeT P t = some n) (hl : vs.length = n) : cLoad P h t (.pointer (some ⟨i, 0, none⟩)) = some (.agg ⟨vs⟩) := by
  subst hl
  simp [cLoad, hb, ha, hn]
theorem cStore_pair {t : TypeId} {i : Nat} {T : TypeId} {z w : Value} {k : IntKind} {x : Int} {y : Bool} (hb : h[i]? = some (.cells T [z, w])) (hbase : base ≤ i) (hs : sizeT P t = some 2) :
    cStore P base h t (.pointer (some ⟨i, 0, none⟩)) (.agg ⟨[.int k x, .bool y]⟩) = some { val := undef, upd := some (i, .cells T [.int k x, .bool y]) } := by
  simp [cStore, cStoreAt, hb, hs, okPart, Value.cells, cellOk, hbase]

/-- Does a value lead to blocks below n alone? -/
def selfV (n : Nat) : Value → Bool
  | .func (.func _) ⟨a⟩ ⟨c⟩ => eqList (rn1 (fun i => i) n) a a && eqList (rn1 (fun i => i) n) c c
  | v => rn2 (fun i => i) n v v
theorem selfV_sound {p : Bool} {n : Nat} {v : Value} (h : selfV n v = true) : Rn p (fun i => (i, 0)) n v v := by
  unfold selfV at h
  split at h
  · rw [Bool.and_eq_true] at h
    exact .func' (lrn_of (f := fun i => i) (fun _ _ => rn1_sound) h.1) (lrn_of (f := fun i => i) (fun _ _ => rn1_sound) h.2)
  · exact rn2_sound h
/-- Does a block lead to blocks below n alone? -/
def selfB (n : Nat) : Blk → Bool
  | .dead => true
  | .cells _ vs => vs.all fun v => selfV n v
  | .map _ _ => true
  | _ => false
theorem Rn.more {p : Bool} {f : Nat → Nat × Nat} {n n' : Nat} (hn : n ≤ n') {x y : Value} (h : Rn p f n x y) : Rn p f n' x y := by
  induction h with
  | flat h => exact .flat h
  | poison v h => exact .poison v h
  | ptr i o o' hi ho => exact .ptr i o o' (by omega) ho
  | slice i o o' l c hi ho hc => exact .slice i o o' l c (by omega) ho hc
  | slice0 i o l c hi h0 => exact .slice0 i o l c (by omega) h0
  | any i o o' l c C hi ho hp hC => exact .any i o o' l c C (by omega) ho hp hC
  | anyN i o C hp hC => exact .anyN i o C hp hC
  | map i hi => exact .map i (by omega)
  | yield i hi => exact .yield i (by omega)
  | func g a a' c c' ha _ hc _ ih1 ih2 => exact .func g a a' c c' ha ih1 hc ih2
  | agg l l' hl _ ih => exact .agg l l' hl ih
  | tuple l l' hl _ ih => exact .tuple l l' hl ih
theorem selfB_at {n n' : Nat} (hn : n ≤ n') {b : Blk} (h : selfB n b = true) : b = .dead ∨ RnB true (fun i => (i, 0)) n' b b 0 := by
  cases b with
  | dead => exact .inl rfl
  | cells t vs =>
    right
    have hv : ∀ v ∈ vs, selfV n v = true := fun v hv => List.all_eq_true.1 (show vs.all _ = true from h) v hv
    refine .cells t vs vs 0 ⟨by simp, fun j x y hx hy => ?_⟩
    have : (vs.drop 0).take vs.length = vs := by simp
    rw [this, hx] at hy
    cases hy
    exact Rn.more hn (selfV_sound (hv x (List.mem_of_getElem? hx)))
  | map kt es => exact .inr (.map kt es)
  | _ => cases h

/-- The first blocks alone; one of them, a map with stamps, may be looked at without. -/
theorem Wk.cut {x : List Blk} (hL : L ≤ h2.length) (hb : base ≤ h2.length) (hat : ∀ (i : Nat) (b : Blk), h2[i]? = some b → At true (fun i => (i, 0)) h2.length (h ++ x) i b)
    (ht : LRn true (fun i => (i, 0)) h2.length a2.tmps a.tmps) (hm : a.marks = []) (hm2 : a2.marks = []) : Wk P base L a (h ++ x) a2 h2 :=
  Wk.ren (fun i => i) (fun i _ => rfl) hL hb (fun i j _ _ e => e) (fun i _ => Iff.rfl) (ats_of fun j b hj => by rw [Nat.zero_add]; exact hat j b hj) ht (by rw [hm, hm2]; rfl) (by rw [hm2]; intro m hm; cases hm)

/-- What a function has laid, and what leads nowhere, is forgotten. -/
theorem ImpSim.cut {g : FuncId} {args : List Value} {h' x : List Blk} (hI : ImpSim P g args base h v (h' ++ x)) (hl : h'.length = h.length) (hv : isFlat v = true) (hself : h'.all (selfB h'.length) = true) : ImpSim P g args base h v h' := by
  refine ⟨hI.1, fun D β κ N w args' hD hb hR hargs => Calls.mono (hI.2 D β κ N w args' hD hb hR hargs) ?_⟩
  rintro e w' ⟨v', β', κ', rfl, hO, hvr⟩
  have hw : Wk P base h.length { tmps := [] } (h' ++ x) { tmps := [] } h' := Wk.cut (by omega) (by omega) (fun i b hb => by
    rcases selfB_at (Nat.le_refl _) (List.all_eq_true.1 hself b (List.mem_of_getElem? hb)) with e | hr
    · exact .inl e
    · refine .inr ⟨b, ?_, hr⟩
      have := (List.getElem?_eq_some_iff.1 hb).1
      show (h' ++ x)[i]? = some b
      rw [List.getElem?_append_left this]
      exact hb) .nil rfl rfl
  obtain ⟨D2, β2, κ2, f⟩ := hw N D β' κ' { tmps := #[], defers := [] } w' ⟨Up D h (h' ++ x), β', κ', fun i hi => hO.known hD i hi, by simp; omega, by simp; omega, hO.rel, ⟨.nil, rfl, fun m hm => by cases hm⟩, fun i hi => ⟨⟨fun h => h.elim id (fun h => by omega), .inl⟩, rfl, rfl⟩⟩
  refine ⟨v', β2, κ2, rfl, ⟨by omega, fun i hi => ?_, ?_, hO.below⟩, ?_⟩
  · have := (f.ext i hi).2
    rw [this.1, this.2]
    exact hO.ext i hi
  · have : Up D h h' = D2 := by
      funext i
      apply propext
      constructor
      · rintro (hi | hi)
        · exact (f.ext i (hD i hi)).1.2 hi
        · omega
      · intro hi
        have h2 : i < h'.length := f.dom i hi
        exact .inl ((f.ext i (by omega)).1.1 hi)
    rw [this]
    exact f.rel
  · rw [hvr.flat hv]
    exact .of_flat hv
end
end Go.Cl
