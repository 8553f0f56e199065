/- The framework, Ts11 to Ts14. -/
import Derived.Test.YtfebcljpgcahbaaGreatTs8
import Derived.KernelRfl
/- A table of answers that holds in any heap: blocks are called by the order in which the arguments lead to them. -/
set_option linter.unusedVariables false
namespace Go.Cl
open Go Go.RowKit

def rnLeaf (f : Nat → Nat) (n : Nat) : Value → Value → Bool
  | .pointer (some ⟨i, o, none⟩), .pointer (some ⟨b, o', none⟩) => decide (i < n) && f i == b && o == o'
  | .slice (some ⟨i, o, none⟩) l c, .slice (some ⟨b, o', none⟩) l' c' => decide (i < n) && f i == b && o == o' && l == l' && c == c'
  | .map (some i), .map (some b) => decide (i < n) && f i == b
  | a, b => leafFlat a && eqLeafV a b
def rn1 (f : Nat → Nat) (n : Nat) : Value → Value → Bool
  | .agg a, .agg b => eqList (rnLeaf f n) a.toList b.toList
  | a, b => rnLeaf f n a b
def rn2 (f : Nat → Nat) (n : Nat) : Value → Value → Bool
  | .tuple a, .tuple b => eqList (rn1 f n) a.toList b.toList
  | a, b => rn1 f n a b

section
variable {p : Bool} {f : Nat → Nat} {n : Nat}
theorem rnLeaf_sound {a b : Value} (h : rnLeaf f n a b = true) : Rn p (fun i => (f i, 0)) n a b := by
  unfold rnLeaf at h
  split at h
  · rename_i i o b o'
    simp only [Bool.and_eq_true, decide_eq_true_eq, beq_iff_eq] at h
    obtain ⟨⟨h1, rfl⟩, rfl⟩ := h
    exact .ptr i o _ h1 (by simp)
  · rename_i i o l c b o' l' c'
    simp only [Bool.and_eq_true, decide_eq_true_eq, beq_iff_eq] at h
    obtain ⟨⟨⟨⟨h1, rfl⟩, rfl⟩, rfl⟩, rfl⟩ := h
    exact .slice0 i o l c h1 rfl
  · rename_i i b
    simp only [Bool.and_eq_true, decide_eq_true_eq, beq_iff_eq] at h
    obtain ⟨h1, rfl⟩ := h
    exact .map i h1
  · simp only [Bool.and_eq_true] at h
    rw [← eqLeafV_sound h.2]
    exact .flat (flat_of_leaf h.1)
theorem lrn_of {g : Value → Value → Bool} (hg : ∀ a b, g a b = true → Rn p (fun i => (f i, 0)) n a b) : ∀ {l m : List Value}, eqList g l m = true → LRn p (fun i => (f i, 0)) n l m
  | [], [], _ => .nil
  | a :: l, b :: m, h => by
    simp only [eqList, Bool.and_eq_true] at h
    exact .cons (hg a b h.1) (lrn_of hg h.2)
  | [], _ :: _, h => by cases h
  | _ :: _, [], h => by cases h
theorem rn1_sound {a b : Value} (h : rn1 f n a b = true) : Rn p (fun i => (f i, 0)) n a b := by
  unfold rn1 at h
  split at h
  · rename_i a b
    obtain ⟨a⟩ := a
    obtain ⟨b⟩ := b
    exact .agg' (lrn_of (f := f) (n := n) (fun _ _ => rnLeaf_sound) h)
  · exact rnLeaf_sound h
theorem rn2_sound {a b : Value} (h : rn2 f n a b = true) : Rn p (fun i => (f i, 0)) n a b := by
  unfold rn2 at h
  split at h
  · rename_i a b
    obtain ⟨a⟩ := a
    obtain ⟨b⟩ := b
    exact .tuple' (lrn_of (f := f) (n := n) (fun _ _ => rn1_sound) h)
  · exact rn1_sound h
theorem RnB.flat {b : Blk} (h : blkFlat b = true) : RnB p (fun i => (f i, 0)) n b b 0 := by
  cases b with
  | cells t vs => exact RnB.same (fun v hv => List.all_eq_true.1 (show vs.all isFlat = true from h) v hv)
  | map kt es => exact .map kt es
  | _ => cases h
end

def goodB : Blk → Bool
  | .dead => true
  | b => blkFlat b
theorem goodB_spec {b : Blk} (h : goodB b = true) : b = .dead ∨ blkFlat b = true := by
  cases b with
  | dead => exact .inl rfl
  | _ => exact .inr h

def idOf (ids : List Nat) (i : Nat) : Nat := ids.getD i 0
def backOf (ids : List Nat) (m i : Nat) : Nat := if i < ids.length then ids.getD i 0 else m + (i - ids.length)

theorem ats_of {f : Nat → Nat × Nat} {n : Nat} {h : List Blk} : ∀ {l : List Blk} {i : Nat}, (∀ j b, l[j]? = some b → At true f n h (i + j) b) → Ats true f n h i l
  | [], i, _ => .nil i
  | b :: l, i, hb => .cons (hb 0 b rfl) (ats_of fun j b' hj => by have := hb (j + 1) b' (by simpa using hj); rwa [show i + (j + 1) = i + 1 + j by omega] at this)

/-- The table is asked by the arguments' own numbering. -/
def lookR (T : List Entry) (g : FuncId) (args : List Value) (h : List Blk) : Option (Value × List Blk) :=
  let ids := (args.flatMap (refs 0)).eraseDups
  let argsc := args.map (renV fun b => ids.idxOf b)
  let hc := ids.map fun b => h.getD b .dead
  if hc.all goodB && eqList (rn2 (idOf ids) hc.length) argsc args then
    match look T g argsc hc with
    | none => none
    | some (vc, new) =>
      let v := renV (backOf ids h.length) vc
      if new.all goodB && rn2 (backOf ids h.length) (hc.length + new.length) vc v then some (v, new) else none
  else none

def tableSumR (T : List Entry) (g : FuncId) : Option (List Value → List Blk → Option (Value × List Blk)) :=
  if T.any fun e => e.g == g then some (lookR T g) else none

theorem lookR_sound {P : Program} {T : List Entry} {g : FuncId} {args : List Value} {h new : List Blk} {v : Value} (hT : ∀ e ∈ T, PureSim P e.g e.args e.h e.v e.new) (hl : lookR T g args h = some (v, new)) : PureSim P g args h v new := by
  unfold lookR at hl
  simp only at hl
  generalize (args.flatMap (refs 0)).eraseDups = ids at hl
  generalize args.map (renV fun b => ids.idxOf b) = argsc at hl
  split at hl
  · rename_i hc
    rw [Bool.and_eq_true] at hc
    obtain ⟨hg, ha⟩ := hc
    split at hl
    · cases hl
    · rename_i vc new' hlk
      split at hl
      · rename_i hc2
        rw [Bool.and_eq_true] at hc2
        obtain ⟨hn, hv⟩ := hc2
        cases hl
        have hP := look_sound hT hlk
        refine PureSim.ren (fun i => (idOf ids i, 0)) hP (ats_of fun j b hj => ?_) (lrn_of (f := idOf ids) (fun _ _ => rn2_sound) ha) ?_ (fun b hb => goodB_spec (List.all_eq_true.1 hn b hb))
        · rw [Nat.zero_add]
          rw [List.getElem?_map] at hj
          cases hi : ids[j]? with
          | none => rw [hi] at hj; cases hj
          | some x =>
            rw [hi] at hj
            cases hj
            have hgood := goodB_spec (List.all_eq_true.1 hg (h.getD x .dead) (List.mem_map.2 ⟨x, List.mem_of_getElem? hi, rfl⟩))
            rcases hgood with e | hf
            · exact .inl e
            · have hid : idOf ids j = x := by simp [idOf, List.getD, hi]
              refine .inr ⟨h.getD x .dead, ?_, RnB.flat hf⟩
              show h[idOf ids j]? = _
              rw [hid]
              cases hx : h[x]? with
              | none => rw [show h.getD x Blk.dead = Blk.dead by simp [List.getD, hx]] at hf; cases hf
              | some b => simp [List.getD, hx]
        · have hlen : (ids.map fun b => h.getD b Blk.dead).length = ids.length := by simp
          have : (fun i => if i < (ids.map fun b => h.getD b Blk.dead).length then (idOf ids i, 0) else (h.length + (i - (ids.map fun b => h.getD b Blk.dead).length), 0)) = fun i => (backOf ids h.length i, 0) := by
            funext i
            rw [hlen]
            unfold backOf idOf
            split <;> rfl
          rw [this]
          exact rn2_sound hv
      · cases hl
  · cases hl

theorem tableR_okI {E : Env} {T : List Entry} (hE : E.sum = tableSumR T) (hT : ∀ e ∈ T, PureSim E.P e.g e.args e.h e.v e.new) (hI : ∀ g s args base h v h1, E.isum g = some s → s args base h = some (v, h1) → ImpSim E.P g args base h v h1) : SumOk E := by
  refine ⟨fun g s args h v new hs hv => ?_, hI⟩
  rw [hE] at hs
  unfold tableSumR at hs
  split at hs
  · cases hs; exact lookR_sound hT hv
  · cases hs
theorem tableR_ok {E : Env} {T : List Entry} (hE : E.sum = tableSumR T) (hT : ∀ e ∈ T, PureSim E.P e.g e.args e.h e.v e.new) (hI : E.isum = fun _ => none := by rfl) : SumOk E :=
  tableR_okI hE hT fun g s args base h v h1 hs => by rw [hI] at hs; cases hs

/-! ### Functions that write what came in, out of their bodies -/
theorem ImpSim.of_TS {P : Program} {g : FuncId} {args : List Value} {base : Nat} {h h1 : List Blk} {v : Value} {fn : Func} {c : Code} (hfn : P.funcs[g]? = some fn) (hc : fn.body = some c)
    (hname : (fn.name == "runtime.NumGoroutine") = false) (hl : h.length ≤ h1.length)
    (ht : TS P base h.length c { tmps := args ++ List.replicate (fn.ntmps - args.length) undef } h
      fun e a1 h2 => (e = .normal ∨ e = .ret) ∧ a1.marks = [] ∧ h2 = h1 ∧ cResults P fn a1 h2 = some v) : ImpSim P g args base h v h1 := by
  refine ⟨⟨fn, c, hfn, hc, hname⟩, fun D β κ N w args' hD hb hR hargs => ?_⟩
  have start : ActR D β κ { tmps := args ++ List.replicate (fn.ntmps - args.length) undef } { tmps := (⟨args'⟩ : Array Value) ++ Array.replicate (fn.ntmps - (⟨args'⟩ : Array Value).size) undef, defers := [] } := by
    refine ⟨?_, rfl, fun m hm => by simp at hm⟩
    have := hargs.app (LR.rep (fn.ntmps - args.length) (VR.undef (D := D) (β := β) (κ := κ)))
    rw [hargs.len] at this ⊢
    simpa using this
  refine callsIn_FW.1 (callsIn_of_wp_marks (F := FW none) (n := 0) hfn hc trivial ?_)
  refine ht N D β κ none (.inl rfl) w w _ _ ⟨D, β, κ, hD, hb, Nat.le_refl _, hR, start, fun i _ => ⟨Iff.rfl, rfl, rfl⟩⟩ (Held.refl _ _) fun e a1 h2 a1' w1 hp hf hbl => ?_
  obtain ⟨he, hm, rfl, hres⟩ := hp
  obtain ⟨D1, β1, κ1, hf⟩ := hf
  obtain ⟨v', h3, h4⟩ := results_sim hf.rel hf.act hres
  have hsub : ∀ i, D1 i → Up D h h2 i := fun i hi => by
    by_cases hil : i < h.length
    · exact .inl ((hf.ext i hil).1.1 hi)
    · exact .inr ⟨by omega, hf.dom i hi⟩
  have hO : Out P D β κ base N h w h2 w1 β1 κ1 := {
    le := hl
    ext := fun i hi => (hf.ext i hi).2
    rel := { blk := fun i => (hf.rel.blk i).move hsub Ext.refl rfl rfl, ro := hf.rel.ro, own := hf.rel.own, inj := hf.rel.inj, size := hf.rel.size }
    below := hbl }
  have leaves : LeavesInM (FW none) 0 P fn a1'.tmps (fun e w' => ∃ v' β' κ', e = .returned v' ∧ Out P D β κ base N h w h2 w' β' κ' ∧ VR (Up D h h2) β' κ' v v') a1'.defers .returning w1 := by
    rw [hf.act.marks, hm]
    exact ⟨v', h3, v', _, _, rfl, hO, h4.mono hsub Ext.refl⟩
  rcases he with rfl | rfl <;> exact leaves
end Go.Cl
/- Regions over a heap that is not written out; states cut back to their first blocks. -/
set_option linter.unusedVariables false
namespace Go.Cl
open Go Go.RowKit

section
variable {P : Program} {base L : Nat} {c : Code} {a a1 a2 : CAct} {h h1 h2 : List Blk} {Φ : Post} {ops : Array Oper} {j : Nat} {Ψ : CAct → List Blk → Prop} {v : Value}

theorem Wk.tm (keep : List Nat) : Wk P base L a h (maskA keep a) h := by
  rintro N D0 β0 κ0 a' w ⟨D, β, κ, hf⟩
  exact ⟨D, β, κ, hf.dom, hf.bl, hf.ll, hf.rel, ⟨maskL_lr hf.act.tmps, hf.act.marks, hf.act.known⟩, hf.ext⟩
theorem TI.val (keep : List Nat) (hq : qAt P base ops j a h = some { val := v }) (hs : maskA keep (putAt ops j a v) = a2) (ht : TI P base L ops (j + 1) a2 h Ψ) : TI P base L ops j a h Ψ :=
  TI.one (h1 := h) hq rfl (by simp [QRes.heap]) (TI.weak (Wk.tm keep) (by rw [hs]; exact ht))
theorem TI.new1 {b : Blk} (keep : List Nat) (hq : qAt P base ops j a h = some { val := v, new := [b] }) (hs : maskA keep (putAt ops j a v) = a2) (ht : TI P base L ops (j + 1) a2 (h ++ [b]) Ψ) : TI P base L ops j a h Ψ :=
  TI.one (h1 := h ++ [b]) hq rfl (by simp [QRes.heap]) (TI.weak (Wk.tm keep) (by rw [hs]; exact ht))
theorem TI.upd1 {k : Nat} {b : Blk} (keep : List Nat) (hq : qAt P base ops j a h = some { val := v, upd := some (k, b) }) (hs : maskA keep (putAt ops j a v) = a2) (ht : TI P base L ops (j + 1) a2 (h.set k b) Ψ) : TI P base L ops j a h Ψ :=
  TI.one (h1 := h.set k b) hq rfl (by simp [QRes.heap]) (TI.weak (Wk.tm keep) (by rw [hs]; exact ht))
theorem TI.pcall {g : FuncId} {args : List Value} (keep : List Nat) (hc : callAt ops j a = some (g, args)) (hP : PureSim P g args h v []) (hs : maskA keep (putAt ops j a v) = a2) (ht : TI P base L ops (j + 1) a2 h Ψ) : TI P base L ops j a h Ψ :=
  TI.call hc hP rfl (List.append_nil h) (TI.weak (Wk.tm keep) (by rw [hs]; exact ht))
theorem TI.icallT {g : FuncId} {args : List Value} (keep : List Nat) (hc : callAt ops j a = some (g, args)) (hP : ImpSim P g args base h v h1) (hs : maskA keep (putAt ops j a v) = a2) (ht : TI P base L ops (j + 1) a2 h1 Ψ) : TI P base L ops j a h Ψ :=
  TI.icall hc hP rfl (TI.weak (Wk.tm keep) (by rw [hs]; exact ht))

theorem cLoad_one {t : TypeId} {i o : Nat} {T : TypeId} {vs : List Value} (hb : h[i]? = some (.cells T vs)) (ha : aggT P t = some false) (hv : vs[o]? = some v) : cLoad P h t (.pointer (some ⟨i, o, none⟩)) = some v := by
  simp [cLoad, hb, ha, hv]
theorem cLoad_agg {t : TypeId} {i n : Nat} {T : TypeId} {vs : List Value} (hb : h[i]? = some (.cells T vs)) (ha : aggT P t = some true) (hn : sizeT P t = some n) (hl : vs.length = n) : cLoad P h t (.pointer (some ⟨i, 0, none⟩)) = some (.agg ⟨vs⟩) := by
  subst hl
  simp [cLoad, hb, ha, hn]
theorem cStore_pair {t : TypeId} {i : Nat} {T : TypeId} {z w : Value} {k : IntKind} {x : Int} {y : Bool} (hb : h[i]? = some (.cells T [z, w])) (hbase : base ≤ i) (hs : sizeT P t = some 2) :
    cStore P base h t (.pointer (some ⟨i, 0, none⟩)) (.agg ⟨[.int k x, .bool y]⟩) = some { val := undef, upd := some (i, .cells T [.int k x, .bool y]) } := by
  simp [cStore, cStoreAt, hb, hs, okPart, Value.cells, cellOk, hbase]

/-- Does a value lead to blocks below n alone? -/
def selfV (n : Nat) : Value → Bool
  | .func (.func _) ⟨a⟩ ⟨c⟩ => eqList (rn1 (fun i => i) n) a a && eqList (rn1 (fun i => i) n) c c
  | v => rn2 (fun i => i) n v v
theorem selfV_sound {p : Bool} {n : Nat} {v : Value} (h : selfV n v = true) : Rn p (fun i => (i, 0)) n v v := by
  unfold selfV at h
  split at h
  · rw [Bool.and_eq_true] at h
    exact .func' (lrn_of (f := fun i => i) (fun _ _ => rn1_sound) h.1) (lrn_of (f := fun i => i) (fun _ _ => rn1_sound) h.2)
  · exact rn2_sound h
/-- Does a block lead to blocks below n alone? -/
def selfB (n : Nat) : Blk → Bool
  | .dead => true
  | .cells _ vs => vs.all fun v => selfV n v
  | .map _ _ => true
  | _ => false
theorem Rn.more {p : Bool} {f : Nat → Nat × Nat} {n n' : Nat} (hn : n ≤ n') {x y : Value} (h : Rn p f n x y) : Rn p f n' x y := by
  induction h with
  | flat h => exact .flat h
  | poison v h => exact .poison v h
  | ptr i o o' hi ho => exact .ptr i o o' (by omega) ho
  | slice i o o' l c hi ho hc => exact .slice i o o' l c (by omega) ho hc
  | slice0 i o l c hi h0 => exact .slice0 i o l c (by omega) h0
  | any i o o' l c C hi ho hp hC => exact .any i o o' l c C (by omega) ho hp hC
  | anyN i o C hp hC => exact .anyN i o C hp hC
  | zN i o hp => exact .zN i o hp
  | map i hi => exact .map i (by omega)
  | yield i hi => exact .yield i (by omega)
  | func g a a' c c' ha _ hc _ ih1 ih2 => exact .func g a a' c c' ha ih1 hc ih2
  | agg l l' hl _ ih => exact .agg l l' hl ih
  | tuple l l' hl _ ih => exact .tuple l l' hl ih
theorem selfB_at {n n' : Nat} (hn : n ≤ n') {b : Blk} (h : selfB n b = true) : b = .dead ∨ RnB true (fun i => (i, 0)) n' b b 0 := by
  cases b with
  | dead => exact .inl rfl
  | cells t vs =>
    right
    have hv : ∀ v ∈ vs, selfV n v = true := fun v hv => List.all_eq_true.1 (show vs.all _ = true from h) v hv
    refine .cells t vs vs 0 ⟨by simp, fun j x y hx hy => ?_⟩
    have : (vs.drop 0).take vs.length = vs := by simp
    rw [this, hx] at hy
    cases hy
    exact Rn.more hn (selfV_sound (hv x (List.mem_of_getElem? hx)))
  | map kt es => exact .inr (.map kt es)
  | _ => cases h

/-- The first blocks alone; one of them, a map with stamps, may be looked at without. -/
theorem Wk.cut {x : List Blk} (hL : L ≤ h2.length) (hb : base ≤ h2.length) (hat : ∀ (i : Nat) (b : Blk), h2[i]? = some b → At true (fun i => (i, 0)) h2.length (h ++ x) i b)
    (ht : LRn true (fun i => (i, 0)) h2.length a2.tmps a.tmps) (hm : a.marks = []) (hm2 : a2.marks = []) : Wk P base L a (h ++ x) a2 h2 :=
  Wk.ren (fun i => i) (fun i _ => rfl) hL hb (fun i j _ _ e => e) (fun i _ => Iff.rfl) (ats_of fun j b hj => by rw [Nat.zero_add]; exact hat j b hj) ht (by rw [hm, hm2]; rfl) (by rw [hm2]; intro m hm; cases hm)

/-- What a function has laid, and what leads nowhere, is forgotten. -/
theorem ImpSim.cut {g : FuncId} {args : List Value} {h' x : List Blk} (hI : ImpSim P g args base h v (h' ++ x)) (hl : h'.length = h.length) (hv : isFlat v = true) (hself : h'.all (selfB h'.length) = true) : ImpSim P g args base h v h' := by
  refine ⟨hI.1, fun D β κ N w args' hD hb hR hargs => Calls.mono (hI.2 D β κ N w args' hD hb hR hargs) ?_⟩
  rintro e w' ⟨v', β', κ', rfl, hO, hvr⟩
  have hw : Wk P base h.length { tmps := [] } (h' ++ x) { tmps := [] } h' := Wk.cut (by omega) (by omega) (fun i b hb => by
    rcases selfB_at (Nat.le_refl _) (List.all_eq_true.1 hself b (List.mem_of_getElem? hb)) with e | hr
    · exact .inl e
    · refine .inr ⟨b, ?_, hr⟩
      have := (List.getElem?_eq_some_iff.1 hb).1
      show (h' ++ x)[i]? = some b
      rw [List.getElem?_append_left this]
      exact hb) .nil rfl rfl
  obtain ⟨D2, β2, κ2, f⟩ := hw N D β' κ' { tmps := #[], defers := [] } w' ⟨Up D h (h' ++ x), β', κ', fun i hi => hO.known hD i hi, by simp; omega, by simp; omega, hO.rel, ⟨.nil, rfl, fun m hm => by cases hm⟩, fun i hi => ⟨⟨fun h => h.elim id (fun h => by omega), .inl⟩, rfl, rfl⟩⟩
  refine ⟨v', β2, κ2, rfl, ⟨by omega, fun i hi => ?_, ?_, hO.below⟩, ?_⟩
  · have := (f.ext i hi).2
    rw [this.1, this.2]
    exact hO.ext i hi
  · have : Up D h h' = D2 := by
      funext i
      apply propext
      constructor
      · rintro (hi | hi)
        · exact (f.ext i (hD i hi)).1.2 hi
        · omega
      · intro hi
        have h2 : i < h'.length := f.dom i hi
        exact .inl ((f.ext i (by omega)).1.1 hi)
    rw [this]
    exact f.rel
  · rw [hvr.flat hv]
    exact .of_flat hv
end
end Go.Cl
/- What a function that writes one list does, wherever the list lies. -/
set_option linter.unusedVariables false
namespace Go.Cl
open Go Go.RowKit

theorem BR.any {P : Program} {D D' : Nat → Prop} {β β' : Nat → Nat × Nat} {κ κ' : Nat → Nat} {i j : Nat} {b : Blk} {w : World} (hf : blkFlat b = true) (hi : β' j = β i) (h : BR P D β κ i b w) : BR P D' β' κ' j b w := by
  cases b with
  | cells t vs =>
    obtain ⟨arr, T, fz, h1, h2⟩ := h
    refine ⟨arr, T, fz, by rw [hi]; exact h1, fun k v hv => ?_⟩
    obtain ⟨v', h3, h4⟩ := h2 k v hv
    have hfv : isFlat v = true := List.all_eq_true.1 (show vs.all isFlat = true from hf) v (List.mem_of_getElem? hv)
    refine ⟨v', by rw [hi]; exact h3, ?_⟩
    rw [h4.flat hfv]
    exact .of_flat hfv
  | map kt es =>
    obtain ⟨arr, clock, h1, h2⟩ := h
    exact ⟨arr, clock, by rw [hi]; exact h1, h2⟩
  | _ => cases hf
theorem OwnB.any {P : Program} {β β' : Nat → Nat × Nat} {κ κ' : Nat → Nat} {i j : Nat} {b : Blk} {w : World} (hi : β' j = β i) (hk : κ' j = κ i) (h : OwnB P β κ i b w) : OwnB P β' κ' j b w := by
  cases b with
  | cells t vs =>
    obtain ⟨arr, T, h1, h2⟩ := h
    exact ⟨arr, T, by rw [hi]; exact h1, fun s hs => by rw [hi, hk]; exact h2 s hs⟩
  | _ => trivial

/-- A function that writes the one block that it is given, where all else that may be written is forgotten. -/
theorem ImpSim.ren1 {P : Program} {g : FuncId} {argsc args : List Value} {base k : Nat} {h : List Blk} {b b' : Blk} {v : Value} (hP : ImpSim P g argsc 0 [b] v [b']) (hb : h[k]? = some b) (hk : base ≤ k)
    (hoth : ∀ i, i ≠ k → base ≤ i → toF h i = .dead) (hf : blkFlat b = true) (hf' : blkFlat b' = true) (ha : LRn true (fun _ => (k, 0)) 1 argsc args) (hv : isFlat v = true) : ImpSim P g args base h v (h.set k b') := by
  have hkl : k < h.length := (List.getElem?_eq_some_iff.1 hb).1
  have hal : ∀ {c : Blk}, blkFlat c = true → c ≠ .dead := fun hc e => by rw [e] at hc; cases hc
  have hz : ∀ {c : Blk} {i : Nat}, toF [c] i ≠ .dead → i = 0 := fun {c i} hi => by
    cases i with
    | zero => rfl
    | succ i => exact absurd (by simp [toF, List.getD]) hi
  have hs : ∀ i, toF (h.set k b') i = if i = k then b' else toF h i := fun i => by
    unfold toF
    by_cases hi : i = k
    · subst hi; simp [List.getD, hkl]
    · rw [if_neg hi]; simp only [List.getD, List.getElem?_set, if_neg (fun e : k = i => hi e.symm)]
  refine ⟨hP.1, fun D β κ N w args' hD hbl hR hargs => ?_⟩
  have hn : Num (fun _ => (k, 0)) 1 D β κ (fun i => i = 0 ∧ D k) (fun _ => β k) (fun _ => κ k) :=
    ⟨fun i hi => ⟨fun x => x.2, fun x => ⟨by omega, x⟩⟩, fun i hi => rfl, fun i hi _ => rfl⟩
  have hBk : BR P D β κ k b w := by have := hR.blk k; rwa [toF_some hb] at this
  have hOk : N.free (β k).1 ∧ OwnB P β κ k b w := by have := hR.own k (by rw [toF_some hb]; exact hal hf) hk; rwa [toF_some hb] at this
  have hRc : Rel P (fun i => i = 0 ∧ D k) (fun _ => β k) (fun _ => κ k) 0 N (toF [b]) w := by
    refine ⟨fun i => ?_, fun i _ hi => absurd hi (Nat.not_lt_zero i), fun i hi _ => ?_, fun i j hi hj _ _ _ => (hz hi).trans (hz hj).symm, hR.size⟩
    · cases i with
      | zero => exact BR.any hf rfl hBk
      | succ i => trivial
    · have := hz hi
      subst this
      exact ⟨hOk.1, OwnB.any rfl rfl hOk.2⟩
  refine Calls.mono (hP.2 _ _ _ N w args' (fun i hi => by rw [hi.1]; exact Nat.one_pos) (Nat.zero_le _) hRc (ha.lr hn hargs)) ?_
  rintro e w' ⟨v', β', κ', rfl, hO, hvr⟩
  have he := hO.ext 0 Nat.one_pos
  have hU : Up D h (h.set k b') = D := Out.up_same (by simp)
  have hOw := hO.rel.own 0 (hal hf') (Nat.zero_le _)
  rw [hvr.flat hv]
  refine ⟨v, β, κ, rfl, ⟨by simp, fun i _ => ⟨rfl, rfl⟩, ?_, hO.below⟩, .of_flat hv⟩
  rw [hU]
  refine ⟨fun i => ?_, fun i hi hib => ?_, fun i hi hib => ?_, fun i j hi hj hib hjb _ => ?_, hO.rel.size⟩
  · rw [hs]
    split
    · rename_i e; subst e
      exact BR.any hf' he.1.symm (hO.rel.blk 0)
    · rename_i e
      by_cases hd : toF h i = .dead
      · rw [hd]; trivial
      · by_cases hib : i < base
        · exact (hR.blk i).move (fun _ x => x) Ext.refl rfl (hO.below.block _ (hR.ro i hd hib))
        · exact absurd (hoth i e (by omega)) hd
  · rw [hs, if_neg (by omega)] at hi
    exact hR.ro i hi hib
  · rw [hs] at hi ⊢
    split
    · rename_i e; subst e
      refine ⟨?_, OwnB.any he.1.symm he.2.symm hOw.2⟩
      have := hOw.1
      rwa [he.1] at this
    · rename_i e
      rw [if_neg e] at hi
      exact absurd (hoth i e hib) hi
  · have one : ∀ i, toF (h.set k b') i ≠ .dead → base ≤ i → i = k := fun i hi hib => by
      by_cases e : i = k
      · exact e
      · rw [hs, if_neg e] at hi
        exact absurd (hoth i e hib) hi
    exact (one i hi hib).trans (one j hj hjb).symm
end Go.Cl
/- Shorter rules for printed texts: code by its places, states only where they are needed. -/
set_option linter.unusedVariables false
namespace Go.Cl
open Go Go.RowKit

abbrev iv (x : Int) : Value := .int .i64 x
abbrev pt (b o : Nat) : Value := .pointer (some ⟨b, o, none⟩)
abbrev ag (l : List Value) : Value := .agg ⟨l⟩
abbrev cl (t : Nat) (l : List Value) : Blk := .cells t l
abbrev qs (a : CAct) (h : List Blk) (o : List (Nat × Nat × Nat)) (u : List (Nat × Nat)) : QSt := { act := a, heap := h, own := o, upds := u }
theorem accE {p : Bool} {f : Nat → Nat × Nat} {n i i' c c' : Nat} (hi : i < n) (hf : f i = (i', 0)) (hc : c = c') : Rn p f n (accV i c) (accV i' c') := hc ▸ Rn.acc hi hf
theorem accAE {f : Nat → Nat × Nat} {n i i' c c' : Nat} (hi : i < n) (hf : f i = (i', 0)) (hc : c = c') : Rn true f n (.slice (some ⟨i, 0, none⟩) c ANY) (accV i' c') := hc ▸ Rn.accA hi hf

section
variable {P : Program} {base L : Nat} {c : Code} {a a1 a2 : CAct} {h h1 h2 new : List Blk} {Φ : Post} {K : List Fr} {ops : Array Oper} {j : Nat} {Ψ : CAct → List Blk → Prop} {q : QRes} {v : Value}

theorem TS.seqP (hc : c = .seq c.s1 c.s2) (ht : TS P base L c.s1 a h (NX P base L (.sq c.s2 :: K) Φ)) : TS P base L c a h (NX P base L K Φ) := TS.seq' hc ht
theorem TS.blockP {id : Nat} (hc : c = .block id c.bd) (ht : TS P base L c.bd a h (NX P base L (.bk id :: K) Φ)) : TS P base L c a h (NX P base L K Φ) := TS.block' hc ht
theorem TS.condP {o : Operand} {b : Bool} (hc : c = .cond o c.th c.el) (hv : a.eval o = .bool b) (ht : b = true → TS P base L c.th a h Φ) (hf : b = false → TS P base L c.el a h Φ) : TS P base L c a h Φ := TS.cond' hc hv ht hf
theorem TS.condTP {o : Operand} (hc : c = .cond o c.th c.el) (hv : a.eval o = .bool true) (ht : TS P base L c.th a h Φ) : TS P base L c a h Φ := TS.condT' hc hv ht
theorem TS.condFP {o : Operand} (hc : c = .cond o c.th c.el) (hv : a.eval o = .bool false) (ht : TS P base L c.el a h Φ) : TS P base L c a h Φ := TS.condF' hc hv ht
theorem TS.condKTP {o : Operand} {b : Bool} (hc : c = .cond o c.th c.el) (hv : a.eval o = .bool b) (hb : b = true) (ht : TS P base L c.th a h Φ) : TS P base L c a h Φ := TS.condKT' hc hv hb ht
theorem TS.condKFP {o : Operand} {b : Bool} (hc : c = .cond o c.th c.el) (hv : a.eval o = .bool b) (hb : b = false) (ht : TS P base L c.el a h Φ) : TS P base L c a h Φ := TS.condKF' hc hv hb ht
theorem TS.loopP (hc : c = .loop c.bd) (ht : TL P base L c.bd a h Φ) : TS P base L c a h Φ := TS.loop' hc ht
theorem TS.scopeP (hc : c = .scope c.bd) (ht : TS P base L c.bd a h (NX P base L (.sc :: K) Φ)) : TS P base L c a h (NX P base L K Φ) := TS.scope' hc ht
def Code.isReg (b : Bool) : Code → Bool | .region _ _ b' => b == b' | _ => false
theorem Code.isReg_spec {b : Bool} (hc : Code.isReg b c = true) : ∃ id, c = .region id c.rops b := by
  cases c with
  | region id ops b' =>
    have : b = b' := by simpa [Code.isReg] using hc
    exact ⟨id, by rw [this]; rfl⟩
  | _ => cases hc
theorem TS.regionP (hc : Code.isReg false c = true) (ht : TI P base L c.rops 0 a h (NX P base L K Φ .normal)) : TS P base L c a h (NX P base L K Φ) := by
  obtain ⟨id, hc⟩ := Code.isReg_spec hc
  exact TS.region' hc rfl ht

theorem maskH_all {keep : List Nat} : ∀ {l : List Blk} {i : Nat}, (∀ j, j < l.length → i + j ∈ keep) → maskH keep i l = l
  | [], i, _ => rfl
  | b :: l, i, hk => by
    unfold maskH
    rw [maskH_all (l := l) (i := i + 1) (fun j hj => by have := hk (j + 1) (by simpa using hj); rwa [Nat.add_assoc, Nat.add_comm 1 j])]
    have := hk 0 (by simp)
    simp only [Nat.add_zero] at this
    simp [this]

/-- k operations that leave the heap as it is. -/
theorem TI.runA (k : Nat) (keep : List Nat) (hs : (runK P base ops j k a h).map (fun p => (maskA keep p.1, p.2)) = some (a2, h)) (ht : TI P base L ops (j + k) a2 h Ψ) : TI P base L ops j a h Ψ := by
  cases hr : runK P base ops j k a h with
  | none => rw [hr] at hs; cases hs
  | some p =>
    rw [hr] at hs
    have e := Option.some.inj hs
    have e1 : maskA keep p.1 = a2 := congrArg Prod.fst e
    have e2 : p.2 = h := congrArg Prod.snd e
    refine TI.bulk k (a1 := p.1) (h1 := p.2) hr (TI.weak (a2 := maskA keep p.1) (h2 := p.2) ?_ ?_)
    · rintro N D0 β0 κ0 a' w ⟨D, β, κ, hf⟩
      exact ⟨D, β, κ, hf.dom, hf.bl, hf.ll, hf.rel, ⟨maskL_lr hf.act.tmps, hf.act.marks, hf.act.known⟩, hf.ext⟩
    · rw [e1, e2]
      exact ht
theorem PureSim.anyK {g : FuncId} {args : List Value} (hP : PureSim P g args [] v []) (hf : (args.all isFlat && isFlat v) = true) : PureSim P g args h v [] := by
  simp only [Bool.and_eq_true] at hf
  exact PureSim.any hP (flatL hf.1) hf.2 h
/-- A call of a function over flat values. -/
theorem TI.callF {g : FuncId} {args : List Value} (hP : PureSim P g args [] v []) (hc : callAt ops j a = some (g, args)) (hf : (args.all isFlat && isFlat v) = true) (ht : TI P base L ops (j + 1) (putAt ops j a v) h Ψ) :
    TI P base L ops j a h Ψ := TI.call hc (PureSim.anyK hP hf) rfl (List.append_nil h) ht
theorem TI.callP {g : FuncId} {args : List Value} (hP : PureSim P g args h v new) (hc : callAt ops j a = some (g, args)) (ht : TI P base L ops (j + 1) (putAt ops j a v) (h ++ new) Ψ) :
    TI P base L ops j a h Ψ := TI.call hc hP rfl rfl ht

variable {T : List Entry} {s s1 fin : QSt} {us : List (Nat × Nat)} {n : Nat} {Θ : QSt → Prop}
/-- The quiet part, and what is behind it. -/
def QJ (P : Program) (T : List Entry) (base : Nat) (ops : Array Oper) (us : List (Nat × Nat)) (n j : Nat) (s : QSt) (Θ : QSt → Prop) : Prop := ∃ fin, QI P T base ops us n j s fin ∧ Θ fin
def SJ (P : Program) (T : List Entry) (base : Nat) (ops : Array Oper) (j : Nat) (a : CAct) (h : List Blk) (keep keepH : List Nat) (a2 : CAct) (h2 : List Blk) : Prop :=
  ∃ a1 h1, SI P T base ops j a h a1 h1 ∧ mk2 keep keepH (a1, h1) = (a2, h2)
theorem QJ.run (k : Nat) (hk : (((ops.toList.take n).drop j).take k).length = k) (hs : runQ P T base ops us n j k s = some s1) (ht : QJ P T base ops us n (j + k) s1 Θ) : QJ P T base ops us n j s Θ := by
  obtain ⟨fin, h1, h2⟩ := ht
  exact ⟨fin, QI.run k hk hs h1, h2⟩
theorem QJ.op (hn : j < n) (hq : qOf P T base ops j s.act (masked (Region.before ops).toList s.own us j s.heap) s.heap.length = some q) (ht : QJ P T base ops us n (j + 1) (nextQ ops j s q) Θ) : QJ P T base ops us n j s Θ := by
  obtain ⟨fin, h1, h2⟩ := ht
  exact ⟨fin, QI.op hn hq rfl h1, h2⟩
theorem QJ.done (hj : ((ops.toList.take n).drop j).isEmpty = true) (ht : Θ s) : QJ P T base ops us n j s Θ := ⟨s, QI.done hj, ht⟩
theorem SJ.run {keep keepH : List Nat} {a3 : CAct} {h3 : List Blk} (k : Nat) (hs : runS P T base ops j k a h = some (a3, h3)) (ht : SJ P T base ops (j + k) a3 h3 keep keepH a2 h2) : SJ P T base ops j a h keep keepH a2 h2 := by
  obtain ⟨a1, h1, x, y⟩ := ht
  exact ⟨a1, h1, SI.run k hs x, y⟩
theorem SJ.op {keep keepH : List Nat} (hi : (match ops.toList[j]? with | some o => isImpCall (orc P T) a.eval o | none => false) = false) (hq : qOf P T base ops j a h h.length = some q) (ht : SJ P T base ops (j + 1) (putAt ops j a q.val) (q.heap h) keep keepH a2 h2) : SJ P T base ops j a h keep keepH a2 h2 := by
  obtain ⟨a1, h1, x, y⟩ := ht
  exact ⟨a1, h1, SI.op hi hq rfl rfl x, y⟩
theorem SJ.done {keep keepH : List Nat} (hj : (ops.toList.drop j).isEmpty = true) (hm : mk2 keep keepH (a, h) = (a2, h2)) : SJ P T base ops j a h keep keepH a2 h2 := ⟨a, h, SI.done hj, hm⟩
/-- A region that draws its order and sets no block that came in. -/
theorem TS.drawP (T : List Entry) (hT : ∀ e ∈ T, PureSim P e.g e.args e.h e.v e.new) (hmix : P.follows .mixedOrders = true) {y : Code} (hc : Code.isReg true c = true) (n : Nat)
    (hn : (edgesBack c.rops.toList 0 && quietOk c.rops.toList (Region.before c.rops).toList n && (tailFrom (Region.before c.rops).toList c.rops.size == n)) = true) (keep keepH : List Nat)
    (hq : QJ P T base c.rops [] n 0 { act := a, heap := h } fun fin => fin.upds = [] ∧ SJ P T base c.rops n fin.act fin.heap keep keepH a2 h2)
    (hK : TS P base L y a2 h2 (NX P base L K Φ)) : TS P base L c a h (NX P base L (.sq y :: K) Φ) := by
  obtain ⟨id, hc⟩ := Code.isReg_spec hc
  obtain ⟨fin, hq, hu, a1, h1, hs, hm⟩ := hq
  exact TS.draw' (fin := fin) (fin2 := fin) T hT hmix hc rfl n hn [] hq hu (.inl ⟨rfl, rfl⟩) hs keep keepH hm hK
end
end Go.Cl
namespace Go.Cl
open Go Go.RowKit
/-- The last operations of the tail. -/
theorem SJ.last {P : Program} {T : List Entry} {base j : Nat} {ops : Array Oper} {a a2 : CAct} {h h2 : List Blk} {keep keepH : List Nat} (hs : (seqOps (orc P T) Rec.none base ops.toList (ops.toList.drop j) a h).map (mk2 keep keepH) = some (a2, h2)) : SJ P T base ops j a h keep keepH a2 h2 := by
  cases hr : seqOps (orc P T) Rec.none base ops.toList (ops.toList.drop j) a h with
  | none => rw [hr] at hs; cases hs
  | some p =>
    rw [hr] at hs
    exact ⟨p.1, p.2, hr, Option.some.inj hs⟩
end Go.Cl
namespace Go.Cl
open Go Go.RowKit
def cellsV (v : Value) : List Value := match v with | .agg a => a.toList | v => [v]
/-- The i-th number (or truth) among flat arguments. -/
def leafI (i : Nat) (l : List Value) : Int := match (l.flatMap cellsV)[i]? with | some (.int _ x) => x | _ => 0
def leafB (i : Nat) (l : List Value) : Bool := match (l.flatMap cellsV)[i]? with | some (.bool x) => x | _ => false
end Go.Cl
namespace Go.Cl
open Go Go.RowKit
/-- Two lists of different blocks are the same value only if both are empty. -/
theorem acc_ne {α : Type} {l l' : List α} {b b' : Nat} (hb : b ≠ b') (h : accV b (List.length l) = accV b' (List.length l')) : l = l' := by
  rw [accV_eq, accV_eq] at h
  by_cases h0 : List.length l = 0
  · by_cases h1 : List.length l' = 0
    · rw [List.eq_nil_of_length_eq_zero h0, List.eq_nil_of_length_eq_zero h1]
    · rw [if_pos h0, if_neg h1] at h; cases h
  · by_cases h1 : List.length l' = 0
    · rw [if_neg h0, if_pos h1] at h; cases h
    · rw [if_neg h0, if_neg h1] at h
      injection h with h2 _ _
      injection h2 with h3
      injection h3 with h4
      exact absurd h4 hb
def argV (i : Nat) (l : List Value) : Value := match l[i]? with | some v => v | none => undef
end Go.Cl
/-! The same rules, whose equations by the kernel come last and of themselves. -/
namespace Go.Cl
open Go Go.RowKit
section
variable {P : Program} {base L : Nat} {c : Code} {a a1 a2 : CAct} {h h1 h2 new : List Blk} {Φ : Post} {K : List Fr} {ops : Array Oper} {j : Nat} {Ψ : CAct → List Blk → Prop} {q : QRes} {v : Value}
theorem TS.sq (ht : TS P base L c.s1 a h (NX P base L (.sq c.s2 :: K) Φ)) (hc : c = .seq c.s1 c.s2 := by kernel_rfl) : TS P base L c a h (NX P base L K Φ) := TS.seq' hc ht
theorem TS.bk (id : Nat) (ht : TS P base L c.bd a h (NX P base L (.bk id :: K) Φ)) (hc : c = .block id c.bd := by kernel_rfl) : TS P base L c a h (NX P base L K Φ) := TS.block' hc ht
theorem TS.cd (o : Operand) (b : Bool) (ht : b = true → TS P base L c.th a h Φ) (hf : b = false → TS P base L c.el a h Φ) (hc : c = .cond o c.th c.el := by kernel_rfl) (hv : a.eval o = .bool b := by kernel_rfl) : TS P base L c a h Φ := TS.cond' hc hv ht hf
theorem TS.cdT (o : Operand) (ht : TS P base L c.th a h Φ) (hc : c = .cond o c.th c.el := by kernel_rfl) (hv : a.eval o = .bool true := by kernel_rfl) : TS P base L c a h Φ := TS.condT' hc hv ht
theorem TS.cdF (o : Operand) (ht : TS P base L c.el a h Φ) (hc : c = .cond o c.th c.el := by kernel_rfl) (hv : a.eval o = .bool false := by kernel_rfl) : TS P base L c a h Φ := TS.condF' hc hv ht
theorem TS.cdKT (o : Operand) (b : Bool) (hb : b = true) (ht : TS P base L c.th a h Φ) (hc : c = .cond o c.th c.el := by kernel_rfl) (hv : a.eval o = .bool b := by kernel_rfl) : TS P base L c a h Φ := TS.condKT' hc hv hb ht
theorem TS.cdKF (o : Operand) (b : Bool) (hb : b = false) (ht : TS P base L c.el a h Φ) (hc : c = .cond o c.th c.el := by kernel_rfl) (hv : a.eval o = .bool b := by kernel_rfl) : TS P base L c a h Φ := TS.condKF' hc hv hb ht
theorem TS.lp (ht : TL P base L c.bd a h Φ) (hc : c = .loop c.bd := by kernel_rfl) : TS P base L c a h Φ := TS.loop' hc ht
theorem TS.sc (ht : TS P base L c.bd a h (NX P base L (.sc :: K) Φ)) (hc : c = .scope c.bd := by kernel_rfl) : TS P base L c a h (NX P base L K Φ) := TS.scope' hc ht
theorem TS.rg (ht : TI P base L c.rops 0 a h (NX P base L K Φ .normal)) (hc : Code.isReg false c = true := by kernel_rfl) : TS P base L c a h (NX P base L K Φ) := TS.regionP hc ht
theorem TS.sk (hp : Φ .normal a h) (hc : c = .skip := by kernel_rfl) : TS P base L c a h Φ := TS.skip' hc hp
theorem TS.rt (hp : Φ .ret a h) (hc : c = .ret := by kernel_rfl) : TS P base L c a h Φ := TS.ret' hc hp
theorem TS.ex (id : Nat) (hp : Φ (.exit id) a h) (hc : c = .exit id := by kernel_rfl) : TS P base L c a h Φ := TS.exit' hc hp
theorem TI.dn (hp : Ψ a h) (hj : (ops.toList.drop j).isEmpty = true := by kernel_rfl) : TI P base L ops j a h Ψ := TI.done hj hp
theorem TI.rn (k : Nat) (keep keepH : List Nat) (a2 : CAct) (h2 : List Blk) (ht : TI P base L ops (j + k) a2 h2 Ψ) (hs : (runK P base ops j k a h).map (mk2 keep keepH) = some (a2, h2) := by kernel_rfl) : TI P base L ops j a h Ψ := TI.run k keep keepH hs ht
theorem TI.ra (k : Nat) (keep : List Nat) (a2 : CAct) (ht : TI P base L ops (j + k) a2 h Ψ) (hs : (runK P base ops j k a h).map (fun p => (maskA keep p.1, p.2)) = some (a2, h) := by kernel_rfl) : TI P base L ops j a h Ψ := TI.runA k keep hs ht
theorem TI.cf {g : FuncId} {args : List Value} (hP : PureSim P g args [] v []) (ht : TI P base L ops (j + 1) (putAt ops j a v) h Ψ) (hc : callAt ops j a = some (g, args) := by kernel_rfl) (hf : (args.all isFlat && isFlat v) = true := by kernel_rfl) : TI P base L ops j a h Ψ := TI.callF hP hc hf ht
theorem PureSim.ak {g : FuncId} {args : List Value} (hP : PureSim P g args [] v []) (hf : (args.all isFlat && isFlat v) = true := by kernel_rfl) : PureSim P g args h v [] := PureSim.anyK hP hf
theorem TI.cm {g : FuncId} {args : List Value} (hP : PureSim P g args h v new) (keep keepH : List Nat) (a2 : CAct) (h2 : List Blk) (ht : TI P base L ops (j + 1) a2 h2 Ψ) (hc : callAt ops j a = some (g, args) := by kernel_rfl) (hs : mk2 keep keepH (putAt ops j a v, h ++ new) = (a2, h2) := by kernel_rfl) : TI P base L ops j a h Ψ := TI.callM hc hP keep keepH hs ht
theorem TI.cp (g : FuncId) (args : List Value) (v : Value) (new : List Blk) (hP : PureSim P g args h v new) (ht : TI P base L ops (j + 1) (putAt ops j a v) (h ++ new) Ψ) (hc : callAt ops j a = some (g, args) := by kernel_rfl) : TI P base L ops j a h Ψ := TI.callP hP hc ht
theorem TI.o (q : QRes) (hq : qAt P base ops j a h = some q) (keep keepH : List Nat) (a2 : CAct) (h2 : List Blk) (ht : TI P base L ops (j + 1) a2 h2 Ψ) (hs : mk2 keep keepH (putAt ops j a q.val, q.heap h) = (a2, h2) := by kernel_rfl) : TI P base L ops j a h Ψ := TI.op hq keep keepH hs ht
variable {T : List Entry} {s s1 fin : QSt} {us : List (Nat × Nat)} {n : Nat} {Θ : QSt → Prop} {keep keepH : List Nat}
theorem QJ.rn (s1 : QSt) (k : Nat) (ht : QJ P T base ops us n (j + k) s1 Θ) (hk : (((ops.toList.take n).drop j).take k).length = k := by kernel_rfl) (hs : runQ P T base ops us n j k s = some s1 := by kernel_rfl) : QJ P T base ops us n j s Θ := QJ.run k hk hs ht
theorem QJ.o (q : QRes) (hq : qOf P T base ops j s.act (masked (Region.before ops).toList s.own us j s.heap) s.heap.length = some q) (ht : QJ P T base ops us n (j + 1) (nextQ ops j s q) Θ) (hn : j < n := by decide) : QJ P T base ops us n j s Θ := QJ.op hn hq ht
theorem QJ.dn (ht : Θ s) (hj : ((ops.toList.take n).drop j).isEmpty = true := by kernel_rfl) : QJ P T base ops us n j s Θ := QJ.done hj ht
theorem SJ.rn (a3 : CAct) (h3 : List Blk) (k : Nat) (ht : SJ P T base ops (j + k) a3 h3 keep keepH a2 h2) (hs : runS P T base ops j k a h = some (a3, h3) := by kernel_rfl) : SJ P T base ops j a h keep keepH a2 h2 := SJ.run k hs ht
theorem SJ.o (q : QRes) (hq : qOf P T base ops j a h h.length = some q) (ht : SJ P T base ops (j + 1) (putAt ops j a q.val) (q.heap h) keep keepH a2 h2) (hi : (match ops.toList[j]? with | some o => isImpCall (orc P T) a.eval o | none => false) = false := by kernel_rfl) : SJ P T base ops j a h keep keepH a2 h2 := SJ.op hi hq ht
theorem SJ.dn (hj : (ops.toList.drop j).isEmpty = true := by kernel_rfl) (hm : mk2 keep keepH (a, h) = (a2, h2) := by kernel_rfl) : SJ P T base ops j a h keep keepH a2 h2 := SJ.done hj hm
theorem SJ.la (hs : (seqOps (orc P T) Rec.none base ops.toList (ops.toList.drop j) a h).map (mk2 keep keepH) = some (a2, h2) := by kernel_rfl) : SJ P T base ops j a h keep keepH a2 h2 := SJ.last hs
theorem TS.dp (T : List Entry) (hT : ∀ e ∈ T, PureSim P e.g e.args e.h e.v e.new) (hmix : P.follows .mixedOrders = true) {y : Code} (n : Nat) (keep keepH : List Nat) (a2 : CAct) (h2 : List Blk)
    (hq : QJ P T base c.rops [] n 0 { act := a, heap := h } fun fin => fin.upds = [] ∧ SJ P T base c.rops n fin.act fin.heap keep keepH a2 h2) (hK : TS P base L y a2 h2 (NX P base L K Φ)) (hc : Code.isReg true c = true := by kernel_rfl)
    (hn : (edgesBack c.rops.toList 0 && quietOk c.rops.toList (Region.before c.rops).toList n && (tailFrom (Region.before c.rops).toList c.rops.size == n)) = true := by kernel_rfl) : TS P base L c a h (NX P base L (.sq y :: K) Φ) := TS.drawP T hT hmix hc n hn keep keepH hq hK
end
end Go.Cl
