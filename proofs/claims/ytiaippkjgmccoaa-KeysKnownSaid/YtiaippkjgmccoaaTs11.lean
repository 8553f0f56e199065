/- A table of answers that holds in any heap: blocks are called by the order in which the arguments lead to them. -/
import Derived.Test.YtiaippkjgmccoaaTs10
set_option linter.unusedVariables false
namespace Go.Cl
open Go Go.RowKit

def rnLeaf (f : Nat → Nat) (n : Nat) : Value → Value → Bool
  | .pointer (some ⟨i, o, none⟩), .pointer (some ⟨b, o', none⟩) => decide (i < n) && f i == b && o == o'
  | .slice (some ⟨i, o, none⟩) l c, .slice (some ⟨b, o', none⟩) l' c' => decide (i < n) && f i == b && o == o' && l == l' && c == c'
  | .map (some i), .map (some b) => decide (i < n) && f i == b
  | a, b => leafFlat a && eqLeafV a b
def rn1 (f : Nat → Nat) (n : Nat) : Value → Value → Bool
  | .agg a, .agg b => eqList (rnLeaf f n) a.toList b.toList
  | a, b => rnLeaf f n a b
def rn2 (f : Nat → Nat) (n : Nat) : Value → Value → Bool
  | .tuple a, .tuple b => eqList (rn1 f n) a.toList b.toList
  | a, b => rn1 f n a b

section
variable {p : Bool} {f : Nat → Nat} {n : Nat}
theorem rnLeaf_sound {a b : Value} (h : rnLeaf f n a b = true) : Rn p (fun i => (f i, 0)) n a b := by
  unfold rnLeaf at h
  split at h
  · rename_i i o b o'
    simp only [Bool.and_eq_true, decide_eq_true_eq, beq_iff_eq] at h
    obtain ⟨⟨h1, rfl⟩, rfl⟩ := h
    exact .ptr i o _ h1 (by simp)
  · rename_i i o l c b o' l' c'
    simp only [Bool.and_eq_true, decide_eq_true_eq, beq_iff_eq] at h
    obtain ⟨⟨⟨⟨h1, rfl⟩, rfl⟩, rfl⟩, rfl⟩ := h
    exact .slice0 i o l c h1 rfl
  · rename_i i b
    simp only [Bool.and_eq_true, decide_eq_true_eq, beq_iff_eq] at h
    obtain ⟨h1, rfl⟩ := h
    exact .map i h1
  · simp only [Bool.and_eq_true] at h
    rw [← eqLeafV_sound h.2]
    exact .flat (flat_of_leaf h.1)
theorem lrn_of {g : Value → Value → Bool} (hg : ∀ a b, g a b = true → Rn p (fun i => (f i, 0)) n a b) : ∀ {l m : List Value}, eqList g l m = true → LRn p (fun i => (f i, 0)) n l m
  | [], [], _ => .nil
  | a :: l, b :: m, h => by
    simp only [eqList, Bool.and_eq_true] at h
    exact .cons (hg a b h.1) (lrn_of hg h.2)
  | [], _ :: _, h => by cases h
  | _ :: _, [], h => by cases h
theorem rn1_sound {a b : Value} (h : rn1 f n a b = true) : Rn p (fun i => (f i, 0)) n a b := by
  unfold rn1 at h
  split at h
  · rename_i a b
    obtain ⟨a⟩ := a
    obtain ⟨b⟩ := b
    exact .agg' (lrn_of (f := f) (n := n) (fun _ _ => rnLeaf_sound) h)
  · exact rnLeaf_sound h
theorem rn2_sound {a b : Value} (h : rn2 f n a b = true) : Rn p (fun i => (f i, 0)) n a b := by
  unfold rn2 at h
  split at h
  · rename_i a b
    obtain ⟨a⟩ := a
    obtain ⟨b⟩ := b
    exact .tuple' (lrn_of (f := f) (n := n) (fun _ _ => rn1_sound) h)
  · exact rn1_sound h
theorem RnB.flat {b : Blk} (h : blkFlat b = true) : RnB p (fun i => (f i, 0)) n b b 0 := by
  cases b with
  | cells t vs => exact RnB.same (fun v hv => List.all_eq_true.1 (show vs.all isFlat = true from h) v hv)
  | map kt es => exact .map kt es
  | _ => cases h
end

def goodB : Blk → Bool
  | .dead => true
  | b => blkFlat b
theorem goodB_spec {b : Blk} (h : goodB b = true) : b = .dead ∨ blkFlat b = true := by
  cases b with
  | dead => exact .inl rfl
  | _ => exact .inr h

def idOf (ids : List Nat) (i : Nat) : Nat := ids.getD i 0
def backOf (ids : List Nat) (m i : Nat) : Nat := if i < ids.length then ids.getD i 0 else m + (i - ids.length)

theorem ats_of {f : Nat → Nat × Nat} {n : Nat} {h : List Blk} : ∀ {l : List Blk} {i : Nat}, (∀ j b, l[j]? = some b → At true f n h (i + j) b) → Ats true f n h i l
  | [], i, _ => .nil i
  | b :: l, i, hb => .cons (hb 0 b rfl) (ats_of fun j b' hj => by have := hb (j + 1) b' (by simpa using hj); rwa [show i + (j + 1) = i + 1 + j by omega] at this)

/-- The table is asked by the arguments' own numbering. -/
def lookR (T : List Entry) (g : FuncId) (args : List Value) (h : List Blk) : Option (Value × List Blk) :=
  let ids := (args.flatMap (refs 0)).eraseDups
  let argsc := args.map (renV fun b => ids.idxOf b)
  let hc := ids.map fun b => h.getD b .dead
  if hc.all goodB && eqList (rn2 (idOf ids) hc.length) argsc args then
    match look T g argsc hc with
    | none => none
    | some (vc, new) =>
      let v := renV (backOf ids h.length) vc
      if new.all goodB && rn2 (backOf ids h.length) (hc.length + new.length) vc v then some (v, new) else none
  else none

def tableSumR (T : List Entry) (g : FuncId) : Option (List Value → List Blk → Option (Value × List Blk)) :=
  if T.any fun e => e.g == g then some (lookR T g) else none

theorem lookR_sound {P : Program} {T : List Entry} {g : FuncId} {args : List Value} {h new : List Blk} {v : Value} (hT : ∀ e ∈ T, PureSim P e.g e.args e.h e.v e.new) (hl : lookR T g args h = some (v, new)) : PureSim P g args h v new := by
  unfold lookR at hl
  simp only at hl
  generalize (args.flatMap (refs 0)).eraseDups = ids at hl
  generalize args.map (renV fun b => ids.idxOf b) = argsc at hl
  split at hl
  · rename_i hc
    rw [Bool.and_eq_true] at hc
    obtain ⟨hg, ha⟩ := hc
    split at hl
    · cases hl
    · rename_i vc new' hlk
      split at hl
      · rename_i hc2
        rw [Bool.and_eq_true] at hc2
        obtain ⟨hn, hv⟩ := hc2
        cases hl
        have hP := look_sound hT hlk
        refine PureSim.ren (fun i => (idOf ids i, 0)) hP (ats_of fun j b hj => ?_) (lrn_of (f := idOf ids) (fun _ _ => rn2_sound) ha) ?_ (fun b hb => goodB_spec (List.all_eq_true.1 hn b hb))
        · rw [Nat.zero_add]
          rw [List.getElem?_map] at hj
          cases hi : ids[j]? with
          | none => rw [hi] at hj; cases hj
          | some x =>
            rw [hi] at hj
            cases hj
            have hgood := goodB_spec (List.all_eq_true.1 hg (h.getD x .dead) (List.mem_map.2 ⟨x, List.mem_of_getElem? hi, rfl⟩))
            rcases hgood with e | hf
            · exact .inl e
            · have hid : idOf ids j = x := by simp [idOf, List.getD, hi]
              refine .inr ⟨h.getD x .dead, ?_, RnB.flat hf⟩
              show h[idOf ids j]? = _
              rw [hid]
              cases hx : h[x]? with
              | none => rw [show h.getD x Blk.dead = Blk.dead by simp [List.getD, hx]] at hf; cases hf
              | some b => simp [List.getD, hx]
        · have hlen : (ids.map fun b => h.getD b Blk.dead).length = ids.length := by simp
          have : (fun i => if i < (ids.map fun b => h.getD b Blk.dead).length then (idOf ids i, 0) else (h.length + (i - (ids.map fun b => h.getD b Blk.dead).length), 0)) = fun i => (backOf ids h.length i, 0) := by
            funext i
            rw [hlen]
            unfold backOf idOf
            split <;> rfl
          rw [this]
          exact rn2_sound hv
      · cases hl
  · cases hl

theorem tableR_okI {E : Env} {T : List Entry} (hE : E.sum = tableSumR T) (hT : ∀ e ∈ T, PureSim E.P e.g e.args e.h e.v e.new) (hI : ∀ g s args base h v h1, E.isum g = some s → s args base h = some (v, h1) → ImpSim E.P g args base h v h1) : SumOk E := by
  refine ⟨fun g s args h v new hs hv => ?_, hI⟩
  rw [hE] at hs
  unfold tableSumR at hs
  split at hs
  · cases hs; exact lookR_sound hT hv
  · cases hs
theorem tableR_ok {E : Env} {T : List Entry} (hE : E.sum = tableSumR T) (hT : ∀ e ∈ T, PureSim E.P e.g e.args e.h e.v e.new) (hI : E.isum = fun _ => none := by rfl) : SumOk E :=
  tableR_okI hE hT fun g s args base h v h1 hs => by rw [hI] at hs; cases hs

/-! ### Functions that write what came in, out of their bodies -/
theorem ImpSim.of_TS {P : Program} {g : FuncId} {args : List Value} {base : Nat} {h h1 : List Blk} {v : Value} {fn : Func} {c : Code} (hfn : P.funcs[g]? = some fn) (hc : fn.body = some c)
    (hname : (fn.name == "runtime.NumGoroutine") = false) (hl : h.length ≤ h1.length)
    (ht : TS P base h.length c { tmps := args ++ List.replicate (fn.ntmps - args.length) undef } h
      fun e a1 h2 => (e = .normal ∨ e = .ret) ∧ a1.marks = [] ∧ h2 = h1 ∧ cResults P fn a1 h2 = some v) : ImpSim P g args base h v h1 := by
  refine ⟨⟨fn, c, hfn, hc, hname⟩, fun D β κ N w args' hD hb hR hargs => ?_⟩
  have start : ActR D β κ { tmps := args ++ List.replicate (fn.ntmps - args.length) undef } { tmps := (⟨args'⟩ : Array Value) ++ Array.replicate (fn.ntmps - (⟨args'⟩ : Array Value).size) undef, defers := [] } := by
    refine ⟨?_, rfl, fun m hm => by simp at hm⟩
    have := hargs.app (LR.rep (fn.ntmps - args.length) (VR.undef (D := D) (β := β) (κ := κ)))
    rw [hargs.len] at this ⊢
    simpa using this
  refine callsIn_FW.1 (callsIn_of_wp_marks (F := FW none) (n := 0) hfn hc trivial ?_)
  refine ht N D β κ w w _ _ ⟨D, β, κ, hD, hb, Nat.le_refl _, hR, start, fun i _ => ⟨Iff.rfl, rfl, rfl⟩⟩ (Below.refl _ _) fun e a1 h2 a1' w1 hp hf hbl => ?_
  obtain ⟨he, hm, rfl, hres⟩ := hp
  obtain ⟨D1, β1, κ1, hf⟩ := hf
  obtain ⟨v', h3, h4⟩ := results_sim hf.rel hf.act hres
  have hsub : ∀ i, D1 i → Up D h h2 i := fun i hi => by
    by_cases hil : i < h.length
    · exact .inl ((hf.ext i hil).1.1 hi)
    · exact .inr ⟨by omega, hf.dom i hi⟩
  have hO : Out P D β κ base N h w h2 w1 β1 κ1 := {
    le := hl
    ext := fun i hi => (hf.ext i hi).2
    rel := { blk := fun i => (hf.rel.blk i).move hsub Ext.refl rfl rfl, ro := hf.rel.ro, own := hf.rel.own, inj := hf.rel.inj, size := hf.rel.size }
    below := hbl }
  have leaves : LeavesInM (FW none) 0 P fn a1'.tmps (fun e w' => ∃ v' β' κ', e = .returned v' ∧ Out P D β κ base N h w h2 w' β' κ' ∧ VR (Up D h h2) β' κ' v v') a1'.defers .returning w1 := by
    rw [hf.act.marks, hm]
    exact ⟨v', h3, v', _, _, rfl, hO, h4.mono hsub Ext.refl⟩
  rcases he with rfl | rfl <;> exact leaves
end Go.Cl
