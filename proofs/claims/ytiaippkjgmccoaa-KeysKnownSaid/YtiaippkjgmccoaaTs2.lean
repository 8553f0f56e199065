/- The operations of a region, one by one; functions out of their bodies. -/
import Derived.Test.YtiaippkjgmccoaaTs1
set_option linter.unusedVariables false
namespace Go.Cl
open Go Go.RowKit

/-- Whatever state of the model the clean state stands for: the operations come to an end, in one of the states of Ψ. -/
def TO (P : Program) (base L : Nat) (ops : Array Oper) (rest : List Oper) (a : CAct) (h : List Blk) (Ψ : CAct → List Blk → Prop) : Prop :=
  ∀ (N : Nat) (D0 : Nat → Prop) (β0 : Nat → Nat × Nat) (κ0 : Nat → Nat) (w0 w : World) (a' : Act) (Q : Exit → Act → World → Prop),
    Fits P base N L D0 β0 κ0 a h a' w → Below N w0 w →
    (∀ a1 h1 a1' w1, Ψ a1 h1 → Fits P base N L D0 β0 κ0 a1 h1 a1' w1 → Below N w0 w1 → Q .normal a1' w1) →
    wpListIn (FW none) 0 P ops Q rest a' w

/-- Nothing is known of any function. -/
def E0 (P : Program) : Env := { P := P, sum := fun _ => none, imp := fun _ => true }

section
variable {P : Program} {base L : Nat} {ops : Array Oper} {rest : List Oper} {o : Oper} {a a1 a2 : CAct} {h h1 h2 : List Blk} {Ψ Ξ : CAct → List Blk → Prop}

theorem TO.nil (hp : Ψ a h) : TO P base L ops [] a h Ψ := fun _ _ _ _ _ _ _ _ hf hb hq => hq _ _ _ _ hp hf hb

theorem TO.weak (hw : Wk P base L a h a2 h2) (ht : TO P base L ops rest a2 h2 Ψ) : TO P base L ops rest a h Ψ :=
  fun N D0 β0 κ0 w0 w a' Q hf hb hq => ht N D0 β0 κ0 w0 w a' Q (hw _ _ _ _ _ _ hf) hb hq

theorem TO.mono (ht : TO P base L ops rest a h Ψ) (hp : ∀ a h, Ψ a h → Ξ a h) : TO P base L ops rest a h Ξ :=
  fun N D0 β0 κ0 w0 w a' Q hf hb hq => ht N D0 β0 κ0 w0 w a' Q hf hb fun a1 h1 a1' w1 h1' => hq a1 h1 a1' w1 (hp _ _ h1')

theorem TS.region {id : Nat} {K : List Fr} {Φ : Post} (ht : TO P base L ops ops.toList a h (NX P base L K Φ .normal)) : TS P base L (.region id ops false) a h (NX P base L K Φ) :=
  fun N D0 β0 κ0 w0 w a' Q hf hb hq => wpIn_region_list (ht N D0 β0 κ0 w0 w a' Q hf hb fun a1 h1 a1' w1 hp => hq _ a1 h1 a1' w1 hp)

/-- An operation of which the environment E knows what it comes to. -/
theorem TO.stepE {E : Env} {r : Rec} {q : QRes} (hcall : ∀ g args v new, callQ E r g args h = some (v, new) → PureSim E.P g args h v new) (hw : cWanted ops.toList a o = some true)
    (hq : qOp E r base h h.length a.eval o = some q) (ht : TO E.P base L ops rest (a.put o.dst q.val) (q.heap h) Ψ) : TO E.P base L ops (o :: rest) a h Ψ := by
  rintro N D0 β0 κ0 w0 w a' Q ⟨D, β, κ, hf⟩ hb hQ
  have hw' := wanted_sim hw hf.act
  simp only [wpListIn, hw', if_true]
  refine qOp_wp hcall hq hf.rel hf.dom hf.act.eval fun v' w' β' κ' hQo => ?_
  obtain ⟨hO, hv⟩ := Out.of_q hf.rel hf.dom hf.bl hQo (fun k b hu => qOp_alive hq hu)
  exact ht N D0 β0 κ0 w0 w' _ Q (Fits.out hf hO ((hf.act.out hO hf.dom).put o.dst hv)) (hb.trans hO.below) hQ

/-- An operation that calls no function. -/
theorem TO.step {q : QRes} (hw : cWanted ops.toList a o = some true) (hq : qOp (E0 P) Rec.none base h h.length a.eval o = some q) (ht : TO P base L ops rest (a.put o.dst q.val) (q.heap h) Ψ) :
    TO P base L ops (o :: rest) a h Ψ :=
  TO.stepE (E := E0 P) (r := Rec.none) (fun g args v new hc => by simp [callQ, E0] at hc) hw hq ht

/-- One that only comes to a value. -/
theorem TO.val {v : Value} (hw : cWanted ops.toList a o = some true) (hq : qOp (E0 P) Rec.none base h h.length a.eval o = some { val := v }) (ht : TO P base L ops rest (a.put o.dst v) h Ψ) :
    TO P base L ops (o :: rest) a h Ψ :=
  TO.step hw hq (by simpa [QRes.heap] using ht)

/-- One that makes blocks. -/
theorem TO.new {v : Value} {new : List Blk} (hw : cWanted ops.toList a o = some true) (hq : qOp (E0 P) Rec.none base h h.length a.eval o = some { val := v, new := new }) (ht : TO P base L ops rest (a.put o.dst v) (h ++ new) Ψ) :
    TO P base L ops (o :: rest) a h Ψ :=
  TO.step hw hq (by simpa [QRes.heap] using ht)

/-- One that writes a block. -/
theorem TO.upd {v : Value} {k : Nat} {b : Blk} (hw : cWanted ops.toList a o = some true) (hq : qOp (E0 P) Rec.none base h h.length a.eval o = some { val := v, upd := some (k, b) }) (ht : TO P base L ops rest (a.put o.dst v) (h.set k b) Ψ) :
    TO P base L ops (o :: rest) a h Ψ :=
  TO.step hw hq (by simpa [QRes.heap] using ht)

/-- One whose guard does not hold. -/
theorem TO.pass (hw : cWanted ops.toList a o = some false) (ht : TO P base L ops rest (a.put o.dst undef) h Ψ) : TO P base L ops (o :: rest) a h Ψ := by
  rintro N D0 β0 κ0 w0 w a' Q ⟨D, β, κ, hf⟩ hb hQ
  have hw' := wanted_sim hw hf.act
  simp only [wpListIn, hw', Bool.false_eq_true, if_false]
  exact ⟨fun _ _ => trivial, ht N D0 β0 κ0 w0 w _ Q ⟨D, β, κ, hf.dom, hf.bl, hf.ll, hf.rel, hf.act.put o.dst VR.undef, hf.ext⟩ hb hQ⟩

/-- A call of a function that writes nothing that came in. -/
theorem TO.call {f : Operand} {args : Array Operand} {ts : Array TypeId} {g : FuncId} {first captured : Array Value} {v : Value} {new : List Blk} (hw : cWanted ops.toList a o = some true)
    (ho : o.op = .call ⟨.value f, args, ts⟩) (hf : a.eval f = .func (.func g) first captured) (hP : PureSim P g (first.toList ++ args.toList.map a.eval ++ captured.toList) h v new)
    (ht : TO P base L ops rest (a.put o.dst v) (h ++ new) Ψ) : TO P base L ops (o :: rest) a h Ψ := by
  classical
  refine TO.stepE (E := { P := P, sum := fun g' => some fun args' h' => if g' = g ∧ args' = first.toList ++ args.toList.map a.eval ++ captured.toList ∧ h' = h then some (v, new) else none, imp := fun _ => true })
    (r := Rec.none) (q := { val := v, new := new }) ?_ hw ?_ ?_
  · intro g' args' v' new' hc
    simp only [callQ] at hc
    split at hc
    · rename_i p hp
      split at hp
      · rename_i he
        obtain ⟨rfl, rfl, _⟩ := he
        cases hp
        cases hc
        exact hP
      · cases hp
    · simp at hc
  · simp [qOp, ho, hf, qCall, callQ]
  · simpa [QRes.heap] using ht

/-- A call of a function that may write. -/
theorem TO.icall {f : Operand} {args : Array Operand} {ts : Array TypeId} {g : FuncId} {first captured : Array Value} {v : Value} (hw : cWanted ops.toList a o = some true)
    (ho : o.op = .call ⟨.value f, args, ts⟩) (hf : a.eval f = .func (.func g) first captured) (hP : ImpSim P g (first.toList ++ args.toList.map a.eval ++ captured.toList) base h v h1)
    (ht : TO P base L ops rest (a.put o.dst v) h1 Ψ) : TO P base L ops (o :: rest) a h Ψ := by
  classical
  rintro N D0 β0 κ0 w0 w a' Q ⟨D, β, κ, hfit⟩ hb hQ
  have hw' := wanted_sim hw hfit.act
  simp only [wpListIn, hw', if_true]
  have hr : Sound (E0 P) 0 { pcall := fun _ _ _ => none, code := fun _ _ _ _ _ => none, icall := fun g' args' base' h' => if g' = g ∧ args' = first.toList ++ args.toList.map a.eval ++ captured.toList ∧ base' = base ∧ h' = h then some (v, h1) else none } :=
    { pcall := fun _ _ _ _ _ hc => (by cases hc), code := fun _ _ _ _ _ _ _ _ hc => (by cases hc), icall := fun g' args' base' h' v' h1' hc => by
        simp only at hc
        split at hc
        · rename_i he
          obtain ⟨rfl, rfl, rfl, rfl⟩ := he
          cases hc
          exact hP
        · cases hc }
  refine iOp_wp (E := E0 P) hr (h' := h1) (ρ := a.eval) (v := v) ?_ hfit.dom hfit.bl hfit.rel hfit.act.eval fun v' w' β' κ' hO hv => ?_
  · simp [iOp, ho, iCall, hf, E0]
  · exact ht N D0 β0 κ0 w0 w' _ Q (Fits.out hfit hO ((hfit.act.out hO hfit.dom).put o.dst hv)) (hb.trans hO.below) hQ

end

/-! ### Functions -/

/-- A value in a clean heap stands for one in the model. -/
structure FitV (P : Program) (base N L : Nat) (D0 : Nat → Prop) (β0 : Nat → Nat × Nat) (κ0 : Nat → Nat) (v : Value) (h : List Blk) (v' : Value) (w : World) (D : Nat → Prop) (β : Nat → Nat × Nat) (κ : Nat → Nat) : Prop where
  dom : ∀ i, D i → i < h.length
  bl : base ≤ h.length
  ll : L ≤ h.length
  rel : Rel P D β κ base N (toF h) w
  val : VR D β κ v v'
  ext : ∀ i, i < L → (D i ↔ D0 i) ∧ β i = β0 i ∧ κ i = κ0 i

def WkV (P : Program) (base L : Nat) (v : Value) (h : List Blk) (v2 : Value) (h2 : List Blk) : Prop :=
  ∀ N D0 β0 κ0 v' w, (∃ D β κ, FitV P base N L D0 β0 κ0 v h v' w D β κ) → ∃ D β κ, FitV P base N L D0 β0 κ0 v2 h2 v' w D β κ

theorem WkV.refl {P : Program} {base L : Nat} {v : Value} {h : List Blk} : WkV P base L v h v h := fun _ _ _ _ _ _ x => x

/-- A PURE FUNCTION, out of its body. -/
theorem PureSim.of_TS {P : Program} {g : FuncId} {args : List Value} {h : List Blk} {v : Value} {new : List Blk} {fn : Func} {c : Code} (hfn : P.funcs[g]? = some fn) (hc : fn.body = some c)
    (hname : (fn.name == "runtime.NumGoroutine") = false)
    (ht : TS P h.length h.length c { tmps := args ++ List.replicate (fn.ntmps - args.length) undef } h
      fun e a1 h1 => (e = .normal ∨ e = .ret) ∧ a1.marks = [] ∧ ∃ v1, cResults P fn a1 h1 = some v1 ∧ WkV P h.length h.length v1 h1 v (List.replicate h.length Blk.dead ++ new)) : PureSim P g args h v new := by
  refine ⟨⟨fn, c, hfn, hc, hname⟩, fun D β κ w args' hD hR hargs => ?_⟩
  have start : ActR D β κ { tmps := args ++ List.replicate (fn.ntmps - args.length) undef } { tmps := (⟨args'⟩ : Array Value) ++ Array.replicate (fn.ntmps - (⟨args'⟩ : Array Value).size) undef, defers := [] } := by
    refine ⟨?_, rfl, fun m hm => by simp at hm⟩
    have := hargs.app (LR.rep (fn.ntmps - args.length) (VR.undef (D := D) (β := β) (κ := κ)))
    rw [hargs.len] at this ⊢
    simpa using this
  refine callsIn_FW.1 (callsIn_of_wp_marks (F := FW none) (n := 0) hfn hc trivial ?_)
  refine ht w.heap.size D β κ w w _ _ ⟨D, β, κ, hD, Nat.le_refl _, Nat.le_refl _, hR, start, fun i _ => ⟨Iff.rfl, rfl, rfl⟩⟩ (Below.refl _ _) fun e a1 h1 a1' w1 hp hf hb => ?_
  obtain ⟨he, hm, v1, hres, hwk⟩ := hp
  obtain ⟨D1, β1, κ1, hf⟩ := hf
  obtain ⟨v', h3, h4⟩ := results_sim hf.rel hf.act hres
  obtain ⟨D2, β2, κ2, hf2⟩ := hwk w.heap.size D β κ v' w1 ⟨D1, β1, κ1, hf.dom, hf.bl, hf.ll, hf.rel, h4, hf.ext⟩
  have hQ : QOut P D β κ h.length w.heap.size h.length w { val := v, new := new } v' w1 (fun i => if i < h.length + new.length then β2 i else β i) (fun i => if i < h.length + new.length then κ2 i else κ i) := by
    have hlen : (List.replicate h.length Blk.dead ++ new).length = h.length + new.length := by simp
    have hdom : ∀ i, D2 i → i < h.length + new.length := fun i hi => by rw [← hlen]; exact hf2.dom i hi
    have hsub : ∀ i, D2 i → (D i ∨ InNew h.length new.length i) := fun i hi => by
      by_cases hl : i < h.length
      · exact .inl ((hf2.ext i hl).1.1 hi)
      · exact .inr ⟨by omega, hdom i hi⟩
    have hE : Ext D2 β2 κ2 (fun i => if i < h.length + new.length then β2 i else β i) (fun i => if i < h.length + new.length then κ2 i else κ i) := fun i hi => by simp [hdom i hi]
    refine { ext := fun i hi => ?_, val := hf2.val.mono hsub hE, below := hb, keep := fun B hB _ => hb.block B hB, new := fun j b hj hbd => ?_, inj := fun i j b c hi hj hbd hcd he => ?_, upd := fun k b hk => by cases hk }
    · by_cases hl : i < h.length + new.length
      · have : i < h.length := by
          apply Classical.byContradiction
          intro hn
          exact hi ⟨by omega, hl⟩
        have e := hf2.ext i this
        simp only [if_pos hl]
        exact ⟨e.2.1, e.2.2⟩
      · simp [hl]
    · have hjl := (List.getElem?_eq_some_iff.1 hj).1
      have hj : new[j]? = some b := hj
      have hjl : j < new.length := hjl
      have hat : (List.replicate h.length Blk.dead ++ new)[h.length + j]? = some b := by rw [List.getElem?_append_right (by simp)]; simpa using hj
      have hB := hf2.rel.blk (h.length + j)
      have hOw := hf2.rel.own (h.length + j) (by rw [toF_some hat]; exact hbd) (by omega)
      rw [toF_some hat] at hB hOw
      have e1 : (if h.length + j < h.length + new.length then β2 (h.length + j) else β (h.length + j)) = β2 (h.length + j) := by rw [if_pos (by omega)]
      have e2 : (if h.length + j < h.length + new.length then κ2 (h.length + j) else κ (h.length + j)) = κ2 (h.length + j) := by rw [if_pos (by omega)]
      refine ⟨hB.move hsub hE e1 rfl, hOw.2.move ⟨e1, e2⟩ rfl, ?_, .inl ?_⟩
      · simp only [e1]; exact hOw.1
      · simp only [e1]; exact hOw.1
    · have hi : new[i]? = some b := hi
      have hj : new[j]? = some c := hj
      have hil : i < new.length := (List.getElem?_eq_some_iff.1 hi).1
      have hjl : j < new.length := (List.getElem?_eq_some_iff.1 hj).1
      have hati : (List.replicate h.length Blk.dead ++ new)[h.length + i]? = some b := by rw [List.getElem?_append_right (by simp)]; simpa using hi
      have hatj : (List.replicate h.length Blk.dead ++ new)[h.length + j]? = some c := by rw [List.getElem?_append_right (by simp)]; simpa using hj
      have he : (if h.length + i < h.length + new.length then β2 (h.length + i) else β (h.length + i)).1 = (if h.length + j < h.length + new.length then β2 (h.length + j) else β (h.length + j)).1 := he
      rw [if_pos (by omega), if_pos (by omega)] at he
      have := hf2.rel.inj (h.length + i) (h.length + j) (by rw [toF_some hati]; exact hbd) (by rw [toF_some hatj]; exact hcd) (by omega) (by omega) he
      omega
  have leaves : LeavesInM (FW none) 0 P fn a1'.tmps (fun e w' => ∃ v' β' κ', e = .returned v' ∧ QOut P D β κ h.length w.heap.size h.length w { val := v, new := new } v' w' β' κ') a1'.defers .returning w1 := by
    rw [hf.act.marks, hm]
    exact ⟨v', h3, v', _, _, rfl, hQ⟩
  rcases he with rfl | rfl <;> exact leaves
end Go.Cl
