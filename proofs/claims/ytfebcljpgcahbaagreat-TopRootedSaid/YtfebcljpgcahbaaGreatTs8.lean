/- The framework, Ts1 to Ts8. -/
import Derived.Test.YtfebcljpgcahbaaGreatCl28
import Derived.OpenShut
/- Statements about pieces of code on clean states: blocks may be called anew, and what is no longer wanted forgotten. -/
set_option linter.unusedVariables false
namespace Go.Cl
open Go Go.RowKit

/-- A clean state stands for a state of the model. D0, β0, κ0: where the blocks below L lay at the beginning. -/
structure Fit (P : Program) (base : Nat) (N : Kp) (L : Nat) (D0 : Nat → Prop) (β0 : Nat → Nat × Nat) (κ0 : Nat → Nat) (a : CAct) (h : List Blk) (a' : Act) (w : World) (D : Nat → Prop) (β : Nat → Nat × Nat) (κ : Nat → Nat) : Prop where
  dom : ∀ i, D i → i < h.length
  bl : base ≤ h.length
  ll : L ≤ h.length
  rel : Rel P D β κ base N (toF h) w
  act : ActR D β κ a a'
  ext : ∀ i, i < L → (D i ↔ D0 i) ∧ β i = β0 i ∧ κ i = κ0 i

def Fits (P : Program) (base : Nat) (N : Kp) (L : Nat) (D0 : Nat → Prop) (β0 : Nat → Nat × Nat) (κ0 : Nat → Nat) (a : CAct) (h : List Blk) (a' : Act) (w : World) : Prop :=
  ∃ D β κ, Fit P base N L D0 β0 κ0 a h a' w D β κ

/-- Whatever the first state stands for, the second one stands for. -/
def Wk (P : Program) (base L : Nat) (a : CAct) (h : List Blk) (a2 : CAct) (h2 : List Blk) : Prop :=
  ∀ N D0 β0 κ0 a' w, Fits P base N L D0 β0 κ0 a h a' w → Fits P base N L D0 β0 κ0 a2 h2 a' w

theorem Wk.refl {P : Program} {base L : Nat} {a : CAct} {h : List Blk} : Wk P base L a h a h := fun _ _ _ _ _ _ h => h
theorem Wk.trans {P : Program} {base L : Nat} {a a2 a3 : CAct} {h h2 h3 : List Blk} (x : Wk P base L a h a2 h2) (y : Wk P base L a2 h2 a3 h3) : Wk P base L a h a3 h3 :=
  fun _ _ _ _ _ _ h => y _ _ _ _ _ _ (x _ _ _ _ _ _ h)

/-- The round in which the code stands: none, or one whose record is among the blocks below L. -/
def RoK (L : Nat) (D0 : Nat → Prop) (β0 : Nat → Nat × Nat) (R : Option Nat) : Prop := R = none ∨ ∃ l0, l0 < L ∧ D0 l0 ∧ R = some (β0 l0).1

abbrev Post := Exit → CAct → List Blk → Prop

/-- Whatever state of the model the clean state stands for: the code ends, in one of the states of Φ. -/
def TS (P : Program) (base L : Nat) (c : Code) (a : CAct) (h : List Blk) (Φ : Post) : Prop :=
  ∀ (N : Kp) (D0 : Nat → Prop) (β0 : Nat → Nat × Nat) (κ0 : Nat → Nat) (R : Option Nat) (hR : RoK L D0 β0 R) (w0 w : World) (a' : Act) (Q : Exit → Act → World → Prop),
    Fits P base N L D0 β0 κ0 a h a' w → Held N w0 w →
    (∀ e a1 h1 a1' w1, Φ e a1 h1 → Fits P base N L D0 β0 κ0 a1 h1 a1' w1 → Held N w0 w1 → Q e a1' w1) →
    c.wpIn (FW R) 0 P Q a' w

section
variable {P : Program} {base L : Nat} {c x y : Code} {a a1 a2 : CAct} {h h1 h2 : List Blk} {Φ Ψ : Post} {e : Exit}

theorem TS.weak (hw : Wk P base L a h a2 h2) (ht : TS P base L c a2 h2 Φ) : TS P base L c a h Φ :=
  fun N D0 β0 κ0 R hR w0 w a' Q hf hb hq => ht N D0 β0 κ0 R hR w0 w a' Q (hw _ _ _ _ _ _ hf) hb hq

theorem TS.post (ht : TS P base L c a h Φ) (hp : ∀ e a1 h1, Φ e a1 h1 → ∃ a2 h2, Ψ e a2 h2 ∧ Wk P base L a1 h1 a2 h2) : TS P base L c a h Ψ :=
  fun N D0 β0 κ0 R hR w0 w a' Q hf hb hq => ht N D0 β0 κ0 R hR w0 w a' Q hf hb fun e a1 h1 a1' w1 h1' hf' hb' =>
    let ⟨_, _, h2', hw⟩ := hp e a1 h1 h1'
    hq _ _ _ _ _ h2' (hw _ _ _ _ _ _ hf') hb'

theorem TS.mono (ht : TS P base L c a h Φ) (hp : ∀ e a1 h1, Φ e a1 h1 → Ψ e a1 h1) : TS P base L c a h Ψ :=
  ht.post fun e a1 h1 hx => ⟨a1, h1, hp e a1 h1 hx, Wk.refl⟩

theorem Fits.out {N : Kp} {D0 D : Nat → Prop} {β0 β β' : Nat → Nat × Nat} {κ0 κ κ' : Nat → Nat} {a' a1' : Act} {w w' : World} (hf : Fit P base N L D0 β0 κ0 a h a' w D β κ)
    (hO : Out P D β κ base N h w h1 w' β' κ') (hA : ActR (Up D h h1) β' κ' a1 a1') : Fits P base N L D0 β0 κ0 a1 h1 a1' w' :=
  ⟨Up D h h1, β', κ', hO.known hf.dom, Nat.le_trans hf.bl hO.le, Nat.le_trans hf.ll hO.le, hO.rel, hA, fun i hi => by
    have e1 := hf.ext i hi
    have e2 := hO.ext i (Nat.lt_of_lt_of_le hi hf.ll)
    exact ⟨⟨fun hd => hd.elim e1.1.1 (fun hn => by have := hn.1; have := hf.ll; omega), fun hd => .inl (e1.1.2 hd)⟩, e2.1.trans e1.2.1, e2.2.trans e1.2.2⟩⟩

/-- Out of one run of the clean interpreter. -/
theorem TS.of_sim {m : Nat} (hs : ∀ ro, CodeSim P m ro base c a h e a1 h1) (hp : Φ e a1 h1) : TS P base L c a h Φ := by
  rintro N D0 β0 κ0 R hR w0 w a' Q ⟨D, β, κ, hf⟩ hb hq
  have go : ∀ ro, RoR D β ro R → c.wpIn (FW R) 0 P Q a' w := fun ro hro => by
    refine CodeWp.wp (hs ro D β κ N w a' R Q hf.dom hf.bl hf.rel hf.act hro fun β' κ' w' a1' hO hA => ?_)
    exact hq _ _ _ _ _ hp (Fits.out hf hO hA) (hb.trans hO.below)
  rcases hR with h0 | ⟨l0, h1, h2, h3⟩
  · exact go none (.inl ⟨rfl, h0⟩)
  · obtain ⟨e1, e2, _⟩ := hf.ext l0 h1
    exact go (some l0) (.inr ⟨l0, rfl, e1.2 h2, by rw [e2]; exact h3⟩)

theorem TS.skip (hp : Φ .normal a h) : TS P base L .skip a h Φ := fun _ _ _ _ _ _ _ _ _ _ hf hb hq => wpIn_skip (hq _ _ _ _ _ hp hf hb)
theorem TS.exit {id : Nat} (hp : Φ (.exit id) a h) : TS P base L (.exit id) a h Φ := fun _ _ _ _ _ _ _ _ _ _ hf hb hq => wpIn_exit (hq _ _ _ _ _ hp hf hb)
theorem TS.ret (hp : Φ .ret a h) : TS P base L .ret a h Φ := fun _ _ _ _ _ _ _ _ _ _ hf hb hq => wpIn_ret (hq _ _ _ _ _ hp hf hb)

/-- What is behind a piece of code. -/
inductive Fr where
  | sq (y : Code)
  | bk (id : Nat)
  | sc

def NX (P : Program) (base L : Nat) : List Fr → Post → Post
  | [], Φ, e, a, h => Φ e a h
  | .sq y :: K, Φ, .normal, a, h => TS P base L y a h (NX P base L K Φ)
  | .sq _ :: K, Φ, e, a, h => NX P base L K Φ e a h
  | .bk id :: K, Φ, .exit i, a, h => if i = id then NX P base L K Φ .normal a h else NX P base L K Φ (.exit i) a h
  | .bk _ :: K, Φ, e, a, h => NX P base L K Φ e a h
  | .sc :: _, _, .goto _, _, _ => False
  | .sc :: K, Φ, e, a, h => NX P base L K Φ e a h

variable {K : List Fr}

theorem TS.start (ht : TS P base L c a h (NX P base L [] Φ)) : TS P base L c a h Φ := ht

theorem TS.seq (ht : TS P base L x a h (NX P base L (.sq y :: K) Φ)) : TS P base L (.seq x y) a h (NX P base L K Φ) := by
  intro N D0 β0 κ0 R hR w0 w a' Q hf hb hq
  refine wpIn_seq (ht N D0 β0 κ0 R hR w0 w a' _ hf hb fun e a1 h1 a1' w1 hp hf1 hb1 => ?_)
  cases e with
  | normal => exact (show TS P base L y a1 h1 (NX P base L K Φ) from hp) N D0 β0 κ0 R hR w0 w1 a1' Q hf1 hb1 hq
  | _ => exact hq _ _ _ _ _ (show NX P base L K Φ _ a1 h1 from hp) hf1 hb1

theorem TS.block {id : Nat} (ht : TS P base L c a h (NX P base L (.bk id :: K) Φ)) : TS P base L (.block id c) a h (NX P base L K Φ) := by
  intro N D0 β0 κ0 R hR w0 w a' Q hf hb hq
  refine wpIn_block (ht N D0 β0 κ0 R hR w0 w a' _ hf hb fun e a1 h1 a1' w1 hp hf1 hb1 => ?_)
  cases e with
  | exit i =>
    have hp : (if i = id then NX P base L K Φ .normal a1 h1 else NX P base L K Φ (.exit i) a1 h1) := hp
    simp only [Exit.inBlock]
    split
    · rename_i hi; rw [if_pos hi] at hp; exact hq _ _ _ _ _ hp hf1 hb1
    · rename_i hi; rw [if_neg hi] at hp; exact hq _ _ _ _ _ hp hf1 hb1
  | _ => exact hq _ _ _ _ _ (show NX P base L K Φ _ a1 h1 from hp) hf1 hb1

theorem TS.scope (ht : TS P base L c a h (NX P base L (.sc :: K) Φ)) : TS P base L (.scope c) a h (NX P base L K Φ) := by
  intro N D0 β0 κ0 R hR w0 w a' Q hf hb hq
  refine wpIn_scope (ht N D0 β0 κ0 R hR w0 w a' _ hf hb fun e a1 h1 a1' w1 hp hf1 hb1 => ?_)
  cases e with
  | goto l => exact (show False from hp).elim
  | _ => exact hq _ _ _ _ _ (show NX P base L K Φ _ a1 h1 from hp) hf1 hb1

theorem TS.label {l : Nat} (hp : Φ .normal a h) : TS P base L (.label l) a h Φ := fun _ _ _ _ _ _ _ _ _ _ hf hb hq => wpIn_label (hq _ _ _ _ _ hp hf hb)

theorem TS.cond {o : Operand} {b : Bool} (hc : a.eval o = .bool b) (ht : b = true → TS P base L x a h Φ) (hf : b = false → TS P base L y a h Φ) : TS P base L (.cond o x y) a h Φ := by
  rintro N D0 β0 κ0 R hR w0 w a' Q ⟨D, β, κ, hfit⟩ hb hq
  have hv := hfit.act.eval o
  rw [hc] at hv
  have : a'.eval o = .bool b := by
    generalize a'.eval o = z at hv
    cases hv; rfl
  exact wpIn_cond_split this (fun e => ht e N D0 β0 κ0 R hR w0 w a' Q ⟨D, β, κ, hfit⟩ hb hq) (fun e => hf e N D0 β0 κ0 R hR w0 w a' Q ⟨D, β, κ, hfit⟩ hb hq)

theorem roundsIn_more {F : Fence} {n : Nat} {P : Program} {c : Code} {Q : Exit → Act → World → Prop} : ∀ {m m' : Nat} {a : Act} {w : World}, m ≤ m' → Code.roundsIn F n P c Q m a w → Code.roundsIn F n P c Q m' a w
  | 0, _, _, _, _, h => h.elim
  | m + 1, 0, _, _, hm, _ => by omega
  | m + 1, m' + 1, a, w, hm, h => by
    rw [roundsIn_succ] at h ⊢
    refine wpIn_mono h fun e a1 w1 hq => ?_
    cases e with
    | normal => exact roundsIn_more (Nat.le_of_succ_le_succ hm) hq
    | _ => exact hq

/-- A loop: n: what becomes less with each round. -/
theorem TS.loop (I : Nat → CAct → List Blk → Prop)
    (hr : ∀ n a h, I n a h → TS P base L c a h fun e a1 h1 => match e with | .normal => ∃ n' a2 h2, n' < n ∧ I n' a2 h2 ∧ Wk P base L a1 h1 a2 h2 | e => Φ e a1 h1) :
    ∀ {n : Nat} {a : CAct} {h : List Blk}, I n a h → TS P base L (.loop c) a h Φ := by
  have key : ∀ m n a h, n < m → I n a h → ∀ (N : Kp) (D0 : Nat → Prop) (β0 : Nat → Nat × Nat) (κ0 : Nat → Nat) (R : Option Nat) (hR : RoK L D0 β0 R) (w0 w : World) (a' : Act) (Q : Exit → Act → World → Prop),
      Fits P base N L D0 β0 κ0 a h a' w → Held N w0 w → (∀ e a1 h1 a1' w1, Φ e a1 h1 → Fits P base N L D0 β0 κ0 a1 h1 a1' w1 → Held N w0 w1 → Q e a1' w1) → Code.roundsIn (FW R) 0 P c Q m a' w := by
    intro m
    induction m with
    | zero => intro n a h hn; omega
    | succ m ih =>
      intro n a h hn hi N D0 β0 κ0 R hR w0 w a' Q hf hb hq
      rw [roundsIn_succ]
      refine hr n a h hi N D0 β0 κ0 R hR w0 w a' _ hf hb fun e a1 h1 a1' w1 hp hf1 hb1 => ?_
      cases e with
      | normal =>
        obtain ⟨n', a2, h2, hn', hi', hw⟩ := hp
        exact ih n' a2 h2 (by omega) hi' N D0 β0 κ0 R hR w0 w1 a1' Q (hw _ _ _ _ _ _ hf1) hb1 hq
      | _ => exact hq _ _ _ _ _ hp hf1 hb1
  intro n a h hi N D0 β0 κ0 R hR w0 w a' Q hf hb hq
  exact wpIn_loop_rounds (n + 1) (key (n + 1) n a h (Nat.lt_succ_self n) hi N D0 β0 κ0 R hR w0 w a' Q hf hb hq)
end
end Go.Cl
/- The operations of a region, one by one; functions out of their bodies. -/
set_option linter.unusedVariables false
namespace Go.Cl
open Go Go.RowKit

/-- Whatever state of the model the clean state stands for: the operations come to an end, in one of the states of Ψ. -/
def TO (P : Program) (base L : Nat) (ops : Array Oper) (rest : List Oper) (a : CAct) (h : List Blk) (Ψ : CAct → List Blk → Prop) : Prop :=
  ∀ (N : Kp) (D0 : Nat → Prop) (β0 : Nat → Nat × Nat) (κ0 : Nat → Nat) (R : Option Nat) (hR : RoK L D0 β0 R) (w0 w : World) (a' : Act) (Q : Exit → Act → World → Prop),
    Fits P base N L D0 β0 κ0 a h a' w → Held N w0 w →
    (∀ a1 h1 a1' w1, Ψ a1 h1 → Fits P base N L D0 β0 κ0 a1 h1 a1' w1 → Held N w0 w1 → Q .normal a1' w1) →
    wpListIn (FW R) 0 P ops Q rest a' w

/-- Nothing is known of any function. -/
def E0 (P : Program) : Env := { P := P, sum := fun _ => none, imp := fun _ => true }

section
variable {P : Program} {base L : Nat} {ops : Array Oper} {rest : List Oper} {o : Oper} {a a1 a2 : CAct} {h h1 h2 : List Blk} {Ψ Ξ : CAct → List Blk → Prop}

theorem TO.nil (hp : Ψ a h) : TO P base L ops [] a h Ψ := fun _ _ _ _ _ _ _ _ _ _ hf hb hq => hq _ _ _ _ hp hf hb

theorem TO.weak (hw : Wk P base L a h a2 h2) (ht : TO P base L ops rest a2 h2 Ψ) : TO P base L ops rest a h Ψ :=
  fun N D0 β0 κ0 R hR w0 w a' Q hf hb hq => ht N D0 β0 κ0 R hR w0 w a' Q (hw _ _ _ _ _ _ hf) hb hq

theorem TO.mono (ht : TO P base L ops rest a h Ψ) (hp : ∀ a h, Ψ a h → Ξ a h) : TO P base L ops rest a h Ξ :=
  fun N D0 β0 κ0 R hR w0 w a' Q hf hb hq => ht N D0 β0 κ0 R hR w0 w a' Q hf hb fun a1 h1 a1' w1 h1' => hq a1 h1 a1' w1 (hp _ _ h1')

theorem TS.region {id : Nat} {K : List Fr} {Φ : Post} (ht : TO P base L ops ops.toList a h (NX P base L K Φ .normal)) : TS P base L (.region id ops false) a h (NX P base L K Φ) :=
  fun N D0 β0 κ0 R hR w0 w a' Q hf hb hq => wpIn_region_list (ht N D0 β0 κ0 R hR w0 w a' Q hf hb fun a1 h1 a1' w1 hp => hq _ a1 h1 a1' w1 hp)

/-- An operation of which the environment E knows what it comes to. -/
theorem TO.stepE {E : Env} {r : Rec} {q : QRes} (hcall : ∀ g args v new, callQ E r g args h = some (v, new) → PureSim E.P g args h v new) (hw : cWanted ops.toList a o = some true)
    (hq : qOp E r base h h.length a.eval o = some q) (ht : TO E.P base L ops rest (a.put o.dst q.val) (q.heap h) Ψ) : TO E.P base L ops (o :: rest) a h Ψ := by
  rintro N D0 β0 κ0 R hR w0 w a' Q ⟨D, β, κ, hf⟩ hb hQ
  have hw' := wanted_sim hw hf.act
  simp only [wpListIn, hw', if_true]
  refine qOp_wp hcall hq hf.rel hf.dom hf.act.eval fun v' w' β' κ' hQo => ?_
  obtain ⟨hO, hv⟩ := Out.of_q hf.rel hf.dom hf.bl hQo (fun k b hu => qOp_alive hq hu)
  exact ht N D0 β0 κ0 R hR w0 w' _ Q (Fits.out hf hO ((hf.act.out hO hf.dom).put o.dst hv)) (hb.trans hO.below) hQ

/-- An operation that calls no function. -/
theorem TO.step {q : QRes} (hw : cWanted ops.toList a o = some true) (hq : qOp (E0 P) Rec.none base h h.length a.eval o = some q) (ht : TO P base L ops rest (a.put o.dst q.val) (q.heap h) Ψ) :
    TO P base L ops (o :: rest) a h Ψ :=
  TO.stepE (E := E0 P) (r := Rec.none) (fun g args v new hc => by simp [callQ, E0] at hc) hw hq ht

/-- One that only comes to a value. -/
theorem TO.val {v : Value} (hw : cWanted ops.toList a o = some true) (hq : qOp (E0 P) Rec.none base h h.length a.eval o = some { val := v }) (ht : TO P base L ops rest (a.put o.dst v) h Ψ) :
    TO P base L ops (o :: rest) a h Ψ :=
  TO.step hw hq (by simpa [QRes.heap] using ht)

/-- One that makes blocks. -/
theorem TO.new {v : Value} {new : List Blk} (hw : cWanted ops.toList a o = some true) (hq : qOp (E0 P) Rec.none base h h.length a.eval o = some { val := v, new := new }) (ht : TO P base L ops rest (a.put o.dst v) (h ++ new) Ψ) :
    TO P base L ops (o :: rest) a h Ψ :=
  TO.step hw hq (by simpa [QRes.heap] using ht)

/-- One that writes a block. -/
theorem TO.upd {v : Value} {k : Nat} {b : Blk} (hw : cWanted ops.toList a o = some true) (hq : qOp (E0 P) Rec.none base h h.length a.eval o = some { val := v, upd := some (k, b) }) (ht : TO P base L ops rest (a.put o.dst v) (h.set k b) Ψ) :
    TO P base L ops (o :: rest) a h Ψ :=
  TO.step hw hq (by simpa [QRes.heap] using ht)

/-- One whose guard does not hold. -/
theorem TO.pass (hw : cWanted ops.toList a o = some false) (ht : TO P base L ops rest (a.put o.dst undef) h Ψ) : TO P base L ops (o :: rest) a h Ψ := by
  rintro N D0 β0 κ0 R hR w0 w a' Q ⟨D, β, κ, hf⟩ hb hQ
  have hw' := wanted_sim hw hf.act
  simp only [wpListIn, hw', Bool.false_eq_true, if_false]
  exact ⟨fun _ _ => trivial, ht N D0 β0 κ0 R hR w0 w _ Q ⟨D, β, κ, hf.dom, hf.bl, hf.ll, hf.rel, hf.act.put o.dst VR.undef, hf.ext⟩ hb hQ⟩

/-- A call of a function that writes nothing that came in. -/
theorem TO.call {f : Operand} {args : Array Operand} {ts : Array TypeId} {g : FuncId} {first captured : Array Value} {v : Value} {new : List Blk} (hw : cWanted ops.toList a o = some true)
    (ho : o.op = .call ⟨.value f, args, ts⟩) (hf : a.eval f = .func (.func g) first captured) (hP : PureSim P g (first.toList ++ args.toList.map a.eval ++ captured.toList) h v new)
    (ht : TO P base L ops rest (a.put o.dst v) (h ++ new) Ψ) : TO P base L ops (o :: rest) a h Ψ := by
  classical
  refine TO.stepE (E := { P := P, sum := fun g' => some fun args' h' => if g' = g ∧ args' = first.toList ++ args.toList.map a.eval ++ captured.toList ∧ h' = h then some (v, new) else none, imp := fun _ => true })
    (r := Rec.none) (q := { val := v, new := new }) ?_ hw ?_ ?_
  · intro g' args' v' new' hc
    simp only [callQ] at hc
    split at hc
    · rename_i p hp
      split at hp
      · rename_i he
        obtain ⟨rfl, rfl, _⟩ := he
        cases hp
        cases hc
        exact hP
      · cases hp
    · simp at hc
  · simp [qOp, ho, hf, qCall, callQ]
  · simpa [QRes.heap] using ht

/-- A call of a function that may write. -/
theorem TO.icall {f : Operand} {args : Array Operand} {ts : Array TypeId} {g : FuncId} {first captured : Array Value} {v : Value} (hw : cWanted ops.toList a o = some true)
    (ho : o.op = .call ⟨.value f, args, ts⟩) (hf : a.eval f = .func (.func g) first captured) (hP : ImpSim P g (first.toList ++ args.toList.map a.eval ++ captured.toList) base h v h1)
    (ht : TO P base L ops rest (a.put o.dst v) h1 Ψ) : TO P base L ops (o :: rest) a h Ψ := by
  classical
  rintro N D0 β0 κ0 R hR w0 w a' Q ⟨D, β, κ, hfit⟩ hb hQ
  have hw' := wanted_sim hw hfit.act
  simp only [wpListIn, hw', if_true]
  have hr : Sound (E0 P) 0 { pcall := fun _ _ _ => none, code := fun _ _ _ _ _ => none, icall := fun g' args' base' h' => if g' = g ∧ args' = first.toList ++ args.toList.map a.eval ++ captured.toList ∧ base' = base ∧ h' = h then some (v, h1) else none } :=
    { pcall := fun _ _ _ _ _ hc => (by cases hc), code := fun _ _ _ _ _ _ _ _ hc => (by cases hc), icall := fun g' args' base' h' v' h1' hc => by
        simp only at hc
        split at hc
        · rename_i he
          obtain ⟨rfl, rfl, rfl, rfl⟩ := he
          cases hc
          exact hP
        · cases hc }
  refine iOp_wp (E := E0 P) hr (h' := h1) (ρ := a.eval) (v := v) ?_ hfit.dom hfit.bl hfit.rel hfit.act.eval fun v' w' β' κ' hO hv => ?_
  · simp [iOp, ho, iCall, hf, E0]
  · exact ht N D0 β0 κ0 R hR w0 w' _ Q (Fits.out hfit hO ((hfit.act.out hO hfit.dom).put o.dst hv)) (hb.trans hO.below) hQ

end

/-! ### Functions -/

/-- A value in a clean heap stands for one in the model. -/
structure FitV (P : Program) (base : Nat) (N : Kp) (L : Nat) (D0 : Nat → Prop) (β0 : Nat → Nat × Nat) (κ0 : Nat → Nat) (v : Value) (h : List Blk) (v' : Value) (w : World) (D : Nat → Prop) (β : Nat → Nat × Nat) (κ : Nat → Nat) : Prop where
  dom : ∀ i, D i → i < h.length
  bl : base ≤ h.length
  ll : L ≤ h.length
  rel : Rel P D β κ base N (toF h) w
  val : VR D β κ v v'
  ext : ∀ i, i < L → (D i ↔ D0 i) ∧ β i = β0 i ∧ κ i = κ0 i

def WkV (P : Program) (base L : Nat) (v : Value) (h : List Blk) (v2 : Value) (h2 : List Blk) : Prop :=
  ∀ N D0 β0 κ0 v' w, (∃ D β κ, FitV P base N L D0 β0 κ0 v h v' w D β κ) → ∃ D β κ, FitV P base N L D0 β0 κ0 v2 h2 v' w D β κ

theorem WkV.refl {P : Program} {base L : Nat} {v : Value} {h : List Blk} : WkV P base L v h v h := fun _ _ _ _ _ _ x => x

/-- A PURE FUNCTION, out of its body. -/
theorem PureSim.of_TS {P : Program} {g : FuncId} {args : List Value} {h : List Blk} {v : Value} {new : List Blk} {fn : Func} {c : Code} (hfn : P.funcs[g]? = some fn) (hc : fn.body = some c)
    (hname : (fn.name == "runtime.NumGoroutine") = false)
    (ht : TS P h.length h.length c { tmps := args ++ List.replicate (fn.ntmps - args.length) undef } h
      fun e a1 h1 => (e = .normal ∨ e = .ret) ∧ a1.marks = [] ∧ ∃ v1, cResults P fn a1 h1 = some v1 ∧ WkV P h.length h.length v1 h1 v (List.replicate h.length Blk.dead ++ new)) : PureSim P g args h v new := by
  refine ⟨⟨fn, c, hfn, hc, hname⟩, fun D β κ w args' hD hR hargs => ?_⟩
  have start : ActR D β κ { tmps := args ++ List.replicate (fn.ntmps - args.length) undef } { tmps := (⟨args'⟩ : Array Value) ++ Array.replicate (fn.ntmps - (⟨args'⟩ : Array Value).size) undef, defers := [] } := by
    refine ⟨?_, rfl, fun m hm => by simp at hm⟩
    have := hargs.app (LR.rep (fn.ntmps - args.length) (VR.undef (D := D) (β := β) (κ := κ)))
    rw [hargs.len] at this ⊢
    simpa using this
  refine callsIn_FW.1 (callsIn_of_wp_marks (F := FW none) (n := 0) hfn hc trivial ?_)
  refine ht (Kp.under w.heap.size) D β κ none (.inl rfl) w w _ _ ⟨D, β, κ, hD, Nat.le_refl _, Nat.le_refl _, hR, start, fun i _ => ⟨Iff.rfl, rfl, rfl⟩⟩ (Held.refl _ _) fun e a1 h1 a1' w1 hp hf hb => ?_
  obtain ⟨he, hm, v1, hres, hwk⟩ := hp
  obtain ⟨D1, β1, κ1, hf⟩ := hf
  obtain ⟨v', h3, h4⟩ := results_sim hf.rel hf.act hres
  obtain ⟨D2, β2, κ2, hf2⟩ := hwk (Kp.under w.heap.size) D β κ v' w1 ⟨D1, β1, κ1, hf.dom, hf.bl, hf.ll, hf.rel, h4, hf.ext⟩
  have hQ : QOut P D β κ h.length (Kp.under w.heap.size) h.length w { val := v, new := new } v' w1 (fun i => if i < h.length + new.length then β2 i else β i) (fun i => if i < h.length + new.length then κ2 i else κ i) := by
    have hlen : (List.replicate h.length Blk.dead ++ new).length = h.length + new.length := by simp
    have hdom : ∀ i, D2 i → i < h.length + new.length := fun i hi => by rw [← hlen]; exact hf2.dom i hi
    have hsub : ∀ i, D2 i → (D i ∨ InNew h.length new.length i) := fun i hi => by
      by_cases hl : i < h.length
      · exact .inl ((hf2.ext i hl).1.1 hi)
      · exact .inr ⟨by omega, hdom i hi⟩
    have hE : Ext D2 β2 κ2 (fun i => if i < h.length + new.length then β2 i else β i) (fun i => if i < h.length + new.length then κ2 i else κ i) := fun i hi => by simp [hdom i hi]
    refine { ext := fun i hi => ?_, val := hf2.val.mono hsub hE, below := hb, keep := fun B hB _ => hb.block B hB, new := fun j b hj hbd => ?_, inj := fun i j b c hi hj hbd hcd he => ?_, upd := fun k b hk => by cases hk }
    · by_cases hl : i < h.length + new.length
      · have : i < h.length := by
          apply Classical.byContradiction
          intro hn
          exact hi ⟨by omega, hl⟩
        have e := hf2.ext i this
        simp only [if_pos hl]
        exact ⟨e.2.1, e.2.2⟩
      · simp [hl]
    · have hjl := (List.getElem?_eq_some_iff.1 hj).1
      have hj : new[j]? = some b := hj
      have hjl : j < new.length := hjl
      have hat : (List.replicate h.length Blk.dead ++ new)[h.length + j]? = some b := by rw [List.getElem?_append_right (by simp)]; simpa using hj
      have hB := hf2.rel.blk (h.length + j)
      have hOw := hf2.rel.own (h.length + j) (by rw [toF_some hat]; exact hbd) (by omega)
      rw [toF_some hat] at hB hOw
      have e1 : (if h.length + j < h.length + new.length then β2 (h.length + j) else β (h.length + j)) = β2 (h.length + j) := by rw [if_pos (by omega)]
      have e2 : (if h.length + j < h.length + new.length then κ2 (h.length + j) else κ (h.length + j)) = κ2 (h.length + j) := by rw [if_pos (by omega)]
      refine ⟨hB.move hsub hE e1 rfl, hOw.2.move ⟨e1, e2⟩ rfl, ?_, .inl ?_⟩
      · simp only [e1]; exact hOw.1
      · simp only [e1]; exact (Kp.under.le hOw.1)
    · have hi : new[i]? = some b := hi
      have hj : new[j]? = some c := hj
      have hil : i < new.length := (List.getElem?_eq_some_iff.1 hi).1
      have hjl : j < new.length := (List.getElem?_eq_some_iff.1 hj).1
      have hati : (List.replicate h.length Blk.dead ++ new)[h.length + i]? = some b := by rw [List.getElem?_append_right (by simp)]; simpa using hi
      have hatj : (List.replicate h.length Blk.dead ++ new)[h.length + j]? = some c := by rw [List.getElem?_append_right (by simp)]; simpa using hj
      have he : (if h.length + i < h.length + new.length then β2 (h.length + i) else β (h.length + i)).1 = (if h.length + j < h.length + new.length then β2 (h.length + j) else β (h.length + j)).1 := he
      rw [if_pos (by omega), if_pos (by omega)] at he
      have := hf2.rel.inj (h.length + i) (h.length + j) (by rw [toF_some hati]; exact hbd) (by rw [toF_some hatj]; exact hcd) (by omega) (by omega) he
      omega
  have leaves : LeavesInM (FW none) 0 P fn a1'.tmps (fun e w' => ∃ v' β' κ', e = .returned v' ∧ QOut P D β κ h.length (Kp.under w.heap.size) h.length w { val := v, new := new } v' w' β' κ') a1'.defers .returning w1 := by
    rw [hf.act.marks, hm]
    exact ⟨v', h3, v', _, _, rfl, hQ⟩
  rcases he with rfl | rfl <;> exact leaves
end Go.Cl
/- Blocks are called anew, and what is no longer wanted is forgotten. -/
set_option linter.unusedVariables false
namespace Go.Cl
open Go Go.RowKit

/-- The first value is the second one, its blocks called by other numbers: block i is block (f i).1 from cell (f i).2 on. p: something may be forgotten. -/
inductive Rn (p : Bool) (f : Nat → Nat × Nat) (n : Nat) : Value → Value → Prop where
  | flat {v} (h : isFlat v = true) : Rn p f n v v
  | poison (v) (h : p = true) : Rn p f n poison v
  | ptr (i o o') (hi : i < n) (ho : o' = (f i).2 + o) : Rn p f n (.pointer (some ⟨i, o, none⟩)) (.pointer (some ⟨(f i).1, o', none⟩))
  | slice (i o o' l c) (hi : i < n) (ho : o' = (f i).2 + o) (hc : c ≤ INF) : Rn p f n (.slice (some ⟨i, o, none⟩) l c) (.slice (some ⟨(f i).1, o', none⟩) l c)
  | slice0 (i o l c) (hi : i < n) (h0 : (f i).2 = 0) : Rn p f n (.slice (some ⟨i, o, none⟩) l c) (.slice (some ⟨(f i).1, o, none⟩) l c)
  | any (i o o' l c C) (hi : i < n) (ho : o' = (f i).2 + o) (hp : p = true) (hC : UNK < C) : Rn p f n (.slice (some ⟨i, o, none⟩) l C) (.slice (some ⟨(f i).1, o', none⟩) l c)
  | anyN (i o C) (hp : p = true) (hC : UNK < C) : Rn p f n (.slice (some ⟨i, o, none⟩) 0 C) (.slice none 0 0)
  | zN (i o) (hp : p = true) : Rn p f n (.slice (some ⟨i, o, none⟩) 0 0) (.slice none 0 0)
  | map (i) (hi : i < n) : Rn p f n (.map (some i)) (.map (some (f i).1))
  | yield (i) (hi : i < n) : Rn p f n (.func (.yield i) #[] #[]) (.func (.yield (f i).1) #[] #[])
  | func (g) (a a' c c' : List Value) (ha : a.length = a'.length) (ha' : ∀ (j : Nat) (v v' : Value), a[j]? = some v → a'[j]? = some v' → Rn p f n v v')
      (hc : c.length = c'.length) (hc' : ∀ (j : Nat) (v v' : Value), c[j]? = some v → c'[j]? = some v' → Rn p f n v v') : Rn p f n (.func (.func g) ⟨a⟩ ⟨c⟩) (.func (.func g) ⟨a'⟩ ⟨c'⟩)
  | agg (l l' : List Value) (hl : l.length = l'.length) (hl' : ∀ (j : Nat) (v v' : Value), l[j]? = some v → l'[j]? = some v' → Rn p f n v v') : Rn p f n (.agg ⟨l⟩) (.agg ⟨l'⟩)
  | tuple (l l' : List Value) (hl : l.length = l'.length) (hl' : ∀ (j : Nat) (v v' : Value), l[j]? = some v → l'[j]? = some v' → Rn p f n v v') : Rn p f n (.tuple ⟨l⟩) (.tuple ⟨l'⟩)

structure LRn (p : Bool) (f : Nat → Nat × Nat) (n : Nat) (l l' : List Value) : Prop where
  len : l.length = l'.length
  at_ : ∀ (j : Nat) (v v' : Value), l[j]? = some v → l'[j]? = some v' → Rn p f n v v'

theorem LRn.nil {p : Bool} {f : Nat → Nat × Nat} {n : Nat} : LRn p f n [] [] := ⟨rfl, fun j v v' h => by simp at h⟩
theorem LRn.cons {p : Bool} {f : Nat → Nat × Nat} {n : Nat} {v v' : Value} {l l' : List Value} (h : Rn p f n v v') (hl : LRn p f n l l') : LRn p f n (v :: l) (v' :: l') :=
  ⟨by simp [hl.len], fun j x x' hx hx' => by
    cases j with
    | zero => simp at hx hx'; subst hx hx'; exact h
    | succ j => exact hl.at_ j _ _ (by simpa using hx) (by simpa using hx')⟩
theorem LRn.flat {p : Bool} {f : Nat → Nat × Nat} {n : Nat} {l : List Value} (h : ∀ v ∈ l, isFlat v = true) : LRn p f n l l :=
  ⟨rfl, fun j v v' hv hv' => by rw [hv] at hv'; cases hv'; exact .flat (h v (List.mem_of_getElem? hv))⟩
theorem LRn.app {p : Bool} {f : Nat → Nat × Nat} {n : Nat} {l l' m m' : List Value} (h : LRn p f n l l') (k : LRn p f n m m') : LRn p f n (l ++ m) (l' ++ m') :=
  ⟨by simp [h.len, k.len], fun j v v' hv hv' => by
    rw [List.getElem?_append] at hv hv'
    rw [← h.len] at hv'
    split at hv <;> rename_i hj
    · rw [if_pos hj] at hv'; exact h.at_ _ _ _ hv hv'
    · rw [if_neg hj] at hv'; exact k.at_ _ _ _ hv hv'⟩
theorem Rn.agg' {p : Bool} {f : Nat → Nat × Nat} {n : Nat} {l l' : List Value} (h : LRn p f n l l') : Rn p f n (.agg ⟨l⟩) (.agg ⟨l'⟩) := .agg _ _ h.len h.at_
theorem Rn.tuple' {p : Bool} {f : Nat → Nat × Nat} {n : Nat} {l l' : List Value} (h : LRn p f n l l') : Rn p f n (.tuple ⟨l⟩) (.tuple ⟨l'⟩) := .tuple _ _ h.len h.at_
theorem Rn.func' {p : Bool} {f : Nat → Nat × Nat} {n : Nat} {g : FuncId} {a a' c c' : List Value} (h : LRn p f n a a') (k : LRn p f n c c') : Rn p f n (.func (.func g) ⟨a⟩ ⟨c⟩) (.func (.func g) ⟨a'⟩ ⟨c'⟩) :=
  .func _ _ _ _ _ h.len h.at_ k.len k.at_

/-- D2, β2, κ2 are D, β, κ by the new numbers. -/
structure Num (f : Nat → Nat × Nat) (n : Nat) (D : Nat → Prop) (β : Nat → Nat × Nat) (κ : Nat → Nat) (D2 : Nat → Prop) (β2 : Nat → Nat × Nat) (κ2 : Nat → Nat) : Prop where
  dom : ∀ i, i < n → (D2 i ↔ D (f i).1)
  β : ∀ i, i < n → β2 i = ((β (f i).1).1, (β (f i).1).2 + (f i).2)
  κ : ∀ i, i < n → (f i).2 = 0 → κ2 i = κ (f i).1

section
variable {p : Bool} {f : Nat → Nat × Nat} {n : Nat} {D D2 : Nat → Prop} {β β2 : Nat → Nat × Nat} {κ κ2 : Nat → Nat}

theorem Rn.vr (hn : Num f n D β κ D2 β2 κ2) {v2 v v' : Value} (hr : Rn p f n v2 v) : VR D β κ v v' → VR D2 β2 κ2 v2 v' := by
  intro h
  induction hr generalizing v' with
  | flat hf => rw [h.flat hf]; exact .of_flat hf
  | poison v _ => exact .poison _
  | ptr i o o' hi ho =>
    subst ho
    cases h with
    | ptr _ _ hd =>
      have := VR.ptr (D := D2) (β := β2) (κ := κ2) i o ((hn.dom i hi).2 hd)
      rw [hn.β i hi] at this
      simpa [Nat.add_assoc] using this
  | slice i o o' l c hi ho hc =>
    subst ho
    cases h with
    | slice _ _ _ _ hd hlc _ =>
      have := VR.slice (D := D2) (β := β2) (κ := κ2) i o l c ((hn.dom i hi).2 hd) hlc hc
      rw [hn.β i hi] at this
      simpa [Nat.add_assoc] using this
    | sliceU _ _ _ q hd hq hk => exfalso; simp only [UNK, INF] at hc hk; omega
    | sliceE _ _ q a hq => exfalso; simp only [UNK, INF] at hc hq; omega
    | sliceZ _ _ a => exact .sliceZ i o a
    | sliceA _ _ _ _ c hd hC => exfalso; simp only [UNK, INF] at hc hC; omega
    | sliceAN _ _ _ a hC => exfalso; simp only [UNK, INF] at hc hC; omega
  | any i o o' l c C hi ho hp hC =>
    subst ho
    have go : ∀ c', l ≤ c' → c' ≤ INF → D (f i).1 → VR D2 β2 κ2 (.slice (some ⟨i, o, none⟩) l C) (.slice (some ⟨(β (f i).1).1, (β (f i).1).2 + ((f i).2 + o), none⟩) l c') := fun c' h1 h2 hd => by
      have := VR.sliceA (D := D2) (β := β2) (κ := κ2) i o l C c' ((hn.dom i hi).2 hd) hC h1 h2
      rw [hn.β i hi] at this
      simpa [Nat.add_assoc] using this
    cases h with
    | slice _ _ _ _ hd hlc hc => exact go _ hlc hc hd
    | sliceU _ _ _ q hd hq hk => exact go _ (by omega) (by omega) hd
    | sliceE _ _ q a hq => exact .sliceAN i o C _ hC
    | sliceZ _ _ a => exact .sliceAN i o C a hC
    | sliceA _ _ _ _ c hd _ hlc hc => exact go _ hlc hc hd
    | sliceAN _ _ _ a _ => exact .sliceAN i o C a hC
  | anyN i o C hp hC =>
    cases h with
    | snil => exact .sliceAN i o C none hC
  | zN i o hp =>
    cases h with
    | snil => exact .sliceZ i o none
  | slice0 i o l c hi h0 =>
    cases h with
    | slice _ _ _ _ hd hlc hc =>
      have := VR.slice (D := D2) (β := β2) (κ := κ2) i o l c ((hn.dom i hi).2 hd) hlc hc
      rw [hn.β i hi, h0] at this
      simpa using this
    | sliceU _ _ _ q hd hq hk =>
      have := VR.sliceU (D := D2) (β := β2) (κ := κ2) i o l q ((hn.dom i hi).2 hd) (by rw [hn.κ i hi h0]; exact hq) (by rw [hn.κ i hi h0]; exact hk)
      rw [hn.β i hi, hn.κ i hi h0, h0] at this
      simpa using this
    | sliceE _ _ q a hq => exact .sliceE i o q a hq
    | sliceZ _ _ a => exact .sliceZ i o a
    | sliceA _ _ _ _ c hd hC hlc hc =>
      have := VR.sliceA (D := D2) (β := β2) (κ := κ2) i o l _ c ((hn.dom i hi).2 hd) hC hlc hc
      rw [hn.β i hi, h0] at this
      simpa using this
    | sliceAN _ _ _ a hC => exact .sliceAN i o _ a hC
  | map i hi =>
    cases h with
    | map _ hd =>
      have := VR.map (D := D2) (β := β2) (κ := κ2) i ((hn.dom i hi).2 hd)
      rw [hn.β i hi] at this
      exact this
  | yield i hi =>
    generalize hz : (#[] : Array Value) = z at h
    cases h with
    | yield _ hd =>
      have := VR.yield (D := D2) (β := β2) (κ := κ2) i ((hn.dom i hi).2 hd)
      rw [hn.β i hi] at this
      exact this
  | func g a a' c c' ha _ hc _ iha ihc =>
    cases h with
    | func _ _ b _ d hb hb' hd hd' =>
      refine .func g a b c d (ha.trans hb) (fun j v v' hv hv' => ?_) (hc.trans hd) (fun j v v' hv hv' => ?_)
      · have hj : j < a'.length := ha ▸ (List.getElem?_eq_some_iff.1 hv).1
        exact iha j v _ hv (List.getElem?_eq_getElem hj) (hb' j _ _ (List.getElem?_eq_getElem hj) hv')
      · have hj : j < c'.length := hc ▸ (List.getElem?_eq_some_iff.1 hv).1
        exact ihc j v _ hv (List.getElem?_eq_getElem hj) (hd' j _ _ (List.getElem?_eq_getElem hj) hv')
  | agg l l' hl _ ih =>
    cases h with
    | agg _ m hm hm' =>
      refine .agg l m (hl.trans hm) fun j v v' hv hv' => ?_
      have hj : j < l'.length := hl ▸ (List.getElem?_eq_some_iff.1 hv).1
      exact ih j v _ hv (List.getElem?_eq_getElem hj) (hm' j _ _ (List.getElem?_eq_getElem hj) hv')
  | tuple l l' hl _ ih =>
    cases h with
    | tuple _ m hm hm' =>
      refine .tuple l m (hl.trans hm) fun j v v' hv hv' => ?_
      have hj : j < l'.length := hl ▸ (List.getElem?_eq_some_iff.1 hv).1
      exact ih j v _ hv (List.getElem?_eq_getElem hj) (hm' j _ _ (List.getElem?_eq_getElem hj) hv')

/-- And back, where nothing is forgotten. -/
theorem Rn.vr' (hn : Num f n D β κ D2 β2 κ2) {v2 v v' : Value} (hr : Rn false f n v2 v) : VR D2 β2 κ2 v2 v' → VR D β κ v v' := by
  intro h
  induction hr generalizing v' with
  | flat hf => rw [h.flat hf]; exact .of_flat hf
  | poison v hp => cases hp
  | ptr i o o' hi ho =>
    subst ho
    cases h with
    | ptr _ _ hd =>
      have := VR.ptr (D := D) (β := β) (κ := κ) (f i).1 ((f i).2 + o) ((hn.dom i hi).1 hd)
      rw [hn.β i hi]
      simpa [Nat.add_assoc] using this
  | slice i o o' l c hi ho hc =>
    subst ho
    cases h with
    | slice _ _ _ _ hd hlc _ =>
      have := VR.slice (D := D) (β := β) (κ := κ) (f i).1 ((f i).2 + o) l c ((hn.dom i hi).1 hd) hlc hc
      rw [hn.β i hi]
      simpa [Nat.add_assoc] using this
    | sliceU _ _ _ q hd hq hk => exfalso; simp only [UNK, INF] at hc hk; omega
    | sliceE _ _ q a hq => exfalso; simp only [UNK, INF] at hc hq; omega
    | sliceZ _ _ a => exact .sliceZ _ _ a
    | sliceA _ _ _ _ c hd hC => exfalso; simp only [UNK, INF] at hc hC; omega
    | sliceAN _ _ _ a hC => exfalso; simp only [UNK, INF] at hc hC; omega
  | any i o o' l c C hi ho hp hC => cases hp
  | anyN i o C hp hC => cases hp
  | zN i o hp => cases hp
  | slice0 i o l c hi h0 =>
    cases h with
    | slice _ _ _ _ hd hlc hc =>
      have := VR.slice (D := D) (β := β) (κ := κ) (f i).1 o l c ((hn.dom i hi).1 hd) hlc hc
      rw [hn.β i hi, h0]
      simpa using this
    | sliceU _ _ _ q hd hq hk =>
      have := VR.sliceU (D := D) (β := β) (κ := κ) (f i).1 o l q ((hn.dom i hi).1 hd) (by rw [← hn.κ i hi h0]; exact hq) (by rw [← hn.κ i hi h0]; exact hk)
      rw [hn.β i hi, hn.κ i hi h0, h0]
      simpa using this
    | sliceE _ _ q a hq => exact .sliceE _ _ q a hq
    | sliceZ _ _ a => exact .sliceZ _ _ a
    | sliceA _ _ _ _ c hd hC hlc hc =>
      have := VR.sliceA (D := D) (β := β) (κ := κ) (f i).1 o l _ c ((hn.dom i hi).1 hd) hC hlc hc
      rw [hn.β i hi, h0]
      simpa using this
    | sliceAN _ _ _ a hC => exact .sliceAN _ _ _ a hC
  | map i hi =>
    cases h with
    | map _ hd =>
      have := VR.map (D := D) (β := β) (κ := κ) (f i).1 ((hn.dom i hi).1 hd)
      rw [hn.β i hi]
      exact this
  | yield i hi =>
    generalize hz : (#[] : Array Value) = z at h
    cases h with
    | yield _ hd =>
      have := VR.yield (D := D) (β := β) (κ := κ) (f i).1 ((hn.dom i hi).1 hd)
      rw [hn.β i hi]
      exact this
  | func g a a' c c' ha _ hc _ iha ihc =>
    cases h with
    | func _ _ b _ d hb hb' hd hd' =>
      refine .func g a' b c' d (ha.symm.trans hb) (fun j v v' hv hv' => ?_) (hc.symm.trans hd) (fun j v v' hv hv' => ?_)
      · have hj : j < a.length := ha ▸ (List.getElem?_eq_some_iff.1 hv).1
        exact iha j _ v (List.getElem?_eq_getElem hj) hv (hb' j _ _ (List.getElem?_eq_getElem hj) hv')
      · have hj : j < c.length := hc ▸ (List.getElem?_eq_some_iff.1 hv).1
        exact ihc j _ v (List.getElem?_eq_getElem hj) hv (hd' j _ _ (List.getElem?_eq_getElem hj) hv')
  | agg l l' hl _ ih =>
    cases h with
    | agg _ m hm hm' =>
      refine .agg l' m (hl.symm.trans hm) fun j v v' hv hv' => ?_
      have hj : j < l.length := hl ▸ (List.getElem?_eq_some_iff.1 hv).1
      exact ih j _ v (List.getElem?_eq_getElem hj) hv (hm' j _ _ (List.getElem?_eq_getElem hj) hv')
  | tuple l l' hl _ ih =>
    cases h with
    | tuple _ m hm hm' =>
      refine .tuple l' m (hl.symm.trans hm) fun j v v' hv hv' => ?_
      have hj : j < l.length := hl ▸ (List.getElem?_eq_some_iff.1 hv).1
      exact ih j _ v (List.getElem?_eq_getElem hj) hv (hm' j _ _ (List.getElem?_eq_getElem hj) hv')

theorem LRn.lr (hn : Num f n D β κ D2 β2 κ2) {l2 l l' : List Value} (hr : LRn p f n l2 l) (h : LR D β κ l l') : LR D2 β2 κ2 l2 l' :=
  ⟨hr.len.trans h.len, fun j v v' hv hv' => by
    have hj : j < l.length := hr.len ▸ (List.getElem?_eq_some_iff.1 hv).1
    exact (hr.at_ j v _ hv (List.getElem?_eq_getElem hj)).vr hn (h.at_ j _ _ (List.getElem?_eq_getElem hj) hv')⟩
end

/-- The first block is the second one from cell o on, or a part of that. -/
inductive RnB (p : Bool) (f : Nat → Nat × Nat) (n : Nat) : Blk → Blk → Nat → Prop where
  | cells (t vs2 vs o) (h : LRn p f n vs2 ((vs.drop o).take vs2.length)) : RnB p f n (.cells t vs2) (.cells t vs) o
  | map (kt es) : RnB p f n (.map kt es) (.map kt es) 0
  | mark : RnB p f n .mark .mark 0
  | mapS (kt arr clock) : RnB p f n (.mapS kt arr clock) (.mapS kt arr clock) 0
  | mapW (kt arr clock es) (h : arr.toList.map (fun e => (e.key, e.val)) = es) : RnB p f n (.map kt es) (.mapS kt arr clock) 0
  | iter (m since seen last) (hm : m < n) : RnB p f n (.iter m since seen last) (.iter (f m).1 since seen last) 0
  | loop (t2 t ps as bd st pend) (h : LRn p f n t2 t) : RnB p f n (.loop t2 ps as bd st pend) (.loop t ps as bd st pend) 0

theorem RnB.nd {p : Bool} {f : Nat → Nat × Nat} {n o : Nat} {b2 : Blk} (h : RnB p f n b2 .dead o) : False := by
  generalize hx : Blk.dead = x at h
  cases h <;> cases hx

/-- Block i by the new numbers. -/
def At (p : Bool) (f : Nat → Nat × Nat) (n : Nat) (h : List Blk) (i : Nat) (b2 : Blk) : Prop := b2 = .dead ∨ ∃ b, h[(f i).1]? = some b ∧ RnB p f n b2 b (f i).2

/-- All blocks from i on. -/
inductive Ats (p : Bool) (f : Nat → Nat × Nat) (n : Nat) (h : List Blk) : Nat → List Blk → Prop where
  | nil (i) : Ats p f n h i []
  | cons {i b2 l} (hb : At p f n h i b2) (hl : Ats p f n h (i + 1) l) : Ats p f n h i (b2 :: l)

theorem Ats.get {p : Bool} {f : Nat → Nat × Nat} {n : Nat} {h : List Blk} {i : Nat} {l : List Blk} (ha : Ats p f n h i l) : ∀ {j : Nat} {b2 : Blk}, l[j]? = some b2 → At p f n h (i + j) b2 := by
  induction ha with
  | nil i => intro j b2 hj; simp at hj
  | cons hb hl ih =>
    intro j b2 hj
    cases j with
    | zero => simp at hj; subst hj; exact hb
    | succ j => have := ih (j := j) (b2 := b2) (by simpa using hj); rw [Nat.add_assoc, Nat.add_comm 1 j] at this; exact this

section
variable {P : Program} {p : Bool} {f : Nat → Nat × Nat} {n : Nat} {D D2 : Nat → Prop} {β β2 : Nat → Nat × Nat} {κ κ2 : Nat → Nat} {w : World}

theorem RnB.br (hn : Num f n D β κ D2 β2 κ2) {i : Nat} (hi : i < n) {b2 b : Blk} (hr : RnB p f n b2 b (f i).2) (h : BR P D β κ (f i).1 b w) : BR P D2 β2 κ2 i b2 w := by
  generalize ho : (f i).2 = o at hr
  cases hr with
  | cells t vs2 vs _ hl =>
    obtain ⟨arr, T, fz, h1, h2⟩ := h
    refine ⟨arr, T, fz, by rw [hn.β i hi]; exact h1, fun k v hv => ?_⟩
    have hk : k < ((vs.drop o).take vs2.length).length := hl.len ▸ (List.getElem?_eq_some_iff.1 hv).1
    have hx := List.getElem?_eq_getElem hk
    have hr := hl.at_ k v _ hv hx
    have hx' : vs[o + k]? = some ((vs.drop o).take vs2.length)[k] := by
      rw [← hx, List.getElem?_take, List.getElem?_drop, if_pos (List.getElem?_eq_some_iff.1 hv).1]
    obtain ⟨v', h3, h4⟩ := h2 (o + k) _ hx'
    refine ⟨v', ?_, hr.vr hn h4⟩
    rw [hn.β i hi, ho]
    simpa [Nat.add_assoc] using h3
  | map kt es =>
    obtain ⟨arr, clock, h1, h2⟩ := h
    exact ⟨arr, clock, by rw [hn.β i hi]; exact h1, h2⟩
  | mark =>
    show w.heap[(β2 i).1]? = _
    rw [hn.β i hi]; exact h
  | mapS kt arr clock => exact ⟨by rw [hn.β i hi]; exact h.1, h.2⟩
  | mapW kt arr clock es he =>
    refine ⟨arr, clock, by rw [hn.β i hi]; exact h.1, he, fun q hq => ?_, h.2.2⟩
    rw [← he] at hq
    obtain ⟨e, h1, rfl⟩ := List.mem_map.1 hq
    exact h.2.1 e h1
  | iter m since seen last hm => exact ⟨(hn.dom m hm).2 h.1, by rw [hn.β i hi, ho]; exact h.2.1, by rw [hn.β i hi, hn.β m hm]; exact h.2.2⟩
  | loop t2 t ps as bd st pend hl =>
    obtain ⟨r, h1, h2, h3, h4, h5, h6, h7⟩ := h
    exact ⟨r, by rw [hn.β i hi]; exact h1, h2, h3, h4, h5, h6, hl.lr hn h7⟩

theorem RnB.own (hn : Num f n D β κ D2 β2 κ2) {i : Nat} (hi : i < n) (h0 : (f i).2 = 0) {b2 b : Blk} (hr : RnB p f n b2 b (f i).2) (h : OwnB P β κ (f i).1 b w) : OwnB P β2 κ2 i b2 w := by
  rw [h0] at hr
  cases hr with
  | cells t vs2 vs _ hl =>
    obtain ⟨arr, T, h1, h2⟩ := h
    refine ⟨arr, T, by rw [hn.β i hi]; exact h1, fun s hs => ?_⟩
    rw [hn.β i hi, hn.κ i hi h0, h0]
    exact h2 s hs
  | map kt es => trivial
  | mark => trivial
  | mapS => trivial
  | mapW => trivial
  | iter => trivial
  | loop => trivial
end

/-- The state by the new numbers; below L nothing is called anew. -/
theorem Wk.ren {P : Program} {base L : Nat} {a a2 : CAct} {h h2 : List Blk} (f : Nat → Nat) (hL : ∀ i, i < L → f i = i) (hl : L ≤ h2.length) (hbl : base ≤ h2.length)
    (hinj : ∀ i j, i < h2.length → j < h2.length → f i = f j → i = j) (hbase : ∀ i, i < h2.length → (base ≤ i ↔ base ≤ f i))
    (hb : Ats true (fun i => (f i, 0)) h2.length h 0 h2) (ht : LRn true (fun i => (f i, 0)) h2.length a2.tmps a.tmps) (hm : a.marks = a2.marks.map f) (hm2 : ∀ m ∈ a2.marks, m < h2.length) : Wk P base L a h a2 h2 := by
  rintro N D0 β0 κ0 a' w ⟨D, β, κ, hf⟩
  have hn : Num (fun i => (f i, 0)) h2.length D β κ (fun i => i < h2.length ∧ D (f i)) (fun i => β (f i)) (fun i => κ (f i)) :=
    ⟨fun i hi => ⟨fun x => x.2, fun x => ⟨hi, x⟩⟩, fun i hi => rfl, fun i hi _ => rfl⟩
  have at_ : ∀ i, toF h2 i ≠ .dead → i < h2.length ∧ ∃ b, h[f i]? = some b ∧ b ≠ .dead ∧ RnB true (fun i => (f i, 0)) h2.length (toF h2 i) b 0 := by
    intro i hi
    by_cases hil : i < h2.length
    · have hx := List.getElem?_eq_getElem hil
      have hA := hb.get hx
      rw [Nat.zero_add] at hA
      rw [toF_some hx] at hi ⊢
      rcases hA with e | ⟨b, h1, h3⟩
      · exact absurd e hi
      · refine ⟨hil, b, h1, ?_, h3⟩
        intro e
        subst e
        exact RnB.nd h3
    · exact absurd (by simp [toF, List.getD, List.getElem?_eq_none (Nat.le_of_not_lt hil)]) hi
  refine ⟨fun i => i < h2.length ∧ D (f i), fun i => β (f i), fun i => κ (f i), fun i hi => hi.1, hbl, hl, ⟨fun i => ?_, fun i hi hib => ?_, fun i hi hib => ?_, fun i j hi hj hib hjb he => ?_, hf.rel.size⟩, ⟨ht.lr hn hf.act.tmps, ?_, fun m hmm => ⟨hm2 m hmm, hf.act.known _ (by rw [hm]; exact List.mem_map_of_mem hmm)⟩⟩, fun i hi => ?_⟩
  · by_cases hd : toF h2 i = .dead
    · rw [hd]; trivial
    · obtain ⟨hil, b, h1, h2', h3⟩ := at_ i hd
      have hB := hf.rel.blk (f i)
      rw [toF_some h1] at hB
      exact h3.br hn hil hB
  · obtain ⟨hil, b, h1, h2', h3⟩ := at_ i hi
    refine hf.rel.ro (f i) (by rw [toF_some h1]; exact h2') ?_
    have := hbase i hil
    omega
  · obtain ⟨hil, b, h1, h2', h3⟩ := at_ i hi
    have hO := hf.rel.own (f i) (by rw [toF_some h1]; exact h2') ((hbase i hil).1 hib)
    rw [toF_some h1] at hO
    exact ⟨hO.1, h3.own hn hil rfl hO.2⟩
  · obtain ⟨hil, b, h1, h2', h3⟩ := at_ i hi
    obtain ⟨hjl, c, k1, k2', k3⟩ := at_ j hj
    exact hinj i j hil hjl (hf.rel.inj (f i) (f j) (by rw [toF_some h1]; exact h2') (by rw [toF_some k1]; exact k2') ((hbase i hil).1 hib) ((hbase j hjl).1 hjb) he)
  · rw [hf.act.marks, hm]
    simp
  · have e := hf.ext i hi
    rw [hL i hi]
    exact ⟨⟨fun x => e.1.1 x.2, fun x => ⟨by omega, e.1.2 x⟩⟩, e.2⟩

theorem WkV.ren {P : Program} {base L : Nat} {v v2 : Value} {h h2 : List Blk} (f : Nat → Nat) (hL : ∀ i, i < L → f i = i) (hl : L ≤ h2.length) (hbl : base ≤ h2.length)
    (hinj : ∀ i j, i < h2.length → j < h2.length → f i = f j → i = j) (hbase : ∀ i, i < h2.length → (base ≤ i ↔ base ≤ f i))
    (hb : Ats true (fun i => (f i, 0)) h2.length h 0 h2) (ht : Rn true (fun i => (f i, 0)) h2.length v2 v) : WkV P base L v h v2 h2 := by
  rintro N D0 β0 κ0 v' w ⟨D, β, κ, hf⟩
  obtain ⟨D2, β2, κ2, g⟩ := Wk.ren (P := P) (base := base) (L := L) (a := { tmps := [v] }) (a2 := { tmps := [v2] }) f hL hl hbl hinj hbase hb (.cons ht .nil) rfl (fun m hm => by cases hm) N D0 β0 κ0 { tmps := #[v'], defers := [] } w
    ⟨D, β, κ, hf.dom, hf.bl, hf.ll, hf.rel, ⟨LR.cons hf.val .nil, rfl, fun m hm => by cases hm⟩, hf.ext⟩
  exact ⟨D2, β2, κ2, g.dom, g.bl, g.ll, g.rel, g.act.tmps.at_ 0 _ _ rfl rfl, g.ext⟩

/-- A pure function's answer where the blocks that it is given have other numbers. -/
theorem PureSim.ren {P : Program} {g : FuncId} {argsc args : List Value} {hc h : List Blk} {vc v : Value} {new : List Blk} (f : Nat → Nat × Nat) (hP : PureSim P g argsc hc vc new)
    (hb : Ats true f hc.length h 0 hc) (ha : LRn true f hc.length argsc args)
    (hv : Rn false (fun i => if i < hc.length then f i else (h.length + (i - hc.length), 0)) (hc.length + new.length) vc v)
    (hnew : ∀ b ∈ new, b = .dead ∨ blkFlat b = true) : PureSim P g args h v new := by
  refine ⟨hP.1, fun D β κ w args' hD hR hargs => ?_⟩
  have hn : Num f hc.length D β κ (fun i => i < hc.length ∧ D (f i).1) (fun i => ((β (f i).1).1, (β (f i).1).2 + (f i).2)) (fun i => κ (f i).1) :=
    ⟨fun i hi => ⟨fun x => x.2, fun x => ⟨hi, x⟩⟩, fun i hi => rfl, fun i hi _ => rfl⟩
  have at_ : ∀ i, toF hc i ≠ .dead → i < hc.length ∧ ∃ b, h[(f i).1]? = some b ∧ b ≠ .dead ∧ RnB true f hc.length (toF hc i) b (f i).2 := by
    intro i hi
    by_cases hil : i < hc.length
    · have hx := List.getElem?_eq_getElem hil
      have hA := hb.get hx
      rw [Nat.zero_add] at hA
      rw [toF_some hx] at hi ⊢
      rcases hA with e | ⟨b, h1, h3⟩
      · exact absurd e hi
      · refine ⟨hil, b, h1, ?_, h3⟩
        intro e
        subst e
        exact RnB.nd h3
    · exact absurd (by simp [toF, List.getD, List.getElem?_eq_none (Nat.le_of_not_lt hil)]) hi
  have hRc : Rel P (fun i => i < hc.length ∧ D (f i).1) (fun i => ((β (f i).1).1, (β (f i).1).2 + (f i).2)) (fun i => κ (f i).1) hc.length (Kp.under w.heap.size) (toF hc) w := by
    refine ⟨fun i => ?_, fun i hi hib => ?_, fun i hi hib => ?_, fun i j hi hj hib => ?_, Kp.under.upto _⟩
    · by_cases hd : toF hc i = .dead
      · rw [hd]; trivial
      · obtain ⟨hil, b, h1, h2', h3⟩ := at_ i hd
        have hB := hR.blk (f i).1
        rw [toF_some h1] at hB
        exact h3.br hn hil hB
    · obtain ⟨hil, b, h1, h2', h3⟩ := at_ i hi
      have hB := hR.blk (f i).1
      rw [toF_some h1] at hB
      exact hB.valid h2'
    · have := (at_ i hi).1; omega
    · have := (at_ i hi).1; omega
  refine Calls.mono (hP.2 _ _ _ w args' (fun i hi => hi.1) hRc (ha.lr hn hargs)) ?_
  rintro e w' ⟨v', β', κ', rfl, hQ⟩
  refine ⟨v', fun i => if h.length ≤ i ∧ i < h.length + new.length then β' (hc.length + (i - h.length)) else β i, fun i => if h.length ≤ i ∧ i < h.length + new.length then κ' (hc.length + (i - h.length)) else κ i, rfl, ?_⟩
  have e1 : ∀ j, j < new.length → (if h.length ≤ h.length + j ∧ h.length + j < h.length + new.length then β' (hc.length + (h.length + j - h.length)) else β (h.length + j)) = β' (hc.length + j) := fun j hj => by
    rw [if_pos ⟨by omega, by omega⟩]; congr 2; omega
  have e2 : ∀ j, j < new.length → (if h.length ≤ h.length + j ∧ h.length + j < h.length + new.length then κ' (hc.length + (h.length + j - h.length)) else κ (h.length + j)) = κ' (hc.length + j) := fun j hj => by
    rw [if_pos ⟨by omega, by omega⟩]; congr 2; omega
  have hn2 : Num (fun i => if i < hc.length then f i else (h.length + (i - hc.length), 0)) (hc.length + new.length) (fun i => D i ∨ InNew h.length new.length i)
      (fun i => if h.length ≤ i ∧ i < h.length + new.length then β' (hc.length + (i - h.length)) else β i) (fun i => if h.length ≤ i ∧ i < h.length + new.length then κ' (hc.length + (i - h.length)) else κ i)
      (fun i => (i < hc.length ∧ (D (f i).1 ∨ InNew h.length new.length (f i).1)) ∨ InNew hc.length new.length i)
      (fun i => if i < hc.length then ((if h.length ≤ (f i).1 ∧ (f i).1 < h.length + new.length then β' (hc.length + ((f i).1 - h.length)) else β (f i).1).1, (if h.length ≤ (f i).1 ∧ (f i).1 < h.length + new.length then β' (hc.length + ((f i).1 - h.length)) else β (f i).1).2 + (f i).2) else β' i)
      (fun i => if i < hc.length then (if h.length ≤ (f i).1 ∧ (f i).1 < h.length + new.length then κ' (hc.length + ((f i).1 - h.length)) else κ (f i).1) else κ' i) := by
    refine ⟨fun i hi => ?_, fun i hi => ?_, fun i hi h0 => ?_⟩
    · by_cases hl : i < hc.length
      · simp only [if_pos hl]
        exact ⟨fun x => x.elim (·.2) (fun y => by have := y.1; omega), fun x => .inl ⟨hl, x⟩⟩
      · simp only [if_neg hl]
        exact ⟨fun x => .inr ⟨by omega, by omega⟩, fun x => .inr ⟨by omega, hi⟩⟩
    · by_cases hl : i < hc.length
      · simp only [if_pos hl]
      · simp only [if_neg hl]
        have : i - hc.length < new.length := by omega
        rw [e1 _ this]
        rw [show hc.length + (i - hc.length) = i by omega]
        rfl
    · by_cases hl : i < hc.length
      · simp only [if_pos hl]
      · simp only [if_neg hl]
        have : i - hc.length < new.length := by omega
        rw [e2 _ this]
        congr 1; omega
  have hE : Ext (fun i => (i < hc.length ∧ D (f i).1) ∨ InNew hc.length new.length i) β' κ'
      (fun i => if i < hc.length then ((if h.length ≤ (f i).1 ∧ (f i).1 < h.length + new.length then β' (hc.length + ((f i).1 - h.length)) else β (f i).1).1, (if h.length ≤ (f i).1 ∧ (f i).1 < h.length + new.length then β' (hc.length + ((f i).1 - h.length)) else β (f i).1).2 + (f i).2) else β' i)
      (fun i => if i < hc.length then (if h.length ≤ (f i).1 ∧ (f i).1 < h.length + new.length then κ' (hc.length + ((f i).1 - h.length)) else κ (f i).1) else κ' i) := by
    intro i hi
    by_cases hl : i < hc.length
    · have hd : D (f i).1 := hi.elim (·.2) (fun y => by have := y.1; omega)
      have hfl := hD _ hd
      have hx := hQ.ext i (fun y => by have := y.1; omega)
      simp only [if_pos hl]
      rw [if_neg (by omega), if_neg (by omega), hx.1, hx.2]
      exact ⟨rfl, rfl⟩
    · simp [hl]
  have hval := hQ.val.mono (D' := fun i => (i < hc.length ∧ (D (f i).1 ∨ InNew h.length new.length (f i).1)) ∨ InNew hc.length new.length i) (fun i hi => hi.imp (fun x => ⟨x.1, .inl x.2⟩) id) hE
  refine { ext := fun i hi => ?_, val := hv.vr' hn2 hval, below := hQ.below, keep := fun B hB _ => hQ.keep B hB (fun k b e => by cases e), new := fun j b hj hbd => ?_, inj := fun i j b c hi hj hbd hcd he => ?_, upd := fun k b hk => by cases hk }
  · have : ¬ (h.length ≤ i ∧ i < h.length + new.length) := hi
    simp [this]
  · have hj : new[j]? = some b := hj
    have hjl : j < new.length := (List.getElem?_eq_some_iff.1 hj).1
    have hfl := (hnew b (List.mem_of_getElem? hj)).resolve_left hbd
    obtain ⟨q1, q2, q3, q4⟩ := hQ.new j _ hj hbd
    simp only at q1 q2 q3 q4
    refine ⟨q1.flat hfl (e1 j hjl), q2.flat ⟨e1 j hjl, e2 j hjl⟩, by simp only [e1 j hjl]; exact q3, ?_⟩
    rcases q4 with q4 | ⟨k, hk, _⟩
    · exact .inl (by simp only [e1 j hjl]; exact q4)
    · cases hk
  · have hi : new[i]? = some b := hi
    have hj : new[j]? = some c := hj
    have hil : i < new.length := (List.getElem?_eq_some_iff.1 hi).1
    have hjl : j < new.length := (List.getElem?_eq_some_iff.1 hj).1
    simp only [e1 i hil, e1 j hjl] at he
    exact hQ.inj i j _ _ hi hj hbd hcd he
end Go.Cl
/- Rules by which a program prints proofs: code by its place, regions step by step. -/
set_option linter.unusedVariables false
namespace Go
/-! ### Places in code -/
def Code.s1 : Code → Code | .seq a _ => a | c => c
def Code.s2 : Code → Code | .seq _ b => b | c => c
def Code.bd : Code → Code | .block _ c => c | .loop c => c | .scope c => c | c => c
def Code.th : Code → Code | .cond _ a _ => a | c => c
def Code.el : Code → Code | .cond _ _ b => b | c => c
def Code.rops : Code → Array Oper | .region _ o _ => o | _ => #[]
def Func.code (f : Func) : Code := match f.body with | some c => c | none => .skip
end Go
namespace Go.Cl
open Go Go.RowKit

section
variable {P : Program} {base L : Nat} {c x y : Code} {a a1 a2 : CAct} {h h1 h2 new : List Blk} {Φ : Post} {K : List Fr} {ops : Array Oper} {j : Nat} {Ψ : CAct → List Blk → Prop} {q : QRes} {v : Value}

/-! ### Code -/
theorem TS.seq' (hc : c = .seq x y) (ht : TS P base L x a h (NX P base L (.sq y :: K) Φ)) : TS P base L c a h (NX P base L K Φ) := hc ▸ TS.seq ht
theorem TS.block' {id : Nat} (hc : c = .block id x) (ht : TS P base L x a h (NX P base L (.bk id :: K) Φ)) : TS P base L c a h (NX P base L K Φ) := hc ▸ TS.block ht
theorem TS.cond' {o : Operand} {b : Bool} (hc : c = .cond o x y) (hv : a.eval o = .bool b) (ht : b = true → TS P base L x a h Φ) (hf : b = false → TS P base L y a h Φ) : TS P base L c a h Φ := hc ▸ TS.cond hv ht hf
theorem TS.condT' {o : Operand} (hc : c = .cond o x y) (hv : a.eval o = .bool true) (ht : TS P base L x a h Φ) : TS P base L c a h Φ := hc ▸ TS.cond hv (fun _ => ht) (fun h => by cases h)
theorem TS.condF' {o : Operand} (hc : c = .cond o x y) (hv : a.eval o = .bool false) (ht : TS P base L y a h Φ) : TS P base L c a h Φ := hc ▸ TS.cond hv (fun h => by cases h) (fun _ => ht)
theorem TS.skip' (hc : c = .skip) (hp : Φ .normal a h) : TS P base L c a h Φ := hc ▸ TS.skip hp
theorem TS.ret' (hc : c = .ret) (hp : Φ .ret a h) : TS P base L c a h Φ := hc ▸ TS.ret hp
theorem TS.exit' {id : Nat} (hc : c = .exit id) (hp : Φ (.exit id) a h) : TS P base L c a h Φ := hc ▸ TS.exit hp

theorem TS.scope' (hc : c = .scope x) (ht : TS P base L x a h (NX P base L (.sc :: K) Φ)) : TS P base L c a h (NX P base L K Φ) := hc ▸ TS.scope ht
theorem TS.label' {l : Nat} (hc : c = .label l) (hp : Φ .normal a h) : TS P base L c a h Φ := hc ▸ TS.label hp
theorem NX.scN (ht : NX P base L K Φ .normal a h) : NX P base L (.sc :: K) Φ .normal a h := ht
theorem NX.scR (ht : NX P base L K Φ .ret a h) : NX P base L (.sc :: K) Φ .ret a h := ht
theorem NX.scX {i : Nat} (ht : NX P base L K Φ (.exit i) a h) : NX P base L (.sc :: K) Φ (.exit i) a h := ht
theorem NX.sq (ht : TS P base L y a h (NX P base L K Φ)) : NX P base L (.sq y :: K) Φ .normal a h := ht
theorem NX.bk {id : Nat} (ht : NX P base L K Φ .normal a h) : NX P base L (.bk id :: K) Φ .normal a h := ht
theorem NX.sqR (ht : NX P base L K Φ .ret a h) : NX P base L (.sq y :: K) Φ .ret a h := ht
theorem NX.bkR {id : Nat} (ht : NX P base L K Φ .ret a h) : NX P base L (.bk id :: K) Φ .ret a h := ht
theorem NX.sqX {i : Nat} (ht : NX P base L K Φ (.exit i) a h) : NX P base L (.sq y :: K) Φ (.exit i) a h := ht
theorem NX.bkX {i : Nat} (ht : NX P base L K Φ .normal a h) : NX P base L (.bk i :: K) Φ (.exit i) a h := by
  show (if i = i then _ else _); rw [if_pos rfl]; exact ht
theorem NX.bkY {i id : Nat} (hi : (i == id) = false) (ht : NX P base L K Φ (.exit i) a h) : NX P base L (.bk id :: K) Φ (.exit i) a h := by
  show (if i = id then _ else _); rw [if_neg (by simpa using hi)]; exact ht

/-! ### A loop, unfolded -/

def LoopWp (R : Option Nat) (P : Program) (c : Code) (Q : Exit → Act → World → Prop) (a : Act) (w : World) : Prop :=
  ∀ (b : Frame) (k : List Item) (cs : List Frame), b.roundOf = (FW R).round → (FW R).fn b.fn → (FW R).room (cs.length + 1 + 0) →
    ∃ e a' w', Q e a' w' ∧ ArrivesIn (Machine.fenced P (FW R)) P (lone (b.atR a (.code c :: .inLoop c :: k)) cs w) b k cs e a' w'

theorem LoopWp.wp {R : Option Nat} {Q : Exit → Act → World → Prop} {a : Act} {w : World} (h : LoopWp R P c Q a w) : (Code.loop c).wpIn (FW R) 0 P Q a w := by
  intro b k cs hro hb hr
  obtain ⟨e, a', w', hq, harr⟩ := h b k cs hro hb hr
  exact ⟨e, a', w', hq, .of_steps (.one (fenced_calm hb hr rfl) stepR_loop) harr⟩

theorem LoopWp.round {R : Option Nat} {Q : Exit → Act → World → Prop} {a : Act} {w : World} (h : c.wpIn (FW R) 0 P (Exit.then (LoopWp R P c Q) Q) a w) : LoopWp R P c Q a w := by
  intro b k cs hro hb hr
  obtain ⟨e, a₁, w₁, hq, harr⟩ := h b (.inLoop c :: k) cs hro hb hr
  cases e with
  | normal =>
    obtain ⟨e₂, a₂, w₂, hq₂, harr₂⟩ := hq b k cs hro hb hr
    exact ⟨e₂, a₂, w₂, hq₂, .of_steps (StepsIn.trans harr (.one (fenced_calm hb hr rfl) stepR_inLoop)) harr₂⟩
  | exit id => exact ⟨_, a₁, w₁, hq, .pass (x := .inLoop c) rfl (fun _ _ => .inl (by simp)) harr⟩
  | goto l => exact ⟨_, a₁, w₁, hq, .pass (x := .inLoop c) rfl (fun _ _ => .inl (by simp)) harr⟩
  | ret => exact ⟨_, a₁, w₁, hq, .pass (x := .inLoop c) rfl (fun _ _ => .inl (by simp)) harr⟩
  | panic ch => exact ⟨_, a₁, w₁, hq, .pass (x := .inLoop c) rfl (fun _ _ => .inl (by simp)) harr⟩
  | outgrown => exact ⟨_, a₁, w₁, hq, .pass (x := .inLoop c) rfl (fun _ _ => .inl (by simp)) harr⟩

/-- Where a loop's round begins. -/
def TL (P : Program) (base L : Nat) (c : Code) (a : CAct) (h : List Blk) (Φ : Post) : Prop :=
  ∀ (N : Kp) (D0 : Nat → Prop) (β0 : Nat → Nat × Nat) (κ0 : Nat → Nat) (R : Option Nat) (hR : RoK L D0 β0 R) (w0 w : World) (a' : Act) (Q : Exit → Act → World → Prop),
    Fits P base N L D0 β0 κ0 a h a' w → Held N w0 w →
    (∀ e a1 h1 a1' w1, Φ e a1 h1 → Fits P base N L D0 β0 κ0 a1 h1 a1' w1 → Held N w0 w1 → Q e a1' w1) → LoopWp R P c Q a' w

/-- What a round may come to: another round, or an end. -/
def Rd (P : Program) (base L : Nat) (c : Code) (Φ : Post) : Post := fun e a h => match e with | .normal => TL P base L c a h Φ | e => Φ e a h

theorem TL.round (ht : TS P base L c a h (NX P base L [] (Rd P base L c Φ))) : TL P base L c a h Φ := by
  intro N D0 β0 κ0 R hR w0 w a' Q hf hb hq
  refine LoopWp.round (ht N D0 β0 κ0 R hR w0 w a' _ hf hb fun e a1 h1 a1' w1 hp hf1 hb1 => ?_)
  cases e with
  | normal => exact (show TL P base L c a1 h1 Φ from hp) N D0 β0 κ0 R hR w0 w1 a1' Q hf1 hb1 hq
  | _ => exact hq _ _ _ _ _ (show Φ _ a1 h1 from hp) hf1 hb1
theorem TL.weak (hw : Wk P base L a h a2 h2) (ht : TL P base L c a2 h2 Φ) : TL P base L c a h Φ :=
  fun N D0 β0 κ0 R hR w0 w a' Q hf hb hq => ht N D0 β0 κ0 R hR w0 w a' Q (hw _ _ _ _ _ _ hf) hb hq
theorem TL.mono {Ψ : Post} (ht : TL P base L c a h Φ) (hp : ∀ e a h, Φ e a h → Ψ e a h) : TL P base L c a h Ψ :=
  fun N D0 β0 κ0 R hR w0 w a' Q hf hb hq => ht N D0 β0 κ0 R hR w0 w a' Q hf hb fun e a1 h1 a1' w1 h' => hq e a1 h1 a1' w1 (hp _ _ _ h')
theorem TS.loop' (hc : c = .loop x) (ht : TL P base L x a h Φ) : TS P base L c a h Φ :=
  hc ▸ fun N D0 β0 κ0 R hR w0 w a' Q hf hb hq => LoopWp.wp (ht N D0 β0 κ0 R hR w0 w a' Q hf hb hq)
theorem Rd.again (hw : Wk P base L a h a2 h2) (ht : TL P base L c a2 h2 Φ) : NX P base L [] (Rd P base L c Φ) .normal a h := TL.weak hw ht
theorem Rd.out {e : Exit} (he : e ≠ .normal) (ht : Φ e a h) : NX P base L [] (Rd P base L c Φ) e a h := by
  cases e <;> first | exact absurd rfl he | exact ht

/-! ### Regions -/

def TI (P : Program) (base L : Nat) (ops : Array Oper) (j : Nat) (a : CAct) (h : List Blk) (Ψ : CAct → List Blk → Prop) : Prop := TO P base L ops (ops.toList.drop j) a h Ψ

theorem TS.region' {id : Nat} {b : Bool} (hc : c = .region id ops b) (hb : b = false) (ht : TI P base L ops 0 a h (NX P base L K Φ .normal)) : TS P base L c a h (NX P base L K Φ) := by
  subst hc hb
  exact TS.region (by simpa [TI] using ht)

/-- k operations from the j-th one on, none of which calls a function. -/
noncomputable def runK (P : Program) (base : Nat) (ops : Array Oper) (j k : Nat) (a : CAct) (h : List Blk) : Option (CAct × List Blk) :=
  seqOps (E0 P) Rec.none base ops.toList ((ops.toList.drop j).take k) a h

theorem TO.many {l m : List Oper} (hs : seqOps (E0 P) Rec.none base ops.toList l a h = some (a1, h1)) (ht : TO P base L ops m a1 h1 Ψ) : TO P base L ops (l ++ m) a h Ψ := by
  induction l generalizing a h with
  | nil => cases hs; exact ht
  | cons o l ih =>
    unfold seqOps at hs
    split at hs
    · rename_i hw
      split at hs
      · split at hs
        · rename_i v h' hio
          exfalso
          unfold iOp at hio
          split at hio
          · unfold iCall at hio
            split at hio
            · split at hio
              · cases hio
              · cases hio
            · split at hio
              · unfold cYield at hio
                split at hio
                · split at hio
                  · split at hio
                    · rename_i hc; cases hc
                    · cases hio
                  · cases hio
                · cases hio
              · cases hio
            · cases hio
          · cases hio
        · cases hs
      · split at hs
        · rename_i q hq
          rw [applyK_eq, putK_eq] at hs
          exact TO.step hw hq (ih hs)
        · cases hs
    · rename_i hw
      rw [putK_eq] at hs
      exact TO.pass hw (ih hs)
    · cases hs

theorem TI.bulk (k : Nat) (hs : runK P base ops j k a h = some (a1, h1)) (ht : TI P base L ops (j + k) a1 h1 Ψ) : TI P base L ops j a h Ψ := by
  unfold TI at ht ⊢
  rw [← List.take_append_drop k (ops.toList.drop j), List.drop_drop]
  exact TO.many hs ht
theorem TI.done (hj : (ops.toList.drop j).isEmpty = true) (hp : Ψ a h) : TI P base L ops j a h Ψ := by
  unfold TI
  rw [List.isEmpty_iff.1 hj]
  exact TO.nil hp
theorem TI.weak (hw : Wk P base L a h a2 h2) (ht : TI P base L ops j a2 h2 Ψ) : TI P base L ops j a h Ψ := TO.weak hw ht

/-- What the j-th operation comes to, if it calls no function. -/
noncomputable def qAt (P : Program) (base : Nat) (ops : Array Oper) (j : Nat) (a : CAct) (h : List Blk) : Option QRes :=
  match ops.toList[j]? with
  | some o => match cWanted ops.toList a o with
    | some true => qOp (E0 P) Rec.none base h h.length a.eval o
    | _ => none
  | none => none
noncomputable def putAt (ops : Array Oper) (j : Nat) (a : CAct) (v : Value) : CAct :=
  match ops.toList[j]? with
  | some o => a.put o.dst v
  | none => a
/-- Which function the j-th operation calls. -/
noncomputable def callAt (ops : Array Oper) (j : Nat) (a : CAct) : Option (FuncId × List Value) :=
  match ops.toList[j]? with
  | some o => match cWanted ops.toList a o with
    | some true => match o.op with
      | .call ⟨.value f, args, _⟩ => match a.eval f with
        | .func (.func g) first captured => some (g, first.toList ++ args.toList.map a.eval ++ captured.toList)
        | _ => none
      | _ => none
    | _ => none
  | none => none

theorem drop_at {α : Type} {l : List α} {j : Nat} {o : α} (h : l[j]? = some o) : l.drop j = o :: l.drop (j + 1) := by
  obtain ⟨hj, rfl⟩ := List.getElem?_eq_some_iff.1 h
  exact List.drop_eq_getElem_cons hj

theorem TI.one (hq : qAt P base ops j a h = some q) (ha : putAt ops j a q.val = a1) (hh : q.heap h = h1) (ht : TI P base L ops (j + 1) a1 h1 Ψ) : TI P base L ops j a h Ψ := by
  unfold qAt at hq
  split at hq
  · rename_i o ho
    split at hq
    · rename_i hw
      unfold TI at ht ⊢
      rw [drop_at ho]
      refine TO.step hw hq ?_
      have : putAt ops j a q.val = a.put o.dst q.val := by simp only [putAt, ho]
      rw [← this, ha, hh]
      exact ht
    · cases hq
  · cases hq

theorem TI.call {g : FuncId} {args : List Value} (hc : callAt ops j a = some (g, args)) (hP : PureSim P g args h v new) (ha : putAt ops j a v = a1) (hh : h ++ new = h1) (ht : TI P base L ops (j + 1) a1 h1 Ψ) :
    TI P base L ops j a h Ψ := by
  unfold callAt at hc
  split at hc
  · rename_i o ho
    split at hc
    · rename_i hw
      split at hc
      · rename_i f cargs ts hop
        split at hc
        · rename_i g' first captured hf
          cases hc
          unfold TI at ht ⊢
          rw [drop_at ho]
          refine TO.call hw hop hf hP ?_
          have : putAt ops j a v = a.put o.dst v := by simp only [putAt, ho]
          rw [← this, ha, hh]
          exact ht
        · cases hc
      · cases hc
    · cases hc
  · cases hc

theorem TI.icall {g : FuncId} {args : List Value} (hc : callAt ops j a = some (g, args)) (hP : ImpSim P g args base h v h1) (ha : putAt ops j a v = a1) (ht : TI P base L ops (j + 1) a1 h1 Ψ) :
    TI P base L ops j a h Ψ := by
  unfold callAt at hc
  split at hc
  · rename_i o ho
    split at hc
    · rename_i hw
      split at hc
      · rename_i f cargs ts hop
        split at hc
        · rename_i g' first captured hf
          cases hc
          unfold TI at ht ⊢
          rw [drop_at ho]
          refine TO.icall hw hop hf hP ?_
          have : putAt ops j a v = a.put o.dst v := by simp only [putAt, ho]
          rw [← this, ha]
          exact ht
        · cases hc
      · cases hc
    · cases hc
  · cases hc
end

/-! ### Conditions on the way -/
theorem qif {α : Type} {x : Option α} {c : Prop} [Decidable c] {q : α} (h : x = if c then some q else none) (hc : c) : x = some q := by rw [h, if_pos hc]
theorem qifn {α : Type} {x : Option α} {c : Prop} [Decidable c] {q : α} (h : x = if c then none else some q) (hc : ¬ c) : x = some q := by rw [h, if_neg hc]
theorem of_guard {α : Type} {c : Prop} [Decidable c] {a : Option α} {r : α} (h : (if c then a else none) = some r) : c ∧ a = some r := by
  split at h
  · exact ⟨‹_›, h⟩
  · cases h
theorem of_guardn {α : Type} {c : Prop} [Decidable c] {a : Option α} {r : α} (h : (if c then none else a) = some r) : ¬ c ∧ a = some r := by
  split at h
  · cases h
  · exact ⟨‹_›, h⟩
theorem of_pos {α : Type} {b : Bool} {x y : Option α} {r : α} (h : (if b then x else y) = some r) (hb : b = true) : x = some r := by rw [if_pos hb] at h; exact h
theorem of_neg {α : Type} {b : Bool} {x y : Option α} {r : α} (h : (if b then x else y) = some r) (hb : b = false) : y = some r := by rw [if_neg (by simp [hb])] at h; exact h
theorem of_bind {α γ : Type} {x : Option α} {k : α → Option γ} {r : γ} (h : x.bind k = some r) : ∃ a, x = some a ∧ k a = some r := Option.bind_eq_some_iff.1 h
end Go.Cl
/- States written down by what is wanted of them. -/
set_option linter.unusedVariables false
namespace Go.Cl
open Go Go.RowKit

/-- The temporaries that are wanted; of all others nothing is said. -/
def st (n : Nat) (l : List (Nat × Value)) : CAct := { tmps := l.foldl (fun t p => t.set p.1 p.2) (List.replicate n poison) }

def maskL (keep : List Nat) : Nat → List Value → List Value
  | _, [] => []
  | i, v :: l => (if keep.contains i then v else poison) :: maskL keep (i + 1) l
def maskA (keep : List Nat) (a : CAct) : CAct := { a with tmps := maskL keep 0 a.tmps }
def maskH (keep : List Nat) : Nat → List Blk → List Blk
  | _, [] => []
  | i, b :: l => (if keep.contains i then b else .dead) :: maskH keep (i + 1) l

theorem maskL_lr {D : Nat → Prop} {β : Nat → Nat × Nat} {κ : Nat → Nat} {keep : List Nat} : ∀ {l l' : List Value} {i : Nat}, LR D β κ l l' → LR D β κ (maskL keep i l) l'
  | [], l', i, h => h
  | v :: l, l', i, h => by
    obtain ⟨v', m, rfl, hv, hl⟩ := h.uncons
    show LR D β κ ((if keep.contains i then v else poison) :: maskL keep (i + 1) l) (v' :: m)
    refine LR.cons ?_ (maskL_lr hl)
    split
    · exact hv
    · exact .poison _

theorem maskH_length {keep : List Nat} : ∀ {l : List Blk} {i : Nat}, (maskH keep i l).length = l.length
  | [], _ => rfl
  | b :: l, i => by simp [maskH, maskH_length]

theorem maskH_get {keep : List Nat} : ∀ {l : List Blk} {i j : Nat}, toF (maskH keep i l) j = toF l j ∨ toF (maskH keep i l) j = .dead
  | [], _, _ => .inl rfl
  | b :: l, i, 0 => by
    simp only [maskH, toF, List.getD_cons_zero]
    split
    · exact .inl rfl
    · exact .inr rfl
  | b :: l, i, j + 1 => by
    simp only [maskH, toF, List.getD_cons_succ]
    exact maskH_get (l := l) (i := i + 1) (j := j)

theorem Wk.mask {P : Program} {base L : Nat} {a : CAct} {h : List Blk} (keep keepH : List Nat) : Wk P base L a h (maskA keep a) (maskH keepH 0 h) := by
  rintro N D0 β0 κ0 a' w ⟨D, β, κ, hf⟩
  refine ⟨D, β, κ, fun i hi => by rw [maskH_length]; exact hf.dom i hi, by rw [maskH_length]; exact hf.bl, by rw [maskH_length]; exact hf.ll, hf.rel.weaken fun i => maskH_get, ⟨maskL_lr hf.act.tmps, hf.act.marks, hf.act.known⟩, hf.ext⟩

/-- A state, masked. -/
def mk2 (keep keepH : List Nat) (p : CAct × List Blk) : CAct × List Blk := (maskA keep p.1, maskH keepH 0 p.2)

section
variable {P : Program} {base L : Nat} {c x y : Code} {a a1 a2 : CAct} {h h1 h2 new : List Blk} {Φ : Post} {K : List Fr} {ops : Array Oper} {j : Nat} {Ψ : CAct → List Blk → Prop} {q : QRes} {v : Value}

/-- k operations, none of which calls a function; then what is not wanted is forgotten. -/
theorem TI.run (k : Nat) (keep keepH : List Nat) (hs : (runK P base ops j k a h).map (mk2 keep keepH) = some (a2, h2)) (ht : TI P base L ops (j + k) a2 h2 Ψ) : TI P base L ops j a h Ψ := by
  cases hr : runK P base ops j k a h with
  | none => rw [hr] at hs; cases hs
  | some p =>
    rw [hr] at hs
    have e := Option.some.inj hs
    refine TI.bulk k (a1 := p.1) (h1 := p.2) hr (TI.weak (Wk.mask keep keepH) ?_)
    have e1 : maskA keep p.1 = a2 := congrArg Prod.fst e
    have e2 : maskH keepH 0 p.2 = h2 := congrArg Prod.snd e
    rw [e1, e2]
    exact ht

/-- One operation of which it is known what it comes to. -/
theorem TI.op (hq : qAt P base ops j a h = some q) (keep keepH : List Nat) (hs : mk2 keep keepH (putAt ops j a q.val, q.heap h) = (a2, h2)) (ht : TI P base L ops (j + 1) a2 h2 Ψ) : TI P base L ops j a h Ψ := by
  refine TI.one hq rfl rfl (TI.weak (Wk.mask keep keepH) ?_)
  have e1 : maskA keep (putAt ops j a q.val) = a2 := congrArg Prod.fst hs
  have e2 : maskH keepH 0 (q.heap h) = h2 := congrArg Prod.snd hs
  rw [e1, e2]
  exact ht

theorem TI.callM {g : FuncId} {args : List Value} (hc : callAt ops j a = some (g, args)) (hP : PureSim P g args h v new) (keep keepH : List Nat) (hs : mk2 keep keepH (putAt ops j a v, h ++ new) = (a2, h2))
    (ht : TI P base L ops (j + 1) a2 h2 Ψ) : TI P base L ops j a h Ψ := by
  refine TI.call hc hP rfl rfl (TI.weak (Wk.mask keep keepH) ?_)
  have e1 : maskA keep (putAt ops j a v) = a2 := congrArg Prod.fst hs
  have e2 : maskH keepH 0 (h ++ new) = h2 := congrArg Prod.snd hs
  rw [e1, e2]
  exact ht

theorem TI.icallM {g : FuncId} {args : List Value} (hc : callAt ops j a = some (g, args)) (hP : ImpSim P g args base h v h1) (keep keepH : List Nat) (hs : mk2 keep keepH (putAt ops j a v, h1) = (a2, h2))
    (ht : TI P base L ops (j + 1) a2 h2 Ψ) : TI P base L ops j a h Ψ := by
  refine TI.icall hc hP rfl (TI.weak (Wk.mask keep keepH) ?_)
  have e1 : maskA keep (putAt ops j a v) = a2 := congrArg Prod.fst hs
  have e2 : maskH keepH 0 h1 = h2 := congrArg Prod.snd hs
  rw [e1, e2]
  exact ht

theorem TS.startM (keep keepH : List Nat) (hs : mk2 keep keepH (a, h) = (a2, h2)) (ht : TS P base L c a2 h2 (NX P base L [] Φ)) : TS P base L c a h Φ := by
  refine TS.weak (Wk.mask keep keepH) ?_
  have e1 : maskA keep a = a2 := congrArg Prod.fst hs
  have e2 : maskH keepH 0 h = h2 := congrArg Prod.snd hs
  rw [e1, e2]
  exact ht

/-- Both ways of a Bool. -/
theorem splitB (m : Bool → Prop) (b : Bool) (ht : b = true → m true) (hf : b = false → m false) : m b := by
  cases b
  · exact hf rfl
  · exact ht rfl

theorem Ats.dead {p : Bool} {f : Nat → Nat × Nat} {n : Nat} : ∀ (k i : Nat), Ats p f n h i (List.replicate k .dead)
  | 0, i => .nil i
  | k + 1, i => .cons (.inl rfl) (Ats.dead k (i + 1))

theorem Ats.app {p : Bool} {f : Nat → Nat × Nat} {n : Nat} {l m : List Blk} : ∀ {i : Nat}, Ats p f n h i l → Ats p f n h (i + l.length) m → Ats p f n h i (l ++ m) := by
  intro i hl
  induction hl with
  | nil i => intro hm; simpa using hm
  | cons hb _ ih => intro hm; exact .cons hb (ih (by simpa [Nat.add_assoc, Nat.add_comm 1] using hm))

/-- An answer without blocks. -/
theorem WkV.flat0 (hv : isFlat v = true) (hl : L ≤ h.length) : WkV P L L v h v (List.replicate L Blk.dead ++ []) := by
  refine WkV.ren (fun i => i) (fun i _ => rfl) (by simp) (by simp) (fun i j _ _ e => e) (fun i _ => Iff.rfl) ?_ (.flat hv)
  rw [List.append_nil]
  exact Ats.dead L 0

/-- An answer with blocks: block L + j of the answer is block f j. -/
theorem WkV.made {f : List Nat} {v2 : Value} (hf : f.Nodup) (hge : ∀ i ∈ f, L ≤ i) (hl : new.length = f.length)
    (hb : Ats true (fun i => (if i < L then i else f.getD (i - L) 0, 0)) (L + new.length) h L new) (ht : Rn true (fun i => (if i < L then i else f.getD (i - L) 0, 0)) (L + new.length) v2 v) :
    WkV P L L v h v2 (List.replicate L Blk.dead ++ new) := by
  have hlen : (List.replicate L Blk.dead ++ new).length = L + new.length := by simp
  have at_ : ∀ i, L ≤ i → i < L + new.length → ∃ x, f[i - L]? = some x ∧ f.getD (i - L) 0 = x ∧ L ≤ x := fun i h1 h2 => by
    have hx : i - L < f.length := by omega
    exact ⟨f[i - L], List.getElem?_eq_getElem hx, by simp [List.getD, hx], hge _ (List.getElem_mem hx)⟩
  refine WkV.ren (fun i => if i < L then i else f.getD (i - L) 0) (fun i hi => if_pos hi) (by omega) (by omega) (fun i j hi hj e => ?_) (fun i hi => ?_) ?_ ?_
  · rw [hlen] at hi hj
    by_cases h1 : i < L <;> by_cases h2 : j < L
    · simpa [h1, h2] using e
    · obtain ⟨x, _, e1, e2⟩ := at_ j (by omega) hj
      simp only [if_pos h1, if_neg h2, e1] at e
      omega
    · obtain ⟨x, _, e1, e2⟩ := at_ i (by omega) hi
      simp only [if_neg h1, if_pos h2, e1] at e
      omega
    · obtain ⟨x, g1, e1, e2⟩ := at_ i (by omega) hi
      obtain ⟨y, g2, k1, k2⟩ := at_ j (by omega) hj
      simp only [if_neg h1, if_neg h2, e1, k1] at e
      subst e
      have := (List.getElem?_inj (List.getElem?_eq_some_iff.1 g1).1 hf).1 (g1.trans g2.symm)
      omega
  · rw [hlen] at hi
    by_cases h1 : i < L
    · simp only [if_pos h1]
    · obtain ⟨x, _, e1, e2⟩ := at_ i (by omega) hi
      simp only [if_neg h1, e1]
      omega
  · rw [hlen]
    refine Ats.app (Ats.dead L 0) ?_
    rw [List.length_replicate, Nat.zero_add]
    exact hb
  · rw [hlen]
    exact ht

/-- A loop's state by other numbers: block L + j was block f j. -/
theorem Wk.anew {f : List Nat} (hf : f.Nodup) (hge : ∀ i ∈ f, L ≤ i) (hL : base ≤ L) (hl : h2.length = L + f.length)
    (hb : Ats true (fun i => (if i < L then i else f.getD (i - L) 0, 0)) h2.length h 0 h2) (ht : LRn true (fun i => (if i < L then i else f.getD (i - L) 0, 0)) h2.length a2.tmps a.tmps)
    (hm : a.marks = []) (hm2 : a2.marks = []) : Wk P base L a h a2 h2 := by
  have at_ : ∀ i, L ≤ i → i < h2.length → ∃ x, f[i - L]? = some x ∧ f.getD (i - L) 0 = x ∧ L ≤ x := fun i h1 h2 => by
    have hx : i - L < f.length := by omega
    exact ⟨f[i - L], List.getElem?_eq_getElem hx, by simp [List.getD, hx], hge _ (List.getElem_mem hx)⟩
  refine Wk.ren (fun i => if i < L then i else f.getD (i - L) 0) (fun i hi => if_pos hi) (by omega) (by omega) (fun i j hi hj e => ?_) (fun i hi => ?_) hb ht (by rw [hm, hm2]; rfl) (by rw [hm2]; intro m hm; cases hm)
  · by_cases h1 : i < L <;> by_cases h2 : j < L
    · simpa [h1, h2] using e
    · obtain ⟨x, _, e1, e2⟩ := at_ j (by omega) hj
      simp only [if_pos h1, if_neg h2, e1] at e
      omega
    · obtain ⟨x, _, e1, e2⟩ := at_ i (by omega) hi
      simp only [if_neg h1, if_pos h2, e1] at e
      omega
    · obtain ⟨x, g1, e1, e2⟩ := at_ i (by omega) hi
      obtain ⟨y, g2, k1, k2⟩ := at_ j (by omega) hj
      simp only [if_neg h1, if_neg h2, e1, k1] at e
      subst e
      have := (List.getElem?_inj (List.getElem?_eq_some_iff.1 g1).1 hf).1 (g1.trans g2.symm)
      omega
  · by_cases h1 : i < L
    · simp only [if_pos h1]
    · obtain ⟨x, _, e1, e2⟩ := at_ i (by omega) hi
      simp only [if_neg h1, e1]
      omega

/-! ### Proofs of renamings -/
theorem LRn.st {p : Bool} {f : Nat → Nat × Nat} {n : Nat} {m : Nat} {l : List (Nat × Value)} {l' : List Value} (hlen : l'.length = m) (hp : p = true) (hall : ∀ x ∈ l, ∀ v', l'[x.1]? = some v' → Rn p f n x.2 v') :
    LRn p f n (Cl.st m l).tmps l' := by
  have key : ∀ (l : List (Nat × Value)) (t : List Value), (∀ x ∈ l, ∀ v', l'[x.1]? = some v' → Rn p f n x.2 v') → LRn p f n t l' → LRn p f n (l.foldl (fun t p => t.set p.1 p.2) t) l' := by
    intro l
    induction l with
    | nil => intro t _ ht; exact ht
    | cons x l ih =>
      intro t hx ht
      refine ih _ (fun y hy => hx y (List.mem_cons_of_mem _ hy)) ⟨by simp [ht.len], fun j v v' hv hv' => ?_⟩
      rw [List.getElem?_set] at hv
      split at hv
      · rename_i hj
        split at hv
        · cases hv
          exact hx x List.mem_cons_self v' (by rw [hj]; exact hv')
        · cases hv
      · exact ht.at_ j v v' hv hv'
  refine key l _ hall ⟨by simp [hlen], fun j v v' hv hv' => ?_⟩
  rw [List.getElem?_replicate] at hv
  split at hv
  · cases hv; exact .poison _ hp
  · cases hv
end
end Go.Cl
/- Regions that draw their order, step by step. -/
set_option linter.unusedVariables false
namespace Go.Cl
open Go Go.RowKit

open Classical in
/-- What calls come to, by a list. -/
noncomputable def lookC : List Entry → FuncId → List Value → List Blk → Option (Value × List Blk)
  | [], _, _, _ => none
  | e :: T, g, args, h => if e.g = g ∧ e.args = args ∧ e.h = h then some (e.v, e.new) else lookC T g args h

theorem lookC_sound {P : Program} : ∀ {T : List Entry} {g : FuncId} {args : List Value} {h : List Blk} {v : Value} {new : List Blk}, (∀ e ∈ T, PureSim P e.g e.args e.h e.v e.new) → lookC T g args h = some (v, new) → PureSim P g args h v new
  | [], _, _, _, _, _, _, hc => by cases hc
  | e :: T, g, args, h, v, new, hT, hc => by
    unfold lookC at hc
    split at hc
    · rename_i he
      obtain ⟨rfl, rfl, rfl⟩ := he
      cases hc
      exact hT e List.mem_cons_self
    · exact lookC_sound (fun e he => hT e (List.mem_cons_of_mem _ he)) hc

/-- The environment that knows the calls of a list. -/
noncomputable def orc (P : Program) (T : List Entry) : Env := { P := P, sum := fun g => some fun args h => lookC T g args h, imp := fun _ => true }
theorem orc_ok {P : Program} {T : List Entry} (hT : ∀ e ∈ T, PureSim P e.g e.args e.h e.v e.new) : SumOk (orc P T) := by
  refine SumOk.of rfl fun g s args h v new hs hv => ?_
  cases hs
  exact lookC_sound hT hv

theorem lookC_hit {T : List Entry} {e : Entry} : lookC (e :: T) e.g e.args e.h = some (e.v, e.new) := by simp [lookC]
theorem lookC_skip {T : List Entry} {e : Entry} {g : FuncId} {args : List Value} {h : List Blk} {r : Value × List Blk} (hne : e.g = g → e.args = args → e.h = h → (e.v, e.new) = r) (ht : lookC T g args h = some r) : lookC (e :: T) g args h = some r := by
  unfold lookC
  split
  · rename_i he
    rw [hne he.1 he.2.1 he.2.2]
  · exact ht

theorem none_sound' (E : Env) (m : Nat) : Sound E m Rec.none := none_sound E m

section
variable {P : Program} {base L : Nat} {c y : Code} {a a1 a2 : CAct} {h h1 h2 new : List Blk} {Φ : Post} {K : List Fr} {ops : Array Oper} {j : Nat} {q : QRes} {v : Value} {T : List Entry} {s s1 fin fin2 : QSt} {us : List (Nat × Nat)}

/-- The quiet part of such a region: from the j-th operation on, up to the n-th one. -/
def QI (P : Program) (T : List Entry) (base : Nat) (ops : Array Oper) (us : List (Nat × Nat)) (n j : Nat) (s fin : QSt) : Prop :=
  quietOps (orc P T) Rec.none base ops.toList (Region.before ops).toList us ((ops.toList.take n).drop j) j s = some fin
/-- Its tail. -/
def SI (P : Program) (T : List Entry) (base : Nat) (ops : Array Oper) (j : Nat) (a : CAct) (h : List Blk) (a1 : CAct) (h1 : List Blk) : Prop :=
  seqOps (orc P T) Rec.none base ops.toList (ops.toList.drop j) a h = some (a1, h1)

noncomputable def runQ (P : Program) (T : List Entry) (base : Nat) (ops : Array Oper) (us : List (Nat × Nat)) (n j k : Nat) (s : QSt) : Option QSt :=
  quietOps (orc P T) Rec.none base ops.toList (Region.before ops).toList us (((ops.toList.take n).drop j).take k) j s
noncomputable def runS (P : Program) (T : List Entry) (base : Nat) (ops : Array Oper) (j k : Nat) (a : CAct) (h : List Blk) : Option (CAct × List Blk) :=
  seqOps (orc P T) Rec.none base ops.toList ((ops.toList.drop j).take k) a h

theorem quiet_app {E : Env} {r : Rec} {ops : List Oper} {bf : List Nat} {us : List (Nat × Nat)} {m : List Oper} : ∀ {l : List Oper} {j : Nat} {s s1 fin : QSt}, quietOps E r base ops bf us l j s = some s1 → quietOps E r base ops bf us m (j + l.length) s1 = some fin → quietOps E r base ops bf us (l ++ m) j s = some fin
  | [], j, s, s1, fin, h, k => by cases h; simpa using k
  | o :: l, j, s, s1, fin, h, k => by
    rw [List.cons_append]
    unfold quietOps at h ⊢
    split at h
    · split at h
      · rename_i q hq
        rw [applyK_eq, putK_eq] at h ⊢
        exact quiet_app h (by simpa [Nat.add_assoc, Nat.add_comm 1] using k)
      · cases h
    · rw [putK_eq] at h ⊢
      exact quiet_app h (by simpa [Nat.add_assoc, Nat.add_comm 1] using k)
    · cases h

theorem seq_app {E : Env} {r : Rec} {ops : List Oper} {m : List Oper} {R : CAct × List Blk} : ∀ {l : List Oper} {a a1 : CAct} {h h1 : List Blk}, seqOps E r base ops l a h = some (a1, h1) → seqOps E r base ops m a1 h1 = some R → seqOps E r base ops (l ++ m) a h = some R
  | [], a, a1, h, h1, x, k => by cases x; exact k
  | o :: l, a, a1, h, h1, x, k => by
    rw [List.cons_append]
    unfold seqOps at x ⊢
    split at x
    · split at x
      · rename_i hi
        rw [if_pos hi]
        split at x
        · rw [putK_eq] at x ⊢
          exact seq_app x k
        · cases x
      · rename_i hi
        rw [if_neg hi]
        split at x
        · rw [applyK_eq, putK_eq] at x ⊢
          exact seq_app x k
        · cases x
    · rw [putK_eq] at x ⊢
      exact seq_app x k
    · cases x

theorem QI.run {n : Nat} (k : Nat) (hk : (((ops.toList.take n).drop j).take k).length = k) (hs : runQ P T base ops us n j k s = some s1) (ht : QI P T base ops us n (j + k) s1 fin) : QI P T base ops us n j s fin := by
  unfold QI at ht ⊢
  rw [← List.take_append_drop k ((ops.toList.take n).drop j), List.drop_drop]
  exact quiet_app hs (by rw [hk]; exact ht)
theorem QI.done {n : Nat} (hj : ((ops.toList.take n).drop j).isEmpty = true) : QI P T base ops us n j s s := by
  unfold QI
  rw [List.isEmpty_iff.1 hj]
  rfl

/-- What the j-th operation comes to. -/
noncomputable def qOf (P : Program) (T : List Entry) (base : Nat) (ops : Array Oper) (j : Nat) (a : CAct) (h : List Blk) (n : Nat) : Option QRes :=
  match ops.toList[j]? with
  | some o => match cWanted ops.toList a o with
    | some true => qOp (orc P T) Rec.none base h n a.eval o
    | _ => none
  | none => none

noncomputable def nextQ (ops : Array Oper) (j : Nat) (s : QSt) (q : QRes) : QSt :=
  { act := putAt ops j s.act q.val, heap := q.heap s.heap,
    own := if q.new.isEmpty then s.own else (j, s.heap.length, s.heap.length + q.new.length) :: s.own,
    upds := match q.upd with | some (k, _) => (j, k) :: s.upds | none => s.upds }

theorem take_drop_at {α : Type} {l : List α} {n j : Nat} {o : α} (hn : j < n) (h : l[j]? = some o) : (l.take n).drop j = o :: (l.take n).drop (j + 1) := by
  refine drop_at ?_
  rw [List.getElem?_take, if_pos hn]; exact h

theorem QI.op {n : Nat} (hn : j < n) (hq : qOf P T base ops j s.act (masked (Region.before ops).toList s.own us j s.heap) s.heap.length = some q) (hs : nextQ ops j s q = s1) (ht : QI P T base ops us n (j + 1) s1 fin) : QI P T base ops us n j s fin := by
  unfold qOf at hq
  split at hq
  · rename_i o ho
    split at hq
    · rename_i hw
      unfold QI at ht ⊢
      rw [take_drop_at hn ho]
      unfold quietOps
      rw [hw]
      simp only
      rw [hq]
      simp only
      rw [applyK_eq, putK_eq]
      rw [← hs] at ht
      unfold nextQ at ht
      rw [show putAt ops j s.act q.val = s.act.put o.dst q.val from by simp only [putAt, ho]] at ht
      exact ht
    · cases hq
  · cases hq

theorem qOf_call {g : FuncId} {args : List Value} {n : Nat} (hc : callAt ops j a = some (g, args)) (hl : lookC T g args h = some (v, new)) : qOf P T base ops j a h n = some { val := v, new := new } := by
  unfold callAt at hc
  unfold qOf
  split at hc
  · rename_i o ho
    try rw [ho]
    try simp only
    split at hc
    · rename_i hw
      try rw [hw]
      try simp only
      split at hc
      · rename_i f cargs ts hop
        split at hc
        · rename_i g' first captured hf
          cases hc
          simp only [qOp, hop, hf, qCall, callQ, orc, hl, Option.map_some]
        · cases hc
      · cases hc
    · cases hc
  · cases hc

theorem SI.run (k : Nat) (hs : runS P T base ops j k a h = some (a2, h2)) (ht : SI P T base ops (j + k) a2 h2 a1 h1) : SI P T base ops j a h a1 h1 := by
  unfold SI at ht ⊢
  rw [← List.take_append_drop k (ops.toList.drop j), List.drop_drop]
  exact seq_app hs ht
theorem SI.done (hj : (ops.toList.drop j).isEmpty = true) : SI P T base ops j a h a h := by
  unfold SI
  rw [List.isEmpty_iff.1 hj]
  rfl
theorem SI.op (hi : (match ops.toList[j]? with | some o => isImpCall (orc P T) a.eval o | none => false) = false) (hq : qOf P T base ops j a h h.length = some q) (ha : putAt ops j a q.val = a2) (hh : q.heap h = h2) (ht : SI P T base ops (j + 1) a2 h2 a1 h1) : SI P T base ops j a h a1 h1 := by
  unfold qOf at hq
  split at hq
  · rename_i o ho
    rw [ho] at hi
    simp only at hi
    split at hq
    · rename_i hw
      unfold SI at ht ⊢
      rw [drop_at ho]
      unfold seqOps
      rw [hw]
      simp only
      rw [hi, hq]
      simp only [Bool.false_eq_true, if_false]
      rw [applyK_eq, putK_eq, hh]
      have : putAt ops j a q.val = a.put o.dst q.val := by simp only [putAt, ho]
      rw [← this, ha]
      exact ht
    · cases hq
  · cases hq

theorem draw_run {n : Nat} (hn : (edgesBack ops.toList 0 && quietOk ops.toList (Region.before ops).toList n && (tailFrom (Region.before ops).toList ops.size == n)) = true)
    (hq : QI P T base ops [] n 0 { act := a, heap := h } fin) (hu : fin.upds = us) (hq2 : us = [] ∧ fin2 = fin ∨ QI P T base ops us n 0 { act := a, heap := h } fin2 ∧ (fin2.upds == us) = true)
    (hs : SI P T base ops n fin2.act fin2.heap a1 h1) : codeDraw (orc P T) Rec.none base ops a h = some (.normal, a1, h1) := by
  refine (?_ : (match codeDraw0 (orc P T) Rec.none base ops a h with | some x => some x | none => codeParts (orc P T) Rec.none base ops a h) = _)
  refine (congrArg (fun x => match x with | some x => some x | none => codeParts (orc P T) Rec.none base ops a h) (?_ : codeDraw0 (orc P T) Rec.none base ops a h = some (.normal, a1, h1))).trans rfl
  simp only [Bool.and_eq_true, beq_iff_eq] at hn
  obtain ⟨⟨hn1, hn2⟩, hn3⟩ := hn
  have hs' : seqOps (orc P T) Rec.none base ops.toList (ops.toList.drop n) fin2.act fin2.heap = some (a1, h1) := hs
  have hq' : quietOps (orc P T) Rec.none base ops.toList (Region.before ops).toList [] (ops.toList.take n) 0 { act := a, heap := h } = some fin := hq
  unfold codeDraw0
  rw [hn3, hn1, hn2]
  simp only [Bool.and_self, if_true]
  unfold drawOps
  rw [hq']
  simp only [hu]
  rcases hq2 with ⟨rfl, rfl⟩ | ⟨hq2, he⟩
  · simp only [List.isEmpty_nil, if_true, hs']
    rfl
  · by_cases hz : us.isEmpty = true
    · have : us = [] := List.isEmpty_iff.1 hz
      subst this
      have e : fin2 = fin := Option.some.inj (hq2.symm.trans hq)
      subst e
      simp only [List.isEmpty_nil, if_true, hs']
      rfl
    · have hq2' : quietOps (orc P T) Rec.none base ops.toList (Region.before ops).toList us (ops.toList.take n) 0 { act := a, heap := h } = some fin2 := hq2
      rw [if_neg hz, hq2']
      simp only [Option.bind_some, he, if_true, hs']
      rfl

/-- A region that draws its order. -/
theorem TS.draw' (T : List Entry) (hT : ∀ e ∈ T, PureSim P e.g e.args e.h e.v e.new) (hmix : P.follows .mixedOrders = true) {id : Nat} {b : Bool} (hc : c = .region id ops b) (hb : b = true) (n : Nat)
    (hn : (edgesBack ops.toList 0 && quietOk ops.toList (Region.before ops).toList n && (tailFrom (Region.before ops).toList ops.size == n)) = true)
    (us : List (Nat × Nat)) (hq : QI P T base ops [] n 0 { act := a, heap := h } fin) (hu : fin.upds = us) (hq2 : us = [] ∧ fin2 = fin ∨ QI P T base ops us n 0 { act := a, heap := h } fin2 ∧ (fin2.upds == us) = true)
    (hs : SI P T base ops n fin2.act fin2.heap a1 h1)
    (keep keepH : List Nat) (hm : mk2 keep keepH (a1, h1) = (a2, h2)) (hK : TS P base L y a2 h2 (NX P base L K Φ)) : TS P base L c a h (NX P base L (.sq y :: K) Φ) := by
  subst hc hb
  have e1 : maskA keep a1 = a2 := congrArg Prod.fst hm
  have e2 : maskH keepH 0 h1 = h2 := congrArg Prod.snd hm
  refine TS.of_sim (m := 0) (fun ro => draw_ok (orc_ok hT) (none_sound (orc P T) 0) hmix base ops id a h .normal a1 h1 0 ro (draw_run hn hq hu hq2 hs)) ?_
  refine NX.sq (TS.weak (Wk.mask keep keepH) ?_)
  rw [e1, e2]
  exact hK
theorem TS.drawE (T : List Entry) (hT : ∀ e ∈ T, PureSim P e.g e.args e.h e.v e.new) (hmix : P.follows .mixedOrders = true) {id : Nat} {b : Bool} (hc : c = .region id ops b) (hb : b = true) (n : Nat)
    (hn : (edgesBack ops.toList 0 && quietOk ops.toList (Region.before ops).toList n && (tailFrom (Region.before ops).toList ops.size == n)) = true)
    (us : List (Nat × Nat)) (hq : QI P T base ops [] n 0 { act := a, heap := h } fin) (hu : fin.upds = us) (hq2 : us = [] ∧ fin2 = fin ∨ QI P T base ops us n 0 { act := a, heap := h } fin2 ∧ (fin2.upds == us) = true)
    (hs : SI P T base ops n fin2.act fin2.heap a1 h1) (hK : NX P base L K Φ .normal a1 h1) : TS P base L c a h (NX P base L K Φ) := by
  subst hc hb
  exact TS.of_sim (m := 0) (fun ro => draw_ok (orc_ok hT) (none_sound (orc P T) 0) hmix base ops id a h .normal a1 h1 0 ro (draw_run hn hq hu hq2 hs)) hK
end
end Go.Cl
/- Operations on lists in blocks; and what else the printed proofs name. -/
set_option linter.unusedVariables false
namespace Go.Cl
open Go Go.RowKit

theorem of_do {α γ : Type} {x : Option α} {k : α → Option γ} {r : γ} (h : (x >>= k) = some r) : ∃ a, x = some a ∧ k a = some r := Option.bind_eq_some_iff.1 h

abbrev w64 (x : Int) : Int := IntKind.i64.wrap x
/-- The greater and the lesser of two. -/
def mx (a b : Int) : Int := if b > a then b else a
def mn (a b : Int) : Int := if b < a then b else a

/-- A slice that appends have made, or none yet. -/
def accV (b n : Nat) : Value := .slice (if n = 0 then none else some ⟨b, 0, none⟩) n (if n = 0 then 0 else UNK)
theorem accV_eq (b n : Nat) : accV b n = if n = 0 then .slice none 0 0 else .slice (some ⟨b, 0, none⟩) n UNK := by
  unfold accV; by_cases h : n = 0 <;> simp [h]
theorem accV_pos {b n : Nat} (h : ¬ n = 0) : accV b n = .slice (some ⟨b, 0, none⟩) n UNK := by rw [accV_eq, if_neg h]
def accB (t : TypeId) (n : Nat) (vs : List Value) : Blk := if n = 0 then .dead else .cells t vs

section
variable {P : Program} {base L : Nat} {a a1 a2 : CAct} {h h1 h2 hp new : List Blk} {ops : Array Oper} {j : Nat} {Ψ : CAct → List Blk → Prop} {q : QRes} {v : Value} {x : Option QRes} {α : Type} {enc : α → List Value} {l : List α} {s i off b k m : Nat} {t T : TypeId}

theorem q_ix {c : Prop} [Decidable c] {v : Value} (h : x = qv (if c then some v else none)) (hc : c) : x = some { val := v } := by rw [h, if_pos hc]; rfl
theorem q_ixS {c : Prop} [Decidable c] (b o k : Nat) (h : x = qv (if c then some (.pointer (some (Addr.add ⟨b, o, none⟩ k))) else none)) (hc : c) : x = some { val := .pointer (some ⟨b, o + k, none⟩) } := by rw [h, if_pos hc, add_eq]; rfl
theorem q_conv {e b : Bool} (h : x = some { val := .bool e }) (hc : e = b) : x = some { val := .bool b } := by rw [← hc]; exact h
theorem q_convI {k : IntKind} {e y : Int} (h : x = some { val := .int k e }) (hc : e = y) : x = some { val := .int k y } := by rw [← hc]; exact h
theorem q_int {op : BinOp} {ty : TypeId} {ox oy : Operand} {k k' : IntKind} {y z : Int} {v : Value} (h : x = qBin P op ty ox oy (.int k y) (.int k' z)) (hv : intBin op k k' y z = some v) : x = some { val := v } := by
  rw [h]; simp only [qBin, hv]
theorem rem_ok {k : IntKind} {y z : Int} (hz : ¬ z = 0) : intBin .rem k k y z = some (.int k (y.tmod z)) := by simp [intBin, hz]
theorem quo_ok {k : IntKind} {y z : Int} (hz : ¬ z = 0) : intBin .quo k k y z = some (.int k (k.wrap (y.tdiv z))) := by simp [intBin, hz]

theorem flatMap_len (hl : ∀ y, (enc y).length = s) : (l.flatMap enc).length = l.length * s := by
  induction l with
  | nil => simp
  | cons y l ih => simp [List.flatMap_cons, hl, ih, Nat.add_mul, Nat.add_comm]

theorem flatMap_at (hl : ∀ y, (enc y).length = s) (d : α) : ∀ {l : List α} {i : Nat}, i < l.length → ((l.flatMap enc).drop (i * s)).take s = enc (l.getD i d)
  | [], i, h => by simp at h
  | y :: l, 0, h => by
    simp only [List.flatMap_cons, Nat.zero_mul, List.drop_zero, List.getD_cons_zero]
    rw [List.take_append_of_le_length (by rw [hl]; exact Nat.le_refl _), List.take_of_length_le (by rw [hl]; exact Nat.le_refl _)]
  | y :: l, i + 1, h => by
    simp only [List.flatMap_cons, List.getD_cons_succ]
    rw [← flatMap_at hl d (l := l) (i := i) (by simpa using h), Nat.add_mul, Nat.one_mul, Nat.add_comm (i * s) s]
    rw [← hl y, ← List.drop_drop, List.drop_left]

theorem flatMap_get (hl : ∀ y, (enc y).length = s) (d : α) {k : Nat} (hi : i < l.length) (hk : k < s) : (l.flatMap enc)[i * s + k]? = some ((enc (l.getD i d)).getD k undef) := by
  have h := flatMap_at (enc := enc) hl d hi
  have h2 : (((l.flatMap enc).drop (i * s)).take s)[k]? = (l.flatMap enc)[i * s + k]? := by rw [List.getElem?_take, if_pos hk, List.getElem?_drop]
  rw [← h2, h]
  simp only [List.getD]
  rw [List.getElem?_eq_getElem (by rw [hl]; exact hk)]
  rfl

/-- An element is loaded, all of it. -/
theorem q_ldA (h : x = qv (cLoad P hp t (.pointer (some ⟨b, off, none⟩)))) (hb : hp[b]? = some (.cells T (l.flatMap enc))) (ha : aggT P t = some true) (hs : sizeT P t = some s) (hl : ∀ y, (enc y).length = s)
    (ho : off = i * s) (hi : i < l.length) (d : α) : x = some { val := .agg ⟨enc (l.getD i d)⟩ } := by
  have hle : i * s + s ≤ (l.flatMap enc).length := by
    rw [flatMap_len hl, ← Nat.succ_mul]; exact Nat.mul_le_mul_right _ hi
  rw [h, ho]
  simp only [cLoad, hb, ha, hs]
  rw [if_pos hle, flatMap_at hl d hi]
  rfl
/-- A cell of an element. -/
theorem q_ld1 (h : x = qv (cLoad P hp t (.pointer (some ⟨b, off, none⟩)))) (hb : hp[b]? = some (.cells T (l.flatMap enc))) (ha : aggT P t = some false) (hl : ∀ y, (enc y).length = s)
    (ho : off = i * s + k) (hk : k < s) (hi : i < l.length) (d : α) : x = some { val := (enc (l.getD i d)).getD k undef } := by
  rw [h, ho]
  simp only [cLoad, hb, ha]
  cases sizeT P t <;> (simp only [flatMap_get hl d hi hk]; rfl)

theorem takeAll {vs : List Value} {n : Nat} (h : vs.length = n) : (vs.drop 0).take n = vs := by rw [List.drop_zero, List.take_of_length_le (by omega)]

theorem litK_unk {P : Program} {base : Nat} {h : List Blk} {size sLen c : Nat} {sb : Option Addr} (hc : ¬ c = 0) : litK P base h size sb sLen c = none := by
  unfold litK; rw [if_neg (fun x => hc x.2)]
theorem litK_nil {P : Program} {base : Nat} {h : List Blk} {size sLen c : Nat} : litK P base h size none sLen c = none := by
  unfold litK; split <;> rfl

/-- More is appended to what appends have made. -/
theorem q_appU {ts : Array TypeId} {e : TypeId} {n bytes : Nat} {z y : Value} {ys : List α} {xs : List Value} (h : x = cAppend P base hp n ts (.slice (some ⟨b, 0, none⟩) l.length UNK) y)
    (hb : hp[b]? = some (.cells e (l.flatMap enc))) (hbase : base ≤ b) (he : (ts[0]?).bind P.underlying = some (.slice e)) (hs : sizeT P e = some s) (hby : bytesT P e = some bytes) (hz : zeroT P e = some z)
    (hzf : (flat1 z && (z.cells.size == s) && decide (0 < s)) = true) (harg : appArg hp s bytes z ((ts[1]?).bind P.underlying) y = some (m, xs)) (hm : (m == 0) = false) (hok : xs.all cellOk = true)
    (hl : ∀ y, (enc y).length = s) (hx : xs = ys.flatMap enc) (hym : ys.length = m) (hbig : ¬ (2 * (l.length + m) + 1000) * (bytes + 1) > 2 ^ 48) :
    x = some { val := .slice (some ⟨n, 0, none⟩) (l ++ ys).length UNK, new := [.cells e ((l ++ ys).flatMap enc)], upd := some (b, .dead) } := by
  simp only [Bool.and_eq_true, beq_iff_eq, decide_eq_true_eq] at hzf
  have hm' : ¬ m = 0 := by simpa using hm
  have hlen := flatMap_len (l := l) hl
  rw [h]
  simp only [cAppend, he, hs, hby, hz]
  rw [if_pos ⟨hzf.1.1, hzf.1.2, hzf.2⟩]
  simp only [harg]
  rw [litK_unk (by simp only [UNK]; omega)]
  dsimp only
  rw [if_neg (by simp only [UNK, INF]; omega), if_neg (by simp only [UNK, INF]; omega), if_neg hbig, if_neg (by simp only [UNK, INF]; omega)]
  simp only [appOn, hb]
  rw [if_pos ⟨hbase, hs, by simp, Nat.le_refl _, by omega, hok⟩, takeAll hlen, hx, List.flatMap_append, List.length_append, hym]

/-- The first elements. -/
theorem q_appN {ts : Array TypeId} {e : TypeId} {n bytes : Nat} {z y : Value} {ys : List α} {xs : List Value} (h : x = cAppend P base hp n ts (.slice none 0 0) y)
    (he : (ts[0]?).bind P.underlying = some (.slice e)) (hs : sizeT P e = some s) (hby : bytesT P e = some bytes) (hz : zeroT P e = some z)
    (hzf : (flat1 z && (z.cells.size == s) && decide (0 < s)) = true) (harg : appArg hp s bytes z ((ts[1]?).bind P.underlying) y = some (m, xs)) (hm : (m == 0) = false)
    (hx : xs = ys.flatMap enc) (hym : ys.length = m) (hbig : ¬ (2 * (0 + m) + 1000) * (bytes + 1) > 2 ^ 48) :
    x = some { val := .slice (some ⟨n, 0, none⟩) ys.length UNK, new := [.cells e (ys.flatMap enc)] } := by
  simp only [Bool.and_eq_true, beq_iff_eq, decide_eq_true_eq] at hzf
  have hm' : ¬ m = 0 := by simpa using hm
  rw [h]
  simp only [cAppend, he, hs, hby, hz]
  rw [if_pos ⟨hzf.1.1, hzf.1.2, hzf.2⟩]
  simp only [harg]
  rw [litK_nil]
  dsimp only
  rw [if_neg (fun x => hm' x.1), if_neg (by omega), if_neg hbig, if_pos (Nat.zero_le _)]
  simp only [appCopy, readCells, Nat.zero_mul, if_true, List.nil_append, hx, hym, Nat.zero_add]

theorem set_dead {h : List Blk} {b : Nat} (hb : h[b]? = some .dead) : h.set b .dead = h := by
  apply List.ext_getElem?
  intro j
  rw [List.getElem?_set]
  split
  · rename_i e
    subst e
    rw [hb]
    have := (List.getElem?_eq_some_iff.1 hb).1
    simp [this]
  · rfl

/-- To what appends have made, or to none yet. -/
theorem TI.acc {ts : Array TypeId} {e : TypeId} {bytes : Nat} {z y : Value} {ys : List α} {xs : List Value} (h0 : qAt P base ops j a h = cAppend P base h h.length ts (accV b l.length) y)
    (hb : h[b]? = some (accB e l.length (l.flatMap enc))) (hbase : base ≤ b) (he : (ts[0]?).bind P.underlying = some (.slice e)) (hs : sizeT P e = some s) (hby : bytesT P e = some bytes) (hz : zeroT P e = some z)
    (hzf : (flat1 z && (z.cells.size == s) && decide (0 < s)) = true) (harg : appArg h s bytes z ((ts[1]?).bind P.underlying) y = some (m, xs)) (hm : (m == 0) = false) (hok : xs.all cellOk = true)
    (hl : ∀ y, (enc y).length = s) (hx : xs = ys.flatMap enc) (hym : ys.length = m) (hbig : ¬ (2 * (l.length + m) + 1000) * (bytes + 1) > 2 ^ 48)
    (keep keepH : List Nat) (hst : mk2 keep keepH (putAt ops j a (.slice (some ⟨h.length, 0, none⟩) (l ++ ys).length UNK), h.set b .dead ++ [.cells e ((l ++ ys).flatMap enc)]) = (a2, h2))
    (ht : TI P base L ops (j + 1) a2 h2 Ψ) : TI P base L ops j a h Ψ := by
  by_cases hl0 : l.length = 0
  · have hln : l = [] := List.length_eq_zero_iff.1 hl0
    subst hln
    have hb' : h[b]? = some .dead := by simpa [accB] using hb
    have hq := q_appN (x := qAt P base ops j a h) (enc := enc) (ys := ys) (by simpa [accV] using h0) he hs hby hz hzf harg hm hx hym (by simpa using hbig)
    refine TI.op hq keep keepH ?_ ht
    rw [set_dead hb'] at hst
    simpa [QRes.heap] using hst
  · have hq := q_appU (x := qAt P base ops j a h) (enc := enc) (ys := ys) (by simpa [accV, hl0] using h0) (by simpa [accB, hl0] using hb) hbase he hs hby hz hzf harg hm hok hl hx hym hbig
    exact TI.op hq keep keepH (by simpa [QRes.heap] using hst) ht

/-! ### Answers in any heap; renamings -/
theorem PureSim.any {g : FuncId} {args : List Value} (hP : PureSim P g args [] v []) (ha : ∀ x ∈ args, isFlat x = true) (hv : isFlat v = true) (h : List Blk) : PureSim P g args h v [] :=
  PureSim.ren (hc := []) (fun _ => (0, 0)) hP (.nil 0) (.flat ha) (.flat hv) (fun b hb => by cases hb)

theorem RnB.same {p : Bool} {f : Nat → Nat × Nat} {n : Nat} {vs : List Value} (hf : ∀ v ∈ vs, isFlat v = true) : RnB p f n (.cells t vs) (.cells t vs) 0 :=
  .cells t vs vs 0 (by rw [takeAll rfl]; exact .flat hf)
theorem RnB.list {p : Bool} {f : Nat → Nat × Nat} {n : Nat} (hf : ∀ y, (enc y).all isFlat = true) : RnB p f n (.cells t (l.flatMap enc)) (.cells t (l.flatMap enc)) 0 :=
  RnB.same fun v hv => by
    obtain ⟨y, _, hy⟩ := List.mem_flatMap.1 hv
    exact List.all_eq_true.1 (hf y) v hy
theorem RnB.lit {p : Bool} {f : Nat → Nat × Nat} {n : Nat} {vs2 vs : List Value} (hr : LRn p f n vs2 vs) : RnB p f n (.cells t vs2) (.cells t vs) 0 :=
  .cells t vs2 vs 0 (by rw [takeAll hr.len.symm]; exact hr)
theorem At.acc {p : Bool} {f : Nat → Nat × Nat} {n : Nat} {i c : Nat} (hb : h[(f i).1]? = some (accB t c (l.flatMap enc))) (h0 : (f i).2 = 0) (hf : ∀ y, (enc y).all isFlat = true) : At p f n h i (accB t c (l.flatMap enc)) := by
  unfold accB at hb ⊢
  split
  · exact .inl rfl
  · rename_i hc
    rw [if_neg hc] at hb
    exact .inr ⟨_, hb, by rw [h0]; exact RnB.list hf⟩
theorem At.accU {p : Bool} {f : Nat → Nat × Nat} {n : Nat} {i c : Nat} (hb : h[(f i).1]? = some (.cells t (l.flatMap enc))) (h0 : (f i).2 = 0) (hf : ∀ y, (enc y).all isFlat = true) : At p f n h i (accB t c (l.flatMap enc)) := by
  unfold accB
  split
  · exact .inl rfl
  · exact .inr ⟨_, hb, by rw [h0]; exact RnB.list hf⟩
theorem At.accN {p : Bool} {f : Nat → Nat × Nat} {n : Nat} {i : Nat} {vs : List Value} : At p f n h i (accB t 0 vs) := .inl (by simp [accB])
theorem At.blk {p : Bool} {f : Nat → Nat × Nat} {n : Nat} {i : Nat} {b2 b1 : Blk} (hb : h[(f i).1]? = some b1) (hr : RnB p f n b2 b1 (f i).2) : At p f n h i b2 := .inr ⟨_, hb, hr⟩

theorem Rn.acc {p : Bool} {f : Nat → Nat × Nat} {n i c i' : Nat} (hi : i < n) (hf : f i = (i', 0)) : Rn p f n (accV i c) (accV i' c) := by
  rw [accV_eq, accV_eq]
  split
  · exact .flat rfl
  · have := Rn.slice0 (p := p) (f := f) (n := n) i 0 c UNK hi (by rw [hf])
    rw [hf] at this
    exact this
theorem Rn.accU {p : Bool} {f : Nat → Nat × Nat} {n i c i' : Nat} (hi : i < n) (hf : f i = (i', 0)) (hc : ¬ c = 0) : Rn p f n (accV i c) (.slice (some ⟨i', 0, none⟩) c UNK) := by
  have := Rn.acc (p := p) (n := n) (c := c) hi hf
  rw [accV_pos (b := i') hc] at this
  exact this
theorem Rn.accN {p : Bool} {f : Nat → Nat × Nat} {n i : Nat} : Rn p f n (accV i 0) (.slice none 0 0) := .flat rfl
theorem Rn.accA {f : Nat → Nat × Nat} {n i c i' : Nat} (hi : i < n) (hf : f i = (i', 0)) : Rn true f n (.slice (some ⟨i, 0, none⟩) c ANY) (accV i' c) := by
  rw [accV_eq]
  split
  · rename_i e; subst e; exact .anyN i 0 ANY rfl (by decide)
  · have := Rn.any (p := true) (f := f) (n := n) i 0 0 c UNK ANY hi (by rw [hf]) rfl (by decide)
    rw [hf] at this
    exact this
theorem snoc_ne {ys : List α} (h : ys.length ≠ 0) : ¬ (l ++ ys).length = 0 := by rw [List.length_append]; omega
end
end Go.Cl
namespace Go.Cl
open Go Go.RowKit
/-- Where a function's body is to end. -/
def FinP (P : Program) (fn : Func) (L : Nat) (v : Value) (new : List Blk) : Post := fun e a1 h1 =>
  (e = .normal ∨ e = .ret) ∧ a1.marks = [] ∧ ∃ v1, cResults P fn a1 h1 = some v1 ∧ WkV P L L v1 h1 v (List.replicate L Blk.dead ++ new)
theorem PureSim.of_Fin {P : Program} {g : FuncId} {args : List Value} {h : List Blk} {v : Value} {new : List Blk} {fn : Func} {c : Code} (hfn : P.funcs[g]? = some fn) (hc : fn.body = some c)
    (hname : (fn.name == "runtime.NumGoroutine") = false) (L : Nat) (hL : h.length = L) (keep keepH : List Nat) {a2 : CAct} {h2 : List Blk}
    (hs : mk2 keep keepH ({ tmps := args ++ List.replicate (fn.ntmps - args.length) undef }, h) = (a2, h2)) (ht : TS P L L c a2 h2 (NX P L L [] (FinP P fn L v new))) : PureSim P g args h v new := by
  subst hL
  exact PureSim.of_TS hfn hc hname (TS.startM keep keepH hs ht)
theorem flatL {l : List Value} (h : l.all isFlat = true) : ∀ x ∈ l, isFlat x = true := fun x hx => List.all_eq_true.1 h x hx
theorem accB_at {h : List Blk} {b n : Nat} {T : TypeId} {vs : List Value} (hb : h[b]? = some (accB T n vs)) {i : Nat} (hi : i < n) : h[b]? = some (.cells T vs) := by
  rw [hb, accB, if_neg (by omega)]
theorem newflat_nil : ∀ b ∈ ([] : List Blk), b = .dead ∨ blkFlat b = true := fun b hb => by cases hb
theorem newflat_cons {b : Blk} {l : List Blk} (h : b = .dead ∨ blkFlat b = true) (hl : ∀ b ∈ l, b = .dead ∨ blkFlat b = true) : ∀ x ∈ b :: l, x = .dead ∨ blkFlat x = true := fun x hx => by
  rcases List.mem_cons.1 hx with rfl | hx
  · exact h
  · exact hl x hx
theorem accB_flat {α : Type} {enc : α → List Value} {l : List α} {t : TypeId} {n : Nat} (hf : ∀ y, (enc y).all isFlat = true) : accB t n (l.flatMap enc) = .dead ∨ blkFlat (accB t n (l.flatMap enc)) = true := by
  unfold accB
  split
  · exact .inl rfl
  · refine .inr (List.all_eq_true.2 fun v hv => ?_)
    obtain ⟨y, _, hy⟩ := List.mem_flatMap.1 hv
    exact List.all_eq_true.1 (hf y) v hy
section
variable {P : Program} {base L : Nat} {c x y : Code} {a : CAct} {h : List Blk} {Φ : Post}
theorem TS.condKT' {o : Operand} {b : Bool} (hc : c = .cond o x y) (hv : a.eval o = .bool b) (hb : b = true) (ht : TS P base L x a h Φ) : TS P base L c a h Φ := TS.condT' hc (hb ▸ hv) ht
theorem TS.condKF' {o : Operand} {b : Bool} (hc : c = .cond o x y) (hv : a.eval o = .bool b) (hb : b = false) (ht : TS P base L y a h Φ) : TS P base L c a h Φ := TS.condF' hc (hb ▸ hv) ht
end
theorem lenAcc {P : Program} {x : Option QRes} {E : Env} {base b n m : Nat} {h : List Blk} {ts : Array TypeId} {ty e : TypeId} (hx : x = qBuiltin E base h m .len ts ty [accV b n]) (he : (ts[0]?).bind E.P.underlying = some (.slice e)) :
    x = some { val := .int .i64 (n : Int) } := by
  rw [hx]
  simp only [accV, qBuiltin, he]
end Go.Cl

namespace Go.Cl
open Go Go.RowKit
theorem LRn.stx {p : Bool} {f : Nat → Nat × Nat} {n m : Nat} {l' : List Value} (idx : List Nat) (cvs avs : List Value) (hr : LRn p f n cvs avs) (ha : idx.map (fun i => l'.getD i undef) = avs) (hlen : l'.length = m) (hp : p = true) :
    LRn p f n (Cl.st m (idx.zip cvs)).tmps l' := by
  refine LRn.st hlen hp fun x hx v' hv' => ?_
  obtain ⟨j, hj⟩ := List.mem_iff_getElem?.1 hx
  rw [List.getElem?_zip_eq_some] at hj
  obtain ⟨h1, h2⟩ := hj
  refine hr.at_ j _ _ h2 ?_
  rw [← ha, List.getElem?_map, h1]
  simp only [Option.map_some, List.getD, hv', Option.getD_some]
section
variable {P : Program} {base L : Nat} {c : Code} {a : CAct} {h : List Blk} {Φ Ψ : Post}
theorem TL.post (ht : TL P base L c a h Φ) (hp : ∀ e a1 h1, Φ e a1 h1 → ∃ a2 h2, Ψ e a2 h2 ∧ Wk P base L a1 h1 a2 h2) : TL P base L c a h Ψ :=
  fun N D0 β0 κ0 R hR w0 w a' Q hf hb hq => ht N D0 β0 κ0 R hR w0 w a' Q hf hb fun e a1 h1 a1' w1 h1' hf' hb' =>
    let ⟨_, _, h2', hw⟩ := hp e a1 h1 h1'
    hq _ _ _ _ _ h2' (hw _ _ _ _ _ _ hf') hb'
end
end Go.Cl

namespace Go.Cl
open Go Go.RowKit
/-- A slice that is its whole block. -/
def mkV (b n : Nat) : Value := .slice (some ⟨b, 0, none⟩) n n
section
variable {P : Program} {base L : Nat} {a a1 a2 : CAct} {h h1 h2 hp new : List Blk} {ops : Array Oper} {j : Nat} {q : QRes} {v : Value} {x : Option QRes} {α : Type} {enc : α → List Value} {l : List α} {s i off b k m n : Nat} {t T : TypeId}

theorem flatten_rep (z : α) : ∀ (k : Nat), (List.replicate k (enc z)).flatten = (List.replicate k z).flatMap enc
  | 0 => rfl
  | k + 1 => by simp only [List.replicate_succ, List.flatten_cons, List.flatMap_cons, flatten_rep z k]

/-- `make`. -/
theorem q_make {e : TypeId} {y : Int} {z : Value} {bytes : Nat} (d : α) (h : x = cMakeSlice P n t (.int .i64 y) (.int .i64 y)) (he : P.underlying t = some (.slice e)) (hs : sizeT P e = some s) (hby : bytesT P e = some bytes) (hz : zeroT P e = some z)
    (hzf : (flat1 z && (z.cells.size == s)) = true) (hd : z.cells.toList = enc d) (hy : 0 ≤ y ∧ y ≤ 1000000000) (hb : (bytes + 1) * 1000000000 ≤ 2 ^ 48) :
    x = some { val := mkV n (List.replicate (Int.toNat y) d).length, new := [.cells e ((List.replicate (Int.toNat y) d).flatMap enc)] } := by
  simp only [Bool.and_eq_true, beq_iff_eq] at hzf
  have hcap : ((bytes : Int) + 1) * y ≤ 2 ^ 48 := by
    have h1 : ((bytes : Int) + 1) * y ≤ ((bytes : Int) + 1) * 1000000000 := Int.mul_le_mul_of_nonneg_left hy.2 (by omega)
    have h2 : (((bytes + 1) * 1000000000 : Nat) : Int) ≤ ((2 ^ 48 : Nat) : Int) := Int.ofNat_le.2 hb
    have e1 : (((bytes + 1) * 1000000000 : Nat) : Int) = ((bytes : Int) + 1) * 1000000000 := by simp
    rw [e1] at h2
    exact Int.le_trans h1 h2
  rw [h]
  simp only [cMakeSlice, cInt, he, hs, hby, hz, hzf.1, Bool.not_true, Bool.false_eq_true, if_false]
  rw [if_pos ⟨hy.1, Int.le_refl _, hcap, by simp only [INF]; omega, hzf.2⟩, hd, flatten_rep]
  simp [mkV]

theorem flatMap_set {d z : α} {xs : List Value} (hl : ∀ y, (enc y).length = s) (hz : enc z = (enc (l.getD i d)).take k ++ xs ++ (enc (l.getD i d)).drop (k + xs.length)) (hk : k + xs.length ≤ s) (hi : i < l.length) :
    (l.flatMap enc).take (i * s + k) ++ xs ++ (l.flatMap enc).drop (i * s + k + xs.length) = (l.set i z).flatMap enc := by
  induction l generalizing i with
  | nil => simp at hi
  | cons y l ih =>
    cases i with
    | zero =>
      simp only [List.getD_cons_zero] at hz
      simp only [List.flatMap_cons, Nat.zero_mul, Nat.zero_add, List.set_cons_zero]
      have hle : k + xs.length ≤ (enc y).length := by rw [hl]; exact hk
      rw [List.take_append_of_le_length (by omega), List.drop_append_of_le_length hle, hz]
      simp
    | succ i =>
      simp only [List.getD_cons_succ] at hz
      simp only [List.flatMap_cons, List.set_cons_succ]
      have ih' := ih hz (by simpa using hi)
      rw [← ih']
      have e1 : (i + 1) * s + k = (enc y).length + (i * s + k) := by rw [hl, Nat.add_mul]; omega
      have e2 : (i + 1) * s + k + xs.length = (enc y).length + (i * s + k + xs.length) := by rw [hl, Nat.add_mul]; omega
      rw [e2, e1, List.take_append, List.drop_append]
      simp only [Nat.add_sub_cancel_left, List.append_assoc]
      rw [List.take_of_length_le (Nat.le_add_right _ _), List.drop_of_length_le (Nat.le_add_right _ _)]
      simp

/-- A cell, or cells, of an element are written. -/
theorem q_st {y : Value} {xs : List Value} (d z : α) (h : x = cStore P base hp t (.pointer (some ⟨b, off, none⟩)) y) (hb : hp[b]? = some (.cells T (l.flatMap enc))) (hbase : base ≤ b) (hs : sizeT P t = some n)
    (hy : ((y.cells.size == n) && okPart y) = true) (hxs : y.cells.toList = xs) (hok : (xs.all cellOk && !xs.isEmpty) = true) (hl : ∀ y, (enc y).length = s) (ho : off = i * s + k) (hk : k + xs.length ≤ s) (hi : i < l.length)
    (hz : enc z = (enc (l.getD i d)).take k ++ xs ++ (enc (l.getD i d)).drop (k + xs.length)) : x = some { val := undef, upd := some (b, .cells T ((l.set i z).flatMap enc)) } := by
  simp only [Bool.and_eq_true, beq_iff_eq, Bool.not_eq_true'] at hy hok
  have hle : i * s + s ≤ (l.flatMap enc).length := by
    rw [flatMap_len hl, ← Nat.succ_mul]; exact Nat.mul_le_mul_right _ hi
  rw [h, ho]
  simp only [cStore, hs]
  rw [if_pos hy, hxs]
  simp only [cStoreAt, Option.isSome_none, Bool.false_eq_true, if_false, hok.2, hb]
  rw [if_pos ⟨hbase, by omega, hok.1⟩, flatMap_set hl hz hk hi]
  rfl

theorem Rn.mk {p : Bool} {f : Nat → Nat × Nat} {i i' c c' : Nat} (hi : i < n) (hf : f i = (i', 0)) (hc : c = c') : Rn p f n (mkV i c) (mkV i' c') := by
  subst hc
  have := Rn.slice0 (p := p) (f := f) (n := n) i 0 c c hi (by rw [hf])
  rw [hf] at this
  exact this
theorem Rn.mkA {f : Nat → Nat × Nat} {i i' c c' : Nat} (hi : i < n) (hf : f i = (i', 0)) (hc : c = c') : Rn true f n (.slice (some ⟨i, 0, none⟩) c ANY) (mkV i' c') := by
  subst hc
  have := Rn.any (p := true) (f := f) (n := n) i 0 0 c c ANY hi (by rw [hf]) rfl (by decide)
  rw [hf] at this
  exact this

/-- A part of a list that is only read. -/
theorem win_read {st' len : Nat} (hl : ∀ y, (enc y).length = s) : ((l.flatMap enc).drop (st' * s)).take (len * s) = ((l.drop st').take len).flatMap enc := by
  induction st' generalizing l with
  | zero =>
    simp only [Nat.zero_mul, List.drop_zero]
    induction len generalizing l with
    | zero => simp
    | succ len ih =>
      cases l with
      | nil => simp
      | cons y l =>
        simp only [List.flatMap_cons, List.take_succ_cons]
        rw [← ih, Nat.add_mul, Nat.one_mul, Nat.add_comm (len * s) s, ← hl y, List.take_length_add_append]
  | succ k ih =>
    cases l with
    | nil => simp
    | cons y l =>
      simp only [List.flatMap_cons, List.drop_succ_cons]
      rw [← ih, Nat.add_mul, Nat.one_mul, Nat.add_comm (k * s) s, ← hl y, ← List.drop_drop, List.drop_left]
end
end Go.Cl
namespace Go.Cl
open Go Go.RowKit
theorem q_ixAcc {x : Option QRes} (b : Nat) (n : Nat) {P : Program} {t : TypeId} {i : Int} {s : Nat} {e : TypeId} (h : x = qv (cIndexAddr P t (accV b n) (.int .i64 i))) (hc : 0 ≤ i ∧ i < (n : Int)) (he : P.underlying t = some (.slice e)) (hs : sizeT P e = some s) :
    x = some { val := .pointer (some ⟨b, 0 + Int.toNat i * s, none⟩) } := by
  rw [h, accV_pos (by omega)]
  simp only [cIndexAddr, cInt, he, hs]
  rw [if_pos hc, add_eq]
  rfl
end Go.Cl
namespace Go.Cl
open Go Go.RowKit
theorem cellsL_flat {α : Type} {enc : α → List Value} {l : List α} {t : TypeId} (hf : ∀ y, (enc y).all isFlat = true) : Blk.cells t (l.flatMap enc) = .dead ∨ blkFlat (.cells t (l.flatMap enc)) = true := by
  refine .inr (List.all_eq_true.2 fun v hv => ?_)
  obtain ⟨y, _, hy⟩ := List.mem_flatMap.1 hv
  exact List.all_eq_true.1 (hf y) v hy
end Go.Cl
namespace Go.Cl
theorem q_eqv {x : Option QRes} {q q' : QRes} (h : x = some q) (e : q = q') : x = some q' := e ▸ h
end Go.Cl
namespace Go.Cl
section
variable {P : Program} {base n m s b off : Nat} {x : Option QRes} {hp : List Blk} {k : IntKind} {y z : Int} {t e : TypeId} {α : Type} {enc : α → List Value} {l : List α}
theorem cb_lo (h : 0 ≤ y ∧ y ≤ (n : Int)) : cBounds n n (some (.int k y)) none none = some (Int.toNat y, n, n) := by
  delta cBounds
  simp only [cInt, Option.bind_some, if_pos h]
theorem cb_hi (h : 0 ≤ y ∧ y ≤ (n : Int)) : cBounds n n none (some (.int k y)) none = some (0, Int.toNat y, n) := by
  delta cBounds
  simp only [cInt, Option.bind_some, if_pos h]
theorem cb_both (h : 0 ≤ y ∧ y ≤ z) (h2 : z ≤ (n : Int)) : cBounds n n (some (.int k y)) (some (.int k z)) none = some (Int.toNat y, Int.toNat z, n) := by
  have h3 : 0 ≤ y ∧ y ≤ ((Int.toNat z : Nat) : Int) := by omega
  have h4 : 0 ≤ z ∧ z ≤ (n : Int) := by omega
  delta cBounds
  simp only [cInt, Option.bind_some, if_pos h4, if_pos h3]
/-- A part of a slice that is only read. -/
theorem q_slA {lo hi : Option Value} {a c : Nat} (h : x = qv (cSlice P t (.slice (some ⟨b, off, none⟩) n ANY) lo hi none)) (he : P.underlying t = some (.slice e)) (hs : sizeT P e = some s) (hb : cBounds n n lo hi none = some (a, c, m)) :
    x = some { val := .slice (some ⟨b, off + a * s, none⟩) (c - a) ANY } := by
  rw [h]
  simp only [cSlice, he, hs]
  rw [if_neg (by decide), hb]
  simp only [Option.map_some, add_eq]
  rw [if_pos (by decide)]
  rfl
/-- What is read for an append: a part of a list. -/
theorem appArg_win {bytes : Nat} {zr : Value} {d : Option TypeDesc} {st' len c : Nat} (hd : d = some (.slice e)) (hb : hp[b]? = some (.cells t (l.flatMap enc))) (hl : ∀ y, (enc y).length = s) (ho : off = st' * s) (hle : st' + len ≤ l.length) :
    appArg hp s bytes zr d (.slice (some ⟨b, off, none⟩) len c) = some (len, ((l.drop st').take len).flatMap enc) := by
  subst hd ho
  have hlen := flatMap_len (l := l) hl
  simp only [appArg, readCells]
  split
  · rename_i h0
    rcases Nat.mul_eq_zero.1 h0 with h1 | h1
    · subst h1; simp
    · subst h1
      have : ∀ q : List α, q.flatMap enc = [] := fun q => by
        rw [List.flatMap_eq_nil_iff]; intro y _; exact List.length_eq_zero_iff.1 (hl y)
      simp [this]
  · simp only [hb]
    rw [if_pos (by rw [hlen, ← Nat.add_mul]; exact Nat.mul_le_mul_right _ hle), win_read hl]
    rfl
end
end Go.Cl
namespace Go.Cl
open Go Go.RowKit
theorem w64_in {x : Int} (h1 : -9223372036854775808 ≤ x) (h2 : x ≤ 9223372036854775807) : w64 x = x := by
  simp [w64, IntKind.wrap, IntKind.signed, IntKind.bits]
  omega
end Go.Cl
/- Arguments of a row, opened: flat values (integers, bools, structs of these). -/
set_option linter.unusedVariables false
namespace Go.Cl
open Go Go.RowKit

inductive Leaf where
  | int (k : IntKind)
  | bool

def Leaf.ok : Leaf → Value → Prop
  | .int k, v => ∃ n, v = .int k n ∧ (Lit.int k n).wf = true
  | .bool, v => ∃ b, v = .bool b

def lfits : List Leaf → List Value → Prop
  | [], [] => True
  | k :: ks, v :: vs => k.ok v ∧ lfits ks vs
  | _, _ => False

theorem lfits.append : ∀ {a b : List Leaf} {x y : List Value}, lfits a x → lfits b y → lfits (a ++ b) (x ++ y)
  | [], b, [], y, _, h => h
  | k :: a, b, v :: x, y, h, h' => ⟨h.1, lfits.append h.2 h'⟩
  | [], _, _ :: _, _, h, _ => h.elim
  | _ :: _, _, [], _, h, _ => h.elim

theorem lfits.nil {x : List Value} (h : lfits [] x) : x = [] := by cases x with | nil => rfl | cons => exact h.elim
theorem lfits.consI {k : IntKind} {ks : List Leaf} {x : List Value} (h : lfits (.int k :: ks) x) : ∃ n vs, x = .int k n :: vs ∧ (Lit.int k n).wf = true ∧ lfits ks vs := by
  cases x with
  | nil => exact h.elim
  | cons v vs => obtain ⟨⟨n, rfl, hw⟩, h2⟩ := h; exact ⟨n, vs, rfl, hw, h2⟩
theorem lfits.consB {ks : List Leaf} {x : List Value} (h : lfits (.bool :: ks) x) : ∃ b vs, x = .bool b :: vs ∧ lfits ks vs := by
  cases x with
  | nil => exact h.elim
  | cons v vs => obtain ⟨⟨n, rfl⟩, h2⟩ := h; exact ⟨n, vs, rfl, h2⟩

def leavesF (P : Program) (lv : TypeId → Option (List Leaf)) : Nat → List Field → Option (List Leaf)
  | _, [] => some []
  | off, f :: fs =>
    if f.offset = off then
      match lv f.type, leavesF P lv (off + P.cellsOf f.type) fs with
      | some a, some b => if a.length = P.cellsOf f.type then some (a ++ b) else none
      | _, _ => none
    else none

def leaves (P : Program) : Nat → TypeId → Option (List Leaf)
  | 0, _ => none
  | n + 1, t =>
    match P.underlying t with
    | some .bool => some [.bool]
    | some (.int k) => some [.int k]
    | some (.struct fs) =>
      match leavesF P (leaves P n) 0 fs.toList with
      | some l => if l.length = P.cellsOf t then some l else none
      | none => none
    | some (.array m e) =>
      match leaves P n e with
      | some a => if a.length = P.cellsOf e ∧ m * P.cellsOf e = P.cellsOf t then some (List.replicate m a).flatten else none
      | none => none
    | _ => none

section
variable {H : Type} {enc : TypeId × Value → H} {P : Program} {w : World} {base : Nat} {sp : Nat → Bool} {held : Bool}

theorem leavesF_fit {lv : TypeId → Option (List Leaf)} {tr : TypeId → List Value → Option (DataW H × List MemPlace)} (hlv : ∀ t l cs x, lv t = some l → tr t cs = some x → lfits l cs) {cs : List Value} :
    ∀ (fs : List Field) (off : Nat) (l : List Leaf), leavesF P lv off fs = some l →
      (∀ f ∈ fs, ∃ x, tr f.type ((cs.drop f.offset).take (P.cellsOf f.type)) = some x) → l.length + off = cs.length → lfits l (cs.drop off)
  | [], off, l, h, _, hl => by
    simp only [leavesF, Option.some.injEq] at h
    subst h
    simp at hl
    subst hl
    simp [lfits]
  | f :: fs, off, l, h, hm, hl => by
    simp only [leavesF] at h
    split at h
    · rename_i ho
      split at h
      · rename_i a b ha hb
        split at h
        · rename_i hal
          simp only [Option.some.injEq] at h
          subst h
          obtain ⟨x, hx⟩ := hm f (.head _)
          have h1 := hlv _ _ _ _ ha hx
          have h2 := leavesF_fit hlv fs _ b hb (fun g hg => hm g (.tail _ hg)) (by simp at hl; omega)
          have := h1.append h2
          rw [ho, ← List.drop_drop, List.take_append_drop] at this
          exact this
        · cases h
      · cases h
    · cases h

theorem leavesA_fit {tr : List Value → Option (DataW H × List MemPlace)} {a : List Leaf} (hlv : ∀ cs x, tr cs = some x → lfits a cs) {cs : List Value} {s : Nat} :
    ∀ (m i : Nat), (∀ j, i ≤ j → j < i + m → ∃ x, tr ((cs.drop (j * s)).take s) = some x) → cs.length = (i + m) * s → lfits (List.replicate m a).flatten (cs.drop (i * s))
  | 0, i, _, hl => by
    have : cs.drop (i * s) = [] := List.drop_eq_nil_of_le (by simpa using Nat.le_of_eq hl)
    rw [this]; simp [lfits]
  | m + 1, i, h, hl => by
    obtain ⟨x, hx⟩ := h i (Nat.le_refl _) (by omega)
    have h1 := hlv _ _ hx
    have h2 := leavesA_fit hlv (cs := cs) (s := s) m (i + 1) (fun j h1 h2 => h j (by omega) (by omega)) (by rw [hl]; congr 1; omega)
    have := h1.append h2
    rw [Nat.add_mul, Nat.one_mul, ← List.drop_drop, List.take_append_drop] at this
    rw [List.replicate_succ, List.flatten_cons]
    exact this

theorem leaves_fit : ∀ (n : Nat) (t : TypeId) (l : List Leaf) (fuel : Nat) (cs : List Value) (x : DataW H × List MemPlace), leaves P n t = some l → DataW.trod enc P w base sp held fuel t cs = some x → lfits l cs
  | 0, _, _, _, _, _, h, _ => by cases h
  | n + 1, t, l, fuel, cs, x, h, ht => by
    unfold leaves at h
    split at h
    · rename_i hu
      obtain ⟨b, h1, _⟩ := DataW.trod_bool hu ht
      cases h
      subst h1
      exact ⟨⟨_, rfl⟩, trivial⟩
    · rename_i k hu
      obtain ⟨b, h1, _, hw⟩ := DataW.trod_int hu ht
      cases h
      subst h1
      exact ⟨⟨_, rfl, hw⟩, trivial⟩
    · rename_i fs hu
      split at h
      · rename_i l' hl
        split at h
        · rename_i hlen
          cases h
          obtain ⟨xs, m, rfl, _, hcl, hxl, hx⟩ := DataW.trod_struct hu ht
          refine leavesF_fit (tr := DataW.trod enc P w base sp held m) (fun t l cs x h1 h2 => leaves_fit n t l m cs x h1 h2) fs.toList 0 l hl (fun f hf => ?_) (by omega)
          obtain ⟨i, hi, rfl⟩ := List.getElem_of_mem hf
          have hi' : i < fs.size := by simpa using hi
          refine ⟨xs[i]'(by omega), ?_⟩
          have := hx i (fs.toList[i]) (by simp [hi'])
          rw [this, List.getElem?_eq_getElem]
        · cases h
      · cases h
    · rename_i m e hu
      split at h
      · rename_i a ha
        split at h
        · rename_i hc
          cases h
          obtain ⟨xs, f, rfl, _, hcl, hxl, hx⟩ := DataW.trod_array hu ht
          have := leavesA_fit (tr := DataW.trod enc P w base sp held f e) (a := a) (fun cs x h => leaves_fit n e a f cs x ha h) (cs := cs) (s := P.cellsOf e) m 0 (fun j _ hj => by
            have hj' : j < m := by omega
            refine ⟨xs[j]'(by omega), ?_⟩
            rw [hx j hj', List.getElem?_eq_getElem]) (by rw [hcl, ← hc.2]; simp)
          simpa using this
        · cases h
      · cases h
    · cases h

/-- A flat argument, opened. -/
theorem open_leaves {n : Nat} {t : TypeId} {l : List Leaf} {v : Value} {d : DataW H} {ps : List MemPlace} (hl : leaves P n t = some l) (hd : DataW.Trod enc P w base sp held t v d ps) : lfits l v.cells.toList := by
  obtain ⟨fuel, hf⟩ := hd
  exact leaves_fit n t l fuel _ _ hl hf
theorem open_agg {r : Reach} {b0 : Nat} {t : TypeId} {v : Value} (hs : (match P.underlying t with | some (.struct _) => true | some (.array _ _) => true | _ => false) = true) (hval : Value.okWide P w r b0 t v) : v = .agg ⟨v.cells.toList⟩ := by
  unfold Value.okWide at hval
  split at hval
  · obtain ⟨cs, rfl, _⟩ := hval; rfl
  · obtain ⟨cs, rfl, _⟩ := hval; rfl
  · rename_i h1 h2; split at hs
    · rename_i h; exact absurd h (h1 _)
    · rename_i h; exact absurd h (h2 _ _)
    · cases hs
end

/-- A law whose arguments are flat. -/
theorem lawF {P : Program} {g : FuncId} {args : List Value} {new : List Blk} (ha : args.all isFlat = true) (h : PureSim P g args [] (.bool true) new) (W : World) :
    Calls P g ⟨args⟩ W fun e W' => e = .returned (.bool true) ∧ Below W.heap.size W W' := by
  refine Calls.mono (h.2 (fun _ => False) (fun _ => (0, 0)) (fun _ => 0) W args (fun i hi => hi.elim) (Rel.empty _ W) ⟨rfl, fun j v v' h1 h2 => ?_⟩) ?_
  · rw [h1] at h2
    cases h2
    exact VR.of_flat (List.all_eq_true.1 ha v (List.mem_of_getElem? h1))
  · rintro e W' ⟨v', β', κ', rfl, hQ⟩
    have hv := hQ.val
    cases hv
    exact ⟨rfl, hQ.below.below⟩
end Go.Cl
