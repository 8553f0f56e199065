/- Statements about pieces of code on clean states: blocks may be called anew, and what is no longer wanted forgotten. -/
import Derived.Test.YtiaippkjgmccoaaCl28
set_option linter.unusedVariables false
namespace Go.Cl
open Go Go.RowKit

/-- A clean state stands for a state of the model. D0, β0, κ0: where the blocks below L lay at the beginning. -/
structure Fit (P : Program) (base N L : Nat) (D0 : Nat → Prop) (β0 : Nat → Nat × Nat) (κ0 : Nat → Nat) (a : CAct) (h : List Blk) (a' : Act) (w : World) (D : Nat → Prop) (β : Nat → Nat × Nat) (κ : Nat → Nat) : Prop where
  dom : ∀ i, D i → i < h.length
  bl : base ≤ h.length
  ll : L ≤ h.length
  rel : Rel P D β κ base N (toF h) w
  act : ActR D β κ a a'
  ext : ∀ i, i < L → (D i ↔ D0 i) ∧ β i = β0 i ∧ κ i = κ0 i

def Fits (P : Program) (base N L : Nat) (D0 : Nat → Prop) (β0 : Nat → Nat × Nat) (κ0 : Nat → Nat) (a : CAct) (h : List Blk) (a' : Act) (w : World) : Prop :=
  ∃ D β κ, Fit P base N L D0 β0 κ0 a h a' w D β κ

/-- Whatever the first state stands for, the second one stands for. -/
def Wk (P : Program) (base L : Nat) (a : CAct) (h : List Blk) (a2 : CAct) (h2 : List Blk) : Prop :=
  ∀ N D0 β0 κ0 a' w, Fits P base N L D0 β0 κ0 a h a' w → Fits P base N L D0 β0 κ0 a2 h2 a' w

theorem Wk.refl {P : Program} {base L : Nat} {a : CAct} {h : List Blk} : Wk P base L a h a h := fun _ _ _ _ _ _ h => h
theorem Wk.trans {P : Program} {base L : Nat} {a a2 a3 : CAct} {h h2 h3 : List Blk} (x : Wk P base L a h a2 h2) (y : Wk P base L a2 h2 a3 h3) : Wk P base L a h a3 h3 :=
  fun _ _ _ _ _ _ h => y _ _ _ _ _ _ (x _ _ _ _ _ _ h)

abbrev Post := Exit → CAct → List Blk → Prop

/-- Whatever state of the model the clean state stands for: the code ends, in one of the states of Φ. -/
def TS (P : Program) (base L : Nat) (c : Code) (a : CAct) (h : List Blk) (Φ : Post) : Prop :=
  ∀ (N : Nat) (D0 : Nat → Prop) (β0 : Nat → Nat × Nat) (κ0 : Nat → Nat) (w0 w : World) (a' : Act) (Q : Exit → Act → World → Prop),
    Fits P base N L D0 β0 κ0 a h a' w → Below N w0 w →
    (∀ e a1 h1 a1' w1, Φ e a1 h1 → Fits P base N L D0 β0 κ0 a1 h1 a1' w1 → Below N w0 w1 → Q e a1' w1) →
    c.wpIn (FW none) 0 P Q a' w

section
variable {P : Program} {base L : Nat} {c x y : Code} {a a1 a2 : CAct} {h h1 h2 : List Blk} {Φ Ψ : Post} {e : Exit}

theorem TS.weak (hw : Wk P base L a h a2 h2) (ht : TS P base L c a2 h2 Φ) : TS P base L c a h Φ :=
  fun N D0 β0 κ0 w0 w a' Q hf hb hq => ht N D0 β0 κ0 w0 w a' Q (hw _ _ _ _ _ _ hf) hb hq

theorem TS.post (ht : TS P base L c a h Φ) (hp : ∀ e a1 h1, Φ e a1 h1 → ∃ a2 h2, Ψ e a2 h2 ∧ Wk P base L a1 h1 a2 h2) : TS P base L c a h Ψ :=
  fun N D0 β0 κ0 w0 w a' Q hf hb hq => ht N D0 β0 κ0 w0 w a' Q hf hb fun e a1 h1 a1' w1 h1' hf' hb' =>
    let ⟨_, _, h2', hw⟩ := hp e a1 h1 h1'
    hq _ _ _ _ _ h2' (hw _ _ _ _ _ _ hf') hb'

theorem TS.mono (ht : TS P base L c a h Φ) (hp : ∀ e a1 h1, Φ e a1 h1 → Ψ e a1 h1) : TS P base L c a h Ψ :=
  ht.post fun e a1 h1 hx => ⟨a1, h1, hp e a1 h1 hx, Wk.refl⟩

theorem Fits.out {N : Nat} {D0 D : Nat → Prop} {β0 β β' : Nat → Nat × Nat} {κ0 κ κ' : Nat → Nat} {a' a1' : Act} {w w' : World} (hf : Fit P base N L D0 β0 κ0 a h a' w D β κ)
    (hO : Out P D β κ base N h w h1 w' β' κ') (hA : ActR (Up D h h1) β' κ' a1 a1') : Fits P base N L D0 β0 κ0 a1 h1 a1' w' :=
  ⟨Up D h h1, β', κ', hO.known hf.dom, Nat.le_trans hf.bl hO.le, Nat.le_trans hf.ll hO.le, hO.rel, hA, fun i hi => by
    have e1 := hf.ext i hi
    have e2 := hO.ext i (Nat.lt_of_lt_of_le hi hf.ll)
    exact ⟨⟨fun hd => hd.elim e1.1.1 (fun hn => by have := hn.1; have := hf.ll; omega), fun hd => .inl (e1.1.2 hd)⟩, e2.1.trans e1.2.1, e2.2.trans e1.2.2⟩⟩

/-- Out of one run of the clean interpreter. -/
theorem TS.of_sim {m : Nat} (hs : CodeSim P m none base c a h e a1 h1) (hp : Φ e a1 h1) : TS P base L c a h Φ := by
  rintro N D0 β0 κ0 w0 w a' Q ⟨D, β, κ, hf⟩ hb hq
  refine CodeWp.wp (hs D β κ N w a' none Q hf.dom hf.bl hf.rel hf.act (.inl ⟨rfl, rfl⟩) fun β' κ' w' a1' hO hA => ?_)
  exact hq _ _ _ _ _ hp (Fits.out hf hO hA) (hb.trans hO.below)

theorem TS.skip (hp : Φ .normal a h) : TS P base L .skip a h Φ := fun _ _ _ _ _ _ _ _ hf hb hq => wpIn_skip (hq _ _ _ _ _ hp hf hb)
theorem TS.exit {id : Nat} (hp : Φ (.exit id) a h) : TS P base L (.exit id) a h Φ := fun _ _ _ _ _ _ _ _ hf hb hq => wpIn_exit (hq _ _ _ _ _ hp hf hb)
theorem TS.ret (hp : Φ .ret a h) : TS P base L .ret a h Φ := fun _ _ _ _ _ _ _ _ hf hb hq => wpIn_ret (hq _ _ _ _ _ hp hf hb)

/-- What is behind a piece of code. -/
inductive Fr where
  | sq (y : Code)
  | bk (id : Nat)
  | sc

def NX (P : Program) (base L : Nat) : List Fr → Post → Post
  | [], Φ, e, a, h => Φ e a h
  | .sq y :: K, Φ, .normal, a, h => TS P base L y a h (NX P base L K Φ)
  | .sq _ :: K, Φ, e, a, h => NX P base L K Φ e a h
  | .bk id :: K, Φ, .exit i, a, h => if i = id then NX P base L K Φ .normal a h else NX P base L K Φ (.exit i) a h
  | .bk _ :: K, Φ, e, a, h => NX P base L K Φ e a h
  | .sc :: _, _, .goto _, _, _ => False
  | .sc :: K, Φ, e, a, h => NX P base L K Φ e a h

variable {K : List Fr}

theorem TS.start (ht : TS P base L c a h (NX P base L [] Φ)) : TS P base L c a h Φ := ht

theorem TS.seq (ht : TS P base L x a h (NX P base L (.sq y :: K) Φ)) : TS P base L (.seq x y) a h (NX P base L K Φ) := by
  intro N D0 β0 κ0 w0 w a' Q hf hb hq
  refine wpIn_seq (ht N D0 β0 κ0 w0 w a' _ hf hb fun e a1 h1 a1' w1 hp hf1 hb1 => ?_)
  cases e with
  | normal => exact (show TS P base L y a1 h1 (NX P base L K Φ) from hp) N D0 β0 κ0 w0 w1 a1' Q hf1 hb1 hq
  | _ => exact hq _ _ _ _ _ (show NX P base L K Φ _ a1 h1 from hp) hf1 hb1

theorem TS.block {id : Nat} (ht : TS P base L c a h (NX P base L (.bk id :: K) Φ)) : TS P base L (.block id c) a h (NX P base L K Φ) := by
  intro N D0 β0 κ0 w0 w a' Q hf hb hq
  refine wpIn_block (ht N D0 β0 κ0 w0 w a' _ hf hb fun e a1 h1 a1' w1 hp hf1 hb1 => ?_)
  cases e with
  | exit i =>
    have hp : (if i = id then NX P base L K Φ .normal a1 h1 else NX P base L K Φ (.exit i) a1 h1) := hp
    simp only [Exit.inBlock]
    split
    · rename_i hi; rw [if_pos hi] at hp; exact hq _ _ _ _ _ hp hf1 hb1
    · rename_i hi; rw [if_neg hi] at hp; exact hq _ _ _ _ _ hp hf1 hb1
  | _ => exact hq _ _ _ _ _ (show NX P base L K Φ _ a1 h1 from hp) hf1 hb1

theorem TS.scope (ht : TS P base L c a h (NX P base L (.sc :: K) Φ)) : TS P base L (.scope c) a h (NX P base L K Φ) := by
  intro N D0 β0 κ0 w0 w a' Q hf hb hq
  refine wpIn_scope (ht N D0 β0 κ0 w0 w a' _ hf hb fun e a1 h1 a1' w1 hp hf1 hb1 => ?_)
  cases e with
  | goto l => exact (show False from hp).elim
  | _ => exact hq _ _ _ _ _ (show NX P base L K Φ _ a1 h1 from hp) hf1 hb1

theorem TS.label {l : Nat} (hp : Φ .normal a h) : TS P base L (.label l) a h Φ := fun _ _ _ _ _ _ _ _ hf hb hq => wpIn_label (hq _ _ _ _ _ hp hf hb)

theorem TS.cond {o : Operand} {b : Bool} (hc : a.eval o = .bool b) (ht : b = true → TS P base L x a h Φ) (hf : b = false → TS P base L y a h Φ) : TS P base L (.cond o x y) a h Φ := by
  rintro N D0 β0 κ0 w0 w a' Q ⟨D, β, κ, hfit⟩ hb hq
  have hv := hfit.act.eval o
  rw [hc] at hv
  have : a'.eval o = .bool b := by
    generalize a'.eval o = z at hv
    cases hv; rfl
  exact wpIn_cond_split this (fun e => ht e N D0 β0 κ0 w0 w a' Q ⟨D, β, κ, hfit⟩ hb hq) (fun e => hf e N D0 β0 κ0 w0 w a' Q ⟨D, β, κ, hfit⟩ hb hq)

theorem roundsIn_more {F : Fence} {n : Nat} {P : Program} {c : Code} {Q : Exit → Act → World → Prop} : ∀ {m m' : Nat} {a : Act} {w : World}, m ≤ m' → Code.roundsIn F n P c Q m a w → Code.roundsIn F n P c Q m' a w
  | 0, _, _, _, _, h => h.elim
  | m + 1, 0, _, _, hm, _ => by omega
  | m + 1, m' + 1, a, w, hm, h => by
    rw [roundsIn_succ] at h ⊢
    refine wpIn_mono h fun e a1 w1 hq => ?_
    cases e with
    | normal => exact roundsIn_more (Nat.le_of_succ_le_succ hm) hq
    | _ => exact hq

/-- A loop: n: what becomes less with each round. -/
theorem TS.loop (I : Nat → CAct → List Blk → Prop)
    (hr : ∀ n a h, I n a h → TS P base L c a h fun e a1 h1 => match e with | .normal => ∃ n' a2 h2, n' < n ∧ I n' a2 h2 ∧ Wk P base L a1 h1 a2 h2 | e => Φ e a1 h1) :
    ∀ {n : Nat} {a : CAct} {h : List Blk}, I n a h → TS P base L (.loop c) a h Φ := by
  have key : ∀ m n a h, n < m → I n a h → ∀ (N : Nat) (D0 : Nat → Prop) (β0 : Nat → Nat × Nat) (κ0 : Nat → Nat) (w0 w : World) (a' : Act) (Q : Exit → Act → World → Prop),
      Fits P base N L D0 β0 κ0 a h a' w → Below N w0 w → (∀ e a1 h1 a1' w1, Φ e a1 h1 → Fits P base N L D0 β0 κ0 a1 h1 a1' w1 → Below N w0 w1 → Q e a1' w1) → Code.roundsIn (FW none) 0 P c Q m a' w := by
    intro m
    induction m with
    | zero => intro n a h hn; omega
    | succ m ih =>
      intro n a h hn hi N D0 β0 κ0 w0 w a' Q hf hb hq
      rw [roundsIn_succ]
      refine hr n a h hi N D0 β0 κ0 w0 w a' _ hf hb fun e a1 h1 a1' w1 hp hf1 hb1 => ?_
      cases e with
      | normal =>
        obtain ⟨n', a2, h2, hn', hi', hw⟩ := hp
        exact ih n' a2 h2 (by omega) hi' N D0 β0 κ0 w0 w1 a1' Q (hw _ _ _ _ _ _ hf1) hb1 hq
      | _ => exact hq _ _ _ _ _ hp hf1 hb1
  intro n a h hi N D0 β0 κ0 w0 w a' Q hf hb hq
  exact wpIn_loop_rounds (n + 1) (key (n + 1) n a h (Nat.lt_succ_self n) hi N D0 β0 κ0 w0 w a' Q hf hb hq)
end
end Go.Cl
