/- Rules by which a program prints proofs: code by its place, regions step by step. -/
import Derived.Test.YtiaippkjgmccoaaTs3
set_option linter.unusedVariables false
namespace Go
/-! ### Places in code -/
def Code.s1 : Code → Code | .seq a _ => a | c => c
def Code.s2 : Code → Code | .seq _ b => b | c => c
def Code.bd : Code → Code | .block _ c => c | .loop c => c | .scope c => c | c => c
def Code.th : Code → Code | .cond _ a _ => a | c => c
def Code.el : Code → Code | .cond _ _ b => b | c => c
def Code.rops : Code → Array Oper | .region _ o _ => o | _ => #[]
def Func.code (f : Func) : Code := match f.body with | some c => c | none => .skip
end Go
namespace Go.Cl
open Go Go.RowKit

section
variable {P : Program} {base L : Nat} {c x y : Code} {a a1 a2 : CAct} {h h1 h2 new : List Blk} {Φ : Post} {K : List Fr} {ops : Array Oper} {j : Nat} {Ψ : CAct → List Blk → Prop} {q : QRes} {v : Value}

/-! ### Code -/
theorem TS.seq' (hc : c = .seq x y) (ht : TS P base L x a h (NX P base L (.sq y :: K) Φ)) : TS P base L c a h (NX P base L K Φ) := hc ▸ TS.seq ht
theorem TS.block' {id : Nat} (hc : c = .block id x) (ht : TS P base L x a h (NX P base L (.bk id :: K) Φ)) : TS P base L c a h (NX P base L K Φ) := hc ▸ TS.block ht
theorem TS.cond' {o : Operand} {b : Bool} (hc : c = .cond o x y) (hv : a.eval o = .bool b) (ht : b = true → TS P base L x a h Φ) (hf : b = false → TS P base L y a h Φ) : TS P base L c a h Φ := hc ▸ TS.cond hv ht hf
theorem TS.condT' {o : Operand} (hc : c = .cond o x y) (hv : a.eval o = .bool true) (ht : TS P base L x a h Φ) : TS P base L c a h Φ := hc ▸ TS.cond hv (fun _ => ht) (fun h => by cases h)
theorem TS.condF' {o : Operand} (hc : c = .cond o x y) (hv : a.eval o = .bool false) (ht : TS P base L y a h Φ) : TS P base L c a h Φ := hc ▸ TS.cond hv (fun h => by cases h) (fun _ => ht)
theorem TS.skip' (hc : c = .skip) (hp : Φ .normal a h) : TS P base L c a h Φ := hc ▸ TS.skip hp
theorem TS.ret' (hc : c = .ret) (hp : Φ .ret a h) : TS P base L c a h Φ := hc ▸ TS.ret hp
theorem TS.exit' {id : Nat} (hc : c = .exit id) (hp : Φ (.exit id) a h) : TS P base L c a h Φ := hc ▸ TS.exit hp

theorem TS.scope' (hc : c = .scope x) (ht : TS P base L x a h (NX P base L (.sc :: K) Φ)) : TS P base L c a h (NX P base L K Φ) := hc ▸ TS.scope ht
theorem TS.label' {l : Nat} (hc : c = .label l) (hp : Φ .normal a h) : TS P base L c a h Φ := hc ▸ TS.label hp
theorem NX.scN (ht : NX P base L K Φ .normal a h) : NX P base L (.sc :: K) Φ .normal a h := ht
theorem NX.scR (ht : NX P base L K Φ .ret a h) : NX P base L (.sc :: K) Φ .ret a h := ht
theorem NX.scX {i : Nat} (ht : NX P base L K Φ (.exit i) a h) : NX P base L (.sc :: K) Φ (.exit i) a h := ht
theorem NX.sq (ht : TS P base L y a h (NX P base L K Φ)) : NX P base L (.sq y :: K) Φ .normal a h := ht
theorem NX.bk {id : Nat} (ht : NX P base L K Φ .normal a h) : NX P base L (.bk id :: K) Φ .normal a h := ht
theorem NX.sqR (ht : NX P base L K Φ .ret a h) : NX P base L (.sq y :: K) Φ .ret a h := ht
theorem NX.bkR {id : Nat} (ht : NX P base L K Φ .ret a h) : NX P base L (.bk id :: K) Φ .ret a h := ht
theorem NX.sqX {i : Nat} (ht : NX P base L K Φ (.exit i) a h) : NX P base L (.sq y :: K) Φ (.exit i) a h := ht
theorem NX.bkX {i : Nat} (ht : NX P base L K Φ .normal a h) : NX P base L (.bk i :: K) Φ (.exit i) a h := by
  show (if i = i then _ else _); rw [if_pos rfl]; exact ht
theorem NX.bkY {i id : Nat} (hi : (i == id) = false) (ht : NX P base L K Φ (.exit i) a h) : NX P base L (.bk id :: K) Φ (.exit i) a h := by
  show (if i = id then _ else _); rw [if_neg (by simpa using hi)]; exact ht

/-! ### A loop, unfolded -/

def LoopWp (P : Program) (c : Code) (Q : Exit → Act → World → Prop) (a : Act) (w : World) : Prop :=
  ∀ (b : Frame) (k : List Item) (cs : List Frame), b.roundOf = (FW none).round → (FW none).fn b.fn → (FW none).room (cs.length + 1 + 0) →
    ∃ e a' w', Q e a' w' ∧ ArrivesIn (Machine.fenced P (FW none)) P (lone (b.atR a (.code c :: .inLoop c :: k)) cs w) b k cs e a' w'

theorem LoopWp.wp {Q : Exit → Act → World → Prop} {a : Act} {w : World} (h : LoopWp P c Q a w) : (Code.loop c).wpIn (FW none) 0 P Q a w := by
  intro b k cs hro hb hr
  obtain ⟨e, a', w', hq, harr⟩ := h b k cs hro hb hr
  exact ⟨e, a', w', hq, .of_steps (.one (fenced_calm hb hr rfl) stepR_loop) harr⟩

theorem LoopWp.round {Q : Exit → Act → World → Prop} {a : Act} {w : World} (h : c.wpIn (FW none) 0 P (Exit.then (LoopWp P c Q) Q) a w) : LoopWp P c Q a w := by
  intro b k cs hro hb hr
  obtain ⟨e, a₁, w₁, hq, harr⟩ := h b (.inLoop c :: k) cs hro hb hr
  cases e with
  | normal =>
    obtain ⟨e₂, a₂, w₂, hq₂, harr₂⟩ := hq b k cs hro hb hr
    exact ⟨e₂, a₂, w₂, hq₂, .of_steps (StepsIn.trans harr (.one (fenced_calm hb hr rfl) stepR_inLoop)) harr₂⟩
  | exit id => exact ⟨_, a₁, w₁, hq, .pass (x := .inLoop c) rfl (fun _ _ => .inl (by simp)) harr⟩
  | goto l => exact ⟨_, a₁, w₁, hq, .pass (x := .inLoop c) rfl (fun _ _ => .inl (by simp)) harr⟩
  | ret => exact ⟨_, a₁, w₁, hq, .pass (x := .inLoop c) rfl (fun _ _ => .inl (by simp)) harr⟩
  | panic ch => exact ⟨_, a₁, w₁, hq, .pass (x := .inLoop c) rfl (fun _ _ => .inl (by simp)) harr⟩
  | outgrown => exact ⟨_, a₁, w₁, hq, .pass (x := .inLoop c) rfl (fun _ _ => .inl (by simp)) harr⟩

/-- Where a loop's round begins. -/
def TL (P : Program) (base L : Nat) (c : Code) (a : CAct) (h : List Blk) (Φ : Post) : Prop :=
  ∀ (N : Nat) (D0 : Nat → Prop) (β0 : Nat → Nat × Nat) (κ0 : Nat → Nat) (w0 w : World) (a' : Act) (Q : Exit → Act → World → Prop),
    Fits P base N L D0 β0 κ0 a h a' w → Below N w0 w →
    (∀ e a1 h1 a1' w1, Φ e a1 h1 → Fits P base N L D0 β0 κ0 a1 h1 a1' w1 → Below N w0 w1 → Q e a1' w1) → LoopWp P c Q a' w

/-- What a round may come to: another round, or an end. -/
def Rd (P : Program) (base L : Nat) (c : Code) (Φ : Post) : Post := fun e a h => match e with | .normal => TL P base L c a h Φ | e => Φ e a h

theorem TL.round (ht : TS P base L c a h (NX P base L [] (Rd P base L c Φ))) : TL P base L c a h Φ := by
  intro N D0 β0 κ0 w0 w a' Q hf hb hq
  refine LoopWp.round (ht N D0 β0 κ0 w0 w a' _ hf hb fun e a1 h1 a1' w1 hp hf1 hb1 => ?_)
  cases e with
  | normal => exact (show TL P base L c a1 h1 Φ from hp) N D0 β0 κ0 w0 w1 a1' Q hf1 hb1 hq
  | _ => exact hq _ _ _ _ _ (show Φ _ a1 h1 from hp) hf1 hb1
theorem TL.weak (hw : Wk P base L a h a2 h2) (ht : TL P base L c a2 h2 Φ) : TL P base L c a h Φ :=
  fun N D0 β0 κ0 w0 w a' Q hf hb hq => ht N D0 β0 κ0 w0 w a' Q (hw _ _ _ _ _ _ hf) hb hq
theorem TL.mono {Ψ : Post} (ht : TL P base L c a h Φ) (hp : ∀ e a h, Φ e a h → Ψ e a h) : TL P base L c a h Ψ :=
  fun N D0 β0 κ0 w0 w a' Q hf hb hq => ht N D0 β0 κ0 w0 w a' Q hf hb fun e a1 h1 a1' w1 h' => hq e a1 h1 a1' w1 (hp _ _ _ h')
theorem TS.loop' (hc : c = .loop x) (ht : TL P base L x a h Φ) : TS P base L c a h Φ :=
  hc ▸ fun N D0 β0 κ0 w0 w a' Q hf hb hq => LoopWp.wp (ht N D0 β0 κ0 w0 w a' Q hf hb hq)
theorem Rd.again (hw : Wk P base L a h a2 h2) (ht : TL P base L c a2 h2 Φ) : NX P base L [] (Rd P base L c Φ) .normal a h := TL.weak hw ht
theorem Rd.out {e : Exit} (he : e ≠ .normal) (ht : Φ e a h) : NX P base L [] (Rd P base L c Φ) e a h := by
  cases e <;> first | exact absurd rfl he | exact ht

/-! ### Regions -/

def TI (P : Program) (base L : Nat) (ops : Array Oper) (j : Nat) (a : CAct) (h : List Blk) (Ψ : CAct → List Blk → Prop) : Prop := TO P base L ops (ops.toList.drop j) a h Ψ

theorem TS.region' {id : Nat} {b : Bool} (hc : c = .region id ops b) (hb : b = false) (ht : TI P base L ops 0 a h (NX P base L K Φ .normal)) : TS P base L c a h (NX P base L K Φ) := by
  subst hc hb
  exact TS.region (by simpa [TI] using ht)

/-- k operations from the j-th one on, none of which calls a function. -/
noncomputable def runK (P : Program) (base : Nat) (ops : Array Oper) (j k : Nat) (a : CAct) (h : List Blk) : Option (CAct × List Blk) :=
  seqOps (E0 P) Rec.none base ops.toList ((ops.toList.drop j).take k) a h

theorem TO.many {l m : List Oper} (hs : seqOps (E0 P) Rec.none base ops.toList l a h = some (a1, h1)) (ht : TO P base L ops m a1 h1 Ψ) : TO P base L ops (l ++ m) a h Ψ := by
  induction l generalizing a h with
  | nil => cases hs; exact ht
  | cons o l ih =>
    unfold seqOps at hs
    split at hs
    · rename_i hw
      split at hs
      · split at hs
        · rename_i v h' hio
          exfalso
          unfold iOp at hio
          split at hio
          · unfold iCall at hio
            split at hio
            · split at hio
              · cases hio
              · cases hio
            · split at hio
              · unfold cYield at hio
                split at hio
                · split at hio
                  · split at hio
                    · rename_i hc; cases hc
                    · cases hio
                  · cases hio
                · cases hio
              · cases hio
            · cases hio
          · cases hio
        · cases hs
      · split at hs
        · rename_i q hq
          rw [applyK_eq, putK_eq] at hs
          exact TO.step hw hq (ih hs)
        · cases hs
    · rename_i hw
      rw [putK_eq] at hs
      exact TO.pass hw (ih hs)
    · cases hs

theorem TI.bulk (k : Nat) (hs : runK P base ops j k a h = some (a1, h1)) (ht : TI P base L ops (j + k) a1 h1 Ψ) : TI P base L ops j a h Ψ := by
  unfold TI at ht ⊢
  rw [← List.take_append_drop k (ops.toList.drop j), List.drop_drop]
  exact TO.many hs ht
theorem TI.done (hj : (ops.toList.drop j).isEmpty = true) (hp : Ψ a h) : TI P base L ops j a h Ψ := by
  unfold TI
  rw [List.isEmpty_iff.1 hj]
  exact TO.nil hp
theorem TI.weak (hw : Wk P base L a h a2 h2) (ht : TI P base L ops j a2 h2 Ψ) : TI P base L ops j a h Ψ := TO.weak hw ht

/-- What the j-th operation comes to, if it calls no function. -/
noncomputable def qAt (P : Program) (base : Nat) (ops : Array Oper) (j : Nat) (a : CAct) (h : List Blk) : Option QRes :=
  match ops.toList[j]? with
  | some o => match cWanted ops.toList a o with
    | some true => qOp (E0 P) Rec.none base h h.length a.eval o
    | _ => none
  | none => none
noncomputable def putAt (ops : Array Oper) (j : Nat) (a : CAct) (v : Value) : CAct :=
  match ops.toList[j]? with
  | some o => a.put o.dst v
  | none => a
/-- Which function the j-th operation calls. -/
noncomputable def callAt (ops : Array Oper) (j : Nat) (a : CAct) : Option (FuncId × List Value) :=
  match ops.toList[j]? with
  | some o => match cWanted ops.toList a o with
    | some true => match o.op with
      | .call ⟨.value f, args, _⟩ => match a.eval f with
        | .func (.func g) first captured => some (g, first.toList ++ args.toList.map a.eval ++ captured.toList)
        | _ => none
      | _ => none
    | _ => none
  | none => none

theorem drop_at {α : Type} {l : List α} {j : Nat} {o : α} (h : l[j]? = some o) : l.drop j = o :: l.drop (j + 1) := by
  obtain ⟨hj, rfl⟩ := List.getElem?_eq_some_iff.1 h
  exact List.drop_eq_getElem_cons hj

theorem TI.one (hq : qAt P base ops j a h = some q) (ha : putAt ops j a q.val = a1) (hh : q.heap h = h1) (ht : TI P base L ops (j + 1) a1 h1 Ψ) : TI P base L ops j a h Ψ := by
  unfold qAt at hq
  split at hq
  · rename_i o ho
    split at hq
    · rename_i hw
      unfold TI at ht ⊢
      rw [drop_at ho]
      refine TO.step hw hq ?_
      have : putAt ops j a q.val = a.put o.dst q.val := by simp only [putAt, ho]
      rw [← this, ha, hh]
      exact ht
    · cases hq
  · cases hq

theorem TI.call {g : FuncId} {args : List Value} (hc : callAt ops j a = some (g, args)) (hP : PureSim P g args h v new) (ha : putAt ops j a v = a1) (hh : h ++ new = h1) (ht : TI P base L ops (j + 1) a1 h1 Ψ) :
    TI P base L ops j a h Ψ := by
  unfold callAt at hc
  split at hc
  · rename_i o ho
    split at hc
    · rename_i hw
      split at hc
      · rename_i f cargs ts hop
        split at hc
        · rename_i g' first captured hf
          cases hc
          unfold TI at ht ⊢
          rw [drop_at ho]
          refine TO.call hw hop hf hP ?_
          have : putAt ops j a v = a.put o.dst v := by simp only [putAt, ho]
          rw [← this, ha, hh]
          exact ht
        · cases hc
      · cases hc
    · cases hc
  · cases hc

theorem TI.icall {g : FuncId} {args : List Value} (hc : callAt ops j a = some (g, args)) (hP : ImpSim P g args base h v h1) (ha : putAt ops j a v = a1) (ht : TI P base L ops (j + 1) a1 h1 Ψ) :
    TI P base L ops j a h Ψ := by
  unfold callAt at hc
  split at hc
  · rename_i o ho
    split at hc
    · rename_i hw
      split at hc
      · rename_i f cargs ts hop
        split at hc
        · rename_i g' first captured hf
          cases hc
          unfold TI at ht ⊢
          rw [drop_at ho]
          refine TO.icall hw hop hf hP ?_
          have : putAt ops j a v = a.put o.dst v := by simp only [putAt, ho]
          rw [← this, ha]
          exact ht
        · cases hc
      · cases hc
    · cases hc
  · cases hc
end

/-! ### Conditions on the way -/
theorem qif {α : Type} {x : Option α} {c : Prop} [Decidable c] {q : α} (h : x = if c then some q else none) (hc : c) : x = some q := by rw [h, if_pos hc]
theorem qifn {α : Type} {x : Option α} {c : Prop} [Decidable c] {q : α} (h : x = if c then none else some q) (hc : ¬ c) : x = some q := by rw [h, if_neg hc]
theorem of_guard {α : Type} {c : Prop} [Decidable c] {a : Option α} {r : α} (h : (if c then a else none) = some r) : c ∧ a = some r := by
  split at h
  · exact ⟨‹_›, h⟩
  · cases h
theorem of_guardn {α : Type} {c : Prop} [Decidable c] {a : Option α} {r : α} (h : (if c then none else a) = some r) : ¬ c ∧ a = some r := by
  split at h
  · cases h
  · exact ⟨‹_›, h⟩
theorem of_pos {α : Type} {b : Bool} {x y : Option α} {r : α} (h : (if b then x else y) = some r) (hb : b = true) : x = some r := by rw [if_pos hb] at h; exact h
theorem of_neg {α : Type} {b : Bool} {x y : Option α} {r : α} (h : (if b then x else y) = some r) (hb : b = false) : y = some r := by rw [if_neg (by simp [hb])] at h; exact h
theorem of_bind {α γ : Type} {x : Option α} {k : α → Option γ} {r : γ} (h : x.bind k = some r) : ∃ a, x = some a ∧ k a = some r := Option.bind_eq_some_iff.1 h
end Go.Cl
