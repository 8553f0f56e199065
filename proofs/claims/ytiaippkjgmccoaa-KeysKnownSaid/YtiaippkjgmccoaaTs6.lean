/- Regions that draw their order, step by step. -/
import Derived.Test.YtiaippkjgmccoaaTs5
set_option linter.unusedVariables false
namespace Go.Cl
open Go Go.RowKit

open Classical in
/-- What calls come to, by a list. -/
noncomputable def lookC : List Entry → FuncId → List Value → List Blk → Option (Value × List Blk)
  | [], _, _, _ => none
  | e :: T, g, args, h => if e.g = g ∧ e.args = args ∧ e.h = h then some (e.v, e.new) else lookC T g args h

theorem lookC_sound {P : Program} : ∀ {T : List Entry} {g : FuncId} {args : List Value} {h : List Blk} {v : Value} {new : List Blk}, (∀ e ∈ T, PureSim P e.g e.args e.h e.v e.new) → lookC T g args h = some (v, new) → PureSim P g args h v new
  | [], _, _, _, _, _, _, hc => by cases hc
  | e :: T, g, args, h, v, new, hT, hc => by
    unfold lookC at hc
    split at hc
    · rename_i he
      obtain ⟨rfl, rfl, rfl⟩ := he
      cases hc
      exact hT e List.mem_cons_self
    · exact lookC_sound (fun e he => hT e (List.mem_cons_of_mem _ he)) hc

/-- The environment that knows the calls of a list. -/
noncomputable def orc (P : Program) (T : List Entry) : Env := { P := P, sum := fun g => some fun args h => lookC T g args h, imp := fun _ => true }
theorem orc_ok {P : Program} {T : List Entry} (hT : ∀ e ∈ T, PureSim P e.g e.args e.h e.v e.new) : SumOk (orc P T) := by
  refine SumOk.of rfl fun g s args h v new hs hv => ?_
  cases hs
  exact lookC_sound hT hv

theorem lookC_hit {T : List Entry} {e : Entry} : lookC (e :: T) e.g e.args e.h = some (e.v, e.new) := by simp [lookC]
theorem lookC_skip {T : List Entry} {e : Entry} {g : FuncId} {args : List Value} {h : List Blk} {r : Value × List Blk} (hne : e.g = g → e.args = args → e.h = h → (e.v, e.new) = r) (ht : lookC T g args h = some r) : lookC (e :: T) g args h = some r := by
  unfold lookC
  split
  · rename_i he
    rw [hne he.1 he.2.1 he.2.2]
  · exact ht

theorem none_sound' (E : Env) (m : Nat) : Sound E m Rec.none := none_sound E m

section
variable {P : Program} {base L : Nat} {c y : Code} {a a1 a2 : CAct} {h h1 h2 new : List Blk} {Φ : Post} {K : List Fr} {ops : Array Oper} {j : Nat} {q : QRes} {v : Value} {T : List Entry} {s s1 fin fin2 : QSt} {us : List (Nat × Nat)}

/-- The quiet part of such a region: from the j-th operation on, up to the n-th one. -/
def QI (P : Program) (T : List Entry) (base : Nat) (ops : Array Oper) (us : List (Nat × Nat)) (n j : Nat) (s fin : QSt) : Prop :=
  quietOps (orc P T) Rec.none base ops.toList (Region.before ops).toList us ((ops.toList.take n).drop j) j s = some fin
/-- Its tail. -/
def SI (P : Program) (T : List Entry) (base : Nat) (ops : Array Oper) (j : Nat) (a : CAct) (h : List Blk) (a1 : CAct) (h1 : List Blk) : Prop :=
  seqOps (orc P T) Rec.none base ops.toList (ops.toList.drop j) a h = some (a1, h1)

noncomputable def runQ (P : Program) (T : List Entry) (base : Nat) (ops : Array Oper) (us : List (Nat × Nat)) (n j k : Nat) (s : QSt) : Option QSt :=
  quietOps (orc P T) Rec.none base ops.toList (Region.before ops).toList us (((ops.toList.take n).drop j).take k) j s
noncomputable def runS (P : Program) (T : List Entry) (base : Nat) (ops : Array Oper) (j k : Nat) (a : CAct) (h : List Blk) : Option (CAct × List Blk) :=
  seqOps (orc P T) Rec.none base ops.toList ((ops.toList.drop j).take k) a h

theorem quiet_app {E : Env} {r : Rec} {ops : List Oper} {bf : List Nat} {us : List (Nat × Nat)} {m : List Oper} : ∀ {l : List Oper} {j : Nat} {s s1 fin : QSt}, quietOps E r base ops bf us l j s = some s1 → quietOps E r base ops bf us m (j + l.length) s1 = some fin → quietOps E r base ops bf us (l ++ m) j s = some fin
  | [], j, s, s1, fin, h, k => by cases h; simpa using k
  | o :: l, j, s, s1, fin, h, k => by
    rw [List.cons_append]
    unfold quietOps at h ⊢
    split at h
    · split at h
      · rename_i q hq
        rw [applyK_eq, putK_eq] at h ⊢
        exact quiet_app h (by simpa [Nat.add_assoc, Nat.add_comm 1] using k)
      · cases h
    · rw [putK_eq] at h ⊢
      exact quiet_app h (by simpa [Nat.add_assoc, Nat.add_comm 1] using k)
    · cases h

theorem seq_app {E : Env} {r : Rec} {ops : List Oper} {m : List Oper} {R : CAct × List Blk} : ∀ {l : List Oper} {a a1 : CAct} {h h1 : List Blk}, seqOps E r base ops l a h = some (a1, h1) → seqOps E r base ops m a1 h1 = some R → seqOps E r base ops (l ++ m) a h = some R
  | [], a, a1, h, h1, x, k => by cases x; exact k
  | o :: l, a, a1, h, h1, x, k => by
    rw [List.cons_append]
    unfold seqOps at x ⊢
    split at x
    · split at x
      · rename_i hi
        rw [if_pos hi]
        split at x
        · rw [putK_eq] at x ⊢
          exact seq_app x k
        · cases x
      · rename_i hi
        rw [if_neg hi]
        split at x
        · rw [applyK_eq, putK_eq] at x ⊢
          exact seq_app x k
        · cases x
    · rw [putK_eq] at x ⊢
      exact seq_app x k
    · cases x

theorem QI.run {n : Nat} (k : Nat) (hk : (((ops.toList.take n).drop j).take k).length = k) (hs : runQ P T base ops us n j k s = some s1) (ht : QI P T base ops us n (j + k) s1 fin) : QI P T base ops us n j s fin := by
  unfold QI at ht ⊢
  rw [← List.take_append_drop k ((ops.toList.take n).drop j), List.drop_drop]
  exact quiet_app hs (by rw [hk]; exact ht)
theorem QI.done {n : Nat} (hj : ((ops.toList.take n).drop j).isEmpty = true) : QI P T base ops us n j s s := by
  unfold QI
  rw [List.isEmpty_iff.1 hj]
  rfl

/-- What the j-th operation comes to. -/
noncomputable def qOf (P : Program) (T : List Entry) (base : Nat) (ops : Array Oper) (j : Nat) (a : CAct) (h : List Blk) (n : Nat) : Option QRes :=
  match ops.toList[j]? with
  | some o => match cWanted ops.toList a o with
    | some true => qOp (orc P T) Rec.none base h n a.eval o
    | _ => none
  | none => none

noncomputable def nextQ (ops : Array Oper) (j : Nat) (s : QSt) (q : QRes) : QSt :=
  { act := putAt ops j s.act q.val, heap := q.heap s.heap,
    own := if q.new.isEmpty then s.own else (j, s.heap.length, s.heap.length + q.new.length) :: s.own,
    upds := match q.upd with | some (k, _) => (j, k) :: s.upds | none => s.upds }

theorem take_drop_at {α : Type} {l : List α} {n j : Nat} {o : α} (hn : j < n) (h : l[j]? = some o) : (l.take n).drop j = o :: (l.take n).drop (j + 1) := by
  refine drop_at ?_
  rw [List.getElem?_take, if_pos hn]; exact h

theorem QI.op {n : Nat} (hn : j < n) (hq : qOf P T base ops j s.act (masked (Region.before ops).toList s.own us j s.heap) s.heap.length = some q) (hs : nextQ ops j s q = s1) (ht : QI P T base ops us n (j + 1) s1 fin) : QI P T base ops us n j s fin := by
  unfold qOf at hq
  split at hq
  · rename_i o ho
    split at hq
    · rename_i hw
      unfold QI at ht ⊢
      rw [take_drop_at hn ho]
      unfold quietOps
      rw [hw]
      simp only
      rw [hq]
      simp only
      rw [applyK_eq, putK_eq]
      rw [← hs] at ht
      unfold nextQ at ht
      rw [show putAt ops j s.act q.val = s.act.put o.dst q.val from by simp only [putAt, ho]] at ht
      exact ht
    · cases hq
  · cases hq

theorem qOf_call {g : FuncId} {args : List Value} {n : Nat} (hc : callAt ops j a = some (g, args)) (hl : lookC T g args h = some (v, new)) : qOf P T base ops j a h n = some { val := v, new := new } := by
  unfold callAt at hc
  unfold qOf
  split at hc
  · rename_i o ho
    rw [ho]
    simp only
    split at hc
    · rename_i hw
      rw [hw]
      simp only
      split at hc
      · rename_i f cargs ts hop
        split at hc
        · rename_i g' first captured hf
          cases hc
          simp only [qOp, hop, hf, qCall, callQ, orc, hl, Option.map_some]
        · cases hc
      · cases hc
    · cases hc
  · cases hc

theorem SI.run (k : Nat) (hs : runS P T base ops j k a h = some (a2, h2)) (ht : SI P T base ops (j + k) a2 h2 a1 h1) : SI P T base ops j a h a1 h1 := by
  unfold SI at ht ⊢
  rw [← List.take_append_drop k (ops.toList.drop j), List.drop_drop]
  exact seq_app hs ht
theorem SI.done (hj : (ops.toList.drop j).isEmpty = true) : SI P T base ops j a h a h := by
  unfold SI
  rw [List.isEmpty_iff.1 hj]
  rfl
theorem SI.op (hi : (match ops.toList[j]? with | some o => isImpCall (orc P T) a.eval o | none => false) = false) (hq : qOf P T base ops j a h h.length = some q) (ha : putAt ops j a q.val = a2) (hh : q.heap h = h2) (ht : SI P T base ops (j + 1) a2 h2 a1 h1) : SI P T base ops j a h a1 h1 := by
  unfold qOf at hq
  split at hq
  · rename_i o ho
    rw [ho] at hi
    simp only at hi
    split at hq
    · rename_i hw
      unfold SI at ht ⊢
      rw [drop_at ho]
      unfold seqOps
      rw [hw]
      simp only
      rw [hi, hq]
      simp only [Bool.false_eq_true, if_false]
      rw [applyK_eq, putK_eq, hh]
      have : putAt ops j a q.val = a.put o.dst q.val := by simp only [putAt, ho]
      rw [← this, ha]
      exact ht
    · cases hq
  · cases hq

theorem draw_run {n : Nat} (hn : (edgesBack ops.toList 0 && quietOk ops.toList (Region.before ops).toList n && (tailFrom (Region.before ops).toList ops.size == n)) = true)
    (hq : QI P T base ops [] n 0 { act := a, heap := h } fin) (hu : fin.upds = us) (hq2 : us = [] ∧ fin2 = fin ∨ QI P T base ops us n 0 { act := a, heap := h } fin2 ∧ (fin2.upds == us) = true)
    (hs : SI P T base ops n fin2.act fin2.heap a1 h1) : codeDraw (orc P T) Rec.none base ops a h = some (.normal, a1, h1) := by
  simp only [Bool.and_eq_true, beq_iff_eq] at hn
  obtain ⟨⟨hn1, hn2⟩, hn3⟩ := hn
  have hs' : seqOps (orc P T) Rec.none base ops.toList (ops.toList.drop n) fin2.act fin2.heap = some (a1, h1) := hs
  have hq' : quietOps (orc P T) Rec.none base ops.toList (Region.before ops).toList [] (ops.toList.take n) 0 { act := a, heap := h } = some fin := hq
  unfold codeDraw
  rw [hn3, hn1, hn2]
  simp only [Bool.and_self, if_true]
  unfold drawOps
  rw [hq']
  simp only [hu]
  rcases hq2 with ⟨rfl, rfl⟩ | ⟨hq2, he⟩
  · simp only [List.isEmpty_nil, if_true, hs']
    rfl
  · by_cases hz : us.isEmpty = true
    · have : us = [] := List.isEmpty_iff.1 hz
      subst this
      have e : fin2 = fin := Option.some.inj (hq2.symm.trans hq)
      subst e
      simp only [List.isEmpty_nil, if_true, hs']
      rfl
    · have hq2' : quietOps (orc P T) Rec.none base ops.toList (Region.before ops).toList us (ops.toList.take n) 0 { act := a, heap := h } = some fin2 := hq2
      rw [if_neg hz, hq2']
      simp only [Option.bind_some, he, if_true, hs']
      rfl

/-- A region that draws its order. -/
theorem TS.draw' (T : List Entry) (hT : ∀ e ∈ T, PureSim P e.g e.args e.h e.v e.new) (hmix : P.follows .mixedOrders = true) {id : Nat} {b : Bool} (hc : c = .region id ops b) (hb : b = true) (n : Nat)
    (hn : (edgesBack ops.toList 0 && quietOk ops.toList (Region.before ops).toList n && (tailFrom (Region.before ops).toList ops.size == n)) = true)
    (us : List (Nat × Nat)) (hq : QI P T base ops [] n 0 { act := a, heap := h } fin) (hu : fin.upds = us) (hq2 : us = [] ∧ fin2 = fin ∨ QI P T base ops us n 0 { act := a, heap := h } fin2 ∧ (fin2.upds == us) = true)
    (hs : SI P T base ops n fin2.act fin2.heap a1 h1)
    (keep keepH : List Nat) (hm : mk2 keep keepH (a1, h1) = (a2, h2)) (hK : TS P base L y a2 h2 (NX P base L K Φ)) : TS P base L c a h (NX P base L (.sq y :: K) Φ) := by
  subst hc hb
  have e1 : maskA keep a1 = a2 := congrArg Prod.fst hm
  have e2 : maskH keepH 0 h1 = h2 := congrArg Prod.snd hm
  refine TS.of_sim (draw_ok (orc_ok hT) (none_sound (orc P T) 0) hmix base ops id a h .normal a1 h1 0 none (draw_run hn hq hu hq2 hs)) ?_
  refine NX.sq (TS.weak (Wk.mask keep keepH) ?_)
  rw [e1, e2]
  exact hK
theorem TS.drawE (T : List Entry) (hT : ∀ e ∈ T, PureSim P e.g e.args e.h e.v e.new) (hmix : P.follows .mixedOrders = true) {id : Nat} {b : Bool} (hc : c = .region id ops b) (hb : b = true) (n : Nat)
    (hn : (edgesBack ops.toList 0 && quietOk ops.toList (Region.before ops).toList n && (tailFrom (Region.before ops).toList ops.size == n)) = true)
    (us : List (Nat × Nat)) (hq : QI P T base ops [] n 0 { act := a, heap := h } fin) (hu : fin.upds = us) (hq2 : us = [] ∧ fin2 = fin ∨ QI P T base ops us n 0 { act := a, heap := h } fin2 ∧ (fin2.upds == us) = true)
    (hs : SI P T base ops n fin2.act fin2.heap a1 h1) (hK : NX P base L K Φ .normal a1 h1) : TS P base L c a h (NX P base L K Φ) := by
  subst hc hb
  exact TS.of_sim (draw_ok (orc_ok hT) (none_sound (orc P T) 0) hmix base ops id a h .normal a1 h1 0 none (draw_run hn hq hu hq2 hs)) hK
end
end Go.Cl
