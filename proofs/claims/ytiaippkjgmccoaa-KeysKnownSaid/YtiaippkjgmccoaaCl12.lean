/- A quiet operation, whichever: the model does what the clean interpreter does. -/
import Derived.Test.YtiaippkjgmccoaaCl11
set_option linter.unusedSimpArgs false
set_option linter.unusedVariables false
namespace Go.Cl
open Go Go.RowKit

/-- The fence of activations in which nothing is asked; ro: within which round. -/
def FW (ro : Option Nat) : Fence := { fn := fun _ => True, depth := none, alive := false, round := ro }

theorem callsIn_FW {ro : Option Nat} {n : Nat} {P : Program} {f : FuncId} {args : Array Value} {w : World} {R : Ending → World → Prop} : CallsIn (FW ro) n P f args w R ↔ Calls P f args w R :=
  (callsIn_wide (n := n))

/-- A function with a body. -/
def Enters (P : Program) (g : FuncId) : Prop := ∃ fn c, P.funcs[g]? = some fn ∧ fn.body = some c ∧ (fn.name == "runtime.NumGoroutine") = false

theorem run_callFunc {P : Program} {g : FuncId} (h : Enters P g) (args : Array Value) (w : World) : (callFunc g args).run P w = .ok (.enter g args) w := by
  obtain ⟨fn, c, h1, h2, h3⟩ := h
  simp only [beq_eq_false_iff_ne, ne_eq] at h3
  simp [callFunc, Sem.run_bind, h1, h2, h3]

/-- The answer of a function that writes nothing that came in. -/
def PureSim (P : Program) (g : FuncId) (args : List Value) (h : List Blk) (v : Value) (new : List Blk) : Prop :=
  Enters P g ∧ ∀ (D : Nat → Prop) (β : Nat → Nat × Nat) (κ : Nat → Nat) (w : World) (args' : List Value), (∀ i, D i → i < h.length) → Rel P D β κ h.length w.heap.size (toF h) w →
    LR D β κ args args' → Calls P g ⟨args'⟩ w fun e w' => ∃ v' β' κ', e = .returned v' ∧ QOut P D β κ h.length w.heap.size h.length w { val := v, new := new } v' w' β' κ'

section
variable {P : Program} {w : World} {D : Nat → Prop} {β : Nat → Nat × Nat} {κ : Nat → Nat} {base N n : Nat} {H : Nat → Blk}

theorem Below.weaken {N M : Nat} {w w' : World} (h : Below M w w') (hNM : N ≤ M) : Below N w w' := h.mono hNM

theorem Rel.outer {h : List Blk} (hR : Rel P D β κ base N (toF h) w) : Rel P D β κ h.length w.heap.size (toF h) w where
  blk := hR.blk
  ro := fun i hi _ => (hR.blk i).valid hi
  own := fun i hi hb => absurd (by simp [toF, List.getD, List.getElem?_eq_none hb]) hi
  inj := fun i j hi hj hb _ _ => absurd (by simp [toF, List.getD, List.getElem?_eq_none hb]) hi
  size := Nat.le_refl _

theorem QOut.inner {m M : Nat} {v v' : Value} {new : List Blk} {w' : World} {β' : Nat → Nat × Nat} {κ' : Nat → Nat} (h : QOut P D β κ m M n w { val := v, new := new } v' w' β' κ') (hN : N ≤ M) :
    QOut P D β κ base N n w { val := v, new := new } v' w' β' κ' where
  ext := h.ext
  val := h.val
  below := h.below.mono hN
  keep := h.keep
  new := fun j b hj hb => let ⟨a, b, c, d⟩ := h.new j b hj hb; ⟨a, b, Nat.le_trans hN c, d⟩
  inj := h.inj
  upd := fun k b h => by cases h

theorem PureSim.use {g : FuncId} {args args' : List Value} {h new : List Blk} {v : Value} (hs : PureSim P g args h v new) (hD : ∀ i, D i → i < h.length) (hR : Rel P D β κ base N (toF h) w)
    (ha : LR D β κ args args') : Calls P g ⟨args'⟩ w fun e w' => ∃ v' β' κ', e = .returned v' ∧ QOut P D β κ base N h.length w { val := v, new := new } v' w' β' κ' :=
  Calls.mono (hs.2 D β κ w args' hD hR.outer ha) fun e w' ⟨v', β', κ', he, hq⟩ => ⟨v', β', κ', he, hq.inner hR.size⟩

theorem wp_of_val {ro : Option Nat} {o : Oper} {a' : Act} {next : Act → World → Prop} {Q : Exit → Act → World → Prop} {v : Value} {w' : World} (hnd : ∀ c, o.op ≠ .defer c)
    (hrun : (execOp a'.eval o).run P w = .ok (.value v) w') (h : next (a'.put o.dst v) w') : o.wpIn (FW ro) 0 P a' w next Q :=
  ⟨fun _ _ => trivial, by rw [Oper.semAt_eq _ _ _ hnd, hrun]; exact h⟩
theorem wp_of_skip {ro : Option Nat} {o : Oper} {a' : Act} {next : Act → World → Prop} {Q : Exit → Act → World → Prop} {w' : World} (hnd : ∀ c, o.op ≠ .defer c)
    (hrun : (execOp a'.eval o).run P w = .ok .skip w') (h : next (a'.put o.dst undef) w') : o.wpIn (FW ro) 0 P a' w next Q :=
  ⟨fun _ _ => trivial, by rw [Oper.semAt_eq _ _ _ hnd, hrun]; exact h⟩
theorem wp_of_enter {ro : Option Nat} {o : Oper} {a' : Act} {next : Act → World → Prop} {Q : Exit → Act → World → Prop} {f : FuncId} {args : Array Value} {w' : World} (hnd : ∀ c, o.op ≠ .defer c)
    (hrun : (execOp a'.eval o).run P w = .ok (.enter f args) w') (h : Calls P f args w' fun e w'' => ∃ v, e = .returned v ∧ next (a'.put o.dst v) w'') : o.wpIn (FW ro) 0 P a' w next Q := by
  refine ⟨fun _ _ => trivial, ?_⟩
  rw [Oper.semAt_eq _ _ _ hnd, hrun, Oper.uponIn_enter]
  refine ⟨fun h => by simp [FW] at h, callsIn_FW.2 (Calls.mono h ?_)⟩
  rintro e w'' ⟨v, rfl, hn⟩
  exact hn

theorem LR.args {ρ ρ' : Operand → Value} (hρ : ∀ x, VR D β κ (ρ x) (ρ' x)) (l : List Operand) : LR D β κ (l.map ρ) (l.map ρ') := LR.map fun x _ => hρ x

theorem mapO {ρ' : Operand → Value} (args : Array Operand) : args.map ρ' = ⟨args.toList.map ρ'⟩ := by
  apply Array.ext'; simp

/-- A QUIET OPERATION. -/
theorem qOp_wp {E : Env} {r : Rec} {ro : Option Nat} {h : List Blk} {ρ : Operand → Value} {o : Oper} {q : QRes} {a' : Act} {next : Act → World → Prop} {Q : Exit → Act → World → Prop}
    (hcall : ∀ g args v new, callQ E r g args h = some (v, new) → PureSim E.P g args h v new)
    (hq : qOp E r base h h.length ρ o = some q) (hR : Rel E.P D β κ base N (toF h) w) (hD : ∀ i, D i → i < h.length)
    (hρ : ∀ x, VR D β κ (ρ x) (a'.eval x))
    (hnext : ∀ v' w' β' κ', QOut E.P D β κ base N h.length w q v' w' β' κ' → next (a'.put o.dst v') w') : o.wpIn (FW ro) 0 E.P a' w next Q := by
  have hn : ∀ i, D i → i ≠ h.length := fun i hi e => by have := hD i hi; omega
  have qvs : ∀ {x : Option Value}, qv x = some q → ∃ v, x = some v ∧ q = { val := v } := by
    intro x hx
    cases x with
    | none => cases hx
    | some v => exact ⟨v, rfl, (Option.some.inj hx).symm⟩
  -- three ways in which an operation runs
  have makes : ∀ {s : Sem Value}, (∀ c, o.op ≠ .defer c) → (execOp a'.eval o = do pure (.value (← s))) → (∃ v' w' β' κ', s.run E.P w = .ok v' w' ∧ QOut E.P D β κ base N h.length w q v' w' β' κ') → o.wpIn (FW ro) 0 E.P a' w next Q := by
    intro s hnd he ⟨v', w', β', κ', hs, hQ⟩
    exact wp_of_val hnd (by rw [he]; simp [Sem.run_bind, hs]) (hnext _ _ _ _ hQ)
  have skips : ∀ {s : Sem Unit}, (∀ c, o.op ≠ .defer c) → (execOp a'.eval o = do s; pure .skip) → (∃ w', s.run E.P w = .ok () w' ∧ QOut E.P D β κ base N h.length w q undef w' β κ) → o.wpIn (FW ro) 0 E.P a' w next Q := by
    intro s hnd he ⟨w', hs, hQ⟩
    exact wp_of_skip hnd (by rw [he]; simp [Sem.run_bind, hs]) (hnext _ _ _ _ hQ)
  have same : ∀ {s : Sem Value}, (∀ c, o.op ≠ .defer c) → (execOp a'.eval o = do pure (.value (← s))) → (∃ v', s.run E.P w = .ok v' w ∧ VR D β κ q.val v' ∧ q = { val := q.val }) → o.wpIn (FW ro) 0 E.P a' w next Q :=
    fun hnd he ⟨v', hs, hv, hqv⟩ => makes hnd he ⟨v', w, β, κ, hs, by rw [hqv]; exact QOut.same hv⟩
  have sameV : ∀ {s : Sem Value} {x : Option Value}, (∀ c, o.op ≠ .defer c) → (execOp a'.eval o = do pure (.value (← s))) → qv x = some q → (∀ v, x = some v → ∃ v', s.run E.P w = .ok v' w ∧ VR D β κ v v') → o.wpIn (FW ro) 0 E.P a' w next Q := by
    intro s x hnd he hx hs
    obtain ⟨v, hv, rfl⟩ := qvs hx
    obtain ⟨v', h1, h2⟩ := hs v hv
    exact same hnd he ⟨v', h1, h2, rfl⟩
  have hsize := hR.size
  cases ho : o.op
  all_goals (have hnd : ∀ c, o.op ≠ .defer c := fun c e => by rw [ho] at e; first | (cases e; done) | (cases e; simp [qOp, ho] at hq))
  all_goals (simp only [qOp, ho] at hq)
  case move x =>
    cases hq
    exact wp_of_val hnd (by simp only [execOp, ho]; rfl) (hnext _ _ _ _ (QOut.same (hρ _)))
  case assign x =>
    cases hq
    exact wp_of_val hnd (by simp only [execOp, ho]; rfl) (hnext _ _ _ _ (QOut.same (hρ _)))
  case pick c a b =>
    unfold qPick at hq
    split at hq
    · rename_i t hc
      cases hq
      have hcr := hρ c
      rw [hc] at hcr
      have hce : a'.eval c = .bool t := by
        generalize a'.eval c = cv at hcr
        cases hcr
        rfl
      refine wp_of_val (v := if t then a'.eval a else a'.eval b) hnd (by simp [execOp, ho, hce, Sem.run_bind, asBool]) (hnext _ _ _ _ (QOut.same ?_))
      cases t
      · exact hρ b
      · exact hρ a
    · cases hq
  case alloc t =>
    unfold qAlloc at hq
    split at hq
    · rename_i z hz
      split at hq
      · rename_i hf
        cases hq
        obtain ⟨β', κ', hQ⟩ := QOut.cells (P := E.P) (base := base) (t := t) (v := .pointer (some ⟨h.length, 0, none⟩)) (v' := .pointer (some ⟨w.heap.size, 0, none⟩)) hsize hn (LR.of_leaves (D := D) (β := β) (κ := κ) (flat1_cells hf))
          (fun β' κ' hβ _ => vr_newptr hβ)
        exact makes hnd (by simp only [execOp, ho]) ⟨_, _, β', κ', run_alloc hz w, hQ⟩
      · cases hq
    · cases hq
  case box t x =>
    unfold qBox at hq
    split at hq
    · rename_i hf
      cases hq
      have hp : ρ x ≠ .chan (some 0) := fun e => by rw [e] at hf; cases hf
      obtain ⟨β', κ', hQ⟩ := QOut.cells (P := E.P) (base := base) (t := t) (v := .pointer (some ⟨h.length, 0, none⟩)) (v' := .pointer (some ⟨w.heap.size, 0, none⟩)) hsize hn ((hρ x).cells hp)
        (fun β' κ' hβ _ => vr_newptr hβ)
      exact makes hnd (by simp only [execOp, ho]) ⟨_, _, β', κ', run_box t _ w, hQ⟩
    · cases hq
  case build t parts => exact sameV hnd (by simp only [execOp, ho]) hq fun v hv => build_sim hv hρ
  case buildSlice t len parts => exact makes hnd (by simp only [execOp, ho]) (buildSlice_sim hq hρ hsize hn)
  case load t a => exact sameV hnd (by simp only [execOp, ho]) hq fun v hv => load_sim hv hR (hρ a)
  case store t a x => exact skips hnd (by simp only [execOp, ho]) (store_sim hq hR (hρ a) (hρ x) (Nat.le_refl _))
  case nilCheck x =>
    have hx := hρ x
    unfold qNilCheck at hq
    split at hq
    · rename_i a hxv
      rw [hxv] at hx
      cases hq
      generalize hx' : a'.eval x = xv at hx
      cases hx with
      | ptr i o' hi => exact wp_of_val hnd (by simp [execOp, ho, hx']) (hnext _ _ _ _ (QOut.same (.ptr i o' hi)))
    · rename_i g f c hxv
      rw [hxv] at hx
      cases hq
      generalize hx' : a'.eval x = xv at hx
      have h0 := hx
      cases hx with
      | func _ f f' c c' h1 h2 h3 h4 => exact wp_of_val hnd (by simp [execOp, ho, hx']) (hnext _ _ _ _ (QOut.same h0))
    · cases hq
  case binOp op t x y z => exact same hnd (by simp only [execOp, ho]) (bin_sim hq (hρ x) (hρ y))
  case unOp op z x => exact same hnd (by simp only [execOp, ho]) (un_sim hq (hρ x))
  case convert s d x => exact same hnd (by simp only [execOp, ho]) (convert_sim hq (hρ x))
  case makeFunc fn first captured =>
    cases fn with
    | func g =>
      simp only at hq
      cases hq
      refine wp_of_val (v := .func (.func g) ⟨first.toList.map a'.eval⟩ ⟨captured.toList.map a'.eval⟩) hnd (by rw [← mapO, ← mapO]; simp [execOp, ho, Instr.makeFunc]) (hnext _ _ _ _ (QOut.same ?_))
      have h1 := LR.args hρ first.toList
      have h2 := LR.args hρ captured.toList
      exact .func g _ _ _ _ h1.len h1.at_ h2.len h2.at_
    | _ => simp at hq
  case makeMap t r =>
    cases r with
    | none => exact makes hnd (by simp only [execOp, ho, Option.map_none]) (makeMap_sim hq hsize hn)
    | some r => simp at hq
  case makeSlice t l c => exact makes hnd (by simp only [execOp, ho]) (makeSlice_sim hq (hρ l) (hρ c) hsize hn)
  case slice t x lo hi mx => exact sameV hnd (by simp only [execOp, ho]) hq fun v hv => slice_sim hv (hρ x) (OR.map hρ lo) (OR.map hρ hi) (OR.map hρ mx)
  case fieldAddr s x f => exact sameV hnd (by simp only [execOp, ho]) hq fun v hv => fieldAddr_sim hv (hρ x)
  case field t x f => exact sameV hnd (by simp only [execOp, ho]) hq fun v hv => field_sim hv (hρ x)
  case indexAddr t x ix => exact sameV hnd (by simp only [execOp, ho]) hq fun v hv => indexAddr_sim hv (hρ x) (hρ ix)
  case index t x ix => exact sameV hnd (by simp only [execOp, ho]) hq fun v hv => index_sim hv (hρ x) (hρ ix)
  case lookup t m k ok => exact sameV hnd (by simp only [execOp, ho]) hq fun v hv => lookup_sim hv hR (hρ m) (hρ k) (key_same (hρ k))
  case mapUpdate t m k x => exact skips hnd (by simp only [execOp, ho]) (mapUpdate_sim hq hR (hρ m) (key_same (hρ k)) (hρ x) (Nat.le_refl _))
  case insert t m k x => exact skips hnd (by simp only [execOp, ho]) (mapUpdate_sim hq hR (hρ m) (key_same (hρ k)) (hρ x) (Nat.le_refl _))
  case extract t ix => exact same hnd (by simp only [execOp, ho]) (extract_sim hq (hρ t))
  case call c =>
    obtain ⟨callee, cargs, ts⟩ := c
    cases callee with
    | value f =>
      simp only at hq
      have hf := hρ f
      unfold qCall at hq
      split at hq
      · rename_i g first captured hfv
        rw [hfv] at hf
        cases hcq : callQ E r g (first.toList ++ cargs.toList.map ρ ++ captured.toList) h with
        | none => rw [hcq] at hq; cases hq
        | some p =>
          obtain ⟨v, new⟩ := p
          rw [hcq] at hq
          cases hq
          have hP := hcall g _ v new hcq
          generalize hf' : a'.eval f = fv at hf
          cases hf with
          | func _ f1 f1' c1 c1' h1 h2 h3 h4 =>
            have hargs : LR D β κ (f1 ++ cargs.toList.map ρ ++ c1) (f1' ++ cargs.toList.map a'.eval ++ c1') := (LR.app ⟨h1, h2⟩ (LR.args hρ _)).app ⟨h3, h4⟩
            have hrun : (execOp a'.eval o).run E.P w = .ok (.enter g (⟨f1' ++ cargs.toList.map a'.eval ++ c1'⟩ : Array Value)) w := by
              have e1 : (⟨f1'⟩ : Array Value) ++ Array.map a'.eval cargs ++ (⟨c1'⟩ : Array Value) = ⟨f1' ++ cargs.toList.map a'.eval ++ c1'⟩ := by
                apply Array.ext'; simp
              have e2 := run_callFunc hP.1 ((⟨f1'⟩ : Array Value) ++ Array.map a'.eval cargs ++ (⟨c1'⟩ : Array Value)) w
              rw [e1] at e2
              simp only [execOp, ho, resolve, hf', Deferred.ofValue, Sem.run_bind, Sem.run_pure, Result.andThen_ok, invoke]
              rw [e1]
              exact e2
            refine wp_of_enter hnd hrun (Calls.mono (hP.use hD hR hargs) ?_)
            rintro e w'' ⟨v', β', κ', rfl, hQ⟩
            exact ⟨v', rfl, hnext _ _ _ _ hQ⟩
      · cases hq
    | builtin b =>
      simp only at hq
      have hargs := LR.args hρ cargs.toList
      have hex : ∀ s : Array Value → Sem Value, (∀ (cs : Array Bool), builtin b ts o.type cs (cargs.map a'.eval) = (do pure (.value (← s (cargs.map a'.eval))))) →
          execOp a'.eval o = (do pure (.value (← s ⟨cargs.toList.map a'.eval⟩))) := by
        intro s hs
        rw [← mapO]
        simp only [execOp, ho, resolve, invoke]
        exact hs _
      generalize hL : cargs.toList.map ρ = L at hq hargs
      generalize hL' : cargs.toList.map a'.eval = L' at hargs hex
      have hlen := hargs.len
      cases b
      case append =>
        rcases L with _ | ⟨x, _ | ⟨y, _ | ⟨z, L⟩⟩⟩ <;> try (simp [qBuiltin] at hq; done)
        obtain ⟨x', l1, rfl, hx, hl1⟩ := hargs.uncons
        obtain ⟨y', l2, rfl, hy, hl2⟩ := hl1.uncons
        cases hl2.unnil
        exact makes hnd (hex (Builtin.append_ ts o.type) fun _ => rfl) (append_sim (by simpa [qBuiltin] using hq) hR hx hy (Nat.le_refl _) hD)
      case len =>
        rcases L with _ | ⟨x, _ | ⟨y, L⟩⟩ <;> try (simp [qBuiltin] at hq; done)
        obtain ⟨x', l1, rfl, hx, hl1⟩ := hargs.uncons
        cases hl1.unnil
        exact same hnd (hex (Builtin.len_ ts o.type) fun _ => rfl) (len_sim rfl hq hR hx)
      case cap =>
        rcases L with _ | ⟨x, _ | ⟨y, L⟩⟩ <;> try (simp [qBuiltin] at hq; done)
        obtain ⟨x', l1, rfl, hx, hl1⟩ := hargs.uncons
        cases hl1.unnil
        exact same hnd (hex (Builtin.cap_ ts o.type) fun _ => rfl) (cap_sim rfl hq hx)
      case min =>
        have hq' : flatRun E.P L (Builtin.min_ ts o.type L.toArray) = some q := by simpa [qBuiltin] using hq
        exact same hnd (hex (Builtin.min_ ts o.type) fun _ => rfl) (flatRun_sim (s := fun l => Builtin.min_ ts o.type ⟨l⟩) hq' hargs)
      case max =>
        have hq' : flatRun E.P L (Builtin.max_ ts o.type L.toArray) = some q := by simpa [qBuiltin] using hq
        exact same hnd (hex (Builtin.max_ ts o.type) fun _ => rfl) (flatRun_sim (s := fun l => Builtin.max_ ts o.type ⟨l⟩) hq' hargs)
      case delete =>
        rcases L with _ | ⟨x, _ | ⟨y, _ | ⟨z, L⟩⟩⟩ <;> try (simp [qBuiltin] at hq; done)
        obtain ⟨x', l1, rfl, hx, hl1⟩ := hargs.uncons
        obtain ⟨y', l2, rfl, hy, hl2⟩ := hl1.uncons
        cases hl2.unnil
        obtain ⟨v', w', h1, h2⟩ := delete_sim (ty := o.type) (by simpa [qBuiltin] using hq) hR hx hy (Nat.le_refl _)
        exact makes hnd (hex (Builtin.delete_ ts o.type) fun _ => rfl) ⟨v', w', β, κ, h1, h2⟩
      case clear =>
        rcases L with _ | ⟨x, _ | ⟨y, L⟩⟩ <;> try (simp [qBuiltin] at hq; done)
        obtain ⟨x', l1, rfl, hx, hl1⟩ := hargs.uncons
        cases hl1.unnil
        obtain ⟨v', w', h1, h2⟩ := clear_sim (ty := o.type) rfl hq hR hx (Nat.le_refl _)
        exact makes hnd (hex (Builtin.clear_ ts o.type) fun _ => rfl) ⟨v', w', β, κ, h1, h2⟩
      case copy =>
        rcases L with _ | ⟨x, _ | ⟨y, _ | ⟨z, L⟩⟩⟩ <;> try (simp [qBuiltin] at hq; done)
        obtain ⟨x', l1, rfl, hx, hl1⟩ := hargs.uncons
        obtain ⟨y', l2, rfl, hy, hl2⟩ := hl1.uncons
        cases hl2.unnil
        obtain ⟨v', w', h1, h2⟩ := copy_sim (ty := o.type) rfl hq hR hx hy (Nat.le_refl _)
        exact makes hnd (hex (Builtin.copy_ ts o.type) fun _ => rfl) ⟨v', w', β, κ, h1, h2⟩
      all_goals (simp [qBuiltin] at hq)
    | invoke => simp at hq
  all_goals cases hq
end
end Go.Cl
