/- Operations, one by one: arithmetic, append, make. -/
import Derived.Test.YtiaippkjgmccoaaCl7
namespace Go.Cl
open Go Go.RowKit
set_option linter.unusedSimpArgs false
set_option linter.unusedVariables false

section
variable {P : Program} {w : World} {D : Nat → Prop} {β : Nat → Nat × Nat} {κ : Nat → Nat} {base N n : Nat}

theorem flatRun_spec {vs : List Value} {s : Sem Value} {q : QRes} (h : flatRun P vs s = some q) : (∀ v ∈ vs, isFlat v = true) ∧ ∃ v, q = { val := v } ∧ pureRun P s = some v ∧ isFlat v = true := by
  unfold flatRun at h
  split at h
  · rename_i ha
    split at h
    · rename_i v hv
      split at h
      · rename_i hf
        cases h
        exact ⟨fun v hv => List.all_eq_true.1 ha v hv, v, rfl, hv, hf⟩
      · cases h
    · cases h
  · cases h

theorem intBin_sim {op : BinOp} {k k' : IntKind} {a b : Int} {v : Value} (h : intBin op k k' a b = some v) (t : TypeId) (x y : Operand) (w : World) :
    (do eqGuard op t x y (.int k a) (.int k' b); binOp op t (.int k a) (.int k' b)).run P w = .ok v w ∧ isFlat v = true := by
  unfold intBin at h
  split at h
  · cases h
  · rename_i hk
    have hk' : k = k' := Decidable.of_not_not hk
    subst hk'
    cases op <;> simp at h <;> first
      | (subst h; exact ⟨by simp [eqGuard, binOp, Op.intArith, Op.intDiv, Op.intCmp], rfl⟩)
      | (obtain ⟨h1, h2⟩ := h; subst h2; exact ⟨by simp [eqGuard, binOp, Op.intArith, Op.intDiv, Op.intCmp, h1], rfl⟩)

theorem eqSliceNil {t e : TypeId} {a : Addr} {l c n c2 : Nat} (hu : P.underlying t = some (.slice e)) (w : World) (d : Nat) : (Op.equalIn (d + 1) t (.slice (some a) l c) (.slice none n c2)).run P w = .ok false w := by
  simp [Op.equalIn, run_underlying hu]
theorem bin_sim {op : BinOp} {t : TypeId} {x y : Operand} {a b a' b' : Value} {q : QRes} (h : qBin P op t x y a b = some q) (ha : VR D β κ a a') (hb : VR D β κ b b') :
    ∃ v', (do eqGuard op t x y a' b'; binOp op t a' b').run P w = .ok v' w ∧ VR D β κ q.val v' ∧ q = { val := q.val } := by
  have flat : ∀ s, flatRun P [a, b] s = some q → a' = a ∧ b' = b := fun s hs => by
    obtain ⟨h1, _⟩ := flatRun_spec hs
    exact ⟨ha.flat (h1 a (by simp)), hb.flat (h1 b (by simp))⟩
  have run : flatRun P [a, b] (do eqGuard op t x y a b; binOp op t a b) = some q → ∃ v', (do eqGuard op t x y a' b'; binOp op t a' b').run P w = .ok v' w ∧ VR D β κ q.val v' ∧ q = { val := q.val } := fun hs => by
    obtain ⟨rfl, rfl⟩ := flat _ hs
    obtain ⟨_, v, rfl, h2, h3⟩ := flatRun_spec hs
    exact ⟨v, pureRun_run h2 w, .of_flat h3, rfl⟩
  unfold qBin at h
  split at h
  · split at h
    · rename_i v hv
      cases h
      cases ha
      cases hb
      obtain ⟨h1, h2⟩ := intBin_sim (P := P) hv t x y w
      exact ⟨v, h1, .of_flat h2, rfl⟩
    · exact run h
  · rename_i p r
    have key : qv (cmpKeys P op t (.bool p) (.bool r)) = some q → ∃ v', (do eqGuard op t x y a' b'; binOp op t a' b').run P w = .ok v' w ∧ VR D β κ q.val v' ∧ q = { val := q.val } := fun h => by
      unfold qv at h
      cases hc : cmpKeys P op t (.bool p) (.bool r) with
      | none => rw [hc] at h; cases h
      | some v =>
        rw [hc] at h
        cases h
        cases ha
        cases hb
        refine ⟨v, cmpKeys_sim hc w (.inl ⟨_, _, rfl, rfl⟩), .of_flat ?_, rfl⟩
        unfold cmpKeys at hc
        split at hc
        · split at hc <;> simp at hc <;> subst hc <;> rfl
        · cases hc
    split at h
    · exact key h
    · exact key h
    · cases h
  · rename_i p r
    cases hc : cmpKeys P op t (.agg p) (.agg r) with
    | none => rw [hc] at h; exact run h
    | some v =>
      rw [hc] at h
      cases h
      have hc0 := hc
      unfold cmpKeys at hc
      split at hc
      · rename_i hcond
        -- keys are flat
        have leaf : ∀ (fs : List Field) (l : List Value), fitLeaves P fs l = true → l.all leafFlat = true := by
          intro fs
          induction fs with
          | nil => intro l hl; cases l with | nil => rfl | cons => cases hl
          | cons f fs ih =>
            intro l hl
            cases l with
            | nil => rfl
            | cons z l =>
              simp only [fitLeaves, Bool.and_eq_true] at hl
              simp only [List.all_cons, Bool.and_eq_true]
              refine ⟨?_, ih l hl.2⟩
              cases hu : P.underlying f.type with
              | none => rw [hu] at hl; simp [fitLeaf] at hl
              | some d => rw [hu] at hl; cases d <;> simp [fitLeaf] at hl <;> cases z <;> simp_all [leafFlat]
        have fl : ∀ z : Value, keyFits P t z = true → (∃ p, z = .agg p) → flat1 z = true := by
          rintro z hz ⟨p, rfl⟩
          unfold keyFits at hz
          cases hu : P.underlying t with
          | none => rw [hu] at hz; simp [fitLeaf] at hz
          | some d =>
            rw [hu] at hz
            cases d <;> simp [fitLeaf] at hz
            simpa [flat1] using leaf _ _ hz
        have e1 := ha.flat1 (fl _ hcond.2.1 ⟨_, rfl⟩)
        have e2 := hb.flat1 (fl _ hcond.2.2 ⟨_, rfl⟩)
        rw [e1, e2]
        refine ⟨v, cmpKeys_sim hc0 w (.inr ⟨_, _, rfl, rfl⟩), .of_flat ?_, rfl⟩
        split at hc <;> simp at hc <;> subst hc <;> rfl
      · cases hc
  · rename_i a0 l c n0 c0
    split at h
    · rename_i hl
      have hx : ∃ a1 c1, a' = .slice (some a1) l c1 := by
        cases ha with
        | slice i o l c hi hlc hc => exact ⟨_, _, rfl⟩
        | sliceU i o l q hi hq hk => exact ⟨_, _, rfl⟩
        | sliceA i o l C c hi hC hlc hc => exact ⟨_, _, rfl⟩
        | _ => exact absurd hl (Nat.lt_irrefl 0)
      have hy : ∃ n1 c1, b' = .slice none n1 c1 := by
        cases hb with
        | _ => exact ⟨_, _, rfl⟩
      obtain ⟨a1, c1, rfl⟩ := hx
      obtain ⟨n1, c2, rfl⟩ := hy
      split at h
      · rename_i e hu
        cases h
        exact ⟨.bool false, by simp only [eqGuard, binOp]; simp [Op.equal, Op.maxDepth, eqSliceNil hu w 9999], .bool _, rfl⟩
      · rename_i e hu
        cases h
        exact ⟨.bool true, by simp only [eqGuard, binOp]; simp [Op.equal, Op.maxDepth, eqSliceNil hu w 9999], .bool _, rfl⟩
      · cases h
    · cases h
  · exact run h

theorem un_sim {op : UnOp} {a a' : Value} {q : QRes} (h : qUn P op a = some q) (ha : VR D β κ a a') :
    ∃ v', (Op.unary op a').run P w = .ok v' w ∧ VR D β κ q.val v' ∧ q = { val := q.val } := by
  unfold qUn at h
  split at h
  · cases h; cases ha; exact ⟨_, by simp [Op.unary], .bool _, rfl⟩
  · cases h; cases ha; exact ⟨_, by simp [Op.unary, Op.intArith], .int _ _, rfl⟩
  · obtain ⟨h1, v, rfl, h2, h3⟩ := flatRun_spec h
    rw [ha.flat (h1 _ (by simp))]
    exact ⟨v, pureRun_run h2 w, .of_flat h3, rfl⟩

theorem convert_sim {s d : TypeId} {a a' : Value} {q : QRes} (h : qConvert P s d a = some q) (ha : VR D β κ a a') :
    ∃ v', (convert s d a').run P w = .ok v' w ∧ VR D β κ q.val v' ∧ q = { val := q.val } := by
  obtain ⟨h1, v, rfl, h2, h3⟩ := flatRun_spec h
  rw [ha.flat (h1 _ (by simp))]
  exact ⟨v, pureRun_run h2 w, .of_flat h3, rfl⟩

/-! ### append -/

theorem nextcap_le {need c : Nat} (h : c < need) : Builtin.nextslicecap need c ≤ 2 * need + 800 := by
  have g : ∀ (r c : Nat), c ≤ 2 * need + 800 → Builtin.growBy need r c ≤ 2 * need + 800 := by
    intro r
    induction r with
    | zero => intro c h; simpa [Builtin.growBy] using h
    | succ r ih =>
      intro c h
      unfold Builtin.growBy
      split
      · exact h
      · exact ih _ (by omega)
  unfold Builtin.nextslicecap
  split
  · omega
  · split
    · omega
    · exact g _ _ (by omega)

/-- What is appended, in the model: so many elements; a number of zeros or a slice; its cells. -/
structure ArgRun (P : Program) (w : World) (size bytes : Nat) (zero : Value) (d : TypeDesc) (x' : Value) (xn : Nat) (xs' : List Value) : Prop where
  len : xs'.length = xn * size
  kind : (∃ e, d = .slice e ∧ (Builtin.lenOf x').run P w = .ok xn w ∧ ∀ w' : World, w'.heap = w.heap → (Builtin.firstCells size xn x').run P w' = .ok xs'.toArray w') ∨
    (∃ k q l, d = .int k ∧ x' = .int q l ∧ 0 ≤ l ∧ l < INF ∧ l * bytes ≤ 2 ^ 48 ∧ l.toNat = xn ∧ xs' = (List.replicate xn zero.cells.toList).flatten)

theorem zeroCells_toList (z : Array Value) (k : Nat) (hz : 0 < z.size) : (Builtin.zeroCells z k).toList = (List.replicate k z.toList).flatten := by
  unfold Builtin.zeroCells
  apply List.ext_getElem?
  intro j
  have hlen : ((List.replicate k z.toList).flatten).length = k * z.size := by simp
  by_cases hj : j < k * z.size
  · have h1 : j % z.size < z.size := Nat.mod_lt _ hz
    have e : ((List.replicate k z.toList).flatten)[j]? = z.toList[j % z.size]? := by
      clear hlen
      induction k generalizing j with
      | zero => simp at hj
      | succ k ih =>
        rw [List.replicate_succ, List.flatten_cons, List.getElem?_append]
        split
        · rename_i h; simp at h; rw [Nat.mod_eq_of_lt h]
        · rename_i h
          simp only [Array.length_toList, Nat.not_lt] at h ⊢
          have hj' : j - z.size < k * z.size := by rw [Nat.succ_mul] at hj; omega
          rw [ih (j - z.size) hj' (Nat.mod_lt _ hz)]
          rw [Nat.mod_eq_sub_mod h]
    have e2 : z[j % z.size]! = z[j % z.size] := getElem!_pos z _ h1
    rw [e]
    simp [hj, e2, h1]
  · rw [List.getElem?_eq_none (l := (List.replicate k z.toList).flatten) (by rw [hlen]; omega)]
    simp; omega

theorem arg_sim {h : List Blk} {size bytes : Nat} {zero : Value} {d : TypeDesc} {x x' : Value} {xn : Nat} {xs : List Value} (ha : appArg h size bytes zero (some d) x = some (xn, xs))
    (hR : Rel P D β κ base N (toF h) w) (hx : VR D β κ x x') (hz : flat1 zero = true) (hzs : zero.cells.size = size) (hs : 0 < size) :
    ∃ xs', LR D β κ xs xs' ∧ ArgRun P w size bytes zero d x' xn xs' := by
  unfold appArg at ha
  split at ha
  · rename_i e xb k c heq
    cases heq
    cases hr : readCells h xb (k * size) with
    | none => rw [hr] at ha; cases ha
    | some ys =>
      rw [hr] at ha
      cases ha
      have go : ∀ (b' : Option Addr) (c' : Nat), x' = .slice b' xn c' → VR D β κ (.slice xb xn c) (.slice b' xn c') → ∃ xs', LR D β κ xs xs' ∧ ArgRun P w size bytes zero (.slice e) x' xn xs' := by
        rintro b' c' rfl hv
        obtain ⟨rs, h1, h2, h3, h4⟩ := readCells_sim hr hR hv (fun h0 => by rw [h0]; simp)
        refine ⟨rs, h1, h2, .inl ⟨e, rfl, by simp [Builtin.lenOf], fun w' hw => ?_⟩⟩
        cases b' with
        | some a => simp [Builtin.firstCells, h3 a rfl w' hw]
        | none =>
          have := h4 rfl
          have : rs = [] := List.length_eq_zero_iff.1 (h2.trans this)
          subst this
          simp [Builtin.firstCells]
      cases hx with
      | snil => exact go _ _ rfl .snil
      | slice i o l c hi hlc hc => exact go _ _ rfl (.slice i o _ _ hi hlc hc)
      | sliceU i o l q hi hq hk => exact go _ _ rfl (.sliceU i o _ q hi hq hk)
      | sliceE i o q a hq => exact go _ _ rfl (.sliceE i o q a hq)
      | sliceZ i o a => exact go _ _ rfl (.sliceZ i o a)
      | sliceA i o l C c2 hi hC hlc hc => exact go _ _ rfl (.sliceA i o _ _ _ hi hC hlc hc)
      | sliceAN i o C a hC => exact go _ _ rfl (.sliceAN i o _ a hC)
  · rename_i k q l heq
    cases heq
    split at ha
    · rename_i hc
      cases ha
      cases hx
      have hfl := flat1_cells hz
      refine ⟨_, .of_leaves ?_, ?_, .inr ⟨k, q, l, rfl, rfl, hc.1, hc.2.1, hc.2.2, rfl, rfl⟩⟩
      · rw [List.all_eq_true] at hfl ⊢
        intro v hv
        obtain ⟨m, hm, hv'⟩ := List.mem_flatten.1 hv
        rw [(List.mem_replicate.1 hm).2] at hv'
        exact hfl v hv'
      · simp [hzs]
    · cases ha
  · cases ha

theorem wrap_small {l : Int} (h0 : 0 ≤ l) (h : l < INF) : IntKind.i64.wrap l = l := by
  simp only [INF] at h
  unfold IntKind.wrap
  have e : (2 : Int) ^ IntKind.i64.bits = 18446744073709551616 := by decide
  have e' : (2 : Int) ^ (IntKind.i64.bits - 1) = 9223372036854775808 := by decide
  simp only [e, e']
  have : l % 18446744073709551616 = l := by omega
  rw [this]
  simp
  omega

/-- In place. -/
theorem append_in {ts : Array TypeId} {ty sT xT e : TypeId} {size bytes : Nat} {zero x' : Value} {d : TypeDesc} {xn : Nat} {xs' : List Value} {a' : Option Addr} {sLen sCap : Nat} {w1 : World}
    (h0 : ts[0]? = some sT) (h1 : ts[1]? = some xT) (hu : P.underlying sT = some (.slice e)) (hux : P.underlying xT = some d) (hsz : sizeT P e = some size) (hby : bytesT P e = some bytes) (hz : zeroT P e = some zero)
    (hzs : zero.cells.size = size) (hs : 0 < size) (hA : ArgRun P w size bytes zero d x' xn xs') (hfit : sLen + xn ≤ sCap)
    (hst : ∀ a, a' = some a → (storeCells (a.add (sLen * size)) xs').run P w = .ok () w1) (hnone : a' = none → w1 = w) :
    (Builtin.append_ ts ty #[.slice a' sLen sCap, x']).run P w = .ok (.slice a' (sLen + xn) sCap) w1 := by
  obtain ⟨i, hi, hib⟩ := run_info hby w
  rcases hA.kind with ⟨e', rfl, hl, hc0⟩ | ⟨k, q, l, rfl, rfl, l0, l1, l2, rfl, hx⟩
  · have hc := hc0 w rfl
    cases a' with
    | none => have := hnone rfl; subst this; simp [Builtin.append_, h0, h1, run_und hu, run_und hux, run_size hsz, hl, hc, hfit]
    | some a => simp [Builtin.append_, h0, h1, run_und hu, run_und hux, run_size hsz, hl, hc, hfit, hst a rfl]
  · have hw := wrap_small l0 l1
    have hl0 : ¬ l < 0 := by omega
    have hlb : ¬ (281474976710656 < l * (i.bytes : Int)) := by rw [hib]; omega
    have hzz : 0 < zero.cells.size := by omega
    by_cases hn0 : l.toNat = 0
    · have hx0 : xs' = [] := by rw [hx, hn0]; rfl
      subst hx0
      have hfit' : sLen ≤ sCap := by omega
      cases a' with
      | none => have := hnone rfl; subst this; simp [Builtin.append_, h0, h1, run_und hu, run_und hux, run_size hsz, asInt, asIntOf, hw, hl0, hi, hlb, hn0, hfit']
      | some a =>
        have hst' := hst a rfl
        simp [storeCells] at hst'
        subst hst'
        simp [Builtin.append_, h0, h1, run_und hu, run_und hux, run_size hsz, asInt, asIntOf, hw, hl0, hi, hlb, hn0, storeCells, hfit']
    · have hns : ¬ (l.toNat * size = 0) := by
        intro h
        rcases Nat.mul_eq_zero.1 h with h | h <;> omega
      have hzc : (Builtin.zeroCells zero.cells l.toNat).toList = xs' := by rw [zeroCells_toList _ _ hzz, hx]
      cases a' with
      | none => have := hnone rfl; subst this; simp [Builtin.append_, h0, h1, run_und hu, run_und hux, run_size hsz, asInt, asIntOf, hw, hl0, hi, hlb, hfit, hns, run_zero hz]
      | some a => simp [Builtin.append_, h0, h1, run_und hu, run_und hux, run_size hsz, asInt, asIntOf, hw, hl0, hi, hlb, hfit, hns, run_zero hz, hzc, hst a rfl]

/-- Into new memory. -/
theorem append_new {ts : Array TypeId} {ty sT xT e : TypeId} {size bytes : Nat} {zero x' : Value} {d : TypeDesc} {xn : Nat} {xs' old' : List Value} {a' : Option Addr} {sLen sCap : Nat}
    (h0 : ts[0]? = some sT) (h1 : ts[1]? = some xT) (hu : P.underlying sT = some (.slice e)) (hux : P.underlying xT = some d) (hsz : sizeT P e = some size) (hby : bytesT P e = some bytes) (hz : zeroT P e = some zero)
    (hzs : zero.cells.size = size) (hs : 0 < size) (hA : ArgRun P w size bytes zero d x' xn xs') (hfit : ¬ sLen + xn ≤ sCap) (hbig : ¬ (2 * (sLen + xn) + 1000) * (bytes + 1) > 2 ^ 48)
    (hold : (Builtin.firstCells size sLen (.slice a' sLen sCap)).run P w.drew = .ok old'.toArray w.drew) :
    ∃ nc, sLen + xn ≤ nc ∧ nc < INF ∧ (Builtin.append_ ts ty #[.slice a' sLen sCap, x']).run P w =
      .ok (.slice (some ⟨w.heap.size, 0, none⟩) (sLen + xn) nc) (w.drew.alloc (.cells (old' ++ xs' ++ (List.replicate (nc - (sLen + xn)) zero.cells.toList).flatten).toArray e)) := by
  obtain ⟨i, hi, hib⟩ := run_info hby w
  obtain ⟨i2, hi2, hib2⟩ := run_info hby w.drew
  have hneed : sLen + xn < INF := by
    have : (2 * (sLen + xn) + 1000) * 1 ≤ (2 * (sLen + xn) + 1000) * (bytes + 1) := Nat.mul_le_mul_left _ (by omega)
    simp only [INF]; omega
  have hmax : ¬ (9223372036854775807 < (sLen : Int) + (xn : Int)) := by
    simp only [INF] at hneed; omega
  have hnx : ¬ (281474976710656 < Builtin.nextslicecap (sLen + xn) sCap * i.bytes) := by
    have h1 := nextcap_le (show sCap < sLen + xn by omega)
    have h2 : Builtin.nextslicecap (sLen + xn) sCap * i.bytes ≤ (2 * (sLen + xn) + 1000) * (bytes + 1) := Nat.mul_le_mul (by omega) (by omega)
    omega
  have hzz : 0 < zero.cells.size := by omega
  refine ⟨sLen + xn + w.tape w.drawn (.appendCap (sLen + xn) sCap e) % (2 ^ 63 - (sLen + xn)), by omega, ?_, ?_⟩
  · have : w.tape w.drawn (.appendCap (sLen + xn) sCap e) % (2 ^ 63 - (sLen + xn)) < 2 ^ 63 - (sLen + xn) := Nat.mod_lt _ (by simp only [INF] at hneed; omega)
    simp only [INF] at *; omega
  · generalize hnc : sLen + xn + w.tape w.drawn (.appendCap (sLen + xn) sCap e) % (2 ^ 63 - (sLen + xn)) = nc
    have hcut : (Question.appendCap (sLen + xn) sCap e).cut (w.tape w.drawn (.appendCap (sLen + xn) sCap e)) = nc := by simp [Question.cut, ← hnc]
    have hforced : (Question.appendCap (sLen + xn) sCap e).forced = false := rfl
    have hrest : (Builtin.zeroCells zero.cells (nc - (sLen + xn))).toList = (List.replicate (nc - (sLen + xn)) zero.cells.toList).flatten := zeroCells_toList _ _ hzz
    have hrest' : Builtin.zeroCells zero.cells (nc - (sLen + xn)) = ((List.replicate (nc - (sLen + xn)) zero.cells.toList).flatten).toArray := by rw [← hrest]
    rcases hA.kind with ⟨e', rfl, hl, hc0⟩ | ⟨k, q, l, rfl, rfl, l0, l1, l2, rfl, hx⟩
    · have hc' := hc0 w.drew rfl
      simp [Builtin.append_, h0, h1, run_und hu, run_und hux, run_size hsz, hl, hfit, hi, hmax, hnx, hforced, hcut, hi2, hold, hc', run_zero hz, hrest', newRow]
    · have hw := wrap_small l0 l1
      have hl0 : ¬ l < 0 := by omega
      have hlb : ¬ (281474976710656 < l * (i.bytes : Int)) := by rw [hib]; omega
      have hmax2 : ¬ (9223372036854775807 < (sLen : Int) + max l 0) := by simp only [INF] at hneed; omega
      by_cases hn0 : l.toNat * size = 0
      · have hx0 : xs' = [] := by
          have : l.toNat = 0 := by
            rcases Nat.mul_eq_zero.1 hn0 with h | h
            · exact h
            · omega
          rw [hx, this]; rfl
        subst hx0
        simp [Builtin.append_, h0, h1, run_und hu, run_und hux, run_size hsz, asInt, asIntOf, hw, hl0, hlb, hfit, hi, hmax, hmax2, hnx, hforced, hcut, hi2, hold, hn0, run_zero hz, hrest', newRow]
      · have hzc : Builtin.zeroCells zero.cells l.toNat = xs'.toArray := by
          have := zeroCells_toList zero.cells l.toNat hzz
          rw [← hx] at this
          rw [← this]
        simp [Builtin.append_, h0, h1, run_und hu, run_und hux, run_size hsz, asInt, asIntOf, hw, hl0, hlb, hfit, hi, hmax, hmax2, hnx, hforced, hcut, hi2, hold, hn0, run_zero hz, hzc, hrest', newRow]
end
end Go.Cl
