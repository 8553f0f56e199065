/- Operations on lists in blocks; and what else the printed proofs name. -/
import Derived.Test.YtiaippkjgmccoaaTs6
set_option linter.unusedVariables false
namespace Go.Cl
open Go Go.RowKit

theorem of_do {α γ : Type} {x : Option α} {k : α → Option γ} {r : γ} (h : (x >>= k) = some r) : ∃ a, x = some a ∧ k a = some r := Option.bind_eq_some_iff.1 h

abbrev w64 (x : Int) : Int := IntKind.i64.wrap x
/-- The greater and the lesser of two. -/
def mx (a b : Int) : Int := if b > a then b else a
def mn (a b : Int) : Int := if b < a then b else a

/-- A slice that appends have made, or none yet. -/
def accV (b n : Nat) : Value := .slice (if n = 0 then none else some ⟨b, 0, none⟩) n (if n = 0 then 0 else UNK)
theorem accV_eq (b n : Nat) : accV b n = if n = 0 then .slice none 0 0 else .slice (some ⟨b, 0, none⟩) n UNK := by
  unfold accV; by_cases h : n = 0 <;> simp [h]
theorem accV_pos {b n : Nat} (h : ¬ n = 0) : accV b n = .slice (some ⟨b, 0, none⟩) n UNK := by rw [accV_eq, if_neg h]
def accB (t : TypeId) (n : Nat) (vs : List Value) : Blk := if n = 0 then .dead else .cells t vs

section
variable {P : Program} {base L : Nat} {a a1 a2 : CAct} {h h1 h2 hp new : List Blk} {ops : Array Oper} {j : Nat} {Ψ : CAct → List Blk → Prop} {q : QRes} {v : Value} {x : Option QRes} {α : Type} {enc : α → List Value} {l : List α} {s i off b k m : Nat} {t T : TypeId}

theorem q_ix {c : Prop} [Decidable c] {v : Value} (h : x = qv (if c then some v else none)) (hc : c) : x = some { val := v } := by rw [h, if_pos hc]; rfl
theorem q_ixS {c : Prop} [Decidable c] (b o k : Nat) (h : x = qv (if c then some (.pointer (some (Addr.add ⟨b, o, none⟩ k))) else none)) (hc : c) : x = some { val := .pointer (some ⟨b, o + k, none⟩) } := by rw [h, if_pos hc, add_eq]; rfl
theorem q_conv {e b : Bool} (h : x = some { val := .bool e }) (hc : e = b) : x = some { val := .bool b } := by rw [← hc]; exact h
theorem q_convI {k : IntKind} {e y : Int} (h : x = some { val := .int k e }) (hc : e = y) : x = some { val := .int k y } := by rw [← hc]; exact h
theorem q_int {op : BinOp} {ty : TypeId} {ox oy : Operand} {k k' : IntKind} {y z : Int} {v : Value} (h : x = qBin P op ty ox oy (.int k y) (.int k' z)) (hv : intBin op k k' y z = some v) : x = some { val := v } := by
  rw [h]; simp only [qBin, hv]
theorem rem_ok {k : IntKind} {y z : Int} (hz : ¬ z = 0) : intBin .rem k k y z = some (.int k (y.tmod z)) := by simp [intBin, hz]
theorem quo_ok {k : IntKind} {y z : Int} (hz : ¬ z = 0) : intBin .quo k k y z = some (.int k (k.wrap (y.tdiv z))) := by simp [intBin, hz]

theorem flatMap_len (hl : ∀ y, (enc y).length = s) : (l.flatMap enc).length = l.length * s := by
  induction l with
  | nil => simp
  | cons y l ih => simp [List.flatMap_cons, hl, ih, Nat.add_mul, Nat.add_comm]

theorem flatMap_at (hl : ∀ y, (enc y).length = s) (d : α) : ∀ {l : List α} {i : Nat}, i < l.length → ((l.flatMap enc).drop (i * s)).take s = enc (l.getD i d)
  | [], i, h => by simp at h
  | y :: l, 0, h => by
    simp only [List.flatMap_cons, Nat.zero_mul, List.drop_zero, List.getD_cons_zero]
    rw [List.take_append_of_le_length (by rw [hl]; exact Nat.le_refl _), List.take_of_length_le (by rw [hl]; exact Nat.le_refl _)]
  | y :: l, i + 1, h => by
    simp only [List.flatMap_cons, List.getD_cons_succ]
    rw [← flatMap_at hl d (l := l) (i := i) (by simpa using h), Nat.add_mul, Nat.one_mul, Nat.add_comm (i * s) s]
    rw [← hl y, ← List.drop_drop, List.drop_left]

theorem flatMap_get (hl : ∀ y, (enc y).length = s) (d : α) {k : Nat} (hi : i < l.length) (hk : k < s) : (l.flatMap enc)[i * s + k]? = some ((enc (l.getD i d)).getD k undef) := by
  have h := flatMap_at (enc := enc) hl d hi
  have h2 : (((l.flatMap enc).drop (i * s)).take s)[k]? = (l.flatMap enc)[i * s + k]? := by rw [List.getElem?_take, if_pos hk, List.getElem?_drop]
  rw [← h2, h]
  simp only [List.getD]
  rw [List.getElem?_eq_getElem (by rw [hl]; exact hk)]
  rfl

/-- An element is loaded, all of it. -/
theorem q_ldA (h : x = qv (cLoad P hp t (.pointer (some ⟨b, off, none⟩)))) (hb : hp[b]? = some (.cells T (l.flatMap enc))) (ha : aggT P t = some true) (hs : sizeT P t = some s) (hl : ∀ y, (enc y).length = s)
    (ho : off = i * s) (hi : i < l.length) (d : α) : x = some { val := .agg ⟨enc (l.getD i d)⟩ } := by
  have hle : i * s + s ≤ (l.flatMap enc).length := by
    rw [flatMap_len hl, ← Nat.succ_mul]; exact Nat.mul_le_mul_right _ hi
  rw [h, ho]
  simp only [cLoad, hb, ha, hs]
  rw [if_pos hle, flatMap_at hl d hi]
  rfl
/-- A cell of an element. -/
theorem q_ld1 (h : x = qv (cLoad P hp t (.pointer (some ⟨b, off, none⟩)))) (hb : hp[b]? = some (.cells T (l.flatMap enc))) (ha : aggT P t = some false) (hl : ∀ y, (enc y).length = s)
    (ho : off = i * s + k) (hk : k < s) (hi : i < l.length) (d : α) : x = some { val := (enc (l.getD i d)).getD k undef } := by
  rw [h, ho]
  simp only [cLoad, hb, ha]
  cases sizeT P t <;> (simp only [flatMap_get hl d hi hk]; rfl)

theorem takeAll {vs : List Value} {n : Nat} (h : vs.length = n) : (vs.drop 0).take n = vs := by rw [List.drop_zero, List.take_of_length_le (by omega)]

/-- More is appended to what appends have made. -/
theorem q_appU {ts : Array TypeId} {e : TypeId} {n bytes : Nat} {z y : Value} {ys : List α} {xs : List Value} (h : x = cAppend P base hp n ts (.slice (some ⟨b, 0, none⟩) l.length UNK) y)
    (hb : hp[b]? = some (.cells e (l.flatMap enc))) (hbase : base ≤ b) (he : (ts[0]?).bind P.underlying = some (.slice e)) (hs : sizeT P e = some s) (hby : bytesT P e = some bytes) (hz : zeroT P e = some z)
    (hzf : (flat1 z && (z.cells.size == s) && decide (0 < s)) = true) (harg : appArg hp s bytes z ((ts[1]?).bind P.underlying) y = some (m, xs)) (hm : (m == 0) = false) (hok : xs.all cellOk = true)
    (hl : ∀ y, (enc y).length = s) (hx : xs = ys.flatMap enc) (hym : ys.length = m) (hbig : ¬ (2 * (l.length + m) + 1000) * (bytes + 1) > 2 ^ 48) :
    x = some { val := .slice (some ⟨n, 0, none⟩) (l ++ ys).length UNK, new := [.cells e ((l ++ ys).flatMap enc)], upd := some (b, .dead) } := by
  simp only [Bool.and_eq_true, beq_iff_eq, decide_eq_true_eq] at hzf
  have hm' : ¬ m = 0 := by simpa using hm
  have hlen := flatMap_len (l := l) hl
  rw [h]
  simp only [cAppend, he, hs, hby, hz]
  rw [if_pos ⟨hzf.1.1, hzf.1.2, hzf.2⟩]
  simp only [harg]
  rw [if_neg hm', if_neg (by simp only [UNK, INF]; omega), if_neg hbig, if_neg (by simp only [UNK, INF]; omega)]
  simp only [appOn, hb]
  rw [if_pos ⟨hbase, hs, by simp, Nat.le_refl _, by omega, hok⟩, takeAll hlen, hx, List.flatMap_append, List.length_append, hym]

/-- The first elements. -/
theorem q_appN {ts : Array TypeId} {e : TypeId} {n bytes : Nat} {z y : Value} {ys : List α} {xs : List Value} (h : x = cAppend P base hp n ts (.slice none 0 0) y)
    (he : (ts[0]?).bind P.underlying = some (.slice e)) (hs : sizeT P e = some s) (hby : bytesT P e = some bytes) (hz : zeroT P e = some z)
    (hzf : (flat1 z && (z.cells.size == s) && decide (0 < s)) = true) (harg : appArg hp s bytes z ((ts[1]?).bind P.underlying) y = some (m, xs)) (hm : (m == 0) = false)
    (hx : xs = ys.flatMap enc) (hym : ys.length = m) (hbig : ¬ (2 * (0 + m) + 1000) * (bytes + 1) > 2 ^ 48) :
    x = some { val := .slice (some ⟨n, 0, none⟩) ys.length UNK, new := [.cells e (ys.flatMap enc)] } := by
  simp only [Bool.and_eq_true, beq_iff_eq, decide_eq_true_eq] at hzf
  have hm' : ¬ m = 0 := by simpa using hm
  rw [h]
  simp only [cAppend, he, hs, hby, hz]
  rw [if_pos ⟨hzf.1.1, hzf.1.2, hzf.2⟩]
  simp only [harg]
  rw [if_neg hm', if_neg (by omega), if_neg hbig, if_pos (Nat.zero_le _)]
  simp only [appCopy, readCells, Nat.zero_mul, if_true, List.nil_append, hx, hym, Nat.zero_add]

theorem set_dead {h : List Blk} {b : Nat} (hb : h[b]? = some .dead) : h.set b .dead = h := by
  apply List.ext_getElem?
  intro j
  rw [List.getElem?_set]
  split
  · rename_i e
    subst e
    rw [hb]
    have := (List.getElem?_eq_some_iff.1 hb).1
    simp [this]
  · rfl

/-- To what appends have made, or to none yet. -/
theorem TI.acc {ts : Array TypeId} {e : TypeId} {bytes : Nat} {z y : Value} {ys : List α} {xs : List Value} (h0 : qAt P base ops j a h = cAppend P base h h.length ts (accV b l.length) y)
    (hb : h[b]? = some (accB e l.length (l.flatMap enc))) (hbase : base ≤ b) (he : (ts[0]?).bind P.underlying = some (.slice e)) (hs : sizeT P e = some s) (hby : bytesT P e = some bytes) (hz : zeroT P e = some z)
    (hzf : (flat1 z && (z.cells.size == s) && decide (0 < s)) = true) (harg : appArg h s bytes z ((ts[1]?).bind P.underlying) y = some (m, xs)) (hm : (m == 0) = false) (hok : xs.all cellOk = true)
    (hl : ∀ y, (enc y).length = s) (hx : xs = ys.flatMap enc) (hym : ys.length = m) (hbig : ¬ (2 * (l.length + m) + 1000) * (bytes + 1) > 2 ^ 48)
    (keep keepH : List Nat) (hst : mk2 keep keepH (putAt ops j a (.slice (some ⟨h.length, 0, none⟩) (l ++ ys).length UNK), h.set b .dead ++ [.cells e ((l ++ ys).flatMap enc)]) = (a2, h2))
    (ht : TI P base L ops (j + 1) a2 h2 Ψ) : TI P base L ops j a h Ψ := by
  by_cases hl0 : l.length = 0
  · have hln : l = [] := List.length_eq_zero_iff.1 hl0
    subst hln
    have hb' : h[b]? = some .dead := by simpa [accB] using hb
    have hq := q_appN (x := qAt P base ops j a h) (enc := enc) (ys := ys) (by simpa [accV] using h0) he hs hby hz hzf harg hm hx hym (by simpa using hbig)
    refine TI.op hq keep keepH ?_ ht
    rw [set_dead hb'] at hst
    simpa [QRes.heap] using hst
  · have hq := q_appU (x := qAt P base ops j a h) (enc := enc) (ys := ys) (by simpa [accV, hl0] using h0) (by simpa [accB, hl0] using hb) hbase he hs hby hz hzf harg hm hok hl hx hym hbig
    exact TI.op hq keep keepH (by simpa [QRes.heap] using hst) ht

/-! ### Answers in any heap; renamings -/
theorem PureSim.any {g : FuncId} {args : List Value} (hP : PureSim P g args [] v []) (ha : ∀ x ∈ args, isFlat x = true) (hv : isFlat v = true) (h : List Blk) : PureSim P g args h v [] :=
  PureSim.ren (hc := []) (fun _ => (0, 0)) hP (.nil 0) (.flat ha) (.flat hv) (fun b hb => by cases hb)

theorem RnB.same {p : Bool} {f : Nat → Nat × Nat} {n : Nat} {vs : List Value} (hf : ∀ v ∈ vs, isFlat v = true) : RnB p f n (.cells t vs) (.cells t vs) 0 :=
  .cells t vs vs 0 (by rw [takeAll rfl]; exact .flat hf)
theorem RnB.list {p : Bool} {f : Nat → Nat × Nat} {n : Nat} (hf : ∀ y, (enc y).all isFlat = true) : RnB p f n (.cells t (l.flatMap enc)) (.cells t (l.flatMap enc)) 0 :=
  RnB.same fun v hv => by
    obtain ⟨y, _, hy⟩ := List.mem_flatMap.1 hv
    exact List.all_eq_true.1 (hf y) v hy
theorem RnB.lit {p : Bool} {f : Nat → Nat × Nat} {n : Nat} {vs2 vs : List Value} (hr : LRn p f n vs2 vs) : RnB p f n (.cells t vs2) (.cells t vs) 0 :=
  .cells t vs2 vs 0 (by rw [takeAll hr.len.symm]; exact hr)
theorem At.acc {p : Bool} {f : Nat → Nat × Nat} {n : Nat} {i c : Nat} (hb : h[(f i).1]? = some (accB t c (l.flatMap enc))) (h0 : (f i).2 = 0) (hf : ∀ y, (enc y).all isFlat = true) : At p f n h i (accB t c (l.flatMap enc)) := by
  unfold accB at hb ⊢
  split
  · exact .inl rfl
  · rename_i hc
    rw [if_neg hc] at hb
    exact .inr ⟨_, hb, by rw [h0]; exact RnB.list hf⟩
theorem At.accU {p : Bool} {f : Nat → Nat × Nat} {n : Nat} {i c : Nat} (hb : h[(f i).1]? = some (.cells t (l.flatMap enc))) (h0 : (f i).2 = 0) (hf : ∀ y, (enc y).all isFlat = true) : At p f n h i (accB t c (l.flatMap enc)) := by
  unfold accB
  split
  · exact .inl rfl
  · exact .inr ⟨_, hb, by rw [h0]; exact RnB.list hf⟩
theorem At.accN {p : Bool} {f : Nat → Nat × Nat} {n : Nat} {i : Nat} {vs : List Value} : At p f n h i (accB t 0 vs) := .inl (by simp [accB])
theorem At.blk {p : Bool} {f : Nat → Nat × Nat} {n : Nat} {i : Nat} {b2 b1 : Blk} (hb : h[(f i).1]? = some b1) (hr : RnB p f n b2 b1 (f i).2) : At p f n h i b2 := .inr ⟨_, hb, hr⟩

theorem Rn.acc {p : Bool} {f : Nat → Nat × Nat} {n i c i' : Nat} (hi : i < n) (hf : f i = (i', 0)) : Rn p f n (accV i c) (accV i' c) := by
  rw [accV_eq, accV_eq]
  split
  · exact .flat rfl
  · have := Rn.slice0 (p := p) (f := f) (n := n) i 0 c UNK hi (by rw [hf])
    rw [hf] at this
    exact this
theorem Rn.accU {p : Bool} {f : Nat → Nat × Nat} {n i c i' : Nat} (hi : i < n) (hf : f i = (i', 0)) (hc : ¬ c = 0) : Rn p f n (accV i c) (.slice (some ⟨i', 0, none⟩) c UNK) := by
  have := Rn.acc (p := p) (n := n) (c := c) hi hf
  rw [accV_pos (b := i') hc] at this
  exact this
theorem Rn.accN {p : Bool} {f : Nat → Nat × Nat} {n i : Nat} : Rn p f n (accV i 0) (.slice none 0 0) := .flat rfl
theorem Rn.accA {f : Nat → Nat × Nat} {n i c i' : Nat} (hi : i < n) (hf : f i = (i', 0)) : Rn true f n (.slice (some ⟨i, 0, none⟩) c ANY) (accV i' c) := by
  rw [accV_eq]
  split
  · rename_i e; subst e; exact .anyN i 0 ANY rfl (by decide)
  · have := Rn.any (p := true) (f := f) (n := n) i 0 0 c UNK ANY hi (by rw [hf]) rfl (by decide)
    rw [hf] at this
    exact this
theorem snoc_ne {ys : List α} (h : ys.length ≠ 0) : ¬ (l ++ ys).length = 0 := by rw [List.length_append]; omega
end
end Go.Cl
namespace Go.Cl
open Go Go.RowKit
/-- Where a function's body is to end. -/
def FinP (P : Program) (fn : Func) (L : Nat) (v : Value) (new : List Blk) : Post := fun e a1 h1 =>
  (e = .normal ∨ e = .ret) ∧ a1.marks = [] ∧ ∃ v1, cResults P fn a1 h1 = some v1 ∧ WkV P L L v1 h1 v (List.replicate L Blk.dead ++ new)
theorem PureSim.of_Fin {P : Program} {g : FuncId} {args : List Value} {h : List Blk} {v : Value} {new : List Blk} {fn : Func} {c : Code} (hfn : P.funcs[g]? = some fn) (hc : fn.body = some c)
    (hname : (fn.name == "runtime.NumGoroutine") = false) (L : Nat) (hL : h.length = L) (keep keepH : List Nat) {a2 : CAct} {h2 : List Blk}
    (hs : mk2 keep keepH ({ tmps := args ++ List.replicate (fn.ntmps - args.length) undef }, h) = (a2, h2)) (ht : TS P L L c a2 h2 (NX P L L [] (FinP P fn L v new))) : PureSim P g args h v new := by
  subst hL
  exact PureSim.of_TS hfn hc hname (TS.startM keep keepH hs ht)
theorem flatL {l : List Value} (h : l.all isFlat = true) : ∀ x ∈ l, isFlat x = true := fun x hx => List.all_eq_true.1 h x hx
theorem accB_at {h : List Blk} {b n : Nat} {T : TypeId} {vs : List Value} (hb : h[b]? = some (accB T n vs)) {i : Nat} (hi : i < n) : h[b]? = some (.cells T vs) := by
  rw [hb, accB, if_neg (by omega)]
theorem newflat_nil : ∀ b ∈ ([] : List Blk), b = .dead ∨ blkFlat b = true := fun b hb => by cases hb
theorem newflat_cons {b : Blk} {l : List Blk} (h : b = .dead ∨ blkFlat b = true) (hl : ∀ b ∈ l, b = .dead ∨ blkFlat b = true) : ∀ x ∈ b :: l, x = .dead ∨ blkFlat x = true := fun x hx => by
  rcases List.mem_cons.1 hx with rfl | hx
  · exact h
  · exact hl x hx
theorem accB_flat {α : Type} {enc : α → List Value} {l : List α} {t : TypeId} {n : Nat} (hf : ∀ y, (enc y).all isFlat = true) : accB t n (l.flatMap enc) = .dead ∨ blkFlat (accB t n (l.flatMap enc)) = true := by
  unfold accB
  split
  · exact .inl rfl
  · refine .inr (List.all_eq_true.2 fun v hv => ?_)
    obtain ⟨y, _, hy⟩ := List.mem_flatMap.1 hv
    exact List.all_eq_true.1 (hf y) v hy
section
variable {P : Program} {base L : Nat} {c x y : Code} {a : CAct} {h : List Blk} {Φ : Post}
theorem TS.condKT' {o : Operand} {b : Bool} (hc : c = .cond o x y) (hv : a.eval o = .bool b) (hb : b = true) (ht : TS P base L x a h Φ) : TS P base L c a h Φ := TS.condT' hc (hb ▸ hv) ht
theorem TS.condKF' {o : Operand} {b : Bool} (hc : c = .cond o x y) (hv : a.eval o = .bool b) (hb : b = false) (ht : TS P base L y a h Φ) : TS P base L c a h Φ := TS.condF' hc (hb ▸ hv) ht
end
theorem lenAcc {P : Program} {x : Option QRes} {E : Env} {base b n m : Nat} {h : List Blk} {ts : Array TypeId} {ty e : TypeId} (hx : x = qBuiltin E base h m .len ts ty [accV b n]) (he : (ts[0]?).bind E.P.underlying = some (.slice e)) :
    x = some { val := .int .i64 (n : Int) } := by
  rw [hx]
  simp only [accV, qBuiltin, he]
end Go.Cl

namespace Go.Cl
open Go Go.RowKit
theorem LRn.stx {p : Bool} {f : Nat → Nat × Nat} {n m : Nat} {l' : List Value} (idx : List Nat) (cvs avs : List Value) (hr : LRn p f n cvs avs) (ha : idx.map (fun i => l'.getD i undef) = avs) (hlen : l'.length = m) (hp : p = true) :
    LRn p f n (Cl.st m (idx.zip cvs)).tmps l' := by
  refine LRn.st hlen hp fun x hx v' hv' => ?_
  obtain ⟨j, hj⟩ := List.mem_iff_getElem?.1 hx
  rw [List.getElem?_zip_eq_some] at hj
  obtain ⟨h1, h2⟩ := hj
  refine hr.at_ j _ _ h2 ?_
  rw [← ha, List.getElem?_map, h1]
  simp only [Option.map_some, List.getD, hv', Option.getD_some]
section
variable {P : Program} {base L : Nat} {c : Code} {a : CAct} {h : List Blk} {Φ Ψ : Post}
theorem TL.post (ht : TL P base L c a h Φ) (hp : ∀ e a1 h1, Φ e a1 h1 → ∃ a2 h2, Ψ e a2 h2 ∧ Wk P base L a1 h1 a2 h2) : TL P base L c a h Ψ :=
  fun N D0 β0 κ0 w0 w a' Q hf hb hq => ht N D0 β0 κ0 w0 w a' Q hf hb fun e a1 h1 a1' w1 h1' hf' hb' =>
    let ⟨_, _, h2', hw⟩ := hp e a1 h1 h1'
    hq _ _ _ _ _ h2' (hw _ _ _ _ _ _ hf') hb'
end
end Go.Cl

namespace Go.Cl
open Go Go.RowKit
/-- A slice that is its whole block. -/
def mkV (b n : Nat) : Value := .slice (some ⟨b, 0, none⟩) n n
section
variable {P : Program} {base L : Nat} {a a1 a2 : CAct} {h h1 h2 hp new : List Blk} {ops : Array Oper} {j : Nat} {q : QRes} {v : Value} {x : Option QRes} {α : Type} {enc : α → List Value} {l : List α} {s i off b k m n : Nat} {t T : TypeId}

theorem flatten_rep (z : α) : ∀ (k : Nat), (List.replicate k (enc z)).flatten = (List.replicate k z).flatMap enc
  | 0 => rfl
  | k + 1 => by simp only [List.replicate_succ, List.flatten_cons, List.flatMap_cons, flatten_rep z k]

/-- `make`. -/
theorem q_make {e : TypeId} {y : Int} {z : Value} {bytes : Nat} (d : α) (h : x = cMakeSlice P n t (.int .i64 y) (.int .i64 y)) (he : P.underlying t = some (.slice e)) (hs : sizeT P e = some s) (hby : bytesT P e = some bytes) (hz : zeroT P e = some z)
    (hzf : (flat1 z && (z.cells.size == s)) = true) (hd : z.cells.toList = enc d) (hy : 0 ≤ y ∧ y ≤ 1000000000) (hb : (bytes + 1) * 1000000000 ≤ 2 ^ 48) :
    x = some { val := mkV n (List.replicate (Int.toNat y) d).length, new := [.cells e ((List.replicate (Int.toNat y) d).flatMap enc)] } := by
  simp only [Bool.and_eq_true, beq_iff_eq] at hzf
  have hcap : ((bytes : Int) + 1) * y ≤ 2 ^ 48 := by
    have h1 : ((bytes : Int) + 1) * y ≤ ((bytes : Int) + 1) * 1000000000 := Int.mul_le_mul_of_nonneg_left hy.2 (by omega)
    have h2 : (((bytes + 1) * 1000000000 : Nat) : Int) ≤ ((2 ^ 48 : Nat) : Int) := Int.ofNat_le.2 hb
    have e1 : (((bytes + 1) * 1000000000 : Nat) : Int) = ((bytes : Int) + 1) * 1000000000 := by simp
    rw [e1] at h2
    exact Int.le_trans h1 h2
  rw [h]
  simp only [cMakeSlice, cInt, he, hs, hby, hz, hzf.1, Bool.not_true, Bool.false_eq_true, if_false]
  rw [if_pos ⟨hy.1, Int.le_refl _, hcap, by simp only [INF]; omega, hzf.2⟩, hd, flatten_rep]
  simp [mkV]

theorem flatMap_set {d z : α} {xs : List Value} (hl : ∀ y, (enc y).length = s) (hz : enc z = (enc (l.getD i d)).take k ++ xs ++ (enc (l.getD i d)).drop (k + xs.length)) (hk : k + xs.length ≤ s) (hi : i < l.length) :
    (l.flatMap enc).take (i * s + k) ++ xs ++ (l.flatMap enc).drop (i * s + k + xs.length) = (l.set i z).flatMap enc := by
  induction l generalizing i with
  | nil => simp at hi
  | cons y l ih =>
    cases i with
    | zero =>
      simp only [List.getD_cons_zero] at hz
      simp only [List.flatMap_cons, Nat.zero_mul, Nat.zero_add, List.set_cons_zero]
      have hle : k + xs.length ≤ (enc y).length := by rw [hl]; exact hk
      rw [List.take_append_of_le_length (by omega), List.drop_append_of_le_length hle, hz]
      simp
    | succ i =>
      simp only [List.getD_cons_succ] at hz
      simp only [List.flatMap_cons, List.set_cons_succ]
      have ih' := ih hz (by simpa using hi)
      rw [← ih']
      have e1 : (i + 1) * s + k = (enc y).length + (i * s + k) := by rw [hl, Nat.add_mul]; omega
      have e2 : (i + 1) * s + k + xs.length = (enc y).length + (i * s + k + xs.length) := by rw [hl, Nat.add_mul]; omega
      rw [e2, e1, List.take_append, List.drop_append]
      simp only [Nat.add_sub_cancel_left, List.append_assoc]
      rw [List.take_of_length_le (Nat.le_add_right _ _), List.drop_of_length_le (Nat.le_add_right _ _)]
      simp

/-- A cell, or cells, of an element are written. -/
theorem q_st {y : Value} {xs : List Value} (d z : α) (h : x = cStore P base hp t (.pointer (some ⟨b, off, none⟩)) y) (hb : hp[b]? = some (.cells T (l.flatMap enc))) (hbase : base ≤ b) (hs : sizeT P t = some n)
    (hy : ((y.cells.size == n) && okPart y) = true) (hxs : y.cells.toList = xs) (hok : (xs.all cellOk && !xs.isEmpty) = true) (hl : ∀ y, (enc y).length = s) (ho : off = i * s + k) (hk : k + xs.length ≤ s) (hi : i < l.length)
    (hz : enc z = (enc (l.getD i d)).take k ++ xs ++ (enc (l.getD i d)).drop (k + xs.length)) : x = some { val := undef, upd := some (b, .cells T ((l.set i z).flatMap enc)) } := by
  simp only [Bool.and_eq_true, beq_iff_eq, Bool.not_eq_true'] at hy hok
  have hle : i * s + s ≤ (l.flatMap enc).length := by
    rw [flatMap_len hl, ← Nat.succ_mul]; exact Nat.mul_le_mul_right _ hi
  rw [h, ho]
  simp only [cStore, hs]
  rw [if_pos hy, hxs]
  simp only [cStoreAt, Option.isSome_none, Bool.false_eq_true, if_false, hok.2, hb]
  rw [if_pos ⟨hbase, by omega, hok.1⟩, flatMap_set hl hz hk hi]
  rfl

theorem Rn.mk {p : Bool} {f : Nat → Nat × Nat} {i i' c c' : Nat} (hi : i < n) (hf : f i = (i', 0)) (hc : c = c') : Rn p f n (mkV i c) (mkV i' c') := by
  subst hc
  have := Rn.slice0 (p := p) (f := f) (n := n) i 0 c c hi (by rw [hf])
  rw [hf] at this
  exact this
theorem Rn.mkA {f : Nat → Nat × Nat} {i i' c c' : Nat} (hi : i < n) (hf : f i = (i', 0)) (hc : c = c') : Rn true f n (.slice (some ⟨i, 0, none⟩) c ANY) (mkV i' c') := by
  subst hc
  have := Rn.any (p := true) (f := f) (n := n) i 0 0 c c ANY hi (by rw [hf]) rfl (by decide)
  rw [hf] at this
  exact this

/-- A part of a list that is only read. -/
theorem win_read {st' len : Nat} (hl : ∀ y, (enc y).length = s) : ((l.flatMap enc).drop (st' * s)).take (len * s) = ((l.drop st').take len).flatMap enc := by
  induction st' generalizing l with
  | zero =>
    simp only [Nat.zero_mul, List.drop_zero]
    induction len generalizing l with
    | zero => simp
    | succ len ih =>
      cases l with
      | nil => simp
      | cons y l =>
        simp only [List.flatMap_cons, List.take_succ_cons]
        rw [← ih, Nat.add_mul, Nat.one_mul, Nat.add_comm (len * s) s, ← hl y, List.take_length_add_append]
  | succ k ih =>
    cases l with
    | nil => simp
    | cons y l =>
      simp only [List.flatMap_cons, List.drop_succ_cons]
      rw [← ih, Nat.add_mul, Nat.one_mul, Nat.add_comm (k * s) s, ← hl y, ← List.drop_drop, List.drop_left]
end
end Go.Cl
namespace Go.Cl
open Go Go.RowKit
theorem q_ixAcc {x : Option QRes} (b : Nat) (n : Nat) {P : Program} {t : TypeId} {i : Int} {s : Nat} {e : TypeId} (h : x = qv (cIndexAddr P t (accV b n) (.int .i64 i))) (hc : 0 ≤ i ∧ i < (n : Int)) (he : P.underlying t = some (.slice e)) (hs : sizeT P e = some s) :
    x = some { val := .pointer (some ⟨b, 0 + Int.toNat i * s, none⟩) } := by
  rw [h, accV_pos (by omega)]
  simp only [cIndexAddr, cInt, he, hs]
  rw [if_pos hc, add_eq]
  rfl
end Go.Cl
namespace Go.Cl
open Go Go.RowKit
theorem cellsL_flat {α : Type} {enc : α → List Value} {l : List α} {t : TypeId} (hf : ∀ y, (enc y).all isFlat = true) : Blk.cells t (l.flatMap enc) = .dead ∨ blkFlat (.cells t (l.flatMap enc)) = true := by
  refine .inr (List.all_eq_true.2 fun v hv => ?_)
  obtain ⟨y, _, hy⟩ := List.mem_flatMap.1 hv
  exact List.all_eq_true.1 (hf y) v hy
end Go.Cl
namespace Go.Cl
theorem q_eqv {x : Option QRes} {q q' : QRes} (h : x = some q) (e : q = q') : x = some q' := e ▸ h
end Go.Cl
namespace Go.Cl
section
variable {P : Program} {base n m s b off : Nat} {x : Option QRes} {hp : List Blk} {k : IntKind} {y z : Int} {t e : TypeId} {α : Type} {enc : α → List Value} {l : List α}
theorem cb_lo (h : 0 ≤ y ∧ y ≤ (n : Int)) : cBounds n n (some (.int k y)) none none = some (Int.toNat y, n, n) := by
  delta cBounds
  simp only [cInt, Option.bind_some, if_pos h]
theorem cb_hi (h : 0 ≤ y ∧ y ≤ (n : Int)) : cBounds n n none (some (.int k y)) none = some (0, Int.toNat y, n) := by
  delta cBounds
  simp only [cInt, Option.bind_some, if_pos h]
theorem cb_both (h : 0 ≤ y ∧ y ≤ z) (h2 : z ≤ (n : Int)) : cBounds n n (some (.int k y)) (some (.int k z)) none = some (Int.toNat y, Int.toNat z, n) := by
  have h3 : 0 ≤ y ∧ y ≤ ((Int.toNat z : Nat) : Int) := by omega
  have h4 : 0 ≤ z ∧ z ≤ (n : Int) := by omega
  delta cBounds
  simp only [cInt, Option.bind_some, if_pos h4, if_pos h3]
/-- A part of a slice that is only read. -/
theorem q_slA {lo hi : Option Value} {a c : Nat} (h : x = qv (cSlice P t (.slice (some ⟨b, off, none⟩) n ANY) lo hi none)) (he : P.underlying t = some (.slice e)) (hs : sizeT P e = some s) (hb : cBounds n n lo hi none = some (a, c, m)) :
    x = some { val := .slice (some ⟨b, off + a * s, none⟩) (c - a) ANY } := by
  rw [h]
  simp only [cSlice, he, hs]
  rw [if_neg (by decide), hb]
  simp only [Option.map_some, add_eq]
  rw [if_pos (by decide)]
  rfl
/-- What is read for an append: a part of a list. -/
theorem appArg_win {bytes : Nat} {zr : Value} {d : Option TypeDesc} {st' len c : Nat} (hd : d = some (.slice e)) (hb : hp[b]? = some (.cells t (l.flatMap enc))) (hl : ∀ y, (enc y).length = s) (ho : off = st' * s) (hle : st' + len ≤ l.length) :
    appArg hp s bytes zr d (.slice (some ⟨b, off, none⟩) len c) = some (len, ((l.drop st').take len).flatMap enc) := by
  subst hd ho
  have hlen := flatMap_len (l := l) hl
  simp only [appArg, readCells]
  split
  · rename_i h0
    rcases Nat.mul_eq_zero.1 h0 with h1 | h1
    · subst h1; simp
    · subst h1
      have : ∀ q : List α, q.flatMap enc = [] := fun q => by
        rw [List.flatMap_eq_nil_iff]; intro y _; exact List.length_eq_zero_iff.1 (hl y)
      simp [this]
  · simp only [hb]
    rw [if_pos (by rw [hlen, ← Nat.add_mul]; exact Nat.mul_le_mul_right _ hle), win_read hl]
    rfl
end
end Go.Cl
