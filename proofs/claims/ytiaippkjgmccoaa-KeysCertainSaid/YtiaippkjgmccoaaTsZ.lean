/- The framework, Ts15 to Ts29. -/
import Derived.Test.YtiaippkjgmccoaaTs14
import Derived.Test.YtiaippkjgmccoaaTs8
import Derived.Test.YtiaippkjgmccoaaTs10
set_option linter.unusedVariables false
namespace Go.Cl
open Go Go.RowKit
section
variable {P : Program} {base L : Nat} {ops : Array Oper} {rest : List Oper} {o : Oper} {a a1 a2 : CAct} {h h1 h2 : List Blk} {Ψ : CAct → List Blk → Prop}
theorem ActR.keep {D D2 : Nat → Prop} {β β2 : Nat → Nat × Nat} {κ κ2 : Nat → Nat} {a' : Act} {n : Nat} (hA : ActR D β κ a a') (hD : ∀ i, D i → i < n) (he : ∀ i, i < n → (D2 i ↔ D i) ∧ β2 i = β i ∧ κ2 i = κ i) : ActR D2 β2 κ2 a a' :=
 hA.mono (fun i hi => (he i (hD i hi)).1.2 hi) (fun i hi => (he i (hD i hi)).2)
end
end Go.Cl
set_option linter.unusedVariables false
namespace Go.Cl
open Go Go.RowKit
section
variable {P : Program} {base L : Nat} {c x y : Code} {a a1 a2 : CAct} {h h1 h2 : List Blk} {Φ Ψ : Post} {e : Exit}
variable {K : List Fr}
end
end Go.Cl
set_option linter.unusedVariables false
namespace Go.Cl
open Go Go.RowKit
def putF (f : Nat → Nat × Nat) : Nat → List Blk → List Blk → List Blk
 | _, [], h => h
 | i, b :: l, h => putF f (i + 1) l (h.set (f i).1 b)
theorem putF_len {f : Nat → Nat × Nat} : ∀ (l : List Blk) (i : Nat) (h : List Blk), (putF f i l h).length = h.length
 | [], _, _ => rfl
 | b :: l, i, h => (putF_len l (i + 1) _).trans (by simp)
theorem putF_other {f : Nat → Nat × Nat} : ∀ (l : List Blk) (i : Nat) (h : List Blk) (k : Nat), (∀ j, j < l.length → k ≠ (f (i + j)).1) → (putF f i l h)[k]? = h[k]?
 | [], _, _, _, _ => rfl
 | b :: l, i, h, k, hk => by
  refine (putF_other l (i + 1) _ k fun j hj => ?_).trans ?_
  · have := hk (j + 1) (by simpa using hj)
    rwa [show i + 1 + j = i + (j + 1) by omega]
  have := hk 0 (by simp)
  rw [List.getElem?_set, if_neg (fun e => this (by simpa using e.symm))]
theorem putF_at {f : Nat → Nat × Nat} : ∀ (l : List Blk) (i : Nat) (h : List Blk), (∀ j k, j < l.length → k < l.length → (f (i + j)).1 = (f (i + k)).1 → j = k) → (∀ j, j < l.length → (f (i + j)).1 < h.length) →
 ∀ (j : Nat) (b : Blk), l[j]? = some b → (putF f i l h)[(f (i + j)).1]? = some b
 | [], _, _, _, _, j, b, hj => by simp at hj
 | c :: l, i, h, hi, hh, j, b, hj => by
  cases j with
  | zero =>
   simp only [List.getElem?_cons_zero, Option.some.injEq] at hj
   subst hj
   refine (putF_other l (i + 1) _ _ fun k hk e => ?_).trans ?_
   · have := hi 0 (k + 1) (by simp) (by simpa using hk) (by rw [show i + (k + 1) = i + 1 + k by omega]; exact e)
     omega
   have := hh 0 (by simp)
   simp only [Nat.add_zero] at this ⊢
   simp [this]
  | succ j =>
   have := putF_at l (i + 1) (h.set (f i).1 c) (fun a b ha hb e => by
    have := hi (a + 1) (b + 1) (by simpa using ha) (by simpa using hb) (by rw [show i + (a + 1) = i + 1 + a by omega, show i + (b + 1) = i + 1 + b by omega]; exact e)
    omega) (fun a ha => by
    have := hh (a + 1) (by simpa using ha)
    rw [show i + (a + 1) = i + 1 + a by omega] at this
    simpa using this) j b (by simpa using hj)
   rwa [show i + (j + 1) = i + 1 + j by omega]
theorem ImpSim.frame {P : Program} {g : FuncId} {argsc args : List Value} {base n : Nat} {h ro wr wr' : List Blk} {v : Value} (f : Nat → Nat × Nat)
 (hP : ImpSim P g argsc ro.length (ro ++ wr) v (ro ++ wr')) (hl : wr'.length = wr.length) (hnn : n = (ro ++ wr).length) (hb : Ats true f n h 0 (ro ++ wr))
 (hw : ∀ j, ro.length ≤ j → j < n → base ≤ (f j).1 ∧ (f j).2 = 0 ∧ ∀ i, i < n → (f i).1 = (f j).1 → i = j)
 (hf : wr.all blkFlat = true) (hf' : wr'.all blkFlat = true) (ha : LRn true f n argsc args) (hv : isFlat v = true) : ImpSim P g args base h v (putF f ro.length wr' h) := by
 have hnl : n = ro.length + wr.length := by rw [hnn]; simp
 have hal : ∀ {c : Blk}, blkFlat c = true → c ≠ .dead := fun hc e => by rw [e] at hc; cases hc
 have at_ : ∀ i, toF (ro ++ wr) i ≠ .dead → i < n ∧ ∃ b, h[(f i).1]? = some b ∧ b ≠ .dead ∧ RnB true f n (toF (ro ++ wr) i) b (f i).2 := by
  intro i hi
  by_cases hil : i < n
  · have hx := List.getElem?_eq_getElem (l := ro ++ wr) (by rw [hnn] at hil; exact hil)
    have hA := hb.get hx
    rw [Nat.zero_add] at hA
    rw [toF_some hx] at hi ⊢
    rcases hA with e | ⟨b, h1, h3⟩
    · exact absurd e hi
    refine ⟨hil, b, h1, ?_, h3⟩
    intro e
    subst e
    exact RnB.nd h3
  exact absurd (by simp only [toF, List.getD, List.getElem?_eq_none (show (ro ++ wr).length ≤ i by omega), Option.getD_none]) hi
 have wal : ∀ j, ro.length ≤ j → j < n → toF (ro ++ wr) j ≠ .dead := fun j h1 h2 => by
  have hx : (ro ++ wr)[j]? = some (wr[j - ro.length]'(by omega)) := by rw [List.getElem?_append_right h1]; exact List.getElem?_eq_getElem _
  rw [toF_some hx]
  exact hal (List.all_eq_true.1 hf _ (List.getElem_mem _))
 have wlt : ∀ j, ro.length ≤ j → j < n → (f j).1 < h.length := fun j h1 h2 => by
  obtain ⟨_, b, h3, _⟩ := at_ j (wal j h1 h2)
  exact (List.getElem?_eq_some_iff.1 h3).1
 have put_at : ∀ j b, wr'[j]? = some b → (putF f ro.length wr' h)[(f (ro.length + j)).1]? = some b := fun j b hj =>
  putF_at wr' ro.length h (fun a c ha' hc e => by
   have := (hw (ro.length + c) (by omega) (by omega)).2.2 (ro.length + a) (by omega) e
   omega) (fun a ha' => wlt _ (by omega) (by omega)) j b hj
 have which : ∀ i, (∃ j b, ro.length ≤ j ∧ j < n ∧ i = (f j).1 ∧ (ro ++ wr')[j]? = some b ∧ b ∈ wr' ∧ toF (putF f ro.length wr' h) i = b) ∨
  ((∀ j, ro.length ≤ j → j < n → i ≠ (f j).1) ∧ toF (putF f ro.length wr' h) i = toF h i) := fun i => by
  by_cases hx : ∃ j, ro.length ≤ j ∧ j < n ∧ i = (f j).1
  · obtain ⟨j, h1, h2, rfl⟩ := hx
    have hj : j - ro.length < wr'.length := by omega
    refine .inl ⟨j, wr'[j - ro.length], h1, h2, rfl, ?_, List.getElem_mem _, ?_⟩
    · rw [List.getElem?_append_right h1]; exact List.getElem?_eq_getElem _
    have := put_at (j - ro.length) _ (List.getElem?_eq_getElem hj)
    rw [show ro.length + (j - ro.length) = j by omega] at this
    exact toF_some this
  refine .inr ⟨fun j h1 h2 e => hx ⟨j, h1, h2, e⟩, ?_⟩
  have := putF_other (f := f) wr' ro.length h i (fun j hj e => hx ⟨ro.length + j, by omega, by omega, e⟩)
  simp only [toF, List.getD, this]
 refine ⟨hP.1, fun D β κ N w args' hD hbl hR hargs => ?_⟩
 have hn : Num f n D β κ (fun i => i < n ∧ D (f i).1) (fun i => ((β (f i).1).1, (β (f i).1).2 + (f i).2)) (fun i => κ (f i).1) :=
  ⟨fun i hi => ⟨fun x => x.2, fun x => ⟨hi, x⟩⟩, fun i hi => rfl, fun i hi _ => rfl⟩
 have br_ : ∀ i, toF (ro ++ wr) i ≠ .dead → toF h (f i).1 ≠ .dead ∧ BR P (fun i => i < n ∧ D (f i).1) (fun i => ((β (f i).1).1, (β (f i).1).2 + (f i).2)) (fun i => κ (f i).1) i (toF (ro ++ wr) i) w := fun i hi => by
  obtain ⟨hil, b, h1, h2', h3⟩ := at_ i hi
  have hB := hR.blk (f i).1
  rw [toF_some h1] at hB
  exact ⟨by rw [toF_some h1]; exact h2', h3.br hn hil hB⟩
 let K : Kp := ⟨fun b => b < w.heap.size ∧ ∀ j, ro.length ≤ j → j < n → b ≠ (β (f j).1).1⟩
 have hNK : N.sub K := fun b hN => ⟨hR.size b hN, fun j h1 h2 e => by
  have := (hR.own (f j).1 (br_ j (wal j h1 h2)).1 (hw j h1 h2).1).1
  exact this (e ▸ hN)⟩
 have old : ∀ i, toF h i ≠ .dead → (∀ j, ro.length ≤ j → j < n → i ≠ (f j).1) → K.has (β i).1 := fun i hi hno => ⟨(hR.blk i).valid hi, fun j h1 h2 e => by
  obtain ⟨h3, _⟩ := br_ j (wal j h1 h2)
  by_cases hib : base ≤ i
  · exact hno j h1 h2 (hR.inj i (f j).1 hi h3 hib (hw j h1 h2).1 e)
  exact Kp.ne (hR.ro i hi (by omega)) (hR.own (f j).1 h3 (hw j h1 h2).1).1 e⟩
 have hRc : Rel P (fun i => i < n ∧ D (f i).1) (fun i => ((β (f i).1).1, (β (f i).1).2 + (f i).2)) (fun i => κ (f i).1) ro.length K (toF (ro ++ wr)) w := by
  refine ⟨fun i => ?_, fun i hi hib => ?_, fun i hi hib => ?_, fun i j hi hj hib hjb he => ?_, fun b hb => hb.1⟩
  · by_cases hd : toF (ro ++ wr) i = .dead
    · rw [hd]; trivial
    exact (br_ i hd).2
  · obtain ⟨hil, _⟩ := at_ i hi
    exact old _ (br_ i hi).1 fun j h1 h2 e => by
     have := (hw j h1 h2).2.2 i hil e
     omega
  · obtain ⟨hil, b, h1, h2', h3⟩ := at_ i hi
    have hO := hR.own (f i).1 (by rw [toF_some h1]; exact h2') (hw i hib hil).1
    rw [toF_some h1] at hO
    exact ⟨fun hK => hK.2 i hib hil rfl, h3.own hn hil (hw i hib hil).2.1 hO.2⟩
  obtain ⟨hil, _⟩ := at_ i hi
  obtain ⟨hjl, _⟩ := at_ j hj
  exact (hw j hjb hjl).2.2 i hil (hR.inj _ _ (br_ i hi).1 (br_ j hj).1 (hw i hib hil).1 (hw j hjb hjl).1 he)
 refine Calls.mono (hP.2 _ _ _ K w args' (fun i hi => by rw [← hnn]; exact hi.1) (by simp) hRc (ha.lr hn hargs)) ?_
 rintro e w' ⟨v', β', κ', rfl, hO, hvr⟩
 have hU : Up D h (putF f ro.length wr' h) = D := Out.up_same (putF_len _ _ _)
 have hext : ∀ j, ro.length ≤ j → j < n → β (f j).1 = β' j ∧ κ (f j).1 = κ' j := fun j h1 h2 => by
  have he := hO.ext j (by rw [← hnn]; exact h2)
  refine ⟨?_, he.2.symm⟩
  rw [he.1]
  simp [(hw j h1 h2).2.1]
 rw [hvr.flat hv]
 refine ⟨v, β, κ, rfl, ⟨by rw [putF_len]; exact Nat.le_refl _, fun i _ => ⟨rfl, rfl⟩, ?_, hO.below.mono hNK⟩, .of_flat hv⟩
 rw [hU]
 refine ⟨fun i => ?_, fun i hi hib => ?_, fun i hi hib => ?_, fun i j hi hj hib hjb he => ?_, hR.size.le hO.below.size⟩
 · rcases which i with ⟨j, b, h1, h2, rfl, h3, h4, h5⟩ | ⟨hno, h5⟩
   · rw [h5]
     have := hO.rel.blk j
     rw [toF_some h3] at this
     exact BR.any (List.all_eq_true.1 hf' b h4) (hext j h1 h2).1 this
   rw [h5]
   by_cases hd : toF h i = .dead
   · rw [hd]; trivial
   exact (hR.blk i).move (fun _ x => x) Ext.refl rfl (hO.below.block _ (old i hd hno))
 · rcases which i with ⟨j, b, h1, h2, rfl, h3, h4, h5⟩ | ⟨hno, h5⟩
   · exact absurd (hw j h1 h2).1 (by omega)
   rw [h5] at hi; exact hR.ro i hi hib
 · rcases which i with ⟨j, b, h1, h2, rfl, h3, h4, h5⟩ | ⟨hno, h5⟩
   · rw [h5]
     have hOw := hO.rel.own j (by rw [toF_some h3]; exact hal (List.all_eq_true.1 hf' b h4)) h1
     rw [toF_some h3] at hOw
     exact ⟨(hR.own (f j).1 (br_ j (wal j h1 h2)).1 hib).1, OwnB.any (hext j h1 h2).1 (hext j h1 h2).2 hOw.2⟩
   rw [h5] at hi ⊢
   have := hR.own i hi hib
   exact ⟨this.1, this.2.move ⟨rfl, rfl⟩ (hO.below.block _ (old i hi hno))⟩
 have alive : ∀ i, toF (putF f ro.length wr' h) i ≠ .dead → toF h i ≠ .dead := fun i hi => by
  rcases which i with ⟨j, b, h1, h2, rfl, h3, h4, h5⟩ | ⟨hno, h5⟩
  · exact (br_ j (wal j h1 h2)).1
  rwa [h5] at hi
 exact hR.inj i j (alive i hi) (alive j hj) hib hjb he
end Go.Cl
set_option linter.unusedVariables false
namespace Go.Cl
open Go Go.RowKit
section
variable {α β : Type} [DecidableEq α]
def mget : List (α × β) → α → Option β
 | [], _ => none
 | (a, b) :: l, k => if k = a then some b else mget l k
def mput : List (α × β) → α → β → List (α × β)
 | [], k, x => [(k, x)]
 | (a, b) :: l, k, x => if k = a then (k, x) :: l else (a, b) :: mput l k x
def mdel : List (α × β) → α → List (α × β)
 | [], _ => []
 | (a, b) :: l, k => if k = a then l else (a, b) :: mdel l k
def mEnc (kv : α → Value) (vv : β → Value) (x : α × β) : Value × Value := (kv x.1, vv x.2)
variable {kv : α → Value} {vv : β → Value}
theorem find_enc (he : ∀ a b, eqKey (kv a) (kv b) = decide (a = b)) (k : α) : ∀ (l : List (α × β)) (i : Nat),
 (∃ x j, mget l k = some x ∧ findEntry (kv k) (l.map (mEnc kv vv)) i = some (i + j, vv x) ∧ (∀ y, (l.map (mEnc kv vv)).set j (kv k, vv y) = (mput l k y).map (mEnc kv vv)) ∧ (l.map (mEnc kv vv)).eraseIdx j = (mdel l k).map (mEnc kv vv)) ∨
 (mget l k = none ∧ findEntry (kv k) (l.map (mEnc kv vv)) i = none ∧ (∀ y, l.map (mEnc kv vv) ++ [(kv k, vv y)] = (mput l k y).map (mEnc kv vv)) ∧ l.map (mEnc kv vv) = (mdel l k).map (mEnc kv vv))
 | [], i => .inr ⟨rfl, rfl, fun y => rfl, rfl⟩
 | (a, b) :: l, i => by
  by_cases h : k = a
  · subst h
    refine .inl ⟨b, 0, by simp [mget], ?_, fun y => by simp [mput, mEnc], by simp [mdel]⟩
    simp [findEntry, mEnc, he]
  have hd : eqKey (kv k) (kv a) = false := by rw [he]; simpa using h
  rcases find_enc he k l (i + 1) with ⟨x, j, h1, h2, h3, h4⟩ | ⟨h1, h2, h3, h4⟩
  · refine .inl ⟨x, j + 1, by simpa [mget, h] using h1, ?_, fun y => ?_, ?_⟩
    · simp only [List.map_cons, mEnc, findEntry, hd, Bool.false_eq_true, if_false]
      rw [show i + (j + 1) = i + 1 + j by omega]
      exact h2
    · simp only [List.map_cons, List.set_cons_succ, mput, if_neg h, h3]
    simp only [List.map_cons, List.eraseIdx_cons_succ, mdel, if_neg h, h4]
  refine .inr ⟨by simpa [mget, h] using h1, ?_, fun y => ?_, ?_⟩
  · simp only [List.map_cons, mEnc, findEntry, hd, Bool.false_eq_true, if_false]
    exact h2
  · simp only [List.map_cons, List.cons_append, mput, if_neg h, h3]
  simp only [List.map_cons, mdel, if_neg h, ← h4]
variable {P : Program} {hp : List Blk} {t kt et : TypeId} {r base : Nat} {l : List (α × β)} {k : α} {key val : Value} {x : Option QRes}
theorem q_get (h : x = qv (cLookup P hp t (.map (some r)) key false)) (hk : key = kv k) (hb : hp[r]? = some (.map kt (l.map (mEnc kv vv)))) (hu : P.underlying t = some (.map kt et)) (hkt : keyT P kt = true)
 (hf : ∀ a, keyFits P kt (kv a) = true) (he : ∀ a b, eqKey (kv a) (kv b) = decide (a = b)) (d : β) (hz : zeroT P et = some (vv d)) (hzf : isFlat (vv d) = true) : x = some { val := vv ((mget l k).getD d) } := by
 rw [h, hk]
 simp only [cLookup, hu, hb]
 rw [if_pos ⟨trivial, hkt, hf k⟩]
 rcases find_enc (vv := vv) he k l 0 with ⟨y, j, h1, h2, _⟩ | ⟨h1, h2, _⟩
 · rw [h2, h1]; rfl
 rw [h2, h1]; simp only [hz]; rw [if_pos hzf]; rfl
theorem q_get2 (h : x = qv (cLookup P hp t (.map (some r)) key true)) (hk : key = kv k) (hb : hp[r]? = some (.map kt (l.map (mEnc kv vv)))) (hu : P.underlying t = some (.map kt et)) (hkt : keyT P kt = true)
 (hf : ∀ a, keyFits P kt (kv a) = true) (he : ∀ a b, eqKey (kv a) (kv b) = decide (a = b)) (d : β) (hz : zeroT P et = some (vv d)) (hzf : isFlat (vv d) = true) :
 x = some { val := .tuple ⟨[vv ((mget l k).getD d), .bool (mget l k).isSome]⟩ } := by
 rw [h, hk]
 simp only [cLookup, hu, hb]
 rw [if_pos ⟨trivial, hkt, hf k⟩]
 rcases find_enc (vv := vv) he k l 0 with ⟨y, j, h1, h2, _⟩ | ⟨h1, h2, _⟩
 · rw [h2, h1]; rfl
 rw [h2, h1]; simp only [hz]; rw [if_pos hzf]; rfl
theorem q_put {y : β} (h : x = cMapUpdate P base hp t (.map (some r)) key val) (hk : key = kv k) (hv : val = vv y) (hbr : base ≤ r) (hb : hp[r]? = some (.map kt (l.map (mEnc kv vv)))) (hu : P.underlying t = some (.map kt et))
 (hkt : keyT P kt = true) (hf : ∀ a, keyFits P kt (kv a) = true) (he : ∀ a b, eqKey (kv a) (kv b) = decide (a = b)) (hvf : ∀ b, flat1 (vv b) = true) :
 x = some { val := undef, upd := some (r, .map kt ((mput l k y).map (mEnc kv vv))) } := by
 rw [h, hk, hv]
 simp only [cMapUpdate, hu, hb]
 rw [if_pos ⟨hbr, hvf y, trivial, hkt, hf k⟩]
 rcases find_enc (vv := vv) he k l 0 with ⟨z, j, h1, h2, h3, _⟩ | ⟨h1, h2, h3, _⟩
 · rw [h2, ← h3 y]; simp only [Nat.zero_add]
 rw [h2, ← h3 y]
end
end Go.Cl
set_option linter.unusedVariables false
namespace Go.Cl
open Go Go.RowKit
def ImpFin (h' : List Blk) : Post := fun e a h => (e = .normal ∨ e = .ret) ∧ a.marks = [] ∧ ∃ x, h = h' ++ x
def SelfOk (n : Nat) (b : Blk) : Prop := ∀ n', n ≤ n' → b = .dead ∨ RnB true (fun i => (i, 0)) n' b b 0
theorem selfOk_flat {n : Nat} {b : Blk} (h : b = .dead ∨ blkFlat b = true) : SelfOk n b := fun n' hn => by
 rcases h with h | h
 · exact .inl h
 cases b with
 | cells t vs =>
  have hv : ∀ v ∈ vs, isFlat v = true := fun v hv => List.all_eq_true.1 (show vs.all isFlat = true from h) v hv
  refine .inr (.cells t vs vs 0 ?_)
  have : (vs.drop 0).take vs.length = vs := by simp
  rw [this]
  exact LRn.flat hv
 | map kt es => exact .inr (.map kt es)
 | _ => cases h
theorem selfOk_nil {n : Nat} : ∀ b ∈ ([] : List Blk), SelfOk n b := fun b hb => by cases hb
theorem selfOk_cons {n : Nat} {b : Blk} {l : List Blk} (h : SelfOk n b) (hl : ∀ b ∈ l, SelfOk n b) : ∀ x ∈ b :: l, SelfOk n x := fun x hx => by
 rcases List.mem_cons.1 hx with rfl | hx
 · exact h
 exact hl x hx
theorem ImpSim.of_Fin {P : Program} {g : FuncId} {args : List Value} {h h' : List Blk} {fn : Func} {c : Code} (hfn : P.funcs[g]? = some fn) (hc : fn.body = some c) (hname : (fn.name == "runtime.NumGoroutine") = false)
 (hres : fn.results.toList = []) (base L : Nat) (hL : h.length = L) (hl : h'.length = L) (hbl : base ≤ L) (hself : ∀ b ∈ h', SelfOk L b) (keep : List Nat) {a2 : CAct}
 (hs : maskA keep { tmps := args ++ List.replicate (fn.ntmps - args.length) undef } = a2) (ht : TS P base L c a2 h (NX P base L [] (ImpFin h'))) : ImpSim P g args base h (.tuple ⟨[]⟩) h' := by
 subst hL
 refine ImpSim.of_TS hfn hc hname (Nat.le_of_eq hl.symm) (TS.weak (Wk.tm keep) ?_)
 rw [hs]
 refine TS.post ht ?_
 rintro e a1 h1 ⟨he, hm, x, rfl⟩
 refine ⟨{ tmps := List.replicate a1.tmps.length poison }, h', ⟨he, rfl, rfl, ?_⟩, Wk.cut (by omega) (by omega) (fun i b hb => ?_) ⟨by simp, fun j v v' hv hv' => ?_⟩ hm rfl⟩
 · simp only [cResults, hres, List.mapM_nil]
   rfl
 · rcases hself b (List.mem_of_getElem? hb) h'.length (by omega) with e | hr
   · exact .inl e
   refine .inr ⟨b, ?_, hr⟩
   have := (List.getElem?_eq_some_iff.1 hb).1
   show (h' ++ x)[i]? = some b
   rw [List.getElem?_append_left this]
   exact hb
 rw [List.getElem?_replicate] at hv
 split at hv
 · cases hv; exact .poison _ rfl
 cases hv
def frameOk (f : Nat → Nat × Nat) (base r n : Nat) : Bool :=
 (List.range n).all fun j => Nat.blt j r || (Nat.ble base (f j).1 && Nat.beq (f j).2 0 && (List.range n).all fun i => !(Nat.beq (f i).1 (f j).1) || Nat.beq i j)
theorem frameOk_spec {f : Nat → Nat × Nat} {base r n : Nat} (h : frameOk f base r n = true) : ∀ j, r ≤ j → j < n → base ≤ (f j).1 ∧ (f j).2 = 0 ∧ ∀ i, i < n → (f i).1 = (f j).1 → i = j := by
 intro j h1 h2
 have h3 := List.all_eq_true.1 h j (List.mem_range.2 h2)
 rw [Bool.or_eq_true] at h3
 rcases h3 with h3 | h3
 · have := Nat.le_of_ble_eq_true (show Nat.ble (j + 1) r = true from h3); omega
 rw [Bool.and_eq_true, Bool.and_eq_true] at h3
 refine ⟨Nat.le_of_ble_eq_true h3.1.1, Nat.eq_of_beq_eq_true h3.1.2, fun i hi he => ?_⟩
 have h4 := List.all_eq_true.1 h3.2 i (List.mem_range.2 hi)
 rw [Bool.or_eq_true] at h4
 rcases h4 with h4 | h4
 · rw [he] at h4
   have : Nat.beq (f j).1 (f j).1 = true := Nat.beq_refl _
   rw [this] at h4
   cases h4
 exact Nat.eq_of_beq_eq_true h4
theorem ImpSim.frameB {P : Program} {g : FuncId} {argsc args : List Value} {base n : Nat} {h ro wr wr' : List Blk} {v : Value} (f : Nat → Nat × Nat)
 (hP : ImpSim P g argsc ro.length (ro ++ wr) v (ro ++ wr')) (hl : wr'.length = wr.length) (hnn : n = (ro ++ wr).length) (hb : Ats true f n h 0 (ro ++ wr))
 (hw : frameOk f base ro.length n = true) (hf : wr.all blkFlat = true) (hf' : wr'.all blkFlat = true) (ha : LRn true f n argsc args) (hv : isFlat v = true) : ImpSim P g args base h v (putF f ro.length wr' h) :=
 ImpSim.frame f hP hl hnn hb (frameOk_spec hw) hf hf' ha hv
end Go.Cl
set_option linter.unusedVariables false
namespace Go
end Go
namespace Go.Cl
open Go Go.RowKit
section
variable {P : Program} {base L : Nat} {ops : Array Oper} {rest : List Oper} {o : Oper} {a a1 a2 : CAct} {h h1 h2 : List Blk} {Ψ : CAct → List Blk → Prop} {j : Nat}
theorem TO.inline {f : Operand} {args : Array Operand} {ts : Array TypeId} {g : FuncId} {first captured : Array Value} {fn : Func} {c : Code} (hw : cWanted ops.toList a o = some true)
 (ho : o.op = .call ⟨.value f, args, ts⟩) (hf : a.eval f = .func (.func g) first captured) (hfn : P.funcs[g]? = some fn) (hc : fn.body = some c) (hname : (fn.name == "runtime.NumGoroutine") = false)
 (ht : TS P base h.length c { tmps := (first.toList ++ args.toList.map a.eval ++ captured.toList) ++ List.replicate (fn.ntmps - (first.toList ++ args.toList.map a.eval ++ captured.toList).length) undef } h
  fun e a1 h1 => (e = .normal ∨ e = .ret) ∧ a1.marks = [] ∧ ∃ v a2 h2, cResults P fn a1 h1 = some v ∧
   (∀ N D0 β0 κ0 v' w, (∃ D β κ, FitV P base N h.length D0 β0 κ0 v h1 v' w D β κ) → ∃ D β κ, FitV P base N h.length D0 β0 κ0 a2 h2 v' w D β κ) ∧ TO P base L ops rest (a.put o.dst a2) h2 Ψ) :
 TO P base L ops (o :: rest) a h Ψ := by
 rintro N D0 β0 κ0 R hR w0 w a' Q ⟨D, β, κ, hfit⟩ hb hQ
 have hw' := wanted_sim hw hfit.act
 simp only [wpListIn, hw', if_true]
 have hnd : ∀ c, o.op ≠ .defer c := fun c e => by rw [ho] at e; cases e
 have hfv := hfit.act.eval f
 rw [hf] at hfv
 have hI : Enters P g := ⟨fn, c, hfn, hc, hname⟩
 generalize hf' : a'.eval f = fv at hfv
 cases hfv with
 | func _ f1 f1' c1 c1' k1 k2 k3 k4 =>
  have hargs0 := LR.args hfit.act.eval args.toList
  have hargs := ((⟨k1, k2⟩ : LR D β κ f1 f1').app hargs0).app (⟨k3, k4⟩ : LR D β κ c1 c1')
  have hrun : (execOp a'.eval o).run P w = .ok (.enter g (⟨f1' ++ args.toList.map a'.eval ++ c1'⟩ : Array Value)) w := by
   have e2 := run_callFunc hI (⟨f1' ++ args.toList.map a'.eval ++ c1'⟩ : Array Value) w
   have e1 : (⟨f1'⟩ : Array Value) ++ (args.map a'.eval) ++ (⟨c1'⟩ : Array Value) = ⟨f1' ++ args.toList.map a'.eval ++ c1'⟩ := by
    apply Array.ext'; simp
   rw [← e1] at e2 ⊢
   simp only [execOp, ho, resolve, hf', Deferred.ofValue, Sem.run_bind, Sem.run_pure, Result.andThen_ok, invoke]
   simpa using e2
  refine wp_of_enter hnd hrun ?_
  have start : ActR D β κ { tmps := (f1 ++ args.toList.map a.eval ++ c1) ++ List.replicate (fn.ntmps - (f1 ++ args.toList.map a.eval ++ c1).length) undef }
   { tmps := (⟨f1' ++ args.toList.map a'.eval ++ c1'⟩ : Array Value) ++ Array.replicate (fn.ntmps - (⟨f1' ++ args.toList.map a'.eval ++ c1'⟩ : Array Value).size) undef, defers := [] } := by
   refine ⟨?_, rfl, fun m hm => by simp at hm⟩
   have h3 := hargs.app (LR.rep (fn.ntmps - (f1 ++ args.toList.map a.eval ++ c1).length) (VR.undef (D := D) (β := β) (κ := κ)))
   have h4 : (f1 ++ args.toList.map a.eval ++ c1).length = (f1' ++ args.toList.map a'.eval ++ c1').length := hargs.len
   rw [h4] at h3 ⊢
   simpa using h3
  refine callsIn_FW.1 (callsIn_of_wp_marks (F := FW none) (n := 0) hfn hc trivial ?_)
  refine ht N D β κ none (.inl rfl) w0 w _ _ ⟨D, β, κ, hfit.dom, hfit.bl, Nat.le_refl _, hfit.rel, start, fun i _ => ⟨Iff.rfl, rfl, rfl⟩⟩ hb ?_
  rintro e a1 h1 a1' w1 ⟨he, hm, v, v2, h2, hres, hwk, hnext⟩ ⟨D1, β1, κ1, f1⟩ hb1
  obtain ⟨v', r3, r4⟩ := results_sim f1.rel f1.act hres
  obtain ⟨D2, β2, κ2, f2⟩ := hwk N D β κ v' w1 ⟨D1, β1, κ1, f1.dom, f1.bl, f1.ll, f1.rel, r4, f1.ext⟩
  have leaves : LeavesInM (FW none) 0 P fn a1'.tmps (fun e w'' => ∃ v, e = .returned v ∧ wpListIn (FW R) 0 P ops Q rest (a'.put o.dst v) w'') a1'.defers .returning w1 := by
   rw [f1.act.marks, hm]
   refine ⟨v', r3, v', rfl, ?_⟩
   refine hnext N D0 β0 κ0 R hR w0 _ _ Q ⟨D2, β2, κ2, f2.dom, f2.bl, Nat.le_trans hfit.ll f2.ll, f2.rel, (ActR.keep hfit.act hfit.dom f2.ext).put o.dst f2.val, fun i hi => ?_⟩ hb1 hQ
   have x := f2.ext i (Nat.lt_of_lt_of_le hi hfit.ll)
   have y := hfit.ext i hi
   exact ⟨x.1.trans y.1, x.2.1.trans y.2.1, x.2.2.trans y.2.2⟩
  rcases he with rfl | rfl <;> exact leaves
def InlP (P : Program) (base n : Nat) (fn : Func) (Θ : Value → List Blk → Prop) : Post := fun e a1 h1 =>
 (e = .normal ∨ e = .ret) ∧ a1.marks = [] ∧ ∃ v v2 h2, cResults P fn a1 h1 = some v ∧ WkV P base n v h1 v2 h2 ∧ Θ v2 h2
theorem TI.inline {g : FuncId} {args : List Value} {fn : Func} {c : Code} {a2 : CAct} {n : Nat} (hc : callAt ops j a = some (g, args)) (hfn : P.funcs[g]? = some fn) (hcb : fn.body = some c) (hname : (fn.name == "runtime.NumGoroutine") = false)
 (hn : h.length = n) (keep : List Nat) (hs : maskA keep { tmps := args ++ List.replicate (fn.ntmps - args.length) undef } = a2)
 (ht : TS P base n c a2 h (NX P base n [] (InlP P base n fn fun v2 h2 => TI P base L ops (j + 1) (putAt ops j a v2) h2 Ψ))) : TI P base L ops j a h Ψ := by
 subst hn
 unfold callAt at hc
 split at hc
 · rename_i o ho
   split at hc
   · rename_i hw
     split at hc
     · rename_i f cargs ts hop
       split at hc
       · rename_i g' first captured hf
         cases hc
         unfold TI
         rw [drop_at ho]
         refine TO.inline hw hop hf hfn hcb hname ?_
         refine TS.weak (Wk.tm keep) ?_
         rw [hs]
         refine TS.mono ht ?_
         rintro e a1 h1 ⟨he, hm, v, v2, h2, h3, h4, h5⟩
         refine ⟨he, hm, v, v2, h2, h3, h4, ?_⟩
         have e1 : putAt ops j a v2 = a.put o.dst v2 := by simp only [putAt, ho]
         rw [← e1]
         exact h5
       cases hc
     cases hc
   cases hc
 cases hc
end
section
variable {P : Program} {base L : Nat} {c x y : Code} {a a1 a2 : CAct} {h h1 h2 : List Blk} {Φ Ψ : Post} {e : Exit} {K : List Fr}
end
end Go.Cl
set_option linter.unusedVariables false
namespace Go.Cl
open Go Go.RowKit
def ownV (b n : Nat) : Value := .slice (some ⟨b, 0, none⟩) n UNK
section
variable {α : Type} {enc : α → List Value} {s : Nat} {L ys : List α} {off k : Nat}
def winAt (off s : Nat) (L ys : List α) : Prop := ys = [] ∨ ∃ st, off = st * s ∧ ys = (L.drop st).take ys.length ∧ st + ys.length ≤ L.length
theorem win_all : winAt 0 s L L := .inr ⟨0, by simp, by simp, by simp⟩
theorem win_drop (h : winAt off s L ys) (k : Nat) : winAt (off + k * s) s L (ys.drop k) := by
 rcases h with rfl | ⟨st, h1, h2, h3⟩
 · exact .inl (by simp)
 by_cases hk : ys.length ≤ k
 · exact .inl (List.drop_eq_nil_of_le hk)
 have e : ys.drop k = (L.drop (st + k)).take (ys.length - k) := by
  conv => lhs; rw [h2]
  rw [List.drop_take, List.drop_drop]
 refine .inr ⟨st + k, by rw [h1, Nat.add_mul], ?_, by simp only [List.length_drop]; omega⟩
 rw [e]
 congr 1
 simp only [List.length_take, List.length_drop]
 omega
def Holds (hp : List Blk) (b : Nat) (T : TypeId) (enc : α → List Value) (L : List α) : Prop := L = [] ∨ hp[b]? = some (.cells T (L.flatMap enc))
theorem holds_acc {hp : List Blk} {b : Nat} {T : TypeId} (h : hp[b]? = some (accB T L.length (L.flatMap enc))) : Holds hp b T enc L := by
 by_cases h0 : L.length = 0
 · exact .inl (List.length_eq_zero_iff.1 h0)
 rw [accB, if_neg h0] at h; exact .inr h
variable {hp : List Blk} {b : Nat} {T : TypeId} {P : Program} {x : Option QRes}
theorem win_cells (hw : winAt off s L ys) (hb : Holds hp b T enc L) (hy : ¬ ys.length = 0) : ∃ st, off = st * s ∧ ys = (L.drop st).take ys.length ∧ st + ys.length ≤ L.length ∧ hp[b]? = some (.cells T (L.flatMap enc)) := by
 rcases hw with rfl | ⟨st, h1, h2, h3⟩
 · exact absurd rfl hy
 refine ⟨st, h1, h2, h3, hb.resolve_left fun h => ?_⟩
 subst h
 simp only [List.length_nil] at h3
 omega
theorem arg_win {bytes : Nat} {zr : Value} {d : Option TypeDesc} {e : TypeId} {c : Nat} (hw : winAt off s L ys) (hb : Holds hp b T enc L) (hl : ∀ y, (enc y).length = s) (hd : d = some (.slice e)) :
 appArg hp s bytes zr d (.slice (some ⟨b, off, none⟩) ys.length c) = some (ys.length, ys.flatMap enc) := by
 by_cases hy : ys.length = 0
 · have : ys = [] := List.length_eq_zero_iff.1 hy
   subst this
   subst hd
   simp [appArg, readCells]
 obtain ⟨st, h1, h2, h3, h4⟩ := win_cells hw hb hy
 have := appArg_win (bytes := bytes) (zr := zr) (c := c) hd h4 hl h1 h3
 rw [this, ← h2]
theorem win_elem (hw : winAt off s L ys) (hb : Holds hp b T enc L) {i : Nat} (hi : i < ys.length) (d : α) : ∃ j, off + i * s = j * s ∧ j < L.length ∧ L.getD j d = ys.getD i d ∧ hp[b]? = some (.cells T (L.flatMap enc)) := by
 obtain ⟨st, h1, h2, h3, h4⟩ := win_cells hw hb (by omega)
 refine ⟨st + i, by rw [h1, Nat.add_mul], by omega, ?_, h4⟩
 rw [h2]
 simp only [List.getD_eq_getElem?_getD, List.getElem?_take, List.getElem?_drop, if_pos hi]
theorem q_ldAW {t : TypeId} {o i : Nat} (hw : winAt off s L ys) (hb : Holds hp b T enc L) (h : x = qv (cLoad P hp t (.pointer (some ⟨b, o, none⟩)))) (ha : aggT P t = some true) (hs : sizeT P t = some s) (hl : ∀ y, (enc y).length = s)
 (ho : o = off + i * s) (hi : i < ys.length) (d : α) : x = some { val := .agg ⟨enc (ys.getD i d)⟩ } := by
 obtain ⟨j, h1, h2, h3, h4⟩ := win_elem hw hb hi d
 rw [← h3]
 exact q_ldA h h4 ha hs hl (ho.trans h1) h2 d
theorem At.win {f : Nat → Nat × Nat} {n i : Nat} (hf : f i = (b, off)) (hw : winAt off s L ys) (hb : Holds hp b T enc L) (hl : ∀ y, (enc y).length = s) (hq : ∀ y, (enc y).all isFlat = true) :
 At true f n hp i (accB T ys.length (ys.flatMap enc)) := by
 by_cases hy : ys.length = 0
 · exact .inl (by rw [accB, if_pos hy])
 obtain ⟨st, h1, h2, h3, h4⟩ := win_cells hw hb hy
 refine .inr ⟨_, by rw [hf]; exact h4, ?_⟩
 rw [accB, if_neg hy, hf]
 refine .cells T _ _ off ?_
 have : ((L.flatMap enc).drop off).take (ys.flatMap enc).length = ys.flatMap enc := by
  rw [flatMap_len hl, h1, win_read hl, ← h2]
 rw [this]
 refine LRn.flat fun v hv => ?_
 obtain ⟨y, _, hy⟩ := List.mem_flatMap.1 hv
 exact List.all_eq_true.1 (hq y) v hy
end
section
variable {P : Program} {x : Option QRes} {t e : TypeId} {s b off n : Nat} {k k' : IntKind} {y z : Int} {α : Type} {ys : List α}
end
section
variable {P : Program} {base n m s b off : Nat} {x : Option QRes} {hp : List Blk} {α : Type} {enc : α → List Value} {L l ys : List α} {ts : Array TypeId} {e t : TypeId} {bytes : Nat} {z y : Value}
theorem q_appL (h : x = cAppend P base hp n ts (.slice (some ⟨b, 0, none⟩) 0 0) y) (hb : hp[b]? = some (.cells t [])) (hbase : base ≤ b) (ht : sizeT P t = some s) (he : (ts[0]?).bind P.underlying = some (.slice e)) (hs : sizeT P e = some s)
 (hby : bytesT P e = some bytes) (hz : zeroT P e = some z) (hzf : (flat1 z && (z.cells.size == s) && decide (0 < s)) = true) (harg : appArg hp s bytes z ((ts[1]?).bind P.underlying) y = some (ys.length, ys.flatMap enc))
 (hbig : ¬ (2 * ys.length + 1000) * (bytes + 1) > 2 ^ 48) : x = some { val := ownV n ys.length, new := [.cells e (ys.flatMap enc)], upd := some (b, .dead) } := by
 simp only [Bool.and_eq_true, beq_iff_eq, decide_eq_true_eq] at hzf
 rw [h]
 simp only [cAppend, he, hs, hby, hz]
 rw [if_pos ⟨hzf.1.1, hzf.1.2, hzf.2⟩]
 simp only [harg]
 have : litK P base hp s (some ⟨b, 0, none⟩) 0 0 = some b := by
  simp only [litK, and_self, if_true, hb]
  rw [if_pos ⟨hbase, ht⟩]
 rw [this]
 dsimp only
 rw [if_neg hbig]
 rfl
theorem q_appW {st : Nat} (h : x = cAppend P base hp n ts (.slice (some ⟨b, off, none⟩) l.length (UNK - st)) y) (ho : off = st * s) (hst : st ≤ 1000000000) (hl2 : l = (L.drop st).take l.length) (hl3 : st + l.length ≤ L.length)
 (hb : hp[b]? = some (.cells e (L.flatMap enc))) (hbase : base ≤ b) (he : (ts[0]?).bind P.underlying = some (.slice e)) (hs : sizeT P e = some s)
 (hby : bytesT P e = some bytes) (hz : zeroT P e = some z) (hzf : (flat1 z && (z.cells.size == s) && decide (0 < s)) = true) (harg : appArg hp s bytes z ((ts[1]?).bind P.underlying) y = some (ys.length, ys.flatMap enc))
 (hok : (ys.flatMap enc).all cellOk = true) (hl : ∀ y, (enc y).length = s) (hbig : ¬ (2 * (l.length + ys.length) + 1000) * (bytes + 1) > 2 ^ 48) :
 x = some { val := ownV n (l ++ ys).length, new := [.cells e ((l ++ ys).flatMap enc)], upd := some (b, .dead) } := by
 simp only [Bool.and_eq_true, beq_iff_eq, decide_eq_true_eq] at hzf
 rw [h]
 simp only [cAppend, he, hs, hby, hz]
 rw [if_pos ⟨hzf.1.1, hzf.1.2, hzf.2⟩]
 simp only [harg]
 rw [litK_unk (by simp only [UNK]; omega)]
 dsimp only
 rw [if_neg (by simp only [UNK, INF]; omega), if_neg (by simp only [UNK, INF]; omega), if_neg hbig, if_neg (by simp only [UNK, INF]; omega)]
 simp only [appOn, hb]
 have hlen := flatMap_len (l := L) hl
 rw [if_pos ⟨hbase, hs, by rw [ho]; congr 1; simp only [UNK]; omega, by omega, by rw [ho, hlen, ← Nat.add_mul]; exact Nat.mul_le_mul_right _ hl3, hok⟩, ho, win_read hl, ← hl2, List.flatMap_append, List.length_append]
 rfl
theorem cells_ok (hq : ∀ y, (enc y).all cellOk = true) : (ys.flatMap enc).all cellOk = true := by
 refine List.all_eq_true.2 fun v hv => ?_
 obtain ⟨y, _, hy⟩ := List.mem_flatMap.1 hv
 exact List.all_eq_true.1 (hq y) v hy
end
section
variable {p : Bool} {f : Nat → Nat × Nat} {n i i' c c' : Nat}
end
end Go.Cl
namespace Go.Cl
section
variable {p : Bool} {f : Nat → Nat × Nat} {n i i' c c' : Nat}
end
end Go.Cl
set_option linter.unusedVariables false
namespace Go.Cl
open Go Go.RowKit
section
variable {α β γ : Type} {kv : α → Value} {vv : β → Value} {arr : Array MapEntry} {clock : Nat} {seen : Array Nat} {es : List (α × β)}
def Ents (kv : α → Value) (vv : β → Value) (arr : Array MapEntry) (seen : Array Nat) (es : List (α × β)) : Prop :=
 (leftOf arr seen).toList.map (fun e => (e.key, e.val)) = es.map (mEnc kv vv)
theorem ents_all (h : arr.toList.map (fun e => (e.key, e.val)) = es.map (mEnc kv vv)) : Ents kv vv arr #[] es := by
 unfold Ents; rw [left_all]; exact h
theorem ents_none (h : Ents kv vv arr seen es) (h0 : (leftOf arr seen).size = 0) : es = [] := by
 unfold Ents at h
 have : (leftOf arr seen).toList = [] := List.length_eq_zero_iff.1 (by rw [Array.length_toList]; exact h0)
 rw [this] at h
 exact List.map_eq_nil_iff.1 h.symm
theorem take_one {e : MapEntry} : ∀ {l : List MapEntry} {es : List (α × β)}, (l.map (·.born)).Nodup → e ∈ l → l.map (fun e => (e.key, e.val)) = es.map (mEnc kv vv) →
 ∃ q es2, e.key = kv q.1 ∧ e.val = vv q.2 ∧ es.Perm (q :: es2) ∧ (l.filter (fun x => x.born != e.born)).map (fun e => (e.key, e.val)) = es2.map (mEnc kv vv)
 | [], es, _, he, _ => by cases he
 | x :: l, [], _, _, h => by simp at h
 | x :: l, y :: es, hn, he, h => by
  simp only [List.map_cons, List.nodup_cons] at hn
  simp only [List.map_cons, List.cons.injEq] at h
  obtain ⟨h1, h2⟩ := h
  by_cases hx : x.born = e.born
  · have hxe : x = e := by
     rcases List.mem_cons.1 he with rfl | h'
     · rfl
     exact absurd (List.mem_map.2 ⟨e, h', hx.symm⟩) hn.1
    subst hxe
    refine ⟨y, es, congrArg Prod.fst h1, congrArg Prod.snd h1, List.Perm.refl _, ?_⟩
    rw [List.filter_cons_of_neg (by simp), List.filter_eq_self.2 (fun z hz => ?_)]
    · exact h2
    simp only [bne_iff_ne, ne_eq]
    intro hb
    exact hn.1 (List.mem_map.2 ⟨z, hz, hb⟩)
  have h' : e ∈ l := by
   rcases List.mem_cons.1 he with rfl | h'
   · exact absurd rfl hx
   exact h'
  obtain ⟨q, es2, g1, g2, g3, g4⟩ := take_one hn.2 h' h2
  refine ⟨q, y :: es2, g1, g2, (List.Perm.cons y g3).trans (List.Perm.swap q y es2), ?_⟩
  rw [List.filter_cons_of_pos (by simpa using hx), List.map_cons, g4, List.map_cons, h1]
theorem ents_take (h : Ents kv vv arr seen es) (hst : Stamped arr clock) {e : MapEntry} (he : e ∈ (leftOf arr seen).toList) :
 ∃ q es2, e.key = kv q.1 ∧ e.val = vv q.2 ∧ es.Perm (q :: es2) ∧ Ents kv vv arr (seen.push e.born) es2 := by
 have hn : ((leftOf arr seen).toList.map (·.born)).Nodup := by
  unfold leftOf
  rw [Array.toList_filter]
  exact List.Sublist.nodup (List.Sublist.map _ List.filter_sublist) hst.2
 obtain ⟨q, es2, g1, g2, g3, g4⟩ := take_one hn he h
 refine ⟨q, es2, g1, g2, g3, ?_⟩
 unfold Ents
 rw [← g4]
 congr 1
 unfold leftOf
 rw [Array.toList_filter, Array.toList_filter, List.filter_filter]
 apply List.filter_congr
 intro x hx
 rw [Array.contains_push]
 cases (seen.contains x.born) <;> simp [bne, Bool.beq_comm]
open Classical in
noncomputable def permAll (f : List γ → Option α) (l : List γ) : Option α := if ∀ es, List.Perm es l → f es = f l then f l else none
theorem permAll_some {f : List γ → Option α} {l : List γ} {r : α} (h : permAll f l = some r) : ∀ es, List.Perm es l → f es = some r := by
 unfold permAll at h
 split at h
 · rename_i hp; intro es he; rw [hp es he, h]
 cases h
theorem permAll_of {f : List γ → Option α} {l : List γ} {r : α} (h : ∀ es, List.Perm es l → f es = some r) : permAll f l = some r := by
 unfold permAll
 rw [if_pos (fun es he => by rw [h es he, h l (List.Perm.refl _)])]
 exact h l (List.Perm.refl _)
def mapNext (f : α → List γ → Option β) (es : List γ) (w : α ⊕ β) : Option β := match w with | .inl z => f z es | .inr r => some r
theorem perm_next {f : List γ → Option β} {es es2 : List γ} {q : γ} {r : β} (h : ∀ es', List.Perm es' es → f es' = some r) (hp : List.Perm es (q :: es2)) : ∀ es', List.Perm es' es2 → f (q :: es') = some r :=
 fun es' he => h _ ((List.Perm.cons q he).trans hp.symm)
end
end Go.Cl
set_option linter.unusedVariables false
namespace Go.Cl
open Go Go.RowKit
section
variable {P : Program} {base L : Nat} {ops : Array Oper} {j : Nat} {a a2 : CAct} {h h2 : List Blk} {Ψ : CAct → List Blk → Prop} {α : Type} {enc : α → List Value} {l ys : List α} {b s : Nat} {ts : Array TypeId} {e : TypeId} {bytes : Nat} {z y : Value}
end
section
variable {P : Program} {base n s b off : Nat} {x : Option QRes} {hp : List Blk} {α : Type} {enc : α → List Value} {L l ys : List α} {ts : Array TypeId} {e t : TypeId} {bytes : Nat} {z y : Value} {k : IntKind} {v w : Int}
end
end Go.Cl
namespace Go.Cl
theorem NX.nil {P : Program} {base L : Nat} {Φ : Post} {e : Exit} {a : CAct} {h : List Blk} (H : Φ e a h) : NX P base L [] Φ e a h := H
end Go.Cl
namespace Go.Cl
open Go.WideShapes in
theorem open_sl {P : Program} {w : World} {r : Reach} {b0 : Nat} {t e : TypeId} {v : Value} {a : List Leaf} (hu : P.underlying t = some (.slice e)) (hval : Value.okWide P w r b0 t v) (h : lfits2 w [.list a] v.cells.toList) :
 ∃ rows, SlOk w rows v ∧ ∀ r ∈ rows, lfits a r := by
 obtain ⟨a0, len, cap, rfl⟩ := okWide_slice hu hval
 exact h.1
end Go.Cl
set_option linter.unusedVariables false
namespace Go.Cl
abbrev sv (b n c : Nat) : Value := .slice (some ⟨b, 0, none⟩) n c
section
variable {p : Bool} {f : Nat → Nat × Nat} {n i o o' c len : Nat} {l l' : List Value} {v : Value} {h m : List Blk}
theorem LRn.fl (hl : LRn p f n l l') (h : isFlat v = true := by kernel_rfl) : LRn p f n (v :: l) (v :: l') := .cons (.flat h) hl
theorem LRn.pp (hl : LRn p f n l l') (hi : Nat.ble (i + 1) n = true := by rfl) (ho : o' = (f i).2 + o := by rfl) : LRn p f n (.pointer (some ⟨i, o, none⟩) :: l) (.pointer (some ⟨(f i).1, o', none⟩) :: l') := .cons (.ptr i o o' (Nat.le_of_ble_eq_true hi) ho) hl
theorem LRn.sl (hl : LRn p f n l l') (hi : Nat.ble (i + 1) n = true := by rfl) (h0 : (f i).2 = 0 := by rfl) : LRn p f n (.slice (some ⟨i, o, none⟩) len c :: l) (.slice (some ⟨(f i).1, o, none⟩) len c :: l') := .cons (.slice0 i o len c (Nat.le_of_ble_eq_true hi) h0) hl
theorem Ats.ac {α : Type} {t : TypeId} {enc : α → List Value} {q : List α} (hl : Ats p f n h (i + 1) m) (hb : h[(f i).1]? = some (accB t c (q.flatMap enc)) := by kernel_rfl) (h0 : (f i).2 = 0 := by rfl) (hf : ∀ y, (enc y).all isFlat = true := by exact fun _ => rfl) :
 Ats p f n h i (accB t c (q.flatMap enc) :: m) := .cons (At.acc hb h0 hf) hl
theorem Ats.lt {t : TypeId} (hr : LRn p f n l l') (hl : Ats p f n h (i + 1) m) (hb : h[(f i).1]? = some (.cells t l') := by kernel_rfl) (h0 : (f i).2 = 0 := by rfl) : Ats p f n h i (.cells t l :: m) :=
 .cons (At.blk hb (by rw [h0]; exact RnB.lit hr)) hl
end
abbrev ab {α : Type} (t : TypeId) (e : α → List Value) (l : List α) : Blk := accB t l.length (l.flatMap e)
abbrev mb {α β : Type} (k : TypeId) (kv : α → Value) (vv : β → Value) (l : List (α × β)) : Blk := .map k (l.map (mEnc kv vv))
theorem zip_fst_snd {l : List (Nat × Value)} : (l.map (·.1)).zip (l.map (·.2)) = l := by
 induction l with
 | nil => rfl
 | cons x l ih => simp [ih]
theorem Wk.an {P : Program} {base L m : Nat} {l : List (Nat × Value)} {a : CAct} {h h2 : List Blk} (f : List Nat) (hb : Ats true (fun i => (if i < L then i else f.getD (i - L) 0, 0)) h2.length h 0 h2) (avs : List Value)
 (hr : LRn true (fun i => (if i < L then i else f.getD (i - L) 0, 0)) h2.length (l.map (·.2)) avs) (hf : f.Nodup := by decide) (hge : ∀ i ∈ f, L ≤ i := by decide) (hL : Nat.ble base L = true := by rfl) (hl : h2.length = L + f.length := by rfl)
 (ha : (l.map (·.1)).map (fun i => a.tmps.getD i undef) = avs := by kernel_rfl) (hlen : a.tmps.length = m := by kernel_rfl) (hm : a.marks = [] := by rfl) : Wk P base L a h (Cl.st m l) h2 := by
 refine Wk.anew hf hge (Nat.le_of_ble_eq_true hL) hl hb ?_ hm rfl
 have := LRn.stx (m := m) (l' := a.tmps) (l.map (·.1)) (l.map (·.2)) avs hr ha hlen rfl
 rw [zip_fst_snd] at this
 exact this
end Go.Cl
namespace Go.Cl
section
variable {P : Program} {x : Option QRes} {hp : List Blk} {t T : TypeId} {b o o' i n s k : Nat} {vs : List Value} {α : Type} {enc : α → List Value} {ys : List α}
end
end Go.Cl
namespace Go.Cl
section
variable {x : Option QRes} {α β : Type} [DecidableEq α]
theorem q_n1a {α : Type} (P : Program) (hp : List Blk) (t b off : Nat) (l : List α) (enc : α → List Value) (s T i k : Nat) (d : α) {z : α} (hz : l.getD i d = z) (h : x = qv (cLoad P hp t (.pointer (some ⟨b, off, none⟩))) := by kernel_rfl)
 (hb : hp[b]? = some (accB T l.length (l.flatMap enc)) := by kernel_rfl) (ha : aggT P t = some false := by kernel_rfl) (hl : ∀ y, (enc y).length = s := by exact fun _ => rfl) (ho : off = i * s + k := by omega) (hk : k < s := by decide)
 (hi : i < l.length := by first | omega | (simp <;> omega)) : x = some { val := (enc z).getD k undef } := hz ▸ q_ld1 h (accB_at hb hi) ha hl ho hk hi d
theorem q_nAa {α : Type} (P : Program) (hp : List Blk) (t b off : Nat) (l : List α) (enc : α → List Value) (s T i : Nat) (d : α) {z : α} (hz : l.getD i d = z) (h : x = qv (cLoad P hp t (.pointer (some ⟨b, off, none⟩))) := by kernel_rfl)
 (hb : hp[b]? = some (accB T l.length (l.flatMap enc)) := by kernel_rfl) (ha : aggT P t = some true := by kernel_rfl) (hs : sizeT P t = some s := by kernel_rfl) (hl : ∀ y, (enc y).length = s := by exact fun _ => rfl) (ho : off = i * s := by omega)
 (hi : i < l.length := by first | omega | (simp <;> omega)) : x = some { val := .agg ⟨enc z⟩ } := hz ▸ q_ldA h (accB_at hb hi) ha hs hl ho hi d
theorem q_gN (P : Program) (hp : List Blk) (t r : Nat) (l : List (α × β)) (k : α) (kt et : Nat) (kv : α → Value) (vv : β → Value) (key : Value) (d : β) (hf : ∀ a, keyFits P kt (kv a) = true) (he : ∀ a b, eqKey (kv a) (kv b) = decide (a = b)) {z : β} (hz : (mget l k).getD d = z)
 (h : x = qv (cLookup P hp t (.map (some r)) key false) := by kernel_rfl) (hk : key = kv k := by rfl) (hb : hp[r]? = some (.map kt (l.map (mEnc kv vv))) := by kernel_rfl) (hu : P.underlying t = some (.map kt et) := by kernel_rfl) (hkt : keyT P kt = true := by kernel_rfl)
 (hzr : zeroT P et = some (vv d) := by kernel_rfl) (hzf : isFlat (vv d) = true := by kernel_rfl) : x = some { val := vv z } := hz ▸ q_get h hk hb hu hkt hf he d hzr hzf
end
end Go.Cl
set_option linter.unusedVariables false
namespace Go.Cl
open Go
section
variable {P : Program} {base L : Nat} {a : CAct} {h : List Blk} {ops : Array Oper} {rest : List Oper} {o : Oper} {Ψ : CAct → List Blk → Prop}
theorem vr_slice {D : Nat → Prop} {β : Nat → Nat × Nat} {κ : Nat → Nat} {x x' : Value} {ad : Addr} {l c : Nat} (h : VR D β κ x x') (hx : x = .slice (some ad) l c) : ∃ a1 c1, x' = .slice a1 l c1 ∧ (a1 = none → l = 0) := by
 subst hx
 cases h with
 | sliceZ i o a => exact ⟨_, _, rfl, fun _ => rfl⟩
 | slice i o l c hi hlc hc => exact ⟨_, _, rfl, fun e => by cases e⟩
 | sliceU i o l q hi hq hk => exact ⟨_, _, rfl, fun e => by cases e⟩
 | sliceE i o q a hq => exact ⟨_, _, rfl, fun _ => rfl⟩
 | sliceA i o l C c hi hC hlc hc => exact ⟨_, _, rfl, fun e => by cases e⟩
 | sliceAN i o C a hC => exact ⟨_, _, rfl, fun _ => rfl⟩
theorem vr_nil {D : Nat → Prop} {β : Nat → Nat × Nat} {κ : Nat → Nat} {x x' : Value} (h : VR D β κ x x') (hx : x = .slice none 0 0) : x' = .slice none 0 0 := by
 subst hx
 cases h with
 | snil => rfl
theorem eqSliceNil2 {t e : TypeId} {a : Option Addr} {l c n c2 : Nat} (hu : P.underlying t = some (.slice e)) (w : World) (d : Nat) : (Op.equalIn (d + 1) t (.slice a l c) (.slice none n c2)).run P w = .ok a.isNone w := by
 cases a <;> simp [Op.equalIn, run_underlying hu]
theorem TO.cmpNil {t e z : TypeId} {x y : Operand} {ad : Addr} {l c : Nat} (hw : cWanted ops.toList a o = some true) (ho : o.op = .binOp .eql t x y z) (hx : a.eval x = .slice (some ad) l c) (hy : a.eval y = .slice none 0 0) (hu : P.underlying t = some (.slice e))
 (ht : ∀ b : Bool, (b = true → l = 0) → TO P base L ops rest (a.put o.dst (.bool b)) h Ψ) : TO P base L ops (o :: rest) a h Ψ := by
 rintro N D0 β0 κ0 R hR w0 w a' Q ⟨D, β, κ, hf⟩ hb hQ
 have hw' := wanted_sim hw hf.act
 simp only [wpListIn, hw', if_true]
 obtain ⟨a1, c1, e1, hz⟩ := vr_slice (hf.act.eval x) hx
 have e2 := vr_nil (hf.act.eval y) hy
 have hnd : ∀ c, o.op ≠ .defer c := fun c e => by rw [ho] at e; cases e
 refine wp_of_val (v := .bool a1.isNone) (w' := w) hnd ?_ ?_
 · simp only [execOp, ho, e1, e2, eqGuard, binOp]
   simp [Op.equal, Op.maxDepth, eqSliceNil2 hu w 9999]
 exact ht _ (fun e => hz (by cases a1 with | none => rfl | some _ => cases e)) N D0 β0 κ0 R hR w0 w _ Q ⟨D, β, κ, hf.dom, hf.bl, hf.ll, hf.rel, hf.act.put o.dst (VR.bool _), hf.ext⟩ hb hQ
theorem TI.cmpNil {j : Nat} {t e z : TypeId} (x y : Operand) {ad : Addr} {l c : Nat} (hd : ops.toList.drop j = o :: ops.toList.drop (j + 1)) (hw : cWanted ops.toList a o = some true) (ho : o.op = .binOp .eql t x y z) (hx : a.eval x = .slice (some ad) l c) (hy : a.eval y = .slice none 0 0) (hu : P.underlying t = some (.slice e))
 (ht : ∀ b : Bool, (b = true → l = 0) → TI P base L ops (j + 1) (a.put o.dst (.bool b)) h Ψ) : TI P base L ops j a h Ψ := by
 unfold TI
 rw [hd]
 exact TO.cmpNil hw ho hx hy hu ht
end
end Go.Cl
set_option linter.unusedVariables false
namespace Go.Cl
open Go
def ImpFinV (P : Program) (fn : Func) (v : Value) (h' : List Blk) : Post := fun e a h => (e = .normal ∨ e = .ret) ∧ a.marks = [] ∧ cResults P fn a h = some v ∧ ∃ x, h = h' ++ x
theorem ImpSim.of_FinV {P : Program} {g : FuncId} {args : List Value} {h h' : List Blk} {fn : Func} {c : Code} {v : Value} (hfn : P.funcs[g]? = some fn) (hc : fn.body = some c) (hname : (fn.name == "runtime.NumGoroutine") = false)
 (hv : isFlat v = true) (base L : Nat) (hL : h.length = L) (hl : h'.length = L) (hbl : base ≤ L) (hself : ∀ b ∈ h', SelfOk L b) (keep : List Nat) {a2 : CAct}
 (hs : maskA keep { tmps := args ++ List.replicate (fn.ntmps - args.length) undef } = a2) (ht : TS P base L c a2 h (NX P base L [] (ImpFinV P fn v h'))) : ImpSim P g args base h v h' := by
 subst hL
 refine ⟨⟨fn, c, hfn, hc, hname⟩, fun D β κ N w args' hD hb hR hargs => ?_⟩
 have start : ActR D β κ { tmps := args ++ List.replicate (fn.ntmps - args.length) undef } { tmps := (⟨args'⟩ : Array Value) ++ Array.replicate (fn.ntmps - (⟨args'⟩ : Array Value).size) undef, defers := [] } := by
  refine ⟨?_, rfl, fun m hm => by simp at hm⟩
  have := hargs.app (LR.rep (fn.ntmps - args.length) (VR.undef (D := D) (β := β) (κ := κ)))
  rw [hargs.len] at this ⊢
  simpa using this
 refine callsIn_FW.1 (callsIn_of_wp_marks (F := FW none) (n := 0) hfn hc trivial ?_)
 have ht2 : TS P base h.length c { tmps := args ++ List.replicate (fn.ntmps - args.length) undef } h (NX P base h.length [] (ImpFinV P fn v h')) := TS.weak (Wk.tm keep) (by rw [hs]; exact ht)
 refine ht2 N D β κ none (.inl rfl) w w _ _ ⟨D, β, κ, hD, hb, Nat.le_refl _, hR, start, fun i _ => ⟨Iff.rfl, rfl, rfl⟩⟩ (Held.refl _ _) fun e a1 h2 a1' w1 hp hf hbl => ?_
 obtain ⟨he, hm, hres, x, rfl⟩ : ImpFinV P fn v h' e a1 h2 := hp
 have hf0 := hf
 obtain ⟨D1, β1, κ1, hf⟩ := hf
 obtain ⟨v', h3, h4⟩ := results_sim hf.rel hf.act hres
 have e1 := h4.flat hv
 subst e1
 have hw : Wk P base h.length a1 (h' ++ x) { tmps := List.replicate a1.tmps.length poison } h' := Wk.cut (by omega) (by omega) (fun i b hb => by
  rcases hself b (List.mem_of_getElem? hb) h'.length (by omega) with e | hr
  · exact .inl e
  · refine .inr ⟨b, ?_, hr⟩
    have := (List.getElem?_eq_some_iff.1 hb).1
    show (h' ++ x)[i]? = some b
    rw [List.getElem?_append_left this]
    exact hb) ⟨by simp, fun j v v' hv hv' => by
  rw [List.getElem?_replicate] at hv
  split at hv
  · cases hv; exact .poison _ rfl
  cases hv⟩ hm rfl
 obtain ⟨D2, β2, κ2, hf2⟩ := hw _ _ _ _ _ _ hf0
 have hsub : ∀ i, D2 i → Up D h h' i := fun i hi => by
  by_cases hil : i < h.length
  · exact .inl ((hf2.ext i hil).1.1 hi)
  exact .inr ⟨by omega, hf2.dom i hi⟩
 have hO : Out P D β κ base N h w h' w1 β2 κ2 := {
   le := by omega
   ext := fun i hi => (hf2.ext i hi).2
   rel := { blk := fun i => (hf2.rel.blk i).move hsub Ext.refl rfl rfl, ro := hf2.rel.ro, own := hf2.rel.own, inj := hf2.rel.inj, size := hf2.rel.size }
   below := hbl }
 have leaves : LeavesInM (FW none) 0 P fn a1'.tmps (fun e w' => ∃ v'' β' κ', e = .returned v'' ∧ Out P D β κ base N h w h' w' β' κ' ∧ VR (Up D h h') β' κ' v' v'') a1'.defers .returning w1 := by
  rw [hf.act.marks, hm]
  exact ⟨v', h3, v', _, _, rfl, hO, .of_flat hv⟩
 rcases he with rfl | rfl <;> exact leaves
end Go.Cl
set_option linter.unusedVariables false
namespace Go.Cl
open Go Go.RowKit
abbrev zq {α : Type} (s b q : Nat) (L : List α) : Value := .slice (some ⟨b, 0 + q * s, none⟩) (L.drop q).length (if L.length = 0 then 0 else UNK - q)
abbrev fl {α : Type} (b off : Nat) (l : List α) : Value := .slice (some ⟨b, off, none⟩) l.length l.length
section
variable {α : Type} {enc : α → List Value} {s q b n bytes off : Nat} {L ys l : List α} {P : Program} {base : Nat} {hp : List Blk} {x : Option QRes} {t e : TypeId} {k : IntKind} {y : Int} {ts : Array TypeId} {z w : Value}
theorem zq_pos (h : ¬ L.length = 0) : zq s b q L = .slice (some ⟨b, 0 + q * s, none⟩) (L.drop q).length (UNK - q) := by unfold zq; rw [if_neg h]
theorem zq_lo (hq : q ≤ 1000000000) (h : x = qv (cSlice P t (zq s b q L) (some (.int k y)) none none)) (he : P.underlying t = some (.slice e)) (hs : sizeT P e = some s) (hy : 0 ≤ y ∧ y ≤ ((L.drop q).length : Int)) :
 x = some { val := zq s b (q + Int.toNat y) L } := by
 rw [h]
 by_cases hL : L.length = 0
 · have hl : L = [] := List.length_eq_zero_iff.1 hL
   subst hl
   have hy0 : y = 0 := by simp at hy; omega
   subst hy0
   simp only [zq, cSlice, he, hs, List.length_nil, if_true, List.drop_nil]
   rw [if_pos (by decide), cb_lo (by simp)]
   rfl
 rw [zq_pos hL, zq_pos hL]
 simp only [cSlice, he, hs]
 rw [if_neg (by simp only [UNK, INF]; omega), cb_lo hy]
 simp only [Option.map_some, add_eq]
 rw [if_neg (by simp only [UNK]; omega), show 0 + q * s + Int.toNat y * s = 0 + (q + Int.toNat y) * s by rw [Nat.add_mul]; omega, show (L.drop q).length - Int.toNat y = (L.drop (q + Int.toNat y)).length by simp only [List.length_drop]; omega, Nat.sub_sub]
 rfl
theorem q_app0 {o : Option Addr} {xs : List Value} {m : Nat} (h : x = cAppend P base hp n ts (.slice o 0 0) w) (hk : litK P base hp s o 0 0 = none)
 (he : (ts[0]?).bind P.underlying = some (.slice e)) (hs : sizeT P e = some s) (hby : bytesT P e = some bytes) (hz : zeroT P e = some z)
 (hzf : (flat1 z && (z.cells.size == s) && decide (0 < s)) = true) (harg : appArg hp s bytes z ((ts[1]?).bind P.underlying) w = some (m, xs)) (hm : (m == 0) = false)
 (hx : xs = ys.flatMap enc) (hym : ys.length = m) (hbig : ¬ (2 * (0 + m) + 1000) * (bytes + 1) > 2 ^ 48) :
 x = some { val := .slice (some ⟨n, 0, none⟩) ys.length UNK, new := [.cells e (ys.flatMap enc)] } := by
 simp only [Bool.and_eq_true, beq_iff_eq, decide_eq_true_eq] at hzf
 have hm' : ¬ m = 0 := by simpa using hm
 rw [h]
 simp only [cAppend, he, hs, hby, hz]
 rw [if_pos ⟨hzf.1.1, hzf.1.2, hzf.2⟩]
 simp only [harg, hk]
 rw [if_neg (fun c => hm' c.1), if_neg (fun c => hm' (by omega)), if_neg hbig, if_pos (by decide)]
 simp only [appCopy, readCells, Nat.zero_mul, if_true, hx, List.nil_append, Nat.zero_add, hym]
theorem q_appF {ys2 : List α} (hw : winAt off s L ys) (hb : Holds hp b t enc L) (h : x = cAppend P base hp n ts (fl b off ys) w) (hk : litK P base hp s (some ⟨b, off, none⟩) ys.length ys.length = none)
 (he : (ts[0]?).bind P.underlying = some (.slice e)) (hs : sizeT P e = some s) (hby : bytesT P e = some bytes) (hz : zeroT P e = some z)
 (hzf : (flat1 z && (z.cells.size == s) && decide (0 < s)) = true) (harg : appArg hp s bytes z ((ts[1]?).bind P.underlying) w = some (ys2.length, ys2.flatMap enc)) (hm : (ys2.length == 0) = false) (hI : ys.length ≤ 1000000000) (hl : ∀ y, (enc y).length = s)
 (hbig : ¬ (2 * (ys.length + ys2.length) + 1000) * (bytes + 1) > 2 ^ 48) :
 x = some { val := .slice (some ⟨n, 0, none⟩) (ys ++ ys2).length UNK, new := [.cells e ((ys ++ ys2).flatMap enc)] } := by
 simp only [Bool.and_eq_true, beq_iff_eq, decide_eq_true_eq] at hzf
 have hm' : ¬ ys2.length = 0 := by simpa using hm
 rw [h]
 simp only [cAppend, he, hs, hby, hz]
 rw [if_pos ⟨hzf.1.1, hzf.1.2, hzf.2⟩]
 simp only [harg, hk]
 rw [if_neg (fun c => hm' c.1), if_neg (fun c => hm' (by omega)), if_neg hbig, if_pos (by simp only [INF]; omega)]
 have hr : readCells hp (some ⟨b, off, none⟩) (ys.length * s) = some (ys.flatMap enc) := by
  by_cases hy : ys.length = 0
  · have : ys = [] := List.length_eq_zero_iff.1 hy
    subst this
    simp [readCells]
  obtain ⟨st, h1, h2, h3, h4⟩ := win_cells hw hb hy
  have hlen := flatMap_len (l := L) hl
  unfold readCells
  rw [if_neg (Nat.mul_ne_zero hy (by omega))]
  simp only [h4]
  rw [if_pos (by rw [hlen, h1, ← Nat.add_mul]; exact Nat.mul_le_mul_right _ h3), h1, win_read hl, ← h2]
 simp only [appCopy, hr, List.flatMap_append, List.length_append]
theorem q_clip {c : Nat} {k' : IntKind} (hc : INF < c ∨ l.length ≤ c) (h : x = qv (cSlice P t (.slice (some ⟨b, off, none⟩) l.length c) none (some (.int k (l.length : Int))) (some (.int k' (l.length : Int))))) (he : P.underlying t = some (.slice e)) (hs : sizeT P e = some s) :
 x = some { val := fl b off l } := by
 have cb : ∀ m : Nat, l.length ≤ m → cBounds l.length m none (some (.int k (l.length : Int))) (some (.int k' (l.length : Int))) = some (0, l.length, l.length) := fun m hm => by
  delta cBounds
  simp only [cInt, Option.bind_some]
  rw [if_pos ⟨by omega, by omega⟩]
  simp
 rw [h]
 simp only [cSlice, he, hs]
 by_cases hi : c ≤ INF
 · rw [if_pos hi, cb c (by omega)]
   simp [add_eq, fl, qv]
 rw [if_neg hi, cb l.length (Nat.le_refl _)]
 simp [add_eq, fl, qv]
end
section
variable {α : Type} {enc : α → List Value} {s q b bytes : Nat} {L ys : List α} {P : Program} {base L0 : Nat} {ops : Array Oper} {j : Nat} {a a2 : CAct} {h h2 : List Blk} {Ψ : CAct → List Blk → Prop} {ts : Array TypeId} {e : TypeId} {z y : Value} {xs : List Value} {m : Nat}
theorem TI.zapp (hq : q ≤ L.length) (hq2 : q ≤ 1000000000) (h0 : qAt P base ops j a h = cAppend P base h h.length ts (zq s b q L) y)
 (hb : h[b]? = some (accB e L.length (L.flatMap enc))) (hbase : base ≤ b) (he : (ts[0]?).bind P.underlying = some (.slice e)) (hs : sizeT P e = some s) (hby : bytesT P e = some bytes) (hz : zeroT P e = some z)
 (hzf : (flat1 z && (z.cells.size == s) && decide (0 < s)) = true) (harg : appArg h s bytes z ((ts[1]?).bind P.underlying) y = some (ys.length, ys.flatMap enc)) (hm : (ys.length == 0) = false) (hok : (ys.flatMap enc).all cellOk = true)
 (hl : ∀ y, (enc y).length = s) (hbig : ¬ (2 * ((L.drop q).length + ys.length) + 1000) * (bytes + 1) > 2 ^ 48)
 (keep keepH : List Nat) (hst : mk2 keep keepH (putAt ops j a (.slice (some ⟨h.length, 0, none⟩) (L.drop q ++ ys).length UNK), h.set b .dead ++ [.cells e ((L.drop q ++ ys).flatMap enc)]) = (a2, h2))
 (ht : TI P base L0 ops (j + 1) a2 h2 Ψ) : TI P base L0 ops j a h Ψ := by
 by_cases hl0 : L.length = 0
 · have hln : L = [] := List.length_eq_zero_iff.1 hl0
   subst hln
   have hb' : h[b]? = some .dead := by simpa [accB] using hb
   have q0 : q = 0 := by simpa using hq
   subst q0
   have hk : litK P base h s (some ⟨b, 0 + 0 * s, none⟩) 0 0 = none := by
    rw [show (0 + 0 * s) = 0 by omega]
    simp [litK, hb']
   have hq := q_app0 (x := qAt P base ops j a h) (enc := enc) (ys := ys) (by simpa [zq] using h0) hk he hs hby hz hzf harg hm rfl rfl (by simpa using hbig)
   refine TI.op hq keep keepH ?_ ht
   rw [set_dead hb'] at hst
   simpa [QRes.heap] using hst
 rw [zq_pos hl0] at h0
 have hq := q_appW (x := qAt P base ops j a h) (enc := enc) (ys := ys) (l := L.drop q) (L := L) (st := q) h0 (by omega) hq2 (by rw [List.take_of_length_le (Nat.le_refl _)]) (by simp; omega) (by simpa [accB, hl0] using hb) hbase he hs hby hz hzf harg hok hl hbig
 exact TI.op hq keep keepH (by simpa [QRes.heap, ownV] using hst) ht
end
section
variable {α : Type} {enc : α → List Value} {s q b off m c : Nat} {L : List α} {P : Program} {base : Nat} {hp : List Blk} {T : TypeId}
theorem litK_old (h : ¬ base ≤ b) : litK P base hp s (some ⟨b, off, none⟩) m c = none := by
 unfold litK
 split
 · cases off with
   | zero =>
    simp only
    split
    · rw [if_neg (fun x => h x.1)]
    rfl
   | succ off => rfl
 rfl
end
section
variable {α : Type} {p : Bool} {f : Nat → Nat × Nat} {n i i' s q : Nat} {L : List α}
theorem Rn.zq (hi : i < n) (hf : f i = (i', 0)) : Rn p f n (Cl.zq s i q L) (Cl.zq s i' q L) := by
 have := Rn.slice0 (p := p) (f := f) (n := n) i (0 + q * s) (L.drop q).length (if L.length = 0 then 0 else UNK - q) hi (by rw [hf])
 rw [hf] at this
 exact this
theorem Rn.zU (hi : i < n) (hf : f i = (i', 0)) (hL : ¬ L.length = 0) : Rn p f n (Cl.zq s i 0 L) (.slice (some ⟨i', 0, none⟩) L.length UNK) := by
 rw [zq_pos hL]
 have := Rn.slice0 (p := p) (f := f) (n := n) i 0 L.length UNK hi (by rw [hf])
 rw [hf] at this
 simpa using this
theorem Rn.zE : Rn true f n (Cl.zq s i 0 ([] : List α)) (.slice none 0 0) := .zN i _ rfl
end
end Go.Cl
set_option linter.unusedVariables false
namespace Go.Cl
open Go Go.RowKit
section
variable {α : Type} {enc : α → List Value} {s off b : Nat} {L ys l : List α} {P : Program} {hp : List Blk} {x : Option QRes} {T : TypeId}
end
section
variable {α : Type} {enc : α → List Value} {s b bytes : Nat} {l ys : List α} {f : Bool} {P : Program} {base L0 : Nat} {ops : Array Oper} {j : Nat} {a a2 : CAct} {h h2 : List Blk} {Ψ : CAct → List Blk → Prop} {ts : Array TypeId} {e : TypeId} {z y : Value}
end
section
variable {p : Bool} {f : Nat → Nat × Nat} {n i i' c c' : Nat} {g : Bool}
theorem Rn.flr {α : Type} {off : Nat} {ys : List α} (hi : i < n) (hf : f i = (i', off)) (hI : ys.length ≤ 1000000000) : Rn p f n (fl i 0 ys) (fl i' off ys) := by
 have := Rn.slice (p := p) (f := f) (n := n) i 0 off ys.length ys.length hi (by rw [hf]; rfl) (by simp only [INF]; omega)
 rw [hf] at this
 exact this
end
end Go.Cl
set_option linter.unusedVariables false
namespace Go.Cl
open Go Go.RowKit
section
variable {P : Program} {base L : Nat} {c y : Code} {a a1 a2 : CAct} {h h1 h2 new : List Blk} {Φ : Post} {K : List Fr} {ops : Array Oper} {T : List Entry} {fin : QSt} {us : List (Nat × Nat)}
theorem TS.drawT0 (T : List Entry) (hT : ∀ e ∈ T, PureSim P e.g e.args e.h e.v e.new) (hmix : P.follows .mixedOrders = true) {id : Nat} (n : Nat)
 (hn : (edgesBack ops.toList 0 && quietOk ops.toList (Region.before ops).toList n && (tailFrom (Region.before ops).toList ops.size == n)) = true)
 (us : List (Nat × Nat)) (hq : QI P T base ops us n 0 { act := a, heap := h } fin) (hu : fin.upds = us)
 (ht : TI P base L ops n fin.act fin.heap (NX P base L K Φ .normal)) : TS P base L (.region id ops true) a h (NX P base L K Φ) := by
 rintro N D0 β0 κ0 R hR0 w0 w a' Q ⟨D, β, κ, hf⟩ hb0 hQ
 simp only [Bool.and_eq_true, beq_iff_eq] at hn
 obtain ⟨⟨hback, hquiet⟩, hsdef⟩ := hn
 have hD := hf.dom
 have hb := hf.bl
 have hR := hf.rel
 have hA := hf.act
 have hsle : n ≤ ops.size := by rw [← hsdef]; exact tail_le _ _
 have htail : ∀ j i, n ≤ j → j < ops.size → i < j → anc ops j i = true := fun j i h1 h2 h3 => tail_spec _ ops.size j i (by rw [hsdef]; exact h1) h2 h3
 have hq' : quietOps (orc P T) Rec.none base ops.toList (Region.before ops).toList us (ops.toList.take n) 0 { act := a, heap := h } = some fin := hq
 obtain ⟨S, R', g1, g2, g3⟩ := trace _ _ _ _ hq'
 have hlen : (ops.toList.take n).length = n := by simp; omega
 rw [hlen] at g2
 have X : Run (orc P T) Rec.none base ops n us a h S R' := {
   hs := hsle
   s0 := g1
   step := fun j o hj ho => by
     have := g3 j o (by rw [List.getElem?_take, if_pos hj]; simpa using ho)
     rwa [Nat.zero_add] at this
   upds := by rw [g2]; exact hu
   back := hback
   quiet := hquiet
   baseLe := hb }
 refine wpIn_region_any hmix (X.phase1 (D := D) (β0 := β) (κ0 := κ) (N := N) (w0 := w) (a0' := a') (ro := R) (fun h g args v new hc => callQ_sound (orc_ok hT) (none_sound (orc P T) 0) h g args v new hc) hD hA htail ?_ ops.size _ (fun _ => false) β κ a' _ (Inv.start X hD hR hA rfl) (by simp) (fun i hi => ?_) (fun i hi hil => ?_) ?_)
 · intro L' β1 κ1 a2 w2 I hall
   obtain ⟨hO, hA2⟩ := X.outcome hD hA I hall
   rw [g2] at hO hA2
   exact ht N D0 β0 κ0 R hR0 w0 w2 a2 Q (Fits.out hf hO hA2) (hb0.trans hO.below) fun a1 h1 a1' w1 hp hf1 hb1 => hQ _ a1 h1 a1' w1 hp hf1 hb1
 · simp [show i < ops.size by omega]
 · simp [hil]
 have h1 := List.length_filter_le (fun i => !(fun _ => false : Nat → Bool) i) (List.range n)
 rw [List.length_range] at h1
 exact Nat.le_trans (Nat.add_le_add_right h1 _) (by omega)
theorem TS.drawT (T : List Entry) (hT : ∀ e ∈ T, PureSim P e.g e.args e.h e.v e.new) (hmix : P.follows .mixedOrders = true) (n : Nat) (us : List (Nat × Nat)) (a1 : CAct) (h1 : List Blk)
 (hq : QJ P T base c.rops us n 0 { act := a, heap := h } fun fin => fin.upds = us ∧ fin.act = a1 ∧ fin.heap = h1)
 (ht : TI P base L c.rops n a1 h1 (NX P base L K Φ .normal)) (hc : Code.isReg true c = true := by kernel_rfl)
 (hn : (edgesBack c.rops.toList 0 && quietOk c.rops.toList (Region.before c.rops).toList n && (tailFrom (Region.before c.rops).toList c.rops.size == n)) = true := by kernel_rfl) : TS P base L c a h (NX P base L K Φ) := by
 obtain ⟨id, hc⟩ := Code.isReg_spec hc
 obtain ⟨fin, hq, hu, ha, hh⟩ := hq
 rw [hc]
 exact TS.drawT0 T hT hmix n hn us hq hu (by rw [ha, hh]; exact ht)
end
end Go.Cl
