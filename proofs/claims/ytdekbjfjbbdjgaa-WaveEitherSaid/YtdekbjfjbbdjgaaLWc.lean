/- How nodes were found: ways to the first node of their part. -/
import Derived.Test.YtdekbjfjbbdjgaaGX
import Derived.Test.YtdekbjfjbbdjgaaLWb
set_option linter.unusedVariables false
namespace Go.Cl
theorem mget_app {α β : Type} [DecidableEq α] {l m : List (α × β)} {k : α} {v : β} (h : mget l k = some v) : mget (l ++ m) k = some v := by
 induction l with
 | nil => cases h
 | cons p l ih =>
  obtain ⟨a, b⟩ := p
  simp only [List.cons_append, mget] at h ⊢
  split
  · rename_i e; rw [if_pos e] at h; exact h
  rename_i e; rw [if_neg e] at h; exact ih h
theorem mget_app_none {α β : Type} [DecidableEq α] {l m : List (α × β)} {k : α} (h : mget l k = none) : mget (l ++ m) k = mget m k := by
 induction l with
 | nil => rfl
 | cons p l ih =>
  obtain ⟨a, b⟩ := p
  simp only [List.cons_append, mget] at h ⊢
  split
  · rename_i e; rw [if_pos e] at h; cases h
  rename_i e; rw [if_neg e] at h; exact ih h
theorem mput_new {α β : Type} [DecidableEq α] {l : List (α × β)} {k : α} {v : β} (h : mget l k = none) : mput l k v = l ++ [(k, v)] := by
 induction l with
 | nil => rfl
 | cons p l ih =>
  obtain ⟨a, b⟩ := p
  simp only [mget] at h
  split at h
  · cases h
  rename_i e
  simp only [mput, if_neg e, List.cons_append, ih h]
end Go.Cl
namespace Go.Proofs.Ytdekbjfjbbdjgaa.plain
open Go Go.Cl
section
variable {S M : Int} {rd : List (Int × Int)}
def Joins (S M : Int) (y : Int × Int) (x f : Nd) : Prop := (x = nda S y ∧ f = ndb M y) ∨ (x = ndb M y ∧ f = nda S y)
def PlaceOk (S M : Int) (rd : List (Int × Int)) (out : Out) (x : Nd) (q : Pl) : Prop :=
 (q.2.2.1 < 0 ∧ q.1 = x) ∨ (0 ≤ q.2.2.1 ∧ ∃ y q', rd[q.2.2.1.toNat]? = some y ∧ Joins S M y x q.2.2.2 ∧ mget out q.2.2.2 = some q' ∧ q.2.1 = w64 (y.2 - q'.2.1) ∧ q.1 = q'.1)
inductive Built (S M : Int) (rd : List (Int × Int)) : Out → Prop where
 | nil : Built S M rd []
 | snoc {out : Out} {x : Nd} {q : Pl} (h : Built S M rd out) (hx : mget out x = none) (hq : PlaceOk S M rd out x q) : Built S M rd (out ++ [(x, q)])
structure Tree (S M : Int) (rd : List (Int × Int)) (out : Out) (opn : Opn) : Prop where
 built : Built S M rd out
 free : ∀ x, isO opn x → mget out x = none
 nodup : (keys opn).Nodup
theorem loop_tree {rec : Rec} (hS : S ≠ 0) (hM : M ≠ 0) (hl : rd.length ≤ 60) (hrec : ∀ n p out opn r, call rec S M rd n p out opn = some r → isO opn n → Tree S M rd out opn → PlaceOk S M rd out n p → Tree S M rd r.1 r.2 ∧ ∃ e, r.1 = out ++ e) {n : Nd} {p : Pl} :
 ∀ (d : Nat) (i : Int) (out : Out) (opn : Opn) (r : Out × Opn), 0 ≤ i → i + d = rd.length → loop rec S M rd n p i out opn = some r → Tree S M rd out opn → mget out n = some p → Tree S M rd r.1 r.2 ∧ ∃ e, r.1 = out ++ e := by
 intro d
 induction d with
 | zero =>
  intro i out opn r h0 hd h hT hn
  rw [loop_end (by omega)] at h
  cases h
  exact ⟨hT, [], by simp⟩
 | succ d ih =>
  intro i out opn r h0 hd h hT hn
  rw [loop_step hS hM h0 (by omega), w64_in (by omega) (by omega)] at h
  obtain ⟨r1, h1, h2⟩ := Option.bind_eq_some_iff.1 h
  obtain ⟨y, hy⟩ : ∃ y, rd[i.toNat]? = some y := ⟨_, List.getElem?_eq_getElem (by omega)⟩
  have hyd : rd.getD i.toNat (0, 0) = y := by simp [List.getD, hy]
  rw [hyd] at h1
  have step : Tree S M rd r1.1 r1.2 ∧ ∃ e, r1.1 = out ++ e := by
   unfold stepO at h1
   split at h1
   · rename_i c
     exact hrec _ _ _ _ _ h1 c.2 hT (.inr ⟨h0, y, p, hy, .inr ⟨rfl, c.1⟩, hn, rfl, rfl⟩)
   split at h1
   · rename_i c
     exact hrec _ _ _ _ _ h1 c.2 hT (.inr ⟨h0, y, p, hy, .inl ⟨rfl, c.1⟩, hn, rfl, rfl⟩)
   cases h1; exact ⟨hT, [], by simp⟩
  obtain ⟨hT1, e, he⟩ := step
  obtain ⟨a, e2, b⟩ := ih (i + 1) r1.1 r1.2 r (by omega) (by omega) h2 hT1 (by rw [he]; exact mget_app hn)
  exact ⟨a, e ++ e2, by rw [b, he, List.append_assoc]⟩
theorem visit_tree (hS : S ≠ 0) (hM : M ≠ 0) (hl : rd.length ≤ 60) : ∀ (k : Nat) (n : Nd) (p : Pl) (out : Out) (opn : Opn) (r : Out × Opn), call (F61 k) S M rd n p out opn = some r → isO opn n → Tree S M rd out opn → PlaceOk S M rd out n p → Tree S M rd r.1 r.2 ∧ ∃ e, r.1 = out ++ e := by
 intro k
 induction k with
 | zero => intro n p out opn r h; cases h
 | succ k ih =>
  intro n p out opn r h ho hT hp
  have h' : loop (F61 k) S M rd n p 0 (mput out n p) (mdel opn n) = some r := by
   have : call (F61 (k + 1)) S M rd n p out opn = (loop (F61 k) S M rd n p 0 (mput out n p) (mdel opn n)).bind fun r => some (r.1, r.2) := rfl
   rw [this, bindEta] at h
   exact h
  have hn := hT.free n ho
  rw [mput_new hn] at h'
  have hfree : ∀ x, isO (mdel opn n) x → mget (out ++ [(n, p)]) x = none := fun x hx => by
   have := (isO_mdel hT.nodup).1 hx
   rw [mget_app_none (hT.free x this.2)]
   simp [mget, this.1]
  obtain ⟨a, e, b⟩ := loop_tree hS hM hl ih rd.length 0 _ _ r (Int.le_refl _) (by omega) h' ⟨.snoc hT.built hn hp, hfree, nodup_mdel n hT.nodup⟩ (by rw [mget_app_none hn]; simp [mget])
  exact ⟨a, _, by rw [b, List.append_assoc]⟩
theorem l2_tree (hS : S ≠ 0) (hM : M ≠ 0) (hS30 : S ≤ 30) (hl : rd.length ≤ 60) : ∀ (d : Nat) (v : Int) (o : Opn) (out : Out) (r : Opn × Out), 0 ≤ v → v + d = S → F49l2 S M rd v o out = some r → Tree S M rd out o → Tree S M rd r.2 r.1 := by
 intro d
 induction d with
 | zero =>
  intro v o out r h0 hd h hT
  rw [F49l2, if_neg (by simp; omega)] at h
  cases h
  exact hT
 | succ d ih =>
  intro v o out r h0 hd h hT
  rw [F49l2, if_pos (by simp; omega), w64_in (by omega) (by omega)] at h
  simp only [Option.bind_eq_bind, Option.bind_some] at h
  split at h
  · rename_i ho
    obtain ⟨r1, h1, h2⟩ := Option.bind_eq_some_iff.1 h
    exact ih (v + 1) _ _ r (by omega) (by omega) h2 (visit_tree hS hM hl 64 (0, v) ((0, v), 0, -1, (0, v)) out o r1 h1 ho hT (.inl ⟨(show (-1 : Int) < 0 by decide), rfl⟩)).1
  exact ih (v + 1) _ _ r (by omega) (by omega) h hT
theorem l3_tree (hS : S ≠ 0) (hM : M ≠ 0) (hM30 : M ≤ 30) (hl : rd.length ≤ 60) : ∀ (d : Nat) (v : Int) (o : Opn) (out : Out) (r : Opn × Out), 0 ≤ v → v + d = M → F49l3 S M rd v o out = some r → Tree S M rd out o → Tree S M rd r.2 r.1 := by
 intro d
 induction d with
 | zero =>
  intro v o out r h0 hd h hT
  rw [F49l3, if_neg (by simp; omega)] at h
  cases h
  exact hT
 | succ d ih =>
  intro v o out r h0 hd h hT
  rw [F49l3, if_pos (by simp; omega), w64_in (by omega) (by omega)] at h
  simp only [Option.bind_eq_bind, Option.bind_some] at h
  split at h
  · rename_i ho
    obtain ⟨r1, h1, h2⟩ := Option.bind_eq_some_iff.1 h
    exact ih (v + 1) _ _ r (by omega) (by omega) h2 (visit_tree hS hM hl 64 (1, v) ((1, v), 0, -1, (1, v)) out o r1 h1 ho hT (.inl ⟨(show (-1 : Int) < 0 by decide), rfl⟩)).1
  exact ih (v + 1) _ _ r (by omega) (by omega) h hT
theorem solve_tree (h : Rec0 S M rd) {out : Out} (hf : F49 S M rd = some out) : Built S M rd out := by
 have hs := h.s
 have hm := h.m
 unfold F49 at hf
 obtain ⟨o0, e0, hf⟩ := Option.bind_eq_some_iff.1 hf
 obtain ⟨o1, e1, hf⟩ := Option.bind_eq_some_iff.1 hf
 obtain ⟨r2, e2, hf⟩ := Option.bind_eq_some_iff.1 hf
 obtain ⟨r3, e3, hf⟩ := Option.bind_eq_some_iff.1 hf
 cases hf
 obtain ⟨o0', e0', h0, k0⟩ := l0Ok (M := M) (rd := rd) hs.2 S.toNat 0 [] (Int.le_refl _) (by omega) ⟨by simp [keys], fun x => by first | (simp [isO, mget]; done) | (simp [isO, mget]; omega), by simp⟩ (fun x hx => by simp [keys] at hx)
 rw [e0] at e0'
 cases e0'
 have o0k : ∀ x, isO o0 x → x.1 ≠ 1 := fun x hx => by
  rcases (h0.open_ x).1 hx with a | a
  · simp [isO, mget] at a
  rw [a.1]; decide
 obtain ⟨o1', e1', h1⟩ := l1Ok (S := S) (rd := rd) hm.2 o0k k0 M.toNat 0 o0 (Int.le_refl _) (by omega) ⟨h0.nodup, fun x => ⟨.inl, fun a => a.elim id fun a => by omega⟩, by omega⟩ k0
 rw [e1] at e1'
 cases e1'
 have T1 : Tree S M rd [] o1 := ⟨.nil, fun x _ => rfl, h1.nodup⟩
 have T2 := l2_tree (by omega) (by omega) hs.2 h.len S.toNat 0 o1 [] r2 (Int.le_refl _) (by omega) e2 T1
 exact (l3_tree (by omega) (by omega) hm.2 h.len M.toNat 0 r2.1 r2.2 r3 (Int.le_refl _) (by omega) e3 T2).built
inductive Way (S M : Int) (rd : List (Int × Int)) (out : Out) : Nd → List (Int × Nd) → Nd → Prop where
 | nil (x : Nd) : Way S M rd out x [] x
 | cons {x : Nd} {q q' : Pl} {y : Int × Int} {l : List (Int × Nd)} {t : Nd} (hx : mget out x = some q) (h0 : 0 ≤ q.2.2.1) (hy : rd[q.2.2.1.toNat]? = some y) (hj : Joins S M y x q.2.2.2)
  (hf : mget out q.2.2.2 = some q') (hw : q.2.1 = w64 (y.2 - q'.2.1)) (ht : Way S M rd out q.2.2.2 l t) : Way S M rd out x ((q.2.2.1, x) :: l) t
theorem Way.mono {out e : Out} {x t : Nd} {l : List (Int × Nd)} (h : Way S M rd out x l t) : Way S M rd (out ++ e) x l t := by
 induction h with
 | nil x => exact .nil x
 | cons hx h0 hy hj hf hw _ ih => exact .cons (mget_app hx) h0 hy hj (mget_app hf) hw ih
def IsRoot (out : Out) (t : Nd) : Prop := ∃ q, mget out t = some q ∧ q.2.2.1 < 0 ∧ q.1 = t
theorem Built.ways {out : Out} (h : Built S M rd out) : ∀ x q, mget out x = some q → ∃ l t, Way S M rd out x l t ∧ IsRoot out t ∧ t = q.1 ∧ l.length + 1 ≤ out.length := by
 induction h with
 | nil => intro x q hx; cases hx
 | @snoc out z p h hz hp ih =>
  intro x q hx
  cases hxo : mget out x with
  | some q0 =>
   rw [mget_app hxo] at hx
   cases hx
   obtain ⟨l, t, a, ⟨qt, b1, b2, b3⟩, c, d⟩ := ih x _ hxo
   exact ⟨l, t, a.mono, ⟨qt, mget_app b1, b2, b3⟩, c, by rw [List.length_append]; omega⟩
  | none =>
   rw [mget_app_none hxo] at hx
   simp only [mget] at hx
   split at hx
   · rename_i e
     subst e
     cases hx
     have hself : mget (out ++ [(x, p)]) x = some p := by rw [mget_app_none hz]; simp [mget]
     rcases hp with ⟨h1, h2⟩ | ⟨h1, y, q', h2, h3, h4, h5, h6⟩
     · exact ⟨[], x, .nil x, ⟨p, hself, h1, h2⟩, h2.symm, by simp⟩
     obtain ⟨l, t, a, ⟨qt, b1, b2, b3⟩, c, d⟩ := ih _ _ h4
     exact ⟨_, t, .cons hself h1 h2 h3 (mget_app h4) h5 a.mono, ⟨qt, mget_app b1, b2, b3⟩, by rw [c, h6], by simp only [List.length_cons, List.length_append, List.length_nil]; omega⟩
   cases hx
theorem way_eq {out : Out} {x t : Nd} {l : List (Int × Nd)} (h : Way S M rd out x l t) (hr : IsRoot out t) : ∀ acc : List Int, acc.length + l.length ≤ 1000000 → F56l0 out acc x.1 x.2 = some (acc ++ l.map (·.1)) := by
 induction h with
 | nil x =>
  intro acc ha
  obtain ⟨q, h1, h2, _⟩ := hr
  rw [F56l0, h1]
  simp only [Option.bind_eq_bind, Option.bind_some, Option.getD_some]
  rw [if_neg (by simp; omega)]
  simp
 | @cons x q q' y l t hx h0 hy hj hf hw _ ih =>
  intro acc ha
  simp only [List.length_cons] at ha
  rw [F56l0, hx]
  simp only [Option.bind_eq_bind, Option.bind_some, Option.getD_some]
  rw [if_pos (by simpa using h0), if_pos (by omega), ih hr _ (by simp; omega)]
  simp
end
end Go.Proofs.Ytdekbjfjbbdjgaa.plain
