/- How far a case is, found by sets of cases that grow. -/
import Derived.Test.YtiaippkjgmccoaaLKb
import Derived.Test.YtiaippkjgmccoaaKV
set_option linter.unusedVariables false
set_option maxRecDepth 100000
namespace Go.Proofs.Ytiaippkjgmccoaa.plain
open Go Go.Cl
abbrev BMap := List (Case × Bool)
section
variable {T : Int} {rs : Rules} {l : List Case} {x y : Case}
def Near (rs : Rules) (x : Case) : Nat → Case → Prop
 | 0, y => y = x
 | n + 1, y => Near rs x n y ∨ ∃ z, Near rs x n z ∧ Leads rs z y
theorem Found.near_le {m : Map} {D : Case → Nat} (F : Found T rs [x] m D) : ∀ {n : Nat} {y : Case}, Near rs x n y → met m y ∧ D y ≤ n := by
 intro n
 have hx : met m x := (F.from_ x).2 (from_one.2 .refl)
 induction n with
 | zero =>
  intro y h
  rw [show y = x from h]
  refine ⟨hx, ?_⟩
  cases hv : mget m x with
  | none => exact absurd hv hx
  | some v =>
   rcases F.par x v hv with ⟨_, _, a⟩ | ⟨a, _⟩
   · omega
   exact absurd (List.mem_singleton.2 rfl) a
 | succ n ih =>
  intro y h
  rcases h with h | ⟨z, h, e⟩
  · have := ih h; exact ⟨this.1, by omega⟩
  obtain ⟨a, b⟩ := ih h
  have := F.near z y a e
  exact ⟨(F.from_ y).2 (from_one.2 ((from_one.1 ((F.from_ z).1 a)).step e)), by omega⟩
theorem Found.near_at {m : Map} {D : Case → Nat} (F : Found T rs [x] m D) : ∀ (n : Nat) (y : Case), D y = n → met m y → Near rs x n y := by
 intro n
 induction n with
 | zero =>
  intro y hd hm
  cases hv : mget m y with
  | none => exact absurd hv hm
  | some v =>
   rcases F.par y v hv with ⟨a, _, _⟩ | ⟨_, _, _, b⟩
   · exact List.mem_singleton.1 a
   omega
 | succ n ih =>
  intro y hd hm
  cases hv : mget m y with
  | none => exact absurd hv hm
  | some v =>
   rcases F.par y v hv with ⟨_, _, b⟩ | ⟨_, e, a, b⟩
   · omega
   exact .inr ⟨v, ih v (by omega) a, e⟩
theorem Found.small_D {m : Map} {D : Case → Nat} (hv : okR T rs) (hT : T ≤ 24) (hrs : rs.length ≤ 80) (hx : okC T x) (F : Found T rs [x] m D) (hm : met m y) : (D y : Int) + 1 ≤ 2 * T.toNat := by
 obtain ⟨out, fo_, G⟩ := F70_eq hv hT (by omega) hx
 have := exact_ hv hx F G hm
 have := (G.rng y (F.ok y hm)).2
 omega
theorem ite_iff {a b : Prop} {da : Decidable a} {db : Decidable b} (h : a ↔ b) : (if a then some true else none : Option Bool) = if b then some true else none := by
 by_cases g : a
 · rw [if_pos g, if_pos (h.1 g)]
 rw [if_neg g, if_neg (fun k => g (h.2 k))]
open Classical in
noncomputable def bit (p : Case → Prop) (k : Case) : Option Bool := if p k then some true else none
theorem grow_loop (h0 : 0 ≤ T) (hT : T ≤ 24) (hrs : rs.length ≤ 1000) (p4 : Int) (p5 : Bool) (n : Int) (e : Case × Bool) (P : Case → Prop) : ∀ (d : Nat) (t : Int) (m : BMap), 0 ≤ t → t + d = T →
 (∀ k, mget m k = bit (fun k => P k ∨ (0 ≤ k.1 ∧ k.1 < t ∧ Leads rs e.1 k)) k) → ∃ m', F46l2 T rs p4 p5 n e t m = some m' ∧ ∀ k, mget m' k = bit (fun k => P k ∨ (okC T k ∧ Leads rs e.1 k)) k := by
 intro d
 induction d with
 | zero =>
  intro t m ht hd h
  refine ⟨m, by rw [F46l2, if_neg (by simp; omega)], fun k => ?_⟩
  rw [h k]
  have : t = T := by omega
  subst this
  unfold bit okC
  congr 1
  simp only [and_assoc]
 | succ d ih =>
  intro t m ht hd h
  have w1 : w64 (t + 1) = t + 1 := w64_in (by omega) (by omega)
  have one : ∀ (b : Bool) (m : BMap) (Q : Case → Prop), (∀ k, mget m k = bit Q k) → ∃ m1, (if ld rs e.1 (t, b) = true then some (mput m (t, b) true) else some m) = some m1 ∧ ∀ k, mget m1 k = bit (fun k => Q k ∨ (k = (t, b) ∧ Leads rs e.1 k)) k := by
   intro b m Q hq
   by_cases hl : Leads rs e.1 (t, b)
   · rw [ld_iff.2 hl]
     refine ⟨_, rfl, fun k => ?_⟩
     rw [mget_mput]
     unfold bit
     by_cases ek : k = (t, b)
     · rw [if_pos ek, if_pos (.inr ⟨ek, by rw [ek]; exact hl⟩)]
     rw [if_neg ek, hq]
     unfold bit
     have : (Q k ∨ (k = (t, b) ∧ Leads rs e.1 k)) ↔ Q k := ⟨fun h => h.elim id (fun g => absurd g.1 ek), .inl⟩
     first | exact ite_iff this | exact ite_iff (Iff.symm this)
   rw [ld_not hl]
   refine ⟨m, rfl, fun k => ?_⟩
   rw [hq]
   unfold bit
   have : (Q k ∨ (k = (t, b) ∧ Leads rs e.1 k)) ↔ Q k := ⟨fun h => h.elim id (fun g => absurd (by rw [← g.1]; exact g.2) hl), .inl⟩
   first | exact ite_iff this | exact ite_iff (Iff.symm this)
  obtain ⟨m1, f1, h1⟩ := one false m _ h
  obtain ⟨m2, f2, h2⟩ := one true m1 _ h1
  obtain ⟨m', f, g⟩ := ih (t + 1) m2 (by omega) (by omega) (fun k => by
   rw [h2]
   unfold bit
   have : ((((P k ∨ (0 ≤ k.1 ∧ k.1 < t ∧ Leads rs e.1 k)) ∨ (k = (t, false) ∧ Leads rs e.1 k)) ∨ (k = (t, true) ∧ Leads rs e.1 k))) ↔ (P k ∨ (0 ≤ k.1 ∧ k.1 < t + 1 ∧ Leads rs e.1 k)) := by
    constructor
    · rintro (((h | ⟨a, b, c⟩) | ⟨a, c⟩) | ⟨a, c⟩)
      · exact .inl h
      · exact .inr ⟨a, by omega, c⟩
      · exact .inr ⟨by rw [a]; exact ht, by rw [a]; dsimp only; omega, c⟩
      exact .inr ⟨by rw [a]; exact ht, by rw [a]; dsimp only; omega, c⟩
    rintro (h | ⟨a, b, c⟩)
    · exact .inl (.inl (.inl h))
    by_cases ek : k.1 < t
    · exact .inl (.inl (.inr ⟨a, ek, c⟩))
    have e1 : k.1 = t := by omega
    obtain ⟨k1, k2⟩ := k
    dsimp only at e1
    subst e1
    cases k2
    · exact .inl (.inr ⟨rfl, c⟩)
    exact .inr ⟨rfl, c⟩
   first | exact ite_iff this | exact ite_iff (Iff.symm this))
  refine ⟨m', ?_, g⟩
  rw [F46l2, if_pos (by simp; omega), w1]
  rw [show F79 T rs e.1.1 e.1.2 t false = some (ld rs e.1 (t, false)) from F79_eq hrs e.1 (t, false), show F79 T rs e.1.1 e.1.2 t true = some (ld rs e.1 (t, true)) from F79_eq hrs e.1 (t, true)]
  simp only [Option.bind_eq_bind, Option.bind_some]
  rw [f1]
  simp only [Option.bind_some]
  rw [f2]
  exact f
theorem round_loop (hv : okR T rs) (h0 : 0 ≤ T) (hT : T ≤ 24) (hrs : rs.length ≤ 1000) (p4 : Int) (p5 : Bool) (n : Int) (now : BMap) : ∀ (es : BMap) (P : Case → Prop) (m : BMap), (∀ k, mget m k = bit P k) →
 ∃ m', F46l1 T rs p4 p5 n now m es = some m' ∧ ∀ k, mget m' k = bit (fun k => P k ∨ ∃ e ∈ es, k = e.1 ∨ Leads rs e.1 k) k := by
 intro es
 induction es with
 | nil =>
  intro P m h
  refine ⟨m, by rw [F46l1], fun k => ?_⟩
  rw [h]
  unfold bit
  exact ite_iff (by simp)
 | cons e es ih =>
  intro P m h
  obtain ⟨m1, f1, h1⟩ := grow_loop h0 hT hrs p4 p5 n e (fun k => P k ∨ k = e.1) T.toNat 0 (mput m e.1 true) (Int.le_refl _) (by omega) (fun k => by
   rw [mget_mput]
   unfold bit
   by_cases ek : k = e.1
   · rw [if_pos ek, if_pos (.inl (.inr ek))]
   rw [if_neg ek, h]
   unfold bit
   have : ((P k ∨ k = e.1) ∨ (0 ≤ k.1 ∧ k.1 < 0 ∧ Leads rs e.1 k)) ↔ P k := ⟨fun g => by
    rcases g with (g | g) | ⟨a, b, _⟩
    · exact g
    · exact absurd g ek
    omega, fun g => .inl (.inl g)⟩
   first | exact ite_iff this | exact ite_iff (Iff.symm this))
  obtain ⟨m', f, g⟩ := ih _ m1 h1
  refine ⟨m', ?_, fun k => ?_⟩
  · rw [F46l1]
    have e1 : F46r2 T rs p4 p5 n now m e = some (.inl m1) := by
     unfold F46r2
     rw [show (e.1.1, e.1.2) = e.1 from rfl, f1]
     rfl
    rw [e1]
    exact f
  rw [g]
  unfold bit
  have : ((((P k ∨ k = e.1) ∨ (okC T k ∧ Leads rs e.1 k))) ∨ ∃ e ∈ es, k = e.1 ∨ Leads rs e.1 k) ↔ (P k ∨ ∃ e' ∈ e :: es, k = e'.1 ∨ Leads rs e'.1 k) := by
   constructor
   · rintro (((h | h) | ⟨_, h⟩) | ⟨q, hq, h⟩)
     · exact .inl h
     · exact .inr ⟨e, List.mem_cons_self, .inl h⟩
     · exact .inr ⟨e, List.mem_cons_self, .inr h⟩
     exact .inr ⟨q, List.mem_cons_of_mem _ hq, h⟩
   rintro (h | ⟨q, hq, h⟩)
   · exact .inl (.inl (.inl h))
   rcases List.mem_cons.1 hq with rfl | hq
   · rcases h with h | h
     · exact .inl (.inl (.inr h))
     exact .inl (.inr ⟨leads_ok hv h, h⟩)
   exact .inr ⟨q, hq, h⟩
  first | exact ite_iff this | exact ite_iff (Iff.symm this)
theorem bkey {m : BMap} {k : Case} : (∃ q ∈ m, q.1 = k) ↔ mget m k ≠ none := by
 rw [Ne, mget_none, Classical.not_not]
 unfold keys
 rw [List.mem_map]
theorem far_rounds (hv : okR T rs) (h0 : 0 ≤ T) (hT : T ≤ 24) (hrs : rs.length ≤ 80) (hx : okC T x) {m : Map} {D : Case → Nat} (F : Found T rs [x] m D) (y : Case) : ∀ (fuel : Nat) (n : Nat) (now : BMap), 2 * T.toNat + 1 < fuel + n → n ≤ 2 * T.toNat →
 (∀ k, mget now k = bit (Near rs x n) k) → (∀ j : Nat, j < n → ¬ Near rs x j y) →
 (met m y → F46l0 T rs y.1 y.2 fuel ((n : Int) + 1) now = some (.inl ((D y : Int) + 1))) ∧ (¬ met m y → F46l0 T rs y.1 y.2 fuel ((n : Int) + 1) now = some (.inr ())) := by
 intro fuel
 induction fuel with
 | zero => intro n now h1 h2; omega
 | succ fuel ih =>
  intro n now hf hn hnow hno
  have w0 : w64 (2 * T) = 2 * T := w64_in (by omega) (by omega)
  have w1 : w64 ((n : Int) + 1 + 1) = (n : Int) + 1 + 1 := w64_in (by omega) (by omega)
  rw [F46l0, w0, w1]
  by_cases hle : (n : Int) + 1 ≤ 2 * T
  · rw [if_pos (by simpa using hle)]
    simp only [Option.bind_eq_bind, Option.bind_some]
    rw [show (y.1, y.2) = y from rfl, hnow y]
    unfold bit
    by_cases hy : Near rs x n y
    · rw [if_pos hy]
      have hm := (F.near_le hy).1
      have hD := (F.near_le hy).2
      have : D y = n := by
       refine Classical.byContradiction fun g => hno (D y) (by omega) (F.near_at _ y rfl hm)
      exact ⟨fun _ => by simp [this], fun g => absurd hm g⟩
    rw [if_neg hy]
    simp only [Option.getD_none, Bool.false_eq_true, if_false]
    have key : ∀ R : Int ⊕ Unit, (∀ nx : BMap, (∀ k, mget nx k = bit (Near rs x (n + 1)) k) → F46l0 T rs y.1 y.2 fuel ((n : Int) + 1 + 1) nx = some R) → permAll (fun es => (F46l1 T rs y.1 y.2 ((n : Int) + 1) now ([] : BMap) es).bind fun r327 => F46l0 T rs y.1 y.2 fuel ((n : Int) + 1 + 1) r327) now = some R := by
     intro R hR
     refine permAll_of fun es hp => ?_
     obtain ⟨nx, f1, g1⟩ := round_loop hv h0 hT (by omega) y.1 y.2 ((n : Int) + 1) now es (fun _ => False) [] (fun k => by unfold bit; rw [if_neg (fun h => h)]; rfl)
     rw [f1]
     refine hR nx (fun k => ?_)
     rw [g1]
     unfold bit
     have : (False ∨ ∃ e ∈ es, k = e.1 ∨ Leads rs e.1 k) ↔ Near rs x (n + 1) k := by
      have kk : ∀ z : Case, (∃ e ∈ es, e.1 = z) ↔ Near rs x n z := fun z => by
       have : (∃ e ∈ es, e.1 = z) ↔ ∃ e ∈ now, e.1 = z := by
        constructor
        · rintro ⟨e, he, g⟩; exact ⟨e, hp.mem_iff.1 he, g⟩
        rintro ⟨e, he, g⟩; exact ⟨e, hp.mem_iff.2 he, g⟩
       rw [this, bkey, hnow]
       unfold bit
       split
       · simp [*]
       simp [*]
      constructor
      · rintro (h | ⟨e, he, h | h⟩)
        · exact absurd h id
        · exact .inl ((kk k).1 ⟨e, he, h.symm⟩)
        exact .inr ⟨e.1, (kk e.1).1 ⟨e, he, rfl⟩, h⟩
      rintro (h | ⟨z, h, g⟩)
      · obtain ⟨e, he, h⟩ := (kk k).2 h
        exact .inr ⟨e, he, .inl h.symm⟩
      obtain ⟨e, he, h⟩ := (kk z).2 h
      exact .inr ⟨e, he, .inr (by rw [h]; exact g)⟩
     first | exact ite_iff this | exact ite_iff (Iff.symm this)
    have hno' : ∀ j : Nat, j < n + 1 → ¬ Near rs x j y := fun j hj => by
     by_cases e : j = n
     · rw [e]; exact hy
     exact hno j (by omega)
    by_cases hb : n + 1 ≤ 2 * T.toNat
    · constructor
      · intro hm
        exact key _ (fun nx hnx => by have := (ih (n + 1) nx (by omega) hb hnx hno').1 hm; push_cast at this; exact this)
      intro hm
      exact key _ (fun nx hnx => by have := (ih (n + 1) nx (by omega) hb hnx hno').2 hm; push_cast at this; exact this)
    omega
  rw [if_neg (by simpa using hle)]
  refine ⟨fun hm => ?_, fun _ => rfl⟩
  have := F.small_D hv hT hrs hx hm
  exact absurd (F.near_at _ y rfl hm) (hno (D y) (by omega))
theorem F46_eq (hv : okR T rs) (h0 : 1 ≤ T) (hT : T ≤ 24) (hrs : rs.length ≤ 80) (hx : okC T x) {m : Map} {D : Case → Nat} (F : Found T rs [x] m D) (y : Case) :
 (met m y → F46 T rs x.1 x.2 y.1 y.2 = some ((D y : Int) + 1)) ∧ (¬ met m y → F46 T rs x.1 x.2 y.1 y.2 = some 0) := by
 have h := far_rounds hv (by omega) hT hrs hx F y 64 0 (mput [] (x.1, x.2) true) (by omega) (by omega) (fun k => by
  rw [mget_mput]
  unfold bit
  rw [show (x.1, x.2) = x from rfl]
  by_cases e : k = x
  · rw [if_pos e, if_pos (show Near rs x 0 k from e)]
  rw [if_neg e, if_neg (show ¬ Near rs x 0 k from e)]; rfl) (fun j hj => by omega)
 unfold F46
 rw [show ((0 : Nat) : Int) + 1 = 1 from rfl] at h
 constructor
 · intro hm; rw [h.1 hm]; rfl
 intro hm; rw [h.2 hm]; rfl
end
end Go.Proofs.Ytiaippkjgmccoaa.plain
