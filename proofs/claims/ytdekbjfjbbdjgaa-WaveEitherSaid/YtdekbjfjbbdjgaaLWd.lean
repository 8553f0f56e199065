/- The ring that is returned: it is one, and clashes. -/
import Derived.Test.YtdekbjfjbbdjgaaLWc
set_option linter.unusedVariables false
namespace Go.Cl
theorem len_le_sub {α : Type} [DecidableEq α] : ∀ {l m : List α}, l.Nodup → (∀ x ∈ l, x ∈ m) → l.length ≤ m.length
 | [], m, _, _ => Nat.zero_le _
 | x :: l, m, hn, hs => by
  have hn' := List.nodup_cons.1 hn
  have hx : x ∈ m := hs x (by simp)
  have := len_le_sub (l := l) (m := m.erase x) hn'.2 (fun y hy => by
   have hne : y ≠ x := fun e => hn'.1 (e ▸ hy)
   exact (List.mem_erase_of_ne hne).2 (hs y (by simp [hy])))
  rw [List.length_erase_of_mem hx] at this
  have := List.length_pos_of_mem hx
  simp only [List.length_cons]
  omega
end Go.Cl
namespace Go.Proofs.Ytdekbjfjbbdjgaa.plain
open Go Go.Cl
section
variable {S M : Int} {rd : List (Int × Int)} {out : Out}
theorem nda_ne {y z : Int × Int} : nda S y ≠ ndb M z := fun e => by have := (Prod.mk.inj e).1; omega
theorem Joins.symm {y : Int × Int} {x f : Nd} (h : Joins S M y x f) : Joins S M y f x := h.elim (fun a => .inr ⟨a.2, a.1⟩) (fun a => .inl ⟨a.2, a.1⟩)
theorem Joins.inj {y : Int × Int} {x z f : Nd} (h : Joins S M y x f) (h' : Joins S M y z f) : x = z := by
 rcases h with ⟨a, b⟩ | ⟨a, b⟩ <;> rcases h' with ⟨c, d⟩ | ⟨c, d⟩
 · rw [a, c]
 · exact absurd (d.symm.trans b) nda_ne
 · exact absurd (b.symm.trans d) nda_ne
 rw [a, c]
theorem sp_a {y : Int × Int} : sp (nda S y) = 1 := rfl
theorem sp_b {y : Int × Int} : sp (ndb M y) = -1 := rfl
theorem Joins.sp {y : Int × Int} {x f : Nd} (h : Joins S M y x f) : sp f = - sp x := by
 rcases h with ⟨a, b⟩ | ⟨a, b⟩ <;> rw [a, b] <;> rfl
theorem Way.split {x t : Nd} {m : List (Int × Nd)} : ∀ {l : List (Int × Nd)}, Way S M rd out x (l ++ m) t → ∃ u, Way S M rd out x l u ∧ Way S M rd out u m t := by
 intro l
 induction l generalizing x with
 | nil => intro h; exact ⟨x, .nil x, h⟩
 | cons a l ih =>
  intro h
  cases h with
  | cons hx h0 hy hj hf hw ht =>
   obtain ⟨u, h1, h2⟩ := ih ht
   exact ⟨u, .cons hx h0 hy hj hf hw h1, h2⟩
theorem Way.app {x u t : Nd} {l m : List (Int × Nd)} (h : Way S M rd out x l u) (k : Way S M rd out u m t) : Way S M rd out x (l ++ m) t := by
 induction h with
 | nil x => exact k
 | cons hx h0 hy hj hf hw _ ih => exact .cons hx h0 hy hj hf hw (ih k)
theorem Way.full {x t t' : Nd} {l l' : List (Int × Nd)} (h : Way S M rd out x l t) (hr : IsRoot out t) (h' : Way S M rd out x l' t') (hr' : IsRoot out t') : l = l' := by
 induction h generalizing l' with
 | nil x =>
  obtain ⟨q, a, b, _⟩ := hr
  cases h' with
  | nil => rfl
  | cons hx h0 => rw [a] at hx; cases hx; omega
 | cons hx h0 hy hj hf hw _ ih =>
  cases h' with
  | nil =>
   obtain ⟨q, a, b, _⟩ := hr'
   rw [a] at hx; cases hx; omega
  | cons hx2 h02 hy2 hj2 hf2 hw2 ht2 =>
   rw [hx] at hx2
   cases hx2
   rw [ih hr ht2]
theorem Way.meet {t : Nd} : ∀ {l l' : List (Int × Nd)} {u v : Nd}, Way S M rd out u l t → Way S M rd out v l' t → l.map (·.1) = l'.map (·.1) → u = v := by
 intro l
 induction l with
 | nil =>
  intro l' u v h h' e
  have : l' = [] := by simpa using e.symm
  subst this
  cases h
  cases h'
  rfl
 | cons a l ih =>
  intro l' u v h h' e
  cases l' with
  | nil => simp at e
  | cons a' l' =>
   simp only [List.map_cons, List.cons.injEq] at e
   cases h with
   | cons hx h0 hy hj hf hw ht =>
    cases h' with
    | cons hx2 h02 hy2 hj2 hf2 hw2 ht2 =>
     have := ih ht ht2 e.2
     dsimp only at e
     rw [← e.1, hy] at hy2
     cases hy2
     rw [← this] at hj2
     exact hj.inj hj2
theorem Way.key {x t : Nd} {l : List (Int × Nd)} (h : Way S M rd out x l t) (ht : mget out t ≠ none) : ∀ z ∈ l.map (·.2) ++ [t], mget out z ≠ none := by
 induction h with
 | nil x => intro z hz; simp at hz; rw [hz]; exact ht
 | cons hx _ _ _ _ _ _ ih =>
  intro z hz
  simp only [List.map_cons, List.cons_append, List.mem_cons] at hz
  rcases hz with rfl | hz
  · rw [hx]; intro e; cases e
  exact ih ht z hz
theorem Way.lower {x t r : Nd} {l m : List (Int × Nd)} (h : Way S M rd out x l t) (k : Way S M rd out t m r) : ∀ z ∈ l.map (·.2) ++ [t], ∃ w, Way S M rd out z w r ∧ w.length ≤ (l ++ m).length := by
 induction h with
 | nil x => intro z hz; simp at hz; subst hz; exact ⟨m, k, by simp⟩
 | cons hx h0 hy hj hf hw ht ih =>
  intro z hz
  simp only [List.map_cons, List.cons_append, List.mem_cons] at hz
  rcases hz with rfl | hz
  · exact ⟨_, (Way.cons hx h0 hy hj hf hw ht).app k, Nat.le_refl _⟩
  obtain ⟨w, a, b⟩ := ih k z hz
  exact ⟨w, a, Nat.le_trans b (by simp)⟩
theorem Way.nodup {x t r : Nd} {l m : List (Int × Nd)} (h : Way S M rd out x l t) (k : Way S M rd out t m r) (hr : IsRoot out r) : (l.map (·.2) ++ [t]).Nodup := by
 induction h with
 | nil x => simp
 | cons hx h0 hy hj hf hw ht ih =>
  simp only [List.map_cons, List.cons_append, List.nodup_cons]
  refine ⟨fun hz => ?_, ih k⟩
  obtain ⟨w, a, b⟩ := ht.lower k _ hz
  have := ((Way.cons hx h0 hy hj hf hw ht).app k).full hr a hr
  rw [← this] at b
  simp at b
  omega
theorem Way.sub {x t : Nd} {l : List (Int × Nd)} {z : Nd} (h : Way S M rd out x l t) (hz : z ∈ l.map (·.2)) : ∃ l1 l2, l = l1 ++ l2 ∧ l2 ≠ [] ∧ Way S M rd out z l2 t := by
 induction h with
 | nil x => simp at hz
 | cons hx h0 hy hj hf hw ht ih =>
  simp only [List.map_cons, List.mem_cons] at hz
  rcases hz with rfl | hz
  · exact ⟨[], _, rfl, by simp, .cons hx h0 hy hj hf hw ht⟩
  obtain ⟨l1, l2, a, b, c⟩ := ih hz
  exact ⟨_ :: l1, l2, by rw [a]; rfl, b, c⟩
theorem ways_apart {x y t r : Nd} {l l' m : List (Int × Nd)} (h : Way S M rd out x l t) (h' : Way S M rd out y l' t) (k : Way S M rd out t m r) (hr : IsRoot out r)
 (hne : l = [] ∨ l' = [] ∨ (l.map (·.1)).getLast? ≠ (l'.map (·.1)).getLast?) : (l.map (·.2) ++ (l'.map (·.2) ++ [t])).Nodup := by
 have n1 := h.nodup k hr
 have n2 := h'.nodup k hr
 rw [List.nodup_append] at n1 ⊢
 refine ⟨n1.1, n2, fun a ha b hb e => ?_⟩
 subst e
 rcases List.mem_append.1 hb with hb | hb
 · obtain ⟨l1, l2, e1, q1, w1⟩ := h.sub ha
   obtain ⟨l1', l2', e2, q2, w2⟩ := h'.sub hb
   have := (w1.app k).full hr (w2.app k) hr
   have := List.append_cancel_right this
   subst this
   have g : ∀ (p : List (Int × Nd)), ((p ++ l2).map (·.1)).getLast? = (l2.map (·.1)).getLast? := fun p => by
    rw [List.map_append, List.getLast?_append]
    cases l2 with
    | nil => exact absurd rfl q1
    | cons a l2 =>
     have : ((a :: l2).map (·.1)).getLast? ≠ none := by simp
     cases hh : ((a :: l2).map (·.1)).getLast? with
     | none => exact absurd hh this
     | some v => rfl
   rcases hne with e | e | e
   · rw [e1] at e; simp at e; exact q1 e.2
   · rw [e2] at e; simp at e; exact q1 e.2
   rw [e1, e2, g, g] at e; exact e rfl
 exact n1.2.2 a ha a (by simpa using hb) rfl
inductive Trail (S M : Int) (rd : List (Int × Int)) : Nd → List Int → Nd → Int → Prop where
 | nil (x : Nd) : Trail S M rd x [] x 0
 | cons {x x' t : Nd} {i Z : Int} {y : Int × Int} {l : List Int} (h0 : 0 ≤ i) (hy : rd[i.toNat]? = some y) (hj : Joins S M y x x') (ht : Trail S M rd x' l t Z) : Trail S M rd x (i :: l) t (-(sp x * y.2) + Z)
theorem Trail.app {x u t : Nd} {l m : List Int} {Y Z : Int} (h : Trail S M rd x l u Y) (k : Trail S M rd u m t Z) : Trail S M rd x (l ++ m) t (Y + Z) := by
 induction h with
 | nil x => simpa using k
 | cons h0 hy hj _ ih => rw [Int.add_assoc]; exact .cons h0 hy hj (ih k)
theorem Trail.rev {x t : Nd} {l : List Int} {Z : Int} (h : Trail S M rd x l t Z) : Trail S M rd t l.reverse x (-Z) := by
 induction h with
 | nil x => exact .nil x
 | @cons x x' t i Z y l h0 hy hj _ ih =>
  have one := Trail.cons h0 hy hj.symm (.nil x)
  rw [List.reverse_cons]
  have := ih.app one
  have e : -Z + (-(sp x' * y.2) + 0) = -(-(sp x * y.2) + Z) := by
   rw [hj.sp, Int.neg_mul]; omega
  rw [e] at this
  exact this
theorem Way.trail {x t : Nd} {l : List (Int × Nd)} {w : Nd → Int} (h : Way S M rd out x l t) (hw : ∀ z q, mget out z = some q → w z = q.2.1) (hb : ∀ z, mget out z ≠ none → -60000000 ≤ w z ∧ w z ≤ 60000000)
 (hv : ∀ y ∈ rd, -1000000 ≤ y.2 ∧ y.2 ≤ 1000000) : Trail S M rd x (l.map (·.1)) t (-(sp x * w x) + sp t * w t) := by
 induction h with
 | nil x => have := Trail.nil (S := S) (M := M) (rd := rd) x; rw [show -(sp x * w x) + sp x * w x = 0 by omega]; exact this
 | @cons x q q' y l t hx h0 hy hj hf hq ht ih =>
  have e := Trail.cons h0 hy hj ih
  have hyv := hv y (List.mem_of_getElem? hy)
  have b1 := hb q.2.2.2 (by rw [hf]; intro h; cases h)
  have e1 := hw _ _ hx
  have e2 := hw _ _ hf
  have : q.2.1 = y.2 - q'.2.1 := by rw [hq]; exact w64_in (by omega) (by omega)
  have hy2 : y.2 = w x + w q.2.2.2 := by omega
  have es := hj.sp
  have : -(sp x * y.2) + (-(sp q.2.2.2 * w q.2.2.2) + sp t * w t) = -(sp x * w x) + sp t * w t := by
   rw [hy2, es, Int.mul_add, Int.neg_mul]; omega
  rw [this] at e
  exact e
theorem Trail.kind {x t : Nd} {l : List Int} {Z : Int} (h : Trail S M rd x l t Z) : sp t = if l.length % 2 = 0 then sp x else - sp x := by
 induction h with
 | nil x => rfl
 | @cons x x' t i Z y l _ _ hj _ ih =>
  rw [ih, hj.sp]
  simp only [List.length_cons]
  by_cases c : l.length % 2 = 0
  · rw [if_pos c, if_neg (by omega)]
  rw [if_neg c, if_pos (by omega)]; omega
theorem strip (p2 : List (Int × Int)) (r6 : Int) : ∀ (n : Nat) (a b : List Int), a.length ≤ n → a.length ≤ 1000 → b.length ≤ 1000 →
 ∃ a' b' c, F29l0 p2 r6 a b = some (a', b') ∧ a = a' ++ c ∧ b = b' ++ c ∧ (a' = [] ∨ b' = [] ∨ a'.getLast? ≠ b'.getLast?) := by
 intro n
 induction n with
 | zero =>
  intro a b hn ha hb
  have : a = [] := List.length_eq_zero_iff.1 (by omega)
  subst this
  refine ⟨[], b, [], ?_, rfl, by simp, .inl rfl⟩
  rw [F29l0]
  rfl
 | succ n ih =>
  intro a b hn ha hb
  rw [F29l0]
  by_cases ca : a.length = 0
  · have : a = [] := List.length_eq_zero_iff.1 ca
    subst this
    exact ⟨[], b, [], rfl, rfl, by simp, .inl rfl⟩
  by_cases cb : b.length = 0
  · have : b = [] := List.length_eq_zero_iff.1 cb
    subst this
    refine ⟨a, [], [], ?_, by simp, rfl, .inr (.inl rfl)⟩
    rw [if_pos (show decide ((a.length : Int) > 0) = true by simp; omega)]
    rfl
  have wa : w64 ((a.length : Int) - 1) = (a.length : Int) - 1 := w64_in (by omega) (by omega)
  have wb : w64 ((b.length : Int) - 1) = (b.length : Int) - 1 := w64_in (by omega) (by omega)
  have ga : (0 : Int) ≤ (a.length : Int) - 1 ∧ (a.length : Int) - 1 < (a.length : Int) := by omega
  have gb : (0 : Int) ≤ (b.length : Int) - 1 ∧ (b.length : Int) - 1 < (b.length : Int) := by omega
  have ga' : (0 : Int) ≤ (a.length : Int) - 1 ∧ (a.length : Int) - 1 ≤ (a.length : Int) := by omega
  have gb' : (0 : Int) ≤ (b.length : Int) - 1 ∧ (b.length : Int) - 1 ≤ (b.length : Int) := by omega
  simp only [if_pos (show decide ((a.length : Int) > 0) = true by simp; omega), if_pos (show decide ((b.length : Int) > 0) = true by simp; omega), wa, wb, if_pos ga, if_pos gb, if_pos ga', if_pos gb', Option.bind_eq_bind, Option.bind_some]
  obtain ⟨a0, i, rfl⟩ : ∃ a0 i, a = a0 ++ [i] := ⟨a.dropLast, a.getLast (by intro h; rw [h] at ca; exact ca rfl), (List.dropLast_concat_getLast _).symm⟩
  obtain ⟨b0, j, rfl⟩ : ∃ b0 j, b = b0 ++ [j] := ⟨b.dropLast, b.getLast (by intro h; rw [h] at cb; exact cb rfl), (List.dropLast_concat_getLast _).symm⟩
  have ta : ((a0 ++ [i]).length : Int) - 1 = (a0.length : Int) := by simp
  have tb : ((b0 ++ [j]).length : Int) - 1 = (b0.length : Int) := by simp
  rw [ta, tb]
  simp only [Int.toNat_natCast]
  have va : (a0 ++ [i]).getD a0.length 0 = i := by simp [List.getD]
  have vb : (b0 ++ [j]).getD b0.length 0 = j := by simp [List.getD]
  rw [va, vb]
  by_cases e : i = j
  · subst e
    simp only [beq_self_eq_true, if_true]
    rw [show (a0 ++ [i]).take a0.length = a0 by simp, show (b0 ++ [i]).take b0.length = b0 by simp]
    simp only [List.length_append, List.length_cons, List.length_nil] at hn ha hb
    obtain ⟨a', b', c, h1, h2, h3, h4⟩ := ih a0 b0 (by omega) (by omega) (by omega)
    exact ⟨a', b', c ++ [i], h1, by rw [h2, List.append_assoc], by rw [h3, List.append_assoc], h4⟩
  rw [if_neg (by simpa using e)]
  exact ⟨_, _, [], rfl, by simp, by simp, .inr (.inr (by simpa using e))⟩
theorem turn (p2 : List (Int × Int)) (r : List Int × List Int) (L : List Int) (hL : L.length ≤ 1000) : ∀ (d : Nat) (i j : Int) (v : List Int), 0 ≤ i → i + j = (L.length : Int) - 1 → j - i < d → v.length = L.length →
 (∀ t : Nat, t < L.length → v.getD t 0 = if (t : Int) < i ∨ j < (t : Int) then L.getD (L.length - 1 - t) 0 else L.getD t 0) → F29l1 p2 r i j v = some L.reverse := by
 intro d
 induction d with
 | zero =>
  intro i j v h0 hij hd hv hg
  rw [F29l1, if_neg (by simp; omega)]
  refine congrArg some (List.ext_getElem (by simp [hv]) fun t h1 h2 => ?_)
  have := hg t (by omega)
  rw [List.getElem_reverse]
  simp only [List.getD_eq_getElem?_getD, List.getElem?_eq_getElem h1, Option.getD_some] at this
  rw [this]
  simp only [List.length_reverse] at h2
  split
  · rw [List.getElem?_eq_getElem (by omega), Option.getD_some]
  rw [List.getElem?_eq_getElem (by omega), Option.getD_some]
  congr 1
  omega
 | succ d ih =>
  intro i j v h0 hij hd hv hg
  by_cases c : i < j
  · rw [F29l1, if_pos (by simpa using c), if_pos ⟨by omega, by omega⟩]
    simp only [Option.bind_eq_bind, Option.bind_some]
    rw [if_pos ⟨h0, by omega⟩, w64_in (by omega) (by omega), w64_in (by omega) (by omega)]
    refine ih (i + 1) (j - 1) _ (by omega) (by omega) (by omega) (by simp [hv]) fun t ht => ?_
    have gi := hg i.toNat (by omega)
    have gj := hg j.toNat (by omega)
    rw [if_neg (by omega)] at gi gj
    have gt := hg t ht
    simp only [List.getD_eq_getElem?_getD, List.getElem?_set] at gi gj gt ⊢
    by_cases e1 : j.toNat = t
    · subst e1
      rw [if_pos rfl, if_pos (by simp; omega), if_pos (by omega)]
      simp only [Option.getD_some]
      rw [gi]
      congr 2
      omega
    rw [if_neg e1]
    by_cases e2 : i.toNat = t
    · subst e2
      rw [if_pos rfl, if_pos (by omega), if_pos (by omega)]
      simp only [Option.getD_some]
      rw [gj]
      congr 2
      omega
    rw [if_neg e2, gt]
    by_cases c2 : (t : Int) < i ∨ j < (t : Int)
    · rw [if_pos c2, if_pos (by omega)]
    rw [if_neg c2, if_neg (by omega)]
  rw [F29l1, if_neg (by simpa using c)]
  refine congrArg some (List.ext_getElem (by simp [hv]) fun t h1 h2 => ?_)
  have := hg t (by omega)
  rw [List.getElem_reverse]
  simp only [List.getD_eq_getElem?_getD, List.getElem?_eq_getElem h1, Option.getD_some] at this
  rw [this]
  simp only [List.length_reverse] at h2
  split
  · rw [List.getElem?_eq_getElem (by omega), Option.getD_some]
  rw [List.getElem?_eq_getElem (by omega), Option.getD_some]
  congr 1
  omega
theorem concat3 (a b c : List Int) (ha : a.length ≤ 1000) (hb : b.length ≤ 1000) (hc : c.length ≤ 1000) : F58 a b c = some (a ++ b ++ c) := by
 unfold F58
 have w1 : w64 (0 + (a.length : Int)) = (a.length : Int) := by rw [Int.zero_add]; exact w64_in (by omega) (by omega)
 have w2 : w64 ((a.length : Int) + (b.length : Int)) = (a.length : Int) + (b.length : Int) := w64_in (by omega) (by omega)
 have w3 : w64 ((a.length : Int) + (b.length : Int) + (c.length : Int)) = (a.length : Int) + (b.length : Int) + (c.length : Int) := w64_in (by omega) (by omega)
 have w4 : w64 ((a.length : Int) + (b.length : Int) + (c.length : Int) - 0) = (a.length : Int) + (b.length : Int) + (c.length : Int) := by rw [Int.sub_zero]; exact w3
 simp only [w1, w2, Option.bind_eq_bind, Option.bind_some, w3, w4]
 have n1 : ¬ decide ((a.length : Int) < 0) = true := by simp
 have n2 : ¬ decide ((a.length : Int) + (b.length : Int) < 0) = true := by simp; omega
 have n3 : ¬ decide ((a.length : Int) + (b.length : Int) + (c.length : Int) < 0) = true := by simp; omega
 simp only [if_neg n1, if_neg n2, if_neg n3, Option.bind_some]
 by_cases c0 : (a.length : Int) + (b.length : Int) + (c.length : Int) > 0
 · rw [if_pos (by simpa using c0), if_pos ⟨by omega, by omega⟩, if_pos ⟨by decide, by omega⟩, if_pos (by simp), if_pos (by omega), if_pos (by simp; omega), if_pos (by omega), if_pos (by simp; omega), if_pos (by omega)]
   simp
 rw [if_neg (by simpa using c0), if_pos (by omega), if_pos (by omega), if_pos (by rw [List.length_append]; omega), if_pos (by omega)]
end
end Go.Proofs.Ytdekbjfjbbdjgaa.plain
