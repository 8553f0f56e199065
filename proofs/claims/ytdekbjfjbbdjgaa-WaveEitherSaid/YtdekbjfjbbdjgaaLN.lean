/- The nodes of a record: each gets the smallest node of its part. -/
import Derived.Test.YtdekbjfjbbdjgaaGT
import Derived.Test.YtdekbjfjbbdjgaaLT
set_option linter.unusedVariables false
namespace Go.Proofs.Ytdekbjfjbbdjgaa.plain
open Go Go.Cl
section
variable {S M : Int} {rd : List (Int × Int)} {part wave : Int → Int}
structure Lab (n : Int) (part : Int → Int) (V : List Int) : Prop where
 len : (V.length : Int) = n
 own : ∀ x, 0 ≤ x → x < n → part (at0 V x) = part x ∧ 0 ≤ at0 V x ∧ at0 V x ≤ x
theorem Lab.low {n S : Int} {E : Edges} {V : List Int} (L : Lab n part V) (so : Sol n S E part wave) {x : Int} (h0 : 0 ≤ x) (hn : x < n) : part x ≤ at0 V x := by
 obtain ⟨a, b, c⟩ := L.own x h0 hn
 have := (so.dom (at0 V x) b (by omega)).2
 omega
theorem mn_le (a b : Int) : mn a b ≤ a ∧ mn a b ≤ b ∧ (mn a b = a ∨ mn a b = b) := by
 unfold mn
 split <;> omega
theorem label_pass (h : Rec0 S M rd) (so : Sol (S + M) S (edges S M rd) part wave) {r13 : List Int} {v63 : Int} : ∀ (d : Nat) (v : Int) (V : List Int), 0 ≤ v → v + d = rd.length → Lab (S + M) part V →
 ∃ V', F35l2 S M rd r13 v63 v V = some V' ∧ Lab (S + M) part V' ∧ (∀ x, 0 ≤ x → x < S + M → at0 V' x ≤ at0 V x) ∧
  ∀ j : Nat, v ≤ j → j < rd.length → (at0 V (Int.tmod (rd.getD j (0, 0)).1 S) = part (Int.tmod (rd.getD j (0, 0)).1 S) ∨ at0 V (S + Int.tmod (rd.getD j (0, 0)).1 M) = part (S + Int.tmod (rd.getD j (0, 0)).1 M)) →
   at0 V' (Int.tmod (rd.getD j (0, 0)).1 S) = part (Int.tmod (rd.getD j (0, 0)).1 S) ∧ at0 V' (S + Int.tmod (rd.getD j (0, 0)).1 M) = part (S + Int.tmod (rd.getD j (0, 0)).1 M) := by
 have hs := h.s
 have hm := h.m
 have hl := h.len
 intro d
 induction d with
 | zero => intro v V h0 hd L; exact ⟨V, by rw [F35l2, if_neg (by simp; omega)], L, fun x _ _ => Int.le_refl _, fun j a b => by omega⟩
 | succ d ih =>
  intro v V h0 hd L
  have hym := getD_mem (rd := rd) (j := v.toNat) (by omega)
  have e := edge_in h hym
  have pe : part (Int.tmod (rd.getD v.toNat (0, 0)).1 S) = part (S + Int.tmod (rd.getD v.toNat (0, 0)).1 M) := so.edge _ (edge_mem (S := S) (M := M) hym)
  have hll := L.len
  have la := L.own _ e.1 (by omega)
  have lb := L.own (S + Int.tmod (rd.getD v.toNat (0, 0)).1 M) (by omega) (by omega)
  have ga := L.low so e.1 (by omega)
  have gb := L.low so (x := S + Int.tmod (rd.getD v.toNat (0, 0)).1 M) (by omega) (by omega)
  have mono : ∀ (V V' : List Int), Lab (S + M) part V' → (∀ x, 0 ≤ x → x < S + M → at0 V' x ≤ at0 V x) → ∀ x, 0 ≤ x → x < S + M → at0 V x = part x → at0 V' x = part x := fun V V' L' m x a b c => by
   have := L'.low so a b
   have := m x a b
   omega
  rw [F35l2, if_pos (by simp; omega), if_pos ⟨h0, by omega⟩]
  simp only [Option.bind_eq_bind, Option.bind_some]
  have hyr : ∀ j : Nat, v ≤ j → j < rd.length → rd.getD j (0, 0) ∈ rd := fun j _ b => getD_mem b
  have hvv : ∀ j : Nat, (j : Int) = v → rd.getD j (0, 0) = rd.getD v.toNat (0, 0) := fun j b => by rw [show v.toNat = j by omega]
  generalize rd.getD v.toNat (0, 0) = y at hym e pe la lb ga gb hvv ⊢
  generalize ea : Int.tmod y.1 S = a at e pe la lb ga gb ⊢
  generalize eb : Int.tmod y.1 M = b at e pe la lb ga gb ⊢
  have wb : w64 (S + b) = S + b := w64_in (by omega) (by omega)
  rw [if_neg (by omega), if_neg (by omega), if_pos ⟨e.1, by omega⟩, wb, if_pos ⟨by omega, by omega⟩]
  have ha0 : V.getD a.toNat 0 = at0 V a := rfl
  have hb0 : V.getD (S + b).toNat 0 = at0 V (S + b) := rfl
  rw [ha0, hb0]
  obtain ⟨m1, m2, m3⟩ := mn_le (at0 V a) (at0 V (S + b))
  generalize mn (at0 V a) (at0 V (S + b)) = m at m1 m2 m3 ⊢
  have g1 : (V.set a.toNat m).getD a.toNat 0 = m := by
   have := at0_set (l := V) (i := a) (j := a) (v := m) e.1 (by omega) e.1
   rw [if_pos rfl] at this
   exact this
  rw [g1]
  have at2 : ∀ x, 0 ≤ x → at0 ((V.set a.toNat m).set (S + b).toNat m) x = if x = S + b then m else if x = a then m else at0 V x := fun x hx => by
   rw [at0_set (by omega) (by simp; omega) hx, at0_set e.1 (by omega) hx]
  have L2 : Lab (S + M) part ((V.set a.toNat m).set (S + b).toNat m) := ⟨by simp; omega, fun x x0 xn => by
   rw [at2 x x0]
   have pm : part m = part a := by rcases m3 with q | q <;> rw [q] <;> omega
   split
   · rename_i c
     rw [c]
     exact ⟨by omega, by omega, by omega⟩
   split
   · rename_i c
     rw [c]
     exact ⟨by omega, by omega, by omega⟩
   exact L.own x x0 xn⟩
  have down : ∀ x, 0 ≤ x → x < S + M → at0 ((V.set a.toNat m).set (S + b).toNat m) x ≤ at0 V x := fun x x0 xn => by
   rw [at2 x x0]
   split
   · rename_i c; rw [c]; exact m2
   split
   · rename_i c; rw [c]; exact m1
   exact Int.le_refl _
  have wv : w64 (v + 1) = v + 1 := w64_in (by omega) (by omega)
  rw [wv]
  obtain ⟨V', q1, q2, q3, q4⟩ := ih (v + 1) _ (by omega) (by omega) L2
  refine ⟨V', q1, q2, fun x x0 xn => Int.le_trans (q3 x x0 xn) (down x x0 xn), fun j j0 jn hg => ?_⟩
  by_cases ej : (j : Int) = v
  · rw [hvv j ej, ea, eb] at hg ⊢
    have pm : m = part a := by
     have := (so.dom a e.1 (by omega))
     rcases hg with q | q <;> omega
    have fa : at0 ((V.set a.toNat m).set (S + b).toNat m) a = part a := by
     rw [at2 a e.1, if_neg (by omega), if_pos rfl, pm]
    have fb : at0 ((V.set a.toNat m).set (S + b).toNat m) (S + b) = part (S + b) := by
     rw [at2 (S + b) (by omega), if_pos rfl, pm]; exact pe
    exact ⟨mono _ _ q2 q3 a e.1 (by omega) fa, mono _ _ q2 q3 (S + b) (by omega) (by omega) fb⟩
  have e' := edge_in h (hyr j j0 jn)
  refine q4 j (by omega) jn ?_
  rcases hg with q | q
  · exact .inl (mono _ _ L2 down _ e'.1 (by omega) q)
  exact .inr (mono _ _ L2 down _ (by omega) (by omega) q)
def bad (n : Int) (part : Int → Int) (V : List Int) : Nat := ((List.range n.toNat).filter fun i : Nat => decide (at0 V (i : Int) ≠ part (i : Int))).length
theorem bad_lt {n : Int} {V V' : List Int} (hm : ∀ x, 0 ≤ x → x < n → at0 V x = part x → at0 V' x = part x) (hx : ∃ x, 0 ≤ x ∧ x < n ∧ at0 V x ≠ part x ∧ at0 V' x = part x) : bad n part V' < bad n part V := by
 obtain ⟨x, x0, xn, x1, x2⟩ := hx
 have : (x.toNat :: ((List.range n.toNat).filter fun i : Nat => decide (at0 V' (i : Int) ≠ part (i : Int)))).length ≤ bad n part V := by
  refine len_le_sub (List.nodup_cons.2 ⟨fun hi => ?_, List.nodup_range.filter _⟩) (fun i hi => ?_)
  · have := (List.mem_filter.1 hi).2
    simp only [decide_eq_true_eq, Int.toNat_of_nonneg x0] at this
    exact this x2
  rcases List.mem_cons.1 hi with rfl | hi
  · refine List.mem_filter.2 ⟨List.mem_range.2 (by omega), ?_⟩
    simp only [decide_eq_true_eq, Int.toNat_of_nonneg x0]
    exact x1
  obtain ⟨a, b⟩ := List.mem_filter.1 hi
  refine List.mem_filter.2 ⟨a, ?_⟩
  simp only [decide_eq_true_eq] at b ⊢
  exact fun c => b (hm _ (by omega) (by have := List.mem_range.1 a; omega) c)
 simp only [List.length_cons] at this
 exact this
theorem bad_zero {n : Int} {V : List Int} (h : bad n part V = 0) : ∀ x, 0 ≤ x → x < n → at0 V x = part x := fun x x0 xn => by
 refine Classical.byContradiction fun hc => ?_
 have : x.toNat ∈ ((List.range n.toNat).filter fun i : Nat => decide (at0 V (i : Int) ≠ part (i : Int))) := by
  refine List.mem_filter.2 ⟨List.mem_range.2 (by omega), ?_⟩
  simp only [decide_eq_true_eq, Int.toNat_of_nonneg x0]
  exact hc
 rw [List.length_eq_zero_iff.1 h] at this
 cases this
theorem bad_none {n : Int} {V : List Int} (h : ∀ x, 0 ≤ x → x < n → at0 V x = part x) : bad n part V = 0 := by
 refine List.length_eq_zero_iff.2 (List.filter_eq_nil_iff.2 fun i hi => ?_)
 have := List.mem_range.1 hi
 simp only [decide_eq_true_eq, Decidable.not_not]
 exact h i (by omega) (by omega)
theorem label_all (h : Rec0 S M rd) (so : Sol (S + M) S (edges S M rd) part wave) {r13 : List Int} (hr : (r13.length : Int) = S + M) : ∀ (d : Nat) (v : Int) (V : List Int), 0 ≤ v → v + d = S + M → Lab (S + M) part V → bad (S + M) part V ≤ d →
 ∃ V', F35l1 S M rd r13 v V = some V' ∧ Lab (S + M) part V' ∧ ∀ x, 0 ≤ x → x < S + M → at0 V' x = part x := by
 have hs := h.s
 have hm := h.m
 intro d
 induction d with
 | zero => intro v V h0 hd L hb; exact ⟨V, by rw [F35l1, if_neg (by simp; omega)], L, bad_zero (by omega)⟩
 | succ d ih =>
  intro v V h0 hd L hb
  obtain ⟨V1, q1, q2, q3, q4⟩ := label_pass h so (r13 := r13) (v63 := v) rd.length 0 V (Int.le_refl _) (by omega) L
  have keep : ∀ x, 0 ≤ x → x < S + M → at0 V x = part x → at0 V1 x = part x := fun x a b c => by
   have := q2.low so a b
   have := q3 x a b
   omega
  have less : bad (S + M) part V1 ≤ d := by
   by_cases all : ∀ x, 0 ≤ x → x < S + M → at0 V x = part x
   · rw [bad_none (fun x a b => keep x a b (all x a b))]; omega
   have : bad (S + M) part V1 < bad (S + M) part V := by
    refine bad_lt keep (Classical.byContradiction fun hno => all fun x x0 xn => ?_)
    have hc := so.conn (fun x => if at0 V x = part x then 1 else 0) (fun e he => by
     obtain ⟨y, hy, rfl⟩ := List.mem_map.1 he
     obtain ⟨j, hj⟩ := List.getElem?_of_mem hy
     have jl := (List.getElem?_eq_some_iff.1 hj).1
     have hyj : rd.getD j (0, 0) = y := by rw [List.getD_eq_getElem?_getD, hj]; rfl
     have ei := edge_in h hy
     have qj := q4 j (by omega) jl
     rw [hyj] at qj
     dsimp only
     by_cases c1 : at0 V (Int.tmod y.1 S) = part (Int.tmod y.1 S) <;> by_cases c2 : at0 V (S + Int.tmod y.1 M) = part (S + Int.tmod y.1 M)
     · rw [if_pos c1, if_pos c2]
     · exact absurd ⟨_, by omega, by omega, c2, (qj (.inl c1)).2⟩ hno
     · exact absurd ⟨_, ei.1, by omega, c1, (qj (.inr c2)).1⟩ hno
     rw [if_neg c1, if_neg c2]) x x0 xn
    have dp := so.dom x x0 xn
    have ip := so.idem x x0 xn
    have lo := L.low so (x := part x) dp.1 (by omega)
    have up := (L.own (part x) dp.1 (by omega)).2.2
    rw [ip] at lo
    rw [if_pos (show at0 V (part x) = part (part x) by omega)] at hc
    refine Classical.byContradiction fun hn => ?_
    rw [if_neg hn] at hc
    cases hc
   omega
  rw [F35l1, if_pos (by simp; omega), q1]
  simp only [Option.bind_eq_bind, Option.bind_some]
  rw [w64_in (by omega) (by omega)]
  exact ih (v + 1) V1 (by omega) (by omega) q2 less
theorem number_loop {o2 : Int} (h : o2 ≤ 1000) : ∀ (d : Nat) (v : Int) (V : List Int), 0 ≤ v → v + d = o2 → (V.length : Int) = o2 → (∀ x, 0 ≤ x → x < v → at0 V x = x) → ∃ V', F35l0 S M rd o2 v V = some V' ∧ (V'.length : Int) = o2 ∧ ∀ x, 0 ≤ x → x < o2 → at0 V' x = x := by
 intro d
 induction d with
 | zero => intro v V h0 hd hl hx; exact ⟨V, by rw [F35l0, if_neg (by simp; omega)], hl, fun x a b => hx x a (by omega)⟩
 | succ d ih =>
  intro v V h0 hd hl hx
  rw [F35l0, if_pos (by simp; omega), if_pos ⟨h0, by omega⟩, w64_in (by omega) (by omega)]
  refine ih (v + 1) _ (by omega) (by omega) (by simpa using hl) (fun x a b => ?_)
  rw [at0_set h0 (by omega) a]
  split
  · omega
  exact hx x a (by omega)
theorem nodes_ok (h : Rec0 S M rd) (so : Sol (S + M) S (edges S M rd) part wave) : ∃ N, F35 S M rd = some N ∧ (N.length : Int) = S + M ∧ ∀ x, 0 ≤ x → x < S + M → at0 N x = part x := by
 have hs := h.s
 have hm := h.m
 have w : w64 (S + M) = S + M := w64_in (by omega) (by omega)
 obtain ⟨V, a1, a2, a3⟩ := number_loop (S := S) (M := M) (rd := rd) (o2 := S + M) (by omega) (S + M).toNat 0 (List.replicate (S + M).toNat 0) (Int.le_refl _) (by omega) (by simp; omega) (fun x a b => by omega)
 have L : Lab (S + M) part V := ⟨a2, fun x a b => by rw [a3 x a b]; exact ⟨rfl, a, Int.le_refl _⟩⟩
 obtain ⟨N, b1, b2, b3⟩ := label_all h so a2 (S + M).toNat 0 V (Int.le_refl _) (by omega) L (by
  have : bad (S + M) part V ≤ (List.range (S + M).toNat).length := List.length_filter_le _ _
  simpa using this)
 refine ⟨N, ?_, b2.len, b3⟩
 unfold F35
 rw [w, if_pos ⟨by omega, by omega⟩]
 simp only [Option.bind_eq_bind, Option.bind_some, List.length_replicate]
 rw [show (((S + M).toNat : Nat) : Int) = S + M by omega, a1]
 simp only [Option.bind_some]
 rw [b1]
 rfl
end
end Go.Proofs.Ytdekbjfjbbdjgaa.plain
