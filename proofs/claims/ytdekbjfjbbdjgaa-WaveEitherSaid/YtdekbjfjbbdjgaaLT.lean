/- What the makers of records make. -/
import Derived.Test.YtdekbjfjbbdjgaaLS
set_option linter.unusedVariables false
namespace Go.Proofs.Ytdekbjfjbbdjgaa.plain
open Go Go.Cl
theorem getD_all {α : Type} {P : α → Prop} {l : List α} {d : α} (h : ∀ x ∈ l, P x) {n : Nat} (hn : n < l.length) : P (l.getD n d) := by
 rw [List.getD_eq_getElem?_getD, List.getElem?_eq_getElem hn]; exact h _ (List.getElem_mem _)
theorem asc_append {l : List (Int × Int)} {y : Int × Int} (h : Asc l) (hy : l = [] ∨ (l.getD (l.length - 1) (0, 0)).1 < y.1) : Asc (l ++ [y]) := by
 intro j z hz
 by_cases c : j < l.length
 · rw [List.getElem?_append_left c] at hz
   rcases h j z hz with e | e
   · exact .inl e
   right
   rw [List.getD_eq_getElem?_getD, List.getElem?_append_left (by omega), ← List.getD_eq_getElem?_getD]; exact e
 have hj : j = l.length := by
  obtain ⟨a, _⟩ := List.getElem?_eq_some_iff.1 hz
  simp at a; omega
 subst hj
 have : z = y := by simpa using hz.symm
 subst this
 rcases hy with e | e
 · left; rw [e]; rfl
 by_cases c0 : l = []
 · left; rw [c0]; rfl
 right
 have := List.length_pos_iff.2 c0
 rw [List.getD_eq_getElem?_getD, List.getElem?_append_left (by omega), ← List.getD_eq_getElem?_getD]; exact e
theorem size_in {p : Int} (b : B8 p) : w64 (1 + Int.tmod (w64 p) 5) = 1 + Int.tmod p 5 ∧ 1 ≤ 1 + Int.tmod p 5 ∧ 1 + Int.tmod p 5 ≤ 5 := by
 obtain ⟨x, y⟩ := b
 have e : w64 p = p := w64_in (by omega) (by omega)
 have t := tmod_in (S := 5) x (by omega)
 rw [e, w64_in (by omega) (by omega)]
 exact ⟨rfl, by omega, by omega⟩
def MadeR (S M : Int) (sun moon : List Int) (y : Int × Int) : Prop := (0 ≤ y.1 ∧ y.1 ≤ 40) ∧ y.2 = at0 sun (Int.tmod y.1 S) + at0 moon (Int.tmod y.1 M)
section
variable {p0 p1 : Int} {p2 : List Int} {p3 p4 p5 p6 p7 p8 p9 p10 p11 p12 : Int} {p13 : List Int} {S M : Int}
theorem sun_loop (bw : ∀ x ∈ [p3, p4, p5, p6, p7, p8, p9, p10, p11, p12], B8 x) (hS : w64 (1 + Int.tmod (w64 p0) 5) = S) (s5 : S ≤ 5) : ∀ (d : Nat) (v : Int) (acc : List Int), 0 ≤ v → v + d = S → (acc.length : Int) = v →
 (∀ x ∈ acc, 0 ≤ x ∧ x ≤ 255) → ∃ l, F36l0 p0 p1 p2 p3 p4 p5 p6 p7 p8 p9 p10 p11 p12 p13 acc v = some l ∧ (l.length : Int) = S ∧ ∀ x ∈ l, 0 ≤ x ∧ x ≤ 255 := by
 intro d
 induction d with
 | zero => intro v acc h0 hd ha hx; exact ⟨acc, by rw [F36l0, hS, if_neg (by simp; omega)], by omega, hx⟩
 | succ d ih =>
  intro v acc h0 hd ha hx
  obtain ⟨q1, q2⟩ := getD_all (d := 0) bw (n := v.toNat) (by simp; omega)
  rw [F36l0, hS, if_pos (by simp; omega), if_pos ⟨h0, by omega⟩]
  simp only [Option.bind_eq_bind, Option.bind_some]
  have e1 : w64 (List.getD [p3, p4, p5, p6, p7, p8, p9, p10, p11, p12] v.toNat 0) = List.getD [p3, p4, p5, p6, p7, p8, p9, p10, p11, p12] v.toNat 0 := w64_in (by omega) (by omega)
  have e2 : w64 (v + 1) = v + 1 := w64_in (by omega) (by omega)
  rw [if_pos (by omega), e1, e2]
  refine ih (v + 1) _ (by omega) (by omega) (by simp; omega) (fun x hm => ?_)
  rcases List.mem_append.1 hm with hm | hm
  · exact hx x hm
  rw [List.mem_singleton.1 hm]; exact ⟨q1, q2⟩
theorem moon_loop {r : List Int} (bw : ∀ x ∈ [p3, p4, p5, p6, p7, p8, p9, p10, p11, p12], B8 x) (hM : w64 (1 + Int.tmod (w64 p1) 5) = M) (m5 : M ≤ 5) : ∀ (d : Nat) (v : Int) (acc : List Int), 0 ≤ v → v + d = M → (acc.length : Int) = v →
 (∀ x ∈ acc, -255 ≤ x ∧ x ≤ 0) → ∃ l, F36l1 p0 p1 p2 p3 p4 p5 p6 p7 p8 p9 p10 p11 p12 p13 r acc v = some l ∧ (l.length : Int) = M ∧ ∀ x ∈ l, -255 ≤ x ∧ x ≤ 0 := by
 intro d
 induction d with
 | zero => intro v acc h0 hd ha hx; exact ⟨acc, by rw [F36l1, hM, if_neg (by simp; omega)], by omega, hx⟩
 | succ d ih =>
  intro v acc h0 hd ha hx
  obtain ⟨q1, q2⟩ := getD_all (d := 0) bw (n := (5 + v).toNat) (by simp; omega)
  have e0 : w64 (5 + v) = 5 + v := w64_in (by omega) (by omega)
  rw [F36l1, hM, if_pos (by simp; omega), e0, if_pos ⟨by omega, by omega⟩]
  simp only [Option.bind_eq_bind, Option.bind_some]
  have e1 : w64 (List.getD [p3, p4, p5, p6, p7, p8, p9, p10, p11, p12] (5 + v).toNat 0) = List.getD [p3, p4, p5, p6, p7, p8, p9, p10, p11, p12] (5 + v).toNat 0 := w64_in (by omega) (by omega)
  have e2 : w64 (v + 1) = v + 1 := w64_in (by omega) (by omega)
  have e3 : w64 (0 - List.getD [p3, p4, p5, p6, p7, p8, p9, p10, p11, p12] (5 + v).toNat 0) = 0 - List.getD [p3, p4, p5, p6, p7, p8, p9, p10, p11, p12] (5 + v).toNat 0 := w64_in (by omega) (by omega)
  rw [if_pos (by omega), e1, e2, e3]
  refine ih (v + 1) _ (by omega) (by omega) (by simp; omega) (fun x hm => ?_)
  rcases List.mem_append.1 hm with hm | hm
  · exact hx x hm
  rw [List.mem_singleton.1 hm]; exact ⟨by omega, by omega⟩
theorem hours_loop {sun moon : List Int} (b2 : ∀ x ∈ p2, B8 x) (hS : w64 (1 + Int.tmod (w64 p0) 5) = S) (hM : w64 (1 + Int.tmod (w64 p1) 5) = M) (s1 : 1 ≤ S) (m1 : 1 ≤ M) (ls : (sun.length : Int) = S) (lm : (moon.length : Int) = M)
 (us : ∀ x ∈ sun, 0 ≤ x ∧ x ≤ 255) (um : ∀ x ∈ moon, -255 ≤ x ∧ x ≤ 0) : ∀ (d : Nat) (v h : Int) (acc : List (Int × Int)), 0 ≤ v → v ≤ 7 → v + d = p2.length → (acc.length : Int) = v → 0 ≤ h → h ≤ 5 * v →
 (acc = [] ∨ (acc.getD (acc.length - 1) (0, 0)).1 = h) → Asc acc → (∀ y ∈ acc, MadeR S M sun moon y) →
 ∃ rd, F36l2 p0 p1 p2 p13 sun moon h v acc = some rd ∧ rd.length ≤ 7 ∧ Asc rd ∧ ∀ y ∈ rd, MadeR S M sun moon y := by
 intro d
 induction d with
 | zero => intro v h acc h0 h7 hd ha g0 g1 hl hasc hm; exact ⟨acc, by rw [F36l2, if_neg (by simp; omega)], by omega, hasc, hm⟩
 | succ d ih =>
  intro v h acc h0 h7 hd ha g0 g1 hl hasc hm
  rw [F36l2, if_pos (by simp; omega), if_pos ⟨h0, by omega⟩]
  simp only [Option.bind_eq_bind, Option.bind_some]
  by_cases c7 : v ≥ 7
  · exact ⟨acc, by rw [if_pos (by simpa using c7)], by omega, hasc, hm⟩
  rw [if_neg (by simpa using c7), hS, hM]
  obtain ⟨q1, q2⟩ := getD_all (d := 0) b2 (n := v.toNat) (by omega)
  generalize List.getD p2 v.toNat 0 = b at q1 q2 ⊢
  have eb : w64 b = b := w64_in (by omega) (by omega)
  have t := tmod_in (S := 5) q1 (by omega)
  rw [eb]
  have key : ∀ m : Int, 0 ≤ m → m ≤ 5 * v + 5 → (v = 0 ∨ h < m) → ∃ rd,
   (if S = 0 then none else if 0 ≤ Int.tmod m S ∧ Int.tmod m S < (sun.length : Int) then
    (if M = 0 then none else if 0 ≤ Int.tmod m M ∧ Int.tmod m M < (moon.length : Int) then
     if List.length acc ≤ 1000000000 then F36l2 p0 p1 p2 p13 sun moon m (w64 (v + 1)) (acc ++ [(m, w64 (List.getD sun (Int.tmod m S).toNat 0 + List.getD moon (Int.tmod m M).toNat 0))]) else none else none) else none) = some rd ∧
   rd.length ≤ 7 ∧ Asc rd ∧ ∀ y ∈ rd, MadeR S M sun moon y := by
   intro m m0 m5 mh
   have ts := tmod_in m0 s1
   have tm := tmod_in m0 m1
   obtain ⟨x1, x2⟩ := getD_all (d := 0) us (n := (Int.tmod m S).toNat) (by omega)
   obtain ⟨x3, x4⟩ := getD_all (d := 0) um (n := (Int.tmod m M).toNat) (by omega)
   have e1 : w64 (List.getD sun (Int.tmod m S).toNat 0 + List.getD moon (Int.tmod m M).toNat 0) = List.getD sun (Int.tmod m S).toNat 0 + List.getD moon (Int.tmod m M).toNat 0 := w64_in (by omega) (by omega)
   have e2 : w64 (v + 1) = v + 1 := w64_in (by omega) (by omega)
   rw [if_neg (by omega), if_pos ⟨ts.1, by omega⟩, if_neg (by omega), if_pos ⟨tm.1, by omega⟩, if_pos (by omega), e1, e2]
   refine ih (v + 1) m _ (by omega) (by omega) (by omega) (by simp; omega) m0 (by omega) (.inr (by simp)) (asc_append hasc ?_) (fun y hy => ?_)
   · rcases mh with e | e
     · left; exact List.length_eq_zero_iff.1 (by omega)
     rcases hl with e' | e'
     · exact .inl e'
     right; rw [e']; exact e
   rcases List.mem_append.1 hy with hy | hy
   · exact hm y hy
   rw [List.mem_singleton.1 hy]; exact ⟨⟨m0, by omega⟩, rfl⟩
  have e1 : w64 (h + Int.tmod b 5) = h + Int.tmod b 5 := w64_in (by omega) (by omega)
  have e2 : w64 (h + Int.tmod b 5 + 1) = h + Int.tmod b 5 + 1 := w64_in (by omega) (by omega)
  by_cases c0 : v > 0
  · rw [if_pos (by simpa using c0)]
    simp only [Option.bind_some]
    by_cases t0 : Int.tmod b 5 = 0
    · rw [if_pos (by simpa using t0), e1, e2]
      simp only [Option.bind_some]
      exact key _ (by omega) (by omega) (.inr (by omega))
    rw [if_neg (by simpa using t0), e1]
    simp only [Option.bind_some]
    exact key _ (by omega) (by omega) (.inr (by omega))
  rw [if_neg (by simpa using c0)]
  simp only [Option.bind_some, Bool.false_eq_true, if_false]
  rw [e1]
  exact key _ (by omega) (by omega) (.inl (by omega))
theorem made (b0 : B8 p0) (b1 : B8 p1) (b2 : ∀ x ∈ p2, B8 x) (bw : ∀ x ∈ [p3, p4, p5, p6, p7, p8, p9, p10, p11, p12], B8 x) : ∃ S M rd sun moon,
 F36 p0 p1 p2 p3 p4 p5 p6 p7 p8 p9 p10 p11 p12 p13 = some ((S, M, rd), sun, moon) ∧ (1 ≤ S ∧ S ≤ 5) ∧ (1 ≤ M ∧ M ≤ 5) ∧ (sun.length : Int) = S ∧ (moon.length : Int) = M ∧
 (∀ x ∈ sun, 0 ≤ x ∧ x ≤ 255) ∧ (∀ x ∈ moon, -255 ≤ x ∧ x ≤ 0) ∧ rd.length ≤ 7 ∧ Asc rd ∧ ∀ y ∈ rd, MadeR S M sun moon y := by
 obtain ⟨hS, s1, s5⟩ := size_in b0
 obtain ⟨hM, m1, m5⟩ := size_in b1
 obtain ⟨sun, a1, a2, a3⟩ := sun_loop (p0 := p0) (p1 := p1) (p2 := p2) (p13 := p13) bw hS s5 (1 + Int.tmod p0 5).toNat 0 [] (Int.le_refl _) (by omega) rfl (fun x h => by cases h)
 obtain ⟨moon, c1, c2, c3⟩ := moon_loop (p0 := p0) (p1 := p1) (p2 := p2) (p13 := p13) (r := sun) bw hM m5 (1 + Int.tmod p1 5).toNat 0 [] (Int.le_refl _) (by omega) rfl (fun x h => by cases h)
 obtain ⟨rd, d1, d2, d3, d4⟩ := hours_loop (p13 := p13) b2 hS hM s1 m1 a2 c2 a3 c3 p2.length 0 0 [] (Int.le_refl _) (by omega) (by omega) rfl (Int.le_refl _) (by omega) (.inl rfl) (fun j y h => by simp at h) (fun y h => by cases h)
 refine ⟨_, _, rd, sun, moon, ?_, ⟨s1, s5⟩, ⟨m1, m5⟩, a2, c2, a3, c3, d2, d3, d4⟩
 unfold F36
 rw [a1]
 simp only [Option.bind_eq_bind, Option.bind_some]
 rw [c1]
 simp only [Option.bind_some]
 rw [d1, hS, hM]
 rfl
theorem made_val {sun moon : List Int} {y : Int × Int} (s : 1 ≤ S) (m : 1 ≤ M) (ls : (sun.length : Int) = S) (lm : (moon.length : Int) = M) (us : ∀ x ∈ sun, 0 ≤ x ∧ x ≤ 255) (um : ∀ x ∈ moon, -255 ≤ x ∧ x ≤ 0)
 (h : MadeR S M sun moon y) : -255 ≤ y.2 ∧ y.2 ≤ 255 := by
 obtain ⟨⟨h0, h1⟩, h2⟩ := h
 have ts := tmod_in h0 s
 have tm := tmod_in h0 m
 obtain ⟨x1, x2⟩ := getD_all (d := 0) us (n := (Int.tmod y.1 S).toNat) (by omega)
 obtain ⟨x3, x4⟩ := getD_all (d := 0) um (n := (Int.tmod y.1 M).toNat) (by omega)
 unfold at0 at h2
 omega
def Near (a b : List (Int × Int)) (v : Int) : Prop := b.length = a.length ∧ ∀ j : Nat, (b.getD j (0, 0)).1 = (a.getD j (0, 0)).1 ∧ (a.getD j (0, 0)).2 ≤ (b.getD j (0, 0)).2 ∧ (b.getD j (0, 0)).2 ≤ (a.getD j (0, 0)).2 + (if (j : Int) < v then 15 else 0)
theorem bump_loop {r1 : (Int × Int × (List (Int × Int))) × (List Int) × (List Int)} {rd : List (Int × Int)} (b13 : ∀ x ∈ p13, B8 x) (hl : p13.length < 9223372036854775808) (hv : ∀ j : Nat, -255 ≤ (rd.getD j (0, 0)).2 ∧ (rd.getD j (0, 0)).2 ≤ 255) :
 ∀ (d : Nat) (v : Int) (acc : List (Int × Int)), 0 ≤ v → v + d = p13.length → Near rd acc v → ∃ l, F32l0 p2 p13 r1 v acc = some l ∧ Near rd l p13.length := by
 intro d
 induction d with
 | zero => intro v acc h0 hd hn; exact ⟨acc, by rw [F32l0, if_neg (by simp; omega)], by rwa [show v = p13.length by omega] at hn⟩
 | succ d ih =>
  intro v acc h0 hd hn
  obtain ⟨n1, n2⟩ := hn
  rw [F32l0, if_pos (by simp; omega), if_pos ⟨h0, by omega⟩]
  simp only [Option.bind_eq_bind, Option.bind_some]
  obtain ⟨q1, q2⟩ := getD_all (d := 0) b13 (n := v.toNat) (by omega)
  generalize List.getD p13 v.toNat 0 = b at q1 q2 ⊢
  have ev : w64 (v + 1) = v + 1 := w64_in (by omega) (by omega)
  rw [ev]
  have same : Near rd acc (v + 1) := ⟨n1, fun j => by
   obtain ⟨x, y, z⟩ := n2 j
   refine ⟨x, y, ?_⟩
   split at z <;> split <;> omega⟩
  by_cases c : v < (acc.length : Int)
  · rw [if_pos (by simpa using c)]
    simp only [Option.bind_some]
    by_cases c4 : Int.tmod b 4 = 0
    · rw [if_pos (by simpa using c4), if_pos ⟨h0, c⟩]
      simp only [Option.bind_some]
      refine ih (v + 1) _ (by omega) (by omega) ⟨by simpa using n1, fun j => ?_⟩
      obtain ⟨x, y, z⟩ := n2 v.toNat
      have hvv := hv v.toNat
      have eb : w64 b = b := w64_in (by omega) (by omega)
      have ed : Int.tdiv b 16 = b / 16 := Int.tdiv_eq_ediv_of_nonneg q1
      have e1 : w64 (b / 16) = b / 16 := w64_in (by omega) (by omega)
      rw [if_neg (by omega)] at z
      have e2 : w64 ((List.getD acc v.toNat (0, 0)).2 + b / 16) = (List.getD acc v.toNat (0, 0)).2 + b / 16 := w64_in (by omega) (by omega)
      rw [eb, ed, e1, e2]
      by_cases ej : j = v.toNat
      · subst ej
        rw [show (acc.set v.toNat ((List.getD acc v.toNat (0, 0)).1, (List.getD acc v.toNat (0, 0)).2 + b / 16)).getD v.toNat (0, 0) = ((List.getD acc v.toNat (0, 0)).1, (List.getD acc v.toNat (0, 0)).2 + b / 16) by
         rw [List.getD_eq_getElem?_getD (l := acc.set _ _), List.getElem?_set_self (by omega)]; rfl, if_pos (by omega)]
        exact ⟨x, by dsimp only; omega, by dsimp only; omega⟩
      rw [show (acc.set v.toNat ((List.getD acc v.toNat (0, 0)).1, (List.getD acc v.toNat (0, 0)).2 + b / 16)).getD j (0, 0) = acc.getD j (0, 0) by
       rw [List.getD_eq_getElem?_getD (l := acc.set _ _), List.getElem?_set_ne (fun e => ej e.symm), ← List.getD_eq_getElem?_getD]]
      exact same.2 j
    rw [if_neg (by simpa using c4)]
    simp only [Option.bind_some]
    exact ih (v + 1) _ (by omega) (by omega) same
  rw [if_neg (by simpa using c)]
  simp only [Option.bind_some, Bool.false_eq_true, if_false]
  exact ih (v + 1) _ (by omega) (by omega) same
theorem getD_mem {rd : List (Int × Int)} {j : Nat} (h : j < rd.length) : rd.getD j (0, 0) ∈ rd := by
 rw [List.getD_eq_getElem?_getD, List.getElem?_eq_getElem h]; exact List.getElem_mem _
theorem wrong_made40 (b0 : B8 p0) (b1 : B8 p1) (b2 : ∀ x ∈ p2, B8 x) (bw : ∀ x ∈ [p3, p4, p5, p6, p7, p8, p9, p10, p11, p12], B8 x) (b13 : ∀ x ∈ p13, B8 x) (hl : p13.length < 9223372036854775808) :
 ∃ S M rd, F32 p0 p1 p2 p3 p4 p5 p6 p7 p8 p9 p10 p11 p12 p13 = some (S, M, rd) ∧ Rec0 S M rd ∧ Asc rd ∧ ∀ y ∈ rd, y.1 ≤ 40 := by
 obtain ⟨S, M, rd, sun, moon, a1, s, m, ls, lm, us, um, a2, a3, a4⟩ := made (p13 := p13) b0 b1 b2 bw
 have hval : ∀ j : Nat, -255 ≤ (rd.getD j (0, 0)).2 ∧ (rd.getD j (0, 0)).2 ≤ 255 := fun j => by
  by_cases c : j < rd.length
  · exact made_val s.1 m.1 ls lm us um (a4 _ (getD_mem c))
  rw [List.getD_eq_getElem?_getD, List.getElem?_eq_none (by omega)]; exact ⟨by decide, by decide⟩
 obtain ⟨l, b1, b3, b4⟩ := bump_loop (p2 := p2) (r1 := ((S, M, rd), sun, moon)) b13 hl hval p13.length 0 rd (Int.le_refl _) (by omega) ⟨rfl, fun j => ⟨rfl, Int.le_refl _, by split <;> omega⟩⟩
 have at_ : ∀ j y, l[j]? = some y → j < rd.length ∧ y = l.getD j (0, 0) := fun j y hy => by
  obtain ⟨x, _⟩ := List.getElem?_eq_some_iff.1 hy
  exact ⟨by omega, by rw [List.getD_eq_getElem?_getD, hy]; rfl⟩
 refine ⟨S, M, l, ?_, ⟨⟨s.1, by omega⟩, ⟨m.1, by omega⟩, by omega, fun y hy => ?_, fun y hy => ?_⟩, fun j y hy => ?_, fun y hy => ?_⟩
 · unfold F32
   rw [a1]
   simp only [Option.bind_eq_bind, Option.bind_some]
   rw [b1]
   rfl
 · obtain ⟨j, hj⟩ := List.getElem?_of_mem hy
   obtain ⟨x, rfl⟩ := at_ j y hj
   have q := (a4 _ (getD_mem x)).1
   rw [(b4 j).1]
   exact ⟨q.1, by omega⟩
 · obtain ⟨j, hj⟩ := List.getElem?_of_mem hy
   obtain ⟨x, rfl⟩ := at_ j y hj
   have q := hval j
   obtain ⟨_, u, w⟩ := b4 j
   split at w <;> omega
 · obtain ⟨x, rfl⟩ := at_ j y hy
   rcases a3 j (rd.getD j (0, 0)) (by rw [List.getD_eq_getElem?_getD, List.getElem?_eq_getElem x]; rfl) with e | e
   · exact .inl e
   right; rw [(b4 j).1, (b4 (j - 1)).1]; exact e
 obtain ⟨j, hj⟩ := List.getElem?_of_mem hy
 obtain ⟨x, rfl⟩ := at_ j y hj
 rw [(b4 j).1]
 exact (a4 _ (getD_mem x)).1.2
theorem wrong_made (b0 : B8 p0) (b1 : B8 p1) (b2 : ∀ x ∈ p2, B8 x) (bw : ∀ x ∈ [p3, p4, p5, p6, p7, p8, p9, p10, p11, p12], B8 x) (b13 : ∀ x ∈ p13, B8 x) (hl : p13.length < 9223372036854775808) :
 ∃ S M rd, F32 p0 p1 p2 p3 p4 p5 p6 p7 p8 p9 p10 p11 p12 p13 = some (S, M, rd) ∧ Rec0 S M rd ∧ Asc rd := by
 obtain ⟨S, M, rd, a, b, c, _⟩ := wrong_made40 b0 b1 b2 bw b13 hl
 exact ⟨S, M, rd, a, b, c⟩
end
end Go.Proofs.Ytdekbjfjbbdjgaa.plain
