/- Cards by numbers; where a place lies; whether a card is sound. -/
import Derived.Test.YthpfffijnkmdgaaLR
import Derived.Test.YthpfffijnkmdgaaCS
set_option linter.unusedVariables false
set_option linter.unusedSimpArgs false
set_option maxRecDepth 100000
namespace Go.Proofs.Ythpfffijnkmdgaa.plain
open Go Go.Cl
structure Rose (c : Card) : Prop where
 le : c.length ≤ 5
 pts : ∀ i, i < c.length → 720 * (i : Int) ≤ (A c i).1 ∧ (A c i).1 < 720 * (i : Int) + 720 ∧ -785 ≤ (A c i).2 ∧ (A c i).2 ≤ 785
theorem Rose.ok {c : Card} (h : Rose c) (hp : 0 < c.length) : Ok c := by
 have hl := h.le
 refine ⟨hp, by omega, fun i hi => ?_, fun i hi => ?_⟩
 · have := h.pts i hi; omega
 have := h.pts i (by omega); have := h.pts (i + 1) hi; omega
theorem A_app {c : Card} {p : Pt} {i : Nat} : A (c ++ [p]) i = if i < c.length then A c i else if i = c.length then p else (0, 0) := by
 unfold A
 rw [List.getD_eq_getElem?_getD, List.getD_eq_getElem?_getD]
 by_cases h : i < c.length
 · rw [if_pos h, List.getElem?_append_left h]
 rw [if_neg h, List.getElem?_append_right (by omega)]
 by_cases e : i = c.length
 · rw [if_pos e, e]; simp
 rw [if_neg e, List.getElem?_eq_none (by simp; omega)]; rfl
def U16 (x : Int) : Prop := 0 ≤ x ∧ x ≤ 65535
def U8 (x : Int) : Prop := 0 ≤ x ∧ x ≤ 255
theorem u16_of {x : Int} (h : (Lit.int .u16 x).wf = true) : U16 x := by
 simp [Lit.wf, IntKind.min, IntKind.max, IntKind.signed, IntKind.bits] at h
 exact ⟨by omega, by omega⟩
theorem u8_of {x : Int} (h : (Lit.int .u8 x).wf = true) : U8 x := by
 simp [Lit.wf, IntKind.min, IntKind.max, IntKind.signed, IntKind.bits] at h
 exact ⟨by omega, by omega⟩
theorem tmod_in {x S : Int} (h : 0 ≤ x) (hS : 0 < S) : Int.tmod x S = x % S ∧ 0 ≤ x % S ∧ x % S < S := ⟨Int.tmod_eq_emod_of_nonneg h, Int.emod_nonneg _ (by omega), Int.emod_lt_of_pos _ hS⟩
theorem made_loop {p0 : List (Int × Int)} {p1 : Int} (hp : ∀ x ∈ p0, U16 x.1 ∧ U16 x.2) (hw : U8 p1) : ∀ (d v : Nat) (out : Card), v + d = 5 → out.length = v → Rose out → ∃ c, F38l0 p0 p1 out v = some c ∧ Rose c := by
 obtain ⟨w0, w1⟩ := hw
 have e1 : w64 p1 = p1 := w64_in (by omega) (by omega)
 have e2 : w64 (3 * p1) = 3 * p1 := w64_in (by omega) (by omega)
 have e3 : w64 (20 + 3 * p1) = 20 + 3 * p1 := w64_in (by omega) (by omega)
 have e4 : w64 (2 * (20 + 3 * p1)) = 2 * (20 + 3 * p1) := w64_in (by omega) (by omega)
 have e5 : w64 (2 * (20 + 3 * p1) + 1) = 2 * (20 + 3 * p1) + 1 := w64_in (by omega) (by omega)
 intro d
 induction d with
 | zero =>
  intro v out hd hl ho
  refine ⟨out, ?_, ho⟩
  rw [F38l0, decide_eq_false (show ¬ (v : Int) < 5 by omega)]
  by_cases c : (v : Int) < (p0.length : Int)
  · rw [decide_eq_true c]; rfl
  rw [decide_eq_false c]; rfl
 | succ d ih =>
  intro v out hd hl ho
  rw [F38l0]
  by_cases hc : (v : Int) < (p0.length : Int)
  · have hlt : v < p0.length := by omega
    obtain ⟨⟨a0, a1⟩, ⟨b0, b1⟩⟩ := hp _ (List.getElem_mem hlt)
    rw [decide_eq_true hc, decide_eq_true (show (v : Int) < 5 by omega)]
    simp only [Option.bind_eq_bind, Option.bind_some, if_true]
    rw [if_pos ⟨by omega, hc⟩]
    simp only [Option.bind_some, Int.toNat_natCast, cons_get _ hlt]
    rw [e1, e2, e3, e4, e5, if_neg (by omega), if_pos (by omega), w64_up (by omega), w64_in (x := p0[v].1) (by omega) (by omega), w64_in (x := p0[v].2) (by omega) (by omega), w64_in (x := 720 * (v : Int)) (by omega) (by omega)]
    obtain ⟨t1, t2, t3⟩ := tmod_in (x := p0[v].1) (S := 720) a0 (by decide)
    obtain ⟨s1, s2, s3⟩ := tmod_in (x := p0[v].2) (S := 2 * (20 + 3 * p1) + 1) b0 (by omega)
    rw [t1, s1, w64_in (x := 720 * (v : Int) + p0[v].1 % 720) (by omega) (by omega), w64_in (x := p0[v].2 % (2 * (20 + 3 * p1) + 1) - (20 + 3 * p1)) (by omega) (by omega)]
    refine ih (v + 1) _ (by omega) (by simp; omega) ⟨by simp; omega, fun i hi => ?_⟩
    rw [A_app]
    simp at hi
    by_cases hi2 : i < out.length
    · rw [if_pos hi2]; exact ho.pts i hi2
    have ei : i = out.length := by omega
    rw [if_neg hi2, if_pos ei]
    dsimp only
    rw [ei, hl]
    omega
  exact ⟨out, by rw [decide_eq_false hc]; rfl, ho⟩
theorem made {p0 : List (Int × Int)} {p1 : Int} (hp : ∀ x ∈ p0, U16 x.1 ∧ U16 x.2) (hw : U8 p1) : ∃ c, F38 p0 p1 = some c ∧ Rose c ∧ Ok c := by
 obtain ⟨w0, w1⟩ := hw
 obtain ⟨c, f, r⟩ := made_loop hp ⟨w0, w1⟩ 5 0 [] rfl rfl ⟨by decide, fun i hi => by simp at hi⟩
 have f' : F38l0 p0 p1 [] 0 = some c := f
 have hl := r.le
 unfold F38
 rw [f']
 simp only [Option.bind_eq_bind, Option.bind_some]
 by_cases h0 : c.length = 0
 · have hc : c = [] := List.length_eq_zero_iff.1 h0
   subst hc
   have hr : Rose [(7, w64 p1)] := ⟨by simp, fun i hi => by
    have : i = 0 := by simp at hi; omega
    subst this
    rw [w64_in (by omega) (by omega)]
    show _ ≤ (7 : Int) ∧ (7 : Int) < _ ∧ -785 ≤ p1 ∧ p1 ≤ 785
    omega⟩
   exact ⟨[(7, w64 p1)], rfl, hr, hr.ok (by simp)⟩
 rw [if_neg (by simpa using h0)]
 exact ⟨c, rfl, r, r.ok (by omega)⟩
section
variable {c : Card} {i j : Nat} {m n : Int} {x y : Rat}
theorem course_loop (hc : Ok c) (hd : y.den ≤ 6000) (hn : y.num.natAbs ≤ 7200 * 6000) (h1 : y < (((A c 0).1 + 3600 : Int) : Rat)) (h0 : ((A c 0).1 : Rat) ≤ y) : ∀ (d v : Nat), v + d = c.length → (∀ j, j < v → ¬ y < ((B c j).1 : Rat)) →
 ∃ (i : Nat) (N D : Int), Lies c i y ∧ F41l0 c y.den y.num v = some (.inl ((i : Int), N, D)) ∧ 0 < D ∧ D ≤ 3600 * 6000 ∧ Rat.divInt N D = y + devAt c i y := by
 have hcl := hc.le
 have hp := den_pos y
 intro d
 induction d with
 | zero =>
  intro v hd' hno
  have hpos := hc.pos
  refine absurd ?_ (hno (c.length - 1) (by omega))
  have : (B c (c.length - 1)).1 = (A c 0).1 + 3600 := by unfold B; rw [if_pos (by omega)]
  rw [this]; exact h1
 | succ d ih =>
  intro v hd' hno
  have hlt : v < c.length := by omega
  obtain ⟨s1, s2, s3, s4, s5⟩ := hc.seg hlt
  have r := hc.rng v hlt
  have k1 : ((B c v).1 * (y.den : Int)).natAbs ≤ 7200 * 6000 := by rw [Int.natAbs_mul]; exact Nat.mul_le_mul (by omega) (by omega)
  rw [F41l0, if_pos (by simp; omega), F39_eq hc hlt]
  simp only [Option.bind_eq_bind, Option.bind_some]
  rw [w64_in (x := (B c v).1 * (y.den : Int)) (by omega) (by omega)]
  by_cases hx : y < ((B c v).1 : Rat)
  · have hx' := lt_int.1 hx
    have k2 : ((A c v).1 * (y.den : Int)).natAbs ≤ 3600 * 6000 := by rw [Int.natAbs_mul]; exact Nat.mul_le_mul (by omega) (by omega)
    have k3 : (y.num * ((B c v).1 - (A c v).1)).natAbs ≤ 7200 * 6000 * 3600 := by rw [Int.natAbs_mul]; exact Nat.mul_le_mul hn (by omega)
    have k4 : ((A c v).2 * ((B c v).1 - (A c v).1)).natAbs ≤ 900 * 3600 := by rw [Int.natAbs_mul]; exact Nat.mul_le_mul (by omega) (by omega)
    have k5 : ((A c v).2 * ((B c v).1 - (A c v).1) * (y.den : Int)).natAbs ≤ 900 * 3600 * 6000 := by rw [Int.natAbs_mul]; exact Nat.mul_le_mul k4 (by omega)
    have k6 : (((B c v).2 - (A c v).2) * (y.num - (A c v).1 * (y.den : Int))).natAbs ≤ 1800 * (10800 * 6000) := by rw [Int.natAbs_mul]; exact Nat.mul_le_mul (by omega) (by omega)
    have k7 : (((B c v).1 - (A c v).1) * (y.den : Int)).natAbs ≤ 3600 * 6000 := by rw [Int.natAbs_mul]; exact Nat.mul_le_mul (by omega) (by omega)
    have k8 : 0 < ((B c v).1 - (A c v).1) * (y.den : Int) := Int.mul_pos (by omega) hp
    refine ⟨v, y.num * ((B c v).1 - (A c v).1) + (A c v).2 * ((B c v).1 - (A c v).1) * (y.den : Int) + ((B c v).2 - (A c v).2) * (y.num - (A c v).1 * (y.den : Int)), ((B c v).1 - (A c v).1) * (y.den : Int), ⟨hlt, ?_, hx⟩, ?_, k8, by omega, ?_⟩
    · by_cases hv : v = 0
      · rw [hv]; exact h0
      have e : (B c (v - 1)).1 = (A c v).1 := by unfold B; rw [if_neg (by omega), show v - 1 + 1 = v by omega]
      have := hno (v - 1) (by omega)
      rw [e] at this
      exact Rat.not_lt.1 this
    · rw [if_neg (by simp; omega)]
      rw [w64_in (x := (B c v).1 - (A c v).1) (by omega) (by omega), w64_in (x := y.num * ((B c v).1 - (A c v).1)) (by omega) (by omega), w64_in (x := (A c v).2 * ((B c v).1 - (A c v).1)) (by omega) (by omega), w64_in (x := (A c v).2 * ((B c v).1 - (A c v).1) * (y.den : Int)) (by omega) (by omega), w64_in (x := y.num * ((B c v).1 - (A c v).1) + (A c v).2 * ((B c v).1 - (A c v).1) * (y.den : Int)) (by omega) (by omega), w64_in (x := (B c v).2 - (A c v).2) (by omega) (by omega), w64_in (x := (A c v).1 * (y.den : Int)) (by omega) (by omega), w64_in (x := y.num - (A c v).1 * (y.den : Int)) (by omega) (by omega), w64_in (x := ((B c v).2 - (A c v).2) * (y.num - (A c v).1 * (y.den : Int))) (by omega) (by omega), w64_in (x := ((B c v).1 - (A c v).1) * (y.den : Int)) (by omega) (by omega)]
      rw [w64_in (by omega) (by omega)]
      rfl
    unfold devAt
    have ey : y = (y.num : Rat) / ((y.den : Int) : Rat) := by rw [← Rat.divInt_eq_div, Rat.num_divInt_den]
    have hd0 : ((y.den : Int) : Rat) ≠ 0 := fun e => by have := Rat.intCast_eq_zero_iff.1 e; omega
    have hL0 : ((((B c v).1 - (A c v).1 : Int)) : Rat) ≠ 0 := fun e => by have := Rat.intCast_eq_zero_iff.1 e; omega
    rw [Rat.divInt_eq_div, Rat.divInt_eq_div]
    have hnum : (y.num : Rat) = y * ((y.den : Int) : Rat) := by
     have := Rat.div_mul_cancel (a := (y.num : Rat)) hd0
     rw [← ey] at this
     exact this.symm
    simp only [Rat.intCast_add, Rat.intCast_mul, Rat.intCast_sub (y.num), Rat.intCast_neg]
    rw [hnum]
    generalize ((y.den : Int) : Rat) = q at *
    generalize ((((B c v).1 - (A c v).1 : Int)) : Rat) = L at *
    generalize ((((B c v).2 - (A c v).2 : Int)) : Rat) = E at *
    grind
  have hx' : (B c v).1 * (y.den : Int) ≤ y.num := int_le.1 (Rat.not_lt.1 hx)
  rw [if_pos (by simpa using hx'), w64_up (by omega)]
  exact ih (v + 1) (by omega) (fun j hj => by
   by_cases e : j = v
   · rw [e]; exact hx
   exact hno j (by omega))
theorem F41_eq (hc : Ok c) (hd : x.den ≤ 6000) (h0 : 0 ≤ x) (h1 : x < ((3600 : Int) : Rat)) : ∃ (i : Nat) (N D : Int), Lies c i (norm c x) ∧ F41 c (fr x).1 (fr x).2 = some ((N, D), (i : Int)) ∧ 0 < D ∧ D ≤ 3600 * 6000 ∧ Rat.divInt N D = norm c x + devAt c i (norm c x) := by
 have hp := den_pos x
 have hpos := hc.pos
 have r0 := hc.rng 0 hc.pos
 have n0 := Rat.num_nonneg.2 h0
 have n1 := lt_int.1 h1
 have k1 : ((A c 0).1 * (x.den : Int)).natAbs ≤ 3600 * 6000 := by rw [Int.natAbs_mul]; exact Nat.mul_le_mul (by omega) (by omega)
 have k2 : 0 ≤ (A c 0).1 * (x.den : Int) := Int.mul_nonneg r0.1 (by omega)
 show ∃ (i : Nat) (N D : Int), Lies c i (norm c x) ∧ F41 c x.num x.den = some ((N, D), (i : Int)) ∧ _
 unfold F41
 rw [if_pos ⟨by decide, by omega⟩]
 simp only [Option.bind_eq_bind, Option.bind_some]
 rw [show List.getD c (Int.toNat 0) (0, 0) = A c 0 from rfl, w64_in (x := (A c 0).1 * (x.den : Int)) (by omega) (by omega), w64_in (x := 3600 * (x.den : Int)) (by omega) (by omega), w64_in (x := x.num + 3600 * (x.den : Int)) (by omega) (by omega)]
 obtain ⟨a1, a2⟩ := add_int x 3600
 unfold norm
 by_cases h : x < ((A c 0).1 : Rat)
 · have h' := lt_int.1 h
   rw [if_pos h, if_pos (by simpa using h')]
   simp only [Option.bind_some]
   obtain ⟨i, N, D, l, f, g1, g2, g3⟩ := course_loop (y := x + ((3600 : Int) : Rat)) hc (by rw [a2]; exact hd) (by rw [a1]; omega) (by grind) (by
    have : ((A c 0).1 : Rat) ≤ ((3600 : Int) : Rat) := Rat.intCast_le_intCast.2 (by omega)
    grind) c.length 0 (by omega) (fun j hj => by omega)
   rw [a1, a2] at f
   have f' : F41l0 c x.den (x.num + 3600 * (x.den : Int)) 0 = some (.inl ((i : Int), N, D)) := f
   refine ⟨i, N, D, l, ?_, g1, g2, g3⟩
   rw [f']
   rfl
 have h' := int_le.1 (Rat.not_lt.1 h)
 rw [if_neg h, if_neg (by simp; omega)]
 simp only [Option.bind_some]
 obtain ⟨i, N, D, l, f, g1, g2, g3⟩ := course_loop (y := x) hc hd (by omega) (by
  have : ((3600 : Int) : Rat) ≤ (((A c 0).1 + 3600 : Int) : Rat) := Rat.intCast_le_intCast.2 (by omega)
  grind) (Rat.not_lt.1 h) c.length 0 (by omega) (fun j hj => by omega)
 have f' : F41l0 c x.den x.num 0 = some (.inl ((i : Int), N, D)) := f
 refine ⟨i, N, D, l, ?_, g1, g2, g3⟩
 rw [f']
 rfl
end
end Go.Proofs.Ythpfffijnkmdgaa.plain
