/- Cards by numbers; where a place lies; whether a card is sound. -/
import Derived.Test.YthpfffijnkmdgaaLR
import Derived.Test.YthpfffijnkmdgaaCS
set_option linter.unusedVariables false
set_option linter.unusedSimpArgs false
set_option maxRecDepth 100000
namespace Go.Proofs.Ythpfffijnkmdgaa.plain
open Go Go.Cl
structure Rose (c : Card) : Prop where
 le : c.length ≤ 5
 pts : ∀ i, i < c.length → 720 * (i : Int) ≤ (A c i).1 ∧ (A c i).1 < 720 * (i : Int) + 720 ∧ -785 ≤ (A c i).2 ∧ (A c i).2 ≤ 785
theorem Rose.ok {c : Card} (h : Rose c) (hp : 0 < c.length) : Ok c := by
 have hl := h.le
 refine ⟨hp, by omega, fun i hi => ?_, fun i hi => ?_⟩
 · have := h.pts i hi; omega
 have := h.pts i (by omega); have := h.pts (i + 1) hi; omega
theorem A_app {c : Card} {p : Pt} {i : Nat} : A (c ++ [p]) i = if i < c.length then A c i else if i = c.length then p else (0, 0) := by
 unfold A
 rw [List.getD_eq_getElem?_getD, List.getD_eq_getElem?_getD]
 by_cases h : i < c.length
 · rw [if_pos h, List.getElem?_append_left h]
 rw [if_neg h, List.getElem?_append_right (by omega)]
 by_cases e : i = c.length
 · rw [if_pos e, e]; simp
 rw [if_neg e, List.getElem?_eq_none (by simp; omega)]; rfl
def U16 (x : Int) : Prop := 0 ≤ x ∧ x ≤ 65535
def U8 (x : Int) : Prop := 0 ≤ x ∧ x ≤ 255
theorem u16_of {x : Int} (h : (Lit.int .u16 x).wf = true) : U16 x := by
 simp [Lit.wf, IntKind.min, IntKind.max, IntKind.signed, IntKind.bits] at h
 exact ⟨by omega, by omega⟩
theorem u8_of {x : Int} (h : (Lit.int .u8 x).wf = true) : U8 x := by
 simp [Lit.wf, IntKind.min, IntKind.max, IntKind.signed, IntKind.bits] at h
 exact ⟨by omega, by omega⟩
theorem tmod_in {x S : Int} (h : 0 ≤ x) (hS : 0 < S) : Int.tmod x S = x % S ∧ 0 ≤ x % S ∧ x % S < S := ⟨Int.tmod_eq_emod_of_nonneg h, Int.emod_nonneg _ (by omega), Int.emod_lt_of_pos _ hS⟩
theorem made_loop {p0 : List (Int × Int)} {p1 : Int} (hp : ∀ x ∈ p0, U16 x.1 ∧ U16 x.2) (hw : U8 p1) : ∀ (d v : Nat) (out : Card), v + d = 5 → out.length = v → Rose out → ∃ c, F38l0 p0 p1 out v = some c ∧ Rose c := by
 obtain ⟨w0, w1⟩ := hw
 have e1 : w64 p1 = p1 := w64_in (by omega) (by omega)
 have e2 : w64 (3 * p1) = 3 * p1 := w64_in (by omega) (by omega)
 have e3 : w64 (20 + 3 * p1) = 20 + 3 * p1 := w64_in (by omega) (by omega)
 have e4 : w64 (2 * (20 + 3 * p1)) = 2 * (20 + 3 * p1) := w64_in (by omega) (by omega)
 have e5 : w64 (2 * (20 + 3 * p1) + 1) = 2 * (20 + 3 * p1) + 1 := w64_in (by omega) (by omega)
 intro d
 induction d with
 | zero =>
  intro v out hd hl ho
  refine ⟨out, ?_, ho⟩
  rw [F38l0, decide_eq_false (show ¬ (v : Int) < 5 by omega)]
  by_cases c : (v : Int) < (p0.length : Int)
  · rw [decide_eq_true c]; rfl
  rw [decide_eq_false c]; rfl
 | succ d ih =>
  intro v out hd hl ho
  rw [F38l0]
  by_cases hc : (v : Int) < (p0.length : Int)
  · have hlt : v < p0.length := by omega
    obtain ⟨⟨a0, a1⟩, ⟨b0, b1⟩⟩ := hp _ (List.getElem_mem hlt)
    rw [decide_eq_true hc, decide_eq_true (show (v : Int) < 5 by omega)]
    simp only [Option.bind_eq_bind, Option.bind_some, if_true]
    rw [if_pos ⟨by omega, hc⟩]
    simp only [Option.bind_some, Int.toNat_natCast, cons_get _ hlt]
    rw [e1, e2, e3, e4, e5, if_neg (by omega), if_pos (by omega), w64_up (by omega), w64_in (x := p0[v].1) (by omega) (by omega), w64_in (x := p0[v].2) (by omega) (by omega), w64_in (x := 720 * (v : Int)) (by omega) (by omega)]
    obtain ⟨t1, t2, t3⟩ := tmod_in (x := p0[v].1) (S := 720) a0 (by decide)
    obtain ⟨s1, s2, s3⟩ := tmod_in (x := p0[v].2) (S := 2 * (20 + 3 * p1) + 1) b0 (by omega)
    rw [t1, s1, w64_in (x := 720 * (v : Int) + p0[v].1 % 720) (by omega) (by omega), w64_in (x := p0[v].2 % (2 * (20 + 3 * p1) + 1) - (20 + 3 * p1)) (by omega) (by omega)]
    refine ih (v + 1) _ (by omega) (by simp; omega) ⟨by simp; omega, fun i hi => ?_⟩
    rw [A_app]
    simp at hi
    by_cases hi2 : i < out.length
    · rw [if_pos hi2]; exact ho.pts i hi2
    have ei : i = out.length := by omega
    rw [if_neg hi2, if_pos ei]
    dsimp only
    rw [ei, hl]
    omega
  exact ⟨out, by rw [decide_eq_false hc]; rfl, ho⟩
theorem made {p0 : List (Int × Int)} {p1 : Int} (hp : ∀ x ∈ p0, U16 x.1 ∧ U16 x.2) (hw : U8 p1) : ∃ c, F38 p0 p1 = some c ∧ Rose c ∧ Ok c := by
 obtain ⟨w0, w1⟩ := hw
 obtain ⟨c, f, r⟩ := made_loop hp ⟨w0, w1⟩ 5 0 [] rfl rfl ⟨by decide, fun i hi => by simp at hi⟩
 have f' : F38l0 p0 p1 [] 0 = some c := f
 have hl := r.le
 unfold F38
 rw [f']
 simp only [Option.bind_eq_bind, Option.bind_some]
 by_cases h0 : c.length = 0
 · have hc : c = [] := List.length_eq_zero_iff.1 h0
   subst hc
   have hr : Rose [(7, w64 p1)] := ⟨by simp, fun i hi => by
    have : i = 0 := by simp at hi; omega
    subst this
    rw [w64_in (by omega) (by omega)]
    show _ ≤ (7 : Int) ∧ (7 : Int) < _ ∧ -785 ≤ p1 ∧ p1 ≤ 785
    omega⟩
   exact ⟨[(7, w64 p1)], rfl, hr, hr.ok (by simp)⟩
 rw [if_neg (by simpa using h0)]
 exact ⟨c, rfl, r, r.ok (by omega)⟩
section
variable {c : Card} {i j : Nat} {m n : Int} {x y : Rat}
theorem mem_tl {n : Int} (h : n ∈ tl m) : (n - m) % 3600 = 0 ∧ m - 7200 ≤ n ∧ n ≤ m + 7200 := by
 unfold tl at h
 simp at h
 omega
theorem sum_cross {a b : Rat} {k : Int} (h : a + b = (k : Rat)) : a.num * b.den + b.num * a.den = k * (a.den * b.den) := by
 have e : Rat.divInt (a.num * b.den + b.num * a.den) (a.den * b.den) = Rat.divInt k 1 := by
  rw [← int_divInt, ← h, ← Rat.divInt_add_divInt _ _ (by have := den_pos a; omega) (by have := den_pos b; omega), Rat.num_divInt_den, Rat.num_divInt_den]
 have hp : 0 < (a.den : Int) * b.den := Int.mul_pos (den_pos a) (den_pos b)
 have := (Rat.divInt_eq_divInt_iff (by omega) (by decide)).1 e
 omega
end
end Go.Proofs.Ythpfffijnkmdgaa.plain
