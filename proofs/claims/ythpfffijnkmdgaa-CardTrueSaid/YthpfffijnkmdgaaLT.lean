/- A sound card's course rises; greater deviations give greater allowances. -/
import Derived.Test.YthpfffijnkmdgaaLV
import Derived.Test.YthpfffijnkmdgaaLM
set_option linter.unusedVariables false
set_option linter.unusedSimpArgs false
set_option maxRecDepth 100000
namespace Go.Proofs.Ythpfffijnkmdgaa.plain
open Go Go.Cl
section
variable {l h c : Card} {m n p : Int} {i j : Nat} {x y z : Rat}
def tt (c : Card) (i : Nat) (y : Rat) : Rat := (y - ((A c i).1 : Rat)) / (((B c i).1 : Rat) - ((A c i).1 : Rat))
theorem seg_t (hc : Ok c) (g : Lies c i y) : 0 ≤ tt c i y ∧ tt c i y < 1 ∧ y = ((A c i).1 : Rat) + tt c i y * (((B c i).1 : Rat) - ((A c i).1 : Rat)) ∧ devAt c i y = ((A c i).2 : Rat) + tt c i y * (((B c i).2 : Rat) - ((A c i).2 : Rat)) ∧ 0 < ((B c i).1 : Rat) - ((A c i).1 : Rat) := by
 obtain ⟨hi, h1, h2⟩ := g
 obtain ⟨s1, s2, s3, s4, s5⟩ := hc.seg hi
 have hL : (0 : Rat) < ((B c i).1 : Rat) - ((A c i).1 : Rat) := by
  have := Rat.intCast_lt_intCast.2 s1
  grind
 unfold devAt tt
 rw [Rat.divInt_eq_div, Rat.intCast_sub (B c i).2, Rat.intCast_sub (B c i).1, Rat.intCast_neg]
 generalize ((B c i).2 : Rat) = b2 at *
 generalize ((A c i).2 : Rat) = a2 at *
 generalize ((B c i).1 : Rat) = b1 at *
 generalize ((A c i).1 : Rat) = a1 at *
 have e : (y - a1) / (b1 - a1) * (b1 - a1) = y - a1 := Rat.div_mul_cancel (by grind)
 refine ⟨?_, ?_, by grind, ?_, hL⟩
 · rw [← Rat.not_lt, Rat.div_lt_iff hL, Rat.zero_mul, Rat.not_lt]; grind
 · rw [Rat.div_lt_iff hL, Rat.one_mul]; grind
 generalize b1 - a1 = L at *
 grind
theorem val_eq (hc : Ok c) (g : Lies c i y) : y + devAt c i y = ((ca c i : Int) : Rat) + tt c i y * (((cb c i : Int) : Rat) - ((ca c i : Int) : Rat)) := by
 obtain ⟨_, _, e1, e2, _⟩ := seg_t hc g
 have f1 : ((ca c i : Int) : Rat) = ((A c i).1 : Rat) + ((A c i).2 : Rat) := by unfold ca; rw [Rat.intCast_add]
 have f2 : ((cb c i : Int) : Rat) = ((B c i).1 : Rat) + ((B c i).2 : Rat) := by unfold cb; rw [Rat.intCast_add]
 rw [f1, f2, e2]
 generalize tt c i y = t at *
 grind
theorem val_rng (hc : Ok c) (hs : Sound c) (g : Lies c i y) : ((ca c i : Int) : Rat) ≤ y + devAt c i y ∧ y + devAt c i y < ((cb c i : Int) : Rat) := by
 obtain ⟨t0, t1, _, _, _⟩ := seg_t hc g
 have e := val_eq hc g
 have d := Rat.intCast_lt_intCast.2 (hs i g.1)
 rw [e]
 generalize tt c i y = t at *
 generalize ((ca c i : Int) : Rat) = a at *
 generalize ((cb c i : Int) : Rat) = b at *
 have u1 : 0 ≤ t * (b - a) := Rat.mul_nonneg t0 (by grind)
 have u2 : 0 < (1 - t) * (b - a) := Rat.mul_pos (by grind) (by grind)
 constructor <;> grind
theorem sq_le (hs : Sound c) : ∀ {d i : Nat}, i + d ≤ c.length → sq c i ≤ sq c (i + d) := by
 intro d
 induction d with
 | zero => intro i _; exact Int.le_refl _
 | succ d ih =>
  intro i h
  have a := ih (i := i) (by omega)
  have b := hs (i + d) (by omega)
  rw [cb_sq (by omega)] at b
  have c := sq_lt (c := c) (i := i + d) (by omega)
  rw [show i + (d + 1) = i + d + 1 by omega]
  omega
theorem val_lt (hc : Ok c) (hs : Sound c) (g : Lies c i y) (k : Lies c j z) (hyz : y < z) : y + devAt c i y < z + devAt c j z := by
 have r1 := val_rng hc hs g
 have r2 := val_rng hc hs k
 by_cases e : i = j
 · subst e
   obtain ⟨_, _, y1, _, hL⟩ := seg_t hc g
   obtain ⟨_, _, z1, _, _⟩ := seg_t hc k
   rw [val_eq hc g, val_eq hc k]
   have d := Rat.intCast_lt_intCast.2 (hs i g.1)
   generalize tt c i y = t at *
   generalize tt c i z = u at *
   generalize ((ca c i : Int) : Rat) = a at *
   generalize ((cb c i : Int) : Rat) = b at *
   generalize ((B c i).1 : Rat) - ((A c i).1 : Rat) = L at *
   have tu : t < u := by
    refine Rat.not_le.1 fun w => ?_
    have := Rat.mul_nonneg (show 0 ≤ t - u by grind) (Rat.le_of_lt hL)
    grind
   have := Rat.mul_pos (show 0 < u - t by grind) (show 0 < b - a by grind)
   grind
 by_cases lt : i < j
 · have q : cb c i ≤ ca c j := by
    have := sq_le hs (d := j - (i + 1)) (i := i + 1) (by have := k.1; omega)
    rw [show i + 1 + (j - (i + 1)) = j by omega, ← cb_sq g.1, sq_lt k.1] at this
    exact this
   have := Rat.intCast_le_intCast.2 q
   grind
 have q := Rat.intCast_le_intCast.2 (hc.next_le (i := j) (j := i) (by omega) g.1)
 have := k.2.2
 have := g.2.1
 grind
theorem val_top (hc : Ok c) (hs : Sound c) (g : Lies c i y) : ((ca c 0 : Int) : Rat) ≤ y + devAt c i y ∧ y + devAt c i y < ((ca c 0 + 3600 : Int) : Rat) := by
 have r := val_rng hc hs g
 have q1 : cb c i ≤ ca c 0 + 3600 := by
  have := sq_le hs (d := c.length - (i + 1)) (i := i + 1) (by have := g.1; omega)
  rw [show i + 1 + (c.length - (i + 1)) = c.length by have := g.1; omega, ← cb_sq g.1, show sq c c.length = ca c 0 + 3600 from if_pos rfl] at this
  exact this
 have q2 : ca c 0 ≤ ca c i := by
  have := sq_le hs (d := i) (i := 0) (by have := g.1; omega)
  rw [Nat.zero_add, sq_lt g.1, sq_lt hc.pos] at this
  exact this
 have a := Rat.intCast_le_intCast.2 q1
 have b := Rat.intCast_le_intCast.2 q2
 constructor <;> grind
theorem Ends.lies (e : Ends l h) (g : Lies l i y) : Lies h i y := by
 obtain ⟨a, b, c⟩ := g
 refine ⟨by rw [e.len]; exact a, ?_, ?_⟩
 · rw [e.hd i a]; exact b
 rw [(e.bb a).1]; exact c
theorem Ends.dev_le (e : Ends l h) (g : Lies l i y) : devAt l i y ≤ devAt h i y := by
 obtain ⟨t0, t1, _, e1, _⟩ := seg_t e.okl g
 obtain ⟨_, _, _, e2, _⟩ := seg_t e.okh (e.lies g)
 have et : tt h i y = tt l i y := by unfold tt; rw [e.hd i g.1, (e.bb g.1).1]
 rw [et] at e2
 have d1 := Rat.intCast_le_intCast.2 (e.dv i g.1)
 have d2 := Rat.intCast_le_intCast.2 (e.bb g.1).2
 rw [e1, e2]
 generalize tt l i y = t at *
 generalize ((A l i).2 : Rat) = a at *
 generalize ((A h i).2 : Rat) = a' at *
 generalize ((B l i).2 : Rat) = b at *
 generalize ((B h i).2 : Rat) = b' at *
 have u1 : 0 ≤ t * (b' - b) := Rat.mul_nonneg t0 (by grind)
 have u2 : 0 ≤ (1 - t) * (a' - a) := Rat.mul_nonneg (by grind) (by grind)
 grind
def Alw (c : Card) (m : Int) (a : Rat) : Prop := ∃ i n, i < c.length ∧ Hit (ca c i) (cb c i) n ∧ (n - m) % 3600 = 0 ∧ a = (n : Rat) - place c i n
theorem alw_le (e : Ends l h) (sl : Sound l) (sh : Sound h) {a b : Rat} (ha : Alw l m a) (hb : Alw h m b) : a ≤ b := by
 obtain ⟨i, n, hi, hn, mn, rfl⟩ := ha
 obtain ⟨j, p, hj, hp, mp, rfl⟩ := hb
 have g := place_lies e.okl hi hn
 have k := place_lies e.okh hj hp
 have d1 := dev_place e.okl hi hn
 have d2 := dev_place e.okh hj hp
 generalize place l i n = y at *
 generalize place h j p = z at *
 have dl := e.dev_le g
 have g' := e.lies g
 have top := val_top e.okh sh g'
 have bot := val_top e.okh sh k
 have q : ∃ q : Int, n - p = 3600 * q := Int.dvd_of_emod_eq_zero (by omega)
 obtain ⟨q, hq⟩ := q
 rcases Int.lt_trichotomy q 0 with q0 | q0 | q0
 · have np := Rat.intCast_le_intCast.2 (show n + 3600 ≤ p by omega)
   have f1 := Rat.intCast_le_intCast.2 (e.okh.first_le g'.1)
   have f2 := Rat.intCast_le_intCast.2 (e.okh.end_le k.1)
   have k2 := k.2.2
   have g2 := g'.2.1
   rw [Rat.intCast_add] at np f2
   generalize ((3600 : Int) : Rat) = W at *
   grind
 · have e0 : n = p := by omega
   subst e0
   refine Rat.not_lt.1 fun w => ?_
   have yz : y < z := by grind
   have := val_lt e.okh sh g' k yz
   grind
 have np := Rat.intCast_le_intCast.2 (show p + 3600 ≤ n by omega)
 have t2 := top.2
 rw [Rat.intCast_add] at np t2
 generalize ((3600 : Int) : Rat) = W at *
 exfalso
 grind
theorem sound_alw (hc : Ok c) (hs : Sound c) (m0 : 0 ≤ m) (m1 : m < 3600) : ∃ a, Alw c m a ∧ F26 c m = some (fr a, 0) ∧ F71 c m = some (fr a) := by
 obtain ⟨i, n, hi, ht, hh, _, f, g⟩ := sound_two hc hs m0 m1
 exact ⟨_, ⟨i, n, hi, hh, (mem_tl ht).1, rfl⟩, f, g⟩
theorem alw_small (hc : Ok c) {a : Rat} (h : Alw c m a) : Sm 5400 (20000 * 5400) a ∧ -((10000 : Int) : Rat) < a ∧ a < ((10000 : Int) : Rat) := by
 obtain ⟨i, n, hi, hh, _, rfl⟩ := h
 exact dev_small hc hi hh
end
end Go.Proofs.Ythpfffijnkmdgaa.plain
