/- Places of segments; cards by numbers, and what the statements reckon of them. -/
import Derived.Test.YthpfffijnkmdgaaLC3
set_option linter.unusedVariables false
set_option linter.unusedSimpArgs false
set_option maxRecDepth 100000
namespace Go.Proofs.Ythpfffijnkmdgaa.plain
open Go Go.Cl
section
variable {c : Card} {i j : Nat} {m n : Int} {x y : Rat}
theorem Ok.next_le (h : Ok c) (hij : i < j) (hj : j < c.length) : (B c i).1 ≤ (A c j).1 := by
 have m := h.mono (k := j - (i + 1)) (i := i + 1) (by omega)
 rw [show i + 1 + (j - (i + 1)) = j by omega] at m
 unfold B
 rw [if_neg (by omega)]
 omega
theorem Ok.end_le (h : Ok c) (hi : i < c.length) : (B c i).1 ≤ (A c 0).1 + 3600 := by
 unfold B
 have r0 := h.rng 0 h.pos
 split
 · exact Int.le_refl _
 have := h.rng (i + 1) (by omega); omega
theorem Ok.first_le (h : Ok c) (hi : i < c.length) : (A c 0).1 ≤ (A c i).1 := by
 have m := h.mono (k := i) (i := 0) (by omega)
 rw [Nat.zero_add] at m
 omega
theorem Lies.uniq (hc : Ok c) (h : Lies c i x) (g : Lies c j x) : i = j := by
 obtain ⟨h1, h2, h3⟩ := h
 obtain ⟨g1, g2, g3⟩ := g
 rcases Nat.lt_trichotomy i j with e | e | e
 · have := Rat.intCast_le_intCast.2 (hc.next_le e g1); grind
 · exact e
 have := Rat.intCast_le_intCast.2 (hc.next_le e h1); grind
theorem norm_wrap (hc : Ok c) (h : Lies c i y) : norm c (wrap y) = y := by
 obtain ⟨h1, h2, h3⟩ := h
 have e1 := Rat.intCast_le_intCast.2 (hc.end_le h1)
 have e2 := Rat.intCast_le_intCast.2 (hc.first_le h1)
 unfold norm wrap
 by_cases k : y < ((3600 : Int) : Rat)
 · rw [if_pos k, if_neg (by grind)]
 rw [if_neg k, if_pos (by grind)]
 grind
def place (c : Card) (i : Nat) (n : Int) : Rat := part c i n + ((A c i).1 : Rat)
theorem place_lies (hc : Ok c) (hi : i < c.length) (h : Hit (ca c i) (cb c i) n) : Lies c i (place c i n) := by
 obtain ⟨q1, q2, q3, q4⟩ := place_rng hc hi h
 exact ⟨hi, q3, q2⟩
theorem norm_sAt (hc : Ok c) (hi : i < c.length) (h : Hit (ca c i) (cb c i) n) : norm c (sAt c i n) = place c i n := norm_wrap hc (place_lies hc hi h)
theorem dev_place (hc : Ok c) (hi : i < c.length) (h : Hit (ca c i) (cb c i) n) : devAt c i (place c i n) = (n : Rat) - place c i n := by
 obtain ⟨s1, s2, s3, s4, s5⟩ := hc.seg hi
 have hcc : cb c i - ca c i ≠ 0 := by unfold Hit at h; omega
 have hL : (B c i).1 - (A c i).1 ≠ 0 := by omega
 have e1 : (((cb c i - ca c i : Int)) : Rat) ≠ 0 := fun e => hcc (Rat.intCast_eq_zero_iff.1 e)
 have e2 : ((((B c i).1 - (A c i).1 : Int)) : Rat) ≠ 0 := fun e => hL (Rat.intCast_eq_zero_iff.1 e)
 unfold devAt place part
 rw [Rat.divInt_eq_div, Rat.divInt_eq_div]
 have hk : cb c i - ca c i = ((B c i).1 - (A c i).1) + ((B c i).2 - (A c i).2) := by unfold cb ca; omega
 have hk2 : (((cb c i - ca c i : Int)) : Rat) = ((((B c i).1 - (A c i).1 : Int)) : Rat) + ((((B c i).2 - (A c i).2 : Int)) : Rat) := by rw [hk, Rat.intCast_add]
 have hca : ((ca c i : Int) : Rat) = ((A c i).1 : Rat) + ((A c i).2 : Rat) := by unfold ca; rw [Rat.intCast_add]
 have hn : (((n - ca c i) * ((B c i).1 - (A c i).1) : Int) : Rat) = ((n : Rat) - (((A c i).1 : Rat) + ((A c i).2 : Rat))) * ((((B c i).1 - (A c i).1 : Int)) : Rat) := by
  rw [Rat.intCast_mul, Rat.intCast_sub, hca]
 rw [hn, Rat.intCast_neg]
 generalize (((cb c i - ca c i : Int)) : Rat) = C at *
 generalize ((((B c i).1 - (A c i).1 : Int)) : Rat) = L at *
 generalize ((((B c i).2 - (A c i).2 : Int)) : Rat) = D at *
 grind
theorem F54_sAt (hc : Ok c) (hi : i < c.length) (h : Hit (ca c i) (cb c i) n) : F54 c (fr (sAt c i n)).1 (fr (sAt c i n)).2 = some (fr ((n : Rat) - place c i n)) := by
 obtain ⟨q1, q2, q3⟩ := sAt_rng hc hi h
 obtain ⟨k, hl, e⟩ := F54_eq hc (M := 6000) (by omega) (by omega) q1 q2
 rw [norm_sAt hc hi h] at hl e
 have := Lies.uniq hc hl (place_lies hc hi h)
 subst this
 rw [e, dev_place hc hi h]
def Sound (c : Card) : Prop := ∀ i, i < c.length → ca c i < cb c i
theorem fol_none (h : Sound c) : ∀ d v, v + d ≤ c.length → fol c d v = [] := by
 intro d
 induction d with
 | zero => intro v _; rfl
 | succ d ih => intro v hv; rw [fol, if_neg (by have := h v (by omega); omega)]; exact ih (v + 1) (by omega)
theorem fol_some : ∀ d v, (∃ i, v ≤ i ∧ i < v + d ∧ cb c i ≤ ca c i) → fol c d v ≠ [] := by
 intro d
 induction d with
 | zero => intro v ⟨i, a, b, _⟩; omega
 | succ d ih =>
  intro v ⟨i, a, b, h⟩
  rw [fol]
  split
  · simp
  rename_i hn
  by_cases e : i = v
  · subst e; exact absurd h hn
  exact ih (v + 1) ⟨i, by omega, by omega, h⟩
def sq (c : Card) (k : Nat) : Int := if k = c.length then ca c 0 + 3600 else ca c k
theorem sq_lt (h : i < c.length) : sq c i = ca c i := if_neg (by omega)
theorem cb_sq (h : i < c.length) : cb c i = sq c (i + 1) := by
 unfold cb sq B ca
 split
 · dsimp only; omega
 rfl
theorem len_filter_tl (p : Int → Bool) : ((tl m).filter p).length = (p (m - 7200)).toNat + (p (m - 3600)).toNat + (p m).toNat + (p (m + 3600)).toNat + (p (m + 7200)).toNat := by
 unfold tl
 simp only [List.filter_cons, List.filter_nil]
 cases p (m - 7200) <;> cases p (m - 3600) <;> cases p m <;> cases p (m + 3600) <;> cases p (m + 7200) <;> rfl
def bl (n s : Int) : Int := if n < s then 1 else 0
theorem als_sound (hs : Sound c) : ∀ d v, v + d ≤ c.length → ((als c m d v).length : Int) = (bl (m - 7200) (sq c (v + d)) - bl (m - 7200) (sq c v)) + (bl (m - 3600) (sq c (v + d)) - bl (m - 3600) (sq c v)) + (bl m (sq c (v + d)) - bl m (sq c v)) + (bl (m + 3600) (sq c (v + d)) - bl (m + 3600) (sq c v)) + (bl (m + 7200) (sq c (v + d)) - bl (m + 7200) (sq c v)) := by
 intro d
 induction d with
 | zero => intro v _; rw [als, Nat.add_zero]; simp
 | succ d ih =>
  intro v hv
  have := ih (v + 1) (by omega)
  rw [show v + 1 + d = v + (d + 1) by omega] at this
  have hv' : v < c.length := by omega
  have hlt := hs v hv'
  rw [cb_sq hv'] at hlt
  rw [als, List.length_append, List.length_map]
  unfold sol
  rw [len_filter_tl, cb_sq hv']
  have e : ∀ n : Int, (((decide (Hit (ca c v) (sq c (v + 1)) n)).toNat : Nat) : Int) = bl n (sq c (v + 1)) - bl n (sq c v) := fun n => by
   rw [sq_lt hv']
   unfold bl
   by_cases h : Hit (ca c v) (sq c (v + 1)) n
   · rw [decide_eq_true h]
     unfold Hit at h
     rw [if_pos (by omega), if_neg (by omega)]
     rfl
   rw [decide_eq_false h]
   unfold Hit at h
   by_cases g : n < sq c (v + 1)
   · rw [if_pos g, if_pos (by omega)]; rfl
   rw [if_neg g, if_neg (by omega)]; rfl
  push_cast
  rw [e, e, e, e, e, this]
  omega
theorem bl_turn {s : Int} (m0 : 0 ≤ m) (m1 : m < 3600) (s0 : -900 ≤ s) (s1 : s < 4500) : (bl (m - 7200) (s + 3600) - bl (m - 7200) s) + (bl (m - 3600) (s + 3600) - bl (m - 3600) s) + (bl m (s + 3600) - bl m s) + (bl (m + 3600) (s + 3600) - bl (m + 3600) s) + (bl (m + 7200) (s + 3600) - bl (m + 7200) s) = 1 := by
 unfold bl
 repeat' split
 all_goals omega
theorem als_one (hc : Ok c) (hs : Sound c) (m0 : 0 ≤ m) (m1 : m < 3600) : ∃ i n, i < c.length ∧ n ∈ tl m ∧ Hit (ca c i) (cb c i) n ∧ als c m c.length 0 = [sAt c i n] := by
 have h := als_sound (m := m) hs c.length 0 (by omega)
 have r0 := hc.rng 0 hc.pos
 rw [Nat.zero_add, show sq c c.length = ca c 0 + 3600 from if_pos rfl, sq_lt hc.pos, bl_turn m0 m1 (by unfold ca; omega) (by unfold ca; omega)] at h
 obtain ⟨x, hx⟩ := List.length_eq_one_iff.1 (by omega : (als c m c.length 0).length = 1)
 have : x ∈ als c m c.length 0 := by rw [hx]; exact List.mem_singleton.2 rfl
 obtain ⟨i, n, _, b, hn, e⟩ := mem_als.1 this
 obtain ⟨h1, h2⟩ := mem_sol.1 hn
 exact ⟨i, n, by omega, h1, h2, by rw [hx, e]⟩
theorem not_flat (hs : Sound c) : ∀ i, i < c.length → ¬ Flat c m i := fun i hi h => by have := hs i hi; have := h.1; omega
theorem sound_all (hc : Ok c) (hs : Sound c) (m0 : 0 ≤ m) (m1 : m < 3600) : ∃ i n, i < c.length ∧ n ∈ tl m ∧ Hit (ca c i) (cb c i) n ∧ F24 c m = some ([fr (sAt c i n)], 0) ∧ F26 c m = some (fr ((n : Rat) - place c i n), 0) := by
 have hcl := hc.le
 obtain ⟨i, n, hi, ht, hh, ha⟩ := als_one hc hs m0 m1
 obtain ⟨S, f, g, p, _⟩ := F24_eq hc m0 m1 (not_flat hs) (by rw [ha]; exact Nat.le_of_ble_eq_true rfl)
 rw [ha] at p
 have hS : S = [sAt c i n] := List.perm_singleton.1 p
 subst hS
 refine ⟨i, n, hi, ht, hh, f, ?_⟩
 unfold F26
 rw [F22_eq (by omega), ck_of hc]
 simp only [Option.bind_eq_bind, Option.bind_some, bne_self_eq_false, Bool.false_eq_true, if_false]
 rw [F53_eq, decide_eq_true ⟨m0, m1⟩]
 simp only [Option.bind_some, Bool.not_true, Bool.false_eq_true, if_false]
 rw [F60_eq hc, fol_none hs _ _ (by omega)]
 simp only [Option.bind_some]
 rw [if_neg (by simp)]
 unfold F71
 rw [g]
 rw [Option.bind_eq_bind, Option.bind_some]
 dsimp only
 rw [if_pos ⟨by decide, by simp⟩, show List.getD ([sAt c i n].map fr) (Int.toNat 0) (0, 0) = fr (sAt c i n) from rfl]
 rw [Option.bind_eq_bind, Option.bind_some]
 rw [F54_sAt hc hi hh]
 rfl
theorem F26_fold (hc : Ok c) (hs : ¬ Sound c) (m0 : 0 ≤ m) (m1 : m < 3600) : F26 c m = some ((0, 0), 21) := by
 have hcl := hc.le
 have hf : fol c c.length 0 ≠ [] := by
  refine fol_some _ _ (Classical.byContradiction fun g => hs fun i hi => ?_)
  refine Classical.byContradiction fun k => g ⟨i, Nat.zero_le _, by omega, by omega⟩
 unfold F26
 rw [F22_eq (by omega), ck_of hc]
 simp only [Option.bind_eq_bind, Option.bind_some, bne_self_eq_false, Bool.false_eq_true, if_false]
 rw [F53_eq, decide_eq_true ⟨m0, m1⟩]
 simp only [Option.bind_some, Bool.not_true, Bool.false_eq_true, if_false]
 rw [F60_eq hc]
 simp only [Option.bind_some]
 rw [if_pos (by
  have : 0 < (fol c c.length 0).length := List.length_pos_iff.2 hf
  simp; omega)]
end
end Go.Proofs.Ythpfffijnkmdgaa.plain
