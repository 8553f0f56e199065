/- Folds; the compass courses of a magnetic heading. -/
import Derived.Test.YthpfffijnkmdgaaLS4
import Derived.Test.YthpfffijnkmdgaaCE
set_option linter.unusedVariables false
set_option linter.unusedSimpArgs false
set_option maxRecDepth 100000
namespace Go.Proofs.Ythpfffijnkmdgaa.plain
open Go Go.Cl
section
variable {c : Card} {i : Nat} {m : Int}
def ca (c : Card) (i : Nat) : Int := (A c i).1 + (A c i).2
def cb (c : Card) (i : Nat) : Int := (B c i).1 + (B c i).2
theorem Ok.ends (h : Ok c) (hi : i < c.length) : -900 ≤ ca c i ∧ ca c i < 4500 ∧ -900 ≤ cb c i ∧ cb c i < 8100 ∧ cb c i - ca c i ≤ 5400 ∧ ca c i - cb c i ≤ 5400 := by
 have r := h.rng i hi
 have s := h.seg hi
 unfold ca cb
 omega
theorem F72_eq (a b : Int) (h1 : -1000000 ≤ a ∧ a ≤ 1000000) (h2 : -1000000 ≤ b ∧ b ≤ 1000000) : F72 a b = some (a + b) := by
 unfold F72; rw [w64_in (by omega) (by omega)]
def fol (c : Card) : Nat → Nat → List Int
 | 0, _ => []
 | d + 1, v => if cb c v ≤ ca c v then (v : Int) :: fol c d (v + 1) else fol c d (v + 1)
theorem fold_loop (hc : Ok c) : ∀ (d v : Nat) (out : List Int), v + d = c.length → out.length ≤ v → F60l0 c v out v = some (out ++ fol c d v, (c.length : Int)) := by
 have hcl := hc.le
 intro d
 induction d with
 | zero => intro v out hd ho; rw [F60l0, if_neg (by simp; omega), fol, List.append_nil, show v = c.length by omega]
 | succ d ih =>
  intro v out hd ho
  have hlt : v < c.length := by omega
  have r := hc.rng v hlt
  have r0 := hc.rng 0 hc.pos
  obtain ⟨s1, s2, s3, s4, s5⟩ := hc.seg hlt
  rw [F60l0, if_pos (by simp; omega), if_pos ⟨by omega, by omega⟩]
  simp only [Option.bind_eq_bind, show ((v : Int)).toNat = v from rfl]
  rw [show c.getD v (0, 0) = A c v from rfl, Option.bind_some]
  refine (seg_code (by omega) (by omega) hlt (fun o71 m76 => (F72 m76 o71.2).bind fun r78 => (F72 (A c v).1 (A c v).2).bind fun r80 => (if decide (r78 ≤ r80) = true then if List.length out ≤ 1000000000 then some (out ++ [(v : Int)]) else none else some out).bind fun m85 => F60l0 c (w64 ((v : Int) + 1)) m85 (w64 ((v : Int) + 1)))).trans ?_
  rw [next_snd hlt, F72_eq _ _ (by omega) (by omega), F72_eq _ _ (by omega) (by omega)]
  simp only [Option.bind_some]
  rw [show (B c v).1 + (B c v).2 = cb c v from rfl, show (A c v).1 + (A c v).2 = ca c v from rfl, w64_up (by omega), fol]
  by_cases h : cb c v ≤ ca c v
  · rw [if_pos (by simpa using h), if_pos (by omega), if_pos h]
    simp only [Option.bind_some]
    rw [ih (v + 1) _ (by omega) (by simp; omega), List.append_assoc]
    rfl
  rw [if_neg (by simpa using h), if_neg h]
  simp only [Option.bind_some]
  exact ih (v + 1) out (by omega) (by omega)
theorem F60_eq (hc : Ok c) : F60 c = some (fol c c.length 0) := by
 unfold F60
 have f : F60l0 c 0 [] 0 = some ([] ++ fol c c.length 0, (c.length : Int)) := fold_loop hc c.length 0 [] (by omega) (Nat.zero_le _)
 rw [f]
 rfl
theorem divInt_lt {a d k : Int} (hd : 0 < d) : Rat.divInt a d < (k : Rat) ↔ a < k * d := by
 rw [Rat.divInt_eq_div, Rat.div_lt_iff (Rat.intCast_pos.2 hd), ← Rat.intCast_mul, Rat.intCast_lt_intCast]
theorem le_divInt {a d k : Int} (hd : 0 < d) : (k : Rat) ≤ Rat.divInt a d ↔ k * d ≤ a := by
 rw [← Rat.not_lt, divInt_lt hd, Int.not_lt]
def Hit (a b n : Int) : Prop := (a ≤ n ∧ n < b) ∨ (b < n ∧ n ≤ a)
instance (a b n : Int) : Decidable (Hit a b n) := inferInstanceAs (Decidable (_ ∨ _))
def tl (m : Int) : List Int := [m - 7200, m - 3600, m, m + 3600, m + 7200]
def sol (c : Card) (m : Int) (i : Nat) : List Int := (tl m).filter fun n => decide (Hit (ca c i) (cb c i) n)
def wrap (x : Rat) : Rat := if x < ((3600 : Int) : Rat) then x else x + ((-3600 : Int) : Rat)
def part (c : Card) (i : Nat) (n : Int) : Rat := Rat.divInt ((n - ca c i) * ((B c i).1 - (A c i).1)) (cb c i - ca c i)
def sAt (c : Card) (i : Nat) (n : Int) : Rat := wrap (part c i n + ((A c i).1 : Rat))
theorem part_rng (hc : Ok c) (hi : i < c.length) {n : Int} (h : Hit (ca c i) (cb c i) n) : 0 ≤ part c i n ∧ part c i n < (((B c i).1 - (A c i).1 : Int) : Rat) := by
 obtain ⟨s1, s2, s3, s4, s5⟩ := hc.seg hi
 unfold part
 generalize hL : (B c i).1 - (A c i).1 = L
 have hL0 : 0 < L := by omega
 rcases h with ⟨h1, h2⟩ | ⟨h1, h2⟩
 · have hd : 0 < cb c i - ca c i := by omega
   refine ⟨Rat.divInt_nonneg (Int.mul_nonneg (by omega) (by omega)) (by omega), ?_⟩
   rw [divInt_lt hd, Int.mul_comm]
   exact Int.mul_lt_mul_of_pos_left (by omega) hL0
 have hd : 0 < -(cb c i - ca c i) := by omega
 rw [← Rat.neg_divInt_neg]
 have e : -((n - ca c i) * L) = (ca c i - n) * L := by rw [← Int.neg_mul]; congr 1; omega
 rw [e]
 refine ⟨Rat.divInt_nonneg (Int.mul_nonneg (by omega) (by omega)) (by omega), ?_⟩
 rw [divInt_lt hd, Int.mul_comm]
 exact Int.mul_lt_mul_of_pos_left (by omega) hL0
theorem part_den (hc : Ok c) (hi : i < c.length) {n : Int} (h : Hit (ca c i) (cb c i) n) : (part c i n).den ≤ 5400 := by
 have e := hc.ends hi
 unfold part
 rw [Rat.den_divInt]
 split
 · omega
 exact Nat.le_trans (Nat.div_le_self _ _) (by omega)
theorem F73_wrap {x : Rat} (hd : x.den ≤ 6000) (h0 : 0 ≤ x) (h1 : x < ((7200 : Int) : Rat)) : F73 (fr x).1 (fr x).2 = some (fr (wrap x)) := by
 have hp := den_pos x
 have hn := Rat.num_nonneg.2 h0
 have h1' := lt_int.1 h1
 show F73 x.num x.den = _
 unfold F73
 rw [w64_in (x := 3600 * (x.den : Int)) (by omega) (by omega), if_neg (by omega), Int.tmod_eq_emod_of_nonneg hn]
 have hm := Int.emod_nonneg x.num (show 3600 * (x.den : Int) ≠ 0 by omega)
 rw [if_neg (by simpa using hm)]
 unfold wrap
 by_cases h : x < ((3600 : Int) : Rat)
 · rw [if_pos h, Int.emod_eq_of_lt hn (lt_int.1 h)]; rfl
 rw [if_neg h]
 obtain ⟨a1, a2⟩ := add_int x (-3600)
 have h2 := int_le.1 (Rat.not_lt.1 h)
 have e : x.num % (3600 * (x.den : Int)) = x.num - 3600 * x.den := by
  rw [← Int.sub_emod_right]
  exact Int.emod_eq_of_lt (by omega) (by omega)
 rw [e]
 unfold fr
 rw [a1, a2]
 congr 2
theorem wrap_rng {x : Rat} (h0 : 0 ≤ x) (h1 : x < ((7200 : Int) : Rat)) : 0 ≤ wrap x ∧ wrap x < ((3600 : Int) : Rat) := by
 unfold wrap
 by_cases h : x < ((3600 : Int) : Rat)
 · rw [if_pos h]; exact ⟨h0, h⟩
 rw [if_neg h]
 obtain ⟨a1, a2⟩ := add_int x (-3600)
 have h2 := int_le.1 (Rat.not_lt.1 h)
 have h1' := lt_int.1 h1
 constructor
 · rw [← Rat.num_nonneg, a1]; omega
 rw [lt_int, a1, a2]; omega
theorem wrap_den (x : Rat) : (wrap x).den = x.den := by
 unfold wrap
 split
 · rfl
 exact (add_int x (-3600)).2
theorem place_rng (hc : Ok c) (hi : i < c.length) {n : Int} (h : Hit (ca c i) (cb c i) n) : 0 ≤ part c i n + ((A c i).1 : Rat) ∧ part c i n + ((A c i).1 : Rat) < ((B c i).1 : Rat) ∧ ((A c i).1 : Rat) ≤ part c i n + ((A c i).1 : Rat) ∧ part c i n + ((A c i).1 : Rat) < ((7200 : Int) : Rat) := by
 obtain ⟨p0, p1⟩ := part_rng hc hi h
 have r := hc.rng i hi
 obtain ⟨s1, s2, s3, s4, s5⟩ := hc.seg hi
 obtain ⟨a1, a2⟩ := add_int (part c i n) (A c i).1
 have hp := den_pos (part c i n)
 have n0 := Rat.num_nonneg.2 p0
 have n1 := lt_int.1 p1
 have k0 : 0 ≤ (A c i).1 * ((part c i n).den : Int) := Int.mul_nonneg r.1 (by omega)
 have k1 : (B c i).1 * ((part c i n).den : Int) ≤ 7199 * ((part c i n).den : Int) := Int.mul_le_mul_of_nonneg_right (by omega) (by omega)
 rw [Int.sub_mul] at n1
 refine ⟨?_, ?_, ?_, ?_⟩
 · rw [← Rat.num_nonneg, a1]; omega
 · rw [lt_int, a1, a2]; omega
 · rw [int_le, a1, a2]; omega
 rw [lt_int, a1, a2]; omega
theorem course_code {γ : Type} (hc : Ok c) (hi : i < c.length) {n : Int} (h : Hit (ca c i) (cb c i) n) (K : Int × Int → Option γ) :
 ((F89 (w64 (w64 (n - ca c i) * w64 ((B c i).1 - (A c i).1))) (w64 (cb c i - ca c i))).bind fun r505 => (F55 (A c i).1).bind fun r507 => (F77 r505.1 r505.2 [(r507.1, r507.2)]).bind fun r509 => (F73 r509.1 r509.2).bind K) = K (fr (sAt c i n)) := by
 have e := hc.ends hi
 have r := hc.rng i hi
 obtain ⟨s1, s2, s3, s4, s5⟩ := hc.seg hi
 have hn : -900 ≤ n ∧ n < 8100 := by unfold Hit at h; omega
 have hcc : cb c i - ca c i ≠ 0 := by unfold Hit at h; omega
 have m1 : ((n - ca c i) * ((B c i).1 - (A c i).1)).natAbs ≤ 12600 * 3600 := by rw [Int.natAbs_mul]; exact Nat.mul_le_mul (by omega) (by omega)
 rw [w64_in (x := n - ca c i) (by omega) (by omega), w64_in (x := (B c i).1 - (A c i).1) (by omega) (by omega), w64_in (x := (n - ca c i) * ((B c i).1 - (A c i).1)) (by omega) (by omega), w64_in (x := cb c i - ca c i) (by omega) (by omega), F89_eq ⟨by omega, by omega⟩ ⟨by omega, by omega⟩ hcc]
 simp only [Option.bind_some]
 rw [F55_eq, Option.bind_some, show Rat.divInt ((n - ca c i) * ((B c i).1 - (A c i).1)) (cb c i - ca c i) = part c i n from rfl]
 dsimp only
 obtain ⟨p0, p1⟩ := part_rng hc hi h
 have pd := part_den hc hi h
 have n0 := Rat.num_nonneg.2 p0
 have n1 := lt_int.1 p1
 have k1 : ((B c i).1 - (A c i).1) * ((part c i n).den : Int) ≤ 3600 * ((part c i n).den : Int) := Int.mul_le_mul_of_nonneg_right (by omega) (by omega)
 rw [plus_int (A c i).1 (M := 5400) (N := 3600 * 5400) ⟨pd, by omega⟩ (by omega) (by omega) (by omega)]
 simp only [Option.bind_some]
 obtain ⟨q1, q2, q3, q4⟩ := place_rng hc hi h
 rw [F73_wrap (by rw [(add_int _ _).2]; omega) q1 q4]
 rfl
def run : Nat → Int → Int → List Int
 | 0, _, _ => []
 | d + 1, n, hi => if n ≤ hi then n :: run d (n + 3600) hi else []
theorem mnx (a b : Int) : mn a b ≤ a ∧ mn a b ≤ b ∧ (mn a b = a ∨ mn a b = b) ∧ a ≤ mx a b ∧ b ≤ mx a b ∧ (mx a b = a ∨ mx a b = b) ∧ mn a b + mx a b = a + b := by
 unfold mn mx
 split <;> split <;> omega
theorem inner_loop (hc : Ok c) (hi : i < c.length) (hne : ca c i ≠ cb c i) : ∀ (d : Nat) (n : Int) (L : List Rat), mn (ca c i) (cb c i) ≤ n → n ≤ 20000 → mx (ca c i) (cb c i) < n + 3600 * d → L.length + d ≤ 10000 →
 F65l1 c m (B c i).1 (A c i) (A c ((i + 1) % c.length)) (ca c i) (cb c i) (ca c i) (cb c i) n (L.map fr) = some (.inr ((L ++ ((run d n (mx (ca c i) (cb c i))).filter fun n => decide (n ≠ cb c i)).map (sAt c i)).map fr)) := by
 have e := hc.ends hi
 have r := hc.rng i hi
 obtain ⟨s1, s2, s3, s4, s5⟩ := hc.seg hi
 obtain ⟨x1, x2, x3, x4, x5, x6, x7⟩ := mnx (ca c i) (cb c i)
 have hB : F72 (B c i).1 (A c ((i + 1) % c.length)).2 = some (cb c i) := by rw [next_snd hi]; exact F72_eq _ _ (by omega) (by omega)
 have hA : F72 (A c i).1 (A c i).2 = some (ca c i) := F72_eq _ _ (by omega) (by omega)
 intro d
 induction d with
 | zero => intro n L h1 h0 h2 hl; rw [F65l1, if_neg (by simp; omega)]; simp [run]
 | succ d ih =>
  intro n L h1 h0 h2 hl
  rw [F65l1, run]
  by_cases hn : n ≤ mx (ca c i) (cb c i)
  · rw [if_pos (by simpa using hn), if_neg (by simp; omega), if_pos hn, hB, hA, w64_in (x := n + 3600) (by omega) (by omega)]
    simp only [Option.bind_eq_bind, Option.bind_some]
    by_cases hcb : n = cb c i
    · rw [if_pos (by simpa using hcb), ih (n + 3600) L (by omega) (by omega) (by push_cast at h2; omega) (by omega), List.filter_cons_of_neg (by simp [hcb])]
    have hit : Hit (ca c i) (cb c i) n := by unfold Hit; omega
    rw [if_neg (by simpa using hcb), course_code hc hi hit, List.filter_cons_of_pos (by simpa using hcb), if_pos (by rw [List.length_map]; omega)]
    have := ih (n + 3600) (L ++ [sAt c i n]) (by omega) (by omega) (by push_cast at h2; omega) (by simp; omega)
    rw [show (L.map fr ++ [((fr (sAt c i n)).1, (fr (sAt c i n)).2)]) = (L ++ [sAt c i n]).map fr by rw [List.map_append]; rfl, this, List.append_assoc]
    rfl
  rw [if_neg (by simpa using hn), if_neg hn]
  simp
theorem run_sol (hc : Ok c) (hi : i < c.length) (hne : ca c i ≠ cb c i) (m0 : 0 ≤ m) (m1 : m < 3600) {s : Int} (hs : s = mn (ca c i) (cb c i) + (m - mn (ca c i) (cb c i)) % 3600) : ((run 2 s (mx (ca c i) (cb c i))).filter fun n => decide (n ≠ cb c i)) = sol c m i := by
 have e := hc.ends hi
 obtain ⟨x1, x2, x3, x4, x5, x6, x7⟩ := mnx (ca c i) (cb c i)
 unfold sol
 have hP : ∀ n, decide (Hit (ca c i) (cb c i) n) = decide (mn (ca c i) (cb c i) ≤ n ∧ n ≤ mx (ca c i) (cb c i) ∧ n ≠ cb c i) := fun n => by
  rw [decide_eq_decide]; unfold Hit; omega
 simp only [hP]
 generalize mn (ca c i) (cb c i) = lo at *
 generalize mx (ca c i) (cb c i) = hi' at *
 generalize cb c i = b at *
 have h1 : lo ≤ s ∧ s < lo + 3600 := by omega
 have hr : (run 2 s hi').filter (fun n => decide (n ≠ b)) = [s, s + 3600].filter (fun n => decide (lo ≤ n ∧ n ≤ hi' ∧ n ≠ b)) := by
  rw [run, run, run]
  by_cases k1 : s ≤ hi'
  · rw [if_pos k1]
    by_cases k2 : s + 3600 ≤ hi'
    · rw [if_pos k2, List.filter_cons, List.filter_cons, List.filter_cons, List.filter_cons]
      have e1 : decide (s ≠ b) = decide (lo ≤ s ∧ s ≤ hi' ∧ s ≠ b) := by rw [decide_eq_decide]; omega
      have e2 : decide (s + 3600 ≠ b) = decide (lo ≤ s + 3600 ∧ s + 3600 ≤ hi' ∧ s + 3600 ≠ b) := by rw [decide_eq_decide]; omega
      rw [e1, e2]
      simp
    rw [if_neg k2, List.filter_cons, List.filter_cons, List.filter_cons]
    have e1 : decide (s ≠ b) = decide (lo ≤ s ∧ s ≤ hi' ∧ s ≠ b) := by rw [decide_eq_decide]; omega
    have e2 : decide (lo ≤ s + 3600 ∧ s + 3600 ≤ hi' ∧ s + 3600 ≠ b) = false := decide_eq_false (by omega)
    rw [e1, e2]
    simp
  rw [if_neg k1, List.filter_cons, List.filter_cons]
  have e1 : decide (lo ≤ s ∧ s ≤ hi' ∧ s ≠ b) = false := decide_eq_false (by omega)
  have e2 : decide (lo ≤ s + 3600 ∧ s + 3600 ≤ hi' ∧ s + 3600 ≠ b) = false := decide_eq_false (by omega)
  rw [e1, e2]
  simp
 rw [hr]
 have out : ∀ {n : Int}, (n < lo ∨ hi' < n) → decide (lo ≤ n ∧ n ≤ hi' ∧ n ≠ b) = false := fun h => decide_eq_false (by omega)
 have hk : s = m - 3600 ∨ s = m ∨ s = m + 3600 ∨ s = m + 7200 ∨ s = m + 10800 := by omega
 unfold tl
 simp only [List.filter_cons, List.filter_nil]
 rcases hk with h | h | h | h | h
 · rw [h, out (n := m - 7200) (by omega), out (n := m + 3600) (by omega), out (n := m + 7200) (by omega), show m - 3600 + 3600 = m by omega]
   simp
 · rw [h, out (n := m - 7200) (by omega), out (n := m - 3600) (by omega), out (n := m + 7200) (by omega)]
   simp
 · rw [h, out (n := m - 7200) (by omega), out (n := m - 3600) (by omega), out (n := m) (by omega), show m + 3600 + 3600 = m + 7200 by omega]
   simp
 · rw [h, out (n := m - 7200) (by omega), out (n := m - 3600) (by omega), out (n := m) (by omega), out (n := m + 3600) (by omega), out (n := m + 7200 + 3600) (by omega)]
   simp
 rw [h, out (n := m - 7200) (by omega), out (n := m - 3600) (by omega), out (n := m) (by omega), out (n := m + 3600) (by omega), out (n := m + 7200) (by omega), out (n := m + 10800) (by omega), out (n := m + 10800 + 3600) (by omega)]
 simp
def Flat (c : Card) (m : Int) (i : Nat) : Prop := ca c i = cb c i ∧ (m - ca c i) % 3600 = 0
def als (c : Card) (m : Int) : Nat → Nat → List Rat
 | 0, _ => []
 | d + 1, v => (sol c m v).map (sAt c v) ++ als c m d (v + 1)
theorem sol_none (h : ca c i = cb c i) : sol c m i = [] := by
 unfold sol
 rw [List.filter_eq_nil_iff]
 intro n _ hn
 have := of_decide_eq_true hn
 unfold Hit at this
 omega
theorem sol_len (hc : Ok c) (hi : i < c.length) (m0 : 0 ≤ m) (m1 : m < 3600) : (sol c m i).length ≤ 2 := by
 by_cases hne : ca c i = cb c i
 · rw [sol_none hne]; decide
 rw [← run_sol hc hi hne m0 m1 rfl]
 refine Nat.le_trans (List.length_filter_le _ _) ?_
 rw [run, run, run]
 split
 · split <;> simp
 simp
theorem outer_loop (hc : Ok c) (m0 : 0 ≤ m) (m1 : m < 3600) : ∀ (d v : Nat) (L : List Rat), v + d = c.length → L.length ≤ 2 * v →
 ((∃ i, v ≤ i ∧ i < c.length ∧ Flat c m i) ∧ ∃ o, F65l0 c m v (L.map fr) = some (.inl o)) ∨ ((∀ i, v ≤ i → i < c.length → ¬ Flat c m i) ∧ F65l0 c m v (L.map fr) = some (.inr ((L ++ als c m d v).map fr))) := by
 have hcl := hc.le
 intro d
 induction d with
 | zero =>
  intro v L hd hl
  right
  exact ⟨fun i h1 h2 => by omega, by rw [F65l0, if_neg (by simp; omega), als, List.append_nil]⟩
 | succ d ih =>
  intro v L hd hl
  have hlt : v < c.length := by omega
  have e := hc.ends hlt
  have r := hc.rng v hlt
  have r0 := hc.rng 0 hc.pos
  obtain ⟨s1, s2, s3, s4, s5⟩ := hc.seg hlt
  obtain ⟨x1, x2, x3, x4, x5, x6, x7⟩ := mnx (ca c v) (cb c v)
  have hB : F72 (B c v).1 (A c ((v + 1) % c.length)).2 = some (cb c v) := by rw [next_snd hlt]; exact F72_eq _ _ (by omega) (by omega)
  have hA : F72 (A c v).1 (A c v).2 = some (ca c v) := F72_eq _ _ (by omega) (by omega)
  have hm : Int.tmod (w64 (Int.tmod (w64 (m - mn (ca c v) (cb c v))) 3600 + 3600)) 3600 = (m - mn (ca c v) (cb c v)) % 3600 := by
   rw [w64_in (x := m - mn (ca c v) (cb c v)) (by omega) (by omega)]
   have ht : -3600 < Int.tmod (m - mn (ca c v) (cb c v)) 3600 ∧ Int.tmod (m - mn (ca c v) (cb c v)) 3600 < 3600 := ⟨Int.lt_tmod_of_pos _ (by decide), Int.tmod_lt_of_pos _ (by decide)⟩
   rw [w64_in (by omega) (by omega), Int.tmod_eq_emod_of_nonneg (by omega)]
   have hq := Int.tmod_add_mul_tdiv (m - mn (ca c v) (cb c v)) 3600
   omega
  have hw : w64 (mn (ca c v) (cb c v) + (m - mn (ca c v) (cb c v)) % 3600) = mn (ca c v) (cb c v) + (m - mn (ca c v) (cb c v)) % 3600 := w64_in (by omega) (by omega)
  have code : F65l0 c m v (L.map fr) = ((F65l1 c m (B c v).1 (A c v) (A c ((v + 1) % c.length)) (ca c v) (cb c v) (ca c v) (cb c v) (mn (ca c v) (cb c v) + (m - mn (ca c v) (cb c v)) % 3600) (L.map fr)).bind fun r514 => match r514 with | .inl o516 => some (.inl o516) | .inr o517 => F65l0 c m ((v + 1 : Nat) : Int) o517) := by
   rw [F65l0, if_pos (by simp; omega), if_pos ⟨by omega, by omega⟩]
   simp only [Option.bind_eq_bind, show ((v : Int)).toNat = v from rfl]
   rw [show c.getD v (0, 0) = A c v from rfl, Option.bind_some]
   refine (seg_code (by omega) (by omega) hlt (fun o406 m411 => (F72 (A c v).1 (A c v).2).bind fun r413 => (F72 m411 o406.2).bind fun r415 => (F72 (A c v).1 (A c v).2).bind fun r417 => (F72 m411 o406.2).bind fun r419 => (some (Int.tmod (w64 (Int.tmod (w64 (m - mn r413 r415)) 3600 + 3600)) 3600)).bind fun o421 => (F65l1 c m m411 (A c v) o406 r413 r415 r417 r419 (w64 (mn r413 r415 + o421)) (L.map fr)).bind fun r514 => match r514 with | .inl o516 => some (.inl o516) | .inr o517 => F65l0 c m (w64 ((v : Int) + 1)) o517)).trans ?_
   rw [hA, hB]
   simp only [Option.bind_some]
   rw [hm, hw, w64_up (by omega)]
  rw [code]
  by_cases hne : ca c v = cb c v
  · have hmn : mn (ca c v) (cb c v) = ca c v := by omega
    have hmx : mx (ca c v) (cb c v) = ca c v := by omega
    rw [hmn]
    by_cases hz : (m - ca c v) % 3600 = 0
    · left
      refine ⟨⟨v, Nat.le_refl _, hlt, hne, hz⟩, L.map fr, ?_⟩
      rw [F65l1, hmx, hmn, if_pos (by simp; omega), if_pos (by simp)]
      rfl
    have f : F65l1 c m (B c v).1 (A c v) (A c ((v + 1) % c.length)) (ca c v) (cb c v) (ca c v) (cb c v) (ca c v + (m - ca c v) % 3600) (L.map fr) = some (.inr (L.map fr)) := by
     rw [F65l1, hmx, if_neg (by simp; omega)]
    rw [f]
    simp only [Option.bind_some]
    rw [als, sol_none hne, List.map_nil, List.nil_append]
    rcases ih (v + 1) L (by omega) (by omega) with ⟨⟨i, a, b, g⟩, h⟩ | ⟨g, h⟩
    · exact .inl ⟨⟨i, by omega, b, g⟩, h⟩
    refine .inr ⟨fun i a b hf => ?_, h⟩
    by_cases ei : i = v
    · rw [ei] at hf; exact hz hf.2
    exact g i (by omega) b hf
  rw [inner_loop hc hlt hne 2 _ L (by omega) (by omega) (by omega) (by omega), run_sol hc hlt hne m0 m1 rfl]
  simp only [Option.bind_some]
  rw [als, ← List.append_assoc]
  have hsl := sol_len hc hlt m0 m1
  rcases ih (v + 1) (L ++ (sol c m v).map (sAt c v)) (by omega) (by rw [List.length_append, List.length_map]; omega) with ⟨⟨i, a, b, g⟩, h⟩ | ⟨g, h⟩
  · exact .inl ⟨⟨i, by omega, b, g⟩, h⟩
  refine .inr ⟨fun i a b hf => ?_, h⟩
  by_cases ei : i = v
  · rw [ei] at hf; exact hne hf.1
  exact g i (by omega) b hf
theorem mem_als {x : Rat} : ∀ {d v : Nat}, x ∈ als c m d v ↔ ∃ i n, v ≤ i ∧ i < v + d ∧ n ∈ sol c m i ∧ x = sAt c i n := by
 intro d
 induction d with
 | zero => intro v; rw [als]; constructor
           · intro h; cases h
           rintro ⟨i, n, a, b, _⟩; omega
 | succ d ih =>
  intro v
  rw [als, List.mem_append, ih]
  constructor
  · rintro (h | ⟨i, n, a, b, h⟩)
    · obtain ⟨n, hn, e⟩ := List.mem_map.1 h
      exact ⟨v, n, Nat.le_refl _, by omega, hn, e.symm⟩
    exact ⟨i, n, by omega, by omega, h⟩
  rintro ⟨i, n, a, b, hn, e⟩
  by_cases ei : i = v
  · subst ei; exact .inl (List.mem_map.2 ⟨n, hn, e.symm⟩)
  exact .inr ⟨i, n, by omega, by omega, hn, e⟩
theorem mem_sol {n : Int} : n ∈ sol c m i ↔ n ∈ tl m ∧ Hit (ca c i) (cb c i) n := by
 unfold sol
 rw [List.mem_filter, decide_eq_true_eq]
theorem sAt_rng (hc : Ok c) (hi : i < c.length) {n : Int} (h : Hit (ca c i) (cb c i) n) : 0 ≤ sAt c i n ∧ sAt c i n < ((3600 : Int) : Rat) ∧ (sAt c i n).den ≤ 5400 := by
 obtain ⟨q1, q2, q3, q4⟩ := place_rng hc hi h
 obtain ⟨a, b⟩ := wrap_rng q1 q4
 refine ⟨a, b, ?_⟩
 unfold sAt
 rw [wrap_den, (add_int _ _).2]
 exact part_den hc hi h
theorem sm_3600 {x : Rat} (h0 : 0 ≤ x) (h1 : x < ((3600 : Int) : Rat)) (hd : x.den ≤ 5400) : Sm 5400 (3600 * 5400) x := by
 have n0 := Rat.num_nonneg.2 h0
 have n1 := lt_int.1 h1
 exact ⟨hd, by omega⟩
theorem F65_flat (hc : Ok c) (m0 : 0 ≤ m) (m1 : m < 3600) (h : ∃ i, i < c.length ∧ Flat c m i) : F65 c m = some ([], false) := by
 obtain ⟨i, hi, hf⟩ := h
 unfold F65
 rcases outer_loop hc m0 m1 c.length 0 [] (by omega) (Nat.zero_le _) with ⟨_, o, f⟩ | ⟨g, _⟩
 · have f' : F65l0 c m 0 [] = some (.inl o) := f
   rw [f']; rfl
 exact absurd hf (g i (Nat.zero_le _) hi)
theorem F65_eq (hc : Ok c) (m0 : 0 ≤ m) (m1 : m < 3600) (h : ∀ i, i < c.length → ¬ Flat c m i) (hl : (als c m c.length 0).length < 73) : ∃ S : List Rat, F65 c m = some (S.map fr, true) ∧ S.Perm (als c m c.length 0) ∧ S.Pairwise (· ≤ ·) := by
 unfold F65
 rcases outer_loop hc m0 m1 c.length 0 [] (by omega) (Nat.zero_le _) with ⟨⟨i, _, b, g⟩, _⟩ | ⟨_, f⟩
 · exact absurd g (h i b)
 have f' : F65l0 c m 0 [] = some (.inr ((als c m c.length 0).map fr)) := f
 obtain ⟨S, e, p, s⟩ := sort_rat (M := 5400) (N := 3600 * 5400) (by omega) (by omega) hl (fun x hx => by
  obtain ⟨i, n, _, b, hn, rfl⟩ := mem_als.1 hx
  obtain ⟨q1, q2, q3⟩ := sAt_rng hc (by omega) (mem_sol.1 hn).2
  exact sm_3600 q1 q2 q3)
 refine ⟨S, ?_, p, s⟩
 rw [f']
 simp only [Option.bind_eq_bind, Option.bind_some]
 rw [e]
 rfl
theorem copy_loop {q : List (Int × Int) × Bool} (hq : q.1.length ≤ 1000) : ∀ (d v : Nat) (out : List (Int × Int)), v + d = q.1.length → out.length ≤ v → F24l0 c q out v = some (out ++ q.1.drop v) := by
 intro d
 induction d with
 | zero => intro v out hd ho; rw [F24l0, if_neg (by simp; omega), List.drop_eq_nil_of_le (by omega), List.append_nil]
 | succ d ih =>
  intro v out hd ho
  have hlt : v < q.1.length := by omega
  have hdr : q.1.drop v = q.1[v] :: q.1.drop (v + 1) := List.drop_eq_getElem_cons hlt
  rw [F24l0, if_pos (by simp; omega), if_pos ⟨by omega, by omega⟩, w64_up (by omega)]
  simp only [Option.bind_eq_bind, Option.bind_some, show ((v : Int)).toNat = v from rfl, cons_get _ hlt]
  rw [show F56 q.1[v].1 q.1[v].2 = some (q.1[v]) from rfl]
  simp only [Option.bind_some]
  rw [if_pos (by omega), ih (v + 1) _ (by omega) (by simp; omega), hdr, List.append_assoc]
  rfl
theorem F24_flat (hc : Ok c) (m0 : 0 ≤ m) (m1 : m < 3600) (h : ∃ i, i < c.length ∧ Flat c m i) : F24 c m = some ([], 16) := by
 have hcl := hc.le
 unfold F24
 rw [F22_eq (by omega), ck_of hc]
 simp only [Option.bind_eq_bind, Option.bind_some, bne_self_eq_false, Bool.false_eq_true, if_false]
 rw [F53_eq, decide_eq_true ⟨m0, m1⟩]
 simp only [Option.bind_some, Bool.not_true, Bool.false_eq_true, if_false]
 rw [F65_flat hc m0 m1 h]
 rfl
theorem F24_eq (hc : Ok c) (m0 : 0 ≤ m) (m1 : m < 3600) (h : ∀ i, i < c.length → ¬ Flat c m i) (hl : (als c m c.length 0).length < 73) : ∃ S : List Rat, F24 c m = some (S.map fr, 0) ∧ F65 c m = some (S.map fr, true) ∧ S.Perm (als c m c.length 0) ∧ S.Pairwise (· ≤ ·) := by
 have hcl := hc.le
 obtain ⟨S, f, p, s⟩ := F65_eq hc m0 m1 h hl
 refine ⟨S, ?_, f, p, s⟩
 unfold F24
 rw [F22_eq (by omega), ck_of hc]
 simp only [Option.bind_eq_bind, Option.bind_some, bne_self_eq_false, Bool.false_eq_true, if_false]
 rw [F53_eq, decide_eq_true ⟨m0, m1⟩]
 simp only [Option.bind_some, Bool.not_true, Bool.false_eq_true, if_false]
 rw [f]
 simp only [Option.bind_some, Bool.not_true, Bool.false_eq_true, if_false]
 have hS := p.length_eq
 have g : F24l0 c (S.map fr, true) [] 0 = some ([] ++ (S.map fr).drop 0) := copy_loop (q := (S.map fr, true)) (by dsimp only; rw [List.length_map]; omega) (S.map fr).length 0 [] (Nat.zero_add _) (Nat.zero_le _)
 rw [g]
 rfl
end
end Go.Proofs.Ythpfffijnkmdgaa.plain
