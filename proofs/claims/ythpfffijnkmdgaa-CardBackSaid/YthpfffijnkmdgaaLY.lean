/- Segments of two cards that lead to one another; the sorted card that leads back. -/
import Derived.Test.YthpfffijnkmdgaaLX
set_option linter.unusedVariables false
set_option linter.unusedSimpArgs false
set_option maxRecDepth 100000
namespace Go.Proofs.Ythpfffijnkmdgaa.plain
open Go Go.Cl
section
variable {c b : Card} {i k r : Nat} {m n p q : Int} {x y z u v : Rat}
def Corr (c b : Card) : Prop := ∀ i, i < c.length → ∃ (k : Nat) (q : Int), k < b.length ∧ (A b k).1 = ca c i - 3600 * q ∧ (A b k).2 = -(A c i).2 ∧ (B b k).1 = cb c i - 3600 * q ∧ (B b k).2 = -(B c i).2
theorem corr_dev (hc : Ok c) (hs : Sound c) (hb : Ok b) (h : Corr c b) (g : Lies c i y) : ∃ (k : Nat) (q : Int), Lies b k (y + devAt c i y + ((-(3600 * q) : Int) : Rat)) ∧ devAt b k (y + devAt c i y + ((-(3600 * q) : Int) : Rat)) = - devAt c i y := by
 obtain ⟨k, q, hk, a1, a2, b1, b2⟩ := h i g.1
 have vr := val_rng hc hs g
 have ve := val_eq hc g
 obtain ⟨t0, t1, ey, ed, hL⟩ := seg_t hc g
 have sd := Rat.intCast_lt_intCast.2 (hs i g.1)
 have f1 : ((A b k).1 : Rat) = ((ca c i : Int) : Rat) + ((-(3600 * q) : Int) : Rat) := by rw [a1, ← Rat.intCast_add]; congr 1
 have f2 : ((B b k).1 : Rat) = ((cb c i : Int) : Rat) + ((-(3600 * q) : Int) : Rat) := by rw [b1, ← Rat.intCast_add]; congr 1
 have f3 : ((A b k).2 : Rat) = -((A c i).2 : Rat) := by rw [a2, Rat.intCast_neg]
 have f4 : ((B b k).2 : Rat) = -((B c i).2 : Rat) := by rw [b2, Rat.intCast_neg]
 have l : Lies b k (y + devAt c i y + ((-(3600 * q) : Int) : Rat)) := by
  refine ⟨hk, ?_, ?_⟩
  · rw [f1]; grind
  rw [f2]; grind
 refine ⟨k, q, l, ?_⟩
 obtain ⟨_, _, ez, e2, hM⟩ := seg_t hb l
 obtain ⟨T, hT⟩ : ∃ T, T = tt b k (y + devAt c i y + ((-(3600 * q) : Int) : Rat)) := ⟨_, rfl⟩
 rw [← hT, f1, f2] at ez
 rw [← hT, f3, f4] at e2
 rw [e2, ed]
 have hM' : 0 < ((cb c i : Int) : Rat) - ((ca c i : Int) : Rat) := by grind
 rw [ve] at ez
 have et : T = tt c i y := by
  generalize tt c i y = t at *
  generalize ((-(3600 * q) : Int) : Rat) = w at *
  generalize ((ca c i : Int) : Rat) = a at *
  generalize ((cb c i : Int) : Rat) = d at *
  have e0 : (T - t) * (d - a) = 0 := by grind
  rcases Rat.mul_eq_zero.1 e0 with e | e <;> grind
 rw [et]
 generalize tt c i y = t at *
 grind
theorem same_turn {a : Rat} {w : Int} (h1 : a ≤ u) (h2 : u < a + ((3600 : Int) : Rat)) (h3 : a ≤ v) (h4 : v < a + ((3600 : Int) : Rat)) (e : u = v + ((3600 * w : Int) : Rat)) : u = v := by
 rcases Int.lt_trichotomy w 0 with h | h | h
 · have := Rat.intCast_le_intCast.2 (show 3600 * w ≤ -3600 by omega)
   have e2 : ((-3600 : Int) : Rat) = -((3600 : Int) : Rat) := Rat.intCast_neg 3600
   rw [e2] at this
   generalize ((3600 : Int) : Rat) = W at *
   exfalso
   grind
 · subst h
   have : ((3600 * 0 : Int) : Rat) = 0 := rfl
   rw [this] at e
   grind
 have := Rat.intCast_le_intCast.2 (show 3600 ≤ 3600 * w by omega)
 generalize ((3600 : Int) : Rat) = W at *
 exfalso
 grind
theorem lies_turn (hb : Ok b) (g : Lies b k u) : ((A b 0).1 : Rat) ≤ u ∧ u < ((A b 0).1 : Rat) + ((3600 : Int) : Rat) := by
 have f1 := Rat.intCast_le_intCast.2 (hb.first_le g.1)
 have f2 := Rat.intCast_le_intCast.2 (hb.end_le g.1)
 have := g.2.1
 have := g.2.2
 rw [Rat.intCast_add] at f2
 generalize ((3600 : Int) : Rat) = W at *
 constructor <;> grind
theorem norm_turns (c : Card) (x : Rat) : ∃ w : Int, norm c x = x + ((3600 * w : Int) : Rat) := by
 unfold norm
 split
 · exact ⟨1, rfl⟩
 exact ⟨0, by show x = x + 0; grind⟩
theorem wrap_turns (x : Rat) : ∃ w : Int, wrap x = x + ((3600 * w : Int) : Rat) := by
 unfold wrap
 split
 · exact ⟨0, by show x = x + 0; grind⟩
 exact ⟨-1, rfl⟩
theorem rm_turns (x : Rat) : ∃ w : Int, rm x = x + ((3600 * w : Int) : Rat) := by
 unfold rm
 split
 · exact ⟨1, rfl⟩
 exact wrap_turns x
theorem turns_add (a d : Int) : ((3600 * a : Int) : Rat) + ((3600 * d : Int) : Rat) = ((3600 * (a + d) : Int) : Rat) := by rw [← Rat.intCast_add, Int.mul_add]
theorem corr_at (hc : Ok c) (hs : Sound c) (hb : Ok b) (h : Corr c b) (g : Lies c i y) {j : Nat} (l : Lies b j z) {w : Int} (e : z = y + devAt c i y + ((3600 * w : Int) : Rat)) : devAt b j z = - devAt c i y := by
 obtain ⟨k, q, l2, d2⟩ := corr_dev hc hs hb h g
 have t1 := lies_turn hb l
 have t2 := lies_turn hb l2
 have e0 : z = (y + devAt c i y + ((-(3600 * q) : Int) : Rat)) + ((3600 * (w + q) : Int) : Rat) := by
  rw [e, show ((-(3600 * q) : Int) : Rat) = -((3600 * q : Int) : Rat) from Rat.intCast_neg _, ← turns_add]
  grind
 have ez := same_turn t1.1 t1.2 t2.1 t2.2 e0
 rw [ez] at l ⊢
 have := Lies.uniq hb l l2
 rw [this, d2]
theorem two_back (hc : Ok c) (hs : Sound c) (hb : Ok b) (h : Corr c b) {d1 d2 x2 : Rat} {j : Nat} (l1 : Lies c i (norm c (n : Rat))) (e1 : d1 = devAt c i (norm c (n : Rat))) (T : Two c b n d1 d2 x2 j) : d1 + d2 = 0 := by
 have lies := T.lies
 have ex := T.ex2
 obtain ⟨w1, n1⟩ := norm_turns c (n : Rat)
 obtain ⟨w2, n2⟩ := norm_turns b x2
 obtain ⟨w3, n3⟩ := rm_turns ((n : Rat) + d1)
 have := corr_at hc hs hb h l1 lies (w := w2 + w3 - w1) (by
  rw [n2, ex, n3, ← e1, n1]
  have h1 := turns_add w2 w3
  have h2 := turns_add (w2 + w3 - w1) w1
  rw [show w2 + w3 - w1 + w1 = w2 + w3 by omega] at h2
  grind)
 rw [T.ed2, this, ← e1]
 grind
def gb (q : Int) (p : Pt) : Pt := (p.1 + p.2 - 3600 * q, -p.2)
def rot (c : Card) (q : Int) (r : Nat) : Card := (c.drop r).map (gb q) ++ (c.take r).map (gb (q - 1))
theorem rot_len : (rot c q r).length = c.length := by
 unfold rot
 rw [List.length_append, List.length_map, List.length_map, List.length_drop, List.length_take]
 omega
theorem rot_lo (hk : k + r < c.length) : A (rot c q r) k = gb q (A c (r + k)) := by
 unfold A rot
 rw [List.getD_eq_getElem?_getD, List.getD_eq_getElem?_getD, List.getElem?_append_left (by simp; omega), List.getElem?_map, List.getElem?_drop, List.getElem?_eq_getElem (by omega)]
 rfl
theorem rot_hi (hr : r ≤ c.length) (hk : k < r) : A (rot c q r) (c.length - r + k) = gb (q - 1) (A c k) := by
 unfold A rot
 rw [List.getD_eq_getElem?_getD, List.getD_eq_getElem?_getD, List.getElem?_append_right (by simp), List.getElem?_map, List.getElem?_take, List.length_map, List.length_drop, show c.length - r + k - (c.length - r) = k by omega, if_pos hk, List.getElem?_eq_getElem (by omega)]
 rfl
structure Cut (c : Card) (q : Int) (r : Nat) : Prop where
 lt : r < c.length
 up : ∀ i, r ≤ i → i < c.length → 3600 * q ≤ ca c i ∧ ca c i < 3600 * q + 3600
 dn : ∀ i, i < r → 3600 * q - 3600 ≤ ca c i ∧ ca c i < 3600 * q
theorem ca_le (hs : Sound c) {i j : Nat} (hij : i ≤ j) (hj : j < c.length) : ca c i ≤ ca c j := by
 have := sq_le hs (d := j - i) (i := i) (by omega)
 rw [show i + (j - i) = j by omega, sq_lt hj, sq_lt (show i < c.length by omega)] at this
 exact this
theorem ca_lt (hs : Sound c) {i j : Nat} (hij : i < j) (hj : j < c.length) : ca c i < ca c j := by
 have a := hs i (by omega)
 rw [cb_sq (by omega), sq_lt (show i + 1 < c.length by omega)] at a
 have := ca_le hs (i := i + 1) (j := j) (by omega) hj
 omega
theorem ca_top (hs : Sound c) {i : Nat} (hi : i < c.length) : ca c i < ca c 0 + 3600 := by
 have a := hs i hi
 have := sq_le hs (d := c.length - (i + 1)) (i := i + 1) (by omega)
 rw [show i + 1 + (c.length - (i + 1)) = c.length by omega, ← cb_sq hi, show sq c c.length = ca c 0 + 3600 from if_pos rfl] at this
 omega
theorem cut_is (hc : Ok c) (hs : Sound c) : ∃ q r, Cut c q r := by
 obtain ⟨Q, hQ⟩ : ∃ Q, Q = ca c 0 / 3600 := ⟨_, rfl⟩
 have h0 : 3600 * Q ≤ ca c 0 ∧ ca c 0 < 3600 * Q + 3600 := by omega
 have go : ∀ d, d ≤ c.length → ∃ r, r ≤ d ∧ (∀ i, i < r → ca c i < 3600 * Q + 3600) ∧ (∀ i, r ≤ i → i < d → 3600 * Q + 3600 ≤ ca c i) := by
  intro d
  induction d with
  | zero => intro _; exact ⟨0, Nat.le_refl _, fun i h => by omega, fun i _ h => by omega⟩
  | succ d ih =>
   intro hd
   obtain ⟨r, r1, r2, r3⟩ := ih (by omega)
   by_cases g : ca c d < 3600 * Q + 3600
   · have er : r = d := by
      refine Classical.byContradiction fun ne => ?_
      have := r3 r (Nat.le_refl _) (by omega)
      have := ca_le hs (i := r) (j := d) (by omega) (by omega)
      omega
     subst er
     refine ⟨r + 1, Nat.le_refl _, fun i h => ?_, fun i _ h => by omega⟩
     by_cases e : i = r
     · rw [e]; exact g
     exact r2 i (by omega)
   refine ⟨r, by omega, r2, fun i a b => ?_⟩
   by_cases e : i = d
   · rw [e]; omega
   exact r3 i a (by omega)
 obtain ⟨r, r1, r2, r3⟩ := go c.length (Nat.le_refl _)
 have lo : ∀ i, i < c.length → 3600 * Q ≤ ca c i ∧ ca c i < 3600 * Q + 7200 := fun i hi => by
  have := ca_le hs (i := 0) (j := i) (Nat.zero_le _) hi
  have := ca_top hs hi
  omega
 by_cases e : r = c.length
 · refine ⟨Q, 0, hc.pos, fun i _ h => ⟨(lo i h).1, r2 i (by omega)⟩, fun i h => by omega⟩
 refine ⟨Q + 1, r, by omega, fun i a h => ?_, fun i h => ?_⟩
 · have := r3 i a h
   have := lo i h
   omega
 have := r2 i h
 have := lo i (by omega)
 omega
theorem B_in (h : i + 1 < c.length) : B c i = A c (i + 1) := if_neg (by omega)
theorem B_end (h : i + 1 = c.length) : B c i = ((A c 0).1 + 3600, (A c 0).2) := if_pos h
theorem rot_seg (ct : Cut c q r) (hk : k < c.length) : ∃ (i : Nat) (w : Int), i < c.length ∧ (w = q ∨ w = q - 1) ∧ A (rot c q r) k = gb w (A c i) ∧ (B (rot c q r) k).1 = cb c i - 3600 * w ∧ (B (rot c q r) k).2 = -(B c i).2 := by
 have rl := @rot_len c r q
 have hr := ct.lt
 have z0 : A (rot c q r) 0 = gb q (A c r) := rot_lo (k := 0) (by omega)
 by_cases h : k + r < c.length
 · refine ⟨r + k, q, by omega, .inl rfl, rot_lo h, ?_⟩
   by_cases h1 : k + 1 + r < c.length
   · have e1 := rot_lo (c := c) (q := q) (r := r) (k := k + 1) h1
     rw [B_in (by omega), e1]
     unfold cb
     rw [B_in (i := r + k) (by omega)]
     exact ⟨rfl, rfl⟩
   unfold cb
   rw [B_end (c := c) (i := r + k) (by omega)]
   by_cases h2 : r = 0
   · subst h2
     rw [B_end (by omega), z0]
     unfold gb
     dsimp only
     exact ⟨by omega, rfl⟩
   have e1 := rot_hi (c := c) (q := q) (r := r) (k := 0) (by omega) (by omega)
   rw [B_in (by omega), show k + 1 = c.length - r + 0 by omega, e1]
   unfold gb
   dsimp only
   exact ⟨by omega, rfl⟩
 have e0 := rot_hi (c := c) (q := q) (r := r) (k := k - (c.length - r)) (by omega) (by omega)
 rw [show c.length - r + (k - (c.length - r)) = k by omega] at e0
 refine ⟨k - (c.length - r), q - 1, by omega, .inr rfl, e0, ?_⟩
 unfold cb
 rw [B_in (i := k - (c.length - r)) (by omega)]
 by_cases h1 : k + 1 < c.length
 · have e1 := rot_hi (c := c) (q := q) (r := r) (k := k - (c.length - r) + 1) (by omega) (by omega)
   rw [show c.length - r + (k - (c.length - r) + 1) = k + 1 by omega] at e1
   rw [B_in (by omega), e1]
   exact ⟨rfl, rfl⟩
 rw [B_end (by omega), z0, show k - (c.length - r) + 1 = r by omega]
 unfold gb
 dsimp only
 exact ⟨by omega, rfl⟩
theorem rot_seg2 (ct : Cut c q r) (hi : i < c.length) : ∃ (k : Nat) (w : Int), k < c.length ∧ A (rot c q r) k = gb w (A c i) ∧ (B (rot c q r) k).1 = cb c i - 3600 * w ∧ (B (rot c q r) k).2 = -(B c i).2 := by
 have rl := @rot_len c r q
 have hr := ct.lt
 have z0 : A (rot c q r) 0 = gb q (A c r) := rot_lo (k := 0) (by omega)
 by_cases h : r ≤ i
 · have e0 := rot_lo (c := c) (q := q) (r := r) (k := i - r) (by omega)
   rw [show r + (i - r) = i by omega] at e0
   refine ⟨i - r, q, by omega, e0, ?_⟩
   unfold cb
   by_cases h1 : i + 1 < c.length
   · have e1 := rot_lo (c := c) (q := q) (r := r) (k := i - r + 1) (by omega)
     rw [B_in (c := rot c q r) (by omega), e1, B_in h1, show r + (i - r + 1) = i + 1 by omega]
     exact ⟨rfl, rfl⟩
   rw [B_end (c := c) (by omega)]
   by_cases h2 : r = 0
   · subst h2
     rw [B_end (by omega), z0]
     unfold gb
     dsimp only
     exact ⟨by omega, rfl⟩
   have e1 := rot_hi (c := c) (q := q) (r := r) (k := 0) (by omega) (by omega)
   rw [B_in (by omega), show i - r + 1 = c.length - r + 0 by omega, e1]
   unfold gb
   dsimp only
   exact ⟨by omega, rfl⟩
 have e0 := rot_hi (c := c) (q := q) (r := r) (k := i) (by omega) (by omega)
 refine ⟨c.length - r + i, q - 1, by omega, e0, ?_⟩
 unfold cb
 rw [B_in (c := c) (i := i) (by omega)]
 by_cases h1 : i + 1 < r
 · have e1 := rot_hi (c := c) (q := q) (r := r) (k := i + 1) (by omega) (by omega)
   rw [B_in (by omega), show c.length - r + i + 1 = c.length - r + (i + 1) by omega, e1]
   exact ⟨rfl, rfl⟩
 rw [B_end (by omega), z0, show i + 1 = r by omega]
 unfold gb
 dsimp only
 exact ⟨by omega, rfl⟩
theorem corr_rot (ct : Cut c q r) : Corr c (rot c q r) := by
 intro i hi
 obtain ⟨k, w, hk, e1, e2, e3⟩ := rot_seg2 ct hi
 exact ⟨k, w, by rw [rot_len]; exact hk, by rw [e1]; rfl, by rw [e1]; rfl, e2, e3⟩
theorem rot_corr (ct : Cut c q r) : Corr (rot c q r) c := by
 intro k hk
 rw [rot_len] at hk
 obtain ⟨i, w, hi, _, e1, e2, e3⟩ := rot_seg ct hk
 have f1 : (A (rot c q r) k).1 = (A c i).1 + (A c i).2 - 3600 * w := by rw [e1]; rfl
 have f2 : (A (rot c q r) k).2 = -(A c i).2 := by rw [e1]; rfl
 refine ⟨i, -w, hi, ?_, by omega, ?_, by omega⟩
 · unfold ca; omega
 unfold cb at e2 ⊢; omega
theorem rot_inc (hs : Sound c) (ct : Cut c q r) {j : Nat} (hkj : k < j) (hj : j < c.length) : (A (rot c q r) k).1 < (A (rot c q r) j).1 := by
 have hr := ct.lt
 by_cases h : j + r < c.length
 · rw [rot_lo (k := k) (by omega), rot_lo h]
   have := ca_lt hs (i := r + k) (j := r + j) (by omega) (by omega)
   unfold gb
   unfold ca at this
   dsimp only
   omega
 have e0 := rot_hi (c := c) (q := q) (r := r) (k := j - (c.length - r)) (by omega) (by omega)
 rw [show c.length - r + (j - (c.length - r)) = j by omega] at e0
 rw [e0]
 by_cases h1 : k + r < c.length
 · rw [rot_lo h1]
   have a := ct.up (r + k) (by omega) (by omega)
   have t := ca_top hs (i := r + k) (by omega)
   have t0 := ca_le hs (i := 0) (j := j - (c.length - r)) (Nat.zero_le _) (by omega)
   unfold gb
   unfold ca at a t t0
   dsimp only
   omega
 have e1 := rot_hi (c := c) (q := q) (r := r) (k := k - (c.length - r)) (by omega) (by omega)
 rw [show c.length - r + (k - (c.length - r)) = k by omega] at e1
 rw [e1]
 have := ca_lt hs (i := k - (c.length - r)) (j := j - (c.length - r)) (by omega) (by omega)
 unfold gb
 unfold ca at this
 dsimp only
 omega
theorem rot_ok (hc : Ok c) (hs : Sound c) (ct : Cut c q r) : Ok (rot c q r) := by
 have hr := ct.lt
 refine ⟨by rw [rot_len]; exact hc.pos, by rw [rot_len]; exact hc.le, fun k hk => ?_, fun k hk => ?_⟩
 · rw [rot_len] at hk
   by_cases h : k + r < c.length
   · rw [rot_lo h]
     have a := ct.up (r + k) (by omega) (by omega)
     have b := hc.rng (r + k) (by omega)
     unfold gb
     unfold ca at a
     dsimp only
     omega
   have e0 := rot_hi (c := c) (q := q) (r := r) (k := k - (c.length - r)) (by omega) (by omega)
   rw [show c.length - r + (k - (c.length - r)) = k by omega] at e0
   rw [e0]
   have a := ct.dn (k - (c.length - r)) (by omega)
   have b := hc.rng (k - (c.length - r)) (by omega)
   unfold gb
   unfold ca at a
   dsimp only
   omega
 rw [rot_len] at hk
 exact rot_inc hs ct (Nat.lt_succ_self k) hk
theorem rot_sound (hc : Ok c) (ct : Cut c q r) : Sound (rot c q r) := by
 intro k hk
 rw [rot_len] at hk
 obtain ⟨i, w, hi, _, e1, e2, e3⟩ := rot_seg ct hk
 have sg := hc.seg hi
 have f1 : (A (rot c q r) k).1 = (A c i).1 + (A c i).2 - 3600 * w := by rw [e1]; rfl
 have f2 : (A (rot c q r) k).2 = -(A c i).2 := by rw [e1]; rfl
 unfold cb at e2 ⊢
 unfold ca
 omega
end
end Go.Proofs.Ythpfffijnkmdgaa.plain
