/- Cards that are moved or turned about: their points, segments, deviations, courses. -/
import Derived.Test.YthpfffijnkmdgaaLY
set_option linter.unusedVariables false
set_option linter.unusedSimpArgs false
set_option maxRecDepth 100000
namespace Go.Proofs.Ythpfffijnkmdgaa.plain
open Go Go.Cl
section
variable {c b : Card} {i j k : Nat} {m m' n p q t u z d : Int} {x y : Rat}
def Pts (c : Card) (z d : Int) : Prop := ∃ (i : Nat) (w : Int), i < c.length ∧ z = (A c i).1 + 3600 * w ∧ d = (A c i).2
theorem pts_at (hi : i < c.length) : Pts c (A c i).1 (A c i).2 := ⟨i, 0, hi, by omega, rfl⟩
theorem pts_turn (w : Int) (h : Pts c z d) : Pts c (z + 3600 * w) d := by
 obtain ⟨i, v, hi, e1, e2⟩ := h
 exact ⟨i, v + w, hi, by omega, e2⟩
theorem pts_B (hc : Ok c) (hi : i < c.length) : Pts c (B c i).1 (B c i).2 := by
 by_cases h : i + 1 = c.length
 · rw [B_end h]; exact ⟨0, 1, hc.pos, by dsimp only; omega, rfl⟩
 rw [B_in (by omega)]; exact pts_at (by omega)
theorem pts_gap (hc : Ok c) (hi : i < c.length) (h : Pts c z d) (lo : (A c i).1 < z) : (B c i).1 ≤ z := by
 obtain ⟨j, w, hj, rfl, rfl⟩ := h
 have ri := hc.rng i hi
 have rj := hc.rng j hj
 have f := hc.first_le hj
 have e := hc.end_le hi
 rcases Int.lt_trichotomy w 0 with g | g | g
 · omega
 · subst g
   have ij : i < j := by
    refine Classical.byContradiction fun hn => ?_
    have := hc.mono (i := j) (k := i - j) (by omega)
    rw [show j + (i - j) = i by omega] at this
    omega
   have := hc.next_le ij hj
   omega
 omega
theorem pts_uniq (hc : Ok c) {d' : Int} (h : Pts c z d) (g : Pts c z d') : d = d' := by
 obtain ⟨j, w, hj, e1, e2⟩ := h
 obtain ⟨k, v, hk, e3, e4⟩ := g
 have rj := hc.rng j hj
 have rk := hc.rng k hk
 have jk : j = k := by
  rcases Nat.lt_trichotomy j k with g | g | g
  · have := hc.mono (i := j) (k := k - j) (by omega)
    rw [show j + (k - j) = k by omega] at this
    omega
  · exact g
  have := hc.mono (i := k) (k := j - k) (by omega)
  rw [show k + (j - k) = j by omega] at this
  omega
 rw [e2, e4, jk]
def Mv (t u : Int) (c b : Card) : Prop := ∀ z d, Pts c z d → Pts b (z + t) (d + u)
def Rv (c b : Card) : Prop := ∀ z d, Pts c z d → Pts b (-z) (-d)
theorem seg_mv (hc : Ok c) (hb : Ok b) (f : Mv t u c b) (g : Mv (-t) (-u) b c) (hi : i < c.length) : ∃ (k : Nat) (w : Int), k < b.length ∧ (A b k).1 = (A c i).1 + t + 3600 * w ∧ (A b k).2 = (A c i).2 + u ∧ (B b k).1 = (B c i).1 + t + 3600 * w ∧ (B b k).2 = (B c i).2 + u := by
 obtain ⟨k, w, hk, e1, e2⟩ := f _ _ (pts_at hi)
 have s1 := hc.seg hi
 have s2 := hb.seg hk
 have p1 := pts_turn (-w) (f _ _ (pts_B hc hi))
 have p2 := pts_turn w (g _ _ (pts_B hb hk))
 have q1 := pts_gap hb hk p1 (by omega)
 have q2 := pts_gap hc hi p2 (by omega)
 have e : (B c i).1 + t + 3600 * -w = (B b k).1 := by omega
 rw [e] at p1
 exact ⟨k, -w, hk, by omega, by omega, by omega, pts_uniq hb (pts_B hb hk) p1⟩
theorem seg_rv (hc : Ok c) (hb : Ok b) (f : Rv c b) (g : Rv b c) (hi : i < c.length) : ∃ (k : Nat) (w : Int), k < b.length ∧ (A b k).1 = 3600 * w - (B c i).1 ∧ (A b k).2 = -(B c i).2 ∧ (B b k).1 = 3600 * w - (A c i).1 ∧ (B b k).2 = -(A c i).2 := by
 obtain ⟨k, w, hk, e1, e2⟩ := f _ _ (pts_B hc hi)
 have s1 := hc.seg hi
 have s2 := hb.seg hk
 have p1 := pts_turn (-w) (f _ _ (pts_at hi))
 have p2 := pts_turn (-w) (g _ _ (pts_B hb hk))
 have q1 := pts_gap hb hk p1 (by omega)
 have q2 : ¬ (A c i).1 < -(B b k).1 + 3600 * -w := fun l => by have := pts_gap hc hi p2 l; omega
 have e : -(A c i).1 + 3600 * -w = (B b k).1 := by omega
 rw [e] at p1
 exact ⟨k, -w, hk, by omega, by omega, by omega, pts_uniq hb (pts_B hb hk) p1⟩
theorem flat_mv (hc : Ok c) (hb : Ok b) (f : Mv t u c b) (g : Mv (-t) (-u) b c) (e : (m' - (m + t + u)) % 3600 = 0) (h : ∃ i, i < c.length ∧ Flat c m i) : ∃ k, k < b.length ∧ Flat b m' k := by
 obtain ⟨i, hi, a1, a2⟩ := h
 obtain ⟨k, w, hk, e1, e2, e3, e4⟩ := seg_mv hc hb f g hi
 refine ⟨k, hk, ?_⟩
 unfold Flat
 unfold ca cb at *
 omega
theorem flat_rv (hc : Ok c) (hb : Ok b) (f : Rv c b) (g : Rv b c) (e : (m' + m) % 3600 = 0) (h : ∃ i, i < c.length ∧ Flat c m i) : ∃ k, k < b.length ∧ Flat b m' k := by
 obtain ⟨i, hi, a1, a2⟩ := h
 obtain ⟨k, w, hk, e1, e2, e3, e4⟩ := seg_rv hc hb f g hi
 refine ⟨k, hk, ?_⟩
 unfold Flat
 unfold ca cb at *
 omega
def Val (c : Card) (x d : Rat) : Prop := ∃ i, Lies c i (norm c x) ∧ d = devAt c i (norm c x)
theorem norm_in (c : Card) (hc : Ok c) (h0 : 0 ≤ x) (h1 : x < ((3600 : Int) : Rat)) : ((A c 0).1 : Rat) ≤ norm c x ∧ norm c x < ((A c 0).1 : Rat) + ((3600 : Int) : Rat) := by
 have r := hc.rng 0 hc.pos
 have a := Rat.intCast_nonneg.2 r.1
 have b := Rat.intCast_lt_intCast.2 r.2.1
 unfold norm
 generalize ((3600 : Int) : Rat) = W at *
 split <;> constructor <;> grind
theorem val_of (hc : Ok c) (h0 : 0 ≤ x) (h1 : x < ((3600 : Int) : Rat)) (l : Lies c i y) {w : Int} (e : y = x + ((3600 * w : Int) : Rat)) : Val c x (devAt c i y) := by
 have t1 := norm_in c hc h0 h1
 have t2 := lies_turn hc l
 obtain ⟨v, ev⟩ := norm_turns c x
 have ey : y = norm c x := same_turn t2.1 t2.2 t1.1 t1.2 (w := w - v) (by
  rw [e, ev]
  have := turns_add (w - v) v
  rw [show w - v + v = w by omega] at this
  grind)
 rw [ey] at l ⊢
 exact ⟨i, l, rfl⟩
theorem val_mv (hc : Ok c) (hb : Ok b) (f : Mv t u c b) (g : Mv (-t) (-u) b c) {e : Rat} (h : Val c x e) (t0 : -3600 ≤ t) (t1 : t ≤ 3600) (h0 : 0 ≤ x) (h1 : x < ((3600 : Int) : Rat)) : Val b (rm (x + (t : Rat))) (e + (u : Rat)) := by
 obtain ⟨i, l, rfl⟩ := h
 obtain ⟨k, w, hk, e1, e2, e3, e4⟩ := seg_mv hc hb f g l.1
 obtain ⟨v1, n1⟩ := norm_turns c x
 have c0 := Rat.intCast_le_intCast.2 t0
 have c1 := Rat.intCast_le_intCast.2 t1
 have rr := rm_rng (x := x + (t : Rat)) (by grind) (by
  have : ((7200 : Int) : Rat) = ((3600 : Int) : Rat) + ((3600 : Int) : Rat) := Rat.intCast_add 3600 3600
  grind)
 obtain ⟨v2, n2⟩ := rm_turns (x + (t : Rat))
 have f1 : ((A b k).1 : Rat) = ((A c i).1 : Rat) + (t : Rat) + ((3600 * w : Int) : Rat) := by rw [e1, Rat.intCast_add, Rat.intCast_add]
 have f2 : ((B b k).1 : Rat) = ((B c i).1 : Rat) + (t : Rat) + ((3600 * w : Int) : Rat) := by rw [e3, Rat.intCast_add, Rat.intCast_add]
 have f3 : ((A b k).2 : Rat) = ((A c i).2 : Rat) + (u : Rat) := by rw [e2, Rat.intCast_add]
 have f4 : ((B b k).2 : Rat) = ((B c i).2 : Rat) + (u : Rat) := by rw [e4, Rat.intCast_add]
 have l2 : Lies b k (norm c x + (t : Rat) + ((3600 * w : Int) : Rat)) := by
  have a := l.2.1
  have b' := l.2.2
  refine ⟨hk, ?_, ?_⟩
  · rw [f1]; grind
  rw [f2]; grind
 have vv := val_of hb rr.1 rr.2 l2 (w := v1 + w - v2) (by
  rw [n1, n2]
  have a := turns_add v1 w
  have a2 := turns_add (v1 + w - v2) v2
  rw [show v1 + w - v2 + v2 = v1 + w by omega] at a2
  grind)
 have ed : devAt b k (norm c x + (t : Rat) + ((3600 * w : Int) : Rat)) = devAt c i (norm c x) + (u : Rat) := by
  obtain ⟨_, _, ey, ed, hL⟩ := seg_t hc l
  obtain ⟨_, _, ez, e2', _⟩ := seg_t hb l2
  have et : tt b k (norm c x + (t : Rat) + ((3600 * w : Int) : Rat)) = tt c i (norm c x) := by
   unfold tt
   rw [f1, f2]
   congr 1 <;> grind
  rw [e2', ed, et, f3, f4]
  grind
 rw [ed] at vv
 exact vv
theorem val_rv (hc : Ok c) (hb : Ok b) (f : Rv c b) (g : Rv b c) {e : Rat} (h : Val c x e) (h0 : 0 ≤ x) (h1 : x < ((3600 : Int) : Rat)) : Val b (rm (-x)) (-e) := by
 obtain ⟨i, l, rfl⟩ := h
 obtain ⟨v1, n1⟩ := norm_turns c x
 have W0 : (0 : Rat) < ((3600 : Int) : Rat) := by decide
 have W1 : ((-3600 : Int) : Rat) = -((3600 : Int) : Rat) := rfl
 have W2 : ((7200 : Int) : Rat) = ((3600 : Int) : Rat) + ((3600 : Int) : Rat) := Rat.intCast_add 3600 3600
 have rr := rm_rng (x := -x) (by grind) (by grind)
 obtain ⟨v2, n2⟩ := rm_turns (-x)
 have neg3 : ∀ a : Int, ((3600 * (-a) : Int) : Rat) = -((3600 * a : Int) : Rat) := fun a => by rw [show 3600 * (-a) = -(3600 * a) by omega, Rat.intCast_neg]
 obtain ⟨t0, t1, ey, ed, hL⟩ := seg_t hc l
 by_cases hz : norm c x = ((A c i).1 : Rat)
 · -- at a point: the segment before
   have tz : tt c i (norm c x) = 0 := by
    unfold tt
    rw [hz, Rat.sub_self, Rat.div_def, Rat.zero_mul]
   have e0 : devAt c i (norm c x) = ((A c i).2 : Rat) := by rw [ed, tz]; grind
   obtain ⟨k, w, hk, a1, a2⟩ := f _ _ (pts_at l.1)
   have sg := hb.seg hk
   have l2 : Lies b k ((A b k).1 : Rat) := ⟨hk, Rat.le_refl, Rat.intCast_lt_intCast.2 sg.1⟩
   have ek : ((A b k).1 : Rat) = -((A c i).1 : Rat) + ((3600 * (-w) : Int) : Rat) := by
    rw [← Rat.intCast_neg, ← Rat.intCast_add]
    congr 1
    omega
   have vv := val_of hb rr.1 rr.2 l2 (w := -w - v1 - v2) (by
    rw [ek, n2, ← hz, n1]
    have a := turns_add (-w - v1 - v2) v2
    rw [show -w - v1 - v2 + v2 = -w - v1 by omega] at a
    have a2 := turns_add (-w - v1) v1
    rw [show -w - v1 + v1 = -w by omega] at a2
    grind)
   have e2 : devAt b k ((A b k).1 : Rat) = ((A b k).2 : Rat) := by
    obtain ⟨_, _, _, q, _⟩ := seg_t hb l2
    have : tt b k ((A b k).1 : Rat) = 0 := by unfold tt; rw [Rat.sub_self, Rat.div_def, Rat.zero_mul]
    rw [q, this]
    grind
   rw [e2] at vv
   rw [e0, ← Rat.intCast_neg, a2]
   exact vv
 obtain ⟨k, w, hk, e1, e2, e3, e4⟩ := seg_rv hc hb f g l.1
 have f1 : ((A b k).1 : Rat) = ((3600 * w : Int) : Rat) - ((B c i).1 : Rat) := by rw [e1, Rat.intCast_sub]
 have f2 : ((B b k).1 : Rat) = ((3600 * w : Int) : Rat) - ((A c i).1 : Rat) := by rw [e3, Rat.intCast_sub]
 have f3 : ((A b k).2 : Rat) = -((B c i).2 : Rat) := by rw [e2, Rat.intCast_neg]
 have f4 : ((B b k).2 : Rat) = -((A c i).2 : Rat) := by rw [e4, Rat.intCast_neg]
 have l2 : Lies b k (((3600 * w : Int) : Rat) - norm c x) := by
  have a := l.2.1
  have b' := l.2.2
  refine ⟨hk, ?_, ?_⟩
  · rw [f1]; grind
  rw [f2]; grind
 have vv := val_of hb rr.1 rr.2 l2 (w := w - v1 - v2) (by
  rw [n1, n2]
  have a := turns_add (w - v1 - v2) v2
  rw [show w - v1 - v2 + v2 = w - v1 by omega] at a
  have a2 := turns_add (w - v1) v1
  rw [show w - v1 + v1 = w by omega] at a2
  grind)
 have ee : devAt b k (((3600 * w : Int) : Rat) - norm c x) = -devAt c i (norm c x) := by
  obtain ⟨_, _, ez, q, hM⟩ := seg_t hb l2
  obtain ⟨T, hT⟩ : ∃ T, T = tt b k (((3600 * w : Int) : Rat) - norm c x) := ⟨_, rfl⟩
  rw [← hT, f3, f4] at q
  rw [← hT, f1, f2] at ez
  rw [q, ed]
  generalize tt c i (norm c x) = s at *
  have es : T = 1 - s := by
   have e0 : (T - (1 - s)) * (((B c i).1 : Rat) - ((A c i).1 : Rat)) = 0 := by grind
   rcases Rat.mul_eq_zero.1 e0 with e | e <;> grind
  rw [es]
  grind
 rw [ee] at vv
 exact vv
theorem val_uniq (hc : Ok c) {d e : Rat} (h : Val c x d) (g : Val c x e) : d = e := by
 obtain ⟨i, l, rfl⟩ := h
 obtain ⟨j, k, rfl⟩ := g
 rw [Lies.uniq hc l k]
def Sol (c : Card) (m : Int) (x : Rat) : Prop := (0 ≤ x ∧ x < ((3600 : Int) : Rat)) ∧ ∃ (d : Rat) (n : Int), Val c x d ∧ (n - m) % 3600 = 0 ∧ x + d = (n : Rat)
theorem sol_mv (hc : Ok c) (hb : Ok b) (f : Mv t u c b) (g : Mv (-t) (-u) b c) (t0 : -3600 ≤ t) (t1 : t ≤ 3600) (e : (m' - (m + t + u)) % 3600 = 0) (h : Sol c m x) : Sol b m' (rm (x + (t : Rat))) := by
 obtain ⟨⟨h0, h1⟩, d, n, v, e1, e2⟩ := h
 have c0 := Rat.intCast_le_intCast.2 t0
 have c1 := Rat.intCast_le_intCast.2 t1
 have rr := rm_rng (x := x + (t : Rat)) (by grind) (by
  have : ((7200 : Int) : Rat) = ((3600 : Int) : Rat) + ((3600 : Int) : Rat) := Rat.intCast_add 3600 3600
  grind)
 obtain ⟨v2, n2⟩ := rm_turns (x + (t : Rat))
 refine ⟨rr, _, n + t + u + 3600 * v2, val_mv hc hb f g v t0 t1 h0 h1, by omega, ?_⟩
 rw [n2, Rat.intCast_add, Rat.intCast_add, Rat.intCast_add]
 grind
theorem sol_rv (hc : Ok c) (hb : Ok b) (f : Rv c b) (g : Rv b c) (e : (m' + m) % 3600 = 0) (h : Sol c m x) : Sol b m' (rm (-x)) := by
 obtain ⟨⟨h0, h1⟩, d, n, v, e1, e2⟩ := h
 have W0 : (0 : Rat) < ((3600 : Int) : Rat) := by decide
 have W1 : ((-3600 : Int) : Rat) = -((3600 : Int) : Rat) := rfl
 have W2 : ((7200 : Int) : Rat) = ((3600 : Int) : Rat) + ((3600 : Int) : Rat) := Rat.intCast_add 3600 3600
 have rr := rm_rng (x := -x) (by grind) (by grind)
 obtain ⟨v2, n2⟩ := rm_turns (-x)
 refine ⟨rr, _, -n + 3600 * v2, val_rv hc hb f g v h0 h1, by omega, ?_⟩
 rw [n2, Rat.intCast_add, Rat.intCast_neg]
 grind
theorem als_sol (hc : Ok c) (m0 : 0 ≤ m) (m1 : m < 3600) (nf : ∀ i, i < c.length → ¬ Flat c m i) : x ∈ als c m c.length 0 ↔ Sol c m x := by
 rw [mem_als]
 constructor
 · rintro ⟨i, n, _, hi, hn, rfl⟩
   obtain ⟨ht, hh⟩ := mem_sol.1 hn
   have hi : i < c.length := by omega
   have sr := sAt_rng hc hi hh
   have pl := place_lies hc hi hh
   obtain ⟨w, ew⟩ := wrap_turns (place c i n)
   rw [← sAt_eq] at ew
   refine ⟨⟨sr.1, sr.2.1⟩, _, n + 3600 * w, ⟨i, by rw [norm_sAt hc hi hh]; exact pl, rfl⟩, ?_, ?_⟩
   · have := (mem_tl ht).1; omega
   rw [norm_sAt hc hi hh, dev_place hc hi hh, ew, Rat.intCast_add]
   grind
 rintro ⟨⟨h0, h1⟩, d, n, ⟨i, l, rfl⟩, e1, e2⟩
 obtain ⟨w, ew⟩ := norm_turns c x
 have ve := val_eq hc l
 obtain ⟨t0, t1, ey, ed, hL⟩ := seg_t hc l
 obtain ⟨N, hN⟩ : ∃ N : Int, N = n + 3600 * w := ⟨_, rfl⟩
 have eN : norm c x + devAt c i (norm c x) = (N : Rat) := by rw [hN, Rat.intCast_add]; grind
 rw [eN] at ve
 have hit : Hit (ca c i) (cb c i) N := by
  rcases Int.lt_trichotomy (ca c i) (cb c i) with g | g | g
  · have gq := Rat.intCast_lt_intCast.2 g
    left
    have u1 := Rat.mul_nonneg t0 (show 0 ≤ ((cb c i : Int) : Rat) - ((ca c i : Int) : Rat) by grind)
    have u2 := Rat.mul_pos (show 0 < 1 - tt c i (norm c x) by grind) (show 0 < ((cb c i : Int) : Rat) - ((ca c i : Int) : Rat) by grind)
    exact ⟨Rat.intCast_le_intCast.1 (by grind), Rat.intCast_lt_intCast.1 (by grind)⟩
  · exfalso
    refine nf i l.1 ⟨g, ?_⟩
    rw [← g] at ve
    have : (N : Rat) = ((ca c i : Int) : Rat) := by grind
    have := Rat.intCast_inj.1 this
    omega
  have gq := Rat.intCast_lt_intCast.2 g
  right
  have u1 := Rat.mul_nonneg t0 (show 0 ≤ ((ca c i : Int) : Rat) - ((cb c i : Int) : Rat) by grind)
  have u2 := Rat.mul_pos (show 0 < 1 - tt c i (norm c x) by grind) (show 0 < ((ca c i : Int) : Rat) - ((cb c i : Int) : Rat) by grind)
  exact ⟨Rat.intCast_lt_intCast.1 (by grind), Rat.intCast_le_intCast.1 (by grind)⟩
 have en := hc.ends l.1
 have htl : N ∈ tl m := by
  have b1 : -900 ≤ N ∧ N < 8100 := by unfold Hit at hit; omega
  have : N = m - 7200 ∨ N = m - 3600 ∨ N = m ∨ N = m + 3600 ∨ N = m + 7200 := by omega
  unfold tl
  simp only [List.mem_cons, List.not_mem_nil, or_false]
  exact this
 refine ⟨i, N, Nat.zero_le _, by have := l.1; omega, mem_sol.2 ⟨htl, hit⟩, ?_⟩
 have pl := place_lies hc l.1 hit
 have pe := val_eq hc pl
 rw [dev_place hc l.1 hit] at pe
 obtain ⟨_, _, py, _, _⟩ := seg_t hc pl
 have hcc : ca c i ≠ cb c i := by unfold Hit at hit; omega
 have ep : place c i N = norm c x := by
  generalize tt c i (place c i N) = s at *
  generalize tt c i (norm c x) = s' at *
  have e0 : (s - s') * (((cb c i : Int) : Rat) - ((ca c i : Int) : Rat)) = 0 := by grind
  rcases Rat.mul_eq_zero.1 e0 with e | e
  · have : s = s' := by grind
    rw [py, ey, this]
  exfalso
  have : ((cb c i : Int) : Rat) = ((ca c i : Int) : Rat) := by grind
  have := Rat.intCast_inj.1 this
  omega
 rw [sAt_eq, ep]
 obtain ⟨v, ev⟩ := wrap_turns (norm c x)
 have yr : 0 ≤ norm c x ∧ norm c x < ((7200 : Int) : Rat) := by
  obtain ⟨p1, p2, p3, p4⟩ := place_rng hc l.1 hit
  rw [← ep]
  exact ⟨p1, p4⟩
 have wr := wrap_rng yr.1 yr.2
 refine same_turn (a := 0) (w := -(v + w)) h0 (by grind) wr.1 (by grind) ?_
 rw [ev, ew]
 have a1 := turns_add w v
 have a2 := turns_add (-(v + w)) (w + v)
 rw [show -(v + w) + (w + v) = 0 by omega] at a2
 have a3 : ((3600 * 0 : Int) : Rat) = 0 := rfl
 grind
end
end Go.Proofs.Ythpfffijnkmdgaa.plain
