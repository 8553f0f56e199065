/- CardGreater: the plain law. -/
import Derived.Test.YthpfffijnkmdgaaLZ
import Derived.Test.YthpfffijnkmdgaaG13
set_option linter.unusedVariables false
set_option linter.unusedSimpArgs false
set_option maxRecDepth 100000
namespace Go.Proofs.Ythpfffijnkmdgaa.plain
open Go Go.Cl
section
variable {c b : Card} {i j k : Nat} {m m' n p q t u z d h : Int} {x y : Rat}
theorem place_inj (hc : Ok c) (hi : i < c.length) {k : Int} (h : Hit (ca c i) (cb c i) n) (g : Hit (ca c i) (cb c i) k) (e : place c i n = place c i k) : n = k := by
 have s := hc.seg hi
 have hd : cb c i - ca c i ≠ 0 := by unfold Hit at h; omega
 unfold place at e
 have e2 : part c i n = part c i k := by grind
 unfold part at e2
 have e3 := (Rat.divInt_eq_divInt_iff hd hd).1 e2
 have e4 := Int.mul_eq_mul_right_iff hd |>.1 e3
 have e5 := Int.mul_eq_mul_right_iff (show (B c i).1 - (A c i).1 ≠ 0 by omega) |>.1 e4
 omega
theorem sAt_inj (hc : Ok c) (hi : i < c.length) (hj : j < c.length) {k : Int} (h : Hit (ca c i) (cb c i) n) (g : Hit (ca c j) (cb c j) k) (e : sAt c i n = sAt c j k) : i = j ∧ n = k := by
 have e1 : place c i n = place c j k := by rw [← norm_sAt hc hi h, ← norm_sAt hc hj g, e]
 have l1 := place_lies hc hi h
 have l2 := place_lies hc hj g
 rw [e1] at l1
 have ij := Lies.uniq hc l1 l2
 subst ij
 exact ⟨rfl, place_inj hc hi h g e1⟩
theorem tl_nodup : (tl m).Nodup := by
 unfold tl
 simp only [List.nodup_cons, List.mem_cons, List.not_mem_nil, or_false, List.nodup_nil, and_true, not_false_eq_true]
 omega
theorem als_nodup (hc : Ok c) : ∀ d v, v + d ≤ c.length → (als c m d v).Nodup := by
 intro d
 induction d with
 | zero => intro v _; exact List.nodup_nil
 | succ d ih =>
  intro v hv
  rw [als, List.nodup_append]
  refine ⟨?_, ih (v + 1) (by omega), fun a ha b hb e => ?_⟩
  · have hs : (sol c m v).Nodup := List.Pairwise.filter _ tl_nodup
    rw [List.nodup_iff_pairwise_ne, List.pairwise_map]
    refine List.Pairwise.imp_of_mem ?_ (List.nodup_iff_pairwise_ne.1 hs)
    intro a b ha hb hne e
    exact hne (sAt_inj hc (by omega) (by omega) (mem_sol.1 ha).2 (mem_sol.1 hb).2 e).2
  obtain ⟨p, hp, ea⟩ := List.mem_map.1 ha
  obtain ⟨i, q, h1, h2, hq, eb⟩ := mem_als.1 hb
  have := (sAt_inj hc (by omega : v < c.length) (by omega : i < c.length) (mem_sol.1 hp).2 (mem_sol.1 hq).2 (by rw [ea, e, eb])).1
  omega
theorem len_le {l l' : List Rat} (f : Rat → Rat) (nd : l.Nodup) (im : ∀ x ∈ l, f x ∈ l') (inj : ∀ x ∈ l, ∀ y ∈ l, f x = f y → x = y) : l.length ≤ l'.length := by
 rw [← List.length_map f]
 refine List.Nodup.length_le_of_subset ?_ fun y hy => ?_
 · rw [List.nodup_iff_pairwise_ne, List.pairwise_map]
   refine List.Pairwise.imp_of_mem ?_ (List.nodup_iff_pairwise_ne.1 nd)
   intro a b ha hb hne e
   exact hne (inj a ha b hb e)
 obtain ⟨x, hx, rfl⟩ := List.mem_map.1 hy
 exact im x hx
def Asc (l : Card) : Prop := l.Pairwise fun a b => a.1 < b.1
theorem ins_loop {l : Card} (hl : l.length ≤ 1000) (h d : Int) : ∀ (e v : Nat), v + e = l.length → ∃ r : Nat, v ≤ r ∧ r ≤ l.length ∧ F48l0 l h d v = some (r : Int) ∧ (∀ i, v ≤ i → i < r → (A l i).1 < h) ∧ (r < l.length → h ≤ (A l r).1) := by
 intro e
 induction e with
 | zero =>
  intro v hd
  refine ⟨v, Nat.le_refl _, by omega, ?_, fun i a b => by omega, fun g => by omega⟩
  rw [F48l0, if_neg (by simp; omega)]
  rfl
 | succ e ih =>
  intro v hd
  have hlt : v < l.length := by omega
  rw [F48l0, if_pos (by simp; omega), if_pos ⟨by omega, by omega⟩, w64_up (by omega)]
  simp only [Option.bind_eq_bind, Option.bind_some, show ((v : Int)).toNat = v from rfl]
  rw [show l.getD v (0, 0) = A l v from rfl]
  by_cases g : (A l v).1 < h
  · rw [if_pos (by simpa using g)]
    obtain ⟨r, r1, r2, r3, r4, r5⟩ := ih (v + 1) (by omega)
    refine ⟨r, by omega, r2, r3, fun i a b => ?_, r5⟩
    by_cases e : i = v
    · rw [e]; exact g
    exact r4 i (by omega) b
  rw [if_neg (by simpa using g)]
  exact ⟨v, Nat.le_refl _, by omega, rfl, fun i a b => by omega, fun _ => by omega⟩
theorem ins {l : Card} (hl : l.length ≤ 1000) (hA : Asc l) (h d : Int) (new : ∀ p ∈ l, p.1 ≠ h) : ∃ l', F48 l h d = some l' ∧ l'.Perm ((h, d) :: l) ∧ Asc l' := by
 obtain ⟨r, _, r2, r3, r4, r5⟩ := ins_loop hl h d l.length 0 (by omega)
 have r3' : F48l0 l h d 0 = some (r : Int) := r3
 refine ⟨l.take r ++ [(h, d)] ++ l.drop r, ?_, ?_, ?_⟩
 · unfold F48
   rw [r3']
   simp only [Option.bind_eq_bind, Option.bind_some, show ((r : Int)).toNat = r from rfl]
   rw [if_pos ⟨by omega, by omega⟩, if_pos (by simp; omega), if_pos (by simp; omega), if_pos (by simp; omega)]
 · rw [List.append_assoc]
   refine List.perm_middle.trans ?_
   show ((h, d) :: (l.take r ++ l.drop r)).Perm ((h, d) :: l)
   rw [List.take_append_drop]
 have lo : ∀ a ∈ l.take r, a.1 < h := fun a ha => by
  obtain ⟨i, hi, rfl⟩ := List.getElem_of_mem ha
  rw [List.length_take] at hi
  rw [List.getElem_take]
  have := r4 i (Nat.zero_le _) (by omega)
  rwa [show A l i = l[i] from cons_get _ (by omega)] at this
 have hi : ∀ a ∈ l.drop r, h < a.1 := fun a ha => by
  have nw := new a (List.mem_of_mem_drop ha)
  obtain ⟨i, hi, rfl⟩ := List.getElem_of_mem ha
  rw [List.length_drop] at hi
  rw [List.getElem_drop] at nw ⊢
  have r6 := r5 (by omega)
  rw [show A l r = l[r] from cons_get _ (by omega)] at r6
  by_cases e : i = 0
  · subst e
    simp only [Nat.add_zero] at nw ⊢
    omega
  have := List.pairwise_iff_getElem.1 hA r (r + i) (by omega) (by omega) (by omega)
  omega
 unfold Asc
 rw [List.pairwise_append, List.pairwise_append]
 refine ⟨⟨List.Pairwise.sublist (List.take_sublist r l) hA, List.pairwise_singleton _ _, fun a ha b hb => ?_⟩, List.Pairwise.sublist (List.drop_sublist r l) hA, fun a ha b hb => ?_⟩
 · rw [List.mem_singleton.1 hb]; exact lo a ha
 rcases List.mem_append.1 ha with g | g
 · have := lo a g; have := hi b hb; omega
 rw [List.mem_singleton.1 g]; exact hi b hb
def ft (t : Int) (p : Pt) : Pt := ((p.1 + t) % 3600, p.2)
def fm (p : Pt) : Pt := ((3600 - p.1) % 3600, -p.2)
def fg (n : Int) (p : Pt) : Pt := (p.1, p.2 + n)
theorem great_loop (hr : Rose c) (hc : Ok c) (p0 : List (Int × Int)) {p2 p3 p4 : Int} (ht : Int.tmod (w64 p3) 3600 = t) (t0 : 0 ≤ t) (t1 : t < 3600) (hn : Int.tmod (w64 p4) 80 = n) (n0 : 0 ≤ n) (n1 : n < 80) : ∀ (e v : Nat) (X Y Z : Card), v + e = c.length → X = (c.take v).map (fg n) → Y.Perm ((c.take v).map (ft t)) → Asc Y → Z.Perm ((c.take v).map fm) → Asc Z →
 ∃ Y' Z', F13l0 p0 p2 p3 p4 c X Y Z v = some (c.map (fg n), Y', Z') ∧ Y'.Perm (c.map (ft t)) ∧ Asc Y' ∧ Z'.Perm (c.map fm) ∧ Asc Z' := by
 have hl := hr.le
 intro e
 induction e with
 | zero =>
  intro v X Y Z hd hX hY aY hZ aZ
  rw [List.take_of_length_le (by omega)] at hX hY hZ
  refine ⟨Y, Z, ?_, hY, aY, hZ, aZ⟩
  rw [F13l0, if_neg (by simp; omega), hX]
 | succ e ih =>
  intro v X Y Z hd hX hY aY hZ aZ
  have hlt : v < c.length := by omega
  have av : A c v = c[v] := cons_get _ hlt
  have rg := hc.rng v hlt
  have pt := hr.pts v hlt
  have lX : X.length = v := by rw [hX, List.length_map, List.length_take]; omega
  have lY : Y.length = v := by rw [hY.length_eq, List.length_map, List.length_take]; omega
  have lZ : Z.length = v := by rw [hZ.length_eq, List.length_map, List.length_take]; omega
  have before : ∀ p ∈ c.take v, 0 ≤ p.1 ∧ p.1 < (A c v).1 := fun p hp => by
   obtain ⟨j, hj, rfl⟩ := List.getElem_of_mem hp
   rw [List.length_take] at hj
   rw [List.getElem_take]
   have aj : A c j = c[j] := cons_get _ (by omega)
   have := hc.mono (i := j) (k := v - j) (by omega)
   rw [show j + (v - j) = v by omega, aj] at this
   have := hc.rng j (by omega)
   rw [aj] at this
   omega
  have newY : ∀ p ∈ Y, p.1 ≠ ((A c v).1 + t) % 3600 := fun p hp => by
   obtain ⟨a, ha, rfl⟩ := List.mem_map.1 (hY.mem_iff.1 hp)
   have := before a ha
   unfold ft
   dsimp only
   omega
  have newZ : ∀ p ∈ Z, p.1 ≠ (3600 - (A c v).1) % 3600 := fun p hp => by
   obtain ⟨a, ha, rfl⟩ := List.mem_map.1 (hZ.mem_iff.1 hp)
   have := before a ha
   unfold fm
   dsimp only
   omega
  obtain ⟨Y', y1, y2, y3⟩ := ins (l := Y) (by omega) aY (((A c v).1 + t) % 3600) (A c v).2 newY
  obtain ⟨Z', z1, z2, z3⟩ := ins (l := Z) (by omega) aZ ((3600 - (A c v).1) % 3600) (-(A c v).2) newZ
  rw [F13l0, if_pos (by simp; omega), if_pos ⟨by omega, by omega⟩, w64_up (by omega), ht, hn]
  simp only [Option.bind_eq_bind, Option.bind_some, show ((v : Int)).toNat = v from rfl]
  rw [show c.getD v (0, 0) = A c v from rfl, if_pos (by omega), w64_in (x := (A c v).1 + t) (by omega) (by omega), w64_in (x := 3600 - (A c v).1) (by omega) (by omega), w64_in (x := 0 - (A c v).2) (by omega) (by omega), w64_in (x := (A c v).2 + n) (by omega) (by omega), Int.tmod_eq_emod_of_nonneg (show 0 ≤ (A c v).1 + t by omega), Int.tmod_eq_emod_of_nonneg (show 0 ≤ 3600 - (A c v).1 by omega), show 0 - (A c v).2 = -(A c v).2 by omega, y1, Option.bind_some, z1, Option.bind_some]
  have tk : c.take (v + 1) = c.take v ++ [A c v] := by rw [av]; exact List.take_succ_eq_append_getElem hlt
  refine ih (v + 1) _ _ _ (by omega) ?_ ?_ y3 ?_ z3
  · rw [tk, List.map_append, ← hX]; rfl
  · rw [tk, List.map_append]
    exact y2.trans ((List.Perm.cons _ hY).trans (List.perm_append_singleton _ _).symm)
  rw [tk, List.map_append]
  exact z2.trans ((List.Perm.cons _ hZ).trans (List.perm_append_singleton _ _).symm)
theorem ok_perm {f : Pt → Pt} {T : Card} (hc : Ok c) (hp : T.Perm (c.map f)) (hA : Asc T) (hf : ∀ p ∈ c, 0 ≤ (f p).1 ∧ (f p).1 < 3600 ∧ -900 ≤ (f p).2 ∧ (f p).2 ≤ 900) : Ok T := by
 have hl : T.length = c.length := by rw [hp.length_eq, List.length_map]
 refine ⟨by rw [hl]; exact hc.pos, by rw [hl]; exact hc.le, fun i hi => ?_, fun i hi => ?_⟩
 · have ai : A T i = T[i] := cons_get _ hi
   obtain ⟨p, h1, h2⟩ := List.mem_map.1 (hp.mem_iff.1 (List.getElem_mem hi))
   rw [ai, ← h2]
   exact hf p h1
 have ai : A T i = T[i] := cons_get _ (by omega)
 have aj : A T (i + 1) = T[i + 1] := cons_get _ hi
 rw [ai, aj]
 exact List.pairwise_iff_getElem.1 hA i (i + 1) (by omega) hi (by omega)
theorem pts_mem : Pts c z d ↔ ∃ p ∈ c, ∃ w : Int, z = p.1 + 3600 * w ∧ d = p.2 := by
 constructor
 · rintro ⟨i, w, hi, e1, e2⟩
   have ai : A c i = c[i] := cons_get _ hi
   rw [ai] at e1 e2
   exact ⟨c[i], List.getElem_mem hi, w, e1, e2⟩
 rintro ⟨p, hp, w, e1, e2⟩
 obtain ⟨i, hi, rfl⟩ := List.getElem_of_mem hp
 have ai : A c i = c[i] := cons_get _ hi
 exact ⟨i, w, hi, by rw [ai]; exact e1, by rw [ai]; exact e2⟩
theorem mv_turned {T : Card} (hp : T.Perm (c.map (ft t))) : Mv t 0 c T ∧ Mv (-t) (-0) T c := by
 constructor
 · intro z d g
   obtain ⟨p, h1, w, e1, e2⟩ := pts_mem.1 g
   refine pts_mem.2 ⟨ft t p, hp.mem_iff.2 (List.mem_map_of_mem h1), w + (p.1 + t) / 3600, ?_, ?_⟩
   · unfold ft; dsimp only; omega
   unfold ft; dsimp only; omega
 intro z d g
 obtain ⟨a, h1, w, e1, e2⟩ := pts_mem.1 g
 obtain ⟨p, h2, rfl⟩ := List.mem_map.1 (hp.mem_iff.1 h1)
 unfold ft at e1 e2
 dsimp only at e1 e2
 exact pts_mem.2 ⟨p, h2, w - (p.1 + t) / 3600, by omega, by omega⟩
theorem mv_great : Mv 0 n c (c.map (fg n)) ∧ Mv (-0) (-n) (c.map (fg n)) c := by
 constructor
 · intro z d g
   obtain ⟨p, h1, w, e1, e2⟩ := pts_mem.1 g
   exact pts_mem.2 ⟨fg n p, List.mem_map_of_mem h1, w, by unfold fg; dsimp only; omega, by unfold fg; dsimp only; omega⟩
 intro z d g
 obtain ⟨a, h1, w, e1, e2⟩ := pts_mem.1 g
 obtain ⟨p, h2, rfl⟩ := List.mem_map.1 h1
 unfold fg at e1 e2
 dsimp only at e1 e2
 exact pts_mem.2 ⟨p, h2, w, by omega, by omega⟩
theorem rv_minus {T : Card} (hp : T.Perm (c.map fm)) : Rv c T ∧ Rv T c := by
 constructor
 · intro z d g
   obtain ⟨p, h1, w, e1, e2⟩ := pts_mem.1 g
   refine pts_mem.2 ⟨fm p, hp.mem_iff.2 (List.mem_map_of_mem h1), -w - 1 + (3600 - p.1) / 3600, ?_, ?_⟩
   · unfold fm; dsimp only; omega
   unfold fm; dsimp only; omega
 intro z d g
 obtain ⟨a, h1, w, e1, e2⟩ := pts_mem.1 g
 obtain ⟨p, h2, rfl⟩ := List.mem_map.1 (hp.mem_iff.1 h1)
 unfold fm at e1 e2
 dsimp only at e1 e2
 exact pts_mem.2 ⟨p, h2, -w - 1 + (3600 - p.1) / 3600, by omega, by omega⟩
theorem F24_cases (hc : Ok c) (hr : c.length ≤ 5) (m0 : 0 ≤ m) (m1 : m < 3600) : ((∃ i, i < c.length ∧ Flat c m i) ∧ F24 c m = some ([], 16)) ∨ ((∀ i, i < c.length → ¬ Flat c m i) ∧ ∃ S : List Rat, F24 c m = some (S.map fr, 0) ∧ S.Perm (als c m c.length 0) ∧ S.Pairwise (· ≤ ·)) := by
 by_cases h : ∃ i, i < c.length ∧ Flat c m i
 · exact .inl ⟨h, F24_flat hc m0 m1 h⟩
 have nf : ∀ i, i < c.length → ¬ Flat c m i := fun i hi g => h ⟨i, hi, g⟩
 obtain ⟨S, f, _, p, s⟩ := F24_eq hc m0 m1 nf (by have := als_short hc m0 m1 c.length 0 (by omega); omega)
 exact .inr ⟨nf, S, f, p, s⟩
theorem F17_val (hc : Ok c) (m0 : 0 ≤ m) (m1 : m < 3600) : ∃ d : Rat, F17 c m = some (fr d, 0) ∧ Val c (m : Rat) d ∧ d.num.natAbs ≤ 900 * 3600 := by
 have hcl := hc.le
 have h0 : (0 : Rat) ≤ ((m : Int) : Rat) := Rat.intCast_nonneg.2 m0
 have h1 : ((m : Int) : Rat) < ((3600 : Int) : Rat) := Rat.intCast_lt_intCast.2 m1
 obtain ⟨j, l, f⟩ := F54_eq hc (x := (m : Rat)) (M := 1) (Nat.le_refl _) (by omega) h0 h1
 have dn := dev_den (y := norm c (m : Rat)) hc l.1
 rw [norm_den, Rat.den_intCast] at dn
 have r1 := hc.rng j l.1
 have sg := hc.seg l.1
 have dr := dev_rng hc l (K := 900) ⟨by omega, by omega⟩ ⟨by omega, by omega⟩
 have nm := num_le (K := 900) dr.1 dr.2
 refine ⟨_, ?_, ⟨j, l, rfl⟩, Nat.le_trans nm (Nat.mul_le_mul_left _ (by omega))⟩
 unfold F17
 rw [F22_eq (by omega), ck_of hc]
 simp only [Option.bind_eq_bind, Option.bind_some, bne_self_eq_false, Bool.false_eq_true, if_false]
 rw [F53_eq, decide_eq_true ⟨m0, m1⟩]
 simp only [Option.bind_some, Bool.not_true, Bool.false_eq_true, if_false]
 rw [F55_eq, Option.bind_some]
 dsimp only
 rw [show F54 c m 1 = _ from f]
 rfl
theorem rm_int {s r : Int} (h0 : -3600 ≤ s) (h1 : s < 7200) (e : (s - r) % 3600 = 0) (r0 : 0 ≤ r) (r1 : r < 3600) : rm (s : Rat) = (r : Rat) := by
 have a := Rat.intCast_le_intCast.2 h0
 have b := Rat.intCast_lt_intCast.2 h1
 have rr := rm_rng (x := (s : Rat)) a b
 obtain ⟨w, ew⟩ := rm_turns (s : Rat)
 obtain ⟨v, ev⟩ : ∃ v, s - r = 3600 * v := Int.dvd_of_emod_eq_zero e
 have c0 := Rat.intCast_nonneg.2 r0
 have c1 := Rat.intCast_lt_intCast.2 r1
 refine same_turn (a := 0) (w := v + w) rr.1 (by grind) c0 (by grind) ?_
 rw [ew, ← turns_add]
 have : (s : Rat) = (r : Rat) + ((3600 * v : Int) : Rat) := by rw [← Rat.intCast_add]; congr 1; omega
 rw [this]
 grind
theorem rm_self (h0 : 0 ≤ x) (h1 : x < ((3600 : Int) : Rat)) : rm x = x := by
 unfold rm wrap
 rw [if_neg (Rat.not_lt.2 h0), if_pos h1]
theorem turn_inj {f : Rat → Rat} (hf : (∃ s : Rat, ∀ x, f x = rm (x + s)) ∨ ∀ x, f x = rm (-x)) (h0 : 0 ≤ x ∧ x < ((3600 : Int) : Rat)) (h1 : 0 ≤ y ∧ y < ((3600 : Int) : Rat)) (e : f x = f y) : x = y := by
 rcases hf with ⟨s, hf⟩ | hf
 · rw [hf, hf] at e
   obtain ⟨w1, e1⟩ := rm_turns (x + s)
   obtain ⟨w2, e2⟩ := rm_turns (y + s)
   refine same_turn (a := 0) (w := w2 - w1) h0.1 (by have := h0.2; grind) h1.1 (by have := h1.2; grind) ?_
   have a := turns_add (w2 - w1) w1
   rw [show w2 - w1 + w1 = w2 by omega] at a
   grind
 rw [hf, hf] at e
 obtain ⟨w1, e1⟩ := rm_turns (-x)
 obtain ⟨w2, e2⟩ := rm_turns (-y)
 refine same_turn (a := 0) (w := w1 - w2) h0.1 (by have := h0.2; grind) h1.1 (by have := h1.2; grind) ?_
 have a := turns_add (w1 - w2) w2
 rw [show w1 - w2 + w2 = w1 by omega] at a
 grind
theorem als_in (hc : Ok c) (h : x ∈ als c m c.length 0) : 0 ≤ x ∧ x < ((3600 : Int) : Rat) ∧ x.den ≤ 5400 := by
 obtain ⟨i, n, _, hi, hn, rfl⟩ := mem_als.1 h
 exact sAt_rng hc (by omega) (mem_sol.1 hn).2
theorem F28_eq {a : List (Int × Int)} (ha : a.length ≤ 1000) : F28 a a = some true := by
 have go : ∀ (d v : Nat), v + d = a.length → F28l0 a a v = some (.inr ()) := by
  intro d
  induction d with
  | zero => intro v hd; rw [F28l0, if_neg (by simp; omega)]
  | succ d ih =>
   intro v hd
   have hlt : v < a.length := by omega
   rw [F28l0, if_pos (by simp; omega), if_pos ⟨by omega, by omega⟩, w64_up (by omega)]
   simp only [Option.bind_eq_bind, Option.bind_some]
   rw [if_pos ⟨by omega, by omega⟩]
   simp only [beq_self_eq_true, Bool.and_self, Bool.not_true, Bool.false_eq_true, if_false]
   exact ih (v + 1) (by omega)
 have f : F28l0 a a 0 = some (.inr ()) := go a.length 0 (by omega)
 unfold F28
 rw [if_neg (by simp), f]
 rfl
def In (x : Rat) : Prop := 0 ≤ x ∧ x < ((3600 : Int) : Rat) ∧ x.den ≤ 5400
theorem num_in (h : In x) : 0 ≤ x.num ∧ x.num < 3600 * 5400 := by
 have p := den_pos x
 have a := Rat.num_nonneg.2 h.1
 have b := lt_int.1 h.2.1
 have c := h.2.2
 omega
theorem F42_some {N D t : Int} (h0 : 0 < D) (h1 : D ≤ 100000000000) : ∃ r, F42 N D t = some r := by
 unfold F42
 rw [if_neg (by rw [w64_in (by omega) (by omega)]; omega)]
 exact ⟨_, rfl⟩
theorem lead_sub (hx : In x) (hy : In y) {t : Int} (t0 : 0 ≤ t) (t1 : t < 3600) : ∃ r, F42 (w64 (w64 ((fr x).1 * (fr y).2) - w64 ((fr y).1 * (fr x).2))) (w64 ((fr x).2 * (fr y).2)) (w64 (0 - t)) = some r ∧ ((∃ k : Int, x - y = (k : Rat) ∧ (k + t) % 3600 = 0) → r = true) := by
 have px := den_pos x; have py := den_pos y
 have nx := num_in hx; have ny := num_in hy
 have dx := hx.2.2; have dy := hy.2.2
 have m1 : (x.num * (y.den : Int)).natAbs ≤ 3600 * 5400 * 5400 := by rw [Int.natAbs_mul]; exact Nat.mul_le_mul (by omega) (by omega)
 have m2 : (y.num * (x.den : Int)).natAbs ≤ 3600 * 5400 * 5400 := by rw [Int.natAbs_mul]; exact Nat.mul_le_mul (by omega) (by omega)
 have m3 : ((x.den : Int) * (y.den : Int)).natAbs ≤ 5400 * 5400 := by rw [Int.natAbs_mul]; exact Nat.mul_le_mul (by omega) (by omega)
 have m4 : 0 < (x.den : Int) * (y.den : Int) := Int.mul_pos px py
 show ∃ r, F42 (w64 (w64 (x.num * (y.den : Int)) - w64 (y.num * (x.den : Int)))) (w64 ((x.den : Int) * (y.den : Int))) (w64 (0 - t)) = some r ∧ _
 rw [w64_in (x := x.num * (y.den : Int)) (by omega) (by omega), w64_in (x := y.num * (x.den : Int)) (by omega) (by omega), w64_in (x := x.num * (y.den : Int) - y.num * (x.den : Int)) (by omega) (by omega), w64_in (x := (x.den : Int) * (y.den : Int)) (by omega) (by omega), w64_in (x := 0 - t) (by omega) (by omega)]
 obtain ⟨r, hr⟩ := F42_some (N := x.num * (y.den : Int) - y.num * (x.den : Int)) (t := 0 - t) m4 (by omega)
 refine ⟨r, hr, fun ⟨k, e, ek⟩ => ?_⟩
 have cr : x.num * (y.den : Int) + -y.num * (x.den : Int) = k * ((x.den : Int) * (y.den : Int)) := sum_cross (a := x) (b := -y) (by rw [← e]; grind)
 have k1 : -3600 < k := by
  have : ((-3600 : Int) : Rat) < (k : Rat) := by
   have a := hx.1; have b := hy.2.1
   have W1 : ((-3600 : Int) : Rat) = -((3600 : Int) : Rat) := rfl
   grind
  exact Rat.intCast_lt_intCast.1 this
 have k2 : k < 3600 := by
  have : (k : Rat) < ((3600 : Int) : Rat) := by
   have a := hx.2.1; have b := hy.1
   grind
  exact Rat.intCast_lt_intCast.1 this
 have := F42_lead (N := x.num * (y.den : Int) - y.num * (x.den : Int)) (t := 0 - t) (k := k) m4 (by rw [← cr, Int.neg_mul]; omega) (by omega) (by omega) (by omega) (by omega)
 rw [hr] at this
 exact Option.some.inj this
theorem lead_add (hx : In x) (hy : In y) : ∃ r, F42 (w64 (w64 ((fr x).1 * (fr y).2) + w64 ((fr y).1 * (fr x).2))) (w64 ((fr x).2 * (fr y).2)) 0 = some r ∧ ((∃ k : Int, x + y = (k : Rat) ∧ k % 3600 = 0) → r = true) := by
 have px := den_pos x; have py := den_pos y
 have nx := num_in hx; have ny := num_in hy
 have dx := hx.2.2; have dy := hy.2.2
 have m1 : (x.num * (y.den : Int)).natAbs ≤ 3600 * 5400 * 5400 := by rw [Int.natAbs_mul]; exact Nat.mul_le_mul (by omega) (by omega)
 have m2 : (y.num * (x.den : Int)).natAbs ≤ 3600 * 5400 * 5400 := by rw [Int.natAbs_mul]; exact Nat.mul_le_mul (by omega) (by omega)
 have m3 : ((x.den : Int) * (y.den : Int)).natAbs ≤ 5400 * 5400 := by rw [Int.natAbs_mul]; exact Nat.mul_le_mul (by omega) (by omega)
 have m4 : 0 < (x.den : Int) * (y.den : Int) := Int.mul_pos px py
 show ∃ r, F42 (w64 (w64 (x.num * (y.den : Int)) + w64 (y.num * (x.den : Int)))) (w64 ((x.den : Int) * (y.den : Int))) 0 = some r ∧ _
 rw [w64_in (x := x.num * (y.den : Int)) (by omega) (by omega), w64_in (x := y.num * (x.den : Int)) (by omega) (by omega), w64_in (x := x.num * (y.den : Int) + y.num * (x.den : Int)) (by omega) (by omega), w64_in (x := (x.den : Int) * (y.den : Int)) (by omega) (by omega)]
 obtain ⟨r, hr⟩ := F42_some (N := x.num * (y.den : Int) + y.num * (x.den : Int)) (t := 0) m4 (by omega)
 refine ⟨r, hr, fun ⟨k, e, ek⟩ => ?_⟩
 have cr := sum_cross e
 have k1 : 0 ≤ k := by
  have : ((0 : Int) : Rat) ≤ (k : Rat) := by
   have a := hx.1; have b := hy.1
   have W1 : ((0 : Int) : Rat) = 0 := rfl
   grind
  exact Rat.intCast_le_intCast.1 this
 have k2 : k < 7200 := by
  have : (k : Rat) < ((7200 : Int) : Rat) := by
   have a := hx.2.1; have b := hy.2.1
   have W2 : ((7200 : Int) : Rat) = ((3600 : Int) : Rat) + ((3600 : Int) : Rat) := Rat.intCast_add 3600 3600
   grind
  exact Rat.intCast_lt_intCast.1 this
 have := F42_lead (N := x.num * (y.den : Int) + y.num * (x.den : Int)) (t := 0) (k := k) m4 cr (by omega) (by omega) (by omega) (by omega)
 rw [hr] at this
 exact Option.some.inj this
theorem find_loop {p0 : List (Int × Int)} {p3 : Int} {r39 : List (Int × Int) × Int} {w : Int} {T U : List Rat} {e1 e2 : Int} (ht : Int.tmod (w64 p3) 3600 = t) (t0 : 0 ≤ t) (t1 : t < 3600) (hT : ∀ y ∈ T, In y) (hU : ∀ y ∈ U, In y) (hl : U.length = T.length) (hs : T.length ≤ 1000) (hx : In x) : ∀ (e v : Nat) (b1 b2 : Bool), v + e = T.length → (b1 = true ∨ ∃ q, ∃ h : q < T.length, v ≤ q ∧ ∃ k : Int, x - T[q] = (k : Rat) ∧ (k + t) % 3600 = 0) → (b2 = true ∨ ∃ q, ∃ h : q < U.length, v ≤ q ∧ ∃ k : Int, x + U[q] = (k : Rat) ∧ k % 3600 = 0) →
 F13l2 p0 p3 (fr x) r39 (T.map fr, e1) (U.map fr, e2) w b1 b2 v = some (.inr (true, true)) := by
 intro e
 induction e with
 | zero =>
  intro v b1 b2 hd g1 g2
  rw [F13l2, if_neg (by simp; omega)]
  have e1 : b1 = true := by rcases g1 with g | ⟨q, h, a, _⟩; exact g; omega
  have e2 : b2 = true := by rcases g2 with g | ⟨q, h, a, _⟩; exact g; omega
  rw [e1, e2]
 | succ e ih =>
  intro v b1 b2 hd g1 g2
  have hv : v < T.length := by omega
  have hu : v < U.length := by omega
  have iT := hT _ (List.getElem_mem hv)
  have iU := hU _ (List.getElem_mem hu)
  have gT : List.getD (T.map fr) v (0, 0) = fr T[v] := by rw [cons_get _ (by rw [List.length_map]; exact hv), List.getElem_map]
  have gU : List.getD (U.map fr) v (0, 0) = fr U[v] := by rw [cons_get _ (by rw [List.length_map]; exact hu), List.getElem_map]
  obtain ⟨r1, f1, k1⟩ := lead_sub hx iT t0 t1
  obtain ⟨r2, f2, k2⟩ := lead_add hx iU
  rw [F13l2]
  dsimp only
  rw [List.length_map, List.length_map, if_pos (by simp; omega), if_pos ⟨by omega, by omega⟩, w64_up (by omega), ht]
  simp only [Option.bind_eq_bind, Int.toNat_natCast]
  rw [gT, gU]
  simp only [Option.bind_some]
  rw [F40_fit iT.1 iT.2.1 (by have := iT.2.2; omega)]
  simp only [Option.bind_some, Bool.not_true, Bool.false_eq_true, if_false]
  rw [if_pos (show (0 : Int) ≤ (v : Int) ∧ (v : Int) < (U.length : Int) from ⟨by omega, by omega⟩), F40_fit iU.1 iU.2.1 (by have := iU.2.2; omega)]
  simp only [Option.bind_some, Bool.not_true, Bool.false_eq_true, if_false]
  rw [if_pos (show (0 : Int) ≤ (v : Int) ∧ (v : Int) < (U.length : Int) from ⟨by omega, by omega⟩)]
  have F44e : ∀ a b, F44 a b = some (a, b) := fun a b => rfl
  simp only [F44e, Option.bind_some]
  rw [f1, f2]
  simp only [Option.bind_some]
  have m1 : ((if b1 = true then some true else some r1) : Option Bool) = some (b1 || r1) := by cases b1 <;> rfl
  have m2 : ((if b2 = true then some true else some r2) : Option Bool) = some (b2 || r2) := by cases b2 <;> rfl
  rw [m1, m2]
  simp only [Option.bind_some]
  refine ih (v + 1) _ _ (by omega) ?_ ?_
  · rcases g1 with g | ⟨q, h, a, kk⟩
    · left; rw [g]; rfl
    by_cases ev : q = v
    · subst ev
      left
      rw [k1 kk, Bool.or_true]
    exact .inr ⟨q, h, by omega, kk⟩
  rcases g2 with g | ⟨q, h, a, kk⟩
  · left; rw [g]; rfl
  by_cases ev : q = v
  · subst ev
    left
    rw [k2 kk, Bool.or_true]
  exact .inr ⟨q, h, by omega, kk⟩
theorem each_loop {p0 : List (Int × Int)} {p3 : Int} {S T U : List Rat} {e0 e1 e2 : Int} (ht : Int.tmod (w64 p3) 3600 = t) (t0 : 0 ≤ t) (t1 : t < 3600) (hS : ∀ y ∈ S, In y) (hT : ∀ y ∈ T, In y) (hU : ∀ y ∈ U, In y) (hl : U.length = T.length) (hs : T.length ≤ 1000) (hsS : S.length ≤ 1000)
 (g1 : ∀ x ∈ S, ∃ y ∈ T, ∃ k : Int, x - y = (k : Rat) ∧ (k + t) % 3600 = 0) (g2 : ∀ x ∈ S, ∃ y ∈ U, ∃ k : Int, x + y = (k : Rat) ∧ k % 3600 = 0) : ∀ (e v : Nat), v + e = S.length → F13l1 p0 p3 (S.map fr, e0) (T.map fr, e1) (U.map fr, e2) v = some (.inr ()) := by
 intro e
 induction e with
 | zero => intro v hd; rw [F13l1, if_neg (by simp; omega)]
 | succ e ih =>
  intro v hd
  have hv : v < S.length := by omega
  have iS := hS _ (List.getElem_mem hv)
  have gS : List.getD (S.map fr) v (0, 0) = fr S[v] := by rw [cons_get _ (by rw [List.length_map]; exact hv), List.getElem_map]
  obtain ⟨y, hy, k1⟩ := g1 _ (List.getElem_mem hv)
  obtain ⟨y', hy', k2⟩ := g2 _ (List.getElem_mem hv)
  obtain ⟨a, ha, rfl⟩ := List.getElem_of_mem hy
  obtain ⟨b, hb, rfl⟩ := List.getElem_of_mem hy'
  rw [F13l1]
  dsimp only
  rw [List.length_map, if_pos (by simp; omega), if_pos ⟨by omega, by omega⟩, w64_up (by omega)]
  simp only [Option.bind_eq_bind, Int.toNat_natCast]
  rw [gS]
  simp only [Option.bind_some]
  rw [F40_fit iS.1 iS.2.1 (by have := iS.2.2; omega)]
  simp only [Option.bind_some, Bool.not_true, Bool.false_eq_true, if_false]
  have f := find_loop (p0 := p0) (p3 := p3) (r39 := (S.map fr, e0)) (w := (v : Int)) (e1 := e1) (e2 := e2) ht t0 t1 hT hU hl hs iS T.length 0 false false (by omega) (.inr ⟨a, ha, Nat.zero_le _, k1⟩) (.inr ⟨b, hb, Nat.zero_le _, k2⟩)
  rw [show (0 : Int) = ((0 : Nat) : Int) from rfl, f]
  exact ih (v + 1) (by omega)
end
end Go.Proofs.Ythpfffijnkmdgaa.plain
namespace Go.Proofs.Ythpfffijnkmdgaa
open Go Go.Cl plain
theorem plain (p0 : List (Int × Int)) (p1 p2 p3 p4 : Int) (wp0 : ∀ x ∈ p0, (Lit.int .u16 x.1).wf = true ∧ (Lit.int .u16 x.2).wf = true) (wp1 : (Lit.int .u8 p1).wf = true) (wp2 : (Lit.int .u16 p2).wf = true) (wp3 : (Lit.int .u16 p3).wf = true) (wp4 : (Lit.int .u8 p4).wf = true) : F13 p0 p1 p2 p3 p4 = some true := by
 obtain ⟨c, f38, hr, hc⟩ := made (fun x hx => ⟨u16_of (wp0 x hx).1, u16_of (wp0 x hx).2⟩) (u8_of wp1)
 obtain ⟨u0, u1⟩ := u16_of wp2
 obtain ⟨v0, v1⟩ := u16_of wp3
 obtain ⟨x0, x1⟩ := u8_of wp4
 have hl := hr.le
 obtain ⟨a1, m0, m1⟩ := tmod_in (x := p2) (S := 3600) u0 (by decide)
 obtain ⟨a2, t0, t1⟩ := tmod_in (x := p3) (S := 3600) v0 (by decide)
 obtain ⟨a3, n0, n1⟩ := tmod_in (x := p4) (S := 80) x0 (by decide)
 have hm : Int.tmod (w64 p2) 3600 = p2 % 3600 := by rw [w64_in (by omega) (by omega), a1]
 have ht : Int.tmod (w64 p3) 3600 = p3 % 3600 := by rw [w64_in (by omega) (by omega), a2]
 have hn : Int.tmod (w64 p4) 80 = p4 % 80 := by rw [w64_in (by omega) (by omega), a3]
 obtain ⟨m, em⟩ : ∃ m, m = p2 % 3600 := ⟨_, rfl⟩
 obtain ⟨t, et⟩ : ∃ t, t = p3 % 3600 := ⟨_, rfl⟩
 obtain ⟨n, en⟩ : ∃ n, n = p4 % 80 := ⟨_, rfl⟩
 rw [← em] at hm m0 m1
 rw [← et] at ht t0 t1
 rw [← en] at hn n0 n1
 obtain ⟨T, U, f0, pT, aT, pU, aU⟩ := great_loop (p2 := p2) hr hc p0 ht t0 t1 hn n0 n1 c.length 0 [] [] [] (by omega) rfl (List.Perm.refl _) List.Pairwise.nil (List.Perm.refl _) List.Pairwise.nil
 have f0' : F13l0 p0 p2 p3 p4 c [] [] [] 0 = some (c.map (fg n), T, U) := f0
 have each : ∀ p ∈ c, 0 ≤ p.1 ∧ p.1 < 3600 ∧ -785 ≤ p.2 ∧ p.2 ≤ 785 := fun p hp => by
  obtain ⟨i, hi, rfl⟩ := List.getElem_of_mem hp
  have ai : A c i = c[i] := cons_get _ hi
  have r1 := hc.rng i hi
  have r2 := hr.pts i hi
  rw [ai] at r1 r2
  omega
 obtain ⟨G, eG⟩ : ∃ G, G = c.map (fg n) := ⟨_, rfl⟩
 have lG : G.length = c.length := by rw [eG, List.length_map]
 have lT : T.length = c.length := by rw [pT.length_eq, List.length_map]
 have lU : U.length = c.length := by rw [pU.length_eq, List.length_map]
 have oT : Ok T := ok_perm hc pT aT fun p hp => by have := each p hp; unfold ft; dsimp only; omega
 have oU : Ok U := ok_perm hc pU aU fun p hp => by have := each p hp; unfold fm; dsimp only; omega
 have oG : Ok G := by
  refine ok_perm (f := fg n) hc (by rw [eG]) ?_ fun p hp => by have := each p hp; unfold fg; dsimp only; omega
  rw [eG]
  unfold Asc
  rw [List.pairwise_map, List.pairwise_iff_getElem]
  intro i j hi hj hij
  have ai : A c i = c[i] := cons_get _ hi
  have aj : A c j = c[j] := cons_get _ hj
  have := hc.mono (i := i) (k := j - i) (by omega)
  rw [show i + (j - i) = j by omega, ai, aj] at this
  unfold fg
  dsimp only
  omega
 have mG : Mv 0 n c G ∧ Mv (-0) (-n) G c := by rw [eG]; exact mv_great
 have mT := mv_turned pT
 have mU := rv_minus pU
 have h41 : Int.tmod (w64 (m + n)) 3600 = (m + n) % 3600 := by rw [w64_in (by omega) (by omega), Int.tmod_eq_emod_of_nonneg (by omega)]
 have h45 : Int.tmod (w64 (m + t)) 3600 = (m + t) % 3600 := by rw [w64_in (by omega) (by omega), Int.tmod_eq_emod_of_nonneg (by omega)]
 have h49 : Int.tmod (w64 (3600 - m)) 3600 = (3600 - m) % 3600 := by rw [w64_in (by omega) (by omega), Int.tmod_eq_emod_of_nonneg (by omega)]
 obtain ⟨mg, emg⟩ : ∃ k, k = (m + n) % 3600 := ⟨_, rfl⟩
 obtain ⟨mt, emt⟩ : ∃ k, k = (m + t) % 3600 := ⟨_, rfl⟩
 obtain ⟨mu, emu⟩ : ∃ k, k = (3600 - m) % 3600 := ⟨_, rfl⟩
 rw [← emg] at h41
 rw [← emt] at h45
 rw [← emu] at h49
 have mg0 : 0 ≤ mg ∧ mg < 3600 := by omega
 have mt0 : 0 ≤ mt ∧ mt < 3600 := by omega
 have mu0 : 0 ≤ mu ∧ mu < 3600 := by omega
 have cg : (mg - (m + 0 + n)) % 3600 = 0 := by omega
 have cg' : (m - (mg + -0 + -n)) % 3600 = 0 := by omega
 have ct : (mt - (m + t + 0)) % 3600 = 0 := by omega
 have ct' : (m - (mt + -t + -0)) % 3600 = 0 := by omega
 have cu : (mu + m) % 3600 = 0 := by omega
 have cu' : (m + mu) % 3600 = 0 := by omega
 have q0 : (0 : Rat) ≤ ((m : Int) : Rat) := Rat.intCast_nonneg.2 m0
 have q1 : ((m : Int) : Rat) < ((3600 : Int) : Rat) := Rat.intCast_lt_intCast.2 m1
 obtain ⟨d, fd, vd, nd⟩ := F17_val hc m0 m1
 obtain ⟨e, fe, ve, ne⟩ := F17_val oT mt0.1 mt0.2
 obtain ⟨w, fw, vw, nw⟩ := F17_val oU mu0.1 mu0.2
 have de : d = e := by
  have v1 := val_mv hc oT mT.1 mT.2 vd (by omega) (by omega) q0 q1
  have e1 : rm ((m : Rat) + (t : Rat)) = (mt : Rat) := by rw [← Rat.intCast_add]; exact rm_int (by omega) (by omega) (by omega) mt0.1 mt0.2
  rw [e1] at v1
  have := val_uniq oT v1 ve
  have z : ((0 : Int) : Rat) = 0 := rfl
  grind
 have dw : w = -d := by
  have v1 := val_rv hc oU mU.1 mU.2 vd q0 q1
  have e1 : rm (-(m : Rat)) = (mu : Rat) := by rw [← Rat.intCast_neg]; exact rm_int (by omega) (by omega) (by omega) mu0.1 mu0.2
  rw [e1] at v1
  exact (val_uniq oU v1 vw).symm
 subst de
 subst dw
 have f64 : w64 (0 - (fr (-d)).1) = (fr d).1 := by
  show w64 (0 - -d.num) = d.num
  rw [w64_in (by omega) (by omega)]
  omega
 have f64b : (fr (-d)).2 = (fr d).2 := rfl
 have F44e : ∀ a b, F44 a b = some (a, b) := fun a b => rfl
 unfold F13
 rw [f38]
 simp only [Option.bind_eq_bind, Option.bind_some]
 rw [f0', hm, hn, ht, ← eG]
 simp only [Option.bind_some]
 rw [h41, h45, h49, fd, fe, fw]
 rcases F24_cases hc hl m0 m1 with ⟨fl, fa⟩ | ⟨nf, Sa, fa, pa, sa⟩
 · have fg' : F24 G mg = some ([], 16) := by
    rcases F24_cases oG (by omega) mg0.1 mg0.2 with ⟨_, f⟩ | ⟨nf, _⟩
    · exact f
    obtain ⟨k, hk, fk⟩ := flat_mv hc oG mG.1 mG.2 cg fl
    exact absurd fk (nf k hk)
   have ft' : F24 T mt = some ([], 16) := by
    rcases F24_cases oT (by omega) mt0.1 mt0.2 with ⟨_, f⟩ | ⟨nf, _⟩
    · exact f
    obtain ⟨k, hk, fk⟩ := flat_mv hc oT mT.1 mT.2 ct fl
    exact absurd fk (nf k hk)
   have fu' : F24 U mu = some ([], 16) := by
    rcases F24_cases oU (by omega) mu0.1 mu0.2 with ⟨_, f⟩ | ⟨nf, _⟩
    · exact f
    obtain ⟨k, hk, fk⟩ := flat_rv hc oU mU.1 mU.2 cu fl
    exact absurd fk (nf k hk)
   rw [fa, fg', ft', fu']
   simp only [Option.bind_some, bne_self_eq_false, Bool.false_eq_true, if_false, beq_self_eq_true, Bool.and_self, Bool.not_true]
   rw [f64, f64b]
   simp only [F44e, Option.bind_some, beq_self_eq_true, Bool.and_self, Bool.not_true, Bool.false_eq_true, if_false]
   rw [F28_eq (a := []) (Nat.zero_le _)]
   simp only [Option.bind_some, Bool.not_true, Bool.false_eq_true, if_false, bne_self_eq_false]
   rw [F13l1, if_neg (by simp)]
   rfl
 have nG : ∀ i, i < G.length → ¬ Flat G mg i := fun i hi f => by
  obtain ⟨k, hk, fk⟩ := flat_mv oG hc mG.2 (by simpa using mG.1) cg' ⟨i, hi, f⟩
  exact nf k hk fk
 have nT : ∀ i, i < T.length → ¬ Flat T mt i := fun i hi f => by
  obtain ⟨k, hk, fk⟩ := flat_mv oT hc mT.2 (by simpa using mT.1) ct' ⟨i, hi, f⟩
  exact nf k hk fk
 have nU : ∀ i, i < U.length → ¬ Flat U mu i := fun i hi f => by
  obtain ⟨k, hk, fk⟩ := flat_rv oU hc mU.2 mU.1 cu' ⟨i, hi, f⟩
  exact nf k hk fk
 rcases F24_cases oG (by omega) mg0.1 mg0.2 with ⟨⟨i, hi, f⟩, _⟩ | ⟨_, Sg, fG, pg, sg⟩
 · exact absurd f (nG i hi)
 rcases F24_cases oT (by omega) mt0.1 mt0.2 with ⟨⟨i, hi, f⟩, _⟩ | ⟨_, St, fT, pt, st⟩
 · exact absurd f (nT i hi)
 rcases F24_cases oU (by omega) mu0.1 mu0.2 with ⟨⟨i, hi, f⟩, _⟩ | ⟨_, Su, fU, pu, su⟩
 · exact absurd f (nU i hi)
 have sc : ∀ x, x ∈ Sa ↔ Sol c m x := fun x => by rw [pa.mem_iff]; exact als_sol hc m0 m1 nf
 have sG : ∀ x, x ∈ Sg ↔ Sol G mg x := fun x => by rw [pg.mem_iff]; exact als_sol oG mg0.1 mg0.2 nG
 have sT : ∀ x, x ∈ St ↔ Sol T mt x := fun x => by rw [pt.mem_iff]; exact als_sol oT mt0.1 mt0.2 nT
 have sU : ∀ x, x ∈ Su ↔ Sol U mu x := fun x => by rw [pu.mem_iff]; exact als_sol oU mu0.1 mu0.2 nU
 have da : Sa.Nodup := pa.nodup_iff.2 (als_nodup hc _ _ (by omega))
 have dg : Sg.Nodup := pg.nodup_iff.2 (als_nodup oG _ _ (by omega))
 have dt : St.Nodup := pt.nodup_iff.2 (als_nodup oT _ _ (by omega))
 have du : Su.Nodup := pu.nodup_iff.2 (als_nodup oU _ _ (by omega))
 have ia : ∀ x ∈ Sa, plain.In x := fun x h => als_in hc (pa.mem_iff.1 h)
 have it : ∀ x ∈ St, plain.In x := fun x h => als_in oT (pt.mem_iff.1 h)
 have iu : ∀ x ∈ Su, plain.In x := fun x h => als_in oU (pu.mem_iff.1 h)
 have z0 : ((0 : Int) : Rat) = 0 := rfl
 have zn0 : ((-0 : Int) : Rat) = 0 := rfl
 have eg : Sa = Sg := by
  have per : Sa.Perm Sg := (List.perm_ext_iff_of_nodup da dg).2 fun x => by
   rw [sc, sG]
   constructor
   · intro h
     have := sol_mv hc oG mG.1 mG.2 (by omega) (by omega) cg h
     rwa [z0, show x + 0 = x by grind, rm_self h.1.1 h.1.2] at this
   intro h
   have := sol_mv oG hc mG.2 (by simpa using mG.1) (by omega) (by omega) cg' h
   rwa [zn0, show x + 0 = x by grind, rm_self h.1.1 h.1.2] at this
  exact List.Perm.eq_of_pairwise (le := fun a b => a ≤ b) (fun a b _ _ h1 h2 => Rat.le_antisymm h1 h2) sa sg per
 have lt : St.length = Sa.length := by
  have l1 := len_le (fun x => rm (x + (t : Rat))) da (fun x h => (sT _).2 (sol_mv hc oT mT.1 mT.2 (by omega) (by omega) ct ((sc x).1 h))) (fun x h y g e => turn_inj (.inl ⟨_, fun _ => rfl⟩) ⟨(ia x h).1, (ia x h).2.1⟩ ⟨(ia y g).1, (ia y g).2.1⟩ e)
  have l2 := len_le (fun x => rm (x + ((-t : Int) : Rat))) dt (fun x h => (sc _).2 (sol_mv oT hc mT.2 (by simpa using mT.1) (by omega) (by omega) ct' ((sT x).1 h))) (fun x h y g e => turn_inj (.inl ⟨_, fun _ => rfl⟩) ⟨(it x h).1, (it x h).2.1⟩ ⟨(it y g).1, (it y g).2.1⟩ e)
  omega
 have lu : Su.length = Sa.length := by
  have l1 := len_le (fun x => rm (-x)) da (fun x h => (sU _).2 (sol_rv hc oU mU.1 mU.2 cu ((sc x).1 h))) (fun x h y g e => turn_inj (.inr fun _ => rfl) ⟨(ia x h).1, (ia x h).2.1⟩ ⟨(ia y g).1, (ia y g).2.1⟩ e)
  have l2 := len_le (fun x => rm (-x)) du (fun x h => (sc _).2 (sol_rv oU hc mU.2 mU.1 cu' ((sU x).1 h))) (fun x h y g e => turn_inj (.inr fun _ => rfl) ⟨(iu x h).1, (iu x h).2.1⟩ ⟨(iu y g).1, (iu y g).2.1⟩ e)
  omega
 have lens : Sa.length ≤ 10 := by
  have := als_short hc m0 m1 c.length 0 (by omega)
  rw [pa.length_eq]
  omega
 have g1 : ∀ x ∈ Sa, ∃ y ∈ St, ∃ k : Int, x - y = (k : Rat) ∧ (k + t) % 3600 = 0 := fun x h => by
  obtain ⟨v, ev⟩ := rm_turns (x + (t : Rat))
  refine ⟨_, (sT _).2 (sol_mv hc oT mT.1 mT.2 (by omega) (by omega) ct ((sc x).1 h)), -t - 3600 * v, ?_, by omega⟩
  rw [ev, Rat.intCast_sub, Rat.intCast_neg]
  grind
 have g2 : ∀ x ∈ Sa, ∃ y ∈ Su, ∃ k : Int, x + y = (k : Rat) ∧ k % 3600 = 0 := fun x h => by
  obtain ⟨v, ev⟩ := rm_turns (-x)
  refine ⟨_, (sU _).2 (sol_rv hc oU mU.1 mU.2 cu ((sc x).1 h)), 3600 * v, ?_, by omega⟩
  rw [ev]
  grind
 have fin : F13l1 p0 p3 (Sa.map fr, 0) (St.map fr, 0) (Su.map fr, 0) 0 = some (.inr ()) := each_loop (e0 := 0) (e1 := 0) (e2 := 0) ht t0 t1 ia it iu (by omega) (by omega) (by omega) g1 g2 Sa.length 0 (by omega)
 rw [fa, fG, fT, fU, ← eg]
 simp only [Option.bind_some, bne_self_eq_false, Bool.false_eq_true, if_false, beq_self_eq_true, Bool.and_self, Bool.not_true]
 rw [f64, f64b]
 simp only [F44e, Option.bind_some, beq_self_eq_true, Bool.and_self, Bool.not_true, Bool.false_eq_true, if_false]
 rw [F28_eq (by rw [List.length_map]; omega)]
 simp only [Option.bind_some, Bool.not_true, Bool.false_eq_true, if_false, List.length_map]
 rw [lt, lu]
 simp only [bne_self_eq_false, Option.bind_some, Bool.false_eq_true, if_false]
 rw [fin]
 rfl
end Go.Proofs.Ythpfffijnkmdgaa
