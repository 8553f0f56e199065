/- CardBack: the plain law. -/
import Derived.Test.YthpfffijnkmdgaaLY
import Derived.Test.YthpfffijnkmdgaaG9
set_option linter.unusedVariables false
set_option linter.unusedSimpArgs false
set_option maxRecDepth 100000
namespace Go.Proofs.Ythpfffijnkmdgaa.plain
open Go Go.Cl
section
variable {c b d M : Card} {i k r : Nat} {m n q : Int} {x y : Rat}
def raf (p : Pt) : Pt := ((p.1 + p.2) % 3600, -p.2)
theorem F75_eq (a e f g : Int) : ∃ r, F75 a e f g = some r ∧ (r < 0 ↔ a < f) := by
 unfold F75 F76 F96
 by_cases h : a < f
 · simp [h]
 by_cases h2 : f < a
 · simp [h, h2]
 simp [h, h2]
theorem F73_int {s : Int} (h0 : -3600 ≤ s) (h1 : s < 7200) : F73 s 1 = some (s % 3600, 1) := by
 have a := Rat.intCast_le_intCast.2 h0
 have b := Rat.intCast_lt_intCast.2 h1
 have e := rm_num a b
 have f := F73_rm (x := (s : Rat)) (by show 1 ≤ _; decide) a b
 have g := rm_den (s : Rat)
 unfold fr at f
 rw [e, g] at f
 exact f
theorem key (hc : Ok c) {a b : Pt} (ha : a ∈ c) (hb : b ∈ c) (h : a.1 = b.1) : a = b := by
 obtain ⟨i, hi, rfl⟩ := List.getElem_of_mem ha
 obtain ⟨j, hj, rfl⟩ := List.getElem_of_mem hb
 have ai : A c i = c[i] := cons_get _ hi
 have aj : A c j = c[j] := cons_get _ hj
 rcases Nat.lt_trichotomy i j with g | g | g
 · have := hc.mono (i := i) (k := j - i) (by omega)
   rw [show i + (j - i) = j by omega, ai, aj] at this
   omega
 · subst g; rfl
 have := hc.mono (i := j) (k := i - j) (by omega)
 rw [show j + (i - j) = i by omega, ai, aj] at this
 omega
theorem sorted_is (hd : Ok d) (p : M.Perm d) (h : M.Pairwise fun a b => ¬ b.1 < a.1) : M = d := by
 refine List.Perm.eq_of_pairwise (le := fun a b => ¬ b.1 < a.1) (fun a b ha hb h1 h2 => key hd (p.mem_iff.1 ha) hb (by omega)) h ?_ p
 rw [List.pairwise_iff_getElem]
 intro i j hi hj hij
 have ai : A d i = d[i] := cons_get _ hi
 have aj : A d j = d[j] := cons_get _ hj
 have := hd.mono (i := i) (k := j - i) (by omega)
 rw [show i + (j - i) = j by omega, ai, aj] at this
 omega
theorem raw_loop (hc : Ok c) : ∀ (e v : Nat) (out : Card), v + e = c.length → out.length ≤ v → F29l0 c out v = some (out ++ (c.drop v).map raf) := by
 have hcl := hc.le
 intro e
 induction e with
 | zero => intro v out hd ho; rw [F29l0, if_neg (by simp; omega), List.drop_eq_nil_of_le (by omega)]; simp
 | succ e ih =>
  intro v out hd ho
  have hlt : v < c.length := by omega
  have hdr : c.drop v = c[v] :: c.drop (v + 1) := List.drop_eq_getElem_cons hlt
  have ai : A c v = c[v] := cons_get _ hlt
  have rg := hc.rng v hlt
  rw [F29l0, if_pos (by simp; omega), if_pos ⟨by omega, by omega⟩, w64_up (by omega)]
  simp only [Option.bind_eq_bind, Option.bind_some, show ((v : Int)).toNat = v from rfl]
  rw [show c.getD v (0, 0) = A c v from rfl, F72_eq _ _ (by omega) (by omega), Option.bind_some, F55_eq, Option.bind_some]
  dsimp only
  rw [F73_int (by omega) (by omega), Option.bind_some, if_pos (by omega), w64_in (x := 0 - (A c v).2) (by omega) (by omega), ih (v + 1) _ (by omega) (by simp; omega), hdr, List.append_assoc, List.map_cons, ai]
  unfold raf
  rw [show 0 - c[v].2 = -c[v].2 by omega]
  rfl
theorem F29_is (hc : Ok c) (hs : Sound c) (hl : c.length ≤ 12) (hd : Ok d) (hp : d.Perm (c.map raf)) : F29 c = some (d, 0) := by
 have f : F29l0 c [] 0 = some ([] ++ (c.drop 0).map raf) := raw_loop hc c.length 0 [] (by omega) (Nat.zero_le _)
 obtain ⟨M, s1, s2, s3⟩ := sort74_eq (f := fun p : Pt => p) (lt := fun a b : Pt => a.1 < b.1) (G := fun _ => True) (fun a b _ _ => F75_eq _ _ _ _) (fun a b c h g => by omega) (fun a b h => by omega) (L := c.map raf) (by rw [List.length_map]; exact hl) (fun _ _ => trivial)
 have e : M = d := sorted_is hd (s2.trans hp.symm) s3
 subst e
 rw [List.map_id', List.map_id'] at s1
 unfold F29
 rw [F22_eq (by omega), ck_of hc]
 simp only [Option.bind_eq_bind, Option.bind_some, bne_self_eq_false, Bool.false_eq_true, if_false]
 rw [F60_eq hc, fol_none hs _ _ (by omega)]
 simp only [Option.bind_some]
 rw [if_neg (by simp), f]
 simp only [Option.bind_some, List.nil_append, List.drop_zero]
 rw [s1]
 rfl
theorem F29_fold (hc : Ok c) (hs : ¬ Sound c) : F29 c = some ([], 21) := by
 have hcl := hc.le
 have hf : fol c c.length 0 ≠ [] := by
  refine fol_some _ _ (Classical.byContradiction fun g => hs fun i hi => ?_)
  refine Classical.byContradiction fun k => g ⟨i, Nat.zero_le _, by omega, by omega⟩
 unfold F29
 rw [F22_eq (by omega), ck_of hc]
 simp only [Option.bind_eq_bind, Option.bind_some, bne_self_eq_false, Bool.false_eq_true, if_false]
 rw [F60_eq hc]
 simp only [Option.bind_some]
 rw [if_pos (by
  have : 0 < (fol c c.length 0).length := List.length_pos_iff.2 hf
  simp; omega)]
theorem rot_perm (ct : Cut c q r) : (rot c q r).Perm (c.map raf) := by
 have e1 : (c.drop r).map (gb q) = (c.drop r).map raf := List.map_congr_left fun p hp => by
  obtain ⟨j, hj, rfl⟩ := List.getElem_of_mem hp
  rw [List.length_drop] at hj
  rw [List.getElem_drop]
  have := ct.up (r + j) (by omega) (by omega)
  unfold ca at this
  rw [show A c (r + j) = c[r + j] from cons_get _ (by omega)] at this
  unfold gb raf
  rw [Prod.mk.injEq]
  exact ⟨by omega, rfl⟩
 have e2 : (c.take r).map (gb (q - 1)) = (c.take r).map raf := List.map_congr_left fun p hp => by
  obtain ⟨j, hj, rfl⟩ := List.getElem_of_mem hp
  rw [List.length_take] at hj
  rw [List.getElem_take]
  have := ct.dn j (by omega)
  unfold ca at this
  rw [show A c j = c[j] from cons_get _ (by omega)] at this
  unfold gb raf
  rw [Prod.mk.injEq]
  exact ⟨by omega, rfl⟩
 unfold rot
 rw [e1, e2]
 refine List.perm_append_comm.trans ?_
 rw [← List.map_append, List.take_append_drop]
theorem perm_rot (hc : Ok c) : c.Perm ((rot c q r).map raf) := by
 have go : ∀ (w : Int) (l : Card), (∀ p ∈ l, p ∈ c) → (l.map (gb w)).map raf = l := fun w l h => by
  rw [List.map_map]
  conv => rhs; rw [← List.map_id l]
  refine List.map_congr_left fun p hp => ?_
  obtain ⟨j, hj, e⟩ := List.getElem_of_mem (h p hp)
  have rg := hc.rng j hj
  rw [show A c j = c[j] from cons_get _ hj, e] at rg
  show raf (gb w p) = p
  unfold gb raf
  dsimp only
  exact Prod.ext (by dsimp only; omega) (by dsimp only; omega)
 unfold rot
 rw [List.map_append, go _ _ (fun p h => List.mem_of_mem_drop h), go _ _ (fun p h => List.mem_of_mem_take h)]
 have := List.perm_append_comm (l₁ := c.take r) (l₂ := c.drop r)
 rwa [List.take_append_drop] at this
theorem rot_dv (hr : Dv c) (ct : Cut c q r) : Dv (rot c q r) := by
 intro k hk
 rw [rot_len] at hk
 obtain ⟨i, w, hi, _, e1, _, _⟩ := rot_seg ct hk
 have := hr i hi
 rw [e1]
 unfold gb
 dsimp only
 omega
theorem F31_zero {d1 d2 x2 : Rat} {j : Nat} (hc : Ok c) (hb : Ok b) (n0 : 0 ≤ n) (n1 : n < 3600) (T : Two c b n d1 d2 x2 j) (h : d1 + d2 = 0) : F31 c b n = some ((0, 1), 0) := by
 have h1 := hc.le
 have h2 := hb.le
 unfold F31
 rw [F22_eq (by omega), ck_of hc, F22_eq (by omega), ck_of hb]
 simp only [Option.bind_eq_bind, Option.bind_some, bne_self_eq_false, Bool.false_eq_true, if_false]
 rw [F53_eq, decide_eq_true ⟨n0, n1⟩]
 simp only [Option.bind_some, Bool.not_true, Bool.false_eq_true, if_false]
 rw [F55_eq, Option.bind_some]
 dsimp only
 rw [T.f1]
 simp only [Option.bind_some]
 rw [T.f2]
 simp only [Option.bind_some]
 rw [T.f3]
 simp only [Option.bind_some]
 rw [T.f4]
 simp only [Option.bind_some]
 rw [if_pos (by simp), T.f5]
 simp only [Option.bind_some]
 rw [T.f6]
 simp only [Option.bind_some]
 rw [F55_eq, Option.bind_some]
 dsimp only
 rw [show [((fr d1).1, (fr d1).2)] ++ [((fr d2).1, (fr d2).2)] = [((fr d1).1, (fr d1).2), ((fr d2).1, (fr d2).2)] from rfl, T.f8, h]
 rfl
theorem back (hc : Ok c) (hb : Ok b) (hs : Sound c) (dc : Dv c) (db : Dv b) (h : Corr c b) (n0 : 0 ≤ n) (n1 : n < 3600) : F31 c b n = some ((0, 1), 0) := by
 obtain ⟨d1, d2, x2, j, T⟩ := two_of hc hb dc db n0 n1
 have h0 : (0 : Rat) ≤ ((n : Int) : Rat) := Rat.intCast_nonneg.2 n0
 have h1 : ((n : Int) : Rat) < ((3600 : Int) : Rat) := Rat.intCast_lt_intCast.2 n1
 obtain ⟨i, l1, f1⟩ := F54_eq hc (x := (n : Rat)) (M := 1) (Nat.le_refl _) (by omega) h0 h1
 have e1 : d1 = devAt c i (norm c (n : Rat)) := fr_inj (Option.some.inj (T.f1.symm.trans f1))
 exact F31_zero hc hb n0 n1 T (two_back hc hs hb h l1 e1 T)
theorem F45_eq {a : Card} (ha : a.length ≤ 1000) : F45 a a = some true := by
 have go : ∀ (d v : Nat), v + d = a.length → F45l0 a a v = some (.inr ()) := by
  intro d
  induction d with
  | zero => intro v hd; rw [F45l0, if_neg (by simp; omega)]
  | succ d ih =>
   intro v hd
   have hlt : v < a.length := by omega
   rw [F45l0, if_pos (by simp; omega), if_pos ⟨by omega, by omega⟩, w64_up (by omega)]
   simp only [Option.bind_eq_bind, Option.bind_some]
   rw [if_pos ⟨by omega, by omega⟩]
   simp only [beq_self_eq_true, Bool.and_self, Bool.not_true, Bool.false_eq_true, if_false]
   exact ih (v + 1) (by omega)
 have f : F45l0 a a 0 = some (.inr ()) := go a.length 0 (by omega)
 unfold F45
 rw [if_neg (by simp), f]
 rfl
theorem allow_dev (hc : Ok c) (hs : Sound c) (hb : Ok b) (h : Corr c b) (m0 : 0 ≤ m) (m1 : m < 3600) : ∃ a : Rat, F26 c m = some (fr a, 0) ∧ F17 b m = some (fr (-a), 0) ∧ Sm 5400 (20000 * 5400) a := by
 have hbl := hb.le
 obtain ⟨i, n, hi, ht, hh, _, f26, _⟩ := sound_two hc hs m0 m1
 obtain ⟨e1, _⟩ := mem_tl ht
 have g := place_lies hc hi hh
 have dp := dev_place hc hi hh
 refine ⟨_, f26, ?_, (dev_small hc hi hh).1⟩
 have h0 : (0 : Rat) ≤ ((m : Int) : Rat) := Rat.intCast_nonneg.2 m0
 have h1 : ((m : Int) : Rat) < ((3600 : Int) : Rat) := Rat.intCast_lt_intCast.2 m1
 obtain ⟨j, l, f⟩ := F54_eq hb (x := (m : Rat)) (M := 1) (Nat.le_refl _) (by omega) h0 h1
 obtain ⟨w1, n1⟩ := norm_turns b (m : Rat)
 obtain ⟨w, hw⟩ : ∃ w : Int, n - m = 3600 * w := Int.dvd_of_emod_eq_zero e1
 have em : (m : Rat) = (n : Rat) + ((3600 * (-w) : Int) : Rat) := by rw [← Rat.intCast_add]; congr 1; omega
 have := corr_at hc hs hb h g l (w := w1 - w) (by
  rw [n1, em, dp]
  have h2 := turns_add (-w) w1
  rw [show -w + w1 = w1 - w by omega] at h2
  grind)
 rw [this, dp] at f
 unfold F17
 rw [F22_eq (by omega), ck_of hb]
 simp only [Option.bind_eq_bind, Option.bind_some, bne_self_eq_false, Bool.false_eq_true, if_false]
 rw [F53_eq, decide_eq_true ⟨m0, m1⟩]
 simp only [Option.bind_some, Bool.not_true, Bool.false_eq_true, if_false]
 rw [F55_eq, Option.bind_some]
 dsimp only
 rw [show F54 b m 1 = _ from f]
 rfl
theorem Rose.dv (h : Rose c) : Dv c := fun i hi => ⟨(h.pts i hi).2.2.1, (h.pts i hi).2.2.2⟩
end
end Go.Proofs.Ythpfffijnkmdgaa.plain
namespace Go.Proofs.Ythpfffijnkmdgaa
open Go Go.Cl plain
theorem plain (p0 : List (Int × Int)) (p1 p2 p3 : Int) (wp0 : ∀ x ∈ p0, (Lit.int .u16 x.1).wf = true ∧ (Lit.int .u16 x.2).wf = true) (wp1 : (Lit.int .u8 p1).wf = true) (wp2 : (Lit.int .u16 p2).wf = true) (wp3 : (Lit.int .u16 p3).wf = true) : F9 p0 p1 p2 p3 = some true := by
 obtain ⟨c, f38, hr, hc⟩ := made (fun x hx => ⟨u16_of (wp0 x hx).1, u16_of (wp0 x hx).2⟩) (u8_of wp1)
 obtain ⟨u0, u1⟩ := u16_of wp2
 obtain ⟨v0, v1⟩ := u16_of wp3
 have hl := hr.le
 obtain ⟨t1, t2, t3⟩ := tmod_in (x := p2) (S := 3600) u0 (by decide)
 obtain ⟨s1, s2, s3⟩ := tmod_in (x := p3) (S := 3600) v0 (by decide)
 have hm : Int.tmod (w64 p2) 3600 = p2 % 3600 := by rw [w64_in (by omega) (by omega), t1]
 have hn : Int.tmod (w64 p3) 3600 = p3 % 3600 := by rw [w64_in (by omega) (by omega), s1]
 unfold F9
 rw [f38, hm, hn]
 generalize p2 % 3600 = n at t2 t3
 generalize p3 % 3600 = m at s2 s3
 simp only [Option.bind_eq_bind, Option.bind_some]
 rcases F43_eq hc with ⟨f, g⟩ | ⟨f, g⟩
 · rw [F29_fold hc g, f]
   simp only [Option.bind_some, Bool.not_false, if_true]
   rw [F26_fold hc g (by decide) (by decide)]
   rfl
 obtain ⟨q, r, ct⟩ := cut_is hc g
 have hb := rot_ok hc g ct
 have sb := rot_sound hc ct
 have bl := @rot_len c r q
 have dc := hr.dv
 have db := rot_dv dc ct
 have f29 := F29_is hc g (by omega) hb (rot_perm ct)
 have f29b := F29_is hb sb (by omega) hc (perm_rot hc (q := q) (r := r))
 have c1 := corr_rot ct
 have c2 := rot_corr ct
 have a1 := back hc hb g dc db c1 t2 t3
 have a2 := back hb hc sb db dc c2 s2 s3
 obtain ⟨a, f26, f17, sm⟩ := allow_dev hc g hb c1 s2 s3
 have fb : F43 (rot c q r) = some true := by
  rcases F43_eq hb with ⟨_, z⟩ | ⟨z, _⟩
  · exact absurd sb z
  exact z
 have ckb := ck_of hb
 generalize rot c q r = b at *
 have an := sm.num
 have e1 : w64 (0 - (fr (-a)).1) = a.num := by
  show w64 (0 - -a.num) = a.num
  rw [w64_in (by omega) (by omega)]
  omega
 have e2 : (fr (-a)).2 = a.den := rfl
 rw [f29, f]
 simp only [Option.bind_some, Bool.not_true, Bool.false_eq_true, if_false, bne_self_eq_false]
 rw [F22_eq (by omega), ckb, fb, a1, a2, f26, f17, f29b]
 simp only [Option.bind_some, bne_self_eq_false, Bool.false_eq_true, if_false, Bool.not_true]
 rw [if_neg (by simp [bl])]
 simp only [Option.bind_some, Bool.false_eq_true, if_false]
 rw [e1, e2, show F44 0 1 = some (0, 1) from rfl, show F44 a.num a.den = some (a.num, (a.den : Int)) from rfl, F45_eq (by omega)]
 unfold fr
 simp only [Option.bind_some, bne_self_eq_false, Bool.false_eq_true, if_false, Bool.not_true, beq_self_eq_true, Bool.and_self, if_true]
 rfl
end Go.Proofs.Ythpfffijnkmdgaa
