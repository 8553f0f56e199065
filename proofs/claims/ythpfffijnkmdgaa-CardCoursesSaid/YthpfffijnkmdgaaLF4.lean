/- The reference: fractions, checks, segments, deviations. -/
import Derived.Test.YthpfffijnkmdgaaLC3
import Derived.Test.YthpfffijnkmdgaaG4
set_option linter.unusedVariables false
set_option linter.unusedSimpArgs false
set_option maxRecDepth 100000
namespace Go.Proofs.Ythpfffijnkmdgaa.plain
open Go Go.Cl
theorem rgcd_loop : ∀ (b a : Nat), F93l0 (a : Int) (b : Int) = some ((Nat.gcd a b : Nat) : Int) := by
 intro b
 induction b using Nat.strongRecOn with
 | ind b ih =>
  intro a
  rw [F93l0]
  by_cases h : b = 0
  · subst h
    rw [if_neg (by simp)]
    simp
  rw [if_pos (by simp; omega), if_neg (by omega), show Int.tmod (a : Int) (b : Int) = ((a % b : Nat) : Int) from rfl, ih (a % b) (Nat.mod_lt _ (by omega)), Nat.gcd_comm b (a % b), ← Nat.gcd_rec, Nat.gcd_comm]
theorem F93_eq {a b : Int} (ha : B62 a) (hb : B62 b) : F93 a b = F97 a b := by
 rw [F97_eq ha hb]
 unfold F93
 rw [mx_abs ha.1 ha.2, mx_abs hb.1 hb.2, rgcd_loop]
 rfl
theorem F67_eq {n d : Int} (hn : B62 n) (hd : B62 d) : F67 n d = F89 n d := by
 obtain ⟨n1, n2⟩ := hn
 obtain ⟨d1, d2⟩ := hd
 unfold F67 F89
 by_cases h : d < 0
 · rw [decide_eq_true h]
   simp only [if_true, Option.bind_eq_bind, Option.bind_some]
   rw [w64_in (x := 0 - n) (by omega) (by omega), w64_in (x := 0 - d) (by omega) (by omega), F93_eq ⟨by omega, by omega⟩ ⟨by omega, by omega⟩]
 rw [decide_eq_false h]
 simp only [Bool.false_eq_true, if_false, Option.bind_eq_bind, Option.bind_some]
 rw [F93_eq ⟨n1, n2⟩ ⟨d1, d2⟩]
theorem F70_one {a b c d : Int} (hb : 0 < b) (hd : 0 < d) (h1 : B62 (2 * (a * d))) (h2 : B62 (2 * (c * b))) (h3 : B62 (b * d)) (hbb : B62 b) (hdd : B62 d) : F70 a b c d = some (fr (Rat.divInt a b + Rat.divInt c d)) := by
 have gp : 0 < Nat.gcd b.natAbs d.natAbs := Nat.gcd_pos_of_pos_right _ (by omega)
 have gb : ((Nat.gcd b.natAbs d.natAbs : Nat) : Int) ∣ b := Int.ofNat_dvd_left.2 (Nat.gcd_dvd_left _ _)
 have gd : ((Nat.gcd b.natAbs d.natAbs : Nat) : Int) ∣ d := Int.ofNat_dvd_left.2 (Nat.gcd_dvd_right _ _)
 unfold F70
 rw [F93_eq hbb hdd, F97_eq hbb hdd]
 simp only [Option.bind_eq_bind, Option.bind_some]
 generalize hgg : ((Nat.gcd b.natAbs d.natAbs : Nat) : Int) = g at gb gd
 have hg : 0 < g := by omega
 rw [if_neg (by omega), Int.tdiv_eq_ediv_of_dvd gd, Int.tdiv_eq_ediv_of_dvd gb]
 have pv := plus_val (a := a) (c := c) (by omega : b ≠ 0) (by omega : d ≠ 0) (by omega : g ≠ 0) gb gd
 obtain ⟨p, hp⟩ := gb
 obtain ⟨q, hq⟩ := gd
 have ep : b / g = p := by rw [hp]; exact Int.mul_ediv_cancel_left _ (by omega)
 have eq_ : d / g = q := by rw [hq]; exact Int.mul_ediv_cancel_left _ (by omega)
 rw [ep, eq_] at pv ⊢
 have p0 : 0 < p := by
  refine Classical.byContradiction fun h => ?_
  have : g * p ≤ 0 := Int.mul_nonpos_of_nonneg_of_nonpos (by omega) (by omega)
  omega
 have q0 : 0 < q := by
  refine Classical.byContradiction fun h => ?_
  have : g * q ≤ 0 := Int.mul_nonpos_of_nonneg_of_nonpos (by omega) (by omega)
  omega
 have pb : p ≤ b := by
  have : 1 * p ≤ g * p := Int.mul_le_mul_of_nonneg_right (by omega) (by omega)
  omega
 have qd : q ≤ d := by
  have : 1 * q ≤ g * q := Int.mul_le_mul_of_nonneg_right (by omega) (by omega)
  omega
 have shrink : ∀ {u k m : Int}, 0 < k → k ≤ m → B62 (2 * (u * m)) → -2305843009213693952 ≤ u * k ∧ u * k ≤ 2305843009213693952 := by
  intro u k m hk hkm hB
  obtain ⟨b1, b2⟩ := hB
  by_cases hu : 0 ≤ u
  · have : u * k ≤ u * m := Int.mul_le_mul_of_nonneg_left hkm hu
    have : 0 ≤ u * k := Int.mul_nonneg hu (by omega)
    omega
  have : u * m ≤ u * k := Int.mul_le_mul_of_nonpos_left (by omega) hkm
  have : u * k ≤ 0 := Int.mul_nonpos_of_nonpos_of_nonneg (by omega) (by omega)
  omega
 have s1 := shrink q0 qd h1
 have s2 := shrink p0 pb h2
 have s3 : 0 < p * d ∧ p * d ≤ b * d := ⟨Int.mul_pos p0 hd, Int.mul_le_mul_of_nonneg_right pb (by omega)⟩
 have h32 := h3.2
 have hb2 := hbb.2
 have hd2 := hdd.2
 rw [w64_in (x := q) (by omega) (by omega), w64_in (x := p) (by omega) (by omega), w64_in (x := a * q) (by omega) (by omega), w64_in (x := c * p) (by omega) (by omega), w64_in (x := a * q + c * p) (by omega) (by omega), w64_in (x := p * d) (by omega) (by omega)]
 rw [F67_eq ⟨by omega, by omega⟩ ⟨by omega, by omega⟩, F89_eq ⟨by omega, by omega⟩ ⟨by omega, by omega⟩ (by omega), pv]
 rfl
theorem F70_fr {x y : Rat} (h1 : B62 (2 * (x.num * y.den))) (h2 : B62 (2 * (y.num * x.den))) (h3 : B62 ((x.den : Int) * y.den)) : F70 (fr x).1 (fr x).2 (fr y).1 (fr y).2 = some (fr (x + y)) := by
 have hx := den_pos x
 have hy := den_pos y
 have b1 : (x.den : Int) ≤ (x.den : Int) * y.den := by
  have : (x.den : Int) * 1 ≤ (x.den : Int) * y.den := Int.mul_le_mul_of_nonneg_left (by omega) (by omega)
  omega
 have b2 : (y.den : Int) ≤ (x.den : Int) * y.den := by
  have : 1 * (y.den : Int) ≤ (x.den : Int) * y.den := Int.mul_le_mul_of_nonneg_right (by omega) (by omega)
  omega
 have h32 := h3.2
 have := F70_one (a := (fr x).1) (b := (fr x).2) (c := (fr y).1) (d := (fr y).2) hx hy h1 h2 h3 ⟨by show -4611686018427387904 ≤ (x.den : Int); omega, by show (x.den : Int) ≤ _; omega⟩ ⟨by show -4611686018427387904 ≤ (y.den : Int); omega, by show (y.den : Int) ≤ _; omega⟩
 rwa [divInt_fr, divInt_fr] at this
section
variable {c : Card} {x y : Rat} {i : Nat} {m n : Int}
theorem F64_eq (p a b : Int) : F64 p a b = some (decide (a ≤ p ∧ p ≤ b)) := by
 unfold F64 F91
 by_cases h : a ≤ p
 · rw [decide_eq_true (show p ≥ a from h)]
   by_cases g : p ≤ b
   · simp [g, h]
   simp [g]
 rw [decide_eq_false (show ¬ p ≥ a from h)]
 simp [h]
theorem F57_eq (p : Int) : F57 p = some (decide (0 ≤ p ∧ p < 3600)) := by
 unfold F57
 rw [F64_eq]
 simp only [Option.bind_eq_bind, Option.bind_some]
 congr 1
 rw [decide_eq_decide]
 omega
theorem rcheck_loop (hc : c.length ≤ 1000) : ∀ (d v : Nat) (last : Int), v + d = c.length → (v = 0 → last = -1) → (0 < v → last = (A c (v - 1)).1) → (∃ e, F23l0 c v = some (.inl e) ∧ e = ckl last (c.drop v)) ∨ (F23l0 c v = some (.inr ()) ∧ ckl last (c.drop v) = 0) := by
 intro d
 induction d with
 | zero => intro v last hd _ _; right; rw [F23l0, if_neg (by simp; omega), List.drop_eq_nil_of_le (by omega)]; exact ⟨rfl, rfl⟩
 | succ d ih =>
  intro v last hd h0 h1
  have hlt : v < c.length := by omega
  have hdr : c.drop v = c[v] :: c.drop (v + 1) := List.drop_eq_getElem_cons hlt
  have hA : A c v = c[v] := cons_get _ hlt
  rw [F23l0, if_pos (by simp; omega), if_pos ⟨by omega, by omega⟩, w64_up (by omega)]
  simp only [Option.bind_eq_bind, Option.bind_some, show ((v : Int)).toNat = v from rfl]
  rw [show c.getD v (0, 0) = A c v from rfl, F57_eq, F64_eq, hdr, ckl, ← hA]
  simp only [Option.bind_some]
  have m1 : ((if (!decide (0 ≤ (A c v).1 ∧ (A c v).1 < 3600)) = true then some true else some (!decide (-900 ≤ (A c v).2 ∧ (A c v).2 ≤ 900))) : Option Bool) = some (decide (¬ (0 ≤ (A c v).1 ∧ (A c v).1 < 3600) ∨ (A c v).2 < -900 ∨ (A c v).2 > 900)) := by
   by_cases g : 0 ≤ (A c v).1 ∧ (A c v).1 < 3600
   · rw [if_neg (by simpa using g)]
     congr 1
     rw [← decide_not, decide_eq_decide]
     omega
   rw [if_pos (by rw [decide_eq_false g]; rfl), decide_eq_true (.inl g)]
  rw [m1]
  simp only [Option.bind_some, decide_eq_true_eq]
  by_cases g1 : ¬ (0 ≤ (A c v).1 ∧ (A c v).1 < 3600) ∨ (A c v).2 < -900 ∨ (A c v).2 > 900
  · rw [if_pos g1, if_pos g1]; exact .inl ⟨1, rfl, rfl⟩
  rw [if_neg g1, if_neg g1]
  by_cases hv : v = 0
  · have hl := h0 hv
    subst hv
    have hz : ¬ ((0 : Nat) : Int) > 0 := by omega
    simp only [if_neg hz, Bool.false_eq_true, if_false, Option.bind_some]
    rw [if_neg (by omega), if_neg (by omega)]
    exact ih 1 _ (by omega) (fun h => by omega) (fun _ => rfl)
  have hl := h1 (by omega)
  have w0 : w64 ((v : Int) - 1) = ((v - 1 : Nat) : Int) := by rw [w64_in (by omega) (by omega)]; omega
  have hp0 : (v : Int) > 0 := by omega
  rw [w0]
  have cnd : (0 : Int) ≤ ((v - 1 : Nat) : Int) ∧ ((v - 1 : Nat) : Int) < (c.length : Int) := ⟨by omega, by omega⟩
  simp only [if_pos hp0, if_true, if_pos cnd, Option.bind_some, Int.toNat_natCast]
  have hl' : (List.getD c (v - 1) (0, 0)).1 = last := hl.symm
  simp only [hl']
  by_cases g2 : (A c v).1 = last
  · rw [if_pos (by simpa using g2), if_pos g2]; exact .inl ⟨7, rfl, rfl⟩
  rw [if_neg (by simpa using g2), if_neg g2]
  by_cases g3 : (A c v).1 < last
  · rw [if_pos (by simpa using g3), if_pos g3]; exact .inl ⟨5, rfl, rfl⟩
  rw [if_neg (by simpa using g3), if_neg g3]
  exact ih (v + 1) _ (by omega) (fun h => by omega) (fun _ => rfl)
theorem F23_eq (hc : c.length ≤ 1000) : F23 c = some (ck c) := by
 unfold F23 ck
 by_cases h1 : c.length = 0
 · rw [if_pos (by simp [h1]), if_pos h1]
 rw [if_neg (by simpa using h1), if_neg h1]
 by_cases h2 : c.length > 36
 · rw [if_pos (by simp; omega), if_pos h2]
 rw [if_neg (by simp; omega), if_neg h2]
 have := rcheck_loop hc c.length 0 (-1) (by omega) (fun _ => rfl) (fun h => by omega)
 rw [List.drop_zero] at this
 rw [show (0 : Int) = ((0 : Nat) : Int) from rfl]
 rcases this with ⟨e, f, g⟩ | ⟨f, g⟩
 · rw [f, ← g]; rfl
 rw [f, g]; rfl
theorem F66_eq (hc : Ok c) (hi : i < c.length) : F66 c i = some (A c i, B c i) := by
 have hcl := hc.le
 have r0 := hc.rng 0 hc.pos
 unfold F66
 rw [w64_up (by omega)]
 unfold B
 by_cases h : i + 1 = c.length
 · rw [if_neg (by simp; omega), if_pos ⟨by omega, by omega⟩, if_pos h]
   simp only [Option.bind_eq_bind, Option.bind_some]
   rw [if_pos ⟨by decide, by omega⟩]
   simp only [Option.bind_some, show ((i : Int)).toNat = i from rfl]
   rw [show List.getD c (Int.toNat 0) (0, 0) = A c 0 from rfl, w64_in (by omega) (by omega)]
   rfl
 rw [if_pos (by simp; omega), if_pos ⟨by omega, by omega⟩, if_neg h]
 simp only [Option.bind_eq_bind, Option.bind_some]
 rw [if_pos ⟨by omega, by omega⟩]
 simp only [Option.bind_some, Int.toNat_natCast]
 rfl
theorem F68_eq {x : Rat} {M N : Nat} (k : Int) (hs : Sm M N x) (hk : k.natAbs ≤ 10000) (hM : M ≤ 20000000) (hN : N ≤ 1000000000000) : F68 x.num x.den k 1 = some (decide (x < (k : Rat))) := by
 have hd := hs.den; have hn := hs.num
 have b1 := b62 (a := k) (b := (x.den : Int)) 10000 M hk (by omega) (by omega)
 unfold F68
 rw [Int.mul_one, w64_in (by omega) (by omega), w64_in (by have := b1.1; omega) (by have := b1.2; omega)]
 congr 1
 rw [decide_eq_decide, lt_int]
theorem rdev_code {γ : Type} (hc : Ok c) (hi : i < c.length) {M N : Nat} (hs : Sm M N x) (hM : M ≤ 6000) (hN : N ≤ 100000000) (K : Int × Int → Option γ) :
 ((F67 (w64 (w64 ((B c i).2 - (A c i).2) * w64 (x.num - w64 ((A c i).1 * (x.den : Int))))) (w64 (w64 ((B c i).1 - (A c i).1) * (x.den : Int)))).bind fun r72 => (F59 (A c i).2).bind fun r74 => (F70 r74.1 r74.2 r72.1 r72.2).bind K) = K (fr (devAt c i x)) := by
 have r := hc.rng i hi
 obtain ⟨s1, s2, s3, s4, s5⟩ := hc.seg hi
 have hd := hs.den; have hn := hs.num
 have tp := den_pos x
 have m0 : ((A c i).1 * (x.den : Int)).natAbs ≤ 3600 * M := by rw [Int.natAbs_mul]; exact Nat.mul_le_mul (by omega) (by omega)
 have m1 : (((B c i).2 - (A c i).2) * (x.num - (A c i).1 * (x.den : Int))).natAbs ≤ 1800 * (N + 3600 * M) := by rw [Int.natAbs_mul]; exact Nat.mul_le_mul (by omega) (by omega)
 have m2 : (((B c i).1 - (A c i).1) * (x.den : Int)).natAbs ≤ 3600 * M := by rw [Int.natAbs_mul]; exact Nat.mul_le_mul (by omega) (by omega)
 have m3 : 0 < ((B c i).1 - (A c i).1) * (x.den : Int) := Int.mul_pos (by omega) tp
 rw [w64_in (x := (B c i).2 - (A c i).2) (by omega) (by omega), w64_in (x := (B c i).1 - (A c i).1) (by omega) (by omega), w64_in (x := (A c i).1 * (x.den : Int)) (by omega) (by omega), w64_in (x := x.num - (A c i).1 * (x.den : Int)) (by omega) (by omega), w64_in (x := ((B c i).2 - (A c i).2) * (x.num - (A c i).1 * (x.den : Int))) (by omega) (by omega), w64_in (x := ((B c i).1 - (A c i).1) * (x.den : Int)) (by omega) (by omega), F67_eq ⟨by omega, by omega⟩ ⟨by omega, by omega⟩, F89_eq ⟨by omega, by omega⟩ ⟨by omega, by omega⟩ (by omega)]
 simp only [Option.bind_some]
 have ev : Rat.divInt (((B c i).2 - (A c i).2) * (x.num - (A c i).1 * (x.den : Int))) (((B c i).1 - (A c i).1) * (x.den : Int)) = (x + ((-(A c i).1 : Int) : Rat)) * Rat.divInt ((B c i).2 - (A c i).2) ((B c i).1 - (A c i).1) := by
  obtain ⟨a1, a2⟩ := add_int x (-(A c i).1)
  rw [← Rat.divInt_mul_divInt, Rat.mul_comm]
  congr 1
  rw [← Rat.num_divInt_den (x + ((-(A c i).1 : Int) : Rat)), a1, a2, Int.neg_mul]
  rfl
 have zn : (Rat.divInt (((B c i).2 - (A c i).2) * (x.num - (A c i).1 * (x.den : Int))) (((B c i).1 - (A c i).1) * (x.den : Int))).num.natAbs ≤ 1800 * (N + 3600 * M) := by
  rw [Rat.num_divInt, Int.sign_eq_one_of_pos m3, Int.one_mul]
  exact Nat.le_trans (Int.natAbs_ediv_le_natAbs _ _) m1
 have zd : (Rat.divInt (((B c i).2 - (A c i).2) * (x.num - (A c i).1 * (x.den : Int))) (((B c i).1 - (A c i).1) * (x.den : Int))).den ≤ 3600 * M := by
  rw [Rat.den_divInt, if_neg (by omega)]
  exact Nat.le_trans (Nat.div_le_self _ _) m2
 generalize Rat.divInt (((B c i).2 - (A c i).2) * (x.num - (A c i).1 * (x.den : Int))) (((B c i).1 - (A c i).1) * (x.den : Int)) = z at ev zn zd ⊢
 have := F70_fr (x := ((A c i).2 : Rat)) (y := z) (b62_two 900 (3600 * M) (by show (A c i).2.natAbs ≤ 900; omega) (by show ((z.den : Nat) : Int).natAbs ≤ _; omega) (by omega)) (b62_two (1800 * (N + 3600 * M)) 1 zn (by show ((1 : Nat) : Int).natAbs ≤ 1; decide) (by omega)) (b62 1 (3600 * M) (by show ((1 : Nat) : Int).natAbs ≤ 1; decide) (by show ((z.den : Nat) : Int).natAbs ≤ _; omega) (by omega))
 rw [show F59 (A c i).2 = some ((A c i).2, 1) from rfl, Option.bind_some]
 dsimp only
 rw [show F70 (A c i).2 1 (fr z).1 (fr z).2 = some (fr (((A c i).2 : Rat) + z)) from this]
 simp only [Option.bind_some]
 unfold devAt
 rw [← ev]
theorem rdev_loop (hc : Ok c) {M N : Nat} (hs : Sm M N x) (hM : M ≤ 6000) (hN : N ≤ 100000000) (h0 : ((A c 0).1 : Rat) ≤ x) (h1 : x < (((A c 0).1 + 3600 : Int) : Rat)) : ∀ (d v : Nat), v + d = c.length → (∀ j, j < v → ¬ x < ((B c j).1 : Rat)) →
 ∃ i, Lies c i x ∧ F58l0 c x.den x.num v = some (.inl (fr (devAt c i x))) := by
 have hcl := hc.le
 intro d
 induction d with
 | zero =>
  intro v hd hno
  have hp := hc.pos
  refine absurd ?_ (hno (c.length - 1) (by omega))
  have : (B c (c.length - 1)).1 = (A c 0).1 + 3600 := by unfold B; rw [if_pos (by omega)]
  rw [this]; exact h1
 | succ d ih =>
  intro v hd hno
  have hlt : v < c.length := by omega
  obtain ⟨s1, s2, s3, s4, s5⟩ := hc.seg hlt
  have r := hc.rng v hlt
  have hge : ((A c v).1 : Rat) ≤ x := by
   by_cases hv : v = 0
   · rw [hv]; exact h0
   have e : (B c (v - 1)).1 = (A c v).1 := by unfold B; rw [if_neg (by omega), show v - 1 + 1 = v by omega]
   have := hno (v - 1) (by omega)
   rw [e] at this
   exact Rat.not_lt.1 this
  rw [F58l0, if_pos (by simp; omega), F66_eq hc hlt]
  simp only [Option.bind_eq_bind, Option.bind_some]
  rw [show F59 (A c v).1 = some ((A c v).1, 1) from rfl, show F59 (B c v).1 = some ((B c v).1, 1) from rfl]
  simp only [Option.bind_some]
  rw [F68_eq (A c v).1 hs (by omega) (by omega) (by omega), F68_eq (B c v).1 hs (by omega) (by omega) (by omega), decide_eq_false (Rat.not_lt.2 hge)]
  simp only [Option.bind_some, Bool.false_eq_true, if_false]
  by_cases hx : x < ((B c v).1 : Rat)
  · rw [decide_eq_true hx]
    simp only [Bool.not_true, Bool.false_eq_true, if_false]
    exact ⟨v, ⟨hlt, hge, hx⟩, rdev_code hc hlt hs hM hN _⟩
  rw [decide_eq_false hx]
  simp only [Bool.not_false, if_true]
  rw [w64_up (by omega)]
  exact ih (v + 1) (by omega) (fun j hj => by
   by_cases e : j = v
   · rw [e]; exact hx
   exact hno j (by omega))
theorem F58_eq (hc : Ok c) {M : Nat} (hd : x.den ≤ M) (hM : M ≤ 6000) (h0 : 0 ≤ x) (h1 : x < ((3600 : Int) : Rat)) : ∃ i, Lies c i (norm c x) ∧ F58 c (fr x).1 (fr x).2 = some (fr (devAt c i (norm c x))) := by
 have r0 := hc.rng 0 hc.pos
 have hp := hc.pos
 have hdp := den_pos x
 have hn1 := lt_int.1 h1
 have hn0 : 0 ≤ x.num := Rat.num_nonneg.2 h0
 have hs : Sm M (3600 * M) x := ⟨hd, by
  have : (3600 : Int) * x.den ≤ 3600 * M := by omega
  omega⟩
 have fin : ∀ y : Rat, Sm M (7200 * M) y → ((A c 0).1 : Rat) ≤ y → y < (((A c 0).1 + 3600 : Int) : Rat) → ∃ i, Lies c i y ∧ ((F58l0 c y.den y.num 0).bind fun r79 => match r79 with | .inl o81 => some (o81.1, o81.2) | .inr o82 => (F59 0).bind fun r83 => some (r83.1, r83.2)) = some (fr (devAt c i y)) := by
  intro y hy y0 y1
  obtain ⟨i, hl, e⟩ := rdev_loop hc hy hM (by omega) y0 y1 c.length 0 (by omega) (fun j hj => by omega)
  have e' : F58l0 c y.den y.num 0 = some (.inl (fr (devAt c i y))) := e
  exact ⟨i, hl, by rw [e']; rfl⟩
 show ∃ i, Lies c i (norm c x) ∧ F58 c x.num x.den = _
 unfold F58
 rw [if_pos ⟨by decide, by omega⟩]
 simp only [Option.bind_eq_bind, Option.bind_some]
 rw [show List.getD c (Int.toNat 0) (0, 0) = A c 0 from rfl, show F59 (A c 0).1 = some ((A c 0).1, 1) from rfl]
 simp only [Option.bind_some]
 rw [F68_eq (A c 0).1 hs (by omega) (by omega) (by omega)]
 simp only [Option.bind_some]
 unfold norm
 by_cases hx : x < ((A c 0).1 : Rat)
 · rw [if_pos hx, decide_eq_true hx]
   simp only [if_true, Option.bind_some]
   obtain ⟨a1, a2⟩ := add_int x 3600
   rw [w64_in (x := 3600 * (x.den : Int)) (by omega) (by omega), w64_in (x := x.num + 3600 * (x.den : Int)) (by omega) (by omega)]
   have := fin (x + ((3600 : Int) : Rat)) ⟨by rw [a2]; exact hd, by rw [a1]; omega⟩ (by
    rw [int_le, a1, a2]
    have : (A c 0).1 * (x.den : Int) ≤ 3600 * x.den := Int.mul_le_mul_of_nonneg_right (by omega) (by omega)
    omega) (by
    rw [lt_int, a1, a2, Int.add_mul]
    have h2 := lt_int.1 hx
    omega)
   rw [a1, a2] at this
   exact this
 rw [if_neg hx, decide_eq_false hx]
 simp only [Bool.false_eq_true, if_false, Option.bind_some]
 refine fin x ⟨hd, by have := hs.num; omega⟩ (Rat.not_lt.1 hx) ?_
 rw [lt_int, Int.add_mul]
 have : 0 ≤ (A c 0).1 * (x.den : Int) := Int.mul_nonneg (by omega) (by omega)
 omega
theorem rfold_loop (hc : Ok c) : ∀ (d v : Nat) (out : List Int), v + d = c.length → out.length ≤ v → F20l0 c out v = some (out ++ fol c d v) := by
 have hcl := hc.le
 intro d
 induction d with
 | zero => intro v out hd ho; rw [F20l0, if_neg (by simp; omega), fol, List.append_nil]
 | succ d ih =>
  intro v out hd ho
  have hlt : v < c.length := by omega
  have r := hc.rng v hlt
  obtain ⟨s1, s2, s3, s4, s5⟩ := hc.seg hlt
  have f61 : F61 c v = some (cb c v - ca c v) := by
   unfold F61
   rw [F66_eq hc hlt]
   simp only [Option.bind_eq_bind, Option.bind_some]
   rw [w64_in (x := (B c v).1 - (A c v).1) (by omega) (by omega), w64_in (x := (B c v).1 - (A c v).1 + (B c v).2) (by omega) (by omega), w64_in (by omega) (by omega)]
   congr 1
   unfold cb ca
   omega
  rw [F20l0, if_pos (by simp; omega), f61, w64_up (by omega), fol]
  simp only [Option.bind_eq_bind, Option.bind_some]
  by_cases h : cb c v ≤ ca c v
  · rw [if_pos (by simp; omega), if_pos (by omega), if_pos h]
    simp only [Option.bind_some]
    rw [ih (v + 1) _ (by omega) (by simp; omega), List.append_assoc]
    rfl
  rw [if_neg (by simp; omega), if_neg h]
  simp only [Option.bind_some]
  exact ih (v + 1) out (by omega) (by omega)
theorem F20_eq (hc : c.length ≤ 1000) : F20 c = some (if ck c = 0 then fol c c.length 0 else [], ck c) := by
 unfold F20
 rw [F23_eq hc]
 simp only [Option.bind_eq_bind, Option.bind_some]
 by_cases h : ck c = 0
 · have f : F20l0 c [] 0 = some ([] ++ fol c c.length 0) := rfold_loop (ck_ok h) c.length 0 [] (by omega) (Nat.zero_le _)
   rw [if_neg (by simp [h]), f, if_pos h, h]; rfl
 rw [if_pos (by simpa using h), if_neg h]
end
end Go.Proofs.Ythpfffijnkmdgaa.plain
