/- Fractions: what is reckoned with them. -/
import Derived.Test.YthpfffijnkmdgaaCD
set_option linter.unusedVariables false
set_option linter.unusedSimpArgs false
set_option maxRecDepth 100000
namespace Go.Proofs.Ythpfffijnkmdgaa.plain
open Go Go.Cl
theorem gcd_loop : ∀ (b a : Nat), F97l0 (a : Int) (b : Int) = some ((Nat.gcd a b : Nat) : Int) := by
 intro b
 induction b using Nat.strongRecOn with
 | ind b ih =>
  intro a
  rw [F97l0]
  by_cases h : b = 0
  · subst h
    rw [if_neg (by simp)]
    simp
  rw [if_pos (by simp; omega), if_neg (by omega), show Int.tmod (a : Int) (b : Int) = ((a % b : Nat) : Int) from rfl, ih (a % b) (Nat.mod_lt _ (by omega)), Nat.gcd_comm b (a % b), ← Nat.gcd_rec, Nat.gcd_comm]
theorem mx_abs {a : Int} (h : -4611686018427387904 ≤ a) (h2 : a ≤ 4611686018427387904) : mx a (w64 (0 - a)) = (a.natAbs : Int) := by
 rw [w64_in (by omega) (by omega)]
 unfold mx
 split <;> omega
def B62 (a : Int) : Prop := -4611686018427387904 ≤ a ∧ a ≤ 4611686018427387904
theorem F97_eq {a b : Int} (ha : B62 a) (hb : B62 b) : F97 a b = some ((Nat.gcd a.natAbs b.natAbs : Nat) : Int) := by
 unfold F97
 rw [mx_abs ha.1 ha.2, mx_abs hb.1 hb.2, gcd_loop]
 rfl
def fr (x : Rat) : Int × Int := (x.num, (x.den : Int))
theorem den_pos (x : Rat) : 0 < (x.den : Int) := Int.natCast_pos.2 x.den_pos
theorem F89_eq {n d : Int} (hn : B62 n) (hd : B62 d) (h0 : d ≠ 0) : F89 n d = some (fr (Rat.divInt n d)) := by
 obtain ⟨n1, n2⟩ := hn
 obtain ⟨d1, d2⟩ := hd
 have hg : (Nat.gcd n.natAbs d.natAbs : Int) ≠ 0 := by
  have : 0 < Nat.gcd n.natAbs d.natAbs := Nat.gcd_pos_of_pos_right _ (by omega)
  omega
 have key : ∀ (m e : Int), B62 m → B62 e → 0 < e → Nat.gcd m.natAbs e.natAbs = Nat.gcd n.natAbs d.natAbs → m = d.sign * n → e = (d.natAbs : Int) →
  ((F97 m e).bind fun r8 => if r8 = 0 then none else some (w64 (Int.tdiv m r8), w64 (Int.tdiv e r8))) = some (fr (Rat.divInt n d)) := by
  intro m e hm he hp hgc em ee
  rw [F97_eq hm he]
  simp only [Option.bind_some]
  rw [hgc, if_neg hg]
  have dm : (Nat.gcd n.natAbs d.natAbs : Int) ∣ m := by rw [← hgc]; exact Int.ofNat_dvd_left.2 (Nat.gcd_dvd_left _ _)
  have de : (Nat.gcd n.natAbs d.natAbs : Int) ∣ e := by rw [← hgc]; exact Int.ofNat_dvd_left.2 (Nat.gcd_dvd_right _ _)
  rw [Int.tdiv_eq_ediv_of_dvd dm, Int.tdiv_eq_ediv_of_dvd de]
  have gp : 0 < (Nat.gcd n.natAbs d.natAbs : Int) := by omega
  have b1 : -4611686018427387904 ≤ m / (Nat.gcd n.natAbs d.natAbs : Int) ∧ m / (Nat.gcd n.natAbs d.natAbs : Int) ≤ 4611686018427387904 := by
   obtain ⟨q, hq⟩ := dm
   rw [hq, Int.mul_ediv_cancel_left _ hg]
   obtain ⟨m1, m2⟩ := hm
   rw [hq] at m1 m2
   generalize (Nat.gcd n.natAbs d.natAbs : Int) = g at *
   constructor
   · refine Classical.byContradiction fun h => ?_
     have : g * q ≤ 1 * q := Int.mul_le_mul_of_nonpos_right (by omega) (by omega)
     omega
   refine Classical.byContradiction fun h => ?_
   have : 1 * q ≤ g * q := Int.mul_le_mul_of_nonneg_right (by omega) (by omega)
   omega
  have b2 : 0 ≤ e / (Nat.gcd n.natAbs d.natAbs : Int) ∧ e / (Nat.gcd n.natAbs d.natAbs : Int) ≤ e := ⟨Int.ediv_nonneg (by omega) (by omega), Int.ediv_le_self _ (by omega)⟩
  have he2 := he.2
  rw [w64_in (by omega) (by omega), w64_in (by omega) (by omega)]
  unfold fr
  rw [Rat.num_divInt, Rat.den_divInt, if_neg h0, em, ee]
  rw [show Int.gcd d n = Nat.gcd n.natAbs d.natAbs from Nat.gcd_comm _ _]
  rfl
 unfold F89
 by_cases hd0 : d < 0
 · rw [decide_eq_true hd0]
   simp only [if_true, Option.bind_eq_bind, Option.bind_some]
   rw [w64_in (x := 0 - n) (by omega) (by omega), w64_in (x := 0 - d) (by omega) (by omega)]
   have hs : d.sign = -1 := Int.sign_eq_neg_one_of_neg hd0
   exact key (0 - n) (0 - d) ⟨by omega, by omega⟩ ⟨by omega, by omega⟩ (by omega) (by rw [show (0 - n).natAbs = n.natAbs by omega, show (0 - d).natAbs = d.natAbs by omega]) (by rw [hs]; omega) (by omega)
 rw [decide_eq_false hd0]
 simp only [Bool.false_eq_true, if_false, Option.bind_eq_bind, Option.bind_some]
 have hs : d.sign = 1 := Int.sign_eq_one_of_pos (by omega)
 exact key n d ⟨n1, n2⟩ ⟨d1, d2⟩ (by omega) rfl (by rw [hs]; omega) (by omega)
def cmp3 (a b : Int) : Int := if a < b then -1 else if b < a then 1 else 0
theorem F76_eq (a b : Int) : F76 a b = some (cmp3 a b) := by
 unfold F76 F96 cmp3
 simp only [Option.bind_eq_bind, Option.bind_some, bne_self_eq_false, Bool.false_eq_true, if_false]
 by_cases h : a < b
 · rw [decide_eq_true h, if_pos h]; rfl
 rw [decide_eq_false h, if_neg h]
 by_cases g : b < a
 · rw [decide_eq_true (show a > b from g), if_pos g]; rfl
 rw [decide_eq_false (show ¬ a > b from g), if_neg g]; rfl
theorem F87_eq {a b c d : Int} (h1 : B62 (a * d)) (h2 : B62 (c * b)) : F87 a b c d = some (cmp3 (a * d) (c * b)) := by
 unfold F87
 rw [w64_in (by have := h1.1; omega) (by have := h1.2; omega), w64_in (by have := h2.1; omega) (by have := h2.2; omega), F76_eq]
 rfl
theorem F87_fr {x y : Rat} (h1 : B62 (x.num * y.den)) (h2 : B62 (y.num * x.den)) : F87 (fr x).1 (fr x).2 (fr y).1 (fr y).2 = some (if x < y then -1 else if y < x then 1 else 0) := by
 unfold fr
 rw [F87_eq h1 h2]
 unfold cmp3
 simp only [Rat.lt_iff]
theorem plus_val {a b c d g : Int} (hb : b ≠ 0) (hd : d ≠ 0) (hg : g ≠ 0) (gb : g ∣ b) (gd : g ∣ d) : Rat.divInt (a * (d / g) + c * (b / g)) (b / g * d) = Rat.divInt a b + Rat.divInt c d := by
 obtain ⟨p, rfl⟩ := gb
 obtain ⟨q, rfl⟩ := gd
 have hp : p ≠ 0 := fun h => hb (by rw [h, Int.mul_zero])
 have hq : q ≠ 0 := fun h => hd (by rw [h, Int.mul_zero])
 rw [Int.mul_ediv_cancel_left _ hg, Int.mul_ediv_cancel_left _ hg, Rat.divInt_add_divInt _ _ hb hd]
 rw [show a * (g * q) + c * (g * p) = g * (a * q + c * p) by rw [Int.mul_add, Int.mul_left_comm a g q, Int.mul_left_comm c g p], show g * p * (g * q) = g * (p * (g * q)) from Int.mul_assoc _ _ _, Rat.divInt_mul_left hg]
theorem F77_one {a b c d : Int} (hb : 0 < b) (hd : 0 < d) (h1 : B62 (2 * (a * d))) (h2 : B62 (2 * (c * b))) (h3 : B62 (b * d)) (hbb : B62 b) (hdd : B62 d) : F77 a b [(c, d)] = some (fr (Rat.divInt a b + Rat.divInt c d)) := by
 have gp : 0 < Nat.gcd b.natAbs d.natAbs := Nat.gcd_pos_of_pos_right _ (by omega)
 have gb : ((Nat.gcd b.natAbs d.natAbs : Nat) : Int) ∣ b := Int.ofNat_dvd_left.2 (Nat.gcd_dvd_left _ _)
 have gd : ((Nat.gcd b.natAbs d.natAbs : Nat) : Int) ∣ d := Int.ofNat_dvd_left.2 (Nat.gcd_dvd_right _ _)
 unfold F77
 rw [F77l0, if_pos (by simp), if_pos ⟨by decide, by simp⟩]
 simp only [Option.bind_eq_bind, Option.bind_some]
 rw [show List.getD [(c, d)] (Int.toNat 0) (0, 0) = (c, d) from rfl, F97_eq hbb hdd]
 simp only [Option.bind_some]
 generalize hgg : ((Nat.gcd b.natAbs d.natAbs : Nat) : Int) = g at gb gd
 have hg : 0 < g := by omega
 rw [if_neg (by omega), Int.tdiv_eq_ediv_of_dvd gd, Int.tdiv_eq_ediv_of_dvd gb]
 have pv := plus_val (a := a) (c := c) (by omega : b ≠ 0) (by omega : d ≠ 0) (by omega : g ≠ 0) gb gd
 obtain ⟨p, hp⟩ := gb
 obtain ⟨q, hq⟩ := gd
 have ep : b / g = p := by rw [hp]; exact Int.mul_ediv_cancel_left _ (by omega)
 have eq_ : d / g = q := by rw [hq]; exact Int.mul_ediv_cancel_left _ (by omega)
 rw [ep, eq_] at pv ⊢
 have p0 : 0 < p := by
  refine Classical.byContradiction fun h => ?_
  have : g * p ≤ 0 := Int.mul_nonpos_of_nonneg_of_nonpos (by omega) (by omega)
  omega
 have q0 : 0 < q := by
  refine Classical.byContradiction fun h => ?_
  have : g * q ≤ 0 := Int.mul_nonpos_of_nonneg_of_nonpos (by omega) (by omega)
  omega
 have pb : p ≤ b := by
  have : 1 * p ≤ g * p := Int.mul_le_mul_of_nonneg_right (by omega) (by omega)
  omega
 have qd : q ≤ d := by
  have : 1 * q ≤ g * q := Int.mul_le_mul_of_nonneg_right (by omega) (by omega)
  omega
 have shrink : ∀ {u k m : Int}, 0 < k → k ≤ m → B62 (2 * (u * m)) → -2305843009213693952 ≤ u * k ∧ u * k ≤ 2305843009213693952 := by
  intro u k m hk hkm hB
  obtain ⟨b1, b2⟩ := hB
  by_cases hu : 0 ≤ u
  · have : u * k ≤ u * m := Int.mul_le_mul_of_nonneg_left hkm hu
    have : 0 ≤ u * k := Int.mul_nonneg hu (by omega)
    omega
  have : u * m ≤ u * k := Int.mul_le_mul_of_nonpos_left (by omega) hkm
  have : u * k ≤ 0 := Int.mul_nonpos_of_nonpos_of_nonneg (by omega) (by omega)
  omega
 have s1 := shrink q0 qd h1
 have s2 := shrink p0 pb h2
 have s3 : 0 < p * d ∧ p * d ≤ b * d := ⟨Int.mul_pos p0 hd, Int.mul_le_mul_of_nonneg_right pb (by omega)⟩
 have h32 := h3.2
 have hb2 := hbb.2
 have hd2 := hdd.2
 rw [w64_in (x := q) (by omega) (by omega), w64_in (x := p) (by omega) (by omega), w64_in (x := a * q) (by omega) (by omega), w64_in (x := c * p) (by omega) (by omega), w64_in (x := a * q + c * p) (by omega) (by omega), w64_in (x := p * d) (by omega) (by omega)]
 rw [F89_eq ⟨by omega, by omega⟩ ⟨by omega, by omega⟩ (by omega), pv]
 simp only [Option.bind_some]
 rw [show w64 (0 + 1) = 1 from rfl, F77l0, if_neg (by simp)]
 rfl
theorem divInt_fr (x : Rat) : Rat.divInt (fr x).1 (fr x).2 = x := Rat.num_divInt_den x
theorem F77_fr {x y : Rat} (h1 : B62 (2 * (x.num * y.den))) (h2 : B62 (2 * (y.num * x.den))) (h3 : B62 ((x.den : Int) * y.den)) : F77 (fr x).1 (fr x).2 [((fr y).1, (fr y).2)] = some (fr (x + y)) := by
 have hx := den_pos x
 have hy := den_pos y
 have b1 : (x.den : Int) ≤ (x.den : Int) * y.den := by
  have : (x.den : Int) * 1 ≤ (x.den : Int) * y.den := Int.mul_le_mul_of_nonneg_left (by omega) (by omega)
  omega
 have b2 : (y.den : Int) ≤ (x.den : Int) * y.den := by
  have : 1 * (y.den : Int) ≤ (x.den : Int) * y.den := Int.mul_le_mul_of_nonneg_right (by omega) (by omega)
  omega
 have h32 := h3.2
 have := F77_one (a := (fr x).1) (b := (fr x).2) (c := (fr y).1) (d := (fr y).2) hx hy h1 h2 h3 ⟨by show -4611686018427387904 ≤ (x.den : Int); omega, by show (x.den : Int) ≤ _; omega⟩ ⟨by show -4611686018427387904 ≤ (y.den : Int); omega, by show (y.den : Int) ≤ _; omega⟩
 rwa [divInt_fr, divInt_fr] at this
end Go.Proofs.Ythpfffijnkmdgaa.plain
