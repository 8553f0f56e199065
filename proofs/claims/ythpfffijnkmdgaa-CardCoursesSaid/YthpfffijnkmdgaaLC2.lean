/- The deviation on a heading. -/
import Derived.Test.YthpfffijnkmdgaaLC1
set_option linter.unusedVariables false
set_option linter.unusedSimpArgs false
set_option maxRecDepth 100000
namespace Go.Proofs.Ythpfffijnkmdgaa.plain
open Go Go.Cl
theorem b62 {a b : Int} (p q : Nat) (ha : a.natAbs ≤ p) (hb : b.natAbs ≤ q) (h : p * q ≤ 4611686018427387904) : B62 (a * b) := by
 have h1 : (a * b).natAbs ≤ p * q := by rw [Int.natAbs_mul]; exact Nat.mul_le_mul ha hb
 exact ⟨by omega, by omega⟩
theorem b62_two {a b : Int} (p q : Nat) (ha : a.natAbs ≤ p) (hb : b.natAbs ≤ q) (h : 2 * (p * q) ≤ 4611686018427387904) : B62 (2 * (a * b)) := by
 have h1 : (a * b).natAbs ≤ p * q := by rw [Int.natAbs_mul]; exact Nat.mul_le_mul ha hb
 exact ⟨by omega, by omega⟩
structure Sm (M N : Nat) (x : Rat) : Prop where
 den : x.den ≤ M
 num : x.num.natAbs ≤ N
theorem add_int (x : Rat) (k : Int) : (x + (k : Rat)).num = x.num + k * x.den ∧ (x + (k : Rat)).den = x.den := by
 have hc : Nat.Coprime (x.num + k * (x.den : Int)).natAbs x.den := by
  have h1 : Int.gcd (x.num + k * (x.den : Int)) x.den = Int.gcd x.num x.den := by
   rw [Int.gcd_add_mul_right_left]
  have : Int.gcd x.num x.den = 1 := x.reduced
  rw [this] at h1
  exact h1
 have e : x + (k : Rat) = ⟨x.num + k * x.den, x.den, x.den_nz, hc⟩ := by
  rw [Rat.mk_eq_divInt, ← Rat.num_divInt_den x]
  rw [show ((k : Int) : Rat) = Rat.divInt k 1 from (Rat.num_divInt_den (k : Rat)).symm, Rat.divInt_add_divInt _ _ (by have := den_pos x; omega) (by decide)]
  simp
 rw [e]
 exact ⟨rfl, rfl⟩
theorem lt_int {x : Rat} {k : Int} : x < (k : Rat) ↔ x.num < k * x.den := by rw [Rat.lt_iff]; show x.num * 1 < k * (x.den : Int) ↔ _; rw [Int.mul_one]
theorem int_le {x : Rat} {k : Int} : (k : Rat) ≤ x ↔ k * x.den ≤ x.num := by rw [Rat.le_iff]; show k * (x.den : Int) ≤ x.num * 1 ↔ _; rw [Int.mul_one]
section
variable {c : Card} {x : Rat} {i : Nat}
def devAt (c : Card) (i : Nat) (x : Rat) : Rat := ((A c i).2 : Rat) + (x + ((-(A c i).1 : Int) : Rat)) * Rat.divInt ((B c i).2 - (A c i).2) ((B c i).1 - (A c i).1)
def norm (c : Card) (x : Rat) : Rat := if x < ((A c 0).1 : Rat) then x + ((3600 : Int) : Rat) else x
def Lies (c : Card) (i : Nat) (x : Rat) : Prop := i < c.length ∧ ((A c i).1 : Rat) ≤ x ∧ x < ((B c i).1 : Rat)
theorem F55_eq (n : Int) : F55 n = some (n, 1) := rfl
theorem plus_int {x : Rat} {M N : Nat} (k : Int) (hs : Sm M N x) (hk : k.natAbs ≤ 10000) (hM : M ≤ 20000000) (hN : N ≤ 1000000000000) : F77 (fr x).1 (fr x).2 [(k, 1)] = some (fr (x + (k : Rat))) := by
 have hd := hs.den; have hn := hs.num
 exact F77_fr (x := x) (y := (k : Rat)) (b62_two N 1 hn (by show ((1 : Nat) : Int).natAbs ≤ 1; decide) (by omega)) (b62_two 10000 M (by exact hk) (by show ((x.den : Nat) : Int).natAbs ≤ M; omega) (by omega)) (b62 M 1 (by show ((x.den : Nat) : Int).natAbs ≤ M; omega) (by show ((1 : Nat) : Int).natAbs ≤ 1; decide) (by omega))
theorem cmp_int {x : Rat} {M N : Nat} (k : Int) (hs : Sm M N x) (hk : k.natAbs ≤ 10000) (hM : M ≤ 20000000) (hN : N ≤ 1000000000000) : F87 (fr x).1 (fr x).2 k 1 = some (if x < (k : Rat) then -1 else if (k : Rat) < x then 1 else 0) := by
 have hd := hs.den; have hn := hs.num
 exact F87_fr (x := x) (y := (k : Rat)) (b62 N 1 hn (by show ((1 : Nat) : Int).natAbs ≤ 1; decide) (by omega)) (b62 10000 M hk (by show ((x.den : Nat) : Int).natAbs ≤ M; omega) (by omega))
theorem neg_of_cmp {p q : Prop} [Decidable p] [Decidable q] : decide ((if p then (-1 : Int) else if q then 1 else 0) < 0) = decide p := by
 by_cases h : p
 · rw [if_pos h, decide_eq_true h]; rfl
 rw [if_neg h, decide_eq_false h]; split <;> rfl
theorem dev_code {γ : Type} (hc : Ok c) (hi : i < c.length) {M N : Nat} (hs : Sm M N x) (hM : M ≤ 6000) (hN : N ≤ 100000000) (K : Int × Int → Option γ) :
 ((F55 (w64 (0 - (A c i).1))).bind fun r117 => (F77 (fr x).1 (fr x).2 [(r117.1, r117.2)]).bind fun r119 => (F55 (A c i).2).bind fun r121 => (F89 (w64 (r119.1 * w64 ((B c i).2 - (A c i).2))) (w64 (r119.2 * w64 ((B c i).1 - (A c i).1)))).bind fun r123 => (F77 r121.1 r121.2 [(r123.1, r123.2)]).bind fun r125 => K r125) = K (fr (devAt c i x)) := by
 have r := hc.rng i hi
 obtain ⟨s1, s2, s3, s4, s5⟩ := hc.seg hi
 have hd := hs.den; have hn := hs.num
 rw [F55_eq, w64_in (x := 0 - (A c i).1) (by omega) (by omega), show 0 - (A c i).1 = -(A c i).1 by omega]
 simp only [Option.bind_some]
 rw [plus_int (-(A c i).1) hs (by omega) (by omega) (by omega)]
 simp only [Option.bind_some]
 obtain ⟨a1, a2⟩ := add_int x (-(A c i).1)
 have tn : (x + ((-(A c i).1 : Int) : Rat)).num.natAbs ≤ N + 3600 * M := by
  rw [a1]
  have h1 : (-(A c i).1 * (x.den : Int)).natAbs ≤ 3600 * M := by rw [Int.natAbs_mul]; exact Nat.mul_le_mul (by omega) (by omega)
  omega
 have td : (x + ((-(A c i).1 : Int) : Rat)).den ≤ M := by rw [a2]; exact hd
 generalize hT : x + ((-(A c i).1 : Int) : Rat) = t at tn td ⊢
 have e1 : (fr t).1 = t.num := rfl
 have e2 : (fr t).2 = (t.den : Int) := rfl
 have w1 : w64 ((B c i).2 - (A c i).2) = (B c i).2 - (A c i).2 := w64_in (by omega) (by omega)
 have w2 : w64 ((B c i).1 - (A c i).1) = (B c i).1 - (A c i).1 := w64_in (by omega) (by omega)
 have m1 : (t.num * ((B c i).2 - (A c i).2)).natAbs ≤ (N + 3600 * M) * 1800 := by rw [Int.natAbs_mul]; exact Nat.mul_le_mul tn (by omega)
 have m2 : ((t.den : Int) * ((B c i).1 - (A c i).1)).natAbs ≤ M * 3600 := by rw [Int.natAbs_mul]; exact Nat.mul_le_mul (by omega) (by omega)
 have tp := den_pos t
 have m3 : 0 < (t.den : Int) * ((B c i).1 - (A c i).1) := Int.mul_pos tp (by omega)
 rw [e1, e2, w1, w2, w64_in (x := t.num * ((B c i).2 - (A c i).2)) (by omega) (by omega), w64_in (x := (t.den : Int) * ((B c i).1 - (A c i).1)) (by omega) (by omega), F89_eq ⟨by omega, by omega⟩ ⟨by omega, by omega⟩ (by omega)]
 simp only [Option.bind_some]
 have ev : Rat.divInt (t.num * ((B c i).2 - (A c i).2)) ((t.den : Int) * ((B c i).1 - (A c i).1)) = t * Rat.divInt ((B c i).2 - (A c i).2) ((B c i).1 - (A c i).1) := by
  rw [← Rat.divInt_mul_divInt, Rat.num_divInt_den]
 have zn : (Rat.divInt (t.num * ((B c i).2 - (A c i).2)) ((t.den : Int) * ((B c i).1 - (A c i).1))).num.natAbs ≤ (N + 3600 * M) * 1800 := by
  rw [Rat.num_divInt, Int.sign_eq_one_of_pos m3, Int.one_mul]
  exact Nat.le_trans (Int.natAbs_ediv_le_natAbs _ _) m1
 have zd : (Rat.divInt (t.num * ((B c i).2 - (A c i).2)) ((t.den : Int) * ((B c i).1 - (A c i).1))).den ≤ M * 3600 := by
  rw [Rat.den_divInt, if_neg (by omega)]
  exact Nat.le_trans (Nat.div_le_self _ _) m2
 generalize Rat.divInt (t.num * ((B c i).2 - (A c i).2)) ((t.den : Int) * ((B c i).1 - (A c i).1)) = z at ev zn zd ⊢
 have := F77_fr (x := ((A c i).2 : Rat)) (y := z) (b62_two 900 (M * 3600) (by show (A c i).2.natAbs ≤ 900; omega) (by show ((z.den : Nat) : Int).natAbs ≤ _; omega) (by omega)) (b62_two ((N + 3600 * M) * 1800) 1 zn (by show ((1 : Nat) : Int).natAbs ≤ 1; decide) (by omega)) (b62 1 (M * 3600) (by show ((1 : Nat) : Int).natAbs ≤ 1; decide) (by show ((z.den : Nat) : Int).natAbs ≤ _; omega) (by omega))
 rw [F55_eq, Option.bind_some]
 dsimp only
 rw [show F77 (A c i).2 1 [((fr z).1, (fr z).2)] = some (fr (((A c i).2 : Rat) + z)) from this]
 simp only [Option.bind_some]
 unfold devAt
 rw [hT, ← ev]
theorem dev_loop (hc : Ok c) {M N : Nat} (hs : Sm M N x) (hM : M ≤ 6000) (hN : N ≤ 100000000) (h0 : ((A c 0).1 : Rat) ≤ x) (h1 : x < (((A c 0).1 + 3600 : Int) : Rat)) : ∀ (d v : Nat), v + d = c.length → (∀ j, j < v → ¬ x < ((B c j).1 : Rat)) →
 ∃ i, Lies c i x ∧ F54l0 c (fr x) v = some (.inl (fr (devAt c i x))) := by
 have hcl := hc.le
 intro d
 induction d with
 | zero =>
  intro v hd hno
  have hp := hc.pos
  refine absurd ?_ (hno (c.length - 1) (by omega))
  have : (B c (c.length - 1)).1 = (A c 0).1 + 3600 := by unfold B; rw [if_pos (by omega)]
  rw [this]; exact h1
 | succ d ih =>
  intro v hd hno
  have hlt : v < c.length := by omega
  obtain ⟨s1, s2, s3, s4, s5⟩ := hc.seg hlt
  have r := hc.rng v hlt
  have r0 := hc.rng 0 hc.pos
  rw [F54l0, if_pos (by simp; omega), if_pos ⟨by omega, by omega⟩]
  simp only [Option.bind_eq_bind, show ((v : Int)).toNat = v from rfl]
  rw [show c.getD v (0, 0) = A c v from rfl, Option.bind_some]
  have main : ∃ i, Lies c i x ∧ ((F55 (B c v).1).bind fun r112 => (F87 (fr x).1 (fr x).2 r112.1 r112.2).bind fun r114 => if decide (r114 < 0) = true then ((F55 (w64 (0 - (A c v).1))).bind fun r117 => (F77 (fr x).1 (fr x).2 [(r117.1, r117.2)]).bind fun r119 => (F55 (A c v).2).bind fun r121 => (F89 (w64 (r119.1 * w64 ((A c ((v + 1) % c.length)).2 - (A c v).2))) (w64 (r119.2 * w64 ((B c v).1 - (A c v).1)))).bind fun r123 => (F77 r121.1 r121.2 [(r123.1, r123.2)]).bind fun r125 => some (Sum.inl (r125.1, r125.2))) else F54l0 c (fr x) (w64 ((v : Int) + 1))) = some (.inl (fr (devAt c i x))) := by
   rw [F55_eq, Option.bind_some, cmp_int (B c v).1 hs (by omega) (by omega) (by omega), Option.bind_some, neg_of_cmp, next_snd hlt]
   by_cases hx : x < ((B c v).1 : Rat)
   · refine ⟨v, ⟨hlt, ?_, hx⟩, ?_⟩
     · by_cases hv : v = 0
       · rw [hv]; exact h0
       have e : (B c (v - 1)).1 = (A c v).1 := by unfold B; rw [if_neg (by omega), show v - 1 + 1 = v by omega]
       have := hno (v - 1) (by omega)
       rw [e] at this
       exact Rat.not_lt.1 this
     rw [decide_eq_true hx, if_pos rfl]
     exact dev_code hc hlt hs hM hN _
   rw [decide_eq_false hx, if_neg (by decide), w64_up (by omega)]
   exact ih (v + 1) (by omega) (fun j hj => by
    by_cases e : j = v
    · rw [e]; exact hx
    exact hno j (by omega))
  obtain ⟨i, hl, e⟩ := main
  exact ⟨i, hl, (seg_code (by omega) (by omega) hlt _).trans e⟩
theorem F54_eq (hc : Ok c) {M : Nat} (hd : x.den ≤ M) (hM : M ≤ 6000) (h0 : 0 ≤ x) (h1 : x < ((3600 : Int) : Rat)) : ∃ i, Lies c i (norm c x) ∧ F54 c (fr x).1 (fr x).2 = some (fr (devAt c i (norm c x))) := by
 have r0 := hc.rng 0 hc.pos
 have hp := hc.pos
 have hn1 := lt_int.1 h1
 have hn0 : 0 ≤ x.num := Rat.num_nonneg.2 h0
 have hs : Sm M (3600 * M) x := ⟨hd, by
  have : (3600 : Int) * x.den ≤ 3600 * M := by omega
  omega⟩
 have fin : ∀ y : Rat, Sm M (7200 * M) y → ((A c 0).1 : Rat) ≤ y → y < (((A c 0).1 + 3600 : Int) : Rat) → ∃ i, Lies c i y ∧ ((F54l0 c (fr y) 0).bind fun r128 => match r128 with | .inl o130 => some (o130.1, o130.2) | .inr o131 => (F55 0).bind fun r132 => some (r132.1, r132.2)) = some (fr (devAt c i y)) := by
  intro y hy y0 y1
  obtain ⟨i, hl, e⟩ := dev_loop hc hy hM (by omega) y0 y1 c.length 0 (by omega) (fun j hj => by omega)
  have e' : F54l0 c (fr y) 0 = some (.inl (fr (devAt c i y))) := e
  exact ⟨i, hl, by rw [e']; rfl⟩
 unfold F54
 rw [if_pos ⟨by decide, by omega⟩]
 simp only [Option.bind_eq_bind, Option.bind_some]
 rw [show List.getD c (Int.toNat 0) (0, 0) = A c 0 from rfl, F55_eq]
 simp only [Option.bind_some]
 rw [cmp_int (A c 0).1 hs (by omega) (by omega) (by omega)]
 simp only [Option.bind_some]
 rw [neg_of_cmp]
 unfold norm
 by_cases hx : x < ((A c 0).1 : Rat)
 · rw [if_pos hx, decide_eq_true hx]
   simp only [if_true]
   rw [F55_eq, Option.bind_some, plus_int 3600 hs (by decide) (by omega) (by omega)]
   obtain ⟨a1, a2⟩ := add_int x 3600
   refine fin _ ⟨by rw [a2]; exact hd, by rw [a1]; omega⟩ ?_ ?_
   · rw [int_le, a1, a2]
     have h2 := lt_int.1 hx
     have hdp := den_pos x
     have : (A c 0).1 * (x.den : Int) ≤ 3600 * x.den := Int.mul_le_mul_of_nonneg_right (by omega) (by omega)
     omega
   rw [lt_int, a1, a2, Int.add_mul]
   have h2 := lt_int.1 hx
   omega
 rw [if_neg hx, decide_eq_false hx]
 simp only [Bool.false_eq_true, if_false]
 refine fin x ⟨hd, by have := hs.num; omega⟩ (Rat.not_lt.1 hx) ?_
 rw [lt_int, Int.add_mul]
 have hdp := den_pos x
 have : 0 ≤ (A c 0).1 * (x.den : Int) := Int.mul_nonneg (by omega) (by omega)
 omega
end
end Go.Proofs.Ythpfffijnkmdgaa.plain
