/- CardFollowed: the plain law. -/
import Derived.Test.YthpfffijnkmdgaaLG
import Derived.Test.YthpfffijnkmdgaaG11
set_option linter.unusedVariables false
set_option linter.unusedSimpArgs false
set_option maxRecDepth 100000
namespace Go.Proofs.Ythpfffijnkmdgaa.plain
open Go Go.Cl
theorem num_le {x : Rat} {K : Nat} (h0 : -((K : Int) : Rat) ≤ x) (h1 : x ≤ ((K : Int) : Rat)) : x.num.natAbs ≤ K * x.den := by
 have a := (Rat.le_iff _ _).1 h1
 have b := (Rat.le_iff _ _).1 h0
 have e1 : (((K : Int) : Rat)).num = (K : Int) := rfl
 have e2 : (((K : Int) : Rat)).den = 1 := rfl
 have e3 : (-((K : Int) : Rat)).num = -(K : Int) := rfl
 have e4 : (-((K : Int) : Rat)).den = 1 := rfl
 rw [e1, e2] at a
 rw [e3, e4, Int.neg_mul] at b
 have e5 : ((K * x.den : Nat) : Int) = (K : Int) * x.den := Int.natCast_mul _ _
 have e6 : ((x.den : Nat) : Int) = (x.den : Int) := rfl
 omega
theorem F46_small2 {x : Rat} (hd : x.den ≤ 5400) (h1 : -((785 : Int) : Rat) ≤ x) (h2 : x ≤ ((785 : Int) : Rat)) : F46 (fr x).1 (fr x).2 = some true := by
 have hp := den_pos x
 have hn := num_le (K := 785) h1 h2
 have e5 : ((785 * x.den : Nat) : Int) = 785 * (x.den : Int) := Int.natCast_mul _ _
 show F46 x.num x.den = _
 unfold F46
 rw [decide_eq_true (show (x.den : Int) ≥ 1 by omega), decide_eq_true (show (x.den : Int) ≤ 6000 by omega), w64_in (x := 10000 * (x.den : Int)) (by omega) (by omega), w64_in (x := (-10000) * (x.den : Int)) (by omega) (by omega), decide_eq_true (show x.num < 10000 * (x.den : Int) by omega), decide_eq_true (show x.num > -10000 * (x.den : Int) by omega)]
 rfl
structure Two (c d : Card) (n : Int) (d1 d2 x2 : Rat) (j : Nat) : Prop where
 den1 : d1.den ≤ 3600
 lo1 : -((785 : Int) : Rat) ≤ d1
 hi1 : d1 ≤ ((785 : Int) : Rat)
 ex2 : x2 = rm ((n : Rat) + d1)
 lies : Lies d j (norm d x2)
 ed2 : d2 = devAt d j (norm d x2)
 den2 : d2.den ≤ 3600 * 3600
 lo2 : -((785 : Int) : Rat) ≤ d2
 hi2 : d2 ≤ ((785 : Int) : Rat)
 f1 : F54 c n 1 = some (fr d1)
 f2 : F77 n 1 [((fr d1).1, (fr d1).2)] = some (fr ((n : Rat) + d1))
 f3 : F73 (fr ((n : Rat) + d1)).1 (fr ((n : Rat) + d1)).2 = some (fr x2)
 f4 : F54 d (fr x2).1 (fr x2).2 = some (fr d2)
 f5 : F77 (fr x2).1 (fr x2).2 [((fr d2).1, (fr d2).2)] = some (fr (x2 + d2))
 f6 : F73 (fr (x2 + d2)).1 (fr (x2 + d2)).2 = some (fr (rm (x2 + d2)))
 f7 : F77 0 1 [((fr d1).1, (fr d1).2)] = some (fr d1)
 f8 : F77 0 1 [((fr d1).1, (fr d1).2), ((fr d2).1, (fr d2).2)] = some (fr (d1 + d2))
 dens : ((d1 + d2).den : Int) ≤ 3600 * 3600
theorem norm_den {d : Card} {x : Rat} : (norm d x).den = x.den := by
 unfold norm
 split
 · exact (add_int x 3600).2
 rfl
theorem rose_dev {c : Card} (hr : Rose c) (hc : Ok c) {i : Nat} {y : Rat} (h : Lies c i y) : -((785 : Int) : Rat) ≤ devAt c i y ∧ devAt c i y ≤ ((785 : Int) : Rat) := by
 have p := hr.pts i h.1
 have q := B_rose hr h.1
 exact dev_rng hc h (K := 785) ⟨by omega, by omega⟩ ⟨by omega, by omega⟩
theorem two_of {c d : Card} {n : Int} (hc : Ok c) (hd : Ok d) (rc : Rose c) (rd : Rose d) (n0 : 0 ≤ n) (n1 : n < 3600) : ∃ d1 d2 x2 j, Two c d n d1 d2 x2 j := by
 have h0 : (0 : Rat) ≤ ((n : Int) : Rat) := Rat.intCast_nonneg.2 n0
 have h1 : ((n : Int) : Rat) < ((3600 : Int) : Rat) := Rat.intCast_lt_intCast.2 n1
 obtain ⟨i, l1, f1⟩ := F54_eq hc (x := (n : Rat)) (M := 1) (Nat.le_refl _) (by omega) h0 h1
 obtain ⟨lo1, hi1⟩ := rose_dev rc hc l1
 have den1 := dev_den (y := norm c (n : Rat)) hc l1.1
 rw [norm_den, Rat.den_intCast] at den1
 generalize devAt c i (norm c (n : Rat)) = d1 at *
 have den1' : d1.den ≤ 3600 := by omega
 have num1 := num_le (K := 785) lo1 hi1
 have num1' : d1.num.natAbs ≤ 785 * 3600 := Nat.le_trans num1 (Nat.mul_le_mul_left _ den1')
 have hb0 : ((-3600 : Int) : Rat) ≤ (n : Rat) + d1 := by grind
 have hb1 : (n : Rat) + d1 < ((7200 : Int) : Rat) := by grind
 obtain ⟨a1, a2⟩ := add_int d1 n
 rw [Rat.add_comm] at a1 a2
 have r := rm_rng hb0 hb1
 have rd1 := rm_den ((n : Rat) + d1)
 have f2 : F77 n 1 [((fr d1).1, (fr d1).2)] = some (fr ((n : Rat) + d1)) := F77_fr (x := (n : Rat)) (y := d1) (b62_two 3600 3600 (by show n.natAbs ≤ 3600; omega) (by omega) (by decide)) (b62_two (785 * 3600) 1 num1' (by show ((1 : Nat) : Int).natAbs ≤ 1; decide) (by decide)) (b62 1 3600 (by show ((1 : Nat) : Int).natAbs ≤ 1; decide) (by omega) (by decide))
 have f3 := F73_rm (x := (n : Rat) + d1) (by rw [a2]; omega) hb0 hb1
 obtain ⟨x2, hx2⟩ : ∃ x2, x2 = rm ((n : Rat) + d1) := ⟨_, rfl⟩
 rw [← hx2] at r f3 rd1
 have xd : x2.den ≤ 3600 := by rw [rd1, a2]; exact den1'
 obtain ⟨j, l2, f4⟩ := F54_eq hd (x := x2) (M := 3600) xd (by omega) r.1 r.2
 obtain ⟨lo2, hi2⟩ := rose_dev rd hd l2
 have den2 := dev_den (y := norm d x2) hd l2.1
 obtain ⟨N2, e2⟩ := dev_frac (y := norm d x2) hd l2.1
 rw [norm_den] at den2 e2
 obtain ⟨d2, hd2⟩ : ∃ d2, d2 = devAt d j (norm d x2) := ⟨_, rfl⟩
 rw [← hd2] at f4 lo2 hi2 den2 e2
 have den2' : d2.den ≤ 3600 * 3600 := by omega
 have num2 := num_le (K := 785) lo2 hi2
 have num2' : d2.num.natAbs ≤ 785 * (3600 * 3600) := Nat.le_trans num2 (Nat.mul_le_mul_left _ den2')
 have xn0 := Rat.num_nonneg.2 r.1
 have xn1 := lt_int.1 r.2
 have f5 : F77 (fr x2).1 (fr x2).2 [((fr d2).1, (fr d2).2)] = some (fr (x2 + d2)) := F77_fr (x := x2) (y := d2) (b62_two (3600 * 3600) (3600 * 3600) (by omega) (by omega) (by decide)) (b62_two (785 * (3600 * 3600)) 3600 num2' (by omega) (by decide)) (b62 3600 (3600 * 3600) (by omega) (by omega) (by decide))
 have sumd : ∀ (u v : Rat) (P Q : Int), u = Rat.divInt P Q → v = Rat.divInt P Q → u = v := fun u v P Q a b => by rw [a, b]
 have f6d : (x2 + d2).den ≤ 1000000000000 := by
  have hq : (0 : Int) < (x2.den : Int) * d2.den := Int.mul_pos (den_pos x2) (den_pos d2)
  have e : x2 + d2 = Rat.divInt (x2.num * d2.den + d2.num * x2.den) ((x2.den : Int) * d2.den) := by
   rw [← Rat.divInt_add_divInt _ _ (by have := den_pos x2; omega) (by have := den_pos d2; omega), Rat.num_divInt_den, Rat.num_divInt_den]
  have h := den_le e hq
  have h2 : ((x2.den : Int) * d2.den).natAbs ≤ 3600 * (3600 * 3600) := by rw [Int.natAbs_mul]; exact Nat.mul_le_mul (by omega) (by omega)
  omega
 have f6 := F73_rm (x := x2 + d2) f6d (by grind) (by grind)
 have f7 : F77 0 1 [((fr d1).1, (fr d1).2)] = some (fr d1) := by
  have := F77_fr (x := ((0 : Int) : Rat)) (y := d1) (b62_two 0 3600 (by show (0 : Int).natAbs ≤ 0; decide) (by omega) (by decide)) (b62_two (785 * 3600) 1 num1' (by show ((1 : Nat) : Int).natAbs ≤ 1; decide) (by decide)) (b62 1 3600 (by show ((1 : Nat) : Int).natAbs ≤ 1; decide) (by omega) (by decide))
  have e : ((0 : Int) : Rat) + d1 = d1 := by grind
  rw [e] at this
  exact this
 have f9 : F77 (fr d1).1 (fr d1).2 [((fr d2).1, (fr d2).2)] = some (fr (d1 + d2)) := F77_fr (x := d1) (y := d2) (b62_two (785 * 3600) (3600 * 3600) num1' (by omega) (by decide)) (b62_two (785 * (3600 * 3600)) 3600 num2' (by omega) (by decide)) (b62 3600 (3600 * 3600) (by omega) (by omega) (by decide))
 refine ⟨d1, d2, x2, j, ⟨den1', lo1, hi1, hx2, l2, hd2, den2', lo2, hi2, f1, f2, f3, f4, f5, f6, f7, ?_, ?_⟩⟩
 · rw [F77_two, f7]; exact f9
 obtain ⟨s1, s2, s3, s4, s5⟩ := hd.seg l2.1
 have xp := den_pos x2
 have hL : (0 : Int) < (x2.den : Int) * ((B d j).1 - (A d j).1) := Int.mul_pos xp (by omega)
 have e1 : d1 = Rat.divInt (d1.num * ((B d j).1 - (A d j).1)) ((x2.den : Int) * ((B d j).1 - (A d j).1)) := by
  rw [Rat.divInt_mul_right (by omega), rd1, a2, Rat.num_divInt_den]
 have e : d1 + d2 = Rat.divInt (d1.num * ((B d j).1 - (A d j).1) + N2) ((x2.den : Int) * ((B d j).1 - (A d j).1)) := by
  rw [e2]
  conv => lhs; rw [e1]
  rw [Rat.divInt_eq_div, Rat.divInt_eq_div, Rat.divInt_eq_div, Rat.intCast_add]
  generalize (((x2.den : Int) * ((B d j).1 - (A d j).1) : Int) : Rat) = q
  grind
 have h := den_le e hL
 have h2 : ((x2.den : Int) * ((B d j).1 - (A d j).1)).natAbs ≤ 3600 * 3600 := by rw [Int.natAbs_mul]; exact Nat.mul_le_mul (by omega) (by omega)
 omega
end Go.Proofs.Ythpfffijnkmdgaa.plain
namespace Go.Proofs.Ythpfffijnkmdgaa
open Go Go.Cl plain
theorem plain (p0 : List (Int × Int)) (p1 : Int) (p2 : List (Int × Int)) (p3 p4 : Int) (wp0 : ∀ x ∈ p0, (Lit.int .u16 x.1).wf = true ∧ (Lit.int .u16 x.2).wf = true) (wp1 : (Lit.int .u8 p1).wf = true) (wp2 : ∀ x ∈ p2, (Lit.int .u16 x.1).wf = true ∧ (Lit.int .u16 x.2).wf = true) (wp3 : (Lit.int .u8 p3).wf = true) (wp4 : (Lit.int .u16 p4).wf = true) : F11 p0 p1 p2 p3 p4 = some true := by
 obtain ⟨c, f38, hr, hc⟩ := made (fun x hx => ⟨u16_of (wp0 x hx).1, u16_of (wp0 x hx).2⟩) (u8_of wp1)
 obtain ⟨d, g38, gr, hd⟩ := made (fun x hx => ⟨u16_of (wp2 x hx).1, u16_of (wp2 x hx).2⟩) (u8_of wp3)
 obtain ⟨u0, u1⟩ := u16_of wp4
 have hl := hr.le
 have gl := gr.le
 obtain ⟨t1, t2, t3⟩ := tmod_in (x := p4) (S := 3600) u0 (by decide)
 obtain ⟨n, hn⟩ : ∃ n, Int.tmod (w64 p4) 3600 = n := ⟨_, rfl⟩
 have hn' : n = p4 % 3600 := by rw [← hn, w64_in (by omega) (by omega), t1]
 have n0 : 0 ≤ n := by omega
 have n1 : n < 3600 := by omega
 obtain ⟨d1, d2, x2, j, T⟩ := two_of (c := c) (d := d) (n := n) hc hd hr gr n0 n1
 have ck1 := ck_of hc
 have ck2 := ck_of hd
 have f17 : F17 c n = some (fr d1, 0) := by
  unfold F17
  rw [F22_eq (by omega), ck1]
  simp only [Option.bind_eq_bind, Option.bind_some, bne_self_eq_false, Bool.false_eq_true, if_false]
  rw [F53_eq, decide_eq_true ⟨n0, n1⟩]
  simp only [Option.bind_some, Bool.not_true, Bool.false_eq_true, if_false]
  rw [F55_eq, Option.bind_some]
  dsimp only
  rw [T.f1]
  rfl
 have f31 : F31 c n = some (fr d1, 0) := by
  unfold F31
  rw [F22_eq (by omega), ck1]
  simp only [Option.bind_eq_bind, Option.bind_some, bne_self_eq_false, Bool.false_eq_true, if_false]
  rw [F53_eq, decide_eq_true ⟨n0, n1⟩]
  simp only [Option.bind_some, Bool.not_true, Bool.false_eq_true, if_false]
  rw [F55_eq, Option.bind_some]
  dsimp only
  rw [T.f1]
  simp only [Option.bind_some]
  rw [T.f2]
  simp only [Option.bind_some]
  rw [T.f3]
  simp only [Option.bind_some]
  rw [F55_eq, Option.bind_some]
  dsimp only
  rw [T.f7]
  rfl
 have f31k : F31k1 c d n = some (fr (d1 + d2), 0) := by
  unfold F31k1
  rw [F22_eq (by omega), ck1, F22_eq (by omega), ck2]
  simp only [Option.bind_eq_bind, Option.bind_some, bne_self_eq_false, Bool.false_eq_true, if_false]
  rw [F53_eq, decide_eq_true ⟨n0, n1⟩]
  simp only [Option.bind_some, Bool.not_true, Bool.false_eq_true, if_false]
  rw [F55_eq, Option.bind_some]
  dsimp only
  rw [T.f1]
  simp only [Option.bind_some]
  rw [T.f2]
  simp only [Option.bind_some]
  rw [T.f3]
  simp only [Option.bind_some]
  rw [T.f4]
  simp only [Option.bind_some]
  rw [if_pos (by simp), T.f5]
  simp only [Option.bind_some]
  rw [T.f6]
  simp only [Option.bind_some]
  rw [F55_eq, Option.bind_some]
  dsimp only
  rw [show [((fr d1).1, (fr d1).2)] ++ [((fr d2).1, (fr d2).2)] = [((fr d1).1, (fr d1).2), ((fr d2).1, (fr d2).2)] from rfl, T.f8]
  rfl
 have f46 := F46_small2 (x := d1) (by have := T.den1; omega) T.lo1 T.hi1
 have p1p := den_pos d1
 have den1 := T.den1
 have num1 := num_le (K := 785) T.lo1 T.hi1
 have num1' : d1.num.natAbs ≤ 785 * 3600 := Nat.le_trans num1 (Nat.mul_le_mul_left _ den1)
 have hlo := T.lo1
 have hhi := T.hi1
 have h0 : (0 : Rat) ≤ ((n : Int) : Rat) := Rat.intCast_nonneg.2 n0
 have h1 : ((n : Int) : Rat) < ((3600 : Int) : Rat) := Rat.intCast_lt_intCast.2 n1
 have hb0 : ((-3600 : Int) : Rat) ≤ (n : Rat) + d1 := by grind
 have hb1 : (n : Rat) + d1 < ((7200 : Int) : Rat) := by grind
 obtain ⟨a1, a2⟩ := add_int d1 n
 rw [Rat.add_comm] at a1 a2
 have rr := rm_rng hb0 hb1
 have rd1 := rm_den ((n : Rat) + d1)
 have rn := rm_num hb0 hb1
 rw [← T.ex2] at rr rd1 rn
 rw [a2] at rd1 rn
 rw [a1] at rn
 have bnd : (n * (d1.den : Int)).natAbs ≤ 3600 * 3600 := by rw [Int.natAbs_mul]; exact Nat.mul_le_mul (by omega) (by omega)
 have tb : -(3600 * (d1.den : Int)) < Int.tmod (d1.num + n * (d1.den : Int)) (3600 * (d1.den : Int)) ∧ Int.tmod (d1.num + n * (d1.den : Int)) (3600 * (d1.den : Int)) < 3600 * (d1.den : Int) := ⟨Int.lt_tmod_of_pos _ (by omega), Int.tmod_lt_of_pos _ (by omega)⟩
 have hat : Int.tmod (w64 (Int.tmod (w64 (w64 (n * (d1.den : Int)) + d1.num)) (w64 (3600 * (d1.den : Int))) + w64 (3600 * (d1.den : Int)))) (w64 (3600 * (d1.den : Int))) = x2.num := by
  rw [w64_in (x := 3600 * (d1.den : Int)) (by omega) (by omega), w64_in (x := n * (d1.den : Int)) (by omega) (by omega), w64_in (x := n * (d1.den : Int) + d1.num) (by omega) (by omega), Int.add_comm (n * (d1.den : Int)) d1.num, w64_in (by omega) (by omega), tmod_fix (by omega), rn]
 obtain ⟨j', N, D, l41, f41, D0, D1, hND⟩ := F41_eq (c := d) (x := x2) hd (by rw [rd1]; omega) rr.1 rr.2
 have ej := Lies.uniq hd l41 T.lies
 subst ej
 rw [← T.ed2] at hND
 have hs1 := T.lo2
 have hs2 := T.hi2
 have hsd := T.dens
 have slo : -((1570 : Int) : Rat) ≤ d1 + d2 := by grind
 have shi : d1 + d2 ≤ ((1570 : Int) : Rat) := by grind
 have sp := den_pos (d1 + d2)
 have snum := num_le (K := 1570) slo shi
 have snum' : (d1 + d2).num.natAbs ≤ 1570 * (3600 * 3600) := Nat.le_trans snum (Nat.mul_le_mul_left _ (by omega))
 have hY : norm d x2 = x2 ∨ norm d x2 = x2 + ((3600 : Int) : Rat) := by unfold norm; split <;> simp
 have hNle : Rat.divInt N D < ((20000 : Int) : Rat) := by rw [hND]; rcases hY with e | e <;> rw [e] <;> grind
 have hNge : ((-20000 : Int) : Rat) ≤ Rat.divInt N D := by rw [hND]; rcases hY with e | e <;> rw [e] <;> grind
 rw [divInt_lt D0] at hNle
 rw [le_divInt D0] at hNge
 have bN : N.natAbs ≤ 20000 * (3600 * 6000) := by omega
 have x2p := den_pos x2
 have x2n0 := Rat.num_nonneg.2 rr.1
 have x2n1 := lt_int.1 rr.2
 rw [rd1] at x2n1
 have b1 : (d1.num * D).natAbs ≤ 785 * 3600 * (3600 * 6000) := by rw [Int.natAbs_mul]; exact Nat.mul_le_mul num1' (by omega)
 have b2 : (N * (d1.den : Int)).natAbs ≤ 20000 * (3600 * 6000) * 3600 := by rw [Int.natAbs_mul]; exact Nat.mul_le_mul bN (by omega)
 have b3 : (x2.num * D).natAbs ≤ 3600 * 3600 * (3600 * 6000) := by rw [Int.natAbs_mul]; exact Nat.mul_le_mul (by omega) (by omega)
 have b4 : ((d1.den : Int) * D).natAbs ≤ 3600 * (3600 * 6000) := by rw [Int.natAbs_mul]; exact Nat.mul_le_mul (by omega) (by omega)
 have hQ : 0 < (d1.den : Int) * D := Int.mul_pos p1p D0
 have dR : ((d1.den : Int) : Rat) ≠ 0 := fun e => by have := Rat.intCast_eq_zero_iff.1 e; omega
 have DR : (D : Rat) ≠ 0 := fun e => by have := Rat.intCast_eq_zero_iff.1 e; omega
 have q1 : (d1.num : Rat) = d1 * ((d1.den : Int) : Rat) := by
  have := Rat.div_mul_cancel (a := (d1.num : Rat)) dR
  rw [← Rat.divInt_eq_div, Rat.num_divInt_den] at this
  exact this.symm
 have q2 : (x2.num : Rat) = x2 * ((d1.den : Int) : Rat) := by
  have := Rat.div_mul_cancel (a := (x2.num : Rat)) dR
  rw [← Rat.divInt_eq_div, ← rd1, Rat.num_divInt_den] at this
  rw [← rd1]
  exact this.symm
 have q3 : (N : Rat) = (norm d x2 + d2) * (D : Rat) := by
  rw [← hND, Rat.divInt_eq_div, Rat.div_mul_cancel DR]
 have own : Rat.divInt (d1.num * D + N * (d1.den : Int) - x2.num * D) ((d1.den : Int) * D) = d1 + (norm d x2 + d2) - x2 := by
  rw [Rat.divInt_eq_div]
  simp only [Rat.intCast_sub, Rat.intCast_add, Rat.intCast_mul]
  rw [q1, q2, q3]
  generalize ((d1.den : Int) : Rat) = q at *
  generalize (D : Rat) = E at *
  generalize norm d x2 = Y at *
  grind
 obtain ⟨P, hP⟩ : ∃ P, P = d1.num * D + N * (d1.den : Int) - x2.num * D := ⟨_, rfl⟩
 rw [← hP] at own
 have m37 : ∃ M, (if decide (P ≥ 1800 * ((d1.den : Int) * D)) = true then some (P - 3600 * ((d1.den : Int) * D)) else some P) = some M ∧ Rat.divInt M ((d1.den : Int) * D) = d1 + d2 ∧ M.natAbs ≤ 10000000000000000 := by
  rcases hY with e | e
  · rw [e] at own
    have own' : Rat.divInt P ((d1.den : Int) * D) = d1 + d2 := by rw [own]; grind
    have hlt : ¬ P ≥ 1800 * ((d1.den : Int) * D) := by
     have : Rat.divInt P ((d1.den : Int) * D) < ((1800 : Int) : Rat) := by rw [own']; grind
     have := (divInt_lt hQ).1 this
     omega
    refine ⟨P, by rw [if_neg (by simpa using hlt)], own', by omega⟩
  rw [e] at own
  have hge : P ≥ 1800 * ((d1.den : Int) * D) := by
   have : ((1800 : Int) : Rat) ≤ Rat.divInt P ((d1.den : Int) * D) := by rw [own]; grind
   have := (le_divInt hQ).1 this
   omega
  refine ⟨P - 3600 * ((d1.den : Int) * D), by rw [if_pos (by simpa using hge)], ?_, by omega⟩
  have QR : (((d1.den : Int) * D : Int) : Rat) ≠ 0 := fun e => by have := Rat.intCast_eq_zero_iff.1 e; omega
  rw [Rat.divInt_eq_div] at own ⊢
  rw [Rat.intCast_sub, Rat.intCast_mul 3600]
  generalize (((d1.den : Int) * D : Int) : Rat) = Q at *
  grind
 obtain ⟨M, hM, hMs, hMb⟩ := m37
 obtain ⟨z1, z2⟩ := quot_eq hQ hMs
 have k1 : (Int.tdiv M ((d1.den : Int) * D)).natAbs ≤ M.natAbs := Int.natAbs_tdiv_le_natAbs _ _
 have k2 : (Int.tmod M ((d1.den : Int) * D) * ((d1 + d2).den : Int)).natAbs ≤ 3600 * (3600 * 6000) * (3600 * 3600) := by
  rw [Int.natAbs_mul]
  refine Nat.mul_le_mul ?_ (by omega)
  have t1 := Int.lt_tmod_of_pos M hQ
  have t2 := Int.tmod_lt_of_pos M hQ
  omega
 unfold F11
 rw [f38]
 simp only [Option.bind_eq_bind, Option.bind_some]
 rw [g38, hn]
 simp only [Option.bind_some]
 rw [f17, f31, f31k]
 simp only [Option.bind_some, bne_self_eq_false, Bool.false_eq_true, if_false, beq_self_eq_true, Bool.and_self, Bool.not_true]
 rw [f46]
 simp only [Option.bind_some, Bool.not_true, Bool.false_eq_true, if_false]
 rw [show (fr d1).2 = (d1.den : Int) from rfl, show (fr d1).1 = d1.num from rfl, if_neg (by rw [w64_in (by omega) (by omega)]; omega), hat]
 rw [show F44 x2.num (d1.den : Int) = some (x2.num, (d1.den : Int)) from rfl]
 simp only [Option.bind_some]
 rw [show F41 d x2.num (d1.den : Int) = F41 d (fr x2).1 (fr x2).2 by rw [← rd1]; rfl, f41]
 simp only [Option.bind_some]
 rw [show (fr (d1 + d2)).1 = (d1 + d2).num from rfl, show (fr (d1 + d2)).2 = ((d1 + d2).den : Int) from rfl]
 rw [if_neg (by simp), if_neg (by simp; omega), if_neg (by simp; omega), if_neg (by simp; omega), decide_eq_false (show ¬ (d1 + d2).num < -274877906944 by omega)]
 simp only [Option.bind_some, Bool.false_eq_true, if_false]
 rw [w64_in (x := d1.num * D) (by omega) (by omega), w64_in (x := N * (d1.den : Int)) (by omega) (by omega), w64_in (x := d1.num * D + N * (d1.den : Int)) (by omega) (by omega), w64_in (x := x2.num * D) (by omega) (by omega), w64_in (x := d1.num * D + N * (d1.den : Int) - x2.num * D) (by omega) (by omega), w64_in (x := (d1.den : Int) * D) (by omega) (by omega), ← hP]
 rw [show F44 P ((d1.den : Int) * D) = some (P, (d1.den : Int) * D) from rfl]
 simp only [Option.bind_some]
 rw [w64_in (x := 1800 * ((d1.den : Int) * D)) (by omega) (by omega), w64_in (x := 3600 * ((d1.den : Int) * D)) (by omega) (by omega), w64_in (x := P - 3600 * ((d1.den : Int) * D)) (by omega) (by omega), hM]
 simp only [Option.bind_some]
 rw [if_neg (by omega), if_neg (by omega), z1, z2, if_pos (by simp), if_pos (by simp)]
 rfl
end Go.Proofs.Ythpfffijnkmdgaa
