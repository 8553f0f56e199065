/- CardAllowed: the plain law. -/
import Derived.Test.YthpfffijnkmdgaaLM
import Derived.Test.YthpfffijnkmdgaaG10
set_option linter.unusedVariables false
set_option maxRecDepth 100000
namespace Go.Proofs.Ythpfffijnkmdgaa.plain
open Go Go.Cl
theorem F46_small {x : Rat} (hs : Sm 5400 (20000 * 5400) x) (h1 : -((10000 : Int) : Rat) < x) (h2 : x < ((10000 : Int) : Rat)) : F46 (fr x).1 (fr x).2 = some true := by
 have hp := den_pos x
 have hd := hs.den
 have n2 := lt_int.1 h2
 have n1 : -(10000 * (x.den : Int)) < x.num := by
  have := Rat.lt_iff (-((10000 : Int) : Rat)) x
  have h := this.1 h1
  have e1 : (-((10000 : Int) : Rat)).num = -10000 := rfl
  have e2 : (-((10000 : Int) : Rat)).den = 1 := rfl
  rw [e1, e2] at h
  omega
 show F46 x.num x.den = _
 unfold F46
 rw [decide_eq_true (show (x.den : Int) ≥ 1 by omega), decide_eq_true (show (x.den : Int) ≤ 6000 by omega), w64_in (x := 10000 * (x.den : Int)) (by omega) (by omega), w64_in (x := (-10000) * (x.den : Int)) (by omega) (by omega), decide_eq_true n2, decide_eq_true (show x.num > -10000 * (x.den : Int) by omega)]
 rfl
end Go.Proofs.Ythpfffijnkmdgaa.plain
namespace Go.Proofs.Ythpfffijnkmdgaa
open Go Go.Cl plain
theorem plain (p0 : List (Int × Int)) (p1 p2 : Int) (wp0 : ∀ x ∈ p0, (Lit.int .u16 x.1).wf = true ∧ (Lit.int .u16 x.2).wf = true) (wp1 : (Lit.int .u8 p1).wf = true) (wp2 : (Lit.int .u16 p2).wf = true) : F10 p0 p1 p2 = some true := by
 obtain ⟨c, f38, hr, hc⟩ := made (fun x hx => ⟨u16_of (wp0 x hx).1, u16_of (wp0 x hx).2⟩) (u8_of wp1)
 obtain ⟨u0, u1⟩ := u16_of wp2
 have hl := hr.le
 obtain ⟨t1, t2, t3⟩ := tmod_in (x := p2) (S := 3600) u0 (by decide)
 have hm : Int.tmod (w64 p2) 3600 = p2 % 3600 := by rw [w64_in (by omega) (by omega), t1]
 unfold F10
 rw [f38, hm]
 generalize p2 % 3600 = m at t2 t3
 simp only [Option.bind_eq_bind, Option.bind_some]
 rcases F43_eq hc with ⟨f, g⟩ | ⟨f, g⟩
 · obtain ⟨r, f24⟩ := F24_some hc hl t2 t3
   rw [F26_fold hc g t2 t3, f24, f]
   rfl
 obtain ⟨i, n, hi, ht, hh, f24, f26⟩ := sound_all hc g t2 t3
 obtain ⟨q1, q2, q3⟩ := sAt_rng hc hi hh
 obtain ⟨d1, d2, d3⟩ := dev_small hc hi hh
 obtain ⟨k, hk, hsum⟩ := place_sum hc hi hh
 obtain ⟨e1, e2, e3⟩ := mem_tl ht
 have f40 := F40_fit q1 q2 (by omega)
 have f46 := F46_small d1 d2 d3
 have x1 := sum_cross hsum
 have xs := sm_3600 q1 q2 q3
 generalize sAt c i n = x at *
 generalize (n : Rat) - place c i n = a at *
 have hxn := xs.num; have hxd := xs.den; have han := d1.num; have had := d1.den
 have hxp := den_pos x; have hap := den_pos a
 have m1 : (x.num * (a.den : Int)).natAbs ≤ 3600 * 5400 * 5400 := by rw [Int.natAbs_mul]; exact Nat.mul_le_mul hxn (by omega)
 have m2 : (a.num * (x.den : Int)).natAbs ≤ 20000 * 5400 * 5400 := by rw [Int.natAbs_mul]; exact Nat.mul_le_mul han (by omega)
 have m3 : ((x.den : Int) * (a.den : Int)).natAbs ≤ 5400 * 5400 := by rw [Int.natAbs_mul]; exact Nat.mul_le_mul (by omega) (by omega)
 have m4 : 0 < (x.den : Int) * (a.den : Int) := Int.mul_pos hxp hap
 have f42 : F42 (w64 (w64 ((fr x).1 * (fr a).2) + w64 ((fr a).1 * (fr x).2))) (w64 ((fr x).2 * (fr a).2)) m = some true := by
  show F42 (w64 (w64 (x.num * (a.den : Int)) + w64 (a.num * (x.den : Int)))) (w64 ((x.den : Int) * (a.den : Int))) m = some true
  rw [w64_in (x := x.num * (a.den : Int)) (by omega) (by omega), w64_in (x := a.num * (x.den : Int)) (by omega) (by omega), w64_in (x := x.num * (a.den : Int) + a.num * (x.den : Int)) (by omega) (by omega), w64_in (x := (x.den : Int) * (a.den : Int)) (by omega) (by omega)]
  exact F42_lead m4 x1 (by omega) (by omega) (by omega) (by omega)
 rw [f26, f24, f]
 simp only [Option.bind_some, Bool.not_true, Bool.false_eq_true, if_false, bne_self_eq_false]
 have hln : ((([fr x] : List (Int × Int)).length : Int) != 1) = false := rfl
 have hgt : List.getD [fr x] (Int.toNat 0) (0, 0) = fr x := rfl
 have hix : (0 : Int) ≤ 0 ∧ (0 : Int) < (([fr x] : List (Int × Int)).length : Int) := ⟨by decide, by simp⟩
 rw [hln, if_pos hix, if_pos hix, hgt]
 simp only [Option.bind_some, Bool.false_eq_true, if_false]
 rw [f46]
 simp only [Option.bind_some, Bool.not_true, Bool.false_eq_true, if_false]
 rw [f40]
 simp only [Option.bind_some, Bool.not_true, Bool.false_eq_true, if_false]
 rw [show F44 (w64 (w64 ((fr x).1 * (fr a).2) + w64 ((fr a).1 * (fr x).2))) (w64 ((fr x).2 * (fr a).2)) = some (w64 (w64 ((fr x).1 * (fr a).2) + w64 ((fr a).1 * (fr x).2)), w64 ((fr x).2 * (fr a).2)) from rfl]
 simp only [Option.bind_some]
 rw [f42]
 rfl
end Go.Proofs.Ythpfffijnkmdgaa
