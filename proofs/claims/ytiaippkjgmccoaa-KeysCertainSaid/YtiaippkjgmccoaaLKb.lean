/- Counting: numbers with a property, and values as bits. -/
import Derived.Test.YtiaippkjgmccoaaLKa
set_option linter.unusedVariables false
set_option maxRecDepth 100000
namespace Go.Proofs.Ytiaippkjgmccoaa.plain
open Go Go.Cl
def sumf (f : Nat → Bool) : Nat → Nat → Nat
 | 0, _ => 0
 | d + 1, v => (if f v then 1 else 0) + sumf f d (v + 1)
theorem sumf_two (f : Nat → Bool) : ∀ d v, sumf f (2 * d) (2 * v) = sumf (fun s => f (2 * s)) d v + sumf (fun s => f (2 * s + 1)) d v := by
 intro d
 induction d with
 | zero => intro v; rfl
 | succ d ih =>
  intro v
  have := ih (v + 1)
  rw [show 2 * (d + 1) = 2 * d + 1 + 1 by omega, sumf, sumf, sumf, sumf]
  rw [show 2 * (v + 1) = 2 * v + 1 + 1 by omega] at this
  rw [this]
  omega
theorem sumf_congr {f g : Nat → Bool} (h : ∀ s, f s = g s) (d v : Nat) : sumf f d v = sumf g d v := by rw [show f = g from funext h]
def bt : Nat → Nat → List Bool
 | 0, _ => []
 | d + 1, s => (s % 2 == 1) :: bt d (s / 2)
theorem cl_sum (rs : Rules) (l : List Case) : ∀ (d : Nat) (v : List Bool), cl rs l d v = sumf (fun s => gl rs l (v ++ bt d s)) (2 ^ d) 0 := by
 intro d
 induction d with
 | zero =>
  intro v
  show (if gl rs l v = true then 1 else 0) = (if gl rs l (v ++ []) = true then 1 else 0) + 0
  rw [List.append_nil, Nat.add_zero]
 | succ d ih =>
  intro v
  have := sumf_two (fun s => gl rs l (v ++ bt (d + 1) s)) (2 ^ d) 0
  rw [cl, ih, ih, Nat.pow_succ, Nat.mul_comm (2 ^ d) 2, show sumf (fun s => gl rs l (v ++ bt (d + 1) s)) (2 * 2 ^ d) 0 = sumf (fun s => gl rs l (v ++ bt (d + 1) s)) (2 * 2 ^ d) (2 * 0) from rfl, this]
  congr 1
  · refine sumf_congr (fun s => ?_) _ _
    show gl rs l (v ++ [false] ++ bt d s) = gl rs l (v ++ ((2 * s % 2 == 1) :: bt d (2 * s / 2)))
    rw [show 2 * s % 2 = 0 by omega, show 2 * s / 2 = s by omega, List.append_assoc]
    rfl
  refine sumf_congr (fun s => ?_) _ _
  show gl rs l (v ++ [true] ++ bt d s) = gl rs l (v ++ (((2 * s + 1) % 2 == 1) :: bt d ((2 * s + 1) / 2)))
  rw [show (2 * s + 1) % 2 = 1 by omega, show (2 * s + 1) / 2 = s by omega, List.append_assoc]
  rfl
theorem bt_get : ∀ (d s i : Nat), i < d → (bt d s).getD i false = (s / 2 ^ i % 2 == 1) := by
 intro d
 induction d with
 | zero => intro s i h; omega
 | succ d ih =>
  intro s i h
  rw [bt]
  cases i with
  | zero => simp
  | succ i =>
   rw [List.getD_cons_succ, ih _ _ (by omega), Nat.div_div_eq_div_mul, Nat.pow_succ, Nat.mul_comm (2 ^ i) 2]
theorem vb_nat {s t : Nat} (hs : s < 2 ^ 62) (ht : t ≤ 64) : vb (s : Int) (t : Int) = (s / 2 ^ t % 2 == 1) := by
 unfold vb shr64 and64
 have e1 : min ((t : Int)).toNat 64 = t := by rw [Int.toNat_natCast]; exact Nat.min_eq_left ht
 have e2 : Int.fdiv (s : Int) (2 ^ t) = ((s / 2 ^ t : Nat) : Int) := by
  rw [Int.fdiv_eq_ediv_of_nonneg _ (by exact Int.le_of_lt (Int.pow_pos (by decide)))]
  rw [Int.natCast_ediv, Int.natCast_pow]
  rfl
 rw [e1, e2]
 have hle : s / 2 ^ t < 2 ^ 62 := Nat.lt_of_le_of_lt (Nat.div_le_self _ _) hs
 generalize s / 2 ^ t = a at hle
 have e3 : (BitVec.ofInt 64 (a : Int) &&& BitVec.ofInt 64 1).toNat = a % 2 := by
  rw [BitVec.toNat_and, BitVec.ofInt_natCast, BitVec.toNat_ofNat, show (BitVec.ofInt 64 1).toNat = 1 from rfl, Nat.and_one_is_mod]
  omega
 rw [e3, w64_in (by omega) (by omega)]
 rw [Bool.eq_iff_iff, beq_iff_eq, beq_iff_eq]
 omega
end Go.Proofs.Ytiaippkjgmccoaa.plain
