/- What functions of the program compute, and that they do. -/
import Derived.Test.YtiaippkjgmccoaaKC
set_option linter.unusedVariables false
set_option linter.unusedSimpArgs false
set_option maxRecDepth 100000
set_option maxHeartbeats 4000000
namespace Go.Proofs.Ytiaippkjgmccoaa
open Go Go.Cl
noncomputable section
def F71 (p0 : Int) (p1 : Bool) : Option Int :=
 if p1 then
  some (w64 ((w64 (2 * p0)) + 1))
 else
  some (w64 (2 * p0))
def F76 (p0 : Int) (p1 : Bool) : Option (Int × Bool) :=
 some (p0, !p1)
def F70l1 (p0 : Int) (p1 : (List ((Int × Bool) × (Int × Bool)))) (v182 : Int) (v420 : Int) (v421 : (List Int)) : Option (List Int) :=
 if decide (v420 < (p1.length : Int)) then
  if (0 : Int) ≤ v420 ∧ v420 < (p1.length : Int) then
   some (List.getD p1 (Int.toNat v420) ((0, false), (0, false))) >>= fun o484 =>
   F76 o484.1.1 o484.1.2 >>= fun r486 =>
   F71 r486.1 r486.2 >>= fun r488 =>
   if (0 : Int) ≤ r488 ∧ r488 < (v421.length : Int) then
    some (List.getD v421 (Int.toNat r488) 0) >>= fun o491 =>
    (
     if o491 == v182 then
      F71 o484.2.1 o484.2.2 >>= fun r494 =>
      if (0 : Int) ≤ r494 ∧ r494 < (v421.length : Int) then
       some (List.getD v421 (Int.toNat r494) 0) >>= fun o497 =>
       some (o497 == 0)
      else none
     else
      some (false)
    : Option Bool) >>= fun m499 =>
    (
     if m499 then
      F71 o484.2.1 o484.2.2 >>= fun r530 =>
      if (0 : Int) ≤ r530 ∧ r530 < (v421.length : Int) then
       some (List.set v421 (Int.toNat r530) (w64 (v182 + 1)))
      else none
     else
      some v421
    : Option (List Int)) >>= fun m504 =>
    F76 o484.2.1 o484.2.2 >>= fun r506 =>
    F71 r506.1 r506.2 >>= fun r508 =>
    if (0 : Int) ≤ r508 ∧ r508 < (m504.length : Int) then
     some (List.getD m504 (Int.toNat r508) 0) >>= fun o511 =>
     (
      if o511 == v182 then
       F71 o484.1.1 o484.1.2 >>= fun r514 =>
       if (0 : Int) ≤ r514 ∧ r514 < (m504.length : Int) then
        some (List.getD m504 (Int.toNat r514) 0) >>= fun o517 =>
        some (o517 == 0)
       else none
      else
       some (false)
     : Option Bool) >>= fun m519 =>
     (
      if m519 then
       F71 o484.1.1 o484.1.2 >>= fun r526 =>
       if (0 : Int) ≤ r526 ∧ r526 < (m504.length : Int) then
        some (List.set m504 (Int.toNat r526) (w64 (v182 + 1)))
       else none
      else
       some m504
     : Option (List Int)) >>= fun m524 =>
     F70l1 p0 p1 v182 (w64 (v420 + 1)) m524
    else none
   else none
  else none
 else
  some v421
 partial_fixpoint
def F70l0 (p0 : Int) (p1 : (List ((Int × Bool) × (Int × Bool)))) (v182 : Int) (v183 : (List Int)) : Option (List Int) :=
 if decide (v182 ≤ (v183.length : Int)) then
  F70l1 p0 p1 v182 0 v183 >>= fun r534 =>
  F70l0 p0 p1 (w64 (v182 + 1)) r534
 else
  some v183
 partial_fixpoint
def F70 (p0 : Int) (p1 : (List ((Int × Bool) × (Int × Bool)))) (p2 : Int) (p3 : Bool) : Option (List Int) :=
 if (0 : Int) ≤ w64 (2 * p0) ∧ w64 (2 * p0) ≤ 1000000000 then
  F71 p2 p3 >>= fun r2 =>
  if (0 : Int) ≤ r2 ∧ r2 < (List.length (List.replicate (Int.toNat (w64 (2 * p0))) (0 : Int)) : Int) then
   F70l0 p0 p1 1 (List.set (List.replicate (Int.toNat (w64 (2 * p0))) (0 : Int)) (Int.toNat r2) 1) >>= fun r536 =>
   some r536
  else none
 else none
end
end Go.Proofs.Ytiaippkjgmccoaa
