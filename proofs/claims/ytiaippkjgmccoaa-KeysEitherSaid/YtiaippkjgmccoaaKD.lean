/- What functions of the program compute, and that they do. -/
import Derived.Test.YtiaippkjgmccoaaKC
set_option linter.unusedVariables false
set_option linter.unusedSimpArgs false
set_option maxRecDepth 100000
set_option maxHeartbeats 4000000
namespace Go.Proofs.Ytiaippkjgmccoaa
open Go Go.Cl
noncomputable section
def F71 (p0 : Int) (p1 : Bool) : Option Int :=
 if p1 then
  some (w64 ((w64 (2 * p0)) + 1))
 else
  some (w64 (2 * p0))
def F76 (p0 : Int) (p1 : Bool) : Option (Int × Bool) :=
 some (p0, !p1)
def F70l1 (p0 : Int) (p1 : (List ((Int × Bool) × (Int × Bool)))) (v182 : Int) (v420 : Int) (v421 : (List Int)) : Option (List Int) :=
 if decide (v420 < (p1.length : Int)) then
  if (0 : Int) ≤ v420 ∧ v420 < (p1.length : Int) then
   some (List.getD p1 (Int.toNat v420) ((0, false), (0, false))) >>= fun o484 =>
   F76 o484.1.1 o484.1.2 >>= fun r486 =>
   F71 r486.1 r486.2 >>= fun r488 =>
   if (0 : Int) ≤ r488 ∧ r488 < (v421.length : Int) then
    some (List.getD v421 (Int.toNat r488) 0) >>= fun o491 =>
    (
     if o491 == v182 then
      F71 o484.2.1 o484.2.2 >>= fun r494 =>
      if (0 : Int) ≤ r494 ∧ r494 < (v421.length : Int) then
       some (List.getD v421 (Int.toNat r494) 0) >>= fun o497 =>
       some (o497 == 0)
      else none
     else
      some (false)
    : Option Bool) >>= fun m499 =>
    (
     if m499 then
      F71 o484.2.1 o484.2.2 >>= fun r530 =>
      if (0 : Int) ≤ r530 ∧ r530 < (v421.length : Int) then
       some (List.set v421 (Int.toNat r530) (w64 (v182 + 1)))
      else none
     else
      some v421
    : Option (List Int)) >>= fun m504 =>
    F76 o484.2.1 o484.2.2 >>= fun r506 =>
    F71 r506.1 r506.2 >>= fun r508 =>
    if (0 : Int) ≤ r508 ∧ r508 < (m504.length : Int) then
     some (List.getD m504 (Int.toNat r508) 0) >>= fun o511 =>
     (
      if o511 == v182 then
       F71 o484.1.1 o484.1.2 >>= fun r514 =>
       if (0 : Int) ≤ r514 ∧ r514 < (m504.length : Int) then
        some (List.getD m504 (Int.toNat r514) 0) >>= fun o517 =>
        some (o517 == 0)
       else none
      else
       some (false)
     : Option Bool) >>= fun m519 =>
     (
      if m519 then
       F71 o484.1.1 o484.1.2 >>= fun r526 =>
       if (0 : Int) ≤ r526 ∧ r526 < (m504.length : Int) then
        some (List.set m504 (Int.toNat r526) (w64 (v182 + 1)))
       else none
      else
       some m504
     : Option (List Int)) >>= fun m524 =>
     F70l1 p0 p1 v182 (w64 (v420 + 1)) m524
    else none
   else none
  else none
 else
  some v421
 partial_fixpoint
def F70l0 (p0 : Int) (p1 : (List ((Int × Bool) × (Int × Bool)))) (v182 : Int) (v183 : (List Int)) : Option (List Int) :=
 if decide (v182 ≤ (v183.length : Int)) then
  F70l1 p0 p1 v182 0 v183 >>= fun r534 =>
  F70l0 p0 p1 (w64 (v182 + 1)) r534
 else
  some v183
 partial_fixpoint
def F70 (p0 : Int) (p1 : (List ((Int × Bool) × (Int × Bool)))) (p2 : Int) (p3 : Bool) : Option (List Int) :=
 if (0 : Int) ≤ w64 (2 * p0) ∧ w64 (2 * p0) ≤ 1000000000 then
  F71 p2 p3 >>= fun r2 =>
  if (0 : Int) ≤ r2 ∧ r2 < (List.length (List.replicate (Int.toNat (w64 (2 * p0))) (0 : Int)) : Int) then
   F70l0 p0 p1 1 (List.set (List.replicate (Int.toNat (w64 (2 * p0))) (0 : Int)) (Int.toNat r2) 1) >>= fun r536 =>
   some r536
  else none
 else none
def F60l0 (p0 : Int) (p1 : (List ((Int × Bool) × (Int × Bool)))) (p2 : (List (Int × Bool))) (v23 : Int) : Option (Unit ⊕ Unit) :=
 if decide (v23 < p0) then
  F70 p0 p1 v23 false >>= fun r48 =>
  F76 v23 false >>= fun r50 =>
  F71 r50.1 r50.2 >>= fun r52 =>
  if (0 : Int) ≤ r52 ∧ r52 < (r48.length : Int) then
   some (List.getD r48 (Int.toNat r52) 0) >>= fun o55 =>
   (
    if decide (o55 > 0) then
     F76 v23 false >>= fun r58 =>
     F70 p0 p1 r58.1 r58.2 >>= fun r60 =>
     F71 v23 false >>= fun r62 =>
     if (0 : Int) ≤ r62 ∧ r62 < (r60.length : Int) then
      some (List.getD r60 (Int.toNat r62) 0) >>= fun o65 =>
      some (decide (o65 > 0))
     else none
    else
     some (false)
   : Option Bool) >>= fun m67 =>
   if m67 then
    some (.inl ())
   else
    F60l0 p0 p1 p2 (w64 (v23 + 1))
  else none
 else
  some (.inr ())
 partial_fixpoint
def F60l2 (p0 : Int) (p1 : (List ((Int × Bool) × (Int × Bool)))) (p2 : (List (Int × Bool))) (r175 : (List Int)) (v121 : Int) (v189 : Int) : Option (Unit ⊕ Unit) :=
 if decide (v189 < (p2.length : Int)) then
  if (0 : Int) ≤ v189 ∧ v189 < (p2.length : Int) then
   some (List.getD p2 (Int.toNat v189) (0, false)) >>= fun o205 =>
   F76 o205.1 o205.2 >>= fun r207 =>
   F71 r207.1 r207.2 >>= fun r209 =>
   if (0 : Int) ≤ r209 ∧ r209 < (r175.length : Int) then
    some (List.getD r175 (Int.toNat r209) 0) >>= fun o212 =>
    if decide (o212 > 0) then
     some (.inl ())
    else
     F60l2 p0 p1 p2 r175 v121 (w64 (v189 + 1))
   else none
  else none
 else
  some (.inr ())
 partial_fixpoint
def F60l1 (p0 : Int) (p1 : (List ((Int × Bool) × (Int × Bool)))) (p2 : (List (Int × Bool))) (v121 : Int) : Option (Unit ⊕ Unit) :=
 if decide (v121 < (p2.length : Int)) then
  if (0 : Int) ≤ v121 ∧ v121 < (p2.length : Int) then
   some (List.getD p2 (Int.toNat v121) (0, false)) >>= fun o173 =>
   F70 p0 p1 o173.1 o173.2 >>= fun r175 =>
   F60l2 p0 p1 p2 r175 v121 0 >>= fun r215 =>
   match r215 with
   | .inl o217 =>
    some (.inl ())
   | .inr o218 =>
    F60l1 p0 p1 p2 (w64 (v121 + 1))
  else none
 else
  some (.inr ())
 partial_fixpoint
def F60 (p0 : Int) (p1 : (List ((Int × Bool) × (Int × Bool)))) (p2 : (List (Int × Bool))) : Option Bool :=
 F60l0 p0 p1 p2 0 >>= fun r69 =>
 match r69 with
 | .inl o71 =>
  some false
 | .inr o72 =>
  F60l1 p0 p1 p2 0 >>= fun r219 =>
  match r219 with
  | .inl o221 =>
   some false
  | .inr o222 =>
   some true
end
end Go.Proofs.Ytiaippkjgmccoaa
