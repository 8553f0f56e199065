/- What functions of the program compute, and that they do. -/
import Derived.Test.YtiaippkjgmccoaaKE
set_option linter.unusedVariables false
set_option linter.unusedSimpArgs false
set_option maxRecDepth 100000
set_option maxHeartbeats 4000000
namespace Go.Proofs.Ytiaippkjgmccoaa
open Go Go.Cl
noncomputable section
def F74 (p0 : Int) (p1 : Bool) (p2 : Int) (p3 : Bool) (p4 : Int) (p5 : Bool) (p6 : Int) (p7 : Bool) : Option Bool :=
 F76 p4 p5 >>= fun r1 =>
 (
  if ((p0 == r1.1) && ((p1 == r1.2) && true)) then
   if ((p2 == p6) && ((p3 == p7) && true)) then
    some (true)
   else
    F76 p4 p5 >>= fun r5 =>
    if ((p2 == r5.1) && ((p3 == r5.2) && true)) then
     some (((p0 == p6) && ((p1 == p7) && true)))
    else
     some (false)
  else
   F76 p4 p5 >>= fun r8 =>
   if ((p2 == r8.1) && ((p3 == r8.2) && true)) then
    some (((p0 == p6) && ((p1 == p7) && true)))
   else
    some (false)
 : Option Bool) >>= fun m11 =>
 some m11
def F31l0 (p0 : Int) (p1 : (List ((Int × Bool) × (Int × Bool)))) (p2 : (List (Int × Bool))) (v13 : Int) : Option (Unit ⊕ Unit) :=
 if decide (v13 < (p2.length : Int)) then
  if (0 : Int) ≤ v13 ∧ v13 < (p2.length : Int) then
   some (List.getD p2 (Int.toNat v13) (0, false)) >>= fun o24 =>
   F65 p0 p1 o24.1 o24.2 >>= fun r26 =>
   if !r26 then
    some (.inl ())
   else
    F31l0 p0 p1 p2 (w64 (v13 + 1))
  else none
 else
  some (.inr ())
 partial_fixpoint
def F31l2 (p0 : Int) (p1 : (List ((Int × Bool) × (Int × Bool)))) (p2 : (List (Int × Bool))) (v81 : Int) (v144 : Bool) (v145 : Int) : Option Bool :=
 if decide (v145 < (p1.length : Int)) then
  (
   if v144 then
    some (true)
   else
    if (0 : Int) ≤ v145 ∧ v145 < (p1.length : Int) then
     some (List.getD p1 (Int.toNat v145) ((0, false), (0, false))) >>= fun o164 =>
     if (0 : Int) ≤ w64 (v81 - 1) ∧ w64 (v81 - 1) < (p2.length : Int) then
      some (List.getD p2 (Int.toNat (w64 (v81 - 1))) (0, false)) >>= fun o167 =>
      if (0 : Int) ≤ v81 ∧ v81 < (p2.length : Int) then
       some (List.getD p2 (Int.toNat v81) (0, false)) >>= fun o170 =>
       F74 o164.1.1 o164.1.2 o164.2.1 o164.2.2 o167.1 o167.2 o170.1 o170.2 >>= fun r172 =>
       some (r172)
      else none
     else none
    else none
  : Option Bool) >>= fun m174 =>
  F31l2 p0 p1 p2 v81 m174 (w64 (v145 + 1))
 else
  some v144
 partial_fixpoint
def F31l1 (p0 : Int) (p1 : (List ((Int × Bool) × (Int × Bool)))) (p2 : (List (Int × Bool))) (v81 : Int) : Option (Unit ⊕ Unit) :=
 if decide (v81 < (p2.length : Int)) then
  F31l2 p0 p1 p2 v81 false 0 >>= fun r176 =>
  if !r176 then
   some (.inl ())
  else
   F31l1 p0 p1 p2 (w64 (v81 + 1))
 else
  some (.inr ())
 partial_fixpoint
def F31 (p0 : Int) (p1 : (List ((Int × Bool) × (Int × Bool)))) (p2 : (List (Int × Bool))) : Option Int :=
 F27 p0 p1 >>= fun r1 =>
 if r1 != 0 then
  some r1
 else
  if (p2.length : Int) == 0 then
   some 2
  else
   if decide ((p2.length : Int) > 100) then
    some 3
   else
    F31l0 p0 p1 p2 0 >>= fun r29 =>
    match r29 with
    | .inl o31 =>
     some 6
    | .inr o32 =>
     F31l1 p0 p1 p2 1 >>= fun r179 =>
     match r179 with
     | .inl o181 =>
      some 14
     | .inr o182 =>
      some 0
end
end Go.Proofs.Ytiaippkjgmccoaa
