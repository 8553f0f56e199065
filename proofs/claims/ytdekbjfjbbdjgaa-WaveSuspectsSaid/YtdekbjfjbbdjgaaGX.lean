/- What functions of the program compute, and that they do. -/
import Derived.Test.YtdekbjfjbbdjgaaGW
set_option linter.unusedVariables false
set_option linter.unusedSimpArgs false
set_option maxRecDepth 100000
set_option maxHeartbeats 4000000
namespace Go.Proofs.Ytdekbjfjbbdjgaa
open Go Go.Cl
noncomputable section
def F56l0 (p0 : List (I2 × PL)) (v6 : List Int) (v4 v5 : Int) : Option (List Int) :=
 some (Option.getD (mget p0 (v4, v5)) ((0, 0), 0, 0, (0, 0))) >>= fun o12 =>
 if decide (o12.2.2.1 ≥ 0) then
  if List.length v6 ≤ 1000000000 then
   F56l0 p0 (v6 ++ [o12.2.2.1]) o12.2.2.2.1 o12.2.2.2.2
  else none
 else
  some v6
 partial_fixpoint
def F56 (p0 : List (I2 × PL)) (p1 p2 : Int) : Option (List Int) :=
 F56l0 p0 ([]) p1 p2 >>= fun r16 =>
 some r16
def F58 (p0 p1 p2 : List Int) : Option (List Int) :=
 (
  if decide ((w64 (0 + (p0.length : Int))) < 0) then
   none
  else
   some ()
 : Option Unit) >>= fun m2 =>
 some (w64 ((w64 (0 + (p0.length : Int))) + (p1.length : Int))) >>= fun o4 =>
 (
  if decide (o4 < 0) then
   none
  else
   some ()
 : Option Unit) >>= fun m7 =>
 (
  if decide ((w64 (o4 + (p2.length : Int))) < 0) then
   none
  else
   some ()
 : Option Unit) >>= fun m10 =>
 (
  if decide ((w64 (o4 + (p2.length : Int))) < 0) then
   none
  else
   some ()
 : Option Unit) >>= fun m13 =>
 if decide ((w64 ((w64 (o4 + (p2.length : Int))) - 0)) > 0) then
  if (0 : Int) < w64 ((w64 (o4 + (p2.length : Int))) - 0) ∧ w64 ((w64 (o4 + (p2.length : Int))) - 0) ≤ 1000000000 then
   if (0 : Int) ≤ 0 ∧ 0 ≤ (List.length (List.replicate (Int.toNat (w64 ((w64 (o4 + (p2.length : Int))) - 0))) (0 : Int)) : Int) then
    if List.length (List.take (Int.toNat 0) (List.replicate (Int.toNat (w64 ((w64 (o4 + (p2.length : Int))) - 0))) (0 : Int))) ≤ 1000000000 then
     if List.length p0 ≤ 1000000000 then
      if List.length ((List.take (Int.toNat 0) (List.replicate (Int.toNat (w64 ((w64 (o4 + (p2.length : Int))) - 0))) (0 : Int))) ++ p0) ≤ 1000000000 then
       if List.length p1 ≤ 1000000000 then
        if List.length (((List.take (Int.toNat 0) (List.replicate (Int.toNat (w64 ((w64 (o4 + (p2.length : Int))) - 0))) (0 : Int))) ++ p0) ++ p1) ≤ 1000000000 then
         if List.length p2 ≤ 1000000000 then
          some ((((List.take (Int.toNat 0) (List.replicate (Int.toNat (w64 ((w64 (o4 + (p2.length : Int))) - 0))) (0 : Int))) ++ p0) ++ p1) ++ p2)
         else none
        else none
       else none
      else none
     else none
    else none
   else none
  else none
 else
  if List.length p0 ≤ 1000000000 then
   if List.length p1 ≤ 1000000000 then
    if List.length (p0 ++ p1) ≤ 1000000000 then
     if List.length p2 ≤ 1000000000 then
      some ((p0 ++ p1) ++ p2)
     else none
    else none
   else none
  else none
def F29l0 (p2 : List I2) (r6 : Int) (v28 v29 : List Int) : Option ((List Int) × (List Int)) :=
 (
  if decide ((v28.length : Int) > 0) then
   if decide ((v29.length : Int) > 0) then
    if (0 : Int) ≤ w64 ((v28.length : Int) - 1) ∧ w64 ((v28.length : Int) - 1) < (v28.length : Int) then
     some (List.getD v28 (Int.toNat (w64 ((v28.length : Int) - 1))) 0) >>= fun o47 =>
     if (0 : Int) ≤ w64 ((v29.length : Int) - 1) ∧ w64 ((v29.length : Int) - 1) < (v29.length : Int) then
      some (List.getD v29 (Int.toNat (w64 ((v29.length : Int) - 1))) 0) >>= fun o50 =>
      some (o47 == o50)
     else none
    else none
   else
    some (false)
  else
   some (false)
 : Option Bool) >>= fun m52 =>
 if m52 then
  if (0 : Int) ≤ w64 ((v28.length : Int) - 1) ∧ w64 ((v28.length : Int) - 1) ≤ (v28.length : Int) then
   if (0 : Int) ≤ w64 ((v29.length : Int) - 1) ∧ w64 ((v29.length : Int) - 1) ≤ (v29.length : Int) then
    F29l0 p2 r6 (List.take (Int.toNat (w64 ((v28.length : Int) - 1))) v28) (List.take (Int.toNat (w64 ((v29.length : Int) - 1))) v29)
   else none
  else none
 else
  some (v28, v29)
 partial_fixpoint
def F29l1 (p2 : List I2) (r56 : (List Int) × (List Int)) (v65 v66 : Int) (v67 : List Int) : Option (List Int) :=
 if decide (v65 < v66) then
  if (0 : Int) ≤ v66 ∧ v66 < (v67.length : Int) then
   some (List.getD v67 (Int.toNat v66) 0) >>= fun o78 =>
   if (0 : Int) ≤ v65 ∧ v65 < (v67.length : Int) then
    some (List.getD v67 (Int.toNat v65) 0) >>= fun o81 =>
    F29l1 p2 r56 (w64 (v65 + 1)) (w64 (v66 - 1)) (List.set (List.set v67 (Int.toNat v65) o78) (Int.toNat v66) o81)
   else none
  else none
 else
  some v67
 partial_fixpoint
def F29 (p0 p1 : Int) (p2 : List I2) : Option ((List Int) × Int) :=
 F23 p0 p1 p2 >>= fun r1 =>
 if r1 != 0 then
  some ([], r1)
 else
  F49 p0 p1 p2 >>= fun r4 =>
  F54 p0 p1 p2 r4 >>= fun r6 =>
  if decide (r6 < 0) then
   some ([], 6)
  else
   if (0 : Int) ≤ r6 ∧ r6 < (p2.length : Int) then
    some (List.getD p2 (Int.toNat r6) (0, 0)) >>= fun o10 =>
    F55 p0 p1 p2 o10.1 >>= fun r12 =>
    F56 r4 r12.1.1 r12.1.2 >>= fun r14 =>
    F56 r4 r12.2.1 r12.2.2 >>= fun r16 =>
    F29l0 p2 r6 r14 r16 >>= fun r56 =>
    F29l1 p2 r56 0 (w64 ((r56.2.length : Int) - 1)) r56.2 >>= fun r83 =>
    if List.length r83 = List.length r56.2 then
     F58 ([r6]) r56.1 r83 >>= fun r86 =>
     some (r86, 0)
    else none
   else none
end
end Go.Proofs.Ytdekbjfjbbdjgaa
