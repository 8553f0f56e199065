/- What functions of the program compute, and that they do. -/
import Derived.Test.YtdekbjfjbbdjgaaGWa
set_option linter.unusedVariables false
set_option linter.unusedSimpArgs false
set_option maxRecDepth 100000
set_option maxHeartbeats 4000000
namespace Go.Proofs.Ytdekbjfjbbdjgaa
open Go Go.Cl
noncomputable section
def F48l0 (p0 p1 : Int) (p2 : List I2) (v4 : Int) (v5 : List Int) : Option (List Int) :=
 if decide (v4 < (w64 (p0 + p1))) then
  if (0 : Int) ≤ v4 ∧ v4 < (v5.length : Int) then
   F48l0 p0 p1 p2 (w64 (v4 + 1)) (List.set v5 (Int.toNat v4) (-1))
  else none
 else
  some v5
 partial_fixpoint
def F48l3 (p0 p1 : Int) (p2 : List I2) (v451 v1041 v1228 : Int) (v1229 v1230 : List Int) : Option ((List Int) × (List Int)) :=
 if decide (v1228 < (p2.length : Int)) then
  if (0 : Int) ≤ v1228 ∧ v1228 < (p2.length : Int) then
   some (List.getD p2 (Int.toNat v1228) (0, 0)) >>= fun o1274 =>
   if p0 = 0 then none else
   if p1 = 0 then none else
   if (0 : Int) ≤ Int.tmod o1274.1 p0 ∧ Int.tmod o1274.1 p0 < (v1229.length : Int) then
    some (List.getD v1229 (Int.toNat (Int.tmod o1274.1 p0)) 0) >>= fun o1279 =>
    (
     if o1279 == v451 then
      if (0 : Int) ≤ w64 (p0 + (Int.tmod o1274.1 p1)) ∧ w64 (p0 + (Int.tmod o1274.1 p1)) < (v1229.length : Int) then
       some (List.getD v1229 (Int.toNat (w64 (p0 + (Int.tmod o1274.1 p1)))) 0) >>= fun o1283 =>
       some (decide (o1283 < 0))
      else none
     else
      some (false)
    : Option Bool) >>= fun m1285 =>
    (
     if m1285 then
      if (0 : Int) ≤ Int.tmod o1274.1 p0 ∧ Int.tmod o1274.1 p0 < (v1230.length : Int) then
       some (List.getD v1230 (Int.toNat (Int.tmod o1274.1 p0)) 0) >>= fun o1323 =>
       if (0 : Int) ≤ w64 (p0 + (Int.tmod o1274.1 p1)) ∧ w64 (p0 + (Int.tmod o1274.1 p1)) < (v1229.length : Int) then
        if (0 : Int) ≤ w64 (p0 + (Int.tmod o1274.1 p1)) ∧ w64 (p0 + (Int.tmod o1274.1 p1)) < (v1230.length : Int) then
         some (List.set v1229 (Int.toNat (w64 (p0 + (Int.tmod o1274.1 p1)))) v451, List.set v1230 (Int.toNat (w64 (p0 + (Int.tmod o1274.1 p1)))) (w64 (o1274.2 - o1323)))
        else none
       else none
      else none
     else
      some (v1229, v1230)
    : Option ((List Int) × (List Int))) >>= fun m1295 =>
    if (0 : Int) ≤ w64 (p0 + (Int.tmod o1274.1 p1)) ∧ w64 (p0 + (Int.tmod o1274.1 p1)) < (m1295.1.length : Int) then
     some (List.getD m1295.1 (Int.toNat (w64 (p0 + (Int.tmod o1274.1 p1)))) 0) >>= fun o1298 =>
     (
      if o1298 == v451 then
       if (0 : Int) ≤ Int.tmod o1274.1 p0 ∧ Int.tmod o1274.1 p0 < (m1295.1.length : Int) then
        some (List.getD m1295.1 (Int.toNat (Int.tmod o1274.1 p0)) 0) >>= fun o1302 =>
        some (decide (o1302 < 0))
       else none
      else
       some (false)
     : Option Bool) >>= fun m1304 =>
     (
      if m1304 then
       if (0 : Int) ≤ w64 (p0 + (Int.tmod o1274.1 p1)) ∧ w64 (p0 + (Int.tmod o1274.1 p1)) < (m1295.2.length : Int) then
        some (List.getD m1295.2 (Int.toNat (w64 (p0 + (Int.tmod o1274.1 p1)))) 0) >>= fun o1317 =>
        if (0 : Int) ≤ Int.tmod o1274.1 p0 ∧ Int.tmod o1274.1 p0 < (m1295.1.length : Int) then
         if (0 : Int) ≤ Int.tmod o1274.1 p0 ∧ Int.tmod o1274.1 p0 < (m1295.2.length : Int) then
          some (List.set m1295.1 (Int.toNat (Int.tmod o1274.1 p0)) v451, List.set m1295.2 (Int.toNat (Int.tmod o1274.1 p0)) (w64 (o1274.2 - o1317)))
         else none
        else none
       else none
      else
       some (m1295.1, m1295.2)
     : Option ((List Int) × (List Int))) >>= fun m1314 =>
     F48l3 p0 p1 p2 v451 v1041 (w64 (v1228 + 1)) m1314.1 m1314.2
    else none
   else none
  else none
 else
  some (v1229, v1230)
 partial_fixpoint
def F48l2 (p0 p1 : Int) (p2 : List I2) (v451 v1041 : Int) (v1042 v1043 : List Int) : Option ((List Int) × (List Int)) :=
 if decide (v1041 < (w64 (p0 + p1))) then
  F48l3 p0 p1 p2 v451 v1041 0 v1042 v1043 >>= fun r1328 =>
  F48l2 p0 p1 p2 v451 (w64 (v1041 + 1)) r1328.1 r1328.2
 else
  some (v1042, v1043)
 partial_fixpoint
def F48l1 (p0 p1 : Int) (p2 : List I2) (v451 : Int) (v452 v453 : List Int) : Option ((List Int) × (List Int)) :=
 if decide (v451 < (w64 (p0 + p1))) then
  if (0 : Int) ≤ v451 ∧ v451 < (v452.length : Int) then
   some (List.getD v452 (Int.toNat v451) 0) >>= fun o896 =>
   if decide (o896 ≥ 0) then
    F48l1 p0 p1 p2 (w64 (v451 + 1)) v452 v453
   else
    F48l2 p0 p1 p2 v451 0 (List.set v452 (Int.toNat v451) v451) v453 >>= fun r1330 =>
    F48l1 p0 p1 p2 (w64 (v451 + 1)) r1330.1 r1330.2
  else none
 else
  some (v452, v453)
 partial_fixpoint
def F48 (p0 p1 : Int) (p2 : List I2) : Option ((List Int) × (List Int)) :=
 if (0 : Int) ≤ w64 (p0 + p1) ∧ w64 (p0 + p1) ≤ 1000000000 then
  F48l0 p0 p1 p2 0 (List.replicate (Int.toNat (w64 (p0 + p1))) (0 : Int)) >>= fun r11 =>
  F48l1 p0 p1 p2 0 r11 (List.replicate (Int.toNat (w64 (p0 + p1))) (0 : Int)) >>= fun r1332 =>
  some (r1332.1, r1332.2)
 else none
def F50l0 (p0 p1 : Int) (p2 : List I2) (r1 : (List Int) × (List Int)) (v16 : Int) : Option (Unit ⊕ Unit) :=
 if decide (v16 < (p2.length : Int)) then
  if (0 : Int) ≤ v16 ∧ v16 < (p2.length : Int) then
   some (List.getD p2 (Int.toNat v16) (0, 0)) >>= fun o32 =>
   if p0 = 0 then none else
   if (0 : Int) ≤ Int.tmod o32.1 p0 ∧ Int.tmod o32.1 p0 < (r1.2.length : Int) then
    some (List.getD r1.2 (Int.toNat (Int.tmod o32.1 p0)) 0) >>= fun o36 =>
    if p1 = 0 then none else
    if (0 : Int) ≤ w64 (p0 + (Int.tmod o32.1 p1)) ∧ w64 (p0 + (Int.tmod o32.1 p1)) < (r1.2.length : Int) then
     some (List.getD r1.2 (Int.toNat (w64 (p0 + (Int.tmod o32.1 p1)))) 0) >>= fun o40 =>
     if (w64 (o36 + o40)) != o32.2 then
      some (.inl ())
     else
      F50l0 p0 p1 p2 r1 (w64 (v16 + 1))
    else none
   else none
  else none
 else
  some (.inr ())
 partial_fixpoint
def F50 (p0 p1 : Int) (p2 : List I2) : Option Bool :=
 F48 p0 p1 p2 >>= fun r1 =>
 F50l0 p0 p1 p2 r1 0 >>= fun r43 =>
 match r43 with
 | .inl o45 =>
  some false
 | .inr o46 =>
  some true
def F22 (p0 p1 : Int) (p2 : List I2) : Option Int :=
 F24 p0 p1 p2 >>= fun r1 =>
 (
  if r1 == 0 then
   F50 p0 p1 p2 >>= fun r4 =>
   if r4 then
    some (false)
   else
    some (true)
  else
   some (false)
 : Option Bool) >>= fun m6 =>
 (
  if m6 then
   some 13
  else
   some r1
 : Option Int) >>= fun m9 =>
 some m9
end
end Go.Proofs.Ytdekbjfjbbdjgaa
