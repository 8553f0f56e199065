/- What functions of the program compute, and that they do. -/
import Derived.Test.YtdekbjfjbbdjgaaGT
import Derived.Test.YtdekbjfjbbdjgaaGiven
set_option linter.unusedVariables false
set_option linter.unusedSimpArgs false
set_option maxRecDepth 100000
set_option maxHeartbeats 4000000
namespace Go.Proofs.Ytdekbjfjbbdjgaa
open Go Go.Cl
noncomputable section
noncomputable def c6 : Code := Try.f6.code
def H6_0 (p2 p13 : List Int) (r1 : Int × Int × (List I2)) (r5 : (List Int) × (List Int) × Int) (r7 : (List Int) × Int) : List Blk := [ab 5 e5 p2, ab 5 e5 p13, .dead, ab 57 e57 r1.2.2, cl 24 [iv r1.1, iv r1.2.1, accV 3 r1.2.2.length], ab 3 e3 r5.1, ab 3 e3 r5.2.1, ab 3 e3 r7.1]
def H6_1 (p2 p13 : List Int) (r1 : Int × Int × (List I2)) (r5 : (List Int) × (List Int) × Int) (r77 : List Int) : List Blk := [ab 5 e5 p2, ab 5 e5 p13, cl 24 [iv r1.1, iv r1.2.1, accV 3 r1.2.2.length], ab 57 e57 r1.2.2, ab 3 e3 r5.1, ab 3 e3 r5.2.1, .cells 3 (List.flatMap e3 r77)]
def H6_2 (p2 p13 : List Int) (r1 : Int × Int × (List I2)) (r5 : (List Int) × (List Int) × Int) (o62 : I2) : List Blk := [ab 5 e5 p2, ab 5 e5 p13, cl 24 [iv r1.1, iv r1.2.1, accV 3 r1.2.2.length], ab 57 e57 r1.2.2, ab 3 e3 r5.1, ab 3 e3 r5.2.1, cl 57 [iv o62.1, iv o62.2]]
def H6_3 (p2 p13 : List Int) (r1 : Int × Int × (List I2)) (r5 : (List Int) × (List Int) × Int) : List Blk := [ab 5 e5 p2, ab 5 e5 p13, .dead, ab 57 e57 r1.2.2, cl 24 [iv r1.1, iv r1.2.1, accV 3 r1.2.2.length], ab 3 e3 r5.1, ab 3 e3 r5.2.1, .dead]
def H6_4 (p2 p13 : List Int) (r1 : Int × Int × (List I2)) (r5 : (List Int) × (List Int) × Int) : List Blk := [ab 5 e5 p2, ab 5 e5 p13, cl 24 [iv r1.1, iv r1.2.1, accV 3 r1.2.2.length], ab 57 e57 r1.2.2, ab 3 e3 r5.1, ab 3 e3 r5.2.1]
def S6_5 (r5 : (List Int) × (List Int) × Int) (r77 : List Int) (v99 : Int) (r1 : Int × Int × (List I2)) : CAct := (st 156 [(3, pt 2 0), (5, accV 4 r5.1.length), (6, accV 5 r5.2.1.length), (115, mkV 6 r77.length), (116, iv (r77.length : Int)), (117, iv v99), (125, .bool true), (137, .bool false), (142, .bool true), (148, .pointer (some ⟨5, 0 + (Int.toNat (w64 (v99 - r1.1))) * 1, none⟩))])
def S6_6 (r5 : (List Int) × (List Int) × Int) (r77 : List Int) (v99 : Int) (r1 : Int × Int × (List I2)) : CAct := (st 156 [(3, pt 2 0), (5, accV 4 r5.1.length), (6, accV 5 r5.2.1.length), (115, mkV 6 r77.length), (116, iv (r77.length : Int)), (117, iv v99), (125, .bool true), (137, .bool false), (142, .bool true), (143, accV 5 r5.2.1.length), (147, iv (w64 (v99 - r1.1)))])
def S6_7 (r5 : (List Int) × (List Int) × Int) (v99 : Int) (r77 : List Int) : CAct := (st 156 [(3, pt 2 0), (5, accV 4 r5.1.length), (6, accV 5 r5.2.1.length), (12, iv v99), (115, mkV 6 r77.length), (116, iv (r77.length : Int)), (117, iv v99), (125, .bool true), (130, .bool true), (133, .pointer (some ⟨4, 0 + (Int.toNat v99) * 1, none⟩))])
def H6_8 (p2 p13 : List Int) (r1 : Int × Int × (List I2)) (r7 : (List Int) × Int) : List Blk := [ab 5 e5 p2, ab 5 e5 p13, .dead, ab 57 e57 r1.2.2, cl 24 [iv r1.1, iv r1.2.1, accV 3 r1.2.2.length], .dead, .dead, ab 3 e3 r7.1]
def S6_9 (r5 : (List Int) × (List Int) × Int) (v99 : Int) (r77 : List Int) : CAct := (st 156 [(3, pt 2 0), (5, accV 4 r5.1.length), (6, accV 5 r5.2.1.length), (12, iv v99), (115, mkV 6 r77.length), (116, iv (r77.length : Int)), (117, iv v99), (125, .bool true), (130, .bool true), (131, accV 4 r5.1.length), (132, iv v99)])
def S6_10 (r5 : (List Int) × (List Int) × Int) (v99 : Int) (r77 : List Int) (r1 : Int × Int × (List I2)) : CAct := (st 156 [(3, pt 2 0), (5, accV 4 r5.1.length), (6, accV 5 r5.2.1.length), (12, iv v99), (115, mkV 6 r77.length), (116, iv (r77.length : Int)), (117, iv v99), (125, .bool true), (137, .bool false), (138, iv v99), (140, iv r1.1)])
def S6_11 (r5 : (List Int) × (List Int) × Int) (v99 : Int) (r77 : List Int) : CAct := (st 156 [(3, pt 2 0), (5, accV 4 r5.1.length), (6, accV 5 r5.2.1.length), (12, iv v99), (115, mkV 6 r77.length), (116, iv (r77.length : Int)), (117, iv v99), (125, .bool true), (137, .bool false), (141, .bool false)])
def S6_12 (r5 : (List Int) × (List Int) × Int) (v99 : Int) (r77 : List Int) : CAct := (st 156 [(3, pt 2 0), (5, accV 4 r5.1.length), (6, accV 5 r5.2.1.length), (12, iv v99), (115, mkV 6 r77.length), (116, iv (r77.length : Int)), (117, iv v99), (125, .bool true), (130, .bool true), (135, .bool false)])
def S6_13 (r5 : (List Int) × (List Int) × Int) (v99 : Int) (r77 : List Int) : CAct := (st 156 [(3, pt 2 0), (5, accV 4 r5.1.length), (6, accV 5 r5.2.1.length), (12, iv v99), (115, mkV 6 r77.length), (116, iv (r77.length : Int)), (117, iv v99), (125, .bool true), (137, .bool false), (141, .bool true)])
def S6_14 (r5 : (List Int) × (List Int) × Int) (v99 : Int) (r77 : List Int) (o128 : Int) : CAct := (st 156 [(3, pt 2 0), (5, accV 4 r5.1.length), (6, accV 5 r5.2.1.length), (12, iv v99), (115, mkV 6 r77.length), (116, iv (r77.length : Int)), (117, iv v99), (125, .bool true), (130, .bool true), (134, iv o128)])
def S6_15 (r5 : (List Int) × (List Int) × Int) (v99 : Int) (r77 : List Int) (r1 : Int × Int × (List I2)) : CAct := (st 156 [(3, pt 2 0), (5, accV 4 r5.1.length), (6, accV 5 r5.2.1.length), (12, iv v99), (115, mkV 6 r77.length), (116, iv (r77.length : Int)), (117, iv v99), (125, .bool true), (126, iv v99), (128, iv r1.1)])
def H6_16 (p2 p13 : List Int) (r1 : Int × Int × (List I2)) (r7 : (List Int) × Int) : List Blk := [ab 5 e5 p2, ab 5 e5 p13, .dead, ab 57 e57 r1.2.2, .dead, .dead, .dead, ab 3 e3 r7.1]
def S6_17 (r5 : (List Int) × (List Int) × Int) (v99 : Int) (r77 : List Int) : CAct := (st 156 [(3, pt 2 0), (5, accV 4 r5.1.length), (6, accV 5 r5.2.1.length), (12, iv v99), (115, mkV 6 r77.length), (116, iv (r77.length : Int)), (117, iv v99), (125, .bool true), (129, .bool false)])
def S6_18 (r5 : (List Int) × (List Int) × Int) (v99 : Int) (r77 : List Int) : CAct := (st 156 [(3, pt 2 0), (5, accV 4 r5.1.length), (6, accV 5 r5.2.1.length), (12, iv v99), (115, mkV 6 r77.length), (116, iv (r77.length : Int)), (117, iv v99), (125, .bool true), (129, .bool true)])
def S6_19 (r5 : (List Int) × (List Int) × Int) (v99 : Int) (r77 : List Int) (o123 : Int) : CAct := (st 156 [(3, pt 2 0), (5, accV 4 r5.1.length), (6, accV 5 r5.2.1.length), (12, iv v99), (115, mkV 6 r77.length), (116, iv (r77.length : Int)), (117, iv v99), (122, iv v99), (123, iv o123)])
def S6_20 (r7 : (List Int) × Int) (r1 : Int × Int × (List I2)) : CAct := (st 156 [(3, pt 4 0), (8, sv 7 r7.1.length ANY), (42, .bool true), (43, ag [iv r1.1, iv r1.2.1, accV 3 r1.2.2.length]), (44, sv 7 r7.1.length ANY)])
def S6_21 (r5 : (List Int) × (List Int) × Int) (v99 : Int) (r77 : List Int) : CAct := (st 156 [(3, pt 2 0), (5, accV 4 r5.1.length), (6, accV 5 r5.2.1.length), (12, iv v99), (115, mkV 6 r77.length), (116, iv (r77.length : Int)), (117, iv v99), (124, .bool true)])
def S6_22 (r5 : (List Int) × (List Int) × Int) (r77 : List Int) (v99 : Int) : CAct := (st 156 [(3, pt 2 0), (5, accV 4 r5.1.length), (6, accV 5 r5.2.1.length), (115, mkV 6 r77.length), (116, iv (r77.length : Int)), (117, iv v99), (153, .bool false)])
def S6_23 (r5 : (List Int) × (List Int) × Int) (r1 : Int × Int × (List I2)) (v45 : Int) : CAct := (st 156 [(3, pt 2 0), (5, accV 4 r5.1.length), (6, accV 5 r5.2.1.length), (87, accV 3 r1.2.2.length), (88, iv (r1.2.2.length : Int)), (89, iv (w64 (v45 + 1)))])
def S6_24 (r5 : (List Int) × (List Int) × Int) (r77 : List Int) (v99 : Int) : CAct := (st 156 [(3, pt 2 0), (5, accV 4 r5.1.length), (6, accV 5 r5.2.1.length), (115, mkV 6 r77.length), (116, iv (r77.length : Int)), (117, iv (w64 (v99 + 1)))])
def S6_25 (r5 : (List Int) × (List Int) × Int) (r7 : (List Int) × Int) : CAct := (st 156 [(3, pt 4 0), (5, accV 5 r5.1.length), (6, accV 6 r5.2.1.length), (8, sv 7 r7.1.length ANY), (58, .bool false), (60, .bool false)])
def S6_26 (r5 : (List Int) × (List Int) × Int) (r7 : (List Int) × Int) : CAct := (st 156 [(3, pt 4 0), (5, accV 5 r5.1.length), (6, accV 6 r5.2.1.length), (8, sv 7 r7.1.length ANY), (58, .bool false), (59, iv r7.2)])
def S6_27 (r5 : (List Int) × (List Int) × Int) (r7 : (List Int) × Int) : CAct := (st 156 [(3, pt 4 0), (5, accV 5 r5.1.length), (6, accV 6 r5.2.1.length), (8, sv 7 r7.1.length ANY), (9, iv r7.2), (57, .bool false)])
def S6_28 (r5 : (List Int) × (List Int) × Int) (r7 : (List Int) × Int) : CAct := (st 156 [(3, pt 4 0), (5, accV 5 r5.1.length), (6, accV 6 r5.2.1.length), (8, sv 7 r7.1.length ANY), (9, iv r7.2), (56, iv r5.2.2)])
def S6_29 (r5 : (List Int) × (List Int) × Int) (r77 : List Int) (v99 : Int) : CAct := (st 156 [(3, pt 2 0), (5, accV 4 r5.1.length), (6, accV 5 r5.2.1.length), (115, mkV 6 r77.length), (116, iv (r77.length : Int)), (117, iv v99)])
def S6_30 (r5 : (List Int) × (List Int) × Int) (r77 : List Int) : CAct := (st 156 [(3, pt 2 0), (5, accV 4 r5.1.length), (6, accV 5 r5.2.1.length), (115, mkV 6 r77.length), (116, iv (r77.length : Int)), (117, iv 0)])
def S6_31 (r5 : (List Int) × (List Int) × Int) (r1 : Int × Int × (List I2)) : CAct := (st 156 [(3, pt 4 0), (5, accV 5 r5.1.length), (6, accV 6 r5.2.1.length), (67, .bool false), (68, ag [iv r1.1, iv r1.2.1, accV 3 r1.2.2.length])])
def S6_32 (r7 : (List Int) × Int) (r1 : Int × Int × (List I2)) : CAct := (st 156 [(3, pt 4 0), (8, sv 7 r7.1.length ANY), (37, .bool true), (38, ag [iv r1.1, iv r1.2.1, accV 3 r1.2.2.length])])
def S6_33 (r5 : (List Int) × (List Int) × Int) (r7 : (List Int) × Int) : CAct := (st 156 [(3, pt 4 0), (5, accV 5 r5.1.length), (6, accV 6 r5.2.1.length), (62, .bool false), (64, iv (r7.1.length : Int))])
def H6_34 (p2 p13 : List Int) : List Blk := [ab 5 e5 p2, ab 5 e5 p13, .dead, .dead, .dead, .dead, .dead, .dead]
def S6_35 (r5 : (List Int) × (List Int) × Int) : CAct := (st 156 [(3, pt 4 0), (5, accV 5 r5.1.length), (6, accV 6 r5.2.1.length), (62, .bool false), (65, .bool false)])
def S6_36 (r5 : (List Int) × (List Int) × Int) : CAct := (st 156 [(3, pt 4 0), (5, accV 5 r5.1.length), (6, accV 6 r5.2.1.length), (67, .bool false), (70, .bool false)])
def S6_37 (r5 : (List Int) × (List Int) × Int) (r27 : Int) : CAct := (st 156 [(3, pt 4 0), (5, accV 5 r5.1.length), (6, accV 6 r5.2.1.length), (67, .bool false), (69, iv r27)])
def S6_38 (r7 : (List Int) × Int) : CAct := (st 156 [(3, pt 4 0), (8, sv 7 r7.1.length ANY), (33, .bool true), (35, .bool true)])
def S6_39 (r7 : (List Int) × Int) : CAct := (st 156 [(3, pt 4 0), (8, sv 7 r7.1.length ANY), (37, .bool true), (40, .bool true)])
def S6_40 (r7 : (List Int) × Int) : CAct := (st 156 [(3, pt 4 0), (8, sv 7 r7.1.length ANY), (42, .bool true), (46, .bool true)])
def S6_41 (r7 : (List Int) × Int) : CAct := (st 156 [(3, pt 4 0), (8, sv 7 r7.1.length ANY), (33, .bool true), (34, iv r7.2)])
def S6_42 (r7 : (List Int) × Int) : CAct := (st 156 [(3, pt 4 0), (8, sv 7 r7.1.length ANY), (9, iv r7.2), (32, .bool true)])
def S6_43 (r7 : (List Int) × Int) (r12 : Int) : CAct := (st 156 [(3, pt 4 0), (8, sv 7 r7.1.length ANY), (37, .bool true), (39, iv r12)])
def S6_44 (r7 : (List Int) × Int) (r15 : Int) : CAct := (st 156 [(3, pt 4 0), (8, sv 7 r7.1.length ANY), (42, .bool true), (45, iv r15)])
def S6_45 (r7 : (List Int) × Int) (r5 : (List Int) × (List Int) × Int) : CAct := (st 156 [(3, pt 4 0), (8, sv 7 r7.1.length ANY), (9, iv r7.2), (31, iv r5.2.2)])
def H6_46 (r1 : Int × Int × (List I2)) (r7 : (List Int) × Int) : List Blk := [ab 57 e57 r1.2.2, ab 3 e3 r7.1]
def S6_47 (r5 : (List Int) × (List Int) × Int) : CAct := (st 156 [(3, pt 4 0), (5, accV 5 r5.1.length), (6, accV 6 r5.2.1.length), (85, .bool true)])
def H6_48 (p2 p13 : List Int) : List Blk := [ab 5 e5 p2, ab 5 e5 p13]
def F6l0 (p2 p13 : List Int) (r1 : Int × Int × (List I2)) (r5 : (List Int) × (List Int) × Int) (v45 : Int) : Option (Unit ⊕ Unit) :=
 if decide (v45 < (r1.2.2.length : Int)) then
  if (0 : Int) ≤ v45 ∧ v45 < (r1.2.2.length : Int) then
   some (List.getD r1.2.2 (Int.toNat v45) (0, 0)) >>= fun o62 =>
   if r1.1 = 0 then none else
   if (0 : Int) ≤ Int.tmod o62.1 r1.1 ∧ Int.tmod o62.1 r1.1 < (r5.1.length : Int) then
    some (List.getD r5.1 (Int.toNat (Int.tmod o62.1 r1.1)) 0) >>= fun o66 =>
    if r1.2.1 = 0 then none else
    if (0 : Int) ≤ Int.tmod o62.1 r1.2.1 ∧ Int.tmod o62.1 r1.2.1 < (r5.2.1.length : Int) then
     some (List.getD r5.2.1 (Int.toNat (Int.tmod o62.1 r1.2.1)) 0) >>= fun o70 =>
     if (w64 (o66 + o70)) != o62.2 then
      some (.inl ())
     else
      F6l0 p2 p13 r1 r5 (w64 (v45 + 1))
    else none
   else none
  else none
 else
  some (.inr ())
 partial_fixpoint
def F6l1 (p2 p13 : List Int) (r1 : Int × Int × (List I2)) (r5 : (List Int) × (List Int) × Int) (r77 : List Int) (v99 : Int) : Option (Unit ⊕ Unit) :=
 if decide (v99 < (r77.length : Int)) then
  if (0 : Int) ≤ v99 ∧ v99 < (r77.length : Int) then
   some (List.getD r77 (Int.toNat v99) 0) >>= fun o123 =>
   (
    if v99 == o123 then
     if decide (v99 < r1.1) then
      if (0 : Int) ≤ v99 ∧ v99 < (r5.1.length : Int) then
       some (List.getD r5.1 (Int.toNat v99) 0) >>= fun o128 =>
       if o128 != 0 then
        some (true)
       else
        if decide (v99 ≥ r1.1) then
         if (0 : Int) ≤ w64 (v99 - r1.1) ∧ w64 (v99 - r1.1) < (r5.2.1.length : Int) then
          some (List.getD r5.2.1 (Int.toNat (w64 (v99 - r1.1))) 0) >>= fun o133 =>
          some (o133 != 0)
         else none
        else
         some (false)
      else none
     else
      if decide (v99 ≥ r1.1) then
       if (0 : Int) ≤ w64 (v99 - r1.1) ∧ w64 (v99 - r1.1) < (r5.2.1.length : Int) then
        some (List.getD r5.2.1 (Int.toNat (w64 (v99 - r1.1))) 0) >>= fun o137 =>
        some (o137 != 0)
       else none
      else
       some (false)
    else
     some (false)
   : Option Bool) >>= fun m139 =>
   if m139 then
    some (.inl ())
   else
    F6l1 p2 p13 r1 r5 r77 (w64 (v99 + 1))
  else none
 else
  some (.inr ())
 partial_fixpoint
def F6 (p0 p1 : Int) (p2 : List Int) (p3 p4 p5 p6 p7 p8 p9 p10 p11 p12 : Int) (p13 : List Int) : Option Bool :=
 F32 p0 p1 p2 p3 p4 p5 p6 p7 p8 p9 p10 p11 p12 p13 >>= fun r1 =>
 F33 64 r1.1 r1.2.1 r1.2.2 ([]) 0 >>= fun r3 =>
 F16 r1.1 r1.2.1 r1.2.2 >>= fun r5 =>
 F29 r1.1 r1.2.1 r1.2.2 >>= fun r7 =>
 (
  if r3 then
   some (false)
  else
   some (true)
 : Option Bool) >>= fun m9 =>
 if m9 then
  (
   if r5.2.2 == 13 then
    if r7.2 == 0 then
     F21 r1.1 r1.2.1 r1.2.2 >>= fun r12 =>
     if r12 == 13 then
      F27 r1.1 r1.2.1 r1.2.2 r7.1 >>= fun r15 =>
      if r15 == 0 then
       F34 r1.1 r1.2.1 r1.2.2 r7.1 >>= fun r18 =>
       if r18 then
        F14 >>= fun r20 =>
        some (r20)
       else
        some (false)
      else
       some (false)
     else
      some (false)
    else
     some (false)
   else
    some (false)
  : Option Bool) >>= fun m22 =>
  some m22
 else
  (
   if r5.2.2 != 0 then
    some (true)
   else
    if r7.2 != 6 then
     some (true)
    else
     if decide ((r7.1.length : Int) > 0) then
      some (true)
     else
      F21 r1.1 r1.2.1 r1.2.2 >>= fun r27 =>
      if r27 != 0 then
       some (true)
      else
       if (r5.1.length : Int) != r1.1 then
        some (true)
       else
        some ((r5.2.1.length : Int) != r1.2.1)
  : Option Bool) >>= fun m31 =>
  if m31 then
   some false
  else
   F6l0 p2 p13 r1 r5 0 >>= fun r73 =>
   match r73 with
   | .inl o75 =>
    some false
   | .inr o76 =>
    F35 r1.1 r1.2.1 r1.2.2 >>= fun r77 =>
    F6l1 p2 p13 r1 r5 r77 0 >>= fun r141 =>
    match r141 with
    | .inl o143 =>
     some false
    | .inr o144 =>
     F14 >>= fun r145 =>
     some r145
def V6 (b : Nat) (r : Bool) : Value := .bool r
def N6 (b : Nat) (r : Bool) : List Blk := []
def P6l0 (p2 p13 : List Int) (r1 : Int × Int × (List I2)) (r5 : (List Int) × (List Int) × Int) (r : Unit ⊕ Unit) : Post := fun e a h => (match r with | .inl q0 => e = .ret ∧ Wk Try.prog 2 2 a h (st 156 [(2, .bool false)]) (H6_48 p2 p13) | .inr q0 => e = .exit 0 ∧ Wk Try.prog 2 2 a h (st 156 [(3, pt 2 0), (5, accV 4 r5.1.length), (6, accV 5 r5.2.1.length)]) (H6_4 p2 p13 r1 r5))
theorem L6l0 (p2 p13 : List Int) (r1 : Int × Int × (List I2)) (r5 : (List Int) × (List Int) × Int) (v45 : Int) (r : Unit ⊕ Unit) (hF : F6l0 p2 p13 r1 r5 v45 = some r) : TL Try.prog 2 2 c6.s2.s2.s2.s2.s2.s2.s2.s1.s2.bd.bd (st 156 [(3, pt 2 0), (5, accV 4 r5.1.length), (6, accV 5 r5.2.1.length), (87, accV 3 r1.2.2.length), (88, iv (r1.2.2.length : Int)), (89, iv v45)]) (H6_4 p2 p13 r1 r5) (P6l0 p2 p13 r1 r5 r) := by
 refine F6l0.partial_correctness p2 p13 r1 r5 (motive := fun v45 r => TL Try.prog 2 2 c6.s2.s2.s2.s2.s2.s2.s2.s1.s2.bd.bd (st 156 [(3, pt 2 0), (5, accV 4 r5.1.length), (6, accV 5 r5.2.1.length), (87, accV 3 r1.2.2.length), (88, iv (r1.2.2.length : Int)), (89, iv v45)]) (H6_4 p2 p13 r1 r5) (P6l0 p2 p13 r1 r5 r)) ?_ v45 r hF
 clear hF r v45
 intro again ih v45 r hF
 refine TL.round (TS.sq (TS.rg (TI.ra 1 [3, 5, 6, 87, 88, 89, 90] (st 156 [(3, pt 2 0), (5, accV 4 r5.1.length), (6, accV 5 r5.2.1.length), (87, accV 3 r1.2.2.length), (88, iv (r1.2.2.length : Int)), (89, iv v45), (90, .bool (decide (v45 < (r1.2.2.length : Int))))]) (TI.dn (NX.sq (TS.sq ?_))))))
 refine TS.cd (.tmp 90) (decide (v45 < (r1.2.2.length : Int))) (fun hc60 => ?_) (fun hc60 => ?_)
 · replace hF := of_pos hF hc60
   refine TS.sk (NX.sq (TS.sq (TS.bk 1 (TS.sq ?_))))
   obtain ⟨hg61, hF⟩ := of_guard hF
   obtain ⟨o62, h63, hF⟩ := of_do hF
   replace h63 := sj h63
   refine TS.rg (TI.o { val := .pointer (some ⟨3, 0 + (Int.toNat v45) * 2, none⟩) } (q_ixAcc (P := Try.prog) (t := 22) (s := 2) (e := 57) 3 r1.2.2.length (by kernel_rfl) hg61 (by kernel_rfl) (by kernel_rfl)) [3, 5, 6, 87, 88, 89, 91] [0, 1, 2, 3, 4, 5] (st 156 [(3, pt 2 0), (5, accV 4 r5.1.length), (6, accV 5 r5.2.1.length), (87, accV 3 r1.2.2.length), (88, iv (r1.2.2.length : Int)), (89, iv v45), (91, .pointer (some ⟨3, 0 + (Int.toNat v45) * 2, none⟩))]) (H6_4 p2 p13 r1 r5) (TI.o { val := ag [iv o62.1, iv o62.2] } (q_nAa Try.prog (H6_4 p2 p13 r1 r5) 57 3 (0 + (Int.toNat v45) * 2) r1.2.2 e57 2 57 (Int.toNat v45) (0, 0) h63) [3, 5, 6, 87, 88, 89, 92] [0, 1, 2, 3, 4, 5] (st 156 [(3, pt 2 0), (5, accV 4 r5.1.length), (6, accV 5 r5.2.1.length), (87, accV 3 r1.2.2.length), (88, iv (r1.2.2.length : Int)), (89, iv v45), (92, ag [iv o62.1, iv o62.2])]) (H6_4 p2 p13 r1 r5) (TI.rn 2 [3, 5, 6, 11, 87, 88, 89] [0, 1, 2, 3, 4, 5, 6] (st 156 [(3, pt 2 0), (5, accV 4 r5.1.length), (6, accV 5 r5.2.1.length), (11, pt 6 0), (87, accV 3 r1.2.2.length), (88, iv (r1.2.2.length : Int)), (89, iv v45)]) (H6_2 p2 p13 r1 r5 o62) (TI.dn (NX.sq (TS.sq ?_))))))
   obtain ⟨hg64, hF⟩ := of_guardn hF
   obtain ⟨hg65, hF⟩ := of_guard hF
   obtain ⟨o66, h67, hF⟩ := of_do hF
   replace h67 := sj h67
   obtain ⟨hg68, hF⟩ := of_guardn hF
   obtain ⟨hg69, hF⟩ := of_guard hF
   obtain ⟨o70, h71, hF⟩ := of_do hF
   replace h71 := sj h71
   refine TS.dp [] (fun e he => by cases he) mixed 19 [3, 5, 6, 87, 88, 89, 112] [0, 1, 2, 3, 4, 5] (st 156 [(3, pt 2 0), (5, accV 4 r5.1.length), (6, accV 5 r5.2.1.length), (87, accV 3 r1.2.2.length), (88, iv (r1.2.2.length : Int)), (89, iv v45), (112, .bool ((w64 (o66 + o70)) != o62.2))]) [ab 5 e5 p2, ab 5 e5 p13, cl 24 [iv r1.1, iv r1.2.1, accV 3 r1.2.2.length], ab 57 e57 r1.2.2, ab 3 e3 r5.1, ab 3 e3 r5.2.1, .dead] ?_ ?_
   · refine QJ.rn (qs (st 156 [(3, pt 2 0), (5, accV 4 r5.1.length), (6, accV 5 r5.2.1.length), (11, pt 6 0), (87, accV 3 r1.2.2.length), (88, iv (r1.2.2.length : Int)), (89, iv v45), (93, accV 4 r5.1.length), (94, pt 6 0), (95, iv o62.1), (96, pt 2 0), (97, iv r1.1)]) (H6_2 p2 p13 r1 r5 o62) [] []) 5 (QJ.o { val := iv (Int.tmod o62.1 r1.1) } (q_int (P := Try.prog) (op := .rem) (ty := 3) (ox := (.tmp 95)) (oy := (.tmp 97)) (k := .i64) (k' := .i64) (y := o62.1) (z := r1.1) (by kernel_rfl) (rem_ok hg64)) (QJ.o { val := .pointer (some ⟨4, 0 + (Int.toNat (Int.tmod o62.1 r1.1)) * 1, none⟩) } (q_ixAcc (P := Try.prog) (t := 30) (s := 1) (e := 3) 4 r5.1.length (by kernel_rfl) hg65 (by kernel_rfl) (by kernel_rfl)) (QJ.o { val := iv o66 } (q_n1a Try.prog (H6_2 p2 p13 r1 r5 o62) 3 4 (0 + (Int.toNat (Int.tmod o62.1 r1.1)) * 1) r5.1 e3 1 3 (Int.toNat (Int.tmod o62.1 r1.1)) 0 0 h67) (QJ.rn (qs (st 156 [(3, pt 2 0), (5, accV 4 r5.1.length), (6, accV 5 r5.2.1.length), (11, pt 6 0), (87, accV 3 r1.2.2.length), (88, iv (r1.2.2.length : Int)), (89, iv v45), (93, accV 4 r5.1.length), (94, pt 6 0), (95, iv o62.1), (96, pt 2 0), (97, iv r1.1), (98, iv (Int.tmod o62.1 r1.1)), (99, .pointer (some ⟨4, 0 + (Int.toNat (Int.tmod o62.1 r1.1)) * 1, none⟩)), (100, iv o66), (101, accV 5 r5.2.1.length), (102, pt 6 0), (103, iv o62.1), (104, pt 2 1), (105, iv r1.2.1)]) (H6_2 p2 p13 r1 r5 o62) [] []) 5 (QJ.o { val := iv (Int.tmod o62.1 r1.2.1) } (q_int (P := Try.prog) (op := .rem) (ty := 3) (ox := (.tmp 103)) (oy := (.tmp 105)) (k := .i64) (k' := .i64) (y := o62.1) (z := r1.2.1) (by kernel_rfl) (rem_ok hg68)) (QJ.o { val := .pointer (some ⟨5, 0 + (Int.toNat (Int.tmod o62.1 r1.2.1)) * 1, none⟩) } (q_ixAcc (P := Try.prog) (t := 30) (s := 1) (e := 3) 5 r5.2.1.length (by kernel_rfl) hg69 (by kernel_rfl) (by kernel_rfl)) (QJ.o { val := iv o70 } (q_n1a Try.prog (H6_2 p2 p13 r1 r5 o62) 3 5 (0 + (Int.toNat (Int.tmod o62.1 r1.2.1)) * 1) r5.2.1 e3 1 3 (Int.toNat (Int.tmod o62.1 r1.2.1)) 0 0 h71) (QJ.rn (qs (st 156 [(3, pt 2 0), (5, accV 4 r5.1.length), (6, accV 5 r5.2.1.length), (11, pt 6 0), (87, accV 3 r1.2.2.length), (88, iv (r1.2.2.length : Int)), (89, iv v45), (93, accV 4 r5.1.length), (94, pt 6 0), (95, iv o62.1), (96, pt 2 0), (97, iv r1.1), (98, iv (Int.tmod o62.1 r1.1)), (99, .pointer (some ⟨4, 0 + (Int.toNat (Int.tmod o62.1 r1.1)) * 1, none⟩)), (100, iv o66), (101, accV 5 r5.2.1.length), (102, pt 6 0), (103, iv o62.1), (104, pt 2 1), (105, iv r1.2.1), (106, iv (Int.tmod o62.1 r1.2.1)), (107, .pointer (some ⟨5, 0 + (Int.toNat (Int.tmod o62.1 r1.2.1)) * 1, none⟩)), (108, iv o70), (109, iv (w64 (o66 + o70))), (110, pt 6 1), (111, iv o62.2)]) (H6_2 p2 p13 r1 r5 o62) [] []) 3 ?_))))))))
     exact QJ.dn ⟨rfl, SJ.la⟩
   refine TS.cd (.tmp 112) ((w64 (o66 + o70)) != o62.2) (fun hc72 => ?_) (fun hc72 => ?_)
   · replace hF := of_pos hF hc72
     refine TS.sq (TS.rg (TI.rn 1 [2] [0, 1] (st 156 [(2, .bool false)]) [ab 5 e5 p2, ab 5 e5 p13, .dead, .dead, .dead, .dead, .dead] (TI.dn (NX.sq (TS.rt (NX.bkR (NX.sqR ?_)))))))
     have hF := sj hF
     subst hF
     exact Rd.out (e := .ret) (by intro h; cases h) (And.intro rfl (Wk.an [] (.ac (.ac (.nil _))) [.bool false] (.fl .nil)))
   replace hF := of_neg hF hc72
   refine TS.sk (NX.bk (NX.sq (TS.rg (TI.ra 2 [3, 5, 6, 87, 88, 89] (S6_23 r5 r1 v45) (TI.dn ?_)))))
   exact Rd.again (a2 := (S6_23 r5 r1 v45)) (h2 := (H6_4 p2 p13 r1 r5)) (Wk.an [2, 3, 4, 5] (.ac (.ac (.lt (.fl (.fl (.cons (Rn.acc (nl rfl) rfl) .nil))) (.ac (.ac (.ac (.nil _))))))) [pt 2 0, accV 4 r5.1.length, accV 5 r5.2.1.length, accV 3 r1.2.2.length, iv (r1.2.2.length : Int), iv (w64 (v45 + 1))] (.pp (.cons (Rn.acc (nl rfl) rfl) (.cons (Rn.acc (nl rfl) rfl) (.cons (Rn.acc (nl rfl) rfl) (.fl (.fl .nil))))))) (ih (w64 (v45 + 1)) _ hF)
 replace hF := of_neg hF hc60
 refine TS.ex 0 (NX.sqX ?_)
 have hF := sj hF
 subst hF
 exact Rd.out (e := .exit 0) (by intro h; cases h) (And.intro rfl (Wk.an [2, 3, 4, 5] (.ac (.ac (.lt (.fl (.fl (.cons (Rn.acc (nl rfl) rfl) .nil))) (.ac (.ac (.ac (.nil _))))))) [pt 2 0, accV 4 r5.1.length, accV 5 r5.2.1.length] (.pp (.cons (Rn.acc (nl rfl) rfl) (.cons (Rn.acc (nl rfl) rfl) .nil)))))
def P6l1 (p2 p13 : List Int) (r1 : Int × Int × (List I2)) (r5 : (List Int) × (List Int) × Int) (r77 : List Int) (r : Unit ⊕ Unit) : Post := fun e a h => (match r with | .inl q0 => e = .ret ∧ Wk Try.prog 2 2 a h (st 156 [(2, .bool false)]) (H6_48 p2 p13) | .inr q0 => e = .exit 2 ∧ Wk Try.prog 2 2 a h (st 156 []) (H6_48 p2 p13))
theorem L6l1 (p2 p13 : List Int) (r1 : Int × Int × (List I2)) (r5 : (List Int) × (List Int) × Int) (r77 : List Int) (v99 : Int) (r : Unit ⊕ Unit) (hF : F6l1 p2 p13 r1 r5 r77 v99 = some r) : TL Try.prog 2 2 c6.s2.s2.s2.s2.s2.s2.s2.s2.s1.s2.bd.bd (S6_29 r5 r77 v99) (H6_1 p2 p13 r1 r5 r77) (P6l1 p2 p13 r1 r5 r77 r) := by
 refine F6l1.partial_correctness p2 p13 r1 r5 r77 (motive := fun v99 r => TL Try.prog 2 2 c6.s2.s2.s2.s2.s2.s2.s2.s2.s1.s2.bd.bd (S6_29 r5 r77 v99) (H6_1 p2 p13 r1 r5 r77) (P6l1 p2 p13 r1 r5 r77 r)) ?_ v99 r hF
 clear hF r v99
 intro again ih v99 r hF
 refine TL.round (TS.sq (TS.rg (TI.ra 1 [3, 5, 6, 115, 116, 117, 118] (st 156 [(3, pt 2 0), (5, accV 4 r5.1.length), (6, accV 5 r5.2.1.length), (115, mkV 6 r77.length), (116, iv (r77.length : Int)), (117, iv v99), (118, .bool (decide (v99 < (r77.length : Int))))]) (TI.dn (NX.sq (TS.sq ?_))))))
 refine TS.cd (.tmp 118) (decide (v99 < (r77.length : Int))) (fun hc121 => ?_) (fun hc121 => ?_)
 · replace hF := of_pos hF hc121
   refine TS.sk (NX.sq (TS.sq (TS.bk 3 (TS.sq ?_))))
   obtain ⟨hg122, hF⟩ := of_guard hF
   obtain ⟨o123, h124, hF⟩ := of_do hF
   replace h124 := sj h124
   refine TS.rg (TI.ra 1 [3, 5, 6, 115, 116, 117, 119] (st 156 [(3, pt 2 0), (5, accV 4 r5.1.length), (6, accV 5 r5.2.1.length), (115, mkV 6 r77.length), (116, iv (r77.length : Int)), (117, iv v99), (119, iv v99)]) (TI.o { val := .pointer (some ⟨6, 0 + (Int.toNat v99) * 1, none⟩) } (q_ixS 6 0 ((Int.toNat v99) * 1) (by kernel_rfl) hg122) [3, 5, 6, 115, 116, 117, 119, 120] [0, 1, 2, 3, 4, 5, 6] (st 156 [(3, pt 2 0), (5, accV 4 r5.1.length), (6, accV 5 r5.2.1.length), (115, mkV 6 r77.length), (116, iv (r77.length : Int)), (117, iv v99), (119, iv v99), (120, .pointer (some ⟨6, 0 + (Int.toNat v99) * 1, none⟩))]) (H6_1 p2 p13 r1 r5 r77) (TI.o { val := iv o123 } (q_n1 Try.prog (H6_1 p2 p13 r1 r5 r77) 3 6 (0 + (Int.toNat v99) * 1) r77 e3 1 3 (Int.toNat v99) 0 0 h124) [3, 5, 6, 115, 116, 117, 119, 121] [0, 1, 2, 3, 4, 5, 6] (st 156 [(3, pt 2 0), (5, accV 4 r5.1.length), (6, accV 5 r5.2.1.length), (115, mkV 6 r77.length), (116, iv (r77.length : Int)), (117, iv v99), (119, iv v99), (121, iv o123)]) (H6_1 p2 p13 r1 r5 r77) (TI.ra 2 [3, 5, 6, 12, 13, 115, 116, 117] (st 156 [(3, pt 2 0), (5, accV 4 r5.1.length), (6, accV 5 r5.2.1.length), (12, iv v99), (13, iv o123), (115, mkV 6 r77.length), (116, iv (r77.length : Int)), (117, iv v99)]) (TI.dn (NX.sq (TS.sq ?_)))))))
   obtain ⟨m139, hm140, hF⟩ := of_do hF
   have hK : NX Try.prog 2 2 [.sq c6.s2.s2.s2.s2.s2.s2.s2.s2.s1.s2.bd.bd.s2.s2.s1.bd.s2.s2, .bk 3, .sq c6.s2.s2.s2.s2.s2.s2.s2.s2.s1.s2.bd.bd.s2.s2.s2] (Rd Try.prog 2 2 c6.s2.s2.s2.s2.s2.s2.s2.s2.s1.s2.bd.bd (P6l1 p2 p13 r1 r5 r77 r)) .normal (st 156 [(3, pt 2 0), (5, accV 4 r5.1.length), (6, accV 5 r5.2.1.length), (115, mkV 6 r77.length), (116, iv (r77.length : Int)), (117, iv v99), (153, .bool m139)]) (H6_1 p2 p13 r1 r5 r77) := by
    refine NX.sq ?_
    cases m139 with
    | true =>
     replace hF := of_pos hF rfl
     refine TS.cdT (.tmp 153) (TS.sq (TS.rg (TI.rn 1 [2] [0, 1] (st 156 [(2, .bool false)]) [ab 5 e5 p2, ab 5 e5 p13, .dead, .dead, .dead, .dead, .dead] (TI.dn (NX.sq (TS.rt (NX.bkR (NX.sqR ?_))))))))
     have hF := sj hF
     subst hF
     exact Rd.out (e := .ret) (by intro h; cases h) (And.intro rfl (Wk.an [] (.ac (.ac (.nil _))) [.bool false] (.fl .nil)))
    | false =>
     replace hF := of_neg hF rfl
     refine TS.cdF (.tmp 153) (TS.sk (NX.bk (NX.sq (TS.rg (TI.ra 2 [3, 5, 6, 115, 116, 117] (S6_24 r5 r77 v99) (TI.dn ?_))))))
     exact Rd.again (a2 := (S6_24 r5 r77 v99)) (h2 := (H6_1 p2 p13 r1 r5 r77)) (Wk.an [2, 3, 4, 5, 6] (.ac (.ac (.lt (.fl (.fl (.cons (Rn.acc (nl rfl) rfl) .nil))) (.ac (.ac (.ac (.cons (At.blk (by kernel_rfl) (RnB.list (fun _ => rfl))) (.nil _)))))))) [pt 2 0, accV 4 r5.1.length, accV 5 r5.2.1.length, mkV 6 r77.length, iv (r77.length : Int), iv (w64 (v99 + 1))] (.pp (.cons (Rn.acc (nl rfl) rfl) (.cons (Rn.acc (nl rfl) rfl) (.cons (Rn.mk (nl rfl) rfl (by simp only [List.length_set])) (.fl (.fl .nil))))))) (ih (w64 (v99 + 1)) _ hF)
   rcases Bool.eq_false_or_eq_true (v99 == o123) with hc125 | hc125
   · replace hm140 := of_pos hm140 hc125
     rcases Bool.eq_false_or_eq_true (decide (v99 < r1.1)) with hc126 | hc126
     · replace hm140 := of_pos hm140 hc126
       have hX := of_guard hm140
       clear hm140
       obtain ⟨hg127, hm140⟩ := hX
       have hX := of_do hm140
       clear hm140
       obtain ⟨o128, h129, hm140⟩ := hX
       replace h129 := sj h129
       rcases Bool.eq_false_or_eq_true (o128 != 0) with hc130 | hc130
       · replace hm140 := of_pos hm140 hc130
         have hm140 := sj hm140
         subst hm140
         refine TS.rg (TI.ra 2 [3, 5, 6, 12, 115, 116, 117, 122, 123] (S6_19 r5 v99 r77 o123) (TI.o { val := .bool true } (q_conv (e := v99 == o123) (b := true) (by kernel_rfl) hc125) [3, 5, 6, 12, 115, 116, 117, 124] [0, 1, 2, 3, 4, 5, 6] (S6_21 r5 v99 r77) (H6_1 p2 p13 r1 r5 r77) (TI.ra 4 [3, 5, 6, 12, 115, 116, 117, 125, 126, 128] (S6_15 r5 v99 r77 r1) (TI.o { val := .bool true } (q_conv (e := decide (v99 < r1.1)) (b := true) (by kernel_rfl) hc126) [3, 5, 6, 12, 115, 116, 117, 125, 129] [0, 1, 2, 3, 4, 5, 6] (S6_18 r5 v99 r77) (H6_1 p2 p13 r1 r5 r77) (TI.ra 3 [3, 5, 6, 12, 115, 116, 117, 125, 130, 131, 132] (S6_9 r5 v99 r77) (TI.o { val := .pointer (some ⟨4, 0 + (Int.toNat v99) * 1, none⟩) } (q_ixAcc (P := Try.prog) (t := 30) (s := 1) (e := 3) 4 r5.1.length (by kernel_rfl) hg127 (by kernel_rfl) (by kernel_rfl)) [3, 5, 6, 12, 115, 116, 117, 125, 130, 133] [0, 1, 2, 3, 4, 5, 6] (S6_7 r5 v99 r77) (H6_1 p2 p13 r1 r5 r77) (TI.o { val := iv o128 } (q_n1a Try.prog (H6_1 p2 p13 r1 r5 r77) 3 4 (0 + (Int.toNat v99) * 1) r5.1 e3 1 3 (Int.toNat v99) 0 0 h129) [3, 5, 6, 12, 115, 116, 117, 125, 130, 134] [0, 1, 2, 3, 4, 5, 6] (S6_14 r5 v99 r77 o128) (H6_1 p2 p13 r1 r5 r77) (TI.o { val := .bool true } (q_conv (e := o128 != 0) (b := true) (by kernel_rfl) hc130) [3, 5, 6, 12, 115, 116, 117, 125, 130, 135] [0, 1, 2, 3, 4, 5, 6] (st 156 [(3, pt 2 0), (5, accV 4 r5.1.length), (6, accV 5 r5.2.1.length), (12, iv v99), (115, mkV 6 r77.length), (116, iv (r77.length : Int)), (117, iv v99), (125, .bool true), (130, .bool true), (135, .bool true)]) (H6_1 p2 p13 r1 r5 r77) ?_))))))))
         exact TI.ra 18 [3, 5, 6, 115, 116, 117, 153] (st 156 [(3, pt 2 0), (5, accV 4 r5.1.length), (6, accV 5 r5.2.1.length), (115, mkV 6 r77.length), (116, iv (r77.length : Int)), (117, iv v99), (153, .bool true)]) (TI.dn hK)
       replace hm140 := of_neg hm140 hc130
       rcases Bool.eq_false_or_eq_true (decide (v99 ≥ r1.1)) with hc131 | hc131
       · replace hm140 := of_pos hm140 hc131
         have hX := of_guard hm140
         clear hm140
         obtain ⟨hg132, hm140⟩ := hX
         have hX := of_do hm140
         clear hm140
         obtain ⟨o133, h134, hm140⟩ := hX
         replace h134 := sj h134
         have hm140 := sj hm140
         subst hm140
         refine TS.rg (TI.ra 2 [3, 5, 6, 12, 115, 116, 117, 122, 123] (S6_19 r5 v99 r77 o123) (TI.o { val := .bool true } (q_conv (e := v99 == o123) (b := true) (by kernel_rfl) hc125) [3, 5, 6, 12, 115, 116, 117, 124] [0, 1, 2, 3, 4, 5, 6] (S6_21 r5 v99 r77) (H6_1 p2 p13 r1 r5 r77) (TI.ra 4 [3, 5, 6, 12, 115, 116, 117, 125, 126, 128] (S6_15 r5 v99 r77 r1) (TI.o { val := .bool true } (q_conv (e := decide (v99 < r1.1)) (b := true) (by kernel_rfl) hc126) [3, 5, 6, 12, 115, 116, 117, 125, 129] [0, 1, 2, 3, 4, 5, 6] (S6_18 r5 v99 r77) (H6_1 p2 p13 r1 r5 r77) (TI.ra 3 [3, 5, 6, 12, 115, 116, 117, 125, 130, 131, 132] (S6_9 r5 v99 r77) (TI.o { val := .pointer (some ⟨4, 0 + (Int.toNat v99) * 1, none⟩) } (q_ixAcc (P := Try.prog) (t := 30) (s := 1) (e := 3) 4 r5.1.length (by kernel_rfl) hg127 (by kernel_rfl) (by kernel_rfl)) [3, 5, 6, 12, 115, 116, 117, 125, 130, 133] [0, 1, 2, 3, 4, 5, 6] (S6_7 r5 v99 r77) (H6_1 p2 p13 r1 r5 r77) (TI.o { val := iv o128 } (q_n1a Try.prog (H6_1 p2 p13 r1 r5 r77) 3 4 (0 + (Int.toNat v99) * 1) r5.1 e3 1 3 (Int.toNat v99) 0 0 h129) [3, 5, 6, 12, 115, 116, 117, 125, 130, 134] [0, 1, 2, 3, 4, 5, 6] (S6_14 r5 v99 r77 o128) (H6_1 p2 p13 r1 r5 r77) (TI.o { val := .bool false } (q_conv (e := o128 != 0) (b := false) (by kernel_rfl) hc130) [3, 5, 6, 12, 115, 116, 117, 125, 130, 135] [0, 1, 2, 3, 4, 5, 6] (S6_12 r5 v99 r77) (H6_1 p2 p13 r1 r5 r77) ?_))))))))
         exact TI.ra 5 [3, 5, 6, 12, 115, 116, 117, 125, 137, 138, 140] (S6_10 r5 v99 r77 r1) (TI.o { val := .bool true } (q_conv (e := decide (v99 ≥ r1.1)) (b := true) (by kernel_rfl) hc131) [3, 5, 6, 12, 115, 116, 117, 125, 137, 141] [0, 1, 2, 3, 4, 5, 6] (S6_13 r5 v99 r77) (H6_1 p2 p13 r1 r5 r77) (TI.ra 6 [3, 5, 6, 115, 116, 117, 125, 137, 142, 143, 147] (S6_6 r5 r77 v99 r1) (TI.o { val := .pointer (some ⟨5, 0 + (Int.toNat (w64 (v99 - r1.1))) * 1, none⟩) } (q_ixAcc (P := Try.prog) (t := 30) (s := 1) (e := 3) 5 r5.2.1.length (by kernel_rfl) hg132 (by kernel_rfl) (by kernel_rfl)) [3, 5, 6, 115, 116, 117, 125, 137, 142, 148] [0, 1, 2, 3, 4, 5, 6] (S6_5 r5 r77 v99 r1) (H6_1 p2 p13 r1 r5 r77) (TI.o { val := iv o133 } (q_n1a Try.prog (H6_1 p2 p13 r1 r5 r77) 3 5 (0 + (Int.toNat (w64 (v99 - r1.1))) * 1) r5.2.1 e3 1 3 (Int.toNat (w64 (v99 - r1.1))) 0 0 h134) [3, 5, 6, 115, 116, 117, 125, 137, 142, 149] [0, 1, 2, 3, 4, 5, 6] (st 156 [(3, pt 2 0), (5, accV 4 r5.1.length), (6, accV 5 r5.2.1.length), (115, mkV 6 r77.length), (116, iv (r77.length : Int)), (117, iv v99), (125, .bool true), (137, .bool false), (142, .bool true), (149, iv o133)]) (H6_1 p2 p13 r1 r5 r77) (TI.ra 4 [3, 5, 6, 115, 116, 117, 153] (st 156 [(3, pt 2 0), (5, accV 4 r5.1.length), (6, accV 5 r5.2.1.length), (115, mkV 6 r77.length), (116, iv (r77.length : Int)), (117, iv v99), (153, .bool (o133 != 0))]) (TI.dn hK))))))
       replace hm140 := of_neg hm140 hc131
       have hm140 := sj hm140
       subst hm140
       refine TS.rg (TI.ra 2 [3, 5, 6, 12, 115, 116, 117, 122, 123] (S6_19 r5 v99 r77 o123) (TI.o { val := .bool true } (q_conv (e := v99 == o123) (b := true) (by kernel_rfl) hc125) [3, 5, 6, 12, 115, 116, 117, 124] [0, 1, 2, 3, 4, 5, 6] (S6_21 r5 v99 r77) (H6_1 p2 p13 r1 r5 r77) (TI.ra 4 [3, 5, 6, 12, 115, 116, 117, 125, 126, 128] (S6_15 r5 v99 r77 r1) (TI.o { val := .bool true } (q_conv (e := decide (v99 < r1.1)) (b := true) (by kernel_rfl) hc126) [3, 5, 6, 12, 115, 116, 117, 125, 129] [0, 1, 2, 3, 4, 5, 6] (S6_18 r5 v99 r77) (H6_1 p2 p13 r1 r5 r77) (TI.ra 3 [3, 5, 6, 12, 115, 116, 117, 125, 130, 131, 132] (S6_9 r5 v99 r77) (TI.o { val := .pointer (some ⟨4, 0 + (Int.toNat v99) * 1, none⟩) } (q_ixAcc (P := Try.prog) (t := 30) (s := 1) (e := 3) 4 r5.1.length (by kernel_rfl) hg127 (by kernel_rfl) (by kernel_rfl)) [3, 5, 6, 12, 115, 116, 117, 125, 130, 133] [0, 1, 2, 3, 4, 5, 6] (S6_7 r5 v99 r77) (H6_1 p2 p13 r1 r5 r77) (TI.o { val := iv o128 } (q_n1a Try.prog (H6_1 p2 p13 r1 r5 r77) 3 4 (0 + (Int.toNat v99) * 1) r5.1 e3 1 3 (Int.toNat v99) 0 0 h129) [3, 5, 6, 12, 115, 116, 117, 125, 130, 134] [0, 1, 2, 3, 4, 5, 6] (S6_14 r5 v99 r77 o128) (H6_1 p2 p13 r1 r5 r77) (TI.o { val := .bool false } (q_conv (e := o128 != 0) (b := false) (by kernel_rfl) hc130) [3, 5, 6, 12, 115, 116, 117, 125, 130, 135] [0, 1, 2, 3, 4, 5, 6] (S6_12 r5 v99 r77) (H6_1 p2 p13 r1 r5 r77) ?_))))))))
       exact TI.ra 5 [3, 5, 6, 12, 115, 116, 117, 125, 137, 138, 140] (S6_10 r5 v99 r77 r1) (TI.o { val := .bool false } (q_conv (e := decide (v99 ≥ r1.1)) (b := false) (by kernel_rfl) hc131) [3, 5, 6, 12, 115, 116, 117, 125, 137, 141] [0, 1, 2, 3, 4, 5, 6] (S6_11 r5 v99 r77) (H6_1 p2 p13 r1 r5 r77) (TI.ra 12 [3, 5, 6, 115, 116, 117, 153] (S6_22 r5 r77 v99) (TI.dn hK)))
     replace hm140 := of_neg hm140 hc126
     rcases Bool.eq_false_or_eq_true (decide (v99 ≥ r1.1)) with hc135 | hc135
     · replace hm140 := of_pos hm140 hc135
       have hX := of_guard hm140
       clear hm140
       obtain ⟨hg136, hm140⟩ := hX
       have hX := of_do hm140
       clear hm140
       obtain ⟨o137, h138, hm140⟩ := hX
       replace h138 := sj h138
       have hm140 := sj hm140
       subst hm140
       refine TS.rg (TI.ra 2 [3, 5, 6, 12, 115, 116, 117, 122, 123] (S6_19 r5 v99 r77 o123) (TI.o { val := .bool true } (q_conv (e := v99 == o123) (b := true) (by kernel_rfl) hc125) [3, 5, 6, 12, 115, 116, 117, 124] [0, 1, 2, 3, 4, 5, 6] (S6_21 r5 v99 r77) (H6_1 p2 p13 r1 r5 r77) (TI.ra 4 [3, 5, 6, 12, 115, 116, 117, 125, 126, 128] (S6_15 r5 v99 r77 r1) (TI.o { val := .bool false } (q_conv (e := decide (v99 < r1.1)) (b := false) (by kernel_rfl) hc126) [3, 5, 6, 12, 115, 116, 117, 125, 129] [0, 1, 2, 3, 4, 5, 6] (S6_17 r5 v99 r77) (H6_1 p2 p13 r1 r5 r77) (TI.ra 11 [3, 5, 6, 12, 115, 116, 117, 125, 137, 138, 140] (S6_10 r5 v99 r77 r1) (TI.o { val := .bool true } (q_conv (e := decide (v99 ≥ r1.1)) (b := true) (by kernel_rfl) hc135) [3, 5, 6, 12, 115, 116, 117, 125, 137, 141] [0, 1, 2, 3, 4, 5, 6] (S6_13 r5 v99 r77) (H6_1 p2 p13 r1 r5 r77) (TI.ra 6 [3, 5, 6, 115, 116, 117, 125, 137, 142, 143, 147] (S6_6 r5 r77 v99 r1) (TI.o { val := .pointer (some ⟨5, 0 + (Int.toNat (w64 (v99 - r1.1))) * 1, none⟩) } (q_ixAcc (P := Try.prog) (t := 30) (s := 1) (e := 3) 5 r5.2.1.length (by kernel_rfl) hg136 (by kernel_rfl) (by kernel_rfl)) [3, 5, 6, 115, 116, 117, 125, 137, 142, 148] [0, 1, 2, 3, 4, 5, 6] (S6_5 r5 r77 v99 r1) (H6_1 p2 p13 r1 r5 r77) ?_))))))))
       exact TI.o { val := iv o137 } (q_n1a Try.prog (H6_1 p2 p13 r1 r5 r77) 3 5 (0 + (Int.toNat (w64 (v99 - r1.1))) * 1) r5.2.1 e3 1 3 (Int.toNat (w64 (v99 - r1.1))) 0 0 h138) [3, 5, 6, 115, 116, 117, 125, 137, 142, 149] [0, 1, 2, 3, 4, 5, 6] (st 156 [(3, pt 2 0), (5, accV 4 r5.1.length), (6, accV 5 r5.2.1.length), (115, mkV 6 r77.length), (116, iv (r77.length : Int)), (117, iv v99), (125, .bool true), (137, .bool false), (142, .bool true), (149, iv o137)]) (H6_1 p2 p13 r1 r5 r77) (TI.ra 4 [3, 5, 6, 115, 116, 117, 153] (st 156 [(3, pt 2 0), (5, accV 4 r5.1.length), (6, accV 5 r5.2.1.length), (115, mkV 6 r77.length), (116, iv (r77.length : Int)), (117, iv v99), (153, .bool (o137 != 0))]) (TI.dn hK))
     replace hm140 := of_neg hm140 hc135
     have hm140 := sj hm140
     subst hm140
     refine TS.rg (TI.ra 2 [3, 5, 6, 12, 115, 116, 117, 122, 123] (S6_19 r5 v99 r77 o123) (TI.o { val := .bool true } (q_conv (e := v99 == o123) (b := true) (by kernel_rfl) hc125) [3, 5, 6, 12, 115, 116, 117, 124] [0, 1, 2, 3, 4, 5, 6] (S6_21 r5 v99 r77) (H6_1 p2 p13 r1 r5 r77) (TI.ra 4 [3, 5, 6, 12, 115, 116, 117, 125, 126, 128] (S6_15 r5 v99 r77 r1) (TI.o { val := .bool false } (q_conv (e := decide (v99 < r1.1)) (b := false) (by kernel_rfl) hc126) [3, 5, 6, 12, 115, 116, 117, 125, 129] [0, 1, 2, 3, 4, 5, 6] (S6_17 r5 v99 r77) (H6_1 p2 p13 r1 r5 r77) (TI.ra 11 [3, 5, 6, 12, 115, 116, 117, 125, 137, 138, 140] (S6_10 r5 v99 r77 r1) (TI.o { val := .bool false } (q_conv (e := decide (v99 ≥ r1.1)) (b := false) (by kernel_rfl) hc135) [3, 5, 6, 12, 115, 116, 117, 125, 137, 141] [0, 1, 2, 3, 4, 5, 6] (S6_11 r5 v99 r77) (H6_1 p2 p13 r1 r5 r77) (TI.ra 12 [3, 5, 6, 115, 116, 117, 153] (S6_22 r5 r77 v99) (TI.dn ?_))))))))
     exact hK
   replace hm140 := of_neg hm140 hc125
   have hm140 := sj hm140
   subst hm140
   exact TS.rg (TI.ra 2 [3, 5, 6, 12, 115, 116, 117, 122, 123] (S6_19 r5 v99 r77 o123) (TI.o { val := .bool false } (q_conv (e := v99 == o123) (b := false) (by kernel_rfl) hc125) [3, 5, 6, 12, 115, 116, 117, 124] [0, 1, 2, 3, 4, 5, 6] (st 156 [(3, pt 2 0), (5, accV 4 r5.1.length), (6, accV 5 r5.2.1.length), (12, iv v99), (115, mkV 6 r77.length), (116, iv (r77.length : Int)), (117, iv v99), (124, .bool false)]) (H6_1 p2 p13 r1 r5 r77) (TI.ra 29 [3, 5, 6, 115, 116, 117, 153] (S6_22 r5 r77 v99) (TI.dn hK))))
 replace hF := of_neg hF hc121
 refine TS.ex 2 (NX.sqX ?_)
 have hF := sj hF
 subst hF
 exact Rd.out (e := .exit 2) (by intro h; cases h) (And.intro rfl (Wk.an [] (.ac (.ac (.nil _))) [] .nil))
theorem B6 (p0 p1 : Int) (p2 : List Int) (p3 p4 p5 p6 p7 p8 p9 p10 p11 p12 : Int) (p13 : List Int) (r : Bool) (hF : F6 p0 p1 p2 p3 p4 p5 p6 p7 p8 p9 p10 p11 p12 p13 = some r) : TS Try.prog 2 2 c6 (st 156 [(0, ag [.int .u8 p0, .int .u8 p1, sv 0 p2.length ANY, .int .u8 p3, .int .u8 p4, .int .u8 p5, .int .u8 p6, .int .u8 p7, .int .u8 p8, .int .u8 p9, .int .u8 p10, .int .u8 p11, .int .u8 p12, sv 1 p13.length ANY])]) (H6_48 p2 p13) (NX Try.prog 2 2 [] (FinP Try.prog Try.f6 2 (V6 2 r) (N6 2 r))) := by
 unfold F6 at hF
 refine TS.sq (TS.rg (TI.rn 2 [1] [0, 1, 2] (st 156 [(1, pt 2 0)]) [ab 5 e5 p2, ab 5 e5 p13, cl 53 [.int .u8 p0, .int .u8 p1, sv 0 p2.length ANY, .int .u8 p3, .int .u8 p4, .int .u8 p5, .int .u8 p6, .int .u8 p7, .int .u8 p8, .int .u8 p9, .int .u8 p10, .int .u8 p11, .int .u8 p12, sv 1 p13.length ANY]] (TI.dn (NX.sq (TS.sq ?_)))))
 obtain ⟨r1, h2, hF⟩ := of_do hF
 refine TS.rg (TI.rn 1 [14] [0, 1] (st 156 [(14, ag [.int .u8 p0, .int .u8 p1, sv 0 p2.length ANY, .int .u8 p3, .int .u8 p4, .int .u8 p5, .int .u8 p6, .int .u8 p7, .int .u8 p8, .int .u8 p9, .int .u8 p10, .int .u8 p11, .int .u8 p12, sv 1 p13.length ANY])]) [ab 5 e5 p2, ab 5 e5 p13, .dead] (TI.cp 32 [ag [.int .u8 p0, .int .u8 p1, sv 0 p2.length ANY, .int .u8 p3, .int .u8 p4, .int .u8 p5, .int .u8 p6, .int .u8 p7, .int .u8 p8, .int .u8 p9, .int .u8 p10, .int .u8 p11, .int .u8 p12, sv 1 p13.length ANY]] (ag [iv r1.1, iv r1.2.1, accV 3 r1.2.2.length]) [ab 57 e57 r1.2.2] (PureSim.ren (hc := (H6_48 p2 p13)) (fun i => List.getD [(0, 0), (1, 0)] i (0, 0)) (C32 _ _ _ _ _ _ _ _ _ _ _ _ _ _ _ h2) (.ac (.ac (.nil _))) (.cons (Rn.agg' (.fl (.fl (.cons (Rn.any _ _ _ _ _ _ (nl rfl) rfl rfl (by decide)) (.fl (.fl (.fl (.fl (.fl (.fl (.fl (.fl (.fl (.fl (.cons (Rn.any _ _ _ _ _ _ (nl rfl) rfl rfl (by decide)) .nil))))))))))))))) .nil) (Rn.agg' (.fl (.fl (.cons (Rn.acc (i' := 3) (nl rfl) rfl) .nil)))) (newflat_cons (accB_flat (fun _ => rfl)) newflat_nil)) (TI.rn 2 [3] [0, 1, 3, 4] (st 156 [(3, pt 4 0)]) [ab 5 e5 p2, ab 5 e5 p13, .dead, ab 57 e57 r1.2.2, cl 24 [iv r1.1, iv r1.2.1, accV 3 r1.2.2.length]] (TI.dn (NX.sq (TS.sq ?_))))))
 obtain ⟨r3, h4, hF⟩ := of_do hF
 refine TS.rg (TI.ra 1 [3, 16] (st 156 [(3, pt 4 0), (16, ag [iv r1.1, iv r1.2.1, accV 3 r1.2.2.length])]) (TI.cp 33 [ag [iv r1.1, iv r1.2.1, accV 3 r1.2.2.length], .slice none 0 0, iv 0] (.bool r3) [] (PureSim.ren (hc := [ab 57 e57 r1.2.2, accB 3 (List.length ([])) (List.flatMap e3 ([]))]) (fun i => List.getD [(3, 0), (0, 0)] i (0, 0)) (C33 64 _ _ _ _ _ _ h4) (.ac (.cons At.accN (.nil _))) (.cons (Rn.agg' (.fl (.fl (.cons (Rn.accA (i' := 3) (nl rfl) rfl) .nil)))) (.cons (Rn.anyN _ _ _ rfl (by decide)) (.fl .nil))) (.flat (by kernel_rfl)) newflat_nil) (TI.ra 1 [3, 4] (st 156 [(3, pt 4 0), (4, .bool r3)]) (TI.dn (NX.sq (TS.sq ?_))))))
 obtain ⟨r5, h6, hF⟩ := of_do hF
 refine TS.rg (TI.ra 1 [3, 4, 19] (st 156 [(3, pt 4 0), (4, .bool r3), (19, ag [iv r1.1, iv r1.2.1, accV 3 r1.2.2.length])]) (TI.cp 16 [ag [iv r1.1, iv r1.2.1, accV 3 r1.2.2.length]] (.tuple ⟨[accV 5 r5.1.length, accV 6 r5.2.1.length, iv r5.2.2]⟩) [ab 3 e3 r5.1, ab 3 e3 r5.2.1] (PureSim.ren (hc := [ab 57 e57 r1.2.2]) (fun i => List.getD [(3, 0)] i (0, 0)) (C16 _ _ _ _ h6) (.ac (.nil _)) (.cons (Rn.agg' (.fl (.fl (.cons (Rn.accA (i' := 3) (nl rfl) rfl) .nil)))) .nil) (Rn.tuple' (.cons (Rn.acc (i' := 5) (nl rfl) rfl) (.cons (Rn.acc (i' := 6) (nl rfl) rfl) (.fl .nil)))) (newflat_cons (accB_flat (fun _ => rfl)) (newflat_cons (accB_flat (fun _ => rfl)) newflat_nil))) (TI.rn 7 [3, 4, 5, 6, 7] [0, 1, 3, 4, 5, 6] (st 156 [(3, pt 4 0), (4, .bool r3), (5, accV 5 r5.1.length), (6, accV 6 r5.2.1.length), (7, iv r5.2.2)]) [ab 5 e5 p2, ab 5 e5 p13, .dead, ab 57 e57 r1.2.2, cl 24 [iv r1.1, iv r1.2.1, accV 3 r1.2.2.length], ab 3 e3 r5.1, ab 3 e3 r5.2.1] (TI.dn (NX.sq (TS.sq ?_))))))
 obtain ⟨r7, h8, hF⟩ := of_do hF
 refine TS.rg (TI.ra 1 [3, 4, 5, 6, 7, 25] (st 156 [(3, pt 4 0), (4, .bool r3), (5, accV 5 r5.1.length), (6, accV 6 r5.2.1.length), (7, iv r5.2.2), (25, ag [iv r1.1, iv r1.2.1, accV 3 r1.2.2.length])]) (TI.cp 29 [ag [iv r1.1, iv r1.2.1, accV 3 r1.2.2.length]] (.tuple ⟨[sv 7 r7.1.length ANY, iv r7.2]⟩) [ab 3 e3 r7.1] (PureSim.ren (hc := [ab 57 e57 r1.2.2]) (fun i => List.getD [(3, 0)] i (0, 0)) (C29 _ _ _ _ h8) (.ac (.nil _)) (.cons (Rn.agg' (.fl (.fl (.cons (Rn.accA (i' := 3) (nl rfl) rfl) .nil)))) .nil) (Rn.tuple' (.cons (Rn.anyS (i' := 7) (nl rfl) rfl rfl) (.fl .nil))) (newflat_cons (accB_flat (fun _ => rfl)) newflat_nil)) (TI.rn 5 [3, 4, 5, 6, 7, 8, 9] [0, 1, 3, 4, 5, 6, 7] (st 156 [(3, pt 4 0), (4, .bool r3), (5, accV 5 r5.1.length), (6, accV 6 r5.2.1.length), (7, iv r5.2.2), (8, sv 7 r7.1.length ANY), (9, iv r7.2)]) (H6_0 p2 p13 r1 r5 r7) (TI.dn (NX.sq (TS.sq (TS.sq ?_)))))))
 obtain ⟨m9, hm148, hF⟩ := of_do hF
 have hK : NX Try.prog 2 2 [.sq c6.s2.s2.s2.s2.s2.s1.s2, .sq c6.s2.s2.s2.s2.s2.s2] (FinP Try.prog Try.f6 2 (V6 2 r) (N6 2 r)) .normal (st 156 [(3, pt 4 0), (5, accV 5 r5.1.length), (6, accV 6 r5.2.1.length), (7, iv r5.2.2), (8, sv 7 r7.1.length ANY), (9, iv r7.2), (30, .bool m9)]) (H6_0 p2 p13 r1 r5 r7) := by
  refine NX.sq ?_
  cases m9 with
  | true =>
   replace hF := of_pos hF rfl
   refine TS.cdT (.tmp 30) (TS.sq ?_)
   obtain ⟨m22, hm23, hF⟩ := of_do hF
   have hK : NX Try.prog 2 2 [.sq c6.s2.s2.s2.s2.s2.s1.s2.th.s2, .sq c6.s2.s2.s2.s2.s2.s2] (FinP Try.prog Try.f6 2 (V6 2 r) (N6 2 r)) .normal (st 156 [(2, .bool m22)]) (H6_34 p2 p13) := by
    refine NX.sq (TS.rt (NX.sqR ?_))
    have hF := sj hF
    subst hF
    exact ⟨.inr rfl, rfl, .bool m22, by kernel_rfl, WkV.flat0 (by kernel_rfl) (nl rfl)⟩
   rcases Bool.eq_false_or_eq_true (r5.2.2 == 13) with hc10 | hc10
   · replace hm23 := of_pos hm23 hc10
     rcases Bool.eq_false_or_eq_true (r7.2 == 0) with hc11 | hc11
     · replace hm23 := of_pos hm23 hc11
       have hX := of_do hm23
       clear hm23
       obtain ⟨r12, h13, hm23⟩ := hX
       rcases Bool.eq_false_or_eq_true (r12 == 13) with hc14 | hc14
       · replace hm23 := of_pos hm23 hc14
         have hX := of_do hm23
         clear hm23
         obtain ⟨r15, h16, hm23⟩ := hX
         rcases Bool.eq_false_or_eq_true (r15 == 0) with hc17 | hc17
         · replace hm23 := of_pos hm23 hc17
           have hX := of_do hm23
           clear hm23
           obtain ⟨r18, h19, hm23⟩ := hX
           cases r18 with
           | true =>
            replace hm23 := of_pos hm23 rfl
            have hX := of_do hm23
            clear hm23
            obtain ⟨r20, h21, hm23⟩ := hX
            have hm23 := sj hm23
            subst hm23
            refine TS.rg (TI.rn 1 [3, 8, 9, 31] [0, 1, 3, 4, 7] (S6_45 r7 r5) (H6_8 p2 p13 r1 r7) (TI.o { val := .bool true } (q_conv (e := r5.2.2 == 13) (b := true) (by kernel_rfl) hc10) [3, 8, 9, 32] [0, 1, 3, 4, 7] (S6_42 r7) (H6_8 p2 p13 r1 r7) (TI.ra 2 [3, 8, 33, 34] (S6_41 r7) (TI.o { val := .bool true } (q_conv (e := r7.2 == 0) (b := true) (by kernel_rfl) hc11) [3, 8, 33, 35] [0, 1, 3, 4, 7] (S6_38 r7) (H6_8 p2 p13 r1 r7) (TI.ra 3 [3, 8, 37, 38] (S6_32 r7 r1) (TI.callM (g := 21) (args := [ag [iv r1.1, iv r1.2.1, accV 3 r1.2.2.length]]) (v := iv r12) (new := []) (by kernel_rfl) (PureSim.ren (hc := [ab 57 e57 r1.2.2]) (fun i => List.getD [(3, 0)] i (0, 0)) (C21 _ _ _ _ h13) (.ac (.nil _)) (.cons (Rn.agg' (.fl (.fl (.cons (Rn.accA (i' := 3) (nl rfl) rfl) .nil)))) .nil) (.flat (by kernel_rfl)) newflat_nil) [3, 8, 37, 39] [0, 1, 3, 4, 7] (a2 := (S6_43 r7 r12)) (h2 := (H6_8 p2 p13 r1 r7)) (by kernel_rfl) (TI.o { val := .bool true } (q_conv (e := r12 == 13) (b := true) (by kernel_rfl) hc14) [3, 8, 37, 40] [0, 1, 3, 4, 7] (S6_39 r7) (H6_8 p2 p13 r1 r7) (TI.ra 4 [3, 8, 42, 43, 44] (S6_20 r7 r1) ?_))))))))
            exact TI.callM (g := 27) (args := [ag [iv r1.1, iv r1.2.1, accV 3 r1.2.2.length], sv 7 r7.1.length ANY]) (v := iv r15) (new := []) (by kernel_rfl) (PureSim.ren (hc := (H6_46 r1 r7)) (fun i => List.getD [(3, 0), (7, 0)] i (0, 0)) (C27 _ _ _ _ _ h16) (.ac (.ac (.nil _))) (.cons (Rn.agg' (.fl (.fl (.cons (Rn.accA (i' := 3) (nl rfl) rfl) .nil)))) (.cons (Rn.any _ _ _ _ _ _ (nl rfl) rfl rfl (by decide)) .nil)) (.flat (by kernel_rfl)) newflat_nil) [3, 8, 42, 45] [0, 1, 3, 4, 7] (a2 := (S6_44 r7 r15)) (h2 := (H6_8 p2 p13 r1 r7)) (by kernel_rfl) (TI.o { val := .bool true } (q_conv (e := r15 == 0) (b := true) (by kernel_rfl) hc17) [3, 8, 42, 46] [0, 1, 3, 4, 7] (S6_40 r7) (H6_8 p2 p13 r1 r7) (TI.rn 4 [48, 49, 50] [0, 1, 3, 7] (st 156 [(48, .bool true), (49, ag [iv r1.1, iv r1.2.1, accV 3 r1.2.2.length]), (50, sv 7 r7.1.length ANY)]) (H6_16 p2 p13 r1 r7) (TI.cp 34 [ag [iv r1.1, iv r1.2.1, accV 3 r1.2.2.length], sv 7 r7.1.length ANY] (.bool true) [] (PureSim.ren (hc := (H6_46 r1 r7)) (fun i => List.getD [(3, 0), (7, 0)] i (0, 0)) (C34 _ _ _ _ _ h19) (.ac (.ac (.nil _))) (.cons (Rn.agg' (.fl (.fl (.cons (Rn.accA (i' := 3) (nl rfl) rfl) .nil)))) (.cons (Rn.any _ _ _ _ _ _ (nl rfl) rfl rfl (by decide)) .nil)) (.flat (by kernel_rfl)) newflat_nil) (TI.rn 2 [53] [0, 1] (st 156 [(53, .bool true)]) (H6_34 p2 p13) (TI.cf (C14 _ h21) (TI.ra 2 [2] (st 156 [(2, .bool r20)]) (TI.dn hK)))))))
           | false =>
            replace hm23 := of_neg hm23 rfl
            have hm23 := sj hm23
            subst hm23
            refine TS.rg (TI.rn 1 [3, 8, 9, 31] [0, 1, 3, 4, 7] (S6_45 r7 r5) (H6_8 p2 p13 r1 r7) (TI.o { val := .bool true } (q_conv (e := r5.2.2 == 13) (b := true) (by kernel_rfl) hc10) [3, 8, 9, 32] [0, 1, 3, 4, 7] (S6_42 r7) (H6_8 p2 p13 r1 r7) (TI.ra 2 [3, 8, 33, 34] (S6_41 r7) (TI.o { val := .bool true } (q_conv (e := r7.2 == 0) (b := true) (by kernel_rfl) hc11) [3, 8, 33, 35] [0, 1, 3, 4, 7] (S6_38 r7) (H6_8 p2 p13 r1 r7) (TI.ra 3 [3, 8, 37, 38] (S6_32 r7 r1) (TI.callM (g := 21) (args := [ag [iv r1.1, iv r1.2.1, accV 3 r1.2.2.length]]) (v := iv r12) (new := []) (by kernel_rfl) (PureSim.ren (hc := [ab 57 e57 r1.2.2]) (fun i => List.getD [(3, 0)] i (0, 0)) (C21 _ _ _ _ h13) (.ac (.nil _)) (.cons (Rn.agg' (.fl (.fl (.cons (Rn.accA (i' := 3) (nl rfl) rfl) .nil)))) .nil) (.flat (by kernel_rfl)) newflat_nil) [3, 8, 37, 39] [0, 1, 3, 4, 7] (a2 := (S6_43 r7 r12)) (h2 := (H6_8 p2 p13 r1 r7)) (by kernel_rfl) (TI.o { val := .bool true } (q_conv (e := r12 == 13) (b := true) (by kernel_rfl) hc14) [3, 8, 37, 40] [0, 1, 3, 4, 7] (S6_39 r7) (H6_8 p2 p13 r1 r7) (TI.ra 4 [3, 8, 42, 43, 44] (S6_20 r7 r1) ?_))))))))
            exact TI.callM (g := 27) (args := [ag [iv r1.1, iv r1.2.1, accV 3 r1.2.2.length], sv 7 r7.1.length ANY]) (v := iv r15) (new := []) (by kernel_rfl) (PureSim.ren (hc := (H6_46 r1 r7)) (fun i => List.getD [(3, 0), (7, 0)] i (0, 0)) (C27 _ _ _ _ _ h16) (.ac (.ac (.nil _))) (.cons (Rn.agg' (.fl (.fl (.cons (Rn.accA (i' := 3) (nl rfl) rfl) .nil)))) (.cons (Rn.any _ _ _ _ _ _ (nl rfl) rfl rfl (by decide)) .nil)) (.flat (by kernel_rfl)) newflat_nil) [3, 8, 42, 45] [0, 1, 3, 4, 7] (a2 := (S6_44 r7 r15)) (h2 := (H6_8 p2 p13 r1 r7)) (by kernel_rfl) (TI.o { val := .bool true } (q_conv (e := r15 == 0) (b := true) (by kernel_rfl) hc17) [3, 8, 42, 46] [0, 1, 3, 4, 7] (S6_40 r7) (H6_8 p2 p13 r1 r7) (TI.rn 4 [48, 49, 50] [0, 1, 3, 7] (st 156 [(48, .bool true), (49, ag [iv r1.1, iv r1.2.1, accV 3 r1.2.2.length]), (50, sv 7 r7.1.length ANY)]) (H6_16 p2 p13 r1 r7) (TI.cp 34 [ag [iv r1.1, iv r1.2.1, accV 3 r1.2.2.length], sv 7 r7.1.length ANY] (.bool false) [] (PureSim.ren (hc := (H6_46 r1 r7)) (fun i => List.getD [(3, 0), (7, 0)] i (0, 0)) (C34 _ _ _ _ _ h19) (.ac (.ac (.nil _))) (.cons (Rn.agg' (.fl (.fl (.cons (Rn.accA (i' := 3) (nl rfl) rfl) .nil)))) (.cons (Rn.any _ _ _ _ _ _ (nl rfl) rfl rfl (by decide)) .nil)) (.flat (by kernel_rfl)) newflat_nil) (TI.rn 5 [2] [0, 1] (st 156 [(2, .bool false)]) (H6_34 p2 p13) (TI.dn hK)))))
         replace hm23 := of_neg hm23 hc17
         have hm23 := sj hm23
         subst hm23
         refine TS.rg (TI.rn 1 [3, 8, 9, 31] [0, 1, 3, 4, 7] (S6_45 r7 r5) (H6_8 p2 p13 r1 r7) (TI.o { val := .bool true } (q_conv (e := r5.2.2 == 13) (b := true) (by kernel_rfl) hc10) [3, 8, 9, 32] [0, 1, 3, 4, 7] (S6_42 r7) (H6_8 p2 p13 r1 r7) (TI.ra 2 [3, 8, 33, 34] (S6_41 r7) (TI.o { val := .bool true } (q_conv (e := r7.2 == 0) (b := true) (by kernel_rfl) hc11) [3, 8, 33, 35] [0, 1, 3, 4, 7] (S6_38 r7) (H6_8 p2 p13 r1 r7) (TI.ra 3 [3, 8, 37, 38] (S6_32 r7 r1) (TI.callM (g := 21) (args := [ag [iv r1.1, iv r1.2.1, accV 3 r1.2.2.length]]) (v := iv r12) (new := []) (by kernel_rfl) (PureSim.ren (hc := [ab 57 e57 r1.2.2]) (fun i => List.getD [(3, 0)] i (0, 0)) (C21 _ _ _ _ h13) (.ac (.nil _)) (.cons (Rn.agg' (.fl (.fl (.cons (Rn.accA (i' := 3) (nl rfl) rfl) .nil)))) .nil) (.flat (by kernel_rfl)) newflat_nil) [3, 8, 37, 39] [0, 1, 3, 4, 7] (a2 := (S6_43 r7 r12)) (h2 := (H6_8 p2 p13 r1 r7)) (by kernel_rfl) (TI.o { val := .bool true } (q_conv (e := r12 == 13) (b := true) (by kernel_rfl) hc14) [3, 8, 37, 40] [0, 1, 3, 4, 7] (S6_39 r7) (H6_8 p2 p13 r1 r7) (TI.ra 4 [3, 8, 42, 43, 44] (S6_20 r7 r1) ?_))))))))
         exact TI.callM (g := 27) (args := [ag [iv r1.1, iv r1.2.1, accV 3 r1.2.2.length], sv 7 r7.1.length ANY]) (v := iv r15) (new := []) (by kernel_rfl) (PureSim.ren (hc := (H6_46 r1 r7)) (fun i => List.getD [(3, 0), (7, 0)] i (0, 0)) (C27 _ _ _ _ _ h16) (.ac (.ac (.nil _))) (.cons (Rn.agg' (.fl (.fl (.cons (Rn.accA (i' := 3) (nl rfl) rfl) .nil)))) (.cons (Rn.any _ _ _ _ _ _ (nl rfl) rfl rfl (by decide)) .nil)) (.flat (by kernel_rfl)) newflat_nil) [3, 8, 42, 45] [0, 1, 3, 4, 7] (a2 := (S6_44 r7 r15)) (h2 := (H6_8 p2 p13 r1 r7)) (by kernel_rfl) (TI.o { val := .bool false } (q_conv (e := r15 == 0) (b := false) (by kernel_rfl) hc17) [3, 8, 42, 46] [0, 1, 3, 4, 7] (st 156 [(3, pt 4 0), (8, sv 7 r7.1.length ANY), (42, .bool true), (46, .bool false)]) (H6_8 p2 p13 r1 r7) (TI.rn 10 [2] [0, 1] (st 156 [(2, .bool false)]) (H6_34 p2 p13) (TI.dn hK)))
       replace hm23 := of_neg hm23 hc14
       have hm23 := sj hm23
       subst hm23
       refine TS.rg (TI.rn 1 [3, 8, 9, 31] [0, 1, 3, 4, 7] (S6_45 r7 r5) (H6_8 p2 p13 r1 r7) (TI.o { val := .bool true } (q_conv (e := r5.2.2 == 13) (b := true) (by kernel_rfl) hc10) [3, 8, 9, 32] [0, 1, 3, 4, 7] (S6_42 r7) (H6_8 p2 p13 r1 r7) (TI.ra 2 [3, 8, 33, 34] (S6_41 r7) (TI.o { val := .bool true } (q_conv (e := r7.2 == 0) (b := true) (by kernel_rfl) hc11) [3, 8, 33, 35] [0, 1, 3, 4, 7] (S6_38 r7) (H6_8 p2 p13 r1 r7) (TI.ra 3 [3, 8, 37, 38] (S6_32 r7 r1) (TI.callM (g := 21) (args := [ag [iv r1.1, iv r1.2.1, accV 3 r1.2.2.length]]) (v := iv r12) (new := []) (by kernel_rfl) (PureSim.ren (hc := [ab 57 e57 r1.2.2]) (fun i => List.getD [(3, 0)] i (0, 0)) (C21 _ _ _ _ h13) (.ac (.nil _)) (.cons (Rn.agg' (.fl (.fl (.cons (Rn.accA (i' := 3) (nl rfl) rfl) .nil)))) .nil) (.flat (by kernel_rfl)) newflat_nil) [3, 8, 37, 39] [0, 1, 3, 4, 7] (a2 := (S6_43 r7 r12)) (h2 := (H6_8 p2 p13 r1 r7)) (by kernel_rfl) (TI.o { val := .bool false } (q_conv (e := r12 == 13) (b := false) (by kernel_rfl) hc14) [3, 8, 37, 40] [0, 1, 3, 4, 7] (st 156 [(3, pt 4 0), (8, sv 7 r7.1.length ANY), (37, .bool true), (40, .bool false)]) (H6_8 p2 p13 r1 r7) (TI.rn 16 [2] [0, 1] (st 156 [(2, .bool false)]) (H6_34 p2 p13) ?_))))))))
       exact TI.dn hK
     replace hm23 := of_neg hm23 hc11
     have hm23 := sj hm23
     subst hm23
     exact TS.rg (TI.rn 1 [3, 8, 9, 31] [0, 1, 3, 4, 7] (S6_45 r7 r5) (H6_8 p2 p13 r1 r7) (TI.o { val := .bool true } (q_conv (e := r5.2.2 == 13) (b := true) (by kernel_rfl) hc10) [3, 8, 9, 32] [0, 1, 3, 4, 7] (S6_42 r7) (H6_8 p2 p13 r1 r7) (TI.ra 2 [3, 8, 33, 34] (S6_41 r7) (TI.o { val := .bool false } (q_conv (e := r7.2 == 0) (b := false) (by kernel_rfl) hc11) [3, 8, 33, 35] [0, 1, 3, 4, 7] (st 156 [(3, pt 4 0), (8, sv 7 r7.1.length ANY), (33, .bool true), (35, .bool false)]) (H6_8 p2 p13 r1 r7) (TI.rn 21 [2] [0, 1] (st 156 [(2, .bool false)]) (H6_34 p2 p13) (TI.dn hK))))))
   replace hm23 := of_neg hm23 hc10
   have hm23 := sj hm23
   subst hm23
   exact TS.rg (TI.rn 1 [3, 8, 9, 31] [0, 1, 3, 4, 7] (S6_45 r7 r5) (H6_8 p2 p13 r1 r7) (TI.o { val := .bool false } (q_conv (e := r5.2.2 == 13) (b := false) (by kernel_rfl) hc10) [3, 8, 9, 32] [0, 1, 3, 4, 7] (st 156 [(3, pt 4 0), (8, sv 7 r7.1.length ANY), (9, iv r7.2), (32, .bool false)]) (H6_8 p2 p13 r1 r7) (TI.rn 24 [2] [0, 1] (st 156 [(2, .bool false)]) (H6_34 p2 p13) (TI.dn hK))))
  | false =>
   replace hF := of_neg hF rfl
   refine TS.cdF (.tmp 30) (TS.sk (NX.sq (TS.sq (TS.sq ?_))))
   obtain ⟨m31, hm147, hF⟩ := of_do hF
   have hK : NX Try.prog 2 2 [.sq c6.s2.s2.s2.s2.s2.s2.s1.s2, .sq c6.s2.s2.s2.s2.s2.s2.s2] (FinP Try.prog Try.f6 2 (V6 2 r) (N6 2 r)) .normal (st 156 [(3, pt 4 0), (5, accV 5 r5.1.length), (6, accV 6 r5.2.1.length), (85, .bool m31)]) (H6_3 p2 p13 r1 r5) := by
    refine NX.sq ?_
    cases m31 with
    | true =>
     replace hF := of_pos hF rfl
     refine TS.cdT (.tmp 85) (TS.sq (TS.rg (TI.rn 1 [2] [0, 1] (st 156 [(2, .bool false)]) (H6_34 p2 p13) (TI.dn (NX.sq (TS.rt (NX.sqR ?_)))))))
     have hF := sj hF
     subst hF
     exact ⟨.inr rfl, rfl, .bool false, by kernel_rfl, WkV.flat0 (by kernel_rfl) (nl rfl)⟩
    | false =>
     replace hF := of_neg hF rfl
     refine TS.cdF (.tmp 85) (TS.sk (NX.sq (TS.sq (TS.sq (TS.rg (TI.ra 4 [3, 5, 6, 87, 88, 89] (st 156 [(3, pt 4 0), (5, accV 5 r5.1.length), (6, accV 6 r5.2.1.length), (87, accV 3 r1.2.2.length), (88, iv (r1.2.2.length : Int)), (89, iv 0)]) (TI.dn (NX.sq ?_))))))))
     refine TS.bk 0 ?_
     obtain ⟨r73, h74, hF⟩ := of_do hF
     refine TS.lp (TL.weak (a2 := (st 156 [(3, pt 2 0), (5, accV 4 r5.1.length), (6, accV 5 r5.2.1.length), (87, accV 3 r1.2.2.length), (88, iv (r1.2.2.length : Int)), (89, iv 0)])) (h2 := (H6_4 p2 p13 r1 r5)) (Wk.an [4, 3, 5, 6] (.ac (.ac (.lt (.fl (.fl (.cons (Rn.acc (nl rfl) rfl) .nil))) (.ac (.ac (.ac (.nil _))))))) [pt 4 0, accV 5 r5.1.length, accV 6 r5.2.1.length, accV 3 r1.2.2.length, iv (r1.2.2.length : Int), iv 0] (.pp (.cons (Rn.acc (nl rfl) rfl) (.cons (Rn.acc (nl rfl) rfl) (.cons (Rn.acc (nl rfl) rfl) (.fl (.fl .nil))))))) (TL.post (L6l0 p2 p13 r1 r5 0 r73 h74) ?_))
     rintro e a1 h1 hp
     rcases r73 with o75 | o76
     · skip
       obtain ⟨rfl, hw⟩ := hp
       refine ⟨(st 156 [(2, .bool false)]), (H6_48 p2 p13), (NX.bkR (NX.sqR ?_)), hw⟩
       have hF := sj hF
       subst hF
       exact ⟨.inr rfl, rfl, .bool false, by kernel_rfl, WkV.flat0 (by kernel_rfl) (nl rfl)⟩
     skip
     obtain ⟨rfl, hw⟩ := hp
     refine ⟨(st 156 [(3, pt 2 0), (5, accV 4 r5.1.length), (6, accV 5 r5.2.1.length)]), (H6_4 p2 p13 r1 r5), (NX.bkX (NX.sq (TS.sq (TS.sq ?_)))), hw⟩
     obtain ⟨r77, h78, hF⟩ := of_do hF
     refine TS.rg (TI.ra 1 [3, 5, 6, 114] (st 156 [(3, pt 2 0), (5, accV 4 r5.1.length), (6, accV 5 r5.2.1.length), (114, ag [iv r1.1, iv r1.2.1, accV 3 r1.2.2.length])]) (TI.cp 35 [ag [iv r1.1, iv r1.2.1, accV 3 r1.2.2.length]] (mkV 6 r77.length) [.cells 3 (List.flatMap e3 r77)] (PureSim.ren (hc := [ab 57 e57 r1.2.2]) (fun i => List.getD [(3, 0)] i (0, 0)) (C35 _ _ _ _ h78) (.ac (.nil _)) (.cons (Rn.agg' (.fl (.fl (.cons (Rn.accA (i' := 3) (nl rfl) rfl) .nil)))) .nil) (Rn.mk (i' := 6) (nl rfl) rfl rfl) (newflat_cons (cellsL_flat (fun _ => rfl)) newflat_nil)) (TI.rn 2 [3, 5, 6, 115, 116, 117] [0, 1, 2, 3, 4, 5, 6] (S6_30 r5 r77) (H6_1 p2 p13 r1 r5 r77) (TI.dn (NX.sq (TS.bk 2 ?_))))))
     obtain ⟨r141, h142, hF⟩ := of_do hF
     refine TS.lp (TL.weak (a2 := (S6_30 r5 r77)) (h2 := (H6_1 p2 p13 r1 r5 r77)) (Wk.an [2, 3, 4, 5, 6] (.ac (.ac (.lt (.fl (.fl (.cons (Rn.acc (nl rfl) rfl) .nil))) (.ac (.ac (.ac (.cons (At.blk (by kernel_rfl) (RnB.list (fun _ => rfl))) (.nil _)))))))) [pt 2 0, accV 4 r5.1.length, accV 5 r5.2.1.length, mkV 6 r77.length, iv (r77.length : Int), iv 0] (.pp (.cons (Rn.acc (nl rfl) rfl) (.cons (Rn.acc (nl rfl) rfl) (.cons (Rn.mk (nl rfl) rfl (by simp only [List.length_set])) (.fl (.fl .nil))))))) (TL.post (L6l1 p2 p13 r1 r5 r77 0 r141 h142) ?_))
     rintro e a1 h1 hp
     rcases r141 with o143 | o144
     · skip
       obtain ⟨rfl, hw⟩ := hp
       refine ⟨(st 156 [(2, .bool false)]), (H6_48 p2 p13), (NX.bkR (NX.sqR ?_)), hw⟩
       have hF := sj hF
       subst hF
       exact ⟨.inr rfl, rfl, .bool false, by kernel_rfl, WkV.flat0 (by kernel_rfl) (nl rfl)⟩
     skip
     obtain ⟨rfl, hw⟩ := hp
     refine ⟨(st 156 []), (H6_48 p2 p13), (NX.bkX (NX.sq (TS.sq ?_))), hw⟩
     obtain ⟨r145, h146, hF⟩ := of_do hF
     refine TS.rg (TI.cf (C14 _ h146) (TI.ra 1 [2] (st 156 [(2, .bool r145)]) (TI.dn (NX.sq (TS.rt ?_)))))
     have hF := sj hF
     subst hF
     exact ⟨.inr rfl, rfl, .bool r145, by kernel_rfl, WkV.flat0 (by kernel_rfl) (nl rfl)⟩
   rcases Bool.eq_false_or_eq_true (r5.2.2 != 0) with hc24 | hc24
   · replace hm147 := of_pos hm147 hc24
     have hm147 := sj hm147
     subst hm147
     exact TS.rg (TI.ra 1 [3, 5, 6, 8, 9, 56] (S6_28 r5 r7) (TI.o { val := .bool true } (q_conv (e := r5.2.2 != 0) (b := true) (by kernel_rfl) hc24) [3, 5, 6, 8, 9, 57] [0, 1, 3, 4, 5, 6, 7] (st 156 [(3, pt 4 0), (5, accV 5 r5.1.length), (6, accV 6 r5.2.1.length), (8, sv 7 r7.1.length ANY), (9, iv r7.2), (57, .bool true)]) (H6_0 p2 p13 r1 r5 r7) (TI.rn 28 [3, 5, 6, 85] [0, 1, 3, 4, 5, 6] (S6_47 r5) (H6_3 p2 p13 r1 r5) (TI.dn hK))))
   replace hm147 := of_neg hm147 hc24
   rcases Bool.eq_false_or_eq_true (r7.2 != 6) with hc25 | hc25
   · replace hm147 := of_pos hm147 hc25
     have hm147 := sj hm147
     subst hm147
     exact TS.rg (TI.ra 1 [3, 5, 6, 8, 9, 56] (S6_28 r5 r7) (TI.o { val := .bool false } (q_conv (e := r5.2.2 != 0) (b := false) (by kernel_rfl) hc24) [3, 5, 6, 8, 9, 57] [0, 1, 3, 4, 5, 6, 7] (S6_27 r5 r7) (H6_0 p2 p13 r1 r5 r7) (TI.ra 2 [3, 5, 6, 8, 58, 59] (S6_26 r5 r7) (TI.o { val := .bool true } (q_conv (e := r7.2 != 6) (b := true) (by kernel_rfl) hc25) [3, 5, 6, 8, 58, 60] [0, 1, 3, 4, 5, 6, 7] (st 156 [(3, pt 4 0), (5, accV 5 r5.1.length), (6, accV 6 r5.2.1.length), (8, sv 7 r7.1.length ANY), (58, .bool false), (60, .bool true)]) (H6_0 p2 p13 r1 r5 r7) (TI.rn 25 [3, 5, 6, 85] [0, 1, 3, 4, 5, 6] (S6_47 r5) (H6_3 p2 p13 r1 r5) (TI.dn hK))))))
   replace hm147 := of_neg hm147 hc25
   rcases Bool.eq_false_or_eq_true (decide ((r7.1.length : Int) > 0)) with hc26 | hc26
   · replace hm147 := of_pos hm147 hc26
     have hm147 := sj hm147
     subst hm147
     refine TS.rg (TI.ra 1 [3, 5, 6, 8, 9, 56] (S6_28 r5 r7) (TI.o { val := .bool false } (q_conv (e := r5.2.2 != 0) (b := false) (by kernel_rfl) hc24) [3, 5, 6, 8, 9, 57] [0, 1, 3, 4, 5, 6, 7] (S6_27 r5 r7) (H6_0 p2 p13 r1 r5 r7) (TI.ra 2 [3, 5, 6, 8, 58, 59] (S6_26 r5 r7) (TI.o { val := .bool false } (q_conv (e := r7.2 != 6) (b := false) (by kernel_rfl) hc25) [3, 5, 6, 8, 58, 60] [0, 1, 3, 4, 5, 6, 7] (S6_25 r5 r7) (H6_0 p2 p13 r1 r5 r7) (TI.rn 4 [3, 5, 6, 62, 64] [0, 1, 3, 4, 5, 6] (S6_33 r5 r7) (H6_3 p2 p13 r1 r5) (TI.o { val := .bool true } (q_conv (e := decide ((r7.1.length : Int) > 0)) (b := true) (by kernel_rfl) hc26) [3, 5, 6, 62, 65] [0, 1, 3, 4, 5, 6] (st 156 [(3, pt 4 0), (5, accV 5 r5.1.length), (6, accV 6 r5.2.1.length), (62, .bool false), (65, .bool true)]) (H6_3 p2 p13 r1 r5) (TI.ra 20 [3, 5, 6, 85] (S6_47 r5) (TI.dn ?_))))))))
     exact hK
   replace hm147 := of_neg hm147 hc26
   have hX := of_do hm147
   clear hm147
   obtain ⟨r27, h28, hm147⟩ := hX
   rcases Bool.eq_false_or_eq_true (r27 != 0) with hc29 | hc29
   · replace hm147 := of_pos hm147 hc29
     have hm147 := sj hm147
     subst hm147
     refine TS.rg (TI.ra 1 [3, 5, 6, 8, 9, 56] (S6_28 r5 r7) (TI.o { val := .bool false } (q_conv (e := r5.2.2 != 0) (b := false) (by kernel_rfl) hc24) [3, 5, 6, 8, 9, 57] [0, 1, 3, 4, 5, 6, 7] (S6_27 r5 r7) (H6_0 p2 p13 r1 r5 r7) (TI.ra 2 [3, 5, 6, 8, 58, 59] (S6_26 r5 r7) (TI.o { val := .bool false } (q_conv (e := r7.2 != 6) (b := false) (by kernel_rfl) hc25) [3, 5, 6, 8, 58, 60] [0, 1, 3, 4, 5, 6, 7] (S6_25 r5 r7) (H6_0 p2 p13 r1 r5 r7) (TI.rn 4 [3, 5, 6, 62, 64] [0, 1, 3, 4, 5, 6] (S6_33 r5 r7) (H6_3 p2 p13 r1 r5) (TI.o { val := .bool false } (q_conv (e := decide ((r7.1.length : Int) > 0)) (b := false) (by kernel_rfl) hc26) [3, 5, 6, 62, 65] [0, 1, 3, 4, 5, 6] (S6_35 r5) (H6_3 p2 p13 r1 r5) (TI.ra 3 [3, 5, 6, 67, 68] (S6_31 r5 r1) (TI.callM (g := 21) (args := [ag [iv r1.1, iv r1.2.1, accV 3 r1.2.2.length]]) (v := iv r27) (new := []) (by kernel_rfl) (PureSim.ren (hc := [ab 57 e57 r1.2.2]) (fun i => List.getD [(3, 0)] i (0, 0)) (C21 _ _ _ _ h28) (.ac (.nil _)) (.cons (Rn.agg' (.fl (.fl (.cons (Rn.accA (i' := 3) (nl rfl) rfl) .nil)))) .nil) (.flat (by kernel_rfl)) newflat_nil) [3, 5, 6, 67, 69] [0, 1, 3, 4, 5, 6] (a2 := (S6_37 r5 r27)) (h2 := (H6_3 p2 p13 r1 r5)) (by kernel_rfl) ?_))))))))
     exact TI.o { val := .bool true } (q_conv (e := r27 != 0) (b := true) (by kernel_rfl) hc29) [3, 5, 6, 67, 70] [0, 1, 3, 4, 5, 6] (st 156 [(3, pt 4 0), (5, accV 5 r5.1.length), (6, accV 6 r5.2.1.length), (67, .bool false), (70, .bool true)]) (H6_3 p2 p13 r1 r5) (TI.ra 15 [3, 5, 6, 85] (S6_47 r5) (TI.dn hK))
   replace hm147 := of_neg hm147 hc29
   rcases Bool.eq_false_or_eq_true ((r5.1.length : Int) != r1.1) with hc30 | hc30
   · replace hm147 := of_pos hm147 hc30
     have hm147 := sj hm147
     subst hm147
     refine TS.rg (TI.ra 1 [3, 5, 6, 8, 9, 56] (S6_28 r5 r7) (TI.o { val := .bool false } (q_conv (e := r5.2.2 != 0) (b := false) (by kernel_rfl) hc24) [3, 5, 6, 8, 9, 57] [0, 1, 3, 4, 5, 6, 7] (S6_27 r5 r7) (H6_0 p2 p13 r1 r5 r7) (TI.ra 2 [3, 5, 6, 8, 58, 59] (S6_26 r5 r7) (TI.o { val := .bool false } (q_conv (e := r7.2 != 6) (b := false) (by kernel_rfl) hc25) [3, 5, 6, 8, 58, 60] [0, 1, 3, 4, 5, 6, 7] (S6_25 r5 r7) (H6_0 p2 p13 r1 r5 r7) (TI.rn 4 [3, 5, 6, 62, 64] [0, 1, 3, 4, 5, 6] (S6_33 r5 r7) (H6_3 p2 p13 r1 r5) (TI.o { val := .bool false } (q_conv (e := decide ((r7.1.length : Int) > 0)) (b := false) (by kernel_rfl) hc26) [3, 5, 6, 62, 65] [0, 1, 3, 4, 5, 6] (S6_35 r5) (H6_3 p2 p13 r1 r5) (TI.ra 3 [3, 5, 6, 67, 68] (S6_31 r5 r1) (TI.callM (g := 21) (args := [ag [iv r1.1, iv r1.2.1, accV 3 r1.2.2.length]]) (v := iv r27) (new := []) (by kernel_rfl) (PureSim.ren (hc := [ab 57 e57 r1.2.2]) (fun i => List.getD [(3, 0)] i (0, 0)) (C21 _ _ _ _ h28) (.ac (.nil _)) (.cons (Rn.agg' (.fl (.fl (.cons (Rn.accA (i' := 3) (nl rfl) rfl) .nil)))) .nil) (.flat (by kernel_rfl)) newflat_nil) [3, 5, 6, 67, 69] [0, 1, 3, 4, 5, 6] (a2 := (S6_37 r5 r27)) (h2 := (H6_3 p2 p13 r1 r5)) (by kernel_rfl) ?_))))))))
     exact TI.o { val := .bool false } (q_conv (e := r27 != 0) (b := false) (by kernel_rfl) hc29) [3, 5, 6, 67, 70] [0, 1, 3, 4, 5, 6] (S6_36 r5) (H6_3 p2 p13 r1 r5) (TI.ra 6 [3, 5, 6, 72, 74, 76] (st 156 [(3, pt 4 0), (5, accV 5 r5.1.length), (6, accV 6 r5.2.1.length), (72, .bool false), (74, iv (r5.1.length : Int)), (76, iv r1.1)]) (TI.o { val := .bool true } (q_conv (e := (r5.1.length : Int) != r1.1) (b := true) (by kernel_rfl) hc30) [3, 5, 6, 72, 77] [0, 1, 3, 4, 5, 6] (st 156 [(3, pt 4 0), (5, accV 5 r5.1.length), (6, accV 6 r5.2.1.length), (72, .bool false), (77, .bool true)]) (H6_3 p2 p13 r1 r5) (TI.ra 8 [3, 5, 6, 85] (S6_47 r5) (TI.dn hK))))
   replace hm147 := of_neg hm147 hc30
   have hm147 := sj hm147
   subst hm147
   refine TS.rg (TI.ra 1 [3, 5, 6, 8, 9, 56] (S6_28 r5 r7) (TI.o { val := .bool false } (q_conv (e := r5.2.2 != 0) (b := false) (by kernel_rfl) hc24) [3, 5, 6, 8, 9, 57] [0, 1, 3, 4, 5, 6, 7] (S6_27 r5 r7) (H6_0 p2 p13 r1 r5 r7) (TI.ra 2 [3, 5, 6, 8, 58, 59] (S6_26 r5 r7) (TI.o { val := .bool false } (q_conv (e := r7.2 != 6) (b := false) (by kernel_rfl) hc25) [3, 5, 6, 8, 58, 60] [0, 1, 3, 4, 5, 6, 7] (S6_25 r5 r7) (H6_0 p2 p13 r1 r5 r7) (TI.rn 4 [3, 5, 6, 62, 64] [0, 1, 3, 4, 5, 6] (S6_33 r5 r7) (H6_3 p2 p13 r1 r5) (TI.o { val := .bool false } (q_conv (e := decide ((r7.1.length : Int) > 0)) (b := false) (by kernel_rfl) hc26) [3, 5, 6, 62, 65] [0, 1, 3, 4, 5, 6] (S6_35 r5) (H6_3 p2 p13 r1 r5) (TI.ra 3 [3, 5, 6, 67, 68] (S6_31 r5 r1) (TI.callM (g := 21) (args := [ag [iv r1.1, iv r1.2.1, accV 3 r1.2.2.length]]) (v := iv r27) (new := []) (by kernel_rfl) (PureSim.ren (hc := [ab 57 e57 r1.2.2]) (fun i => List.getD [(3, 0)] i (0, 0)) (C21 _ _ _ _ h28) (.ac (.nil _)) (.cons (Rn.agg' (.fl (.fl (.cons (Rn.accA (i' := 3) (nl rfl) rfl) .nil)))) .nil) (.flat (by kernel_rfl)) newflat_nil) [3, 5, 6, 67, 69] [0, 1, 3, 4, 5, 6] (a2 := (S6_37 r5 r27)) (h2 := (H6_3 p2 p13 r1 r5)) (by kernel_rfl) ?_))))))))
   exact TI.o { val := .bool false } (q_conv (e := r27 != 0) (b := false) (by kernel_rfl) hc29) [3, 5, 6, 67, 70] [0, 1, 3, 4, 5, 6] (S6_36 r5) (H6_3 p2 p13 r1 r5) (TI.ra 6 [3, 5, 6, 72, 74, 76] (st 156 [(3, pt 4 0), (5, accV 5 r5.1.length), (6, accV 6 r5.2.1.length), (72, .bool false), (74, iv (r5.1.length : Int)), (76, iv r1.1)]) (TI.o { val := .bool false } (q_conv (e := (r5.1.length : Int) != r1.1) (b := false) (by kernel_rfl) hc30) [3, 5, 6, 72, 77] [0, 1, 3, 4, 5, 6] (st 156 [(3, pt 4 0), (5, accV 5 r5.1.length), (6, accV 6 r5.2.1.length), (72, .bool false), (77, .bool false)]) (H6_3 p2 p13 r1 r5) (TI.ra 8 [3, 5, 6, 85] (st 156 [(3, pt 4 0), (5, accV 5 r5.1.length), (6, accV 6 r5.2.1.length), (85, .bool ((r5.2.1.length : Int) != r1.2.1))]) (TI.dn hK))))
 cases r3 with
 | true =>
  replace hm148 := of_pos hm148 rfl
  have hm148 := sj hm148
  subst hm148
  exact TS.rg (TI.ra 2 [3, 5, 6, 7, 8, 9, 30] (st 156 [(3, pt 4 0), (5, accV 5 r5.1.length), (6, accV 6 r5.2.1.length), (7, iv r5.2.2), (8, sv 7 r7.1.length ANY), (9, iv r7.2), (30, .bool false)]) (TI.dn hK))
 | false =>
  replace hm148 := of_neg hm148 rfl
  have hm148 := sj hm148
  subst hm148
  exact TS.rg (TI.ra 2 [3, 5, 6, 7, 8, 9, 30] (st 156 [(3, pt 4 0), (5, accV 5 r5.1.length), (6, accV 6 r5.2.1.length), (7, iv r5.2.2), (8, sv 7 r7.1.length ANY), (9, iv r7.2), (30, .bool true)]) (TI.dn hK))
theorem C6 (p0 p1 : Int) (p2 : List Int) (p3 p4 p5 p6 p7 p8 p9 p10 p11 p12 : Int) (p13 : List Int) (r : Bool) (hF : F6 p0 p1 p2 p3 p4 p5 p6 p7 p8 p9 p10 p11 p12 p13 = some r) : PureSim Try.prog 6 [ag [.int .u8 p0, .int .u8 p1, sv 0 p2.length ANY, .int .u8 p3, .int .u8 p4, .int .u8 p5, .int .u8 p6, .int .u8 p7, .int .u8 p8, .int .u8 p9, .int .u8 p10, .int .u8 p11, .int .u8 p12, sv 1 p13.length ANY]] (H6_48 p2 p13) (V6 2 r) (N6 2 r) :=
 PureSim.of_Fin Try.func6 (c := c6) (by kernel_rfl) (by kernel_rfl) 2 rfl [0] [0, 1] (by kernel_rfl) (B6 p0 p1 p2 p3 p4 p5 p6 p7 p8 p9 p10 p11 p12 p13 r hF)
end
end Go.Proofs.Ytdekbjfjbbdjgaa
