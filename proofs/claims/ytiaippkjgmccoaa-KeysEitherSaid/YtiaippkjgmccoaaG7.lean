/- What functions of the program compute, and that they do. -/
import Derived.Test.YtiaippkjgmccoaaKQ
import Derived.Test.YtiaippkjgmccoaaGiven
set_option linter.unusedVariables false
set_option linter.unusedSimpArgs false
set_option maxRecDepth 100000
set_option maxHeartbeats 4000000
namespace Go.Proofs.Ytiaippkjgmccoaa
open Go Go.Cl
noncomputable section
noncomputable def c7 : Code := Try.f7.code
def S7_0 (r7 : (List (Int × Bool)) × (List (Int × Bool)) × Int) (o26 o23 r28 o32 o36 : Int × Bool) : CAct := (st 168 [(8, sv 7 r7.2.1.length ANY), (10, pt 8 0), (11, pt 9 0), (75, ag [iv o26.1, .bool o26.2]), (76, ag [iv o23.1, .bool o23.2]), (77, ag [iv r28.1, .bool r28.2]), (78, .bool true), (79, .bool true), (80, sv 7 r7.2.1.length ANY), (81, .pointer (some ⟨7, 0 + (Int.toNat 0) * 2, none⟩)), (82, ag [iv o32.1, .bool o32.2]), (83, ag [iv o26.1, .bool o26.2]), (84, .bool true), (85, .bool true), (86, .bool true), (87, sv 7 r7.2.1.length ANY), (88, sv 7 r7.2.1.length ANY), (89, iv (r7.2.1.length : Int)), (90, iv (w64 ((r7.2.1.length : Int) - 1))), (91, .pointer (some ⟨7, 0 + (Int.toNat (w64 ((r7.2.1.length : Int) - 1))) * 2, none⟩)), (92, ag [iv o36.1, .bool o36.2]), (93, ag [iv o23.1, .bool o23.2])])
def S7_1 (r7 : (List (Int × Bool)) × (List (Int × Bool)) × Int) (o26 o23 r28 o32 : Int × Bool) : CAct := (st 168 [(8, sv 7 r7.2.1.length ANY), (10, pt 8 0), (11, pt 9 0), (75, ag [iv o26.1, .bool o26.2]), (76, ag [iv o23.1, .bool o23.2]), (77, ag [iv r28.1, .bool r28.2]), (78, .bool true), (79, .bool true), (80, sv 7 r7.2.1.length ANY), (81, .pointer (some ⟨7, 0 + (Int.toNat 0) * 2, none⟩)), (82, ag [iv o32.1, .bool o32.2]), (83, ag [iv o26.1, .bool o26.2]), (84, .bool true), (85, .bool true), (86, .bool true), (87, sv 7 r7.2.1.length ANY), (88, sv 7 r7.2.1.length ANY), (89, iv (r7.2.1.length : Int)), (90, iv (w64 ((r7.2.1.length : Int) - 1)))])
def S7_2 (r7 : (List (Int × Bool)) × (List (Int × Bool)) × Int) (o23 o26 : Int × Bool) : CAct := (st 168 [(7, sv 6 r7.1.length ANY), (8, sv 7 r7.2.1.length ANY), (10, pt 8 0), (11, pt 9 0), (65, .bool false), (66, sv 6 r7.1.length ANY), (67, .pointer (some ⟨6, 0 + (Int.toNat 0) * 2, none⟩)), (68, ag [iv o23.1, .bool o23.2]), (69, sv 6 r7.1.length ANY), (70, sv 6 r7.1.length ANY), (71, iv (r7.1.length : Int)), (72, iv (w64 ((r7.1.length : Int) - 1))), (73, .pointer (some ⟨6, 0 + (Int.toNat (w64 ((r7.1.length : Int) - 1))) * 2, none⟩)), (74, ag [iv o26.1, .bool o26.2])])
def S7_3 (r7 : (List (Int × Bool)) × (List (Int × Bool)) × Int) (o23 o26 : Int × Bool) : CAct := (st 168 [(7, sv 6 r7.1.length ANY), (8, sv 7 r7.2.1.length ANY), (65, .bool false), (66, sv 6 r7.1.length ANY), (67, .pointer (some ⟨6, 0 + (Int.toNat 0) * 2, none⟩)), (68, ag [iv o23.1, .bool o23.2]), (69, sv 6 r7.1.length ANY), (70, sv 6 r7.1.length ANY), (71, iv (r7.1.length : Int)), (72, iv (w64 ((r7.1.length : Int) - 1))), (73, .pointer (some ⟨6, 0 + (Int.toNat (w64 ((r7.1.length : Int) - 1))) * 2, none⟩)), (74, ag [iv o26.1, .bool o26.2])])
def S7_4 (r7 : (List (Int × Bool)) × (List (Int × Bool)) × Int) (o23 : Int × Bool) : CAct := (st 168 [(7, sv 6 r7.1.length ANY), (8, sv 7 r7.2.1.length ANY), (65, .bool false), (66, sv 6 r7.1.length ANY), (67, .pointer (some ⟨6, 0 + (Int.toNat 0) * 2, none⟩)), (68, ag [iv o23.1, .bool o23.2]), (69, sv 6 r7.1.length ANY), (70, sv 6 r7.1.length ANY), (71, iv (r7.1.length : Int)), (72, iv (w64 ((r7.1.length : Int) - 1))), (73, .pointer (some ⟨6, 0 + (Int.toNat (w64 ((r7.1.length : Int) - 1))) * 2, none⟩))])
def S7_5 (r7 : (List (Int × Bool)) × (List (Int × Bool)) × Int) (o23 : Int × Bool) : CAct := (st 168 [(7, sv 6 r7.1.length ANY), (8, sv 7 r7.2.1.length ANY), (65, .bool false), (66, sv 6 r7.1.length ANY), (67, .pointer (some ⟨6, 0 + (Int.toNat 0) * 2, none⟩)), (68, ag [iv o23.1, .bool o23.2]), (69, sv 6 r7.1.length ANY), (70, sv 6 r7.1.length ANY), (71, iv (r7.1.length : Int)), (72, iv (w64 ((r7.1.length : Int) - 1)))])
def S7_6 (r7 : (List (Int × Bool)) × (List (Int × Bool)) × Int) (o26 o23 r28 o32 : Int × Bool) : CAct := (st 168 [(8, sv 7 r7.2.1.length ANY), (10, pt 8 0), (11, pt 9 0), (75, ag [iv o26.1, .bool o26.2]), (76, ag [iv o23.1, .bool o23.2]), (77, ag [iv r28.1, .bool r28.2]), (78, .bool true), (79, .bool true), (80, sv 7 r7.2.1.length ANY), (81, .pointer (some ⟨7, 0 + (Int.toNat 0) * 2, none⟩)), (82, ag [iv o32.1, .bool o32.2]), (83, ag [iv o26.1, .bool o26.2])])
def H7_7 (p1 : List I2) (r1 : Int × (List ((Int × Bool) × (Int × Bool)))) (r3 : List Int) (r5 : (List Bool) × Int) (r7 : (List (Int × Bool)) × (List (Int × Bool)) × Int) : List Blk := [ab 84 e84 p1, .dead, ab 86 e86 r1.2, cl 24 [iv r1.1, accV 2 r1.2.length], ab 3 e3 r3, ab 4 e4 r5.1, ab 50 e50 r7.1, ab 50 e50 r7.2.1]
def H7_8 (p1 : List I2) (r1 : Int × (List ((Int × Bool) × (Int × Bool)))) (r5 : (List Bool) × Int) (r7 : (List (Int × Bool)) × (List (Int × Bool)) × Int) : List Blk := [ab 84 e84 p1, .dead, ab 86 e86 r1.2, cl 24 [iv r1.1, accV 2 r1.2.length], .dead, ab 4 e4 r5.1, ab 50 e50 r7.1, ab 50 e50 r7.2.1]
def S7_9 (r7 : (List (Int × Bool)) × (List (Int × Bool)) × Int) (o26 o23 r28 : Int × Bool) : CAct := (st 168 [(8, sv 7 r7.2.1.length ANY), (10, pt 8 0), (11, pt 9 0), (75, ag [iv o26.1, .bool o26.2]), (76, ag [iv o23.1, .bool o23.2]), (77, ag [iv r28.1, .bool r28.2]), (78, .bool true), (79, .bool true), (80, sv 7 r7.2.1.length ANY)])
def S7_10 (r7 : (List (Int × Bool)) × (List (Int × Bool)) × Int) (o23 : Int × Bool) : CAct := (st 168 [(7, sv 6 r7.1.length ANY), (8, sv 7 r7.2.1.length ANY), (65, .bool false), (66, sv 6 r7.1.length ANY), (67, .pointer (some ⟨6, 0 + (Int.toNat 0) * 2, none⟩)), (68, ag [iv o23.1, .bool o23.2])])
def H7_11 (p1 : List I2) (r1 : Int × (List ((Int × Bool) × (Int × Bool)))) (r7 : (List (Int × Bool)) × (List (Int × Bool)) × Int) : List Blk := [ab 84 e84 p1, .dead, ab 86 e86 r1.2, cl 24 [iv r1.1, accV 2 r1.2.length], .dead, .dead, ab 50 e50 r7.1, ab 50 e50 r7.2.1]
def S7_12 (r7 : (List (Int × Bool)) × (List (Int × Bool)) × Int) (r1 : Int × (List ((Int × Bool) × (Int × Bool)))) : CAct := (st 168 [(3, pt 3 0), (7, sv 6 r7.1.length ANY), (8, sv 7 r7.2.1.length ANY), (53, .bool false), (54, ag [iv r1.1, accV 2 r1.2.length]), (55, sv 7 r7.2.1.length ANY)])
def H7_13 (p1 : List I2) (r1 : Int × (List ((Int × Bool) × (Int × Bool)))) (r3 : List Int) (r5 : (List Bool) × Int) : List Blk := [ab 84 e84 p1, .dead, ab 86 e86 r1.2, cl 24 [iv r1.1, accV 2 r1.2.length], ab 3 e3 r3, ab 4 e4 r5.1, .dead, .dead]
def S7_14 (r7 : (List (Int × Bool)) × (List (Int × Bool)) × Int) (r1 : Int × (List ((Int × Bool) × (Int × Bool)))) : CAct := (st 168 [(3, pt 3 0), (7, sv 6 r7.1.length ANY), (8, sv 7 r7.2.1.length ANY), (47, .bool false), (48, ag [iv r1.1, accV 2 r1.2.length]), (49, sv 6 r7.1.length ANY)])
def S7_15 (r7 : (List (Int × Bool)) × (List (Int × Bool)) × Int) : CAct := (st 168 [(7, sv 6 r7.1.length ANY), (8, sv 7 r7.2.1.length ANY), (65, .bool false), (66, sv 6 r7.1.length ANY), (67, .pointer (some ⟨6, 0 + (Int.toNat 0) * 2, none⟩))])
def H7_16 (p1 : List I2) (r7 : (List (Int × Bool)) × (List (Int × Bool)) × Int) (o23 o26 : Int × Bool) : List Blk := [ab 84 e84 p1, .dead, .dead, .dead, .dead, .dead, ab 50 e50 r7.1, ab 50 e50 r7.2.1, cl 50 [iv o23.1, .bool o23.2], cl 50 [iv o26.1, .bool o26.2]]
def H7_17 (p1 : List I2) (r7 : (List (Int × Bool)) × (List (Int × Bool)) × Int) (o23 : Int × Bool) : List Blk := [ab 84 e84 p1, .dead, .dead, .dead, .dead, .dead, ab 50 e50 r7.1, ab 50 e50 r7.2.1, cl 50 [iv o23.1, .bool o23.2], cl 50 [iv 0, .bool false]]
def H7_18 (p1 : List I2) (r1 : Int × (List ((Int × Bool) × (Int × Bool)))) (r5 : (List Bool) × Int) (r3 : List Int) : List Blk := [ab 84 e84 p1, cl 24 [iv r1.1, accV 2 r1.2.length], ab 86 e86 r1.2, ab 4 e4 r5.1, ab 3 e3 r3]
def S7_19 (r3 : List Int) (r5 : (List Bool) × Int) (r7 : (List (Int × Bool)) × (List (Int × Bool)) × Int) : CAct := (st 168 [(3, pt 3 0), (4, accV 4 r3.length), (5, accV 5 r5.1.length), (7, sv 6 r7.1.length ANY), (8, sv 7 r7.2.1.length ANY), (101, .bool false), (103, .bool false)])
def S7_20 (r3 : List Int) (r5 : (List Bool) × Int) (r7 : (List (Int × Bool)) × (List (Int × Bool)) × Int) : CAct := (st 168 [(3, pt 3 0), (4, accV 4 r3.length), (5, accV 5 r5.1.length), (7, sv 6 r7.1.length ANY), (8, sv 7 r7.2.1.length ANY), (101, .bool false), (102, iv r7.2.2)])
def S7_21 (r3 : List Int) (r5 : (List Bool) × Int) (r7 : (List (Int × Bool)) × (List (Int × Bool)) × Int) : CAct := (st 168 [(3, pt 3 0), (4, accV 4 r3.length), (5, accV 5 r5.1.length), (7, sv 6 r7.1.length ANY), (8, sv 7 r7.2.1.length ANY), (9, iv r7.2.2), (100, .bool false)])
def S7_22 (r3 : List Int) (r5 : (List Bool) × Int) (r7 : (List (Int × Bool)) × (List (Int × Bool)) × Int) : CAct := (st 168 [(3, pt 3 0), (4, accV 4 r3.length), (5, accV 5 r5.1.length), (7, sv 6 r7.1.length ANY), (8, sv 7 r7.2.1.length ANY), (9, iv r7.2.2), (99, iv r5.2)])
def H7_23 (p1 : List I2) (r7 : (List (Int × Bool)) × (List (Int × Bool)) × Int) (o23 o26 : Int × Bool) : List Blk := [ab 84 e84 p1, .dead, .dead, .dead, .dead, .dead, .dead, ab 50 e50 r7.2.1, cl 50 [iv o23.1, .bool o23.2], cl 50 [iv o26.1, .bool o26.2]]
def S7_24 (r7 : (List (Int × Bool)) × (List (Int × Bool)) × Int) (r5 : (List Bool) × Int) : CAct := (st 168 [(3, pt 3 0), (7, sv 6 r7.1.length ANY), (8, sv 7 r7.2.1.length ANY), (9, iv r7.2.2), (38, .bool false), (40, iv (r5.1.length : Int))])
def S7_25 (r5 : (List Bool) × Int) (r7 : (List (Int × Bool)) × (List (Int × Bool)) × Int) : CAct := (st 168 [(3, pt 3 0), (5, accV 5 r5.1.length), (7, sv 6 r7.1.length ANY), (8, sv 7 r7.2.1.length ANY), (9, iv r7.2.2), (37, .bool false)])
def S7_26 (r7 : (List (Int × Bool)) × (List (Int × Bool)) × Int) : CAct := (st 168 [(7, sv 6 r7.1.length ANY), (8, sv 7 r7.2.1.length ANY), (65, .bool false), (66, sv 6 r7.1.length ANY)])
def S7_27 (r5 : (List Bool) × Int) (r7 : (List (Int × Bool)) × (List (Int × Bool)) × Int) : CAct := (st 168 [(3, pt 3 0), (5, accV 5 r5.1.length), (7, sv 6 r7.1.length ANY), (8, sv 7 r7.2.1.length ANY), (9, iv r7.2.2), (36, iv r5.2)])
def H7_28 (p1 : List I2) (r1 : Int × (List ((Int × Bool) × (Int × Bool)))) (r5 : (List Bool) × Int) : List Blk := [ab 84 e84 p1, cl 24 [iv r1.1, accV 2 r1.2.length], ab 86 e86 r1.2, ab 4 e4 r5.1]
def H7_29 (p1 : List I2) (r7 : (List (Int × Bool)) × (List (Int × Bool)) × Int) : List Blk := [ab 84 e84 p1, .dead, .dead, .dead, .dead, .dead, ab 50 e50 r7.1, ab 50 e50 r7.2.1]
def S7_30 (r7 : (List (Int × Bool)) × (List (Int × Bool)) × Int) : CAct := (st 168 [(3, pt 3 0), (7, sv 6 r7.1.length ANY), (8, sv 7 r7.2.1.length ANY), (9, iv r7.2.2), (38, .bool false), (41, .bool false)])
def S7_31 (r7 : (List (Int × Bool)) × (List (Int × Bool)) × Int) : CAct := (st 168 [(3, pt 3 0), (7, sv 6 r7.1.length ANY), (8, sv 7 r7.2.1.length ANY), (43, .bool false), (45, .bool false)])
def S7_32 (r7 : (List (Int × Bool)) × (List (Int × Bool)) × Int) : CAct := (st 168 [(3, pt 3 0), (7, sv 6 r7.1.length ANY), (8, sv 7 r7.2.1.length ANY), (47, .bool false), (51, .bool false)])
def S7_33 (r7 : (List (Int × Bool)) × (List (Int × Bool)) × Int) : CAct := (st 168 [(3, pt 3 0), (7, sv 6 r7.1.length ANY), (8, sv 7 r7.2.1.length ANY), (43, .bool false), (44, iv r7.2.2)])
def S7_34 (r7 : (List (Int × Bool)) × (List (Int × Bool)) × Int) (r13 : Bool) : CAct := (st 168 [(3, pt 3 0), (7, sv 6 r7.1.length ANY), (8, sv 7 r7.2.1.length ANY), (47, .bool false), (50, .bool r13)])
def S7_35 (r7 : (List (Int × Bool)) × (List (Int × Bool)) × Int) (r16 : Bool) : CAct := (st 168 [(3, pt 3 0), (7, sv 6 r7.1.length ANY), (8, sv 7 r7.2.1.length ANY), (53, .bool false), (56, .bool r16)])
def S7_36 (r5 : (List Bool) × Int) (r78 v86 : Int) : CAct := (st 168 [(3, pt 1 0), (5, accV 3 r5.1.length), (12, iv r78), (137, accV 3 r5.1.length), (138, iv (r5.1.length : Int)), (139, iv (w64 (v86 + 1)))])
def S7_37 (r7 : (List (Int × Bool)) × (List (Int × Bool)) × Int) (o26 o23 : Int × Bool) : CAct := (st 168 [(8, sv 7 r7.2.1.length ANY), (10, pt 8 0), (11, pt 9 0), (75, ag [iv o26.1, .bool o26.2]), (76, ag [iv o23.1, .bool o23.2])])
def S7_38 (r5 : (List Bool) × Int) (r78 v86 : Int) : CAct := (st 168 [(3, pt 1 0), (5, accV 3 r5.1.length), (12, iv r78), (137, accV 3 r5.1.length), (138, iv (r5.1.length : Int)), (139, iv v86)])
def S7_39 (r5 : (List Bool) × Int) (r78 : Int) : CAct := (st 168 [(3, pt 1 0), (5, accV 3 r5.1.length), (12, iv r78), (137, accV 3 r5.1.length), (138, iv (r5.1.length : Int)), (139, iv 0)])
def S7_40 (r7 : (List (Int × Bool)) × (List (Int × Bool)) × Int) : CAct := (st 168 [(7, sv 6 r7.1.length ANY), (8, sv 7 r7.2.1.length ANY), (65, .bool true)])
def H7_41 (p1 : List I2) (r104 : (List Int) × Int) : List Blk := [ab 84 e84 p1, .dead, .dead, .dead, ab 3 e3 r104.1]
def H7_42 (p1 : List I2) : List Blk := [ab 84 e84 p1, .dead, .dead, .dead, .dead, .dead, .dead, .dead, .dead, .dead]
def S7_43 (r3 : List Int) (r5 : (List Bool) × Int) : CAct := (st 168 [(3, pt 3 0), (4, accV 4 r3.length), (5, accV 5 r5.1.length), (119, .bool true)])
def H7_44 (p1 : List I2) : List Blk := [ab 84 e84 p1, .dead, .dead, .dead, .dead]
def F7l0 (p1 : List I2) (r1 : Int × (List ((Int × Bool) × (Int × Bool)))) (r3 : List Int) (r5 : (List Bool) × Int) (v52 v53 : Int) : Option Int :=
 if decide (v53 < (r3.length : Int)) then
  if (0 : Int) ≤ v53 ∧ v53 < (r3.length : Int) then
   some (List.getD r3 (Int.toNat v53) 0) >>= fun o67 =>
   (
    if decide (v52 < 0) then
     some (true)
    else
     F44 o67 v52 r1.1 >>= fun r70 =>
     some (r70)
   : Option Bool) >>= fun m72 =>
   (
    if m72 then
     some o67
    else
     some v52
   : Option Int) >>= fun m75 =>
   F7l0 p1 r1 r3 r5 m75 (w64 (v53 + 1))
  else none
 else
  some v52
 partial_fixpoint
def F7l1 (p1 : List I2) (r1 : Int × (List ((Int × Bool) × (Int × Bool)))) (r5 : (List Bool) × Int) (r78 v86 : Int) : Option (Unit ⊕ Unit) :=
 if decide (v86 < (r5.1.length : Int)) then
  if (0 : Int) ≤ v86 ∧ v86 < (r5.1.length : Int) then
   some (List.getD r5.1 (Int.toNat v86) false) >>= fun o96 =>
   if (0 : Int) ≤ v86 then
    if !(o96 == ((and64 (shr64 r78 v86) 1) == 1)) then
     some (.inl ())
    else
     F7l1 p1 r1 r5 r78 (w64 (v86 + 1))
   else none
  else none
 else
  some (.inr ())
 partial_fixpoint
def F7 (p0 : Int) (p1 : List I2) : Option Bool :=
 F40 p0 p1 >>= fun r1 =>
 F41 r1.1 r1.2 ([]) >>= fun r3 =>
 F18 r1.1 r1.2 ([]) >>= fun r5 =>
 F32 r1.1 r1.2 >>= fun r7 =>
 if (r3.length : Int) == 0 then
  (
   if r5.2 != 13 then
    some (true)
   else
    if (r5.1.length : Int) != 0 then
     some (true)
    else
     if r7.2.2 != 0 then
      some (true)
     else
      F42 r1.1 r1.2 r7.1 >>= fun r13 =>
      if !r13 then
       some (true)
      else
       F42 r1.1 r1.2 r7.2.1 >>= fun r16 =>
       if !r16 then
        some (true)
       else
        F34 r1.1 r1.2 r7.1 r7.2.1 >>= fun r19 =>
        some (r19 != 0)
  : Option Bool) >>= fun m21 =>
  if m21 then
   some false
  else
   if (0 : Int) ≤ 0 ∧ 0 < (r7.1.length : Int) then
    some (List.getD r7.1 (Int.toNat 0) (0, false)) >>= fun o23 =>
    if (0 : Int) ≤ w64 ((r7.1.length : Int) - 1) ∧ w64 ((r7.1.length : Int) - 1) < (r7.1.length : Int) then
     some (List.getD r7.1 (Int.toNat (w64 ((r7.1.length : Int) - 1))) (0, false)) >>= fun o26 =>
     F43 o23.1 o23.2 >>= fun r28 =>
     (
      if ((o26.1 == r28.1) && ((o26.2 == r28.2) && true)) then
       if (0 : Int) ≤ 0 ∧ 0 < (r7.2.1.length : Int) then
        some (List.getD r7.2.1 (Int.toNat 0) (0, false)) >>= fun o32 =>
        if ((o32.1 == o26.1) && ((o32.2 == o26.2) && true)) then
         if (0 : Int) ≤ w64 ((r7.2.1.length : Int) - 1) ∧ w64 ((r7.2.1.length : Int) - 1) < (r7.2.1.length : Int) then
          some (List.getD r7.2.1 (Int.toNat (w64 ((r7.2.1.length : Int) - 1))) (0, false)) >>= fun o36 =>
          if ((o36.1 == o23.1) && ((o36.2 == o23.2) && true)) then
           F15 >>= fun r39 =>
           some (r39)
          else
           some (false)
         else none
        else
         some (false)
       else none
      else
       some (false)
     : Option Bool) >>= fun m41 =>
     some m41
    else none
   else none
 else
  (
   if r5.2 != 0 then
    some (true)
   else
    if r7.2.2 != 6 then
     some (true)
    else
     if decide ((w64 ((r7.1.length : Int) + (r7.2.1.length : Int))) > 0) then
      some (true)
     else
      some ((r5.1.length : Int) != r1.1)
  : Option Bool) >>= fun m47 =>
  if m47 then
   some false
  else
   F7l0 p1 r1 r3 r5 (-1) 0 >>= fun r78 =>
   F7l1 p1 r1 r5 r78 0 >>= fun r100 =>
   match r100 with
   | .inl o102 =>
    some false
   | .inr o103 =>
    F22 r1.1 r1.2 r5.1 >>= fun r104 =>
    (
     if r104.2 == 0 then
      if (r104.1.length : Int) == 0 then
       F15 >>= fun r108 =>
       some (r108)
      else
       some (false)
     else
      some (false)
    : Option Bool) >>= fun m110 =>
    some m110
def V7 (b : Nat) (r : Bool) : Value := .bool r
def N7 (b : Nat) (r : Bool) : List Blk := []
def P7l0 (p1 : List I2) (r1 : Int × (List ((Int × Bool) × (Int × Bool)))) (r3 : List Int) (r5 : (List Bool) × Int) (r : Int) : Post := fun e a h => e = .exit 0 ∧ Wk Try.prog 1 1 a h (st 168 [(3, pt 1 0), (5, accV 3 r5.1.length), (12, iv r)]) (H7_28 p1 r1 r5)
theorem L7l0 (p1 : List I2) (r1 : Int × (List ((Int × Bool) × (Int × Bool)))) (r3 : List Int) (r5 : (List Bool) × Int) (v52 v53 r : Int) (hF : F7l0 p1 r1 r3 r5 v52 v53 = some r) : TL Try.prog 1 1 c7.s2.s2.s2.s2.s2.s2.s2.s2.s1.s2.bd.bd (st 168 [(3, pt 1 0), (5, accV 3 r5.1.length), (12, iv v52), (120, accV 4 r3.length), (121, iv (r3.length : Int)), (122, iv v53)]) (H7_18 p1 r1 r5 r3) (P7l0 p1 r1 r3 r5 r) := by
 refine F7l0.partial_correctness p1 r1 r3 r5 (motive := fun v52 v53 r => TL Try.prog 1 1 c7.s2.s2.s2.s2.s2.s2.s2.s2.s1.s2.bd.bd (st 168 [(3, pt 1 0), (5, accV 3 r5.1.length), (12, iv v52), (120, accV 4 r3.length), (121, iv (r3.length : Int)), (122, iv v53)]) (H7_18 p1 r1 r5 r3) (P7l0 p1 r1 r3 r5 r)) ?_ v52 v53 r hF
 clear hF r v52 v53
 intro again ih v52 v53 r hF
 refine TL.round (TS.sq (TS.rg (TI.ra 1 [3, 5, 12, 120, 121, 122, 123] (st 168 [(3, pt 1 0), (5, accV 3 r5.1.length), (12, iv v52), (120, accV 4 r3.length), (121, iv (r3.length : Int)), (122, iv v53), (123, .bool (decide (v53 < (r3.length : Int))))]) (TI.dn (NX.sq (TS.sq ?_))))))
 refine TS.cd (.tmp 123) (decide (v53 < (r3.length : Int))) (fun hc65 => ?_) (fun hc65 => ?_)
 · replace hF := of_pos hF hc65
   refine TS.sk (NX.sq (TS.sq (TS.bk 1 (TS.sq ?_))))
   obtain ⟨hg66, hF⟩ := of_guard hF
   obtain ⟨o67, h68, hF⟩ := of_do hF
   replace h68 := sj h68
   refine TS.rg (TI.o { val := .pointer (some ⟨4, 0 + (Int.toNat v53) * 1, none⟩) } (q_ixAcc (P := Try.prog) (t := 38) (s := 1) (e := 3) 4 r3.length (by kernel_rfl) hg66 (by kernel_rfl) (by kernel_rfl)) [3, 5, 12, 120, 121, 122, 124] [0, 1, 2, 3, 4] (st 168 [(3, pt 1 0), (5, accV 3 r5.1.length), (12, iv v52), (120, accV 4 r3.length), (121, iv (r3.length : Int)), (122, iv v53), (124, .pointer (some ⟨4, 0 + (Int.toNat v53) * 1, none⟩))]) (H7_18 p1 r1 r5 r3) (TI.o { val := iv o67 } (q_n1a Try.prog (H7_18 p1 r1 r5 r3) 3 4 (0 + (Int.toNat v53) * 1) r3 e3 1 3 (Int.toNat v53) 0 0 h68) [3, 5, 12, 120, 121, 122, 125] [0, 1, 2, 3, 4] (st 168 [(3, pt 1 0), (5, accV 3 r5.1.length), (12, iv v52), (120, accV 4 r3.length), (121, iv (r3.length : Int)), (122, iv v53), (125, iv o67)]) (H7_18 p1 r1 r5 r3) (TI.ra 1 [3, 5, 12, 14, 120, 121, 122] (st 168 [(3, pt 1 0), (5, accV 3 r5.1.length), (12, iv v52), (14, iv o67), (120, accV 4 r3.length), (121, iv (r3.length : Int)), (122, iv v53)]) (TI.dn (NX.sq (TS.sq ?_))))))
   obtain ⟨m72, hm77, hF⟩ := of_do hF
   have hK : NX Try.prog 1 1 [.sq c7.s2.s2.s2.s2.s2.s2.s2.s2.s1.s2.bd.bd.s2.s2.s1.bd.s2.s2, .bk 1, .sq c7.s2.s2.s2.s2.s2.s2.s2.s2.s1.s2.bd.bd.s2.s2.s2] (Rd Try.prog 1 1 c7.s2.s2.s2.s2.s2.s2.s2.s2.s1.s2.bd.bd (P7l0 p1 r1 r3 r5 r)) .normal (st 168 [(3, pt 1 0), (5, accV 3 r5.1.length), (12, iv v52), (14, iv o67), (120, accV 4 r3.length), (121, iv (r3.length : Int)), (122, iv v53), (134, .bool m72)]) (H7_18 p1 r1 r5 r3) := by
    refine NX.sq ?_
    obtain ⟨m75, hm76, hF⟩ := of_do hF
    have hK : NX Try.prog 1 1 [.bk 1, .sq c7.s2.s2.s2.s2.s2.s2.s2.s2.s1.s2.bd.bd.s2.s2.s2] (Rd Try.prog 1 1 c7.s2.s2.s2.s2.s2.s2.s2.s2.s1.s2.bd.bd (P7l0 p1 r1 r3 r5 r)) .normal (st 168 [(3, pt 1 0), (5, accV 3 r5.1.length), (12, iv m75), (120, accV 4 r3.length), (121, iv (r3.length : Int)), (122, iv v53)]) (H7_18 p1 r1 r5 r3) := by
     refine NX.bk (NX.sq (TS.rg (TI.ra 2 [3, 5, 12, 120, 121, 122] (st 168 [(3, pt 1 0), (5, accV 3 r5.1.length), (12, iv m75), (120, accV 4 r3.length), (121, iv (r3.length : Int)), (122, iv (w64 (v53 + 1)))]) (TI.dn ?_))))
     exact Rd.again (a2 := (st 168 [(3, pt 1 0), (5, accV 3 r5.1.length), (12, iv m75), (120, accV 4 r3.length), (121, iv (r3.length : Int)), (122, iv (w64 (v53 + 1)))])) (h2 := (H7_18 p1 r1 r5 r3)) (Wk.an [1, 2, 3, 4] (.ac (.lt (.fl (.cons (Rn.acc (nl rfl) rfl) .nil)) (.ac (.ac (.ac (.nil _)))))) [pt 1 0, accV 3 r5.1.length, iv m75, accV 4 r3.length, iv (r3.length : Int), iv (w64 (v53 + 1))] (.pp (.cons (Rn.acc (nl rfl) rfl) (.fl (.cons (Rn.acc (nl rfl) rfl) (.fl (.fl .nil))))))) (ih m75 (w64 (v53 + 1)) _ hF)
    clear hF
    have hF := hm76
    clear hm76
    refine TS.start ?_
    cases m72 with
    | true =>
     replace hF := of_pos hF rfl
     refine TS.cdT (.tmp 134) (TS.rg (TI.ra 2 [3, 5, 12, 120, 121, 122] (st 168 [(3, pt 1 0), (5, accV 3 r5.1.length), (12, iv o67), (120, accV 4 r3.length), (121, iv (r3.length : Int)), (122, iv v53)]) (TI.dn ?_)))
     have hF := sj hF
     subst hF
     exact TS.weak (by exact (Wk.an [1, 2, 3, 4] (.ac (.lt (.fl (.cons (Rn.acc (nl rfl) rfl) .nil)) (.ac (.ac (.ac (.nil _)))))) [pt 1 0, accV 3 r5.1.length, iv o67, accV 4 r3.length, iv (r3.length : Int), iv v53] (.pp (.cons (Rn.acc (nl rfl) rfl) (.fl (.cons (Rn.acc (nl rfl) rfl) (.fl (.fl .nil)))))))) hK
    | false =>
     replace hF := of_neg hF rfl
     refine TS.cdF (.tmp 134) (TS.sk ?_)
     have hF := sj hF
     subst hF
     exact TS.weak (by exact (Wk.an [1, 2, 3, 4] (.ac (.lt (.fl (.cons (Rn.acc (nl rfl) rfl) .nil)) (.ac (.ac (.ac (.nil _)))))) [pt 1 0, accV 3 r5.1.length, iv v52, accV 4 r3.length, iv (r3.length : Int), iv v53] (.pp (.cons (Rn.acc (nl rfl) rfl) (.fl (.cons (Rn.acc (nl rfl) rfl) (.fl (.fl .nil)))))))) hK
   rcases Bool.eq_false_or_eq_true (decide (v52 < 0)) with hc69 | hc69
   · replace hm77 := of_pos hm77 hc69
     have hm77 := sj hm77
     subst hm77
     exact TS.rg (TI.ra 1 [3, 5, 12, 14, 120, 121, 122, 126] (st 168 [(3, pt 1 0), (5, accV 3 r5.1.length), (12, iv v52), (14, iv o67), (120, accV 4 r3.length), (121, iv (r3.length : Int)), (122, iv v53), (126, iv v52)]) (TI.o { val := .bool true } (q_conv (e := decide (v52 < 0)) (b := true) (by kernel_rfl) hc69) [3, 5, 12, 14, 120, 121, 122, 127] [0, 1, 2, 3, 4] (st 168 [(3, pt 1 0), (5, accV 3 r5.1.length), (12, iv v52), (14, iv o67), (120, accV 4 r3.length), (121, iv (r3.length : Int)), (122, iv v53), (127, .bool true)]) (H7_18 p1 r1 r5 r3) (TI.ra 7 [3, 5, 12, 14, 120, 121, 122, 134] (st 168 [(3, pt 1 0), (5, accV 3 r5.1.length), (12, iv v52), (14, iv o67), (120, accV 4 r3.length), (121, iv (r3.length : Int)), (122, iv v53), (134, .bool true)]) (TI.dn hK))))
   replace hm77 := of_neg hm77 hc69
   have hX := of_do hm77
   clear hm77
   obtain ⟨r70, h71, hm77⟩ := hX
   have hm77 := sj hm77
   subst hm77
   exact TS.rg (TI.ra 1 [3, 5, 12, 14, 120, 121, 122, 126] (st 168 [(3, pt 1 0), (5, accV 3 r5.1.length), (12, iv v52), (14, iv o67), (120, accV 4 r3.length), (121, iv (r3.length : Int)), (122, iv v53), (126, iv v52)]) (TI.o { val := .bool false } (q_conv (e := decide (v52 < 0)) (b := false) (by kernel_rfl) hc69) [3, 5, 12, 14, 120, 121, 122, 127] [0, 1, 2, 3, 4] (st 168 [(3, pt 1 0), (5, accV 3 r5.1.length), (12, iv v52), (14, iv o67), (120, accV 4 r3.length), (121, iv (r3.length : Int)), (122, iv v53), (127, .bool false)]) (H7_18 p1 r1 r5 r3) (TI.ra 5 [3, 5, 12, 14, 120, 121, 122, 128, 129, 130, 132] (st 168 [(3, pt 1 0), (5, accV 3 r5.1.length), (12, iv v52), (14, iv o67), (120, accV 4 r3.length), (121, iv (r3.length : Int)), (122, iv v53), (128, .bool false), (129, iv o67), (130, iv v52), (132, iv r1.1)]) (TI.cf (C44 _ _ _ _ h71) (TI.ra 1 [3, 5, 12, 14, 120, 121, 122, 134] (st 168 [(3, pt 1 0), (5, accV 3 r5.1.length), (12, iv v52), (14, iv o67), (120, accV 4 r3.length), (121, iv (r3.length : Int)), (122, iv v53), (134, .bool r70)]) (TI.dn hK))))))
 replace hF := of_neg hF hc65
 refine TS.ex 0 (NX.sqX ?_)
 have hF := sj hF
 subst hF
 exact Rd.out (e := .exit 0) (by intro h; cases h) (And.intro rfl (Wk.an [1, 2, 3] (.ac (.lt (.fl (.cons (Rn.acc (nl rfl) rfl) .nil)) (.ac (.ac (.nil _))))) [pt 1 0, accV 3 r5.1.length, iv v52] (.pp (.cons (Rn.acc (nl rfl) rfl) (.fl .nil)))))
def P7l1 (p1 : List I2) (r1 : Int × (List ((Int × Bool) × (Int × Bool)))) (r5 : (List Bool) × Int) (r78 : Int) (r : Unit ⊕ Unit) : Post := fun e a h => (match r with | .inl q0 => e = .ret ∧ Wk Try.prog 1 1 a h (st 168 [(2, .bool false)]) [ab 84 e84 p1] | .inr q0 => e = .exit 2 ∧ Wk Try.prog 1 1 a h (st 168 [(3, pt 1 0), (5, accV 3 r5.1.length)]) (H7_28 p1 r1 r5))
theorem L7l1 (p1 : List I2) (r1 : Int × (List ((Int × Bool) × (Int × Bool)))) (r5 : (List Bool) × Int) (r78 v86 : Int) (r : Unit ⊕ Unit) (hF : F7l1 p1 r1 r5 r78 v86 = some r) : TL Try.prog 1 1 c7.s2.s2.s2.s2.s2.s2.s2.s2.s2.s1.s2.bd.bd (S7_38 r5 r78 v86) (H7_28 p1 r1 r5) (P7l1 p1 r1 r5 r78 r) := by
 refine F7l1.partial_correctness p1 r1 r5 r78 (motive := fun v86 r => TL Try.prog 1 1 c7.s2.s2.s2.s2.s2.s2.s2.s2.s2.s1.s2.bd.bd (S7_38 r5 r78 v86) (H7_28 p1 r1 r5) (P7l1 p1 r1 r5 r78 r)) ?_ v86 r hF
 clear hF r v86
 intro again ih v86 r hF
 refine TL.round (TS.sq (TS.rg (TI.ra 1 [3, 5, 12, 137, 138, 139, 140] (st 168 [(3, pt 1 0), (5, accV 3 r5.1.length), (12, iv r78), (137, accV 3 r5.1.length), (138, iv (r5.1.length : Int)), (139, iv v86), (140, .bool (decide (v86 < (r5.1.length : Int))))]) (TI.dn (NX.sq (TS.sq ?_))))))
 refine TS.cd (.tmp 140) (decide (v86 < (r5.1.length : Int))) (fun hc94 => ?_) (fun hc94 => ?_)
 · replace hF := of_pos hF hc94
   refine TS.sk (NX.sq (TS.sq (TS.bk 3 (TS.sq ?_))))
   obtain ⟨hg95, hF⟩ := of_guard hF
   obtain ⟨o96, h97, hF⟩ := of_do hF
   replace h97 := sj h97
   refine TS.rg (TI.ra 1 [3, 5, 12, 137, 138, 139, 141] (st 168 [(3, pt 1 0), (5, accV 3 r5.1.length), (12, iv r78), (137, accV 3 r5.1.length), (138, iv (r5.1.length : Int)), (139, iv v86), (141, iv v86)]) (TI.o { val := .pointer (some ⟨3, 0 + (Int.toNat v86) * 1, none⟩) } (q_ixAcc (P := Try.prog) (t := 26) (s := 1) (e := 4) 3 r5.1.length (by kernel_rfl) hg95 (by kernel_rfl) (by kernel_rfl)) [3, 5, 12, 137, 138, 139, 141, 142] [0, 1, 2, 3] (st 168 [(3, pt 1 0), (5, accV 3 r5.1.length), (12, iv r78), (137, accV 3 r5.1.length), (138, iv (r5.1.length : Int)), (139, iv v86), (141, iv v86), (142, .pointer (some ⟨3, 0 + (Int.toNat v86) * 1, none⟩))]) (H7_28 p1 r1 r5) (TI.o { val := .bool o96 } (q_n1a Try.prog (H7_28 p1 r1 r5) 4 3 (0 + (Int.toNat v86) * 1) r5.1 e4 1 4 (Int.toNat v86) 0 false h97) [3, 5, 12, 137, 138, 139, 141, 143] [0, 1, 2, 3] (st 168 [(3, pt 1 0), (5, accV 3 r5.1.length), (12, iv r78), (137, accV 3 r5.1.length), (138, iv (r5.1.length : Int)), (139, iv v86), (141, iv v86), (143, .bool o96)]) (H7_28 p1 r1 r5) (TI.ra 2 [3, 5, 12, 15, 16, 137, 138, 139] (st 168 [(3, pt 1 0), (5, accV 3 r5.1.length), (12, iv r78), (15, iv v86), (16, .bool o96), (137, accV 3 r5.1.length), (138, iv (r5.1.length : Int)), (139, iv v86)]) (TI.dn (NX.sq (TS.sq ?_)))))))
   obtain ⟨hg98, hF⟩ := of_guard hF
   refine TS.rg (TI.ra 3 [3, 5, 12, 137, 138, 139, 144, 145, 146] (st 168 [(3, pt 1 0), (5, accV 3 r5.1.length), (12, iv r78), (137, accV 3 r5.1.length), (138, iv (r5.1.length : Int)), (139, iv v86), (144, .bool o96), (145, iv r78), (146, iv v86)]) (TI.o { val := iv (shr64 r78 v86) } (q_shr (P := Try.prog) (ty := 3) (ox := (.tmp 145)) (oy := (.tmp 146)) (by kernel_rfl) hg98) [3, 5, 12, 137, 138, 139, 144, 147] [0, 1, 2, 3] (st 168 [(3, pt 1 0), (5, accV 3 r5.1.length), (12, iv r78), (137, accV 3 r5.1.length), (138, iv (r5.1.length : Int)), (139, iv v86), (144, .bool o96), (147, iv (shr64 r78 v86))]) (H7_28 p1 r1 r5) (TI.o { val := iv (and64 (shr64 r78 v86) 1) } (q_and (P := Try.prog) (ty := 3) (ox := (.tmp 147)) (oy := (.const (iv 1))) (by kernel_rfl)) [3, 5, 12, 137, 138, 139, 144, 148] [0, 1, 2, 3] (st 168 [(3, pt 1 0), (5, accV 3 r5.1.length), (12, iv r78), (137, accV 3 r5.1.length), (138, iv (r5.1.length : Int)), (139, iv v86), (144, .bool o96), (148, iv (and64 (shr64 r78 v86) 1))]) (H7_28 p1 r1 r5) (TI.ra 2 [3, 5, 12, 137, 138, 139, 150] (st 168 [(3, pt 1 0), (5, accV 3 r5.1.length), (12, iv r78), (137, accV 3 r5.1.length), (138, iv (r5.1.length : Int)), (139, iv v86), (150, .bool (!(o96 == ((and64 (shr64 r78 v86) 1) == 1))))]) (TI.dn (NX.sq ?_))))))
   refine TS.cd (.tmp 150) (!(o96 == ((and64 (shr64 r78 v86) 1) == 1))) (fun hc99 => ?_) (fun hc99 => ?_)
   · replace hF := of_pos hF hc99
     refine TS.sq (TS.rg (TI.rn 1 [2] [0] (st 168 [(2, .bool false)]) [ab 84 e84 p1, .dead, .dead, .dead] (TI.dn (NX.sq (TS.rt (NX.bkR (NX.sqR ?_)))))))
     have hF := sj hF
     subst hF
     exact Rd.out (e := .ret) (by intro h; cases h) (And.intro rfl (Wk.an [] (.ac (.nil _)) [.bool false] (.fl .nil)))
   replace hF := of_neg hF hc99
   refine TS.sk (NX.bk (NX.sq (TS.rg (TI.ra 2 [3, 5, 12, 137, 138, 139] (S7_36 r5 r78 v86) (TI.dn ?_)))))
   exact Rd.again (a2 := (S7_36 r5 r78 v86)) (h2 := (H7_28 p1 r1 r5)) (Wk.an [1, 2, 3] (.ac (.lt (.fl (.cons (Rn.acc (nl rfl) rfl) .nil)) (.ac (.ac (.nil _))))) [pt 1 0, accV 3 r5.1.length, iv r78, accV 3 r5.1.length, iv (r5.1.length : Int), iv (w64 (v86 + 1))] (.pp (.cons (Rn.acc (nl rfl) rfl) (.fl (.cons (Rn.acc (nl rfl) rfl) (.fl (.fl .nil))))))) (ih (w64 (v86 + 1)) _ hF)
 replace hF := of_neg hF hc94
 refine TS.ex 2 (NX.sqX ?_)
 have hF := sj hF
 subst hF
 exact Rd.out (e := .exit 2) (by intro h; cases h) (And.intro rfl (Wk.an [1, 2, 3] (.ac (.lt (.fl (.cons (Rn.acc (nl rfl) rfl) .nil)) (.ac (.ac (.nil _))))) [pt 1 0, accV 3 r5.1.length] (.pp (.cons (Rn.acc (nl rfl) rfl) .nil))))
theorem B7 (p0 : Int) (p1 : List I2) (r : Bool) (hF : F7 p0 p1 = some r) : TS Try.prog 1 1 c7 (st 168 [(0, ag [.int .u8 p0, sv 0 p1.length ANY])]) [ab 84 e84 p1] (NX Try.prog 1 1 [] (FinP Try.prog Try.f7 1 (V7 1 r) (N7 1 r))) := by
 unfold F7 at hF
 refine TS.sq (TS.rg (TI.rn 2 [1] [0, 1] (st 168 [(1, pt 1 0)]) [ab 84 e84 p1, cl 71 [.int .u8 p0, sv 0 p1.length ANY]] (TI.dn (NX.sq (TS.sq ?_)))))
 obtain ⟨r1, h2, hF⟩ := of_do hF
 refine TS.rg (TI.rn 1 [18] [0] (st 168 [(18, ag [.int .u8 p0, sv 0 p1.length ANY])]) [ab 84 e84 p1, .dead] (TI.cp 40 [ag [.int .u8 p0, sv 0 p1.length ANY]] (ag [iv r1.1, accV 2 r1.2.length]) [ab 86 e86 r1.2] (PureSim.ren (hc := [ab 84 e84 p1]) (fun i => List.getD [(0, 0)] i (0, 0)) (C40 _ _ _ h2) (.ac (.nil _)) (.cons (Rn.agg' (.fl (.cons (Rn.any _ _ _ _ _ _ (nl rfl) rfl rfl (by decide)) .nil))) .nil) (Rn.agg' (.fl (.cons (Rn.acc (i' := 2) (nl rfl) rfl) .nil))) (newflat_cons (accB_flat (fun _ => rfl)) newflat_nil)) (TI.rn 2 [3] [0, 2, 3] (st 168 [(3, pt 3 0)]) [ab 84 e84 p1, .dead, ab 86 e86 r1.2, cl 24 [iv r1.1, accV 2 r1.2.length]] (TI.dn (NX.sq (TS.sq ?_))))))
 obtain ⟨r3, h4, hF⟩ := of_do hF
 refine TS.rg (TI.ra 1 [3, 20] (st 168 [(3, pt 3 0), (20, ag [iv r1.1, accV 2 r1.2.length])]) (TI.cp 41 [ag [iv r1.1, accV 2 r1.2.length], .slice none 0 0] (accV 4 r3.length) [ab 3 e3 r3] (PureSim.ren (hc := [ab 86 e86 r1.2, accB 50 (List.length ([])) (List.flatMap e50 ([]))]) (fun i => List.getD [(2, 0), (0, 0)] i (0, 0)) (C41 _ _ _ _ h4) (.ac (.cons At.accN (.nil _))) (.cons (Rn.agg' (.fl (.cons (Rn.accA (i' := 2) (nl rfl) rfl) .nil))) (.cons (Rn.anyN _ _ _ rfl (by decide)) .nil)) (Rn.acc (i' := 4) (nl rfl) rfl) (newflat_cons (accB_flat (fun _ => rfl)) newflat_nil)) (TI.rn 1 [3, 4] [0, 2, 3, 4] (st 168 [(3, pt 3 0), (4, accV 4 r3.length)]) [ab 84 e84 p1, .dead, ab 86 e86 r1.2, cl 24 [iv r1.1, accV 2 r1.2.length], ab 3 e3 r3] (TI.dn (NX.sq (TS.sq ?_))))))
 obtain ⟨r5, h6, hF⟩ := of_do hF
 refine TS.rg (TI.ra 1 [3, 4, 23] (st 168 [(3, pt 3 0), (4, accV 4 r3.length), (23, ag [iv r1.1, accV 2 r1.2.length])]) (TI.cp 18 [ag [iv r1.1, accV 2 r1.2.length], .slice none 0 0] (.tuple ⟨[accV 5 r5.1.length, iv r5.2]⟩) [ab 4 e4 r5.1] (PureSim.ren (hc := [ab 86 e86 r1.2, accB 50 (List.length ([])) (List.flatMap e50 ([]))]) (fun i => List.getD [(2, 0), (0, 0)] i (0, 0)) (C18 _ _ _ _ h6) (.ac (.cons At.accN (.nil _))) (.cons (Rn.agg' (.fl (.cons (Rn.accA (i' := 2) (nl rfl) rfl) .nil))) (.cons (Rn.anyN _ _ _ rfl (by decide)) .nil)) (Rn.tuple' (.cons (Rn.acc (i' := 5) (nl rfl) rfl) (.fl .nil))) (newflat_cons (accB_flat (fun _ => rfl)) newflat_nil)) (TI.rn 5 [3, 4, 5, 6] [0, 2, 3, 4, 5] (st 168 [(3, pt 3 0), (4, accV 4 r3.length), (5, accV 5 r5.1.length), (6, iv r5.2)]) [ab 84 e84 p1, .dead, ab 86 e86 r1.2, cl 24 [iv r1.1, accV 2 r1.2.length], ab 3 e3 r3, ab 4 e4 r5.1] (TI.dn (NX.sq (TS.sq ?_))))))
 obtain ⟨r7, h8, hF⟩ := of_do hF
 refine TS.rg (TI.ra 1 [3, 4, 5, 6, 28] (st 168 [(3, pt 3 0), (4, accV 4 r3.length), (5, accV 5 r5.1.length), (6, iv r5.2), (28, ag [iv r1.1, accV 2 r1.2.length])]) (TI.cp 32 [ag [iv r1.1, accV 2 r1.2.length]] (.tuple ⟨[sv 6 r7.1.length ANY, sv 7 r7.2.1.length ANY, iv r7.2.2]⟩) [ab 50 e50 r7.1, ab 50 e50 r7.2.1] (PureSim.ren (hc := [ab 86 e86 r1.2]) (fun i => List.getD [(2, 0)] i (0, 0)) (C32 _ _ _ h8) (.ac (.nil _)) (.cons (Rn.agg' (.fl (.cons (Rn.accA (i' := 2) (nl rfl) rfl) .nil))) .nil) (Rn.tuple' (.cons (Rn.anyS (i' := 6) (nl rfl) rfl rfl) (.cons (Rn.anyS (i' := 7) (nl rfl) rfl rfl) (.fl .nil)))) (newflat_cons (accB_flat (fun _ => rfl)) (newflat_cons (accB_flat (fun _ => rfl)) newflat_nil))) (TI.rn 7 [3, 4, 5, 6, 7, 8, 9] [0, 2, 3, 4, 5, 6, 7] (st 168 [(3, pt 3 0), (4, accV 4 r3.length), (5, accV 5 r5.1.length), (6, iv r5.2), (7, sv 6 r7.1.length ANY), (8, sv 7 r7.2.1.length ANY), (9, iv r7.2.2)]) (H7_7 p1 r1 r3 r5 r7) (TI.dn (NX.sq (TS.sq (TS.sq (TS.rg ?_))))))))
 refine TI.ra 3 [3, 4, 5, 6, 7, 8, 9, 35] (st 168 [(3, pt 3 0), (4, accV 4 r3.length), (5, accV 5 r5.1.length), (6, iv r5.2), (7, sv 6 r7.1.length ANY), (8, sv 7 r7.2.1.length ANY), (9, iv r7.2.2), (35, .bool ((r3.length : Int) == 0))]) (TI.dn (NX.sq ?_))
 refine TS.cd (.tmp 35) ((r3.length : Int) == 0) (fun hc9 => ?_) (fun hc9 => ?_)
 · replace hF := of_pos hF hc9
   refine TS.sq (TS.sq ?_)
   obtain ⟨m21, hm43, hF⟩ := of_do hF
   have hK : NX Try.prog 1 1 [.sq c7.s2.s2.s2.s2.s2.s1.s2.th.s1.s2, .sq c7.s2.s2.s2.s2.s2.s1.s2.th.s2, .sq c7.s2.s2.s2.s2.s2.s2] (FinP Try.prog Try.f7 1 (V7 1 r) (N7 1 r)) .normal (st 168 [(7, sv 6 r7.1.length ANY), (8, sv 7 r7.2.1.length ANY), (65, .bool m21)]) (H7_29 p1 r7) := by
    refine NX.sq ?_
    cases m21 with
    | true =>
     replace hF := of_pos hF rfl
     refine TS.cdT (.tmp 65) (TS.sq (TS.rg (TI.rn 1 [2] [0] (st 168 [(2, .bool false)]) [ab 84 e84 p1, .dead, .dead, .dead, .dead, .dead, .dead, .dead] (TI.dn (NX.sq (TS.rt (NX.sqR (NX.sqR ?_))))))))
     have hF := sj hF
     subst hF
     exact ⟨.inr rfl, rfl, .bool false, by kernel_rfl, WkV.flat0 (by kernel_rfl) (nl rfl)⟩
    | false =>
     replace hF := of_neg hF rfl
     refine TS.cdF (.tmp 65) (TS.sk (NX.sq (TS.sq ?_)))
     obtain ⟨hg22, hF⟩ := of_guard hF
     obtain ⟨o23, h24, hF⟩ := of_do hF
     replace h24 := sj h24
     obtain ⟨hg25, hF⟩ := of_guard hF
     obtain ⟨o26, h27, hF⟩ := of_do hF
     replace h27 := sj h27
     refine TS.draw' (id := 8) (b := true) (ops := c7.s2.s2.s2.s2.s2.s1.s2.th.s2.s1.rops) (fin := (qs (S7_2 r7 o23 o26) (H7_17 p1 r7 o23) [(10, 9, 10), (9, 8, 9)] [(11, 8)])) (fin2 := (qs (S7_2 r7 o23 o26) (H7_17 p1 r7 o23) [(10, 9, 10), (9, 8, 9)] [(11, 8)])) (a1 := (S7_2 r7 o23 o26)) (h1 := (H7_16 p1 r7 o23 o26)) (a2 := (st 168 [(8, sv 7 r7.2.1.length ANY), (10, pt 8 0), (11, pt 9 0)])) (h2 := (H7_23 p1 r7 o23 o26)) [] (fun e he => by cases he) mixed (by kernel_rfl) rfl 12 (by kernel_rfl) [(11, 8)] ?_ rfl (.inr ⟨?_, (by kernel_rfl)⟩) ?_ [8, 10, 11] [0, 7, 8, 9] (by kernel_rfl) ?_
     · exact QI.run (s1 := (qs (S7_26 r7) (H7_29 p1 r7) [] [])) 1 (by kernel_rfl) (by kernel_rfl) (QI.op (q := { val := .pointer (some ⟨6, 0 + (Int.toNat 0) * 2, none⟩) }) (s1 := (qs (S7_15 r7) (H7_29 p1 r7) [] [])) (by decide) (q_ixS 6 0 ((Int.toNat 0) * 2) (by kernel_rfl) hg22) (by kernel_rfl) (QI.op (q := { val := ag [iv o23.1, .bool o23.2] }) (s1 := (qs (S7_10 r7 o23) (H7_29 p1 r7) [] [])) (by decide) (q_nAa Try.prog (H7_29 p1 r7) 50 6 (0 + (Int.toNat 0) * 2) r7.1 e50 2 50 (Int.toNat 0) (0, false) h24) (by kernel_rfl) (QI.run (s1 := (qs (S7_5 r7 o23) (H7_29 p1 r7) [] [])) 4 (by kernel_rfl) (by kernel_rfl) (QI.op (q := { val := .pointer (some ⟨6, 0 + (Int.toNat (w64 ((r7.1.length : Int) - 1))) * 2, none⟩) }) (s1 := (qs (S7_4 r7 o23) (H7_29 p1 r7) [] [])) (by decide) (q_ixS 6 0 ((Int.toNat (w64 ((r7.1.length : Int) - 1))) * 2) (by kernel_rfl) hg25) (by kernel_rfl) (QI.op (q := { val := ag [iv o26.1, .bool o26.2] }) (s1 := (qs (S7_3 r7 o23 o26) (H7_29 p1 r7) [] [])) (by decide) (q_nAa Try.prog (H7_29 p1 r7) 50 6 (0 + (Int.toNat (w64 ((r7.1.length : Int) - 1))) * 2) r7.1 e50 2 50 (Int.toNat (w64 ((r7.1.length : Int) - 1))) (0, false) h27) (by kernel_rfl) (QI.run (s1 := (qs (S7_2 r7 o23 o26) (H7_17 p1 r7 o23) [(10, 9, 10), (9, 8, 9)] [(11, 8)])) 3 (by kernel_rfl) (by kernel_rfl) (QI.done (by kernel_rfl))))))))
     · exact QI.run (s1 := (qs (S7_26 r7) (H7_29 p1 r7) [] [])) 1 (by kernel_rfl) (by kernel_rfl) (QI.op (q := { val := .pointer (some ⟨6, 0 + (Int.toNat 0) * 2, none⟩) }) (s1 := (qs (S7_15 r7) (H7_29 p1 r7) [] [])) (by decide) (q_ixS 6 0 ((Int.toNat 0) * 2) (by kernel_rfl) hg22) (by kernel_rfl) (QI.op (q := { val := ag [iv o23.1, .bool o23.2] }) (s1 := (qs (S7_10 r7 o23) (H7_29 p1 r7) [] [])) (by decide) (q_nAa Try.prog (H7_29 p1 r7) 50 6 (0 + (Int.toNat 0) * 2) r7.1 e50 2 50 (Int.toNat 0) (0, false) h24) (by kernel_rfl) (QI.run (s1 := (qs (S7_5 r7 o23) (H7_29 p1 r7) [] [])) 4 (by kernel_rfl) (by kernel_rfl) (QI.op (q := { val := .pointer (some ⟨6, 0 + (Int.toNat (w64 ((r7.1.length : Int) - 1))) * 2, none⟩) }) (s1 := (qs (S7_4 r7 o23) (H7_29 p1 r7) [] [])) (by decide) (q_ixS 6 0 ((Int.toNat (w64 ((r7.1.length : Int) - 1))) * 2) (by kernel_rfl) hg25) (by kernel_rfl) (QI.op (q := { val := ag [iv o26.1, .bool o26.2] }) (s1 := (qs (S7_3 r7 o23 o26) (H7_29 p1 r7) [] [])) (by decide) (q_nAa Try.prog (H7_29 p1 r7) 50 6 (0 + (Int.toNat (w64 ((r7.1.length : Int) - 1))) * 2) r7.1 e50 2 50 (Int.toNat (w64 ((r7.1.length : Int) - 1))) (0, false) h27) (by kernel_rfl) (QI.run (s1 := (qs (S7_2 r7 o23 o26) (H7_17 p1 r7 o23) [(10, 9, 10), (9, 8, 9)] [(11, 8)])) 3 (by kernel_rfl) (by kernel_rfl) (QI.done (by kernel_rfl))))))))
     · exact SI.run (a2 := (S7_2 r7 o23 o26)) (h2 := (H7_16 p1 r7 o23 o26)) 1 (by kernel_rfl) (SI.done (by kernel_rfl))
     refine TS.sq ?_
     obtain ⟨r28, h29, hF⟩ := of_do hF
     obtain ⟨m41, hm42, hF⟩ := of_do hF
     have hK : NX Try.prog 1 1 [.sq c7.s2.s2.s2.s2.s2.s1.s2.th.s2.s2.s2, .sq c7.s2.s2.s2.s2.s2.s2] (FinP Try.prog Try.f7 1 (V7 1 r) (N7 1 r)) .normal (st 168 [(2, .bool m41)]) (H7_42 p1) := by
      refine NX.sq (TS.rt (NX.sqR ?_))
      have hF := sj hF
      subst hF
      exact ⟨.inr rfl, rfl, .bool m41, by kernel_rfl, WkV.flat0 (by kernel_rfl) (nl rfl)⟩
     rcases Bool.eq_false_or_eq_true (((o26.1 == r28.1) && ((o26.2 == r28.2) && true))) with hc30 | hc30
     · replace hm42 := of_pos hm42 hc30
       have hX := of_guard hm42
       clear hm42
       obtain ⟨hg31, hm42⟩ := hX
       have hX := of_do hm42
       clear hm42
       obtain ⟨o32, h33, hm42⟩ := hX
       replace h33 := sj h33
       rcases Bool.eq_false_or_eq_true (((o32.1 == o26.1) && ((o32.2 == o26.2) && true))) with hc34 | hc34
       · replace hm42 := of_pos hm42 hc34
         have hX := of_guard hm42
         clear hm42
         obtain ⟨hg35, hm42⟩ := hX
         have hX := of_do hm42
         clear hm42
         obtain ⟨o36, h37, hm42⟩ := hX
         replace h37 := sj h37
         rcases Bool.eq_false_or_eq_true (((o36.1 == o23.1) && ((o36.2 == o23.2) && true))) with hc38 | hc38
         · replace hm42 := of_pos hm42 hc38
           have hX := of_do hm42
           clear hm42
           obtain ⟨r39, h40, hm42⟩ := hX
           have hm42 := sj hm42
           subst hm42
           have hT : ∀ e ∈ ([⟨43, [ag [iv o23.1, .bool o23.2]], (H7_23 p1 r7 o23 o26), ag [iv r28.1, .bool r28.2], []⟩, ⟨15, [], (H7_23 p1 r7 o23 o26), .bool r39, []⟩] : List Entry), PureSim Try.prog e.g e.args e.h e.v e.new := by
            intro e he
            simp only [List.mem_cons, List.not_mem_nil, or_false] at he
            rcases he with rfl | rfl
            · exact PureSim.ak (C43 _ _ _ h29)
            exact PureSim.ak (C15 _ h40)
           refine TS.dp [⟨43, [ag [iv o23.1, .bool o23.2]], (H7_23 p1 r7 o23 o26), ag [iv r28.1, .bool r28.2], []⟩, ⟨15, [], (H7_23 p1 r7 o23 o26), .bool r39, []⟩] hT mixed 19 [2] [0] (st 168 [(2, .bool r39)]) (H7_42 p1) ?_ ?_
           · refine QJ.rn (qs (S7_37 r7 o26 o23) (H7_23 p1 r7 o23 o26) [] []) 2 (QJ.o { val := ag [iv r28.1, .bool r28.2], new := [] } (qOf_call (g := 43) (args := [ag [iv o23.1, .bool o23.2]]) (by kernel_rfl) lookC_hit) (QJ.o { val := .bool true } (q_conv (e := ((o26.1 == r28.1) && ((o26.2 == r28.2) && true))) (b := true) (by kernel_rfl) hc30) (QJ.rn (qs (S7_9 r7 o26 o23 r28) (H7_23 p1 r7 o23 o26) [] []) 2 (QJ.o { val := .pointer (some ⟨7, 0 + (Int.toNat 0) * 2, none⟩) } (q_ixS 7 0 ((Int.toNat 0) * 2) (by kernel_rfl) hg31) (QJ.o { val := ag [iv o32.1, .bool o32.2] } (q_nAa Try.prog (H7_23 p1 r7 o23 o26) 50 7 (0 + (Int.toNat 0) * 2) r7.2.1 e50 2 50 (Int.toNat 0) (0, false) h33) (QJ.rn (qs (S7_6 r7 o26 o23 r28 o32) (H7_23 p1 r7 o23 o26) [] []) 1 (QJ.o { val := .bool true } (q_conv (e := ((o32.1 == o26.1) && ((o32.2 == o26.2) && true))) (b := true) (by kernel_rfl) hc34) (QJ.rn (qs (S7_1 r7 o26 o23 r28 o32) (H7_23 p1 r7 o23 o26) [] []) 6 ?_))))))))
             exact QJ.o { val := .pointer (some ⟨7, 0 + (Int.toNat (w64 ((r7.2.1.length : Int) - 1))) * 2, none⟩) } (q_ixS 7 0 ((Int.toNat (w64 ((r7.2.1.length : Int) - 1))) * 2) (by kernel_rfl) hg35) (QJ.o { val := ag [iv o36.1, .bool o36.2] } (q_nAa Try.prog (H7_23 p1 r7 o23 o26) 50 7 (0 + (Int.toNat (w64 ((r7.2.1.length : Int) - 1))) * 2) r7.2.1 e50 2 50 (Int.toNat (w64 ((r7.2.1.length : Int) - 1))) (0, false) h37) (QJ.rn (qs (S7_0 r7 o26 o23 r28 o32 o36) (H7_23 p1 r7 o23 o26) [] []) 1 (QJ.dn ⟨rfl, (SJ.o { val := .bool true } (q_conv (e := ((o36.1 == o23.1) && ((o36.2 == o23.2) && true))) (b := true) (by kernel_rfl) hc38) (SJ.rn (st 168 [(8, sv 7 r7.2.1.length ANY), (10, pt 8 0), (11, pt 9 0), (75, ag [iv o26.1, .bool o26.2]), (76, ag [iv o23.1, .bool o23.2]), (77, ag [iv r28.1, .bool r28.2]), (78, .bool true), (79, .bool true), (80, sv 7 r7.2.1.length ANY), (81, .pointer (some ⟨7, 0 + (Int.toNat 0) * 2, none⟩)), (82, ag [iv o32.1, .bool o32.2]), (83, ag [iv o26.1, .bool o26.2]), (84, .bool true), (85, .bool true), (86, .bool true), (87, sv 7 r7.2.1.length ANY), (88, sv 7 r7.2.1.length ANY), (89, iv (r7.2.1.length : Int)), (90, iv (w64 ((r7.2.1.length : Int) - 1))), (91, .pointer (some ⟨7, 0 + (Int.toNat (w64 ((r7.2.1.length : Int) - 1))) * 2, none⟩)), (92, ag [iv o36.1, .bool o36.2]), (93, ag [iv o23.1, .bool o23.2]), (94, .bool true), (95, .bool true), (96, .bool true)]) (H7_23 p1 r7 o23 o26) 2 (SJ.o { val := .bool r39, new := [] } (qOf_call (g := 15) (args := []) (by kernel_rfl) (lookC_skip (fun hg => absurd (show (43 : Nat) = 15 from hg) (by decide)) lookC_hit)) SJ.la)))⟩)))
           exact hK
         replace hm42 := of_neg hm42 hc38
         have hm42 := sj hm42
         subst hm42
         have hT : ∀ e ∈ ([⟨43, [ag [iv o23.1, .bool o23.2]], (H7_23 p1 r7 o23 o26), ag [iv r28.1, .bool r28.2], []⟩] : List Entry), PureSim Try.prog e.g e.args e.h e.v e.new := by
          intro e he
          simp only [List.mem_cons, List.not_mem_nil, or_false] at he
          rcases he with rfl
          exact PureSim.ak (C43 _ _ _ h29)
         refine TS.dp [⟨43, [ag [iv o23.1, .bool o23.2]], (H7_23 p1 r7 o23 o26), ag [iv r28.1, .bool r28.2], []⟩] hT mixed 19 [2] [0] (st 168 [(2, .bool false)]) (H7_42 p1) ?_ ?_
         · refine QJ.rn (qs (S7_37 r7 o26 o23) (H7_23 p1 r7 o23 o26) [] []) 2 (QJ.o { val := ag [iv r28.1, .bool r28.2], new := [] } (qOf_call (g := 43) (args := [ag [iv o23.1, .bool o23.2]]) (by kernel_rfl) lookC_hit) (QJ.o { val := .bool true } (q_conv (e := ((o26.1 == r28.1) && ((o26.2 == r28.2) && true))) (b := true) (by kernel_rfl) hc30) (QJ.rn (qs (S7_9 r7 o26 o23 r28) (H7_23 p1 r7 o23 o26) [] []) 2 (QJ.o { val := .pointer (some ⟨7, 0 + (Int.toNat 0) * 2, none⟩) } (q_ixS 7 0 ((Int.toNat 0) * 2) (by kernel_rfl) hg31) (QJ.o { val := ag [iv o32.1, .bool o32.2] } (q_nAa Try.prog (H7_23 p1 r7 o23 o26) 50 7 (0 + (Int.toNat 0) * 2) r7.2.1 e50 2 50 (Int.toNat 0) (0, false) h33) (QJ.rn (qs (S7_6 r7 o26 o23 r28 o32) (H7_23 p1 r7 o23 o26) [] []) 1 (QJ.o { val := .bool true } (q_conv (e := ((o32.1 == o26.1) && ((o32.2 == o26.2) && true))) (b := true) (by kernel_rfl) hc34) (QJ.rn (qs (S7_1 r7 o26 o23 r28 o32) (H7_23 p1 r7 o23 o26) [] []) 6 ?_))))))))
           exact QJ.o { val := .pointer (some ⟨7, 0 + (Int.toNat (w64 ((r7.2.1.length : Int) - 1))) * 2, none⟩) } (q_ixS 7 0 ((Int.toNat (w64 ((r7.2.1.length : Int) - 1))) * 2) (by kernel_rfl) hg35) (QJ.o { val := ag [iv o36.1, .bool o36.2] } (q_nAa Try.prog (H7_23 p1 r7 o23 o26) 50 7 (0 + (Int.toNat (w64 ((r7.2.1.length : Int) - 1))) * 2) r7.2.1 e50 2 50 (Int.toNat (w64 ((r7.2.1.length : Int) - 1))) (0, false) h37) (QJ.rn (qs (S7_0 r7 o26 o23 r28 o32 o36) (H7_23 p1 r7 o23 o26) [] []) 1 (QJ.dn ⟨rfl, (SJ.o { val := .bool false } (q_conv (e := ((o36.1 == o23.1) && ((o36.2 == o23.2) && true))) (b := false) (by kernel_rfl) hc38) SJ.la)⟩)))
         exact hK
       replace hm42 := of_neg hm42 hc34
       have hm42 := sj hm42
       subst hm42
       have hT : ∀ e ∈ ([⟨43, [ag [iv o23.1, .bool o23.2]], (H7_23 p1 r7 o23 o26), ag [iv r28.1, .bool r28.2], []⟩] : List Entry), PureSim Try.prog e.g e.args e.h e.v e.new := by
        intro e he
        simp only [List.mem_cons, List.not_mem_nil, or_false] at he
        rcases he with rfl
        exact PureSim.ak (C43 _ _ _ h29)
       refine TS.dp [⟨43, [ag [iv o23.1, .bool o23.2]], (H7_23 p1 r7 o23 o26), ag [iv r28.1, .bool r28.2], []⟩] hT mixed 19 [2] [0] (st 168 [(2, .bool false)]) (H7_42 p1) ?_ ?_
       · refine QJ.rn (qs (S7_37 r7 o26 o23) (H7_23 p1 r7 o23 o26) [] []) 2 (QJ.o { val := ag [iv r28.1, .bool r28.2], new := [] } (qOf_call (g := 43) (args := [ag [iv o23.1, .bool o23.2]]) (by kernel_rfl) lookC_hit) (QJ.o { val := .bool true } (q_conv (e := ((o26.1 == r28.1) && ((o26.2 == r28.2) && true))) (b := true) (by kernel_rfl) hc30) (QJ.rn (qs (S7_9 r7 o26 o23 r28) (H7_23 p1 r7 o23 o26) [] []) 2 (QJ.o { val := .pointer (some ⟨7, 0 + (Int.toNat 0) * 2, none⟩) } (q_ixS 7 0 ((Int.toNat 0) * 2) (by kernel_rfl) hg31) (QJ.o { val := ag [iv o32.1, .bool o32.2] } (q_nAa Try.prog (H7_23 p1 r7 o23 o26) 50 7 (0 + (Int.toNat 0) * 2) r7.2.1 e50 2 50 (Int.toNat 0) (0, false) h33) (QJ.rn (qs (S7_6 r7 o26 o23 r28 o32) (H7_23 p1 r7 o23 o26) [] []) 1 (QJ.o { val := .bool false } (q_conv (e := ((o32.1 == o26.1) && ((o32.2 == o26.2) && true))) (b := false) (by kernel_rfl) hc34) (QJ.rn (qs (st 168 [(8, sv 7 r7.2.1.length ANY), (10, pt 8 0), (11, pt 9 0), (75, ag [iv o26.1, .bool o26.2]), (76, ag [iv o23.1, .bool o23.2]), (77, ag [iv r28.1, .bool r28.2]), (78, .bool true), (79, .bool true), (80, sv 7 r7.2.1.length ANY), (81, .pointer (some ⟨7, 0 + (Int.toNat 0) * 2, none⟩)), (82, ag [iv o32.1, .bool o32.2]), (83, ag [iv o26.1, .bool o26.2]), (84, .bool false), (85, .bool false), (86, .bool false), (87, undef), (88, undef), (89, undef), (90, undef), (91, undef), (92, undef), (93, undef)]) (H7_23 p1 r7 o23 o26) [] []) 9 ?_))))))))
         exact QJ.dn ⟨rfl, SJ.la⟩
       exact hK
     replace hm42 := of_neg hm42 hc30
     have hm42 := sj hm42
     subst hm42
     have hT : ∀ e ∈ ([⟨43, [ag [iv o23.1, .bool o23.2]], (H7_23 p1 r7 o23 o26), ag [iv r28.1, .bool r28.2], []⟩] : List Entry), PureSim Try.prog e.g e.args e.h e.v e.new := by
      intro e he
      simp only [List.mem_cons, List.not_mem_nil, or_false] at he
      rcases he with rfl
      exact PureSim.ak (C43 _ _ _ h29)
     refine TS.dp [⟨43, [ag [iv o23.1, .bool o23.2]], (H7_23 p1 r7 o23 o26), ag [iv r28.1, .bool r28.2], []⟩] hT mixed 19 [2] [0] (st 168 [(2, .bool false)]) (H7_42 p1) ?_ ?_
     · exact QJ.rn (qs (S7_37 r7 o26 o23) (H7_23 p1 r7 o23 o26) [] []) 2 (QJ.o { val := ag [iv r28.1, .bool r28.2], new := [] } (qOf_call (g := 43) (args := [ag [iv o23.1, .bool o23.2]]) (by kernel_rfl) lookC_hit) (QJ.o { val := .bool false } (q_conv (e := ((o26.1 == r28.1) && ((o26.2 == r28.2) && true))) (b := false) (by kernel_rfl) hc30) (QJ.rn (qs (st 168 [(8, sv 7 r7.2.1.length ANY), (10, pt 8 0), (11, pt 9 0), (75, ag [iv o26.1, .bool o26.2]), (76, ag [iv o23.1, .bool o23.2]), (77, ag [iv r28.1, .bool r28.2]), (78, .bool false), (79, .bool false), (80, undef), (81, undef), (82, undef), (83, undef), (84, undef), (85, .bool false), (86, .bool false), (87, undef), (88, undef), (89, undef), (90, undef), (91, undef), (92, undef), (93, undef)]) (H7_23 p1 r7 o23 o26) [] []) 15 (QJ.dn ⟨rfl, SJ.la⟩))))
     exact hK
   rcases Bool.eq_false_or_eq_true (r5.2 != 13) with hc10 | hc10
   · replace hm43 := of_pos hm43 hc10
     have hm43 := sj hm43
     subst hm43
     exact TS.rg (TI.rn 1 [3, 5, 7, 8, 9, 36] [0, 2, 3, 5, 6, 7] (S7_27 r5 r7) (H7_8 p1 r1 r5 r7) (TI.o { val := .bool true } (q_conv (e := r5.2 != 13) (b := true) (by kernel_rfl) hc10) [3, 5, 7, 8, 9, 37] [0, 2, 3, 5, 6, 7] (st 168 [(3, pt 3 0), (5, accV 5 r5.1.length), (7, sv 6 r7.1.length ANY), (8, sv 7 r7.2.1.length ANY), (9, iv r7.2.2), (37, .bool true)]) (H7_8 p1 r1 r5 r7) (TI.rn 28 [7, 8, 65] [0, 6, 7] (S7_40 r7) (H7_29 p1 r7) (TI.dn hK))))
   replace hm43 := of_neg hm43 hc10
   rcases Bool.eq_false_or_eq_true ((r5.1.length : Int) != 0) with hc11 | hc11
   · replace hm43 := of_pos hm43 hc11
     have hm43 := sj hm43
     subst hm43
     exact TS.rg (TI.rn 1 [3, 5, 7, 8, 9, 36] [0, 2, 3, 5, 6, 7] (S7_27 r5 r7) (H7_8 p1 r1 r5 r7) (TI.o { val := .bool false } (q_conv (e := r5.2 != 13) (b := false) (by kernel_rfl) hc10) [3, 5, 7, 8, 9, 37] [0, 2, 3, 5, 6, 7] (S7_25 r5 r7) (H7_8 p1 r1 r5 r7) (TI.rn 3 [3, 7, 8, 9, 38, 40] [0, 2, 3, 6, 7] (S7_24 r7 r5) (H7_11 p1 r1 r7) (TI.o { val := .bool true } (q_conv (e := (r5.1.length : Int) != 0) (b := true) (by kernel_rfl) hc11) [3, 7, 8, 9, 38, 41] [0, 2, 3, 6, 7] (st 168 [(3, pt 3 0), (7, sv 6 r7.1.length ANY), (8, sv 7 r7.2.1.length ANY), (9, iv r7.2.2), (38, .bool false), (41, .bool true)]) (H7_11 p1 r1 r7) (TI.rn 24 [7, 8, 65] [0, 6, 7] (S7_40 r7) (H7_29 p1 r7) (TI.dn hK))))))
   replace hm43 := of_neg hm43 hc11
   rcases Bool.eq_false_or_eq_true (r7.2.2 != 0) with hc12 | hc12
   · replace hm43 := of_pos hm43 hc12
     have hm43 := sj hm43
     subst hm43
     refine TS.rg (TI.rn 1 [3, 5, 7, 8, 9, 36] [0, 2, 3, 5, 6, 7] (S7_27 r5 r7) (H7_8 p1 r1 r5 r7) (TI.o { val := .bool false } (q_conv (e := r5.2 != 13) (b := false) (by kernel_rfl) hc10) [3, 5, 7, 8, 9, 37] [0, 2, 3, 5, 6, 7] (S7_25 r5 r7) (H7_8 p1 r1 r5 r7) (TI.rn 3 [3, 7, 8, 9, 38, 40] [0, 2, 3, 6, 7] (S7_24 r7 r5) (H7_11 p1 r1 r7) (TI.o { val := .bool false } (q_conv (e := (r5.1.length : Int) != 0) (b := false) (by kernel_rfl) hc11) [3, 7, 8, 9, 38, 41] [0, 2, 3, 6, 7] (S7_30 r7) (H7_11 p1 r1 r7) (TI.ra 3 [3, 7, 8, 43, 44] (S7_33 r7) (TI.o { val := .bool true } (q_conv (e := r7.2.2 != 0) (b := true) (by kernel_rfl) hc12) [3, 7, 8, 43, 45] [0, 2, 3, 6, 7] (st 168 [(3, pt 3 0), (7, sv 6 r7.1.length ANY), (8, sv 7 r7.2.1.length ANY), (43, .bool false), (45, .bool true)]) (H7_11 p1 r1 r7) (TI.rn 20 [7, 8, 65] [0, 6, 7] (S7_40 r7) (H7_29 p1 r7) (TI.dn ?_))))))))
     exact hK
   replace hm43 := of_neg hm43 hc12
   have hX := of_do hm43
   clear hm43
   obtain ⟨r13, h14, hm43⟩ := hX
   rcases Bool.eq_false_or_eq_true (!r13) with hc15 | hc15
   · replace hm43 := of_pos hm43 hc15
     have hm43 := sj hm43
     subst hm43
     refine TS.rg (TI.rn 1 [3, 5, 7, 8, 9, 36] [0, 2, 3, 5, 6, 7] (S7_27 r5 r7) (H7_8 p1 r1 r5 r7) (TI.o { val := .bool false } (q_conv (e := r5.2 != 13) (b := false) (by kernel_rfl) hc10) [3, 5, 7, 8, 9, 37] [0, 2, 3, 5, 6, 7] (S7_25 r5 r7) (H7_8 p1 r1 r5 r7) (TI.rn 3 [3, 7, 8, 9, 38, 40] [0, 2, 3, 6, 7] (S7_24 r7 r5) (H7_11 p1 r1 r7) (TI.o { val := .bool false } (q_conv (e := (r5.1.length : Int) != 0) (b := false) (by kernel_rfl) hc11) [3, 7, 8, 9, 38, 41] [0, 2, 3, 6, 7] (S7_30 r7) (H7_11 p1 r1 r7) (TI.ra 3 [3, 7, 8, 43, 44] (S7_33 r7) (TI.o { val := .bool false } (q_conv (e := r7.2.2 != 0) (b := false) (by kernel_rfl) hc12) [3, 7, 8, 43, 45] [0, 2, 3, 6, 7] (S7_31 r7) (H7_11 p1 r1 r7) (TI.ra 4 [3, 7, 8, 47, 48, 49] (S7_14 r7 r1) (TI.callM (g := 42) (args := [ag [iv r1.1, accV 2 r1.2.length], sv 6 r7.1.length ANY]) (v := .bool r13) (new := []) (by kernel_rfl) (PureSim.ren (hc := [ab 86 e86 r1.2, ab 50 e50 r7.1]) (fun i => List.getD [(2, 0), (6, 0)] i (0, 0)) (C42 _ _ _ _ h14) (.ac (.ac (.nil _))) (.cons (Rn.agg' (.fl (.cons (Rn.accA (i' := 2) (nl rfl) rfl) .nil))) (.cons (Rn.any _ _ _ _ _ _ (nl rfl) rfl rfl (by decide)) .nil)) (.flat (by kernel_rfl)) newflat_nil) [3, 7, 8, 47, 50] [0, 2, 3, 6, 7] (a2 := (S7_34 r7 r13)) (h2 := (H7_11 p1 r1 r7)) (by kernel_rfl) ?_))))))))
     exact TI.o { val := .bool true } (q_conv (e := !r13) (b := true) (by kernel_rfl) hc15) [3, 7, 8, 47, 51] [0, 2, 3, 6, 7] (st 168 [(3, pt 3 0), (7, sv 6 r7.1.length ANY), (8, sv 7 r7.2.1.length ANY), (47, .bool false), (51, .bool true)]) (H7_11 p1 r1 r7) (TI.rn 14 [7, 8, 65] [0, 6, 7] (S7_40 r7) (H7_29 p1 r7) (TI.dn hK))
   replace hm43 := of_neg hm43 hc15
   have hX := of_do hm43
   clear hm43
   obtain ⟨r16, h17, hm43⟩ := hX
   rcases Bool.eq_false_or_eq_true (!r16) with hc18 | hc18
   · replace hm43 := of_pos hm43 hc18
     have hm43 := sj hm43
     subst hm43
     refine TS.rg (TI.rn 1 [3, 5, 7, 8, 9, 36] [0, 2, 3, 5, 6, 7] (S7_27 r5 r7) (H7_8 p1 r1 r5 r7) (TI.o { val := .bool false } (q_conv (e := r5.2 != 13) (b := false) (by kernel_rfl) hc10) [3, 5, 7, 8, 9, 37] [0, 2, 3, 5, 6, 7] (S7_25 r5 r7) (H7_8 p1 r1 r5 r7) (TI.rn 3 [3, 7, 8, 9, 38, 40] [0, 2, 3, 6, 7] (S7_24 r7 r5) (H7_11 p1 r1 r7) (TI.o { val := .bool false } (q_conv (e := (r5.1.length : Int) != 0) (b := false) (by kernel_rfl) hc11) [3, 7, 8, 9, 38, 41] [0, 2, 3, 6, 7] (S7_30 r7) (H7_11 p1 r1 r7) (TI.ra 3 [3, 7, 8, 43, 44] (S7_33 r7) (TI.o { val := .bool false } (q_conv (e := r7.2.2 != 0) (b := false) (by kernel_rfl) hc12) [3, 7, 8, 43, 45] [0, 2, 3, 6, 7] (S7_31 r7) (H7_11 p1 r1 r7) (TI.ra 4 [3, 7, 8, 47, 48, 49] (S7_14 r7 r1) (TI.callM (g := 42) (args := [ag [iv r1.1, accV 2 r1.2.length], sv 6 r7.1.length ANY]) (v := .bool r13) (new := []) (by kernel_rfl) (PureSim.ren (hc := [ab 86 e86 r1.2, ab 50 e50 r7.1]) (fun i => List.getD [(2, 0), (6, 0)] i (0, 0)) (C42 _ _ _ _ h14) (.ac (.ac (.nil _))) (.cons (Rn.agg' (.fl (.cons (Rn.accA (i' := 2) (nl rfl) rfl) .nil))) (.cons (Rn.any _ _ _ _ _ _ (nl rfl) rfl rfl (by decide)) .nil)) (.flat (by kernel_rfl)) newflat_nil) [3, 7, 8, 47, 50] [0, 2, 3, 6, 7] (a2 := (S7_34 r7 r13)) (h2 := (H7_11 p1 r1 r7)) (by kernel_rfl) ?_))))))))
     exact TI.o { val := .bool false } (q_conv (e := !r13) (b := false) (by kernel_rfl) hc15) [3, 7, 8, 47, 51] [0, 2, 3, 6, 7] (S7_32 r7) (H7_11 p1 r1 r7) (TI.ra 4 [3, 7, 8, 53, 54, 55] (S7_12 r7 r1) (TI.callM (g := 42) (args := [ag [iv r1.1, accV 2 r1.2.length], sv 7 r7.2.1.length ANY]) (v := .bool r16) (new := []) (by kernel_rfl) (PureSim.ren (hc := [ab 86 e86 r1.2, ab 50 e50 r7.2.1]) (fun i => List.getD [(2, 0), (7, 0)] i (0, 0)) (C42 _ _ _ _ h17) (.ac (.ac (.nil _))) (.cons (Rn.agg' (.fl (.cons (Rn.accA (i' := 2) (nl rfl) rfl) .nil))) (.cons (Rn.any _ _ _ _ _ _ (nl rfl) rfl rfl (by decide)) .nil)) (.flat (by kernel_rfl)) newflat_nil) [3, 7, 8, 53, 56] [0, 2, 3, 6, 7] (a2 := (S7_35 r7 r16)) (h2 := (H7_11 p1 r1 r7)) (by kernel_rfl) (TI.o { val := .bool true } (q_conv (e := !r16) (b := true) (by kernel_rfl) hc18) [3, 7, 8, 53, 57] [0, 2, 3, 6, 7] (st 168 [(3, pt 3 0), (7, sv 6 r7.1.length ANY), (8, sv 7 r7.2.1.length ANY), (53, .bool false), (57, .bool true)]) (H7_11 p1 r1 r7) (TI.rn 8 [7, 8, 65] [0, 6, 7] (S7_40 r7) (H7_29 p1 r7) (TI.dn hK)))))
   replace hm43 := of_neg hm43 hc18
   have hX := of_do hm43
   clear hm43
   obtain ⟨r19, h20, hm43⟩ := hX
   have hm43 := sj hm43
   subst hm43
   refine TS.rg (TI.rn 1 [3, 5, 7, 8, 9, 36] [0, 2, 3, 5, 6, 7] (S7_27 r5 r7) (H7_8 p1 r1 r5 r7) (TI.o { val := .bool false } (q_conv (e := r5.2 != 13) (b := false) (by kernel_rfl) hc10) [3, 5, 7, 8, 9, 37] [0, 2, 3, 5, 6, 7] (S7_25 r5 r7) (H7_8 p1 r1 r5 r7) (TI.rn 3 [3, 7, 8, 9, 38, 40] [0, 2, 3, 6, 7] (S7_24 r7 r5) (H7_11 p1 r1 r7) (TI.o { val := .bool false } (q_conv (e := (r5.1.length : Int) != 0) (b := false) (by kernel_rfl) hc11) [3, 7, 8, 9, 38, 41] [0, 2, 3, 6, 7] (S7_30 r7) (H7_11 p1 r1 r7) (TI.ra 3 [3, 7, 8, 43, 44] (S7_33 r7) (TI.o { val := .bool false } (q_conv (e := r7.2.2 != 0) (b := false) (by kernel_rfl) hc12) [3, 7, 8, 43, 45] [0, 2, 3, 6, 7] (S7_31 r7) (H7_11 p1 r1 r7) (TI.ra 4 [3, 7, 8, 47, 48, 49] (S7_14 r7 r1) (TI.callM (g := 42) (args := [ag [iv r1.1, accV 2 r1.2.length], sv 6 r7.1.length ANY]) (v := .bool r13) (new := []) (by kernel_rfl) (PureSim.ren (hc := [ab 86 e86 r1.2, ab 50 e50 r7.1]) (fun i => List.getD [(2, 0), (6, 0)] i (0, 0)) (C42 _ _ _ _ h14) (.ac (.ac (.nil _))) (.cons (Rn.agg' (.fl (.cons (Rn.accA (i' := 2) (nl rfl) rfl) .nil))) (.cons (Rn.any _ _ _ _ _ _ (nl rfl) rfl rfl (by decide)) .nil)) (.flat (by kernel_rfl)) newflat_nil) [3, 7, 8, 47, 50] [0, 2, 3, 6, 7] (a2 := (S7_34 r7 r13)) (h2 := (H7_11 p1 r1 r7)) (by kernel_rfl) ?_))))))))
   exact TI.o { val := .bool false } (q_conv (e := !r13) (b := false) (by kernel_rfl) hc15) [3, 7, 8, 47, 51] [0, 2, 3, 6, 7] (S7_32 r7) (H7_11 p1 r1 r7) (TI.ra 4 [3, 7, 8, 53, 54, 55] (S7_12 r7 r1) (TI.callM (g := 42) (args := [ag [iv r1.1, accV 2 r1.2.length], sv 7 r7.2.1.length ANY]) (v := .bool r16) (new := []) (by kernel_rfl) (PureSim.ren (hc := [ab 86 e86 r1.2, ab 50 e50 r7.2.1]) (fun i => List.getD [(2, 0), (7, 0)] i (0, 0)) (C42 _ _ _ _ h17) (.ac (.ac (.nil _))) (.cons (Rn.agg' (.fl (.cons (Rn.accA (i' := 2) (nl rfl) rfl) .nil))) (.cons (Rn.any _ _ _ _ _ _ (nl rfl) rfl rfl (by decide)) .nil)) (.flat (by kernel_rfl)) newflat_nil) [3, 7, 8, 53, 56] [0, 2, 3, 6, 7] (a2 := (S7_35 r7 r16)) (h2 := (H7_11 p1 r1 r7)) (by kernel_rfl) (TI.o { val := .bool false } (q_conv (e := !r16) (b := false) (by kernel_rfl) hc18) [3, 7, 8, 53, 57] [0, 2, 3, 6, 7] (st 168 [(3, pt 3 0), (7, sv 6 r7.1.length ANY), (8, sv 7 r7.2.1.length ANY), (53, .bool false), (57, .bool false)]) (H7_11 p1 r1 r7) (TI.rn 5 [7, 8, 59, 60, 61, 62] [0, 2, 6, 7] (st 168 [(7, sv 6 r7.1.length ANY), (8, sv 7 r7.2.1.length ANY), (59, .bool false), (60, ag [iv r1.1, accV 2 r1.2.length]), (61, sv 6 r7.1.length ANY), (62, sv 7 r7.2.1.length ANY)]) [ab 84 e84 p1, .dead, ab 86 e86 r1.2, .dead, .dead, .dead, ab 50 e50 r7.1, ab 50 e50 r7.2.1] (TI.cp 34 [ag [iv r1.1, accV 2 r1.2.length], sv 6 r7.1.length ANY, sv 7 r7.2.1.length ANY] (iv r19) [] (PureSim.ren (hc := [ab 86 e86 r1.2, ab 50 e50 r7.1, ab 50 e50 r7.2.1]) (fun i => List.getD [(2, 0), (6, 0), (7, 0)] i (0, 0)) (C34 _ _ _ _ _ h20) (.ac (.ac (.ac (.nil _)))) (.cons (Rn.agg' (.fl (.cons (Rn.accA (i' := 2) (nl rfl) rfl) .nil))) (.cons (Rn.any _ _ _ _ _ _ (nl rfl) rfl rfl (by decide)) (.cons (Rn.any _ _ _ _ _ _ (nl rfl) rfl rfl (by decide)) .nil))) (.flat (by kernel_rfl)) newflat_nil) (TI.rn 2 [7, 8, 65] [0, 6, 7] (st 168 [(7, sv 6 r7.1.length ANY), (8, sv 7 r7.2.1.length ANY), (65, .bool (r19 != 0))]) (H7_29 p1 r7) (TI.dn hK)))))))
 replace hF := of_neg hF hc9
 refine TS.sk (NX.sq (TS.sq (TS.sq ?_)))
 obtain ⟨m47, hm112, hF⟩ := of_do hF
 have hK : NX Try.prog 1 1 [.sq c7.s2.s2.s2.s2.s2.s2.s1.s2, .sq c7.s2.s2.s2.s2.s2.s2.s2] (FinP Try.prog Try.f7 1 (V7 1 r) (N7 1 r)) .normal (st 168 [(3, pt 3 0), (4, accV 4 r3.length), (5, accV 5 r5.1.length), (119, .bool m47)]) (H7_13 p1 r1 r3 r5) := by
  refine NX.sq ?_
  cases m47 with
  | true =>
   replace hF := of_pos hF rfl
   refine TS.cdT (.tmp 119) (TS.sq (TS.rg (TI.rn 1 [2] [0] (st 168 [(2, .bool false)]) [ab 84 e84 p1, .dead, .dead, .dead, .dead, .dead, .dead, .dead] (TI.dn (NX.sq (TS.rt (NX.sqR ?_)))))))
   have hF := sj hF
   subst hF
   exact ⟨.inr rfl, rfl, .bool false, by kernel_rfl, WkV.flat0 (by kernel_rfl) (nl rfl)⟩
  | false =>
   replace hF := of_neg hF rfl
   refine TS.cdF (.tmp 119) (TS.sk (NX.sq (TS.sq (TS.rg (TI.ra 1 [3, 4, 5, 12] (st 168 [(3, pt 3 0), (4, accV 4 r3.length), (5, accV 5 r5.1.length), (12, iv (-1))]) (TI.dn (NX.sq (TS.sq ?_))))))))
   refine TS.sq (TS.rg (TI.ra 3 [3, 5, 12, 120, 121, 122] (st 168 [(3, pt 3 0), (5, accV 5 r5.1.length), (12, iv (-1)), (120, accV 4 r3.length), (121, iv (r3.length : Int)), (122, iv 0)]) (TI.dn (NX.sq (TS.bk 0 ?_)))))
   obtain ⟨r78, h79, hF⟩ := of_do hF
   refine TS.lp (TL.weak (a2 := (st 168 [(3, pt 1 0), (5, accV 3 r5.1.length), (12, iv (-1)), (120, accV 4 r3.length), (121, iv (r3.length : Int)), (122, iv 0)])) (h2 := (H7_18 p1 r1 r5 r3)) (Wk.an [3, 2, 5, 4] (.ac (.lt (.fl (.cons (Rn.acc (nl rfl) rfl) .nil)) (.ac (.ac (.ac (.nil _)))))) [pt 3 0, accV 5 r5.1.length, iv (-1), accV 4 r3.length, iv (r3.length : Int), iv 0] (.pp (.cons (Rn.acc (nl rfl) rfl) (.fl (.cons (Rn.acc (nl rfl) rfl) (.fl (.fl .nil))))))) (TL.post (L7l0 p1 r1 r3 r5 (-1) 0 r78 h79) ?_))
   rintro e a1 h1 hp
   obtain ⟨rfl, hw⟩ := hp
   refine ⟨(st 168 [(3, pt 1 0), (5, accV 3 r5.1.length), (12, iv r78)]), (H7_28 p1 r1 r5), (NX.bkX (NX.sq (TS.sq (TS.sq (TS.rg (TI.ra 3 [3, 5, 12, 137, 138, 139] (S7_39 r5 r78) (TI.dn (NX.sq ?_)))))))), hw⟩
   refine TS.bk 2 ?_
   obtain ⟨r100, h101, hF⟩ := of_do hF
   refine TS.lp (TL.weak (a2 := (S7_39 r5 r78)) (h2 := (H7_28 p1 r1 r5)) (Wk.an [1, 2, 3] (.ac (.lt (.fl (.cons (Rn.acc (nl rfl) rfl) .nil)) (.ac (.ac (.nil _))))) [pt 1 0, accV 3 r5.1.length, iv r78, accV 3 r5.1.length, iv (r5.1.length : Int), iv 0] (.pp (.cons (Rn.acc (nl rfl) rfl) (.fl (.cons (Rn.acc (nl rfl) rfl) (.fl (.fl .nil))))))) (TL.post (L7l1 p1 r1 r5 r78 0 r100 h101) ?_))
   rintro e a1 h1 hp
   rcases r100 with o102 | o103
   · skip
     obtain ⟨rfl, hw⟩ := hp
     refine ⟨(st 168 [(2, .bool false)]), [ab 84 e84 p1], (NX.bkR (NX.sqR ?_)), hw⟩
     have hF := sj hF
     subst hF
     exact ⟨.inr rfl, rfl, .bool false, by kernel_rfl, WkV.flat0 (by kernel_rfl) (nl rfl)⟩
   skip
   obtain ⟨rfl, hw⟩ := hp
   refine ⟨(st 168 [(3, pt 1 0), (5, accV 3 r5.1.length)]), (H7_28 p1 r1 r5), (NX.bkX (NX.sq (TS.sq ?_))), hw⟩
   obtain ⟨r104, h105, hF⟩ := of_do hF
   refine TS.rg (TI.rn 2 [153, 154] [0, 2, 3] (st 168 [(153, ag [iv r1.1, accV 2 r1.2.length]), (154, accV 3 r5.1.length)]) [ab 84 e84 p1, .dead, ab 86 e86 r1.2, ab 4 e4 r5.1] (TI.cp 22 [ag [iv r1.1, accV 2 r1.2.length], accV 3 r5.1.length] (.tuple ⟨[accV 4 r104.1.length, iv r104.2]⟩) [ab 3 e3 r104.1] (PureSim.ren (hc := [ab 86 e86 r1.2, ab 4 e4 r5.1]) (fun i => List.getD [(2, 0), (3, 0)] i (0, 0)) (C22 _ _ _ _ h105) (.ac (.ac (.nil _))) (.cons (Rn.agg' (.fl (.cons (Rn.accA (i' := 2) (nl rfl) rfl) .nil))) (.cons (Rn.accA (i' := 3) (nl rfl) rfl) .nil)) (Rn.tuple' (.cons (Rn.acc (i' := 4) (nl rfl) rfl) (.fl .nil))) (newflat_cons (accB_flat (fun _ => rfl)) newflat_nil)) (TI.rn 5 [6, 17] [0, 4] (st 168 [(6, iv r104.2), (17, accV 4 r104.1.length)]) (H7_41 p1 r104) (TI.dn (NX.sq (TS.sq ?_))))))
   obtain ⟨m110, hm111, hF⟩ := of_do hF
   have hK : NX Try.prog 1 1 [.sq c7.s2.s2.s2.s2.s2.s2.s2.s2.s2.s2.s2.s2] (FinP Try.prog Try.f7 1 (V7 1 r) (N7 1 r)) .normal (st 168 [(2, .bool m110)]) (H7_44 p1) := by
    refine NX.sq (TS.rt ?_)
    have hF := sj hF
    subst hF
    exact ⟨.inr rfl, rfl, .bool m110, by kernel_rfl, WkV.flat0 (by kernel_rfl) (nl rfl)⟩
   rcases Bool.eq_false_or_eq_true (r104.2 == 0) with hc106 | hc106
   · replace hm111 := of_pos hm111 hc106
     rcases Bool.eq_false_or_eq_true ((r104.1.length : Int) == 0) with hc107 | hc107
     · replace hm111 := of_pos hm111 hc107
       have hX := of_do hm111
       clear hm111
       obtain ⟨r108, h109, hm111⟩ := hX
       have hm111 := sj hm111
       subst hm111
       refine TS.rg (TI.ra 1 [17, 158] (st 168 [(17, accV 4 r104.1.length), (158, iv r104.2)]) (TI.o { val := .bool true } (q_conv (e := r104.2 == 0) (b := true) (by kernel_rfl) hc106) [17, 159] [0, 4] (st 168 [(17, accV 4 r104.1.length), (159, .bool true)]) (H7_41 p1 r104) (TI.rn 3 [160, 162] [0] (st 168 [(160, .bool true), (162, iv (r104.1.length : Int))]) (H7_44 p1) (TI.o { val := .bool true } (q_conv (e := (r104.1.length : Int) == 0) (b := true) (by kernel_rfl) hc107) [160, 163] [0] (st 168 [(160, .bool true), (163, .bool true)]) (H7_44 p1) (TI.ra 2 [165] (st 168 [(165, .bool true)]) (TI.cf (C15 _ h109) (TI.ra 2 [2] (st 168 [(2, .bool r108)]) (TI.dn ?_))))))))
       exact hK
     replace hm111 := of_neg hm111 hc107
     have hm111 := sj hm111
     subst hm111
     exact TS.rg (TI.ra 1 [17, 158] (st 168 [(17, accV 4 r104.1.length), (158, iv r104.2)]) (TI.o { val := .bool true } (q_conv (e := r104.2 == 0) (b := true) (by kernel_rfl) hc106) [17, 159] [0, 4] (st 168 [(17, accV 4 r104.1.length), (159, .bool true)]) (H7_41 p1 r104) (TI.rn 3 [160, 162] [0] (st 168 [(160, .bool true), (162, iv (r104.1.length : Int))]) (H7_44 p1) (TI.o { val := .bool false } (q_conv (e := (r104.1.length : Int) == 0) (b := false) (by kernel_rfl) hc107) [160, 163] [0] (st 168 [(160, .bool true), (163, .bool false)]) (H7_44 p1) (TI.ra 5 [2] (st 168 [(2, .bool false)]) (TI.dn hK))))))
   replace hm111 := of_neg hm111 hc106
   have hm111 := sj hm111
   subst hm111
   exact TS.rg (TI.ra 1 [17, 158] (st 168 [(17, accV 4 r104.1.length), (158, iv r104.2)]) (TI.o { val := .bool false } (q_conv (e := r104.2 == 0) (b := false) (by kernel_rfl) hc106) [17, 159] [0, 4] (st 168 [(17, accV 4 r104.1.length), (159, .bool false)]) (H7_41 p1 r104) (TI.rn 9 [2] [0] (st 168 [(2, .bool false)]) (H7_44 p1) (TI.dn hK))))
 rcases Bool.eq_false_or_eq_true (r5.2 != 0) with hc44 | hc44
 · replace hm112 := of_pos hm112 hc44
   have hm112 := sj hm112
   subst hm112
   exact TS.rg (TI.ra 1 [3, 4, 5, 7, 8, 9, 99] (S7_22 r3 r5 r7) (TI.o { val := .bool true } (q_conv (e := r5.2 != 0) (b := true) (by kernel_rfl) hc44) [3, 4, 5, 7, 8, 9, 100] [0, 2, 3, 4, 5, 6, 7] (st 168 [(3, pt 3 0), (4, accV 4 r3.length), (5, accV 5 r5.1.length), (7, sv 6 r7.1.length ANY), (8, sv 7 r7.2.1.length ANY), (9, iv r7.2.2), (100, .bool true)]) (H7_7 p1 r1 r3 r5 r7) (TI.rn 19 [3, 4, 5, 119] [0, 2, 3, 4, 5] (S7_43 r3 r5) (H7_13 p1 r1 r3 r5) (TI.dn hK))))
 replace hm112 := of_neg hm112 hc44
 rcases Bool.eq_false_or_eq_true (r7.2.2 != 6) with hc45 | hc45
 · replace hm112 := of_pos hm112 hc45
   have hm112 := sj hm112
   subst hm112
   exact TS.rg (TI.ra 1 [3, 4, 5, 7, 8, 9, 99] (S7_22 r3 r5 r7) (TI.o { val := .bool false } (q_conv (e := r5.2 != 0) (b := false) (by kernel_rfl) hc44) [3, 4, 5, 7, 8, 9, 100] [0, 2, 3, 4, 5, 6, 7] (S7_21 r3 r5 r7) (H7_7 p1 r1 r3 r5 r7) (TI.ra 2 [3, 4, 5, 7, 8, 101, 102] (S7_20 r3 r5 r7) (TI.o { val := .bool true } (q_conv (e := r7.2.2 != 6) (b := true) (by kernel_rfl) hc45) [3, 4, 5, 7, 8, 101, 103] [0, 2, 3, 4, 5, 6, 7] (st 168 [(3, pt 3 0), (4, accV 4 r3.length), (5, accV 5 r5.1.length), (7, sv 6 r7.1.length ANY), (8, sv 7 r7.2.1.length ANY), (101, .bool false), (103, .bool true)]) (H7_7 p1 r1 r3 r5 r7) (TI.rn 16 [3, 4, 5, 119] [0, 2, 3, 4, 5] (S7_43 r3 r5) (H7_13 p1 r1 r3 r5) (TI.dn hK))))))
 replace hm112 := of_neg hm112 hc45
 rcases Bool.eq_false_or_eq_true (decide ((w64 ((r7.1.length : Int) + (r7.2.1.length : Int))) > 0)) with hc46 | hc46
 · replace hm112 := of_pos hm112 hc46
   have hm112 := sj hm112
   subst hm112
   refine TS.rg (TI.ra 1 [3, 4, 5, 7, 8, 9, 99] (S7_22 r3 r5 r7) (TI.o { val := .bool false } (q_conv (e := r5.2 != 0) (b := false) (by kernel_rfl) hc44) [3, 4, 5, 7, 8, 9, 100] [0, 2, 3, 4, 5, 6, 7] (S7_21 r3 r5 r7) (H7_7 p1 r1 r3 r5 r7) (TI.ra 2 [3, 4, 5, 7, 8, 101, 102] (S7_20 r3 r5 r7) (TI.o { val := .bool false } (q_conv (e := r7.2.2 != 6) (b := false) (by kernel_rfl) hc45) [3, 4, 5, 7, 8, 101, 103] [0, 2, 3, 4, 5, 6, 7] (S7_19 r3 r5 r7) (H7_7 p1 r1 r3 r5 r7) (TI.rn 7 [3, 4, 5, 105, 110] [0, 2, 3, 4, 5] (st 168 [(3, pt 3 0), (4, accV 4 r3.length), (5, accV 5 r5.1.length), (105, .bool false), (110, iv (w64 ((r7.1.length : Int) + (r7.2.1.length : Int))))]) (H7_13 p1 r1 r3 r5) (TI.o { val := .bool true } (q_conv (e := decide ((w64 ((r7.1.length : Int) + (r7.2.1.length : Int))) > 0)) (b := true) (by kernel_rfl) hc46) [3, 4, 5, 105, 111] [0, 2, 3, 4, 5] (st 168 [(3, pt 3 0), (4, accV 4 r3.length), (5, accV 5 r5.1.length), (105, .bool false), (111, .bool true)]) (H7_13 p1 r1 r3 r5) (TI.ra 8 [3, 4, 5, 119] (S7_43 r3 r5) (TI.dn ?_))))))))
   exact hK
 replace hm112 := of_neg hm112 hc46
 have hm112 := sj hm112
 subst hm112
 refine TS.rg (TI.ra 1 [3, 4, 5, 7, 8, 9, 99] (S7_22 r3 r5 r7) (TI.o { val := .bool false } (q_conv (e := r5.2 != 0) (b := false) (by kernel_rfl) hc44) [3, 4, 5, 7, 8, 9, 100] [0, 2, 3, 4, 5, 6, 7] (S7_21 r3 r5 r7) (H7_7 p1 r1 r3 r5 r7) (TI.ra 2 [3, 4, 5, 7, 8, 101, 102] (S7_20 r3 r5 r7) (TI.o { val := .bool false } (q_conv (e := r7.2.2 != 6) (b := false) (by kernel_rfl) hc45) [3, 4, 5, 7, 8, 101, 103] [0, 2, 3, 4, 5, 6, 7] (S7_19 r3 r5 r7) (H7_7 p1 r1 r3 r5 r7) (TI.rn 7 [3, 4, 5, 105, 110] [0, 2, 3, 4, 5] (st 168 [(3, pt 3 0), (4, accV 4 r3.length), (5, accV 5 r5.1.length), (105, .bool false), (110, iv (w64 ((r7.1.length : Int) + (r7.2.1.length : Int))))]) (H7_13 p1 r1 r3 r5) (TI.o { val := .bool false } (q_conv (e := decide ((w64 ((r7.1.length : Int) + (r7.2.1.length : Int))) > 0)) (b := false) (by kernel_rfl) hc46) [3, 4, 5, 105, 111] [0, 2, 3, 4, 5] (st 168 [(3, pt 3 0), (4, accV 4 r3.length), (5, accV 5 r5.1.length), (105, .bool false), (111, .bool false)]) (H7_13 p1 r1 r3 r5) (TI.ra 8 [3, 4, 5, 119] (st 168 [(3, pt 3 0), (4, accV 4 r3.length), (5, accV 5 r5.1.length), (119, .bool ((r5.1.length : Int) != r1.1))]) (TI.dn ?_))))))))
 exact hK
theorem C7 (p0 : Int) (p1 : List I2) (r : Bool) (hF : F7 p0 p1 = some r) : PureSim Try.prog 7 [ag [.int .u8 p0, sv 0 p1.length ANY]] [ab 84 e84 p1] (V7 1 r) (N7 1 r) :=
 PureSim.of_Fin Try.func7 (c := c7) (by kernel_rfl) (by kernel_rfl) 1 rfl [0] [0] (by kernel_rfl) (B7 p0 p1 r hF)
end
end Go.Proofs.Ytiaippkjgmccoaa
