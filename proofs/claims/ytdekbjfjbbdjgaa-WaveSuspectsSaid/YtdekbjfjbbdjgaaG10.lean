/- What functions of the program compute, and that they do. -/
import Derived.Test.YtdekbjfjbbdjgaaGU
set_option linter.unusedVariables false
set_option linter.unusedSimpArgs false
set_option maxRecDepth 100000
set_option maxHeartbeats 4000000
namespace Go.Proofs.Ytdekbjfjbbdjgaa
open Go Go.Cl
noncomputable section
noncomputable def c10 : Code := Try.f10.code
def S10_0 (p14 p15 : Int) (r3 : (List Int) × Int) (v23 v24 : Int) (r1 : Int × Int × (List I2)) : CAct := (st 129 [(1, .int .u8 p14), (2, .int .u8 p15), (3, pt 2 0), (7, pt 3 0), (8, accV 5 r3.1.length), (10, iv v23), (11, iv v24), (12, pt 6 0), (33, iv (r1.2.2.length : Int)), (34, iv v24), (38, sv 7 0 0), (39, pt 3 2), (40, sv 4 r1.2.2.length ANY), (41, iv v24), (42, sv 4 (List.length (List.take (Int.toNat v24) r1.2.2)) ANY), (43, ownV 8 (List.length (List.take (Int.toNat v24) r1.2.2))), (44, pt 3 2), (45, sv 4 r1.2.2.length ANY), (46, iv v24), (47, iv (w64 (v24 + 1))), (48, .slice (some ⟨4, 0 + Int.toNat (w64 (v24 + 1)) * 2, none⟩) (List.length (List.drop (Int.toNat (w64 (v24 + 1))) r1.2.2)) ANY), (49, ownV 9 (List.length ((List.take (Int.toNat v24) r1.2.2) ++ (List.drop (Int.toNat (w64 (v24 + 1))) r1.2.2)))), (50, pt 6 2)])
def H10_1 (p2 p13 : List Int) (p0 p1 p3 p4 p5 p6 p7 p8 p9 p10 p11 p12 : Int) (r1 : Int × Int × (List I2)) (r3 : (List Int) × Int) (v24 : Int) : List Blk := [ab 5 e5 p2, ab 5 e5 p13, cl 53 [.int .u8 p0, .int .u8 p1, sv 0 p2.length ANY, .int .u8 p3, .int .u8 p4, .int .u8 p5, .int .u8 p6, .int .u8 p7, .int .u8 p8, .int .u8 p9, .int .u8 p10, .int .u8 p11, .int .u8 p12, sv 1 p13.length ANY], cl 24 [iv r1.1, iv r1.2.1, sv 4 r1.2.2.length ANY], ab 57 e57 r1.2.2, ab 3 e3 r3.1, cl 24 [iv r1.1, iv r1.2.1, ownV 9 (List.length ((List.take (Int.toNat v24) r1.2.2) ++ (List.drop (Int.toNat (w64 (v24 + 1))) r1.2.2)))], .dead, .dead, .cells 57 (List.flatMap e57 ((List.take (Int.toNat v24) r1.2.2) ++ (List.drop (Int.toNat (w64 (v24 + 1))) r1.2.2)))]
def S10_2 (p14 p15 : Int) (r3 : (List Int) × Int) (v23 v24 : Int) (r1 : Int × Int × (List I2)) : CAct := (st 129 [(1, .int .u8 p14), (2, .int .u8 p15), (3, pt 2 0), (7, pt 3 0), (8, accV 5 r3.1.length), (10, iv v23), (11, iv v24), (12, pt 6 0), (33, iv (r1.2.2.length : Int)), (34, iv v24), (38, sv 7 0 0), (39, pt 3 2), (40, sv 4 r1.2.2.length ANY), (41, iv v24), (42, sv 4 (List.length (List.take (Int.toNat v24) r1.2.2)) ANY), (43, ownV 8 (List.length (List.take (Int.toNat v24) r1.2.2))), (44, pt 3 2), (45, sv 4 r1.2.2.length ANY), (46, iv v24), (47, iv (w64 (v24 + 1))), (48, .slice (some ⟨4, 0 + Int.toNat (w64 (v24 + 1)) * 2, none⟩) (List.length (List.drop (Int.toNat (w64 (v24 + 1))) r1.2.2)) ANY)])
def H10_3 (p2 p13 : List Int) (p0 p1 p3 p4 p5 p6 p7 p8 p9 p10 p11 p12 : Int) (r1 : Int × Int × (List I2)) (r3 : (List Int) × Int) (v24 : Int) : List Blk := [ab 5 e5 p2, ab 5 e5 p13, cl 53 [.int .u8 p0, .int .u8 p1, sv 0 p2.length ANY, .int .u8 p3, .int .u8 p4, .int .u8 p5, .int .u8 p6, .int .u8 p7, .int .u8 p8, .int .u8 p9, .int .u8 p10, .int .u8 p11, .int .u8 p12, sv 1 p13.length ANY], cl 24 [iv r1.1, iv r1.2.1, sv 4 r1.2.2.length ANY], ab 57 e57 r1.2.2, ab 3 e3 r3.1, cl 24 [iv r1.1, iv r1.2.1, sv 4 r1.2.2.length ANY], .dead, .cells 57 (List.flatMap e57 (List.take (Int.toNat v24) r1.2.2))]
def H10_4 (p2 p13 : List Int) (p0 p1 p3 p4 p5 p6 p7 p8 p9 p10 p11 p12 : Int) (r1 : Int × Int × (List I2)) (r3 : (List Int) × Int) : List Blk := [ab 5 e5 p2, ab 5 e5 p13, cl 53 [.int .u8 p0, .int .u8 p1, sv 0 p2.length ANY, .int .u8 p3, .int .u8 p4, .int .u8 p5, .int .u8 p6, .int .u8 p7, .int .u8 p8, .int .u8 p9, .int .u8 p10, .int .u8 p11, .int .u8 p12, sv 1 p13.length ANY], cl 24 [iv r1.1, iv r1.2.1, sv 4 r1.2.2.length ANY], ab 57 e57 r1.2.2, ab 3 e3 r3.1, cl 24 [iv r1.1, iv r1.2.1, sv 4 r1.2.2.length ANY], cl 57 []]
def S10_5 (p14 p15 : Int) (r3 : (List Int) × Int) (v23 v24 : Int) (r1 : Int × Int × (List I2)) : CAct := (st 129 [(1, .int .u8 p14), (2, .int .u8 p15), (3, pt 2 0), (7, pt 3 0), (8, accV 5 r3.1.length), (10, iv v23), (11, iv v24), (12, pt 6 0), (33, iv (r1.2.2.length : Int)), (34, iv v24), (38, sv 7 0 0), (39, pt 3 2), (40, sv 4 r1.2.2.length ANY), (41, iv v24), (42, sv 4 (List.length (List.take (Int.toNat v24) r1.2.2)) ANY), (43, ownV 8 (List.length (List.take (Int.toNat v24) r1.2.2))), (44, pt 3 2), (45, sv 4 r1.2.2.length ANY), (46, iv v24), (47, iv (w64 (v24 + 1)))])
def H10_6 (p2 p13 : List Int) (p0 p1 p3 p4 p5 p6 p7 p8 p9 p10 p11 p12 : Int) (r1 : Int × Int × (List I2)) (r3 : (List Int) × Int) : List Blk := [ab 5 e5 p2, ab 5 e5 p13, cl 53 [.int .u8 p0, .int .u8 p1, sv 0 p2.length ANY, .int .u8 p3, .int .u8 p4, .int .u8 p5, .int .u8 p6, .int .u8 p7, .int .u8 p8, .int .u8 p9, .int .u8 p10, .int .u8 p11, .int .u8 p12, sv 1 p13.length ANY], cl 24 [iv r1.1, iv r1.2.1, sv 4 r1.2.2.length ANY], ab 57 e57 r1.2.2, ab 3 e3 r3.1, .dead, .dead, .dead, .dead]
def H10_7 (p2 p13 : List Int) (p0 p1 p3 p4 p5 p6 p7 p8 p9 p10 p11 p12 : Int) (r1 : Int × Int × (List I2)) (r3 : (List Int) × Int) : List Blk := [ab 5 e5 p2, ab 5 e5 p13, cl 53 [.int .u8 p0, .int .u8 p1, sv 0 p2.length ANY, .int .u8 p3, .int .u8 p4, .int .u8 p5, .int .u8 p6, .int .u8 p7, .int .u8 p8, .int .u8 p9, .int .u8 p10, .int .u8 p11, .int .u8 p12, sv 1 p13.length ANY], cl 24 [iv r1.1, iv r1.2.1, sv 4 r1.2.2.length ANY], ab 57 e57 r1.2.2, ab 3 e3 r3.1]
def S10_8 (p14 p15 : Int) (r3 : (List Int) × Int) (v23 v24 : Int) (r1 : Int × Int × (List I2)) : CAct := (st 129 [(1, .int .u8 p14), (2, .int .u8 p15), (3, pt 2 0), (7, pt 3 0), (8, accV 5 r3.1.length), (10, iv v23), (11, iv v24), (12, pt 6 0), (33, iv (r1.2.2.length : Int)), (34, iv v24), (38, sv 7 0 0), (39, pt 3 2), (40, sv 4 r1.2.2.length ANY), (41, iv v24), (42, sv 4 (List.length (List.take (Int.toNat v24) r1.2.2)) ANY), (43, ownV 8 (List.length (List.take (Int.toNat v24) r1.2.2)))])
def H10_9 (p2 p13 : List Int) (p0 p1 p3 p4 p5 p6 p7 p8 p9 p10 p11 p12 : Int) (r3 : (List Int) × Int) : List Blk := [ab 5 e5 p2, ab 5 e5 p13, cl 53 [.int .u8 p0, .int .u8 p1, sv 0 p2.length ANY, .int .u8 p3, .int .u8 p4, .int .u8 p5, .int .u8 p6, .int .u8 p7, .int .u8 p8, .int .u8 p9, .int .u8 p10, .int .u8 p11, .int .u8 p12, sv 1 p13.length ANY], ab 3 e3 r3.1]
def S10_10 (p14 p15 : Int) (r3 : (List Int) × Int) (v23 v24 : Int) (r1 : Int × Int × (List I2)) : CAct := (st 129 [(1, .int .u8 p14), (2, .int .u8 p15), (3, pt 2 0), (7, pt 3 0), (8, accV 5 r3.1.length), (10, iv v23), (11, iv v24), (12, pt 6 0), (33, iv (r1.2.2.length : Int)), (34, iv v24), (38, sv 7 0 0), (39, pt 3 2), (40, sv 4 r1.2.2.length ANY), (41, iv v24), (42, sv 4 (List.length (List.take (Int.toNat v24) r1.2.2)) ANY)])
def S10_11 (p14 p15 : Int) (r3 : (List Int) × Int) (v23 v24 : Int) (r1 : Int × Int × (List I2)) : CAct := (st 129 [(1, .int .u8 p14), (2, .int .u8 p15), (3, pt 2 0), (7, pt 3 0), (8, accV 5 r3.1.length), (10, iv v23), (11, iv v24), (12, pt 6 0), (33, iv (r1.2.2.length : Int)), (34, iv v24), (38, sv 7 0 0), (39, pt 3 2), (40, sv 4 r1.2.2.length ANY), (41, iv v24)])
def S10_12 (p14 p15 : Int) (r3 : (List Int) × Int) (v23 v24 : Int) (r1 : Int × Int × (List I2)) : CAct := (st 129 [(1, .int .u8 p14), (2, .int .u8 p15), (3, pt 2 0), (7, pt 3 0), (8, accV 5 r3.1.length), (10, iv v23), (11, iv v24), (13, .bool false), (33, iv (r1.2.2.length : Int)), (34, iv v24), (53, .bool false), (58, .bool true), (61, .pointer (some ⟨5, 0 + (Int.toNat v23) * 1, none⟩))])
def S10_13 (p14 p15 : Int) (r3 : (List Int) × Int) (v23 v24 : Int) (r1 : Int × Int × (List I2)) : CAct := (st 129 [(1, .int .u8 p14), (2, .int .u8 p15), (3, pt 2 0), (7, pt 3 0), (8, accV 5 r3.1.length), (10, iv v23), (11, iv v24), (13, .bool true), (33, iv (r1.2.2.length : Int)), (34, iv v24), (53, .bool true), (58, .bool true), (61, .pointer (some ⟨5, 0 + (Int.toNat v23) * 1, none⟩))])
def S10_14 (p14 p15 : Int) (r3 : (List Int) × Int) (v23 v24 : Int) (r1 : Int × Int × (List I2)) : CAct := (st 129 [(1, .int .u8 p14), (2, .int .u8 p15), (3, pt 2 0), (7, pt 3 0), (8, accV 5 r3.1.length), (10, iv v23), (11, iv v24), (13, .bool false), (33, iv (r1.2.2.length : Int)), (34, iv v24), (53, .bool false), (58, .bool true), (59, accV 5 r3.1.length), (60, iv v23)])
def S10_15 (p14 p15 : Int) (r3 : (List Int) × Int) (v23 v24 : Int) (r1 : Int × Int × (List I2)) : CAct := (st 129 [(1, .int .u8 p14), (2, .int .u8 p15), (3, pt 2 0), (7, pt 3 0), (8, accV 5 r3.1.length), (10, iv v23), (11, iv v24), (13, .bool true), (33, iv (r1.2.2.length : Int)), (34, iv v24), (53, .bool true), (58, .bool true), (59, accV 5 r3.1.length), (60, iv v23)])
def S10_16 (p14 p15 : Int) (r3 : (List Int) × Int) (v23 v24 : Int) (r1 : Int × Int × (List I2)) : CAct := (st 129 [(1, .int .u8 p14), (2, .int .u8 p15), (3, pt 2 0), (7, pt 3 0), (8, accV 5 r3.1.length), (10, iv v23), (11, iv v24), (13, .bool false), (33, iv (r1.2.2.length : Int)), (34, iv v24), (53, .bool false), (54, iv v23), (56, iv (r3.1.length : Int))])
def S10_17 (p14 p15 : Int) (r3 : (List Int) × Int) (v23 v24 : Int) (r1 : Int × Int × (List I2)) : CAct := (st 129 [(1, .int .u8 p14), (2, .int .u8 p15), (3, pt 2 0), (7, pt 3 0), (8, accV 5 r3.1.length), (10, iv v23), (11, iv v24), (13, .bool true), (33, iv (r1.2.2.length : Int)), (34, iv v24), (53, .bool true), (54, iv v23), (56, iv (r3.1.length : Int))])
def H10_18 (p2 p13 : List Int) (r70 : (Int × Int × (List I2)) × (List Int) × (List Int)) : List Blk := [ab 5 e5 p2, ab 5 e5 p13, .dead, .dead, ab 57 e57 r70.1.2.2, .dead, .dead, cl 24 [iv r70.1.1, iv r70.1.2.1, accV 4 r70.1.2.2.length]]
def S10_19 (p14 p15 : Int) (r3 : (List Int) × Int) (v23 v24 : Int) (r1 : Int × Int × (List I2)) : CAct := (st 129 [(1, .int .u8 p14), (2, .int .u8 p15), (3, pt 2 0), (7, pt 3 0), (8, accV 5 r3.1.length), (10, iv v23), (11, iv v24), (13, .bool false), (33, iv (r1.2.2.length : Int)), (34, iv v24), (53, .bool false), (57, .bool true)])
def S10_20 (p14 p15 : Int) (r3 : (List Int) × Int) (v23 v24 : Int) (r1 : Int × Int × (List I2)) : CAct := (st 129 [(1, .int .u8 p14), (2, .int .u8 p15), (3, pt 2 0), (7, pt 3 0), (8, accV 5 r3.1.length), (10, iv v23), (11, iv v24), (13, .bool true), (33, iv (r1.2.2.length : Int)), (34, iv v24), (53, .bool true), (57, .bool true)])
def H10_21 (p2 p13 : List Int) (r79 : (List Int) × Int) : List Blk := [ab 5 e5 p2, ab 5 e5 p13, ab 3 e3 r79.1]
def H10_22 (p2 p13 : List Int) : List Blk := [ab 5 e5 p2, ab 5 e5 p13]
def F10l0 (p0 p1 : Int) (p2 : List Int) (p3 p4 p5 p6 p7 p8 p9 p10 p11 p12 : Int) (p13 : List Int) (p14 p15 : Int) (r1 : Int × Int × (List I2)) (r3 : (List Int) × Int) (v23 v24 : Int) : Option (Unit ⊕ Int) :=
 if decide (v24 < (r1.2.2.length : Int)) then
  if (0 : Int) ≤ v24 ∧ v24 ≤ (r1.2.2.length : Int) then
   if List.length (List.take (Int.toNat v24) r1.2.2) ≤ 1000000000 then
    if (0 : Int) ≤ w64 (v24 + 1) ∧ w64 (v24 + 1) ≤ (r1.2.2.length : Int) then
     if List.length (List.drop (Int.toNat (w64 (v24 + 1))) r1.2.2) ≤ 1000000000 then
      F33 64 r1.1 r1.2.1 ((List.take (Int.toNat v24) r1.2.2) ++ (List.drop (Int.toNat (w64 (v24 + 1))) r1.2.2)) ([]) 0 >>= fun r48 =>
      (
       if decide (v23 < (r3.1.length : Int)) then
        if (0 : Int) ≤ v23 ∧ v23 < (r3.1.length : Int) then
         some (List.getD r3.1 (Int.toNat v23) 0) >>= fun o52 =>
         if r48 then
          if o52 == v24 then
           some (true, false)
          else
           some (true, true)
         else
          if o52 == v24 then
           some (false, true)
          else
           some (false, false)
        else none
       else
        if r48 then
         some (true, true)
        else
         some (false, false)
      : Option (Bool × Bool)) >>= fun m56 =>
      if m56.2 then
       some (.inl ())
      else
       (
        if m56.1 then
         some (w64 (v23 + 1))
        else
         some v23
       : Option Int) >>= fun m61 =>
       F10l0 p0 p1 p2 p3 p4 p5 p6 p7 p8 p9 p10 p11 p12 p13 p14 p15 r1 r3 m61 (w64 (v24 + 1))
     else none
    else none
   else none
  else none
 else
  some (.inr v23)
 partial_fixpoint
def F10l1 (p2 p13 : List Int) (p14 : Int) (r70 : (Int × Int × (List I2)) × (List Int) × (List Int)) (r79 : (List Int) × Int) (v85 : Bool) (v86 : Int) : Option Bool :=
 if decide (v86 < (r79.1.length : Int)) then
  if (0 : Int) ≤ v86 ∧ v86 < (r79.1.length : Int) then
   some (List.getD r79.1 (Int.toNat v86) 0) >>= fun o96 =>
   (
    if v85 then
     some (true)
    else
     some (o96 == (Int.tmod (w64 p14) (r70.1.2.2.length : Int)))
   : Option Bool) >>= fun m98 =>
   F10l1 p2 p13 p14 r70 r79 m98 (w64 (v86 + 1))
  else none
 else
  some v85
 partial_fixpoint
def F10 (p0 p1 : Int) (p2 : List Int) (p3 p4 p5 p6 p7 p8 p9 p10 p11 p12 : Int) (p13 : List Int) (p14 p15 : Int) : Option Bool :=
 F32 p0 p1 p2 p3 p4 p5 p6 p7 p8 p9 p10 p11 p12 p13 >>= fun r1 =>
 F25 r1.1 r1.2.1 r1.2.2 >>= fun r3 =>
 if r3.2 != 0 then
  some false
 else
  F10l0 p0 p1 p2 p3 p4 p5 p6 p7 p8 p9 p10 p11 p12 p13 p14 p15 r1 r3 0 0 >>= fun r65 =>
  match r65 with
  | .inl o67 =>
   some false
  | .inr o68 =>
   if o68 != (r3.1.length : Int) then
    some false
   else
    F36 p0 p1 p2 p3 p4 p5 p6 p7 p8 p9 p10 p11 p12 p13 >>= fun r70 =>
    if (r70.1.2.2.length : Int) == 0 then
     F14 >>= fun r73 =>
     some r73
    else
     if (r70.1.2.2.length : Int) = 0 then none else
     if (0 : Int) ≤ Int.tmod (w64 p14) (r70.1.2.2.length : Int) ∧ Int.tmod (w64 p14) (r70.1.2.2.length : Int) < (r70.1.2.2.length : Int) then
      some (List.getD r70.1.2.2 (Int.toNat (Int.tmod (w64 p14) (r70.1.2.2.length : Int))) (0, 0)) >>= fun o77 =>
      F25 r70.1.1 r70.1.2.1 (List.set r70.1.2.2 (Int.toNat (Int.tmod (w64 p14) (r70.1.2.2.length : Int))) ((List.getD r70.1.2.2 (Int.toNat (Int.tmod (w64 p14) (r70.1.2.2.length : Int))) (0, 0)).1, w64 (o77.2 + (w64 p15)))) >>= fun r79 =>
      F10l1 p2 p13 p14 r70 r79 false 0 >>= fun r100 =>
      (
       if r79.2 == 0 then
        if r100 then
         F14 >>= fun r103 =>
         some (r103)
        else
         some (false)
       else
        some (false)
      : Option Bool) >>= fun m105 =>
      some m105
     else none
def V10 (b : Nat) (r : Bool) : Value := .bool r
def N10 (b : Nat) (r : Bool) : List Blk := []
def P10l0 (p0 p1 : Int) (p2 : List Int) (p3 p4 p5 p6 p7 p8 p9 p10 p11 p12 : Int) (p13 : List Int) (p14 p15 : Int) (r1 : Int × Int × (List I2)) (r3 : (List Int) × Int) (r : Unit ⊕ Int) : Post := fun e a h => (match r with | .inl q0 => e = .ret ∧ Wk Try.prog 2 2 a h (st 129 [(6, .bool false)]) (H10_22 p2 p13) | .inr q0 => e = .exit 0 ∧ Wk Try.prog 2 2 a h (st 129 [(1, .int .u8 p14), (2, .int .u8 p15), (3, pt 2 0), (8, accV 3 r3.1.length), (10, iv q0)]) (H10_9 p2 p13 p0 p1 p3 p4 p5 p6 p7 p8 p9 p10 p11 p12 r3))
theorem L10l0 (p0 p1 : Int) (p2 : List Int) (p3 p4 p5 p6 p7 p8 p9 p10 p11 p12 : Int) (p13 : List Int) (p14 p15 : Int) (r1 : Int × Int × (List I2)) (r3 : (List Int) × Int) (v23 v24 : Int) (r : Unit ⊕ Int) (hF : F10l0 p0 p1 p2 p3 p4 p5 p6 p7 p8 p9 p10 p11 p12 p13 p14 p15 r1 r3 v23 v24 = some r) : TL Try.prog 2 2 c10.s2.s2.s2.s2.s2.s1.s2.bd.bd (st 129 [(1, .int .u8 p14), (2, .int .u8 p15), (3, pt 2 0), (7, pt 3 0), (8, accV 5 r3.1.length), (10, iv v23), (33, iv (r1.2.2.length : Int)), (34, iv v24)]) (H10_7 p2 p13 p0 p1 p3 p4 p5 p6 p7 p8 p9 p10 p11 p12 r1 r3) (P10l0 p0 p1 p2 p3 p4 p5 p6 p7 p8 p9 p10 p11 p12 p13 p14 p15 r1 r3 r) := by
 refine F10l0.partial_correctness p0 p1 p2 p3 p4 p5 p6 p7 p8 p9 p10 p11 p12 p13 p14 p15 r1 r3 (motive := fun v23 v24 r => TL Try.prog 2 2 c10.s2.s2.s2.s2.s2.s1.s2.bd.bd (st 129 [(1, .int .u8 p14), (2, .int .u8 p15), (3, pt 2 0), (7, pt 3 0), (8, accV 5 r3.1.length), (10, iv v23), (33, iv (r1.2.2.length : Int)), (34, iv v24)]) (H10_7 p2 p13 p0 p1 p3 p4 p5 p6 p7 p8 p9 p10 p11 p12 r1 r3) (P10l0 p0 p1 p2 p3 p4 p5 p6 p7 p8 p9 p10 p11 p12 p13 p14 p15 r1 r3 r)) ?_ v23 v24 r hF
 clear hF r v23 v24
 intro again ih v23 v24 r hF
 refine TL.round (TS.sq (TS.rg (TI.ra 1 [1, 2, 3, 7, 8, 10, 33, 34, 35] (st 129 [(1, .int .u8 p14), (2, .int .u8 p15), (3, pt 2 0), (7, pt 3 0), (8, accV 5 r3.1.length), (10, iv v23), (33, iv (r1.2.2.length : Int)), (34, iv v24), (35, .bool (decide (v24 < (r1.2.2.length : Int))))]) (TI.dn (NX.sq (TS.sq ?_))))))
 refine TS.cd (.tmp 35) (decide (v24 < (r1.2.2.length : Int))) (fun hc43 => ?_) (fun hc43 => ?_)
 · replace hF := of_pos hF hc43
   refine TS.sk (NX.sq (TS.sq (TS.bk 1 (TS.sq (TS.rg (TI.ra 2 [1, 2, 3, 7, 8, 10, 11, 33, 34] (st 129 [(1, .int .u8 p14), (2, .int .u8 p15), (3, pt 2 0), (7, pt 3 0), (8, accV 5 r3.1.length), (10, iv v23), (11, iv v24), (33, iv (r1.2.2.length : Int)), (34, iv v24)]) (TI.dn (NX.sq ?_))))))))
   refine TS.sq (TS.rg (TI.rn 3 [1, 2, 3, 7, 8, 10, 11, 12, 33, 34] [0, 1, 2, 3, 4, 5, 6] (st 129 [(1, .int .u8 p14), (2, .int .u8 p15), (3, pt 2 0), (7, pt 3 0), (8, accV 5 r3.1.length), (10, iv v23), (11, iv v24), (12, pt 6 0), (33, iv (r1.2.2.length : Int)), (34, iv v24)]) [ab 5 e5 p2, ab 5 e5 p13, cl 53 [.int .u8 p0, .int .u8 p1, sv 0 p2.length ANY, .int .u8 p3, .int .u8 p4, .int .u8 p5, .int .u8 p6, .int .u8 p7, .int .u8 p8, .int .u8 p9, .int .u8 p10, .int .u8 p11, .int .u8 p12, sv 1 p13.length ANY], cl 24 [iv r1.1, iv r1.2.1, sv 4 r1.2.2.length ANY], ab 57 e57 r1.2.2, ab 3 e3 r3.1, cl 24 [iv r1.1, iv r1.2.1, sv 4 r1.2.2.length ANY]] (TI.dn (NX.sq (TS.sq ?_)))))
   obtain ⟨hg44, hF⟩ := of_guard hF
   obtain ⟨hg45, hF⟩ := of_guard hF
   obtain ⟨hg46, hF⟩ := of_guard hF
   obtain ⟨hg47, hF⟩ := of_guard hF
   refine TS.draw' (id := 10) (b := true) (ops := c10.s2.s2.s2.s2.s2.s1.s2.bd.bd.s2.s2.s1.bd.s2.s2.s1.rops) (fin := (qs (S10_2 p14 p15 r3 v23 v24 r1) (H10_3 p2 p13 p0 p1 p3 p4 p5 p6 p7 p8 p9 p10 p11 p12 r1 r3 v24) [(5, 8, 9), (0, 7, 8)] [(5, 7)])) (fin2 := (qs (S10_2 p14 p15 r3 v23 v24 r1) (H10_3 p2 p13 p0 p1 p3 p4 p5 p6 p7 p8 p9 p10 p11 p12 r1 r3 v24) [(5, 8, 9), (0, 7, 8)] [(5, 7)])) (a1 := (S10_0 p14 p15 r3 v23 v24 r1)) (h1 := (H10_1 p2 p13 p0 p1 p3 p4 p5 p6 p7 p8 p9 p10 p11 p12 r1 r3 v24)) (a2 := (st 129 [(1, .int .u8 p14), (2, .int .u8 p15), (3, pt 2 0), (7, pt 3 0), (8, accV 5 r3.1.length), (10, iv v23), (11, iv v24), (12, pt 6 0), (33, iv (r1.2.2.length : Int)), (34, iv v24)])) (h2 := (H10_1 p2 p13 p0 p1 p3 p4 p5 p6 p7 p8 p9 p10 p11 p12 r1 r3 v24)) [] (fun e he => by cases he) mixed (by kernel_rfl) rfl 11 (by kernel_rfl) [(5, 7)] ?_ rfl (.inr ⟨?_, (by kernel_rfl)⟩) ?_ [1, 2, 3, 7, 8, 10, 11, 12, 33, 34] [0, 1, 2, 3, 4, 5, 6, 9] (by kernel_rfl) ?_
   · refine QI.run (s1 := (qs (S10_11 p14 p15 r3 v23 v24 r1) (H10_4 p2 p13 p0 p1 p3 p4 p5 p6 p7 p8 p9 p10 p11 p12 r1 r3) [(0, 7, 8)] [])) 4 (by kernel_rfl) (by kernel_rfl) (QI.op (q := { val := sv 4 (List.length (List.take (Int.toNat v24) r1.2.2)) ANY }) (s1 := (qs (S10_10 p14 p15 r3 v23 v24 r1) (H10_4 p2 p13 p0 p1 p3 p4 p5 p6 p7 p8 p9 p10 p11 p12 r1 r3) [(0, 7, 8)] [])) (by decide) (q_slAhi (P := Try.prog) (t := 22) (e := 57) (s := 2) (b := 4) (off := 0) (ys := r1.2.2) (k := .i64) (y := v24) (by kernel_rfl) (by kernel_rfl) (by kernel_rfl) hg44) (by kernel_rfl) ?_)
     exact QI.op (q := { val := ownV 8 (List.length (List.take (Int.toNat v24) r1.2.2)), new := [.cells 57 (List.flatMap e57 (List.take (Int.toNat v24) r1.2.2))], upd := some (7, .dead) }) (s1 := (qs (S10_8 p14 p15 r3 v23 v24 r1) (H10_3 p2 p13 p0 p1 p3 p4 p5 p6 p7 p8 p9 p10 p11 p12 r1 r3 v24) [(5, 8, 9), (0, 7, 8)] [(5, 7)])) (by decide) (q_appL (P := Try.prog) (base := 2) (hp := (H10_4 p2 p13 p0 p1 p3 p4 p5 p6 p7 p8 p9 p10 p11 p12 r1 r3)) (n := 8) (s := 2) (enc := e57) (ts := #[22, 22]) (e := 57) (bytes := 16) (z := ag [iv 0, iv 0]) (y := sv 4 (List.length (List.take (Int.toNat v24) r1.2.2)) ANY) (ys := List.take (Int.toNat v24) r1.2.2) (b := 7) (t := 57) (by kernel_rfl) (by kernel_rfl) (by decide) (by kernel_rfl) (by kernel_rfl) (by kernel_rfl) (by kernel_rfl) (by kernel_rfl) (by kernel_rfl) (arg_win (e := 57) (off := 0) (L := r1.2.2) (ys := List.take (Int.toNat v24) r1.2.2) (win_take win_all _) (holds_acc (hp := (H10_4 p2 p13 p0 p1 p3 p4 p5 p6 p7 p8 p9 p10 p11 p12 r1 r3)) (b := 4) (T := 57) (enc := e57) (L := r1.2.2) (by kernel_rfl)) (fun _ => rfl) (by kernel_rfl)) (by first | omega | (simp only [List.length_append, List.length_cons, List.length_nil]; omega))) (by kernel_rfl) (QI.run (s1 := (qs (S10_5 p14 p15 r3 v23 v24 r1) (H10_3 p2 p13 p0 p1 p3 p4 p5 p6 p7 p8 p9 p10 p11 p12 r1 r3 v24) [(5, 8, 9), (0, 7, 8)] [(5, 7)])) 4 (by kernel_rfl) (by kernel_rfl) (QI.op (q := { val := .slice (some ⟨4, 0 + Int.toNat (w64 (v24 + 1)) * 2, none⟩) (List.length (List.drop (Int.toNat (w64 (v24 + 1))) r1.2.2)) ANY }) (s1 := (qs (S10_2 p14 p15 r3 v23 v24 r1) (H10_3 p2 p13 p0 p1 p3 p4 p5 p6 p7 p8 p9 p10 p11 p12 r1 r3 v24) [(5, 8, 9), (0, 7, 8)] [(5, 7)])) (by decide) (q_slAlo (P := Try.prog) (t := 22) (e := 57) (s := 2) (b := 4) (off := 0) (ys := r1.2.2) (k := .i64) (y := w64 (v24 + 1)) (by kernel_rfl) (by kernel_rfl) (by kernel_rfl) hg46) (by kernel_rfl) (QI.done (by kernel_rfl))))
   · refine QI.run (s1 := (qs (S10_11 p14 p15 r3 v23 v24 r1) (H10_4 p2 p13 p0 p1 p3 p4 p5 p6 p7 p8 p9 p10 p11 p12 r1 r3) [(0, 7, 8)] [])) 4 (by kernel_rfl) (by kernel_rfl) (QI.op (q := { val := sv 4 (List.length (List.take (Int.toNat v24) r1.2.2)) ANY }) (s1 := (qs (S10_10 p14 p15 r3 v23 v24 r1) (H10_4 p2 p13 p0 p1 p3 p4 p5 p6 p7 p8 p9 p10 p11 p12 r1 r3) [(0, 7, 8)] [])) (by decide) (q_slAhi (P := Try.prog) (t := 22) (e := 57) (s := 2) (b := 4) (off := 0) (ys := r1.2.2) (k := .i64) (y := v24) (by kernel_rfl) (by kernel_rfl) (by kernel_rfl) hg44) (by kernel_rfl) ?_)
     exact QI.op (q := { val := ownV 8 (List.length (List.take (Int.toNat v24) r1.2.2)), new := [.cells 57 (List.flatMap e57 (List.take (Int.toNat v24) r1.2.2))], upd := some (7, .dead) }) (s1 := (qs (S10_8 p14 p15 r3 v23 v24 r1) (H10_3 p2 p13 p0 p1 p3 p4 p5 p6 p7 p8 p9 p10 p11 p12 r1 r3 v24) [(5, 8, 9), (0, 7, 8)] [(5, 7)])) (by decide) (q_appL (P := Try.prog) (base := 2) (hp := (H10_4 p2 p13 p0 p1 p3 p4 p5 p6 p7 p8 p9 p10 p11 p12 r1 r3)) (n := 8) (s := 2) (enc := e57) (ts := #[22, 22]) (e := 57) (bytes := 16) (z := ag [iv 0, iv 0]) (y := sv 4 (List.length (List.take (Int.toNat v24) r1.2.2)) ANY) (ys := List.take (Int.toNat v24) r1.2.2) (b := 7) (t := 57) (by kernel_rfl) (by kernel_rfl) (by decide) (by kernel_rfl) (by kernel_rfl) (by kernel_rfl) (by kernel_rfl) (by kernel_rfl) (by kernel_rfl) (arg_win (e := 57) (off := 0) (L := r1.2.2) (ys := List.take (Int.toNat v24) r1.2.2) (win_take win_all _) (holds_acc (hp := (H10_4 p2 p13 p0 p1 p3 p4 p5 p6 p7 p8 p9 p10 p11 p12 r1 r3)) (b := 4) (T := 57) (enc := e57) (L := r1.2.2) (by kernel_rfl)) (fun _ => rfl) (by kernel_rfl)) (by first | omega | (simp only [List.length_append, List.length_cons, List.length_nil]; omega))) (by kernel_rfl) (QI.run (s1 := (qs (S10_5 p14 p15 r3 v23 v24 r1) (H10_3 p2 p13 p0 p1 p3 p4 p5 p6 p7 p8 p9 p10 p11 p12 r1 r3 v24) [(5, 8, 9), (0, 7, 8)] [(5, 7)])) 4 (by kernel_rfl) (by kernel_rfl) (QI.op (q := { val := .slice (some ⟨4, 0 + Int.toNat (w64 (v24 + 1)) * 2, none⟩) (List.length (List.drop (Int.toNat (w64 (v24 + 1))) r1.2.2)) ANY }) (s1 := (qs (S10_2 p14 p15 r3 v23 v24 r1) (H10_3 p2 p13 p0 p1 p3 p4 p5 p6 p7 p8 p9 p10 p11 p12 r1 r3 v24) [(5, 8, 9), (0, 7, 8)] [(5, 7)])) (by decide) (q_slAlo (P := Try.prog) (t := 22) (e := 57) (s := 2) (b := 4) (off := 0) (ys := r1.2.2) (k := .i64) (y := w64 (v24 + 1)) (by kernel_rfl) (by kernel_rfl) (by kernel_rfl) hg46) (by kernel_rfl) (QI.done (by kernel_rfl))))
   · exact SI.op (q := { val := ownV 9 (List.length ((List.take (Int.toNat v24) r1.2.2) ++ (List.drop (Int.toNat (w64 (v24 + 1))) r1.2.2))), new := [.cells 57 (List.flatMap e57 ((List.take (Int.toNat v24) r1.2.2) ++ (List.drop (Int.toNat (w64 (v24 + 1))) r1.2.2)))], upd := some (8, .dead) }) (a2 := (st 129 [(1, .int .u8 p14), (2, .int .u8 p15), (3, pt 2 0), (7, pt 3 0), (8, accV 5 r3.1.length), (10, iv v23), (11, iv v24), (12, pt 6 0), (33, iv (r1.2.2.length : Int)), (34, iv v24), (38, sv 7 0 0), (39, pt 3 2), (40, sv 4 r1.2.2.length ANY), (41, iv v24), (42, sv 4 (List.length (List.take (Int.toNat v24) r1.2.2)) ANY), (43, ownV 8 (List.length (List.take (Int.toNat v24) r1.2.2))), (44, pt 3 2), (45, sv 4 r1.2.2.length ANY), (46, iv v24), (47, iv (w64 (v24 + 1))), (48, .slice (some ⟨4, 0 + Int.toNat (w64 (v24 + 1)) * 2, none⟩) (List.length (List.drop (Int.toNat (w64 (v24 + 1))) r1.2.2)) ANY), (49, ownV 9 (List.length ((List.take (Int.toNat v24) r1.2.2) ++ (List.drop (Int.toNat (w64 (v24 + 1))) r1.2.2))))])) (h2 := [ab 5 e5 p2, ab 5 e5 p13, cl 53 [.int .u8 p0, .int .u8 p1, sv 0 p2.length ANY, .int .u8 p3, .int .u8 p4, .int .u8 p5, .int .u8 p6, .int .u8 p7, .int .u8 p8, .int .u8 p9, .int .u8 p10, .int .u8 p11, .int .u8 p12, sv 1 p13.length ANY], cl 24 [iv r1.1, iv r1.2.1, sv 4 r1.2.2.length ANY], ab 57 e57 r1.2.2, ab 3 e3 r3.1, cl 24 [iv r1.1, iv r1.2.1, sv 4 r1.2.2.length ANY], .dead, .dead, .cells 57 (List.flatMap e57 ((List.take (Int.toNat v24) r1.2.2) ++ (List.drop (Int.toNat (w64 (v24 + 1))) r1.2.2)))]) (by kernel_rfl) (q_appO (P := Try.prog) (base := 2) (hp := (H10_3 p2 p13 p0 p1 p3 p4 p5 p6 p7 p8 p9 p10 p11 p12 r1 r3 v24)) (n := 9) (s := 2) (enc := e57) (ts := #[22, 22]) (e := 57) (bytes := 16) (z := ag [iv 0, iv 0]) (y := .slice (some ⟨4, 0 + Int.toNat (w64 (v24 + 1)) * 2, none⟩) (List.length (List.drop (Int.toNat (w64 (v24 + 1))) r1.2.2)) ANY) (ys := List.drop (Int.toNat (w64 (v24 + 1))) r1.2.2) (b := 8) (l := List.take (Int.toNat v24) r1.2.2) (by kernel_rfl) (by kernel_rfl) (by decide) (by kernel_rfl) (by kernel_rfl) (by kernel_rfl) (by kernel_rfl) (by kernel_rfl) (arg_win (e := 57) (off := 0 + Int.toNat (w64 (v24 + 1)) * 2) (L := r1.2.2) (ys := List.drop (Int.toNat (w64 (v24 + 1))) r1.2.2) (win_drop win_all _) (holds_acc (hp := (H10_3 p2 p13 p0 p1 p3 p4 p5 p6 p7 p8 p9 p10 p11 p12 r1 r3 v24)) (b := 4) (T := 57) (enc := e57) (L := r1.2.2) (by kernel_rfl)) (fun _ => rfl) (by kernel_rfl)) (cells_ok (fun _ => rfl)) (fun _ => rfl) (by first | omega | (simp only [List.length_append, List.length_cons, List.length_nil]; omega))) (by kernel_rfl) (by kernel_rfl) (SI.run (a2 := (S10_0 p14 p15 r3 v23 v24 r1)) (h2 := (H10_1 p2 p13 p0 p1 p3 p4 p5 p6 p7 p8 p9 p10 p11 p12 r1 r3 v24)) 2 (by kernel_rfl) (SI.done (by kernel_rfl)))
   refine TS.sq ?_
   obtain ⟨r48, h49, hF⟩ := of_do hF
   refine TS.rg (TI.rn 1 [1, 2, 3, 7, 8, 10, 11, 33, 34, 51] [0, 1, 2, 3, 4, 5, 9] (st 129 [(1, .int .u8 p14), (2, .int .u8 p15), (3, pt 2 0), (7, pt 3 0), (8, accV 5 r3.1.length), (10, iv v23), (11, iv v24), (33, iv (r1.2.2.length : Int)), (34, iv v24), (51, ag [iv r1.1, iv r1.2.1, ownV 9 (List.length ((List.take (Int.toNat v24) r1.2.2) ++ (List.drop (Int.toNat (w64 (v24 + 1))) r1.2.2)))])]) [ab 5 e5 p2, ab 5 e5 p13, cl 53 [.int .u8 p0, .int .u8 p1, sv 0 p2.length ANY, .int .u8 p3, .int .u8 p4, .int .u8 p5, .int .u8 p6, .int .u8 p7, .int .u8 p8, .int .u8 p9, .int .u8 p10, .int .u8 p11, .int .u8 p12, sv 1 p13.length ANY], cl 24 [iv r1.1, iv r1.2.1, sv 4 r1.2.2.length ANY], ab 57 e57 r1.2.2, ab 3 e3 r3.1, .dead, .dead, .dead, .cells 57 (List.flatMap e57 ((List.take (Int.toNat v24) r1.2.2) ++ (List.drop (Int.toNat (w64 (v24 + 1))) r1.2.2)))] (TI.cp 33 [ag [iv r1.1, iv r1.2.1, ownV 9 (List.length ((List.take (Int.toNat v24) r1.2.2) ++ (List.drop (Int.toNat (w64 (v24 + 1))) r1.2.2)))], .slice none 0 0, iv 0] (.bool r48) [] (PureSim.ren (hc := [accB 57 (List.length ((List.take (Int.toNat v24) r1.2.2) ++ (List.drop (Int.toNat (w64 (v24 + 1))) r1.2.2))) (List.flatMap e57 ((List.take (Int.toNat v24) r1.2.2) ++ (List.drop (Int.toNat (w64 (v24 + 1))) r1.2.2))), accB 3 (List.length ([])) (List.flatMap e3 ([]))]) (fun i => List.getD [(9, 0), (0, 0)] i (0, 0)) (C33 64 _ _ _ _ _ _ h49) (.cons (At.accU (by kernel_rfl) rfl (fun _ => rfl)) (.cons At.accN (.nil _))) (.cons (Rn.agg' (.fl (.fl (.cons (Rn.ownA (i' := 9) (nl rfl) rfl (by simp only [List.length_set])) .nil)))) (.cons (Rn.anyN _ _ _ rfl (by decide)) (.fl .nil))) (.flat (by kernel_rfl)) newflat_nil) (TI.rn 1 [1, 2, 3, 7, 8, 10, 11, 13, 33, 34] [0, 1, 2, 3, 4, 5] (st 129 [(1, .int .u8 p14), (2, .int .u8 p15), (3, pt 2 0), (7, pt 3 0), (8, accV 5 r3.1.length), (10, iv v23), (11, iv v24), (13, .bool r48), (33, iv (r1.2.2.length : Int)), (34, iv v24)]) (H10_6 p2 p13 p0 p1 p3 p4 p5 p6 p7 p8 p9 p10 p11 p12 r1 r3) (TI.dn (NX.sq (TS.sq (TS.sq ?_)))))))
   obtain ⟨m56, hm64, hF⟩ := of_do hF
   have hK : NX Try.prog 2 2 [.sq c10.s2.s2.s2.s2.s2.s1.s2.bd.bd.s2.s2.s1.bd.s2.s2.s2.s2.s1.s2, .sq c10.s2.s2.s2.s2.s2.s1.s2.bd.bd.s2.s2.s1.bd.s2.s2.s2.s2.s2, .bk 1, .sq c10.s2.s2.s2.s2.s2.s1.s2.bd.bd.s2.s2.s2] (Rd Try.prog 2 2 c10.s2.s2.s2.s2.s2.s1.s2.bd.bd (P10l0 p0 p1 p2 p3 p4 p5 p6 p7 p8 p9 p10 p11 p12 p13 p14 p15 r1 r3 r)) .normal (st 129 [(1, .int .u8 p14), (2, .int .u8 p15), (3, pt 2 0), (7, pt 3 0), (8, accV 5 r3.1.length), (10, iv v23), (13, .bool m56.1), (33, iv (r1.2.2.length : Int)), (34, iv v24), (66, .bool m56.2)]) (H10_6 p2 p13 p0 p1 p3 p4 p5 p6 p7 p8 p9 p10 p11 p12 r1 r3) := by
    refine NX.sq ?_
    refine TS.cd (.tmp 66) m56.2 (fun hc57 => ?_) (fun hc57 => ?_)
    · replace hF := of_pos hF hc57
      refine TS.sq (TS.rg (TI.rn 1 [6] [0, 1] (st 129 [(6, .bool false)]) [ab 5 e5 p2, ab 5 e5 p13, .dead, .dead, .dead, .dead, .dead, .dead, .dead, .dead] (TI.dn (NX.sq (TS.rt (NX.sqR (NX.bkR (NX.sqR ?_))))))))
      have hF := sj hF
      subst hF
      exact Rd.out (e := .ret) (by intro h; cases h) (And.intro rfl (Wk.an [] (.ac (.ac (.nil _))) [.bool false] (.fl .nil)))
    replace hF := of_neg hF hc57
    refine TS.sk (NX.sq (TS.sq (TS.rg (TI.ra 1 [1, 2, 3, 7, 8, 10, 33, 34, 67] (st 129 [(1, .int .u8 p14), (2, .int .u8 p15), (3, pt 2 0), (7, pt 3 0), (8, accV 5 r3.1.length), (10, iv v23), (33, iv (r1.2.2.length : Int)), (34, iv v24), (67, .bool m56.1)]) (TI.dn (NX.sq ?_))))))
    obtain ⟨m61, hm62, hF⟩ := of_do hF
    have hK : NX Try.prog 2 2 [.bk 1, .sq c10.s2.s2.s2.s2.s2.s1.s2.bd.bd.s2.s2.s2] (Rd Try.prog 2 2 c10.s2.s2.s2.s2.s2.s1.s2.bd.bd (P10l0 p0 p1 p2 p3 p4 p5 p6 p7 p8 p9 p10 p11 p12 p13 p14 p15 r1 r3 r)) .normal (st 129 [(1, .int .u8 p14), (2, .int .u8 p15), (3, pt 2 0), (7, pt 3 0), (8, accV 5 r3.1.length), (10, iv m61), (33, iv (r1.2.2.length : Int)), (34, iv v24)]) (H10_7 p2 p13 p0 p1 p3 p4 p5 p6 p7 p8 p9 p10 p11 p12 r1 r3) := by
     refine NX.bk (NX.sq (TS.rg (TI.ra 2 [1, 2, 3, 7, 8, 10, 33, 34] (st 129 [(1, .int .u8 p14), (2, .int .u8 p15), (3, pt 2 0), (7, pt 3 0), (8, accV 5 r3.1.length), (10, iv m61), (33, iv (r1.2.2.length : Int)), (34, iv (w64 (v24 + 1)))]) (TI.dn ?_))))
     exact Rd.again (a2 := (st 129 [(1, .int .u8 p14), (2, .int .u8 p15), (3, pt 2 0), (7, pt 3 0), (8, accV 5 r3.1.length), (10, iv m61), (33, iv (r1.2.2.length : Int)), (34, iv (w64 (v24 + 1)))])) (h2 := (H10_7 p2 p13 p0 p1 p3 p4 p5 p6 p7 p8 p9 p10 p11 p12 r1 r3)) (Wk.an [2, 3, 4, 5] (.ac (.ac (.lt (.fl (.fl (.sl (.fl (.fl (.fl (.fl (.fl (.fl (.fl (.fl (.fl (.fl (.sl .nil)))))))))))))) (.lt (.fl (.fl (.cons (Rn.anyS (nl rfl) rfl (by first | rfl | simp only [List.length_set])) .nil))) (.ac (.ac (.nil _))))))) [.int .u8 p14, .int .u8 p15, pt 2 0, pt 3 0, accV 5 r3.1.length, iv m61, iv (r1.2.2.length : Int), iv (w64 (v24 + 1))] (.fl (.fl (.pp (.pp (.cons (Rn.acc (nl rfl) rfl) (.fl (.fl (.fl .nil))))))))) (ih m61 (w64 (v24 + 1)) _ hF)
    clear hF
    have hF := hm62
    clear hm62
    refine TS.start ?_
    refine TS.cd (.tmp 67) m56.1 (fun hc63 => ?_) (fun hc63 => ?_)
    · replace hF := of_pos hF hc63
      refine TS.rg (TI.ra 3 [1, 2, 3, 7, 8, 10, 33, 34] (st 129 [(1, .int .u8 p14), (2, .int .u8 p15), (3, pt 2 0), (7, pt 3 0), (8, accV 5 r3.1.length), (10, iv (w64 (v23 + 1))), (33, iv (r1.2.2.length : Int)), (34, iv v24)]) (TI.dn ?_))
      have hF := sj hF
      subst hF
      exact TS.weak (by exact (Wk.an [2, 3, 4, 5] (.ac (.ac (.lt (.fl (.fl (.sl (.fl (.fl (.fl (.fl (.fl (.fl (.fl (.fl (.fl (.fl (.sl .nil)))))))))))))) (.lt (.fl (.fl (.cons (Rn.anyS (nl rfl) rfl (by first | rfl | simp only [List.length_set])) .nil))) (.ac (.ac (.nil _))))))) [.int .u8 p14, .int .u8 p15, pt 2 0, pt 3 0, accV 5 r3.1.length, iv (w64 (v23 + 1)), iv (r1.2.2.length : Int), iv v24] (.fl (.fl (.pp (.pp (.cons (Rn.acc (nl rfl) rfl) (.fl (.fl (.fl .nil)))))))))) hK
    replace hF := of_neg hF hc63
    refine TS.sk ?_
    have hF := sj hF
    subst hF
    exact TS.weak (by exact (Wk.an [2, 3, 4, 5] (.ac (.ac (.lt (.fl (.fl (.sl (.fl (.fl (.fl (.fl (.fl (.fl (.fl (.fl (.fl (.fl (.sl .nil)))))))))))))) (.lt (.fl (.fl (.cons (Rn.anyS (nl rfl) rfl (by first | rfl | simp only [List.length_set])) .nil))) (.ac (.ac (.nil _))))))) [.int .u8 p14, .int .u8 p15, pt 2 0, pt 3 0, accV 5 r3.1.length, iv v23, iv (r1.2.2.length : Int), iv v24] (.fl (.fl (.pp (.pp (.cons (Rn.acc (nl rfl) rfl) (.fl (.fl (.fl .nil)))))))))) hK
   rcases Bool.eq_false_or_eq_true (decide (v23 < (r3.1.length : Int))) with hc50 | hc50
   · replace hm64 := of_pos hm64 hc50
     have hX := of_guard hm64
     clear hm64
     obtain ⟨hg51, hm64⟩ := hX
     have hX := of_do hm64
     clear hm64
     obtain ⟨o52, h53, hm64⟩ := hX
     replace h53 := sj h53
     cases r48 with
     | true =>
      replace hm64 := of_pos hm64 rfl
      rcases Bool.eq_false_or_eq_true (o52 == v24) with hc54 | hc54
      · replace hm64 := of_pos hm64 hc54
        have hm64 := sj hm64
        subst hm64
        refine TS.rg (TI.ra 4 [1, 2, 3, 7, 8, 10, 11, 13, 33, 34, 53, 54, 56] (S10_17 p14 p15 r3 v23 v24 r1) (TI.o { val := .bool true } (q_conv (e := decide (v23 < (r3.1.length : Int))) (b := true) (by kernel_rfl) hc50) [1, 2, 3, 7, 8, 10, 11, 13, 33, 34, 53, 57] [0, 1, 2, 3, 4, 5] (S10_20 p14 p15 r3 v23 v24 r1) (H10_6 p2 p13 p0 p1 p3 p4 p5 p6 p7 p8 p9 p10 p11 p12 r1 r3) (TI.ra 3 [1, 2, 3, 7, 8, 10, 11, 13, 33, 34, 53, 58, 59, 60] (S10_15 p14 p15 r3 v23 v24 r1) (TI.o { val := .pointer (some ⟨5, 0 + (Int.toNat v23) * 1, none⟩) } (q_ixAcc (P := Try.prog) (t := 30) (s := 1) (e := 3) 5 r3.1.length (by kernel_rfl) hg51 (by kernel_rfl) (by kernel_rfl)) [1, 2, 3, 7, 8, 10, 11, 13, 33, 34, 53, 58, 61] [0, 1, 2, 3, 4, 5] (S10_13 p14 p15 r3 v23 v24 r1) (H10_6 p2 p13 p0 p1 p3 p4 p5 p6 p7 p8 p9 p10 p11 p12 r1 r3) (TI.o { val := iv o52 } (q_n1a Try.prog (H10_6 p2 p13 p0 p1 p3 p4 p5 p6 p7 p8 p9 p10 p11 p12 r1 r3) 3 5 (0 + (Int.toNat v23) * 1) r3.1 e3 1 3 (Int.toNat v23) 0 0 h53) [1, 2, 3, 7, 8, 10, 11, 13, 33, 34, 53, 58, 62] [0, 1, 2, 3, 4, 5] (st 129 [(1, .int .u8 p14), (2, .int .u8 p15), (3, pt 2 0), (7, pt 3 0), (8, accV 5 r3.1.length), (10, iv v23), (11, iv v24), (13, .bool true), (33, iv (r1.2.2.length : Int)), (34, iv v24), (53, .bool true), (58, .bool true), (62, iv o52)]) (H10_6 p2 p13 p0 p1 p3 p4 p5 p6 p7 p8 p9 p10 p11 p12 r1 r3) (TI.ra 1 [1, 2, 3, 7, 8, 10, 13, 33, 34, 53, 58, 62, 63] (st 129 [(1, .int .u8 p14), (2, .int .u8 p15), (3, pt 2 0), (7, pt 3 0), (8, accV 5 r3.1.length), (10, iv v23), (13, .bool true), (33, iv (r1.2.2.length : Int)), (34, iv v24), (53, .bool true), (58, .bool true), (62, iv o52), (63, iv v24)]) (TI.o { val := .bool true } (q_conv (e := o52 == v24) (b := true) (by kernel_rfl) hc54) [1, 2, 3, 7, 8, 10, 13, 33, 34, 53, 58, 64] [0, 1, 2, 3, 4, 5] (st 129 [(1, .int .u8 p14), (2, .int .u8 p15), (3, pt 2 0), (7, pt 3 0), (8, accV 5 r3.1.length), (10, iv v23), (13, .bool true), (33, iv (r1.2.2.length : Int)), (34, iv v24), (53, .bool true), (58, .bool true), (64, .bool true)]) (H10_6 p2 p13 p0 p1 p3 p4 p5 p6 p7 p8 p9 p10 p11 p12 r1 r3) (TI.ra 2 [1, 2, 3, 7, 8, 10, 13, 33, 34, 66] (st 129 [(1, .int .u8 p14), (2, .int .u8 p15), (3, pt 2 0), (7, pt 3 0), (8, accV 5 r3.1.length), (10, iv v23), (13, .bool true), (33, iv (r1.2.2.length : Int)), (34, iv v24), (66, .bool false)]) ?_))))))))
        exact TI.dn hK
      replace hm64 := of_neg hm64 hc54
      have hm64 := sj hm64
      subst hm64
      refine TS.rg (TI.ra 4 [1, 2, 3, 7, 8, 10, 11, 13, 33, 34, 53, 54, 56] (S10_17 p14 p15 r3 v23 v24 r1) (TI.o { val := .bool true } (q_conv (e := decide (v23 < (r3.1.length : Int))) (b := true) (by kernel_rfl) hc50) [1, 2, 3, 7, 8, 10, 11, 13, 33, 34, 53, 57] [0, 1, 2, 3, 4, 5] (S10_20 p14 p15 r3 v23 v24 r1) (H10_6 p2 p13 p0 p1 p3 p4 p5 p6 p7 p8 p9 p10 p11 p12 r1 r3) (TI.ra 3 [1, 2, 3, 7, 8, 10, 11, 13, 33, 34, 53, 58, 59, 60] (S10_15 p14 p15 r3 v23 v24 r1) (TI.o { val := .pointer (some ⟨5, 0 + (Int.toNat v23) * 1, none⟩) } (q_ixAcc (P := Try.prog) (t := 30) (s := 1) (e := 3) 5 r3.1.length (by kernel_rfl) hg51 (by kernel_rfl) (by kernel_rfl)) [1, 2, 3, 7, 8, 10, 11, 13, 33, 34, 53, 58, 61] [0, 1, 2, 3, 4, 5] (S10_13 p14 p15 r3 v23 v24 r1) (H10_6 p2 p13 p0 p1 p3 p4 p5 p6 p7 p8 p9 p10 p11 p12 r1 r3) (TI.o { val := iv o52 } (q_n1a Try.prog (H10_6 p2 p13 p0 p1 p3 p4 p5 p6 p7 p8 p9 p10 p11 p12 r1 r3) 3 5 (0 + (Int.toNat v23) * 1) r3.1 e3 1 3 (Int.toNat v23) 0 0 h53) [1, 2, 3, 7, 8, 10, 11, 13, 33, 34, 53, 58, 62] [0, 1, 2, 3, 4, 5] (st 129 [(1, .int .u8 p14), (2, .int .u8 p15), (3, pt 2 0), (7, pt 3 0), (8, accV 5 r3.1.length), (10, iv v23), (11, iv v24), (13, .bool true), (33, iv (r1.2.2.length : Int)), (34, iv v24), (53, .bool true), (58, .bool true), (62, iv o52)]) (H10_6 p2 p13 p0 p1 p3 p4 p5 p6 p7 p8 p9 p10 p11 p12 r1 r3) (TI.ra 1 [1, 2, 3, 7, 8, 10, 13, 33, 34, 53, 58, 62, 63] (st 129 [(1, .int .u8 p14), (2, .int .u8 p15), (3, pt 2 0), (7, pt 3 0), (8, accV 5 r3.1.length), (10, iv v23), (13, .bool true), (33, iv (r1.2.2.length : Int)), (34, iv v24), (53, .bool true), (58, .bool true), (62, iv o52), (63, iv v24)]) (TI.o { val := .bool false } (q_conv (e := o52 == v24) (b := false) (by kernel_rfl) hc54) [1, 2, 3, 7, 8, 10, 13, 33, 34, 53, 58, 64] [0, 1, 2, 3, 4, 5] (st 129 [(1, .int .u8 p14), (2, .int .u8 p15), (3, pt 2 0), (7, pt 3 0), (8, accV 5 r3.1.length), (10, iv v23), (13, .bool true), (33, iv (r1.2.2.length : Int)), (34, iv v24), (53, .bool true), (58, .bool true), (64, .bool false)]) (H10_6 p2 p13 p0 p1 p3 p4 p5 p6 p7 p8 p9 p10 p11 p12 r1 r3) (TI.ra 2 [1, 2, 3, 7, 8, 10, 13, 33, 34, 66] (st 129 [(1, .int .u8 p14), (2, .int .u8 p15), (3, pt 2 0), (7, pt 3 0), (8, accV 5 r3.1.length), (10, iv v23), (13, .bool true), (33, iv (r1.2.2.length : Int)), (34, iv v24), (66, .bool true)]) ?_))))))))
      exact TI.dn hK
     | false =>
      replace hm64 := of_neg hm64 rfl
      rcases Bool.eq_false_or_eq_true (o52 == v24) with hc55 | hc55
      · replace hm64 := of_pos hm64 hc55
        have hm64 := sj hm64
        subst hm64
        refine TS.rg (TI.ra 4 [1, 2, 3, 7, 8, 10, 11, 13, 33, 34, 53, 54, 56] (S10_16 p14 p15 r3 v23 v24 r1) (TI.o { val := .bool true } (q_conv (e := decide (v23 < (r3.1.length : Int))) (b := true) (by kernel_rfl) hc50) [1, 2, 3, 7, 8, 10, 11, 13, 33, 34, 53, 57] [0, 1, 2, 3, 4, 5] (S10_19 p14 p15 r3 v23 v24 r1) (H10_6 p2 p13 p0 p1 p3 p4 p5 p6 p7 p8 p9 p10 p11 p12 r1 r3) (TI.ra 3 [1, 2, 3, 7, 8, 10, 11, 13, 33, 34, 53, 58, 59, 60] (S10_14 p14 p15 r3 v23 v24 r1) (TI.o { val := .pointer (some ⟨5, 0 + (Int.toNat v23) * 1, none⟩) } (q_ixAcc (P := Try.prog) (t := 30) (s := 1) (e := 3) 5 r3.1.length (by kernel_rfl) hg51 (by kernel_rfl) (by kernel_rfl)) [1, 2, 3, 7, 8, 10, 11, 13, 33, 34, 53, 58, 61] [0, 1, 2, 3, 4, 5] (S10_12 p14 p15 r3 v23 v24 r1) (H10_6 p2 p13 p0 p1 p3 p4 p5 p6 p7 p8 p9 p10 p11 p12 r1 r3) (TI.o { val := iv o52 } (q_n1a Try.prog (H10_6 p2 p13 p0 p1 p3 p4 p5 p6 p7 p8 p9 p10 p11 p12 r1 r3) 3 5 (0 + (Int.toNat v23) * 1) r3.1 e3 1 3 (Int.toNat v23) 0 0 h53) [1, 2, 3, 7, 8, 10, 11, 13, 33, 34, 53, 58, 62] [0, 1, 2, 3, 4, 5] (st 129 [(1, .int .u8 p14), (2, .int .u8 p15), (3, pt 2 0), (7, pt 3 0), (8, accV 5 r3.1.length), (10, iv v23), (11, iv v24), (13, .bool false), (33, iv (r1.2.2.length : Int)), (34, iv v24), (53, .bool false), (58, .bool true), (62, iv o52)]) (H10_6 p2 p13 p0 p1 p3 p4 p5 p6 p7 p8 p9 p10 p11 p12 r1 r3) (TI.ra 1 [1, 2, 3, 7, 8, 10, 13, 33, 34, 53, 58, 62, 63] (st 129 [(1, .int .u8 p14), (2, .int .u8 p15), (3, pt 2 0), (7, pt 3 0), (8, accV 5 r3.1.length), (10, iv v23), (13, .bool false), (33, iv (r1.2.2.length : Int)), (34, iv v24), (53, .bool false), (58, .bool true), (62, iv o52), (63, iv v24)]) (TI.o { val := .bool true } (q_conv (e := o52 == v24) (b := true) (by kernel_rfl) hc55) [1, 2, 3, 7, 8, 10, 13, 33, 34, 53, 58, 64] [0, 1, 2, 3, 4, 5] (st 129 [(1, .int .u8 p14), (2, .int .u8 p15), (3, pt 2 0), (7, pt 3 0), (8, accV 5 r3.1.length), (10, iv v23), (13, .bool false), (33, iv (r1.2.2.length : Int)), (34, iv v24), (53, .bool false), (58, .bool true), (64, .bool true)]) (H10_6 p2 p13 p0 p1 p3 p4 p5 p6 p7 p8 p9 p10 p11 p12 r1 r3) (TI.ra 2 [1, 2, 3, 7, 8, 10, 13, 33, 34, 66] (st 129 [(1, .int .u8 p14), (2, .int .u8 p15), (3, pt 2 0), (7, pt 3 0), (8, accV 5 r3.1.length), (10, iv v23), (13, .bool false), (33, iv (r1.2.2.length : Int)), (34, iv v24), (66, .bool true)]) ?_))))))))
        exact TI.dn hK
      replace hm64 := of_neg hm64 hc55
      have hm64 := sj hm64
      subst hm64
      refine TS.rg (TI.ra 4 [1, 2, 3, 7, 8, 10, 11, 13, 33, 34, 53, 54, 56] (S10_16 p14 p15 r3 v23 v24 r1) (TI.o { val := .bool true } (q_conv (e := decide (v23 < (r3.1.length : Int))) (b := true) (by kernel_rfl) hc50) [1, 2, 3, 7, 8, 10, 11, 13, 33, 34, 53, 57] [0, 1, 2, 3, 4, 5] (S10_19 p14 p15 r3 v23 v24 r1) (H10_6 p2 p13 p0 p1 p3 p4 p5 p6 p7 p8 p9 p10 p11 p12 r1 r3) (TI.ra 3 [1, 2, 3, 7, 8, 10, 11, 13, 33, 34, 53, 58, 59, 60] (S10_14 p14 p15 r3 v23 v24 r1) (TI.o { val := .pointer (some ⟨5, 0 + (Int.toNat v23) * 1, none⟩) } (q_ixAcc (P := Try.prog) (t := 30) (s := 1) (e := 3) 5 r3.1.length (by kernel_rfl) hg51 (by kernel_rfl) (by kernel_rfl)) [1, 2, 3, 7, 8, 10, 11, 13, 33, 34, 53, 58, 61] [0, 1, 2, 3, 4, 5] (S10_12 p14 p15 r3 v23 v24 r1) (H10_6 p2 p13 p0 p1 p3 p4 p5 p6 p7 p8 p9 p10 p11 p12 r1 r3) (TI.o { val := iv o52 } (q_n1a Try.prog (H10_6 p2 p13 p0 p1 p3 p4 p5 p6 p7 p8 p9 p10 p11 p12 r1 r3) 3 5 (0 + (Int.toNat v23) * 1) r3.1 e3 1 3 (Int.toNat v23) 0 0 h53) [1, 2, 3, 7, 8, 10, 11, 13, 33, 34, 53, 58, 62] [0, 1, 2, 3, 4, 5] (st 129 [(1, .int .u8 p14), (2, .int .u8 p15), (3, pt 2 0), (7, pt 3 0), (8, accV 5 r3.1.length), (10, iv v23), (11, iv v24), (13, .bool false), (33, iv (r1.2.2.length : Int)), (34, iv v24), (53, .bool false), (58, .bool true), (62, iv o52)]) (H10_6 p2 p13 p0 p1 p3 p4 p5 p6 p7 p8 p9 p10 p11 p12 r1 r3) (TI.ra 1 [1, 2, 3, 7, 8, 10, 13, 33, 34, 53, 58, 62, 63] (st 129 [(1, .int .u8 p14), (2, .int .u8 p15), (3, pt 2 0), (7, pt 3 0), (8, accV 5 r3.1.length), (10, iv v23), (13, .bool false), (33, iv (r1.2.2.length : Int)), (34, iv v24), (53, .bool false), (58, .bool true), (62, iv o52), (63, iv v24)]) (TI.o { val := .bool false } (q_conv (e := o52 == v24) (b := false) (by kernel_rfl) hc55) [1, 2, 3, 7, 8, 10, 13, 33, 34, 53, 58, 64] [0, 1, 2, 3, 4, 5] (st 129 [(1, .int .u8 p14), (2, .int .u8 p15), (3, pt 2 0), (7, pt 3 0), (8, accV 5 r3.1.length), (10, iv v23), (13, .bool false), (33, iv (r1.2.2.length : Int)), (34, iv v24), (53, .bool false), (58, .bool true), (64, .bool false)]) (H10_6 p2 p13 p0 p1 p3 p4 p5 p6 p7 p8 p9 p10 p11 p12 r1 r3) (TI.ra 2 [1, 2, 3, 7, 8, 10, 13, 33, 34, 66] (st 129 [(1, .int .u8 p14), (2, .int .u8 p15), (3, pt 2 0), (7, pt 3 0), (8, accV 5 r3.1.length), (10, iv v23), (13, .bool false), (33, iv (r1.2.2.length : Int)), (34, iv v24), (66, .bool false)]) ?_))))))))
      exact TI.dn hK
   replace hm64 := of_neg hm64 hc50
   cases r48 with
   | true =>
    replace hm64 := of_pos hm64 rfl
    have hm64 := sj hm64
    subst hm64
    exact TS.rg (TI.ra 4 [1, 2, 3, 7, 8, 10, 11, 13, 33, 34, 53, 54, 56] (S10_17 p14 p15 r3 v23 v24 r1) (TI.o { val := .bool false } (q_conv (e := decide (v23 < (r3.1.length : Int))) (b := false) (by kernel_rfl) hc50) [1, 2, 3, 7, 8, 10, 11, 13, 33, 34, 53, 57] [0, 1, 2, 3, 4, 5] (st 129 [(1, .int .u8 p14), (2, .int .u8 p15), (3, pt 2 0), (7, pt 3 0), (8, accV 5 r3.1.length), (10, iv v23), (11, iv v24), (13, .bool true), (33, iv (r1.2.2.length : Int)), (34, iv v24), (53, .bool true), (57, .bool false)]) (H10_6 p2 p13 p0 p1 p3 p4 p5 p6 p7 p8 p9 p10 p11 p12 r1 r3) (TI.ra 9 [1, 2, 3, 7, 8, 10, 13, 33, 34, 66] (st 129 [(1, .int .u8 p14), (2, .int .u8 p15), (3, pt 2 0), (7, pt 3 0), (8, accV 5 r3.1.length), (10, iv v23), (13, .bool true), (33, iv (r1.2.2.length : Int)), (34, iv v24), (66, .bool true)]) (TI.dn hK))))
   | false =>
    replace hm64 := of_neg hm64 rfl
    have hm64 := sj hm64
    subst hm64
    exact TS.rg (TI.ra 4 [1, 2, 3, 7, 8, 10, 11, 13, 33, 34, 53, 54, 56] (S10_16 p14 p15 r3 v23 v24 r1) (TI.o { val := .bool false } (q_conv (e := decide (v23 < (r3.1.length : Int))) (b := false) (by kernel_rfl) hc50) [1, 2, 3, 7, 8, 10, 11, 13, 33, 34, 53, 57] [0, 1, 2, 3, 4, 5] (st 129 [(1, .int .u8 p14), (2, .int .u8 p15), (3, pt 2 0), (7, pt 3 0), (8, accV 5 r3.1.length), (10, iv v23), (11, iv v24), (13, .bool false), (33, iv (r1.2.2.length : Int)), (34, iv v24), (53, .bool false), (57, .bool false)]) (H10_6 p2 p13 p0 p1 p3 p4 p5 p6 p7 p8 p9 p10 p11 p12 r1 r3) (TI.ra 9 [1, 2, 3, 7, 8, 10, 13, 33, 34, 66] (st 129 [(1, .int .u8 p14), (2, .int .u8 p15), (3, pt 2 0), (7, pt 3 0), (8, accV 5 r3.1.length), (10, iv v23), (13, .bool false), (33, iv (r1.2.2.length : Int)), (34, iv v24), (66, .bool false)]) (TI.dn hK))))
 replace hF := of_neg hF hc43
 refine TS.ex 0 (NX.sqX ?_)
 have hF := sj hF
 subst hF
 exact Rd.out (e := .exit 0) (by intro h; cases h) (And.intro rfl (Wk.an [2, 5] (.ac (.ac (.lt (.fl (.fl (.sl (.fl (.fl (.fl (.fl (.fl (.fl (.fl (.fl (.fl (.fl (.sl .nil)))))))))))))) (.ac (.nil _))))) [.int .u8 p14, .int .u8 p15, pt 2 0, accV 5 r3.1.length, iv v23] (.fl (.fl (.pp (.cons (Rn.acc (nl rfl) rfl) (.fl .nil)))))))
def P10l1 (p2 p13 : List Int) (p14 : Int) (r70 : (Int × Int × (List I2)) × (List Int) × (List Int)) (r79 : (List Int) × Int) (r : Bool) : Post := fun e a h => e = .exit 2 ∧ Wk Try.prog 2 2 a h (st 129 [(9, iv r79.2), (19, .bool r)]) (H10_22 p2 p13)
theorem L10l1 (p2 p13 : List Int) (p14 : Int) (r70 : (Int × Int × (List I2)) × (List Int) × (List Int)) (r79 : (List Int) × Int) (v85 : Bool) (v86 : Int) (r : Bool) (hF : F10l1 p2 p13 p14 r70 r79 v85 v86 = some r) : TL Try.prog 2 2 c10.s2.s2.s2.s2.s2.s2.s2.s2.s2.s2.s2.s2.s2.s1.s2.bd.bd (st 129 [(9, iv r79.2), (17, iv (Int.tmod (w64 p14) (r70.1.2.2.length : Int))), (19, .bool v85), (108, accV 2 r79.1.length), (109, iv (r79.1.length : Int)), (110, iv v86)]) (H10_21 p2 p13 r79) (P10l1 p2 p13 p14 r70 r79 r) := by
 refine F10l1.partial_correctness p2 p13 p14 r70 r79 (motive := fun v85 v86 r => TL Try.prog 2 2 c10.s2.s2.s2.s2.s2.s2.s2.s2.s2.s2.s2.s2.s2.s1.s2.bd.bd (st 129 [(9, iv r79.2), (17, iv (Int.tmod (w64 p14) (r70.1.2.2.length : Int))), (19, .bool v85), (108, accV 2 r79.1.length), (109, iv (r79.1.length : Int)), (110, iv v86)]) (H10_21 p2 p13 r79) (P10l1 p2 p13 p14 r70 r79 r)) ?_ v85 v86 r hF
 clear hF r v85 v86
 intro again ih v85 v86 r hF
 refine TL.round (TS.sq (TS.rg (TI.ra 1 [9, 17, 19, 108, 109, 110, 111] (st 129 [(9, iv r79.2), (17, iv (Int.tmod (w64 p14) (r70.1.2.2.length : Int))), (19, .bool v85), (108, accV 2 r79.1.length), (109, iv (r79.1.length : Int)), (110, iv v86), (111, .bool (decide (v86 < (r79.1.length : Int))))]) (TI.dn (NX.sq (TS.sq ?_))))))
 refine TS.cd (.tmp 111) (decide (v86 < (r79.1.length : Int))) (fun hc94 => ?_) (fun hc94 => ?_)
 · replace hF := of_pos hF hc94
   refine TS.sk (NX.sq (TS.sq (TS.bk 3 (TS.sq ?_))))
   obtain ⟨hg95, hF⟩ := of_guard hF
   obtain ⟨o96, h97, hF⟩ := of_do hF
   replace h97 := sj h97
   refine TS.rg (TI.o { val := .pointer (some ⟨2, 0 + (Int.toNat v86) * 1, none⟩) } (q_ixAcc (P := Try.prog) (t := 30) (s := 1) (e := 3) 2 r79.1.length (by kernel_rfl) hg95 (by kernel_rfl) (by kernel_rfl)) [9, 17, 19, 108, 109, 110, 112] [0, 1, 2] (st 129 [(9, iv r79.2), (17, iv (Int.tmod (w64 p14) (r70.1.2.2.length : Int))), (19, .bool v85), (108, accV 2 r79.1.length), (109, iv (r79.1.length : Int)), (110, iv v86), (112, .pointer (some ⟨2, 0 + (Int.toNat v86) * 1, none⟩))]) (H10_21 p2 p13 r79) (TI.o { val := iv o96 } (q_n1a Try.prog (H10_21 p2 p13 r79) 3 2 (0 + (Int.toNat v86) * 1) r79.1 e3 1 3 (Int.toNat v86) 0 0 h97) [9, 17, 19, 108, 109, 110, 113] [0, 1, 2] (st 129 [(9, iv r79.2), (17, iv (Int.tmod (w64 p14) (r70.1.2.2.length : Int))), (19, .bool v85), (108, accV 2 r79.1.length), (109, iv (r79.1.length : Int)), (110, iv v86), (113, iv o96)]) (H10_21 p2 p13 r79) (TI.ra 1 [9, 17, 19, 21, 108, 109, 110] (st 129 [(9, iv r79.2), (17, iv (Int.tmod (w64 p14) (r70.1.2.2.length : Int))), (19, .bool v85), (21, iv o96), (108, accV 2 r79.1.length), (109, iv (r79.1.length : Int)), (110, iv v86)]) (TI.dn (NX.sq ?_)))))
   obtain ⟨m98, hm99, hF⟩ := of_do hF
   have hK : NX Try.prog 2 2 [.bk 3, .sq c10.s2.s2.s2.s2.s2.s2.s2.s2.s2.s2.s2.s2.s2.s1.s2.bd.bd.s2.s2.s2] (Rd Try.prog 2 2 c10.s2.s2.s2.s2.s2.s2.s2.s2.s2.s2.s2.s2.s2.s1.s2.bd.bd (P10l1 p2 p13 p14 r70 r79 r)) .normal (st 129 [(9, iv r79.2), (17, iv (Int.tmod (w64 p14) (r70.1.2.2.length : Int))), (19, .bool m98), (108, accV 2 r79.1.length), (109, iv (r79.1.length : Int)), (110, iv v86)]) (H10_21 p2 p13 r79) := by
    refine NX.bk (NX.sq (TS.rg (TI.ra 2 [9, 17, 19, 108, 109, 110] (st 129 [(9, iv r79.2), (17, iv (Int.tmod (w64 p14) (r70.1.2.2.length : Int))), (19, .bool m98), (108, accV 2 r79.1.length), (109, iv (r79.1.length : Int)), (110, iv (w64 (v86 + 1)))]) (TI.dn ?_))))
    exact Rd.again (a2 := (st 129 [(9, iv r79.2), (17, iv (Int.tmod (w64 p14) (r70.1.2.2.length : Int))), (19, .bool m98), (108, accV 2 r79.1.length), (109, iv (r79.1.length : Int)), (110, iv (w64 (v86 + 1)))])) (h2 := (H10_21 p2 p13 r79)) (Wk.an [2] (.ac (.ac (.ac (.nil _)))) [iv r79.2, iv (Int.tmod (w64 p14) (r70.1.2.2.length : Int)), .bool m98, accV 2 r79.1.length, iv (r79.1.length : Int), iv (w64 (v86 + 1))] (.fl (.fl (.fl (.cons (Rn.acc (nl rfl) rfl) (.fl (.fl .nil))))))) (ih m98 (w64 (v86 + 1)) _ hF)
   cases v85 with
   | true =>
    replace hm99 := of_pos hm99 rfl
    have hm99 := sj hm99
    subst hm99
    exact TS.rg (TI.ra 7 [9, 17, 19, 108, 109, 110] (st 129 [(9, iv r79.2), (17, iv (Int.tmod (w64 p14) (r70.1.2.2.length : Int))), (19, .bool true), (108, accV 2 r79.1.length), (109, iv (r79.1.length : Int)), (110, iv v86)]) (TI.dn hK))
   | false =>
    replace hm99 := of_neg hm99 rfl
    have hm99 := sj hm99
    subst hm99
    exact TS.rg (TI.ra 7 [9, 17, 19, 108, 109, 110] (st 129 [(9, iv r79.2), (17, iv (Int.tmod (w64 p14) (r70.1.2.2.length : Int))), (19, .bool (o96 == (Int.tmod (w64 p14) (r70.1.2.2.length : Int)))), (108, accV 2 r79.1.length), (109, iv (r79.1.length : Int)), (110, iv v86)]) (TI.dn hK))
 replace hF := of_neg hF hc94
 refine TS.ex 2 (NX.sqX ?_)
 have hF := sj hF
 subst hF
 exact Rd.out (e := .exit 2) (by intro h; cases h) (And.intro rfl (Wk.an [] (.ac (.ac (.nil _))) [iv r79.2, .bool v85] (.fl (.fl .nil))))
theorem B10 (p0 p1 : Int) (p2 : List Int) (p3 p4 p5 p6 p7 p8 p9 p10 p11 p12 : Int) (p13 : List Int) (p14 p15 : Int) (r : Bool) (hF : F10 p0 p1 p2 p3 p4 p5 p6 p7 p8 p9 p10 p11 p12 p13 p14 p15 = some r) : TS Try.prog 2 2 c10 (st 129 [(0, ag [.int .u8 p0, .int .u8 p1, sv 0 p2.length ANY, .int .u8 p3, .int .u8 p4, .int .u8 p5, .int .u8 p6, .int .u8 p7, .int .u8 p8, .int .u8 p9, .int .u8 p10, .int .u8 p11, .int .u8 p12, sv 1 p13.length ANY]), (1, .int .u8 p14), (2, .int .u8 p15)]) (H10_22 p2 p13) (NX Try.prog 2 2 [] (FinP Try.prog Try.f10 2 (V10 2 r) (N10 2 r))) := by
 unfold F10 at hF
 refine TS.sq (TS.rg (TI.rn 2 [1, 2, 3] [0, 1, 2] (st 129 [(1, .int .u8 p14), (2, .int .u8 p15), (3, pt 2 0)]) [ab 5 e5 p2, ab 5 e5 p13, cl 53 [.int .u8 p0, .int .u8 p1, sv 0 p2.length ANY, .int .u8 p3, .int .u8 p4, .int .u8 p5, .int .u8 p6, .int .u8 p7, .int .u8 p8, .int .u8 p9, .int .u8 p10, .int .u8 p11, .int .u8 p12, sv 1 p13.length ANY]] (TI.dn (NX.sq (TS.sq ?_)))))
 obtain ⟨r1, h2, hF⟩ := of_do hF
 refine TS.rg (TI.ra 1 [1, 2, 3, 22] (st 129 [(1, .int .u8 p14), (2, .int .u8 p15), (3, pt 2 0), (22, ag [.int .u8 p0, .int .u8 p1, sv 0 p2.length ANY, .int .u8 p3, .int .u8 p4, .int .u8 p5, .int .u8 p6, .int .u8 p7, .int .u8 p8, .int .u8 p9, .int .u8 p10, .int .u8 p11, .int .u8 p12, sv 1 p13.length ANY])]) (TI.cp 32 [ag [.int .u8 p0, .int .u8 p1, sv 0 p2.length ANY, .int .u8 p3, .int .u8 p4, .int .u8 p5, .int .u8 p6, .int .u8 p7, .int .u8 p8, .int .u8 p9, .int .u8 p10, .int .u8 p11, .int .u8 p12, sv 1 p13.length ANY]] (ag [iv r1.1, iv r1.2.1, sv 3 r1.2.2.length ANY]) [ab 57 e57 r1.2.2] (PureSim.ren (hc := (H10_22 p2 p13)) (fun i => List.getD [(0, 0), (1, 0)] i (0, 0)) (C32 _ _ _ _ _ _ _ _ _ _ _ _ _ _ _ h2) (.ac (.ac (.nil _))) (.cons (Rn.agg' (.fl (.fl (.cons (Rn.any _ _ _ _ _ _ (nl rfl) rfl rfl (by decide)) (.fl (.fl (.fl (.fl (.fl (.fl (.fl (.fl (.fl (.fl (.cons (Rn.any _ _ _ _ _ _ (nl rfl) rfl rfl (by decide)) .nil))))))))))))))) .nil) (Rn.agg' (.fl (.fl (.cons (Rn.anyS (i' := 3) (nl rfl) rfl rfl) .nil)))) (newflat_cons (accB_flat (fun _ => rfl)) newflat_nil)) (TI.rn 2 [1, 2, 3, 7] [0, 1, 2, 3, 4] (st 129 [(1, .int .u8 p14), (2, .int .u8 p15), (3, pt 2 0), (7, pt 4 0)]) [ab 5 e5 p2, ab 5 e5 p13, cl 53 [.int .u8 p0, .int .u8 p1, sv 0 p2.length ANY, .int .u8 p3, .int .u8 p4, .int .u8 p5, .int .u8 p6, .int .u8 p7, .int .u8 p8, .int .u8 p9, .int .u8 p10, .int .u8 p11, .int .u8 p12, sv 1 p13.length ANY], ab 57 e57 r1.2.2, cl 24 [iv r1.1, iv r1.2.1, sv 3 r1.2.2.length ANY]] (TI.dn (NX.sq (TS.sq ?_))))))
 obtain ⟨r3, h4, hF⟩ := of_do hF
 refine TS.rg (TI.ra 1 [1, 2, 3, 7, 25] (st 129 [(1, .int .u8 p14), (2, .int .u8 p15), (3, pt 2 0), (7, pt 4 0), (25, ag [iv r1.1, iv r1.2.1, sv 3 r1.2.2.length ANY])]) (TI.cp 25 [ag [iv r1.1, iv r1.2.1, sv 3 r1.2.2.length ANY]] (.tuple ⟨[accV 5 r3.1.length, iv r3.2]⟩) [ab 3 e3 r3.1] (PureSim.ren (hc := [ab 57 e57 r1.2.2]) (fun i => List.getD [(3, 0)] i (0, 0)) (C25 _ _ _ _ h4) (.ac (.nil _)) (.cons (Rn.agg' (.fl (.fl (.cons (Rn.any _ _ _ _ _ _ (nl rfl) rfl rfl (by decide)) .nil)))) .nil) (Rn.tuple' (.cons (Rn.acc (i' := 5) (nl rfl) rfl) (.fl .nil))) (newflat_cons (accB_flat (fun _ => rfl)) newflat_nil)) (TI.rn 5 [1, 2, 3, 7, 8, 9] [0, 1, 2, 3, 4, 5] (st 129 [(1, .int .u8 p14), (2, .int .u8 p15), (3, pt 2 0), (7, pt 4 0), (8, accV 5 r3.1.length), (9, iv r3.2)]) [ab 5 e5 p2, ab 5 e5 p13, cl 53 [.int .u8 p0, .int .u8 p1, sv 0 p2.length ANY, .int .u8 p3, .int .u8 p4, .int .u8 p5, .int .u8 p6, .int .u8 p7, .int .u8 p8, .int .u8 p9, .int .u8 p10, .int .u8 p11, .int .u8 p12, sv 1 p13.length ANY], ab 57 e57 r1.2.2, cl 24 [iv r1.1, iv r1.2.1, sv 3 r1.2.2.length ANY], ab 3 e3 r3.1] (TI.dn (NX.sq (TS.sq (TS.sq (TS.rg ?_))))))))
 refine TI.ra 2 [1, 2, 3, 7, 8, 30] (st 129 [(1, .int .u8 p14), (2, .int .u8 p15), (3, pt 2 0), (7, pt 4 0), (8, accV 5 r3.1.length), (30, .bool (r3.2 != 0))]) (TI.dn (NX.sq ?_))
 refine TS.cd (.tmp 30) (r3.2 != 0) (fun hc5 => ?_) (fun hc5 => ?_)
 · replace hF := of_pos hF hc5
   refine TS.sq (TS.rg (TI.rn 1 [6] [0, 1] (st 129 [(6, .bool false)]) [ab 5 e5 p2, ab 5 e5 p13, .dead, .dead, .dead, .dead] (TI.dn (NX.sq (TS.rt (NX.sqR ?_))))))
   have hF := sj hF
   subst hF
   exact ⟨.inr rfl, rfl, .bool false, by kernel_rfl, WkV.flat0 (by kernel_rfl) (nl rfl)⟩
 replace hF := of_neg hF hc5
 refine TS.sk (NX.sq (TS.sq (TS.rg (TI.ra 1 [1, 2, 3, 7, 8, 10] (st 129 [(1, .int .u8 p14), (2, .int .u8 p15), (3, pt 2 0), (7, pt 4 0), (8, accV 5 r3.1.length), (10, iv 0)]) (TI.dn (NX.sq (TS.sq (TS.sq ?_))))))))
 refine TS.rg (TI.ra 4 [1, 2, 3, 7, 8, 10, 33, 34] (st 129 [(1, .int .u8 p14), (2, .int .u8 p15), (3, pt 2 0), (7, pt 4 0), (8, accV 5 r3.1.length), (10, iv 0), (33, iv (r1.2.2.length : Int)), (34, iv 0)]) (TI.dn (NX.sq (TS.bk 0 ?_))))
 obtain ⟨r65, h66, hF⟩ := of_do hF
 refine TS.lp (TL.weak (a2 := (st 129 [(1, .int .u8 p14), (2, .int .u8 p15), (3, pt 2 0), (7, pt 3 0), (8, accV 5 r3.1.length), (10, iv 0), (33, iv (r1.2.2.length : Int)), (34, iv 0)])) (h2 := (H10_7 p2 p13 p0 p1 p3 p4 p5 p6 p7 p8 p9 p10 p11 p12 r1 r3)) (Wk.an [2, 4, 3, 5] (.ac (.ac (.lt (.fl (.fl (.sl (.fl (.fl (.fl (.fl (.fl (.fl (.fl (.fl (.fl (.fl (.sl .nil)))))))))))))) (.lt (.fl (.fl (.cons (Rn.anyS (nl rfl) rfl (by first | rfl | simp only [List.length_set])) .nil))) (.ac (.ac (.nil _))))))) [.int .u8 p14, .int .u8 p15, pt 2 0, pt 4 0, accV 5 r3.1.length, iv 0, iv (r1.2.2.length : Int), iv 0] (.fl (.fl (.pp (.pp (.cons (Rn.acc (nl rfl) rfl) (.fl (.fl (.fl .nil))))))))) (TL.post (L10l0 p0 p1 p2 p3 p4 p5 p6 p7 p8 p9 p10 p11 p12 p13 p14 p15 r1 r3 0 0 r65 h66) ?_))
 rintro e a1 h1 hp
 rcases r65 with o67 | o68
 · skip
   obtain ⟨rfl, hw⟩ := hp
   refine ⟨(st 129 [(6, .bool false)]), (H10_22 p2 p13), (NX.bkR (NX.sqR ?_)), hw⟩
   have hF := sj hF
   subst hF
   exact ⟨.inr rfl, rfl, .bool false, by kernel_rfl, WkV.flat0 (by kernel_rfl) (nl rfl)⟩
 skip
 obtain ⟨rfl, hw⟩ := hp
 refine ⟨(st 129 [(1, .int .u8 p14), (2, .int .u8 p15), (3, pt 2 0), (8, accV 3 r3.1.length), (10, iv o68)]), (H10_9 p2 p13 p0 p1 p3 p4 p5 p6 p7 p8 p9 p10 p11 p12 r3), (NX.bkX (NX.sq (TS.sq (TS.sq (TS.rg (TI.rn 4 [1, 2, 3, 74] [0, 1, 2] (st 129 [(1, .int .u8 p14), (2, .int .u8 p15), (3, pt 2 0), (74, .bool (o68 != (r3.1.length : Int)))]) [ab 5 e5 p2, ab 5 e5 p13, cl 53 [.int .u8 p0, .int .u8 p1, sv 0 p2.length ANY, .int .u8 p3, .int .u8 p4, .int .u8 p5, .int .u8 p6, .int .u8 p7, .int .u8 p8, .int .u8 p9, .int .u8 p10, .int .u8 p11, .int .u8 p12, sv 1 p13.length ANY], .dead] (TI.dn (NX.sq ?_)))))))), hw⟩
 refine TS.cd (.tmp 74) (o68 != (r3.1.length : Int)) (fun hc69 => ?_) (fun hc69 => ?_)
 · replace hF := of_pos hF hc69
   refine TS.sq (TS.rg (TI.rn 1 [6] [0, 1] (st 129 [(6, .bool false)]) [ab 5 e5 p2, ab 5 e5 p13, .dead, .dead] (TI.dn (NX.sq (TS.rt (NX.sqR ?_))))))
   have hF := sj hF
   subst hF
   exact ⟨.inr rfl, rfl, .bool false, by kernel_rfl, WkV.flat0 (by kernel_rfl) (nl rfl)⟩
 replace hF := of_neg hF hc69
 refine TS.sk (NX.sq (TS.sq ?_))
 obtain ⟨r70, h71, hF⟩ := of_do hF
 refine TS.rg (TI.rn 1 [1, 2, 76] [0, 1] (st 129 [(1, .int .u8 p14), (2, .int .u8 p15), (76, ag [.int .u8 p0, .int .u8 p1, sv 0 p2.length ANY, .int .u8 p3, .int .u8 p4, .int .u8 p5, .int .u8 p6, .int .u8 p7, .int .u8 p8, .int .u8 p9, .int .u8 p10, .int .u8 p11, .int .u8 p12, sv 1 p13.length ANY])]) [ab 5 e5 p2, ab 5 e5 p13, .dead, .dead] (TI.cp 36 [ag [.int .u8 p0, .int .u8 p1, sv 0 p2.length ANY, .int .u8 p3, .int .u8 p4, .int .u8 p5, .int .u8 p6, .int .u8 p7, .int .u8 p8, .int .u8 p9, .int .u8 p10, .int .u8 p11, .int .u8 p12, sv 1 p13.length ANY]] (.tuple ⟨[ag [iv r70.1.1, iv r70.1.2.1, accV 4 r70.1.2.2.length], accV 5 r70.2.1.length, accV 6 r70.2.2.length]⟩) [ab 57 e57 r70.1.2.2, ab 3 e3 r70.2.1, ab 3 e3 r70.2.2] (PureSim.ren (hc := (H10_22 p2 p13)) (fun i => List.getD [(0, 0), (1, 0)] i (0, 0)) (C36 _ _ _ _ _ _ _ _ _ _ _ _ _ _ _ h71) (.ac (.ac (.nil _))) (.cons (Rn.agg' (.fl (.fl (.cons (Rn.any _ _ _ _ _ _ (nl rfl) rfl rfl (by decide)) (.fl (.fl (.fl (.fl (.fl (.fl (.fl (.fl (.fl (.fl (.cons (Rn.any _ _ _ _ _ _ (nl rfl) rfl rfl (by decide)) .nil))))))))))))))) .nil) (Rn.tuple' (.cons (Rn.agg' (.fl (.fl (.cons (Rn.acc (i' := 4) (nl rfl) rfl) .nil)))) (.cons (Rn.acc (i' := 5) (nl rfl) rfl) (.cons (Rn.acc (i' := 6) (nl rfl) rfl) .nil)))) (newflat_cons (accB_flat (fun _ => rfl)) (newflat_cons (accB_flat (fun _ => rfl)) (newflat_cons (accB_flat (fun _ => rfl)) newflat_nil)))) (TI.rn 8 [1, 2, 14] [0, 1, 4, 7] (st 129 [(1, .int .u8 p14), (2, .int .u8 p15), (14, pt 7 0)]) (H10_18 p2 p13 r70) (TI.dn (NX.sq (TS.sq (TS.sq (TS.rg ?_))))))))
 refine TI.ra 4 [1, 2, 14, 84] (st 129 [(1, .int .u8 p14), (2, .int .u8 p15), (14, pt 7 0), (84, .bool ((r70.1.2.2.length : Int) == 0))]) (TI.dn (NX.sq ?_))
 refine TS.cd (.tmp 84) ((r70.1.2.2.length : Int) == 0) (fun hc72 => ?_) (fun hc72 => ?_)
 · replace hF := of_pos hF hc72
   refine TS.sq ?_
   obtain ⟨r73, h74, hF⟩ := of_do hF
   refine TS.rg (TI.cf (C14 _ h74) (TI.rn 1 [6] [0, 1] (st 129 [(6, .bool r73)]) [ab 5 e5 p2, ab 5 e5 p13, .dead, .dead, .dead, .dead, .dead, .dead] (TI.dn (NX.sq (TS.rt (NX.sqR ?_))))))
   have hF := sj hF
   subst hF
   exact ⟨.inr rfl, rfl, .bool r73, by kernel_rfl, WkV.flat0 (by kernel_rfl) (nl rfl)⟩
 replace hF := of_neg hF hc72
 refine TS.sk (NX.sq (TS.sq ?_))
 obtain ⟨hg75, hF⟩ := of_guardn hF
 refine TS.rg (TI.ra 5 [2, 14, 87, 90] (st 129 [(2, .int .u8 p15), (14, pt 7 0), (87, iv (w64 p14)), (90, iv (r70.1.2.2.length : Int))]) (TI.o { val := iv (Int.tmod (w64 p14) (r70.1.2.2.length : Int)) } (q_int (P := Try.prog) (op := .rem) (ty := 3) (ox := (.tmp 87)) (oy := (.tmp 90)) (k := .i64) (k' := .i64) (y := w64 p14) (z := (r70.1.2.2.length : Int)) (by kernel_rfl) (rem_ok hg75)) [2, 14, 91] [0, 1, 4, 7] (st 129 [(2, .int .u8 p15), (14, pt 7 0), (91, iv (Int.tmod (w64 p14) (r70.1.2.2.length : Int)))]) (H10_18 p2 p13 r70) (TI.ra 1 [2, 14, 17] (st 129 [(2, .int .u8 p15), (14, pt 7 0), (17, iv (Int.tmod (w64 p14) (r70.1.2.2.length : Int)))]) (TI.dn (NX.sq (TS.sq ?_))))))
 obtain ⟨hg76, hF⟩ := of_guard hF
 obtain ⟨o77, h78, hF⟩ := of_do hF
 replace h78 := sj h78
 refine TS.rg (TI.ra 3 [2, 14, 17, 93, 94] (st 129 [(2, .int .u8 p15), (14, pt 7 0), (17, iv (Int.tmod (w64 p14) (r70.1.2.2.length : Int))), (93, accV 4 r70.1.2.2.length), (94, iv (Int.tmod (w64 p14) (r70.1.2.2.length : Int)))]) (TI.o { val := .pointer (some ⟨4, 0 + (Int.toNat (Int.tmod (w64 p14) (r70.1.2.2.length : Int))) * 2, none⟩) } (q_ixAcc (P := Try.prog) (t := 22) (s := 2) (e := 57) 4 r70.1.2.2.length (by kernel_rfl) hg76 (by kernel_rfl) (by kernel_rfl)) [2, 14, 17, 93, 94, 95] [0, 1, 4, 7] (st 129 [(2, .int .u8 p15), (14, pt 7 0), (17, iv (Int.tmod (w64 p14) (r70.1.2.2.length : Int))), (93, accV 4 r70.1.2.2.length), (94, iv (Int.tmod (w64 p14) (r70.1.2.2.length : Int))), (95, .pointer (some ⟨4, 0 + (Int.toNat (Int.tmod (w64 p14) (r70.1.2.2.length : Int))) * 2, none⟩))]) (H10_18 p2 p13 r70) (TI.ra 1 [2, 14, 17, 93, 94, 96] (st 129 [(2, .int .u8 p15), (14, pt 7 0), (17, iv (Int.tmod (w64 p14) (r70.1.2.2.length : Int))), (93, accV 4 r70.1.2.2.length), (94, iv (Int.tmod (w64 p14) (r70.1.2.2.length : Int))), (96, .pointer (some ⟨4, 0 + (Int.toNat (Int.tmod (w64 p14) (r70.1.2.2.length : Int))) * 2 + 1, none⟩))]) (TI.o { val := iv o77.2 } (q_n1a Try.prog (H10_18 p2 p13 r70) 3 4 (0 + (Int.toNat (Int.tmod (w64 p14) (r70.1.2.2.length : Int))) * 2 + 1) r70.1.2.2 e57 2 57 (Int.toNat (Int.tmod (w64 p14) (r70.1.2.2.length : Int))) 1 (0, 0) h78) [2, 14, 17, 93, 94, 97] [0, 1, 4, 7] (st 129 [(2, .int .u8 p15), (14, pt 7 0), (17, iv (Int.tmod (w64 p14) (r70.1.2.2.length : Int))), (93, accV 4 r70.1.2.2.length), (94, iv (Int.tmod (w64 p14) (r70.1.2.2.length : Int))), (97, iv o77.2)]) (H10_18 p2 p13 r70) (TI.ra 3 [14, 17, 93, 94, 100] (st 129 [(14, pt 7 0), (17, iv (Int.tmod (w64 p14) (r70.1.2.2.length : Int))), (93, accV 4 r70.1.2.2.length), (94, iv (Int.tmod (w64 p14) (r70.1.2.2.length : Int))), (100, iv (w64 (o77.2 + (w64 p15))))]) (TI.o { val := .pointer (some ⟨4, 0 + (Int.toNat (Int.tmod (w64 p14) (r70.1.2.2.length : Int))) * 2, none⟩) } (q_ixAcc (P := Try.prog) (t := 22) (s := 2) (e := 57) 4 r70.1.2.2.length (by kernel_rfl) hg76 (by kernel_rfl) (by kernel_rfl)) [14, 17, 100, 101] [0, 1, 4, 7] (st 129 [(14, pt 7 0), (17, iv (Int.tmod (w64 p14) (r70.1.2.2.length : Int))), (100, iv (w64 (o77.2 + (w64 p15)))), (101, .pointer (some ⟨4, 0 + (Int.toNat (Int.tmod (w64 p14) (r70.1.2.2.length : Int))) * 2, none⟩))]) (H10_18 p2 p13 r70) (TI.ra 1 [14, 17, 100, 102] (st 129 [(14, pt 7 0), (17, iv (Int.tmod (w64 p14) (r70.1.2.2.length : Int))), (100, iv (w64 (o77.2 + (w64 p15)))), (102, .pointer (some ⟨4, 0 + (Int.toNat (Int.tmod (w64 p14) (r70.1.2.2.length : Int))) * 2 + 1, none⟩))]) ?_)))))))
 refine TI.o { val := undef, upd := some (4, .cells 57 (List.flatMap e57 (List.set r70.1.2.2 (Int.toNat (Int.tmod (w64 p14) (r70.1.2.2.length : Int))) ((List.getD r70.1.2.2 (Int.toNat (Int.tmod (w64 p14) (r70.1.2.2.length : Int))) (0, 0)).1, w64 (o77.2 + (w64 p15)))))) } (q_st (P := Try.prog) (base := 2) (hp := (H10_18 p2 p13 r70)) (t := 3) (b := 4) (off := 0 + (Int.toNat (Int.tmod (w64 p14) (r70.1.2.2.length : Int))) * 2 + 1) (l := r70.1.2.2) (enc := e57) (s := 2) (T := 57) (i := Int.toNat (Int.tmod (w64 p14) (r70.1.2.2.length : Int))) (k := 1) (n := 1) (y := iv (w64 (o77.2 + (w64 p15)))) (xs := [iv (w64 (o77.2 + (w64 p15)))]) (0, 0) ((List.getD r70.1.2.2 (Int.toNat (Int.tmod (w64 p14) (r70.1.2.2.length : Int))) (0, 0)).1, w64 (o77.2 + (w64 p15))) (by kernel_rfl) (accB_at (h := (H10_18 p2 p13 r70)) (n := List.length r70.1.2.2) (i := Int.toNat (Int.tmod (w64 p14) (r70.1.2.2.length : Int))) (by kernel_rfl) (by first | omega | (simp <;> omega))) (by decide) (by kernel_rfl) (by kernel_rfl) rfl (by kernel_rfl) (fun _ => rfl) (by omega) (nl rfl) (by first | omega | (simp <;> omega)) rfl) [14, 17] [0, 1, 4, 7] (st 129 [(14, pt 7 0), (17, iv (Int.tmod (w64 p14) (r70.1.2.2.length : Int)))]) [ab 5 e5 p2, ab 5 e5 p13, .dead, .dead, .cells 57 (List.flatMap e57 (List.set r70.1.2.2 (Int.toNat (Int.tmod (w64 p14) (r70.1.2.2.length : Int))) ((List.getD r70.1.2.2 (Int.toNat (Int.tmod (w64 p14) (r70.1.2.2.length : Int))) (0, 0)).1, w64 (o77.2 + (w64 p15))))), .dead, .dead, cl 24 [iv r70.1.1, iv r70.1.2.1, accV 4 r70.1.2.2.length]] (TI.dn (NX.sq (TS.sq ?_)))
 obtain ⟨r79, h80, hF⟩ := of_do hF
 refine TS.rg (TI.rn 1 [17, 104] [0, 1, 4] (st 129 [(17, iv (Int.tmod (w64 p14) (r70.1.2.2.length : Int))), (104, ag [iv r70.1.1, iv r70.1.2.1, accV 4 r70.1.2.2.length])]) [ab 5 e5 p2, ab 5 e5 p13, .dead, .dead, .cells 57 (List.flatMap e57 (List.set r70.1.2.2 (Int.toNat (Int.tmod (w64 p14) (r70.1.2.2.length : Int))) ((List.getD r70.1.2.2 (Int.toNat (Int.tmod (w64 p14) (r70.1.2.2.length : Int))) (0, 0)).1, w64 (o77.2 + (w64 p15))))), .dead, .dead, .dead] (TI.cp 25 [ag [iv r70.1.1, iv r70.1.2.1, accV 4 r70.1.2.2.length]] (.tuple ⟨[accV 8 r79.1.length, iv r79.2]⟩) [ab 3 e3 r79.1] (PureSim.ren (hc := [accB 57 (List.length (List.set r70.1.2.2 (Int.toNat (Int.tmod (w64 p14) (r70.1.2.2.length : Int))) ((List.getD r70.1.2.2 (Int.toNat (Int.tmod (w64 p14) (r70.1.2.2.length : Int))) (0, 0)).1, w64 (o77.2 + (w64 p15))))) (List.flatMap e57 (List.set r70.1.2.2 (Int.toNat (Int.tmod (w64 p14) (r70.1.2.2.length : Int))) ((List.getD r70.1.2.2 (Int.toNat (Int.tmod (w64 p14) (r70.1.2.2.length : Int))) (0, 0)).1, w64 (o77.2 + (w64 p15)))))]) (fun i => List.getD [(4, 0)] i (0, 0)) (C25 _ _ _ _ h80) (.cons (At.accU (by kernel_rfl) rfl (fun _ => rfl)) (.nil _)) (.cons (Rn.agg' (.fl (.fl (.cons (accAE (i' := 4) (nl rfl) rfl (by simp only [List.length_set])) .nil)))) .nil) (Rn.tuple' (.cons (Rn.acc (i' := 8) (nl rfl) rfl) (.fl .nil))) (newflat_cons (accB_flat (fun _ => rfl)) newflat_nil)) (TI.rn 5 [9, 17, 18] [0, 1, 8] (st 129 [(9, iv r79.2), (17, iv (Int.tmod (w64 p14) (r70.1.2.2.length : Int))), (18, accV 8 r79.1.length)]) [ab 5 e5 p2, ab 5 e5 p13, .dead, .dead, .dead, .dead, .dead, .dead, ab 3 e3 r79.1] (TI.dn (NX.sq (TS.sq (TS.rg (TI.ra 1 [9, 17, 18, 19] (st 129 [(9, iv r79.2), (17, iv (Int.tmod (w64 p14) (r70.1.2.2.length : Int))), (18, accV 8 r79.1.length), (19, .bool false)]) ?_))))))))
 refine TI.dn (NX.sq (TS.sq (TS.sq (TS.rg (TI.ra 3 [9, 17, 19, 108, 109, 110] (st 129 [(9, iv r79.2), (17, iv (Int.tmod (w64 p14) (r70.1.2.2.length : Int))), (19, .bool false), (108, accV 8 r79.1.length), (109, iv (r79.1.length : Int)), (110, iv 0)]) (TI.dn (NX.sq (TS.bk 2 ?_))))))))
 obtain ⟨r100, h101, hF⟩ := of_do hF
 refine TS.lp (TL.weak (a2 := (st 129 [(9, iv r79.2), (17, iv (Int.tmod (w64 p14) (r70.1.2.2.length : Int))), (19, .bool false), (108, accV 2 r79.1.length), (109, iv (r79.1.length : Int)), (110, iv 0)])) (h2 := (H10_21 p2 p13 r79)) (Wk.an [8] (.ac (.ac (.ac (.nil _)))) [iv r79.2, iv (Int.tmod (w64 p14) (r70.1.2.2.length : Int)), .bool false, accV 8 r79.1.length, iv (r79.1.length : Int), iv 0] (.fl (.fl (.fl (.cons (Rn.acc (nl rfl) rfl) (.fl (.fl .nil))))))) (TL.post (L10l1 p2 p13 p14 r70 r79 false 0 r100 h101) ?_))
 rintro e a1 h1 hp
 obtain ⟨rfl, hw⟩ := hp
 refine ⟨(st 129 [(9, iv r79.2), (19, .bool r100)]), (H10_22 p2 p13), (NX.bkX (NX.sq (TS.sq ?_))), hw⟩
 obtain ⟨m105, hm106, hF⟩ := of_do hF
 have hK : NX Try.prog 2 2 [.sq c10.s2.s2.s2.s2.s2.s2.s2.s2.s2.s2.s2.s2.s2.s2.s2] (FinP Try.prog Try.f10 2 (V10 2 r) (N10 2 r)) .normal (st 129 [(6, .bool m105)]) (H10_22 p2 p13) := by
  refine NX.sq (TS.rt ?_)
  have hF := sj hF
  subst hF
  exact ⟨.inr rfl, rfl, .bool m105, by kernel_rfl, WkV.flat0 (by kernel_rfl) (nl rfl)⟩
 rcases Bool.eq_false_or_eq_true (r79.2 == 0) with hc102 | hc102
 · replace hm106 := of_pos hm106 hc102
   cases r100 with
   | true =>
    replace hm106 := of_pos hm106 rfl
    have hX := of_do hm106
    clear hm106
    obtain ⟨r103, h104, hm106⟩ := hX
    have hm106 := sj hm106
    subst hm106
    exact TS.rg (TI.ra 1 [19, 121] (st 129 [(19, .bool true), (121, iv r79.2)]) (TI.o { val := .bool true } (q_conv (e := r79.2 == 0) (b := true) (by kernel_rfl) hc102) [19, 122] [0, 1] (st 129 [(19, .bool true), (122, .bool true)]) (H10_22 p2 p13) (TI.ra 4 [126] (st 129 [(126, .bool true)]) (TI.cf (C14 _ h104) (TI.ra 2 [6] (st 129 [(6, .bool r103)]) (TI.dn hK))))))
   | false =>
    replace hm106 := of_neg hm106 rfl
    have hm106 := sj hm106
    subst hm106
    exact TS.rg (TI.ra 1 [19, 121] (st 129 [(19, .bool false), (121, iv r79.2)]) (TI.o { val := .bool true } (q_conv (e := r79.2 == 0) (b := true) (by kernel_rfl) hc102) [19, 122] [0, 1] (st 129 [(19, .bool false), (122, .bool true)]) (H10_22 p2 p13) (TI.ra 7 [6] (st 129 [(6, .bool false)]) (TI.dn hK))))
 replace hm106 := of_neg hm106 hc102
 have hm106 := sj hm106
 subst hm106
 exact TS.rg (TI.ra 1 [19, 121] (st 129 [(19, .bool r100), (121, iv r79.2)]) (TI.o { val := .bool false } (q_conv (e := r79.2 == 0) (b := false) (by kernel_rfl) hc102) [19, 122] [0, 1] (st 129 [(19, .bool r100), (122, .bool false)]) (H10_22 p2 p13) (TI.ra 7 [6] (st 129 [(6, .bool false)]) (TI.dn hK))))
theorem C10 (p0 p1 : Int) (p2 : List Int) (p3 p4 p5 p6 p7 p8 p9 p10 p11 p12 : Int) (p13 : List Int) (p14 p15 : Int) (r : Bool) (hF : F10 p0 p1 p2 p3 p4 p5 p6 p7 p8 p9 p10 p11 p12 p13 p14 p15 = some r) : PureSim Try.prog 10 [ag [.int .u8 p0, .int .u8 p1, sv 0 p2.length ANY, .int .u8 p3, .int .u8 p4, .int .u8 p5, .int .u8 p6, .int .u8 p7, .int .u8 p8, .int .u8 p9, .int .u8 p10, .int .u8 p11, .int .u8 p12, sv 1 p13.length ANY], .int .u8 p14, .int .u8 p15] (H10_22 p2 p13) (V10 2 r) (N10 2 r) :=
 PureSim.of_Fin Try.func10 (c := c10) (by kernel_rfl) (by kernel_rfl) 2 rfl [0, 1, 2] [0, 1] (by kernel_rfl) (B10 p0 p1 p2 p3 p4 p5 p6 p7 p8 p9 p10 p11 p12 p13 p14 p15 r hF)
end
end Go.Proofs.Ytdekbjfjbbdjgaa
