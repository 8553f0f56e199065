/- What functions of the program compute, and that they do. -/
import Derived.Test.YtenjelagfbceeaaG8a
set_option linter.unusedVariables false
set_option linter.unusedSimpArgs false
set_option maxRecDepth 100000
set_option maxHeartbeats 4000000
namespace Go.Proofs.Ytenjelagfbceeaa
open Go Go.Cl
-- agonic/agoniclaw06.MagnetCertified
noncomputable def c8 : Code := Try.f8.code
def S8_0 (m66 : (Bool × Int)) (r19 : (Int × Int)) (r68 : Int) (r3 : ((Int × Int) × (Int × Int) × Int)) (r70 : Int) (r1 : (((Int × Int) × (Int × Int)) × (Int × Int))) (r5 : ((Int × Int) × (Int × Int) × Int)) (r15 : (Int × Int)) (r83 : Int) : CAct := (st 159 [(5, pt 0 0), (6, pt 1 0), (7, pt 2 0), (8, pt 3 0), (10, pt 4 0), (11, pt 5 0), (15, pt 6 0), (16, pt 7 0), (18, .bool m66.1), (22, iv m66.2), (128, .bool false), (129, ag [iv r19.1, iv r19.2]), (130, ag [iv r19.1, iv r19.2]), (131, iv r68), (132, ag [iv r3.2.1.1, iv r3.2.1.2]), (133, ag [iv r3.2.1.1, iv r3.2.1.2]), (134, iv r70), (135, .bool false), (136, .bool true), (137, .bool true), (138, ag [iv r1.1.1.1, iv r1.1.1.2, iv r1.1.2.1, iv r1.1.2.2]), (139, ag [iv r5.1.1, iv r5.1.2]), (140, ag [iv r5.2.1.1, iv r5.2.1.2]), (141, ag [iv r1.2.1, iv r1.2.2]), (142, ag [iv r15.1, iv r15.2]), (143, iv r83), (144, iv m66.2), (145, .bool true), (146, .bool true), (147, .bool true), (148, ag [iv r1.1.1.1, iv r1.1.1.2, iv r1.1.2.1, iv r1.1.2.2]), (149, ag [iv r5.1.1, iv r5.1.2]), (150, ag [iv r5.2.1.1, iv r5.2.1.2]), (151, ag [iv r1.2.1, iv r1.2.2]), (152, ag [iv r3.1.1, iv r3.1.2])])
def S8_1 (m66 : (Bool × Int)) (r19 : (Int × Int)) (r68 : Int) (r3 : ((Int × Int) × (Int × Int) × Int)) (r70 : Int) (r1 : (((Int × Int) × (Int × Int)) × (Int × Int))) (r5 : ((Int × Int) × (Int × Int) × Int)) (r15 : (Int × Int)) (r74 : Int) : CAct := (st 159 [(5, pt 0 0), (6, pt 1 0), (7, pt 2 0), (8, pt 3 0), (10, pt 4 0), (11, pt 5 0), (15, pt 6 0), (16, pt 7 0), (18, .bool m66.1), (22, iv m66.2), (128, .bool true), (129, ag [iv r19.1, iv r19.2]), (130, ag [iv r19.1, iv r19.2]), (131, iv r68), (132, ag [iv r3.2.1.1, iv r3.2.1.2]), (133, ag [iv r3.2.1.1, iv r3.2.1.2]), (134, iv r70), (135, .bool true), (136, .bool true), (137, .bool true), (138, ag [iv r1.1.1.1, iv r1.1.1.2, iv r1.1.2.1, iv r1.1.2.2]), (139, ag [iv r5.1.1, iv r5.1.2]), (140, ag [iv r5.2.1.1, iv r5.2.1.2]), (141, ag [iv r1.2.1, iv r1.2.2]), (142, ag [iv r15.1, iv r15.2]), (143, iv r74), (144, iv m66.2), (145, .bool true), (146, .bool true), (147, .bool true), (148, ag [iv r1.1.1.1, iv r1.1.1.2, iv r1.1.2.1, iv r1.1.2.2]), (149, ag [iv r5.1.1, iv r5.1.2]), (150, ag [iv r5.2.1.1, iv r5.2.1.2]), (151, ag [iv r1.2.1, iv r1.2.2]), (152, ag [iv r3.1.1, iv r3.1.2])])
def S8_2 (m66 : (Bool × Int)) (r19 : (Int × Int)) (r68 : Int) (r3 : ((Int × Int) × (Int × Int) × Int)) (r70 : Int) (r1 : (((Int × Int) × (Int × Int)) × (Int × Int))) (r5 : ((Int × Int) × (Int × Int) × Int)) (r15 : (Int × Int)) (r83 : Int) : CAct := (st 159 [(5, pt 0 0), (6, pt 1 0), (7, pt 2 0), (8, pt 3 0), (10, pt 4 0), (11, pt 5 0), (15, pt 6 0), (16, pt 7 0), (18, .bool m66.1), (22, iv m66.2), (128, .bool false), (129, ag [iv r19.1, iv r19.2]), (130, ag [iv r19.1, iv r19.2]), (131, iv r68), (132, ag [iv r3.2.1.1, iv r3.2.1.2]), (133, ag [iv r3.2.1.1, iv r3.2.1.2]), (134, iv r70), (135, .bool false), (136, .bool true), (137, .bool true), (138, ag [iv r1.1.1.1, iv r1.1.1.2, iv r1.1.2.1, iv r1.1.2.2]), (139, ag [iv r5.1.1, iv r5.1.2]), (140, ag [iv r5.2.1.1, iv r5.2.1.2]), (141, ag [iv r1.2.1, iv r1.2.2]), (142, ag [iv r15.1, iv r15.2]), (143, iv r83), (144, iv m66.2)])
def S8_3 (m66 : (Bool × Int)) (r19 : (Int × Int)) (r68 : Int) (r3 : ((Int × Int) × (Int × Int) × Int)) (r70 : Int) (r1 : (((Int × Int) × (Int × Int)) × (Int × Int))) (r5 : ((Int × Int) × (Int × Int) × Int)) (r15 : (Int × Int)) (r74 : Int) : CAct := (st 159 [(5, pt 0 0), (6, pt 1 0), (7, pt 2 0), (8, pt 3 0), (10, pt 4 0), (11, pt 5 0), (15, pt 6 0), (16, pt 7 0), (18, .bool m66.1), (22, iv m66.2), (128, .bool true), (129, ag [iv r19.1, iv r19.2]), (130, ag [iv r19.1, iv r19.2]), (131, iv r68), (132, ag [iv r3.2.1.1, iv r3.2.1.2]), (133, ag [iv r3.2.1.1, iv r3.2.1.2]), (134, iv r70), (135, .bool true), (136, .bool true), (137, .bool true), (138, ag [iv r1.1.1.1, iv r1.1.1.2, iv r1.1.2.1, iv r1.1.2.2]), (139, ag [iv r5.1.1, iv r5.1.2]), (140, ag [iv r5.2.1.1, iv r5.2.1.2]), (141, ag [iv r1.2.1, iv r1.2.2]), (142, ag [iv r15.1, iv r15.2]), (143, iv r74), (144, iv m66.2)])
def S8_4 (m66 : (Bool × Int)) (r19 : (Int × Int)) (r68 : Int) (r3 : ((Int × Int) × (Int × Int) × Int)) (r70 : Int) (r1 : (((Int × Int) × (Int × Int)) × (Int × Int))) (r5 : ((Int × Int) × (Int × Int) × Int)) (r15 : (Int × Int)) : CAct := (st 159 [(5, pt 0 0), (6, pt 1 0), (7, pt 2 0), (8, pt 3 0), (10, pt 4 0), (11, pt 5 0), (15, pt 6 0), (16, pt 7 0), (18, .bool m66.1), (22, iv m66.2), (128, .bool false), (129, ag [iv r19.1, iv r19.2]), (130, ag [iv r19.1, iv r19.2]), (131, iv r68), (132, ag [iv r3.2.1.1, iv r3.2.1.2]), (133, ag [iv r3.2.1.1, iv r3.2.1.2]), (134, iv r70), (135, .bool false), (136, .bool true), (137, .bool true), (138, ag [iv r1.1.1.1, iv r1.1.1.2, iv r1.1.2.1, iv r1.1.2.2]), (139, ag [iv r5.1.1, iv r5.1.2]), (140, ag [iv r5.2.1.1, iv r5.2.1.2]), (141, ag [iv r1.2.1, iv r1.2.2]), (142, ag [iv r15.1, iv r15.2])])
def S8_5 (m66 : (Bool × Int)) (r19 : (Int × Int)) (r68 : Int) (r3 : ((Int × Int) × (Int × Int) × Int)) (r70 : Int) (r1 : (((Int × Int) × (Int × Int)) × (Int × Int))) (r5 : ((Int × Int) × (Int × Int) × Int)) (r15 : (Int × Int)) : CAct := (st 159 [(5, pt 0 0), (6, pt 1 0), (7, pt 2 0), (8, pt 3 0), (10, pt 4 0), (11, pt 5 0), (15, pt 6 0), (16, pt 7 0), (18, .bool m66.1), (22, iv m66.2), (128, .bool true), (129, ag [iv r19.1, iv r19.2]), (130, ag [iv r19.1, iv r19.2]), (131, iv r68), (132, ag [iv r3.2.1.1, iv r3.2.1.2]), (133, ag [iv r3.2.1.1, iv r3.2.1.2]), (134, iv r70), (135, .bool true), (136, .bool true), (137, .bool true), (138, ag [iv r1.1.1.1, iv r1.1.1.2, iv r1.1.2.1, iv r1.1.2.2]), (139, ag [iv r5.1.1, iv r5.1.2]), (140, ag [iv r5.2.1.1, iv r5.2.1.2]), (141, ag [iv r1.2.1, iv r1.2.2]), (142, ag [iv r15.1, iv r15.2])])
def H8_6 (r1 : (((Int × Int) × (Int × Int)) × (Int × Int))) (r3 : ((Int × Int) × (Int × Int) × Int)) (r5 : ((Int × Int) × (Int × Int) × Int)) (r15 : (Int × Int)) (r19 : (Int × Int)) (r7 : (((Int × Int) × (Int × Int)) × Bool)) (r30 : (Int × Int)) : List Blk := [cl 25 [iv r1.1.1.1, iv r1.1.1.2, iv r1.1.2.1, iv r1.1.2.2], cl 23 [iv r1.2.1, iv r1.2.2], cl 27 [iv r3.1.1, iv r3.1.2], cl 23 [iv r3.2.1.1, iv r3.2.1.2], cl 27 [iv r5.1.1, iv r5.1.2], cl 27 [iv r5.2.1.1, iv r5.2.1.2], cl 27 [iv r15.1, iv r15.2], cl 23 [iv r19.1, iv r19.2], cl 23 [iv r7.1.1.1, iv r7.1.1.2, iv r7.1.2.1, iv r7.1.2.2, iv r30.1, iv r30.2], .dead]
def H8_7 (r1 : (((Int × Int) × (Int × Int)) × (Int × Int))) (r3 : ((Int × Int) × (Int × Int) × Int)) (r5 : ((Int × Int) × (Int × Int) × Int)) (r15 : (Int × Int)) (r19 : (Int × Int)) (r7 : (((Int × Int) × (Int × Int)) × Bool)) (r30 : (Int × Int)) : List Blk := [cl 25 [iv r1.1.1.1, iv r1.1.1.2, iv r1.1.2.1, iv r1.1.2.2], cl 23 [iv r1.2.1, iv r1.2.2], cl 27 [iv r3.1.1, iv r3.1.2], cl 23 [iv r3.2.1.1, iv r3.2.1.2], cl 27 [iv r5.1.1, iv r5.1.2], cl 27 [iv r5.2.1.1, iv r5.2.1.2], cl 27 [iv r15.1, iv r15.2], cl 23 [iv r19.1, iv r19.2], cl 23 [iv r7.1.1.1, iv r7.1.1.2, iv r7.1.2.1, iv r7.1.2.2, iv r30.1, iv r30.2]]
def H8_8 (r1 : (((Int × Int) × (Int × Int)) × (Int × Int))) (r3 : ((Int × Int) × (Int × Int) × Int)) (r5 : ((Int × Int) × (Int × Int) × Int)) (r7 : (((Int × Int) × (Int × Int)) × Bool)) (r15 : (Int × Int)) (r19 : (Int × Int)) : List Blk := [cl 25 [iv r1.1.1.1, iv r1.1.1.2, iv r1.1.2.1, iv r1.1.2.2], cl 23 [iv r1.2.1, iv r1.2.2], cl 27 [iv r3.1.1, iv r3.1.2], cl 23 [iv r3.2.1.1, iv r3.2.1.2], cl 27 [iv r5.1.1, iv r5.1.2], cl 27 [iv r5.2.1.1, iv r5.2.1.2], cl 25 [iv r7.1.1.1, iv r7.1.1.2, iv r7.1.2.1, iv r7.1.2.2], cl 27 [iv r15.1, iv r15.2], cl 23 [iv r19.1, iv r19.2]]
def S8_9 (m66 : (Bool × Int)) (r19 : (Int × Int)) (r68 : Int) (r3 : ((Int × Int) × (Int × Int) × Int)) : CAct := (st 159 [(5, pt 0 0), (6, pt 1 0), (7, pt 2 0), (8, pt 3 0), (10, pt 4 0), (11, pt 5 0), (15, pt 6 0), (16, pt 7 0), (18, .bool m66.1), (22, iv m66.2), (128, .bool false), (129, ag [iv r19.1, iv r19.2]), (130, ag [iv r19.1, iv r19.2]), (131, iv r68), (132, ag [iv r3.2.1.1, iv r3.2.1.2]), (133, ag [iv r3.2.1.1, iv r3.2.1.2])])
def S8_10 (m66 : (Bool × Int)) (r19 : (Int × Int)) (r68 : Int) (r3 : ((Int × Int) × (Int × Int) × Int)) : CAct := (st 159 [(5, pt 0 0), (6, pt 1 0), (7, pt 2 0), (8, pt 3 0), (10, pt 4 0), (11, pt 5 0), (15, pt 6 0), (16, pt 7 0), (18, .bool m66.1), (22, iv m66.2), (128, .bool true), (129, ag [iv r19.1, iv r19.2]), (130, ag [iv r19.1, iv r19.2]), (131, iv r68), (132, ag [iv r3.2.1.1, iv r3.2.1.2]), (133, ag [iv r3.2.1.1, iv r3.2.1.2])])
def H8_11 (r1 : (((Int × Int) × (Int × Int)) × (Int × Int))) (r3 : ((Int × Int) × (Int × Int) × Int)) (r5 : ((Int × Int) × (Int × Int) × Int)) (r7 : (((Int × Int) × (Int × Int)) × Bool)) (r15 : (Int × Int)) : List Blk := [.dead, .dead, cl 25 [iv r1.1.1.1, iv r1.1.1.2, iv r1.1.2.1, iv r1.1.2.2], cl 23 [iv r1.2.1, iv r1.2.2], cl 27 [iv r3.1.1, iv r3.1.2], cl 23 [iv r3.2.1.1, iv r3.2.1.2], cl 27 [iv r5.1.1, iv r5.1.2], cl 27 [iv r5.2.1.1, iv r5.2.1.2], cl 25 [iv r7.1.1.1, iv r7.1.1.2, iv r7.1.2.1, iv r7.1.2.2], cl 27 [iv r15.1, iv r15.2]]
def H8_12 (p6 : Int) (p7 : Int) (r1 : (((Int × Int) × (Int × Int)) × (Int × Int))) (r3 : ((Int × Int) × (Int × Int) × Int)) (r5 : ((Int × Int) × (Int × Int) × Int)) (r7 : (((Int × Int) × (Int × Int)) × Bool)) : List Blk := [.dead, cl 90 [.int .i8 p6, .int .i8 p7], cl 25 [iv r1.1.1.1, iv r1.1.1.2, iv r1.1.2.1, iv r1.1.2.2], cl 23 [iv r1.2.1, iv r1.2.2], cl 27 [iv r3.1.1, iv r3.1.2], cl 23 [iv r3.2.1.1, iv r3.2.1.2], cl 27 [iv r5.1.1, iv r5.1.2], cl 27 [iv r5.2.1.1, iv r5.2.1.2], cl 25 [iv r7.1.1.1, iv r7.1.1.2, iv r7.1.2.1, iv r7.1.2.2]]
def H8_13 (r1 : (((Int × Int) × (Int × Int)) × (Int × Int))) (r3 : ((Int × Int) × (Int × Int) × Int)) (r5 : ((Int × Int) × (Int × Int) × Int)) (r15 : (Int × Int)) (r19 : (Int × Int)) : List Blk := [cl 25 [iv r1.1.1.1, iv r1.1.1.2, iv r1.1.2.1, iv r1.1.2.2], cl 23 [iv r1.2.1, iv r1.2.2], cl 27 [iv r3.1.1, iv r3.1.2], cl 23 [iv r3.2.1.1, iv r3.2.1.2], cl 27 [iv r5.1.1, iv r5.1.2], cl 27 [iv r5.2.1.1, iv r5.2.1.2], cl 27 [iv r15.1, iv r15.2], cl 23 [iv r19.1, iv r19.2]]
def S8_14 (m66 : (Bool × Int)) (r19 : (Int × Int)) : CAct := (st 159 [(5, pt 0 0), (6, pt 1 0), (7, pt 2 0), (8, pt 3 0), (10, pt 4 0), (11, pt 5 0), (15, pt 6 0), (16, pt 7 0), (18, .bool m66.1), (22, iv m66.2), (128, .bool false), (129, ag [iv r19.1, iv r19.2]), (130, ag [iv r19.1, iv r19.2])])
def S8_15 (m66 : (Bool × Int)) (r19 : (Int × Int)) : CAct := (st 159 [(5, pt 0 0), (6, pt 1 0), (7, pt 2 0), (8, pt 3 0), (10, pt 4 0), (11, pt 5 0), (15, pt 6 0), (16, pt 7 0), (18, .bool m66.1), (22, iv m66.2), (128, .bool true), (129, ag [iv r19.1, iv r19.2]), (130, ag [iv r19.1, iv r19.2])])
def S8_16 (m58 : Bool) (v38 : Int) : CAct := (st 159 [(5, pt 0 0), (6, pt 1 0), (7, pt 2 0), (8, pt 3 0), (10, pt 4 0), (11, pt 5 0), (15, pt 6 0), (16, pt 7 0), (18, .bool m58), (105, .slice (some ⟨8, 0, none⟩) 3 3), (106, iv (3 : Int)), (107, iv (w64 (v38 + 1)))])
def S8_17 (v37 : Bool) (v38 : Int) : CAct := (st 159 [(5, pt 0 0), (6, pt 1 0), (7, pt 2 0), (8, pt 3 0), (10, pt 4 0), (11, pt 5 0), (15, pt 6 0), (16, pt 7 0), (18, .bool v37), (105, .slice (some ⟨8, 0, none⟩) 3 3), (106, iv (3 : Int)), (107, iv v38)])
def S8_18 (r7 : (((Int × Int) × (Int × Int)) × Bool)) : CAct := (st 159 [(3, pt 1 0), (5, pt 2 0), (6, pt 3 0), (7, pt 4 0), (8, pt 5 0), (10, pt 6 0), (11, pt 7 0), (13, pt 8 0), (14, .bool r7.2), (48, .bool false), (50, .bool false)])
def S8_19 (r5 : ((Int × Int) × (Int × Int) × Int)) (r7 : (((Int × Int) × (Int × Int)) × Bool)) : CAct := (st 159 [(3, pt 1 0), (5, pt 2 0), (6, pt 3 0), (7, pt 4 0), (8, pt 5 0), (10, pt 6 0), (11, pt 7 0), (12, iv r5.2.2), (13, pt 8 0), (14, .bool r7.2), (47, .bool false)])
def S8_20 (r7 : (((Int × Int) × (Int × Int)) × Bool)) (r5 : ((Int × Int) × (Int × Int) × Int)) : CAct := (st 159 [(3, pt 1 0), (5, pt 2 0), (6, pt 3 0), (7, pt 4 0), (8, pt 5 0), (10, pt 6 0), (11, pt 7 0), (13, pt 8 0), (14, .bool r7.2), (48, .bool false), (49, iv r5.2.2)])
def S8_21 (r5 : ((Int × Int) × (Int × Int) × Int)) (r7 : (((Int × Int) × (Int × Int)) × Bool)) (r3 : ((Int × Int) × (Int × Int) × Int)) : CAct := (st 159 [(3, pt 1 0), (5, pt 2 0), (6, pt 3 0), (7, pt 4 0), (8, pt 5 0), (10, pt 6 0), (11, pt 7 0), (12, iv r5.2.2), (13, pt 8 0), (14, .bool r7.2), (46, iv r3.2.2)])
def S8_22 (r3 : ((Int × Int) × (Int × Int) × Int)) : CAct := (st 159 [(3, pt 1 0), (5, pt 2 0), (6, pt 3 0), (7, pt 4 0), (8, pt 5 0), (10, pt 6 0), (11, pt 7 0), (13, pt 8 0), (56, .bool false), (57, ag [iv r3.1.1, iv r3.1.2])])
def S8_23 (r7 : (((Int × Int) × (Int × Int)) × Bool)) : CAct := (st 159 [(3, pt 1 0), (5, pt 2 0), (6, pt 3 0), (7, pt 4 0), (8, pt 5 0), (10, pt 6 0), (11, pt 7 0), (13, pt 8 0), (14, .bool r7.2), (52, .bool false)])
def S8_24  : CAct := (st 159 [(3, pt 1 0), (5, pt 2 0), (6, pt 3 0), (7, pt 4 0), (8, pt 5 0), (10, pt 6 0), (11, pt 7 0), (13, pt 8 0), (52, .bool false), (53, .bool true)])
def S8_25  : CAct := (st 159 [(3, pt 1 0), (5, pt 2 0), (6, pt 3 0), (7, pt 4 0), (8, pt 5 0), (10, pt 6 0), (11, pt 7 0), (13, pt 8 0), (60, .bool true)])
def F8l0 (r1 : (((Int × Int) × (Int × Int)) × (Int × Int))) (r3 : ((Int × Int) × (Int × Int) × Int)) (r5 : ((Int × Int) × (Int × Int) × Int)) (r7 : (((Int × Int) × (Int × Int)) × Bool)) (r15 : (Int × Int)) (r19 : (Int × Int)) (r30 : (Int × Int)) (v37 : Bool) (v38 : Int) : Option Bool :=
    if decide (v38 < (3 : Int)) then
      if (0 : Int) ≤ v38 ∧ v38 < (3 : Int) then
        some (List.getD ([(r7.1.1.1, r7.1.1.2), (r7.1.2.1, r7.1.2.2), (r30.1, r30.2)]) (Int.toNat v38) (0, 0)) >>= fun o52 =>
        F41 r19.1 r19.2 o52.1 o52.2 >>= fun r54 =>
        (
          if v37 then
            F41 o52.1 o52.2 o52.1 o52.2 >>= fun r56 =>
            some (decide ((w64 (2 * (mx r54 (w64 (0 - r54))))) ≤ r56))
          else
            some (false)
        : Option Bool) >>= fun m58 =>
        F8l0 r1 r3 r5 r7 r15 r19 r30 m58 (w64 (v38 + 1))
      else none
    else
      some v37
  partial_fixpoint
def F8 (p0 : Int) (p1 : Int) (p2 : Int) (p3 : Int) (p4 : Int) (p5 : Int) (p6 : Int) (p7 : Int) : Option Bool :=
  F36 p0 p1 p2 p3 p4 p5 >>= fun r1 =>
  F28 r1.1.1.1 r1.1.1.2 r1.1.2.1 r1.1.2.2 r1.2.1 r1.2.2 >>= fun r3 =>
  F23 r1.1.1.1 r1.1.1.2 r1.1.2.1 r1.1.2.2 >>= fun r5 =>
  F37 r1.1.1.1 r1.1.1.2 r1.1.2.1 r1.1.2.2 >>= fun r7 =>
  (
    if r3.2.2 != 0 then
      some (true)
    else
      if r5.2.2 != 0 then
        some (true)
      else
        if r7.2 then
          F38 r3.1.1 r3.1.2 >>= fun r12 =>
          if r12 then
            some (false)
          else
            some (true)
        else
          some (true)
  : Option Bool) >>= fun m14 =>
  if m14 then
    some false
  else
    F44 (w64 (r3.1.1 + (Int.tmod (w64 p6) 3))) (w64 (r3.1.2 + (Int.tmod (w64 p7) 3))) >>= fun r15 =>
    F40 r1.1.1.1 r1.1.1.2 r1.1.2.1 r1.1.2.2 r15.1 r15.2 >>= fun r17 =>
    F39 r1.2.1 r1.2.2 r17.1 r17.2 >>= fun r19 =>
    F41 r7.1.1.1 r7.1.1.2 r7.1.2.1 r7.1.2.2 >>= fun r21 =>
    (
      if decide (r21 > 0) then
        some (-1)
      else
        some 1
    : Option Int) >>= fun m26 =>
    F43 (w64 (m26 * r7.1.2.1)) (w64 (m26 * r7.1.2.2)) >>= fun r28 =>
    F39 r7.1.1.1 r7.1.1.2 r28.1 r28.2 >>= fun r30 =>
    F8l0 r1 r3 r5 r7 r15 r19 r30 true 0 >>= fun r60 =>
    (
      if r60 then
        some (true, 0)
      else
        some (false, 12)
    : Option (Bool × Int)) >>= fun m66 =>
    F41 r19.1 r19.2 r19.1 r19.2 >>= fun r68 =>
    F41 r3.2.1.1 r3.2.1.2 r3.2.1.1 r3.2.1.2 >>= fun r70 =>
    (
      if m66.1 then
        if r68 == r70 then
          F32 r1.1.1.1 r1.1.1.2 r1.1.2.1 r1.1.2.2 r5.1.1 r5.1.2 r5.2.1.1 r5.2.1.2 r1.2.1 r1.2.2 r15.1 r15.2 >>= fun r74 =>
          if r74 == m66.2 then
            F32 r1.1.1.1 r1.1.1.2 r1.1.2.1 r1.1.2.2 r5.1.1 r5.1.2 r5.2.1.1 r5.2.1.2 r1.2.1 r1.2.2 r3.1.1 r3.1.2 >>= fun r77 =>
            if r77 == 0 then
              F22 >>= fun r80 =>
              some (r80)
            else
              some (false)
          else
            some (false)
        else
          some (false)
      else
        if r68 == r70 then
          some (false)
        else
          F32 r1.1.1.1 r1.1.1.2 r1.1.2.1 r1.1.2.2 r5.1.1 r5.1.2 r5.2.1.1 r5.2.1.2 r1.2.1 r1.2.2 r15.1 r15.2 >>= fun r83 =>
          if r83 == m66.2 then
            F32 r1.1.1.1 r1.1.1.2 r1.1.2.1 r1.1.2.2 r5.1.1 r5.1.2 r5.2.1.1 r5.2.1.2 r1.2.1 r1.2.2 r3.1.1 r3.1.2 >>= fun r86 =>
            if r86 == 0 then
              F22 >>= fun r89 =>
              some (r89)
            else
              some (false)
          else
            some (false)
    : Option Bool) >>= fun m91 =>
    some m91
def V8 (b : Nat) (r : Bool) : Value := .bool r
def N8 (b : Nat) (r : Bool) : List Blk := []
def P8l0 (r1 : (((Int × Int) × (Int × Int)) × (Int × Int))) (r3 : ((Int × Int) × (Int × Int) × Int)) (r5 : ((Int × Int) × (Int × Int) × Int)) (r7 : (((Int × Int) × (Int × Int)) × Bool)) (r15 : (Int × Int)) (r19 : (Int × Int)) (r30 : (Int × Int)) (r : Bool) : Post := fun e a h => e = .exit 0 ∧ Wk Try.prog 0 0 a h (st 159 [(5, pt 0 0), (6, pt 1 0), (7, pt 2 0), (8, pt 3 0), (10, pt 4 0), (11, pt 5 0), (15, pt 6 0), (16, pt 7 0), (18, .bool r)]) (H8_13 r1 r3 r5 r15 r19)
theorem L8l0 (r1 : (((Int × Int) × (Int × Int)) × (Int × Int))) (r3 : ((Int × Int) × (Int × Int) × Int)) (r5 : ((Int × Int) × (Int × Int) × Int)) (r7 : (((Int × Int) × (Int × Int)) × Bool)) (r15 : (Int × Int)) (r19 : (Int × Int)) (r30 : (Int × Int)) (v37 : Bool) (v38 : Int) (r : Bool) (hF : F8l0 r1 r3 r5 r7 r15 r19 r30 v37 v38 = some r) : TL Try.prog 0 0 c8.s2.s2.s2.s2.s2.s2.s2.s2.s2.s2.s2.s1.s2.bd.bd (S8_17 v37 v38) (H8_7 r1 r3 r5 r15 r19 r7 r30) (P8l0 r1 r3 r5 r7 r15 r19 r30 r) := by
  refine F8l0.partial_correctness r1 r3 r5 r7 r15 r19 r30 (motive := fun v37 v38 r => TL Try.prog 0 0 c8.s2.s2.s2.s2.s2.s2.s2.s2.s2.s2.s2.s1.s2.bd.bd (S8_17 v37 v38) (H8_7 r1 r3 r5 r15 r19 r7 r30) (P8l0 r1 r3 r5 r7 r15 r19 r30 r)) ?_ v37 v38 r hF
  clear hF r v37 v38
  intro again ih v37 v38 r hF
  refine TL.round ?_
  refine TS.seqP (by kernel_rfl) ?_
  refine TS.regionP (by kernel_rfl) ?_
  refine TI.runA 1 [5, 6, 7, 8, 10, 11, 15, 16, 18, 105, 106, 107, 108] (a2 := (st 159 [(5, pt 0 0), (6, pt 1 0), (7, pt 2 0), (8, pt 3 0), (10, pt 4 0), (11, pt 5 0), (15, pt 6 0), (16, pt 7 0), (18, .bool v37), (105, .slice (some ⟨8, 0, none⟩) 3 3), (106, iv (3 : Int)), (107, iv v38), (108, .bool (decide (v38 < (3 : Int))))])) (by kernel_rfl) ?_
  refine TI.done (by kernel_rfl) ?_
  refine NX.sq ?_
  refine TS.seqP (by kernel_rfl) ?_
  refine TS.condP (o := (.tmp 108)) (b := decide (v38 < (3 : Int))) (by kernel_rfl) (by kernel_rfl) (fun hc50 => ?_) (fun hc50 => ?_)
  · replace hF := of_pos hF hc50
    refine TS.skip' (by kernel_rfl) ?_
    refine NX.sq ?_
    refine TS.seqP (by kernel_rfl) ?_
    refine TS.blockP (id := 1) (by kernel_rfl) ?_
    refine TS.seqP (by kernel_rfl) ?_
    have hX := of_guard hF
    clear hF
    obtain ⟨hg51, hF⟩ := hX
    have hX := of_do hF
    clear hF
    obtain ⟨o52, h53, hF⟩ := hX
    replace h53 := Option.some.inj h53
    refine TS.regionP (by kernel_rfl) ?_
    refine TI.op (q := { val := .pointer (some ⟨8, 0 + (Int.toNat v38) * 2, none⟩) }) (q_ixS 8 0 ((Int.toNat v38) * 2) (by kernel_rfl) hg51) [5, 6, 7, 8, 10, 11, 15, 16, 18, 105, 106, 107, 109] [0, 1, 2, 3, 4, 5, 6, 7, 8] (a2 := (st 159 [(5, pt 0 0), (6, pt 1 0), (7, pt 2 0), (8, pt 3 0), (10, pt 4 0), (11, pt 5 0), (15, pt 6 0), (16, pt 7 0), (18, .bool v37), (105, .slice (some ⟨8, 0, none⟩) 3 3), (106, iv (3 : Int)), (107, iv v38), (109, .pointer (some ⟨8, 0 + (Int.toNat v38) * 2, none⟩))])) (h2 := (H8_7 r1 r3 r5 r15 r19 r7 r30)) (by kernel_rfl) ?_
    refine TI.op (q := { val := ag [iv o52.1, iv o52.2] }) (q_eqv (q_ldA (P := Try.prog) (hp := (H8_7 r1 r3 r5 r15 r19 r7 r30)) (t := 23) (b := 8) (off := 0 + (Int.toNat v38) * 2) (l := [(r7.1.1.1, r7.1.1.2), (r7.1.2.1, r7.1.2.2), (r30.1, r30.2)]) (enc := e23) (s := 2) (T := 23) (i := Int.toNat v38) (by kernel_rfl) (by kernel_rfl) (by kernel_rfl) (by kernel_rfl) (fun _ => rfl) (by omega) (by first | omega | (simp only [List.length_set, List.length_replicate, List.length_cons, List.length_nil, List.length_append]; omega)) (0, 0)) (congrArg (fun (z : (Int × Int)) => ({ val := ag [iv z.1, iv z.2] } : QRes)) h53)) [5, 6, 7, 8, 10, 11, 15, 16, 18, 105, 106, 107, 110] [0, 1, 2, 3, 4, 5, 6, 7, 8] (a2 := (st 159 [(5, pt 0 0), (6, pt 1 0), (7, pt 2 0), (8, pt 3 0), (10, pt 4 0), (11, pt 5 0), (15, pt 6 0), (16, pt 7 0), (18, .bool v37), (105, .slice (some ⟨8, 0, none⟩) 3 3), (106, iv (3 : Int)), (107, iv v38), (110, ag [iv o52.1, iv o52.2])])) (h2 := (H8_7 r1 r3 r5 r15 r19 r7 r30)) (by kernel_rfl) ?_
    refine TI.run 2 [5, 6, 7, 8, 10, 11, 15, 16, 18, 20, 105, 106, 107] [0, 1, 2, 3, 4, 5, 6, 7, 8, 9] (a2 := (st 159 [(5, pt 0 0), (6, pt 1 0), (7, pt 2 0), (8, pt 3 0), (10, pt 4 0), (11, pt 5 0), (15, pt 6 0), (16, pt 7 0), (18, .bool v37), (20, pt 9 0), (105, .slice (some ⟨8, 0, none⟩) 3 3), (106, iv (3 : Int)), (107, iv v38)])) (h2 := [cl 25 [iv r1.1.1.1, iv r1.1.1.2, iv r1.1.2.1, iv r1.1.2.2], cl 23 [iv r1.2.1, iv r1.2.2], cl 27 [iv r3.1.1, iv r3.1.2], cl 23 [iv r3.2.1.1, iv r3.2.1.2], cl 27 [iv r5.1.1, iv r5.1.2], cl 27 [iv r5.2.1.1, iv r5.2.1.2], cl 27 [iv r15.1, iv r15.2], cl 23 [iv r19.1, iv r19.2], cl 23 [iv r7.1.1.1, iv r7.1.1.2, iv r7.1.2.1, iv r7.1.2.2, iv r30.1, iv r30.2], cl 23 [iv o52.1, iv o52.2]]) (by kernel_rfl) ?_
    refine TI.done (by kernel_rfl) ?_
    refine NX.sq ?_
    refine TS.seqP (by kernel_rfl) ?_
    have hX := of_do hF
    clear hF
    obtain ⟨r54, h55, hF⟩ := hX
    refine TS.regionP (by kernel_rfl) ?_
    refine TI.runA 2 [5, 6, 7, 8, 10, 11, 15, 16, 18, 20, 105, 106, 107, 111, 112] (a2 := (st 159 [(5, pt 0 0), (6, pt 1 0), (7, pt 2 0), (8, pt 3 0), (10, pt 4 0), (11, pt 5 0), (15, pt 6 0), (16, pt 7 0), (18, .bool v37), (20, pt 9 0), (105, .slice (some ⟨8, 0, none⟩) 3 3), (106, iv (3 : Int)), (107, iv v38), (111, ag [iv r19.1, iv r19.2]), (112, ag [iv o52.1, iv o52.2])])) (by kernel_rfl) ?_
    refine TI.callF (C41 _ _ _ _ _ h55) (by kernel_rfl) (by kernel_rfl) ?_
    refine TI.runA 1 [5, 6, 7, 8, 10, 11, 15, 16, 18, 20, 21, 105, 106, 107] (a2 := (st 159 [(5, pt 0 0), (6, pt 1 0), (7, pt 2 0), (8, pt 3 0), (10, pt 4 0), (11, pt 5 0), (15, pt 6 0), (16, pt 7 0), (18, .bool v37), (20, pt 9 0), (21, iv r54), (105, .slice (some ⟨8, 0, none⟩) 3 3), (106, iv (3 : Int)), (107, iv v38)])) (by kernel_rfl) ?_
    refine TI.done (by kernel_rfl) ?_
    refine NX.sq ?_
    have hX := of_do hF
    clear hF
    obtain ⟨m58, hm59, hF⟩ := hX
    have hK : NX Try.prog 0 0 [.bk 1, .sq c8.s2.s2.s2.s2.s2.s2.s2.s2.s2.s2.s2.s1.s2.bd.bd.s2.s2.s2] (Rd Try.prog 0 0 c8.s2.s2.s2.s2.s2.s2.s2.s2.s2.s2.s2.s1.s2.bd.bd (P8l0 r1 r3 r5 r7 r15 r19 r30 r)) .normal (st 159 [(5, pt 0 0), (6, pt 1 0), (7, pt 2 0), (8, pt 3 0), (10, pt 4 0), (11, pt 5 0), (15, pt 6 0), (16, pt 7 0), (18, .bool m58), (105, .slice (some ⟨8, 0, none⟩) 3 3), (106, iv (3 : Int)), (107, iv v38)]) (H8_6 r1 r3 r5 r15 r19 r7 r30) := by
      refine NX.bk ?_
      refine NX.sq ?_
      refine TS.regionP (by kernel_rfl) ?_
      refine TI.runA 2 [5, 6, 7, 8, 10, 11, 15, 16, 18, 105, 106, 107] (a2 := (S8_16 m58 v38)) (by kernel_rfl) ?_
      refine TI.done (by kernel_rfl) ?_
      exact Rd.again (a2 := (S8_16 m58 v38)) (h2 := (H8_7 r1 r3 r5 r15 r19 r7 r30)) (Wk.anew (base := 0) (L := 0) (f := [0, 1, 2, 3, 4, 5, 6, 7, 8]) (by decide) (by decide) (Nat.le_of_ble_eq_true rfl) rfl (.cons (At.blk (by kernel_rfl) (RnB.lit (.cons (.flat (by kernel_rfl)) (.cons (.flat (by kernel_rfl)) (.cons (.flat (by kernel_rfl)) (.cons (.flat (by kernel_rfl)) .nil)))))) (.cons (At.blk (by kernel_rfl) (RnB.lit (.cons (.flat (by kernel_rfl)) (.cons (.flat (by kernel_rfl)) .nil)))) (.cons (At.blk (by kernel_rfl) (RnB.lit (.cons (.flat (by kernel_rfl)) (.cons (.flat (by kernel_rfl)) .nil)))) (.cons (At.blk (by kernel_rfl) (RnB.lit (.cons (.flat (by kernel_rfl)) (.cons (.flat (by kernel_rfl)) .nil)))) (.cons (At.blk (by kernel_rfl) (RnB.lit (.cons (.flat (by kernel_rfl)) (.cons (.flat (by kernel_rfl)) .nil)))) (.cons (At.blk (by kernel_rfl) (RnB.lit (.cons (.flat (by kernel_rfl)) (.cons (.flat (by kernel_rfl)) .nil)))) (.cons (At.blk (by kernel_rfl) (RnB.lit (.cons (.flat (by kernel_rfl)) (.cons (.flat (by kernel_rfl)) .nil)))) (.cons (At.blk (by kernel_rfl) (RnB.lit (.cons (.flat (by kernel_rfl)) (.cons (.flat (by kernel_rfl)) .nil)))) (.cons (At.blk (by kernel_rfl) (RnB.lit (.cons (.flat (by kernel_rfl)) (.cons (.flat (by kernel_rfl)) (.cons (.flat (by kernel_rfl)) (.cons (.flat (by kernel_rfl)) (.cons (.flat (by kernel_rfl)) (.cons (.flat (by kernel_rfl)) .nil)))))))) (.nil _)))))))))) (LRn.stx [5, 6, 7, 8, 10, 11, 15, 16, 18, 105, 106, 107] [pt 0 0, pt 1 0, pt 2 0, pt 3 0, pt 4 0, pt 5 0, pt 6 0, pt 7 0, .bool m58, .slice (some ⟨8, 0, none⟩) 3 3, iv (3 : Int), iv (w64 (v38 + 1))] [pt 0 0, pt 1 0, pt 2 0, pt 3 0, pt 4 0, pt 5 0, pt 6 0, pt 7 0, .bool m58, .slice (some ⟨8, 0, none⟩) 3 3, iv (3 : Int), iv (w64 (v38 + 1))] (.cons (Rn.ptr _ _ _ (Nat.le_of_ble_eq_true rfl) rfl) (.cons (Rn.ptr _ _ _ (Nat.le_of_ble_eq_true rfl) rfl) (.cons (Rn.ptr _ _ _ (Nat.le_of_ble_eq_true rfl) rfl) (.cons (Rn.ptr _ _ _ (Nat.le_of_ble_eq_true rfl) rfl) (.cons (Rn.ptr _ _ _ (Nat.le_of_ble_eq_true rfl) rfl) (.cons (Rn.ptr _ _ _ (Nat.le_of_ble_eq_true rfl) rfl) (.cons (Rn.ptr _ _ _ (Nat.le_of_ble_eq_true rfl) rfl) (.cons (Rn.ptr _ _ _ (Nat.le_of_ble_eq_true rfl) rfl) (.cons (.flat (by kernel_rfl)) (.cons (Rn.slice0 _ _ _ _ (Nat.le_of_ble_eq_true rfl) rfl) (.cons (.flat (by kernel_rfl)) (.cons (.flat (by kernel_rfl)) .nil)))))))))))) (by kernel_rfl) (by kernel_rfl) rfl) rfl rfl) (ih m58 (w64 (v38 + 1)) _ hF)
    cases v37 with
    | true =>
      replace hm59 := of_pos hm59 rfl
      have hX := of_do hm59
      clear hm59
      obtain ⟨r56, h57, hm59⟩ := hX
      have hm59 := Option.some.inj hm59
      subst hm59
      refine TS.regionP (by kernel_rfl) ?_
      refine TI.run 9 [5, 6, 7, 8, 10, 11, 15, 16, 105, 106, 107, 115, 120, 121, 122] [0, 1, 2, 3, 4, 5, 6, 7, 8] (a2 := (st 159 [(5, pt 0 0), (6, pt 1 0), (7, pt 2 0), (8, pt 3 0), (10, pt 4 0), (11, pt 5 0), (15, pt 6 0), (16, pt 7 0), (105, .slice (some ⟨8, 0, none⟩) 3 3), (106, iv (3 : Int)), (107, iv v38), (115, .bool true), (120, iv (w64 (2 * (mx r54 (w64 (0 - r54)))))), (121, ag [iv o52.1, iv o52.2]), (122, ag [iv o52.1, iv o52.2])])) (h2 := (H8_6 r1 r3 r5 r15 r19 r7 r30)) (by kernel_rfl) ?_
      refine TI.callF (C41 _ _ _ _ _ h57) (by kernel_rfl) (by kernel_rfl) ?_
      refine TI.runA 3 [5, 6, 7, 8, 10, 11, 15, 16, 18, 105, 106, 107] (a2 := (st 159 [(5, pt 0 0), (6, pt 1 0), (7, pt 2 0), (8, pt 3 0), (10, pt 4 0), (11, pt 5 0), (15, pt 6 0), (16, pt 7 0), (18, .bool (decide ((w64 (2 * (mx r54 (w64 (0 - r54))))) ≤ r56))), (105, .slice (some ⟨8, 0, none⟩) 3 3), (106, iv (3 : Int)), (107, iv v38)])) (by kernel_rfl) ?_
      refine TI.done (by kernel_rfl) ?_
      exact hK
    | false =>
      replace hm59 := of_neg hm59 rfl
      have hm59 := Option.some.inj hm59
      subst hm59
      refine TS.regionP (by kernel_rfl) ?_
      refine TI.run 13 [5, 6, 7, 8, 10, 11, 15, 16, 18, 105, 106, 107] [0, 1, 2, 3, 4, 5, 6, 7, 8] (a2 := (st 159 [(5, pt 0 0), (6, pt 1 0), (7, pt 2 0), (8, pt 3 0), (10, pt 4 0), (11, pt 5 0), (15, pt 6 0), (16, pt 7 0), (18, .bool false), (105, .slice (some ⟨8, 0, none⟩) 3 3), (106, iv (3 : Int)), (107, iv v38)])) (h2 := (H8_6 r1 r3 r5 r15 r19 r7 r30)) (by kernel_rfl) ?_
      refine TI.done (by kernel_rfl) ?_
      exact hK
  · replace hF := of_neg hF hc50
    refine TS.exit' (id := 0) (by kernel_rfl) ?_
    refine NX.sqX ?_
    have hF := Option.some.inj hF
    subst hF
    exact Rd.out (e := .exit 0) (by intro h; cases h) (And.intro rfl (Wk.anew (base := 0) (L := 0) (f := [0, 1, 2, 3, 4, 5, 6, 7]) (by decide) (by decide) (Nat.le_of_ble_eq_true rfl) rfl (.cons (At.blk (by kernel_rfl) (RnB.lit (.cons (.flat (by kernel_rfl)) (.cons (.flat (by kernel_rfl)) (.cons (.flat (by kernel_rfl)) (.cons (.flat (by kernel_rfl)) .nil)))))) (.cons (At.blk (by kernel_rfl) (RnB.lit (.cons (.flat (by kernel_rfl)) (.cons (.flat (by kernel_rfl)) .nil)))) (.cons (At.blk (by kernel_rfl) (RnB.lit (.cons (.flat (by kernel_rfl)) (.cons (.flat (by kernel_rfl)) .nil)))) (.cons (At.blk (by kernel_rfl) (RnB.lit (.cons (.flat (by kernel_rfl)) (.cons (.flat (by kernel_rfl)) .nil)))) (.cons (At.blk (by kernel_rfl) (RnB.lit (.cons (.flat (by kernel_rfl)) (.cons (.flat (by kernel_rfl)) .nil)))) (.cons (At.blk (by kernel_rfl) (RnB.lit (.cons (.flat (by kernel_rfl)) (.cons (.flat (by kernel_rfl)) .nil)))) (.cons (At.blk (by kernel_rfl) (RnB.lit (.cons (.flat (by kernel_rfl)) (.cons (.flat (by kernel_rfl)) .nil)))) (.cons (At.blk (by kernel_rfl) (RnB.lit (.cons (.flat (by kernel_rfl)) (.cons (.flat (by kernel_rfl)) .nil)))) (.nil _))))))))) (LRn.stx [5, 6, 7, 8, 10, 11, 15, 16, 18] [pt 0 0, pt 1 0, pt 2 0, pt 3 0, pt 4 0, pt 5 0, pt 6 0, pt 7 0, .bool v37] [pt 0 0, pt 1 0, pt 2 0, pt 3 0, pt 4 0, pt 5 0, pt 6 0, pt 7 0, .bool v37] (.cons (Rn.ptr _ _ _ (Nat.le_of_ble_eq_true rfl) rfl) (.cons (Rn.ptr _ _ _ (Nat.le_of_ble_eq_true rfl) rfl) (.cons (Rn.ptr _ _ _ (Nat.le_of_ble_eq_true rfl) rfl) (.cons (Rn.ptr _ _ _ (Nat.le_of_ble_eq_true rfl) rfl) (.cons (Rn.ptr _ _ _ (Nat.le_of_ble_eq_true rfl) rfl) (.cons (Rn.ptr _ _ _ (Nat.le_of_ble_eq_true rfl) rfl) (.cons (Rn.ptr _ _ _ (Nat.le_of_ble_eq_true rfl) rfl) (.cons (Rn.ptr _ _ _ (Nat.le_of_ble_eq_true rfl) rfl) (.cons (.flat (by kernel_rfl)) .nil))))))))) (by kernel_rfl) (by kernel_rfl) rfl) rfl rfl))
theorem B8 (p0 : Int) (p1 : Int) (p2 : Int) (p3 : Int) (p4 : Int) (p5 : Int) (p6 : Int) (p7 : Int) (r : Bool) (hF : F8 p0 p1 p2 p3 p4 p5 p6 p7 = some r) : TS Try.prog 0 0 c8 (st 159 [(0, ag [.int .i8 p0, .int .i8 p1, .int .i8 p2, .int .i8 p3, .int .i16 p4, .int .i16 p5]), (1, ag [.int .i8 p6, .int .i8 p7])]) [] (NX Try.prog 0 0 [] (FinP Try.prog Try.f8 0 (V8 0 r) (N8 0 r))) := by
  unfold F8 at hF
  refine TS.seqP (by kernel_rfl) ?_
  refine TS.regionP (by kernel_rfl) ?_
  refine TI.run 3 [2, 3] [0, 1] (a2 := (st 159 [(2, pt 0 0), (3, pt 1 0)])) (h2 := [cl 77 [.int .i8 p0, .int .i8 p1, .int .i8 p2, .int .i8 p3, .int .i16 p4, .int .i16 p5], cl 90 [.int .i8 p6, .int .i8 p7]]) (by kernel_rfl) ?_
  refine TI.done (by kernel_rfl) ?_
  refine NX.sq ?_
  refine TS.seqP (by kernel_rfl) ?_
  have hX := of_do hF
  clear hF
  obtain ⟨r1, h2, hF⟩ := hX
  refine TS.regionP (by kernel_rfl) ?_
  refine TI.run 1 [3, 24] [1] (a2 := (st 159 [(3, pt 1 0), (24, ag [.int .i8 p0, .int .i8 p1, .int .i8 p2, .int .i8 p3, .int .i16 p4, .int .i16 p5])])) (h2 := [.dead, cl 90 [.int .i8 p6, .int .i8 p7]]) (by kernel_rfl) ?_
  refine TI.callF (C36 _ _ _ _ _ _ _ h2) (by kernel_rfl) (by kernel_rfl) ?_
  refine TI.run 7 [3, 5, 6] [1, 2, 3] (a2 := (st 159 [(3, pt 1 0), (5, pt 2 0), (6, pt 3 0)])) (h2 := [.dead, cl 90 [.int .i8 p6, .int .i8 p7], cl 25 [iv r1.1.1.1, iv r1.1.1.2, iv r1.1.2.1, iv r1.1.2.2], cl 23 [iv r1.2.1, iv r1.2.2]]) (by kernel_rfl) ?_
  refine TI.done (by kernel_rfl) ?_
  refine NX.sq ?_
  refine TS.seqP (by kernel_rfl) ?_
  have hX := of_do hF
  clear hF
  obtain ⟨r3, h4, hF⟩ := hX
  refine TS.regionP (by kernel_rfl) ?_
  refine TI.runA 2 [3, 5, 6, 29, 30] (a2 := (st 159 [(3, pt 1 0), (5, pt 2 0), (6, pt 3 0), (29, ag [iv r1.1.1.1, iv r1.1.1.2, iv r1.1.2.1, iv r1.1.2.2]), (30, ag [iv r1.2.1, iv r1.2.2])])) (by kernel_rfl) ?_
  refine TI.callF (C28 _ _ _ _ _ _ _ h4) (by kernel_rfl) (by kernel_rfl) ?_
  refine TI.run 9 [3, 5, 6, 7, 8, 9] [1, 2, 3, 4, 5] (a2 := (st 159 [(3, pt 1 0), (5, pt 2 0), (6, pt 3 0), (7, pt 4 0), (8, pt 5 0), (9, iv r3.2.2)])) (h2 := [.dead, cl 90 [.int .i8 p6, .int .i8 p7], cl 25 [iv r1.1.1.1, iv r1.1.1.2, iv r1.1.2.1, iv r1.1.2.2], cl 23 [iv r1.2.1, iv r1.2.2], cl 27 [iv r3.1.1, iv r3.1.2], cl 23 [iv r3.2.1.1, iv r3.2.1.2]]) (by kernel_rfl) ?_
  refine TI.done (by kernel_rfl) ?_
  refine NX.sq ?_
  refine TS.seqP (by kernel_rfl) ?_
  have hX := of_do hF
  clear hF
  obtain ⟨r5, h6, hF⟩ := hX
  refine TS.regionP (by kernel_rfl) ?_
  refine TI.runA 1 [3, 5, 6, 7, 8, 9, 36] (a2 := (st 159 [(3, pt 1 0), (5, pt 2 0), (6, pt 3 0), (7, pt 4 0), (8, pt 5 0), (9, iv r3.2.2), (36, ag [iv r1.1.1.1, iv r1.1.1.2, iv r1.1.2.1, iv r1.1.2.2])])) (by kernel_rfl) ?_
  refine TI.callF (C23 _ _ _ _ _ h6) (by kernel_rfl) (by kernel_rfl) ?_
  refine TI.run 9 [3, 5, 6, 7, 8, 9, 10, 11, 12] [1, 2, 3, 4, 5, 6, 7] (a2 := (st 159 [(3, pt 1 0), (5, pt 2 0), (6, pt 3 0), (7, pt 4 0), (8, pt 5 0), (9, iv r3.2.2), (10, pt 6 0), (11, pt 7 0), (12, iv r5.2.2)])) (h2 := [.dead, cl 90 [.int .i8 p6, .int .i8 p7], cl 25 [iv r1.1.1.1, iv r1.1.1.2, iv r1.1.2.1, iv r1.1.2.2], cl 23 [iv r1.2.1, iv r1.2.2], cl 27 [iv r3.1.1, iv r3.1.2], cl 23 [iv r3.2.1.1, iv r3.2.1.2], cl 27 [iv r5.1.1, iv r5.1.2], cl 27 [iv r5.2.1.1, iv r5.2.1.2]]) (by kernel_rfl) ?_
  refine TI.done (by kernel_rfl) ?_
  refine NX.sq ?_
  refine TS.seqP (by kernel_rfl) ?_
  have hX := of_do hF
  clear hF
  obtain ⟨r7, h8, hF⟩ := hX
  refine TS.regionP (by kernel_rfl) ?_
  refine TI.runA 1 [3, 5, 6, 7, 8, 9, 10, 11, 12, 42] (a2 := (st 159 [(3, pt 1 0), (5, pt 2 0), (6, pt 3 0), (7, pt 4 0), (8, pt 5 0), (9, iv r3.2.2), (10, pt 6 0), (11, pt 7 0), (12, iv r5.2.2), (42, ag [iv r1.1.1.1, iv r1.1.1.2, iv r1.1.2.1, iv r1.1.2.2])])) (by kernel_rfl) ?_
  refine TI.callF (C37 _ _ _ _ _ h8) (by kernel_rfl) (by kernel_rfl) ?_
  refine TI.run 6 [3, 5, 6, 7, 8, 9, 10, 11, 12, 13, 14] [1, 2, 3, 4, 5, 6, 7, 8] (a2 := (st 159 [(3, pt 1 0), (5, pt 2 0), (6, pt 3 0), (7, pt 4 0), (8, pt 5 0), (9, iv r3.2.2), (10, pt 6 0), (11, pt 7 0), (12, iv r5.2.2), (13, pt 8 0), (14, .bool r7.2)])) (h2 := (H8_12 p6 p7 r1 r3 r5 r7)) (by kernel_rfl) ?_
  refine TI.done (by kernel_rfl) ?_
  refine NX.sq ?_
  refine TS.seqP (by kernel_rfl) ?_
  refine TS.seqP (by kernel_rfl) ?_
  have hX := of_do hF
  clear hF
  obtain ⟨m14, hm94, hF⟩ := hX
  have hK : NX Try.prog 0 0 [.sq c8.s2.s2.s2.s2.s2.s1.s2, .sq c8.s2.s2.s2.s2.s2.s2] (FinP Try.prog Try.f8 0 (V8 0 r) (N8 0 r)) .normal (st 159 [(3, pt 1 0), (5, pt 2 0), (6, pt 3 0), (7, pt 4 0), (8, pt 5 0), (10, pt 6 0), (11, pt 7 0), (13, pt 8 0), (60, .bool m14)]) (H8_12 p6 p7 r1 r3 r5 r7) := by
    refine NX.sq ?_
    cases m14 with
    | true =>
      replace hF := of_pos hF rfl
      refine TS.condTP (o := (.tmp 60)) (by kernel_rfl) (by kernel_rfl) ?_
      refine TS.seqP (by kernel_rfl) ?_
      refine TS.regionP (by kernel_rfl) ?_
      refine TI.run 1 [4] [] (a2 := (st 159 [(4, .bool false)])) (h2 := [.dead, .dead, .dead, .dead, .dead, .dead, .dead, .dead, .dead]) (by kernel_rfl) ?_
      refine TI.done (by kernel_rfl) ?_
      refine NX.sq ?_
      refine TS.ret' (by kernel_rfl) ?_
      refine NX.sqR ?_
      have hF := Option.some.inj hF
      subst hF
      exact ⟨.inr rfl, rfl, .bool false, by kernel_rfl, WkV.flat0 (by kernel_rfl) (Nat.le_of_ble_eq_true rfl)⟩
    | false =>
      replace hF := of_neg hF rfl
      refine TS.condFP (o := (.tmp 60)) (by kernel_rfl) (by kernel_rfl) ?_
      refine TS.skip' (by kernel_rfl) ?_
      refine NX.sq ?_
      refine TS.seqP (by kernel_rfl) ?_
      have hX := of_do hF
      clear hF
      obtain ⟨r15, h16, hF⟩ := hX
      refine TS.regionP (by kernel_rfl) ?_
      refine TI.run 14 [5, 6, 7, 8, 10, 11, 13, 67, 74] [2, 3, 4, 5, 6, 7, 8] (a2 := (st 159 [(5, pt 2 0), (6, pt 3 0), (7, pt 4 0), (8, pt 5 0), (10, pt 6 0), (11, pt 7 0), (13, pt 8 0), (67, iv (w64 (r3.1.1 + (Int.tmod (w64 p6) 3)))), (74, iv (w64 (r3.1.2 + (Int.tmod (w64 p7) 3))))])) (h2 := [.dead, .dead, cl 25 [iv r1.1.1.1, iv r1.1.1.2, iv r1.1.2.1, iv r1.1.2.2], cl 23 [iv r1.2.1, iv r1.2.2], cl 27 [iv r3.1.1, iv r3.1.2], cl 23 [iv r3.2.1.1, iv r3.2.1.2], cl 27 [iv r5.1.1, iv r5.1.2], cl 27 [iv r5.2.1.1, iv r5.2.1.2], cl 25 [iv r7.1.1.1, iv r7.1.1.2, iv r7.1.2.1, iv r7.1.2.2]]) (by kernel_rfl) ?_
      refine TI.callF (C44 _ _ _ h16) (by kernel_rfl) (by kernel_rfl) ?_
      refine TI.run 2 [5, 6, 7, 8, 10, 11, 13, 15] [2, 3, 4, 5, 6, 7, 8, 9] (a2 := (st 159 [(5, pt 2 0), (6, pt 3 0), (7, pt 4 0), (8, pt 5 0), (10, pt 6 0), (11, pt 7 0), (13, pt 8 0), (15, pt 9 0)])) (h2 := (H8_11 r1 r3 r5 r7 r15)) (by kernel_rfl) ?_
      refine TI.done (by kernel_rfl) ?_
      refine NX.sq ?_
      refine TS.seqP (by kernel_rfl) ?_
      have hX := of_do hF
      clear hF
      obtain ⟨r17, h18, hF⟩ := hX
      have hX := of_do hF
      clear hF
      obtain ⟨r19, h20, hF⟩ := hX
      have hT : ∀ e ∈ ([⟨40, [ag [iv r1.1.1.1, iv r1.1.1.2, iv r1.1.2.1, iv r1.1.2.2], ag [iv r15.1, iv r15.2]], (H8_11 r1 r3 r5 r7 r15), ag [iv r17.1, iv r17.2], []⟩, ⟨39, [ag [iv r1.2.1, iv r1.2.2], ag [iv r17.1, iv r17.2]], (H8_11 r1 r3 r5 r7 r15), ag [iv r19.1, iv r19.2], []⟩] : List Entry), PureSim Try.prog e.g e.args e.h e.v e.new := by
        intro e he
        simp only [List.mem_cons, List.not_mem_nil, or_false] at he
        rcases he with rfl | rfl
        · exact PureSim.anyK (C40 _ _ _ _ _ _ _ h18) (by kernel_rfl)
        · exact PureSim.anyK (C39 _ _ _ _ _ h20) (by kernel_rfl)
      refine TS.drawP [⟨40, [ag [iv r1.1.1.1, iv r1.1.1.2, iv r1.1.2.1, iv r1.1.2.2], ag [iv r15.1, iv r15.2]], (H8_11 r1 r3 r5 r7 r15), ag [iv r17.1, iv r17.2], []⟩, ⟨39, [ag [iv r1.2.1, iv r1.2.2], ag [iv r17.1, iv r17.2]], (H8_11 r1 r3 r5 r7 r15), ag [iv r19.1, iv r19.2], []⟩] hT mixed (by kernel_rfl) 6 (by kernel_rfl) [5, 6, 7, 8, 10, 11, 13, 15, 16] [2, 3, 4, 5, 6, 7, 8, 9, 10] (a2 := (st 159 [(5, pt 2 0), (6, pt 3 0), (7, pt 4 0), (8, pt 5 0), (10, pt 6 0), (11, pt 7 0), (13, pt 8 0), (15, pt 9 0), (16, pt 10 0)])) (h2 := [.dead, .dead, cl 25 [iv r1.1.1.1, iv r1.1.1.2, iv r1.1.2.1, iv r1.1.2.2], cl 23 [iv r1.2.1, iv r1.2.2], cl 27 [iv r3.1.1, iv r3.1.2], cl 23 [iv r3.2.1.1, iv r3.2.1.2], cl 27 [iv r5.1.1, iv r5.1.2], cl 27 [iv r5.2.1.1, iv r5.2.1.2], cl 25 [iv r7.1.1.1, iv r7.1.1.2, iv r7.1.2.1, iv r7.1.2.2], cl 27 [iv r15.1, iv r15.2], cl 23 [iv r19.1, iv r19.2]]) ?_ ?_
      · refine QJ.run (s1 := (qs (st 159 [(5, pt 2 0), (6, pt 3 0), (7, pt 4 0), (8, pt 5 0), (10, pt 6 0), (11, pt 7 0), (13, pt 8 0), (15, pt 9 0), (76, ag [iv r1.2.1, iv r1.2.2]), (77, ag [iv r1.1.1.1, iv r1.1.1.2, iv r1.1.2.1, iv r1.1.2.2]), (78, ag [iv r15.1, iv r15.2])]) (H8_11 r1 r3 r5 r7 r15) [] [])) 3 (by kernel_rfl) (by kernel_rfl) ?_
        refine QJ.op (q := { val := ag [iv r17.1, iv r17.2], new := [] }) (by decide) (qOf_call (g := 40) (args := [ag [iv r1.1.1.1, iv r1.1.1.2, iv r1.1.2.1, iv r1.1.2.2], ag [iv r15.1, iv r15.2]]) (by kernel_rfl) lookC_hit) ?_
        refine QJ.op (q := { val := ag [iv r19.1, iv r19.2], new := [] }) (by decide) (qOf_call (g := 39) (args := [ag [iv r1.2.1, iv r1.2.2], ag [iv r17.1, iv r17.2]]) (by kernel_rfl) (lookC_skip (fun hg => absurd (show (40 : Nat) = 39 from hg) (by decide)) lookC_hit)) ?_
        refine QJ.run (s1 := (qs (st 159 [(5, pt 2 0), (6, pt 3 0), (7, pt 4 0), (8, pt 5 0), (10, pt 6 0), (11, pt 7 0), (13, pt 8 0), (15, pt 9 0), (16, pt 10 0), (76, ag [iv r1.2.1, iv r1.2.2]), (77, ag [iv r1.1.1.1, iv r1.1.1.2, iv r1.1.2.1, iv r1.1.2.2]), (78, ag [iv r15.1, iv r15.2]), (79, ag [iv r17.1, iv r17.2]), (80, ag [iv r19.1, iv r19.2])]) [.dead, .dead, cl 25 [iv r1.1.1.1, iv r1.1.1.2, iv r1.1.2.1, iv r1.1.2.2], cl 23 [iv r1.2.1, iv r1.2.2], cl 27 [iv r3.1.1, iv r3.1.2], cl 23 [iv r3.2.1.1, iv r3.2.1.2], cl 27 [iv r5.1.1, iv r5.1.2], cl 27 [iv r5.2.1.1, iv r5.2.1.2], cl 25 [iv r7.1.1.1, iv r7.1.1.2, iv r7.1.2.1, iv r7.1.2.2], cl 27 [iv r15.1, iv r15.2], cl 23 [iv 0, iv 0]] [(5, 10, 11)] [])) 1 (by kernel_rfl) (by kernel_rfl) ?_
        refine QJ.done (by kernel_rfl) ⟨rfl, ?_⟩
        refine SJ.last (by kernel_rfl)
      refine TS.seqP (by kernel_rfl) ?_
      refine TS.regionP (by kernel_rfl) ?_
      refine TI.runA 1 [5, 6, 7, 8, 10, 11, 13, 15, 16, 17] (a2 := (st 159 [(5, pt 2 0), (6, pt 3 0), (7, pt 4 0), (8, pt 5 0), (10, pt 6 0), (11, pt 7 0), (13, pt 8 0), (15, pt 9 0), (16, pt 10 0), (17, iv 1)])) (by kernel_rfl) ?_
      refine TI.done (by kernel_rfl) ?_
      refine NX.sq ?_
      refine TS.seqP (by kernel_rfl) ?_
      refine TS.seqP (by kernel_rfl) ?_
      have hX := of_do hF
      clear hF
      obtain ⟨r21, h22, hF⟩ := hX
      refine TS.regionP (by kernel_rfl) ?_
      refine TI.runA 4 [5, 6, 7, 8, 10, 11, 13, 15, 16, 17, 82, 84] (a2 := (st 159 [(5, pt 2 0), (6, pt 3 0), (7, pt 4 0), (8, pt 5 0), (10, pt 6 0), (11, pt 7 0), (13, pt 8 0), (15, pt 9 0), (16, pt 10 0), (17, iv 1), (82, ag [iv r7.1.1.1, iv r7.1.1.2]), (84, ag [iv r7.1.2.1, iv r7.1.2.2])])) (by kernel_rfl) ?_
      refine TI.callF (C41 _ _ _ _ _ h22) (by kernel_rfl) (by kernel_rfl) ?_
      refine TI.runA 1 [5, 6, 7, 8, 10, 11, 13, 15, 16, 17, 86] (a2 := (st 159 [(5, pt 2 0), (6, pt 3 0), (7, pt 4 0), (8, pt 5 0), (10, pt 6 0), (11, pt 7 0), (13, pt 8 0), (15, pt 9 0), (16, pt 10 0), (17, iv 1), (86, .bool (decide (r21 > 0)))])) (by kernel_rfl) ?_
      refine TI.done (by kernel_rfl) ?_
      refine NX.sq ?_
      have hX := of_do hF
      clear hF
      obtain ⟨m26, hm27, hF⟩ := hX
      have hK : NX Try.prog 0 0 [.sq c8.s2.s2.s2.s2.s2.s2.s2.s2.s2.s2] (FinP Try.prog Try.f8 0 (V8 0 r) (N8 0 r)) .normal (st 159 [(5, pt 0 0), (6, pt 1 0), (7, pt 2 0), (8, pt 3 0), (10, pt 4 0), (11, pt 5 0), (13, pt 6 0), (15, pt 7 0), (16, pt 8 0), (17, iv m26)]) (H8_8 r1 r3 r5 r7 r15 r19) := by
        refine NX.sq ?_
        refine TS.seqP (by kernel_rfl) ?_
        refine TS.regionP (by kernel_rfl) ?_
        refine TI.runA 1 [5, 6, 7, 8, 10, 11, 13, 15, 16, 17, 18] (a2 := (st 159 [(5, pt 0 0), (6, pt 1 0), (7, pt 2 0), (8, pt 3 0), (10, pt 4 0), (11, pt 5 0), (13, pt 6 0), (15, pt 7 0), (16, pt 8 0), (17, iv m26), (18, .bool true)])) (by kernel_rfl) ?_
        refine TI.done (by kernel_rfl) ?_
        refine NX.sq ?_
        refine TS.seqP (by kernel_rfl) ?_
        refine TS.seqP (by kernel_rfl) ?_
        have hX := of_do hF
        clear hF
        obtain ⟨r28, h29, hF⟩ := hX
        have hX := of_do hF
        clear hF
        obtain ⟨r30, h31, hF⟩ := hX
        have hT : ∀ e ∈ ([⟨43, [iv (w64 (m26 * r7.1.2.1)), iv (w64 (m26 * r7.1.2.2))], (H8_8 r1 r3 r5 r7 r15 r19), ag [iv r28.1, iv r28.2], []⟩, ⟨39, [ag [iv r7.1.1.1, iv r7.1.1.2], ag [iv r28.1, iv r28.2]], (H8_8 r1 r3 r5 r7 r15 r19), ag [iv r30.1, iv r30.2], []⟩] : List Entry), PureSim Try.prog e.g e.args e.h e.v e.new := by
          intro e he
          simp only [List.mem_cons, List.not_mem_nil, or_false] at he
          rcases he with rfl | rfl
          · exact PureSim.anyK (C43 _ _ _ h29) (by kernel_rfl)
          · exact PureSim.anyK (C39 _ _ _ _ _ h31) (by kernel_rfl)
        refine TS.drawP [⟨43, [iv (w64 (m26 * r7.1.2.1)), iv (w64 (m26 * r7.1.2.2))], (H8_8 r1 r3 r5 r7 r15 r19), ag [iv r28.1, iv r28.2], []⟩, ⟨39, [ag [iv r7.1.1.1, iv r7.1.1.2], ag [iv r28.1, iv r28.2]], (H8_8 r1 r3 r5 r7 r15 r19), ag [iv r30.1, iv r30.2], []⟩] hT mixed (by kernel_rfl) 21 (by kernel_rfl) [5, 6, 7, 8, 10, 11, 15, 16, 18, 105, 106, 107] [0, 1, 2, 3, 4, 5, 7, 8, 9] (a2 := (st 159 [(5, pt 0 0), (6, pt 1 0), (7, pt 2 0), (8, pt 3 0), (10, pt 4 0), (11, pt 5 0), (15, pt 7 0), (16, pt 8 0), (18, .bool true), (105, .slice (some ⟨9, 0, none⟩) 3 3), (106, iv (3 : Int)), (107, iv 0)])) (h2 := [cl 25 [iv r1.1.1.1, iv r1.1.1.2, iv r1.1.2.1, iv r1.1.2.2], cl 23 [iv r1.2.1, iv r1.2.2], cl 27 [iv r3.1.1, iv r3.1.2], cl 23 [iv r3.2.1.1, iv r3.2.1.2], cl 27 [iv r5.1.1, iv r5.1.2], cl 27 [iv r5.2.1.1, iv r5.2.1.2], .dead, cl 27 [iv r15.1, iv r15.2], cl 23 [iv r19.1, iv r19.2], cl 23 [iv r7.1.1.1, iv r7.1.1.2, iv r7.1.2.1, iv r7.1.2.2, iv r30.1, iv r30.2]]) ?_ ?_
        · refine QJ.run (s1 := (qs (st 159 [(5, pt 0 0), (6, pt 1 0), (7, pt 2 0), (8, pt 3 0), (10, pt 4 0), (11, pt 5 0), (13, pt 6 0), (15, pt 7 0), (16, pt 8 0), (17, iv m26), (18, .bool true), (87, pt 6 0), (88, ag [iv r7.1.1.1, iv r7.1.1.2]), (89, pt 6 2), (90, ag [iv r7.1.2.1, iv r7.1.2.2]), (91, pt 6 0), (92, ag [iv r7.1.1.1, iv r7.1.1.2]), (93, iv m26), (94, pt 6 2), (95, pt 6 2), (96, iv r7.1.2.1), (97, iv (w64 (m26 * r7.1.2.1))), (98, iv m26), (99, pt 6 2), (100, pt 6 3), (101, iv r7.1.2.2), (102, iv (w64 (m26 * r7.1.2.2)))]) (H8_8 r1 r3 r5 r7 r15 r19) [] [])) 16 (by kernel_rfl) (by kernel_rfl) ?_
          refine QJ.op (q := { val := ag [iv r28.1, iv r28.2], new := [] }) (by decide) (qOf_call (g := 43) (args := [iv (w64 (m26 * r7.1.2.1)), iv (w64 (m26 * r7.1.2.2))]) (by kernel_rfl) lookC_hit) ?_
          refine QJ.op (q := { val := ag [iv r30.1, iv r30.2], new := [] }) (by decide) (qOf_call (g := 39) (args := [ag [iv r7.1.1.1, iv r7.1.1.2], ag [iv r28.1, iv r28.2]]) (by kernel_rfl) (lookC_skip (fun hg => absurd (show (43 : Nat) = 39 from hg) (by decide)) lookC_hit)) ?_
          refine QJ.run (s1 := (qs (st 159 [(5, pt 0 0), (6, pt 1 0), (7, pt 2 0), (8, pt 3 0), (10, pt 4 0), (11, pt 5 0), (13, pt 6 0), (15, pt 7 0), (16, pt 8 0), (17, iv m26), (18, .bool true), (87, pt 6 0), (88, ag [iv r7.1.1.1, iv r7.1.1.2]), (89, pt 6 2), (90, ag [iv r7.1.2.1, iv r7.1.2.2]), (91, pt 6 0), (92, ag [iv r7.1.1.1, iv r7.1.1.2]), (93, iv m26), (94, pt 6 2), (95, pt 6 2), (96, iv r7.1.2.1), (97, iv (w64 (m26 * r7.1.2.1))), (98, iv m26), (99, pt 6 2), (100, pt 6 3), (101, iv r7.1.2.2), (102, iv (w64 (m26 * r7.1.2.2))), (103, ag [iv r28.1, iv r28.2]), (104, ag [iv r30.1, iv r30.2]), (105, .slice (some ⟨9, 0, none⟩) 3 3), (106, iv (3 : Int)), (107, iv 0)]) [cl 25 [iv r1.1.1.1, iv r1.1.1.2, iv r1.1.2.1, iv r1.1.2.2], cl 23 [iv r1.2.1, iv r1.2.2], cl 27 [iv r3.1.1, iv r3.1.2], cl 23 [iv r3.2.1.1, iv r3.2.1.2], cl 27 [iv r5.1.1, iv r5.1.2], cl 27 [iv r5.2.1.1, iv r5.2.1.2], cl 25 [iv r7.1.1.1, iv r7.1.1.2, iv r7.1.2.1, iv r7.1.2.2], cl 27 [iv r15.1, iv r15.2], cl 23 [iv r19.1, iv r19.2], cl 23 [iv r7.1.1.1, iv r7.1.1.2, iv r7.1.2.1, iv r7.1.2.2, iv r30.1, iv r30.2]] [(18, 9, 10)] [])) 3 (by kernel_rfl) (by kernel_rfl) ?_
          refine QJ.done (by kernel_rfl) ⟨rfl, ?_⟩
          exact SJ.done (by kernel_rfl) (by kernel_rfl)
        refine TS.blockP (id := 0) (by kernel_rfl) ?_
        have hX := of_do hF
        clear hF
        obtain ⟨r60, h61, hF⟩ := hX
        refine TS.loopP (by kernel_rfl) (TL.weak (a2 := (st 159 [(5, pt 0 0), (6, pt 1 0), (7, pt 2 0), (8, pt 3 0), (10, pt 4 0), (11, pt 5 0), (15, pt 6 0), (16, pt 7 0), (18, .bool true), (105, .slice (some ⟨8, 0, none⟩) 3 3), (106, iv (3 : Int)), (107, iv 0)])) (h2 := (H8_7 r1 r3 r5 r15 r19 r7 r30)) (Wk.anew (base := 0) (L := 0) (f := [0, 1, 2, 3, 4, 5, 7, 8, 9]) (by decide) (by decide) (Nat.le_of_ble_eq_true rfl) rfl (.cons (At.blk (by kernel_rfl) (RnB.lit (.cons (.flat (by kernel_rfl)) (.cons (.flat (by kernel_rfl)) (.cons (.flat (by kernel_rfl)) (.cons (.flat (by kernel_rfl)) .nil)))))) (.cons (At.blk (by kernel_rfl) (RnB.lit (.cons (.flat (by kernel_rfl)) (.cons (.flat (by kernel_rfl)) .nil)))) (.cons (At.blk (by kernel_rfl) (RnB.lit (.cons (.flat (by kernel_rfl)) (.cons (.flat (by kernel_rfl)) .nil)))) (.cons (At.blk (by kernel_rfl) (RnB.lit (.cons (.flat (by kernel_rfl)) (.cons (.flat (by kernel_rfl)) .nil)))) (.cons (At.blk (by kernel_rfl) (RnB.lit (.cons (.flat (by kernel_rfl)) (.cons (.flat (by kernel_rfl)) .nil)))) (.cons (At.blk (by kernel_rfl) (RnB.lit (.cons (.flat (by kernel_rfl)) (.cons (.flat (by kernel_rfl)) .nil)))) (.cons (At.blk (by kernel_rfl) (RnB.lit (.cons (.flat (by kernel_rfl)) (.cons (.flat (by kernel_rfl)) .nil)))) (.cons (At.blk (by kernel_rfl) (RnB.lit (.cons (.flat (by kernel_rfl)) (.cons (.flat (by kernel_rfl)) .nil)))) (.cons (At.blk (by kernel_rfl) (RnB.lit (.cons (.flat (by kernel_rfl)) (.cons (.flat (by kernel_rfl)) (.cons (.flat (by kernel_rfl)) (.cons (.flat (by kernel_rfl)) (.cons (.flat (by kernel_rfl)) (.cons (.flat (by kernel_rfl)) .nil)))))))) (.nil _)))))))))) (LRn.stx [5, 6, 7, 8, 10, 11, 15, 16, 18, 105, 106, 107] [pt 0 0, pt 1 0, pt 2 0, pt 3 0, pt 4 0, pt 5 0, pt 6 0, pt 7 0, .bool true, .slice (some ⟨8, 0, none⟩) 3 3, iv (3 : Int), iv 0] [pt 0 0, pt 1 0, pt 2 0, pt 3 0, pt 4 0, pt 5 0, pt 7 0, pt 8 0, .bool true, .slice (some ⟨9, 0, none⟩) 3 3, iv (3 : Int), iv 0] (.cons (Rn.ptr _ _ _ (Nat.le_of_ble_eq_true rfl) rfl) (.cons (Rn.ptr _ _ _ (Nat.le_of_ble_eq_true rfl) rfl) (.cons (Rn.ptr _ _ _ (Nat.le_of_ble_eq_true rfl) rfl) (.cons (Rn.ptr _ _ _ (Nat.le_of_ble_eq_true rfl) rfl) (.cons (Rn.ptr _ _ _ (Nat.le_of_ble_eq_true rfl) rfl) (.cons (Rn.ptr _ _ _ (Nat.le_of_ble_eq_true rfl) rfl) (.cons (Rn.ptr _ _ _ (Nat.le_of_ble_eq_true rfl) rfl) (.cons (Rn.ptr _ _ _ (Nat.le_of_ble_eq_true rfl) rfl) (.cons (.flat (by kernel_rfl)) (.cons (Rn.slice0 _ _ _ _ (Nat.le_of_ble_eq_true rfl) rfl) (.cons (.flat (by kernel_rfl)) (.cons (.flat (by kernel_rfl)) .nil)))))))))))) (by kernel_rfl) (by kernel_rfl) rfl) rfl rfl) (TL.post (L8l0 r1 r3 r5 r7 r15 r19 r30 true 0 r60 h61) ?_))
        rintro e a1 h1 hp
        obtain ⟨rfl, hw⟩ := hp
        refine ⟨(st 159 [(5, pt 0 0), (6, pt 1 0), (7, pt 2 0), (8, pt 3 0), (10, pt 4 0), (11, pt 5 0), (15, pt 6 0), (16, pt 7 0), (18, .bool r60)]), (H8_13 r1 r3 r5 r15 r19), ?_, hw⟩
        refine NX.bkX ?_
        refine NX.sq ?_
        refine TS.seqP (by kernel_rfl) ?_
        refine TS.regionP (by kernel_rfl) ?_
        refine TI.runA 1 [5, 6, 7, 8, 10, 11, 15, 16, 18, 22] (a2 := (st 159 [(5, pt 0 0), (6, pt 1 0), (7, pt 2 0), (8, pt 3 0), (10, pt 4 0), (11, pt 5 0), (15, pt 6 0), (16, pt 7 0), (18, .bool r60), (22, iv 12)])) (by kernel_rfl) ?_
        refine TI.done (by kernel_rfl) ?_
        refine NX.sq ?_
        refine TS.seqP (by kernel_rfl) ?_
        refine TS.seqP (by kernel_rfl) ?_
        refine TS.regionP (by kernel_rfl) ?_
        refine TI.runA 1 [5, 6, 7, 8, 10, 11, 15, 16, 18, 22, 127] (a2 := (st 159 [(5, pt 0 0), (6, pt 1 0), (7, pt 2 0), (8, pt 3 0), (10, pt 4 0), (11, pt 5 0), (15, pt 6 0), (16, pt 7 0), (18, .bool r60), (22, iv 12), (127, .bool r60)])) (by kernel_rfl) ?_
        refine TI.done (by kernel_rfl) ?_
        refine NX.sq ?_
        have hX := of_do hF
        clear hF
        obtain ⟨m66, hm67, hF⟩ := hX
        have hK : NX Try.prog 0 0 [.sq c8.s2.s2.s2.s2.s2.s2.s2.s2.s2.s2.s2.s2.s2.s2] (FinP Try.prog Try.f8 0 (V8 0 r) (N8 0 r)) .normal (st 159 [(5, pt 0 0), (6, pt 1 0), (7, pt 2 0), (8, pt 3 0), (10, pt 4 0), (11, pt 5 0), (15, pt 6 0), (16, pt 7 0), (18, .bool m66.1), (22, iv m66.2)]) (H8_13 r1 r3 r5 r15 r19) := by
          refine NX.sq ?_
          refine TS.seqP (by kernel_rfl) ?_
          have hX := of_do hF
          clear hF
          obtain ⟨r68, h69, hF⟩ := hX
          have hX := of_do hF
          clear hF
          obtain ⟨r70, h71, hF⟩ := hX
          have hX := of_do hF
          clear hF
          obtain ⟨m91, hm92, hF⟩ := hX
          have hK : NX Try.prog 0 0 [.sq c8.s2.s2.s2.s2.s2.s2.s2.s2.s2.s2.s2.s2.s2.s2.s2] (FinP Try.prog Try.f8 0 (V8 0 r) (N8 0 r)) .normal (st 159 [(4, .bool m91)]) [.dead, .dead, .dead, .dead, .dead, .dead, .dead, .dead] := by
            refine NX.sq ?_
            refine TS.ret' (by kernel_rfl) ?_
            have hF := Option.some.inj hF
            subst hF
            exact ⟨.inr rfl, rfl, .bool m91, by kernel_rfl, WkV.flat0 (by kernel_rfl) (Nat.le_of_ble_eq_true rfl)⟩
          rcases Bool.eq_false_or_eq_true (m66.1) with hc72 | hc72
          · replace hm92 := of_pos hm92 hc72
            rcases Bool.eq_false_or_eq_true (r68 == r70) with hc73 | hc73
            · replace hm92 := of_pos hm92 hc73
              have hX := of_do hm92
              clear hm92
              obtain ⟨r74, h75, hm92⟩ := hX
              rcases Bool.eq_false_or_eq_true (r74 == m66.2) with hc76 | hc76
              · replace hm92 := of_pos hm92 hc76
                have hX := of_do hm92
                clear hm92
                obtain ⟨r77, h78, hm92⟩ := hX
                rcases Bool.eq_false_or_eq_true (r77 == 0) with hc79 | hc79
                · replace hm92 := of_pos hm92 hc79
                  have hX := of_do hm92
                  clear hm92
                  obtain ⟨r80, h81, hm92⟩ := hX
                  have hm92 := Option.some.inj hm92
                  subst hm92
                  have hT : ∀ e ∈ ([⟨41, [ag [iv r19.1, iv r19.2], ag [iv r19.1, iv r19.2]], (H8_13 r1 r3 r5 r15 r19), iv r68, []⟩, ⟨41, [ag [iv r3.2.1.1, iv r3.2.1.2], ag [iv r3.2.1.1, iv r3.2.1.2]], (H8_13 r1 r3 r5 r15 r19), iv r70, []⟩, ⟨32, [ag [iv r1.1.1.1, iv r1.1.1.2, iv r1.1.2.1, iv r1.1.2.2], ag [iv r5.1.1, iv r5.1.2], ag [iv r5.2.1.1, iv r5.2.1.2], ag [iv r1.2.1, iv r1.2.2], ag [iv r15.1, iv r15.2]], (H8_13 r1 r3 r5 r15 r19), iv r74, []⟩, ⟨32, [ag [iv r1.1.1.1, iv r1.1.1.2, iv r1.1.2.1, iv r1.1.2.2], ag [iv r5.1.1, iv r5.1.2], ag [iv r5.2.1.1, iv r5.2.1.2], ag [iv r1.2.1, iv r1.2.2], ag [iv r3.1.1, iv r3.1.2]], (H8_13 r1 r3 r5 r15 r19), iv r77, []⟩, ⟨22, [], (H8_13 r1 r3 r5 r15 r19), .bool r80, []⟩] : List Entry), PureSim Try.prog e.g e.args e.h e.v e.new := by
                    intro e he
                    simp only [List.mem_cons, List.not_mem_nil, or_false] at he
                    rcases he with rfl | rfl | rfl | rfl | rfl
                    · exact PureSim.anyK (C41 _ _ _ _ _ h69) (by kernel_rfl)
                    · exact PureSim.anyK (C41 _ _ _ _ _ h71) (by kernel_rfl)
                    · exact PureSim.anyK (C32 _ _ _ _ _ _ _ _ _ _ _ _ _ h75) (by kernel_rfl)
                    · exact PureSim.anyK (C32 _ _ _ _ _ _ _ _ _ _ _ _ _ h78) (by kernel_rfl)
                    · exact PureSim.anyK (C22 _ h81) (by kernel_rfl)
                  refine TS.drawP [⟨41, [ag [iv r19.1, iv r19.2], ag [iv r19.1, iv r19.2]], (H8_13 r1 r3 r5 r15 r19), iv r68, []⟩, ⟨41, [ag [iv r3.2.1.1, iv r3.2.1.2], ag [iv r3.2.1.1, iv r3.2.1.2]], (H8_13 r1 r3 r5 r15 r19), iv r70, []⟩, ⟨32, [ag [iv r1.1.1.1, iv r1.1.1.2, iv r1.1.2.1, iv r1.1.2.2], ag [iv r5.1.1, iv r5.1.2], ag [iv r5.2.1.1, iv r5.2.1.2], ag [iv r1.2.1, iv r1.2.2], ag [iv r15.1, iv r15.2]], (H8_13 r1 r3 r5 r15 r19), iv r74, []⟩, ⟨32, [ag [iv r1.1.1.1, iv r1.1.1.2, iv r1.1.2.1, iv r1.1.2.2], ag [iv r5.1.1, iv r5.1.2], ag [iv r5.2.1.1, iv r5.2.1.2], ag [iv r1.2.1, iv r1.2.2], ag [iv r3.1.1, iv r3.1.2]], (H8_13 r1 r3 r5 r15 r19), iv r77, []⟩, ⟨22, [], (H8_13 r1 r3 r5 r15 r19), .bool r80, []⟩] hT mixed (by kernel_rfl) 25 (by kernel_rfl) [4] [] (a2 := (st 159 [(4, .bool r80)])) (h2 := [.dead, .dead, .dead, .dead, .dead, .dead, .dead, .dead]) ?_ ?_
                  · refine QJ.op (q := { val := .bool true }) (by decide) (q_conv (e := m66.1) (b := true) (by kernel_rfl) hc72) ?_
                    refine QJ.run (s1 := (qs (S8_15 m66 r19) (H8_13 r1 r3 r5 r15 r19) [] [])) 2 (by kernel_rfl) (by kernel_rfl) ?_
                    refine QJ.op (q := { val := iv r68, new := [] }) (by decide) (qOf_call (g := 41) (args := [ag [iv r19.1, iv r19.2], ag [iv r19.1, iv r19.2]]) (by kernel_rfl) lookC_hit) ?_
                    refine QJ.run (s1 := (qs (S8_10 m66 r19 r68 r3) (H8_13 r1 r3 r5 r15 r19) [] [])) 2 (by kernel_rfl) (by kernel_rfl) ?_
                    refine QJ.op (q := { val := iv r70, new := [] }) (by decide) (qOf_call (g := 41) (args := [ag [iv r3.2.1.1, iv r3.2.1.2], ag [iv r3.2.1.1, iv r3.2.1.2]]) (by kernel_rfl) (lookC_skip (by intro _ ha _; have hr := Option.some.inj (h69.symm.trans (Eq.trans (congr (congr (congr (congrArg F41 (show r19.1 = r3.2.1.1 from congrArg (leafI 0) ha)) (show r19.2 = r3.2.1.2 from congrArg (leafI 1) ha)) (show r19.1 = r3.2.1.1 from congrArg (leafI 2) ha)) (show r19.2 = r3.2.1.2 from congrArg (leafI 3) ha)) h71)); first | (subst hr; rfl) | (cases hr; done) | (cases hr; rfl)) lookC_hit)) ?_
                    refine QJ.op (q := { val := .bool true }) (by decide) (q_conv (e := r68 == r70) (b := true) (by kernel_rfl) hc73) ?_
                    refine QJ.run (s1 := (qs (S8_5 m66 r19 r68 r3 r70 r1 r5 r15) (H8_13 r1 r3 r5 r15 r19) [] [])) 7 (by kernel_rfl) (by kernel_rfl) ?_
                    refine QJ.op (q := { val := iv r74, new := [] }) (by decide) (qOf_call (g := 32) (args := [ag [iv r1.1.1.1, iv r1.1.1.2, iv r1.1.2.1, iv r1.1.2.2], ag [iv r5.1.1, iv r5.1.2], ag [iv r5.2.1.1, iv r5.2.1.2], ag [iv r1.2.1, iv r1.2.2], ag [iv r15.1, iv r15.2]]) (by kernel_rfl) (lookC_skip (fun hg => absurd (show (41 : Nat) = 32 from hg) (by decide)) (lookC_skip (fun hg => absurd (show (41 : Nat) = 32 from hg) (by decide)) lookC_hit))) ?_
                    refine QJ.run (s1 := (qs (S8_3 m66 r19 r68 r3 r70 r1 r5 r15 r74) (H8_13 r1 r3 r5 r15 r19) [] [])) 1 (by kernel_rfl) (by kernel_rfl) ?_
                    refine QJ.op (q := { val := .bool true }) (by decide) (q_conv (e := r74 == m66.2) (b := true) (by kernel_rfl) hc76) ?_
                    refine QJ.run (s1 := (qs (S8_1 m66 r19 r68 r3 r70 r1 r5 r15 r74) (H8_13 r1 r3 r5 r15 r19) [] [])) 7 (by kernel_rfl) (by kernel_rfl) ?_
                    refine QJ.done (by kernel_rfl) ⟨rfl, ?_⟩
                    refine SJ.op (q := { val := iv r77, new := [] }) (by kernel_rfl) (qOf_call (g := 32) (args := [ag [iv r1.1.1.1, iv r1.1.1.2, iv r1.1.2.1, iv r1.1.2.2], ag [iv r5.1.1, iv r5.1.2], ag [iv r5.2.1.1, iv r5.2.1.2], ag [iv r1.2.1, iv r1.2.2], ag [iv r3.1.1, iv r3.1.2]]) (by kernel_rfl) (lookC_skip (fun hg => absurd (show (41 : Nat) = 32 from hg) (by decide)) (lookC_skip (fun hg => absurd (show (41 : Nat) = 32 from hg) (by decide)) (lookC_skip (by intro _ ha _; have hr := Option.some.inj (h75.symm.trans (Eq.trans (congr (congr (congr (congr (congr (congr (congr (congr (congr (congr (congr (congrArg F32 (Eq.refl r1.1.1.1)) (Eq.refl r1.1.1.2)) (Eq.refl r1.1.2.1)) (Eq.refl r1.1.2.2)) (Eq.refl r5.1.1)) (Eq.refl r5.1.2)) (Eq.refl r5.2.1.1)) (Eq.refl r5.2.1.2)) (Eq.refl r1.2.1)) (Eq.refl r1.2.2)) (show r15.1 = r3.1.1 from congrArg (leafI 10) ha)) (show r15.2 = r3.1.2 from congrArg (leafI 11) ha)) h78)); first | (subst hr; rfl) | (cases hr; done) | (cases hr; rfl)) lookC_hit)))) ?_
                    refine SJ.op (q := { val := .bool true }) (by kernel_rfl) (q_conv (e := r77 == 0) (b := true) (by kernel_rfl) hc79) ?_
                    refine SJ.run (a3 := (st 159 [(5, pt 0 0), (6, pt 1 0), (7, pt 2 0), (8, pt 3 0), (10, pt 4 0), (11, pt 5 0), (15, pt 6 0), (16, pt 7 0), (18, .bool m66.1), (22, iv m66.2), (128, .bool true), (129, ag [iv r19.1, iv r19.2]), (130, ag [iv r19.1, iv r19.2]), (131, iv r68), (132, ag [iv r3.2.1.1, iv r3.2.1.2]), (133, ag [iv r3.2.1.1, iv r3.2.1.2]), (134, iv r70), (135, .bool true), (136, .bool true), (137, .bool true), (138, ag [iv r1.1.1.1, iv r1.1.1.2, iv r1.1.2.1, iv r1.1.2.2]), (139, ag [iv r5.1.1, iv r5.1.2]), (140, ag [iv r5.2.1.1, iv r5.2.1.2]), (141, ag [iv r1.2.1, iv r1.2.2]), (142, ag [iv r15.1, iv r15.2]), (143, iv r74), (144, iv m66.2), (145, .bool true), (146, .bool true), (147, .bool true), (148, ag [iv r1.1.1.1, iv r1.1.1.2, iv r1.1.2.1, iv r1.1.2.2]), (149, ag [iv r5.1.1, iv r5.1.2]), (150, ag [iv r5.2.1.1, iv r5.2.1.2]), (151, ag [iv r1.2.1, iv r1.2.2]), (152, ag [iv r3.1.1, iv r3.1.2]), (153, iv r77), (154, .bool true), (155, .bool true), (156, .bool true)])) (h3 := (H8_13 r1 r3 r5 r15 r19)) 2 (by kernel_rfl) ?_
                    refine SJ.op (q := { val := .bool r80, new := [] }) (by kernel_rfl) (qOf_call (g := 22) (args := []) (by kernel_rfl) (lookC_skip (fun hg => absurd (show (41 : Nat) = 22 from hg) (by decide)) (lookC_skip (fun hg => absurd (show (41 : Nat) = 22 from hg) (by decide)) (lookC_skip (fun hg => absurd (show (32 : Nat) = 22 from hg) (by decide)) (lookC_skip (fun hg => absurd (show (32 : Nat) = 22 from hg) (by decide)) lookC_hit))))) ?_
                    refine SJ.last (by kernel_rfl)
                  exact hK
                · replace hm92 := of_neg hm92 hc79
                  have hm92 := Option.some.inj hm92
                  subst hm92
                  have hT : ∀ e ∈ ([⟨41, [ag [iv r19.1, iv r19.2], ag [iv r19.1, iv r19.2]], (H8_13 r1 r3 r5 r15 r19), iv r68, []⟩, ⟨41, [ag [iv r3.2.1.1, iv r3.2.1.2], ag [iv r3.2.1.1, iv r3.2.1.2]], (H8_13 r1 r3 r5 r15 r19), iv r70, []⟩, ⟨32, [ag [iv r1.1.1.1, iv r1.1.1.2, iv r1.1.2.1, iv r1.1.2.2], ag [iv r5.1.1, iv r5.1.2], ag [iv r5.2.1.1, iv r5.2.1.2], ag [iv r1.2.1, iv r1.2.2], ag [iv r15.1, iv r15.2]], (H8_13 r1 r3 r5 r15 r19), iv r74, []⟩, ⟨32, [ag [iv r1.1.1.1, iv r1.1.1.2, iv r1.1.2.1, iv r1.1.2.2], ag [iv r5.1.1, iv r5.1.2], ag [iv r5.2.1.1, iv r5.2.1.2], ag [iv r1.2.1, iv r1.2.2], ag [iv r3.1.1, iv r3.1.2]], (H8_13 r1 r3 r5 r15 r19), iv r77, []⟩] : List Entry), PureSim Try.prog e.g e.args e.h e.v e.new := by
                    intro e he
                    simp only [List.mem_cons, List.not_mem_nil, or_false] at he
                    rcases he with rfl | rfl | rfl | rfl
                    · exact PureSim.anyK (C41 _ _ _ _ _ h69) (by kernel_rfl)
                    · exact PureSim.anyK (C41 _ _ _ _ _ h71) (by kernel_rfl)
                    · exact PureSim.anyK (C32 _ _ _ _ _ _ _ _ _ _ _ _ _ h75) (by kernel_rfl)
                    · exact PureSim.anyK (C32 _ _ _ _ _ _ _ _ _ _ _ _ _ h78) (by kernel_rfl)
                  refine TS.drawP [⟨41, [ag [iv r19.1, iv r19.2], ag [iv r19.1, iv r19.2]], (H8_13 r1 r3 r5 r15 r19), iv r68, []⟩, ⟨41, [ag [iv r3.2.1.1, iv r3.2.1.2], ag [iv r3.2.1.1, iv r3.2.1.2]], (H8_13 r1 r3 r5 r15 r19), iv r70, []⟩, ⟨32, [ag [iv r1.1.1.1, iv r1.1.1.2, iv r1.1.2.1, iv r1.1.2.2], ag [iv r5.1.1, iv r5.1.2], ag [iv r5.2.1.1, iv r5.2.1.2], ag [iv r1.2.1, iv r1.2.2], ag [iv r15.1, iv r15.2]], (H8_13 r1 r3 r5 r15 r19), iv r74, []⟩, ⟨32, [ag [iv r1.1.1.1, iv r1.1.1.2, iv r1.1.2.1, iv r1.1.2.2], ag [iv r5.1.1, iv r5.1.2], ag [iv r5.2.1.1, iv r5.2.1.2], ag [iv r1.2.1, iv r1.2.2], ag [iv r3.1.1, iv r3.1.2]], (H8_13 r1 r3 r5 r15 r19), iv r77, []⟩] hT mixed (by kernel_rfl) 25 (by kernel_rfl) [4] [] (a2 := (st 159 [(4, .bool false)])) (h2 := [.dead, .dead, .dead, .dead, .dead, .dead, .dead, .dead]) ?_ ?_
                  · refine QJ.op (q := { val := .bool true }) (by decide) (q_conv (e := m66.1) (b := true) (by kernel_rfl) hc72) ?_
                    refine QJ.run (s1 := (qs (S8_15 m66 r19) (H8_13 r1 r3 r5 r15 r19) [] [])) 2 (by kernel_rfl) (by kernel_rfl) ?_
                    refine QJ.op (q := { val := iv r68, new := [] }) (by decide) (qOf_call (g := 41) (args := [ag [iv r19.1, iv r19.2], ag [iv r19.1, iv r19.2]]) (by kernel_rfl) lookC_hit) ?_
                    refine QJ.run (s1 := (qs (S8_10 m66 r19 r68 r3) (H8_13 r1 r3 r5 r15 r19) [] [])) 2 (by kernel_rfl) (by kernel_rfl) ?_
                    refine QJ.op (q := { val := iv r70, new := [] }) (by decide) (qOf_call (g := 41) (args := [ag [iv r3.2.1.1, iv r3.2.1.2], ag [iv r3.2.1.1, iv r3.2.1.2]]) (by kernel_rfl) (lookC_skip (by intro _ ha _; have hr := Option.some.inj (h69.symm.trans (Eq.trans (congr (congr (congr (congrArg F41 (show r19.1 = r3.2.1.1 from congrArg (leafI 0) ha)) (show r19.2 = r3.2.1.2 from congrArg (leafI 1) ha)) (show r19.1 = r3.2.1.1 from congrArg (leafI 2) ha)) (show r19.2 = r3.2.1.2 from congrArg (leafI 3) ha)) h71)); first | (subst hr; rfl) | (cases hr; done) | (cases hr; rfl)) lookC_hit)) ?_
                    refine QJ.op (q := { val := .bool true }) (by decide) (q_conv (e := r68 == r70) (b := true) (by kernel_rfl) hc73) ?_
                    refine QJ.run (s1 := (qs (S8_5 m66 r19 r68 r3 r70 r1 r5 r15) (H8_13 r1 r3 r5 r15 r19) [] [])) 7 (by kernel_rfl) (by kernel_rfl) ?_
                    refine QJ.op (q := { val := iv r74, new := [] }) (by decide) (qOf_call (g := 32) (args := [ag [iv r1.1.1.1, iv r1.1.1.2, iv r1.1.2.1, iv r1.1.2.2], ag [iv r5.1.1, iv r5.1.2], ag [iv r5.2.1.1, iv r5.2.1.2], ag [iv r1.2.1, iv r1.2.2], ag [iv r15.1, iv r15.2]]) (by kernel_rfl) (lookC_skip (fun hg => absurd (show (41 : Nat) = 32 from hg) (by decide)) (lookC_skip (fun hg => absurd (show (41 : Nat) = 32 from hg) (by decide)) lookC_hit))) ?_
                    refine QJ.run (s1 := (qs (S8_3 m66 r19 r68 r3 r70 r1 r5 r15 r74) (H8_13 r1 r3 r5 r15 r19) [] [])) 1 (by kernel_rfl) (by kernel_rfl) ?_
                    refine QJ.op (q := { val := .bool true }) (by decide) (q_conv (e := r74 == m66.2) (b := true) (by kernel_rfl) hc76) ?_
                    refine QJ.run (s1 := (qs (S8_1 m66 r19 r68 r3 r70 r1 r5 r15 r74) (H8_13 r1 r3 r5 r15 r19) [] [])) 7 (by kernel_rfl) (by kernel_rfl) ?_
                    refine QJ.done (by kernel_rfl) ⟨rfl, ?_⟩
                    refine SJ.op (q := { val := iv r77, new := [] }) (by kernel_rfl) (qOf_call (g := 32) (args := [ag [iv r1.1.1.1, iv r1.1.1.2, iv r1.1.2.1, iv r1.1.2.2], ag [iv r5.1.1, iv r5.1.2], ag [iv r5.2.1.1, iv r5.2.1.2], ag [iv r1.2.1, iv r1.2.2], ag [iv r3.1.1, iv r3.1.2]]) (by kernel_rfl) (lookC_skip (fun hg => absurd (show (41 : Nat) = 32 from hg) (by decide)) (lookC_skip (fun hg => absurd (show (41 : Nat) = 32 from hg) (by decide)) (lookC_skip (by intro _ ha _; have hr := Option.some.inj (h75.symm.trans (Eq.trans (congr (congr (congr (congr (congr (congr (congr (congr (congr (congr (congr (congrArg F32 (Eq.refl r1.1.1.1)) (Eq.refl r1.1.1.2)) (Eq.refl r1.1.2.1)) (Eq.refl r1.1.2.2)) (Eq.refl r5.1.1)) (Eq.refl r5.1.2)) (Eq.refl r5.2.1.1)) (Eq.refl r5.2.1.2)) (Eq.refl r1.2.1)) (Eq.refl r1.2.2)) (show r15.1 = r3.1.1 from congrArg (leafI 10) ha)) (show r15.2 = r3.1.2 from congrArg (leafI 11) ha)) h78)); first | (subst hr; rfl) | (cases hr; done) | (cases hr; rfl)) lookC_hit)))) ?_
                    refine SJ.op (q := { val := .bool false }) (by kernel_rfl) (q_conv (e := r77 == 0) (b := false) (by kernel_rfl) hc79) ?_
                    refine SJ.last (by kernel_rfl)
                  exact hK
              · replace hm92 := of_neg hm92 hc76
                have hm92 := Option.some.inj hm92
                subst hm92
                have hT : ∀ e ∈ ([⟨41, [ag [iv r19.1, iv r19.2], ag [iv r19.1, iv r19.2]], (H8_13 r1 r3 r5 r15 r19), iv r68, []⟩, ⟨41, [ag [iv r3.2.1.1, iv r3.2.1.2], ag [iv r3.2.1.1, iv r3.2.1.2]], (H8_13 r1 r3 r5 r15 r19), iv r70, []⟩, ⟨32, [ag [iv r1.1.1.1, iv r1.1.1.2, iv r1.1.2.1, iv r1.1.2.2], ag [iv r5.1.1, iv r5.1.2], ag [iv r5.2.1.1, iv r5.2.1.2], ag [iv r1.2.1, iv r1.2.2], ag [iv r15.1, iv r15.2]], (H8_13 r1 r3 r5 r15 r19), iv r74, []⟩] : List Entry), PureSim Try.prog e.g e.args e.h e.v e.new := by
                  intro e he
                  simp only [List.mem_cons, List.not_mem_nil, or_false] at he
                  rcases he with rfl | rfl | rfl
                  · exact PureSim.anyK (C41 _ _ _ _ _ h69) (by kernel_rfl)
                  · exact PureSim.anyK (C41 _ _ _ _ _ h71) (by kernel_rfl)
                  · exact PureSim.anyK (C32 _ _ _ _ _ _ _ _ _ _ _ _ _ h75) (by kernel_rfl)
                refine TS.drawP [⟨41, [ag [iv r19.1, iv r19.2], ag [iv r19.1, iv r19.2]], (H8_13 r1 r3 r5 r15 r19), iv r68, []⟩, ⟨41, [ag [iv r3.2.1.1, iv r3.2.1.2], ag [iv r3.2.1.1, iv r3.2.1.2]], (H8_13 r1 r3 r5 r15 r19), iv r70, []⟩, ⟨32, [ag [iv r1.1.1.1, iv r1.1.1.2, iv r1.1.2.1, iv r1.1.2.2], ag [iv r5.1.1, iv r5.1.2], ag [iv r5.2.1.1, iv r5.2.1.2], ag [iv r1.2.1, iv r1.2.2], ag [iv r15.1, iv r15.2]], (H8_13 r1 r3 r5 r15 r19), iv r74, []⟩] hT mixed (by kernel_rfl) 25 (by kernel_rfl) [4] [] (a2 := (st 159 [(4, .bool false)])) (h2 := [.dead, .dead, .dead, .dead, .dead, .dead, .dead, .dead]) ?_ ?_
                · refine QJ.op (q := { val := .bool true }) (by decide) (q_conv (e := m66.1) (b := true) (by kernel_rfl) hc72) ?_
                  refine QJ.run (s1 := (qs (S8_15 m66 r19) (H8_13 r1 r3 r5 r15 r19) [] [])) 2 (by kernel_rfl) (by kernel_rfl) ?_
                  refine QJ.op (q := { val := iv r68, new := [] }) (by decide) (qOf_call (g := 41) (args := [ag [iv r19.1, iv r19.2], ag [iv r19.1, iv r19.2]]) (by kernel_rfl) lookC_hit) ?_
                  refine QJ.run (s1 := (qs (S8_10 m66 r19 r68 r3) (H8_13 r1 r3 r5 r15 r19) [] [])) 2 (by kernel_rfl) (by kernel_rfl) ?_
                  refine QJ.op (q := { val := iv r70, new := [] }) (by decide) (qOf_call (g := 41) (args := [ag [iv r3.2.1.1, iv r3.2.1.2], ag [iv r3.2.1.1, iv r3.2.1.2]]) (by kernel_rfl) (lookC_skip (by intro _ ha _; have hr := Option.some.inj (h69.symm.trans (Eq.trans (congr (congr (congr (congrArg F41 (show r19.1 = r3.2.1.1 from congrArg (leafI 0) ha)) (show r19.2 = r3.2.1.2 from congrArg (leafI 1) ha)) (show r19.1 = r3.2.1.1 from congrArg (leafI 2) ha)) (show r19.2 = r3.2.1.2 from congrArg (leafI 3) ha)) h71)); first | (subst hr; rfl) | (cases hr; done) | (cases hr; rfl)) lookC_hit)) ?_
                  refine QJ.op (q := { val := .bool true }) (by decide) (q_conv (e := r68 == r70) (b := true) (by kernel_rfl) hc73) ?_
                  refine QJ.run (s1 := (qs (S8_5 m66 r19 r68 r3 r70 r1 r5 r15) (H8_13 r1 r3 r5 r15 r19) [] [])) 7 (by kernel_rfl) (by kernel_rfl) ?_
                  refine QJ.op (q := { val := iv r74, new := [] }) (by decide) (qOf_call (g := 32) (args := [ag [iv r1.1.1.1, iv r1.1.1.2, iv r1.1.2.1, iv r1.1.2.2], ag [iv r5.1.1, iv r5.1.2], ag [iv r5.2.1.1, iv r5.2.1.2], ag [iv r1.2.1, iv r1.2.2], ag [iv r15.1, iv r15.2]]) (by kernel_rfl) (lookC_skip (fun hg => absurd (show (41 : Nat) = 32 from hg) (by decide)) (lookC_skip (fun hg => absurd (show (41 : Nat) = 32 from hg) (by decide)) lookC_hit))) ?_
                  refine QJ.run (s1 := (qs (S8_3 m66 r19 r68 r3 r70 r1 r5 r15 r74) (H8_13 r1 r3 r5 r15 r19) [] [])) 1 (by kernel_rfl) (by kernel_rfl) ?_
                  refine QJ.op (q := { val := .bool false }) (by decide) (q_conv (e := r74 == m66.2) (b := false) (by kernel_rfl) hc76) ?_
                  refine QJ.run (s1 := (qs (st 159 [(5, pt 0 0), (6, pt 1 0), (7, pt 2 0), (8, pt 3 0), (10, pt 4 0), (11, pt 5 0), (15, pt 6 0), (16, pt 7 0), (18, .bool m66.1), (22, iv m66.2), (128, .bool true), (129, ag [iv r19.1, iv r19.2]), (130, ag [iv r19.1, iv r19.2]), (131, iv r68), (132, ag [iv r3.2.1.1, iv r3.2.1.2]), (133, ag [iv r3.2.1.1, iv r3.2.1.2]), (134, iv r70), (135, .bool true), (136, .bool true), (137, .bool true), (138, ag [iv r1.1.1.1, iv r1.1.1.2, iv r1.1.2.1, iv r1.1.2.2]), (139, ag [iv r5.1.1, iv r5.1.2]), (140, ag [iv r5.2.1.1, iv r5.2.1.2]), (141, ag [iv r1.2.1, iv r1.2.2]), (142, ag [iv r15.1, iv r15.2]), (143, iv r74), (144, iv m66.2), (145, .bool false), (146, .bool false), (147, .bool false), (148, undef), (149, undef), (150, undef), (151, undef), (152, undef)]) (H8_13 r1 r3 r5 r15 r19) [] [])) 7 (by kernel_rfl) (by kernel_rfl) ?_
                  refine QJ.done (by kernel_rfl) ⟨rfl, ?_⟩
                  refine SJ.last (by kernel_rfl)
                exact hK
            · replace hm92 := of_neg hm92 hc73
              have hm92 := Option.some.inj hm92
              subst hm92
              have hT : ∀ e ∈ ([⟨41, [ag [iv r19.1, iv r19.2], ag [iv r19.1, iv r19.2]], (H8_13 r1 r3 r5 r15 r19), iv r68, []⟩, ⟨41, [ag [iv r3.2.1.1, iv r3.2.1.2], ag [iv r3.2.1.1, iv r3.2.1.2]], (H8_13 r1 r3 r5 r15 r19), iv r70, []⟩] : List Entry), PureSim Try.prog e.g e.args e.h e.v e.new := by
                intro e he
                simp only [List.mem_cons, List.not_mem_nil, or_false] at he
                rcases he with rfl | rfl
                · exact PureSim.anyK (C41 _ _ _ _ _ h69) (by kernel_rfl)
                · exact PureSim.anyK (C41 _ _ _ _ _ h71) (by kernel_rfl)
              refine TS.drawP [⟨41, [ag [iv r19.1, iv r19.2], ag [iv r19.1, iv r19.2]], (H8_13 r1 r3 r5 r15 r19), iv r68, []⟩, ⟨41, [ag [iv r3.2.1.1, iv r3.2.1.2], ag [iv r3.2.1.1, iv r3.2.1.2]], (H8_13 r1 r3 r5 r15 r19), iv r70, []⟩] hT mixed (by kernel_rfl) 25 (by kernel_rfl) [4] [] (a2 := (st 159 [(4, .bool false)])) (h2 := [.dead, .dead, .dead, .dead, .dead, .dead, .dead, .dead]) ?_ ?_
              · refine QJ.op (q := { val := .bool true }) (by decide) (q_conv (e := m66.1) (b := true) (by kernel_rfl) hc72) ?_
                refine QJ.run (s1 := (qs (S8_15 m66 r19) (H8_13 r1 r3 r5 r15 r19) [] [])) 2 (by kernel_rfl) (by kernel_rfl) ?_
                refine QJ.op (q := { val := iv r68, new := [] }) (by decide) (qOf_call (g := 41) (args := [ag [iv r19.1, iv r19.2], ag [iv r19.1, iv r19.2]]) (by kernel_rfl) lookC_hit) ?_
                refine QJ.run (s1 := (qs (S8_10 m66 r19 r68 r3) (H8_13 r1 r3 r5 r15 r19) [] [])) 2 (by kernel_rfl) (by kernel_rfl) ?_
                refine QJ.op (q := { val := iv r70, new := [] }) (by decide) (qOf_call (g := 41) (args := [ag [iv r3.2.1.1, iv r3.2.1.2], ag [iv r3.2.1.1, iv r3.2.1.2]]) (by kernel_rfl) (lookC_skip (by intro _ ha _; have hr := Option.some.inj (h69.symm.trans (Eq.trans (congr (congr (congr (congrArg F41 (show r19.1 = r3.2.1.1 from congrArg (leafI 0) ha)) (show r19.2 = r3.2.1.2 from congrArg (leafI 1) ha)) (show r19.1 = r3.2.1.1 from congrArg (leafI 2) ha)) (show r19.2 = r3.2.1.2 from congrArg (leafI 3) ha)) h71)); first | (subst hr; rfl) | (cases hr; done) | (cases hr; rfl)) lookC_hit)) ?_
                refine QJ.op (q := { val := .bool false }) (by decide) (q_conv (e := r68 == r70) (b := false) (by kernel_rfl) hc73) ?_
                refine QJ.run (s1 := (qs (st 159 [(5, pt 0 0), (6, pt 1 0), (7, pt 2 0), (8, pt 3 0), (10, pt 4 0), (11, pt 5 0), (15, pt 6 0), (16, pt 7 0), (18, .bool m66.1), (22, iv m66.2), (128, .bool true), (129, ag [iv r19.1, iv r19.2]), (130, ag [iv r19.1, iv r19.2]), (131, iv r68), (132, ag [iv r3.2.1.1, iv r3.2.1.2]), (133, ag [iv r3.2.1.1, iv r3.2.1.2]), (134, iv r70), (135, .bool false), (136, .bool false), (137, .bool false), (138, undef), (139, undef), (140, undef), (141, undef), (142, undef), (143, undef), (144, undef), (145, undef), (146, .bool false), (147, .bool false), (148, undef), (149, undef), (150, undef), (151, undef), (152, undef)]) (H8_13 r1 r3 r5 r15 r19) [] [])) 17 (by kernel_rfl) (by kernel_rfl) ?_
                refine QJ.done (by kernel_rfl) ⟨rfl, ?_⟩
                refine SJ.last (by kernel_rfl)
              exact hK
          · replace hm92 := of_neg hm92 hc72
            rcases Bool.eq_false_or_eq_true (r68 == r70) with hc82 | hc82
            · replace hm92 := of_pos hm92 hc82
              have hm92 := Option.some.inj hm92
              subst hm92
              have hT : ∀ e ∈ ([⟨41, [ag [iv r19.1, iv r19.2], ag [iv r19.1, iv r19.2]], (H8_13 r1 r3 r5 r15 r19), iv r68, []⟩, ⟨41, [ag [iv r3.2.1.1, iv r3.2.1.2], ag [iv r3.2.1.1, iv r3.2.1.2]], (H8_13 r1 r3 r5 r15 r19), iv r70, []⟩] : List Entry), PureSim Try.prog e.g e.args e.h e.v e.new := by
                intro e he
                simp only [List.mem_cons, List.not_mem_nil, or_false] at he
                rcases he with rfl | rfl
                · exact PureSim.anyK (C41 _ _ _ _ _ h69) (by kernel_rfl)
                · exact PureSim.anyK (C41 _ _ _ _ _ h71) (by kernel_rfl)
              refine TS.drawP [⟨41, [ag [iv r19.1, iv r19.2], ag [iv r19.1, iv r19.2]], (H8_13 r1 r3 r5 r15 r19), iv r68, []⟩, ⟨41, [ag [iv r3.2.1.1, iv r3.2.1.2], ag [iv r3.2.1.1, iv r3.2.1.2]], (H8_13 r1 r3 r5 r15 r19), iv r70, []⟩] hT mixed (by kernel_rfl) 25 (by kernel_rfl) [4] [] (a2 := (st 159 [(4, .bool false)])) (h2 := [.dead, .dead, .dead, .dead, .dead, .dead, .dead, .dead]) ?_ ?_
              · refine QJ.op (q := { val := .bool false }) (by decide) (q_conv (e := m66.1) (b := false) (by kernel_rfl) hc72) ?_
                refine QJ.run (s1 := (qs (S8_14 m66 r19) (H8_13 r1 r3 r5 r15 r19) [] [])) 2 (by kernel_rfl) (by kernel_rfl) ?_
                refine QJ.op (q := { val := iv r68, new := [] }) (by decide) (qOf_call (g := 41) (args := [ag [iv r19.1, iv r19.2], ag [iv r19.1, iv r19.2]]) (by kernel_rfl) lookC_hit) ?_
                refine QJ.run (s1 := (qs (S8_9 m66 r19 r68 r3) (H8_13 r1 r3 r5 r15 r19) [] [])) 2 (by kernel_rfl) (by kernel_rfl) ?_
                refine QJ.op (q := { val := iv r70, new := [] }) (by decide) (qOf_call (g := 41) (args := [ag [iv r3.2.1.1, iv r3.2.1.2], ag [iv r3.2.1.1, iv r3.2.1.2]]) (by kernel_rfl) (lookC_skip (by intro _ ha _; have hr := Option.some.inj (h69.symm.trans (Eq.trans (congr (congr (congr (congrArg F41 (show r19.1 = r3.2.1.1 from congrArg (leafI 0) ha)) (show r19.2 = r3.2.1.2 from congrArg (leafI 1) ha)) (show r19.1 = r3.2.1.1 from congrArg (leafI 2) ha)) (show r19.2 = r3.2.1.2 from congrArg (leafI 3) ha)) h71)); first | (subst hr; rfl) | (cases hr; done) | (cases hr; rfl)) lookC_hit)) ?_
                refine QJ.op (q := { val := .bool true }) (by decide) (q_conv (e := r68 == r70) (b := true) (by kernel_rfl) hc82) ?_
                refine QJ.run (s1 := (qs (st 159 [(5, pt 0 0), (6, pt 1 0), (7, pt 2 0), (8, pt 3 0), (10, pt 4 0), (11, pt 5 0), (15, pt 6 0), (16, pt 7 0), (18, .bool m66.1), (22, iv m66.2), (128, .bool false), (129, ag [iv r19.1, iv r19.2]), (130, ag [iv r19.1, iv r19.2]), (131, iv r68), (132, ag [iv r3.2.1.1, iv r3.2.1.2]), (133, ag [iv r3.2.1.1, iv r3.2.1.2]), (134, iv r70), (135, .bool true), (136, .bool false), (137, .bool false), (138, undef), (139, undef), (140, undef), (141, undef), (142, undef), (143, undef), (144, undef), (145, undef), (146, .bool false), (147, .bool false), (148, undef), (149, undef), (150, undef), (151, undef), (152, undef)]) (H8_13 r1 r3 r5 r15 r19) [] [])) 17 (by kernel_rfl) (by kernel_rfl) ?_
                refine QJ.done (by kernel_rfl) ⟨rfl, ?_⟩
                refine SJ.last (by kernel_rfl)
              exact hK
            · replace hm92 := of_neg hm92 hc82
              have hX := of_do hm92
              clear hm92
              obtain ⟨r83, h84, hm92⟩ := hX
              rcases Bool.eq_false_or_eq_true (r83 == m66.2) with hc85 | hc85
              · replace hm92 := of_pos hm92 hc85
                have hX := of_do hm92
                clear hm92
                obtain ⟨r86, h87, hm92⟩ := hX
                rcases Bool.eq_false_or_eq_true (r86 == 0) with hc88 | hc88
                · replace hm92 := of_pos hm92 hc88
                  have hX := of_do hm92
                  clear hm92
                  obtain ⟨r89, h90, hm92⟩ := hX
                  have hm92 := Option.some.inj hm92
                  subst hm92
                  have hT : ∀ e ∈ ([⟨41, [ag [iv r19.1, iv r19.2], ag [iv r19.1, iv r19.2]], (H8_13 r1 r3 r5 r15 r19), iv r68, []⟩, ⟨41, [ag [iv r3.2.1.1, iv r3.2.1.2], ag [iv r3.2.1.1, iv r3.2.1.2]], (H8_13 r1 r3 r5 r15 r19), iv r70, []⟩, ⟨32, [ag [iv r1.1.1.1, iv r1.1.1.2, iv r1.1.2.1, iv r1.1.2.2], ag [iv r5.1.1, iv r5.1.2], ag [iv r5.2.1.1, iv r5.2.1.2], ag [iv r1.2.1, iv r1.2.2], ag [iv r15.1, iv r15.2]], (H8_13 r1 r3 r5 r15 r19), iv r83, []⟩, ⟨32, [ag [iv r1.1.1.1, iv r1.1.1.2, iv r1.1.2.1, iv r1.1.2.2], ag [iv r5.1.1, iv r5.1.2], ag [iv r5.2.1.1, iv r5.2.1.2], ag [iv r1.2.1, iv r1.2.2], ag [iv r3.1.1, iv r3.1.2]], (H8_13 r1 r3 r5 r15 r19), iv r86, []⟩, ⟨22, [], (H8_13 r1 r3 r5 r15 r19), .bool r89, []⟩] : List Entry), PureSim Try.prog e.g e.args e.h e.v e.new := by
                    intro e he
                    simp only [List.mem_cons, List.not_mem_nil, or_false] at he
                    rcases he with rfl | rfl | rfl | rfl | rfl
                    · exact PureSim.anyK (C41 _ _ _ _ _ h69) (by kernel_rfl)
                    · exact PureSim.anyK (C41 _ _ _ _ _ h71) (by kernel_rfl)
                    · exact PureSim.anyK (C32 _ _ _ _ _ _ _ _ _ _ _ _ _ h84) (by kernel_rfl)
                    · exact PureSim.anyK (C32 _ _ _ _ _ _ _ _ _ _ _ _ _ h87) (by kernel_rfl)
                    · exact PureSim.anyK (C22 _ h90) (by kernel_rfl)
                  refine TS.drawP [⟨41, [ag [iv r19.1, iv r19.2], ag [iv r19.1, iv r19.2]], (H8_13 r1 r3 r5 r15 r19), iv r68, []⟩, ⟨41, [ag [iv r3.2.1.1, iv r3.2.1.2], ag [iv r3.2.1.1, iv r3.2.1.2]], (H8_13 r1 r3 r5 r15 r19), iv r70, []⟩, ⟨32, [ag [iv r1.1.1.1, iv r1.1.1.2, iv r1.1.2.1, iv r1.1.2.2], ag [iv r5.1.1, iv r5.1.2], ag [iv r5.2.1.1, iv r5.2.1.2], ag [iv r1.2.1, iv r1.2.2], ag [iv r15.1, iv r15.2]], (H8_13 r1 r3 r5 r15 r19), iv r83, []⟩, ⟨32, [ag [iv r1.1.1.1, iv r1.1.1.2, iv r1.1.2.1, iv r1.1.2.2], ag [iv r5.1.1, iv r5.1.2], ag [iv r5.2.1.1, iv r5.2.1.2], ag [iv r1.2.1, iv r1.2.2], ag [iv r3.1.1, iv r3.1.2]], (H8_13 r1 r3 r5 r15 r19), iv r86, []⟩, ⟨22, [], (H8_13 r1 r3 r5 r15 r19), .bool r89, []⟩] hT mixed (by kernel_rfl) 25 (by kernel_rfl) [4] [] (a2 := (st 159 [(4, .bool r89)])) (h2 := [.dead, .dead, .dead, .dead, .dead, .dead, .dead, .dead]) ?_ ?_
                  · refine QJ.op (q := { val := .bool false }) (by decide) (q_conv (e := m66.1) (b := false) (by kernel_rfl) hc72) ?_
                    refine QJ.run (s1 := (qs (S8_14 m66 r19) (H8_13 r1 r3 r5 r15 r19) [] [])) 2 (by kernel_rfl) (by kernel_rfl) ?_
                    refine QJ.op (q := { val := iv r68, new := [] }) (by decide) (qOf_call (g := 41) (args := [ag [iv r19.1, iv r19.2], ag [iv r19.1, iv r19.2]]) (by kernel_rfl) lookC_hit) ?_
                    refine QJ.run (s1 := (qs (S8_9 m66 r19 r68 r3) (H8_13 r1 r3 r5 r15 r19) [] [])) 2 (by kernel_rfl) (by kernel_rfl) ?_
                    refine QJ.op (q := { val := iv r70, new := [] }) (by decide) (qOf_call (g := 41) (args := [ag [iv r3.2.1.1, iv r3.2.1.2], ag [iv r3.2.1.1, iv r3.2.1.2]]) (by kernel_rfl) (lookC_skip (by intro _ ha _; have hr := Option.some.inj (h69.symm.trans (Eq.trans (congr (congr (congr (congrArg F41 (show r19.1 = r3.2.1.1 from congrArg (leafI 0) ha)) (show r19.2 = r3.2.1.2 from congrArg (leafI 1) ha)) (show r19.1 = r3.2.1.1 from congrArg (leafI 2) ha)) (show r19.2 = r3.2.1.2 from congrArg (leafI 3) ha)) h71)); first | (subst hr; rfl) | (cases hr; done) | (cases hr; rfl)) lookC_hit)) ?_
                    refine QJ.op (q := { val := .bool false }) (by decide) (q_conv (e := r68 == r70) (b := false) (by kernel_rfl) hc82) ?_
                    refine QJ.run (s1 := (qs (S8_4 m66 r19 r68 r3 r70 r1 r5 r15) (H8_13 r1 r3 r5 r15 r19) [] [])) 7 (by kernel_rfl) (by kernel_rfl) ?_
                    refine QJ.op (q := { val := iv r83, new := [] }) (by decide) (qOf_call (g := 32) (args := [ag [iv r1.1.1.1, iv r1.1.1.2, iv r1.1.2.1, iv r1.1.2.2], ag [iv r5.1.1, iv r5.1.2], ag [iv r5.2.1.1, iv r5.2.1.2], ag [iv r1.2.1, iv r1.2.2], ag [iv r15.1, iv r15.2]]) (by kernel_rfl) (lookC_skip (fun hg => absurd (show (41 : Nat) = 32 from hg) (by decide)) (lookC_skip (fun hg => absurd (show (41 : Nat) = 32 from hg) (by decide)) lookC_hit))) ?_
                    refine QJ.run (s1 := (qs (S8_2 m66 r19 r68 r3 r70 r1 r5 r15 r83) (H8_13 r1 r3 r5 r15 r19) [] [])) 1 (by kernel_rfl) (by kernel_rfl) ?_
                    refine QJ.op (q := { val := .bool true }) (by decide) (q_conv (e := r83 == m66.2) (b := true) (by kernel_rfl) hc85) ?_
                    refine QJ.run (s1 := (qs (S8_0 m66 r19 r68 r3 r70 r1 r5 r15 r83) (H8_13 r1 r3 r5 r15 r19) [] [])) 7 (by kernel_rfl) (by kernel_rfl) ?_
                    refine QJ.done (by kernel_rfl) ⟨rfl, ?_⟩
                    refine SJ.op (q := { val := iv r86, new := [] }) (by kernel_rfl) (qOf_call (g := 32) (args := [ag [iv r1.1.1.1, iv r1.1.1.2, iv r1.1.2.1, iv r1.1.2.2], ag [iv r5.1.1, iv r5.1.2], ag [iv r5.2.1.1, iv r5.2.1.2], ag [iv r1.2.1, iv r1.2.2], ag [iv r3.1.1, iv r3.1.2]]) (by kernel_rfl) (lookC_skip (fun hg => absurd (show (41 : Nat) = 32 from hg) (by decide)) (lookC_skip (fun hg => absurd (show (41 : Nat) = 32 from hg) (by decide)) (lookC_skip (by intro _ ha _; have hr := Option.some.inj (h84.symm.trans (Eq.trans (congr (congr (congr (congr (congr (congr (congr (congr (congr (congr (congr (congrArg F32 (Eq.refl r1.1.1.1)) (Eq.refl r1.1.1.2)) (Eq.refl r1.1.2.1)) (Eq.refl r1.1.2.2)) (Eq.refl r5.1.1)) (Eq.refl r5.1.2)) (Eq.refl r5.2.1.1)) (Eq.refl r5.2.1.2)) (Eq.refl r1.2.1)) (Eq.refl r1.2.2)) (show r15.1 = r3.1.1 from congrArg (leafI 10) ha)) (show r15.2 = r3.1.2 from congrArg (leafI 11) ha)) h87)); first | (subst hr; rfl) | (cases hr; done) | (cases hr; rfl)) lookC_hit)))) ?_
                    refine SJ.op (q := { val := .bool true }) (by kernel_rfl) (q_conv (e := r86 == 0) (b := true) (by kernel_rfl) hc88) ?_
                    refine SJ.run (a3 := (st 159 [(5, pt 0 0), (6, pt 1 0), (7, pt 2 0), (8, pt 3 0), (10, pt 4 0), (11, pt 5 0), (15, pt 6 0), (16, pt 7 0), (18, .bool m66.1), (22, iv m66.2), (128, .bool false), (129, ag [iv r19.1, iv r19.2]), (130, ag [iv r19.1, iv r19.2]), (131, iv r68), (132, ag [iv r3.2.1.1, iv r3.2.1.2]), (133, ag [iv r3.2.1.1, iv r3.2.1.2]), (134, iv r70), (135, .bool false), (136, .bool true), (137, .bool true), (138, ag [iv r1.1.1.1, iv r1.1.1.2, iv r1.1.2.1, iv r1.1.2.2]), (139, ag [iv r5.1.1, iv r5.1.2]), (140, ag [iv r5.2.1.1, iv r5.2.1.2]), (141, ag [iv r1.2.1, iv r1.2.2]), (142, ag [iv r15.1, iv r15.2]), (143, iv r83), (144, iv m66.2), (145, .bool true), (146, .bool true), (147, .bool true), (148, ag [iv r1.1.1.1, iv r1.1.1.2, iv r1.1.2.1, iv r1.1.2.2]), (149, ag [iv r5.1.1, iv r5.1.2]), (150, ag [iv r5.2.1.1, iv r5.2.1.2]), (151, ag [iv r1.2.1, iv r1.2.2]), (152, ag [iv r3.1.1, iv r3.1.2]), (153, iv r86), (154, .bool true), (155, .bool true), (156, .bool true)])) (h3 := (H8_13 r1 r3 r5 r15 r19)) 2 (by kernel_rfl) ?_
                    refine SJ.op (q := { val := .bool r89, new := [] }) (by kernel_rfl) (qOf_call (g := 22) (args := []) (by kernel_rfl) (lookC_skip (fun hg => absurd (show (41 : Nat) = 22 from hg) (by decide)) (lookC_skip (fun hg => absurd (show (41 : Nat) = 22 from hg) (by decide)) (lookC_skip (fun hg => absurd (show (32 : Nat) = 22 from hg) (by decide)) (lookC_skip (fun hg => absurd (show (32 : Nat) = 22 from hg) (by decide)) lookC_hit))))) ?_
                    refine SJ.last (by kernel_rfl)
                  exact hK
                · replace hm92 := of_neg hm92 hc88
                  have hm92 := Option.some.inj hm92
                  subst hm92
                  have hT : ∀ e ∈ ([⟨41, [ag [iv r19.1, iv r19.2], ag [iv r19.1, iv r19.2]], (H8_13 r1 r3 r5 r15 r19), iv r68, []⟩, ⟨41, [ag [iv r3.2.1.1, iv r3.2.1.2], ag [iv r3.2.1.1, iv r3.2.1.2]], (H8_13 r1 r3 r5 r15 r19), iv r70, []⟩, ⟨32, [ag [iv r1.1.1.1, iv r1.1.1.2, iv r1.1.2.1, iv r1.1.2.2], ag [iv r5.1.1, iv r5.1.2], ag [iv r5.2.1.1, iv r5.2.1.2], ag [iv r1.2.1, iv r1.2.2], ag [iv r15.1, iv r15.2]], (H8_13 r1 r3 r5 r15 r19), iv r83, []⟩, ⟨32, [ag [iv r1.1.1.1, iv r1.1.1.2, iv r1.1.2.1, iv r1.1.2.2], ag [iv r5.1.1, iv r5.1.2], ag [iv r5.2.1.1, iv r5.2.1.2], ag [iv r1.2.1, iv r1.2.2], ag [iv r3.1.1, iv r3.1.2]], (H8_13 r1 r3 r5 r15 r19), iv r86, []⟩] : List Entry), PureSim Try.prog e.g e.args e.h e.v e.new := by
                    intro e he
                    simp only [List.mem_cons, List.not_mem_nil, or_false] at he
                    rcases he with rfl | rfl | rfl | rfl
                    · exact PureSim.anyK (C41 _ _ _ _ _ h69) (by kernel_rfl)
                    · exact PureSim.anyK (C41 _ _ _ _ _ h71) (by kernel_rfl)
                    · exact PureSim.anyK (C32 _ _ _ _ _ _ _ _ _ _ _ _ _ h84) (by kernel_rfl)
                    · exact PureSim.anyK (C32 _ _ _ _ _ _ _ _ _ _ _ _ _ h87) (by kernel_rfl)
                  refine TS.drawP [⟨41, [ag [iv r19.1, iv r19.2], ag [iv r19.1, iv r19.2]], (H8_13 r1 r3 r5 r15 r19), iv r68, []⟩, ⟨41, [ag [iv r3.2.1.1, iv r3.2.1.2], ag [iv r3.2.1.1, iv r3.2.1.2]], (H8_13 r1 r3 r5 r15 r19), iv r70, []⟩, ⟨32, [ag [iv r1.1.1.1, iv r1.1.1.2, iv r1.1.2.1, iv r1.1.2.2], ag [iv r5.1.1, iv r5.1.2], ag [iv r5.2.1.1, iv r5.2.1.2], ag [iv r1.2.1, iv r1.2.2], ag [iv r15.1, iv r15.2]], (H8_13 r1 r3 r5 r15 r19), iv r83, []⟩, ⟨32, [ag [iv r1.1.1.1, iv r1.1.1.2, iv r1.1.2.1, iv r1.1.2.2], ag [iv r5.1.1, iv r5.1.2], ag [iv r5.2.1.1, iv r5.2.1.2], ag [iv r1.2.1, iv r1.2.2], ag [iv r3.1.1, iv r3.1.2]], (H8_13 r1 r3 r5 r15 r19), iv r86, []⟩] hT mixed (by kernel_rfl) 25 (by kernel_rfl) [4] [] (a2 := (st 159 [(4, .bool false)])) (h2 := [.dead, .dead, .dead, .dead, .dead, .dead, .dead, .dead]) ?_ ?_
                  · refine QJ.op (q := { val := .bool false }) (by decide) (q_conv (e := m66.1) (b := false) (by kernel_rfl) hc72) ?_
                    refine QJ.run (s1 := (qs (S8_14 m66 r19) (H8_13 r1 r3 r5 r15 r19) [] [])) 2 (by kernel_rfl) (by kernel_rfl) ?_
                    refine QJ.op (q := { val := iv r68, new := [] }) (by decide) (qOf_call (g := 41) (args := [ag [iv r19.1, iv r19.2], ag [iv r19.1, iv r19.2]]) (by kernel_rfl) lookC_hit) ?_
                    refine QJ.run (s1 := (qs (S8_9 m66 r19 r68 r3) (H8_13 r1 r3 r5 r15 r19) [] [])) 2 (by kernel_rfl) (by kernel_rfl) ?_
                    refine QJ.op (q := { val := iv r70, new := [] }) (by decide) (qOf_call (g := 41) (args := [ag [iv r3.2.1.1, iv r3.2.1.2], ag [iv r3.2.1.1, iv r3.2.1.2]]) (by kernel_rfl) (lookC_skip (by intro _ ha _; have hr := Option.some.inj (h69.symm.trans (Eq.trans (congr (congr (congr (congrArg F41 (show r19.1 = r3.2.1.1 from congrArg (leafI 0) ha)) (show r19.2 = r3.2.1.2 from congrArg (leafI 1) ha)) (show r19.1 = r3.2.1.1 from congrArg (leafI 2) ha)) (show r19.2 = r3.2.1.2 from congrArg (leafI 3) ha)) h71)); first | (subst hr; rfl) | (cases hr; done) | (cases hr; rfl)) lookC_hit)) ?_
                    refine QJ.op (q := { val := .bool false }) (by decide) (q_conv (e := r68 == r70) (b := false) (by kernel_rfl) hc82) ?_
                    refine QJ.run (s1 := (qs (S8_4 m66 r19 r68 r3 r70 r1 r5 r15) (H8_13 r1 r3 r5 r15 r19) [] [])) 7 (by kernel_rfl) (by kernel_rfl) ?_
                    refine QJ.op (q := { val := iv r83, new := [] }) (by decide) (qOf_call (g := 32) (args := [ag [iv r1.1.1.1, iv r1.1.1.2, iv r1.1.2.1, iv r1.1.2.2], ag [iv r5.1.1, iv r5.1.2], ag [iv r5.2.1.1, iv r5.2.1.2], ag [iv r1.2.1, iv r1.2.2], ag [iv r15.1, iv r15.2]]) (by kernel_rfl) (lookC_skip (fun hg => absurd (show (41 : Nat) = 32 from hg) (by decide)) (lookC_skip (fun hg => absurd (show (41 : Nat) = 32 from hg) (by decide)) lookC_hit))) ?_
                    refine QJ.run (s1 := (qs (S8_2 m66 r19 r68 r3 r70 r1 r5 r15 r83) (H8_13 r1 r3 r5 r15 r19) [] [])) 1 (by kernel_rfl) (by kernel_rfl) ?_
                    refine QJ.op (q := { val := .bool true }) (by decide) (q_conv (e := r83 == m66.2) (b := true) (by kernel_rfl) hc85) ?_
                    refine QJ.run (s1 := (qs (S8_0 m66 r19 r68 r3 r70 r1 r5 r15 r83) (H8_13 r1 r3 r5 r15 r19) [] [])) 7 (by kernel_rfl) (by kernel_rfl) ?_
                    refine QJ.done (by kernel_rfl) ⟨rfl, ?_⟩
                    refine SJ.op (q := { val := iv r86, new := [] }) (by kernel_rfl) (qOf_call (g := 32) (args := [ag [iv r1.1.1.1, iv r1.1.1.2, iv r1.1.2.1, iv r1.1.2.2], ag [iv r5.1.1, iv r5.1.2], ag [iv r5.2.1.1, iv r5.2.1.2], ag [iv r1.2.1, iv r1.2.2], ag [iv r3.1.1, iv r3.1.2]]) (by kernel_rfl) (lookC_skip (fun hg => absurd (show (41 : Nat) = 32 from hg) (by decide)) (lookC_skip (fun hg => absurd (show (41 : Nat) = 32 from hg) (by decide)) (lookC_skip (by intro _ ha _; have hr := Option.some.inj (h84.symm.trans (Eq.trans (congr (congr (congr (congr (congr (congr (congr (congr (congr (congr (congr (congrArg F32 (Eq.refl r1.1.1.1)) (Eq.refl r1.1.1.2)) (Eq.refl r1.1.2.1)) (Eq.refl r1.1.2.2)) (Eq.refl r5.1.1)) (Eq.refl r5.1.2)) (Eq.refl r5.2.1.1)) (Eq.refl r5.2.1.2)) (Eq.refl r1.2.1)) (Eq.refl r1.2.2)) (show r15.1 = r3.1.1 from congrArg (leafI 10) ha)) (show r15.2 = r3.1.2 from congrArg (leafI 11) ha)) h87)); first | (subst hr; rfl) | (cases hr; done) | (cases hr; rfl)) lookC_hit)))) ?_
                    refine SJ.op (q := { val := .bool false }) (by kernel_rfl) (q_conv (e := r86 == 0) (b := false) (by kernel_rfl) hc88) ?_
                    refine SJ.last (by kernel_rfl)
                  exact hK
              · replace hm92 := of_neg hm92 hc85
                have hm92 := Option.some.inj hm92
                subst hm92
                have hT : ∀ e ∈ ([⟨41, [ag [iv r19.1, iv r19.2], ag [iv r19.1, iv r19.2]], (H8_13 r1 r3 r5 r15 r19), iv r68, []⟩, ⟨41, [ag [iv r3.2.1.1, iv r3.2.1.2], ag [iv r3.2.1.1, iv r3.2.1.2]], (H8_13 r1 r3 r5 r15 r19), iv r70, []⟩, ⟨32, [ag [iv r1.1.1.1, iv r1.1.1.2, iv r1.1.2.1, iv r1.1.2.2], ag [iv r5.1.1, iv r5.1.2], ag [iv r5.2.1.1, iv r5.2.1.2], ag [iv r1.2.1, iv r1.2.2], ag [iv r15.1, iv r15.2]], (H8_13 r1 r3 r5 r15 r19), iv r83, []⟩] : List Entry), PureSim Try.prog e.g e.args e.h e.v e.new := by
                  intro e he
                  simp only [List.mem_cons, List.not_mem_nil, or_false] at he
                  rcases he with rfl | rfl | rfl
                  · exact PureSim.anyK (C41 _ _ _ _ _ h69) (by kernel_rfl)
                  · exact PureSim.anyK (C41 _ _ _ _ _ h71) (by kernel_rfl)
                  · exact PureSim.anyK (C32 _ _ _ _ _ _ _ _ _ _ _ _ _ h84) (by kernel_rfl)
                refine TS.drawP [⟨41, [ag [iv r19.1, iv r19.2], ag [iv r19.1, iv r19.2]], (H8_13 r1 r3 r5 r15 r19), iv r68, []⟩, ⟨41, [ag [iv r3.2.1.1, iv r3.2.1.2], ag [iv r3.2.1.1, iv r3.2.1.2]], (H8_13 r1 r3 r5 r15 r19), iv r70, []⟩, ⟨32, [ag [iv r1.1.1.1, iv r1.1.1.2, iv r1.1.2.1, iv r1.1.2.2], ag [iv r5.1.1, iv r5.1.2], ag [iv r5.2.1.1, iv r5.2.1.2], ag [iv r1.2.1, iv r1.2.2], ag [iv r15.1, iv r15.2]], (H8_13 r1 r3 r5 r15 r19), iv r83, []⟩] hT mixed (by kernel_rfl) 25 (by kernel_rfl) [4] [] (a2 := (st 159 [(4, .bool false)])) (h2 := [.dead, .dead, .dead, .dead, .dead, .dead, .dead, .dead]) ?_ ?_
                · refine QJ.op (q := { val := .bool false }) (by decide) (q_conv (e := m66.1) (b := false) (by kernel_rfl) hc72) ?_
                  refine QJ.run (s1 := (qs (S8_14 m66 r19) (H8_13 r1 r3 r5 r15 r19) [] [])) 2 (by kernel_rfl) (by kernel_rfl) ?_
                  refine QJ.op (q := { val := iv r68, new := [] }) (by decide) (qOf_call (g := 41) (args := [ag [iv r19.1, iv r19.2], ag [iv r19.1, iv r19.2]]) (by kernel_rfl) lookC_hit) ?_
                  refine QJ.run (s1 := (qs (S8_9 m66 r19 r68 r3) (H8_13 r1 r3 r5 r15 r19) [] [])) 2 (by kernel_rfl) (by kernel_rfl) ?_
                  refine QJ.op (q := { val := iv r70, new := [] }) (by decide) (qOf_call (g := 41) (args := [ag [iv r3.2.1.1, iv r3.2.1.2], ag [iv r3.2.1.1, iv r3.2.1.2]]) (by kernel_rfl) (lookC_skip (by intro _ ha _; have hr := Option.some.inj (h69.symm.trans (Eq.trans (congr (congr (congr (congrArg F41 (show r19.1 = r3.2.1.1 from congrArg (leafI 0) ha)) (show r19.2 = r3.2.1.2 from congrArg (leafI 1) ha)) (show r19.1 = r3.2.1.1 from congrArg (leafI 2) ha)) (show r19.2 = r3.2.1.2 from congrArg (leafI 3) ha)) h71)); first | (subst hr; rfl) | (cases hr; done) | (cases hr; rfl)) lookC_hit)) ?_
                  refine QJ.op (q := { val := .bool false }) (by decide) (q_conv (e := r68 == r70) (b := false) (by kernel_rfl) hc82) ?_
                  refine QJ.run (s1 := (qs (S8_4 m66 r19 r68 r3 r70 r1 r5 r15) (H8_13 r1 r3 r5 r15 r19) [] [])) 7 (by kernel_rfl) (by kernel_rfl) ?_
                  refine QJ.op (q := { val := iv r83, new := [] }) (by decide) (qOf_call (g := 32) (args := [ag [iv r1.1.1.1, iv r1.1.1.2, iv r1.1.2.1, iv r1.1.2.2], ag [iv r5.1.1, iv r5.1.2], ag [iv r5.2.1.1, iv r5.2.1.2], ag [iv r1.2.1, iv r1.2.2], ag [iv r15.1, iv r15.2]]) (by kernel_rfl) (lookC_skip (fun hg => absurd (show (41 : Nat) = 32 from hg) (by decide)) (lookC_skip (fun hg => absurd (show (41 : Nat) = 32 from hg) (by decide)) lookC_hit))) ?_
                  refine QJ.run (s1 := (qs (S8_2 m66 r19 r68 r3 r70 r1 r5 r15 r83) (H8_13 r1 r3 r5 r15 r19) [] [])) 1 (by kernel_rfl) (by kernel_rfl) ?_
                  refine QJ.op (q := { val := .bool false }) (by decide) (q_conv (e := r83 == m66.2) (b := false) (by kernel_rfl) hc85) ?_
                  refine QJ.run (s1 := (qs (st 159 [(5, pt 0 0), (6, pt 1 0), (7, pt 2 0), (8, pt 3 0), (10, pt 4 0), (11, pt 5 0), (15, pt 6 0), (16, pt 7 0), (18, .bool m66.1), (22, iv m66.2), (128, .bool false), (129, ag [iv r19.1, iv r19.2]), (130, ag [iv r19.1, iv r19.2]), (131, iv r68), (132, ag [iv r3.2.1.1, iv r3.2.1.2]), (133, ag [iv r3.2.1.1, iv r3.2.1.2]), (134, iv r70), (135, .bool false), (136, .bool true), (137, .bool true), (138, ag [iv r1.1.1.1, iv r1.1.1.2, iv r1.1.2.1, iv r1.1.2.2]), (139, ag [iv r5.1.1, iv r5.1.2]), (140, ag [iv r5.2.1.1, iv r5.2.1.2]), (141, ag [iv r1.2.1, iv r1.2.2]), (142, ag [iv r15.1, iv r15.2]), (143, iv r83), (144, iv m66.2), (145, .bool false), (146, .bool false), (147, .bool false), (148, undef), (149, undef), (150, undef), (151, undef), (152, undef)]) (H8_13 r1 r3 r5 r15 r19) [] [])) 7 (by kernel_rfl) (by kernel_rfl) ?_
                  refine QJ.done (by kernel_rfl) ⟨rfl, ?_⟩
                  refine SJ.last (by kernel_rfl)
                exact hK
        clear hF
        have hF := hm67
        clear hm67
        refine TS.start ?_
        cases r60 with
        | true =>
          replace hF := of_pos hF rfl
          refine TS.condTP (o := (.tmp 127)) (by kernel_rfl) (by kernel_rfl) ?_
          refine TS.regionP (by kernel_rfl) ?_
          refine TI.runA 1 [5, 6, 7, 8, 10, 11, 15, 16, 18, 22] (a2 := (st 159 [(5, pt 0 0), (6, pt 1 0), (7, pt 2 0), (8, pt 3 0), (10, pt 4 0), (11, pt 5 0), (15, pt 6 0), (16, pt 7 0), (18, .bool true), (22, iv 0)])) (by kernel_rfl) ?_
          refine TI.done (by kernel_rfl) ?_
          have hF := Option.some.inj hF
          subst hF
          exact TS.weak (Wk.anew (base := 0) (L := 0) (f := [0, 1, 2, 3, 4, 5, 6, 7]) (by decide) (by decide) (Nat.le_of_ble_eq_true rfl) rfl (.cons (At.blk (by kernel_rfl) (RnB.lit (.cons (.flat (by kernel_rfl)) (.cons (.flat (by kernel_rfl)) (.cons (.flat (by kernel_rfl)) (.cons (.flat (by kernel_rfl)) .nil)))))) (.cons (At.blk (by kernel_rfl) (RnB.lit (.cons (.flat (by kernel_rfl)) (.cons (.flat (by kernel_rfl)) .nil)))) (.cons (At.blk (by kernel_rfl) (RnB.lit (.cons (.flat (by kernel_rfl)) (.cons (.flat (by kernel_rfl)) .nil)))) (.cons (At.blk (by kernel_rfl) (RnB.lit (.cons (.flat (by kernel_rfl)) (.cons (.flat (by kernel_rfl)) .nil)))) (.cons (At.blk (by kernel_rfl) (RnB.lit (.cons (.flat (by kernel_rfl)) (.cons (.flat (by kernel_rfl)) .nil)))) (.cons (At.blk (by kernel_rfl) (RnB.lit (.cons (.flat (by kernel_rfl)) (.cons (.flat (by kernel_rfl)) .nil)))) (.cons (At.blk (by kernel_rfl) (RnB.lit (.cons (.flat (by kernel_rfl)) (.cons (.flat (by kernel_rfl)) .nil)))) (.cons (At.blk (by kernel_rfl) (RnB.lit (.cons (.flat (by kernel_rfl)) (.cons (.flat (by kernel_rfl)) .nil)))) (.nil _))))))))) (LRn.stx [5, 6, 7, 8, 10, 11, 15, 16, 18, 22] [pt 0 0, pt 1 0, pt 2 0, pt 3 0, pt 4 0, pt 5 0, pt 6 0, pt 7 0, .bool true, iv 0] [pt 0 0, pt 1 0, pt 2 0, pt 3 0, pt 4 0, pt 5 0, pt 6 0, pt 7 0, .bool true, iv 0] (.cons (Rn.ptr _ _ _ (Nat.le_of_ble_eq_true rfl) rfl) (.cons (Rn.ptr _ _ _ (Nat.le_of_ble_eq_true rfl) rfl) (.cons (Rn.ptr _ _ _ (Nat.le_of_ble_eq_true rfl) rfl) (.cons (Rn.ptr _ _ _ (Nat.le_of_ble_eq_true rfl) rfl) (.cons (Rn.ptr _ _ _ (Nat.le_of_ble_eq_true rfl) rfl) (.cons (Rn.ptr _ _ _ (Nat.le_of_ble_eq_true rfl) rfl) (.cons (Rn.ptr _ _ _ (Nat.le_of_ble_eq_true rfl) rfl) (.cons (Rn.ptr _ _ _ (Nat.le_of_ble_eq_true rfl) rfl) (.cons (.flat (by kernel_rfl)) (.cons (.flat (by kernel_rfl)) .nil)))))))))) (by kernel_rfl) (by kernel_rfl) rfl) rfl rfl) hK
        | false =>
          replace hF := of_neg hF rfl
          refine TS.condFP (o := (.tmp 127)) (by kernel_rfl) (by kernel_rfl) ?_
          refine TS.skip' (by kernel_rfl) ?_
          have hF := Option.some.inj hF
          subst hF
          exact TS.weak (Wk.anew (base := 0) (L := 0) (f := [0, 1, 2, 3, 4, 5, 6, 7]) (by decide) (by decide) (Nat.le_of_ble_eq_true rfl) rfl (.cons (At.blk (by kernel_rfl) (RnB.lit (.cons (.flat (by kernel_rfl)) (.cons (.flat (by kernel_rfl)) (.cons (.flat (by kernel_rfl)) (.cons (.flat (by kernel_rfl)) .nil)))))) (.cons (At.blk (by kernel_rfl) (RnB.lit (.cons (.flat (by kernel_rfl)) (.cons (.flat (by kernel_rfl)) .nil)))) (.cons (At.blk (by kernel_rfl) (RnB.lit (.cons (.flat (by kernel_rfl)) (.cons (.flat (by kernel_rfl)) .nil)))) (.cons (At.blk (by kernel_rfl) (RnB.lit (.cons (.flat (by kernel_rfl)) (.cons (.flat (by kernel_rfl)) .nil)))) (.cons (At.blk (by kernel_rfl) (RnB.lit (.cons (.flat (by kernel_rfl)) (.cons (.flat (by kernel_rfl)) .nil)))) (.cons (At.blk (by kernel_rfl) (RnB.lit (.cons (.flat (by kernel_rfl)) (.cons (.flat (by kernel_rfl)) .nil)))) (.cons (At.blk (by kernel_rfl) (RnB.lit (.cons (.flat (by kernel_rfl)) (.cons (.flat (by kernel_rfl)) .nil)))) (.cons (At.blk (by kernel_rfl) (RnB.lit (.cons (.flat (by kernel_rfl)) (.cons (.flat (by kernel_rfl)) .nil)))) (.nil _))))))))) (LRn.stx [5, 6, 7, 8, 10, 11, 15, 16, 18, 22] [pt 0 0, pt 1 0, pt 2 0, pt 3 0, pt 4 0, pt 5 0, pt 6 0, pt 7 0, .bool false, iv 12] [pt 0 0, pt 1 0, pt 2 0, pt 3 0, pt 4 0, pt 5 0, pt 6 0, pt 7 0, .bool false, iv 12] (.cons (Rn.ptr _ _ _ (Nat.le_of_ble_eq_true rfl) rfl) (.cons (Rn.ptr _ _ _ (Nat.le_of_ble_eq_true rfl) rfl) (.cons (Rn.ptr _ _ _ (Nat.le_of_ble_eq_true rfl) rfl) (.cons (Rn.ptr _ _ _ (Nat.le_of_ble_eq_true rfl) rfl) (.cons (Rn.ptr _ _ _ (Nat.le_of_ble_eq_true rfl) rfl) (.cons (Rn.ptr _ _ _ (Nat.le_of_ble_eq_true rfl) rfl) (.cons (Rn.ptr _ _ _ (Nat.le_of_ble_eq_true rfl) rfl) (.cons (Rn.ptr _ _ _ (Nat.le_of_ble_eq_true rfl) rfl) (.cons (.flat (by kernel_rfl)) (.cons (.flat (by kernel_rfl)) .nil)))))))))) (by kernel_rfl) (by kernel_rfl) rfl) rfl rfl) hK
      clear hF
      have hF := hm27
      clear hm27
      refine TS.start ?_
      refine TS.condP (o := (.tmp 86)) (b := decide (r21 > 0)) (by kernel_rfl) (by kernel_rfl) (fun hc93 => ?_) (fun hc93 => ?_)
      · replace hF := of_pos hF hc93
        refine TS.regionP (by kernel_rfl) ?_
        refine TI.runA 1 [5, 6, 7, 8, 10, 11, 13, 15, 16, 17] (a2 := (st 159 [(5, pt 2 0), (6, pt 3 0), (7, pt 4 0), (8, pt 5 0), (10, pt 6 0), (11, pt 7 0), (13, pt 8 0), (15, pt 9 0), (16, pt 10 0), (17, iv (-1))])) (by kernel_rfl) ?_
        refine TI.done (by kernel_rfl) ?_
        have hF := Option.some.inj hF
        subst hF
        exact TS.weak (Wk.anew (base := 0) (L := 0) (f := [2, 3, 4, 5, 6, 7, 8, 9, 10]) (by decide) (by decide) (Nat.le_of_ble_eq_true rfl) rfl (.cons (At.blk (by kernel_rfl) (RnB.lit (.cons (.flat (by kernel_rfl)) (.cons (.flat (by kernel_rfl)) (.cons (.flat (by kernel_rfl)) (.cons (.flat (by kernel_rfl)) .nil)))))) (.cons (At.blk (by kernel_rfl) (RnB.lit (.cons (.flat (by kernel_rfl)) (.cons (.flat (by kernel_rfl)) .nil)))) (.cons (At.blk (by kernel_rfl) (RnB.lit (.cons (.flat (by kernel_rfl)) (.cons (.flat (by kernel_rfl)) .nil)))) (.cons (At.blk (by kernel_rfl) (RnB.lit (.cons (.flat (by kernel_rfl)) (.cons (.flat (by kernel_rfl)) .nil)))) (.cons (At.blk (by kernel_rfl) (RnB.lit (.cons (.flat (by kernel_rfl)) (.cons (.flat (by kernel_rfl)) .nil)))) (.cons (At.blk (by kernel_rfl) (RnB.lit (.cons (.flat (by kernel_rfl)) (.cons (.flat (by kernel_rfl)) .nil)))) (.cons (At.blk (by kernel_rfl) (RnB.lit (.cons (.flat (by kernel_rfl)) (.cons (.flat (by kernel_rfl)) (.cons (.flat (by kernel_rfl)) (.cons (.flat (by kernel_rfl)) .nil)))))) (.cons (At.blk (by kernel_rfl) (RnB.lit (.cons (.flat (by kernel_rfl)) (.cons (.flat (by kernel_rfl)) .nil)))) (.cons (At.blk (by kernel_rfl) (RnB.lit (.cons (.flat (by kernel_rfl)) (.cons (.flat (by kernel_rfl)) .nil)))) (.nil _)))))))))) (LRn.stx [5, 6, 7, 8, 10, 11, 13, 15, 16, 17] [pt 0 0, pt 1 0, pt 2 0, pt 3 0, pt 4 0, pt 5 0, pt 6 0, pt 7 0, pt 8 0, iv (-1)] [pt 2 0, pt 3 0, pt 4 0, pt 5 0, pt 6 0, pt 7 0, pt 8 0, pt 9 0, pt 10 0, iv (-1)] (.cons (Rn.ptr _ _ _ (Nat.le_of_ble_eq_true rfl) rfl) (.cons (Rn.ptr _ _ _ (Nat.le_of_ble_eq_true rfl) rfl) (.cons (Rn.ptr _ _ _ (Nat.le_of_ble_eq_true rfl) rfl) (.cons (Rn.ptr _ _ _ (Nat.le_of_ble_eq_true rfl) rfl) (.cons (Rn.ptr _ _ _ (Nat.le_of_ble_eq_true rfl) rfl) (.cons (Rn.ptr _ _ _ (Nat.le_of_ble_eq_true rfl) rfl) (.cons (Rn.ptr _ _ _ (Nat.le_of_ble_eq_true rfl) rfl) (.cons (Rn.ptr _ _ _ (Nat.le_of_ble_eq_true rfl) rfl) (.cons (Rn.ptr _ _ _ (Nat.le_of_ble_eq_true rfl) rfl) (.cons (.flat (by kernel_rfl)) .nil)))))))))) (by kernel_rfl) (by kernel_rfl) rfl) rfl rfl) hK
      · replace hF := of_neg hF hc93
        refine TS.skip' (by kernel_rfl) ?_
        have hF := Option.some.inj hF
        subst hF
        exact TS.weak (Wk.anew (base := 0) (L := 0) (f := [2, 3, 4, 5, 6, 7, 8, 9, 10]) (by decide) (by decide) (Nat.le_of_ble_eq_true rfl) rfl (.cons (At.blk (by kernel_rfl) (RnB.lit (.cons (.flat (by kernel_rfl)) (.cons (.flat (by kernel_rfl)) (.cons (.flat (by kernel_rfl)) (.cons (.flat (by kernel_rfl)) .nil)))))) (.cons (At.blk (by kernel_rfl) (RnB.lit (.cons (.flat (by kernel_rfl)) (.cons (.flat (by kernel_rfl)) .nil)))) (.cons (At.blk (by kernel_rfl) (RnB.lit (.cons (.flat (by kernel_rfl)) (.cons (.flat (by kernel_rfl)) .nil)))) (.cons (At.blk (by kernel_rfl) (RnB.lit (.cons (.flat (by kernel_rfl)) (.cons (.flat (by kernel_rfl)) .nil)))) (.cons (At.blk (by kernel_rfl) (RnB.lit (.cons (.flat (by kernel_rfl)) (.cons (.flat (by kernel_rfl)) .nil)))) (.cons (At.blk (by kernel_rfl) (RnB.lit (.cons (.flat (by kernel_rfl)) (.cons (.flat (by kernel_rfl)) .nil)))) (.cons (At.blk (by kernel_rfl) (RnB.lit (.cons (.flat (by kernel_rfl)) (.cons (.flat (by kernel_rfl)) (.cons (.flat (by kernel_rfl)) (.cons (.flat (by kernel_rfl)) .nil)))))) (.cons (At.blk (by kernel_rfl) (RnB.lit (.cons (.flat (by kernel_rfl)) (.cons (.flat (by kernel_rfl)) .nil)))) (.cons (At.blk (by kernel_rfl) (RnB.lit (.cons (.flat (by kernel_rfl)) (.cons (.flat (by kernel_rfl)) .nil)))) (.nil _)))))))))) (LRn.stx [5, 6, 7, 8, 10, 11, 13, 15, 16, 17] [pt 0 0, pt 1 0, pt 2 0, pt 3 0, pt 4 0, pt 5 0, pt 6 0, pt 7 0, pt 8 0, iv 1] [pt 2 0, pt 3 0, pt 4 0, pt 5 0, pt 6 0, pt 7 0, pt 8 0, pt 9 0, pt 10 0, iv 1] (.cons (Rn.ptr _ _ _ (Nat.le_of_ble_eq_true rfl) rfl) (.cons (Rn.ptr _ _ _ (Nat.le_of_ble_eq_true rfl) rfl) (.cons (Rn.ptr _ _ _ (Nat.le_of_ble_eq_true rfl) rfl) (.cons (Rn.ptr _ _ _ (Nat.le_of_ble_eq_true rfl) rfl) (.cons (Rn.ptr _ _ _ (Nat.le_of_ble_eq_true rfl) rfl) (.cons (Rn.ptr _ _ _ (Nat.le_of_ble_eq_true rfl) rfl) (.cons (Rn.ptr _ _ _ (Nat.le_of_ble_eq_true rfl) rfl) (.cons (Rn.ptr _ _ _ (Nat.le_of_ble_eq_true rfl) rfl) (.cons (Rn.ptr _ _ _ (Nat.le_of_ble_eq_true rfl) rfl) (.cons (.flat (by kernel_rfl)) .nil)))))))))) (by kernel_rfl) (by kernel_rfl) rfl) rfl rfl) hK
  rcases Bool.eq_false_or_eq_true (r3.2.2 != 0) with hc9 | hc9
  · replace hm94 := of_pos hm94 hc9
    have hm94 := Option.some.inj hm94
    subst hm94
    refine TS.regionP (by kernel_rfl) ?_
    refine TI.runA 1 [3, 5, 6, 7, 8, 10, 11, 12, 13, 14, 46] (a2 := (S8_21 r5 r7 r3)) (by kernel_rfl) ?_
    refine TI.op (q := { val := .bool true }) (q_conv (e := r3.2.2 != 0) (b := true) (by kernel_rfl) hc9) [3, 5, 6, 7, 8, 10, 11, 12, 13, 14, 47] [1, 2, 3, 4, 5, 6, 7, 8] (a2 := (st 159 [(3, pt 1 0), (5, pt 2 0), (6, pt 3 0), (7, pt 4 0), (8, pt 5 0), (10, pt 6 0), (11, pt 7 0), (12, iv r5.2.2), (13, pt 8 0), (14, .bool r7.2), (47, .bool true)])) (h2 := (H8_12 p6 p7 r1 r3 r5 r7)) (by kernel_rfl) ?_
    refine TI.runA 13 [3, 5, 6, 7, 8, 10, 11, 13, 60] (a2 := (S8_25)) (by kernel_rfl) ?_
    refine TI.done (by kernel_rfl) ?_
    exact hK
  · replace hm94 := of_neg hm94 hc9
    rcases Bool.eq_false_or_eq_true (r5.2.2 != 0) with hc10 | hc10
    · replace hm94 := of_pos hm94 hc10
      have hm94 := Option.some.inj hm94
      subst hm94
      refine TS.regionP (by kernel_rfl) ?_
      refine TI.runA 1 [3, 5, 6, 7, 8, 10, 11, 12, 13, 14, 46] (a2 := (S8_21 r5 r7 r3)) (by kernel_rfl) ?_
      refine TI.op (q := { val := .bool false }) (q_conv (e := r3.2.2 != 0) (b := false) (by kernel_rfl) hc9) [3, 5, 6, 7, 8, 10, 11, 12, 13, 14, 47] [1, 2, 3, 4, 5, 6, 7, 8] (a2 := (S8_19 r5 r7)) (h2 := (H8_12 p6 p7 r1 r3 r5 r7)) (by kernel_rfl) ?_
      refine TI.runA 2 [3, 5, 6, 7, 8, 10, 11, 13, 14, 48, 49] (a2 := (S8_20 r7 r5)) (by kernel_rfl) ?_
      refine TI.op (q := { val := .bool true }) (q_conv (e := r5.2.2 != 0) (b := true) (by kernel_rfl) hc10) [3, 5, 6, 7, 8, 10, 11, 13, 14, 48, 50] [1, 2, 3, 4, 5, 6, 7, 8] (a2 := (st 159 [(3, pt 1 0), (5, pt 2 0), (6, pt 3 0), (7, pt 4 0), (8, pt 5 0), (10, pt 6 0), (11, pt 7 0), (13, pt 8 0), (14, .bool r7.2), (48, .bool false), (50, .bool true)])) (h2 := (H8_12 p6 p7 r1 r3 r5 r7)) (by kernel_rfl) ?_
      refine TI.runA 10 [3, 5, 6, 7, 8, 10, 11, 13, 60] (a2 := (S8_25)) (by kernel_rfl) ?_
      refine TI.done (by kernel_rfl) ?_
      exact hK
    · replace hm94 := of_neg hm94 hc10
      rcases Bool.eq_false_or_eq_true (r7.2) with hc11 | hc11
      · replace hm94 := of_pos hm94 hc11
        have hX := of_do hm94
        clear hm94
        obtain ⟨r12, h13, hm94⟩ := hX
        cases r12 with
        | true =>
          replace hm94 := of_pos hm94 rfl
          have hm94 := Option.some.inj hm94
          subst hm94
          refine TS.regionP (by kernel_rfl) ?_
          refine TI.runA 1 [3, 5, 6, 7, 8, 10, 11, 12, 13, 14, 46] (a2 := (S8_21 r5 r7 r3)) (by kernel_rfl) ?_
          refine TI.op (q := { val := .bool false }) (q_conv (e := r3.2.2 != 0) (b := false) (by kernel_rfl) hc9) [3, 5, 6, 7, 8, 10, 11, 12, 13, 14, 47] [1, 2, 3, 4, 5, 6, 7, 8] (a2 := (S8_19 r5 r7)) (h2 := (H8_12 p6 p7 r1 r3 r5 r7)) (by kernel_rfl) ?_
          refine TI.runA 2 [3, 5, 6, 7, 8, 10, 11, 13, 14, 48, 49] (a2 := (S8_20 r7 r5)) (by kernel_rfl) ?_
          refine TI.op (q := { val := .bool false }) (q_conv (e := r5.2.2 != 0) (b := false) (by kernel_rfl) hc10) [3, 5, 6, 7, 8, 10, 11, 13, 14, 48, 50] [1, 2, 3, 4, 5, 6, 7, 8] (a2 := (S8_18 r7)) (h2 := (H8_12 p6 p7 r1 r3 r5 r7)) (by kernel_rfl) ?_
          refine TI.runA 2 [3, 5, 6, 7, 8, 10, 11, 13, 14, 52] (a2 := (S8_23 r7)) (by kernel_rfl) ?_
          refine TI.op (q := { val := .bool true }) (q_conv (e := r7.2) (b := true) (by kernel_rfl) hc11) [3, 5, 6, 7, 8, 10, 11, 13, 52, 53] [1, 2, 3, 4, 5, 6, 7, 8] (a2 := (S8_24)) (h2 := (H8_12 p6 p7 r1 r3 r5 r7)) (by kernel_rfl) ?_
          refine TI.runA 4 [3, 5, 6, 7, 8, 10, 11, 13, 56, 57] (a2 := (S8_22 r3)) (by kernel_rfl) ?_
          refine TI.callF (C38 _ _ _ h13) (by kernel_rfl) (by kernel_rfl) ?_
          refine TI.runA 2 [3, 5, 6, 7, 8, 10, 11, 13, 60] (a2 := (st 159 [(3, pt 1 0), (5, pt 2 0), (6, pt 3 0), (7, pt 4 0), (8, pt 5 0), (10, pt 6 0), (11, pt 7 0), (13, pt 8 0), (60, .bool false)])) (by kernel_rfl) ?_
          refine TI.done (by kernel_rfl) ?_
          exact hK
        | false =>
          replace hm94 := of_neg hm94 rfl
          have hm94 := Option.some.inj hm94
          subst hm94
          refine TS.regionP (by kernel_rfl) ?_
          refine TI.runA 1 [3, 5, 6, 7, 8, 10, 11, 12, 13, 14, 46] (a2 := (S8_21 r5 r7 r3)) (by kernel_rfl) ?_
          refine TI.op (q := { val := .bool false }) (q_conv (e := r3.2.2 != 0) (b := false) (by kernel_rfl) hc9) [3, 5, 6, 7, 8, 10, 11, 12, 13, 14, 47] [1, 2, 3, 4, 5, 6, 7, 8] (a2 := (S8_19 r5 r7)) (h2 := (H8_12 p6 p7 r1 r3 r5 r7)) (by kernel_rfl) ?_
          refine TI.runA 2 [3, 5, 6, 7, 8, 10, 11, 13, 14, 48, 49] (a2 := (S8_20 r7 r5)) (by kernel_rfl) ?_
          refine TI.op (q := { val := .bool false }) (q_conv (e := r5.2.2 != 0) (b := false) (by kernel_rfl) hc10) [3, 5, 6, 7, 8, 10, 11, 13, 14, 48, 50] [1, 2, 3, 4, 5, 6, 7, 8] (a2 := (S8_18 r7)) (h2 := (H8_12 p6 p7 r1 r3 r5 r7)) (by kernel_rfl) ?_
          refine TI.runA 2 [3, 5, 6, 7, 8, 10, 11, 13, 14, 52] (a2 := (S8_23 r7)) (by kernel_rfl) ?_
          refine TI.op (q := { val := .bool true }) (q_conv (e := r7.2) (b := true) (by kernel_rfl) hc11) [3, 5, 6, 7, 8, 10, 11, 13, 52, 53] [1, 2, 3, 4, 5, 6, 7, 8] (a2 := (S8_24)) (h2 := (H8_12 p6 p7 r1 r3 r5 r7)) (by kernel_rfl) ?_
          refine TI.runA 4 [3, 5, 6, 7, 8, 10, 11, 13, 56, 57] (a2 := (S8_22 r3)) (by kernel_rfl) ?_
          refine TI.callF (C38 _ _ _ h13) (by kernel_rfl) (by kernel_rfl) ?_
          refine TI.runA 2 [3, 5, 6, 7, 8, 10, 11, 13, 60] (a2 := (S8_25)) (by kernel_rfl) ?_
          refine TI.done (by kernel_rfl) ?_
          exact hK
      · replace hm94 := of_neg hm94 hc11
        have hm94 := Option.some.inj hm94
        subst hm94
        refine TS.regionP (by kernel_rfl) ?_
        refine TI.runA 1 [3, 5, 6, 7, 8, 10, 11, 12, 13, 14, 46] (a2 := (S8_21 r5 r7 r3)) (by kernel_rfl) ?_
        refine TI.op (q := { val := .bool false }) (q_conv (e := r3.2.2 != 0) (b := false) (by kernel_rfl) hc9) [3, 5, 6, 7, 8, 10, 11, 12, 13, 14, 47] [1, 2, 3, 4, 5, 6, 7, 8] (a2 := (S8_19 r5 r7)) (h2 := (H8_12 p6 p7 r1 r3 r5 r7)) (by kernel_rfl) ?_
        refine TI.runA 2 [3, 5, 6, 7, 8, 10, 11, 13, 14, 48, 49] (a2 := (S8_20 r7 r5)) (by kernel_rfl) ?_
        refine TI.op (q := { val := .bool false }) (q_conv (e := r5.2.2 != 0) (b := false) (by kernel_rfl) hc10) [3, 5, 6, 7, 8, 10, 11, 13, 14, 48, 50] [1, 2, 3, 4, 5, 6, 7, 8] (a2 := (S8_18 r7)) (h2 := (H8_12 p6 p7 r1 r3 r5 r7)) (by kernel_rfl) ?_
        refine TI.runA 2 [3, 5, 6, 7, 8, 10, 11, 13, 14, 52] (a2 := (S8_23 r7)) (by kernel_rfl) ?_
        refine TI.op (q := { val := .bool false }) (q_conv (e := r7.2) (b := false) (by kernel_rfl) hc11) [3, 5, 6, 7, 8, 10, 11, 13, 52, 53] [1, 2, 3, 4, 5, 6, 7, 8] (a2 := (st 159 [(3, pt 1 0), (5, pt 2 0), (6, pt 3 0), (7, pt 4 0), (8, pt 5 0), (10, pt 6 0), (11, pt 7 0), (13, pt 8 0), (52, .bool false), (53, .bool false)])) (h2 := (H8_12 p6 p7 r1 r3 r5 r7)) (by kernel_rfl) ?_
        refine TI.runA 7 [3, 5, 6, 7, 8, 10, 11, 13, 60] (a2 := (S8_25)) (by kernel_rfl) ?_
        refine TI.done (by kernel_rfl) ?_
        exact hK
theorem C8 (p0 : Int) (p1 : Int) (p2 : Int) (p3 : Int) (p4 : Int) (p5 : Int) (p6 : Int) (p7 : Int) (r : Bool) (hF : F8 p0 p1 p2 p3 p4 p5 p6 p7 = some r) : PureSim Try.prog 8 [ag [.int .i8 p0, .int .i8 p1, .int .i8 p2, .int .i8 p3, .int .i16 p4, .int .i16 p5], ag [.int .i8 p6, .int .i8 p7]] [] (V8 0 r) (N8 0 r) :=
  PureSim.of_Fin Try.func8 (c := c8) (by kernel_rfl) (by kernel_rfl) 0 rfl [0, 1] [] (by kernel_rfl) (B8 p0 p1 p2 p3 p4 p5 p6 p7 r hF)

end Go.Proofs.Ytenjelagfbceeaa
