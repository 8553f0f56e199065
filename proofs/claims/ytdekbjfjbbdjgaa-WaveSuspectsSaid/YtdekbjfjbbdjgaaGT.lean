/- What functions of the program compute, and that they do. -/
import Derived.Test.YtdekbjfjbbdjgaaGS
set_option linter.unusedVariables false
set_option linter.unusedSimpArgs false
set_option maxRecDepth 100000
set_option maxHeartbeats 4000000
namespace Go.Proofs.Ytdekbjfjbbdjgaa
open Go Go.Cl
noncomputable section
noncomputable def c33 : Code := Try.f33.code
def S33_0 (p3 : List Int) (p4 : Int) (p2 : List I2) (o4 : Int) (o7 : I2) (p1 o11 : Int) (o14 : I2) : CAct := (st 142 [(1, sv 1 p3.length ANY), (2, iv p4), (3, pt 2 0), (7, iv (p3.length : Int)), (17, iv (p3.length : Int)), (18, .bool true), (19, .bool true), (20, iv (p3.length : Int)), (21, iv (Int.tmod (p3.length : Int) 2)), (22, .bool true), (23, .bool true), (24, .bool true), (25, pt 2 2), (26, sv 0 p2.length ANY), (27, sv 1 p3.length ANY), (28, .pointer (some ⟨1, 0 + (Int.toNat 0) * 1, none⟩)), (29, iv o4), (30, .pointer (some ⟨0, 0 + (Int.toNat o4) * 2, none⟩)), (31, .pointer (some ⟨0, 0 + (Int.toNat o4) * 2, none⟩)), (32, iv o7.1), (33, pt 2 1), (34, iv p1), (35, iv (Int.tmod o7.1 p1)), (36, pt 2 2), (37, sv 0 p2.length ANY), (38, sv 1 p3.length ANY), (39, iv (p3.length : Int)), (40, iv (w64 ((p3.length : Int) - 1))), (41, .pointer (some ⟨1, 0 + (Int.toNat (w64 ((p3.length : Int) - 1))) * 1, none⟩)), (42, iv o11), (43, .pointer (some ⟨0, 0 + (Int.toNat o11) * 2, none⟩)), (44, .pointer (some ⟨0, 0 + (Int.toNat o11) * 2, none⟩)), (45, iv o14.1), (46, pt 2 1), (47, iv p1)])
def S33_1 (p3 : List Int) (p4 : Int) (p2 : List I2) (o4 : Int) (o7 : I2) (p1 o11 : Int) : CAct := (st 142 [(1, sv 1 p3.length ANY), (2, iv p4), (3, pt 2 0), (7, iv (p3.length : Int)), (17, iv (p3.length : Int)), (18, .bool true), (19, .bool true), (20, iv (p3.length : Int)), (21, iv (Int.tmod (p3.length : Int) 2)), (22, .bool true), (23, .bool true), (24, .bool true), (25, pt 2 2), (26, sv 0 p2.length ANY), (27, sv 1 p3.length ANY), (28, .pointer (some ⟨1, 0 + (Int.toNat 0) * 1, none⟩)), (29, iv o4), (30, .pointer (some ⟨0, 0 + (Int.toNat o4) * 2, none⟩)), (31, .pointer (some ⟨0, 0 + (Int.toNat o4) * 2, none⟩)), (32, iv o7.1), (33, pt 2 1), (34, iv p1), (35, iv (Int.tmod o7.1 p1)), (36, pt 2 2), (37, sv 0 p2.length ANY), (38, sv 1 p3.length ANY), (39, iv (p3.length : Int)), (40, iv (w64 ((p3.length : Int) - 1))), (41, .pointer (some ⟨1, 0 + (Int.toNat (w64 ((p3.length : Int) - 1))) * 1, none⟩)), (42, iv o11), (43, .pointer (some ⟨0, 0 + (Int.toNat o11) * 2, none⟩)), (44, .pointer (some ⟨0, 0 + (Int.toNat o11) * 2, none⟩))])
def S33_2 (p3 : List Int) (p4 : Int) (p2 : List I2) (o4 : Int) (o7 : I2) (p1 : Int) : CAct := (st 142 [(1, sv 1 p3.length ANY), (2, iv p4), (3, pt 2 0), (7, iv (p3.length : Int)), (17, iv (p3.length : Int)), (18, .bool true), (19, .bool true), (20, iv (p3.length : Int)), (21, iv (Int.tmod (p3.length : Int) 2)), (22, .bool true), (23, .bool true), (24, .bool true), (25, pt 2 2), (26, sv 0 p2.length ANY), (27, sv 1 p3.length ANY), (28, .pointer (some ⟨1, 0 + (Int.toNat 0) * 1, none⟩)), (29, iv o4), (30, .pointer (some ⟨0, 0 + (Int.toNat o4) * 2, none⟩)), (31, .pointer (some ⟨0, 0 + (Int.toNat o4) * 2, none⟩)), (32, iv o7.1), (33, pt 2 1), (34, iv p1), (35, iv (Int.tmod o7.1 p1)), (36, pt 2 2), (37, sv 0 p2.length ANY), (38, sv 1 p3.length ANY), (39, iv (p3.length : Int)), (40, iv (w64 ((p3.length : Int) - 1)))])
def S33_3 (p3 : List Int) (p4 v81 : Int) (p2 : List I2) (o147 : I2) (p0 : Int) (o175 : I2) : CAct := (st 142 [(1, sv 1 p3.length ANY), (2, iv p4), (3, pt 2 0), (7, iv (p3.length : Int)), (8, iv v81), (9, pt 3 0), (13, pt 4 0), (56, sv 0 p2.length ANY), (57, iv (p2.length : Int)), (58, iv v81), (88, iv (p3.length : Int)), (89, iv (Int.tmod (p3.length : Int) 2)), (90, .bool true), (91, .bool true), (92, pt 3 0), (93, iv o147.1), (94, pt 2 0), (95, iv p0), (96, iv (Int.tmod o147.1 p0)), (97, pt 4 0), (98, iv o175.1), (99, pt 2 0), (100, iv p0), (101, iv (Int.tmod o175.1 p0)), (102, .bool false), (103, .bool false), (104, .bool false), (105, iv (p3.length : Int)), (106, iv (Int.tmod (p3.length : Int) 2))])
def S33_4 (p3 : List Int) (p4 : Int) (p2 : List I2) (o4 : Int) (o7 : I2) (p1 : Int) : CAct := (st 142 [(1, sv 1 p3.length ANY), (2, iv p4), (3, pt 2 0), (7, iv (p3.length : Int)), (17, iv (p3.length : Int)), (18, .bool true), (19, .bool true), (20, iv (p3.length : Int)), (21, iv (Int.tmod (p3.length : Int) 2)), (22, .bool true), (23, .bool true), (24, .bool true), (25, pt 2 2), (26, sv 0 p2.length ANY), (27, sv 1 p3.length ANY), (28, .pointer (some ⟨1, 0 + (Int.toNat 0) * 1, none⟩)), (29, iv o4), (30, .pointer (some ⟨0, 0 + (Int.toNat o4) * 2, none⟩)), (31, .pointer (some ⟨0, 0 + (Int.toNat o4) * 2, none⟩)), (32, iv o7.1), (33, pt 2 1), (34, iv p1)])
def S33_5 (p3 : List Int) (p4 v81 m188 : Int) (p2 : List I2) (p0 p1 : Int) : CAct := (st 142 [(1, sv 1 p3.length ANY), (2, iv p4), (3, pt 2 0), (7, iv (p3.length : Int)), (8, iv v81), (14, iv m188), (56, sv 0 p2.length ANY), (57, iv (p2.length : Int)), (58, iv v81), (129, ag [iv p0, iv p1, sv 0 p2.length ANY]), (130, sv 3 0 0), (131, sv 1 p3.length ANY), (132, ownV 4 p3.length), (133, iv v81), (134, sv 5 1 1), (135, ownV 6 (List.length (p3 ++ ([v81])))), (136, iv p4), (137, iv m188), (138, iv (w64 (p4 + m188))), (139, .bool true), (140, .bool false)])
def S33_6 (p3 : List Int) (p4 v81 m188 : Int) (p2 : List I2) (p0 p1 : Int) : CAct := (st 142 [(1, sv 1 p3.length ANY), (2, iv p4), (3, pt 2 0), (7, iv (p3.length : Int)), (8, iv v81), (14, iv m188), (56, sv 0 p2.length ANY), (57, iv (p2.length : Int)), (58, iv v81), (129, ag [iv p0, iv p1, sv 0 p2.length ANY]), (130, sv 3 0 0), (131, sv 1 p3.length ANY), (132, ownV 4 p3.length), (133, iv v81), (134, sv 5 1 1), (135, ownV 6 (List.length (p3 ++ ([v81])))), (136, iv p4), (137, iv m188), (138, iv (w64 (p4 + m188))), (139, .bool false), (140, .bool true)])
def S33_7 (p3 : List Int) (p4 v81 m200 : Int) (p2 : List I2) (p0 p1 : Int) : CAct := (st 142 [(1, sv 1 p3.length ANY), (2, iv p4), (3, pt 2 0), (7, iv (p3.length : Int)), (8, iv v81), (14, iv m200), (56, sv 0 p2.length ANY), (57, iv (p2.length : Int)), (58, iv v81), (129, ag [iv p0, iv p1, sv 0 p2.length ANY]), (130, sv 3 0 0), (131, sv 1 p3.length ANY), (132, ownV 4 p3.length), (133, iv v81), (134, sv 5 1 1), (135, ownV 6 (List.length (p3 ++ ([v81])))), (136, iv p4), (137, iv m200), (138, iv (w64 (p4 + m200))), (139, .bool true), (140, .bool false)])
def S33_8 (p3 : List Int) (p4 v81 m200 : Int) (p2 : List I2) (p0 p1 : Int) : CAct := (st 142 [(1, sv 1 p3.length ANY), (2, iv p4), (3, pt 2 0), (7, iv (p3.length : Int)), (8, iv v81), (14, iv m200), (56, sv 0 p2.length ANY), (57, iv (p2.length : Int)), (58, iv v81), (129, ag [iv p0, iv p1, sv 0 p2.length ANY]), (130, sv 3 0 0), (131, sv 1 p3.length ANY), (132, ownV 4 p3.length), (133, iv v81), (134, sv 5 1 1), (135, ownV 6 (List.length (p3 ++ ([v81])))), (136, iv p4), (137, iv m200), (138, iv (w64 (p4 + m200))), (139, .bool false), (140, .bool true)])
def S33_9 (p3 : List Int) (p4 v81 : Int) (p2 : List I2) : CAct := (st 142 [(1, sv 1 p3.length ANY), (2, iv p4), (3, pt 2 0), (7, iv (p3.length : Int)), (8, iv v81), (9, pt 3 0), (13, pt 4 0), (56, sv 0 p2.length ANY), (57, iv (p2.length : Int)), (58, iv v81), (88, iv (p3.length : Int)), (89, iv (Int.tmod (p3.length : Int) 2)), (90, .bool false), (91, .bool false), (92, undef), (93, undef), (94, undef), (95, undef), (96, undef), (97, undef), (98, undef), (99, undef), (100, undef), (101, undef), (102, undef), (103, .bool false), (104, .bool false), (105, iv (p3.length : Int)), (106, iv (Int.tmod (p3.length : Int) 2))])
def S33_10 (p3 : List Int) (p4 : Int) (p2 : List I2) (o4 : Int) : CAct := (st 142 [(1, sv 1 p3.length ANY), (2, iv p4), (3, pt 2 0), (7, iv (p3.length : Int)), (17, iv (p3.length : Int)), (18, .bool true), (19, .bool true), (20, iv (p3.length : Int)), (21, iv (Int.tmod (p3.length : Int) 2)), (22, .bool true), (23, .bool true), (24, .bool true), (25, pt 2 2), (26, sv 0 p2.length ANY), (27, sv 1 p3.length ANY), (28, .pointer (some ⟨1, 0 + (Int.toNat 0) * 1, none⟩)), (29, iv o4), (30, .pointer (some ⟨0, 0 + (Int.toNat o4) * 2, none⟩)), (31, .pointer (some ⟨0, 0 + (Int.toNat o4) * 2, none⟩))])
def S33_11 (p3 : List Int) (p4 v81 m188 : Int) (p2 : List I2) (p0 p1 : Int) : CAct := (st 142 [(1, sv 1 p3.length ANY), (2, iv p4), (3, pt 2 0), (7, iv (p3.length : Int)), (8, iv v81), (14, iv m188), (56, sv 0 p2.length ANY), (57, iv (p2.length : Int)), (58, iv v81), (129, ag [iv p0, iv p1, sv 0 p2.length ANY]), (130, sv 3 0 0), (131, sv 1 p3.length ANY), (132, ownV 4 p3.length), (133, iv v81), (134, sv 5 1 1), (135, ownV 6 (List.length (p3 ++ ([v81])))), (136, iv p4), (137, iv m188), (138, iv (w64 (p4 + m188)))])
def S33_12 (p3 : List Int) (p4 v81 m200 : Int) (p2 : List I2) (p0 p1 : Int) : CAct := (st 142 [(1, sv 1 p3.length ANY), (2, iv p4), (3, pt 2 0), (7, iv (p3.length : Int)), (8, iv v81), (14, iv m200), (56, sv 0 p2.length ANY), (57, iv (p2.length : Int)), (58, iv v81), (129, ag [iv p0, iv p1, sv 0 p2.length ANY]), (130, sv 3 0 0), (131, sv 1 p3.length ANY), (132, ownV 4 p3.length), (133, iv v81), (134, sv 5 1 1), (135, ownV 6 (List.length (p3 ++ ([v81])))), (136, iv p4), (137, iv m200), (138, iv (w64 (p4 + m200)))])
def S33_13 (p3 : List Int) (p4 v81 m188 : Int) (p2 : List I2) (p0 p1 : Int) : CAct := (st 142 [(1, sv 1 p3.length ANY), (2, iv p4), (3, pt 2 0), (7, iv (p3.length : Int)), (8, iv v81), (14, iv m188), (56, sv 0 p2.length ANY), (57, iv (p2.length : Int)), (58, iv v81), (129, ag [iv p0, iv p1, sv 0 p2.length ANY]), (130, sv 3 0 0), (131, sv 1 p3.length ANY), (132, ownV 4 p3.length), (133, iv v81), (134, sv 5 1 1), (135, ownV 6 (List.length (p3 ++ ([v81]))))])
def S33_14 (p3 : List Int) (p4 v81 m200 : Int) (p2 : List I2) (p0 p1 : Int) : CAct := (st 142 [(1, sv 1 p3.length ANY), (2, iv p4), (3, pt 2 0), (7, iv (p3.length : Int)), (8, iv v81), (14, iv m200), (56, sv 0 p2.length ANY), (57, iv (p2.length : Int)), (58, iv v81), (129, ag [iv p0, iv p1, sv 0 p2.length ANY]), (130, sv 3 0 0), (131, sv 1 p3.length ANY), (132, ownV 4 p3.length), (133, iv v81), (134, sv 5 1 1), (135, ownV 6 (List.length (p3 ++ ([v81]))))])
def S33_15 (p3 : List Int) (p4 v81 : Int) (p2 : List I2) (o147 : I2) (p0 : Int) (o175 : I2) : CAct := (st 142 [(1, sv 1 p3.length ANY), (2, iv p4), (3, pt 2 0), (7, iv (p3.length : Int)), (8, iv v81), (9, pt 3 0), (13, pt 4 0), (56, sv 0 p2.length ANY), (57, iv (p2.length : Int)), (58, iv v81), (88, iv (p3.length : Int)), (89, iv (Int.tmod (p3.length : Int) 2)), (90, .bool true), (91, .bool true), (92, pt 3 0), (93, iv o147.1), (94, pt 2 0), (95, iv p0), (96, iv (Int.tmod o147.1 p0)), (97, pt 4 0), (98, iv o175.1), (99, pt 2 0), (100, iv p0)])
def S33_16 (p3 : List Int) (p4 v81 m188 : Int) (p2 : List I2) (p0 p1 : Int) : CAct := (st 142 [(1, sv 1 p3.length ANY), (2, iv p4), (3, pt 2 0), (7, iv (p3.length : Int)), (8, iv v81), (14, iv m188), (56, sv 0 p2.length ANY), (57, iv (p2.length : Int)), (58, iv v81), (129, ag [iv p0, iv p1, sv 0 p2.length ANY]), (130, sv 3 0 0), (131, sv 1 p3.length ANY), (132, ownV 4 p3.length), (133, iv v81), (134, sv 5 1 1)])
def S33_17 (p3 : List Int) (p4 v81 m200 : Int) (p2 : List I2) (p0 p1 : Int) : CAct := (st 142 [(1, sv 1 p3.length ANY), (2, iv p4), (3, pt 2 0), (7, iv (p3.length : Int)), (8, iv v81), (14, iv m200), (56, sv 0 p2.length ANY), (57, iv (p2.length : Int)), (58, iv v81), (129, ag [iv p0, iv p1, sv 0 p2.length ANY]), (130, sv 3 0 0), (131, sv 1 p3.length ANY), (132, ownV 4 p3.length), (133, iv v81), (134, sv 5 1 1)])
def S33_18 (p3 : List Int) (p4 v81 m188 : Int) (p2 : List I2) (p0 p1 : Int) : CAct := (st 142 [(1, sv 1 p3.length ANY), (2, iv p4), (3, pt 2 0), (7, iv (p3.length : Int)), (8, iv v81), (14, iv m188), (56, sv 0 p2.length ANY), (57, iv (p2.length : Int)), (58, iv v81), (129, ag [iv p0, iv p1, sv 0 p2.length ANY]), (130, sv 3 0 0), (131, sv 1 p3.length ANY), (132, ownV 4 p3.length)])
def S33_19 (p3 : List Int) (p4 v81 m200 : Int) (p2 : List I2) (p0 p1 : Int) : CAct := (st 142 [(1, sv 1 p3.length ANY), (2, iv p4), (3, pt 2 0), (7, iv (p3.length : Int)), (8, iv v81), (14, iv m200), (56, sv 0 p2.length ANY), (57, iv (p2.length : Int)), (58, iv v81), (129, ag [iv p0, iv p1, sv 0 p2.length ANY]), (130, sv 3 0 0), (131, sv 1 p3.length ANY), (132, ownV 4 p3.length)])
def S33_20 (p3 : List Int) (p4 : Int) (p2 : List I2) : CAct := (st 142 [(1, sv 1 p3.length ANY), (2, iv p4), (3, pt 2 0), (7, iv (p3.length : Int)), (17, iv (p3.length : Int)), (18, .bool true), (19, .bool true), (20, iv (p3.length : Int)), (21, iv (Int.tmod (p3.length : Int) 2)), (22, .bool true), (23, .bool true), (24, .bool true), (25, pt 2 2), (26, sv 0 p2.length ANY), (27, sv 1 p3.length ANY)])
def S33_21 (p3 : List Int) (p4 v81 : Int) (p2 : List I2) (o147 : I2) (p0 : Int) : CAct := (st 142 [(1, sv 1 p3.length ANY), (2, iv p4), (3, pt 2 0), (7, iv (p3.length : Int)), (8, iv v81), (9, pt 3 0), (13, pt 4 0), (56, sv 0 p2.length ANY), (57, iv (p2.length : Int)), (58, iv v81), (88, iv (p3.length : Int)), (89, iv (Int.tmod (p3.length : Int) 2)), (90, .bool true), (91, .bool true), (92, pt 3 0), (93, iv o147.1), (94, pt 2 0), (95, iv p0)])
def S33_22 (p3 : List Int) (p4 v81 m188 : Int) (p2 : List I2) (p0 p1 : Int) : CAct := (st 142 [(1, sv 1 p3.length ANY), (2, iv p4), (3, pt 2 0), (7, iv (p3.length : Int)), (8, iv v81), (14, iv m188), (56, sv 0 p2.length ANY), (57, iv (p2.length : Int)), (58, iv v81), (129, ag [iv p0, iv p1, sv 0 p2.length ANY]), (130, sv 3 0 0), (131, sv 1 p3.length ANY)])
def S33_23 (p3 : List Int) (p4 v81 m200 : Int) (p2 : List I2) (p0 p1 : Int) : CAct := (st 142 [(1, sv 1 p3.length ANY), (2, iv p4), (3, pt 2 0), (7, iv (p3.length : Int)), (8, iv v81), (14, iv m200), (56, sv 0 p2.length ANY), (57, iv (p2.length : Int)), (58, iv v81), (129, ag [iv p0, iv p1, sv 0 p2.length ANY]), (130, sv 3 0 0), (131, sv 1 p3.length ANY)])
def S33_24 (p3 : List Int) (p4 v81 : Int) (m166 : Bool) (p2 : List I2) (v154 : Int) : CAct := (st 142 [(1, sv 1 p3.length ANY), (2, iv p4), (3, pt 2 0), (7, iv (p3.length : Int)), (8, iv v81), (9, pt 3 0), (10, .bool m166), (56, sv 0 p2.length ANY), (57, iv (p2.length : Int)), (58, iv v81), (63, sv 1 p3.length ANY), (64, iv (p3.length : Int)), (65, iv (w64 (v154 + 1)))])
def S33_25 (p3 : List Int) (p4 v81 : Int) (v153 : Bool) (p2 : List I2) (v154 : Int) : CAct := (st 142 [(1, sv 1 p3.length ANY), (2, iv p4), (3, pt 2 0), (7, iv (p3.length : Int)), (8, iv v81), (9, pt 3 0), (10, .bool v153), (56, sv 0 p2.length ANY), (57, iv (p2.length : Int)), (58, iv v81), (63, sv 1 p3.length ANY), (64, iv (p3.length : Int)), (65, iv v154)])
def S33_26 (p3 : List Int) (p4 v81 : Int) (p2 : List I2) : CAct := (st 142 [(1, sv 1 p3.length ANY), (2, iv p4), (3, pt 2 0), (7, iv (p3.length : Int)), (8, iv v81), (9, pt 3 0), (10, .bool false), (56, sv 0 p2.length ANY), (57, iv (p2.length : Int)), (58, iv v81), (63, sv 1 p3.length ANY), (64, iv (p3.length : Int)), (65, iv 0)])
def S33_27 (p3 : List Int) (p4 v81 : Int) (p2 : List I2) : CAct := (st 142 [(1, sv 1 p3.length ANY), (2, iv p4), (3, pt 2 0), (7, iv (p3.length : Int)), (8, iv v81), (9, pt 3 0), (13, pt 4 0), (56, sv 0 p2.length ANY), (57, iv (p2.length : Int)), (58, iv v81), (88, iv (p3.length : Int)), (89, iv (Int.tmod (p3.length : Int) 2))])
def S33_28 (p3 : List Int) (p4 v81 : Int) (o147 : I2) (p2 : List I2) : CAct := (st 142 [(1, sv 1 p3.length ANY), (2, iv p4), (3, pt 2 0), (7, iv (p3.length : Int)), (8, iv v81), (14, iv o147.2), (56, sv 0 p2.length ANY), (57, iv (p2.length : Int)), (58, iv v81), (126, .bool ((Int.tmod (p3.length : Int) 2) == 1))])
def S33_29 (p3 : List Int) (p4 v81 : Int) (p2 : List I2) (o147 : I2) (p1 : Int) (o175 : I2) : CAct := (st 142 [(1, sv 1 p3.length ANY), (2, iv p4), (3, pt 2 0), (7, iv (p3.length : Int)), (8, iv v81), (9, pt 3 0), (56, sv 0 p2.length ANY), (57, iv (p2.length : Int)), (58, iv v81), (121, .bool ((Int.tmod o147.1 p1) != (Int.tmod o175.1 p1)))])
def S33_30 (p3 : List Int) (p4 v81 : Int) (p2 : List I2) : CAct := (st 142 [(1, sv 1 p3.length ANY), (2, iv p4), (3, pt 2 0), (7, iv (p3.length : Int)), (8, iv v81), (9, pt 3 0), (56, sv 0 p2.length ANY), (57, iv (p2.length : Int)), (58, iv v81), (121, .bool false)])
def S33_31 (p3 : List Int) (p4 : Int) : CAct := (st 142 [(1, sv 1 p3.length ANY), (2, iv p4), (3, pt 2 0), (7, iv (p3.length : Int)), (17, iv (p3.length : Int)), (18, .bool true), (19, .bool true), (20, iv (p3.length : Int)), (21, iv (Int.tmod (p3.length : Int) 2))])
def S33_32 (p3 : List Int) (p4 v81 : Int) (o147 : I2) (p2 : List I2) : CAct := (st 142 [(1, sv 1 p3.length ANY), (2, iv p4), (3, pt 2 0), (7, iv (p3.length : Int)), (8, iv v81), (14, iv (w64 (0 - o147.2))), (56, sv 0 p2.length ANY), (57, iv (p2.length : Int)), (58, iv v81)])
def S33_33 (p3 : List Int) (p4 v81 : Int) (o147 : I2) (p2 : List I2) : CAct := (st 142 [(1, sv 1 p3.length ANY), (2, iv p4), (3, pt 2 0), (7, iv (p3.length : Int)), (8, iv v81), (14, iv o147.2), (56, sv 0 p2.length ANY), (57, iv (p2.length : Int)), (58, iv v81)])
def S33_34 (p3 : List Int) (p4 : Int) (p2 : List I2) (v81 : Int) : CAct := (st 142 [(1, sv 1 p3.length ANY), (2, iv p4), (3, pt 2 0), (7, iv (p3.length : Int)), (56, sv 0 p2.length ANY), (57, iv (p2.length : Int)), (58, iv v81), (140, .bool false)])
def S33_35 (p3 : List Int) (p4 : Int) (p2 : List I2) (v81 : Int) : CAct := (st 142 [(1, sv 1 p3.length ANY), (2, iv p4), (3, pt 2 0), (7, iv (p3.length : Int)), (56, sv 0 p2.length ANY), (57, iv (p2.length : Int)), (58, iv v81), (140, .bool true)])
def H33_36 (p2 : List I2) (p3 : List Int) (p0 p1 v81 : Int) : List Blk := [ab 57 e57 p2, ab 3 e3 p3, cl 24 [iv p0, iv p1, sv 0 p2.length ANY], .dead, .dead, cl 3 [iv v81], .cells 3 (List.flatMap e3 (p3 ++ ([v81])))]
def S33_37 (p3 : List Int) (p4 : Int) (p2 : List I2) (v81 : Int) : CAct := (st 142 [(1, sv 1 p3.length ANY), (2, iv p4), (3, pt 2 0), (7, iv (p3.length : Int)), (56, sv 0 p2.length ANY), (57, iv (p2.length : Int)), (58, iv (w64 (v81 + 1)))])
def H33_38 (p2 : List I2) (p3 : List Int) (p0 p1 : Int) (o147 o175 : I2) : List Blk := [ab 57 e57 p2, ab 3 e3 p3, cl 24 [iv p0, iv p1, sv 0 p2.length ANY], cl 57 [iv o147.1, iv o147.2], cl 57 [iv o175.1, iv o175.2]]
def S33_39 (p3 : List Int) (p4 : Int) (p2 : List I2) (v81 : Int) : CAct := (st 142 [(1, sv 1 p3.length ANY), (2, iv p4), (3, pt 2 0), (7, iv (p3.length : Int)), (56, sv 0 p2.length ANY), (57, iv (p2.length : Int)), (58, iv v81)])
def S33_40 (p3 : List Int) (p4 : Int) (p2 : List I2) : CAct := (st 142 [(1, sv 1 p3.length ANY), (2, iv p4), (3, pt 2 0), (7, iv (p3.length : Int)), (56, sv 0 p2.length ANY), (57, iv (p2.length : Int)), (58, iv 0)])
def H33_41 (p2 : List I2) (p3 : List Int) (p0 p1 v81 : Int) : List Blk := [ab 57 e57 p2, ab 3 e3 p3, cl 24 [iv p0, iv p1, sv 0 p2.length ANY], .dead, .cells 3 (List.flatMap e3 p3), cl 3 [iv v81]]
def H33_42 (p2 : List I2) (p3 : List Int) (p0 p1 : Int) : List Blk := [ab 57 e57 p2, ab 3 e3 p3, cl 24 [iv p0, iv p1, sv 0 p2.length ANY], .dead, .cells 3 (List.flatMap e3 p3)]
def H33_43 (p2 : List I2) (p3 : List Int) (p0 p1 : Int) (o147 : I2) : List Blk := [ab 57 e57 p2, ab 3 e3 p3, cl 24 [iv p0, iv p1, sv 0 p2.length ANY], cl 57 [iv o147.1, iv o147.2], .dead]
def H33_44 (p2 : List I2) (p3 : List Int) (p0 p1 : Int) (o147 : I2) : List Blk := [ab 57 e57 p2, ab 3 e3 p3, cl 24 [iv p0, iv p1, sv 0 p2.length ANY], cl 57 [iv o147.1, iv o147.2]]
def H33_45 (p2 : List I2) (p3 : List Int) (p0 p1 : Int) : List Blk := [ab 57 e57 p2, ab 3 e3 p3, cl 24 [iv p0, iv p1, sv 0 p2.length ANY], .dead, .dead, .dead, .dead]
def H33_46 (p2 : List I2) (p3 : List Int) (p0 p1 : Int) : List Blk := [ab 57 e57 p2, ab 3 e3 p3, cl 24 [iv p0, iv p1, sv 0 p2.length ANY], .dead, .dead]
def H33_47 (p2 : List I2) (p3 : List Int) (p0 p1 : Int) : List Blk := [ab 57 e57 p2, ab 3 e3 p3, cl 24 [iv p0, iv p1, sv 0 p2.length ANY], cl 3 []]
def H33_48 (p2 : List I2) (p3 : List Int) (p0 p1 : Int) : List Blk := [ab 57 e57 p2, ab 3 e3 p3, cl 24 [iv p0, iv p1, sv 0 p2.length ANY], .dead]
def H33_49 (p2 : List I2) (p3 : List Int) (p0 p1 : Int) : List Blk := [ab 57 e57 p2, ab 3 e3 p3, cl 24 [iv p0, iv p1, sv 0 p2.length ANY]]
def S33_50 (p3 : List Int) (p4 : Int) : CAct := (st 142 [(1, sv 1 p3.length ANY), (2, iv p4), (3, pt 2 0), (7, iv (p3.length : Int)), (17, iv (p3.length : Int))])
def S33_51 (p3 : List Int) (p4 : Int) : CAct := (st 142 [(1, sv 1 p3.length ANY), (2, iv p4), (3, pt 2 0), (7, iv (p3.length : Int)), (54, .bool false)])
def H33_52 (p2 : List I2) (p3 : List Int) (v81 : Int) : List Blk := [ab 57 e57 p2, accB 3 (List.length (p3 ++ ([v81]))) (List.flatMap e3 (p3 ++ ([v81])))]
def H33_53 (p2 : List I2) (p3 : List Int) : List Blk := [ab 57 e57 p2, ab 3 e3 p3]
def V33 (b : Nat) (r : Bool) : Value := .bool r
def N33 (b : Nat) (r : Bool) : List Blk := []
def F33l1 (p0 p1 : Int) (p2 : List I2) (p3 : List Int) (p4 : Int) (o147 : I2) (v81 : Int) (v153 : Bool) (v154 : Int) : Option Bool :=
 if decide (v154 < (p3.length : Int)) then
  if (0 : Int) ≤ v154 ∧ v154 < (p3.length : Int) then
   some (List.getD p3 (Int.toNat v154) 0) >>= fun o164 =>
   (
    if v153 then
     some (true)
    else
     some (o164 == v81)
   : Option Bool) >>= fun m166 =>
   F33l1 p0 p1 p2 p3 p4 o147 v81 m166 (w64 (v154 + 1))
  else none
 else
  some v153
 partial_fixpoint
def F33l0 (rec33 : Int → Int → (List I2) → (List Int) → Int → Option Bool) (p0 p1 : Int) (p2 : List I2) (p3 : List Int) (p4 v81 : Int) : Option (Unit ⊕ Unit) :=
 if decide (v81 < (p2.length : Int)) then
  if (0 : Int) ≤ v81 ∧ v81 < (p2.length : Int) then
   some (List.getD p2 (Int.toNat v81) (0, 0)) >>= fun o147 =>
   F33l1 p0 p1 p2 p3 p4 o147 v81 false 0 >>= fun r168 =>
   if r168 then
    F33l0 rec33 p0 p1 p2 p3 p4 (w64 (v81 + 1))
   else
    if decide ((p3.length : Int) > 0) then
     if (0 : Int) ≤ w64 ((p3.length : Int) - 1) ∧ w64 ((p3.length : Int) - 1) < (p3.length : Int) then
      some (List.getD p3 (Int.toNat (w64 ((p3.length : Int) - 1))) 0) >>= fun o172 =>
      if (0 : Int) ≤ o172 ∧ o172 < (p2.length : Int) then
       some (List.getD p2 (Int.toNat o172) (0, 0)) >>= fun o175 =>
       (
        if (Int.tmod (p3.length : Int) 2) == 1 then
         if p0 = 0 then none else
         if (Int.tmod o147.1 p0) != (Int.tmod o175.1 p0) then
          some (true)
         else
          if (Int.tmod (p3.length : Int) 2) == 0 then
           if p1 = 0 then none else
           some ((Int.tmod o147.1 p1) != (Int.tmod o175.1 p1))
          else
           some (false)
        else
         if (Int.tmod (p3.length : Int) 2) == 0 then
          if p1 = 0 then none else
          some ((Int.tmod o147.1 p1) != (Int.tmod o175.1 p1))
         else
          some (false)
       : Option Bool) >>= fun m184 =>
       if m184 then
        F33l0 rec33 p0 p1 p2 p3 p4 (w64 (v81 + 1))
       else
        (
         if (Int.tmod (p3.length : Int) 2) == 1 then
          some (w64 (0 - o147.2))
         else
          some o147.2
        : Option Int) >>= fun m188 =>
        if List.length p3 ≤ 1000000000 then
         rec33 p0 p1 p2 (p3 ++ ([v81])) (w64 (p4 + m188)) >>= fun r191 =>
         (
          if r191 then
           some (false)
          else
           some (true)
         : Option Bool) >>= fun m193 =>
         if m193 then
          some (.inl ())
         else
          F33l0 rec33 p0 p1 p2 p3 p4 (w64 (v81 + 1))
        else none
      else none
     else none
    else
     (
      if (Int.tmod (p3.length : Int) 2) == 1 then
       some (w64 (0 - o147.2))
      else
       some o147.2
     : Option Int) >>= fun m200 =>
     if List.length p3 ≤ 1000000000 then
      rec33 p0 p1 p2 (p3 ++ ([v81])) (w64 (p4 + m200)) >>= fun r203 =>
      (
       if r203 then
        some (false)
       else
        some (true)
      : Option Bool) >>= fun m205 =>
      if m205 then
       some (.inl ())
      else
       F33l0 rec33 p0 p1 p2 p3 p4 (w64 (v81 + 1))
     else none
  else none
 else
  some (.inr ())
 partial_fixpoint
def F33b (rec33 : Int → Int → (List I2) → (List Int) → Int → Option Bool) (p0 p1 : Int) (p2 : List I2) (p3 : List Int) (p4 : Int) : Option Bool :=
 (
  if decide ((p3.length : Int) > 0) then
   if (Int.tmod (p3.length : Int) 2) == 0 then
    if (0 : Int) ≤ 0 ∧ 0 < (p3.length : Int) then
     some (List.getD p3 (Int.toNat 0) 0) >>= fun o4 =>
     if (0 : Int) ≤ o4 ∧ o4 < (p2.length : Int) then
      some (List.getD p2 (Int.toNat o4) (0, 0)) >>= fun o7 =>
      if p1 = 0 then none else
      if (0 : Int) ≤ w64 ((p3.length : Int) - 1) ∧ w64 ((p3.length : Int) - 1) < (p3.length : Int) then
       some (List.getD p3 (Int.toNat (w64 ((p3.length : Int) - 1))) 0) >>= fun o11 =>
       if (0 : Int) ≤ o11 ∧ o11 < (p2.length : Int) then
        some (List.getD p2 (Int.toNat o11) (0, 0)) >>= fun o14 =>
        if (Int.tmod o7.1 p1) == (Int.tmod o14.1 p1) then
         some (p4 != 0)
        else
         some (false)
       else none
      else none
     else none
    else none
   else
    some (false)
  else
   some (false)
 : Option Bool) >>= fun m17 =>
 if m17 then
  some false
 else
  F33l0 rec33 p0 p1 p2 p3 p4 0 >>= fun r208 =>
  match r208 with
  | .inl o210 =>
   some false
  | .inr o211 =>
   some true
def F33 : Nat → Int → Int → (List I2) → (List Int) → Int → Option Bool
 | 0 => fun _ _ _ _ _ => none
 | k + 1 => F33b (F33 k)
def P33l1 (p0 p1 : Int) (p2 : List I2) (p3 : List Int) (p4 : Int) (o147 : I2) (v81 : Int) (r : Bool) : Post := fun e a h => e = .exit 2 ∧ Wk Try.prog 2 2 a h (st 142 [(1, sv 1 p3.length ANY), (2, iv p4), (3, pt 2 0), (7, iv (p3.length : Int)), (8, iv v81), (9, pt 3 0), (10, .bool r), (56, sv 0 p2.length ANY), (57, iv (p2.length : Int)), (58, iv v81)]) (H33_44 p2 p3 p0 p1 o147)
theorem L33l1 (p0 p1 : Int) (p2 : List I2) (p3 : List Int) (p4 : Int) (o147 : I2) (v81 : Int) (v153 : Bool) (v154 : Int) (r : Bool) (hF : F33l1 p0 p1 p2 p3 p4 o147 v81 v153 v154 = some r) : TL Try.prog 2 2 c33.s2.s2.s2.s1.s2.bd.bd.s2.s2.s1.bd.s2.s2.s1.s2.bd.bd (S33_25 p3 p4 v81 v153 p2 v154) (H33_44 p2 p3 p0 p1 o147) (P33l1 p0 p1 p2 p3 p4 o147 v81 r) := by
 refine F33l1.partial_correctness p0 p1 p2 p3 p4 o147 v81 (motive := fun v153 v154 r => TL Try.prog 2 2 c33.s2.s2.s2.s1.s2.bd.bd.s2.s2.s1.bd.s2.s2.s1.s2.bd.bd (S33_25 p3 p4 v81 v153 p2 v154) (H33_44 p2 p3 p0 p1 o147) (P33l1 p0 p1 p2 p3 p4 o147 v81 r)) ?_ v153 v154 r hF
 clear hF r v153 v154
 intro again ih v153 v154 r hF
 refine TL.round (TS.sq (TS.rg (TI.ra 1 [1, 2, 3, 7, 8, 9, 10, 56, 57, 58, 63, 64, 65, 66] (st 142 [(1, sv 1 p3.length ANY), (2, iv p4), (3, pt 2 0), (7, iv (p3.length : Int)), (8, iv v81), (9, pt 3 0), (10, .bool v153), (56, sv 0 p2.length ANY), (57, iv (p2.length : Int)), (58, iv v81), (63, sv 1 p3.length ANY), (64, iv (p3.length : Int)), (65, iv v154), (66, .bool (decide (v154 < (p3.length : Int))))]) (TI.dn (NX.sq (TS.sq ?_))))))
 refine TS.cd (.tmp 66) (decide (v154 < (p3.length : Int))) (fun hc162 => ?_) (fun hc162 => ?_)
 · replace hF := of_pos hF hc162
   refine TS.sk (NX.sq (TS.sq (TS.bk 3 (TS.sq ?_))))
   obtain ⟨hg163, hF⟩ := of_guard hF
   obtain ⟨o164, h165, hF⟩ := of_do hF
   replace h165 := sj h165
   refine TS.rg (TI.o { val := .pointer (some ⟨1, 0 + (Int.toNat v154) * 1, none⟩) } (q_ixS 1 0 ((Int.toNat v154) * 1) (by kernel_rfl) hg163) [1, 2, 3, 7, 8, 9, 10, 56, 57, 58, 63, 64, 65, 67] [0, 1, 2, 3] (st 142 [(1, sv 1 p3.length ANY), (2, iv p4), (3, pt 2 0), (7, iv (p3.length : Int)), (8, iv v81), (9, pt 3 0), (10, .bool v153), (56, sv 0 p2.length ANY), (57, iv (p2.length : Int)), (58, iv v81), (63, sv 1 p3.length ANY), (64, iv (p3.length : Int)), (65, iv v154), (67, .pointer (some ⟨1, 0 + (Int.toNat v154) * 1, none⟩))]) (H33_44 p2 p3 p0 p1 o147) (TI.o { val := iv o164 } (q_n1a Try.prog (H33_44 p2 p3 p0 p1 o147) 3 1 (0 + (Int.toNat v154) * 1) p3 e3 1 3 (Int.toNat v154) 0 0 h165) [1, 2, 3, 7, 8, 9, 10, 56, 57, 58, 63, 64, 65, 68] [0, 1, 2, 3] (st 142 [(1, sv 1 p3.length ANY), (2, iv p4), (3, pt 2 0), (7, iv (p3.length : Int)), (8, iv v81), (9, pt 3 0), (10, .bool v153), (56, sv 0 p2.length ANY), (57, iv (p2.length : Int)), (58, iv v81), (63, sv 1 p3.length ANY), (64, iv (p3.length : Int)), (65, iv v154), (68, iv o164)]) (H33_44 p2 p3 p0 p1 o147) (TI.ra 1 [1, 2, 3, 7, 8, 9, 10, 12, 56, 57, 58, 63, 64, 65] (st 142 [(1, sv 1 p3.length ANY), (2, iv p4), (3, pt 2 0), (7, iv (p3.length : Int)), (8, iv v81), (9, pt 3 0), (10, .bool v153), (12, iv o164), (56, sv 0 p2.length ANY), (57, iv (p2.length : Int)), (58, iv v81), (63, sv 1 p3.length ANY), (64, iv (p3.length : Int)), (65, iv v154)]) (TI.dn (NX.sq ?_)))))
   obtain ⟨m166, hm167, hF⟩ := of_do hF
   have hK : NX Try.prog 2 2 [.bk 3, .sq c33.s2.s2.s2.s1.s2.bd.bd.s2.s2.s1.bd.s2.s2.s1.s2.bd.bd.s2.s2.s2] (Rd Try.prog 2 2 c33.s2.s2.s2.s1.s2.bd.bd.s2.s2.s1.bd.s2.s2.s1.s2.bd.bd (P33l1 p0 p1 p2 p3 p4 o147 v81 r)) .normal (st 142 [(1, sv 1 p3.length ANY), (2, iv p4), (3, pt 2 0), (7, iv (p3.length : Int)), (8, iv v81), (9, pt 3 0), (10, .bool m166), (56, sv 0 p2.length ANY), (57, iv (p2.length : Int)), (58, iv v81), (63, sv 1 p3.length ANY), (64, iv (p3.length : Int)), (65, iv v154)]) (H33_44 p2 p3 p0 p1 o147) := by
    refine NX.bk (NX.sq (TS.rg (TI.ra 2 [1, 2, 3, 7, 8, 9, 10, 56, 57, 58, 63, 64, 65] (S33_24 p3 p4 v81 m166 p2 v154) (TI.dn ?_))))
    exact Rd.again (a2 := (S33_24 p3 p4 v81 m166 p2 v154)) (h2 := (H33_44 p2 p3 p0 p1 o147)) (Wk.an [2, 3] (.ac (.ac (.lt (.fl (.fl (.sl .nil))) (.lt (.fl (.fl .nil)) (.nil _))))) [sv 1 p3.length ANY, iv p4, pt 2 0, iv (p3.length : Int), iv v81, pt 3 0, .bool m166, sv 0 p2.length ANY, iv (p2.length : Int), iv v81, sv 1 p3.length ANY, iv (p3.length : Int), iv (w64 (v154 + 1))] (.sl (.fl (.pp (.fl (.fl (.pp (.fl (.sl (.fl (.fl (.sl (.fl (.fl .nil)))))))))))))) (ih m166 (w64 (v154 + 1)) _ hF)
   cases v153 with
   | true =>
    replace hm167 := of_pos hm167 rfl
    have hm167 := sj hm167
    subst hm167
    exact TS.rg (TI.ra 7 [1, 2, 3, 7, 8, 9, 10, 56, 57, 58, 63, 64, 65] (st 142 [(1, sv 1 p3.length ANY), (2, iv p4), (3, pt 2 0), (7, iv (p3.length : Int)), (8, iv v81), (9, pt 3 0), (10, .bool true), (56, sv 0 p2.length ANY), (57, iv (p2.length : Int)), (58, iv v81), (63, sv 1 p3.length ANY), (64, iv (p3.length : Int)), (65, iv v154)]) (TI.dn hK))
   | false =>
    replace hm167 := of_neg hm167 rfl
    have hm167 := sj hm167
    subst hm167
    exact TS.rg (TI.ra 7 [1, 2, 3, 7, 8, 9, 10, 56, 57, 58, 63, 64, 65] (st 142 [(1, sv 1 p3.length ANY), (2, iv p4), (3, pt 2 0), (7, iv (p3.length : Int)), (8, iv v81), (9, pt 3 0), (10, .bool (o164 == v81)), (56, sv 0 p2.length ANY), (57, iv (p2.length : Int)), (58, iv v81), (63, sv 1 p3.length ANY), (64, iv (p3.length : Int)), (65, iv v154)]) (TI.dn hK))
 replace hF := of_neg hF hc162
 refine TS.ex 2 (NX.sqX ?_)
 have hF := sj hF
 subst hF
 exact Rd.out (e := .exit 2) (by intro h; cases h) (And.intro rfl (Wk.an [2, 3] (.ac (.ac (.lt (.fl (.fl (.sl .nil))) (.lt (.fl (.fl .nil)) (.nil _))))) [sv 1 p3.length ANY, iv p4, pt 2 0, iv (p3.length : Int), iv v81, pt 3 0, .bool v153, sv 0 p2.length ANY, iv (p2.length : Int), iv v81] (.sl (.fl (.pp (.fl (.fl (.pp (.fl (.sl (.fl (.fl .nil))))))))))))
def P33l0 (rec33 : Int → Int → (List I2) → (List Int) → Int → Option Bool) (p0 p1 : Int) (p2 : List I2) (p3 : List Int) (p4 : Int) (r : Unit ⊕ Unit) : Post := fun e a h => (match r with | .inl q0 => e = .ret ∧ Wk Try.prog 2 2 a h (st 142 [(6, .bool false)]) (H33_53 p2 p3) | .inr q0 => e = .exit 0 ∧ Wk Try.prog 2 2 a h (st 142 []) (H33_53 p2 p3))
theorem L33l0 (rec33 : Int → Int → (List I2) → (List Int) → Int → Option Bool) (p0 p1 : Int) (p2 : List I2) (p3 : List Int) (p4 : Int) (hrec33 : ∀ (p0 : Int) (p1 : Int) (p2 : List I2) (p3 : List Int) (p4 : Int) (r : Bool), rec33 p0 p1 p2 p3 p4 = some r → PureSim Try.prog 33 [ag [iv p0, iv p1, sv 0 p2.length ANY], sv 1 p3.length ANY, iv p4] (H33_53 p2 p3) (V33 2 r) (N33 2 r)) (v81 : Int) (r : Unit ⊕ Unit) (hF : F33l0 rec33 p0 p1 p2 p3 p4 v81 = some r) : TL Try.prog 2 2 c33.s2.s2.s2.s1.s2.bd.bd (S33_39 p3 p4 p2 v81) (H33_49 p2 p3 p0 p1) (P33l0 rec33 p0 p1 p2 p3 p4 r) := by
 refine F33l0.partial_correctness rec33 p0 p1 p2 p3 p4 (motive := fun v81 r => TL Try.prog 2 2 c33.s2.s2.s2.s1.s2.bd.bd (S33_39 p3 p4 p2 v81) (H33_49 p2 p3 p0 p1) (P33l0 rec33 p0 p1 p2 p3 p4 r)) ?_ v81 r hF
 clear hF r v81
 intro again ih v81 r hF
 refine TL.round (TS.sq (TS.rg (TI.ra 1 [1, 2, 3, 7, 56, 57, 58, 59] (st 142 [(1, sv 1 p3.length ANY), (2, iv p4), (3, pt 2 0), (7, iv (p3.length : Int)), (56, sv 0 p2.length ANY), (57, iv (p2.length : Int)), (58, iv v81), (59, .bool (decide (v81 < (p2.length : Int))))]) (TI.dn (NX.sq (TS.sq ?_))))))
 refine TS.cd (.tmp 59) (decide (v81 < (p2.length : Int))) (fun hc145 => ?_) (fun hc145 => ?_)
 · replace hF := of_pos hF hc145
   refine TS.sk (NX.sq (TS.sq (TS.bk 1 (TS.sq ?_))))
   obtain ⟨hg146, hF⟩ := of_guard hF
   obtain ⟨o147, h148, hF⟩ := of_do hF
   replace h148 := sj h148
   refine TS.rg (TI.ra 1 [1, 2, 3, 7, 56, 57, 58, 60] (st 142 [(1, sv 1 p3.length ANY), (2, iv p4), (3, pt 2 0), (7, iv (p3.length : Int)), (56, sv 0 p2.length ANY), (57, iv (p2.length : Int)), (58, iv v81), (60, iv v81)]) (TI.o { val := .pointer (some ⟨0, 0 + (Int.toNat v81) * 2, none⟩) } (q_ixS 0 0 ((Int.toNat v81) * 2) (by kernel_rfl) hg146) [1, 2, 3, 7, 56, 57, 58, 60, 61] [0, 1, 2] (st 142 [(1, sv 1 p3.length ANY), (2, iv p4), (3, pt 2 0), (7, iv (p3.length : Int)), (56, sv 0 p2.length ANY), (57, iv (p2.length : Int)), (58, iv v81), (60, iv v81), (61, .pointer (some ⟨0, 0 + (Int.toNat v81) * 2, none⟩))]) (H33_49 p2 p3 p0 p1) (TI.o { val := ag [iv o147.1, iv o147.2] } (q_nAa Try.prog (H33_49 p2 p3 p0 p1) 57 0 (0 + (Int.toNat v81) * 2) p2 e57 2 57 (Int.toNat v81) (0, 0) h148) [1, 2, 3, 7, 56, 57, 58, 60, 62] [0, 1, 2] (st 142 [(1, sv 1 p3.length ANY), (2, iv p4), (3, pt 2 0), (7, iv (p3.length : Int)), (56, sv 0 p2.length ANY), (57, iv (p2.length : Int)), (58, iv v81), (60, iv v81), (62, ag [iv o147.1, iv o147.2])]) (H33_49 p2 p3 p0 p1) (TI.rn 3 [1, 2, 3, 7, 8, 9, 56, 57, 58] [0, 1, 2, 3] (st 142 [(1, sv 1 p3.length ANY), (2, iv p4), (3, pt 2 0), (7, iv (p3.length : Int)), (8, iv v81), (9, pt 3 0), (56, sv 0 p2.length ANY), (57, iv (p2.length : Int)), (58, iv v81)]) (H33_44 p2 p3 p0 p1 o147) (TI.dn (NX.sq (TS.sq (TS.rg ?_))))))))
   refine TI.ra 1 [1, 2, 3, 7, 8, 9, 10, 56, 57, 58] (st 142 [(1, sv 1 p3.length ANY), (2, iv p4), (3, pt 2 0), (7, iv (p3.length : Int)), (8, iv v81), (9, pt 3 0), (10, .bool false), (56, sv 0 p2.length ANY), (57, iv (p2.length : Int)), (58, iv v81)]) (TI.dn (NX.sq (TS.sq (TS.sq (TS.rg (TI.ra 3 [1, 2, 3, 7, 8, 9, 10, 56, 57, 58, 63, 64, 65] (S33_26 p3 p4 v81 p2) (TI.dn (NX.sq ?_))))))))
   refine TS.bk 2 ?_
   obtain ⟨r168, h169, hF⟩ := of_do hF
   refine TS.lp (TL.weak (a2 := (S33_26 p3 p4 v81 p2)) (h2 := (H33_44 p2 p3 p0 p1 o147)) (Wk.an [2, 3] (.ac (.ac (.lt (.fl (.fl (.sl .nil))) (.lt (.fl (.fl .nil)) (.nil _))))) [sv 1 p3.length ANY, iv p4, pt 2 0, iv (p3.length : Int), iv v81, pt 3 0, .bool false, sv 0 p2.length ANY, iv (p2.length : Int), iv v81, sv 1 p3.length ANY, iv (p3.length : Int), iv 0] (.sl (.fl (.pp (.fl (.fl (.pp (.fl (.sl (.fl (.fl (.sl (.fl (.fl .nil)))))))))))))) (TL.post (L33l1 p0 p1 p2 p3 p4 o147 v81 false 0 r168 h169) ?_))
   rintro e a1 h1 hp
   obtain ⟨rfl, hw⟩ := hp
   refine ⟨(st 142 [(1, sv 1 p3.length ANY), (2, iv p4), (3, pt 2 0), (7, iv (p3.length : Int)), (8, iv v81), (9, pt 3 0), (10, .bool r168), (56, sv 0 p2.length ANY), (57, iv (p2.length : Int)), (58, iv v81)]), (H33_44 p2 p3 p0 p1 o147), (NX.bkX (NX.sq (TS.sq (TS.sq (TS.rg (TI.ra 1 [1, 2, 3, 7, 8, 9, 56, 57, 58, 76] (st 142 [(1, sv 1 p3.length ANY), (2, iv p4), (3, pt 2 0), (7, iv (p3.length : Int)), (8, iv v81), (9, pt 3 0), (56, sv 0 p2.length ANY), (57, iv (p2.length : Int)), (58, iv v81), (76, .bool r168)]) (TI.dn (NX.sq ?_)))))))), hw⟩
   cases r168 with
   | true =>
    replace hF := of_pos hF rfl
    refine TS.cdT (.tmp 76) (TS.ex 1 (NX.sqX (NX.bkX (NX.sq (TS.rg (TI.rn 2 [1, 2, 3, 7, 56, 57, 58] [0, 1, 2] (S33_37 p3 p4 p2 v81) (H33_48 p2 p3 p0 p1) (TI.dn ?_)))))))
    exact Rd.again (a2 := (S33_37 p3 p4 p2 v81)) (h2 := (H33_49 p2 p3 p0 p1)) (Wk.an [2] (.ac (.ac (.lt (.fl (.fl (.sl .nil))) (.nil _)))) [sv 1 p3.length ANY, iv p4, pt 2 0, iv (p3.length : Int), sv 0 p2.length ANY, iv (p2.length : Int), iv (w64 (v81 + 1))] (.sl (.fl (.pp (.fl (.sl (.fl (.fl .nil)))))))) (ih (w64 (v81 + 1)) _ hF)
   | false =>
    replace hF := of_neg hF rfl
    refine TS.cdF (.tmp 76) (TS.sk (NX.sq (TS.sq (TS.sq (TS.rg (TI.ra 2 [1, 2, 3, 7, 8, 9, 56, 57, 58, 78] (st 142 [(1, sv 1 p3.length ANY), (2, iv p4), (3, pt 2 0), (7, iv (p3.length : Int)), (8, iv v81), (9, pt 3 0), (56, sv 0 p2.length ANY), (57, iv (p2.length : Int)), (58, iv v81), (78, .bool (decide ((p3.length : Int) > 0)))]) (TI.dn (NX.sq ?_))))))))
    refine TS.cd (.tmp 78) (decide ((p3.length : Int) > 0)) (fun hc170 => ?_) (fun hc170 => ?_)
    · replace hF := of_pos hF hc170
      refine TS.sq ?_
      obtain ⟨hg171, hF⟩ := of_guard hF
      obtain ⟨o172, h173, hF⟩ := of_do hF
      replace h173 := sj h173
      obtain ⟨hg174, hF⟩ := of_guard hF
      obtain ⟨o175, h176, hF⟩ := of_do hF
      replace h176 := sj h176
      refine TS.dp [] (fun e he => by cases he) mixed 10 [1, 2, 3, 7, 8, 9, 13, 56, 57, 58] [0, 1, 2, 3, 4] (st 142 [(1, sv 1 p3.length ANY), (2, iv p4), (3, pt 2 0), (7, iv (p3.length : Int)), (8, iv v81), (9, pt 3 0), (13, pt 4 0), (56, sv 0 p2.length ANY), (57, iv (p2.length : Int)), (58, iv v81)]) (H33_38 p2 p3 p0 p1 o147 o175) ?_ ?_
      · exact QJ.rn (qs (st 142 [(1, sv 1 p3.length ANY), (2, iv p4), (3, pt 2 0), (7, iv (p3.length : Int)), (8, iv v81), (9, pt 3 0), (56, sv 0 p2.length ANY), (57, iv (p2.length : Int)), (58, iv v81), (78, .bool (decide ((p3.length : Int) > 0))), (79, pt 2 2), (80, sv 0 p2.length ANY), (81, sv 1 p3.length ANY), (82, iv (p3.length : Int)), (83, iv (w64 ((p3.length : Int) - 1)))]) (H33_44 p2 p3 p0 p1 o147) [] []) 5 (QJ.o { val := .pointer (some ⟨1, 0 + (Int.toNat (w64 ((p3.length : Int) - 1))) * 1, none⟩) } (q_ixS 1 0 ((Int.toNat (w64 ((p3.length : Int) - 1))) * 1) (by kernel_rfl) hg171) (QJ.o { val := iv o172 } (q_n1a Try.prog (H33_44 p2 p3 p0 p1 o147) 3 1 (0 + (Int.toNat (w64 ((p3.length : Int) - 1))) * 1) p3 e3 1 3 (Int.toNat (w64 ((p3.length : Int) - 1))) 0 0 h173) (QJ.o { val := .pointer (some ⟨0, 0 + (Int.toNat o172) * 2, none⟩) } (q_ixS 0 0 ((Int.toNat o172) * 2) (by kernel_rfl) hg174) (QJ.o { val := ag [iv o175.1, iv o175.2] } (q_nAa Try.prog (H33_44 p2 p3 p0 p1 o147) 57 0 (0 + (Int.toNat o172) * 2) p2 e57 2 57 (Int.toNat o172) (0, 0) h176) (QJ.rn (qs (st 142 [(1, sv 1 p3.length ANY), (2, iv p4), (3, pt 2 0), (7, iv (p3.length : Int)), (8, iv v81), (9, pt 3 0), (13, pt 4 0), (56, sv 0 p2.length ANY), (57, iv (p2.length : Int)), (58, iv v81), (78, .bool (decide ((p3.length : Int) > 0))), (79, pt 2 2), (80, sv 0 p2.length ANY), (81, sv 1 p3.length ANY), (82, iv (p3.length : Int)), (83, iv (w64 ((p3.length : Int) - 1))), (84, .pointer (some ⟨1, 0 + (Int.toNat (w64 ((p3.length : Int) - 1))) * 1, none⟩)), (85, iv o172), (86, .pointer (some ⟨0, 0 + (Int.toNat o172) * 2, none⟩)), (87, ag [iv o175.1, iv o175.2])]) [ab 57 e57 p2, ab 3 e3 p3, cl 24 [iv p0, iv p1, sv 0 p2.length ANY], cl 57 [iv o147.1, iv o147.2], cl 57 [iv 0, iv 0]] [(9, 4, 5)] []) 1 (QJ.dn ⟨rfl, SJ.la⟩))))))
      refine TS.sq ?_
      obtain ⟨m184, hm196, hF⟩ := of_do hF
      have hK : NX Try.prog 2 2 [.sq c33.s2.s2.s2.s1.s2.bd.bd.s2.s2.s1.bd.s2.s2.s2.s2.s1.s2.th.s2.s2, .sq c33.s2.s2.s2.s1.s2.bd.bd.s2.s2.s1.bd.s2.s2.s2.s2.s2, .bk 1, .sq c33.s2.s2.s2.s1.s2.bd.bd.s2.s2.s2] (Rd Try.prog 2 2 c33.s2.s2.s2.s1.s2.bd.bd (P33l0 rec33 p0 p1 p2 p3 p4 r)) .normal (st 142 [(1, sv 1 p3.length ANY), (2, iv p4), (3, pt 2 0), (7, iv (p3.length : Int)), (8, iv v81), (9, pt 3 0), (56, sv 0 p2.length ANY), (57, iv (p2.length : Int)), (58, iv v81), (121, .bool m184)]) (H33_43 p2 p3 p0 p1 o147) := by
       refine NX.sq ?_
       cases m184 with
       | true =>
        replace hF := of_pos hF rfl
        refine TS.cdT (.tmp 121) (TS.ex 1 (NX.sqX (NX.bkX (NX.sq (TS.rg (TI.rn 2 [1, 2, 3, 7, 56, 57, 58] [0, 1, 2] (S33_37 p3 p4 p2 v81) (H33_46 p2 p3 p0 p1) (TI.dn ?_)))))))
        exact Rd.again (a2 := (S33_37 p3 p4 p2 v81)) (h2 := (H33_49 p2 p3 p0 p1)) (Wk.an [2] (.ac (.ac (.lt (.fl (.fl (.sl .nil))) (.nil _)))) [sv 1 p3.length ANY, iv p4, pt 2 0, iv (p3.length : Int), sv 0 p2.length ANY, iv (p2.length : Int), iv (w64 (v81 + 1))] (.sl (.fl (.pp (.fl (.sl (.fl (.fl .nil)))))))) (ih (w64 (v81 + 1)) _ hF)
       | false =>
        replace hF := of_neg hF rfl
        refine TS.cdF (.tmp 121) (TS.sk (NX.sq (TS.sq (TS.rg (TI.rn 3 [1, 2, 3, 7, 8, 14, 56, 57, 58] [0, 1, 2] (S33_33 p3 p4 v81 o147 p2) (H33_46 p2 p3 p0 p1) (TI.dn (NX.sq (TS.sq ?_))))))))
        refine TS.sq (TS.rg (TI.ra 3 [1, 2, 3, 7, 8, 14, 56, 57, 58, 126] (S33_28 p3 p4 v81 o147 p2) (TI.dn (NX.sq ?_))))
        obtain ⟨m188, hm189, hF⟩ := of_do hF
        have hK : NX Try.prog 2 2 [.sq c33.s2.s2.s2.s1.s2.bd.bd.s2.s2.s1.bd.s2.s2.s2.s2.s2.s2.s2, .bk 1, .sq c33.s2.s2.s2.s1.s2.bd.bd.s2.s2.s2] (Rd Try.prog 2 2 c33.s2.s2.s2.s1.s2.bd.bd (P33l0 rec33 p0 p1 p2 p3 p4 r)) .normal (st 142 [(1, sv 1 p3.length ANY), (2, iv p4), (3, pt 2 0), (7, iv (p3.length : Int)), (8, iv v81), (14, iv m188), (56, sv 0 p2.length ANY), (57, iv (p2.length : Int)), (58, iv v81)]) (H33_49 p2 p3 p0 p1) := by
         refine NX.sq (TS.sq ?_)
         obtain ⟨hg190, hF⟩ := of_guard hF
         obtain ⟨r191, h192, hF⟩ := of_do hF
         obtain ⟨m193, hm194, hF⟩ := of_do hF
         have hK : NX Try.prog 2 2 [.sq c33.s2.s2.s2.s1.s2.bd.bd.s2.s2.s1.bd.s2.s2.s2.s2.s2.s2.s2.s2, .bk 1, .sq c33.s2.s2.s2.s1.s2.bd.bd.s2.s2.s2] (Rd Try.prog 2 2 c33.s2.s2.s2.s1.s2.bd.bd (P33l0 rec33 p0 p1 p2 p3 p4 r)) .normal (st 142 [(1, sv 1 p3.length ANY), (2, iv p4), (3, pt 2 0), (7, iv (p3.length : Int)), (56, sv 0 p2.length ANY), (57, iv (p2.length : Int)), (58, iv v81), (140, .bool m193)]) (H33_45 p2 p3 p0 p1) := by
          refine NX.sq ?_
          cases m193 with
          | true =>
           replace hF := of_pos hF rfl
           refine TS.cdT (.tmp 140) (TS.sq (TS.rg (TI.rn 1 [6] [0, 1] (st 142 [(6, .bool false)]) [ab 57 e57 p2, ab 3 e3 p3, .dead, .dead, .dead, .dead, .dead] (TI.dn (NX.sq (TS.rt (NX.bkR (NX.sqR ?_))))))))
           have hF := sj hF
           subst hF
           exact Rd.out (e := .ret) (by intro h; cases h) (And.intro rfl (Wk.an [] (.ac (.ac (.nil _))) [.bool false] (.fl .nil)))
          | false =>
           replace hF := of_neg hF rfl
           refine TS.cdF (.tmp 140) (TS.sk (NX.bk (NX.sq (TS.rg (TI.ra 2 [1, 2, 3, 7, 56, 57, 58] (S33_37 p3 p4 p2 v81) (TI.dn ?_))))))
           exact Rd.again (a2 := (S33_37 p3 p4 p2 v81)) (h2 := (H33_49 p2 p3 p0 p1)) (Wk.an [2] (.ac (.ac (.lt (.fl (.fl (.sl .nil))) (.nil _)))) [sv 1 p3.length ANY, iv p4, pt 2 0, iv (p3.length : Int), sv 0 p2.length ANY, iv (p2.length : Int), iv (w64 (v81 + 1))] (.sl (.fl (.pp (.fl (.sl (.fl (.fl .nil)))))))) (ih (w64 (v81 + 1)) _ hF)
         cases r191 with
         | true =>
          replace hm194 := of_pos hm194 rfl
          have hm194 := sj hm194
          subst hm194
          have hT : ∀ e ∈ ([⟨33, [ag [iv p0, iv p1, sv 0 p2.length ANY], ownV 6 (List.length (p3 ++ ([v81]))), iv (w64 (p4 + m188))], (H33_36 p2 p3 p0 p1 v81), .bool true, []⟩] : List Entry), PureSim Try.prog e.g e.args e.h e.v e.new := by
           intro e he
           simp only [List.mem_cons, List.not_mem_nil, or_false] at he
           rcases he with rfl
           exact (PureSim.ren (hc := (H33_52 p2 p3 v81)) (fun i => List.getD [(0, 0), (6, 0)] i (0, 0)) (hrec33 _ _ _ _ _ _ h192) (.ac (.cons (At.accU (by kernel_rfl) rfl (fun _ => rfl)) (.nil _))) (.cons (Rn.agg' (.fl (.fl (.cons (Rn.any _ _ _ _ _ _ (nl rfl) rfl rfl (by decide)) .nil)))) (.cons (Rn.ownA (i' := 6) (nl rfl) rfl (by simp only [List.length_set])) (.fl .nil))) (.flat (by kernel_rfl)) newflat_nil)
          refine TS.draw' (id := 20) (b := true) (ops := c33.s2.s2.s2.s1.s2.bd.bd.s2.s2.s1.bd.s2.s2.s2.s2.s2.s2.s2.s1.rops) (fin := (qs (S33_11 p3 p4 v81 m188 p2 p0 p1) (H33_36 p2 p3 p0 p1 v81) [(6, 6, 7), (5, 5, 6), (3, 4, 5), (1, 3, 4)] [(6, 4), (3, 3)])) (fin2 := (qs (S33_11 p3 p4 v81 m188 p2 p0 p1) (H33_36 p2 p3 p0 p1 v81) [(6, 6, 7), (5, 5, 6), (3, 4, 5), (1, 3, 4)] [(6, 4), (3, 3)])) (a1 := (S33_5 p3 p4 v81 m188 p2 p0 p1)) (h1 := (H33_36 p2 p3 p0 p1 v81)) (a2 := (S33_34 p3 p4 p2 v81)) (h2 := (H33_45 p2 p3 p0 p1)) [⟨33, [ag [iv p0, iv p1, sv 0 p2.length ANY], ownV 6 (List.length (p3 ++ ([v81]))), iv (w64 (p4 + m188))], (H33_36 p2 p3 p0 p1 v81), .bool true, []⟩] hT mixed (by kernel_rfl) rfl 10 (by kernel_rfl) [(6, 4), (3, 3)] ?_ rfl (.inr ⟨?_, (by kernel_rfl)⟩) ?_ [1, 2, 3, 7, 56, 57, 58, 140] [0, 1, 2] (by kernel_rfl) ?_
          · refine QI.run (s1 := (qs (S33_22 p3 p4 v81 m188 p2 p0 p1) (H33_47 p2 p3 p0 p1) [(1, 3, 4)] [])) 3 (by kernel_rfl) (by kernel_rfl) ?_
            refine QI.op (q := { val := ownV 4 p3.length, new := [.cells 3 (List.flatMap e3 p3)], upd := some (3, .dead) }) (s1 := (qs (S33_18 p3 p4 v81 m188 p2 p0 p1) (H33_42 p2 p3 p0 p1) [(3, 4, 5), (1, 3, 4)] [(3, 3)])) (by decide) (q_appL (P := Try.prog) (base := 2) (hp := (H33_47 p2 p3 p0 p1)) (n := 4) (s := 1) (enc := e3) (ts := #[30, 30]) (e := 3) (bytes := 8) (z := iv 0) (y := sv 1 p3.length ANY) (ys := p3) (b := 3) (t := 3) (by kernel_rfl) (by kernel_rfl) (by decide) (by kernel_rfl) (by kernel_rfl) (by kernel_rfl) (by kernel_rfl) (by kernel_rfl) (by kernel_rfl) (arg_win (e := 3) (off := 0) (L := p3) (ys := p3) win_all (holds_acc (hp := (H33_47 p2 p3 p0 p1)) (b := 1) (T := 3) (enc := e3) (L := p3) (by kernel_rfl)) (fun _ => rfl) (by kernel_rfl)) (by first | omega | (simp only [List.length_append, List.length_cons, List.length_nil]; omega))) (by kernel_rfl) (QI.run (s1 := (qs (S33_16 p3 p4 v81 m188 p2 p0 p1) (H33_41 p2 p3 p0 p1 v81) [(5, 5, 6), (3, 4, 5), (1, 3, 4)] [(3, 3)])) 2 (by kernel_rfl) (by kernel_rfl) ?_)
            exact QI.op (q := { val := ownV 6 (List.length (p3 ++ ([v81]))), new := [.cells 3 (List.flatMap e3 (p3 ++ ([v81])))], upd := some (4, .dead) }) (s1 := (qs (S33_13 p3 p4 v81 m188 p2 p0 p1) (H33_36 p2 p3 p0 p1 v81) [(6, 6, 7), (5, 5, 6), (3, 4, 5), (1, 3, 4)] [(6, 4), (3, 3)])) (by decide) (q_appO (P := Try.prog) (base := 2) (hp := (H33_41 p2 p3 p0 p1 v81)) (n := 6) (s := 1) (enc := e3) (ts := #[30, 30]) (e := 3) (bytes := 8) (z := iv 0) (y := sv 5 1 1) (ys := [v81]) (b := 4) (l := p3) (by kernel_rfl) (by kernel_rfl) (by decide) (by kernel_rfl) (by kernel_rfl) (by kernel_rfl) (by kernel_rfl) (by kernel_rfl) (by kernel_rfl) (cells_ok (fun _ => rfl)) (fun _ => rfl) (by first | omega | (simp only [List.length_append, List.length_cons, List.length_nil]; omega))) (by kernel_rfl) (QI.run (s1 := (qs (S33_11 p3 p4 v81 m188 p2 p0 p1) (H33_36 p2 p3 p0 p1 v81) [(6, 6, 7), (5, 5, 6), (3, 4, 5), (1, 3, 4)] [(6, 4), (3, 3)])) 3 (by kernel_rfl) (by kernel_rfl) (QI.done (by kernel_rfl)))
          · refine QI.run (s1 := (qs (S33_22 p3 p4 v81 m188 p2 p0 p1) (H33_47 p2 p3 p0 p1) [(1, 3, 4)] [])) 3 (by kernel_rfl) (by kernel_rfl) ?_
            refine QI.op (q := { val := ownV 4 p3.length, new := [.cells 3 (List.flatMap e3 p3)], upd := some (3, .dead) }) (s1 := (qs (S33_18 p3 p4 v81 m188 p2 p0 p1) (H33_42 p2 p3 p0 p1) [(3, 4, 5), (1, 3, 4)] [(3, 3)])) (by decide) (q_appL (P := Try.prog) (base := 2) (hp := (H33_47 p2 p3 p0 p1)) (n := 4) (s := 1) (enc := e3) (ts := #[30, 30]) (e := 3) (bytes := 8) (z := iv 0) (y := sv 1 p3.length ANY) (ys := p3) (b := 3) (t := 3) (by kernel_rfl) (by kernel_rfl) (by decide) (by kernel_rfl) (by kernel_rfl) (by kernel_rfl) (by kernel_rfl) (by kernel_rfl) (by kernel_rfl) (arg_win (e := 3) (off := 0) (L := p3) (ys := p3) win_all (holds_acc (hp := (H33_47 p2 p3 p0 p1)) (b := 1) (T := 3) (enc := e3) (L := p3) (by kernel_rfl)) (fun _ => rfl) (by kernel_rfl)) (by first | omega | (simp only [List.length_append, List.length_cons, List.length_nil]; omega))) (by kernel_rfl) (QI.run (s1 := (qs (S33_16 p3 p4 v81 m188 p2 p0 p1) (H33_41 p2 p3 p0 p1 v81) [(5, 5, 6), (3, 4, 5), (1, 3, 4)] [(3, 3)])) 2 (by kernel_rfl) (by kernel_rfl) ?_)
            exact QI.op (q := { val := ownV 6 (List.length (p3 ++ ([v81]))), new := [.cells 3 (List.flatMap e3 (p3 ++ ([v81])))], upd := some (4, .dead) }) (s1 := (qs (S33_13 p3 p4 v81 m188 p2 p0 p1) (H33_36 p2 p3 p0 p1 v81) [(6, 6, 7), (5, 5, 6), (3, 4, 5), (1, 3, 4)] [(6, 4), (3, 3)])) (by decide) (q_appO (P := Try.prog) (base := 2) (hp := (H33_41 p2 p3 p0 p1 v81)) (n := 6) (s := 1) (enc := e3) (ts := #[30, 30]) (e := 3) (bytes := 8) (z := iv 0) (y := sv 5 1 1) (ys := [v81]) (b := 4) (l := p3) (by kernel_rfl) (by kernel_rfl) (by decide) (by kernel_rfl) (by kernel_rfl) (by kernel_rfl) (by kernel_rfl) (by kernel_rfl) (by kernel_rfl) (cells_ok (fun _ => rfl)) (fun _ => rfl) (by first | omega | (simp only [List.length_append, List.length_cons, List.length_nil]; omega))) (by kernel_rfl) (QI.run (s1 := (qs (S33_11 p3 p4 v81 m188 p2 p0 p1) (H33_36 p2 p3 p0 p1 v81) [(6, 6, 7), (5, 5, 6), (3, 4, 5), (1, 3, 4)] [(6, 4), (3, 3)])) 3 (by kernel_rfl) (by kernel_rfl) (QI.done (by kernel_rfl)))
          · exact SI.op (q := { val := .bool true, new := [] }) (a2 := (st 142 [(1, sv 1 p3.length ANY), (2, iv p4), (3, pt 2 0), (7, iv (p3.length : Int)), (8, iv v81), (14, iv m188), (56, sv 0 p2.length ANY), (57, iv (p2.length : Int)), (58, iv v81), (129, ag [iv p0, iv p1, sv 0 p2.length ANY]), (130, sv 3 0 0), (131, sv 1 p3.length ANY), (132, ownV 4 p3.length), (133, iv v81), (134, sv 5 1 1), (135, ownV 6 (List.length (p3 ++ ([v81])))), (136, iv p4), (137, iv m188), (138, iv (w64 (p4 + m188))), (139, .bool true)])) (h2 := (H33_36 p2 p3 p0 p1 v81)) (by kernel_rfl) (qOf_call (g := 33) (args := [ag [iv p0, iv p1, sv 0 p2.length ANY], ownV 6 (List.length (p3 ++ ([v81]))), iv (w64 (p4 + m188))]) (by kernel_rfl) lookC_hit) (by kernel_rfl) (by kernel_rfl) (SI.run (a2 := (S33_5 p3 p4 v81 m188 p2 p0 p1)) (h2 := (H33_36 p2 p3 p0 p1 v81)) 1 (by kernel_rfl) (SI.done (by kernel_rfl)))
          exact hK
         | false =>
          replace hm194 := of_neg hm194 rfl
          have hm194 := sj hm194
          subst hm194
          have hT : ∀ e ∈ ([⟨33, [ag [iv p0, iv p1, sv 0 p2.length ANY], ownV 6 (List.length (p3 ++ ([v81]))), iv (w64 (p4 + m188))], (H33_36 p2 p3 p0 p1 v81), .bool false, []⟩] : List Entry), PureSim Try.prog e.g e.args e.h e.v e.new := by
           intro e he
           simp only [List.mem_cons, List.not_mem_nil, or_false] at he
           rcases he with rfl
           exact (PureSim.ren (hc := (H33_52 p2 p3 v81)) (fun i => List.getD [(0, 0), (6, 0)] i (0, 0)) (hrec33 _ _ _ _ _ _ h192) (.ac (.cons (At.accU (by kernel_rfl) rfl (fun _ => rfl)) (.nil _))) (.cons (Rn.agg' (.fl (.fl (.cons (Rn.any _ _ _ _ _ _ (nl rfl) rfl rfl (by decide)) .nil)))) (.cons (Rn.ownA (i' := 6) (nl rfl) rfl (by simp only [List.length_set])) (.fl .nil))) (.flat (by kernel_rfl)) newflat_nil)
          refine TS.draw' (id := 20) (b := true) (ops := c33.s2.s2.s2.s1.s2.bd.bd.s2.s2.s1.bd.s2.s2.s2.s2.s2.s2.s2.s1.rops) (fin := (qs (S33_11 p3 p4 v81 m188 p2 p0 p1) (H33_36 p2 p3 p0 p1 v81) [(6, 6, 7), (5, 5, 6), (3, 4, 5), (1, 3, 4)] [(6, 4), (3, 3)])) (fin2 := (qs (S33_11 p3 p4 v81 m188 p2 p0 p1) (H33_36 p2 p3 p0 p1 v81) [(6, 6, 7), (5, 5, 6), (3, 4, 5), (1, 3, 4)] [(6, 4), (3, 3)])) (a1 := (S33_6 p3 p4 v81 m188 p2 p0 p1)) (h1 := (H33_36 p2 p3 p0 p1 v81)) (a2 := (S33_35 p3 p4 p2 v81)) (h2 := (H33_45 p2 p3 p0 p1)) [⟨33, [ag [iv p0, iv p1, sv 0 p2.length ANY], ownV 6 (List.length (p3 ++ ([v81]))), iv (w64 (p4 + m188))], (H33_36 p2 p3 p0 p1 v81), .bool false, []⟩] hT mixed (by kernel_rfl) rfl 10 (by kernel_rfl) [(6, 4), (3, 3)] ?_ rfl (.inr ⟨?_, (by kernel_rfl)⟩) ?_ [1, 2, 3, 7, 56, 57, 58, 140] [0, 1, 2] (by kernel_rfl) ?_
          · refine QI.run (s1 := (qs (S33_22 p3 p4 v81 m188 p2 p0 p1) (H33_47 p2 p3 p0 p1) [(1, 3, 4)] [])) 3 (by kernel_rfl) (by kernel_rfl) ?_
            refine QI.op (q := { val := ownV 4 p3.length, new := [.cells 3 (List.flatMap e3 p3)], upd := some (3, .dead) }) (s1 := (qs (S33_18 p3 p4 v81 m188 p2 p0 p1) (H33_42 p2 p3 p0 p1) [(3, 4, 5), (1, 3, 4)] [(3, 3)])) (by decide) (q_appL (P := Try.prog) (base := 2) (hp := (H33_47 p2 p3 p0 p1)) (n := 4) (s := 1) (enc := e3) (ts := #[30, 30]) (e := 3) (bytes := 8) (z := iv 0) (y := sv 1 p3.length ANY) (ys := p3) (b := 3) (t := 3) (by kernel_rfl) (by kernel_rfl) (by decide) (by kernel_rfl) (by kernel_rfl) (by kernel_rfl) (by kernel_rfl) (by kernel_rfl) (by kernel_rfl) (arg_win (e := 3) (off := 0) (L := p3) (ys := p3) win_all (holds_acc (hp := (H33_47 p2 p3 p0 p1)) (b := 1) (T := 3) (enc := e3) (L := p3) (by kernel_rfl)) (fun _ => rfl) (by kernel_rfl)) (by first | omega | (simp only [List.length_append, List.length_cons, List.length_nil]; omega))) (by kernel_rfl) (QI.run (s1 := (qs (S33_16 p3 p4 v81 m188 p2 p0 p1) (H33_41 p2 p3 p0 p1 v81) [(5, 5, 6), (3, 4, 5), (1, 3, 4)] [(3, 3)])) 2 (by kernel_rfl) (by kernel_rfl) ?_)
            exact QI.op (q := { val := ownV 6 (List.length (p3 ++ ([v81]))), new := [.cells 3 (List.flatMap e3 (p3 ++ ([v81])))], upd := some (4, .dead) }) (s1 := (qs (S33_13 p3 p4 v81 m188 p2 p0 p1) (H33_36 p2 p3 p0 p1 v81) [(6, 6, 7), (5, 5, 6), (3, 4, 5), (1, 3, 4)] [(6, 4), (3, 3)])) (by decide) (q_appO (P := Try.prog) (base := 2) (hp := (H33_41 p2 p3 p0 p1 v81)) (n := 6) (s := 1) (enc := e3) (ts := #[30, 30]) (e := 3) (bytes := 8) (z := iv 0) (y := sv 5 1 1) (ys := [v81]) (b := 4) (l := p3) (by kernel_rfl) (by kernel_rfl) (by decide) (by kernel_rfl) (by kernel_rfl) (by kernel_rfl) (by kernel_rfl) (by kernel_rfl) (by kernel_rfl) (cells_ok (fun _ => rfl)) (fun _ => rfl) (by first | omega | (simp only [List.length_append, List.length_cons, List.length_nil]; omega))) (by kernel_rfl) (QI.run (s1 := (qs (S33_11 p3 p4 v81 m188 p2 p0 p1) (H33_36 p2 p3 p0 p1 v81) [(6, 6, 7), (5, 5, 6), (3, 4, 5), (1, 3, 4)] [(6, 4), (3, 3)])) 3 (by kernel_rfl) (by kernel_rfl) (QI.done (by kernel_rfl)))
          · refine QI.run (s1 := (qs (S33_22 p3 p4 v81 m188 p2 p0 p1) (H33_47 p2 p3 p0 p1) [(1, 3, 4)] [])) 3 (by kernel_rfl) (by kernel_rfl) ?_
            refine QI.op (q := { val := ownV 4 p3.length, new := [.cells 3 (List.flatMap e3 p3)], upd := some (3, .dead) }) (s1 := (qs (S33_18 p3 p4 v81 m188 p2 p0 p1) (H33_42 p2 p3 p0 p1) [(3, 4, 5), (1, 3, 4)] [(3, 3)])) (by decide) (q_appL (P := Try.prog) (base := 2) (hp := (H33_47 p2 p3 p0 p1)) (n := 4) (s := 1) (enc := e3) (ts := #[30, 30]) (e := 3) (bytes := 8) (z := iv 0) (y := sv 1 p3.length ANY) (ys := p3) (b := 3) (t := 3) (by kernel_rfl) (by kernel_rfl) (by decide) (by kernel_rfl) (by kernel_rfl) (by kernel_rfl) (by kernel_rfl) (by kernel_rfl) (by kernel_rfl) (arg_win (e := 3) (off := 0) (L := p3) (ys := p3) win_all (holds_acc (hp := (H33_47 p2 p3 p0 p1)) (b := 1) (T := 3) (enc := e3) (L := p3) (by kernel_rfl)) (fun _ => rfl) (by kernel_rfl)) (by first | omega | (simp only [List.length_append, List.length_cons, List.length_nil]; omega))) (by kernel_rfl) (QI.run (s1 := (qs (S33_16 p3 p4 v81 m188 p2 p0 p1) (H33_41 p2 p3 p0 p1 v81) [(5, 5, 6), (3, 4, 5), (1, 3, 4)] [(3, 3)])) 2 (by kernel_rfl) (by kernel_rfl) ?_)
            exact QI.op (q := { val := ownV 6 (List.length (p3 ++ ([v81]))), new := [.cells 3 (List.flatMap e3 (p3 ++ ([v81])))], upd := some (4, .dead) }) (s1 := (qs (S33_13 p3 p4 v81 m188 p2 p0 p1) (H33_36 p2 p3 p0 p1 v81) [(6, 6, 7), (5, 5, 6), (3, 4, 5), (1, 3, 4)] [(6, 4), (3, 3)])) (by decide) (q_appO (P := Try.prog) (base := 2) (hp := (H33_41 p2 p3 p0 p1 v81)) (n := 6) (s := 1) (enc := e3) (ts := #[30, 30]) (e := 3) (bytes := 8) (z := iv 0) (y := sv 5 1 1) (ys := [v81]) (b := 4) (l := p3) (by kernel_rfl) (by kernel_rfl) (by decide) (by kernel_rfl) (by kernel_rfl) (by kernel_rfl) (by kernel_rfl) (by kernel_rfl) (by kernel_rfl) (cells_ok (fun _ => rfl)) (fun _ => rfl) (by first | omega | (simp only [List.length_append, List.length_cons, List.length_nil]; omega))) (by kernel_rfl) (QI.run (s1 := (qs (S33_11 p3 p4 v81 m188 p2 p0 p1) (H33_36 p2 p3 p0 p1 v81) [(6, 6, 7), (5, 5, 6), (3, 4, 5), (1, 3, 4)] [(6, 4), (3, 3)])) 3 (by kernel_rfl) (by kernel_rfl) (QI.done (by kernel_rfl)))
          · exact SI.op (q := { val := .bool false, new := [] }) (a2 := (st 142 [(1, sv 1 p3.length ANY), (2, iv p4), (3, pt 2 0), (7, iv (p3.length : Int)), (8, iv v81), (14, iv m188), (56, sv 0 p2.length ANY), (57, iv (p2.length : Int)), (58, iv v81), (129, ag [iv p0, iv p1, sv 0 p2.length ANY]), (130, sv 3 0 0), (131, sv 1 p3.length ANY), (132, ownV 4 p3.length), (133, iv v81), (134, sv 5 1 1), (135, ownV 6 (List.length (p3 ++ ([v81])))), (136, iv p4), (137, iv m188), (138, iv (w64 (p4 + m188))), (139, .bool false)])) (h2 := (H33_36 p2 p3 p0 p1 v81)) (by kernel_rfl) (qOf_call (g := 33) (args := [ag [iv p0, iv p1, sv 0 p2.length ANY], ownV 6 (List.length (p3 ++ ([v81]))), iv (w64 (p4 + m188))]) (by kernel_rfl) lookC_hit) (by kernel_rfl) (by kernel_rfl) (SI.run (a2 := (S33_6 p3 p4 v81 m188 p2 p0 p1)) (h2 := (H33_36 p2 p3 p0 p1 v81)) 1 (by kernel_rfl) (SI.done (by kernel_rfl)))
          exact hK
        clear hF
        have hF := hm189
        clear hm189
        refine TS.start ?_
        refine TS.cd (.tmp 126) ((Int.tmod (p3.length : Int) 2) == 1) (fun hc195 => ?_) (fun hc195 => ?_)
        · replace hF := of_pos hF hc195
          refine TS.rg (TI.ra 3 [1, 2, 3, 7, 8, 14, 56, 57, 58] (S33_32 p3 p4 v81 o147 p2) (TI.dn ?_))
          have hF := sj hF
          subst hF
          exact TS.weak (by exact (Wk.an [2] (.ac (.ac (.lt (.fl (.fl (.sl .nil))) (.nil _)))) [sv 1 p3.length ANY, iv p4, pt 2 0, iv (p3.length : Int), iv v81, iv (w64 (0 - o147.2)), sv 0 p2.length ANY, iv (p2.length : Int), iv v81] (.sl (.fl (.pp (.fl (.fl (.fl (.sl (.fl (.fl .nil))))))))))) hK
        replace hF := of_neg hF hc195
        refine TS.sk ?_
        have hF := sj hF
        subst hF
        exact TS.weak (by exact (Wk.an [2] (.ac (.ac (.lt (.fl (.fl (.sl .nil))) (.nil _)))) [sv 1 p3.length ANY, iv p4, pt 2 0, iv (p3.length : Int), iv v81, iv o147.2, sv 0 p2.length ANY, iv (p2.length : Int), iv v81] (.sl (.fl (.pp (.fl (.fl (.fl (.sl (.fl (.fl .nil))))))))))) hK
      rcases Bool.eq_false_or_eq_true ((Int.tmod (p3.length : Int) 2) == 1) with hc177 | hc177
      · replace hm196 := of_pos hm196 hc177
        have hX := of_guardn hm196
        clear hm196
        obtain ⟨hg178, hm196⟩ := hX
        rcases Bool.eq_false_or_eq_true ((Int.tmod o147.1 p0) != (Int.tmod o175.1 p0)) with hc179 | hc179
        · replace hm196 := of_pos hm196 hc179
          have hm196 := sj hm196
          subst hm196
          refine TS.dp [] (fun e he => by cases he) mixed 31 [1, 2, 3, 7, 8, 9, 56, 57, 58, 121] [0, 1, 2, 3] (st 142 [(1, sv 1 p3.length ANY), (2, iv p4), (3, pt 2 0), (7, iv (p3.length : Int)), (8, iv v81), (9, pt 3 0), (56, sv 0 p2.length ANY), (57, iv (p2.length : Int)), (58, iv v81), (121, .bool true)]) (H33_43 p2 p3 p0 p1 o147) ?_ ?_
          · refine QJ.rn (qs (S33_27 p3 p4 v81 p2) (H33_38 p2 p3 p0 p1 o147 o175) [] []) 2 (QJ.o { val := .bool true } (q_conv (e := (Int.tmod (p3.length : Int) 2) == 1) (b := true) (by kernel_rfl) hc177) (QJ.rn (qs (S33_21 p3 p4 v81 p2 o147 p0) (H33_38 p2 p3 p0 p1 o147 o175) [] []) 5 (QJ.o { val := iv (Int.tmod o147.1 p0) } (q_int (P := Try.prog) (op := .rem) (ty := 3) (ox := (.tmp 93)) (oy := (.tmp 95)) (k := .i64) (k' := .i64) (y := o147.1) (z := p0) (by kernel_rfl) (rem_ok hg178)) (QJ.rn (qs (S33_15 p3 p4 v81 p2 o147 p0 o175) (H33_38 p2 p3 p0 p1 o147 o175) [] []) 4 (QJ.o { val := iv (Int.tmod o175.1 p0) } (q_int (P := Try.prog) (op := .rem) (ty := 3) (ox := (.tmp 98)) (oy := (.tmp 100)) (k := .i64) (k' := .i64) (y := o175.1) (z := p0) (by kernel_rfl) (rem_ok hg178)) (QJ.o { val := .bool true } (q_conv (e := (Int.tmod o147.1 p0) != (Int.tmod o175.1 p0)) (b := true) (by kernel_rfl) hc179) (QJ.rn (qs (st 142 [(1, sv 1 p3.length ANY), (2, iv p4), (3, pt 2 0), (7, iv (p3.length : Int)), (8, iv v81), (9, pt 3 0), (13, pt 4 0), (56, sv 0 p2.length ANY), (57, iv (p2.length : Int)), (58, iv v81), (88, iv (p3.length : Int)), (89, iv (Int.tmod (p3.length : Int) 2)), (90, .bool true), (91, .bool true), (92, pt 3 0), (93, iv o147.1), (94, pt 2 0), (95, iv p0), (96, iv (Int.tmod o147.1 p0)), (97, pt 4 0), (98, iv o175.1), (99, pt 2 0), (100, iv p0), (101, iv (Int.tmod o175.1 p0)), (102, .bool true), (103, .bool true), (104, .bool true), (105, undef), (106, undef), (107, undef), (108, undef), (109, undef), (110, undef), (111, undef), (112, undef), (113, undef), (114, undef), (115, undef), (116, undef), (117, undef), (118, undef)]) (H33_38 p2 p3 p0 p1 o147 o175) [] []) 16 (QJ.dn ⟨rfl, ?_⟩))))))))
            exact SJ.la
          exact hK
        replace hm196 := of_neg hm196 hc179
        rcases Bool.eq_false_or_eq_true ((Int.tmod (p3.length : Int) 2) == 0) with hc180 | hc180
        · replace hm196 := of_pos hm196 hc180
          have hX := of_guardn hm196
          clear hm196
          obtain ⟨hg181, hm196⟩ := hX
          have hm196 := sj hm196
          subst hm196
          refine TS.dp [] (fun e he => by cases he) mixed 31 [1, 2, 3, 7, 8, 9, 56, 57, 58, 121] [0, 1, 2, 3] (S33_29 p3 p4 v81 p2 o147 p1 o175) (H33_43 p2 p3 p0 p1 o147) ?_ ?_
          · refine QJ.rn (qs (S33_27 p3 p4 v81 p2) (H33_38 p2 p3 p0 p1 o147 o175) [] []) 2 (QJ.o { val := .bool true } (q_conv (e := (Int.tmod (p3.length : Int) 2) == 1) (b := true) (by kernel_rfl) hc177) (QJ.rn (qs (S33_21 p3 p4 v81 p2 o147 p0) (H33_38 p2 p3 p0 p1 o147 o175) [] []) 5 (QJ.o { val := iv (Int.tmod o147.1 p0) } (q_int (P := Try.prog) (op := .rem) (ty := 3) (ox := (.tmp 93)) (oy := (.tmp 95)) (k := .i64) (k' := .i64) (y := o147.1) (z := p0) (by kernel_rfl) (rem_ok hg178)) (QJ.rn (qs (S33_15 p3 p4 v81 p2 o147 p0 o175) (H33_38 p2 p3 p0 p1 o147 o175) [] []) 4 (QJ.o { val := iv (Int.tmod o175.1 p0) } (q_int (P := Try.prog) (op := .rem) (ty := 3) (ox := (.tmp 98)) (oy := (.tmp 100)) (k := .i64) (k' := .i64) (y := o175.1) (z := p0) (by kernel_rfl) (rem_ok hg178)) (QJ.o { val := .bool false } (q_conv (e := (Int.tmod o147.1 p0) != (Int.tmod o175.1 p0)) (b := false) (by kernel_rfl) hc179) (QJ.rn (qs (S33_3 p3 p4 v81 p2 o147 p0 o175) (H33_38 p2 p3 p0 p1 o147 o175) [] []) 4 (QJ.o { val := .bool true } (q_conv (e := (Int.tmod (p3.length : Int) 2) == 0) (b := true) (by kernel_rfl) hc180) ?_))))))))
            exact QJ.rn (qs (st 142 [(1, sv 1 p3.length ANY), (2, iv p4), (3, pt 2 0), (7, iv (p3.length : Int)), (8, iv v81), (9, pt 3 0), (13, pt 4 0), (56, sv 0 p2.length ANY), (57, iv (p2.length : Int)), (58, iv v81), (88, iv (p3.length : Int)), (89, iv (Int.tmod (p3.length : Int) 2)), (90, .bool true), (91, .bool true), (92, pt 3 0), (93, iv o147.1), (94, pt 2 0), (95, iv p0), (96, iv (Int.tmod o147.1 p0)), (97, pt 4 0), (98, iv o175.1), (99, pt 2 0), (100, iv p0), (101, iv (Int.tmod o175.1 p0)), (102, .bool false), (103, .bool false), (104, .bool false), (105, iv (p3.length : Int)), (106, iv (Int.tmod (p3.length : Int) 2)), (107, .bool true), (108, .bool true), (109, pt 3 0), (110, iv o147.1), (111, pt 2 1), (112, iv p1)]) (H33_38 p2 p3 p0 p1 o147 o175) [] []) 5 (QJ.o { val := iv (Int.tmod o147.1 p1) } (q_int (P := Try.prog) (op := .rem) (ty := 3) (ox := (.tmp 110)) (oy := (.tmp 112)) (k := .i64) (k' := .i64) (y := o147.1) (z := p1) (by kernel_rfl) (rem_ok hg181)) (QJ.rn (qs (st 142 [(1, sv 1 p3.length ANY), (2, iv p4), (3, pt 2 0), (7, iv (p3.length : Int)), (8, iv v81), (9, pt 3 0), (13, pt 4 0), (56, sv 0 p2.length ANY), (57, iv (p2.length : Int)), (58, iv v81), (88, iv (p3.length : Int)), (89, iv (Int.tmod (p3.length : Int) 2)), (90, .bool true), (91, .bool true), (92, pt 3 0), (93, iv o147.1), (94, pt 2 0), (95, iv p0), (96, iv (Int.tmod o147.1 p0)), (97, pt 4 0), (98, iv o175.1), (99, pt 2 0), (100, iv p0), (101, iv (Int.tmod o175.1 p0)), (102, .bool false), (103, .bool false), (104, .bool false), (105, iv (p3.length : Int)), (106, iv (Int.tmod (p3.length : Int) 2)), (107, .bool true), (108, .bool true), (109, pt 3 0), (110, iv o147.1), (111, pt 2 1), (112, iv p1), (113, iv (Int.tmod o147.1 p1)), (114, pt 4 0), (115, iv o175.1), (116, pt 2 1), (117, iv p1)]) (H33_38 p2 p3 p0 p1 o147 o175) [] []) 4 (QJ.o { val := iv (Int.tmod o175.1 p1) } (q_int (P := Try.prog) (op := .rem) (ty := 3) (ox := (.tmp 115)) (oy := (.tmp 117)) (k := .i64) (k' := .i64) (y := o175.1) (z := p1) (by kernel_rfl) (rem_ok hg181)) (QJ.dn ⟨rfl, SJ.la⟩))))
          exact hK
        replace hm196 := of_neg hm196 hc180
        have hm196 := sj hm196
        subst hm196
        refine TS.dp [] (fun e he => by cases he) mixed 31 [1, 2, 3, 7, 8, 9, 56, 57, 58, 121] [0, 1, 2, 3] (S33_30 p3 p4 v81 p2) (H33_43 p2 p3 p0 p1 o147) ?_ ?_
        · refine QJ.rn (qs (S33_27 p3 p4 v81 p2) (H33_38 p2 p3 p0 p1 o147 o175) [] []) 2 (QJ.o { val := .bool true } (q_conv (e := (Int.tmod (p3.length : Int) 2) == 1) (b := true) (by kernel_rfl) hc177) (QJ.rn (qs (S33_21 p3 p4 v81 p2 o147 p0) (H33_38 p2 p3 p0 p1 o147 o175) [] []) 5 (QJ.o { val := iv (Int.tmod o147.1 p0) } (q_int (P := Try.prog) (op := .rem) (ty := 3) (ox := (.tmp 93)) (oy := (.tmp 95)) (k := .i64) (k' := .i64) (y := o147.1) (z := p0) (by kernel_rfl) (rem_ok hg178)) (QJ.rn (qs (S33_15 p3 p4 v81 p2 o147 p0 o175) (H33_38 p2 p3 p0 p1 o147 o175) [] []) 4 (QJ.o { val := iv (Int.tmod o175.1 p0) } (q_int (P := Try.prog) (op := .rem) (ty := 3) (ox := (.tmp 98)) (oy := (.tmp 100)) (k := .i64) (k' := .i64) (y := o175.1) (z := p0) (by kernel_rfl) (rem_ok hg178)) (QJ.o { val := .bool false } (q_conv (e := (Int.tmod o147.1 p0) != (Int.tmod o175.1 p0)) (b := false) (by kernel_rfl) hc179) (QJ.rn (qs (S33_3 p3 p4 v81 p2 o147 p0 o175) (H33_38 p2 p3 p0 p1 o147 o175) [] []) 4 (QJ.o { val := .bool false } (q_conv (e := (Int.tmod (p3.length : Int) 2) == 0) (b := false) (by kernel_rfl) hc180) ?_))))))))
          exact QJ.rn (qs (st 142 [(1, sv 1 p3.length ANY), (2, iv p4), (3, pt 2 0), (7, iv (p3.length : Int)), (8, iv v81), (9, pt 3 0), (13, pt 4 0), (56, sv 0 p2.length ANY), (57, iv (p2.length : Int)), (58, iv v81), (88, iv (p3.length : Int)), (89, iv (Int.tmod (p3.length : Int) 2)), (90, .bool true), (91, .bool true), (92, pt 3 0), (93, iv o147.1), (94, pt 2 0), (95, iv p0), (96, iv (Int.tmod o147.1 p0)), (97, pt 4 0), (98, iv o175.1), (99, pt 2 0), (100, iv p0), (101, iv (Int.tmod o175.1 p0)), (102, .bool false), (103, .bool false), (104, .bool false), (105, iv (p3.length : Int)), (106, iv (Int.tmod (p3.length : Int) 2)), (107, .bool false), (108, .bool false), (109, undef), (110, undef), (111, undef), (112, undef), (113, undef), (114, undef), (115, undef), (116, undef), (117, undef), (118, undef)]) (H33_38 p2 p3 p0 p1 o147 o175) [] []) 11 (QJ.dn ⟨rfl, SJ.la⟩)
        exact hK
      replace hm196 := of_neg hm196 hc177
      rcases Bool.eq_false_or_eq_true ((Int.tmod (p3.length : Int) 2) == 0) with hc182 | hc182
      · replace hm196 := of_pos hm196 hc182
        have hX := of_guardn hm196
        clear hm196
        obtain ⟨hg183, hm196⟩ := hX
        have hm196 := sj hm196
        subst hm196
        refine TS.dp [] (fun e he => by cases he) mixed 31 [1, 2, 3, 7, 8, 9, 56, 57, 58, 121] [0, 1, 2, 3] (S33_29 p3 p4 v81 p2 o147 p1 o175) (H33_43 p2 p3 p0 p1 o147) ?_ ?_
        · refine QJ.rn (qs (S33_27 p3 p4 v81 p2) (H33_38 p2 p3 p0 p1 o147 o175) [] []) 2 (QJ.o { val := .bool false } (q_conv (e := (Int.tmod (p3.length : Int) 2) == 1) (b := false) (by kernel_rfl) hc177) (QJ.rn (qs (S33_9 p3 p4 v81 p2) (H33_38 p2 p3 p0 p1 o147 o175) [] []) 16 (QJ.o { val := .bool true } (q_conv (e := (Int.tmod (p3.length : Int) 2) == 0) (b := true) (by kernel_rfl) hc182) (QJ.rn (qs (st 142 [(1, sv 1 p3.length ANY), (2, iv p4), (3, pt 2 0), (7, iv (p3.length : Int)), (8, iv v81), (9, pt 3 0), (13, pt 4 0), (56, sv 0 p2.length ANY), (57, iv (p2.length : Int)), (58, iv v81), (88, iv (p3.length : Int)), (89, iv (Int.tmod (p3.length : Int) 2)), (90, .bool false), (91, .bool false), (92, undef), (93, undef), (94, undef), (95, undef), (96, undef), (97, undef), (98, undef), (99, undef), (100, undef), (101, undef), (102, undef), (103, .bool false), (104, .bool false), (105, iv (p3.length : Int)), (106, iv (Int.tmod (p3.length : Int) 2)), (107, .bool true), (108, .bool true), (109, pt 3 0), (110, iv o147.1), (111, pt 2 1), (112, iv p1)]) (H33_38 p2 p3 p0 p1 o147 o175) [] []) 5 (QJ.o { val := iv (Int.tmod o147.1 p1) } (q_int (P := Try.prog) (op := .rem) (ty := 3) (ox := (.tmp 110)) (oy := (.tmp 112)) (k := .i64) (k' := .i64) (y := o147.1) (z := p1) (by kernel_rfl) (rem_ok hg183)) (QJ.rn (qs (st 142 [(1, sv 1 p3.length ANY), (2, iv p4), (3, pt 2 0), (7, iv (p3.length : Int)), (8, iv v81), (9, pt 3 0), (13, pt 4 0), (56, sv 0 p2.length ANY), (57, iv (p2.length : Int)), (58, iv v81), (88, iv (p3.length : Int)), (89, iv (Int.tmod (p3.length : Int) 2)), (90, .bool false), (91, .bool false), (92, undef), (93, undef), (94, undef), (95, undef), (96, undef), (97, undef), (98, undef), (99, undef), (100, undef), (101, undef), (102, undef), (103, .bool false), (104, .bool false), (105, iv (p3.length : Int)), (106, iv (Int.tmod (p3.length : Int) 2)), (107, .bool true), (108, .bool true), (109, pt 3 0), (110, iv o147.1), (111, pt 2 1), (112, iv p1), (113, iv (Int.tmod o147.1 p1)), (114, pt 4 0), (115, iv o175.1), (116, pt 2 1), (117, iv p1)]) (H33_38 p2 p3 p0 p1 o147 o175) [] []) 4 (QJ.o { val := iv (Int.tmod o175.1 p1) } (q_int (P := Try.prog) (op := .rem) (ty := 3) (ox := (.tmp 115)) (oy := (.tmp 117)) (k := .i64) (k' := .i64) (y := o175.1) (z := p1) (by kernel_rfl) (rem_ok hg183)) (QJ.dn ⟨rfl, ?_⟩))))))))
          exact SJ.la
        exact hK
      replace hm196 := of_neg hm196 hc182
      have hm196 := sj hm196
      subst hm196
      refine TS.dp [] (fun e he => by cases he) mixed 31 [1, 2, 3, 7, 8, 9, 56, 57, 58, 121] [0, 1, 2, 3] (S33_30 p3 p4 v81 p2) (H33_43 p2 p3 p0 p1 o147) ?_ ?_
      · exact QJ.rn (qs (S33_27 p3 p4 v81 p2) (H33_38 p2 p3 p0 p1 o147 o175) [] []) 2 (QJ.o { val := .bool false } (q_conv (e := (Int.tmod (p3.length : Int) 2) == 1) (b := false) (by kernel_rfl) hc177) (QJ.rn (qs (S33_9 p3 p4 v81 p2) (H33_38 p2 p3 p0 p1 o147 o175) [] []) 16 (QJ.o { val := .bool false } (q_conv (e := (Int.tmod (p3.length : Int) 2) == 0) (b := false) (by kernel_rfl) hc182) (QJ.rn (qs (st 142 [(1, sv 1 p3.length ANY), (2, iv p4), (3, pt 2 0), (7, iv (p3.length : Int)), (8, iv v81), (9, pt 3 0), (13, pt 4 0), (56, sv 0 p2.length ANY), (57, iv (p2.length : Int)), (58, iv v81), (88, iv (p3.length : Int)), (89, iv (Int.tmod (p3.length : Int) 2)), (90, .bool false), (91, .bool false), (92, undef), (93, undef), (94, undef), (95, undef), (96, undef), (97, undef), (98, undef), (99, undef), (100, undef), (101, undef), (102, undef), (103, .bool false), (104, .bool false), (105, iv (p3.length : Int)), (106, iv (Int.tmod (p3.length : Int) 2)), (107, .bool false), (108, .bool false), (109, undef), (110, undef), (111, undef), (112, undef), (113, undef), (114, undef), (115, undef), (116, undef), (117, undef), (118, undef)]) (H33_38 p2 p3 p0 p1 o147 o175) [] []) 11 (QJ.dn ⟨rfl, SJ.la⟩)))))
      exact hK
    replace hF := of_neg hF hc170
    refine TS.sk (NX.sq (TS.sq (TS.rg (TI.rn 3 [1, 2, 3, 7, 8, 14, 56, 57, 58] [0, 1, 2] (S33_33 p3 p4 v81 o147 p2) (H33_48 p2 p3 p0 p1) (TI.dn (NX.sq (TS.sq (TS.sq ?_))))))))
    refine TS.rg (TI.ra 3 [1, 2, 3, 7, 8, 14, 56, 57, 58, 126] (S33_28 p3 p4 v81 o147 p2) (TI.dn (NX.sq ?_)))
    obtain ⟨m200, hm201, hF⟩ := of_do hF
    have hK : NX Try.prog 2 2 [.sq c33.s2.s2.s2.s1.s2.bd.bd.s2.s2.s1.bd.s2.s2.s2.s2.s2.s2.s2, .bk 1, .sq c33.s2.s2.s2.s1.s2.bd.bd.s2.s2.s2] (Rd Try.prog 2 2 c33.s2.s2.s2.s1.s2.bd.bd (P33l0 rec33 p0 p1 p2 p3 p4 r)) .normal (st 142 [(1, sv 1 p3.length ANY), (2, iv p4), (3, pt 2 0), (7, iv (p3.length : Int)), (8, iv v81), (14, iv m200), (56, sv 0 p2.length ANY), (57, iv (p2.length : Int)), (58, iv v81)]) (H33_49 p2 p3 p0 p1) := by
     refine NX.sq (TS.sq ?_)
     obtain ⟨hg202, hF⟩ := of_guard hF
     obtain ⟨r203, h204, hF⟩ := of_do hF
     obtain ⟨m205, hm206, hF⟩ := of_do hF
     have hK : NX Try.prog 2 2 [.sq c33.s2.s2.s2.s1.s2.bd.bd.s2.s2.s1.bd.s2.s2.s2.s2.s2.s2.s2.s2, .bk 1, .sq c33.s2.s2.s2.s1.s2.bd.bd.s2.s2.s2] (Rd Try.prog 2 2 c33.s2.s2.s2.s1.s2.bd.bd (P33l0 rec33 p0 p1 p2 p3 p4 r)) .normal (st 142 [(1, sv 1 p3.length ANY), (2, iv p4), (3, pt 2 0), (7, iv (p3.length : Int)), (56, sv 0 p2.length ANY), (57, iv (p2.length : Int)), (58, iv v81), (140, .bool m205)]) (H33_45 p2 p3 p0 p1) := by
      refine NX.sq ?_
      cases m205 with
      | true =>
       replace hF := of_pos hF rfl
       refine TS.cdT (.tmp 140) (TS.sq (TS.rg (TI.rn 1 [6] [0, 1] (st 142 [(6, .bool false)]) [ab 57 e57 p2, ab 3 e3 p3, .dead, .dead, .dead, .dead, .dead] (TI.dn (NX.sq (TS.rt (NX.bkR (NX.sqR ?_))))))))
       have hF := sj hF
       subst hF
       exact Rd.out (e := .ret) (by intro h; cases h) (And.intro rfl (Wk.an [] (.ac (.ac (.nil _))) [.bool false] (.fl .nil)))
      | false =>
       replace hF := of_neg hF rfl
       refine TS.cdF (.tmp 140) (TS.sk (NX.bk (NX.sq (TS.rg (TI.ra 2 [1, 2, 3, 7, 56, 57, 58] (S33_37 p3 p4 p2 v81) (TI.dn ?_))))))
       exact Rd.again (a2 := (S33_37 p3 p4 p2 v81)) (h2 := (H33_49 p2 p3 p0 p1)) (Wk.an [2] (.ac (.ac (.lt (.fl (.fl (.sl .nil))) (.nil _)))) [sv 1 p3.length ANY, iv p4, pt 2 0, iv (p3.length : Int), sv 0 p2.length ANY, iv (p2.length : Int), iv (w64 (v81 + 1))] (.sl (.fl (.pp (.fl (.sl (.fl (.fl .nil)))))))) (ih (w64 (v81 + 1)) _ hF)
     cases r203 with
     | true =>
      replace hm206 := of_pos hm206 rfl
      have hm206 := sj hm206
      subst hm206
      have hT : ∀ e ∈ ([⟨33, [ag [iv p0, iv p1, sv 0 p2.length ANY], ownV 6 (List.length (p3 ++ ([v81]))), iv (w64 (p4 + m200))], (H33_36 p2 p3 p0 p1 v81), .bool true, []⟩] : List Entry), PureSim Try.prog e.g e.args e.h e.v e.new := by
       intro e he
       simp only [List.mem_cons, List.not_mem_nil, or_false] at he
       rcases he with rfl
       exact (PureSim.ren (hc := (H33_52 p2 p3 v81)) (fun i => List.getD [(0, 0), (6, 0)] i (0, 0)) (hrec33 _ _ _ _ _ _ h204) (.ac (.cons (At.accU (by kernel_rfl) rfl (fun _ => rfl)) (.nil _))) (.cons (Rn.agg' (.fl (.fl (.cons (Rn.any _ _ _ _ _ _ (nl rfl) rfl rfl (by decide)) .nil)))) (.cons (Rn.ownA (i' := 6) (nl rfl) rfl (by simp only [List.length_set])) (.fl .nil))) (.flat (by kernel_rfl)) newflat_nil)
      refine TS.draw' (id := 20) (b := true) (ops := c33.s2.s2.s2.s1.s2.bd.bd.s2.s2.s1.bd.s2.s2.s2.s2.s2.s2.s2.s1.rops) (fin := (qs (S33_12 p3 p4 v81 m200 p2 p0 p1) (H33_36 p2 p3 p0 p1 v81) [(6, 6, 7), (5, 5, 6), (3, 4, 5), (1, 3, 4)] [(6, 4), (3, 3)])) (fin2 := (qs (S33_12 p3 p4 v81 m200 p2 p0 p1) (H33_36 p2 p3 p0 p1 v81) [(6, 6, 7), (5, 5, 6), (3, 4, 5), (1, 3, 4)] [(6, 4), (3, 3)])) (a1 := (S33_7 p3 p4 v81 m200 p2 p0 p1)) (h1 := (H33_36 p2 p3 p0 p1 v81)) (a2 := (S33_34 p3 p4 p2 v81)) (h2 := (H33_45 p2 p3 p0 p1)) [⟨33, [ag [iv p0, iv p1, sv 0 p2.length ANY], ownV 6 (List.length (p3 ++ ([v81]))), iv (w64 (p4 + m200))], (H33_36 p2 p3 p0 p1 v81), .bool true, []⟩] hT mixed (by kernel_rfl) rfl 10 (by kernel_rfl) [(6, 4), (3, 3)] ?_ rfl (.inr ⟨?_, (by kernel_rfl)⟩) ?_ [1, 2, 3, 7, 56, 57, 58, 140] [0, 1, 2] (by kernel_rfl) ?_
      · refine QI.run (s1 := (qs (S33_23 p3 p4 v81 m200 p2 p0 p1) (H33_47 p2 p3 p0 p1) [(1, 3, 4)] [])) 3 (by kernel_rfl) (by kernel_rfl) ?_
        refine QI.op (q := { val := ownV 4 p3.length, new := [.cells 3 (List.flatMap e3 p3)], upd := some (3, .dead) }) (s1 := (qs (S33_19 p3 p4 v81 m200 p2 p0 p1) (H33_42 p2 p3 p0 p1) [(3, 4, 5), (1, 3, 4)] [(3, 3)])) (by decide) (q_appL (P := Try.prog) (base := 2) (hp := (H33_47 p2 p3 p0 p1)) (n := 4) (s := 1) (enc := e3) (ts := #[30, 30]) (e := 3) (bytes := 8) (z := iv 0) (y := sv 1 p3.length ANY) (ys := p3) (b := 3) (t := 3) (by kernel_rfl) (by kernel_rfl) (by decide) (by kernel_rfl) (by kernel_rfl) (by kernel_rfl) (by kernel_rfl) (by kernel_rfl) (by kernel_rfl) (arg_win (e := 3) (off := 0) (L := p3) (ys := p3) win_all (holds_acc (hp := (H33_47 p2 p3 p0 p1)) (b := 1) (T := 3) (enc := e3) (L := p3) (by kernel_rfl)) (fun _ => rfl) (by kernel_rfl)) (by first | omega | (simp only [List.length_append, List.length_cons, List.length_nil]; omega))) (by kernel_rfl) (QI.run (s1 := (qs (S33_17 p3 p4 v81 m200 p2 p0 p1) (H33_41 p2 p3 p0 p1 v81) [(5, 5, 6), (3, 4, 5), (1, 3, 4)] [(3, 3)])) 2 (by kernel_rfl) (by kernel_rfl) ?_)
        exact QI.op (q := { val := ownV 6 (List.length (p3 ++ ([v81]))), new := [.cells 3 (List.flatMap e3 (p3 ++ ([v81])))], upd := some (4, .dead) }) (s1 := (qs (S33_14 p3 p4 v81 m200 p2 p0 p1) (H33_36 p2 p3 p0 p1 v81) [(6, 6, 7), (5, 5, 6), (3, 4, 5), (1, 3, 4)] [(6, 4), (3, 3)])) (by decide) (q_appO (P := Try.prog) (base := 2) (hp := (H33_41 p2 p3 p0 p1 v81)) (n := 6) (s := 1) (enc := e3) (ts := #[30, 30]) (e := 3) (bytes := 8) (z := iv 0) (y := sv 5 1 1) (ys := [v81]) (b := 4) (l := p3) (by kernel_rfl) (by kernel_rfl) (by decide) (by kernel_rfl) (by kernel_rfl) (by kernel_rfl) (by kernel_rfl) (by kernel_rfl) (by kernel_rfl) (cells_ok (fun _ => rfl)) (fun _ => rfl) (by first | omega | (simp only [List.length_append, List.length_cons, List.length_nil]; omega))) (by kernel_rfl) (QI.run (s1 := (qs (S33_12 p3 p4 v81 m200 p2 p0 p1) (H33_36 p2 p3 p0 p1 v81) [(6, 6, 7), (5, 5, 6), (3, 4, 5), (1, 3, 4)] [(6, 4), (3, 3)])) 3 (by kernel_rfl) (by kernel_rfl) (QI.done (by kernel_rfl)))
      · refine QI.run (s1 := (qs (S33_23 p3 p4 v81 m200 p2 p0 p1) (H33_47 p2 p3 p0 p1) [(1, 3, 4)] [])) 3 (by kernel_rfl) (by kernel_rfl) ?_
        refine QI.op (q := { val := ownV 4 p3.length, new := [.cells 3 (List.flatMap e3 p3)], upd := some (3, .dead) }) (s1 := (qs (S33_19 p3 p4 v81 m200 p2 p0 p1) (H33_42 p2 p3 p0 p1) [(3, 4, 5), (1, 3, 4)] [(3, 3)])) (by decide) (q_appL (P := Try.prog) (base := 2) (hp := (H33_47 p2 p3 p0 p1)) (n := 4) (s := 1) (enc := e3) (ts := #[30, 30]) (e := 3) (bytes := 8) (z := iv 0) (y := sv 1 p3.length ANY) (ys := p3) (b := 3) (t := 3) (by kernel_rfl) (by kernel_rfl) (by decide) (by kernel_rfl) (by kernel_rfl) (by kernel_rfl) (by kernel_rfl) (by kernel_rfl) (by kernel_rfl) (arg_win (e := 3) (off := 0) (L := p3) (ys := p3) win_all (holds_acc (hp := (H33_47 p2 p3 p0 p1)) (b := 1) (T := 3) (enc := e3) (L := p3) (by kernel_rfl)) (fun _ => rfl) (by kernel_rfl)) (by first | omega | (simp only [List.length_append, List.length_cons, List.length_nil]; omega))) (by kernel_rfl) (QI.run (s1 := (qs (S33_17 p3 p4 v81 m200 p2 p0 p1) (H33_41 p2 p3 p0 p1 v81) [(5, 5, 6), (3, 4, 5), (1, 3, 4)] [(3, 3)])) 2 (by kernel_rfl) (by kernel_rfl) ?_)
        exact QI.op (q := { val := ownV 6 (List.length (p3 ++ ([v81]))), new := [.cells 3 (List.flatMap e3 (p3 ++ ([v81])))], upd := some (4, .dead) }) (s1 := (qs (S33_14 p3 p4 v81 m200 p2 p0 p1) (H33_36 p2 p3 p0 p1 v81) [(6, 6, 7), (5, 5, 6), (3, 4, 5), (1, 3, 4)] [(6, 4), (3, 3)])) (by decide) (q_appO (P := Try.prog) (base := 2) (hp := (H33_41 p2 p3 p0 p1 v81)) (n := 6) (s := 1) (enc := e3) (ts := #[30, 30]) (e := 3) (bytes := 8) (z := iv 0) (y := sv 5 1 1) (ys := [v81]) (b := 4) (l := p3) (by kernel_rfl) (by kernel_rfl) (by decide) (by kernel_rfl) (by kernel_rfl) (by kernel_rfl) (by kernel_rfl) (by kernel_rfl) (by kernel_rfl) (cells_ok (fun _ => rfl)) (fun _ => rfl) (by first | omega | (simp only [List.length_append, List.length_cons, List.length_nil]; omega))) (by kernel_rfl) (QI.run (s1 := (qs (S33_12 p3 p4 v81 m200 p2 p0 p1) (H33_36 p2 p3 p0 p1 v81) [(6, 6, 7), (5, 5, 6), (3, 4, 5), (1, 3, 4)] [(6, 4), (3, 3)])) 3 (by kernel_rfl) (by kernel_rfl) (QI.done (by kernel_rfl)))
      · exact SI.op (q := { val := .bool true, new := [] }) (a2 := (st 142 [(1, sv 1 p3.length ANY), (2, iv p4), (3, pt 2 0), (7, iv (p3.length : Int)), (8, iv v81), (14, iv m200), (56, sv 0 p2.length ANY), (57, iv (p2.length : Int)), (58, iv v81), (129, ag [iv p0, iv p1, sv 0 p2.length ANY]), (130, sv 3 0 0), (131, sv 1 p3.length ANY), (132, ownV 4 p3.length), (133, iv v81), (134, sv 5 1 1), (135, ownV 6 (List.length (p3 ++ ([v81])))), (136, iv p4), (137, iv m200), (138, iv (w64 (p4 + m200))), (139, .bool true)])) (h2 := (H33_36 p2 p3 p0 p1 v81)) (by kernel_rfl) (qOf_call (g := 33) (args := [ag [iv p0, iv p1, sv 0 p2.length ANY], ownV 6 (List.length (p3 ++ ([v81]))), iv (w64 (p4 + m200))]) (by kernel_rfl) lookC_hit) (by kernel_rfl) (by kernel_rfl) (SI.run (a2 := (S33_7 p3 p4 v81 m200 p2 p0 p1)) (h2 := (H33_36 p2 p3 p0 p1 v81)) 1 (by kernel_rfl) (SI.done (by kernel_rfl)))
      exact hK
     | false =>
      replace hm206 := of_neg hm206 rfl
      have hm206 := sj hm206
      subst hm206
      have hT : ∀ e ∈ ([⟨33, [ag [iv p0, iv p1, sv 0 p2.length ANY], ownV 6 (List.length (p3 ++ ([v81]))), iv (w64 (p4 + m200))], (H33_36 p2 p3 p0 p1 v81), .bool false, []⟩] : List Entry), PureSim Try.prog e.g e.args e.h e.v e.new := by
       intro e he
       simp only [List.mem_cons, List.not_mem_nil, or_false] at he
       rcases he with rfl
       exact (PureSim.ren (hc := (H33_52 p2 p3 v81)) (fun i => List.getD [(0, 0), (6, 0)] i (0, 0)) (hrec33 _ _ _ _ _ _ h204) (.ac (.cons (At.accU (by kernel_rfl) rfl (fun _ => rfl)) (.nil _))) (.cons (Rn.agg' (.fl (.fl (.cons (Rn.any _ _ _ _ _ _ (nl rfl) rfl rfl (by decide)) .nil)))) (.cons (Rn.ownA (i' := 6) (nl rfl) rfl (by simp only [List.length_set])) (.fl .nil))) (.flat (by kernel_rfl)) newflat_nil)
      refine TS.draw' (id := 20) (b := true) (ops := c33.s2.s2.s2.s1.s2.bd.bd.s2.s2.s1.bd.s2.s2.s2.s2.s2.s2.s2.s1.rops) (fin := (qs (S33_12 p3 p4 v81 m200 p2 p0 p1) (H33_36 p2 p3 p0 p1 v81) [(6, 6, 7), (5, 5, 6), (3, 4, 5), (1, 3, 4)] [(6, 4), (3, 3)])) (fin2 := (qs (S33_12 p3 p4 v81 m200 p2 p0 p1) (H33_36 p2 p3 p0 p1 v81) [(6, 6, 7), (5, 5, 6), (3, 4, 5), (1, 3, 4)] [(6, 4), (3, 3)])) (a1 := (S33_8 p3 p4 v81 m200 p2 p0 p1)) (h1 := (H33_36 p2 p3 p0 p1 v81)) (a2 := (S33_35 p3 p4 p2 v81)) (h2 := (H33_45 p2 p3 p0 p1)) [⟨33, [ag [iv p0, iv p1, sv 0 p2.length ANY], ownV 6 (List.length (p3 ++ ([v81]))), iv (w64 (p4 + m200))], (H33_36 p2 p3 p0 p1 v81), .bool false, []⟩] hT mixed (by kernel_rfl) rfl 10 (by kernel_rfl) [(6, 4), (3, 3)] ?_ rfl (.inr ⟨?_, (by kernel_rfl)⟩) ?_ [1, 2, 3, 7, 56, 57, 58, 140] [0, 1, 2] (by kernel_rfl) ?_
      · refine QI.run (s1 := (qs (S33_23 p3 p4 v81 m200 p2 p0 p1) (H33_47 p2 p3 p0 p1) [(1, 3, 4)] [])) 3 (by kernel_rfl) (by kernel_rfl) ?_
        refine QI.op (q := { val := ownV 4 p3.length, new := [.cells 3 (List.flatMap e3 p3)], upd := some (3, .dead) }) (s1 := (qs (S33_19 p3 p4 v81 m200 p2 p0 p1) (H33_42 p2 p3 p0 p1) [(3, 4, 5), (1, 3, 4)] [(3, 3)])) (by decide) (q_appL (P := Try.prog) (base := 2) (hp := (H33_47 p2 p3 p0 p1)) (n := 4) (s := 1) (enc := e3) (ts := #[30, 30]) (e := 3) (bytes := 8) (z := iv 0) (y := sv 1 p3.length ANY) (ys := p3) (b := 3) (t := 3) (by kernel_rfl) (by kernel_rfl) (by decide) (by kernel_rfl) (by kernel_rfl) (by kernel_rfl) (by kernel_rfl) (by kernel_rfl) (by kernel_rfl) (arg_win (e := 3) (off := 0) (L := p3) (ys := p3) win_all (holds_acc (hp := (H33_47 p2 p3 p0 p1)) (b := 1) (T := 3) (enc := e3) (L := p3) (by kernel_rfl)) (fun _ => rfl) (by kernel_rfl)) (by first | omega | (simp only [List.length_append, List.length_cons, List.length_nil]; omega))) (by kernel_rfl) (QI.run (s1 := (qs (S33_17 p3 p4 v81 m200 p2 p0 p1) (H33_41 p2 p3 p0 p1 v81) [(5, 5, 6), (3, 4, 5), (1, 3, 4)] [(3, 3)])) 2 (by kernel_rfl) (by kernel_rfl) ?_)
        exact QI.op (q := { val := ownV 6 (List.length (p3 ++ ([v81]))), new := [.cells 3 (List.flatMap e3 (p3 ++ ([v81])))], upd := some (4, .dead) }) (s1 := (qs (S33_14 p3 p4 v81 m200 p2 p0 p1) (H33_36 p2 p3 p0 p1 v81) [(6, 6, 7), (5, 5, 6), (3, 4, 5), (1, 3, 4)] [(6, 4), (3, 3)])) (by decide) (q_appO (P := Try.prog) (base := 2) (hp := (H33_41 p2 p3 p0 p1 v81)) (n := 6) (s := 1) (enc := e3) (ts := #[30, 30]) (e := 3) (bytes := 8) (z := iv 0) (y := sv 5 1 1) (ys := [v81]) (b := 4) (l := p3) (by kernel_rfl) (by kernel_rfl) (by decide) (by kernel_rfl) (by kernel_rfl) (by kernel_rfl) (by kernel_rfl) (by kernel_rfl) (by kernel_rfl) (cells_ok (fun _ => rfl)) (fun _ => rfl) (by first | omega | (simp only [List.length_append, List.length_cons, List.length_nil]; omega))) (by kernel_rfl) (QI.run (s1 := (qs (S33_12 p3 p4 v81 m200 p2 p0 p1) (H33_36 p2 p3 p0 p1 v81) [(6, 6, 7), (5, 5, 6), (3, 4, 5), (1, 3, 4)] [(6, 4), (3, 3)])) 3 (by kernel_rfl) (by kernel_rfl) (QI.done (by kernel_rfl)))
      · refine QI.run (s1 := (qs (S33_23 p3 p4 v81 m200 p2 p0 p1) (H33_47 p2 p3 p0 p1) [(1, 3, 4)] [])) 3 (by kernel_rfl) (by kernel_rfl) ?_
        refine QI.op (q := { val := ownV 4 p3.length, new := [.cells 3 (List.flatMap e3 p3)], upd := some (3, .dead) }) (s1 := (qs (S33_19 p3 p4 v81 m200 p2 p0 p1) (H33_42 p2 p3 p0 p1) [(3, 4, 5), (1, 3, 4)] [(3, 3)])) (by decide) (q_appL (P := Try.prog) (base := 2) (hp := (H33_47 p2 p3 p0 p1)) (n := 4) (s := 1) (enc := e3) (ts := #[30, 30]) (e := 3) (bytes := 8) (z := iv 0) (y := sv 1 p3.length ANY) (ys := p3) (b := 3) (t := 3) (by kernel_rfl) (by kernel_rfl) (by decide) (by kernel_rfl) (by kernel_rfl) (by kernel_rfl) (by kernel_rfl) (by kernel_rfl) (by kernel_rfl) (arg_win (e := 3) (off := 0) (L := p3) (ys := p3) win_all (holds_acc (hp := (H33_47 p2 p3 p0 p1)) (b := 1) (T := 3) (enc := e3) (L := p3) (by kernel_rfl)) (fun _ => rfl) (by kernel_rfl)) (by first | omega | (simp only [List.length_append, List.length_cons, List.length_nil]; omega))) (by kernel_rfl) (QI.run (s1 := (qs (S33_17 p3 p4 v81 m200 p2 p0 p1) (H33_41 p2 p3 p0 p1 v81) [(5, 5, 6), (3, 4, 5), (1, 3, 4)] [(3, 3)])) 2 (by kernel_rfl) (by kernel_rfl) ?_)
        exact QI.op (q := { val := ownV 6 (List.length (p3 ++ ([v81]))), new := [.cells 3 (List.flatMap e3 (p3 ++ ([v81])))], upd := some (4, .dead) }) (s1 := (qs (S33_14 p3 p4 v81 m200 p2 p0 p1) (H33_36 p2 p3 p0 p1 v81) [(6, 6, 7), (5, 5, 6), (3, 4, 5), (1, 3, 4)] [(6, 4), (3, 3)])) (by decide) (q_appO (P := Try.prog) (base := 2) (hp := (H33_41 p2 p3 p0 p1 v81)) (n := 6) (s := 1) (enc := e3) (ts := #[30, 30]) (e := 3) (bytes := 8) (z := iv 0) (y := sv 5 1 1) (ys := [v81]) (b := 4) (l := p3) (by kernel_rfl) (by kernel_rfl) (by decide) (by kernel_rfl) (by kernel_rfl) (by kernel_rfl) (by kernel_rfl) (by kernel_rfl) (by kernel_rfl) (cells_ok (fun _ => rfl)) (fun _ => rfl) (by first | omega | (simp only [List.length_append, List.length_cons, List.length_nil]; omega))) (by kernel_rfl) (QI.run (s1 := (qs (S33_12 p3 p4 v81 m200 p2 p0 p1) (H33_36 p2 p3 p0 p1 v81) [(6, 6, 7), (5, 5, 6), (3, 4, 5), (1, 3, 4)] [(6, 4), (3, 3)])) 3 (by kernel_rfl) (by kernel_rfl) (QI.done (by kernel_rfl)))
      · exact SI.op (q := { val := .bool false, new := [] }) (a2 := (st 142 [(1, sv 1 p3.length ANY), (2, iv p4), (3, pt 2 0), (7, iv (p3.length : Int)), (8, iv v81), (14, iv m200), (56, sv 0 p2.length ANY), (57, iv (p2.length : Int)), (58, iv v81), (129, ag [iv p0, iv p1, sv 0 p2.length ANY]), (130, sv 3 0 0), (131, sv 1 p3.length ANY), (132, ownV 4 p3.length), (133, iv v81), (134, sv 5 1 1), (135, ownV 6 (List.length (p3 ++ ([v81])))), (136, iv p4), (137, iv m200), (138, iv (w64 (p4 + m200))), (139, .bool false)])) (h2 := (H33_36 p2 p3 p0 p1 v81)) (by kernel_rfl) (qOf_call (g := 33) (args := [ag [iv p0, iv p1, sv 0 p2.length ANY], ownV 6 (List.length (p3 ++ ([v81]))), iv (w64 (p4 + m200))]) (by kernel_rfl) lookC_hit) (by kernel_rfl) (by kernel_rfl) (SI.run (a2 := (S33_8 p3 p4 v81 m200 p2 p0 p1)) (h2 := (H33_36 p2 p3 p0 p1 v81)) 1 (by kernel_rfl) (SI.done (by kernel_rfl)))
      exact hK
    clear hF
    have hF := hm201
    clear hm201
    refine TS.start ?_
    refine TS.cd (.tmp 126) ((Int.tmod (p3.length : Int) 2) == 1) (fun hc207 => ?_) (fun hc207 => ?_)
    · replace hF := of_pos hF hc207
      refine TS.rg (TI.ra 3 [1, 2, 3, 7, 8, 14, 56, 57, 58] (S33_32 p3 p4 v81 o147 p2) (TI.dn ?_))
      have hF := sj hF
      subst hF
      exact TS.weak (by exact (Wk.an [2] (.ac (.ac (.lt (.fl (.fl (.sl .nil))) (.nil _)))) [sv 1 p3.length ANY, iv p4, pt 2 0, iv (p3.length : Int), iv v81, iv (w64 (0 - o147.2)), sv 0 p2.length ANY, iv (p2.length : Int), iv v81] (.sl (.fl (.pp (.fl (.fl (.fl (.sl (.fl (.fl .nil))))))))))) hK
    replace hF := of_neg hF hc207
    refine TS.sk ?_
    have hF := sj hF
    subst hF
    exact TS.weak (by exact (Wk.an [2] (.ac (.ac (.lt (.fl (.fl (.sl .nil))) (.nil _)))) [sv 1 p3.length ANY, iv p4, pt 2 0, iv (p3.length : Int), iv v81, iv o147.2, sv 0 p2.length ANY, iv (p2.length : Int), iv v81] (.sl (.fl (.pp (.fl (.fl (.fl (.sl (.fl (.fl .nil))))))))))) hK
 replace hF := of_neg hF hc145
 refine TS.ex 0 (NX.sqX ?_)
 have hF := sj hF
 subst hF
 exact Rd.out (e := .exit 0) (by intro h; cases h) (And.intro rfl (Wk.an [] (.ac (.ac (.nil _))) [] .nil))
theorem B33 (rec33 : Int → Int → (List I2) → (List Int) → Int → Option Bool) (hrec33 : ∀ (p0 : Int) (p1 : Int) (p2 : List I2) (p3 : List Int) (p4 : Int) (r : Bool), rec33 p0 p1 p2 p3 p4 = some r → PureSim Try.prog 33 [ag [iv p0, iv p1, sv 0 p2.length ANY], sv 1 p3.length ANY, iv p4] (H33_53 p2 p3) (V33 2 r) (N33 2 r)) (p0 p1 : Int) (p2 : List I2) (p3 : List Int) (p4 : Int) (r : Bool) (hF : F33b rec33 p0 p1 p2 p3 p4 = some r) : TS Try.prog 2 2 c33 (st 142 [(0, ag [iv p0, iv p1, sv 0 p2.length ANY]), (1, sv 1 p3.length ANY), (2, iv p4)]) (H33_53 p2 p3) (NX Try.prog 2 2 [] (FinP Try.prog Try.f33 2 (V33 2 r) (N33 2 r))) := by
 unfold F33b at hF
 refine TS.sq (TS.rg (TI.rn 2 [1, 2, 3] [0, 1, 2] (st 142 [(1, sv 1 p3.length ANY), (2, iv p4), (3, pt 2 0)]) (H33_49 p2 p3 p0 p1) (TI.dn (NX.sq (TS.sq (TS.rg (TI.ra 3 [1, 2, 3, 7] (st 142 [(1, sv 1 p3.length ANY), (2, iv p4), (3, pt 2 0), (7, iv (p3.length : Int))]) (TI.dn ?_))))))))
 refine NX.sq (TS.sq (TS.sq ?_))
 obtain ⟨m17, hm212, hF⟩ := of_do hF
 have hK : NX Try.prog 2 2 [.sq c33.s2.s2.s1.s2, .sq c33.s2.s2.s2] (FinP Try.prog Try.f33 2 (V33 2 r) (N33 2 r)) .normal (st 142 [(1, sv 1 p3.length ANY), (2, iv p4), (3, pt 2 0), (7, iv (p3.length : Int)), (54, .bool m17)]) (H33_49 p2 p3 p0 p1) := by
  refine NX.sq ?_
  cases m17 with
  | true =>
   replace hF := of_pos hF rfl
   refine TS.cdT (.tmp 54) (TS.sq (TS.rg (TI.rn 1 [6] [0, 1] (st 142 [(6, .bool false)]) [ab 57 e57 p2, ab 3 e3 p3, .dead] (TI.dn (NX.sq (TS.rt (NX.sqR ?_)))))))
   have hF := sj hF
   subst hF
   exact ⟨.inr rfl, rfl, .bool false, by kernel_rfl, WkV.flat0 (by kernel_rfl) (nl rfl)⟩
  | false =>
   replace hF := of_neg hF rfl
   refine TS.cdF (.tmp 54) (TS.sk (NX.sq (TS.sq (TS.sq (TS.rg (TI.ra 4 [1, 2, 3, 7, 56, 57, 58] (S33_40 p3 p4 p2) (TI.dn (NX.sq ?_))))))))
   refine TS.bk 0 ?_
   obtain ⟨r208, h209, hF⟩ := of_do hF
   refine TS.lp (TL.weak (a2 := (S33_40 p3 p4 p2)) (h2 := (H33_49 p2 p3 p0 p1)) (Wk.an [2] (.ac (.ac (.lt (.fl (.fl (.sl .nil))) (.nil _)))) [sv 1 p3.length ANY, iv p4, pt 2 0, iv (p3.length : Int), sv 0 p2.length ANY, iv (p2.length : Int), iv 0] (.sl (.fl (.pp (.fl (.sl (.fl (.fl .nil)))))))) (TL.post (L33l0 rec33 p0 p1 p2 p3 p4 hrec33 0 r208 h209) ?_))
   rintro e a1 h1 hp
   rcases r208 with o210 | o211
   · skip
     obtain ⟨rfl, hw⟩ := hp
     refine ⟨(st 142 [(6, .bool false)]), (H33_53 p2 p3), (NX.bkR (NX.sqR ?_)), hw⟩
     have hF := sj hF
     subst hF
     exact ⟨.inr rfl, rfl, .bool false, by kernel_rfl, WkV.flat0 (by kernel_rfl) (nl rfl)⟩
   skip
   obtain ⟨rfl, hw⟩ := hp
   refine ⟨(st 142 []), (H33_53 p2 p3), (NX.bkX (NX.sq (TS.sq (TS.rg (TI.ra 1 [6] (st 142 [(6, .bool true)]) (TI.dn (NX.sq (TS.rt ?_)))))))), hw⟩
   have hF := sj hF
   subst hF
   exact ⟨.inr rfl, rfl, .bool true, by kernel_rfl, WkV.flat0 (by kernel_rfl) (nl rfl)⟩
 rcases Bool.eq_false_or_eq_true (decide ((p3.length : Int) > 0)) with hc1 | hc1
 · replace hm212 := of_pos hm212 hc1
   rcases Bool.eq_false_or_eq_true ((Int.tmod (p3.length : Int) 2) == 0) with hc2 | hc2
   · replace hm212 := of_pos hm212 hc2
     have hX := of_guard hm212
     clear hm212
     obtain ⟨hg3, hm212⟩ := hX
     have hX := of_do hm212
     clear hm212
     obtain ⟨o4, h5, hm212⟩ := hX
     replace h5 := sj h5
     have hX := of_guard hm212
     clear hm212
     obtain ⟨hg6, hm212⟩ := hX
     have hX := of_do hm212
     clear hm212
     obtain ⟨o7, h8, hm212⟩ := hX
     replace h8 := sj h8
     have hX := of_guardn hm212
     clear hm212
     obtain ⟨hg9, hm212⟩ := hX
     have hX := of_guard hm212
     clear hm212
     obtain ⟨hg10, hm212⟩ := hX
     have hX := of_do hm212
     clear hm212
     obtain ⟨o11, h12, hm212⟩ := hX
     replace h12 := sj h12
     have hX := of_guard hm212
     clear hm212
     obtain ⟨hg13, hm212⟩ := hX
     have hX := of_do hm212
     clear hm212
     obtain ⟨o14, h15, hm212⟩ := hX
     replace h15 := sj h15
     rcases Bool.eq_false_or_eq_true ((Int.tmod o7.1 p1) == (Int.tmod o14.1 p1)) with hc16 | hc16
     · replace hm212 := of_pos hm212 hc16
       have hm212 := sj hm212
       subst hm212
       refine TS.dp [] (fun e he => by cases he) mixed 32 [1, 2, 3, 7, 54] [0, 1, 2] (st 142 [(1, sv 1 p3.length ANY), (2, iv p4), (3, pt 2 0), (7, iv (p3.length : Int)), (54, .bool (p4 != 0))]) (H33_49 p2 p3 p0 p1) ?_ ?_
       · refine QJ.rn (qs (S33_50 p3 p4) (H33_49 p2 p3 p0 p1) [] []) 1 (QJ.o { val := .bool true } (q_conv (e := decide ((p3.length : Int) > 0)) (b := true) (by kernel_rfl) hc1) (QJ.rn (qs (S33_31 p3 p4) (H33_49 p2 p3 p0 p1) [] []) 3 (QJ.o { val := .bool true } (q_conv (e := (Int.tmod (p3.length : Int) 2) == 0) (b := true) (by kernel_rfl) hc2) (QJ.rn (qs (S33_20 p3 p4 p2) (H33_49 p2 p3 p0 p1) [] []) 5 (QJ.o { val := .pointer (some ⟨1, 0 + (Int.toNat 0) * 1, none⟩) } (q_ixS 1 0 ((Int.toNat 0) * 1) (by kernel_rfl) hg3) (QJ.o { val := iv o4 } (q_n1a Try.prog (H33_49 p2 p3 p0 p1) 3 1 (0 + (Int.toNat 0) * 1) p3 e3 1 3 (Int.toNat 0) 0 0 h5) (QJ.o { val := .pointer (some ⟨0, 0 + (Int.toNat o4) * 2, none⟩) } (q_ixS 0 0 ((Int.toNat o4) * 2) (by kernel_rfl) hg6) (QJ.rn (qs (S33_10 p3 p4 p2 o4) (H33_49 p2 p3 p0 p1) [] []) 1 ?_))))))))
         refine QJ.o { val := iv o7.1 } (q_n1a Try.prog (H33_49 p2 p3 p0 p1) 3 0 (0 + (Int.toNat o4) * 2) p2 e57 2 57 (Int.toNat o4) 0 (0, 0) h8) (QJ.rn (qs (S33_4 p3 p4 p2 o4 o7 p1) (H33_49 p2 p3 p0 p1) [] []) 2 (QJ.o { val := iv (Int.tmod o7.1 p1) } (q_int (P := Try.prog) (op := .rem) (ty := 3) (ox := (.tmp 32)) (oy := (.tmp 34)) (k := .i64) (k' := .i64) (y := o7.1) (z := p1) (by kernel_rfl) (rem_ok hg9)) (QJ.rn (qs (S33_2 p3 p4 p2 o4 o7 p1) (H33_49 p2 p3 p0 p1) [] []) 5 (QJ.o { val := .pointer (some ⟨1, 0 + (Int.toNat (w64 ((p3.length : Int) - 1))) * 1, none⟩) } (q_ixS 1 0 ((Int.toNat (w64 ((p3.length : Int) - 1))) * 1) (by kernel_rfl) hg10) (QJ.o { val := iv o11 } (q_n1a Try.prog (H33_49 p2 p3 p0 p1) 3 1 (0 + (Int.toNat (w64 ((p3.length : Int) - 1))) * 1) p3 e3 1 3 (Int.toNat (w64 ((p3.length : Int) - 1))) 0 0 h12) (QJ.o { val := .pointer (some ⟨0, 0 + (Int.toNat o11) * 2, none⟩) } (q_ixS 0 0 ((Int.toNat o11) * 2) (by kernel_rfl) hg13) (QJ.rn (qs (S33_1 p3 p4 p2 o4 o7 p1 o11) (H33_49 p2 p3 p0 p1) [] []) 1 (QJ.o { val := iv o14.1 } (q_n1a Try.prog (H33_49 p2 p3 p0 p1) 3 0 (0 + (Int.toNat o11) * 2) p2 e57 2 57 (Int.toNat o11) 0 (0, 0) h15) ?_))))))))
         exact QJ.rn (qs (S33_0 p3 p4 p2 o4 o7 p1 o11 o14) (H33_49 p2 p3 p0 p1) [] []) 2 (QJ.o { val := iv (Int.tmod o14.1 p1) } (q_int (P := Try.prog) (op := .rem) (ty := 3) (ox := (.tmp 45)) (oy := (.tmp 47)) (k := .i64) (k' := .i64) (y := o14.1) (z := p1) (by kernel_rfl) (rem_ok hg9)) (QJ.dn ⟨rfl, (SJ.o { val := .bool true } (q_conv (e := (Int.tmod o7.1 p1) == (Int.tmod o14.1 p1)) (b := true) (by kernel_rfl) hc16) SJ.la)⟩))
       exact hK
     replace hm212 := of_neg hm212 hc16
     have hm212 := sj hm212
     subst hm212
     refine TS.dp [] (fun e he => by cases he) mixed 32 [1, 2, 3, 7, 54] [0, 1, 2] (S33_51 p3 p4) (H33_49 p2 p3 p0 p1) ?_ ?_
     · refine QJ.rn (qs (S33_50 p3 p4) (H33_49 p2 p3 p0 p1) [] []) 1 (QJ.o { val := .bool true } (q_conv (e := decide ((p3.length : Int) > 0)) (b := true) (by kernel_rfl) hc1) (QJ.rn (qs (S33_31 p3 p4) (H33_49 p2 p3 p0 p1) [] []) 3 (QJ.o { val := .bool true } (q_conv (e := (Int.tmod (p3.length : Int) 2) == 0) (b := true) (by kernel_rfl) hc2) (QJ.rn (qs (S33_20 p3 p4 p2) (H33_49 p2 p3 p0 p1) [] []) 5 (QJ.o { val := .pointer (some ⟨1, 0 + (Int.toNat 0) * 1, none⟩) } (q_ixS 1 0 ((Int.toNat 0) * 1) (by kernel_rfl) hg3) (QJ.o { val := iv o4 } (q_n1a Try.prog (H33_49 p2 p3 p0 p1) 3 1 (0 + (Int.toNat 0) * 1) p3 e3 1 3 (Int.toNat 0) 0 0 h5) (QJ.o { val := .pointer (some ⟨0, 0 + (Int.toNat o4) * 2, none⟩) } (q_ixS 0 0 ((Int.toNat o4) * 2) (by kernel_rfl) hg6) (QJ.rn (qs (S33_10 p3 p4 p2 o4) (H33_49 p2 p3 p0 p1) [] []) 1 ?_))))))))
       refine QJ.o { val := iv o7.1 } (q_n1a Try.prog (H33_49 p2 p3 p0 p1) 3 0 (0 + (Int.toNat o4) * 2) p2 e57 2 57 (Int.toNat o4) 0 (0, 0) h8) (QJ.rn (qs (S33_4 p3 p4 p2 o4 o7 p1) (H33_49 p2 p3 p0 p1) [] []) 2 (QJ.o { val := iv (Int.tmod o7.1 p1) } (q_int (P := Try.prog) (op := .rem) (ty := 3) (ox := (.tmp 32)) (oy := (.tmp 34)) (k := .i64) (k' := .i64) (y := o7.1) (z := p1) (by kernel_rfl) (rem_ok hg9)) (QJ.rn (qs (S33_2 p3 p4 p2 o4 o7 p1) (H33_49 p2 p3 p0 p1) [] []) 5 (QJ.o { val := .pointer (some ⟨1, 0 + (Int.toNat (w64 ((p3.length : Int) - 1))) * 1, none⟩) } (q_ixS 1 0 ((Int.toNat (w64 ((p3.length : Int) - 1))) * 1) (by kernel_rfl) hg10) (QJ.o { val := iv o11 } (q_n1a Try.prog (H33_49 p2 p3 p0 p1) 3 1 (0 + (Int.toNat (w64 ((p3.length : Int) - 1))) * 1) p3 e3 1 3 (Int.toNat (w64 ((p3.length : Int) - 1))) 0 0 h12) (QJ.o { val := .pointer (some ⟨0, 0 + (Int.toNat o11) * 2, none⟩) } (q_ixS 0 0 ((Int.toNat o11) * 2) (by kernel_rfl) hg13) (QJ.rn (qs (S33_1 p3 p4 p2 o4 o7 p1 o11) (H33_49 p2 p3 p0 p1) [] []) 1 (QJ.o { val := iv o14.1 } (q_n1a Try.prog (H33_49 p2 p3 p0 p1) 3 0 (0 + (Int.toNat o11) * 2) p2 e57 2 57 (Int.toNat o11) 0 (0, 0) h15) ?_))))))))
       exact QJ.rn (qs (S33_0 p3 p4 p2 o4 o7 p1 o11 o14) (H33_49 p2 p3 p0 p1) [] []) 2 (QJ.o { val := iv (Int.tmod o14.1 p1) } (q_int (P := Try.prog) (op := .rem) (ty := 3) (ox := (.tmp 45)) (oy := (.tmp 47)) (k := .i64) (k' := .i64) (y := o14.1) (z := p1) (by kernel_rfl) (rem_ok hg9)) (QJ.dn ⟨rfl, (SJ.o { val := .bool false } (q_conv (e := (Int.tmod o7.1 p1) == (Int.tmod o14.1 p1)) (b := false) (by kernel_rfl) hc16) SJ.la)⟩))
     exact hK
   replace hm212 := of_neg hm212 hc2
   have hm212 := sj hm212
   subst hm212
   refine TS.dp [] (fun e he => by cases he) mixed 32 [1, 2, 3, 7, 54] [0, 1, 2] (S33_51 p3 p4) (H33_49 p2 p3 p0 p1) ?_ ?_
   · exact QJ.rn (qs (S33_50 p3 p4) (H33_49 p2 p3 p0 p1) [] []) 1 (QJ.o { val := .bool true } (q_conv (e := decide ((p3.length : Int) > 0)) (b := true) (by kernel_rfl) hc1) (QJ.rn (qs (S33_31 p3 p4) (H33_49 p2 p3 p0 p1) [] []) 3 (QJ.o { val := .bool false } (q_conv (e := (Int.tmod (p3.length : Int) 2) == 0) (b := false) (by kernel_rfl) hc2) (QJ.rn (qs (st 142 [(1, sv 1 p3.length ANY), (2, iv p4), (3, pt 2 0), (7, iv (p3.length : Int)), (17, iv (p3.length : Int)), (18, .bool true), (19, .bool true), (20, iv (p3.length : Int)), (21, iv (Int.tmod (p3.length : Int) 2)), (22, .bool false), (23, .bool false), (24, .bool false), (25, undef), (26, undef), (27, undef), (28, undef), (29, undef), (30, undef), (31, undef), (32, undef), (33, undef), (34, undef), (35, undef), (36, undef), (37, undef), (38, undef), (39, undef), (40, undef), (41, undef), (42, undef), (43, undef), (44, undef), (45, undef), (46, undef), (47, undef), (48, undef)]) (H33_49 p2 p3 p0 p1) [] []) 26 (QJ.dn ⟨rfl, SJ.la⟩)))))
   exact hK
 replace hm212 := of_neg hm212 hc1
 have hm212 := sj hm212
 subst hm212
 refine TS.dp [] (fun e he => by cases he) mixed 32 [1, 2, 3, 7, 54] [0, 1, 2] (S33_51 p3 p4) (H33_49 p2 p3 p0 p1) ?_ ?_
 · exact QJ.rn (qs (S33_50 p3 p4) (H33_49 p2 p3 p0 p1) [] []) 1 (QJ.o { val := .bool false } (q_conv (e := decide ((p3.length : Int) > 0)) (b := false) (by kernel_rfl) hc1) (QJ.rn (qs (st 142 [(1, sv 1 p3.length ANY), (2, iv p4), (3, pt 2 0), (7, iv (p3.length : Int)), (17, iv (p3.length : Int)), (18, .bool false), (19, .bool false), (20, undef), (21, undef), (22, undef), (23, .bool false), (24, .bool false), (25, undef), (26, undef), (27, undef), (28, undef), (29, undef), (30, undef), (31, undef), (32, undef), (33, undef), (34, undef), (35, undef), (36, undef), (37, undef), (38, undef), (39, undef), (40, undef), (41, undef), (42, undef), (43, undef), (44, undef), (45, undef), (46, undef), (47, undef), (48, undef)]) (H33_49 p2 p3 p0 p1) [] []) 30 (QJ.dn ⟨rfl, SJ.la⟩)))
 exact hK
theorem C33 (k : Nat) : ∀ (p0 : Int) (p1 : Int) (p2 : List I2) (p3 : List Int) (p4 : Int) (r : Bool), F33 k p0 p1 p2 p3 p4 = some r → PureSim Try.prog 33 [ag [iv p0, iv p1, sv 0 p2.length ANY], sv 1 p3.length ANY, iv p4] (H33_53 p2 p3) (V33 2 r) (N33 2 r) := by
 induction k with
 | zero => intro p0 p1 p2 p3 p4 r hF; cases (show (none : Option Bool) = some r from hF)
 | succ k ih =>
  intro p0 p1 p2 p3 p4 r hF
  exact PureSim.of_Fin Try.func33 (c := c33) (by kernel_rfl) (by kernel_rfl) 2 rfl [0, 1, 2] [0, 1] (by kernel_rfl) (B33 (F33 k) ih p0 p1 p2 p3 p4 r hF)
end
end Go.Proofs.Ytdekbjfjbbdjgaa
